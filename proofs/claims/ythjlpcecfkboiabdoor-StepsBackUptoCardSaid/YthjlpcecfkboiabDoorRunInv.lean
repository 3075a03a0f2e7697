/-
  The machine in slices: what a right state and right code keep from step to step. No program here.
-/
import Derived.Test.YthjlpcecfkboiabDoorRunner8
namespace Go.Proofs.YthjlpcecfkboiabDoor
open Go.RowKit
set_option linter.unusedVariables false
set_option linter.unusedSimpArgs false
/-- It goes on to the next one. -/
def onOp (op : Int) : Prop := op ≠ 9 ∧ op ≠ 10 ∧ op ≠ 11 ∧ op ≠ 12 ∧ op ≠ 13 ∧ op ≠ 14 ∧ op ≠ 16 ∧ op ≠ 17
/-- A is a distance. -/
def tgOp (op : Int) : Prop := op = 4 ∨ op = 5 ∨ op = 6 ∨ op = 8 ∨ op = 9 ∨ op = 10 ∨ op = 11 ∨ op = 14 ∨ op = 15
structure GoodCode (code : List Ins) : Prop where
  some_ : 0 < code.length
  many : code.length ≤ 1048576
  jumps : ∀ i ∈ code, -1048576 ≤ i.a ∧ i.a ≤ 1048576
  on : ∀ (k : Nat) (i : Ins), code[k]? = some i → onOp i.op → k + 1 < code.length
  tg : ∀ (k : Nat) (i : Ins), code[k]? = some i → tgOp i.op → 0 ≤ (k : Int) + i.a ∧ (k : Int) + i.a < code.length
structure Inv (code : List Ins) (s : ByteArray) (x : MSt) : Prop where
  pc0 : 0 ≤ x.pc
  pc1 : x.pc < code.length
  at0 : 0 ≤ x.at_
  at1 : x.at_ ≤ s.size
  st0 : 0 ≤ x.steps
  st1 : x.steps ≤ 1073741824
  stack : x.stack.length ≤ 1048576
  log : x.log.length ≤ 1048576
  pcs : ∀ e ∈ x.stack, 0 ≤ e.pc ∧ e.pc < code.length
  ats : ∀ e ∈ x.stack, e.ret = false → 0 ≤ e.at_ ∧ e.at_ ≤ s.size
  notes : ∀ e ∈ x.stack, e.ret = false → 0 ≤ e.notes ∧ e.notes ≤ x.log.length
  sorted : x.stack.Pairwise (fun a b => a.ret = false → b.ret = false → a.notes ≤ b.notes)
theorem fail_inv {code : List Ins} {s : ByteArray} (hc : 0 < code.length) {x : MSt} (h : Inv code s x) : ∀ n, n ≤ x.stack.length → Inv code s (failAt x n)
  | 0, _ => ⟨Int.le_refl _, by show (0 : Int) < _; omega, Int.le_refl _, by show (0 : Int) ≤ _; omega, h.st0, h.st1, Nat.zero_le _, Nat.zero_le _, (fun e he => by cases he), (fun e he => by cases he), (fun e he => by cases he), List.Pairwise.nil⟩
  | n + 1, hn => by
    unfold failAt
    have hlt : n < x.stack.length := by omega
    rw [List.getElem?_eq_getElem hlt]
    simp only
    have hm := List.getElem_mem hlt
    by_cases c : x.stack[n].ret = true
    · rw [if_pos c]; exact fail_inv hc h n (by omega)
    · rw [if_neg c]
      have hf : x.stack[n].ret = false := by simpa using c
      obtain ⟨p0, p1⟩ := h.pcs _ hm
      obtain ⟨a0, a1⟩ := h.ats _ hm hf
      obtain ⟨n0, n1⟩ := h.notes _ hm hf
      have hlow : ∀ e ∈ x.stack.take n, e.ret = false → e.notes ≤ x.stack[n].notes := by
        intro e he hr
        obtain ⟨j, hj, rfl⟩ := List.getElem_of_mem he
        rw [List.length_take] at hj
        rw [List.getElem_take] at hr ⊢
        exact List.pairwise_iff_getElem.1 h.sorted j n (by omega) hlt (by omega) hr hf
      refine ⟨p0, p1, a0, a1, h.st0, h.st1, ?_, ?_, ?_, ?_, ?_, ?_⟩
      · show (x.stack.take n).length ≤ _
        rw [List.length_take]; have := h.stack; omega
      · show (x.log.take _).length ≤ _
        rw [List.length_take]; have := h.log; omega
      · exact fun e he => h.pcs e (List.mem_of_mem_take he)
      · exact fun e he => h.ats e (List.mem_of_mem_take he)
      · intro e he hr
        have h1 := h.notes e (List.mem_of_mem_take he) hr
        have h2 := hlow e he hr
        refine ⟨h1.1, ?_⟩
        show e.notes ≤ ((x.log.take x.stack[n].notes.toNat).length : Int)
        rw [List.length_take]
        omega
      · exact h.sorted.sublist (List.take_sublist _ _)
theorem Inv.fail {code : List Ins} {s : ByteArray} (hc : 0 < code.length) {x : MSt} (h : Inv code s x) : Inv code s (failM x) := fail_inv hc h _ (Nat.le_refl _)
/-- Another place in the code, nothing else. -/
theorem Inv.to {code : List Ins} {s : ByteArray} {x : MSt} (h : Inv code s x) {p : Int} (h0 : 0 ≤ p) (h1 : p < code.length) : Inv code s { x with pc := p } :=
  ⟨h0, h1, h.at0, h.at1, h.st0, h.st1, h.stack, h.log, h.pcs, h.ats, h.notes, h.sorted⟩
theorem Inv.go {code : List Ins} {s : ByteArray} {x : MSt} (h : Inv code s x) {p : Int} (h0 : 0 ≤ p) (h1 : p ≤ s.size) : Inv code s { x with at_ := p } :=
  ⟨h.pc0, h.pc1, h0, h1, h.st0, h.st1, h.stack, h.log, h.pcs, h.ats, h.notes, h.sorted⟩
theorem Inv.kind {code : List Ins} {s : ByteArray} {x : MSt} (h : Inv code s x) (k : Int) : Inv code s { x with kind := k } :=
  ⟨h.pc0, h.pc1, h.at0, h.at1, h.st0, h.st1, h.stack, h.log, h.pcs, h.ats, h.notes, h.sorted⟩
theorem Inv.push {code : List Ins} {s : ByteArray} {x : MSt} (h : Inv code s x) (e : Ent) (hl : x.stack.length < 1048576) (hp : 0 ≤ e.pc ∧ e.pc < code.length) (he : e.ret = false → 0 ≤ e.at_ ∧ e.at_ ≤ s.size ∧ e.notes = x.log.length) : Inv code s { x with stack := x.stack ++ [e] } := by
  refine ⟨h.pc0, h.pc1, h.at0, h.at1, h.st0, h.st1, ?_, h.log, ?_, ?_, ?_, ?_⟩
  · show (x.stack ++ [e]).length ≤ _
    rw [List.length_append, List.length_singleton]; omega
  · intro y hy
    rcases List.mem_append.1 hy with hy | hy
    · exact h.pcs y hy
    · rw [List.mem_singleton.1 hy]; exact hp
  · intro y hy hr
    rcases List.mem_append.1 hy with hy | hy
    · exact h.ats y hy hr
    · rw [List.mem_singleton.1 hy] at hr ⊢; exact ⟨(he hr).1, (he hr).2.1⟩
  · intro y hy hr
    rcases List.mem_append.1 hy with hy | hy
    · exact h.notes y hy hr
    · rw [List.mem_singleton.1 hy] at hr ⊢
      have := (he hr).2.2
      exact ⟨by omega, by show e.notes ≤ (x.log.length : Int); omega⟩
  · refine List.pairwise_append.2 ⟨h.sorted, List.pairwise_singleton _ _, ?_⟩
    intro a ha b hb har hbr
    rw [List.mem_singleton.1 hb] at hbr ⊢
    have h1 := h.notes a ha har
    have h2 := (he hbr).2.2
    omega
theorem Inv.drop {code : List Ins} {s : ByteArray} {x : MSt} (h : Inv code s x) (n : Nat) : Inv code s { x with stack := x.stack.take n } :=
  ⟨h.pc0, h.pc1, h.at0, h.at1, h.st0, h.st1, by show (x.stack.take n).length ≤ _; rw [List.length_take]; have := h.stack; omega, h.log, fun e he => h.pcs e (List.mem_of_mem_take he), fun e he => h.ats e (List.mem_of_mem_take he), fun e he => h.notes e (List.mem_of_mem_take he), h.sorted.sublist (List.take_sublist _ _)⟩
theorem Inv.note {code : List Ins} {s : ByteArray} {l1 : Int} {n : Not} {x y : MSt} (h : Inv code s x) (hl : l1 ≤ 1048576) (hp : x.pc + 1 < code.length) (hy : noteM l1 n x = .ok y) : Inv code s y := by
  unfold noteM at hy
  by_cases c : l1 ≤ x.log.length
  · rw [if_pos c] at hy; cases hy
  · rw [if_neg c] at hy
    injection hy with hy
    subst hy
    have h0 := h.pc0
    refine ⟨by show 0 ≤ x.pc + 1; omega, hp, h.at0, h.at1, h.st0, h.st1, h.stack, ?_, h.pcs, h.ats, ?_, h.sorted⟩
    · show (x.log ++ [n]).length ≤ _
      rw [List.length_append, List.length_singleton]; omega
    · intro e he hr
      have := h.notes e he hr
      refine ⟨this.1, ?_⟩
      show e.notes ≤ ((x.log ++ [n]).length : Int)
      rw [List.length_append, List.length_singleton]
      omega
theorem span_in {s : ByteArray} {i : Ins} : ∀ (k : Nat) (p : Int), 0 ≤ p → p ≤ s.size → 0 ≤ spanGo s i k p ∧ spanGo s i k p ≤ s.size
  | 0, p, h0, h1 => ⟨h0, h1⟩
  | k + 1, p, h0, h1 => by
    unfold spanGo
    cases hf : fitsM s p i with
    | true => have := fits_lt hf; exact span_in k (p + 1) (by omega) (by omega)
    | false => exact ⟨h0, h1⟩
theorem Inv.byte {code : List Ins} {s : ByteArray} (hc : 0 < code.length) {i : Ins} {x : MSt} (h : Inv code s x) (hon : x.pc + 1 < code.length) (htg : tgOp i.op → 0 ≤ x.pc + i.a ∧ x.pc + i.a < code.length) : Inv code s (byteM s i x) := by
  have h0 := h.pc0
  unfold byteM
  by_cases c7 : i.op = 7
  · rw [if_pos c7]
    obtain ⟨a, b⟩ := span_in (i := i) s.size x.at_ h.at0 h.at1
    exact (h.go a b).to (by show 0 ≤ x.pc + 1; omega) hon
  rw [if_neg c7]
  by_cases c4 : i.op = 4 ∨ i.op = 5 ∨ i.op = 6
  · rw [if_pos c4]
    cases fitsM s x.at_ i with
    | true => rw [if_pos rfl]; exact h.to (by omega) hon
    | false =>
      rw [if_neg (by decide)]
      have ht := htg (by rcases c4 with c | c | c <;> simp [tgOp, c])
      exact h.to ht.1 ht.2
  rw [if_neg c4]
  cases hf : fitsM s x.at_ i with
  | true =>
    rw [if_pos rfl]
    have := fits_lt hf
    exact (h.go (p := x.at_ + 1) (by omega) (by omega)).to (by show 0 ≤ x.pc + 1; omega) hon
  | false => rw [if_neg (by decide)]; exact h.fail hc
theorem Inv.choice {code : List Ins} {s : ByteArray} (hc : 0 < code.length) {i : Ins} {x y : MSt} (h : Inv code s x) (htg : tgOp i.op → 0 ≤ x.pc + i.a ∧ x.pc + i.a < code.length) (hop : i.op = 9 ∨ i.op = 10 ∨ i.op = 11 ∨ i.op = 12) (hy : choiceM i x = some y) : Inv code s y := by
  unfold choiceM at hy
  by_cases hz : x.stack.length = 0
  · rw [List.getElem?_eq_none (by omega)] at hy; cases hy
  have hlt : x.stack.length - 1 < x.stack.length := by omega
  rw [List.getElem?_eq_getElem hlt] at hy
  simp only at hy
  have hm := List.getElem_mem hlt
  by_cases hr : x.stack[x.stack.length - 1].ret = true
  · rw [if_pos hr] at hy; cases hy
  rw [if_neg hr] at hy
  replace hr : x.stack[x.stack.length - 1].ret = false := by simpa using hr
  by_cases c10 : i.op = 10
  · rw [if_pos c10] at hy
    obtain rfl := Option.some.inj hy
    have ht := htg (by simp [tgOp, c10])
    have hset : x.stack.set (x.stack.length - 1) ⟨false, x.stack[x.stack.length - 1].pc, x.at_, x.log.length⟩ = x.stack.take (x.stack.length - 1) ++ [⟨false, x.stack[x.stack.length - 1].pc, x.at_, x.log.length⟩] := by
      apply List.ext_getElem?
      intro j
      by_cases hj : j = x.stack.length - 1
      · subst hj
        rw [List.getElem?_set_self hlt, List.getElem?_append_right (by rw [List.length_take]; omega), List.length_take, Nat.min_eq_left (by omega), Nat.sub_self]
        rfl
      · rw [List.getElem?_set_ne (Ne.symm hj)]
        by_cases hj2 : j < x.stack.length - 1
        · rw [List.getElem?_append_left (by rw [List.length_take]; omega), List.getElem?_take_of_lt hj2]
        · rw [List.getElem?_eq_none (by omega), List.getElem?_eq_none (by rw [List.length_append, List.length_take, List.length_singleton]; omega)]
    rw [hset]
    refine Inv.to (x := { x with stack := x.stack.take (x.stack.length - 1) ++ [⟨false, x.stack[x.stack.length - 1].pc, x.at_, x.log.length⟩] }) ?_ ht.1 ht.2
    have hpm := h.pcs _ hm
    refine Inv.push (h.drop (x.stack.length - 1)) _ ?_ hpm (fun _ => ⟨h.at0, h.at1, rfl⟩)
    show (x.stack.take (x.stack.length - 1)).length < _
    rw [List.length_take]; have := h.stack; omega
  rw [if_neg c10] at hy
  by_cases c11 : i.op = 11
  · rw [if_pos c11] at hy
    obtain rfl := Option.some.inj hy
    have ht := htg (by simp [tgOp, c11])
    -- it is what a failure does, but for the place in the code
    have hF : failAt x x.stack.length = { x with pc := x.stack[x.stack.length - 1].pc, at_ := x.stack[x.stack.length - 1].at_, stack := x.stack.take (x.stack.length - 1), log := x.log.take x.stack[x.stack.length - 1].notes.toNat } := by
      have key : ∀ n (hn : n = x.stack.length), failAt x n = { x with pc := x.stack[x.stack.length - 1].pc, at_ := x.stack[x.stack.length - 1].at_, stack := x.stack.take (x.stack.length - 1), log := x.log.take x.stack[x.stack.length - 1].notes.toNat } := by
        intro n hn
        cases n with
        | zero => omega
        | succ n =>
          have hnn : n = x.stack.length - 1 := by omega
          subst hnn
          unfold failAt
          rw [List.getElem?_eq_getElem hlt]
          simp only
          rw [hr]
          rfl
      exact key _ rfl
    have hI := fail_inv hc h x.stack.length (Nat.le_refl _)
    rw [hF] at hI
    exact hI.to ht.1 ht.2
  rw [if_neg c11] at hy
  by_cases c12 : i.op = 12
  · rw [if_pos c12] at hy
    obtain rfl := Option.some.inj hy
    exact (h.drop _).fail hc
  rw [if_neg c12] at hy
  obtain rfl := Option.some.inj hy
  have ht := htg (by rcases hop with c | c | c | c <;> first | exact absurd c c12 | simp [tgOp, c])
  exact (h.drop (x.stack.length - 1)).to ht.1 ht.2
theorem step_inv {code : List Ins} {s : ByteArray} {l0 l1 l2 : Int} (hC : GoodCode code) (h0 : l0 ≤ 1048576) (h1 : l1 ≤ 1048576) (h2 : l2 ≤ 1073741824) {x y : MSt} (h : Inv code s x) (hy : stepM code s l0 l1 l2 x = .ok y) : Inv code s y := by
  unfold stepM at hy
  by_cases c : l2 ≤ x.steps
  · rw [if_pos c] at hy; cases hy
  rw [if_neg c] at hy
  have hk : x.pc.toNat < code.length := by have := h.pc0; have := h.pc1; omega
  have hpk : ((x.pc.toNat : Nat) : Int) = x.pc := by have := h.pc0; omega
  have hi := List.getElem?_eq_getElem hk
  rw [hi] at hy
  simp only at hy
  have hon := hC.on _ _ hi
  have htg := hC.tg _ _ hi
  rw [hpk] at htg
  have hon2 : onOp code[x.pc.toNat].op → x.pc + 1 < code.length := fun ho => by have := hon ho; omega
  have hS : Inv code s { x with steps := x.steps + 1 } := ⟨h.pc0, h.pc1, h.at0, h.at1, by have := h.st0; show 0 ≤ x.steps + 1; omega, by show x.steps + 1 ≤ _; omega, h.stack, h.log, h.pcs, h.ats, h.notes, h.sorted⟩
  have hp0 := h.pc0
  clear hon hi
  generalize code[x.pc.toNat] = i at *
  have hpc : ({ x with steps := x.steps + 1 } : MSt).pc = x.pc := rfl
  generalize ({ x with steps := x.steps + 1 } : MSt) = z at *
  rw [← hpc] at htg hon2 hp0
  unfold stepI at hy
  by_cases c8 : i.op = 8
  · rw [if_pos c8] at hy
    by_cases d : l0 ≤ z.stack.length
    · rw [if_pos d] at hy; cases hy
    rw [if_neg d] at hy
    injection hy with hy
    subst hy
    have ht := htg (by simp [tgOp, c8])
    have ho := hon2 (by simp [onOp, c8])
    exact (hS.push _ (by omega) ht (fun _ => ⟨hS.at0, hS.at1, rfl⟩)).to (by omega) ho
  rw [if_neg c8] at hy
  by_cases c9 : i.op = 9 ∨ i.op = 10 ∨ i.op = 11 ∨ i.op = 12
  · rw [if_pos c9] at hy
    cases hc : choiceM i z with
    | none => rw [hc] at hy; cases hy
    | some w =>
      rw [hc] at hy
      injection hy with hy
      subst hy
      exact hS.choice hC.some_ htg c9 hc
  rw [if_neg c9] at hy
  by_cases c13 : i.op = 13
  · rw [if_pos c13] at hy
    injection hy with hy
    subst hy
    exact hS.fail hC.some_
  rw [if_neg c13] at hy
  by_cases c14 : i.op = 14
  · rw [if_pos c14] at hy
    injection hy with hy
    subst hy
    have ht := htg (by simp [tgOp, c14])
    exact hS.to ht.1 ht.2
  rw [if_neg c14] at hy
  by_cases c15 : i.op = 15
  · rw [if_pos c15] at hy
    by_cases d : l0 ≤ z.stack.length
    · rw [if_pos d] at hy; cases hy
    rw [if_neg d] at hy
    injection hy with hy
    subst hy
    have ht := htg (by simp [tgOp, c15])
    have ho := hon2 (by simp [onOp, c15])
    exact (hS.push ⟨true, z.pc + 1, 0, 0⟩ (by omega) ⟨by show 0 ≤ z.pc + 1; omega, ho⟩ (fun h => by cases h)).to ht.1 ht.2
  rw [if_neg c15] at hy
  by_cases c16 : i.op = 16
  · rw [if_pos c16] at hy
    cases hc : z.stack[z.stack.length - 1]? with
    | none => rw [hc] at hy; cases hy
    | some e =>
      rw [hc] at hy
      simp only at hy
      by_cases d : e.ret = true
      · rw [if_pos d] at hy
        injection hy with hy
        subst hy
        have hp := hS.pcs e (List.mem_of_getElem? hc)
        exact (hS.drop _).to hp.1 hp.2
      · rw [if_neg d] at hy; cases hy
  rw [if_neg c16] at hy
  by_cases c17 : i.op = 17
  · rw [if_pos c17] at hy
    injection hy with hy
    subst hy
    exact hS.kind 1
  rw [if_neg c17] at hy
  by_cases c18 : i.op = 18
  · rw [if_pos c18] at hy; exact hS.note h1 (hon2 (by simp [onOp, c18])) hy
  rw [if_neg c18] at hy
  by_cases c19 : i.op = 19
  · rw [if_pos c19] at hy; exact hS.note h1 (hon2 (by simp [onOp, c19])) hy
  rw [if_neg c19] at hy
  by_cases c20 : i.op = 20
  · rw [if_pos c20] at hy
    by_cases d : i.a > z.at_
    · rw [if_pos d] at hy; cases hy
    · rw [if_neg d] at hy; exact hS.note h1 (hon2 (by simp [onOp, c20])) hy
  rw [if_neg c20] at hy
  injection hy with hy
  subst hy
  exact hS.byte hC.some_ (hon2 ⟨fun e => c9 (.inl e), fun e => c9 (.inr (.inl e)), fun e => c9 (.inr (.inr (.inl e))), fun e => c9 (.inr (.inr (.inr e))), c13, c14, c16, c17⟩) htg
theorem on_inv {code : List Ins} {s : ByteArray} {l0 l1 l2 : Int} (hC : GoodCode code) (h0 : l0 ≤ 1048576) (h1 : l1 ≤ 1048576) (h2 : l2 ≤ 1073741824) : ∀ (n : Nat) (x y : MSt), Inv code s x → onM code s l0 l1 l2 n x = .ok y → Inv code s y
  | 0, x, y, h, hy => by injection hy with hy; subst hy; exact h
  | n + 1, x, y, h, hy => by
    rw [onM] at hy
    by_cases c : x.kind = 0
    · rw [if_pos c] at hy
      cases hs : stepM code s l0 l1 l2 x with
      | error e => rw [hs] at hy; cases hy
      | ok z => rw [hs] at hy; exact on_inv hC h0 h1 h2 n z y (step_inv hC h0 h1 h2 h hs) hy
    · rw [if_neg c] at hy; injection hy with hy; subst hy; exact h
theorem run_ok {code : List Ins} {s : ByteArray} {l0 l1 l2 : Int} (hC : GoodCode code) (h0 : l0 ≤ 1048576) (h1 : l1 ≤ 1048576) (h2 : l2 ≤ 1073741824) (hz : s.size ≤ 1048576) {x : MSt} (h : Inv code s x) : RunOk code s l0 l1 l2 x := by
  intro n y hy _
  have i := on_inv hC h0 h1 h2 n x y h hy
  exact ⟨i.notes, i.stack, i.log, i.at0, i.at1, hz, i.pc0, i.pc1, hC.many, i.st0, i.st1, h0, h1, hC.jumps⟩
end Go.Proofs.YthjlpcecfkboiabDoor
