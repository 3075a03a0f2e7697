/-
  The machine in slices: what more a right state keeps from step to step: notes that the code could put there, returns without numbers, how it ended. No program here.
-/
import Derived.Test.YthjlpcecfkboiaaDoorRunInv
import Derived.Test.YthjlpcecfkboiaaDoorStepsTot
namespace Go.Proofs.YthjlpcecfkboiaaDoor
open Go.RowKit
set_option linter.unusedVariables false
set_option linter.unusedSimpArgs false
/-- What the code's own notes are held to. -/
structure CodeNotes (G : Ins → Prop) (code : List Ins) : Prop where
  o : ∀ i ∈ code, i.op = 18 → G ⟨18, 0, i.b, i.n, i.text, 0, 0, 0, 0⟩
  c : ∀ i ∈ code, i.op = 19 → G ⟨19, 0, 0, 0, ⟨#[]⟩, 0, 0, 0, 0⟩
  f : ∀ i ∈ code, i.op = 20 → 0 ≤ i.a ∧ G ⟨20, i.a, i.b, i.n, i.text, 0, 0, 0, 0⟩
def NoteG (G : Ins → Prop) (sz : Nat) (n : Not) : Prop :=
  0 ≤ n.at_ ∧ n.at_ ≤ sz ∧ 0 ≤ n.len ∧ n.len ≤ sz - n.at_ ∧ 18 ≤ n.op ∧ n.op ≤ 20 ∧ G ⟨n.op, n.len, n.kind, n.n, n.text, 0, 0, 0, 0⟩
structure Inv2 (G : Ins → Prop) (sz : Nat) (x : MSt) : Prop where
  rets : ∀ e ∈ x.stack, e.ret = true → e.at_ = 0 ∧ e.notes = 0
  logs : ∀ n ∈ x.log, NoteG G sz n
def EndOk (code : List Ins) (x : MSt) : Prop :=
  x.kind = 0 ∨ (x.kind = 1 ∧ ∃ i, code[x.pc.toNat]? = some i ∧ i.op = 17) ∨ (x.kind = 2 ∧ x.pc = 0 ∧ x.at_ = 0 ∧ x.stack = [] ∧ x.log = [])
theorem Inv2.nil (G : Ins → Prop) (sz : Nat) (pc p st kd : Int) : Inv2 G sz ⟨pc, p, st, kd, [], []⟩ := ⟨(fun _ h => by cases h), (fun _ h => by cases h)⟩
theorem fail_inv2 {G : Ins → Prop} {code : List Ins} {sz : Nat} {x : MSt} (h : Inv2 G sz x) : ∀ n, Inv2 G sz (failAt x n) ∧ (x.kind = 0 → EndOk code (failAt x n))
  | 0 => ⟨Inv2.nil _ _ _ _ _ _, fun _ => .inr (.inr ⟨rfl, rfl, rfl, rfl, rfl⟩)⟩
  | n + 1 => by
    unfold failAt
    cases hq : x.stack[n]? with
    | none => exact ⟨Inv2.nil _ _ _ _ _ _, fun _ => .inr (.inr ⟨rfl, rfl, rfl, rfl, rfl⟩)⟩
    | some e =>
      simp only
      by_cases c : e.ret = true
      · rw [if_pos c]; exact fail_inv2 h n
      · rw [if_neg c]
        exact ⟨⟨fun e he => h.rets e (List.mem_of_mem_take he), fun e he => h.logs e (List.mem_of_mem_take he)⟩, fun hk => .inl hk⟩
theorem Inv2.note {G : Ins → Prop} {sz : Nat} {l1 : Int} {n : Not} {x y : MSt} (h : Inv2 G sz x) (hn : NoteG G sz n) (hy : noteM l1 n x = .ok y) : Inv2 G sz y ∧ y.kind = x.kind := by
  unfold noteM at hy
  by_cases c : l1 ≤ x.log.length
  · rw [if_pos c] at hy; cases hy
  · rw [if_neg c] at hy
    injection hy with hy
    subst hy
    refine ⟨⟨h.rets, fun m hm => ?_⟩, rfl⟩
    rcases List.mem_append.1 hm with hm | hm
    · exact h.logs m hm
    · rw [List.mem_singleton.1 hm]; exact hn
theorem Inv2.byte {G : Ins → Prop} {code : List Ins} {s : ByteArray} {i : Ins} {x : MSt} (h : Inv2 G s.size x) (hk : x.kind = 0) : Inv2 G s.size (byteM s i x) ∧ EndOk code (byteM s i x) := by
  unfold byteM
  by_cases c7 : i.op = 7
  · rw [if_pos c7]; exact ⟨⟨h.rets, h.logs⟩, .inl hk⟩
  rw [if_neg c7]
  by_cases c4 : i.op = 4 ∨ i.op = 5 ∨ i.op = 6
  · rw [if_pos c4]
    split
    · exact ⟨⟨h.rets, h.logs⟩, .inl hk⟩
    · exact ⟨⟨h.rets, h.logs⟩, .inl hk⟩
  rw [if_neg c4]
  split
  · exact ⟨⟨h.rets, h.logs⟩, .inl hk⟩
  · exact ⟨(fail_inv2 (code := code) h _).1, (fail_inv2 h _).2 hk⟩
theorem Inv2.choice {G : Ins → Prop} {code : List Ins} {sz : Nat} {i : Ins} {x y : MSt} (h : Inv2 G sz x) (hk : x.kind = 0) (hy : choiceM i x = some y) : Inv2 G sz y ∧ EndOk code y := by
  unfold choiceM at hy
  cases hq : x.stack[x.stack.length - 1]? with
  | none => rw [hq] at hy; cases hy
  | some e =>
    rw [hq] at hy
    simp only at hy
    by_cases hr : e.ret = true
    · rw [if_pos hr] at hy; cases hy
    rw [if_neg hr] at hy
    by_cases c10 : i.op = 10
    · rw [if_pos c10] at hy
      obtain rfl := Option.some.inj hy
      refine ⟨⟨fun e2 he hr2 => ?_, h.logs⟩, .inl hk⟩
      rcases List.mem_or_eq_of_mem_set he with he | rfl
      · exact h.rets e2 he hr2
      · cases hr2
    rw [if_neg c10] at hy
    by_cases c11 : i.op = 11
    · rw [if_pos c11] at hy
      obtain rfl := Option.some.inj hy
      exact ⟨⟨fun e he => h.rets e (List.mem_of_mem_take he), fun e he => h.logs e (List.mem_of_mem_take he)⟩, .inl hk⟩
    rw [if_neg c11] at hy
    have hd : Inv2 G sz { x with stack := x.stack.take (x.stack.length - 1) } := ⟨fun e he => h.rets e (List.mem_of_mem_take he), h.logs⟩
    by_cases c12 : i.op = 12
    · rw [if_pos c12] at hy
      obtain rfl := Option.some.inj hy
      exact ⟨(fail_inv2 (code := code) hd _).1, (fail_inv2 hd _).2 hk⟩
    rw [if_neg c12] at hy
    obtain rfl := Option.some.inj hy
    exact ⟨⟨hd.rets, hd.logs⟩, .inl hk⟩
theorem step_inv2 {G : Ins → Prop} {code : List Ins} {s : ByteArray} {l0 l1 l2 : Int} (hC : CodeNotes G code) {x y : MSt} (hI : Inv code s x) (h : Inv2 G s.size x) (hk : x.kind = 0) (hy : stepM code s l0 l1 l2 x = .ok y) : Inv2 G s.size y ∧ EndOk code y := by
  unfold stepM at hy
  by_cases c : l2 ≤ x.steps
  · rw [if_pos c] at hy; cases hy
  rw [if_neg c] at hy
  cases hq : code[x.pc.toNat]? with
  | none => rw [hq] at hy; cases hy
  | some i =>
    rw [hq] at hy
    simp only at hy
    have hm := List.mem_of_getElem? hq
    have hS : Inv2 G s.size { x with steps := x.steps + 1 } := ⟨h.rets, h.logs⟩
    have hz : ({ x with steps := x.steps + 1 } : MSt).kind = 0 := hk
    have hpz : ({ x with steps := x.steps + 1 } : MSt).pc = x.pc := rfl
    have ha0 : 0 ≤ ({ x with steps := x.steps + 1 } : MSt).at_ := hI.at0
    have ha1 : ({ x with steps := x.steps + 1 } : MSt).at_ ≤ s.size := hI.at1
    generalize ({ x with steps := x.steps + 1 } : MSt) = z at *
    rw [← hpz] at hq
    have hpu : ∀ e : Ent, (e.ret = true → e.at_ = 0 ∧ e.notes = 0) → ∀ p, Inv2 G s.size { z with stack := z.stack ++ [e], pc := p } ∧ EndOk code { z with stack := z.stack ++ [e], pc := p } := by
      intro e he p
      refine ⟨⟨fun e2 h2 hr => ?_, hS.logs⟩, .inl hz⟩
      rcases List.mem_append.1 h2 with h2 | h2
      · exact hS.rets e2 h2 hr
      · rw [List.mem_singleton.1 h2] at hr ⊢; exact he hr
    unfold stepI at hy
    by_cases c8 : i.op = 8
    · rw [if_pos c8] at hy
      by_cases d : l0 ≤ z.stack.length
      · rw [if_pos d] at hy; cases hy
      rw [if_neg d] at hy
      injection hy with hy
      subst hy
      exact hpu _ (fun h => by cases h) _
    rw [if_neg c8] at hy
    by_cases c9 : i.op = 9 ∨ i.op = 10 ∨ i.op = 11 ∨ i.op = 12
    · rw [if_pos c9] at hy
      cases hc : choiceM i z with
      | none => rw [hc] at hy; cases hy
      | some w =>
        rw [hc] at hy
        injection hy with hy
        subst hy
        exact hS.choice hz hc
    rw [if_neg c9] at hy
    by_cases c13 : i.op = 13
    · rw [if_pos c13] at hy
      injection hy with hy
      subst hy
      exact ⟨(fail_inv2 (code := code) hS _).1, (fail_inv2 hS _).2 hz⟩
    rw [if_neg c13] at hy
    by_cases c14 : i.op = 14
    · rw [if_pos c14] at hy
      injection hy with hy
      subst hy
      exact ⟨⟨hS.rets, hS.logs⟩, .inl hz⟩
    rw [if_neg c14] at hy
    by_cases c15 : i.op = 15
    · rw [if_pos c15] at hy
      by_cases d : l0 ≤ z.stack.length
      · rw [if_pos d] at hy; cases hy
      rw [if_neg d] at hy
      injection hy with hy
      subst hy
      exact hpu ⟨true, z.pc + 1, 0, 0⟩ (fun _ => ⟨rfl, rfl⟩) _
    rw [if_neg c15] at hy
    by_cases c16 : i.op = 16
    · rw [if_pos c16] at hy
      cases hc : z.stack[z.stack.length - 1]? with
      | none => rw [hc] at hy; cases hy
      | some e =>
        rw [hc] at hy
        simp only at hy
        by_cases d : e.ret = true
        · rw [if_pos d] at hy
          injection hy with hy
          subst hy
          exact ⟨⟨fun e he => hS.rets e (List.mem_of_mem_take he), hS.logs⟩, .inl hz⟩
        · rw [if_neg d] at hy; cases hy
    rw [if_neg c16] at hy
    by_cases c17 : i.op = 17
    · rw [if_pos c17] at hy
      injection hy with hy
      subst hy
      exact ⟨⟨hS.rets, hS.logs⟩, .inr (.inl ⟨rfl, i, hq, c17⟩)⟩
    rw [if_neg c17] at hy
    by_cases c18 : i.op = 18
    · rw [if_pos c18] at hy
      have h1 := hS.note (n := ⟨18, i.b, z.at_, 0, i.n, i.text⟩) ⟨ha0, ha1, Int.le_refl 0, (show (0 : Int) ≤ s.size - z.at_ by omega), (show (18 : Int) ≤ 18 by decide), (show (18 : Int) ≤ 20 by decide), hC.o i hm c18⟩ hy
      exact ⟨h1.1, .inl (h1.2.trans hz)⟩
    rw [if_neg c18] at hy
    by_cases c19 : i.op = 19
    · rw [if_pos c19] at hy
      have h1 := hS.note (n := ⟨19, 0, z.at_, 0, 0, ⟨#[]⟩⟩) ⟨ha0, ha1, Int.le_refl 0, (show (0 : Int) ≤ s.size - z.at_ by omega), (show (18 : Int) ≤ 19 by decide), (show (19 : Int) ≤ 20 by decide), hC.c i hm c19⟩ hy
      exact ⟨h1.1, .inl (h1.2.trans hz)⟩
    rw [if_neg c19] at hy
    by_cases c20 : i.op = 20
    · rw [if_pos c20] at hy
      by_cases d : i.a > z.at_
      · rw [if_pos d] at hy; cases hy
      · rw [if_neg d] at hy
        obtain ⟨f0, f1⟩ := hC.f i hm c20
        have h1 := hS.note (n := ⟨20, i.b, z.at_ - i.a, i.a, i.n, i.text⟩) ⟨(show 0 ≤ z.at_ - i.a by omega), (show z.at_ - i.a ≤ s.size by omega), f0, (show i.a ≤ s.size - (z.at_ - i.a) by omega), (show (18 : Int) ≤ 20 by decide), (show (20 : Int) ≤ 20 by decide), f1⟩ hy
        exact ⟨h1.1, .inl (h1.2.trans hz)⟩
    rw [if_neg c20] at hy
    injection hy with hy
    subst hy
    exact hS.byte hz
theorem on_inv2 {G : Ins → Prop} {code : List Ins} {s : ByteArray} {l0 l1 l2 : Int} (hC : GoodCode code) (hN : CodeNotes G code) (h0 : l0 ≤ 1048576) (h1 : l1 ≤ 1048576) (h2 : l2 ≤ 1073741824) : ∀ (n : Nat) (x y : MSt), Inv code s x → Inv2 G s.size x → EndOk code x → onM code s l0 l1 l2 n x = .ok y → Inv code s y ∧ Inv2 G s.size y ∧ EndOk code y
  | 0, x, y, hi, h, he, hy => by injection hy with hy; subst hy; exact ⟨hi, h, he⟩
  | n + 1, x, y, hi, h, he, hy => by
    rw [onM] at hy
    by_cases c : x.kind = 0
    · rw [if_pos c] at hy
      cases hs : stepM code s l0 l1 l2 x with
      | error e => rw [hs] at hy; cases hy
      | ok z =>
        rw [hs] at hy
        have h3 := step_inv2 hN hi h c hs
        exact on_inv2 hC hN h0 h1 h2 n z y (step_inv hC h0 h1 h2 hi hs) h3.1 h3.2 hy
    · rw [if_neg c] at hy; injection hy with hy; subst hy; exact ⟨hi, h, he⟩
end Go.Proofs.YthjlpcecfkboiaaDoor

/-
  The steps' question whether a state may be: it has an answer, and what the answer says. No program here but the printed functions.
-/
namespace Go.Proofs.YthjlpcecfkboiaaDoor
open Go.RowKit Go.Proofs.YthjlpcecfkboiaaDoorW.PrintWords Go.Proofs.YthjlpcecfkboiaaDoor.Z
set_option linter.unusedVariables false
set_option linter.unusedSimpArgs false
def entOf (x : S55) : Ent := ⟨x.f0, x.f1, x.f2, x.f3⟩
def notOf (x : S57) : Not := ⟨x.f0, x.f1, x.f2, x.f3, x.f4, x.f5⟩
/-- An instruction's fields may be so. -/
def FitG (i : Ins) : Prop := ∃ k, instr_fits.f k i.op i.a i.b i.n i.text i.s0 i.s1 i.s2 i.s3 = some true
theorem fits_le {a0 a1 a2 a3 : Int} {a4 : ByteArray} {a5 a6 a7 a8 : Int} {b : Bool} : ∀ {j k : Nat}, j ≤ k → instr_fits.f j a0 a1 a2 a3 a4 a5 a6 a7 a8 = some b → instr_fits.f k a0 a1 a2 a3 a4 a5 a6 a7 a8 = some b := by
  intro j k h hb
  obtain ⟨d, rfl⟩ : ∃ d, k = j + d := ⟨k - j, by omega⟩
  induction d with
  | zero => exact hb
  | succ d ih => exact instr_fits.mono a0 a1 a2 a3 a4 a5 a6 a7 a8 (j + d) b (ih (by omega))
theorem fits_one {a0 a1 a2 a3 : Int} {a4 : ByteArray} {a5 a6 a7 a8 : Int} {b c : Bool} {j k : Nat} (h : instr_fits.f j a0 a1 a2 a3 a4 a5 a6 a7 a8 = some b) (h2 : instr_fits.f k a0 a1 a2 a3 a4 a5 a6 a7 a8 = some c) : b = c := by
  have e1 := fits_le (Nat.le_max_left j k) h
  have e2 := fits_le (Nat.le_max_right j k) h2
  rw [e1] at e2
  injection e2
theorem toList_data : ∀ (a b : ByteArray), a.toList = b.toList → a = b := by
  intro a b h
  rw [ByteArray.toList_eq, ByteArray.toList_eq] at h
  exact ByteArray.ext (Array.ext' h)
theorem fits_plain {k : Nat} {op a b n : Int} {s : ByteArray} {s0 s1 s2 s3 : Int} (h0 : 1 ≤ op) (h1 : op ≤ 20) (h : instr_fits.f k op a b n s s0 s1 s2 s3 = some true) :
    plainM ⟨op, a, b, n, s, s0, s1, s2, s3⟩ = ⟨op, a, b, n, s, s0, s1, s2, s3⟩ := by
  unfold instr_fits.f instr_plain.f at h
  rw [if_pos ⟨h0, h1⟩] at h
  rw [Option.bind_some] at h
  obtain ⟨c0, h⟩ := ite_tt h
  obtain ⟨c1, h⟩ := ite_tt h
  obtain ⟨c2, h⟩ := ite_tt h
  obtain ⟨c3, h⟩ := ite_tt h
  obtain ⟨c4, h⟩ := ite_tt h
  obtain ⟨c5, h⟩ := ite_tt h
  obtain ⟨c6, h⟩ := ite_tt h
  obtain ⟨c7, h⟩ := ite_tt h
  obtain ⟨c8, h⟩ := ite_tt h
  clear h
  simp only at c0 c1 c2 c3 c4 c5 c6 c7 c8
  replace c4 := toList_data _ _ c4
  generalize plainM ⟨op, a, b, n, s, s0, s1, s2, s3⟩ = z at *
  obtain ⟨z0, z1, z2, z3, z4, z5, z6, z7, z8⟩ := z
  simp only at c0 c1 c2 c3 c4 c5 c6 c7 c8
  subst c0 c1 c2 c3 c4 c5 c6 c7 c8
  rfl
theorem endIns_fits (k : Nat) : instr_fits.f (k + 1) 17 0 0 0 ⟨#[]⟩ 0 0 0 0 = some true := by
  unfold instr_fits.f instr_plain.f
  rw [if_pos ⟨by decide, by decide⟩]
  dsimp only
  rw [Option.bind_some]
  have hp : plainM ⟨17, 0, 0, 0, ⟨#[]⟩, 0, 0, 0, 0⟩ = ⟨17, 0, 0, 0, ⟨#[]⟩, 0, 0, 0, 0⟩ := by
    unfold plainM
    simp
  rw [hp]
  dsimp only
  rw [if_pos rfl, if_pos rfl, if_pos rfl, if_pos rfl, if_pos rfl, if_pos rfl, if_pos rfl, if_pos rfl, if_pos rfl, if_neg (by decide), instr_fits.j0]
  rw [if_neg (by decide), if_neg (by decide), if_neg (by decide)]
theorem check_two (k : Nat) (hk : 400 ≤ k) (L : List S52) (op a b n : Int) (s : ByteArray) (h0 : 18 ≤ op) (h1 : op ≤ 20) (hL : (L.length : Int) = 2) (e0 : rd_T52 L 0 = ⟨op, a, b, n, s, ⟨0, 0, 0, 0⟩⟩) (e1 : rd_T52 L 1 = ⟨17, 0, 0, 0, ⟨#[]⟩, ⟨0, 0, 0, 0⟩⟩) :
    ∃ c, instr_Check.f k L = some c ∧ (c.2 = 0 ↔ FitG ⟨op, a, b, n, s, 0, 0, 0, 0⟩) := by
  obtain ⟨k, rfl⟩ : ∃ j, k = j + 3 := ⟨k - 3, by omega⟩
  obtain ⟨r, hr⟩ := fits_tot (k + 2) (by omega) op a b n s 0 0 0 0 (by omega) (by omega)
  have ht : hasM op 32 = false := by
    rcases (show op = 18 ∨ op = 19 ∨ op = 20 by omega) with rfl | rfl | rfl <;> decide +kernel
  unfold instr_Check.f
  rw [hL, if_neg (by decide), if_neg (by decide)]
  rw [instr_Check.l0, hL, if_pos (by decide), if_pos (by decide), if_pos (by decide), is_any, Option.bind_some]
  rw [e0]
  dsimp only
  rw [decide_eq_true (show 1 ≤ op ∧ op ≤ 20 from ⟨by omega, by omega⟩), if_pos rfl]
  rw [hr, Option.bind_some]
  cases r with
  | false =>
    rw [if_neg (by decide)]
    refine ⟨_, rfl, by simp, fun ⟨j, hj⟩ => ?_⟩
    have := fits_one hr hj
    cases this
  | true =>
    rw [if_pos rfl, has_f _ 32 (by omega) (by omega), ht, Option.bind_some, if_neg (by decide), show wrap64 (0 + 1) = 1 from wrap64_in (x := 0 + 1) (by omega) (by omega), instr_Check.l0, hL, if_pos (by decide), if_pos (by decide), if_pos (by decide), is_any, Option.bind_some, e1]
    dsimp only
    rw [decide_eq_true (show (1 : Int) ≤ 17 ∧ (17 : Int) ≤ 20 from ⟨by decide, by decide⟩), if_pos rfl, endIns_fits, Option.bind_some, if_pos rfl, has_f _ 32 (by decide) (by decide), Option.bind_some, if_neg (by decide +kernel), show wrap64 (1 + 1) = 2 from wrap64_in (x := 1 + 1) (by omega) (by omega), instr_Check.l0, hL, if_neg (by decide), show wrap64 (2 - 1) = 1 from wrap64_in (x := 2 - 1) (by omega) (by omega), if_pos (by decide), if_pos (by decide), e1]
    dsimp only
    rw [has_f _ 64 (by decide) (by decide), Option.bind_some, if_neg (by decide +kernel)]
    exact ⟨_, rfl, fun _ => ⟨_, hr⟩, fun _ => rfl⟩
theorem mayNote_tot (k : Nat) (hk : 402 ≤ k) (n : S57) (z : Nat) (hz : z ≤ 1048576) :
    ∃ b, steps_mayNote.f k n.f0 n.f1 n.f2 n.f3 n.f4 n.f5 (z : Int) = some b ∧ (b = true ↔ NoteG FitG z (notOf n)) := by
  obtain ⟨k, rfl⟩ : ∃ j, k = j + 1 := ⟨k - 1, by omega⟩
  obtain ⟨op, kind, at_, len, nn, tx⟩ := n
  have hj : ∀ c, (c = false ↔ (0 ≤ at_ ∧ at_ ≤ z ∧ 0 ≤ len ∧ len ≤ z - at_)) → ∃ b, steps_mayNote.j0 (k + 1) c op kind at_ len nn tx = some b ∧ (b = true ↔ NoteG FitG z ⟨op, kind, at_, len, nn, tx⟩) := by
    intro c hc
    rw [steps_mayNote.j0]
    cases c with
    | true =>
      rw [if_pos rfl]
      exact ⟨_, rfl, (fun h => by cases h), fun h => absurd (hc.2 ⟨h.1, h.2.1, h.2.2.1, h.2.2.2.1⟩) (by decide)⟩
    | false =>
      rw [if_neg (by decide)]
      have hb := hc.1 rfl
      by_cases c1 : op < 18
      · rw [if_pos c1]; exact ⟨_, rfl, (fun h => by cases h), fun h => absurd h.2.2.2.2.1 (by show ¬ 18 ≤ op; omega)⟩
      rw [if_neg c1]
      by_cases c2 : op > 20
      · rw [if_pos c2]; exact ⟨_, rfl, (fun h => by cases h), fun h => absurd h.2.2.2.2.2.1 (by show ¬ op ≤ 20; omega)⟩
      rw [if_neg c2]
      obtain ⟨r, hr, hi⟩ := check_two k (by omega) [(⟨op, len, kind, nn, tx, ⟨0, 0, 0, 0⟩⟩ : S52), (⟨17, 0, 0, 0, ⟨#[]⟩, ⟨0, 0, 0, 0⟩⟩ : S52)] op len kind nn tx (by omega) (by omega) rfl rfl rfl
      rw [hr, Option.bind_some]
      refine ⟨_, rfl, ?_⟩
      rw [beq_iff_eq, hi]
      exact ⟨fun h => ⟨hb.1, hb.2.1, hb.2.2.1, hb.2.2.2, by show 18 ≤ op; omega, by show op ≤ 20; omega, h⟩, fun h => h.2.2.2.2.2.2⟩
  show ∃ b, steps_mayNote.f (k + 1) op kind at_ len nn tx (z : Int) = some b ∧ (b = true ↔ NoteG FitG z ⟨op, kind, at_, len, nn, tx⟩)
  unfold steps_mayNote.f
  by_cases c1 : at_ < 0
  · rw [if_pos c1]; exact hj _ ⟨(fun h => by cases h), (fun h => by omega)⟩
  rw [if_neg c1]
  by_cases c2 : at_ > (z : Int)
  · rw [if_pos c2]; exact hj _ ⟨(fun h => by cases h), (fun h => by omega)⟩
  rw [if_neg c2]
  by_cases c3 : len < 0
  · rw [if_pos c3]; exact hj _ ⟨(fun h => by cases h), (fun h => by omega)⟩
  rw [if_neg c3, wrap64_in (x := (z : Int) - at_) (by omega) (by omega)]
  refine hj _ ⟨fun h => ?_, fun h => decide_eq_false (by omega)⟩
  have := of_decide_eq_false h
  omega
/-- Entries that may be, above a number of notes. -/
def stackOk (code size notes : Int) : Int → List Ent → Prop
  | _, [] => True
  | least, e :: r => 0 ≤ e.pc ∧ e.pc < code ∧ (if e.ret = true then e.at_ = 0 ∧ e.notes = 0 ∧ stackOk code size notes least r else 0 ≤ e.at_ ∧ e.at_ ≤ size ∧ least ≤ e.notes ∧ e.notes ≤ notes ∧ stackOk code size notes e.notes r)
theorem stackOk_iff (code size notes : Int) : ∀ (l : List Ent) (least : Int), stackOk code size notes least l ↔ ((∀ e ∈ l, 0 ≤ e.pc ∧ e.pc < code) ∧ (∀ e ∈ l, e.ret = true → e.at_ = 0 ∧ e.notes = 0) ∧ (∀ e ∈ l, e.ret = false → 0 ≤ e.at_ ∧ e.at_ ≤ size) ∧ (∀ e ∈ l, e.ret = false → least ≤ e.notes ∧ e.notes ≤ notes) ∧ l.Pairwise (fun a b => a.ret = false → b.ret = false → a.notes ≤ b.notes))
  | [], least => ⟨fun _ => ⟨(fun _ h => by cases h), (fun _ h => by cases h), (fun _ h => by cases h), (fun _ h => by cases h), List.Pairwise.nil⟩, fun _ => trivial⟩
  | e :: r, least => by
    unfold stackOk
    cases hr : e.ret with
    | true =>
      rw [if_pos rfl, stackOk_iff code size notes r least, List.pairwise_cons]
      simp only [List.forall_mem_cons, hr]
      constructor
      · rintro ⟨h1, h2, h3, h4, h5, h6, h7, h8, h9⟩
        exact ⟨⟨⟨h1, h2⟩, h5⟩, ⟨fun _ => ⟨h3, h4⟩, h6⟩, ⟨(fun h => by cases h), h7⟩, ⟨(fun h => by cases h), h8⟩, (fun _ _ h => by cases h), h9⟩
      · rintro ⟨⟨⟨h1, h2⟩, h5⟩, ⟨h34, h6⟩, ⟨_, h7⟩, ⟨_, h8⟩, _, h9⟩
        exact ⟨h1, h2, (h34 trivial).1, (h34 trivial).2, h5, h6, h7, h8, h9⟩
    | false =>
      rw [if_neg (by decide), stackOk_iff code size notes r e.notes, List.pairwise_cons]
      simp only [List.forall_mem_cons, hr]
      constructor
      · rintro ⟨h1, h2, h3, h4, h10, h11, h5, h6, h7, h8, h9⟩
        exact ⟨⟨⟨h1, h2⟩, h5⟩, ⟨(fun h => by cases h), h6⟩, ⟨fun _ => ⟨h3, h4⟩, h7⟩, ⟨fun _ => ⟨h10, h11⟩, fun x hx hxr => ⟨by have := (h8 x hx hxr).1; omega, (h8 x hx hxr).2⟩⟩, fun x hx _ hxr => (h8 x hx hxr).1, h9⟩
      · rintro ⟨⟨⟨h1, h2⟩, h5⟩, ⟨_, h6⟩, ⟨h34, h7⟩, ⟨h1011, h8⟩, h12, h9⟩
        exact ⟨h1, h2, (h34 trivial).1, (h34 trivial).2, (h1011 trivial).1, (h1011 trivial).2, h5, h6, h7, fun x hx hxr => ⟨h12 x hx trivial hxr, (h8 x hx hxr).2⟩, h9⟩
theorem rd_ent {l : List S55} {x : Nat} (h : x < l.length) : rd_T55 l (x : Int) = l[x] := by
  unfold rd_T55
  rw [Int.toNat_natCast, List.getD_eq_getElem?_getD, List.getElem?_eq_getElem h]
  rfl
theorem rd_not {l : List S57} {x : Nat} (h : x < l.length) : rd_T57 l (x : Int) = l[x] := by
  unfold rd_T57
  rw [Int.toNat_natCast, List.getD_eq_getElem?_getD, List.getElem?_eq_getElem h]
  rfl
theorem mayStack_l0 (code size notes : Int) (l : List S55) (hl : l.length ≤ 1048576) : ∀ (n k x : Nat) (least : Int), x ≤ l.length → l.length - x ≤ n → 3 * n + 3 ≤ k → ∃ b, steps_mayStack.l0 k code size notes least l (l.length : Int) (x : Int) = some b ∧ (b = true ↔ stackOk code size notes least ((l.drop x).map entOf))
  | n, 0, x, least, _, _, h => by omega
  | 0, k + 1, x, least, h0, h1, _ => by
    obtain rfl : x = l.length := by omega
    rw [steps_mayStack.l0, if_neg (by omega), List.drop_length]
    exact ⟨_, rfl, fun _ => trivial, fun _ => rfl⟩
  | n + 1, k + 1, x, least, h0, h1, hk => by
    by_cases c : x < l.length
    · rw [steps_mayStack.l0, if_pos (by omega), if_pos (by omega), if_pos (by omega), rd_ent c]
      rw [List.drop_eq_getElem_cons c, List.map_cons]
      obtain ⟨ret, pc, at_, nt⟩ := l[x]
      show ∃ b, (if pc < 0 then _ else _) = some b ∧ (b = true ↔ stackOk code size notes least (⟨ret, pc, at_, nt⟩ :: (l.drop (x + 1)).map entOf))
      dsimp only
      obtain ⟨k, rfl⟩ : ∃ j, k = j + 2 := ⟨k - 2, by omega⟩
      have hw : wrap64 ((x : Int) + 1) = ((x + 1 : Nat) : Int) := by rw [wrap64_in (by omega) (by omega)]; omega
      have hnext : ∀ (k : Nat), 3 * n + 3 ≤ k → ∀ least, ∃ b, steps_mayStack.l0 k code size notes least l (l.length : Int) (wrap64 ((x : Int) + 1)) = some b ∧ (b = true ↔ stackOk code size notes least ((l.drop (x + 1)).map entOf)) := by
        intro k hk least
        rw [hw]
        exact mayStack_l0 code size notes l hl n k (x + 1) least (by omega) (by omega) hk
      have hj : ∀ c, (c = false ↔ (0 ≤ pc ∧ pc < code)) → ∃ b, steps_mayStack.j1 (k + 2) code size notes least l (l.length : Int) (x : Int) c ret pc at_ nt = some b ∧ (b = true ↔ stackOk code size notes least (⟨ret, pc, at_, nt⟩ :: (l.drop (x + 1)).map entOf)) := by
        intro c hc
        rw [steps_mayStack.j1]
        unfold stackOk
        dsimp only
        cases c with
        | true =>
          rw [if_pos rfl]
          exact ⟨_, rfl, (fun h => by cases h), fun h => absurd (hc.2 ⟨h.1, h.2.1⟩) (by decide)⟩
        | false =>
          rw [if_neg (by decide)]
          obtain ⟨hp0, hp1⟩ := hc.1 rfl
          cases ret with
          | true =>
            rw [if_pos rfl, if_pos rfl]
            by_cases d1 : at_ = 0
            · rw [if_pos d1, steps_mayStack.j2]
              by_cases d2 : nt = 0
              · subst d2
                rw [if_neg (by decide)]
                obtain ⟨b, hb, hi⟩ := hnext k (by omega) least
                exact ⟨b, hb, hi.trans ⟨fun h => ⟨hp0, hp1, d1, rfl, h⟩, fun h => h.2.2.2.2⟩⟩
              · rw [if_pos (by simpa using d2)]
                exact ⟨_, rfl, (fun h => by cases h), fun h => absurd h.2.2.2.1 d2⟩
            · rw [if_neg d1, steps_mayStack.j2, if_pos rfl]
              exact ⟨_, rfl, (fun h => by cases h), fun h => absurd h.2.2.1 d1⟩
          | false =>
            rw [if_neg (show ¬ (false : Bool) = true by decide), if_neg (show ¬ (false : Bool) = true by decide)]
            by_cases d1 : at_ < 0
            · rw [if_pos d1]; exact ⟨_, rfl, (fun h => by cases h), fun h => absurd h.2.2.1 (by omega)⟩
            rw [if_neg d1]
            by_cases d2 : at_ > size
            · rw [if_pos d2]; exact ⟨_, rfl, (fun h => by cases h), fun h => absurd h.2.2.2.1 (by omega)⟩
            rw [if_neg d2]
            by_cases d3 : nt < least
            · rw [if_pos d3]; exact ⟨_, rfl, (fun h => by cases h), fun h => absurd h.2.2.2.2.1 (by omega)⟩
            rw [if_neg d3]
            by_cases d4 : nt > notes
            · rw [if_pos d4]; exact ⟨_, rfl, (fun h => by cases h), fun h => absurd h.2.2.2.2.2.1 (by omega)⟩
            rw [if_neg d4]
            obtain ⟨b, hb, hi⟩ := hnext (k + 1) (by omega) nt
            exact ⟨b, hb, hi.trans ⟨fun h => ⟨hp0, hp1, by omega, by omega, by omega, by omega, h⟩, fun h => h.2.2.2.2.2.2⟩⟩
      by_cases c1 : pc < 0
      · rw [if_pos c1]; exact hj _ ⟨(fun h => by cases h), (fun h => by omega)⟩
      rw [if_neg c1]
      refine hj _ ⟨fun h => ?_, fun h => decide_eq_false (by omega)⟩
      have := of_decide_eq_false h
      omega
    · exact mayStack_l0 code size notes l hl 0 (k + 1) x least h0 (by omega) (by omega)
theorem mayStack_tot (k : Nat) (hk : 3200000 ≤ k) (code size notes : Int) (l : List S55) (hl : l.length ≤ 1048576) : ∃ b, steps_mayStack.f k l code size notes = some b ∧ (b = true ↔ stackOk code size notes 0 (l.map entOf)) := by
  unfold steps_mayStack.f
  have h := mayStack_l0 code size notes l hl l.length k 0 0 (Nat.zero_le _) (by omega) (by omega)
  rwa [List.drop_zero] at h
theorem may_l0 (l : List S52) (s : ByteArray) (hs : s.size ≤ 1048576) (pc p st kd : Int) (stk : List S55) (lg : List S57) (hk1 : stk.length ≤ 1048576) (hk2 : lg.length ≤ 1048576) : ∀ (n k x : Nat), x ≤ lg.length → lg.length - x ≤ n → n + 3200001 ≤ k → ∃ b, steps_may.l0 k l s lg (lg.length : Int) (x : Int) pc p st kd stk lg = some b ∧ (b = true ↔ ((∀ e ∈ (lg.drop x).map notOf, NoteG FitG s.size e) ∧ stackOk (l.length : Int) (s.size : Int) (lg.length : Int) 0 (stk.map entOf)))
  | n, 0, x, _, _, h => by omega
  | 0, k + 1, x, h0, h1, hk => by
    obtain rfl : x = lg.length := by omega
    rw [steps_may.l0, if_neg (by omega), List.drop_length]
    obtain ⟨b, hb, hi⟩ := mayStack_tot k (by omega) (l.length : Int) (s.size : Int) (lg.length : Int) stk hk1
    rw [hb, Option.bind_some]
    exact ⟨_, rfl, hi.trans ⟨fun h => ⟨(fun _ h => by cases h), h⟩, fun h => h.2⟩⟩
  | n + 1, k + 1, x, h0, h1, hk => by
    by_cases c : x < lg.length
    · rw [steps_may.l0, if_pos (by omega), if_pos (by omega), if_pos (by omega), rd_not c]
      obtain ⟨b, hb, hi⟩ := mayNote_tot k (by omega) lg[x] s.size hs
      rw [hb, Option.bind_some]
      rw [List.drop_eq_getElem_cons c, List.map_cons, List.forall_mem_cons]
      cases b with
      | false =>
        rw [if_neg (by decide)]
        exact ⟨_, rfl, (fun h => by cases h), fun h => absurd (hi.2 h.1.1) (by decide)⟩
      | true =>
        rw [if_pos rfl]
        have hw : wrap64 ((x : Int) + 1) = ((x + 1 : Nat) : Int) := by rw [wrap64_in (by omega) (by omega)]; omega
        rw [hw]
        obtain ⟨b2, hb2, hi2⟩ := may_l0 l s hs pc p st kd stk lg hk1 hk2 n k (x + 1) (by omega) (by omega) (by omega)
        exact ⟨b2, hb2, hi2.trans ⟨fun h => ⟨⟨hi.1 rfl, h.1⟩, h.2⟩, fun h => ⟨h.1.2, h.2⟩⟩⟩
    · exact may_l0 l s hs pc p st kd stk lg hk1 hk2 0 (k + 1) x h0 (by omega) (by omega)
/-- A state that may be, of right code. -/
def MayOk (code : List Ins) (s : ByteArray) (x : MSt) : Prop := Inv code s x ∧ Inv2 FitG s.size x ∧ EndOk code x
def mstOf (pc p st kd : Int) (stk : List S55) (lg : List S57) : MSt := ⟨pc, p, st, kd, stk.map entOf, lg.map notOf⟩
theorem may_tot (l : List S52) (hl0 : 0 < l.length) (s : ByteArray) (hs : s.size ≤ 1048576) (pc p st kd : Int) (stk : List S55) (lg : List S57) :
    ∃ b, steps_may.f 8400000 l s pc p st kd stk lg = some b ∧ (b = true ↔ MayOk (l.map insOf) s (mstOf pc p st kd stk lg)) := by
  have hno : ∀ {q : Prop}, ¬ q → ∃ b, (some false : Option Bool) = some b ∧ (b = true ↔ q) := fun h => ⟨_, rfl, (fun h => by cases h), fun h2 => absurd h2 h⟩
  have hj0 : ∀ c, (c = false ↔ (0 ≤ st ∧ st ≤ 1073741824 ∧ stk.length ≤ 1048576 ∧ lg.length ≤ 1048576)) → ∃ b, steps_may.j0 8400000 l s c pc p st kd stk lg = some b ∧ (b = true ↔ MayOk (l.map insOf) s (mstOf pc p st kd stk lg)) := by
    intro c hc
    obtain ⟨k, hk, hk2⟩ : ∃ k, 8400000 = k + 3 ∧ 8000000 ≤ k := ⟨8399997, rfl, by decide⟩
    rw [hk, steps_may.j0]
    cases c with
    | true =>
      rw [if_pos rfl]
      refine hno fun h => absurd (hc.2 ⟨h.1.st0, h.1.st1, ?_, ?_⟩) (by decide)
      · have := h.1.stack; simpa [mstOf] using this
      · have := h.1.log; simpa [mstOf] using this
    | false =>
      obtain ⟨q0, q1, q2, q3⟩ := hc.1 rfl
      rw [if_neg (by decide)]
      by_cases c2 : kd = 2
      · rw [if_pos c2]
        have hz : MayOk (l.map insOf) s (mstOf pc p st kd stk lg) → pc = 0 ∧ p = 0 ∧ stk = [] ∧ lg = [] := by
          intro h
          rcases h.2.2 with h | h | h
          · exact absurd (show kd = 0 from h) (by omega)
          · exact absurd (show kd = 1 from h.1) (by omega)
          · exact ⟨h.2.1, h.2.2.1, List.map_eq_nil_iff.1 h.2.2.2.1, List.map_eq_nil_iff.1 h.2.2.2.2⟩
        by_cases d1 : pc = 0
        · rw [if_pos d1]
          by_cases d2 : p = 0
          · rw [if_pos d2]
            by_cases d3 : (stk.length : Int) = 0
            · rw [if_pos d3]
              refine ⟨_, rfl, ?_⟩
              rw [beq_iff_eq]
              have e3 : stk = [] := List.eq_nil_of_length_eq_zero (by omega)
              refine ⟨fun h => ?_, fun h => by rw [(hz h).2.2.2]; rfl⟩
              have e4 : lg = [] := List.eq_nil_of_length_eq_zero (by omega)
              subst d1 d2 e3 e4
              have hlm : 0 < (l.map insOf).length := by rw [List.length_map]; exact hl0
              exact ⟨⟨Int.le_refl _, by show (0 : Int) < _; omega, Int.le_refl _, by show (0 : Int) ≤ _; omega, q0, q1, Nat.zero_le _, Nat.zero_le _, (fun _ h => by cases h), (fun _ h => by cases h), (fun _ h => by cases h), List.Pairwise.nil⟩, Inv2.nil _ _ _ _ _ _, .inr (.inr ⟨c2, rfl, rfl, rfl, rfl⟩)⟩
            · rw [if_neg d3]; exact hno fun h => d3 (by rw [(hz h).2.2.1]; rfl)
          · rw [if_neg d2]; exact hno fun h => d2 (hz h).2.1
        · rw [if_neg d1]; exact hno fun h => d1 (hz h).1
      rw [if_neg c2]
      have hlm : (l.map insOf).length = l.length := List.length_map _
      have hj2 : ∀ c, (c = false ↔ (0 ≤ pc ∧ pc < l.length ∧ 0 ≤ p ∧ p ≤ s.size ∧ EndOk (l.map insOf) (mstOf pc p st kd stk lg))) → ∃ b, steps_may.j2 (k + 1) l s c pc p st kd stk lg = some b ∧ (b = true ↔ MayOk (l.map insOf) s (mstOf pc p st kd stk lg)) := by
        intro c hc
        rw [steps_may.j2]
        cases c with
        | true =>
          rw [if_pos rfl]
          refine hno fun h => absurd (hc.2 ⟨h.1.pc0, ?_, h.1.at0, h.1.at1, h.2.2⟩) (by decide)
          have := h.1.pc1; rw [hlm] at this; exact this
        | false =>
          obtain ⟨p0, p1, p2, p3, p4⟩ := hc.1 rfl
          rw [if_neg (by decide)]
          obtain ⟨b, hb, hi⟩ := may_l0 l s hs pc p st kd stk lg q2 q3 lg.length k 0 (Nat.zero_le _) (by omega) (by omega)
          refine ⟨b, hb, hi.trans ?_⟩
          rw [List.drop_zero, stackOk_iff]
          constructor
          · rintro ⟨h1, h2, h3, h4, h5, h6⟩
            refine ⟨⟨p0, by rw [hlm]; exact p1, p2, p3, q0, q1, ?_, ?_, ?_, h4, ?_, h6⟩, ⟨h3, h1⟩, p4⟩
            · show (stk.map entOf).length ≤ _; rw [List.length_map]; exact q2
            · show (lg.map notOf).length ≤ _; rw [List.length_map]; exact q3
            · rw [hlm]; exact h2
            · show ∀ e ∈ stk.map entOf, e.ret = false → 0 ≤ e.notes ∧ e.notes ≤ ((lg.map notOf).length : Int)
              rw [List.length_map]; exact h5
          · rintro ⟨h1, h2, h3⟩
            refine ⟨h2.logs, ?_, h2.rets, h1.ats, ?_, h1.sorted⟩
            · have := h1.pcs; rw [hlm] at this; exact this
            · have := h1.notes
              have e : (mstOf pc p st kd stk lg).log.length = lg.length := List.length_map _
              rw [e] at this; exact this
      have hend0 : kd = 0 → EndOk (l.map insOf) (mstOf pc p st kd stk lg) := fun h => .inl h
      have hj1 : kd = 0 ∨ kd = 1 → ∃ b, steps_may.j1 (k + 2) l s pc p st kd stk lg = some b ∧ (b = true ↔ MayOk (l.map insOf) s (mstOf pc p st kd stk lg)) := by
        intro hkd
        rw [steps_may.j1]
        by_cases d1 : pc < 0
        · rw [if_pos d1]; exact hj2 _ ⟨(fun h => by cases h), (fun h => by omega)⟩
        rw [if_neg d1]
        by_cases d2 : pc ≥ (l.length : Int)
        · rw [if_pos d2]; exact hj2 _ ⟨(fun h => by cases h), (fun h => by omega)⟩
        rw [if_neg d2]
        have hget : (l.map insOf)[pc.toNat]? = some (insOf (rd_T52 l pc)) := by
          have hlt : pc.toNat < l.length := by omega
          rw [List.getElem?_map, List.getElem?_eq_getElem hlt]
          unfold rd_T52
          rw [List.getD_eq_getElem?_getD, List.getElem?_eq_getElem hlt]
          rfl
        by_cases d3 : kd = 1
        · rw [if_pos d3, if_pos (by omega), if_pos (by omega)]
          by_cases d4 : (rd_T52 l pc).f0 = 17
          · rw [if_pos d4]
            have he : EndOk (l.map insOf) (mstOf pc p st kd stk lg) := .inr (.inl ⟨d3, _, hget, d4⟩)
            by_cases d5 : p < 0
            · rw [if_pos d5]; exact hj2 _ ⟨(fun h => by cases h), (fun h => by omega)⟩
            rw [if_neg d5]
            refine hj2 _ ⟨fun h => ?_, fun h => decide_eq_false (by omega)⟩
            have := of_decide_eq_false h
            exact ⟨by omega, by omega, by omega, by omega, he⟩
          · rw [if_neg d4]
            refine hj2 _ ⟨(fun h => by cases h), fun h => ?_⟩
            rcases h.2.2.2.2 with h | h | h
            · exact absurd (show kd = 0 from h) (by omega)
            · obtain ⟨_, i, hi, ho⟩ := h
              have hi : (l.map insOf)[pc.toNat]? = some i := hi
              rw [hget] at hi
              injection hi with hi
              exact absurd (show (insOf (rd_T52 l pc)).op = 17 by rw [hi]; exact ho) d4
            · exact absurd (show kd = 2 from h.1) (by omega)
        · rw [if_neg d3]
          by_cases d5 : p < 0
          · rw [if_pos d5]; exact hj2 _ ⟨(fun h => by cases h), (fun h => by omega)⟩
          rw [if_neg d5]
          refine hj2 _ ⟨fun h => ?_, fun h => decide_eq_false (by omega)⟩
          have := of_decide_eq_false h
          exact ⟨by omega, by omega, by omega, by omega, hend0 (by omega)⟩
      by_cases d0 : kd = 0
      · rw [if_pos d0]; exact hj1 (.inl d0)
      rw [if_neg d0]
      by_cases d1 : kd = 1
      · rw [if_pos d1]; exact hj1 (.inr d1)
      rw [if_neg d1]
      refine hno fun h => ?_
      rcases h.2.2 with h | h | h
      · exact d0 h
      · exact d1 h.1
      · exact c2 h.1
  unfold steps_may.f
  by_cases c1 : st < 0
  · rw [if_pos c1]; exact hj0 _ ⟨(fun h => by cases h), (fun h => by omega)⟩
  rw [if_neg c1]
  by_cases c2 : st > 1073741824
  · rw [if_pos c2]; exact hj0 _ ⟨(fun h => by cases h), (fun h => by omega)⟩
  rw [if_neg c2]
  by_cases c3 : (stk.length : Int) > 1048576
  · rw [if_pos c3]; exact hj0 _ ⟨(fun h => by cases h), (fun h => by omega)⟩
  rw [if_neg c3]
  refine hj0 _ ⟨fun h => ?_, fun h => decide_eq_false (by omega)⟩
  have := of_decide_eq_false h
  omega
end Go.Proofs.YthjlpcecfkboiaaDoor

/-
  Right code's own notes may be; two states that are the same are told as the same; the state behind so many steps may be. No program here but the printed functions.
-/
namespace Go.Proofs.YthjlpcecfkboiaaDoor
open Go.RowKit Go.Proofs.YthjlpcecfkboiaaDoorW.PrintWords Go.Proofs.YthjlpcecfkboiaaDoor.Z
set_option linter.unusedVariables false
set_option linter.unusedSimpArgs false
/-- Right code: each instruction's fields may be so. -/
theorem check_fit (l : List S52) (hl : l.length ≤ 8192) : ∀ (k : Nat) (x : Nat) (r : Int × Int), instr_Check.l0 k l l (l.length : Int) (x : Int) = some r → r.2 = 0 → (∀ j, j < x → FitG (insOf (rd_T52 l j))) → ∀ j, j < l.length → FitG (insOf (rd_T52 l j))
  | 0, x, r, h, _, _ => by rw [instr_Check.l0] at h; cases h
  | k + 1, x, r, h, hr, ha => by
    rw [instr_Check.l0] at h
    by_cases c : (x : Int) < (l.length : Int)
    · rw [if_pos c, if_pos (by omega), if_pos c, is_any, Option.bind_some] at h
      by_cases d : 1 ≤ (rd_T52 l (x : Int)).f0 ∧ (rd_T52 l (x : Int)).f0 ≤ 20
      · rw [decide_eq_true d, if_pos rfl] at h
        obtain ⟨b, hb, h⟩ := Option.bind_eq_some_iff.mp h
        cases b with
        | false => rw [if_neg (by decide)] at h; injection h with h; subst h; exact absurd hr (by simp)
        | true =>
          rw [if_pos rfl] at h
          have hx : FitG (insOf (rd_T52 l (x : Int))) := ⟨k, hb⟩
          have hnext : ∀ j, j < x + 1 → FitG (insOf (rd_T52 l j)) := by
            intro j hj
            by_cases e : j = x
            · subst e; exact hx
            · exact ha j (by omega)
          rw [has_f _ 32 d.1 d.2, Option.bind_some, wrap64_in (x := (x : Int) + 1) (by omega) (by omega), show (x : Int) + 1 = ((x + 1 : Nat) : Int) by omega] at h
          split at h
          · split at h
            · injection h with h; subst h; exact absurd hr (by simp)
            · split at h
              · injection h with h; subst h; exact absurd hr (by simp)
              · exact check_fit l hl k (x + 1) r h hr hnext
          · exact check_fit l hl k (x + 1) r h hr hnext
      · rw [decide_eq_false d, if_neg (by decide)] at h
        injection h with h; subst h; exact absurd hr (by simp)
    · intro j hj
      exact ha j (by omega)
theorem FitG.notes {i : Ins} (h : FitG i) : (i.op = 18 → i = ⟨18, 0, i.b, i.n, i.text, 0, 0, 0, 0⟩) ∧ (i.op = 19 → i = ⟨19, 0, 0, 0, ⟨#[]⟩, 0, 0, 0, 0⟩) ∧ (i.op = 20 → 0 ≤ i.a ∧ i = ⟨20, i.a, i.b, i.n, i.text, 0, 0, 0, 0⟩) := by
  obtain ⟨k, h⟩ := h
  obtain ⟨op, a, b, n, tx, s0, s1, s2, s3⟩ := i
  refine ⟨fun ho => ?_, fun ho => ?_, fun ho => ?_⟩
  · have ho : op = 18 := ho
    subst ho
    have h : instr_fits.f k 18 a b n tx s0 s1 s2 s3 = some true := h
    have hp := fits_plain (by decide) (by decide) h
    unfold plainM at hp
    simp only [show hasM 18 1 = false by decide +kernel, show hasM 18 16 = false by decide +kernel, Bool.false_eq_true, if_false, Ins.mk.injEq] at hp
    obtain ⟨_, h1, _, _, _, h5, h6, h7, h8⟩ := hp
    subst h1 h5 h6 h7 h8
    rfl
  · have ho : op = 19 := ho
    subst ho
    have h : instr_fits.f k 19 a b n tx s0 s1 s2 s3 = some true := h
    have hp := fits_plain (by decide) (by decide) h
    unfold plainM at hp
    simp only [show hasM 19 1 = false by decide +kernel, show hasM 19 2 = false by decide +kernel, show hasM 19 4 = false by decide +kernel, show hasM 19 8 = false by decide +kernel, show hasM 19 16 = false by decide +kernel, Bool.false_eq_true, if_false, Ins.mk.injEq] at hp
    obtain ⟨_, h1, h2, h3, h4, h5, h6, h7, h8⟩ := hp
    subst h1 h2 h3 h4 h5 h6 h7 h8
    rfl
  · have ho : op = 20 := ho
    subst ho
    have h : instr_fits.f k 20 a b n tx s0 s1 s2 s3 = some true := h
    have hp := fits_plain (by decide) (by decide) h
    have ha := (fits_a (by decide) (by decide) h).2 rfl
    unfold plainM at hp
    simp only [show hasM 20 16 = false by decide +kernel, Bool.false_eq_true, if_false, Ins.mk.injEq] at hp
    obtain ⟨_, _, _, _, _, h5, h6, h7, h8⟩ := hp
    subst h5 h6 h7 h8
    exact ⟨ha.1, rfl⟩
theorem notes_of {l : List S52} (h : ∀ j, j < l.length → FitG (insOf (rd_T52 l j))) : CodeNotes FitG (l.map insOf) := by
  have key : ∀ i ∈ l.map insOf, FitG i := by
    intro i hi
    obtain ⟨j, hj⟩ := List.getElem?_of_mem hi
    obtain ⟨hlt, rfl⟩ := rd_map hj
    exact h j hlt
  refine ⟨fun i hi ho => ?_, fun i hi ho => ?_, fun i hi ho => ?_⟩
  · have hf := key i hi
    rw [hf.notes.1 ho] at hf
    exact hf
  · have hf := key i hi
    rw [hf.notes.2.1 ho] at hf
    exact hf
  · have hf := key i hi
    refine ⟨(hf.notes.2.2 ho).1, ?_⟩
    have e := (hf.notes.2.2 ho).2
    rw [e] at hf
    exact hf
/-- What a run without a step lets in. -/
theorem looked_notes (l : List S52) (s : ByteArray) (p l0 l1 l2 : Int) (h : steps_looked.f 8601 l s p l0 l1 l2 = some 0) : CodeNotes FitG (l.map insOf) := by
  have hc : ∃ c, instr_Check.f 8600 l = some c ∧ c.2 = 0 := by
    obtain ⟨⟨c1, c2⟩, hc, hlt, _⟩ := check_tot l
    refine ⟨_, hc, ?_⟩
    have key : ∀ q, ((machine_Run.f 8600 l s p l0 l1 q).bind fun b => (if b.2.2.2.2.2.2 = 212 then (some 0) else (some b.2.2.2.2.2.2))) = some (0 : Int) → c2 = 0 := by
      intro q hq
      unfold machine_Run.f at hq
      rw [hc, Option.bind_some] at hq
      simp only at hq hlt ⊢
      refine Decidable.byContradiction fun hne => ?_
      unfold run0E at hq
      rw [if_pos hne] at hq
      rw [Option.bind_some, Option.bind_some] at hq
      simp only at hq
      rw [if_neg (by omega)] at hq
      injection hq with hq
      exact hne hq
    unfold steps_looked.f at h
    by_cases d : l2 > 0
    · rw [if_pos d, steps_looked.j0] at h
      split at h
      · exact key _ h
      · exact key _ h
    · rw [if_neg d, steps_looked.j0] at h
      split at h
      · exact key _ h
      · exact key _ h
  obtain ⟨c, hc, hz⟩ := hc
  unfold instr_Check.f at hc
  by_cases d0 : (l.length : Int) > 8192
  · rw [if_pos d0] at hc; injection hc with hc; subst hc; exact absurd hz (by decide)
  rw [if_neg d0] at hc
  by_cases d1 : (l.length : Int) = 0
  · rw [if_pos d1] at hc; injection hc with hc; subst hc; exact absurd hz (by decide)
  rw [if_neg d1] at hc
  exact notes_of (check_fit l (by omega) 8600 0 c hc hz (fun j hj => absurd hj (Nat.not_lt_zero _)))
theorem same_l1 (pc p st kd : Int) (stk : List S55) (lg : List S57) (hg : lg.length ≤ 1048576) (qc q qt qd : Int) (stk2 : List S55) : ∀ (n k x : Nat), x ≤ lg.length → lg.length - x ≤ n → n < k → harrowref22_Same.l1 k (x : Int) pc p st kd stk lg qc q qt qd stk2 lg = some true
  | n, 0, x, _, _, h => by omega
  | 0, k + 1, x, h0, h1, _ => by rw [harrowref22_Same.l1, if_neg (by omega)]
  | n + 1, k + 1, x, h0, h1, hk => by
    rw [harrowref22_Same.l1]
    by_cases c : (x : Int) < (lg.length : Int)
    · rw [if_pos c, if_pos (by omega), if_pos c, if_neg (by simp), wrap64_in (x := (x : Int) + 1) (by omega) (by omega), show (x : Int) + 1 = ((x + 1 : Nat) : Int) by omega]
      exact same_l1 pc p st kd stk lg hg qc q qt qd stk2 n k (x + 1) (by omega) (by omega) (by omega)
    · rw [if_neg c]
theorem same_l0 (pc p st kd : Int) (stk : List S55) (lg : List S57) (hs : stk.length ≤ 1048576) (hg : lg.length ≤ 1048576) (qc q qt qd : Int) : ∀ (n k x : Nat), x ≤ stk.length → stk.length - x ≤ n → n + 1048580 < k → harrowref22_Same.l0 k (x : Int) pc p st kd stk lg qc q qt qd stk lg = some true
  | n, 0, x, _, _, h => by omega
  | 0, k + 1, x, h0, h1, _ => by rw [harrowref22_Same.l0, if_neg (by omega)]; exact same_l1 pc p st kd stk lg hg qc q qt qd stk lg.length k 0 (Nat.zero_le _) (by omega) (by omega)
  | n + 1, k + 1, x, h0, h1, hk => by
    rw [harrowref22_Same.l0]
    by_cases c : (x : Int) < (stk.length : Int)
    · rw [if_pos c, if_pos (by omega), if_pos c, if_neg (by simp), wrap64_in (x := (x : Int) + 1) (by omega) (by omega), show (x : Int) + 1 = ((x + 1 : Nat) : Int) by omega]
      exact same_l0 pc p st kd stk lg hs hg qc q qt qd n k (x + 1) (by omega) (by omega) (by omega)
    · rw [if_neg c]; exact same_l1 pc p st kd stk lg hg qc q qt qd stk lg.length k 0 (Nat.zero_le _) (by omega) (by omega)
theorem same_yes (pc p st kd : Int) (stk : List S55) (lg : List S57) (hs : stk.length ≤ 1048576) (hg : lg.length ≤ 1048576) : harrowref22_Same.f 8400000 pc p st kd stk lg pc p st kd stk lg = some true := by
  obtain ⟨k, hk, hk2⟩ : ∃ k, 8400000 = k + 1 ∧ 8000000 ≤ k := ⟨8399999, rfl, by decide⟩
  unfold harrowref22_Same.f
  rw [if_pos rfl, if_pos rfl, if_pos rfl, if_pos rfl, if_pos rfl, hk, harrowref22_Same.j0, if_neg (by simp)]
  exact same_l0 pc p st kd stk lg hs hg pc p st kd stk.length k 0 (Nat.zero_le _) (by omega) (by omega)
end Go.Proofs.YthjlpcecfkboiaaDoor
