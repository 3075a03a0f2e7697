/-
  The runner of steps: an instruction that looks at bytes.
-/
import Derived.Test.YthjlpcecfkboiaaDoorRunner3
import Derived.WalkKit
import Derived.BigQuiet
import Derived.BigRegion
namespace Go.Proofs.YthjlpcecfkboiaaDoor
open Go.RowKit
set_option linter.unusedVariables false
set_option linter.unusedSimpArgs false
def spanGo (s : ByteArray) (i : Ins) : Nat → Int → Int
  | 0, p => p
  | k + 1, p => if fitsM s p i then spanGo s i k (p + 1) else p
def byteM (s : ByteArray) (i : Ins) (x : MSt) : MSt :=
  if i.op = 7 then { x with at_ := spanGo s i s.size x.at_, pc := x.pc + 1 }
  else if i.op = 4 ∨ i.op = 5 ∨ i.op = 6 then (if fitsM s x.at_ i then { x with pc := x.pc + 1 } else { x with pc := x.pc + i.a })
  else if fitsM s x.at_ i then { x with at_ := x.at_ + 1, pc := x.pc + 1 } else failM x
theorem fits_lt {s : ByteArray} {p : Int} {i : Ins} (h : fitsM s p i = true) : 0 ≤ p ∧ p < s.size := by
  unfold fitsM at h
  by_cases c : 0 ≤ p ∧ p.toNat < s.size
  · omega
  · rw [dif_neg c] at h; cases h
theorem spanGo_stop {s : ByteArray} {i : Ins} : ∀ (k : Nat) {p : Int}, fitsM s p i = false → spanGo s i k p = p
  | 0, _, _ => rfl
  | k + 1, p, h => by unfold spanGo; rw [h]; rfl
theorem spanGo_more {s : ByteArray} {i : Ins} : ∀ (k : Nat) {p : Int}, (s.size : Int) ≤ p + k → spanGo s i (k + 1) p = spanGo s i k p
  | 0, p, h => by
    unfold spanGo
    cases hf : fitsM s p i with
    | true => have := fits_lt hf; omega
    | false => rfl
  | k + 1, p, h => by
    show (if fitsM s p i = true then spanGo s i (k + 1) (p + 1) else p) = (if fitsM s p i = true then spanGo s i k (p + 1) else p)
    cases hf : fitsM s p i with
    | true => rw [if_pos rfl, if_pos rfl]; exact spanGo_more k (by omega)
    | false => rfl
theorem spanGo_step {s : ByteArray} {i : Ins} {p : Int} (hp : 0 ≤ p) (h : fitsM s p i = true) : spanGo s i s.size p = spanGo s i s.size (p + 1) := by
  obtain ⟨h0, h1⟩ := fits_lt h
  obtain ⟨k, hk⟩ : ∃ k, s.size = k + 1 := ⟨s.size - 1, by omega⟩
  rw [hk, spanGo, h, if_pos rfl, spanGo_more k (by omega)]
theorem wrap_next' {q n : Nat} (h : (q : Int) < (n : Int)) (hn : n ≤ 1048576) : IntKind.i64.wrap ((q : Int) + 1) = (q : Int) + 1 := IntWalk.i64_in _ (by omega)
theorem less_next {q n : Nat} (h : q + 1 ≤ n) : n - (((q + 1 : Nat) : Int)).toNat < n - ((q : Int)).toNat := by rw [Int.toNat_natCast, Int.toNat_natCast]; omega
/-- Where the runner stands, read off its memory. -/
def atIn (w : World) (r : Nat) : Nat := match w.cell? ⟨r, 6, none⟩ with
  | some (.int _ v) => v.toNat
  | _ => 0
theorem runW_at {w : World} {r : Nat} {code : Value} {s : ByteArray} {l0 l1 l2 pc p st kd : Int} {sv lv : Value} (hR : w.heap[r]? = some (.cells #[code, .string s, .int .i64 l0, .int .i64 l1, .int .i64 l2, .int .i64 pc, .int .i64 p, .int .i64 st, .int .i64 kd, sv, lv] 61)) : atIn w r = p.toNat := by
  unfold atIn
  rw [block_cell hR 6]
  rfl

set_option maxHeartbeats 8000000 in
set_option maxRecDepth 20000 in
theorem byte_t4 (w : World) (B r : Nat) (code : Value) (s : ByteArray) (l0 l1 l2 : Int) (x : MSt) (a b n : Int) (tx : ByteArray) (s0 s1 s2 s3 : Int) (h : RunW w B r code s l0 l1 l2 x) (hN : NotesOk x) (hl : x.stack.length ≤ 1048577) (hg : x.log.length ≤ 1048577)
    (hp : 0 ≤ x.at_) (hs : s.size ≤ 1048576) (hpc : 0 ≤ x.pc ∧ x.pc ≤ 1048576) (ha : -1048576 ≤ a ∧ a ≤ 1048576) (hps : x.at_ ≤ s.size) :
    Calls Tryd.prog 54 #[.pointer (some ⟨r, 0, none⟩), insA ⟨4, a, b, n, tx, s0, s1, s2, s3⟩] w fun en w' => en = .returned (.tuple #[]) ∧ Below B w w' ∧ RunW w' B r code s l0 l1 l2 (byteM s ⟨4, a, b, n, tx, s0, s1, s2, s3⟩ x) := by
  have h0 := h
  obtain ⟨sv, lv, hR, hBr, hS, hL⟩ := h
  have hBw := Nat.le_of_lt (Nat.lt_of_le_of_lt hBr (block_lt hR))
  have hF := fun (w2 : World) (hb : Below w.heap.size w w2) => fits_any w2 r code s l0 l1 l2 x sv lv ⟨4, a, b, n, tx, s0, s1, s2, s3⟩ (keep hb hR) hp (by omega)
  have hFail := fun (w2 : World) (hb : Below w.heap.size w w2) => fail_any w2 B r code s l0 l1 l2 x (h0.below hb) hN hl hg
  obtain ⟨pc, p, st, kd, stk, lg⟩ := x
  unfold insA at hF ⊢
  unfold runC at hR
  simp only at hR hp hpc hF hS hL hps
  have hb0 := (Below.refl w.heap.size w).alloc (Nat.le_refl _) (.cells #[.int .i64 4, .int .i64 a, .int .i64 b, .int .i64 n, .string tx, .int .u64 s0, .int .u64 s1, .int .u64 s2, .int .u64 s3] 52)
  have hx0 := alloc_new w (.cells #[.int .i64 4, .int .i64 a, .int .i64 b, .int .i64 n, .string tx, .int .u64 s0, .int .u64 s1, .int .u64 s2, .int .u64 s3] 52)
  have hw1 : wrap64 (pc + 1) = pc + 1 := by unfold wrap64; omega
  have hw2 : wrap64 (p + 1) = p + 1 := by unfold wrap64; omega
  have hw3 : wrap64 (pc + a) = pc + a := by unfold wrap64; omega
  have hs9 : s.size ≤ 9223372036854775807 := by omega
  have hxr : w.heap.size ≠ r := fun e => by have := block_lt hR; omega
  go_enter Tryd.func54, Tryd.ntmps54
  go_wp2_with (fail)
  with_reducible refine (hF _ hb0).mono ?_
  rintro e w1 ⟨rfl, hb1⟩
  have hb2 := hb0.trans (hb1.mono hb0.size)
  have hR1 := keep hb2 hR
  have hS1 := own_below hS hb2
  have hL1 := own_below hL hb2
  have hX1 := keep hb1 hx0
  have hB1 := hb2.mono hBw
  have hcX := block_cell hX1
  have hcR := block_cell hR1
  have hfR := block_free hR1
  have hM : byteM s ⟨4, a, b, n, tx, s0, s1, s2, s3⟩ ⟨pc, p, st, kd, stk, lg⟩ = (if fitsM s p ⟨4, a, b, n, tx, s0, s1, s2, s3⟩ then ⟨pc + 1, p, st, kd, stk, lg⟩ else ⟨pc + a, p, st, kd, stk, lg⟩) := by
    unfold byteM
    simp only
    rw [if_neg (by decide), if_pos (by decide)]
  cases hfit : fitsM s p ⟨4, a, b, n, tx, s0, s1, s2, s3⟩ with
  | true =>
    rw [hfit, if_pos rfl] at hM
    go_wp2_with (fail)
    have hR2 := heap_setCell_self hR1 5 (.int .i64 (pc + 1))
    go_end0
    refine ⟨rfl, hB1.setCell (p := ⟨r, 5, none⟩) hBr _, ?_⟩
    rw [hM]
    exact ⟨sv, lv, hR2, hBr, own_set hS1 hR1 (by decide) _ _, own_set hL1 hR1 (by decide) _ _⟩
  | false =>
    rw [hfit, if_neg (by decide)] at hM
    go_wp2_with (fail)
    go_region
    all_goals
      have hR2 := heap_setCell_self hR1 5 (.int .i64 (pc + a))
      have hS2 := own_set hS1 hR1 (by decide) 5 (.int .i64 (pc + a))
      have hL2 := own_set hL1 hR1 (by decide) 5 (.int .i64 (pc + a))
      have hB2 := (hB1.setCell (p := ⟨r, 5, none⟩) hBr (.int .i64 (pc + a))).drew
      have hR3 : ((w1.setCell ⟨r, 5, none⟩ (.int .i64 (pc + a))).drew).heap[r]? = _ := hR2
      have hS3 := own_below hS2 (Below.refl _ _).drew
      have hL3 := own_below hL2 (Below.refl _ _).drew
      go_wp2_with (fail)
      go_end0
      refine ⟨rfl, hB2, ?_⟩
      rw [hM]
      exact ⟨sv, lv, hR3, hBr, hS3, hL3⟩

set_option maxHeartbeats 8000000 in
set_option maxRecDepth 20000 in
theorem byte_t5 (w : World) (B r : Nat) (code : Value) (s : ByteArray) (l0 l1 l2 : Int) (x : MSt) (a b n : Int) (tx : ByteArray) (s0 s1 s2 s3 : Int) (h : RunW w B r code s l0 l1 l2 x) (hN : NotesOk x) (hl : x.stack.length ≤ 1048577) (hg : x.log.length ≤ 1048577)
    (hp : 0 ≤ x.at_) (hs : s.size ≤ 1048576) (hpc : 0 ≤ x.pc ∧ x.pc ≤ 1048576) (ha : -1048576 ≤ a ∧ a ≤ 1048576) (hps : x.at_ ≤ s.size) :
    Calls Tryd.prog 54 #[.pointer (some ⟨r, 0, none⟩), insA ⟨5, a, b, n, tx, s0, s1, s2, s3⟩] w fun en w' => en = .returned (.tuple #[]) ∧ Below B w w' ∧ RunW w' B r code s l0 l1 l2 (byteM s ⟨5, a, b, n, tx, s0, s1, s2, s3⟩ x) := by
  have h0 := h
  obtain ⟨sv, lv, hR, hBr, hS, hL⟩ := h
  have hBw := Nat.le_of_lt (Nat.lt_of_le_of_lt hBr (block_lt hR))
  have hF := fun (w2 : World) (hb : Below w.heap.size w w2) => fits_any w2 r code s l0 l1 l2 x sv lv ⟨5, a, b, n, tx, s0, s1, s2, s3⟩ (keep hb hR) hp (by omega)
  have hFail := fun (w2 : World) (hb : Below w.heap.size w w2) => fail_any w2 B r code s l0 l1 l2 x (h0.below hb) hN hl hg
  obtain ⟨pc, p, st, kd, stk, lg⟩ := x
  unfold insA at hF ⊢
  unfold runC at hR
  simp only at hR hp hpc hF hS hL hps
  have hb0 := (Below.refl w.heap.size w).alloc (Nat.le_refl _) (.cells #[.int .i64 5, .int .i64 a, .int .i64 b, .int .i64 n, .string tx, .int .u64 s0, .int .u64 s1, .int .u64 s2, .int .u64 s3] 52)
  have hx0 := alloc_new w (.cells #[.int .i64 5, .int .i64 a, .int .i64 b, .int .i64 n, .string tx, .int .u64 s0, .int .u64 s1, .int .u64 s2, .int .u64 s3] 52)
  have hw1 : wrap64 (pc + 1) = pc + 1 := by unfold wrap64; omega
  have hw2 : wrap64 (p + 1) = p + 1 := by unfold wrap64; omega
  have hw3 : wrap64 (pc + a) = pc + a := by unfold wrap64; omega
  have hs9 : s.size ≤ 9223372036854775807 := by omega
  have hxr : w.heap.size ≠ r := fun e => by have := block_lt hR; omega
  go_enter Tryd.func54, Tryd.ntmps54
  go_wp2_with (fail)
  with_reducible refine (hF _ hb0).mono ?_
  rintro e w1 ⟨rfl, hb1⟩
  have hb2 := hb0.trans (hb1.mono hb0.size)
  have hR1 := keep hb2 hR
  have hS1 := own_below hS hb2
  have hL1 := own_below hL hb2
  have hX1 := keep hb1 hx0
  have hB1 := hb2.mono hBw
  have hcX := block_cell hX1
  have hcR := block_cell hR1
  have hfR := block_free hR1
  have hM : byteM s ⟨5, a, b, n, tx, s0, s1, s2, s3⟩ ⟨pc, p, st, kd, stk, lg⟩ = (if fitsM s p ⟨5, a, b, n, tx, s0, s1, s2, s3⟩ then ⟨pc + 1, p, st, kd, stk, lg⟩ else ⟨pc + a, p, st, kd, stk, lg⟩) := by
    unfold byteM
    simp only
    rw [if_neg (by decide), if_pos (by decide)]
  cases hfit : fitsM s p ⟨5, a, b, n, tx, s0, s1, s2, s3⟩ with
  | true =>
    rw [hfit, if_pos rfl] at hM
    go_wp2_with (fail)
    have hR2 := heap_setCell_self hR1 5 (.int .i64 (pc + 1))
    go_end0
    refine ⟨rfl, hB1.setCell (p := ⟨r, 5, none⟩) hBr _, ?_⟩
    rw [hM]
    exact ⟨sv, lv, hR2, hBr, own_set hS1 hR1 (by decide) _ _, own_set hL1 hR1 (by decide) _ _⟩
  | false =>
    rw [hfit, if_neg (by decide)] at hM
    go_wp2_with (fail)
    go_region
    all_goals
      have hR2 := heap_setCell_self hR1 5 (.int .i64 (pc + a))
      have hS2 := own_set hS1 hR1 (by decide) 5 (.int .i64 (pc + a))
      have hL2 := own_set hL1 hR1 (by decide) 5 (.int .i64 (pc + a))
      have hB2 := (hB1.setCell (p := ⟨r, 5, none⟩) hBr (.int .i64 (pc + a))).drew
      have hR3 : ((w1.setCell ⟨r, 5, none⟩ (.int .i64 (pc + a))).drew).heap[r]? = _ := hR2
      have hS3 := own_below hS2 (Below.refl _ _).drew
      have hL3 := own_below hL2 (Below.refl _ _).drew
      go_wp2_with (fail)
      go_end0
      refine ⟨rfl, hB2, ?_⟩
      rw [hM]
      exact ⟨sv, lv, hR3, hBr, hS3, hL3⟩

set_option maxHeartbeats 8000000 in
set_option maxRecDepth 20000 in
theorem byte_t6 (w : World) (B r : Nat) (code : Value) (s : ByteArray) (l0 l1 l2 : Int) (x : MSt) (a b n : Int) (tx : ByteArray) (s0 s1 s2 s3 : Int) (h : RunW w B r code s l0 l1 l2 x) (hN : NotesOk x) (hl : x.stack.length ≤ 1048577) (hg : x.log.length ≤ 1048577)
    (hp : 0 ≤ x.at_) (hs : s.size ≤ 1048576) (hpc : 0 ≤ x.pc ∧ x.pc ≤ 1048576) (ha : -1048576 ≤ a ∧ a ≤ 1048576) (hps : x.at_ ≤ s.size) :
    Calls Tryd.prog 54 #[.pointer (some ⟨r, 0, none⟩), insA ⟨6, a, b, n, tx, s0, s1, s2, s3⟩] w fun en w' => en = .returned (.tuple #[]) ∧ Below B w w' ∧ RunW w' B r code s l0 l1 l2 (byteM s ⟨6, a, b, n, tx, s0, s1, s2, s3⟩ x) := by
  have h0 := h
  obtain ⟨sv, lv, hR, hBr, hS, hL⟩ := h
  have hBw := Nat.le_of_lt (Nat.lt_of_le_of_lt hBr (block_lt hR))
  have hF := fun (w2 : World) (hb : Below w.heap.size w w2) => fits_any w2 r code s l0 l1 l2 x sv lv ⟨6, a, b, n, tx, s0, s1, s2, s3⟩ (keep hb hR) hp (by omega)
  have hFail := fun (w2 : World) (hb : Below w.heap.size w w2) => fail_any w2 B r code s l0 l1 l2 x (h0.below hb) hN hl hg
  obtain ⟨pc, p, st, kd, stk, lg⟩ := x
  unfold insA at hF ⊢
  unfold runC at hR
  simp only at hR hp hpc hF hS hL hps
  have hb0 := (Below.refl w.heap.size w).alloc (Nat.le_refl _) (.cells #[.int .i64 6, .int .i64 a, .int .i64 b, .int .i64 n, .string tx, .int .u64 s0, .int .u64 s1, .int .u64 s2, .int .u64 s3] 52)
  have hx0 := alloc_new w (.cells #[.int .i64 6, .int .i64 a, .int .i64 b, .int .i64 n, .string tx, .int .u64 s0, .int .u64 s1, .int .u64 s2, .int .u64 s3] 52)
  have hw1 : wrap64 (pc + 1) = pc + 1 := by unfold wrap64; omega
  have hw2 : wrap64 (p + 1) = p + 1 := by unfold wrap64; omega
  have hw3 : wrap64 (pc + a) = pc + a := by unfold wrap64; omega
  have hs9 : s.size ≤ 9223372036854775807 := by omega
  have hxr : w.heap.size ≠ r := fun e => by have := block_lt hR; omega
  go_enter Tryd.func54, Tryd.ntmps54
  go_wp2_with (fail)
  with_reducible refine (hF _ hb0).mono ?_
  rintro e w1 ⟨rfl, hb1⟩
  have hb2 := hb0.trans (hb1.mono hb0.size)
  have hR1 := keep hb2 hR
  have hS1 := own_below hS hb2
  have hL1 := own_below hL hb2
  have hX1 := keep hb1 hx0
  have hB1 := hb2.mono hBw
  have hcX := block_cell hX1
  have hcR := block_cell hR1
  have hfR := block_free hR1
  have hM : byteM s ⟨6, a, b, n, tx, s0, s1, s2, s3⟩ ⟨pc, p, st, kd, stk, lg⟩ = (if fitsM s p ⟨6, a, b, n, tx, s0, s1, s2, s3⟩ then ⟨pc + 1, p, st, kd, stk, lg⟩ else ⟨pc + a, p, st, kd, stk, lg⟩) := by
    unfold byteM
    simp only
    rw [if_neg (by decide), if_pos (by decide)]
  cases hfit : fitsM s p ⟨6, a, b, n, tx, s0, s1, s2, s3⟩ with
  | true =>
    rw [hfit, if_pos rfl] at hM
    go_wp2_with (fail)
    have hR2 := heap_setCell_self hR1 5 (.int .i64 (pc + 1))
    go_end0
    refine ⟨rfl, hB1.setCell (p := ⟨r, 5, none⟩) hBr _, ?_⟩
    rw [hM]
    exact ⟨sv, lv, hR2, hBr, own_set hS1 hR1 (by decide) _ _, own_set hL1 hR1 (by decide) _ _⟩
  | false =>
    rw [hfit, if_neg (by decide)] at hM
    go_wp2_with (fail)
    go_region
    all_goals
      have hR2 := heap_setCell_self hR1 5 (.int .i64 (pc + a))
      have hS2 := own_set hS1 hR1 (by decide) 5 (.int .i64 (pc + a))
      have hL2 := own_set hL1 hR1 (by decide) 5 (.int .i64 (pc + a))
      have hB2 := (hB1.setCell (p := ⟨r, 5, none⟩) hBr (.int .i64 (pc + a))).drew
      have hR3 : ((w1.setCell ⟨r, 5, none⟩ (.int .i64 (pc + a))).drew).heap[r]? = _ := hR2
      have hS3 := own_below hS2 (Below.refl _ _).drew
      have hL3 := own_below hL2 (Below.refl _ _).drew
      go_wp2_with (fail)
      go_end0
      refine ⟨rfl, hB2, ?_⟩
      rw [hM]
      exact ⟨sv, lv, hR3, hBr, hS3, hL3⟩

set_option maxHeartbeats 8000000 in
set_option maxRecDepth 20000 in
theorem byte_else (w : World) (B r : Nat) (code : Value) (s : ByteArray) (l0 l1 l2 : Int) (x : MSt) (o : Int) (o4 : ¬ o = 4) (o5 : ¬ o = 5) (o6 : ¬ o = 6) (o7 : ¬ o = 7) (a b n : Int) (tx : ByteArray) (s0 s1 s2 s3 : Int) (h : RunW w B r code s l0 l1 l2 x) (hN : NotesOk x) (hl : x.stack.length ≤ 1048577) (hg : x.log.length ≤ 1048577)
    (hp : 0 ≤ x.at_) (hs : s.size ≤ 1048576) (hpc : 0 ≤ x.pc ∧ x.pc ≤ 1048576) (ha : -1048576 ≤ a ∧ a ≤ 1048576) (hps : x.at_ ≤ s.size) :
    Calls Tryd.prog 54 #[.pointer (some ⟨r, 0, none⟩), insA ⟨o, a, b, n, tx, s0, s1, s2, s3⟩] w fun en w' => en = .returned (.tuple #[]) ∧ Below B w w' ∧ RunW w' B r code s l0 l1 l2 (byteM s ⟨o, a, b, n, tx, s0, s1, s2, s3⟩ x) := by
  have h0 := h
  obtain ⟨sv, lv, hR, hBr, hS, hL⟩ := h
  have hBw := Nat.le_of_lt (Nat.lt_of_le_of_lt hBr (block_lt hR))
  have hF := fun (w2 : World) (hb : Below w.heap.size w w2) => fits_any w2 r code s l0 l1 l2 x sv lv ⟨o, a, b, n, tx, s0, s1, s2, s3⟩ (keep hb hR) hp (by omega)
  have hFail := fun (w2 : World) (hb : Below w.heap.size w w2) => fail_any w2 B r code s l0 l1 l2 x (h0.below hb) hN hl hg
  obtain ⟨pc, p, st, kd, stk, lg⟩ := x
  unfold insA at hF ⊢
  unfold runC at hR
  simp only at hR hp hpc hF hS hL hps
  have hb0 := (Below.refl w.heap.size w).alloc (Nat.le_refl _) (.cells #[.int .i64 o, .int .i64 a, .int .i64 b, .int .i64 n, .string tx, .int .u64 s0, .int .u64 s1, .int .u64 s2, .int .u64 s3] 52)
  have hx0 := alloc_new w (.cells #[.int .i64 o, .int .i64 a, .int .i64 b, .int .i64 n, .string tx, .int .u64 s0, .int .u64 s1, .int .u64 s2, .int .u64 s3] 52)
  have hw1 : wrap64 (pc + 1) = pc + 1 := by unfold wrap64; omega
  have hw2 : wrap64 (p + 1) = p + 1 := by unfold wrap64; omega
  have hw3 : wrap64 (pc + a) = pc + a := by unfold wrap64; omega
  have hs9 : s.size ≤ 9223372036854775807 := by omega
  have hxr : w.heap.size ≠ r := fun e => by have := block_lt hR; omega
  go_enter Tryd.func54, Tryd.ntmps54
  go_wp2_with (fail)
  with_reducible refine (hF _ hb0).mono ?_
  rintro e w1 ⟨rfl, hb1⟩
  have hb2 := hb0.trans (hb1.mono hb0.size)
  have hR1 := keep hb2 hR
  have hS1 := own_below hS hb2
  have hL1 := own_below hL hb2
  have hX1 := keep hb1 hx0
  have hB1 := hb2.mono hBw
  have hcX := block_cell hX1
  have hcR := block_cell hR1
  have hfR := block_free hR1
  have hM : byteM s ⟨o, a, b, n, tx, s0, s1, s2, s3⟩ ⟨pc, p, st, kd, stk, lg⟩ = (if fitsM s p ⟨o, a, b, n, tx, s0, s1, s2, s3⟩ then ⟨pc + 1, p + 1, st, kd, stk, lg⟩ else failM ⟨pc, p, st, kd, stk, lg⟩) := by
    unfold byteM
    simp only
    rw [if_neg o7, if_neg (fun h => h.elim o4 (fun h => h.elim o5 o6))]
  have e4 : (o == 4) = false := beq_eq_false_iff_ne.2 o4
  have e5 : (o == 5) = false := beq_eq_false_iff_ne.2 o5
  have e6 : (o == 6) = false := beq_eq_false_iff_ne.2 o6
  have e7 : (o == 7) = false := beq_eq_false_iff_ne.2 o7
  cases hfit : fitsM s p ⟨o, a, b, n, tx, s0, s1, s2, s3⟩ with
  | true =>
    rw [hfit, if_pos rfl] at hM
    have hR2 := heap_setCell_self hR1 6 (.int .i64 (p + 1))
    have hS2 := own_set hS1 hR1 (by decide) 6 (.int .i64 (p + 1))
    have hL2 := own_set hL1 hR1 (by decide) 6 (.int .i64 (p + 1))
    have hB2 := hB1.setCell (p := ⟨r, 6, none⟩) hBr (.int .i64 (p + 1))
    have hR3 := heap_setCell_self hR2 5 (.int .i64 (pc + 1))
    have hS3 := own_set hS2 hR2 (by decide) 5 (.int .i64 (pc + 1))
    have hL3 := own_set hL2 hR2 (by decide) 5 (.int .i64 (pc + 1))
    have hB3 := hB2.setCell (p := ⟨r, 5, none⟩) hBr (.int .i64 (pc + 1))
    go_wp2_with (fail)
    go_end0
    refine ⟨rfl, hB3, ?_⟩
    rw [hM]
    exact ⟨sv, lv, hR3, hBr, hS3, hL3⟩
  | false =>
    rw [hfit, if_neg (by decide)] at hM
    go_wp2_with (fail)
    with_reducible refine (hFail _ hb2).mono ?_
    rintro e w2 ⟨rfl, hb3, hW⟩
    go_wp2_with (fail)
    (try simp only [Exit.inBlock, Exit.then])
    refine bodyPost_ret (results_none rfl _ _ _) rfl ?_
    refine ⟨rfl, (hb2.mono hBw).trans hb3, ?_⟩
    rw [hM]
    exact hW

set_option maxHeartbeats 8000000 in
set_option maxRecDepth 20000 in
theorem byte_span (w : World) (B r : Nat) (code : Value) (s : ByteArray) (l0 l1 l2 : Int) (x : MSt) (a b n : Int) (tx : ByteArray) (s0 s1 s2 s3 : Int) (h : RunW w B r code s l0 l1 l2 x) (hN : NotesOk x) (hl : x.stack.length ≤ 1048577) (hg : x.log.length ≤ 1048577)
    (hp : 0 ≤ x.at_) (hs : s.size ≤ 1048576) (hpc : 0 ≤ x.pc ∧ x.pc ≤ 1048576) (ha : -1048576 ≤ a ∧ a ≤ 1048576) (hps : x.at_ ≤ s.size) :
    Calls Tryd.prog 54 #[.pointer (some ⟨r, 0, none⟩), insA ⟨7, a, b, n, tx, s0, s1, s2, s3⟩] w fun en w' => en = .returned (.tuple #[]) ∧ Below B w w' ∧ RunW w' B r code s l0 l1 l2 (byteM s ⟨7, a, b, n, tx, s0, s1, s2, s3⟩ x) := by
  have h0 := h
  obtain ⟨sv, lv, hR, hBr, hS, hL⟩ := h
  have hBw := Nat.le_of_lt (Nat.lt_of_le_of_lt hBr (block_lt hR))
  have hF := fun (w2 : World) (hb : Below w.heap.size w w2) => fits_any w2 r code s l0 l1 l2 x sv lv ⟨7, a, b, n, tx, s0, s1, s2, s3⟩ (keep hb hR) hp (by omega)
  have hFail := fun (w2 : World) (hb : Below w.heap.size w w2) => fail_any w2 B r code s l0 l1 l2 x (h0.below hb) hN hl hg
  obtain ⟨pc, p, st, kd, stk, lg⟩ := x
  unfold insA at hF ⊢
  unfold runC at hR
  simp only at hR hp hpc hF hS hL hps
  have hb0 := (Below.refl w.heap.size w).alloc (Nat.le_refl _) (.cells #[.int .i64 7, .int .i64 a, .int .i64 b, .int .i64 n, .string tx, .int .u64 s0, .int .u64 s1, .int .u64 s2, .int .u64 s3] 52)
  have hx0 := alloc_new w (.cells #[.int .i64 7, .int .i64 a, .int .i64 b, .int .i64 n, .string tx, .int .u64 s0, .int .u64 s1, .int .u64 s2, .int .u64 s3] 52)
  have hw1 : wrap64 (pc + 1) = pc + 1 := by unfold wrap64; omega
  have hw2 : wrap64 (p + 1) = p + 1 := by unfold wrap64; omega
  have hw3 : wrap64 (pc + a) = pc + a := by unfold wrap64; omega
  have hs9 : s.size ≤ 9223372036854775807 := by omega
  have hxr : w.heap.size ≠ r := fun e => by have := block_lt hR; omega
  go_enter Tryd.func54, Tryd.ntmps54
  go_wp2_with (fail)
  with_reducible refine (hF _ hb0).mono ?_
  rintro e w1 ⟨rfl, hb1⟩
  have hb2 := hb0.trans (hb1.mono hb0.size)
  have hR1 := keep hb2 hR
  have hS1 := own_below hS hb2
  have hL1 := own_below hL hb2
  have hX1 := keep hb1 hx0
  have hB1 := hb2.mono hBw
  have hcX := block_cell hX1
  have hcR := block_cell hR1
  have hfR := block_free hR1
  have hM : byteM s ⟨7, a, b, n, tx, s0, s1, s2, s3⟩ ⟨pc, p, st, kd, stk, lg⟩ = ⟨pc + 1, spanGo s ⟨7, a, b, n, tx, s0, s1, s2, s3⟩ s.size p, st, kd, stk, lg⟩ := by
    unfold byteM
    exact if_pos rfl
  obtain ⟨sp, hM, hst, hgo⟩ : ∃ sp : Int → Int, byteM s ⟨7, a, b, n, tx, s0, s1, s2, s3⟩ ⟨pc, p, st, kd, stk, lg⟩ = ⟨pc + 1, sp p, st, kd, stk, lg⟩ ∧ (∀ q, fitsM s q ⟨7, a, b, n, tx, s0, s1, s2, s3⟩ = false → sp q = q) ∧ (∀ q, 0 ≤ q → fitsM s q ⟨7, a, b, n, tx, s0, s1, s2, s3⟩ = true → sp q = sp (q + 1)) := ⟨fun q => spanGo s ⟨7, a, b, n, tx, s0, s1, s2, s3⟩ s.size q, hM, fun q h => spanGo_stop _ h, fun q h0 h => spanGo_step h0 h⟩
  have HM := hid hM
  have HST := hid hst
  have HGO := hid hgo
  clear hM hst hgo
  clear hF hFail hw2 hw3 h0 hN hl hg hb0 hx0 hb1 hb2
  go_wp2_with (fail)
  go_loopw [] (fun wr => ∃ q : Nat, q ≤ s.size ∧ sp p = sp q ∧ wr.heap[r]? = some (.cells #[code, .string s, .int .i64 l0, .int .i64 l1, .int .i64 l2, .int .i64 pc, .int .i64 q, .int .i64 st, .int .i64 kd, sv, lv] 61) ∧ wr.heap[w.heap.size]? = some (.cells #[.int .i64 7, .int .i64 a, .int .i64 b, .int .i64 n, .string tx, .int .u64 s0, .int .u64 s1, .int .u64 s2, .int .u64 s3] 52) ∧ wr.ownsRow B 55 4 sv stk.length (stk.flatMap entC) ∧ wr.ownsRow B 57 6 lv lg.length (lg.flatMap notC) ∧ Below B w wr) (fun wr => s.size - atIn wr r)
  case atStart =>
    obtain ⟨q, rfl⟩ := Int.eq_ofNat_of_zero_le hp
    refine ⟨q, ?_, ?_, ?_, ?_, ?_, ?_, ?_⟩
    · exact Int.ofNat_le.1 hps
    · with_reducible rfl
    · with_reducible exact hR1
    · with_reducible exact hX1
    · with_reducible exact hS1
    · with_reducible exact hL1
    · with_reducible exact hB1
  case round =>
    obtain ⟨q, hq, hsp, hRr, hXr, hSr, hLr, hBr2⟩ := hrel
    have HSP := hid hsp
    clear hsp
    clear hcX hcR hfR hR1 hX1 hS1 hL1 hB1 hR hS hL
    have hcX := block_cell hXr
    have hcR := block_cell hRr
    have hF := fits_any wr r code s l0 l1 l2 ⟨pc, q, st, kd, stk, lg⟩ sv lv ⟨7, a, b, n, tx, s0, s1, s2, s3⟩ hRr (Int.natCast_nonneg q) hs9
    unfold insA at hF
    simp only at hF
    have hm0 := runW_at hRr
    go_wp2_with (fail)
    with_reducible refine hF.mono ?_
    rintro e w3 ⟨rfl, hb3⟩
    have hR3 := keep hb3 hRr
    have hX3 := keep hb3 hXr
    have hS3 := own_below hSr hb3
    have hL3 := own_below hLr hb3
    have hB3 := hBr2.trans (hb3.mono (Nat.le_of_lt (Nat.lt_of_le_of_lt hBr (block_lt hRr))))
    clear hcX hcR
    have hcR := block_cell hR3
    have hfR := block_free hR3
    cases hfit : fitsM s q ⟨7, a, b, n, tx, s0, s1, s2, s3⟩ with
    | true =>
      obtain ⟨-, hq1⟩ := fits_lt hfit
      have hq2 : q + 1 ≤ s.size := Int.ofNat_lt.1 hq1
      have hwq : IntKind.i64.wrap ((q : Int) + 1) = (q : Int) + 1 := wrap_next' hq1 hs
      have hz : ((q + 1 : Nat) : Int) = (q : Int) + 1 := rfl
      have hR4 := heap_setCell_self hR3 6 (.int .i64 ((q : Int) + 1))
      have hX4 := (heap_setCell_ne (w := w3) (b := r) 6 _ (.int .i64 ((q : Int) + 1)) hxr).trans hX3
      have hS4 := own_set hS3 hR3 (by decide) 6 (.int .i64 ((q : Int) + 1))
      have hL4 := own_set hL3 hR3 (by decide) 6 (.int .i64 ((q : Int) + 1))
      have hB4 := hB3.setCell (p := ⟨r, 6, none⟩) hBr (.int .i64 ((q : Int) + 1))
      have hm1 := runW_at hR4
      have hsp2 := HSP.out.trans (HGO.out _ (Int.natCast_nonneg q) hfit)
      have HZ := hid hz
      clear hz
      go_wp2_with (fail)
      generalize w3.setCell ⟨r, 6, none⟩ (.int .i64 ((q : Int) + 1)) = W4 at *
      refine ⟨⟨q + 1, hq2, ?_, ?_, hX4, hS4, hL4, hB4⟩, ?_⟩
      · rw [HZ.out]
        exact hsp2
      · rw [HZ.out]
        exact hR4
      · rw [hm0, hm1]
        exact less_next hq2
    | false =>
      have hq0 : sp p = q := HSP.out.trans (HST.out _ hfit)
      have hM := HM.out
      rw [hq0] at hM
      have HM2 := hid hM
      clear hM hq0
      have hR4 := heap_setCell_self hR3 5 (.int .i64 (pc + 1))
      have hS4 := own_set hS3 hR3 (by decide) 5 (.int .i64 (pc + 1))
      have hL4 := own_set hL3 hR3 (by decide) 5 (.int .i64 (pc + 1))
      have hB4 := hB3.setCell (p := ⟨r, 5, none⟩) hBr (.int .i64 (pc + 1))
      go_wp2_with (fail)
      go_end0
      refine ⟨rfl, hB4, ?_⟩
      rw [HM2.out]
      exact ⟨sv, lv, hR4, hBr, hS4, hL4⟩

theorem byte_any (w : World) (B r : Nat) (code : Value) (s : ByteArray) (l0 l1 l2 : Int) (x : MSt) (i : Ins) (h : RunW w B r code s l0 l1 l2 x) (hN : NotesOk x) (hl : x.stack.length ≤ 1048577) (hg : x.log.length ≤ 1048577)
    (hp : 0 ≤ x.at_) (hs : s.size ≤ 1048576) (hpc : 0 ≤ x.pc ∧ x.pc ≤ 1048576) (ha : -1048576 ≤ i.a ∧ i.a ≤ 1048576) (hps : x.at_ ≤ s.size) :
    Calls Tryd.prog 54 #[.pointer (some ⟨r, 0, none⟩), insA i] w fun en w' => en = .returned (.tuple #[]) ∧ Below B w w' ∧ RunW w' B r code s l0 l1 l2 (byteM s i x) := by
  obtain ⟨op, a, b, n, tx, s0, s1, s2, s3⟩ := i
  by_cases c4 : op = 4
  · subst c4; exact byte_t4 w B r code s l0 l1 l2 x a b n tx s0 s1 s2 s3 h hN hl hg hp hs hpc ha hps
  by_cases c5 : op = 5
  · subst c5; exact byte_t5 w B r code s l0 l1 l2 x a b n tx s0 s1 s2 s3 h hN hl hg hp hs hpc ha hps
  by_cases c6 : op = 6
  · subst c6; exact byte_t6 w B r code s l0 l1 l2 x a b n tx s0 s1 s2 s3 h hN hl hg hp hs hpc ha hps
  by_cases c7 : op = 7
  · subst c7; exact byte_span w B r code s l0 l1 l2 x a b n tx s0 s1 s2 s3 h hN hl hg hp hs hpc ha hps
  exact byte_else w B r code s l0 l1 l2 x op c4 c5 c6 c7 a b n tx s0 s1 s2 s3 h hN hl hg hp hs hpc ha hps
end Go.Proofs.YthjlpcecfkboiaaDoor
