/-
  The runner of steps: what each of its functions does to its memory.
-/
import Derived.Test.YthjlpcecfkboiaaDoorProg
import Derived.Test.YthjlpcecfkboiaaDoorRunP
import Derived.WalkKit
import Derived.BigQuiet
import Derived.Deep.RegionHeld3
namespace Go.Proofs.YthjlpcecfkboiaaDoor
open Go.RowKit
set_option linter.unusedVariables false
set_option linter.unusedSimpArgs false
/-- The cells of a runner. -/
def runC (code : Value) (s : ByteArray) (l0 l1 l2 : Int) (x : MSt) (sv lv : Value) : Array Value := #[code, .string s, .int .i64 l0, .int .i64 l1, .int .i64 l2, .int .i64 x.pc, .int .i64 x.at_, .int .i64 x.steps, .int .i64 x.kind, sv, lv]
set_option maxHeartbeats 8000000 in
set_option maxRecDepth 20000 in
theorem fits_any (w : World) (r : Nat) (code : Value) (s : ByteArray) (l0 l1 l2 : Int) (x : MSt) (sv lv : Value) (i : Ins)
    (hR : w.heap[r]? = some (.cells (runC code s l0 l1 l2 x sv lv) 61)) (hp : 0 ≤ x.at_) (hs : s.size ≤ 9223372036854775807) :
    Calls Tryd.prog 75 #[.pointer (some ⟨r, 0, none⟩), insA i] w fun e w' => e = .returned (.bool (fitsM s x.at_ i)) ∧ Below w.heap.size w w' := by
  obtain ⟨pc, p, st, kd, stk, lg⟩ := x
  obtain ⟨op, a, b, n, tx, s0, s1, s2, s3⟩ := i
  unfold runC at hR
  simp only at hR hp
  have hrl := block_lt hR
  have hlR := block_cell hR
  have hB := (Below.refl w.heap.size w).alloc (Nat.le_refl _) (.cells #[.int .i64 op, .int .i64 a, .int .i64 b, .int .i64 n, .string tx, .int .u64 s0, .int .u64 s1, .int .u64 s2, .int .u64 s3] 52)
  unfold insA
  go_enter Tryd.func75, Tryd.ntmps75
  by_cases h1 : (s.size : Int) ≤ p
  · have hF : fitsM s p ⟨op, a, b, n, tx, s0, s1, s2, s3⟩ = false := by unfold fitsM; rw [dif_neg (by omega)]
    rw [hF]
    go_wp2_with (fail)
    go_quiet (fail)
    go_wp2_with (fail)
    go_ret
    exact ⟨rfl, below_drewN hB _⟩
  · obtain ⟨q, rfl⟩ := Int.eq_ofNat_of_zero_le hp
    have hq : q < s.size := by omega
    have hq2 : (q : Int) < (s.size : Int) := by omega
    have hlt := (s[q]'hq).toNat_lt
    have hwb : wrap64 ((s[q]'hq).toNat : Int) = ((s[q]'hq).toNat : Int) := by unfold wrap64; omega
    have hb4 : (s[q]'hq).toNat / 64 = 0 ∨ (s[q]'hq).toNat / 64 = 1 ∨ (s[q]'hq).toNat / 64 = 2 ∨ (s[q]'hq).toNat / 64 = 3 := by omega
    have key : (fitsM s (q : Int) ⟨op, a, b, n, tx, s0, s1, s2, s3⟩) = (if op = 2 ∨ op = 5 then ((s[q]'hq).toNat : Int) == b else if op = 3 ∨ op = 6 ∨ op = 7 then bitM ⟨op, a, b, n, tx, s0, s1, s2, s3⟩ (s[q]'hq).toNat else true) := by
      unfold fitsM
      rw [dif_pos ⟨hp, by omega⟩]
      rfl
    by_cases c2 : op = 2
    · subst c2
      go_wp2_with (fail)
      go_quiet (fail)
      go_wp2_with (fail)
      go_quiet (fail)
      go_wp2_with (fail)
      go_ret
      refine ⟨?_, below_drewN hB _⟩
      rw [key, if_pos (by decide)]
      rfl
    by_cases c5 : op = 5
    · subst c5
      go_wp2_with (fail)
      go_quiet (fail)
      go_wp2_with (fail)
      go_quiet (fail)
      go_wp2_with (fail)
      go_ret
      refine ⟨?_, below_drewN hB _⟩
      rw [key, if_pos (by decide)]
      rfl
    have e2 : (op == 2) = false := beq_eq_false_iff_ne.2 c2
    have e5 : (op == 5) = false := beq_eq_false_iff_ne.2 c5
    by_cases c3 : op = 3
    · subst c3
      rcases hb4 with h4 | h4 | h4 | h4
      · have h5 : ((s[q]'hq).toNat : Int) / 64 = 0 := by omega
        go_wp2_with (fail)
        go_quiet (fail)
        go_wp2_with (fail)
        go_quiet (fail)
        go_wp2_with (fail)
        go_ret
        refine ⟨?_, below_drewN hB _⟩
        rw [key, if_neg (by decide), if_pos (by decide)]
        simp only [bitM, Ins.word, h4]
        rfl
      · have h5 : ((s[q]'hq).toNat : Int) / 64 = 1 := by omega
        go_wp2_with (fail)
        go_quiet (fail)
        go_wp2_with (fail)
        go_quiet (fail)
        go_wp2_with (fail)
        go_ret
        refine ⟨?_, below_drewN hB _⟩
        rw [key, if_neg (by decide), if_pos (by decide)]
        simp only [bitM, Ins.word, h4]
        rfl
      · have h5 : ((s[q]'hq).toNat : Int) / 64 = 2 := by omega
        go_wp2_with (fail)
        go_quiet (fail)
        go_wp2_with (fail)
        go_quiet (fail)
        go_wp2_with (fail)
        go_ret
        refine ⟨?_, below_drewN hB _⟩
        rw [key, if_neg (by decide), if_pos (by decide)]
        simp only [bitM, Ins.word, h4]
        rfl
      · have h5 : ((s[q]'hq).toNat : Int) / 64 = 3 := by omega
        go_wp2_with (fail)
        go_quiet (fail)
        go_wp2_with (fail)
        go_quiet (fail)
        go_wp2_with (fail)
        go_ret
        refine ⟨?_, below_drewN hB _⟩
        rw [key, if_neg (by decide), if_pos (by decide)]
        simp only [bitM, Ins.word, h4]
        rfl
    by_cases c6 : op = 6
    · subst c6
      rcases hb4 with h4 | h4 | h4 | h4
      · have h5 : ((s[q]'hq).toNat : Int) / 64 = 0 := by omega
        go_wp2_with (fail)
        go_quiet (fail)
        go_wp2_with (fail)
        go_quiet (fail)
        go_wp2_with (fail)
        go_ret
        refine ⟨?_, below_drewN hB _⟩
        rw [key, if_neg (by decide), if_pos (by decide)]
        simp only [bitM, Ins.word, h4]
        rfl
      · have h5 : ((s[q]'hq).toNat : Int) / 64 = 1 := by omega
        go_wp2_with (fail)
        go_quiet (fail)
        go_wp2_with (fail)
        go_quiet (fail)
        go_wp2_with (fail)
        go_ret
        refine ⟨?_, below_drewN hB _⟩
        rw [key, if_neg (by decide), if_pos (by decide)]
        simp only [bitM, Ins.word, h4]
        rfl
      · have h5 : ((s[q]'hq).toNat : Int) / 64 = 2 := by omega
        go_wp2_with (fail)
        go_quiet (fail)
        go_wp2_with (fail)
        go_quiet (fail)
        go_wp2_with (fail)
        go_ret
        refine ⟨?_, below_drewN hB _⟩
        rw [key, if_neg (by decide), if_pos (by decide)]
        simp only [bitM, Ins.word, h4]
        rfl
      · have h5 : ((s[q]'hq).toNat : Int) / 64 = 3 := by omega
        go_wp2_with (fail)
        go_quiet (fail)
        go_wp2_with (fail)
        go_quiet (fail)
        go_wp2_with (fail)
        go_ret
        refine ⟨?_, below_drewN hB _⟩
        rw [key, if_neg (by decide), if_pos (by decide)]
        simp only [bitM, Ins.word, h4]
        rfl
    by_cases c7 : op = 7
    · subst c7
      rcases hb4 with h4 | h4 | h4 | h4
      · have h5 : ((s[q]'hq).toNat : Int) / 64 = 0 := by omega
        go_wp2_with (fail)
        go_quiet (fail)
        go_wp2_with (fail)
        go_quiet (fail)
        go_wp2_with (fail)
        go_ret
        refine ⟨?_, below_drewN hB _⟩
        rw [key, if_neg (by decide), if_pos (by decide)]
        simp only [bitM, Ins.word, h4]
        rfl
      · have h5 : ((s[q]'hq).toNat : Int) / 64 = 1 := by omega
        go_wp2_with (fail)
        go_quiet (fail)
        go_wp2_with (fail)
        go_quiet (fail)
        go_wp2_with (fail)
        go_ret
        refine ⟨?_, below_drewN hB _⟩
        rw [key, if_neg (by decide), if_pos (by decide)]
        simp only [bitM, Ins.word, h4]
        rfl
      · have h5 : ((s[q]'hq).toNat : Int) / 64 = 2 := by omega
        go_wp2_with (fail)
        go_quiet (fail)
        go_wp2_with (fail)
        go_quiet (fail)
        go_wp2_with (fail)
        go_ret
        refine ⟨?_, below_drewN hB _⟩
        rw [key, if_neg (by decide), if_pos (by decide)]
        simp only [bitM, Ins.word, h4]
        rfl
      · have h5 : ((s[q]'hq).toNat : Int) / 64 = 3 := by omega
        go_wp2_with (fail)
        go_quiet (fail)
        go_wp2_with (fail)
        go_quiet (fail)
        go_wp2_with (fail)
        go_ret
        refine ⟨?_, below_drewN hB _⟩
        rw [key, if_neg (by decide), if_pos (by decide)]
        simp only [bitM, Ins.word, h4]
        rfl
    have e3 : (op == 3) = false := beq_eq_false_iff_ne.2 c3
    have e6 : (op == 6) = false := beq_eq_false_iff_ne.2 c6
    have e7 : (op == 7) = false := beq_eq_false_iff_ne.2 c7
    go_wp2_with (fail)
    go_quiet (fail)
    go_wp2_with (fail)
    go_quiet (fail)
    go_wp2_with (fail)
    go_ret
    refine ⟨?_, below_drewN hB _⟩
    rw [key, if_neg (fun h => h.elim c2 c5), if_neg (fun h => h.elim c3 (fun h => h.elim c6 c7))]
    rfl
end Go.Proofs.YthjlpcecfkboiaaDoor
