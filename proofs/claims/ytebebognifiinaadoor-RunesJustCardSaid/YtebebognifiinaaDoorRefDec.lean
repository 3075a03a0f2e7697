/-
  The document's Decode of a code point: what it answers, as plain words.
-/
import Derived.Test.YtebebognifiinaaDoorCode
import Derived.Test.YtebebognifiinaaDoorGrow
import Derived.LoopTactic
import Derived.Laws.Strings2
namespace Go.Proofs.YtebebognifiinaaDoor
open Go.RowKit
set_option linter.unusedVariables false
set_option linter.unusedSimpArgs false
def byteAt (s : ByteArray) (i : Nat) : Int := ((s.get! i).toNat : Int)
theorem byteAt_lo (s : ByteArray) (i : Nat) : 0 ≤ byteAt s i := Int.natCast_nonneg _
theorem byteAt_hi (s : ByteArray) (i : Nat) : byteAt s i ≤ 255 := by have := (s.get! i).toNat_lt; unfold byteAt; omega
theorem byteAt_get (s : ByteArray) (i : Nat) (h : i < s.size) : ((s[i]'h).toNat : Int) = byteAt s i := by
  unfold byteAt; rw [show s.get! i = s[i]'h from by simp [ByteArray.get!, getElem!_pos, h]; rfl]
def headOf (n : Nat) : Int := if n = 2 then 192 else if n = 3 then 224 else if n = 4 then 240 else 0
/-- The number that so many bytes would tell: from the i-th on. -/
def inFin (s : ByteArray) (a n : Nat) : Nat → Nat → Int → Int
  | 0, _, r => r
  | f + 1, i, r => if i < n ∧ 0 ≤ r then inFin s a n f (i + 1) (r * 64 + byteAt s (a + i) - 128) else r
def sizeL (r : Int) : Nat := if r ≤ 127 then 1 else if r ≤ 2047 then 2 else if r ≤ 65535 then 3 else 4
/-- Is it the code point of so many bytes at a place? -/
def fitsR (s : ByteArray) (a n : Nat) (r : Int) : Prop := isRune r ∧ sizeL r = n ∧ strOfNums (codeL r) = s.extract a (a + n)
instance (s : ByteArray) (a n : Nat) (r : Int) : Decidable (fitsR s a n r) := by unfold fitsR; infer_instance
def decFin (s : ByteArray) (a : Nat) : Nat → Nat → Int × Int × Bool
  | 0, _ => (0, 0, false)
  | f + 1, n => if n ≤ 4 ∧ a + n ≤ s.size then (if fitsR s a n (inFin s a n 4 1 (byteAt s a - headOf n)) then (inFin s a n 4 1 (byteAt s a - headOf n), (n : Int), true) else decFin s a f (n + 1)) else (0, 0, false)
def refDec (s : ByteArray) (at_ : Int) : Int × Int × Bool := if at_ < 0 ∨ (s.size : Int) ≤ at_ then (0, 0, false) else decFin s at_.toNat 5 1
theorem is_any (r : Int) (w : World) : Calls Tryd.prog 29 #[.int .i64 r] w fun e w' => e = .returned (.bool (decide (isRune r))) ∧ w = w' := by
  generalize hb : decide (isRune r) = b
  go_enter Tryd.func29, Tryd.ntmps29
  by_cases h1 : 0 ≤ r
  · by_cases h2 : r ≤ 1114111
    · by_cases h3 : 55296 ≤ r
      · by_cases h4 : r ≤ 57343
        · obtain rfl : b = false := hb.symm.trans (decide_eq_false (by unfold isRune; omega))
          clear hb
          go_wp2
          go_ret
          exact ⟨rfl, rfl⟩
        · obtain rfl : b = true := hb.symm.trans (decide_eq_true (by unfold isRune; omega))
          clear hb
          go_wp2
          go_ret
          exact ⟨rfl, rfl⟩
      · obtain rfl : b = true := hb.symm.trans (decide_eq_true (by unfold isRune; omega))
        clear hb
        go_wp2
        go_ret
        exact ⟨rfl, rfl⟩
    · obtain rfl : b = false := hb.symm.trans (decide_eq_false (by unfold isRune; omega))
      clear hb
      go_wp2
      go_ret
      exact ⟨rfl, rfl⟩
  · obtain rfl : b = false := hb.symm.trans (decide_eq_false (by unfold isRune; omega))
    clear hb
    go_wp2
    go_ret
    exact ⟨rfl, rfl⟩
theorem is_b (r : Int) (w : World) : Calls Tryd.prog 29 #[.int .i64 r] w fun e w' => e = .returned (.bool (decide (isRune r))) ∧ Below w.heap.size w w' := (is_any r w).mono fun e w' ⟨h1, h2⟩ => ⟨h1, h2 ▸ Below.refl _ _⟩
theorem size_b (r : Int) (w : World) : Calls Tryd.prog 30 #[.int .i64 r] w fun e w' => e = .returned (.int .i64 (sizeL r)) ∧ Below w.heap.size w w' := (size_any r w).mono fun e w' ⟨h1, h2⟩ => by
  have : (if r ≤ 127 then (1 : Int) else if r ≤ 2047 then 2 else if r ≤ 65535 then 3 else 4) = (sizeL r : Int) := by unfold sizeL; split; rfl; split; rfl; split; rfl; rfl
  rw [this] at h1
  exact ⟨h1, h2 ▸ Below.refl _ _⟩
def bndR (m : Nat) : Int := if m = 1 then 300 else if m = 2 then 20000 else if m = 3 then 1300000 else 90000000
theorem text_ne {x y : ByteArray} (h : x ≠ y) : (x.toList == y.toList) = false := by
  rw [beq_eq_false_iff_ne, ByteArray.toList_eq, ByteArray.toList_eq]
  intro e
  exact h (ByteArray.ext (Array.ext' e))
theorem inFin_stop {s : ByteArray} {a n f i : Nat} {r : Int} (h : ¬ (i < n ∧ 0 ≤ r)) : inFin s a n f i r = r := by
  cases f with
  | zero => rfl
  | succ f => simp only [inFin, if_neg h]
set_option maxHeartbeats 8000000 in
set_option maxRecDepth 100000 in
theorem refDec_any (s : ByteArray) (at_ : Int) (w : World) (hs : s.size ≤ 4611686018427387904) (hat : at_ ≤ 9223372036854775807) :
    Calls Tryd.prog 23 #[.string s, .int .i64 at_] w fun e w' => e = .returned (.tuple #[.int .i64 (refDec s at_).1, .int .i64 (refDec s at_).2.1, .bool (refDec s at_).2.2]) ∧ Below w.heap.size w w' := by
  generalize hF : refDec s at_ = F
  unfold refDec at hF
  go_enter Tryd.func23, Tryd.ntmps23
  by_cases h0 : at_ < 0
  · rw [if_pos (.inl h0)] at hF
    subst hF
    go_wp2
    go_ret3
    exact ⟨rfl, Below.refl _ _⟩
  by_cases h1 : (s.size : Int) ≤ at_
  · rw [if_pos (.inr h1)] at hF
    subst hF
    go_wp2
    go_ret3
    exact ⟨rfl, Below.refl _ _⟩
  rw [if_neg (by omega)] at hF
  obtain ⟨a, rfl⟩ : ∃ a : Nat, at_ = a := ⟨at_.toNat, by omega⟩
  rw [Int.toNat_natCast] at hF
  have hlt : a < s.size := by omega
  go_wp2_with (fail)
  go_loopw [8] (fun n wr => ∃ j : Nat, ((j = 1 ∧ n = .int .i64 1) ∨ (j = 2 ∧ n = .int .i64 2) ∨ (j = 3 ∧ n = .int .i64 3) ∨ (j = 4 ∧ n = .int .i64 4) ∨ (j = 5 ∧ n = .int .i64 5)) ∧ decFin s a (6 - j) j = F ∧ wr.heap[w.heap.size]? = some (.cells #[.int .i64 0, .int .i64 0, .int .i64 192, .int .i64 224, .int .i64 240] 64) ∧ Below w.heap.size w wr) (fun n _ => 6 - (intOf n).toNat)
  case atStart => exact ⟨1, .inl ⟨rfl, rfl⟩, hF, alloc_new _ _, (Below.refl _ _).alloc (Nat.le_refl _) _⟩
  case round =>
    obtain ⟨j, hj, hd, hH, hB⟩ := hrel
    have hld := block_cell hH
    rcases hj with ⟨rfl, rfl⟩ | ⟨rfl, rfl⟩ | ⟨rfl, rfl⟩ | ⟨rfl, rfl⟩ | ⟨rfl, rfl⟩
    · by_cases hfit : a + 1 ≤ s.size
      · replace hd : (if 1 ≤ 4 ∧ a + 1 ≤ s.size then (if fitsR s a 1 (inFin s a 1 4 1 (byteAt s a - headOf 1)) then (inFin s a 1 4 1 (byteAt s a - headOf 1), ((1 : Nat) : Int), true) else decFin s a 4 2) else (0, 0, false)) = F := hd
        rw [if_pos ⟨by decide, hfit⟩, show headOf 1 = 0 from rfl] at hd
        generalize hR : inFin s a 1 4 1 (byteAt s a - 0) = R at hd
        have hb0 := byteAt_lo s a
        have hb1 := byteAt_hi s a
        have hg := byteAt_get s a hlt
        go_wp2_with (fail)
        go_quiet (fail)
        go_wp2_with (fail)
        go_loopw [9, 10] (fun r i wq => ∃ (m : Nat) (x : Int), ((m = 1 ∧ i = .int .i64 1)) ∧ r = .int .i64 x ∧ inFin s a 1 (5 - m) m x = R ∧ -1000 ≤ x ∧ x ≤ bndR m ∧ wq.heap[w.heap.size]? = some (.cells #[.int .i64 0, .int .i64 0, .int .i64 192, .int .i64 224, .int .i64 240] 64) ∧ Below w.heap.size w wq) (fun _ i _ => 1 - (intOf i).toNat)
        case atStart => exact ⟨1, byteAt s a, ⟨rfl, rfl⟩, rfl, by rw [← hR, Int.sub_zero], by omega, by show _ ≤ (300 : Int); omega, hH, below_drewN hB _⟩
        case round =>
          obtain ⟨m, x, hmj, rfl, hin, hx0, hx1, hHq, hBq⟩ := hrel
          have hszq := block_lt hHq
          rcases hmj with ⟨rfl, rfl⟩
          · have hfit2 : (a : Int) + 1 ≤ (s.size : Int) := by omega
            rw [inFin_stop (by omega)] at hin
            subst hin
            by_cases hi : isRune x
            · have cI : Hid (∀ w : World, Calls Tryd.prog 29 #[.int .i64 x] w fun e w' => e = .returned (.bool true) ∧ Below w.heap.size w w') := hid (fun w => by have z := is_b x w; rwa [decide_eq_true hi] at z)
              have cS : Hid (∀ w : World, Calls Tryd.prog 30 #[.int .i64 x] w fun e w' => e = .returned (.int .i64 (sizeL x : Int)) ∧ Below w.heap.size w w') := hid (fun w => by exact size_b x w)
              by_cases hs : sizeL x = 1
              · rw [hs] at cS
                have cC : Hid (∀ w : World, Calls Tryd.prog 31 #[.int .i64 x] w fun e w' => e = .returned (.string (strOfNums (codeL x))) ∧ Below w.heap.size w w') := hid (fun w => by exact code_any x hi.1 hi.2.1 w)
                have hsl : ∀ w : World, (Instr.slice 9 (.string s) (some (.int .i64 a)) (some (.int .i64 ((a : Int) + 1))) none).run Tryd.prog w = .ok (.string (s.extract a (a + 1))) w := fun w => by have z := run_slice_string (P := Tryd.prog) w 9 s .i64 .i64 (a : Int) ((a : Int) + 1) Tryd.underlying9 (by omega) (by omega) hfit2; rwa [show ((a : Int) + 1).toNat = a + 1 from by omega, Int.toNat_natCast] at z
                by_cases hc : strOfNums (codeL x) = s.extract a (a + 1)
                · rw [if_pos ⟨hi, hs, hc⟩] at hd
                  rw [hc] at cC
                  go_wp2_with (fail)
                  refine wp_region_grow wr.heap.size (by kernel_rfl) (by kernel_rfl) ?_
                  repeat (go_big_quiet_step (first | (go_at_call 29; with_reducible refine Calls.grow_of (Nat.le_refl _) (cI.out _); done) | (go_at_call 30; with_reducible refine Calls.grow_of (Nat.le_refl _) (cS.out _); done) | (go_at_call 31; with_reducible refine Calls.grow_of (Nat.le_refl _) (cC.out _); done)))
                  refine wpQuiet_nil ?_
                  rintro _ ⟨g, rfl⟩
                  have hH2 := grow_heap hHq (block_lt hHq) g
                  have hB2 := hBq.trans (g.below.mono hBq.size)
                  generalize g.val = w1 at *
                  go_wp2_with (fail)
                  go_ret3
                  rw [← hd]
                  exact ⟨rfl, hB2⟩
                · rw [if_neg (fun h => hc h.2.2)] at hd
                  have hc2 : ((strOfNums (codeL x)).toList == (s.extract a (a + 1)).toList) = false := text_ne hc
                  go_wp2_with (fail)
                  refine wp_region_grow wr.heap.size (by kernel_rfl) (by kernel_rfl) ?_
                  repeat (go_big_quiet_step (first | (go_at_call 29; with_reducible refine Calls.grow_of (Nat.le_refl _) (cI.out _); done) | (go_at_call 30; with_reducible refine Calls.grow_of (Nat.le_refl _) (cS.out _); done) | (go_at_call 31; with_reducible refine Calls.grow_of (Nat.le_refl _) (cC.out _); done)))
                  refine wpQuiet_nil ?_
                  rintro _ ⟨g, rfl⟩
                  have hH2 := grow_heap hHq (block_lt hHq) g
                  have hB2 := hBq.trans (g.below.mono hBq.size)
                  generalize g.val = w1 at *
                  go_wp2_with (fail)
                  go_roundw
                  case rel => exact ⟨2, .inr (.inl ⟨rfl, rfl⟩), hd, hH2, hB2⟩
                  case measure => decide
              · rw [if_neg (fun h => hs h.2.1)] at hd
                have hs2 : ((sizeL x : Int) == 1) = false := by rw [beq_eq_false_iff_ne]; omega
                go_wp2_with (fail)
                refine wp_region_grow wr.heap.size (by kernel_rfl) (by kernel_rfl) ?_
                repeat (go_big_quiet_step (first | (go_at_call 29; with_reducible refine Calls.grow_of (Nat.le_refl _) (cI.out _); done) | (go_at_call 30; with_reducible refine Calls.grow_of (Nat.le_refl _) (cS.out _); done)))
                refine wpQuiet_nil ?_
                rintro _ ⟨g, rfl⟩
                have hH2 := grow_heap hHq (block_lt hHq) g
                have hB2 := hBq.trans (g.below.mono hBq.size)
                generalize g.val = w1 at *
                go_wp2_with (fail)
                go_roundw
                case rel => exact ⟨2, .inr (.inl ⟨rfl, rfl⟩), hd, hH2, hB2⟩
                case measure => decide
            · rw [if_neg (fun h => hi h.1)] at hd
              have cI : Hid (∀ w : World, Calls Tryd.prog 29 #[.int .i64 x] w fun e w' => e = .returned (.bool false) ∧ Below w.heap.size w w') := hid (fun w => by have z := is_b x w; rwa [decide_eq_false hi] at z)
              go_wp2_with (fail)
              refine wp_region_grow wr.heap.size (by kernel_rfl) (by kernel_rfl) ?_
              repeat (go_big_quiet_step (first | (go_at_call 29; with_reducible refine Calls.grow_of (Nat.le_refl _) (cI.out _); done)))
              refine wpQuiet_nil ?_
              rintro _ ⟨g, rfl⟩
              have hH2 := grow_heap hHq (block_lt hHq) g
              have hB2 := hBq.trans (g.below.mono hBq.size)
              generalize g.val = w1 at *
              go_wp2_with (fail)
              go_roundw
              case rel => exact ⟨2, .inr (.inl ⟨rfl, rfl⟩), hd, hH2, hB2⟩
              case measure => decide
      · exact absurd hlt (by omega)
    · by_cases hfit : a + 2 ≤ s.size
      · replace hd : (if 2 ≤ 4 ∧ a + 2 ≤ s.size then (if fitsR s a 2 (inFin s a 2 4 1 (byteAt s a - headOf 2)) then (inFin s a 2 4 1 (byteAt s a - headOf 2), ((2 : Nat) : Int), true) else decFin s a 3 3) else (0, 0, false)) = F := hd
        rw [if_pos ⟨by decide, hfit⟩, show headOf 2 = 192 from rfl] at hd
        generalize hR : inFin s a 2 4 1 (byteAt s a - 192) = R at hd
        have hb0 := byteAt_lo s a
        have hb1 := byteAt_hi s a
        have hg := byteAt_get s a hlt
        go_wp2_with (fail)
        go_quiet (fail)
        go_wp2_with (fail)
        go_loopw [9, 10] (fun r i wq => ∃ (m : Nat) (x : Int), ((m = 1 ∧ i = .int .i64 1) ∨ (m = 2 ∧ i = .int .i64 2)) ∧ r = .int .i64 x ∧ inFin s a 2 (5 - m) m x = R ∧ -1000 ≤ x ∧ x ≤ bndR m ∧ wq.heap[w.heap.size]? = some (.cells #[.int .i64 0, .int .i64 0, .int .i64 192, .int .i64 224, .int .i64 240] 64) ∧ Below w.heap.size w wq) (fun _ i _ => 2 - (intOf i).toNat)
        case atStart => exact ⟨1, byteAt s a - 192, .inl ⟨rfl, rfl⟩, rfl, hR, by omega, by show _ ≤ (300 : Int); omega, hH, below_drewN hB _⟩
        case round =>
          obtain ⟨m, x, hmj, rfl, hin, hx0, hx1, hHq, hBq⟩ := hrel
          have hszq := block_lt hHq
          rcases hmj with ⟨rfl, rfl⟩ | ⟨rfl, rfl⟩
          · by_cases hx : 0 ≤ x
            · replace hin : (if 1 < 2 ∧ 0 ≤ x then inFin s a 2 3 2 (x * 64 + byteAt s (a + 1) - 128) else x) = R := hin
              rw [if_pos ⟨by decide, hx⟩] at hin
              have hg2 := byteAt_get s (a + 1) (by omega)
              have hc0 := byteAt_lo s (a + 1)
              have hc1 := byteAt_hi s (a + 1)
              have hlt2 : (a : Int) + 1 < (s.size : Int) := by omega
              have hlt3 : (0 : Int) ≤ (a : Int) + 1 ∧ (a : Int) + 1 < (s.size : Int) := by omega
              have hbx : x ≤ 300 := hx1
              go_wp2_with (fail)
              go_roundw
              case rel => exact ⟨2, x * 64 + byteAt s (a + 1) - 128, .inr (⟨rfl, rfl⟩), rfl, hin, by omega, by show _ ≤ (20000 : Int); omega, hHq, hBq⟩
              case measure => decide
            · rw [inFin_stop (by omega)] at hin
              subst hin
              have hn : ¬ isRune x := fun h => hx h.1
              rw [if_neg (fun h => hn h.1)] at hd
              have cI : Hid (∀ w : World, Calls Tryd.prog 29 #[.int .i64 x] w fun e w' => e = .returned (.bool false) ∧ Below w.heap.size w w') := hid (fun w => by have z := is_b x w; rwa [decide_eq_false hn] at z)
              go_wp2_with (fail)
              refine wp_region_grow wr.heap.size (by kernel_rfl) (by kernel_rfl) ?_
              repeat (go_big_quiet_step (first | (go_at_call 29; with_reducible refine Calls.grow_of (Nat.le_refl _) (cI.out _); done)))
              refine wpQuiet_nil ?_
              rintro _ ⟨g, rfl⟩
              have hH2 := grow_heap hHq (block_lt hHq) g
              have hB2 := hBq.trans (g.below.mono hBq.size)
              generalize g.val = w1 at *
              go_wp2_with (fail)
              go_roundw
              case rel => exact ⟨3, .inr (.inr (.inl ⟨rfl, rfl⟩)), hd, hH2, hB2⟩
              case measure => decide
          · have hfit2 : (a : Int) + 2 ≤ (s.size : Int) := by omega
            rw [inFin_stop (by omega)] at hin
            subst hin
            by_cases hi : isRune x
            · have cI : Hid (∀ w : World, Calls Tryd.prog 29 #[.int .i64 x] w fun e w' => e = .returned (.bool true) ∧ Below w.heap.size w w') := hid (fun w => by have z := is_b x w; rwa [decide_eq_true hi] at z)
              have cS : Hid (∀ w : World, Calls Tryd.prog 30 #[.int .i64 x] w fun e w' => e = .returned (.int .i64 (sizeL x : Int)) ∧ Below w.heap.size w w') := hid (fun w => by exact size_b x w)
              by_cases hs : sizeL x = 2
              · rw [hs] at cS
                have cC : Hid (∀ w : World, Calls Tryd.prog 31 #[.int .i64 x] w fun e w' => e = .returned (.string (strOfNums (codeL x))) ∧ Below w.heap.size w w') := hid (fun w => by exact code_any x hi.1 hi.2.1 w)
                have hsl : ∀ w : World, (Instr.slice 9 (.string s) (some (.int .i64 a)) (some (.int .i64 ((a : Int) + 2))) none).run Tryd.prog w = .ok (.string (s.extract a (a + 2))) w := fun w => by have z := run_slice_string (P := Tryd.prog) w 9 s .i64 .i64 (a : Int) ((a : Int) + 2) Tryd.underlying9 (by omega) (by omega) hfit2; rwa [show ((a : Int) + 2).toNat = a + 2 from by omega, Int.toNat_natCast] at z
                by_cases hc : strOfNums (codeL x) = s.extract a (a + 2)
                · rw [if_pos ⟨hi, hs, hc⟩] at hd
                  rw [hc] at cC
                  go_wp2_with (fail)
                  refine wp_region_grow wr.heap.size (by kernel_rfl) (by kernel_rfl) ?_
                  repeat (go_big_quiet_step (first | (go_at_call 29; with_reducible refine Calls.grow_of (Nat.le_refl _) (cI.out _); done) | (go_at_call 30; with_reducible refine Calls.grow_of (Nat.le_refl _) (cS.out _); done) | (go_at_call 31; with_reducible refine Calls.grow_of (Nat.le_refl _) (cC.out _); done)))
                  refine wpQuiet_nil ?_
                  rintro _ ⟨g, rfl⟩
                  have hH2 := grow_heap hHq (block_lt hHq) g
                  have hB2 := hBq.trans (g.below.mono hBq.size)
                  generalize g.val = w1 at *
                  go_wp2_with (fail)
                  go_ret3
                  rw [← hd]
                  exact ⟨rfl, hB2⟩
                · rw [if_neg (fun h => hc h.2.2)] at hd
                  have hc2 : ((strOfNums (codeL x)).toList == (s.extract a (a + 2)).toList) = false := text_ne hc
                  go_wp2_with (fail)
                  refine wp_region_grow wr.heap.size (by kernel_rfl) (by kernel_rfl) ?_
                  repeat (go_big_quiet_step (first | (go_at_call 29; with_reducible refine Calls.grow_of (Nat.le_refl _) (cI.out _); done) | (go_at_call 30; with_reducible refine Calls.grow_of (Nat.le_refl _) (cS.out _); done) | (go_at_call 31; with_reducible refine Calls.grow_of (Nat.le_refl _) (cC.out _); done)))
                  refine wpQuiet_nil ?_
                  rintro _ ⟨g, rfl⟩
                  have hH2 := grow_heap hHq (block_lt hHq) g
                  have hB2 := hBq.trans (g.below.mono hBq.size)
                  generalize g.val = w1 at *
                  go_wp2_with (fail)
                  go_roundw
                  case rel => exact ⟨3, .inr (.inr (.inl ⟨rfl, rfl⟩)), hd, hH2, hB2⟩
                  case measure => decide
              · rw [if_neg (fun h => hs h.2.1)] at hd
                have hs2 : ((sizeL x : Int) == 2) = false := by rw [beq_eq_false_iff_ne]; omega
                go_wp2_with (fail)
                refine wp_region_grow wr.heap.size (by kernel_rfl) (by kernel_rfl) ?_
                repeat (go_big_quiet_step (first | (go_at_call 29; with_reducible refine Calls.grow_of (Nat.le_refl _) (cI.out _); done) | (go_at_call 30; with_reducible refine Calls.grow_of (Nat.le_refl _) (cS.out _); done)))
                refine wpQuiet_nil ?_
                rintro _ ⟨g, rfl⟩
                have hH2 := grow_heap hHq (block_lt hHq) g
                have hB2 := hBq.trans (g.below.mono hBq.size)
                generalize g.val = w1 at *
                go_wp2_with (fail)
                go_roundw
                case rel => exact ⟨3, .inr (.inr (.inl ⟨rfl, rfl⟩)), hd, hH2, hB2⟩
                case measure => decide
            · rw [if_neg (fun h => hi h.1)] at hd
              have cI : Hid (∀ w : World, Calls Tryd.prog 29 #[.int .i64 x] w fun e w' => e = .returned (.bool false) ∧ Below w.heap.size w w') := hid (fun w => by have z := is_b x w; rwa [decide_eq_false hi] at z)
              go_wp2_with (fail)
              refine wp_region_grow wr.heap.size (by kernel_rfl) (by kernel_rfl) ?_
              repeat (go_big_quiet_step (first | (go_at_call 29; with_reducible refine Calls.grow_of (Nat.le_refl _) (cI.out _); done)))
              refine wpQuiet_nil ?_
              rintro _ ⟨g, rfl⟩
              have hH2 := grow_heap hHq (block_lt hHq) g
              have hB2 := hBq.trans (g.below.mono hBq.size)
              generalize g.val = w1 at *
              go_wp2_with (fail)
              go_roundw
              case rel => exact ⟨3, .inr (.inr (.inl ⟨rfl, rfl⟩)), hd, hH2, hB2⟩
              case measure => decide
      · replace hd : (if 2 ≤ 4 ∧ a + 2 ≤ s.size then (if fitsR s a 2 (inFin s a 2 4 1 (byteAt s a - headOf 2)) then (inFin s a 2 4 1 (byteAt s a - headOf 2), ((2 : Nat) : Int), true) else decFin s a 3 3) else (0, 0, false)) = F := hd
        rw [if_neg (fun h => hfit h.2)] at hd
        have hfit2 : (s.size : Int) < (a : Int) + 2 := by omega
        go_wp2_with (fail)
        go_ret3
        rw [← hd]
        exact ⟨rfl, hB⟩
    · by_cases hfit : a + 3 ≤ s.size
      · replace hd : (if 3 ≤ 4 ∧ a + 3 ≤ s.size then (if fitsR s a 3 (inFin s a 3 4 1 (byteAt s a - headOf 3)) then (inFin s a 3 4 1 (byteAt s a - headOf 3), ((3 : Nat) : Int), true) else decFin s a 2 4) else (0, 0, false)) = F := hd
        rw [if_pos ⟨by decide, hfit⟩, show headOf 3 = 224 from rfl] at hd
        generalize hR : inFin s a 3 4 1 (byteAt s a - 224) = R at hd
        have hb0 := byteAt_lo s a
        have hb1 := byteAt_hi s a
        have hg := byteAt_get s a hlt
        go_wp2_with (fail)
        go_quiet (fail)
        go_wp2_with (fail)
        go_loopw [9, 10] (fun r i wq => ∃ (m : Nat) (x : Int), ((m = 1 ∧ i = .int .i64 1) ∨ (m = 2 ∧ i = .int .i64 2) ∨ (m = 3 ∧ i = .int .i64 3)) ∧ r = .int .i64 x ∧ inFin s a 3 (5 - m) m x = R ∧ -1000 ≤ x ∧ x ≤ bndR m ∧ wq.heap[w.heap.size]? = some (.cells #[.int .i64 0, .int .i64 0, .int .i64 192, .int .i64 224, .int .i64 240] 64) ∧ Below w.heap.size w wq) (fun _ i _ => 3 - (intOf i).toNat)
        case atStart => exact ⟨1, byteAt s a - 224, .inl ⟨rfl, rfl⟩, rfl, hR, by omega, by show _ ≤ (300 : Int); omega, hH, below_drewN hB _⟩
        case round =>
          obtain ⟨m, x, hmj, rfl, hin, hx0, hx1, hHq, hBq⟩ := hrel
          have hszq := block_lt hHq
          rcases hmj with ⟨rfl, rfl⟩ | ⟨rfl, rfl⟩ | ⟨rfl, rfl⟩
          · by_cases hx : 0 ≤ x
            · replace hin : (if 1 < 3 ∧ 0 ≤ x then inFin s a 3 3 2 (x * 64 + byteAt s (a + 1) - 128) else x) = R := hin
              rw [if_pos ⟨by decide, hx⟩] at hin
              have hg2 := byteAt_get s (a + 1) (by omega)
              have hc0 := byteAt_lo s (a + 1)
              have hc1 := byteAt_hi s (a + 1)
              have hlt2 : (a : Int) + 1 < (s.size : Int) := by omega
              have hlt3 : (0 : Int) ≤ (a : Int) + 1 ∧ (a : Int) + 1 < (s.size : Int) := by omega
              have hbx : x ≤ 300 := hx1
              go_wp2_with (fail)
              go_roundw
              case rel => exact ⟨2, x * 64 + byteAt s (a + 1) - 128, .inr (.inl ⟨rfl, rfl⟩), rfl, hin, by omega, by show _ ≤ (20000 : Int); omega, hHq, hBq⟩
              case measure => decide
            · rw [inFin_stop (by omega)] at hin
              subst hin
              have hn : ¬ isRune x := fun h => hx h.1
              rw [if_neg (fun h => hn h.1)] at hd
              have cI : Hid (∀ w : World, Calls Tryd.prog 29 #[.int .i64 x] w fun e w' => e = .returned (.bool false) ∧ Below w.heap.size w w') := hid (fun w => by have z := is_b x w; rwa [decide_eq_false hn] at z)
              go_wp2_with (fail)
              refine wp_region_grow wr.heap.size (by kernel_rfl) (by kernel_rfl) ?_
              repeat (go_big_quiet_step (first | (go_at_call 29; with_reducible refine Calls.grow_of (Nat.le_refl _) (cI.out _); done)))
              refine wpQuiet_nil ?_
              rintro _ ⟨g, rfl⟩
              have hH2 := grow_heap hHq (block_lt hHq) g
              have hB2 := hBq.trans (g.below.mono hBq.size)
              generalize g.val = w1 at *
              go_wp2_with (fail)
              go_roundw
              case rel => exact ⟨4, .inr (.inr (.inr (.inl ⟨rfl, rfl⟩))), hd, hH2, hB2⟩
              case measure => decide
          · by_cases hx : 0 ≤ x
            · replace hin : (if 2 < 3 ∧ 0 ≤ x then inFin s a 3 2 3 (x * 64 + byteAt s (a + 2) - 128) else x) = R := hin
              rw [if_pos ⟨by decide, hx⟩] at hin
              have hg2 := byteAt_get s (a + 2) (by omega)
              have hc0 := byteAt_lo s (a + 2)
              have hc1 := byteAt_hi s (a + 2)
              have hlt2 : (a : Int) + 2 < (s.size : Int) := by omega
              have hlt3 : (0 : Int) ≤ (a : Int) + 2 ∧ (a : Int) + 2 < (s.size : Int) := by omega
              have hbx : x ≤ 20000 := hx1
              go_wp2_with (fail)
              go_roundw
              case rel => exact ⟨3, x * 64 + byteAt s (a + 2) - 128, .inr (.inr (⟨rfl, rfl⟩)), rfl, hin, by omega, by show _ ≤ (1300000 : Int); omega, hHq, hBq⟩
              case measure => decide
            · rw [inFin_stop (by omega)] at hin
              subst hin
              have hn : ¬ isRune x := fun h => hx h.1
              rw [if_neg (fun h => hn h.1)] at hd
              have cI : Hid (∀ w : World, Calls Tryd.prog 29 #[.int .i64 x] w fun e w' => e = .returned (.bool false) ∧ Below w.heap.size w w') := hid (fun w => by have z := is_b x w; rwa [decide_eq_false hn] at z)
              go_wp2_with (fail)
              refine wp_region_grow wr.heap.size (by kernel_rfl) (by kernel_rfl) ?_
              repeat (go_big_quiet_step (first | (go_at_call 29; with_reducible refine Calls.grow_of (Nat.le_refl _) (cI.out _); done)))
              refine wpQuiet_nil ?_
              rintro _ ⟨g, rfl⟩
              have hH2 := grow_heap hHq (block_lt hHq) g
              have hB2 := hBq.trans (g.below.mono hBq.size)
              generalize g.val = w1 at *
              go_wp2_with (fail)
              go_roundw
              case rel => exact ⟨4, .inr (.inr (.inr (.inl ⟨rfl, rfl⟩))), hd, hH2, hB2⟩
              case measure => decide
          · have hfit2 : (a : Int) + 3 ≤ (s.size : Int) := by omega
            rw [inFin_stop (by omega)] at hin
            subst hin
            by_cases hi : isRune x
            · have cI : Hid (∀ w : World, Calls Tryd.prog 29 #[.int .i64 x] w fun e w' => e = .returned (.bool true) ∧ Below w.heap.size w w') := hid (fun w => by have z := is_b x w; rwa [decide_eq_true hi] at z)
              have cS : Hid (∀ w : World, Calls Tryd.prog 30 #[.int .i64 x] w fun e w' => e = .returned (.int .i64 (sizeL x : Int)) ∧ Below w.heap.size w w') := hid (fun w => by exact size_b x w)
              by_cases hs : sizeL x = 3
              · rw [hs] at cS
                have cC : Hid (∀ w : World, Calls Tryd.prog 31 #[.int .i64 x] w fun e w' => e = .returned (.string (strOfNums (codeL x))) ∧ Below w.heap.size w w') := hid (fun w => by exact code_any x hi.1 hi.2.1 w)
                have hsl : ∀ w : World, (Instr.slice 9 (.string s) (some (.int .i64 a)) (some (.int .i64 ((a : Int) + 3))) none).run Tryd.prog w = .ok (.string (s.extract a (a + 3))) w := fun w => by have z := run_slice_string (P := Tryd.prog) w 9 s .i64 .i64 (a : Int) ((a : Int) + 3) Tryd.underlying9 (by omega) (by omega) hfit2; rwa [show ((a : Int) + 3).toNat = a + 3 from by omega, Int.toNat_natCast] at z
                by_cases hc : strOfNums (codeL x) = s.extract a (a + 3)
                · rw [if_pos ⟨hi, hs, hc⟩] at hd
                  rw [hc] at cC
                  go_wp2_with (fail)
                  refine wp_region_grow wr.heap.size (by kernel_rfl) (by kernel_rfl) ?_
                  repeat (go_big_quiet_step (first | (go_at_call 29; with_reducible refine Calls.grow_of (Nat.le_refl _) (cI.out _); done) | (go_at_call 30; with_reducible refine Calls.grow_of (Nat.le_refl _) (cS.out _); done) | (go_at_call 31; with_reducible refine Calls.grow_of (Nat.le_refl _) (cC.out _); done)))
                  refine wpQuiet_nil ?_
                  rintro _ ⟨g, rfl⟩
                  have hH2 := grow_heap hHq (block_lt hHq) g
                  have hB2 := hBq.trans (g.below.mono hBq.size)
                  generalize g.val = w1 at *
                  go_wp2_with (fail)
                  go_ret3
                  rw [← hd]
                  exact ⟨rfl, hB2⟩
                · rw [if_neg (fun h => hc h.2.2)] at hd
                  have hc2 : ((strOfNums (codeL x)).toList == (s.extract a (a + 3)).toList) = false := text_ne hc
                  go_wp2_with (fail)
                  refine wp_region_grow wr.heap.size (by kernel_rfl) (by kernel_rfl) ?_
                  repeat (go_big_quiet_step (first | (go_at_call 29; with_reducible refine Calls.grow_of (Nat.le_refl _) (cI.out _); done) | (go_at_call 30; with_reducible refine Calls.grow_of (Nat.le_refl _) (cS.out _); done) | (go_at_call 31; with_reducible refine Calls.grow_of (Nat.le_refl _) (cC.out _); done)))
                  refine wpQuiet_nil ?_
                  rintro _ ⟨g, rfl⟩
                  have hH2 := grow_heap hHq (block_lt hHq) g
                  have hB2 := hBq.trans (g.below.mono hBq.size)
                  generalize g.val = w1 at *
                  go_wp2_with (fail)
                  go_roundw
                  case rel => exact ⟨4, .inr (.inr (.inr (.inl ⟨rfl, rfl⟩))), hd, hH2, hB2⟩
                  case measure => decide
              · rw [if_neg (fun h => hs h.2.1)] at hd
                have hs2 : ((sizeL x : Int) == 3) = false := by rw [beq_eq_false_iff_ne]; omega
                go_wp2_with (fail)
                refine wp_region_grow wr.heap.size (by kernel_rfl) (by kernel_rfl) ?_
                repeat (go_big_quiet_step (first | (go_at_call 29; with_reducible refine Calls.grow_of (Nat.le_refl _) (cI.out _); done) | (go_at_call 30; with_reducible refine Calls.grow_of (Nat.le_refl _) (cS.out _); done)))
                refine wpQuiet_nil ?_
                rintro _ ⟨g, rfl⟩
                have hH2 := grow_heap hHq (block_lt hHq) g
                have hB2 := hBq.trans (g.below.mono hBq.size)
                generalize g.val = w1 at *
                go_wp2_with (fail)
                go_roundw
                case rel => exact ⟨4, .inr (.inr (.inr (.inl ⟨rfl, rfl⟩))), hd, hH2, hB2⟩
                case measure => decide
            · rw [if_neg (fun h => hi h.1)] at hd
              have cI : Hid (∀ w : World, Calls Tryd.prog 29 #[.int .i64 x] w fun e w' => e = .returned (.bool false) ∧ Below w.heap.size w w') := hid (fun w => by have z := is_b x w; rwa [decide_eq_false hi] at z)
              go_wp2_with (fail)
              refine wp_region_grow wr.heap.size (by kernel_rfl) (by kernel_rfl) ?_
              repeat (go_big_quiet_step (first | (go_at_call 29; with_reducible refine Calls.grow_of (Nat.le_refl _) (cI.out _); done)))
              refine wpQuiet_nil ?_
              rintro _ ⟨g, rfl⟩
              have hH2 := grow_heap hHq (block_lt hHq) g
              have hB2 := hBq.trans (g.below.mono hBq.size)
              generalize g.val = w1 at *
              go_wp2_with (fail)
              go_roundw
              case rel => exact ⟨4, .inr (.inr (.inr (.inl ⟨rfl, rfl⟩))), hd, hH2, hB2⟩
              case measure => decide
      · replace hd : (if 3 ≤ 4 ∧ a + 3 ≤ s.size then (if fitsR s a 3 (inFin s a 3 4 1 (byteAt s a - headOf 3)) then (inFin s a 3 4 1 (byteAt s a - headOf 3), ((3 : Nat) : Int), true) else decFin s a 2 4) else (0, 0, false)) = F := hd
        rw [if_neg (fun h => hfit h.2)] at hd
        have hfit2 : (s.size : Int) < (a : Int) + 3 := by omega
        go_wp2_with (fail)
        go_ret3
        rw [← hd]
        exact ⟨rfl, hB⟩
    · by_cases hfit : a + 4 ≤ s.size
      · replace hd : (if 4 ≤ 4 ∧ a + 4 ≤ s.size then (if fitsR s a 4 (inFin s a 4 4 1 (byteAt s a - headOf 4)) then (inFin s a 4 4 1 (byteAt s a - headOf 4), ((4 : Nat) : Int), true) else decFin s a 1 5) else (0, 0, false)) = F := hd
        rw [if_pos ⟨by decide, hfit⟩, show headOf 4 = 240 from rfl] at hd
        generalize hR : inFin s a 4 4 1 (byteAt s a - 240) = R at hd
        have hb0 := byteAt_lo s a
        have hb1 := byteAt_hi s a
        have hg := byteAt_get s a hlt
        go_wp2_with (fail)
        go_quiet (fail)
        go_wp2_with (fail)
        go_loopw [9, 10] (fun r i wq => ∃ (m : Nat) (x : Int), ((m = 1 ∧ i = .int .i64 1) ∨ (m = 2 ∧ i = .int .i64 2) ∨ (m = 3 ∧ i = .int .i64 3) ∨ (m = 4 ∧ i = .int .i64 4)) ∧ r = .int .i64 x ∧ inFin s a 4 (5 - m) m x = R ∧ -1000 ≤ x ∧ x ≤ bndR m ∧ wq.heap[w.heap.size]? = some (.cells #[.int .i64 0, .int .i64 0, .int .i64 192, .int .i64 224, .int .i64 240] 64) ∧ Below w.heap.size w wq) (fun _ i _ => 4 - (intOf i).toNat)
        case atStart => exact ⟨1, byteAt s a - 240, .inl ⟨rfl, rfl⟩, rfl, hR, by omega, by show _ ≤ (300 : Int); omega, hH, below_drewN hB _⟩
        case round =>
          obtain ⟨m, x, hmj, rfl, hin, hx0, hx1, hHq, hBq⟩ := hrel
          have hszq := block_lt hHq
          rcases hmj with ⟨rfl, rfl⟩ | ⟨rfl, rfl⟩ | ⟨rfl, rfl⟩ | ⟨rfl, rfl⟩
          · by_cases hx : 0 ≤ x
            · replace hin : (if 1 < 4 ∧ 0 ≤ x then inFin s a 4 3 2 (x * 64 + byteAt s (a + 1) - 128) else x) = R := hin
              rw [if_pos ⟨by decide, hx⟩] at hin
              have hg2 := byteAt_get s (a + 1) (by omega)
              have hc0 := byteAt_lo s (a + 1)
              have hc1 := byteAt_hi s (a + 1)
              have hlt2 : (a : Int) + 1 < (s.size : Int) := by omega
              have hlt3 : (0 : Int) ≤ (a : Int) + 1 ∧ (a : Int) + 1 < (s.size : Int) := by omega
              have hbx : x ≤ 300 := hx1
              go_wp2_with (fail)
              go_roundw
              case rel => exact ⟨2, x * 64 + byteAt s (a + 1) - 128, .inr (.inl ⟨rfl, rfl⟩), rfl, hin, by omega, by show _ ≤ (20000 : Int); omega, hHq, hBq⟩
              case measure => decide
            · rw [inFin_stop (by omega)] at hin
              subst hin
              have hn : ¬ isRune x := fun h => hx h.1
              rw [if_neg (fun h => hn h.1)] at hd
              have cI : Hid (∀ w : World, Calls Tryd.prog 29 #[.int .i64 x] w fun e w' => e = .returned (.bool false) ∧ Below w.heap.size w w') := hid (fun w => by have z := is_b x w; rwa [decide_eq_false hn] at z)
              go_wp2_with (fail)
              refine wp_region_grow wr.heap.size (by kernel_rfl) (by kernel_rfl) ?_
              repeat (go_big_quiet_step (first | (go_at_call 29; with_reducible refine Calls.grow_of (Nat.le_refl _) (cI.out _); done)))
              refine wpQuiet_nil ?_
              rintro _ ⟨g, rfl⟩
              have hH2 := grow_heap hHq (block_lt hHq) g
              have hB2 := hBq.trans (g.below.mono hBq.size)
              generalize g.val = w1 at *
              go_wp2_with (fail)
              go_roundw
              case rel => exact ⟨5, .inr (.inr (.inr (.inr (⟨rfl, rfl⟩)))), hd, hH2, hB2⟩
              case measure => decide
          · by_cases hx : 0 ≤ x
            · replace hin : (if 2 < 4 ∧ 0 ≤ x then inFin s a 4 2 3 (x * 64 + byteAt s (a + 2) - 128) else x) = R := hin
              rw [if_pos ⟨by decide, hx⟩] at hin
              have hg2 := byteAt_get s (a + 2) (by omega)
              have hc0 := byteAt_lo s (a + 2)
              have hc1 := byteAt_hi s (a + 2)
              have hlt2 : (a : Int) + 2 < (s.size : Int) := by omega
              have hlt3 : (0 : Int) ≤ (a : Int) + 2 ∧ (a : Int) + 2 < (s.size : Int) := by omega
              have hbx : x ≤ 20000 := hx1
              go_wp2_with (fail)
              go_roundw
              case rel => exact ⟨3, x * 64 + byteAt s (a + 2) - 128, .inr (.inr (.inl ⟨rfl, rfl⟩)), rfl, hin, by omega, by show _ ≤ (1300000 : Int); omega, hHq, hBq⟩
              case measure => decide
            · rw [inFin_stop (by omega)] at hin
              subst hin
              have hn : ¬ isRune x := fun h => hx h.1
              rw [if_neg (fun h => hn h.1)] at hd
              have cI : Hid (∀ w : World, Calls Tryd.prog 29 #[.int .i64 x] w fun e w' => e = .returned (.bool false) ∧ Below w.heap.size w w') := hid (fun w => by have z := is_b x w; rwa [decide_eq_false hn] at z)
              go_wp2_with (fail)
              refine wp_region_grow wr.heap.size (by kernel_rfl) (by kernel_rfl) ?_
              repeat (go_big_quiet_step (first | (go_at_call 29; with_reducible refine Calls.grow_of (Nat.le_refl _) (cI.out _); done)))
              refine wpQuiet_nil ?_
              rintro _ ⟨g, rfl⟩
              have hH2 := grow_heap hHq (block_lt hHq) g
              have hB2 := hBq.trans (g.below.mono hBq.size)
              generalize g.val = w1 at *
              go_wp2_with (fail)
              go_roundw
              case rel => exact ⟨5, .inr (.inr (.inr (.inr (⟨rfl, rfl⟩)))), hd, hH2, hB2⟩
              case measure => decide
          · by_cases hx : 0 ≤ x
            · replace hin : (if 3 < 4 ∧ 0 ≤ x then inFin s a 4 1 4 (x * 64 + byteAt s (a + 3) - 128) else x) = R := hin
              rw [if_pos ⟨by decide, hx⟩] at hin
              have hg2 := byteAt_get s (a + 3) (by omega)
              have hc0 := byteAt_lo s (a + 3)
              have hc1 := byteAt_hi s (a + 3)
              have hlt2 : (a : Int) + 3 < (s.size : Int) := by omega
              have hlt3 : (0 : Int) ≤ (a : Int) + 3 ∧ (a : Int) + 3 < (s.size : Int) := by omega
              have hbx : x ≤ 1300000 := hx1
              go_wp2_with (fail)
              go_roundw
              case rel => exact ⟨4, x * 64 + byteAt s (a + 3) - 128, .inr (.inr (.inr (⟨rfl, rfl⟩))), rfl, hin, by omega, by show _ ≤ (90000000 : Int); omega, hHq, hBq⟩
              case measure => decide
            · rw [inFin_stop (by omega)] at hin
              subst hin
              have hn : ¬ isRune x := fun h => hx h.1
              rw [if_neg (fun h => hn h.1)] at hd
              have cI : Hid (∀ w : World, Calls Tryd.prog 29 #[.int .i64 x] w fun e w' => e = .returned (.bool false) ∧ Below w.heap.size w w') := hid (fun w => by have z := is_b x w; rwa [decide_eq_false hn] at z)
              go_wp2_with (fail)
              refine wp_region_grow wr.heap.size (by kernel_rfl) (by kernel_rfl) ?_
              repeat (go_big_quiet_step (first | (go_at_call 29; with_reducible refine Calls.grow_of (Nat.le_refl _) (cI.out _); done)))
              refine wpQuiet_nil ?_
              rintro _ ⟨g, rfl⟩
              have hH2 := grow_heap hHq (block_lt hHq) g
              have hB2 := hBq.trans (g.below.mono hBq.size)
              generalize g.val = w1 at *
              go_wp2_with (fail)
              go_roundw
              case rel => exact ⟨5, .inr (.inr (.inr (.inr (⟨rfl, rfl⟩)))), hd, hH2, hB2⟩
              case measure => decide
          · have hfit2 : (a : Int) + 4 ≤ (s.size : Int) := by omega
            rw [inFin_stop (by omega)] at hin
            subst hin
            by_cases hi : isRune x
            · have cI : Hid (∀ w : World, Calls Tryd.prog 29 #[.int .i64 x] w fun e w' => e = .returned (.bool true) ∧ Below w.heap.size w w') := hid (fun w => by have z := is_b x w; rwa [decide_eq_true hi] at z)
              have cS : Hid (∀ w : World, Calls Tryd.prog 30 #[.int .i64 x] w fun e w' => e = .returned (.int .i64 (sizeL x : Int)) ∧ Below w.heap.size w w') := hid (fun w => by exact size_b x w)
              by_cases hs : sizeL x = 4
              · rw [hs] at cS
                have cC : Hid (∀ w : World, Calls Tryd.prog 31 #[.int .i64 x] w fun e w' => e = .returned (.string (strOfNums (codeL x))) ∧ Below w.heap.size w w') := hid (fun w => by exact code_any x hi.1 hi.2.1 w)
                have hsl : ∀ w : World, (Instr.slice 9 (.string s) (some (.int .i64 a)) (some (.int .i64 ((a : Int) + 4))) none).run Tryd.prog w = .ok (.string (s.extract a (a + 4))) w := fun w => by have z := run_slice_string (P := Tryd.prog) w 9 s .i64 .i64 (a : Int) ((a : Int) + 4) Tryd.underlying9 (by omega) (by omega) hfit2; rwa [show ((a : Int) + 4).toNat = a + 4 from by omega, Int.toNat_natCast] at z
                by_cases hc : strOfNums (codeL x) = s.extract a (a + 4)
                · rw [if_pos ⟨hi, hs, hc⟩] at hd
                  rw [hc] at cC
                  go_wp2_with (fail)
                  refine wp_region_grow wr.heap.size (by kernel_rfl) (by kernel_rfl) ?_
                  repeat (go_big_quiet_step (first | (go_at_call 29; with_reducible refine Calls.grow_of (Nat.le_refl _) (cI.out _); done) | (go_at_call 30; with_reducible refine Calls.grow_of (Nat.le_refl _) (cS.out _); done) | (go_at_call 31; with_reducible refine Calls.grow_of (Nat.le_refl _) (cC.out _); done)))
                  refine wpQuiet_nil ?_
                  rintro _ ⟨g, rfl⟩
                  have hH2 := grow_heap hHq (block_lt hHq) g
                  have hB2 := hBq.trans (g.below.mono hBq.size)
                  generalize g.val = w1 at *
                  go_wp2_with (fail)
                  go_ret3
                  rw [← hd]
                  exact ⟨rfl, hB2⟩
                · rw [if_neg (fun h => hc h.2.2)] at hd
                  have hc2 : ((strOfNums (codeL x)).toList == (s.extract a (a + 4)).toList) = false := text_ne hc
                  go_wp2_with (fail)
                  refine wp_region_grow wr.heap.size (by kernel_rfl) (by kernel_rfl) ?_
                  repeat (go_big_quiet_step (first | (go_at_call 29; with_reducible refine Calls.grow_of (Nat.le_refl _) (cI.out _); done) | (go_at_call 30; with_reducible refine Calls.grow_of (Nat.le_refl _) (cS.out _); done) | (go_at_call 31; with_reducible refine Calls.grow_of (Nat.le_refl _) (cC.out _); done)))
                  refine wpQuiet_nil ?_
                  rintro _ ⟨g, rfl⟩
                  have hH2 := grow_heap hHq (block_lt hHq) g
                  have hB2 := hBq.trans (g.below.mono hBq.size)
                  generalize g.val = w1 at *
                  go_wp2_with (fail)
                  go_roundw
                  case rel => exact ⟨5, .inr (.inr (.inr (.inr (⟨rfl, rfl⟩)))), hd, hH2, hB2⟩
                  case measure => decide
              · rw [if_neg (fun h => hs h.2.1)] at hd
                have hs2 : ((sizeL x : Int) == 4) = false := by rw [beq_eq_false_iff_ne]; omega
                go_wp2_with (fail)
                refine wp_region_grow wr.heap.size (by kernel_rfl) (by kernel_rfl) ?_
                repeat (go_big_quiet_step (first | (go_at_call 29; with_reducible refine Calls.grow_of (Nat.le_refl _) (cI.out _); done) | (go_at_call 30; with_reducible refine Calls.grow_of (Nat.le_refl _) (cS.out _); done)))
                refine wpQuiet_nil ?_
                rintro _ ⟨g, rfl⟩
                have hH2 := grow_heap hHq (block_lt hHq) g
                have hB2 := hBq.trans (g.below.mono hBq.size)
                generalize g.val = w1 at *
                go_wp2_with (fail)
                go_roundw
                case rel => exact ⟨5, .inr (.inr (.inr (.inr (⟨rfl, rfl⟩)))), hd, hH2, hB2⟩
                case measure => decide
            · rw [if_neg (fun h => hi h.1)] at hd
              have cI : Hid (∀ w : World, Calls Tryd.prog 29 #[.int .i64 x] w fun e w' => e = .returned (.bool false) ∧ Below w.heap.size w w') := hid (fun w => by have z := is_b x w; rwa [decide_eq_false hi] at z)
              go_wp2_with (fail)
              refine wp_region_grow wr.heap.size (by kernel_rfl) (by kernel_rfl) ?_
              repeat (go_big_quiet_step (first | (go_at_call 29; with_reducible refine Calls.grow_of (Nat.le_refl _) (cI.out _); done)))
              refine wpQuiet_nil ?_
              rintro _ ⟨g, rfl⟩
              have hH2 := grow_heap hHq (block_lt hHq) g
              have hB2 := hBq.trans (g.below.mono hBq.size)
              generalize g.val = w1 at *
              go_wp2_with (fail)
              go_roundw
              case rel => exact ⟨5, .inr (.inr (.inr (.inr (⟨rfl, rfl⟩)))), hd, hH2, hB2⟩
              case measure => decide
      · replace hd : (if 4 ≤ 4 ∧ a + 4 ≤ s.size then (if fitsR s a 4 (inFin s a 4 4 1 (byteAt s a - headOf 4)) then (inFin s a 4 4 1 (byteAt s a - headOf 4), ((4 : Nat) : Int), true) else decFin s a 1 5) else (0, 0, false)) = F := hd
        rw [if_neg (fun h => hfit h.2)] at hd
        have hfit2 : (s.size : Int) < (a : Int) + 4 := by omega
        go_wp2_with (fail)
        go_ret3
        rw [← hd]
        exact ⟨rfl, hB⟩
    · have hd2 : (0, 0, false) = F := hd
      go_wp2_with (fail)
      go_ret3
      rw [← hd2]
      exact ⟨rfl, hB⟩
end Go.Proofs.YtebebognifiinaaDoor
