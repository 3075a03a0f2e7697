/-
  math/bits' OnesCount64, TrailingZeros64, Len64: how many bits are set, the lowest and the highest of them; the table of TrailingZeros64 as its initialiser lays it.
-/
import Derived.Test.YtjbdamedofgdgaaDoorProg
import Derived.Test.YtjbdamedofgdgaaDoorOnes
import Derived.Test.YtjbdamedofgdgaaDoorGrow
import Derived.WalkSpells
import Derived.WalkLawsBesides
namespace Go.Proofs.YtjbdamedofgdgaaDoor
open Go.RowKit
set_option linter.unusedVariables false
set_option linter.unusedSimpArgs false

theorem wrap_u64_of {a : Int} (h0 : 0 ≤ a) (h1 : a < 18446744073709551616) : IntKind.u64.wrap a = a := by
  rw [IntKind.wrap_u64]; omega
/-- The stages as the walk spells them. -/
theorem ones_a (x : Nat) (hx : x < 18446744073709551616) : IntKind.u64.wrap (bits .and .u64 ((x : Int) / 2) 6148914691236517205 + bits .and .u64 (x : Int) 6148914691236517205) = (((x / 2 &&& 6148914691236517205) + (x &&& 6148914691236517205) : Nat) : Int) := by
  have h1 := (bits_u64 (x / 2) 6148914691236517205 (by omega) (by decide)).1
  have h2 := (bits_u64 x 6148914691236517205 hx (by decide)).1
  have l1 : x / 2 &&& 6148914691236517205 ≤ 6148914691236517205 := Nat.and_le_right
  have l2 : x &&& 6148914691236517205 ≤ 6148914691236517205 := Nat.and_le_right
  rw [show ((x : Int) / 2) = ((x / 2 : Nat) : Int) by omega]
  rw [show ((6148914691236517205 : Nat) : Int) = 6148914691236517205 from rfl] at h1 h2
  rw [h1, h2]
  generalize (x / 2 &&& 6148914691236517205) = p at *
  generalize (x &&& 6148914691236517205) = q at *
  rw [wrap_u64_of (by omega) (by omega)]
  omega
theorem ones_b (x : Nat) (hx : x < 18446744073709551616) : IntKind.u64.wrap (bits .and .u64 ((x : Int) / 4) 3689348814741910323 + bits .and .u64 (x : Int) 3689348814741910323) = (((x / 4 &&& 3689348814741910323) + (x &&& 3689348814741910323) : Nat) : Int) := by
  have h1 := (bits_u64 (x / 4) 3689348814741910323 (by omega) (by decide)).1
  have h2 := (bits_u64 x 3689348814741910323 hx (by decide)).1
  have l1 : x / 4 &&& 3689348814741910323 ≤ 3689348814741910323 := Nat.and_le_right
  have l2 : x &&& 3689348814741910323 ≤ 3689348814741910323 := Nat.and_le_right
  rw [show ((x : Int) / 4) = ((x / 4 : Nat) : Int) by omega]
  rw [show ((3689348814741910323 : Nat) : Int) = 3689348814741910323 from rfl] at h1 h2
  rw [h1, h2]
  generalize (x / 4 &&& 3689348814741910323) = p at *
  generalize (x &&& 3689348814741910323) = q at *
  rw [wrap_u64_of (by omega) (by omega)]
  omega
theorem ones_c (x : Nat) (hx : x ≤ 7378697629483820646) : bits .and .u64 (IntKind.u64.wrap ((x : Int) / 16 + (x : Int))) 1085102592571150095 = (((x / 16 + x) &&& 1085102592571150095 : Nat) : Int) := by
  have h1 := (bits_u64 (x / 16 + x) 1085102592571150095 (by omega) (by decide)).1
  rw [show ((1085102592571150095 : Nat) : Int) = 1085102592571150095 from rfl] at h1
  rw [← h1, wrap_u64_of (by omega) (by omega)]
  rw [show ((x / 16 + x : Nat) : Int) = (x : Int) / 16 + (x : Int) by omega]
theorem ones_d (x : Nat) (hx : x ≤ 1085102592571150095) : IntKind.u64.wrap ((x : Int) + (x : Int) / 256) = ((x + x / 256 : Nat) : Int) := by
  rw [wrap_u64_of (by omega) (by omega)]; omega
theorem ones_e (x : Nat) (hx : x ≤ 1100000000000000000) : IntKind.u64.wrap ((x : Int) + (x : Int) / 65536) = ((x + x / 65536 : Nat) : Int) := by
  rw [wrap_u64_of (by omega) (by omega)]; omega
theorem ones_f (x : Nat) (hx : x ≤ 1200000000000000000) : IntKind.u64.wrap ((x : Int) + (x : Int) / 4294967296) = ((x + x / 4294967296 : Nat) : Int) := by
  rw [wrap_u64_of (by omega) (by omega)]; omega

set_option maxHeartbeats 2000000 in
theorem ones_core (x a b c d e g : Nat)
    (ha : IntKind.u64.wrap (bits .and .u64 ((x : Int) / 2) 6148914691236517205 + bits .and .u64 (x : Int) 6148914691236517205) = (a : Int))
    (hb : IntKind.u64.wrap (bits .and .u64 ((a : Int) / 4) 3689348814741910323 + bits .and .u64 (a : Int) 3689348814741910323) = (b : Int))
    (hc : bits .and .u64 (IntKind.u64.wrap ((b : Int) / 16 + (b : Int))) 1085102592571150095 = (c : Int))
    (hd : IntKind.u64.wrap ((c : Int) + (c : Int) / 256) = (d : Int)) (he : IntKind.u64.wrap ((d : Int) + (d : Int) / 65536) = (e : Int)) (hg : IntKind.u64.wrap ((e : Int) + (e : Int) / 4294967296) = (g : Int)) (w : World) :
    Calls Tryd.prog 37 #[.int .u64 (x : Int)] w fun e w' => e = .returned (.int .i64 (bits .and .i64 (wrap64 (g : Int)) 127)) ∧ w' = w := by
  go_enter Tryd.func37, Tryd.ntmps37
  go_wp2
  go_ret
  exact ⟨rfl, rfl⟩
theorem and127 (g : Nat) (h : g < 2000000000000000000) : bits .and .i64 (wrap64 (g : Int)) 127 = ((g % 128 : Nat) : Int) := by
  have hw : wrap64 (g : Int) = (g : Int) := by unfold wrap64; omega
  have h1 := bits_mask .i64 63 (by decide) (fun n h0 h1 => by rw [IntKind.wrap_i64]; omega) 7 (by decide) (g : Int) (by omega) (by omega)
  rw [hw]
  exact h1.trans (by omega)
/-- How many bits of a word are set. -/
theorem ones_any (f : Nat → Bool) (w : World) :
    Calls Tryd.prog 37 #[.int .u64 ((wd f 64 : Nat) : Int)] w fun e w' => e = .returned (.int .i64 (cnt f 64 : Nat)) ∧ w' = w := by
  have hx : wd f 64 < 18446744073709551616 := wd_lt f 64
  rw [← onesN_wd f]
  generalize wd f 64 = x at *
  have la1 : x / 2 &&& 6148914691236517205 ≤ 6148914691236517205 := Nat.and_le_right
  have la2 : x &&& 6148914691236517205 ≤ 6148914691236517205 := Nat.and_le_right
  have ha := ones_a x hx
  show Calls _ _ _ _ fun e w' => e = .returned (.int .i64 (onesN x : Nat)) ∧ w' = w
  unfold onesN
  dsimp only
  have la : (x / 2 &&& 6148914691236517205) + (x &&& 6148914691236517205) ≤ 12297829382473034410 := by omega
  generalize (x / 2 &&& 6148914691236517205) + (x &&& 6148914691236517205) = a at *
  have hb := ones_b a (by omega)
  have lb1 : a / 4 &&& 3689348814741910323 ≤ 3689348814741910323 := Nat.and_le_right
  have lb2 : a &&& 3689348814741910323 ≤ 3689348814741910323 := Nat.and_le_right
  have lb : (a / 4 &&& 3689348814741910323) + (a &&& 3689348814741910323) ≤ 7378697629483820646 := by omega
  generalize (a / 4 &&& 3689348814741910323) + (a &&& 3689348814741910323) = b at *
  have hc := ones_c b lb
  have lc : (b / 16 + b) &&& 1085102592571150095 ≤ 1085102592571150095 := Nat.and_le_right
  generalize (b / 16 + b) &&& 1085102592571150095 = c at *
  have hd := ones_d c lc
  have ld : c + c / 256 ≤ 1100000000000000000 := by omega
  generalize c + c / 256 = d at *
  have he := ones_e d ld
  have le : d + d / 65536 ≤ 1200000000000000000 := by omega
  generalize d + d / 65536 = e at *
  have hg := ones_f e le
  have lg : e + e / 4294967296 < 2000000000000000000 := by omega
  generalize e + e / 4294967296 = g at *
  rw [← and127 g lg]
  exact ones_core x a b c d e g ha hb hc hd he hg w

/-! ### The lowest bit -/
/-- The lowest bit that is set, as the code cuts it out. -/
theorem low_bit {x i : Nat} (hb : x.testBit i = true) (hlo : ∀ j, j < i → x.testBit j = false) (hx : x < 18446744073709551616) : x &&& (18446744073709551616 - x) = 2 ^ i := by
  have hpos : 0 < x := Nat.pos_of_ne_zero fun h => by rw [h] at hb; simp at hb
  have hi64 : i < 64 := by
    rcases Nat.lt_or_ge i 64 with h | h
    · exact h
    · rw [Nat.testBit_lt_two_pow (Nat.lt_of_lt_of_le hx (Nat.pow_le_pow_right (n := 2) (by decide) h))] at hb
      cases hb
  have hr : x % 2 ^ (i + 1) = 2 ^ i := by
    apply Nat.eq_of_testBit_eq
    intro j
    rw [Nat.testBit_mod_two_pow, Nat.testBit_two_pow]
    by_cases hj : j = i
    · subst hj; simp [hb]
    · rcases Nat.lt_or_gt_of_ne hj with h | h
      · rw [hlo j h]; simp; omega
      · simp [show ¬ j < i + 1 by omega, show ¬ i = j by omega]
  have hq : x = 2 ^ (i + 1) * (x / 2 ^ (i + 1)) + 2 ^ i := by rw [← hr]; exact (Nat.div_add_mod x (2 ^ (i + 1))).symm
  have hp := Nat.two_pow_pos i
  have hlt : 2 ^ i < 2 ^ (i + 1) := Nat.pow_lt_pow_right (by decide) (by omega)
  have hx1 : x - 1 = 2 ^ (i + 1) * (x / 2 ^ (i + 1)) + (2 ^ i - 1) := by omega
  apply Nat.eq_of_testBit_eq
  intro j
  rw [Nat.testBit_and, show (18446744073709551616 : Nat) - x = 2 ^ 64 - ((x - 1) + 1) by rw [Nat.sub_add_cancel hpos], Nat.testBit_two_pow_sub_succ (by omega), Nat.testBit_two_pow]
  by_cases hj : j = i
  · subst hj
    rw [hb, hx1, Nat.testBit_two_pow_mul_add _ (by omega)]
    rw [if_pos (by omega), Nat.testBit_lt_two_pow (by omega)]
    simp [hi64]
  · rcases Nat.lt_or_gt_of_ne hj with h | h
    · rw [hlo j h]; simp; omega
    · have e : (x - 1).testBit j = x.testBit j := by
        rw [hx1]
        conv => rhs; rw [hq]
        rw [Nat.testBit_two_pow_mul_add _ (by omega), Nat.testBit_two_pow_mul_add _ hlt, if_neg (by omega), if_neg (by omega)]
      rw [e]
      cases x.testBit j <;> simp [show ¬ i = j by omega]
/-- Without the lowest bit that is set. -/
theorem clear_low {x i : Nat} (hb : x.testBit i = true) (hlo : ∀ j, j < i → x.testBit j = false) (j : Nat) : (x &&& (x - 1)).testBit j = (x.testBit j && !decide (j = i)) := by
  have hr : x % 2 ^ (i + 1) = 2 ^ i := by
    apply Nat.eq_of_testBit_eq
    intro j
    rw [Nat.testBit_mod_two_pow, Nat.testBit_two_pow]
    by_cases hj : j = i
    · subst hj; simp [hb]
    · rcases Nat.lt_or_gt_of_ne hj with h | h
      · rw [hlo j h]; simp; omega
      · simp [show ¬ j < i + 1 by omega, show ¬ i = j by omega]
  have hq : x = 2 ^ (i + 1) * (x / 2 ^ (i + 1)) + 2 ^ i := by rw [← hr]; exact (Nat.div_add_mod x (2 ^ (i + 1))).symm
  have hp := Nat.two_pow_pos i
  have hlt : 2 ^ i < 2 ^ (i + 1) := Nat.pow_lt_pow_right (by decide) (by omega)
  have hx1 : x - 1 = 2 ^ (i + 1) * (x / 2 ^ (i + 1)) + (2 ^ i - 1) := by omega
  rw [Nat.testBit_and]
  by_cases hj : j = i
  · subst hj
    have hlow : (2 ^ j - 1).testBit j = false := Nat.testBit_lt_two_pow (by omega)
    rw [hx1, Nat.testBit_two_pow_mul_add _ (by omega), if_pos (by omega), hlow]
    simp
  · rcases Nat.lt_or_gt_of_ne hj with h | h
    · rw [hlo j h]; simp
    · have e : (x - 1).testBit j = x.testBit j := by
        rw [hx1]
        conv => rhs; rw [hq]
        rw [Nat.testBit_two_pow_mul_add _ (by omega), Nat.testBit_two_pow_mul_add _ hlt, if_neg (by omega), if_neg (by omega)]
      rw [e]
      simp [hj]
/-- The table of TrailingZeros64. -/
def tzTab : List Nat := [0, 1, 56, 2, 57, 49, 28, 3, 61, 58, 42, 50, 38, 29, 17, 4, 62, 47, 59, 36, 45, 43, 51, 22, 53, 39, 33, 30, 24, 18, 12, 5, 63, 55, 48, 27, 60, 41, 37, 16, 46, 35, 44, 21, 52, 32, 23, 11, 54, 26, 40, 15, 34, 20, 31, 10, 25, 14, 19, 9, 13, 8, 7, 6]
theorem tz_tab : ∀ i, i < 64 → (2 ^ i * 285870213051353865 % 18446744073709551616) / 288230376151711744 < 64 ∧ tzTab.getD ((2 ^ i * 285870213051353865 % 18446744073709551616) / 288230376151711744) 0 = i := by decide +kernel
/-- The variable deBruijn64tab holds its table. -/
def TabOk (w : World) : Prop := 0 < w.heap.size ∧ ∀ n, n < 64 → w.cell? ⟨0, n, none⟩ = some (.int .u8 ((tzTab.getD n 0 : Nat) : Int))
theorem TabOk.below {B : Nat} {w w' : World} (h : TabOk w) (hb : Below B w w') (hB : 0 < B) : TabOk w' :=
  ⟨Nat.lt_of_lt_of_le h.1 hb.size, fun n hn => (hb.cell (p := ⟨0, n, none⟩) hB).trans (h.2 n hn)⟩
set_option maxHeartbeats 2000000 in
theorem tz_core (x idx t : Nat) (h : ((x : Int) == 0) = false) (hi : idx < 64) (ht : t < 256)
    (he : IntKind.u64.wrap (bits .and .u64 (x : Int) (IntKind.u64.wrap (-(x : Int))) * 285870213051353865) / 288230376151711744 = (idx : Int))
    (w : World) (hc : w.cell? ⟨0, idx, none⟩ = some (.int .u8 (t : Int))) :
    Calls Tryd.prog 35 #[.int .u64 (x : Int)] w fun e w' => e = .returned (.int .i64 (t : Int)) ∧ w' = w := by
  have hi0 : (0 : Int) ≤ (idx : Int) := by omega
  have hi1 : (idx : Int) < 64 := by omega
  have hw : IntKind.i64.wrap (t : Int) = (t : Int) := IntWalk.i64_in _ (by omega)
  go_enter Tryd.func35, Tryd.ntmps35
  go_wp2
  go_ret
  exact ⟨rfl, rfl⟩
/-- The lowest bit that is set. -/
theorem tz_any (x i : Nat) (hb : x.testBit i = true) (hlo : ∀ j, j < i → x.testBit j = false) (hx : x < 18446744073709551616) (w : World) (hT : TabOk w) :
    Calls Tryd.prog 35 #[.int .u64 (x : Int)] w fun e w' => e = .returned (.int .i64 (i : Int)) ∧ w' = w := by
  have hpos : 0 < x := Nat.pos_of_ne_zero fun h => by rw [h] at hb; simp at hb
  have hi64 : i < 64 := by
    rcases Nat.lt_or_ge i 64 with h | h
    · exact h
    · rw [Nat.testBit_lt_two_pow (Nat.lt_of_lt_of_le hx (Nat.pow_le_pow_right (n := 2) (by decide) h))] at hb
      cases hb
  obtain ⟨h1, h2⟩ := tz_tab i hi64
  have hc := hT.2 _ h1
  rw [h2] at hc
  refine tz_core x _ i (beq_eq_false_iff_ne.2 (by omega)) h1 (by omega) ?_ w hc
  have hl := low_bit hb hlo hx
  have hn : IntKind.u64.wrap (-(x : Int)) = ((18446744073709551616 - x : Nat) : Int) := by rw [IntKind.wrap_u64]; omega
  rw [hn, (bits_u64 x (18446744073709551616 - x) hx (by omega)).1, hl, IntKind.wrap_u64]
  rw [Int.natCast_ediv, Int.natCast_emod, Int.natCast_mul]
  rfl

end Go.Proofs.YtjbdamedofgdgaaDoor
