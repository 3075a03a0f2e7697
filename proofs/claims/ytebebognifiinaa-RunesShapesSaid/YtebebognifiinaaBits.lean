/-
  charset.with, Has, Union, Meet, Less, Not and the reference's With, Has: what each returns, for every set; what lay in memory stays as it was.
-/
import Derived.Test.YtebebognifiinaaProg
import Derived.Test.YtebebognifiinaaSets
import Derived.Test.YtebebognifiinaaGrow
import Derived.WalkSpells
import Derived.WalkLawsBesides
import Derived.RegionTactic
import Derived.BigRegion
namespace Go.Proofs.Ytebebognifiinaa
open Go.RowKit

set_option maxHeartbeats 1000000 in
theorem eq_set (a0 a1 a2 a3 b0 b1 b2 b3 : Int) (w : World) :
    Sem.run Try.prog (Op.equalIn 10000 94 (.agg #[.int .u64 a0, .int .u64 a1, .int .u64 a2, .int .u64 a3]) (.agg #[.int .u64 b0, .int .u64 b1, .int .u64 b2, .int .u64 b3])) w = .ok (a0 == b0 && (a1 == b1 && (a2 == b2 && a3 == b3))) w := by
  have h22 := Try.underlying92
  rw [show (10000 : Nat) = 9999 + 1 from rfl, Op.equalIn]
  simp only [Sem.run_bind, run_underlying Try.underlying94, Result.andThen_ok]
  simp only [show (9999 : Nat) = 9998 + 1 from rfl]
  simp [go_sem, List.range', run_equalIn_int]
  by_cases h0 : a0 = b0
  · by_cases h1 : a1 = b1
    · by_cases h2 : a2 = b2
      · by_cases h3 : a3 = b3 <;> simp [h0, h1, h2, h3]
      · simp [h0, h1, h2]
    · simp [h0, h1]
  · simp [h0]
theorem eq_same (a0 a1 a2 a3 : Int) (w : World) :
    Sem.run Try.prog (Op.equalIn 10000 94 (.agg #[.int .u64 a0, .int .u64 a1, .int .u64 a2, .int .u64 a3]) (.agg #[.int .u64 a0, .int .u64 a1, .int .u64 a2, .int .u64 a3])) w = .ok true w := by
  rw [eq_set]; simp






set_option maxHeartbeats 1000000 in
theorem rwith_any_0 (p : Nat → Bool) (b : Nat) (hk : b / 64 = 0) (w : World) :
    Calls Try.prog 54 #[.agg #[.int .u64 (W p 0), .int .u64 (W p 1), .int .u64 (W p 2), .int .u64 (W p 3)], .int .i64 (b : Int)] w fun e w' =>
      e = .returned (.agg #[.int .u64 (W (ins p b) 0), .int .u64 (W (ins p b) 1), .int .u64 (W (ins p b) 2), .int .u64 (W (ins p b) 3)]) ∧ Below w.heap.size w w' := by
  rw [W_ins_ne (p := p) (b := b) (k := 1) (by omega), W_ins_ne (p := p) (b := b) (k := 2) (by omega), W_ins_ne (p := p) (b := b) (k := 3) (by omega)]
  have hb0 : (0 : Int) ≤ (b : Int) := by omega
  have hb1 : (b : Int) < 256 := by omega
  have hq : (b : Int) / 64 = 0 := by omega
  have hv : bits .or .u64 (W p 0) (IntKind.u64.wrap (2 ^ (b % 64))) = W (ins p b) 0 := by rw [shl_one (Nat.mod_lt _ (by decide)), bits_or_pow hk]
  have HV := hid hv
  clear hv
  go_enter Try.func54, Try.ntmps54
  go_wp2
  go_region
  go_wp2
  rw [HV.out]
  exact bodyPost_ret (v := .agg #[.int .u64 (W (ins p b) 0), .int .u64 (W p 1), .int .u64 (W p 2), .int .u64 (W p 3)]) (by simp [results, Try.results54, go_sem]) rfl ⟨rfl, (((Below.refl _ _).alloc (Nat.le_refl _) _).alloc (by simp) _).drew⟩

set_option maxHeartbeats 1000000 in
theorem rwith_any_1 (p : Nat → Bool) (b : Nat) (hk : b / 64 = 1) (w : World) :
    Calls Try.prog 54 #[.agg #[.int .u64 (W p 0), .int .u64 (W p 1), .int .u64 (W p 2), .int .u64 (W p 3)], .int .i64 (b : Int)] w fun e w' =>
      e = .returned (.agg #[.int .u64 (W (ins p b) 0), .int .u64 (W (ins p b) 1), .int .u64 (W (ins p b) 2), .int .u64 (W (ins p b) 3)]) ∧ Below w.heap.size w w' := by
  rw [W_ins_ne (p := p) (b := b) (k := 0) (by omega), W_ins_ne (p := p) (b := b) (k := 2) (by omega), W_ins_ne (p := p) (b := b) (k := 3) (by omega)]
  have hb0 : (0 : Int) ≤ (b : Int) := by omega
  have hb1 : (b : Int) < 256 := by omega
  have hq : (b : Int) / 64 = 1 := by omega
  have hv : bits .or .u64 (W p 1) (IntKind.u64.wrap (2 ^ (b % 64))) = W (ins p b) 1 := by rw [shl_one (Nat.mod_lt _ (by decide)), bits_or_pow hk]
  have HV := hid hv
  clear hv
  go_enter Try.func54, Try.ntmps54
  go_wp2
  go_region
  go_wp2
  rw [HV.out]
  exact bodyPost_ret (v := .agg #[.int .u64 (W p 0), .int .u64 (W (ins p b) 1), .int .u64 (W p 2), .int .u64 (W p 3)]) (by simp [results, Try.results54, go_sem]) rfl ⟨rfl, (((Below.refl _ _).alloc (Nat.le_refl _) _).alloc (by simp) _).drew⟩

set_option maxHeartbeats 1000000 in
theorem rwith_any_2 (p : Nat → Bool) (b : Nat) (hk : b / 64 = 2) (w : World) :
    Calls Try.prog 54 #[.agg #[.int .u64 (W p 0), .int .u64 (W p 1), .int .u64 (W p 2), .int .u64 (W p 3)], .int .i64 (b : Int)] w fun e w' =>
      e = .returned (.agg #[.int .u64 (W (ins p b) 0), .int .u64 (W (ins p b) 1), .int .u64 (W (ins p b) 2), .int .u64 (W (ins p b) 3)]) ∧ Below w.heap.size w w' := by
  rw [W_ins_ne (p := p) (b := b) (k := 0) (by omega), W_ins_ne (p := p) (b := b) (k := 1) (by omega), W_ins_ne (p := p) (b := b) (k := 3) (by omega)]
  have hb0 : (0 : Int) ≤ (b : Int) := by omega
  have hb1 : (b : Int) < 256 := by omega
  have hq : (b : Int) / 64 = 2 := by omega
  have hv : bits .or .u64 (W p 2) (IntKind.u64.wrap (2 ^ (b % 64))) = W (ins p b) 2 := by rw [shl_one (Nat.mod_lt _ (by decide)), bits_or_pow hk]
  have HV := hid hv
  clear hv
  go_enter Try.func54, Try.ntmps54
  go_wp2
  go_region
  go_wp2
  rw [HV.out]
  exact bodyPost_ret (v := .agg #[.int .u64 (W p 0), .int .u64 (W p 1), .int .u64 (W (ins p b) 2), .int .u64 (W p 3)]) (by simp [results, Try.results54, go_sem]) rfl ⟨rfl, (((Below.refl _ _).alloc (Nat.le_refl _) _).alloc (by simp) _).drew⟩

set_option maxHeartbeats 1000000 in
theorem rwith_any_3 (p : Nat → Bool) (b : Nat) (hk : b / 64 = 3) (w : World) :
    Calls Try.prog 54 #[.agg #[.int .u64 (W p 0), .int .u64 (W p 1), .int .u64 (W p 2), .int .u64 (W p 3)], .int .i64 (b : Int)] w fun e w' =>
      e = .returned (.agg #[.int .u64 (W (ins p b) 0), .int .u64 (W (ins p b) 1), .int .u64 (W (ins p b) 2), .int .u64 (W (ins p b) 3)]) ∧ Below w.heap.size w w' := by
  rw [W_ins_ne (p := p) (b := b) (k := 0) (by omega), W_ins_ne (p := p) (b := b) (k := 1) (by omega), W_ins_ne (p := p) (b := b) (k := 2) (by omega)]
  have hb0 : (0 : Int) ≤ (b : Int) := by omega
  have hb1 : (b : Int) < 256 := by omega
  have hq : (b : Int) / 64 = 3 := by omega
  have hv : bits .or .u64 (W p 3) (IntKind.u64.wrap (2 ^ (b % 64))) = W (ins p b) 3 := by rw [shl_one (Nat.mod_lt _ (by decide)), bits_or_pow hk]
  have HV := hid hv
  clear hv
  go_enter Try.func54, Try.ntmps54
  go_wp2
  go_region
  go_wp2
  rw [HV.out]
  exact bodyPost_ret (v := .agg #[.int .u64 (W p 0), .int .u64 (W p 1), .int .u64 (W p 2), .int .u64 (W (ins p b) 3)]) (by simp [results, Try.results54, go_sem]) rfl ⟨rfl, (((Below.refl _ _).alloc (Nat.le_refl _) _).alloc (by simp) _).drew⟩

theorem rwith_any (p : Nat → Bool) (b : Nat) (hb : b < 256) (w : World) :
    Calls Try.prog 54 #[.agg #[.int .u64 (W p 0), .int .u64 (W p 1), .int .u64 (W p 2), .int .u64 (W p 3)], .int .i64 (b : Int)] w fun e w' =>
      e = .returned (.agg #[.int .u64 (W (ins p b) 0), .int .u64 (W (ins p b) 1), .int .u64 (W (ins p b) 2), .int .u64 (W (ins p b) 3)]) ∧ Below w.heap.size w w' := by
  have hk : b / 64 = 0 ∨ b / 64 = 1 ∨ b / 64 = 2 ∨ b / 64 = 3 := by omega
  rcases hk with hk | hk | hk | hk
  · exact rwith_any_0 p b hk w
  · exact rwith_any_1 p b hk w
  · exact rwith_any_2 p b hk w
  · exact rwith_any_3 p b hk w


















end Go.Proofs.Ytebebognifiinaa
