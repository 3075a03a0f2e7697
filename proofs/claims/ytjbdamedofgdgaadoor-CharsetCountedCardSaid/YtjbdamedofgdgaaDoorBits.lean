/-
  charset.with, Has, Union, Meet, Less, Not and the reference's With, Has: what each returns, for every set; what lay in memory stays as it was.
-/
import Derived.Test.YtjbdamedofgdgaaDoorProg
import Derived.Test.YtjbdamedofgdgaaDoorSets
import Derived.Test.YtjbdamedofgdgaaDoorGrow
import Derived.WalkSpells
import Derived.WalkLawsBesides
import Derived.RegionTactic
import Derived.BigRegion
namespace Go.Proofs.YtjbdamedofgdgaaDoor
open Go.RowKit

set_option maxHeartbeats 1000000 in
theorem eq_set (a0 a1 a2 a3 b0 b1 b2 b3 : Int) (w : World) :
    Sem.run Tryd.prog (Op.equalIn 10000 24 (.agg #[.int .u64 a0, .int .u64 a1, .int .u64 a2, .int .u64 a3]) (.agg #[.int .u64 b0, .int .u64 b1, .int .u64 b2, .int .u64 b3])) w = .ok (a0 == b0 && (a1 == b1 && (a2 == b2 && a3 == b3))) w := by
  have h22 := Tryd.underlying22
  rw [show (10000 : Nat) = 9999 + 1 from rfl, Op.equalIn]
  simp only [Sem.run_bind, run_underlying Tryd.underlying24, Result.andThen_ok]
  simp only [show (9999 : Nat) = 9998 + 1 from rfl]
  simp [go_sem, List.range', run_equalIn_int]
  by_cases h0 : a0 = b0
  · by_cases h1 : a1 = b1
    · by_cases h2 : a2 = b2
      · by_cases h3 : a3 = b3 <;> simp [h0, h1, h2, h3]
      · simp [h0, h1, h2]
    · simp [h0, h1]
  · simp [h0]
theorem eq_same (a0 a1 a2 a3 : Int) (w : World) :
    Sem.run Tryd.prog (Op.equalIn 10000 24 (.agg #[.int .u64 a0, .int .u64 a1, .int .u64 a2, .int .u64 a3]) (.agg #[.int .u64 a0, .int .u64 a1, .int .u64 a2, .int .u64 a3])) w = .ok true w := by
  rw [eq_set]; simp

set_option maxHeartbeats 1000000 in
theorem with_any_0 (p : Nat → Bool) (b : Nat) (hk : b / 64 = 0) (w : World) :
    Calls Tryd.prog 33 #[.agg #[.int .u64 (W p 0), .int .u64 (W p 1), .int .u64 (W p 2), .int .u64 (W p 3)], .int .i64 (b : Int)] w fun e w' =>
      e = .returned (.agg #[.int .u64 (W (ins p b) 0), .int .u64 (W (ins p b) 1), .int .u64 (W (ins p b) 2), .int .u64 (W (ins p b) 3)]) ∧ Below w.heap.size w w' := by
  rw [W_ins_ne (p := p) (b := b) (k := 1) (by omega), W_ins_ne (p := p) (b := b) (k := 2) (by omega), W_ins_ne (p := p) (b := b) (k := 3) (by omega)]
  have hb0 : (0 : Int) ≤ (b : Int) := by omega
  have hb1 : (b : Int) < 256 := by omega
  have hq : (b : Int) / 64 = 0 := by omega
  have hv : bits .or .u64 (W p 0) (IntKind.u64.wrap (2 ^ (b % 64))) = W (ins p b) 0 := by rw [shl_one (Nat.mod_lt _ (by decide)), bits_or_pow hk]
  have HV := hid hv
  clear hv
  go_enter Tryd.func33, Tryd.ntmps33
  go_wp2
  go_region
  go_wp2
  rw [HV.out]
  exact bodyPost_ret (v := .agg #[.int .u64 (W (ins p b) 0), .int .u64 (W p 1), .int .u64 (W p 2), .int .u64 (W p 3)]) (by simp [results, Tryd.results33, go_sem]) rfl ⟨rfl, (((Below.refl _ _).alloc (Nat.le_refl _) _).alloc (by simp) _).drew⟩

set_option maxHeartbeats 1000000 in
theorem with_any_1 (p : Nat → Bool) (b : Nat) (hk : b / 64 = 1) (w : World) :
    Calls Tryd.prog 33 #[.agg #[.int .u64 (W p 0), .int .u64 (W p 1), .int .u64 (W p 2), .int .u64 (W p 3)], .int .i64 (b : Int)] w fun e w' =>
      e = .returned (.agg #[.int .u64 (W (ins p b) 0), .int .u64 (W (ins p b) 1), .int .u64 (W (ins p b) 2), .int .u64 (W (ins p b) 3)]) ∧ Below w.heap.size w w' := by
  rw [W_ins_ne (p := p) (b := b) (k := 0) (by omega), W_ins_ne (p := p) (b := b) (k := 2) (by omega), W_ins_ne (p := p) (b := b) (k := 3) (by omega)]
  have hb0 : (0 : Int) ≤ (b : Int) := by omega
  have hb1 : (b : Int) < 256 := by omega
  have hq : (b : Int) / 64 = 1 := by omega
  have hv : bits .or .u64 (W p 1) (IntKind.u64.wrap (2 ^ (b % 64))) = W (ins p b) 1 := by rw [shl_one (Nat.mod_lt _ (by decide)), bits_or_pow hk]
  have HV := hid hv
  clear hv
  go_enter Tryd.func33, Tryd.ntmps33
  go_wp2
  go_region
  go_wp2
  rw [HV.out]
  exact bodyPost_ret (v := .agg #[.int .u64 (W p 0), .int .u64 (W (ins p b) 1), .int .u64 (W p 2), .int .u64 (W p 3)]) (by simp [results, Tryd.results33, go_sem]) rfl ⟨rfl, (((Below.refl _ _).alloc (Nat.le_refl _) _).alloc (by simp) _).drew⟩

set_option maxHeartbeats 1000000 in
theorem with_any_2 (p : Nat → Bool) (b : Nat) (hk : b / 64 = 2) (w : World) :
    Calls Tryd.prog 33 #[.agg #[.int .u64 (W p 0), .int .u64 (W p 1), .int .u64 (W p 2), .int .u64 (W p 3)], .int .i64 (b : Int)] w fun e w' =>
      e = .returned (.agg #[.int .u64 (W (ins p b) 0), .int .u64 (W (ins p b) 1), .int .u64 (W (ins p b) 2), .int .u64 (W (ins p b) 3)]) ∧ Below w.heap.size w w' := by
  rw [W_ins_ne (p := p) (b := b) (k := 0) (by omega), W_ins_ne (p := p) (b := b) (k := 1) (by omega), W_ins_ne (p := p) (b := b) (k := 3) (by omega)]
  have hb0 : (0 : Int) ≤ (b : Int) := by omega
  have hb1 : (b : Int) < 256 := by omega
  have hq : (b : Int) / 64 = 2 := by omega
  have hv : bits .or .u64 (W p 2) (IntKind.u64.wrap (2 ^ (b % 64))) = W (ins p b) 2 := by rw [shl_one (Nat.mod_lt _ (by decide)), bits_or_pow hk]
  have HV := hid hv
  clear hv
  go_enter Tryd.func33, Tryd.ntmps33
  go_wp2
  go_region
  go_wp2
  rw [HV.out]
  exact bodyPost_ret (v := .agg #[.int .u64 (W p 0), .int .u64 (W p 1), .int .u64 (W (ins p b) 2), .int .u64 (W p 3)]) (by simp [results, Tryd.results33, go_sem]) rfl ⟨rfl, (((Below.refl _ _).alloc (Nat.le_refl _) _).alloc (by simp) _).drew⟩

set_option maxHeartbeats 1000000 in
theorem with_any_3 (p : Nat → Bool) (b : Nat) (hk : b / 64 = 3) (w : World) :
    Calls Tryd.prog 33 #[.agg #[.int .u64 (W p 0), .int .u64 (W p 1), .int .u64 (W p 2), .int .u64 (W p 3)], .int .i64 (b : Int)] w fun e w' =>
      e = .returned (.agg #[.int .u64 (W (ins p b) 0), .int .u64 (W (ins p b) 1), .int .u64 (W (ins p b) 2), .int .u64 (W (ins p b) 3)]) ∧ Below w.heap.size w w' := by
  rw [W_ins_ne (p := p) (b := b) (k := 0) (by omega), W_ins_ne (p := p) (b := b) (k := 1) (by omega), W_ins_ne (p := p) (b := b) (k := 2) (by omega)]
  have hb0 : (0 : Int) ≤ (b : Int) := by omega
  have hb1 : (b : Int) < 256 := by omega
  have hq : (b : Int) / 64 = 3 := by omega
  have hv : bits .or .u64 (W p 3) (IntKind.u64.wrap (2 ^ (b % 64))) = W (ins p b) 3 := by rw [shl_one (Nat.mod_lt _ (by decide)), bits_or_pow hk]
  have HV := hid hv
  clear hv
  go_enter Tryd.func33, Tryd.ntmps33
  go_wp2
  go_region
  go_wp2
  rw [HV.out]
  exact bodyPost_ret (v := .agg #[.int .u64 (W p 0), .int .u64 (W p 1), .int .u64 (W p 2), .int .u64 (W (ins p b) 3)]) (by simp [results, Tryd.results33, go_sem]) rfl ⟨rfl, (((Below.refl _ _).alloc (Nat.le_refl _) _).alloc (by simp) _).drew⟩

theorem with_any (p : Nat → Bool) (b : Nat) (hb : b < 256) (w : World) :
    Calls Tryd.prog 33 #[.agg #[.int .u64 (W p 0), .int .u64 (W p 1), .int .u64 (W p 2), .int .u64 (W p 3)], .int .i64 (b : Int)] w fun e w' =>
      e = .returned (.agg #[.int .u64 (W (ins p b) 0), .int .u64 (W (ins p b) 1), .int .u64 (W (ins p b) 2), .int .u64 (W (ins p b) 3)]) ∧ Below w.heap.size w w' := by
  have hk : b / 64 = 0 ∨ b / 64 = 1 ∨ b / 64 = 2 ∨ b / 64 = 3 := by omega
  rcases hk with hk | hk | hk | hk
  · exact with_any_0 p b hk w
  · exact with_any_1 p b hk w
  · exact with_any_2 p b hk w
  · exact with_any_3 p b hk w

set_option maxHeartbeats 1000000 in
theorem rwith_any_0 (p : Nat → Bool) (b : Nat) (hk : b / 64 = 0) (w : World) :
    Calls Tryd.prog 34 #[.agg #[.int .u64 (W p 0), .int .u64 (W p 1), .int .u64 (W p 2), .int .u64 (W p 3)], .int .i64 (b : Int)] w fun e w' =>
      e = .returned (.agg #[.int .u64 (W (ins p b) 0), .int .u64 (W (ins p b) 1), .int .u64 (W (ins p b) 2), .int .u64 (W (ins p b) 3)]) ∧ Below w.heap.size w w' := by
  rw [W_ins_ne (p := p) (b := b) (k := 1) (by omega), W_ins_ne (p := p) (b := b) (k := 2) (by omega), W_ins_ne (p := p) (b := b) (k := 3) (by omega)]
  have hb0 : (0 : Int) ≤ (b : Int) := by omega
  have hb1 : (b : Int) < 256 := by omega
  have hq : (b : Int) / 64 = 0 := by omega
  have hv : bits .or .u64 (W p 0) (IntKind.u64.wrap (2 ^ (b % 64))) = W (ins p b) 0 := by rw [shl_one (Nat.mod_lt _ (by decide)), bits_or_pow hk]
  have HV := hid hv
  clear hv
  go_enter Tryd.func34, Tryd.ntmps34
  go_wp2
  go_region
  go_wp2
  rw [HV.out]
  exact bodyPost_ret (v := .agg #[.int .u64 (W (ins p b) 0), .int .u64 (W p 1), .int .u64 (W p 2), .int .u64 (W p 3)]) (by simp [results, Tryd.results34, go_sem]) rfl ⟨rfl, (((Below.refl _ _).alloc (Nat.le_refl _) _).alloc (by simp) _).drew⟩

set_option maxHeartbeats 1000000 in
theorem rwith_any_1 (p : Nat → Bool) (b : Nat) (hk : b / 64 = 1) (w : World) :
    Calls Tryd.prog 34 #[.agg #[.int .u64 (W p 0), .int .u64 (W p 1), .int .u64 (W p 2), .int .u64 (W p 3)], .int .i64 (b : Int)] w fun e w' =>
      e = .returned (.agg #[.int .u64 (W (ins p b) 0), .int .u64 (W (ins p b) 1), .int .u64 (W (ins p b) 2), .int .u64 (W (ins p b) 3)]) ∧ Below w.heap.size w w' := by
  rw [W_ins_ne (p := p) (b := b) (k := 0) (by omega), W_ins_ne (p := p) (b := b) (k := 2) (by omega), W_ins_ne (p := p) (b := b) (k := 3) (by omega)]
  have hb0 : (0 : Int) ≤ (b : Int) := by omega
  have hb1 : (b : Int) < 256 := by omega
  have hq : (b : Int) / 64 = 1 := by omega
  have hv : bits .or .u64 (W p 1) (IntKind.u64.wrap (2 ^ (b % 64))) = W (ins p b) 1 := by rw [shl_one (Nat.mod_lt _ (by decide)), bits_or_pow hk]
  have HV := hid hv
  clear hv
  go_enter Tryd.func34, Tryd.ntmps34
  go_wp2
  go_region
  go_wp2
  rw [HV.out]
  exact bodyPost_ret (v := .agg #[.int .u64 (W p 0), .int .u64 (W (ins p b) 1), .int .u64 (W p 2), .int .u64 (W p 3)]) (by simp [results, Tryd.results34, go_sem]) rfl ⟨rfl, (((Below.refl _ _).alloc (Nat.le_refl _) _).alloc (by simp) _).drew⟩

set_option maxHeartbeats 1000000 in
theorem rwith_any_2 (p : Nat → Bool) (b : Nat) (hk : b / 64 = 2) (w : World) :
    Calls Tryd.prog 34 #[.agg #[.int .u64 (W p 0), .int .u64 (W p 1), .int .u64 (W p 2), .int .u64 (W p 3)], .int .i64 (b : Int)] w fun e w' =>
      e = .returned (.agg #[.int .u64 (W (ins p b) 0), .int .u64 (W (ins p b) 1), .int .u64 (W (ins p b) 2), .int .u64 (W (ins p b) 3)]) ∧ Below w.heap.size w w' := by
  rw [W_ins_ne (p := p) (b := b) (k := 0) (by omega), W_ins_ne (p := p) (b := b) (k := 1) (by omega), W_ins_ne (p := p) (b := b) (k := 3) (by omega)]
  have hb0 : (0 : Int) ≤ (b : Int) := by omega
  have hb1 : (b : Int) < 256 := by omega
  have hq : (b : Int) / 64 = 2 := by omega
  have hv : bits .or .u64 (W p 2) (IntKind.u64.wrap (2 ^ (b % 64))) = W (ins p b) 2 := by rw [shl_one (Nat.mod_lt _ (by decide)), bits_or_pow hk]
  have HV := hid hv
  clear hv
  go_enter Tryd.func34, Tryd.ntmps34
  go_wp2
  go_region
  go_wp2
  rw [HV.out]
  exact bodyPost_ret (v := .agg #[.int .u64 (W p 0), .int .u64 (W p 1), .int .u64 (W (ins p b) 2), .int .u64 (W p 3)]) (by simp [results, Tryd.results34, go_sem]) rfl ⟨rfl, (((Below.refl _ _).alloc (Nat.le_refl _) _).alloc (by simp) _).drew⟩

set_option maxHeartbeats 1000000 in
theorem rwith_any_3 (p : Nat → Bool) (b : Nat) (hk : b / 64 = 3) (w : World) :
    Calls Tryd.prog 34 #[.agg #[.int .u64 (W p 0), .int .u64 (W p 1), .int .u64 (W p 2), .int .u64 (W p 3)], .int .i64 (b : Int)] w fun e w' =>
      e = .returned (.agg #[.int .u64 (W (ins p b) 0), .int .u64 (W (ins p b) 1), .int .u64 (W (ins p b) 2), .int .u64 (W (ins p b) 3)]) ∧ Below w.heap.size w w' := by
  rw [W_ins_ne (p := p) (b := b) (k := 0) (by omega), W_ins_ne (p := p) (b := b) (k := 1) (by omega), W_ins_ne (p := p) (b := b) (k := 2) (by omega)]
  have hb0 : (0 : Int) ≤ (b : Int) := by omega
  have hb1 : (b : Int) < 256 := by omega
  have hq : (b : Int) / 64 = 3 := by omega
  have hv : bits .or .u64 (W p 3) (IntKind.u64.wrap (2 ^ (b % 64))) = W (ins p b) 3 := by rw [shl_one (Nat.mod_lt _ (by decide)), bits_or_pow hk]
  have HV := hid hv
  clear hv
  go_enter Tryd.func34, Tryd.ntmps34
  go_wp2
  go_region
  go_wp2
  rw [HV.out]
  exact bodyPost_ret (v := .agg #[.int .u64 (W p 0), .int .u64 (W p 1), .int .u64 (W p 2), .int .u64 (W (ins p b) 3)]) (by simp [results, Tryd.results34, go_sem]) rfl ⟨rfl, (((Below.refl _ _).alloc (Nat.le_refl _) _).alloc (by simp) _).drew⟩

theorem rwith_any (p : Nat → Bool) (b : Nat) (hb : b < 256) (w : World) :
    Calls Tryd.prog 34 #[.agg #[.int .u64 (W p 0), .int .u64 (W p 1), .int .u64 (W p 2), .int .u64 (W p 3)], .int .i64 (b : Int)] w fun e w' =>
      e = .returned (.agg #[.int .u64 (W (ins p b) 0), .int .u64 (W (ins p b) 1), .int .u64 (W (ins p b) 2), .int .u64 (W (ins p b) 3)]) ∧ Below w.heap.size w w' := by
  have hk : b / 64 = 0 ∨ b / 64 = 1 ∨ b / 64 = 2 ∨ b / 64 = 3 := by omega
  rcases hk with hk | hk | hk | hk
  · exact rwith_any_0 p b hk w
  · exact rwith_any_1 p b hk w
  · exact rwith_any_2 p b hk w
  · exact rwith_any_3 p b hk w








set_option maxHeartbeats 1000000 in
theorem rhas_any_0 (p : Nat → Bool) (b : Nat) (hk : b / 64 = 0) (w : World) :
    Calls Tryd.prog 31 #[.agg #[.int .u64 (W p 0), .int .u64 (W p 1), .int .u64 (W p 2), .int .u64 (W p 3)], .int .i64 (b : Int)] w fun e w' => e = .returned (.bool (p b)) ∧ Below w.heap.size w w' := by
  have hb0 : (0 : Int) ≤ (b : Int) := by omega
  have hb1 : (b : Int) ≤ 255 := by omega
  have hq : (b : Int) / 64 = 0 := by omega
  go_enter Tryd.func31, Tryd.ntmps31
  go_wp2
  go_ret
  exact ⟨congrArg (fun x => Ending.returned (.bool x)) (rhas_bit hk), (Below.refl _ _).alloc (Nat.le_refl _) _⟩

set_option maxHeartbeats 1000000 in
theorem rhas_any_1 (p : Nat → Bool) (b : Nat) (hk : b / 64 = 1) (w : World) :
    Calls Tryd.prog 31 #[.agg #[.int .u64 (W p 0), .int .u64 (W p 1), .int .u64 (W p 2), .int .u64 (W p 3)], .int .i64 (b : Int)] w fun e w' => e = .returned (.bool (p b)) ∧ Below w.heap.size w w' := by
  have hb0 : (0 : Int) ≤ (b : Int) := by omega
  have hb1 : (b : Int) ≤ 255 := by omega
  have hq : (b : Int) / 64 = 1 := by omega
  go_enter Tryd.func31, Tryd.ntmps31
  go_wp2
  go_ret
  exact ⟨congrArg (fun x => Ending.returned (.bool x)) (rhas_bit hk), (Below.refl _ _).alloc (Nat.le_refl _) _⟩

set_option maxHeartbeats 1000000 in
theorem rhas_any_2 (p : Nat → Bool) (b : Nat) (hk : b / 64 = 2) (w : World) :
    Calls Tryd.prog 31 #[.agg #[.int .u64 (W p 0), .int .u64 (W p 1), .int .u64 (W p 2), .int .u64 (W p 3)], .int .i64 (b : Int)] w fun e w' => e = .returned (.bool (p b)) ∧ Below w.heap.size w w' := by
  have hb0 : (0 : Int) ≤ (b : Int) := by omega
  have hb1 : (b : Int) ≤ 255 := by omega
  have hq : (b : Int) / 64 = 2 := by omega
  go_enter Tryd.func31, Tryd.ntmps31
  go_wp2
  go_ret
  exact ⟨congrArg (fun x => Ending.returned (.bool x)) (rhas_bit hk), (Below.refl _ _).alloc (Nat.le_refl _) _⟩

set_option maxHeartbeats 1000000 in
theorem rhas_any_3 (p : Nat → Bool) (b : Nat) (hk : b / 64 = 3) (w : World) :
    Calls Tryd.prog 31 #[.agg #[.int .u64 (W p 0), .int .u64 (W p 1), .int .u64 (W p 2), .int .u64 (W p 3)], .int .i64 (b : Int)] w fun e w' => e = .returned (.bool (p b)) ∧ Below w.heap.size w w' := by
  have hb0 : (0 : Int) ≤ (b : Int) := by omega
  have hb1 : (b : Int) ≤ 255 := by omega
  have hq : (b : Int) / 64 = 3 := by omega
  go_enter Tryd.func31, Tryd.ntmps31
  go_wp2
  go_ret
  exact ⟨congrArg (fun x => Ending.returned (.bool x)) (rhas_bit hk), (Below.refl _ _).alloc (Nat.le_refl _) _⟩

set_option maxHeartbeats 1000000 in
theorem rhas_any_lo (p : Nat → Bool) (b : Int) (hb : b < 0) (w : World) :
    Calls Tryd.prog 31 #[.agg #[.int .u64 (W p 0), .int .u64 (W p 1), .int .u64 (W p 2), .int .u64 (W p 3)], .int .i64 b] w fun e w' => e = .returned (.bool false) ∧ Below w.heap.size w w' := by
  have hb0 : decide ((0 : Int) ≤ b) = false := by simp; omega
  go_enter Tryd.func31, Tryd.ntmps31
  go_wp2
  go_ret
  exact ⟨rfl, (Below.refl _ _).alloc (Nat.le_refl _) _⟩

set_option maxHeartbeats 1000000 in
theorem rhas_any_hi (p : Nat → Bool) (b : Int) (hb : 255 < b) (w : World) :
    Calls Tryd.prog 31 #[.agg #[.int .u64 (W p 0), .int .u64 (W p 1), .int .u64 (W p 2), .int .u64 (W p 3)], .int .i64 b] w fun e w' => e = .returned (.bool false) ∧ Below w.heap.size w w' := by
  have hb0 : decide ((0 : Int) ≤ b) = true := by simp; omega
  have hb1 : decide (b ≤ (255 : Int)) = false := by simp; omega
  go_enter Tryd.func31, Tryd.ntmps31
  go_wp2
  go_ret
  exact ⟨rfl, (Below.refl _ _).alloc (Nat.le_refl _) _⟩

theorem rhas_any (p : Nat → Bool) (b : Int) (w : World) :
    Calls Tryd.prog 31 #[.agg #[.int .u64 (W p 0), .int .u64 (W p 1), .int .u64 (W p 2), .int .u64 (W p 3)], .int .i64 b] w fun e w' => e = .returned (.bool (hasB p b)) ∧ Below w.heap.size w w' := by
  by_cases h0 : b < 0
  · rw [hasB_lo h0]
    exact rhas_any_lo p b h0 w
  by_cases h1 : 255 < b
  · rw [hasB_hi h1]
    exact rhas_any_hi p b h1 w
  obtain ⟨n, rfl⟩ := Int.eq_ofNat_of_zero_le (Int.not_lt.1 h0)
  rw [hasB_in (by omega)]
  have hk : n / 64 = 0 ∨ n / 64 = 1 ∨ n / 64 = 2 ∨ n / 64 = 3 := by omega
  rcases hk with hk | hk | hk | hk
  · exact rhas_any_0 p n hk w
  · exact rhas_any_1 p n hk w
  · exact rhas_any_2 p n hk w
  · exact rhas_any_3 p n hk w

set_option maxHeartbeats 2000000 in
theorem union_any (p q : Nat → Bool) (w : World) :
    Calls Tryd.prog 27 #[.agg #[.int .u64 (W p 0), .int .u64 (W p 1), .int .u64 (W p 2), .int .u64 (W p 3)], .agg #[.int .u64 (W q 0), .int .u64 (W q 1), .int .u64 (W q 2), .int .u64 (W q 3)]] w fun e w' =>
      e = .returned (.agg #[.int .u64 (W (uni p q) 0), .int .u64 (W (uni p q) 1), .int .u64 (W (uni p q) 2), .int .u64 (W (uni p q) 3)]) ∧ Below w.heap.size w w' := by
  rw [← bits_or_W p q 0, ← bits_or_W p q 1, ← bits_or_W p q 2, ← bits_or_W p q 3]
  go_enter Tryd.func27, Tryd.ntmps27
  go_wp2
  refine wp_loop_rounds 5 ?_
  iterate 4
    rw [rounds_succ]
    go_wp2
    go_region
    go_wp2
  rw [rounds_succ]
  go_wp2
  exact bodyPost_ret (v := .agg #[.int .u64 (bits .or .u64 (W p 0) (W q 0)), .int .u64 (bits .or .u64 (W p 1) (W q 1)), .int .u64 (bits .or .u64 (W p 2) (W q 2)), .int .u64 (bits .or .u64 (W p 3) (W q 3))]) (by simp [results, Tryd.results27, go_sem]) rfl ⟨rfl, ((((((Below.refl _ _).alloc (Nat.le_refl _) _).alloc (by simp) _).alloc (by simp; omega) _).drew.drew).drew).drew⟩

set_option maxHeartbeats 2000000 in
theorem meet_any (p q : Nat → Bool) (w : World) :
    Calls Tryd.prog 28 #[.agg #[.int .u64 (W p 0), .int .u64 (W p 1), .int .u64 (W p 2), .int .u64 (W p 3)], .agg #[.int .u64 (W q 0), .int .u64 (W q 1), .int .u64 (W q 2), .int .u64 (W q 3)]] w fun e w' =>
      e = .returned (.agg #[.int .u64 (W (mee p q) 0), .int .u64 (W (mee p q) 1), .int .u64 (W (mee p q) 2), .int .u64 (W (mee p q) 3)]) ∧ Below w.heap.size w w' := by
  rw [← bits_and_W p q 0, ← bits_and_W p q 1, ← bits_and_W p q 2, ← bits_and_W p q 3]
  go_enter Tryd.func28, Tryd.ntmps28
  go_wp2
  refine wp_loop_rounds 5 ?_
  iterate 4
    rw [rounds_succ]
    go_wp2
    go_region
    go_wp2
  rw [rounds_succ]
  go_wp2
  exact bodyPost_ret (v := .agg #[.int .u64 (bits .and .u64 (W p 0) (W q 0)), .int .u64 (bits .and .u64 (W p 1) (W q 1)), .int .u64 (bits .and .u64 (W p 2) (W q 2)), .int .u64 (bits .and .u64 (W p 3) (W q 3))]) (by simp [results, Tryd.results28, go_sem]) rfl ⟨rfl, ((((((Below.refl _ _).alloc (Nat.le_refl _) _).alloc (by simp) _).alloc (by simp; omega) _).drew.drew).drew).drew⟩

set_option maxHeartbeats 2000000 in
theorem less_any (p q : Nat → Bool) (w : World) :
    Calls Tryd.prog 30 #[.agg #[.int .u64 (W p 0), .int .u64 (W p 1), .int .u64 (W p 2), .int .u64 (W p 3)], .agg #[.int .u64 (W q 0), .int .u64 (W q 1), .int .u64 (W q 2), .int .u64 (W q 3)]] w fun e w' =>
      e = .returned (.agg #[.int .u64 (W (les p q) 0), .int .u64 (W (les p q) 1), .int .u64 (W (les p q) 2), .int .u64 (W (les p q) 3)]) ∧ Below w.heap.size w w' := by
  rw [← bits_andNot_W p q 0, ← bits_andNot_W p q 1, ← bits_andNot_W p q 2, ← bits_andNot_W p q 3]
  go_enter Tryd.func30, Tryd.ntmps30
  go_wp2
  refine wp_loop_rounds 5 ?_
  iterate 4
    rw [rounds_succ]
    go_wp2
    go_region
    go_wp2
  rw [rounds_succ]
  go_wp2
  exact bodyPost_ret (v := .agg #[.int .u64 (bits .andNot .u64 (W p 0) (W q 0)), .int .u64 (bits .andNot .u64 (W p 1) (W q 1)), .int .u64 (bits .andNot .u64 (W p 2) (W q 2)), .int .u64 (bits .andNot .u64 (W p 3) (W q 3))]) (by simp [results, Tryd.results30, go_sem]) rfl ⟨rfl, ((((((Below.refl _ _).alloc (Nat.le_refl _) _).alloc (by simp) _).alloc (by simp; omega) _).drew.drew).drew).drew⟩

set_option maxHeartbeats 2000000 in
theorem not_any (p : Nat → Bool) (w : World) :
    Calls Tryd.prog 29 #[.agg #[.int .u64 (W p 0), .int .u64 (W p 1), .int .u64 (W p 2), .int .u64 (W p 3)]] w fun e w' =>
      e = .returned (.agg #[.int .u64 (W (neg p) 0), .int .u64 (W (neg p) 1), .int .u64 (W (neg p) 2), .int .u64 (W (neg p) 3)]) ∧ Below w.heap.size w w' := by
  rw [← bits_not_W p 0, ← bits_not_W p 1, ← bits_not_W p 2, ← bits_not_W p 3]
  go_enter Tryd.func29, Tryd.ntmps29
  go_wp2
  refine wp_loop_rounds 5 ?_
  iterate 5
    rw [rounds_succ]
    go_wp2
  exact bodyPost_ret (v := .agg #[.int .u64 (bits .xor .u64 IntKind.u64.max (W p 0)), .int .u64 (bits .xor .u64 IntKind.u64.max (W p 1)), .int .u64 (bits .xor .u64 IntKind.u64.max (W p 2)), .int .u64 (bits .xor .u64 IntKind.u64.max (W p 3))]) (by simp [results, Tryd.results29, go_sem]) rfl ⟨rfl, ((Below.refl _ _).alloc (Nat.le_refl _) _).alloc (by simp) _⟩
end Go.Proofs.YtjbdamedofgdgaaDoor
