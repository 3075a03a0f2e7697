/-
  math/bits.Len64: the highest bit that is set; its table is a constant text.
-/
import Derived.Test.YtjbdamedofgdgaaDoorMBits
namespace Go.Proofs.YtjbdamedofgdgaaDoor
open Go.RowKit
set_option linter.unusedVariables false
set_option linter.unusedSimpArgs false

def len8 : List UInt8 := [0, 1, 2, 2, 3, 3, 3, 3, 4, 4, 4, 4, 4, 4, 4, 4, 5, 5, 5, 5, 5, 5, 5, 5, 5, 5, 5, 5, 5, 5, 5, 5, 6, 6, 6, 6, 6, 6, 6, 6, 6, 6, 6, 6, 6, 6, 6, 6, 6, 6, 6, 6, 6, 6, 6, 6, 6, 6, 6, 6, 6, 6, 6, 6, 7, 7, 7, 7, 7, 7, 7, 7, 7, 7, 7, 7, 7, 7, 7, 7, 7, 7, 7, 7, 7, 7, 7, 7, 7, 7, 7, 7, 7, 7, 7, 7, 7, 7, 7, 7, 7, 7, 7, 7, 7, 7, 7, 7, 7, 7, 7, 7, 7, 7, 7, 7, 7, 7, 7, 7, 7, 7, 7, 7, 7, 7, 7, 7, 8, 8, 8, 8, 8, 8, 8, 8, 8, 8, 8, 8, 8, 8, 8, 8, 8, 8, 8, 8, 8, 8, 8, 8, 8, 8, 8, 8, 8, 8, 8, 8, 8, 8, 8, 8, 8, 8, 8, 8, 8, 8, 8, 8, 8, 8, 8, 8, 8, 8, 8, 8, 8, 8, 8, 8, 8, 8, 8, 8, 8, 8, 8, 8, 8, 8, 8, 8, 8, 8, 8, 8, 8, 8, 8, 8, 8, 8, 8, 8, 8, 8, 8, 8, 8, 8, 8, 8, 8, 8, 8, 8, 8, 8, 8, 8, 8, 8, 8, 8, 8, 8, 8, 8, 8, 8, 8, 8, 8, 8, 8, 8, 8, 8, 8, 8, 8, 8, 8, 8, 8, 8, 8, 8, 8, 8, 8, 8]
theorem len8_at : ∀ n, n < 256 → ∀ m, m < 8 → (2 ^ m ≤ n ∧ n < 2 ^ (m + 1)) → (len8.getD n 0).toNat = m + 1 := by decide +kernel

theorem len8_lit (n : Nat) (h : n < ((⟨#[0, 1, 2, 2, 3, 3, 3, 3, 4, 4, 4, 4, 4, 4, 4, 4, 5, 5, 5, 5, 5, 5, 5, 5, 5, 5, 5, 5, 5, 5, 5, 5, 6, 6, 6, 6, 6, 6, 6, 6, 6, 6, 6, 6, 6, 6, 6, 6, 6, 6, 6, 6, 6, 6, 6, 6, 6, 6, 6, 6, 6, 6, 6, 6, 7, 7, 7, 7, 7, 7, 7, 7, 7, 7, 7, 7, 7, 7, 7, 7, 7, 7, 7, 7, 7, 7, 7, 7, 7, 7, 7, 7, 7, 7, 7, 7, 7, 7, 7, 7, 7, 7, 7, 7, 7, 7, 7, 7, 7, 7, 7, 7, 7, 7, 7, 7, 7, 7, 7, 7, 7, 7, 7, 7, 7, 7, 7, 7, 8, 8, 8, 8, 8, 8, 8, 8, 8, 8, 8, 8, 8, 8, 8, 8, 8, 8, 8, 8, 8, 8, 8, 8, 8, 8, 8, 8, 8, 8, 8, 8, 8, 8, 8, 8, 8, 8, 8, 8, 8, 8, 8, 8, 8, 8, 8, 8, 8, 8, 8, 8, 8, 8, 8, 8, 8, 8, 8, 8, 8, 8, 8, 8, 8, 8, 8, 8, 8, 8, 8, 8, 8, 8, 8, 8, 8, 8, 8, 8, 8, 8, 8, 8, 8, 8, 8, 8, 8, 8, 8, 8, 8, 8, 8, 8, 8, 8, 8, 8, 8, 8, 8, 8, 8, 8, 8, 8, 8, 8, 8, 8, 8, 8, 8, 8, 8, 8, 8, 8, 8, 8, 8, 8, 8, 8, 8, 8]⟩ : ByteArray)).size) : (((⟨#[0, 1, 2, 2, 3, 3, 3, 3, 4, 4, 4, 4, 4, 4, 4, 4, 5, 5, 5, 5, 5, 5, 5, 5, 5, 5, 5, 5, 5, 5, 5, 5, 6, 6, 6, 6, 6, 6, 6, 6, 6, 6, 6, 6, 6, 6, 6, 6, 6, 6, 6, 6, 6, 6, 6, 6, 6, 6, 6, 6, 6, 6, 6, 6, 7, 7, 7, 7, 7, 7, 7, 7, 7, 7, 7, 7, 7, 7, 7, 7, 7, 7, 7, 7, 7, 7, 7, 7, 7, 7, 7, 7, 7, 7, 7, 7, 7, 7, 7, 7, 7, 7, 7, 7, 7, 7, 7, 7, 7, 7, 7, 7, 7, 7, 7, 7, 7, 7, 7, 7, 7, 7, 7, 7, 7, 7, 7, 7, 8, 8, 8, 8, 8, 8, 8, 8, 8, 8, 8, 8, 8, 8, 8, 8, 8, 8, 8, 8, 8, 8, 8, 8, 8, 8, 8, 8, 8, 8, 8, 8, 8, 8, 8, 8, 8, 8, 8, 8, 8, 8, 8, 8, 8, 8, 8, 8, 8, 8, 8, 8, 8, 8, 8, 8, 8, 8, 8, 8, 8, 8, 8, 8, 8, 8, 8, 8, 8, 8, 8, 8, 8, 8, 8, 8, 8, 8, 8, 8, 8, 8, 8, 8, 8, 8, 8, 8, 8, 8, 8, 8, 8, 8, 8, 8, 8, 8, 8, 8, 8, 8, 8, 8, 8, 8, 8, 8, 8, 8, 8, 8, 8, 8, 8, 8, 8, 8, 8, 8, 8, 8, 8, 8, 8, 8, 8, 8]⟩ : ByteArray))[n]'h) = len8.getD n 0 := by
  have h' : n < len8.length := h
  rw [List.getD_eq_getElem?_getD, List.getElem?_eq_getElem h']
  rfl
set_option maxRecDepth 100000 in
set_option maxHeartbeats 4000000 in
theorem len_0 (x n m : Nat) (hlo : 0 ≤ x) (hhi : x < 256) (hn : (x : Int) = (n : Int)) (hn2 : n < 256) (hm : m < 8) (hb : 2 ^ m ≤ n ∧ n < 2 ^ (m + 1)) (w : World) :
    Calls Tryd.prog 36 #[.int .u64 (x : Int)] w fun e w' => e = .returned (.int .i64 ((0 + m + 1 : Nat) : Int)) ∧ w' = w := by
  obtain rfl : x = n := by omega
  clear hn
  have h32 : decide ((4294967296 : Int) ≤ (x : Int)) = false := decide_eq_false (by omega)
  have h16 : decide ((65536 : Int) ≤ (x : Int)) = false := decide_eq_false (by omega)
  have h8 : decide ((256 : Int) ≤ (x : Int)) = false := decide_eq_false (by omega)
  have hT := hid (len8_at x hn2 m hm hb)
  clear hb
  have hw : IntKind.u8.wrap (x : Int) = (x : Int) := by rw [IntKind.wrap_u8]; omega
  have hn3 : (x : Int) < 256 := by omega
  go_enter Tryd.func36, Tryd.ntmps36
  go_wp2
  go_ret
  refine ⟨congrArg (fun z => Ending.returned (.int .i64 z)) ?_, rfl⟩
  refine (congrArg (fun z : UInt8 => wrap64 (wrap64 (z.toNat : Int))) (len8_lit x hn2)).trans ?_
  have hT2 := hT.out
  rw [hT2]
  unfold wrap64
  omega
set_option maxRecDepth 100000 in
set_option maxHeartbeats 4000000 in
theorem len_1 (x n m : Nat) (hlo : 256 ≤ x) (hhi : x < 65536) (hn : ((x : Int) / 256) = (n : Int)) (hn2 : n < 256) (hm : m < 8) (hb : 2 ^ m ≤ n ∧ n < 2 ^ (m + 1)) (w : World) :
    Calls Tryd.prog 36 #[.int .u64 (x : Int)] w fun e w' => e = .returned (.int .i64 ((8 + m + 1 : Nat) : Int)) ∧ w' = w := by
  have h32 : decide ((4294967296 : Int) ≤ (x : Int)) = false := decide_eq_false (by omega)
  have h16 : decide ((65536 : Int) ≤ (x : Int)) = false := decide_eq_false (by omega)
  have h8 : decide ((256 : Int) ≤ (x : Int)) = true := decide_eq_true (by omega)
  have hT := hid (len8_at n hn2 m hm hb)
  clear hb
  have hw : IntKind.u8.wrap (n : Int) = (n : Int) := by rw [IntKind.wrap_u8]; omega
  have hn3 : (n : Int) < 256 := by omega
  go_enter Tryd.func36, Tryd.ntmps36
  go_wp2
  go_ret
  refine ⟨congrArg (fun z => Ending.returned (.int .i64 z)) ?_, rfl⟩
  refine (congrArg (fun z : UInt8 => wrap64 (8 + wrap64 (z.toNat : Int))) (len8_lit n hn2)).trans ?_
  have hT2 := hT.out
  rw [hT2]
  unfold wrap64
  omega
set_option maxRecDepth 100000 in
set_option maxHeartbeats 4000000 in
theorem len_2 (x n m : Nat) (hlo : 65536 ≤ x) (hhi : x < 16777216) (hn : ((x : Int) / 65536) = (n : Int)) (hn2 : n < 256) (hm : m < 8) (hb : 2 ^ m ≤ n ∧ n < 2 ^ (m + 1)) (w : World) :
    Calls Tryd.prog 36 #[.int .u64 (x : Int)] w fun e w' => e = .returned (.int .i64 ((16 + m + 1 : Nat) : Int)) ∧ w' = w := by
  have h32 : decide ((4294967296 : Int) ≤ (x : Int)) = false := decide_eq_false (by omega)
  have h16 : decide ((65536 : Int) ≤ (x : Int)) = true := decide_eq_true (by omega)
  have h8 : decide ((256 : Int) ≤ (n : Int)) = false := decide_eq_false (by omega)
  have hT := hid (len8_at n hn2 m hm hb)
  clear hb
  have hw : IntKind.u8.wrap (n : Int) = (n : Int) := by rw [IntKind.wrap_u8]; omega
  have hn3 : (n : Int) < 256 := by omega
  go_enter Tryd.func36, Tryd.ntmps36
  go_wp2
  go_ret
  refine ⟨congrArg (fun z => Ending.returned (.int .i64 z)) ?_, rfl⟩
  refine (congrArg (fun z : UInt8 => wrap64 (16 + wrap64 (z.toNat : Int))) (len8_lit n hn2)).trans ?_
  have hT2 := hT.out
  rw [hT2]
  unfold wrap64
  omega
set_option maxRecDepth 100000 in
set_option maxHeartbeats 4000000 in
theorem len_3 (x n m : Nat) (hlo : 16777216 ≤ x) (hhi : x < 4294967296) (hn : (((x : Int) / 65536) / 256) = (n : Int)) (hn2 : n < 256) (hm : m < 8) (hb : 2 ^ m ≤ n ∧ n < 2 ^ (m + 1)) (w : World) :
    Calls Tryd.prog 36 #[.int .u64 (x : Int)] w fun e w' => e = .returned (.int .i64 ((24 + m + 1 : Nat) : Int)) ∧ w' = w := by
  have h32 : decide ((4294967296 : Int) ≤ (x : Int)) = false := decide_eq_false (by omega)
  have h16 : decide ((65536 : Int) ≤ (x : Int)) = true := decide_eq_true (by omega)
  have h8 : decide ((256 : Int) ≤ ((x : Int) / 65536)) = true := decide_eq_true (by omega)
  have hT := hid (len8_at n hn2 m hm hb)
  clear hb
  have hw : IntKind.u8.wrap (n : Int) = (n : Int) := by rw [IntKind.wrap_u8]; omega
  have hn3 : (n : Int) < 256 := by omega
  go_enter Tryd.func36, Tryd.ntmps36
  go_wp2
  go_ret
  refine ⟨congrArg (fun z => Ending.returned (.int .i64 z)) ?_, rfl⟩
  refine (congrArg (fun z : UInt8 => wrap64 (24 + wrap64 (z.toNat : Int))) (len8_lit n hn2)).trans ?_
  have hT2 := hT.out
  rw [hT2]
  unfold wrap64
  omega
set_option maxRecDepth 100000 in
set_option maxHeartbeats 4000000 in
theorem len_4 (x n m : Nat) (hlo : 4294967296 ≤ x) (hhi : x < 1099511627776) (hn : ((x : Int) / 4294967296) = (n : Int)) (hn2 : n < 256) (hm : m < 8) (hb : 2 ^ m ≤ n ∧ n < 2 ^ (m + 1)) (w : World) :
    Calls Tryd.prog 36 #[.int .u64 (x : Int)] w fun e w' => e = .returned (.int .i64 ((32 + m + 1 : Nat) : Int)) ∧ w' = w := by
  have h32 : decide ((4294967296 : Int) ≤ (x : Int)) = true := decide_eq_true (by omega)
  have h16 : decide ((65536 : Int) ≤ (n : Int)) = false := decide_eq_false (by omega)
  have h8 : decide ((256 : Int) ≤ (n : Int)) = false := decide_eq_false (by omega)
  have hT := hid (len8_at n hn2 m hm hb)
  clear hb
  have hw : IntKind.u8.wrap (n : Int) = (n : Int) := by rw [IntKind.wrap_u8]; omega
  have hn3 : (n : Int) < 256 := by omega
  go_enter Tryd.func36, Tryd.ntmps36
  go_wp2
  go_ret
  refine ⟨congrArg (fun z => Ending.returned (.int .i64 z)) ?_, rfl⟩
  refine (congrArg (fun z : UInt8 => wrap64 (32 + wrap64 (z.toNat : Int))) (len8_lit n hn2)).trans ?_
  have hT2 := hT.out
  rw [hT2]
  unfold wrap64
  omega
set_option maxRecDepth 100000 in
set_option maxHeartbeats 4000000 in
theorem len_5 (x n m : Nat) (hlo : 1099511627776 ≤ x) (hhi : x < 281474976710656) (hn : (((x : Int) / 4294967296) / 256) = (n : Int)) (hn2 : n < 256) (hm : m < 8) (hb : 2 ^ m ≤ n ∧ n < 2 ^ (m + 1)) (w : World) :
    Calls Tryd.prog 36 #[.int .u64 (x : Int)] w fun e w' => e = .returned (.int .i64 ((40 + m + 1 : Nat) : Int)) ∧ w' = w := by
  have h32 : decide ((4294967296 : Int) ≤ (x : Int)) = true := decide_eq_true (by omega)
  have h16 : decide ((65536 : Int) ≤ ((x : Int) / 4294967296)) = false := decide_eq_false (by omega)
  have h8 : decide ((256 : Int) ≤ ((x : Int) / 4294967296)) = true := decide_eq_true (by omega)
  have hT := hid (len8_at n hn2 m hm hb)
  clear hb
  have hw : IntKind.u8.wrap (n : Int) = (n : Int) := by rw [IntKind.wrap_u8]; omega
  have hn3 : (n : Int) < 256 := by omega
  go_enter Tryd.func36, Tryd.ntmps36
  go_wp2
  go_ret
  refine ⟨congrArg (fun z => Ending.returned (.int .i64 z)) ?_, rfl⟩
  refine (congrArg (fun z : UInt8 => wrap64 (40 + wrap64 (z.toNat : Int))) (len8_lit n hn2)).trans ?_
  have hT2 := hT.out
  rw [hT2]
  unfold wrap64
  omega
set_option maxRecDepth 100000 in
set_option maxHeartbeats 4000000 in
theorem len_6 (x n m : Nat) (hlo : 281474976710656 ≤ x) (hhi : x < 72057594037927936) (hn : (((x : Int) / 4294967296) / 65536) = (n : Int)) (hn2 : n < 256) (hm : m < 8) (hb : 2 ^ m ≤ n ∧ n < 2 ^ (m + 1)) (w : World) :
    Calls Tryd.prog 36 #[.int .u64 (x : Int)] w fun e w' => e = .returned (.int .i64 ((48 + m + 1 : Nat) : Int)) ∧ w' = w := by
  have h32 : decide ((4294967296 : Int) ≤ (x : Int)) = true := decide_eq_true (by omega)
  have h16 : decide ((65536 : Int) ≤ ((x : Int) / 4294967296)) = true := decide_eq_true (by omega)
  have h8 : decide ((256 : Int) ≤ (n : Int)) = false := decide_eq_false (by omega)
  have hT := hid (len8_at n hn2 m hm hb)
  clear hb
  have hw : IntKind.u8.wrap (n : Int) = (n : Int) := by rw [IntKind.wrap_u8]; omega
  have hn3 : (n : Int) < 256 := by omega
  go_enter Tryd.func36, Tryd.ntmps36
  go_wp2
  go_ret
  refine ⟨congrArg (fun z => Ending.returned (.int .i64 z)) ?_, rfl⟩
  refine (congrArg (fun z : UInt8 => wrap64 (48 + wrap64 (z.toNat : Int))) (len8_lit n hn2)).trans ?_
  have hT2 := hT.out
  rw [hT2]
  unfold wrap64
  omega
set_option maxRecDepth 100000 in
set_option maxHeartbeats 4000000 in
theorem len_7 (x n m : Nat) (hlo : 72057594037927936 ≤ x) (hhi : x < 18446744073709551616) (hn : ((((x : Int) / 4294967296) / 65536) / 256) = (n : Int)) (hn2 : n < 256) (hm : m < 8) (hb : 2 ^ m ≤ n ∧ n < 2 ^ (m + 1)) (w : World) :
    Calls Tryd.prog 36 #[.int .u64 (x : Int)] w fun e w' => e = .returned (.int .i64 ((56 + m + 1 : Nat) : Int)) ∧ w' = w := by
  have h32 : decide ((4294967296 : Int) ≤ (x : Int)) = true := decide_eq_true (by omega)
  have h16 : decide ((65536 : Int) ≤ ((x : Int) / 4294967296)) = true := decide_eq_true (by omega)
  have h8 : decide ((256 : Int) ≤ (((x : Int) / 4294967296) / 65536)) = true := decide_eq_true (by omega)
  have hT := hid (len8_at n hn2 m hm hb)
  clear hb
  have hw : IntKind.u8.wrap (n : Int) = (n : Int) := by rw [IntKind.wrap_u8]; omega
  have hn3 : (n : Int) < 256 := by omega
  go_enter Tryd.func36, Tryd.ntmps36
  go_wp2
  go_ret
  refine ⟨congrArg (fun z => Ending.returned (.int .i64 z)) ?_, rfl⟩
  refine (congrArg (fun z : UInt8 => wrap64 (56 + wrap64 (z.toNat : Int))) (len8_lit n hn2)).trans ?_
  have hT2 := hT.out
  rw [hT2]
  unfold wrap64
  omega
/-- The highest bit that is set. -/
theorem len_any (x i : Nat) (hi : i < 64) (h0 : 2 ^ i ≤ x) (h1 : x < 2 ^ (i + 1)) (w : World) :
    Calls Tryd.prog 36 #[.int .u64 (x : Int)] w fun e w' => e = .returned (.int .i64 ((i + 1 : Nat) : Int)) ∧ w' = w := by
  have hk : i / 8 = 0 ∨ i / 8 = 1 ∨ i / 8 = 2 ∨ i / 8 = 3 ∨ i / 8 = 4 ∨ i / 8 = 5 ∨ i / 8 = 6 ∨ i / 8 = 7 := by omega
  rcases hk with hk | hk | hk | hk | hk | hk | hk | hk
  · obtain ⟨m, rfl⟩ : ∃ m, i = 0 + m := ⟨i - 0, by omega⟩
    have hm : m < 8 := by omega
    have e0 : 2 ^ (0 + m) = 1 * 2 ^ m := by rw [Nat.pow_add]
    have e1 : 2 ^ (0 + m + 1) = 1 * 2 ^ (m + 1) := by rw [Nat.add_assoc, Nat.pow_add]
    have hp : 2 ^ (m + 1) ≤ 256 := Nat.pow_le_pow_right (j := 8) (by decide) (by omega)
    have hq := Nat.two_pow_pos m
    rw [e0] at h0
    rw [e1] at h1
    clear e0 e1 hk hi
    exact len_0 x (x / 1) m (by generalize 2 ^ m = u at *; generalize 2 ^ (m + 1) = v at *; omega) (by generalize 2 ^ m = u at *; generalize 2 ^ (m + 1) = v at *; omega) (by omega) (by generalize 2 ^ m = u at *; generalize 2 ^ (m + 1) = v at *; omega) hm (by generalize 2 ^ m = u at *; generalize 2 ^ (m + 1) = v at *; omega) w
  · obtain ⟨m, rfl⟩ : ∃ m, i = 8 + m := ⟨i - 8, by omega⟩
    have hm : m < 8 := by omega
    have e0 : 2 ^ (8 + m) = 256 * 2 ^ m := by rw [Nat.pow_add]
    have e1 : 2 ^ (8 + m + 1) = 256 * 2 ^ (m + 1) := by rw [Nat.add_assoc, Nat.pow_add]
    have hp : 2 ^ (m + 1) ≤ 256 := Nat.pow_le_pow_right (j := 8) (by decide) (by omega)
    have hq := Nat.two_pow_pos m
    rw [e0] at h0
    rw [e1] at h1
    clear e0 e1 hk hi
    exact len_1 x (x / 256) m (by generalize 2 ^ m = u at *; generalize 2 ^ (m + 1) = v at *; omega) (by generalize 2 ^ m = u at *; generalize 2 ^ (m + 1) = v at *; omega) (by omega) (by generalize 2 ^ m = u at *; generalize 2 ^ (m + 1) = v at *; omega) hm (by generalize 2 ^ m = u at *; generalize 2 ^ (m + 1) = v at *; omega) w
  · obtain ⟨m, rfl⟩ : ∃ m, i = 16 + m := ⟨i - 16, by omega⟩
    have hm : m < 8 := by omega
    have e0 : 2 ^ (16 + m) = 65536 * 2 ^ m := by rw [Nat.pow_add]
    have e1 : 2 ^ (16 + m + 1) = 65536 * 2 ^ (m + 1) := by rw [Nat.add_assoc, Nat.pow_add]
    have hp : 2 ^ (m + 1) ≤ 256 := Nat.pow_le_pow_right (j := 8) (by decide) (by omega)
    have hq := Nat.two_pow_pos m
    rw [e0] at h0
    rw [e1] at h1
    clear e0 e1 hk hi
    exact len_2 x (x / 65536) m (by generalize 2 ^ m = u at *; generalize 2 ^ (m + 1) = v at *; omega) (by generalize 2 ^ m = u at *; generalize 2 ^ (m + 1) = v at *; omega) (by omega) (by generalize 2 ^ m = u at *; generalize 2 ^ (m + 1) = v at *; omega) hm (by generalize 2 ^ m = u at *; generalize 2 ^ (m + 1) = v at *; omega) w
  · obtain ⟨m, rfl⟩ : ∃ m, i = 24 + m := ⟨i - 24, by omega⟩
    have hm : m < 8 := by omega
    have e0 : 2 ^ (24 + m) = 16777216 * 2 ^ m := by rw [Nat.pow_add]
    have e1 : 2 ^ (24 + m + 1) = 16777216 * 2 ^ (m + 1) := by rw [Nat.add_assoc, Nat.pow_add]
    have hp : 2 ^ (m + 1) ≤ 256 := Nat.pow_le_pow_right (j := 8) (by decide) (by omega)
    have hq := Nat.two_pow_pos m
    rw [e0] at h0
    rw [e1] at h1
    clear e0 e1 hk hi
    exact len_3 x (x / 16777216) m (by generalize 2 ^ m = u at *; generalize 2 ^ (m + 1) = v at *; omega) (by generalize 2 ^ m = u at *; generalize 2 ^ (m + 1) = v at *; omega) (by omega) (by generalize 2 ^ m = u at *; generalize 2 ^ (m + 1) = v at *; omega) hm (by generalize 2 ^ m = u at *; generalize 2 ^ (m + 1) = v at *; omega) w
  · obtain ⟨m, rfl⟩ : ∃ m, i = 32 + m := ⟨i - 32, by omega⟩
    have hm : m < 8 := by omega
    have e0 : 2 ^ (32 + m) = 4294967296 * 2 ^ m := by rw [Nat.pow_add]
    have e1 : 2 ^ (32 + m + 1) = 4294967296 * 2 ^ (m + 1) := by rw [Nat.add_assoc, Nat.pow_add]
    have hp : 2 ^ (m + 1) ≤ 256 := Nat.pow_le_pow_right (j := 8) (by decide) (by omega)
    have hq := Nat.two_pow_pos m
    rw [e0] at h0
    rw [e1] at h1
    clear e0 e1 hk hi
    exact len_4 x (x / 4294967296) m (by generalize 2 ^ m = u at *; generalize 2 ^ (m + 1) = v at *; omega) (by generalize 2 ^ m = u at *; generalize 2 ^ (m + 1) = v at *; omega) (by omega) (by generalize 2 ^ m = u at *; generalize 2 ^ (m + 1) = v at *; omega) hm (by generalize 2 ^ m = u at *; generalize 2 ^ (m + 1) = v at *; omega) w
  · obtain ⟨m, rfl⟩ : ∃ m, i = 40 + m := ⟨i - 40, by omega⟩
    have hm : m < 8 := by omega
    have e0 : 2 ^ (40 + m) = 1099511627776 * 2 ^ m := by rw [Nat.pow_add]
    have e1 : 2 ^ (40 + m + 1) = 1099511627776 * 2 ^ (m + 1) := by rw [Nat.add_assoc, Nat.pow_add]
    have hp : 2 ^ (m + 1) ≤ 256 := Nat.pow_le_pow_right (j := 8) (by decide) (by omega)
    have hq := Nat.two_pow_pos m
    rw [e0] at h0
    rw [e1] at h1
    clear e0 e1 hk hi
    exact len_5 x (x / 1099511627776) m (by generalize 2 ^ m = u at *; generalize 2 ^ (m + 1) = v at *; omega) (by generalize 2 ^ m = u at *; generalize 2 ^ (m + 1) = v at *; omega) (by omega) (by generalize 2 ^ m = u at *; generalize 2 ^ (m + 1) = v at *; omega) hm (by generalize 2 ^ m = u at *; generalize 2 ^ (m + 1) = v at *; omega) w
  · obtain ⟨m, rfl⟩ : ∃ m, i = 48 + m := ⟨i - 48, by omega⟩
    have hm : m < 8 := by omega
    have e0 : 2 ^ (48 + m) = 281474976710656 * 2 ^ m := by rw [Nat.pow_add]
    have e1 : 2 ^ (48 + m + 1) = 281474976710656 * 2 ^ (m + 1) := by rw [Nat.add_assoc, Nat.pow_add]
    have hp : 2 ^ (m + 1) ≤ 256 := Nat.pow_le_pow_right (j := 8) (by decide) (by omega)
    have hq := Nat.two_pow_pos m
    rw [e0] at h0
    rw [e1] at h1
    clear e0 e1 hk hi
    exact len_6 x (x / 281474976710656) m (by generalize 2 ^ m = u at *; generalize 2 ^ (m + 1) = v at *; omega) (by generalize 2 ^ m = u at *; generalize 2 ^ (m + 1) = v at *; omega) (by omega) (by generalize 2 ^ m = u at *; generalize 2 ^ (m + 1) = v at *; omega) hm (by generalize 2 ^ m = u at *; generalize 2 ^ (m + 1) = v at *; omega) w
  · obtain ⟨m, rfl⟩ : ∃ m, i = 56 + m := ⟨i - 56, by omega⟩
    have hm : m < 8 := by omega
    have e0 : 2 ^ (56 + m) = 72057594037927936 * 2 ^ m := by rw [Nat.pow_add]
    have e1 : 2 ^ (56 + m + 1) = 72057594037927936 * 2 ^ (m + 1) := by rw [Nat.add_assoc, Nat.pow_add]
    have hp : 2 ^ (m + 1) ≤ 256 := Nat.pow_le_pow_right (j := 8) (by decide) (by omega)
    have hq := Nat.two_pow_pos m
    rw [e0] at h0
    rw [e1] at h1
    clear e0 e1 hk hi
    exact len_7 x (x / 72057594037927936) m (by generalize 2 ^ m = u at *; generalize 2 ^ (m + 1) = v at *; omega) (by generalize 2 ^ m = u at *; generalize 2 ^ (m + 1) = v at *; omega) (by omega) (by generalize 2 ^ m = u at *; generalize 2 ^ (m + 1) = v at *; omega) hm (by generalize 2 ^ m = u at *; generalize 2 ^ (m + 1) = v at *; omega) w

end Go.Proofs.YtjbdamedofgdgaaDoor
