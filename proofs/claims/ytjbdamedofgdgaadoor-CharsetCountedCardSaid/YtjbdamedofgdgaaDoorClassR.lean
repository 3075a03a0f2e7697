/-
  The reference's Class: what it returns for every letter; what lay in memory stays as it was.
-/
import Derived.Test.YtjbdamedofgdgaaDoorClass
namespace Go.Proofs.YtjbdamedofgdgaaDoor
open Go.RowKit
set_option linter.unusedVariables false
set_option linter.unusedSimpArgs false














set_option maxHeartbeats 2000000 in
theorem class_yes (c : Nat) (h8 : c < 256) (P : Nat → Bool) (hc : clsB c = true) (hP : clsP c = P) (w : World) : Calls Tryd.prog 51 #[.int .u8 (c : Int)] w fun e w' => e = .returned (.tuple #[.agg #[.int .u64 (W P 0), .int .u64 (W P 1), .int .u64 (W P 2), .int .u64 (W P 3)], .int .i64 0]) ∧ Below w.heap.size w w' := by
  have HK := hid (small_yes c hc)
  rw [hP] at HK
  clear hP hc
  go_enter Tryd.func51, Tryd.ntmps51
  go_wp2_with (first | (go_at_call 55; with_reducible refine Calls.mono (HK.out _) ?_; rintro e w1 ⟨rfl, hb1⟩; have hR1 := below_heap hb1 (b := w.heap.size) (by simp) (alloc_new _ _); have hR1' := alloc_old (y := .cells #[.int .u64 (W P 0), .int .u64 (W P 1), .int .u64 (W P 2), .int .u64 (W P 3)] 24) hR1; have hst := block_free hR1'; have hcr := block_cell hR1'))
  have b1 := ((Below.refl w.heap.size w).alloc (Nat.le_refl _) (.cells #[.int .u64 0, .int .u64 0, .int .u64 0, .int .u64 0] 24)).trans (hb1.mono (by simp))
  have z1 := b1.size
  have b := b1.alloc z1 (.cells #[.int .u64 (W P 0), .int .u64 (W P 1), .int .u64 (W P 2), .int .u64 (W P 3)] 24)
  have hfin := set4 hR1' (.int .u64 (W P 0)) (.int .u64 (W P 1)) (.int .u64 (W P 2)) (.int .u64 (W P 3))
  have hfc := block_cell hfin
  clear hfin
  exact bodyPost_ret (v := .tuple #[.agg #[.int .u64 (W P 0), .int .u64 (W P 1), .int .u64 (W P 2), .int .u64 (W P 3)], .int .i64 0]) (by simp [results, Tryd.results51, go_sem, hfc]) rfl ⟨rfl, below_set4 b (Nat.le_refl _) _ _ _ _⟩
set_option maxHeartbeats 2000000 in
theorem class_up (c : Nat) (h8 : c < 256) (P : Nat → Bool) (hc : clsB c = false) (h0 : 65 ≤ c) (h1 : c ≤ 90) (hd : clsB (c + 32) = true) (hP : clsP (c + 32) = P) (w : World) : Calls Tryd.prog 51 #[.int .u8 (c : Int)] w fun e w' => e = .returned (.tuple #[.agg #[.int .u64 (W (neg P) 0), .int .u64 (W (neg P) 1), .int .u64 (W (neg P) 2), .int .u64 (W (neg P) 3)], .int .i64 0]) ∧ Below w.heap.size w w' := by
  have d0 : decide ((65 : Int) ≤ (c : Int)) = true := decide_eq_true (by omega)
  have d1 : decide ((c : Int) ≤ 90) = true := decide_eq_true (by omega)
  have hw : IntKind.u8.wrap ((c : Int) + 32) = (c : Int) + 32 := by rw [IntKind.wrap_u8]; omega
  have HK := hid (small_no c hc)
  have HK2 := hid (small_yes (c + 32) hd)
  rw [hP] at HK2
  rw [show ((c + 32 : Nat) : Int) = (c : Int) + 32 by omega] at HK2
  clear hc hd hP
  go_enter Tryd.func51, Tryd.ntmps51
  go_wp2_with (first | (go_at_call 55; with_reducible refine Calls.mono (HK.out _) ?_; rintro e w1 ⟨rfl, hb1⟩; have hR1 := below_heap hb1 (b := w.heap.size) (by simp) (alloc_new _ _); have hR1' := alloc_old (y := .cells #[.int .u64 0, .int .u64 0, .int .u64 0, .int .u64 0] 24) hR1; have hst := block_free hR1'; have hcr := block_cell hR1') | (go_at_call 55; with_reducible refine Calls.mono (HK2.out _) ?_; rintro e w2 ⟨rfl, hb2⟩; have hR2 := below_heap hb2 (b := w.heap.size) (by have := block_lt hR1; simp; omega) hR1'; have hR2' := alloc_old (y := .cells #[.int .u64 (W P 0), .int .u64 (W P 1), .int .u64 (W P 2), .int .u64 (W P 3)] 24) hR2; have hst2 := block_free hR2'; have hcr2 := block_cell hR2') | (go_at_call 29; with_reducible refine Calls.mono (not_any P _) ?_; rintro e w3 ⟨rfl, hb3⟩; have hR3 := below_heap hb3 (b := w.heap.size) (by have := block_lt hR2; simp; omega) hR2'; have hst3 := block_free hR3; have hcr3 := block_cell hR3))
  have b1 := ((Below.refl w.heap.size w).alloc (Nat.le_refl _) (.cells #[.int .u64 0, .int .u64 0, .int .u64 0, .int .u64 0] 24)).trans (hb1.mono (by simp))
  have z1 := b1.size
  have b := b1.alloc z1 (.cells #[.int .u64 0, .int .u64 0, .int .u64 0, .int .u64 0] 24)
  have b2 := b.trans (hb2.mono (by simp; omega))
  have z2 := b2.size
  have b := b2.alloc z2 (.cells #[.int .u64 (W P 0), .int .u64 (W P 1), .int .u64 (W P 2), .int .u64 (W P 3)] 24)
  have b := b.trans (hb3.mono (by simp; omega))
  have hfin := set4 hR3 (.int .u64 (W (neg P) 0)) (.int .u64 (W (neg P) 1)) (.int .u64 (W (neg P) 2)) (.int .u64 (W (neg P) 3))
  have hfc := block_cell hfin
  clear hfin
  exact bodyPost_ret (v := .tuple #[.agg #[.int .u64 (W (neg P) 0), .int .u64 (W (neg P) 1), .int .u64 (W (neg P) 2), .int .u64 (W (neg P) 3)], .int .i64 0]) (by simp [results, Tryd.results51, go_sem, hfc]) rfl ⟨rfl, below_set4 b (Nat.le_refl _) _ _ _ _⟩
set_option maxHeartbeats 2000000 in
theorem class_down (c : Nat) (h8 : c < 256) (hc : clsB c = false) (h0 : 65 ≤ c) (h1 : c ≤ 90) (hd : clsB (c + 32) = false) (w : World) : Calls Tryd.prog 51 #[.int .u8 (c : Int)] w fun e w' => e = .returned (.tuple #[.agg #[.int .u64 0, .int .u64 0, .int .u64 0, .int .u64 0], .int .i64 10]) ∧ Below w.heap.size w w' := by
  have d0 : decide ((65 : Int) ≤ (c : Int)) = true := decide_eq_true (by omega)
  have d1 : decide ((c : Int) ≤ 90) = true := decide_eq_true (by omega)
  have hw : IntKind.u8.wrap ((c : Int) + 32) = (c : Int) + 32 := by rw [IntKind.wrap_u8]; omega
  have HK := hid (small_no c hc)
  have HK2 := hid (small_no (c + 32) hd)
  rw [show ((c + 32 : Nat) : Int) = (c : Int) + 32 by omega] at HK2
  clear hc hd
  go_enter Tryd.func51, Tryd.ntmps51
  go_wp2_with (first | (go_at_call 55; with_reducible refine Calls.mono (HK.out _) ?_; rintro e w1 ⟨rfl, hb1⟩; have hR1 := below_heap hb1 (b := w.heap.size) (by simp) (alloc_new _ _); have hR1' := alloc_old (y := .cells #[.int .u64 0, .int .u64 0, .int .u64 0, .int .u64 0] 24) hR1; have hst := block_free hR1'; have hcr := block_cell hR1') | (go_at_call 55; with_reducible refine Calls.mono (HK2.out _) ?_; rintro e w2 ⟨rfl, hb2⟩; have hR2 := below_heap hb2 (b := w.heap.size) (by have := block_lt hR1; simp; omega) hR1'; have hR2' := alloc_old (y := .cells #[.int .u64 0, .int .u64 0, .int .u64 0, .int .u64 0] 24) hR2; have hst2 := block_free hR2'; have hcr2 := block_cell hR2'))
  have b1 := ((Below.refl w.heap.size w).alloc (Nat.le_refl _) (.cells #[.int .u64 0, .int .u64 0, .int .u64 0, .int .u64 0] 24)).trans (hb1.mono (by simp))
  have z1 := b1.size
  have b := b1.alloc z1 (.cells #[.int .u64 0, .int .u64 0, .int .u64 0, .int .u64 0] 24)
  have b2 := b.trans (hb2.mono (by simp; omega))
  have z2 := b2.size
  have b := b2.alloc z2 (.cells #[.int .u64 0, .int .u64 0, .int .u64 0, .int .u64 0] 24)
  have hfin := set4 hR2' (.int .u64 0) (.int .u64 0) (.int .u64 0) (.int .u64 0)
  have hfc := block_cell hfin
  clear hfin
  exact bodyPost_ret (v := .tuple #[.agg #[.int .u64 0, .int .u64 0, .int .u64 0, .int .u64 0], .int .i64 10]) (by simp [results, Tryd.results51, go_sem, hfc]) rfl ⟨rfl, below_set4 b (Nat.le_refl _) _ _ _ _⟩
set_option maxHeartbeats 2000000 in
theorem class_no_lo (c : Nat) (h8 : c < 256) (hc : clsB c = false) (h0 : c < 65) (w : World) : Calls Tryd.prog 51 #[.int .u8 (c : Int)] w fun e w' => e = .returned (.tuple #[.agg #[.int .u64 0, .int .u64 0, .int .u64 0, .int .u64 0], .int .i64 10]) ∧ Below w.heap.size w w' := by
  have d0 : decide ((65 : Int) ≤ (c : Int)) = false := decide_eq_false (by omega)
  have HK := hid (small_no c hc)
  clear hc
  go_enter Tryd.func51, Tryd.ntmps51
  go_wp2_with (first | (go_at_call 55; with_reducible refine Calls.mono (HK.out _) ?_; rintro e w1 ⟨rfl, hb1⟩; have hR1 := below_heap hb1 (b := w.heap.size) (by simp) (alloc_new _ _); have hR1' := alloc_old (y := .cells #[.int .u64 0, .int .u64 0, .int .u64 0, .int .u64 0] 24) hR1; have hst := block_free hR1'; have hcr := block_cell hR1'))
  have b1 := ((Below.refl w.heap.size w).alloc (Nat.le_refl _) (.cells #[.int .u64 0, .int .u64 0, .int .u64 0, .int .u64 0] 24)).trans (hb1.mono (by simp))
  have z1 := b1.size
  have b := b1.alloc z1 (.cells #[.int .u64 0, .int .u64 0, .int .u64 0, .int .u64 0] 24)
  have hfin := set4 hR1' (.int .u64 0) (.int .u64 0) (.int .u64 0) (.int .u64 0)
  have hfc := block_cell hfin
  clear hfin
  exact bodyPost_ret (v := .tuple #[.agg #[.int .u64 0, .int .u64 0, .int .u64 0, .int .u64 0], .int .i64 10]) (by simp [results, Tryd.results51, go_sem, hfc]) rfl ⟨rfl, below_set4 b (Nat.le_refl _) _ _ _ _⟩
set_option maxHeartbeats 2000000 in
theorem class_no_hi (c : Nat) (h8 : c < 256) (hc : clsB c = false) (h0 : 90 < c) (w : World) : Calls Tryd.prog 51 #[.int .u8 (c : Int)] w fun e w' => e = .returned (.tuple #[.agg #[.int .u64 0, .int .u64 0, .int .u64 0, .int .u64 0], .int .i64 10]) ∧ Below w.heap.size w w' := by
  have d0 : decide ((65 : Int) ≤ (c : Int)) = true := decide_eq_true (by omega)
  have d1 : decide ((c : Int) ≤ 90) = false := decide_eq_false (by omega)
  have HK := hid (small_no c hc)
  clear hc
  go_enter Tryd.func51, Tryd.ntmps51
  go_wp2_with (first | (go_at_call 55; with_reducible refine Calls.mono (HK.out _) ?_; rintro e w1 ⟨rfl, hb1⟩; have hR1 := below_heap hb1 (b := w.heap.size) (by simp) (alloc_new _ _); have hR1' := alloc_old (y := .cells #[.int .u64 0, .int .u64 0, .int .u64 0, .int .u64 0] 24) hR1; have hst := block_free hR1'; have hcr := block_cell hR1'))
  have b1 := ((Below.refl w.heap.size w).alloc (Nat.le_refl _) (.cells #[.int .u64 0, .int .u64 0, .int .u64 0, .int .u64 0] 24)).trans (hb1.mono (by simp))
  have z1 := b1.size
  have b := b1.alloc z1 (.cells #[.int .u64 0, .int .u64 0, .int .u64 0, .int .u64 0] 24)
  have hfin := set4 hR1' (.int .u64 0) (.int .u64 0) (.int .u64 0) (.int .u64 0)
  have hfc := block_cell hfin
  clear hfin
  exact bodyPost_ret (v := .tuple #[.agg #[.int .u64 0, .int .u64 0, .int .u64 0, .int .u64 0], .int .i64 10]) (by simp [results, Tryd.results51, go_sem, hfc]) rfl ⟨rfl, below_set4 b (Nat.le_refl _) _ _ _ _⟩
theorem class_any (c : Nat) (h8 : c < 256) (w : World) : Calls Tryd.prog 51 #[.int .u8 (c : Int)] w fun e w' => e = .returned (.tuple #[.agg #[.int .u64 (W (classP c) 0), .int .u64 (W (classP c) 1), .int .u64 (W (classP c) 2), .int .u64 (W (classP c) 3)], .int .i64 (classE c)]) ∧ Below w.heap.size w w' := by
  cases hc : clsB c
  · by_cases hu : 65 ≤ c ∧ c ≤ 90
    · cases hd : clsB (c + 32)
      · rw [(class_is_down hc hd).1, (class_is_down hc hd).2, W_emp, W_emp, W_emp, W_emp]
        exact class_down c h8 hc hu.1 hu.2 hd w
      · rw [(class_is_up hc hu.1 hu.2 hd).1, (class_is_up hc hu.1 hu.2 hd).2]
        exact class_up c h8 _ hc hu.1 hu.2 hd rfl w
    · rw [(class_is_no hc hu).1, (class_is_no hc hu).2, W_emp, W_emp, W_emp, W_emp]
      by_cases h6 : c < 65
      · exact class_no_lo c h8 hc h6 w
      · exact class_no_hi c h8 hc (by omega) w
  · rw [(class_is_yes hc).1, (class_is_yes hc).2]
    exact class_yes c h8 _ hc rfl w

end Go.Proofs.YtjbdamedofgdgaaDoor
