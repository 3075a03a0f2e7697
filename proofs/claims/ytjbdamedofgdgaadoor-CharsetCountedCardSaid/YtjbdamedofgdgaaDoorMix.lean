/-
  The reference's Mix, Union, Meet, Less, Not: what each returns, for every two sets; what lay in memory stays as it was.
-/
import Derived.Test.YtjbdamedofgdgaaDoorBits
namespace Go.Proofs.YtjbdamedofgdgaaDoor
open Go.RowKit

theorem rhas_val (p : Nat → Bool) (k : Nat) (v : Bool) (hv : p k = v) (hk : k < 256) (w : World) :
    Calls Tryd.prog 31 #[.agg #[.int .u64 (W p 0), .int .u64 (W p 1), .int .u64 (W p 2), .int .u64 (W p 3)], .int .i64 (k : Int)] w fun e w' => e = .returned (.bool v) ∧ Below w.heap.size w w' := by
  have h := rhas_any p k w
  rw [hasB_in hk, hv] at h
  exact h

set_option maxHeartbeats 8000000 in
set_option maxRecDepth 20000 in
theorem mix0 (p q : Nat → Bool) (w : World) :
    Calls Tryd.prog 38 #[.int .i64 0, .agg #[.int .u64 (W p 0), .int .u64 (W p 1), .int .u64 (W p 2), .int .u64 (W p 3)], .agg #[.int .u64 (W q 0), .int .u64 (W q 1), .int .u64 (W q 2), .int .u64 (W q 3)]] w fun e w' =>
      e = .returned (.agg #[.int .u64 (W (mixP 0 p q 256) 0), .int .u64 (W (mixP 0 p q 256) 1), .int .u64 (W (mixP 0 p q 256) 2), .int .u64 (W (mixP 0 p q 256) 3)]) ∧ Below w.heap.size w w' := by
  go_enter Tryd.func38, Tryd.ntmps38
  go_wp2
  go_loopw [8, 9, 10] (fun i _ _ wr => ∃ k : Nat, k ≤ 256 ∧ i = .int .i64 k ∧ wr.heap[w.heap.size]? = some (.cells #[.int .u64 (W p 0), .int .u64 (W p 1), .int .u64 (W p 2), .int .u64 (W p 3)] 24) ∧ wr.heap[w.heap.size + 1]? = some (.cells #[.int .u64 (W q 0), .int .u64 (W q 1), .int .u64 (W q 2), .int .u64 (W q 3)] 24) ∧ wr.heap[w.heap.size + 2]? = some (.cells #[.int .u64 0, .int .u64 0, .int .u64 0, .int .u64 0] 24) ∧ wr.heap[w.heap.size + 3]? = some (.cells #[.int .u64 (W (mixP 0 p q k) 0), .int .u64 (W (mixP 0 p q k) 1), .int .u64 (W (mixP 0 p q k) 2), .int .u64 (W (mixP 0 p q k) 3)] 24) ∧ Below w.heap.size w wr) (fun i _ _ _ => 256 - (intOf i).toNat)
  case atStart =>
    refine ⟨0, by omega, rfl, ?_, ?_, ?_, ?_, ((((Below.refl _ _).alloc (Nat.le_refl _) _).alloc (by simp) _).alloc (by simp; omega) _).alloc (by simp; omega) _⟩
    · exact alloc_old (alloc_old (alloc_old (alloc_new _ _)))
    · exact alloc_old (alloc_old (by have h := alloc_new (w.alloc (.cells #[.int .u64 (W p 0), .int .u64 (W p 1), .int .u64 (W p 2), .int .u64 (W p 3)] 24)) (.cells #[.int .u64 (W q 0), .int .u64 (W q 1), .int .u64 (W q 2), .int .u64 (W q 3)] 24); simpa using h))
    · exact alloc_old (by have h := alloc_new ((w.alloc (.cells #[.int .u64 (W p 0), .int .u64 (W p 1), .int .u64 (W p 2), .int .u64 (W p 3)] 24)).alloc (.cells #[.int .u64 (W q 0), .int .u64 (W q 1), .int .u64 (W q 2), .int .u64 (W q 3)] 24)) (.cells #[.int .u64 0, .int .u64 0, .int .u64 0, .int .u64 0] 24); simpa using h)
    · rw [mixP_zero, W_emp, W_emp, W_emp, W_emp]
      exact (by have h := alloc_new (((w.alloc (.cells #[.int .u64 (W p 0), .int .u64 (W p 1), .int .u64 (W p 2), .int .u64 (W p 3)] 24)).alloc (.cells #[.int .u64 (W q 0), .int .u64 (W q 1), .int .u64 (W q 2), .int .u64 (W q 3)] 24)).alloc (.cells #[.int .u64 0, .int .u64 0, .int .u64 0, .int .u64 0] 24)) (.cells #[.int .u64 0, .int .u64 0, .int .u64 0, .int .u64 0] 24); simpa using h)
  case round =>
    obtain ⟨k, hk, rfl, h0, h1, h2, h3, hB⟩ := hrel
    have hsz : w.heap.size + 3 < wr.heap.size := block_lt h3
    by_cases hlt : k < 256
    · have hld0 := grow_cell h0 (B := wr.heap.size) (by omega)
      have hld1 := grow_cell h1 (B := wr.heap.size) (by omega)
      cases hx : p k <;> cases hy : q k
      · have hs := hid (mixP_no (m := 0) (p := p) (q := q) (k := k) (by rw [hx, hy]; rfl))
        have HX := hid hx
        have HY := hid hy
        clear hx hy
        go_wp2
        refine wp_region_grow wr.heap.size (by kernel_rfl) (by kernel_rfl) ?_
        repeat (go_big_quiet_step (first | (go_at_call 31; with_reducible refine Calls.grow_of (Nat.le_refl _) (rhas_val p k false HX.out hlt _); done) | (go_at_call 31; with_reducible refine Calls.grow_of (Nat.le_refl _) (rhas_val q k false HY.out hlt _); done)))
        refine wpQuiet_nil ?_
        rintro _ ⟨g, rfl⟩
        have h0' := grow_heap h0 (by omega) g
        have h1' := grow_heap h1 (by omega) g
        have h2' := grow_heap h2 (by omega) g
        have h3' := grow_heap h3 (by omega) g
        have hb := hB.trans (g.below.mono hB.size)
        clear hld0 hld1
        generalize g.val = w1 at *
        have hsz1 : w.heap.size + 3 < w1.heap.size := block_lt h3'
        go_wp2
        go_roundw
        case rel => exact ⟨k + 1, by omega, by go_num, h0', h1', h2', by rw [hs.out]; exact h3', hb⟩
        case measure => simp [intOf]; omega
      · have hs := hid (mixP_yes (m := 0) (p := p) (q := q) (k := k) (by rw [hx, hy]; rfl))
        have HX := hid hx
        have HY := hid hy
        clear hx hy
        go_wp2
        refine wp_region_grow wr.heap.size (by kernel_rfl) (by kernel_rfl) ?_
        repeat (go_big_quiet_step (first | (go_at_call 31; with_reducible refine Calls.grow_of (Nat.le_refl _) (rhas_val p k false HX.out hlt _); done) | (go_at_call 31; with_reducible refine Calls.grow_of (Nat.le_refl _) (rhas_val q k true HY.out hlt _); done)))
        refine wpQuiet_nil ?_
        rintro _ ⟨g, rfl⟩
        have h0' := grow_heap h0 (by omega) g
        have h1' := grow_heap h1 (by omega) g
        have h2' := grow_heap h2 (by omega) g
        have h3' := grow_heap h3 (by omega) g
        have hb := hB.trans (g.below.mono hB.size)
        clear hld0 hld1
        generalize g.val = w1 at *
        have hsz1 : w.heap.size + 3 < w1.heap.size := block_lt h3'
        have hcl := block_cell h3'
        go_wp2_with ((go_at_call 34; refine (rwith_any (mixP 0 p q k) k hlt _).mono ?_; rintro e w2 ⟨rfl, hb2⟩; have h3'' := below_heap hb2 hsz1 h3'; have hst := block_free h3''; have hcl2 := block_cell h3''))
        go_roundw
        case rel =>
          refine ⟨k + 1, by omega, by go_num, ?_, ?_, ?_, ?_, below_set4 (hb.trans (hb2.mono hb.size)) (by omega) _ _ _ _⟩
          · rw [heap_setCell_ne _ _ _ (by omega), heap_setCell_ne _ _ _ (by omega), heap_setCell_ne _ _ _ (by omega), heap_setCell_ne _ _ _ (by omega)]
            exact below_heap hb2 (by omega) h0'
          · rw [heap_setCell_ne _ _ _ (by omega), heap_setCell_ne _ _ _ (by omega), heap_setCell_ne _ _ _ (by omega), heap_setCell_ne _ _ _ (by omega)]
            exact below_heap hb2 (by omega) h1'
          · rw [heap_setCell_ne _ _ _ (by omega), heap_setCell_ne _ _ _ (by omega), heap_setCell_ne _ _ _ (by omega), heap_setCell_ne _ _ _ (by omega)]
            exact below_heap hb2 (by omega) h2'
          · rw [hs.out]
            exact set4 h3'' _ _ _ _
        case measure => simp [intOf]; omega
      · have hs := hid (mixP_yes (m := 0) (p := p) (q := q) (k := k) (by rw [hx, hy]; rfl))
        have HX := hid hx
        have HY := hid hy
        clear hx hy
        go_wp2
        refine wp_region_grow wr.heap.size (by kernel_rfl) (by kernel_rfl) ?_
        repeat (go_big_quiet_step (first | (go_at_call 31; with_reducible refine Calls.grow_of (Nat.le_refl _) (rhas_val p k true HX.out hlt _); done) | (go_at_call 31; with_reducible refine Calls.grow_of (Nat.le_refl _) (rhas_val q k false HY.out hlt _); done)))
        refine wpQuiet_nil ?_
        rintro _ ⟨g, rfl⟩
        have h0' := grow_heap h0 (by omega) g
        have h1' := grow_heap h1 (by omega) g
        have h2' := grow_heap h2 (by omega) g
        have h3' := grow_heap h3 (by omega) g
        have hb := hB.trans (g.below.mono hB.size)
        clear hld0 hld1
        generalize g.val = w1 at *
        have hsz1 : w.heap.size + 3 < w1.heap.size := block_lt h3'
        have hcl := block_cell h3'
        go_wp2_with ((go_at_call 34; refine (rwith_any (mixP 0 p q k) k hlt _).mono ?_; rintro e w2 ⟨rfl, hb2⟩; have h3'' := below_heap hb2 hsz1 h3'; have hst := block_free h3''; have hcl2 := block_cell h3''))
        go_roundw
        case rel =>
          refine ⟨k + 1, by omega, by go_num, ?_, ?_, ?_, ?_, below_set4 (hb.trans (hb2.mono hb.size)) (by omega) _ _ _ _⟩
          · rw [heap_setCell_ne _ _ _ (by omega), heap_setCell_ne _ _ _ (by omega), heap_setCell_ne _ _ _ (by omega), heap_setCell_ne _ _ _ (by omega)]
            exact below_heap hb2 (by omega) h0'
          · rw [heap_setCell_ne _ _ _ (by omega), heap_setCell_ne _ _ _ (by omega), heap_setCell_ne _ _ _ (by omega), heap_setCell_ne _ _ _ (by omega)]
            exact below_heap hb2 (by omega) h1'
          · rw [heap_setCell_ne _ _ _ (by omega), heap_setCell_ne _ _ _ (by omega), heap_setCell_ne _ _ _ (by omega), heap_setCell_ne _ _ _ (by omega)]
            exact below_heap hb2 (by omega) h2'
          · rw [hs.out]
            exact set4 h3'' _ _ _ _
        case measure => simp [intOf]; omega
      · have hs := hid (mixP_yes (m := 0) (p := p) (q := q) (k := k) (by rw [hx, hy]; rfl))
        have HX := hid hx
        have HY := hid hy
        clear hx hy
        go_wp2
        refine wp_region_grow wr.heap.size (by kernel_rfl) (by kernel_rfl) ?_
        repeat (go_big_quiet_step (first | (go_at_call 31; with_reducible refine Calls.grow_of (Nat.le_refl _) (rhas_val p k true HX.out hlt _); done) | (go_at_call 31; with_reducible refine Calls.grow_of (Nat.le_refl _) (rhas_val q k true HY.out hlt _); done)))
        refine wpQuiet_nil ?_
        rintro _ ⟨g, rfl⟩
        have h0' := grow_heap h0 (by omega) g
        have h1' := grow_heap h1 (by omega) g
        have h2' := grow_heap h2 (by omega) g
        have h3' := grow_heap h3 (by omega) g
        have hb := hB.trans (g.below.mono hB.size)
        clear hld0 hld1
        generalize g.val = w1 at *
        have hsz1 : w.heap.size + 3 < w1.heap.size := block_lt h3'
        have hcl := block_cell h3'
        go_wp2_with ((go_at_call 34; refine (rwith_any (mixP 0 p q k) k hlt _).mono ?_; rintro e w2 ⟨rfl, hb2⟩; have h3'' := below_heap hb2 hsz1 h3'; have hst := block_free h3''; have hcl2 := block_cell h3''))
        go_roundw
        case rel =>
          refine ⟨k + 1, by omega, by go_num, ?_, ?_, ?_, ?_, below_set4 (hb.trans (hb2.mono hb.size)) (by omega) _ _ _ _⟩
          · rw [heap_setCell_ne _ _ _ (by omega), heap_setCell_ne _ _ _ (by omega), heap_setCell_ne _ _ _ (by omega), heap_setCell_ne _ _ _ (by omega)]
            exact below_heap hb2 (by omega) h0'
          · rw [heap_setCell_ne _ _ _ (by omega), heap_setCell_ne _ _ _ (by omega), heap_setCell_ne _ _ _ (by omega), heap_setCell_ne _ _ _ (by omega)]
            exact below_heap hb2 (by omega) h1'
          · rw [heap_setCell_ne _ _ _ (by omega), heap_setCell_ne _ _ _ (by omega), heap_setCell_ne _ _ _ (by omega), heap_setCell_ne _ _ _ (by omega)]
            exact below_heap hb2 (by omega) h2'
          · rw [hs.out]
            exact set4 h3'' _ _ _ _
        case measure => simp [intOf]; omega
    · have hke : k = 256 := by omega
      subst hke
      have hst := block_free h2
      have hcr := block_cell h2
      have hcl := block_cell h3
      have hfin := set4 h2 (.int .u64 (W (mixP 0 p q 256) 0)) (.int .u64 (W (mixP 0 p q 256) 1)) (.int .u64 (W (mixP 0 p q 256) 2)) (.int .u64 (W (mixP 0 p q 256) 3))
      have hfb := below_set4 hB (Nat.le_add_right _ 2) (.int .u64 (W (mixP 0 p q 256) 0)) (.int .u64 (W (mixP 0 p q 256) 1)) (.int .u64 (W (mixP 0 p q 256) 2)) (.int .u64 (W (mixP 0 p q 256) 3))
      have hfc := block_cell hfin
      clear hfin
      go_wp2
      exact bodyPost_ret (v := .agg #[.int .u64 (W (mixP 0 p q 256) 0), .int .u64 (W (mixP 0 p q 256) 1), .int .u64 (W (mixP 0 p q 256) 2), .int .u64 (W (mixP 0 p q 256) 3)]) (by simp [results, Tryd.results38, go_sem, hfc]) rfl ⟨rfl, hfb⟩


set_option maxHeartbeats 8000000 in
set_option maxRecDepth 20000 in
theorem mix1 (p q : Nat → Bool) (w : World) :
    Calls Tryd.prog 38 #[.int .i64 1, .agg #[.int .u64 (W p 0), .int .u64 (W p 1), .int .u64 (W p 2), .int .u64 (W p 3)], .agg #[.int .u64 (W q 0), .int .u64 (W q 1), .int .u64 (W q 2), .int .u64 (W q 3)]] w fun e w' =>
      e = .returned (.agg #[.int .u64 (W (mixP 1 p q 256) 0), .int .u64 (W (mixP 1 p q 256) 1), .int .u64 (W (mixP 1 p q 256) 2), .int .u64 (W (mixP 1 p q 256) 3)]) ∧ Below w.heap.size w w' := by
  go_enter Tryd.func38, Tryd.ntmps38
  go_wp2
  go_loopw [8, 9, 10] (fun i _ _ wr => ∃ k : Nat, k ≤ 256 ∧ i = .int .i64 k ∧ wr.heap[w.heap.size]? = some (.cells #[.int .u64 (W p 0), .int .u64 (W p 1), .int .u64 (W p 2), .int .u64 (W p 3)] 24) ∧ wr.heap[w.heap.size + 1]? = some (.cells #[.int .u64 (W q 0), .int .u64 (W q 1), .int .u64 (W q 2), .int .u64 (W q 3)] 24) ∧ wr.heap[w.heap.size + 2]? = some (.cells #[.int .u64 0, .int .u64 0, .int .u64 0, .int .u64 0] 24) ∧ wr.heap[w.heap.size + 3]? = some (.cells #[.int .u64 (W (mixP 1 p q k) 0), .int .u64 (W (mixP 1 p q k) 1), .int .u64 (W (mixP 1 p q k) 2), .int .u64 (W (mixP 1 p q k) 3)] 24) ∧ Below w.heap.size w wr) (fun i _ _ _ => 256 - (intOf i).toNat)
  case atStart =>
    refine ⟨0, by omega, rfl, ?_, ?_, ?_, ?_, ((((Below.refl _ _).alloc (Nat.le_refl _) _).alloc (by simp) _).alloc (by simp; omega) _).alloc (by simp; omega) _⟩
    · exact alloc_old (alloc_old (alloc_old (alloc_new _ _)))
    · exact alloc_old (alloc_old (by have h := alloc_new (w.alloc (.cells #[.int .u64 (W p 0), .int .u64 (W p 1), .int .u64 (W p 2), .int .u64 (W p 3)] 24)) (.cells #[.int .u64 (W q 0), .int .u64 (W q 1), .int .u64 (W q 2), .int .u64 (W q 3)] 24); simpa using h))
    · exact alloc_old (by have h := alloc_new ((w.alloc (.cells #[.int .u64 (W p 0), .int .u64 (W p 1), .int .u64 (W p 2), .int .u64 (W p 3)] 24)).alloc (.cells #[.int .u64 (W q 0), .int .u64 (W q 1), .int .u64 (W q 2), .int .u64 (W q 3)] 24)) (.cells #[.int .u64 0, .int .u64 0, .int .u64 0, .int .u64 0] 24); simpa using h)
    · rw [mixP_zero, W_emp, W_emp, W_emp, W_emp]
      exact (by have h := alloc_new (((w.alloc (.cells #[.int .u64 (W p 0), .int .u64 (W p 1), .int .u64 (W p 2), .int .u64 (W p 3)] 24)).alloc (.cells #[.int .u64 (W q 0), .int .u64 (W q 1), .int .u64 (W q 2), .int .u64 (W q 3)] 24)).alloc (.cells #[.int .u64 0, .int .u64 0, .int .u64 0, .int .u64 0] 24)) (.cells #[.int .u64 0, .int .u64 0, .int .u64 0, .int .u64 0] 24); simpa using h)
  case round =>
    obtain ⟨k, hk, rfl, h0, h1, h2, h3, hB⟩ := hrel
    have hsz : w.heap.size + 3 < wr.heap.size := block_lt h3
    by_cases hlt : k < 256
    · have hld0 := grow_cell h0 (B := wr.heap.size) (by omega)
      have hld1 := grow_cell h1 (B := wr.heap.size) (by omega)
      cases hx : p k <;> cases hy : q k
      · have hs := hid (mixP_no (m := 1) (p := p) (q := q) (k := k) (by rw [hx, hy]; rfl))
        have HX := hid hx
        have HY := hid hy
        clear hx hy
        go_wp2
        refine wp_region_grow wr.heap.size (by kernel_rfl) (by kernel_rfl) ?_
        repeat (go_big_quiet_step (first | (go_at_call 31; with_reducible refine Calls.grow_of (Nat.le_refl _) (rhas_val p k false HX.out hlt _); done) | (go_at_call 31; with_reducible refine Calls.grow_of (Nat.le_refl _) (rhas_val q k false HY.out hlt _); done)))
        refine wpQuiet_nil ?_
        rintro _ ⟨g, rfl⟩
        have h0' := grow_heap h0 (by omega) g
        have h1' := grow_heap h1 (by omega) g
        have h2' := grow_heap h2 (by omega) g
        have h3' := grow_heap h3 (by omega) g
        have hb := hB.trans (g.below.mono hB.size)
        clear hld0 hld1
        generalize g.val = w1 at *
        have hsz1 : w.heap.size + 3 < w1.heap.size := block_lt h3'
        go_wp2
        go_roundw
        case rel => exact ⟨k + 1, by omega, by go_num, h0', h1', h2', by rw [hs.out]; exact h3', hb⟩
        case measure => simp [intOf]; omega
      · have hs := hid (mixP_no (m := 1) (p := p) (q := q) (k := k) (by rw [hx, hy]; rfl))
        have HX := hid hx
        have HY := hid hy
        clear hx hy
        go_wp2
        refine wp_region_grow wr.heap.size (by kernel_rfl) (by kernel_rfl) ?_
        repeat (go_big_quiet_step (first | (go_at_call 31; with_reducible refine Calls.grow_of (Nat.le_refl _) (rhas_val p k false HX.out hlt _); done) | (go_at_call 31; with_reducible refine Calls.grow_of (Nat.le_refl _) (rhas_val q k true HY.out hlt _); done)))
        refine wpQuiet_nil ?_
        rintro _ ⟨g, rfl⟩
        have h0' := grow_heap h0 (by omega) g
        have h1' := grow_heap h1 (by omega) g
        have h2' := grow_heap h2 (by omega) g
        have h3' := grow_heap h3 (by omega) g
        have hb := hB.trans (g.below.mono hB.size)
        clear hld0 hld1
        generalize g.val = w1 at *
        have hsz1 : w.heap.size + 3 < w1.heap.size := block_lt h3'
        go_wp2
        go_roundw
        case rel => exact ⟨k + 1, by omega, by go_num, h0', h1', h2', by rw [hs.out]; exact h3', hb⟩
        case measure => simp [intOf]; omega
      · have hs := hid (mixP_no (m := 1) (p := p) (q := q) (k := k) (by rw [hx, hy]; rfl))
        have HX := hid hx
        have HY := hid hy
        clear hx hy
        go_wp2
        refine wp_region_grow wr.heap.size (by kernel_rfl) (by kernel_rfl) ?_
        repeat (go_big_quiet_step (first | (go_at_call 31; with_reducible refine Calls.grow_of (Nat.le_refl _) (rhas_val p k true HX.out hlt _); done) | (go_at_call 31; with_reducible refine Calls.grow_of (Nat.le_refl _) (rhas_val q k false HY.out hlt _); done)))
        refine wpQuiet_nil ?_
        rintro _ ⟨g, rfl⟩
        have h0' := grow_heap h0 (by omega) g
        have h1' := grow_heap h1 (by omega) g
        have h2' := grow_heap h2 (by omega) g
        have h3' := grow_heap h3 (by omega) g
        have hb := hB.trans (g.below.mono hB.size)
        clear hld0 hld1
        generalize g.val = w1 at *
        have hsz1 : w.heap.size + 3 < w1.heap.size := block_lt h3'
        go_wp2
        go_roundw
        case rel => exact ⟨k + 1, by omega, by go_num, h0', h1', h2', by rw [hs.out]; exact h3', hb⟩
        case measure => simp [intOf]; omega
      · have hs := hid (mixP_yes (m := 1) (p := p) (q := q) (k := k) (by rw [hx, hy]; rfl))
        have HX := hid hx
        have HY := hid hy
        clear hx hy
        go_wp2
        refine wp_region_grow wr.heap.size (by kernel_rfl) (by kernel_rfl) ?_
        repeat (go_big_quiet_step (first | (go_at_call 31; with_reducible refine Calls.grow_of (Nat.le_refl _) (rhas_val p k true HX.out hlt _); done) | (go_at_call 31; with_reducible refine Calls.grow_of (Nat.le_refl _) (rhas_val q k true HY.out hlt _); done)))
        refine wpQuiet_nil ?_
        rintro _ ⟨g, rfl⟩
        have h0' := grow_heap h0 (by omega) g
        have h1' := grow_heap h1 (by omega) g
        have h2' := grow_heap h2 (by omega) g
        have h3' := grow_heap h3 (by omega) g
        have hb := hB.trans (g.below.mono hB.size)
        clear hld0 hld1
        generalize g.val = w1 at *
        have hsz1 : w.heap.size + 3 < w1.heap.size := block_lt h3'
        have hcl := block_cell h3'
        go_wp2_with ((go_at_call 34; refine (rwith_any (mixP 1 p q k) k hlt _).mono ?_; rintro e w2 ⟨rfl, hb2⟩; have h3'' := below_heap hb2 hsz1 h3'; have hst := block_free h3''; have hcl2 := block_cell h3''))
        go_roundw
        case rel =>
          refine ⟨k + 1, by omega, by go_num, ?_, ?_, ?_, ?_, below_set4 (hb.trans (hb2.mono hb.size)) (by omega) _ _ _ _⟩
          · rw [heap_setCell_ne _ _ _ (by omega), heap_setCell_ne _ _ _ (by omega), heap_setCell_ne _ _ _ (by omega), heap_setCell_ne _ _ _ (by omega)]
            exact below_heap hb2 (by omega) h0'
          · rw [heap_setCell_ne _ _ _ (by omega), heap_setCell_ne _ _ _ (by omega), heap_setCell_ne _ _ _ (by omega), heap_setCell_ne _ _ _ (by omega)]
            exact below_heap hb2 (by omega) h1'
          · rw [heap_setCell_ne _ _ _ (by omega), heap_setCell_ne _ _ _ (by omega), heap_setCell_ne _ _ _ (by omega), heap_setCell_ne _ _ _ (by omega)]
            exact below_heap hb2 (by omega) h2'
          · rw [hs.out]
            exact set4 h3'' _ _ _ _
        case measure => simp [intOf]; omega
    · have hke : k = 256 := by omega
      subst hke
      have hst := block_free h2
      have hcr := block_cell h2
      have hcl := block_cell h3
      have hfin := set4 h2 (.int .u64 (W (mixP 1 p q 256) 0)) (.int .u64 (W (mixP 1 p q 256) 1)) (.int .u64 (W (mixP 1 p q 256) 2)) (.int .u64 (W (mixP 1 p q 256) 3))
      have hfb := below_set4 hB (Nat.le_add_right _ 2) (.int .u64 (W (mixP 1 p q 256) 0)) (.int .u64 (W (mixP 1 p q 256) 1)) (.int .u64 (W (mixP 1 p q 256) 2)) (.int .u64 (W (mixP 1 p q 256) 3))
      have hfc := block_cell hfin
      clear hfin
      go_wp2
      exact bodyPost_ret (v := .agg #[.int .u64 (W (mixP 1 p q 256) 0), .int .u64 (W (mixP 1 p q 256) 1), .int .u64 (W (mixP 1 p q 256) 2), .int .u64 (W (mixP 1 p q 256) 3)]) (by simp [results, Tryd.results38, go_sem, hfc]) rfl ⟨rfl, hfb⟩


set_option maxHeartbeats 8000000 in
set_option maxRecDepth 20000 in
theorem mix2 (p q : Nat → Bool) (w : World) :
    Calls Tryd.prog 38 #[.int .i64 2, .agg #[.int .u64 (W p 0), .int .u64 (W p 1), .int .u64 (W p 2), .int .u64 (W p 3)], .agg #[.int .u64 (W q 0), .int .u64 (W q 1), .int .u64 (W q 2), .int .u64 (W q 3)]] w fun e w' =>
      e = .returned (.agg #[.int .u64 (W (mixP 2 p q 256) 0), .int .u64 (W (mixP 2 p q 256) 1), .int .u64 (W (mixP 2 p q 256) 2), .int .u64 (W (mixP 2 p q 256) 3)]) ∧ Below w.heap.size w w' := by
  go_enter Tryd.func38, Tryd.ntmps38
  go_wp2
  go_loopw [8, 9, 10] (fun i _ _ wr => ∃ k : Nat, k ≤ 256 ∧ i = .int .i64 k ∧ wr.heap[w.heap.size]? = some (.cells #[.int .u64 (W p 0), .int .u64 (W p 1), .int .u64 (W p 2), .int .u64 (W p 3)] 24) ∧ wr.heap[w.heap.size + 1]? = some (.cells #[.int .u64 (W q 0), .int .u64 (W q 1), .int .u64 (W q 2), .int .u64 (W q 3)] 24) ∧ wr.heap[w.heap.size + 2]? = some (.cells #[.int .u64 0, .int .u64 0, .int .u64 0, .int .u64 0] 24) ∧ wr.heap[w.heap.size + 3]? = some (.cells #[.int .u64 (W (mixP 2 p q k) 0), .int .u64 (W (mixP 2 p q k) 1), .int .u64 (W (mixP 2 p q k) 2), .int .u64 (W (mixP 2 p q k) 3)] 24) ∧ Below w.heap.size w wr) (fun i _ _ _ => 256 - (intOf i).toNat)
  case atStart =>
    refine ⟨0, by omega, rfl, ?_, ?_, ?_, ?_, ((((Below.refl _ _).alloc (Nat.le_refl _) _).alloc (by simp) _).alloc (by simp; omega) _).alloc (by simp; omega) _⟩
    · exact alloc_old (alloc_old (alloc_old (alloc_new _ _)))
    · exact alloc_old (alloc_old (by have h := alloc_new (w.alloc (.cells #[.int .u64 (W p 0), .int .u64 (W p 1), .int .u64 (W p 2), .int .u64 (W p 3)] 24)) (.cells #[.int .u64 (W q 0), .int .u64 (W q 1), .int .u64 (W q 2), .int .u64 (W q 3)] 24); simpa using h))
    · exact alloc_old (by have h := alloc_new ((w.alloc (.cells #[.int .u64 (W p 0), .int .u64 (W p 1), .int .u64 (W p 2), .int .u64 (W p 3)] 24)).alloc (.cells #[.int .u64 (W q 0), .int .u64 (W q 1), .int .u64 (W q 2), .int .u64 (W q 3)] 24)) (.cells #[.int .u64 0, .int .u64 0, .int .u64 0, .int .u64 0] 24); simpa using h)
    · rw [mixP_zero, W_emp, W_emp, W_emp, W_emp]
      exact (by have h := alloc_new (((w.alloc (.cells #[.int .u64 (W p 0), .int .u64 (W p 1), .int .u64 (W p 2), .int .u64 (W p 3)] 24)).alloc (.cells #[.int .u64 (W q 0), .int .u64 (W q 1), .int .u64 (W q 2), .int .u64 (W q 3)] 24)).alloc (.cells #[.int .u64 0, .int .u64 0, .int .u64 0, .int .u64 0] 24)) (.cells #[.int .u64 0, .int .u64 0, .int .u64 0, .int .u64 0] 24); simpa using h)
  case round =>
    obtain ⟨k, hk, rfl, h0, h1, h2, h3, hB⟩ := hrel
    have hsz : w.heap.size + 3 < wr.heap.size := block_lt h3
    by_cases hlt : k < 256
    · have hld0 := grow_cell h0 (B := wr.heap.size) (by omega)
      have hld1 := grow_cell h1 (B := wr.heap.size) (by omega)
      cases hx : p k <;> cases hy : q k
      · have hs := hid (mixP_no (m := 2) (p := p) (q := q) (k := k) (by rw [hx, hy]; rfl))
        have HX := hid hx
        have HY := hid hy
        clear hx hy
        go_wp2
        refine wp_region_grow wr.heap.size (by kernel_rfl) (by kernel_rfl) ?_
        repeat (go_big_quiet_step (first | (go_at_call 31; with_reducible refine Calls.grow_of (Nat.le_refl _) (rhas_val p k false HX.out hlt _); done) | (go_at_call 31; with_reducible refine Calls.grow_of (Nat.le_refl _) (rhas_val q k false HY.out hlt _); done)))
        refine wpQuiet_nil ?_
        rintro _ ⟨g, rfl⟩
        have h0' := grow_heap h0 (by omega) g
        have h1' := grow_heap h1 (by omega) g
        have h2' := grow_heap h2 (by omega) g
        have h3' := grow_heap h3 (by omega) g
        have hb := hB.trans (g.below.mono hB.size)
        clear hld0 hld1
        generalize g.val = w1 at *
        have hsz1 : w.heap.size + 3 < w1.heap.size := block_lt h3'
        go_wp2
        go_roundw
        case rel => exact ⟨k + 1, by omega, by go_num, h0', h1', h2', by rw [hs.out]; exact h3', hb⟩
        case measure => simp [intOf]; omega
      · have hs := hid (mixP_no (m := 2) (p := p) (q := q) (k := k) (by rw [hx, hy]; rfl))
        have HX := hid hx
        have HY := hid hy
        clear hx hy
        go_wp2
        refine wp_region_grow wr.heap.size (by kernel_rfl) (by kernel_rfl) ?_
        repeat (go_big_quiet_step (first | (go_at_call 31; with_reducible refine Calls.grow_of (Nat.le_refl _) (rhas_val p k false HX.out hlt _); done) | (go_at_call 31; with_reducible refine Calls.grow_of (Nat.le_refl _) (rhas_val q k true HY.out hlt _); done)))
        refine wpQuiet_nil ?_
        rintro _ ⟨g, rfl⟩
        have h0' := grow_heap h0 (by omega) g
        have h1' := grow_heap h1 (by omega) g
        have h2' := grow_heap h2 (by omega) g
        have h3' := grow_heap h3 (by omega) g
        have hb := hB.trans (g.below.mono hB.size)
        clear hld0 hld1
        generalize g.val = w1 at *
        have hsz1 : w.heap.size + 3 < w1.heap.size := block_lt h3'
        go_wp2
        go_roundw
        case rel => exact ⟨k + 1, by omega, by go_num, h0', h1', h2', by rw [hs.out]; exact h3', hb⟩
        case measure => simp [intOf]; omega
      · have hs := hid (mixP_yes (m := 2) (p := p) (q := q) (k := k) (by rw [hx, hy]; rfl))
        have HX := hid hx
        have HY := hid hy
        clear hx hy
        go_wp2
        refine wp_region_grow wr.heap.size (by kernel_rfl) (by kernel_rfl) ?_
        repeat (go_big_quiet_step (first | (go_at_call 31; with_reducible refine Calls.grow_of (Nat.le_refl _) (rhas_val p k true HX.out hlt _); done) | (go_at_call 31; with_reducible refine Calls.grow_of (Nat.le_refl _) (rhas_val q k false HY.out hlt _); done)))
        refine wpQuiet_nil ?_
        rintro _ ⟨g, rfl⟩
        have h0' := grow_heap h0 (by omega) g
        have h1' := grow_heap h1 (by omega) g
        have h2' := grow_heap h2 (by omega) g
        have h3' := grow_heap h3 (by omega) g
        have hb := hB.trans (g.below.mono hB.size)
        clear hld0 hld1
        generalize g.val = w1 at *
        have hsz1 : w.heap.size + 3 < w1.heap.size := block_lt h3'
        have hcl := block_cell h3'
        go_wp2_with ((go_at_call 34; refine (rwith_any (mixP 2 p q k) k hlt _).mono ?_; rintro e w2 ⟨rfl, hb2⟩; have h3'' := below_heap hb2 hsz1 h3'; have hst := block_free h3''; have hcl2 := block_cell h3''))
        go_roundw
        case rel =>
          refine ⟨k + 1, by omega, by go_num, ?_, ?_, ?_, ?_, below_set4 (hb.trans (hb2.mono hb.size)) (by omega) _ _ _ _⟩
          · rw [heap_setCell_ne _ _ _ (by omega), heap_setCell_ne _ _ _ (by omega), heap_setCell_ne _ _ _ (by omega), heap_setCell_ne _ _ _ (by omega)]
            exact below_heap hb2 (by omega) h0'
          · rw [heap_setCell_ne _ _ _ (by omega), heap_setCell_ne _ _ _ (by omega), heap_setCell_ne _ _ _ (by omega), heap_setCell_ne _ _ _ (by omega)]
            exact below_heap hb2 (by omega) h1'
          · rw [heap_setCell_ne _ _ _ (by omega), heap_setCell_ne _ _ _ (by omega), heap_setCell_ne _ _ _ (by omega), heap_setCell_ne _ _ _ (by omega)]
            exact below_heap hb2 (by omega) h2'
          · rw [hs.out]
            exact set4 h3'' _ _ _ _
        case measure => simp [intOf]; omega
      · have hs := hid (mixP_no (m := 2) (p := p) (q := q) (k := k) (by rw [hx, hy]; rfl))
        have HX := hid hx
        have HY := hid hy
        clear hx hy
        go_wp2
        refine wp_region_grow wr.heap.size (by kernel_rfl) (by kernel_rfl) ?_
        repeat (go_big_quiet_step (first | (go_at_call 31; with_reducible refine Calls.grow_of (Nat.le_refl _) (rhas_val p k true HX.out hlt _); done) | (go_at_call 31; with_reducible refine Calls.grow_of (Nat.le_refl _) (rhas_val q k true HY.out hlt _); done)))
        refine wpQuiet_nil ?_
        rintro _ ⟨g, rfl⟩
        have h0' := grow_heap h0 (by omega) g
        have h1' := grow_heap h1 (by omega) g
        have h2' := grow_heap h2 (by omega) g
        have h3' := grow_heap h3 (by omega) g
        have hb := hB.trans (g.below.mono hB.size)
        clear hld0 hld1
        generalize g.val = w1 at *
        have hsz1 : w.heap.size + 3 < w1.heap.size := block_lt h3'
        go_wp2
        go_roundw
        case rel => exact ⟨k + 1, by omega, by go_num, h0', h1', h2', by rw [hs.out]; exact h3', hb⟩
        case measure => simp [intOf]; omega
    · have hke : k = 256 := by omega
      subst hke
      have hst := block_free h2
      have hcr := block_cell h2
      have hcl := block_cell h3
      have hfin := set4 h2 (.int .u64 (W (mixP 2 p q 256) 0)) (.int .u64 (W (mixP 2 p q 256) 1)) (.int .u64 (W (mixP 2 p q 256) 2)) (.int .u64 (W (mixP 2 p q 256) 3))
      have hfb := below_set4 hB (Nat.le_add_right _ 2) (.int .u64 (W (mixP 2 p q 256) 0)) (.int .u64 (W (mixP 2 p q 256) 1)) (.int .u64 (W (mixP 2 p q 256) 2)) (.int .u64 (W (mixP 2 p q 256) 3))
      have hfc := block_cell hfin
      clear hfin
      go_wp2
      exact bodyPost_ret (v := .agg #[.int .u64 (W (mixP 2 p q 256) 0), .int .u64 (W (mixP 2 p q 256) 1), .int .u64 (W (mixP 2 p q 256) 2), .int .u64 (W (mixP 2 p q 256) 3)]) (by simp [results, Tryd.results38, go_sem, hfc]) rfl ⟨rfl, hfb⟩


set_option maxHeartbeats 8000000 in
set_option maxRecDepth 20000 in
theorem mix3 (p q : Nat → Bool) (w : World) :
    Calls Tryd.prog 38 #[.int .i64 3, .agg #[.int .u64 (W p 0), .int .u64 (W p 1), .int .u64 (W p 2), .int .u64 (W p 3)], .agg #[.int .u64 (W q 0), .int .u64 (W q 1), .int .u64 (W q 2), .int .u64 (W q 3)]] w fun e w' =>
      e = .returned (.agg #[.int .u64 (W (mixP 3 p q 256) 0), .int .u64 (W (mixP 3 p q 256) 1), .int .u64 (W (mixP 3 p q 256) 2), .int .u64 (W (mixP 3 p q 256) 3)]) ∧ Below w.heap.size w w' := by
  go_enter Tryd.func38, Tryd.ntmps38
  go_wp2
  go_loopw [8, 9, 10] (fun i _ _ wr => ∃ k : Nat, k ≤ 256 ∧ i = .int .i64 k ∧ wr.heap[w.heap.size]? = some (.cells #[.int .u64 (W p 0), .int .u64 (W p 1), .int .u64 (W p 2), .int .u64 (W p 3)] 24) ∧ wr.heap[w.heap.size + 1]? = some (.cells #[.int .u64 (W q 0), .int .u64 (W q 1), .int .u64 (W q 2), .int .u64 (W q 3)] 24) ∧ wr.heap[w.heap.size + 2]? = some (.cells #[.int .u64 0, .int .u64 0, .int .u64 0, .int .u64 0] 24) ∧ wr.heap[w.heap.size + 3]? = some (.cells #[.int .u64 (W (mixP 3 p q k) 0), .int .u64 (W (mixP 3 p q k) 1), .int .u64 (W (mixP 3 p q k) 2), .int .u64 (W (mixP 3 p q k) 3)] 24) ∧ Below w.heap.size w wr) (fun i _ _ _ => 256 - (intOf i).toNat)
  case atStart =>
    refine ⟨0, by omega, rfl, ?_, ?_, ?_, ?_, ((((Below.refl _ _).alloc (Nat.le_refl _) _).alloc (by simp) _).alloc (by simp; omega) _).alloc (by simp; omega) _⟩
    · exact alloc_old (alloc_old (alloc_old (alloc_new _ _)))
    · exact alloc_old (alloc_old (by have h := alloc_new (w.alloc (.cells #[.int .u64 (W p 0), .int .u64 (W p 1), .int .u64 (W p 2), .int .u64 (W p 3)] 24)) (.cells #[.int .u64 (W q 0), .int .u64 (W q 1), .int .u64 (W q 2), .int .u64 (W q 3)] 24); simpa using h))
    · exact alloc_old (by have h := alloc_new ((w.alloc (.cells #[.int .u64 (W p 0), .int .u64 (W p 1), .int .u64 (W p 2), .int .u64 (W p 3)] 24)).alloc (.cells #[.int .u64 (W q 0), .int .u64 (W q 1), .int .u64 (W q 2), .int .u64 (W q 3)] 24)) (.cells #[.int .u64 0, .int .u64 0, .int .u64 0, .int .u64 0] 24); simpa using h)
    · rw [mixP_zero, W_emp, W_emp, W_emp, W_emp]
      exact (by have h := alloc_new (((w.alloc (.cells #[.int .u64 (W p 0), .int .u64 (W p 1), .int .u64 (W p 2), .int .u64 (W p 3)] 24)).alloc (.cells #[.int .u64 (W q 0), .int .u64 (W q 1), .int .u64 (W q 2), .int .u64 (W q 3)] 24)).alloc (.cells #[.int .u64 0, .int .u64 0, .int .u64 0, .int .u64 0] 24)) (.cells #[.int .u64 0, .int .u64 0, .int .u64 0, .int .u64 0] 24); simpa using h)
  case round =>
    obtain ⟨k, hk, rfl, h0, h1, h2, h3, hB⟩ := hrel
    have hsz : w.heap.size + 3 < wr.heap.size := block_lt h3
    by_cases hlt : k < 256
    · have hld0 := grow_cell h0 (B := wr.heap.size) (by omega)
      have hld1 := grow_cell h1 (B := wr.heap.size) (by omega)
      cases hx : p k <;> cases hy : q k
      · have hs := hid (mixP_yes (m := 3) (p := p) (q := q) (k := k) (by rw [hx, hy]; rfl))
        have HX := hid hx
        have HY := hid hy
        clear hx hy
        go_wp2
        refine wp_region_grow wr.heap.size (by kernel_rfl) (by kernel_rfl) ?_
        repeat (go_big_quiet_step (first | (go_at_call 31; with_reducible refine Calls.grow_of (Nat.le_refl _) (rhas_val p k false HX.out hlt _); done) | (go_at_call 31; with_reducible refine Calls.grow_of (Nat.le_refl _) (rhas_val q k false HY.out hlt _); done)))
        refine wpQuiet_nil ?_
        rintro _ ⟨g, rfl⟩
        have h0' := grow_heap h0 (by omega) g
        have h1' := grow_heap h1 (by omega) g
        have h2' := grow_heap h2 (by omega) g
        have h3' := grow_heap h3 (by omega) g
        have hb := hB.trans (g.below.mono hB.size)
        clear hld0 hld1
        generalize g.val = w1 at *
        have hsz1 : w.heap.size + 3 < w1.heap.size := block_lt h3'
        have hcl := block_cell h3'
        go_wp2_with ((go_at_call 34; refine (rwith_any (mixP 3 p q k) k hlt _).mono ?_; rintro e w2 ⟨rfl, hb2⟩; have h3'' := below_heap hb2 hsz1 h3'; have hst := block_free h3''; have hcl2 := block_cell h3''))
        go_roundw
        case rel =>
          refine ⟨k + 1, by omega, by go_num, ?_, ?_, ?_, ?_, below_set4 (hb.trans (hb2.mono hb.size)) (by omega) _ _ _ _⟩
          · rw [heap_setCell_ne _ _ _ (by omega), heap_setCell_ne _ _ _ (by omega), heap_setCell_ne _ _ _ (by omega), heap_setCell_ne _ _ _ (by omega)]
            exact below_heap hb2 (by omega) h0'
          · rw [heap_setCell_ne _ _ _ (by omega), heap_setCell_ne _ _ _ (by omega), heap_setCell_ne _ _ _ (by omega), heap_setCell_ne _ _ _ (by omega)]
            exact below_heap hb2 (by omega) h1'
          · rw [heap_setCell_ne _ _ _ (by omega), heap_setCell_ne _ _ _ (by omega), heap_setCell_ne _ _ _ (by omega), heap_setCell_ne _ _ _ (by omega)]
            exact below_heap hb2 (by omega) h2'
          · rw [hs.out]
            exact set4 h3'' _ _ _ _
        case measure => simp [intOf]; omega
      · have hs := hid (mixP_yes (m := 3) (p := p) (q := q) (k := k) (by rw [hx, hy]; rfl))
        have HX := hid hx
        have HY := hid hy
        clear hx hy
        go_wp2
        refine wp_region_grow wr.heap.size (by kernel_rfl) (by kernel_rfl) ?_
        repeat (go_big_quiet_step (first | (go_at_call 31; with_reducible refine Calls.grow_of (Nat.le_refl _) (rhas_val p k false HX.out hlt _); done) | (go_at_call 31; with_reducible refine Calls.grow_of (Nat.le_refl _) (rhas_val q k true HY.out hlt _); done)))
        refine wpQuiet_nil ?_
        rintro _ ⟨g, rfl⟩
        have h0' := grow_heap h0 (by omega) g
        have h1' := grow_heap h1 (by omega) g
        have h2' := grow_heap h2 (by omega) g
        have h3' := grow_heap h3 (by omega) g
        have hb := hB.trans (g.below.mono hB.size)
        clear hld0 hld1
        generalize g.val = w1 at *
        have hsz1 : w.heap.size + 3 < w1.heap.size := block_lt h3'
        have hcl := block_cell h3'
        go_wp2_with ((go_at_call 34; refine (rwith_any (mixP 3 p q k) k hlt _).mono ?_; rintro e w2 ⟨rfl, hb2⟩; have h3'' := below_heap hb2 hsz1 h3'; have hst := block_free h3''; have hcl2 := block_cell h3''))
        go_roundw
        case rel =>
          refine ⟨k + 1, by omega, by go_num, ?_, ?_, ?_, ?_, below_set4 (hb.trans (hb2.mono hb.size)) (by omega) _ _ _ _⟩
          · rw [heap_setCell_ne _ _ _ (by omega), heap_setCell_ne _ _ _ (by omega), heap_setCell_ne _ _ _ (by omega), heap_setCell_ne _ _ _ (by omega)]
            exact below_heap hb2 (by omega) h0'
          · rw [heap_setCell_ne _ _ _ (by omega), heap_setCell_ne _ _ _ (by omega), heap_setCell_ne _ _ _ (by omega), heap_setCell_ne _ _ _ (by omega)]
            exact below_heap hb2 (by omega) h1'
          · rw [heap_setCell_ne _ _ _ (by omega), heap_setCell_ne _ _ _ (by omega), heap_setCell_ne _ _ _ (by omega), heap_setCell_ne _ _ _ (by omega)]
            exact below_heap hb2 (by omega) h2'
          · rw [hs.out]
            exact set4 h3'' _ _ _ _
        case measure => simp [intOf]; omega
      · have hs := hid (mixP_no (m := 3) (p := p) (q := q) (k := k) (by rw [hx, hy]; rfl))
        have HX := hid hx
        have HY := hid hy
        clear hx hy
        go_wp2
        refine wp_region_grow wr.heap.size (by kernel_rfl) (by kernel_rfl) ?_
        repeat (go_big_quiet_step (first | (go_at_call 31; with_reducible refine Calls.grow_of (Nat.le_refl _) (rhas_val p k true HX.out hlt _); done) | (go_at_call 31; with_reducible refine Calls.grow_of (Nat.le_refl _) (rhas_val q k false HY.out hlt _); done)))
        refine wpQuiet_nil ?_
        rintro _ ⟨g, rfl⟩
        have h0' := grow_heap h0 (by omega) g
        have h1' := grow_heap h1 (by omega) g
        have h2' := grow_heap h2 (by omega) g
        have h3' := grow_heap h3 (by omega) g
        have hb := hB.trans (g.below.mono hB.size)
        clear hld0 hld1
        generalize g.val = w1 at *
        have hsz1 : w.heap.size + 3 < w1.heap.size := block_lt h3'
        go_wp2
        go_roundw
        case rel => exact ⟨k + 1, by omega, by go_num, h0', h1', h2', by rw [hs.out]; exact h3', hb⟩
        case measure => simp [intOf]; omega
      · have hs := hid (mixP_no (m := 3) (p := p) (q := q) (k := k) (by rw [hx, hy]; rfl))
        have HX := hid hx
        have HY := hid hy
        clear hx hy
        go_wp2
        refine wp_region_grow wr.heap.size (by kernel_rfl) (by kernel_rfl) ?_
        repeat (go_big_quiet_step (first | (go_at_call 31; with_reducible refine Calls.grow_of (Nat.le_refl _) (rhas_val p k true HX.out hlt _); done) | (go_at_call 31; with_reducible refine Calls.grow_of (Nat.le_refl _) (rhas_val q k true HY.out hlt _); done)))
        refine wpQuiet_nil ?_
        rintro _ ⟨g, rfl⟩
        have h0' := grow_heap h0 (by omega) g
        have h1' := grow_heap h1 (by omega) g
        have h2' := grow_heap h2 (by omega) g
        have h3' := grow_heap h3 (by omega) g
        have hb := hB.trans (g.below.mono hB.size)
        clear hld0 hld1
        generalize g.val = w1 at *
        have hsz1 : w.heap.size + 3 < w1.heap.size := block_lt h3'
        go_wp2
        go_roundw
        case rel => exact ⟨k + 1, by omega, by go_num, h0', h1', h2', by rw [hs.out]; exact h3', hb⟩
        case measure => simp [intOf]; omega
    · have hke : k = 256 := by omega
      subst hke
      have hst := block_free h2
      have hcr := block_cell h2
      have hcl := block_cell h3
      have hfin := set4 h2 (.int .u64 (W (mixP 3 p q 256) 0)) (.int .u64 (W (mixP 3 p q 256) 1)) (.int .u64 (W (mixP 3 p q 256) 2)) (.int .u64 (W (mixP 3 p q 256) 3))
      have hfb := below_set4 hB (Nat.le_add_right _ 2) (.int .u64 (W (mixP 3 p q 256) 0)) (.int .u64 (W (mixP 3 p q 256) 1)) (.int .u64 (W (mixP 3 p q 256) 2)) (.int .u64 (W (mixP 3 p q 256) 3))
      have hfc := block_cell hfin
      clear hfin
      go_wp2
      exact bodyPost_ret (v := .agg #[.int .u64 (W (mixP 3 p q 256) 0), .int .u64 (W (mixP 3 p q 256) 1), .int .u64 (W (mixP 3 p q 256) 2), .int .u64 (W (mixP 3 p q 256) 3)]) (by simp [results, Tryd.results38, go_sem, hfc]) rfl ⟨rfl, hfb⟩




set_option maxHeartbeats 2000000 in
theorem rmeet_any (p q : Nat → Bool) (w : World) :
    Calls Tryd.prog 20 #[.agg #[.int .u64 (W p 0), .int .u64 (W p 1), .int .u64 (W p 2), .int .u64 (W p 3)], .agg #[.int .u64 (W q 0), .int .u64 (W q 1), .int .u64 (W q 2), .int .u64 (W q 3)]] w fun e w' =>
      e = .returned (.agg #[.int .u64 (W (mee p q) 0), .int .u64 (W (mee p q) 1), .int .u64 (W (mee p q) 2), .int .u64 (W (mee p q) 3)]) ∧ Below w.heap.size w w' := by
  have hm : ∀ i, mixb 1 (p i) (q i) = (mee p q) i := fun i => rfl
  rw [← mixP_all hm 0 (by decide), ← mixP_all hm 1 (by decide), ← mixP_all hm 2 (by decide), ← mixP_all hm 3 (by decide)]
  go_enter Tryd.func20, Tryd.ntmps20
  go_wp2_with ((go_at_call 38; with_reducible refine Calls.mono (mix1 _ _ _) ?_; rintro e w2 ⟨rfl, hb2⟩; have hR := below_heap hb2 (b := w.heap.size + 2) (by simp) (by first | exact alloc_new _ _ | (have h := alloc_new (w.alloc (.cells #[.int .u64 (W p 0), .int .u64 (W p 1), .int .u64 (W p 2), .int .u64 (W p 3)] 24)) (.cells #[.int .u64 0, .int .u64 0, .int .u64 0, .int .u64 0] 24); simpa using h) | (have h := alloc_new ((w.alloc (.cells #[.int .u64 (W p 0), .int .u64 (W p 1), .int .u64 (W p 2), .int .u64 (W p 3)] 24)).alloc (.cells #[.int .u64 (W q 0), .int .u64 (W q 1), .int .u64 (W q 2), .int .u64 (W q 3)] 24)) (.cells #[.int .u64 0, .int .u64 0, .int .u64 0, .int .u64 0] 24); simpa using h)); have hst := block_free hR; have hcr := block_cell hR))
  have hfin := set4 hR (.int .u64 (W (mixP 1 p q 256) 0)) (.int .u64 (W (mixP 1 p q 256) 1)) (.int .u64 (W (mixP 1 p q 256) 2)) (.int .u64 (W (mixP 1 p q 256) 3))
  have hfc := block_cell hfin
  clear hfin
  exact bodyPost_ret (v := .agg #[.int .u64 (W (mixP 1 p q 256) 0), .int .u64 (W (mixP 1 p q 256) 1), .int .u64 (W (mixP 1 p q 256) 2), .int .u64 (W (mixP 1 p q 256) 3)]) (by simp [results, Tryd.results20, go_sem, hfc]) rfl ⟨rfl, below_set4 (((((Below.refl _ _).alloc (Nat.le_refl _) _).alloc (by simp) _).alloc (by simp; omega) _).trans (hb2.mono (by simp; omega))) (by omega) _ _ _ _⟩


set_option maxHeartbeats 2000000 in
theorem rless_any (p q : Nat → Bool) (w : World) :
    Calls Tryd.prog 21 #[.agg #[.int .u64 (W p 0), .int .u64 (W p 1), .int .u64 (W p 2), .int .u64 (W p 3)], .agg #[.int .u64 (W q 0), .int .u64 (W q 1), .int .u64 (W q 2), .int .u64 (W q 3)]] w fun e w' =>
      e = .returned (.agg #[.int .u64 (W (les p q) 0), .int .u64 (W (les p q) 1), .int .u64 (W (les p q) 2), .int .u64 (W (les p q) 3)]) ∧ Below w.heap.size w w' := by
  have hm : ∀ i, mixb 2 (p i) (q i) = (les p q) i := fun i => rfl
  rw [← mixP_all hm 0 (by decide), ← mixP_all hm 1 (by decide), ← mixP_all hm 2 (by decide), ← mixP_all hm 3 (by decide)]
  go_enter Tryd.func21, Tryd.ntmps21
  go_wp2_with ((go_at_call 38; with_reducible refine Calls.mono (mix2 _ _ _) ?_; rintro e w2 ⟨rfl, hb2⟩; have hR := below_heap hb2 (b := w.heap.size + 2) (by simp) (by first | exact alloc_new _ _ | (have h := alloc_new (w.alloc (.cells #[.int .u64 (W p 0), .int .u64 (W p 1), .int .u64 (W p 2), .int .u64 (W p 3)] 24)) (.cells #[.int .u64 0, .int .u64 0, .int .u64 0, .int .u64 0] 24); simpa using h) | (have h := alloc_new ((w.alloc (.cells #[.int .u64 (W p 0), .int .u64 (W p 1), .int .u64 (W p 2), .int .u64 (W p 3)] 24)).alloc (.cells #[.int .u64 (W q 0), .int .u64 (W q 1), .int .u64 (W q 2), .int .u64 (W q 3)] 24)) (.cells #[.int .u64 0, .int .u64 0, .int .u64 0, .int .u64 0] 24); simpa using h)); have hst := block_free hR; have hcr := block_cell hR))
  have hfin := set4 hR (.int .u64 (W (mixP 2 p q 256) 0)) (.int .u64 (W (mixP 2 p q 256) 1)) (.int .u64 (W (mixP 2 p q 256) 2)) (.int .u64 (W (mixP 2 p q 256) 3))
  have hfc := block_cell hfin
  clear hfin
  exact bodyPost_ret (v := .agg #[.int .u64 (W (mixP 2 p q 256) 0), .int .u64 (W (mixP 2 p q 256) 1), .int .u64 (W (mixP 2 p q 256) 2), .int .u64 (W (mixP 2 p q 256) 3)]) (by simp [results, Tryd.results21, go_sem, hfc]) rfl ⟨rfl, below_set4 (((((Below.refl _ _).alloc (Nat.le_refl _) _).alloc (by simp) _).alloc (by simp; omega) _).trans (hb2.mono (by simp; omega))) (by omega) _ _ _ _⟩




end Go.Proofs.YtjbdamedofgdgaaDoor
