/-
  harrowlaw01.CharsetLists returns true, for every set and number; what lay in memory stays as it was.
-/
import Derived.Test.YtjbdamedofgdgaaDoorSame
import Derived.Test.YtjbdamedofgdgaaDoorGone
import Derived.Test.YtjbdamedofgdgaaDoorFold
import Derived.Test.YtjbdamedofgdgaaDoorLawCounts
import Derived.Deep.RegionHeld3
import Derived.Deep.DrawnRows
namespace Go.Proofs.YtjbdamedofgdgaaDoor
open Go.RowKit
set_option linter.unusedVariables false
set_option linter.unusedSimpArgs false
attribute [local go_sem ↓] Go.wp_at_zero Go.wp_at_succ
theorem most_mod (mo : Int) : ∃ m : Nat, m < 257 ∧ wrap64 ((IntKind.u64.wrap mo).tmod 257) = (m : Int) := by
  have h0 : 0 ≤ IntKind.u64.wrap mo := by rw [IntKind.wrap_u64]; omega
  refine ⟨(IntKind.u64.wrap mo % 257).toNat, by omega, ?_⟩
  rw [Int.tmod_eq_emod_of_nonneg h0, ← IntWalk.i64_left, IntKind.wrap_i64]
  omega
theorem owns_slice {w : World} {base : Nat} {e : TypeId} {size : Nat} {v : Value} {n : Nat} {xs : List Value} (h : w.ownsRow base e size v n xs) : ∃ ao cap, v = .slice ao n cap := by
  rcases h.2 with ⟨rfl, rfl⟩ | ⟨g, cap, cur, rfl, _⟩
  · exact ⟨none, 0, rfl⟩
  · exact ⟨_, _, rfl⟩
theorem RowIs.at {w : World} {ao : Option Addr} {cap size n : Nat} {xs : List Value} (h : RowIs w (.slice ao n cap) size n xs) (hn : 0 < n) : ∃ g o, ao = some ⟨g, o, none⟩ ∧ ∀ j, j < n * size → w.cell? ⟨g, o + j, none⟩ = xs[j]? := by
  obtain ⟨-, ao', cap', he, hc⟩ := h
  obtain ⟨rfl, -, rfl⟩ := Value.slice.inj he
  exact hc hn
theorem vals_at {l : List Int} {k : Nat} (h : k < l.length) : (l.map (Value.int .i64))[k]? = some (.int .i64 (l.getD k 0)) := by
  simp [List.getD_eq_getElem?_getD, List.getElem?_eq_getElem h]
theorem take_getD {l : List Int} {m k : Nat} (h : k < (l.take m).length) : (l.take m).getD k 0 = l.getD k 0 := by
  rw [List.length_take] at h
  simp [List.getD_eq_getElem?_getD, List.getElem?_take, show k < m by omega]
theorem memI_range (p : Nat → Bool) (k : Nat) (h : k < (memI p 256).length) : 0 ≤ (memI p 256).getD k 0 ∧ (memI p 256).getD k 0 < 256 := by
  have h1 : (memI p 256).getD k 0 ∈ memI p 256 := by
    rw [List.getD_eq_getElem?_getD, List.getElem?_eq_getElem h]
    exact List.getElem_mem h
  refine ⟨?_, memI_lt h1⟩
  simp only [memI, List.mem_map] at h1
  obtain ⟨j, -, h2⟩ := h1
  rw [memI, ← h2]
  exact Int.natCast_nonneg j
theorem owns_off {w : World} {base : Nat} {e : TypeId} {size : Nat} {g o m cap n : Nat} {xs : List Value} (h : w.ownsRow base e size (.slice (some ⟨g, o, none⟩) m cap) n xs) : 0 = o := by
  rcases h.2 with ⟨h, _⟩ | ⟨g', cap', cur, h, _⟩
  · cases h
  · simp at h; omega
theorem own_ne {v : Value} {g : Nat} (h : ∀ g', v.ownBlock = some g' → some g' ≠ some g) : v.ownBlock = none ∨ v.ownBlock ≠ some g := by
  rcases e : v.ownBlock with _ | g'
  · exact .inl rfl
  · exact .inr (h g' e)
theorem take_len (p : Nat → Bool) (m : Nat) : ((memI p 256).take m).length = min m (memI p 256).length := List.length_take

set_option maxHeartbeats 8000000 in
set_option maxRecDepth 20000 in
theorem lawLists_lo (p : Nat → Bool) (mo : Int) (m : Nat) (hm1 : m < 257) (hm3 : wrap64 ((IntKind.u64.wrap mo).tmod 257) = (m : Int)) (hcase : (memI p 256).length < m) (w : World) (hT : TabOk w) :
    Calls Tryd.prog 3 #[.agg #[.int .u64 (W p 0), .int .u64 (W p 1), .int .u64 (W p 2), .int .u64 (W p 3)], .int .i64 mo] w fun e w' => e = .returned (.bool true) ∧ Below w.heap.size w w' := by
  obtain ⟨n2, hn2⟩ : ∃ n2, ((memI p 256).take m).length = n2 := ⟨_, rfl⟩
  have hn2' : n2 = (memI p 256).length := by rw [← hn2, List.length_take]; omega
  replace hn2' := hn2'.symm
  subst hn2'
  have hn2N : ((memI p 256).length) ≤ (memI p 256).length := by rw [← hn2, List.length_take]; omega
  have hN : (memI p 256).length ≤ 256 := by rw [memI_len]; exact mem_len_le p 256
  have hs := hid (rbytes_any p)
  have hcb := hid (bytes_any p)
  have hsz : (strOfNums (memI p 256)).size = (memI p 256).length := strOfNums_size _
  have hat := hid (fun i h => text_at (memI p 256) i h)
  generalize strOfNums (memI p 256) = s at hs hcb hsz hat
  have hB := (Below.refl w.heap.size w).alloc (Nat.le_refl _) (.cells #[.int .u64 (W p 0), .int .u64 (W p 1), .int .u64 (W p 2), .int .u64 (W p 3)] 24)
  have hT0 := hid (hT.below hB hT.1)
  have x0 := alloc_new w (.cells #[.int .u64 (W p 0), .int .u64 (W p 1), .int .u64 (W p 2), .int .u64 (W p 3)] 24)
  have HT := hid hT
  clear hT
  go_enter Tryd.func3, Tryd.ntmps3
  go_wp2_with (first | (go_at_call 7; with_reducible refine Calls.mono (hs.out _) ?_; rintro e w1 ⟨rfl, hb1⟩; have x1 := below_heap hb1 (block_lt x0) x0; have lx1 := block_cell x1; have hT1 := hid (hT0.out.below hb1 (Nat.lt_of_le_of_lt (Nat.zero_le _) (block_lt x0)))) | (go_at_call 8; with_reducible refine Calls.mono (gone_any p m (by omega) _ hT1.out) ?_; rintro e w2 ⟨v2, rfl, hr2, hb2⟩; have x2 := below_heap hb2 (block_lt x1) x1; have lx2 := block_cell x2; have hT2 := hid (hT1.out.below hb2 (Nat.lt_of_le_of_lt (Nat.zero_le _) (block_lt x1))); rw [hn2] at hr2; obtain ⟨ao2, ac2, rfl⟩ := owns_slice hr2) | (go_at_call 8; with_reducible refine Calls.mono (gone_any p 300 (by omega) _ hT2.out) ?_; rintro e w3 ⟨v3, rfl, hr3, hb3⟩; have x3 := below_heap hb3 (block_lt x2) x2; have lx3 := block_cell x3; have hT3 := hid (hT2.out.below hb3 (Nat.lt_of_le_of_lt (Nat.zero_le _) (block_lt x2))); rw [List.take_of_length_le (by omega)] at hr3; obtain ⟨ao3, ac3, rfl⟩ := owns_slice hr3) | (go_at_call 9; with_reducible refine Calls.mono (hcb.out _ hT3.out) ?_; rintro e w4 ⟨rfl, hb4⟩; have x4 := below_heap hb4 (block_lt x3) x3; have lx4 := block_cell x4; have hT4 := hid (hT3.out.below hb4 (Nat.lt_of_le_of_lt (Nat.zero_le _) (block_lt x3)))))
  have hr2 := RowIs.of_owns (own_below (own_below hr2 hb3) hb4)
  have hr3 := RowIs.of_owns (own_below hr3 hb4)
  have hB4 := (((hB.trans (hb1.mono hB.size)).trans (hb2.mono (Nat.le_trans hB.size hb1.size))).trans (hb3.mono (Nat.le_trans (Nat.le_trans hB.size hb1.size) hb2.size))).trans (hb4.mono (Nat.le_trans (Nat.le_trans (Nat.le_trans hB.size hb1.size) hb2.size) hb3.size))
  clear hb1 hb2 hb3 hb4 x0 x1 x2 x3 lx1 lx2 lx3 hT0 hT1 hT2 hT3 hB hm3
  go_loopw [10] (fun i wr => ∃ k : Nat, k ≤ (memI p 256).length ∧ i = .int .i64 k ∧ ∃ j, wr = w4.drewN j) (fun i _ => (memI p 256).length - (intOf i).toNat)
  case atStart => exact ⟨0, Nat.zero_le _, rfl, 0, rfl⟩
  case round =>
    obtain ⟨k, hk, rfl, j, rfl⟩ := hrel
    by_cases hlt : k < (memI p 256).length
    · obtain ⟨g3, o3, rfl, hc3⟩ := hr3.at (by omega)
      have h3 := (hc3 k (by omega)).trans (vals_at hlt)
      have hz := memI_range p k hlt
      have hb := hat.out k (by omega) hz.1 hz.2
      have hidx : k < s.size := by omega
      have hw1 : IntKind.i64.wrap ((memI p 256).getD k 0) = (memI p 256).getD k 0 := IntWalk.i64_in _ (by omega)
      have hw2 : IntKind.i64.wrap ((k : Int) + 1) = (k : Int) + 1 := IntWalk.i64_in _ (by omega)
      have h2 := fun h : k < ((memI p 256).length) => hr2.at (show 0 < ((memI p 256).length) by omega)
      have htk : k < ((memI p 256).length) → (((memI p 256).take m).map (Value.int .i64))[k]? = some (.int .i64 ((memI p 256).getD k 0)) := fun h => by rw [vals_at (by omega), take_getD (by omega)]
      generalize (memI p 256).getD k 0 = z at *
      clear hc3 hr3 hat hs hcb hr2
      by_cases hk2 : k < ((memI p 256).length)
      · obtain ⟨g2, o2, rfl, hc2⟩ := h2 hk2
        have h4 := (hc2 k (by omega)).trans (htk hk2)
        clear hc2 h2 htk
        have hd : decide ((k : Int) < (((memI p 256).length : Nat) : Int)) = true := decide_eq_true (by omega)
        go_wp2
        go_quiet (fail)
        go_wp2
        go_roundw
        case rel => exact ⟨k + 1, by omega, by go_num, _, rfl⟩
        case measure => simp [intOf]; omega
      · clear h2 htk
        omega
    · have hke : k = (memI p 256).length := by omega
      subst hke
      clear hr2 hr3
      obtain ⟨w5, hw5⟩ : ∃ w5, w4.drewN j = w5 := ⟨_, rfl⟩
      have hB5 : Below w.heap.size w w5 := hw5 ▸ below_drewN hB4 j
      have x5 : w5.heap[w.heap.size]? = some (.cells #[.int .u64 (W p 0), .int .u64 (W p 1), .int .u64 (W p 2), .int .u64 (W p 3)] 24) := hw5 ▸ x4
      have hT5 : Hid (TabOk w5) := hw5 ▸ hid hT4.out
      clear hB4 x4 hT4
      rw [hw5]
      clear hw5 lx4
      have lx5 := block_cell x5
      have hNs := spansOf_len (memI p 256)
      go_wp2_with (first | (go_at_call 10; with_reducible refine Calls.mono (spans_any p _ hT5.out) ?_; rintro e w6 ⟨v6, rfl, hr6, hb6⟩; have x6 := below_heap hb6 (block_lt x5) x5; have lx6 := block_cell x6; have hT6 := hid (hT5.out.below hb6 (Nat.lt_of_le_of_lt (Nat.zero_le _) (block_lt x5))); obtain ⟨ao6, ac6, rfl⟩ := owns_slice hr6) | (go_at_call 10; with_reducible refine Calls.mono (spans_any p _ hT6.out) ?_; rintro e w7 ⟨v7, rfl, hr7, hb7⟩; have x7 := below_heap hb7 (block_lt x6) x6; have lx7 := block_cell x7; have hT7 := hid (hT6.out.below hb7 (Nat.lt_of_le_of_lt (Nat.zero_le _) (block_lt x6))); obtain ⟨ao7, ac7, rfl⟩ := owns_slice hr7) | (go_at_call 12; with_reducible refine Calls.mono (rspans_any p _) ?_; rintro e w8 ⟨v8, rfl, hr8, hb8⟩; have x8 := below_heap hb8 (block_lt x7) x7; have lx8 := block_cell x8; have hT8 := hid (hT7.out.below hb8 (Nat.lt_of_le_of_lt (Nat.zero_le _) (block_lt x7))); obtain ⟨ao8, ac8, rfl⟩ := owns_slice hr8) | (go_at_call 11; with_reducible refine Calls.mono (sameSpans_yes (spansOf (memI p 256)) (by omega) _ _ _ (RowIs.of_owns (own_below (own_below hr6 hb7) hb8)) (RowIs.of_owns hr8)) ?_; rintro e w9 ⟨rfl, hb9⟩; have x9 := below_heap hb9 (block_lt x8) x8; have lx9 := block_cell x9; have hT9 := hid (hT8.out.below hb9 (Nat.lt_of_le_of_lt (Nat.zero_le _) (block_lt x8)))))
      have hown6 := own_below (own_below (own_below hr6 hb7) hb8) hb9
      have hown7 := own_below (own_below hr7 hb8) hb9
      have hB9 := (((hB5.trans (hb6.mono hB5.size)).trans (hb7.mono (Nat.le_trans hB5.size hb6.size))).trans (hb8.mono (Nat.le_trans (Nat.le_trans hB5.size hb6.size) hb7.size))).trans (hb9.mono (Nat.le_trans (Nat.le_trans (Nat.le_trans hB5.size hb6.size) hb7.size) hb8.size))
      have hs5 := hB5.size
      have hs6 := hb6.size
      have hbx := block_lt x5
      have hy : ∀ g, (Value.slice ao6 (spansOf (memI p 256)).length ac6).ownBlock = some g → g < w6.heap.size := fun g h => (hr6.lt g h).2
      clear hb6 hb7 hb8 hb9 x5 x6 x7 x8 lx5 lx6 lx7 lx8 hT5 hT6 hT7 hT8 hB5 hr6 hr7 hr8
      have HRS := hid (rspans_any p)
      have heq := eq_same (W (foldP p) 0) (W (foldP p) 1) (W (foldP p) 2) (W (foldP p) 3)
      generalize hlc : spansOf (memI p 256) = ls at *
      go_loopw [13] (fun i wr => ∃ (k : Nat) (xs : List Value), k ≤ ls.length ∧ i = .int .i64 k ∧ wr.ownsRow w5.heap.size 33 2 (.slice ao6 ls.length ac6) ls.length xs ∧ wr.ownsRow w6.heap.size 33 2 (.slice ao7 ls.length ac7) ls.length (spCells ls) ∧ wr.heap[w.heap.size]? = some (.cells #[.int .u64 (W p 0), .int .u64 (W p 1), .int .u64 (W p 2), .int .u64 (W p 3)] 24) ∧ Below w.heap.size w wr) (fun i _ => ls.length - (intOf i).toNat)
      case atStart => exact ⟨0, _, Nat.zero_le _, rfl, hown6, hown7, x9, hB9⟩
      case round =>
        clear hown6 hown7 x9 lx9 hB9 hT9
        obtain ⟨k, xs, hk, rfl, hx, hyr, hbox, hBr⟩ := hrel
        by_cases hlt : k < ls.length
        · obtain ⟨g, o, rfl, hcx⟩ := (RowIs.of_owns hx).at (by omega)
          obtain rfl := owns_off hx
          have hgl := own_block_ge hx g rfl
          have hgu := hy g rfl
          have hf1 := hx.frozenAt (k * 2)
          have hf2 := hx.frozenAt (k * 2 + 1)
          obtain ⟨u1, hu1⟩ : ∃ u, xs[k * 2]? = some u := ⟨_, List.getElem?_eq_getElem (by rw [hx.1]; omega)⟩
          obtain ⟨u2, hu2⟩ : ∃ u, xs[k * 2 + 1]? = some u := ⟨_, List.getElem?_eq_getElem (by rw [hx.1]; omega)⟩
          have hc1 := (hx.cellAt (k * 2) (by omega)).trans hu1
          have hc2 := (hx.cellAt (k * 2 + 1) (by omega)).trans hu2
          obtain ⟨hst1, hgb1⟩ := hx.stored (k * 2) (.int .i64 (-7))
          obtain ⟨hst2, hgb2⟩ := hst1.stored (k * 2 + 1) (.int .i64 (-7))
          have hw2 : IntKind.i64.wrap ((k : Int) + 1) = (k : Int) + 1 := IntWalk.i64_in _ (by omega)
          have hyn : ∀ g', (Value.slice ao7 ls.length ac7).ownBlock = some g' → some g' ≠ some g := fun g' h e => by have := own_block_ge hyr g' h; have := Option.some.inj e; omega
          clear hcx hy
          go_wp2
          go_roundw
          case rel =>
            refine ⟨k + 1, _, by omega, by go_num, hst2, (hyr.kept hgb1 (own_ne hyn)).kept hgb2 (own_ne hyn), ?_, ((hBr.setCell (p := ⟨g, k * 2, none⟩) (by show _ ≤ g; omega) _).setCell (p := ⟨g, k * 2 + 1, none⟩) (by show _ ≤ g; omega) _)⟩
            rw [heap_setCell_ne _ _ _ (by omega), heap_setCell_ne _ _ _ (by omega)]; exact hbox
          case measure => simp [intOf]; omega
        · have hke : k = ls.length := by omega
          subst hke
          have hTr := hid (HT.out.below hBr HT.out.1)
          have lxr := block_cell hbox
          have hbl := block_lt hbox
          have hw0 : 0 < w.heap.size := HT.out.1
          have hls : ls.length ≤ 4611686018427387904 := by omega
          go_wp2
          go_region_held3 (fun w' => ∀ o, w'.cell? ⟨w.heap.size, o, none⟩ = (#[.int .u64 (W p 0), .int .u64 (W p 1), .int .u64 (W p 2), .int .u64 (W p 3)] : Array Value)[o]?) (go_keep) (first | (go_at_call 12; with_reducible refine Calls.mono (HRS.out _) ?_; rintro e w10 ⟨v10, rfl, hr10, hb10⟩; obtain ⟨ao10, ac10, rfl⟩ := owns_slice hr10; have hy10 := RowIs.of_owns (own_below hyr.drew hb10); have x10 := below_heap (w := wr.drew) hb10 hbl hbox; have lx10 := block_cell x10; have B10 := hBr.drew.trans (hb10.mono hBr.drew.size)) | (go_at_call 11; with_reducible refine Calls.mono (sameSpans_yes ls hls _ _ _ hy10 (RowIs.of_owns hr10)) ?_; rintro e w11 ⟨rfl, hb11⟩; have x11 := below_heap hb11 (block_lt x10) x10; have lx11 := block_cell x11; have B11 := B10.trans (hb11.mono B10.size); have hT11 := hid (HT.out.below B11 hw0)) | (go_at_call 13; with_reducible refine Calls.mono (fold_any p _ hT11.out) ?_; rintro e w12 ⟨rfl, hb12⟩; have x12 := below_heap hb12 (block_lt x11) x11; have lx12 := block_cell x12; have B12 := B11.trans (hb12.mono B11.size)) | (go_at_call 14; with_reducible refine Calls.mono (rfold_any p _) ?_; rintro e w13 ⟨rfl, hb13⟩; have x13 := below_heap hb13 (block_lt x12) x12; have lx13 := block_cell x13; have B13 := B12.trans (hb13.mono B12.size)))
          go_wp2
          go_ret
          exact ⟨rfl, B13⟩
set_option maxHeartbeats 8000000 in
set_option maxRecDepth 20000 in
theorem lawLists_hi (p : Nat → Bool) (mo : Int) (m : Nat) (hm1 : m < 257) (hm3 : wrap64 ((IntKind.u64.wrap mo).tmod 257) = (m : Int)) (hcase : ¬ (memI p 256).length < m) (w : World) (hT : TabOk w) :
    Calls Tryd.prog 3 #[.agg #[.int .u64 (W p 0), .int .u64 (W p 1), .int .u64 (W p 2), .int .u64 (W p 3)], .int .i64 mo] w fun e w' => e = .returned (.bool true) ∧ Below w.heap.size w w' := by
  obtain ⟨n2, hn2⟩ : ∃ n2, ((memI p 256).take m).length = n2 := ⟨_, rfl⟩
  have hn2' : n2 = m := by rw [← hn2, List.length_take]; omega
  replace hn2' := hn2'.symm
  subst hn2'
  have hn2N : (m) ≤ (memI p 256).length := by rw [← hn2, List.length_take]; omega
  have hN : (memI p 256).length ≤ 256 := by rw [memI_len]; exact mem_len_le p 256
  have hs := hid (rbytes_any p)
  have hcb := hid (bytes_any p)
  have hsz : (strOfNums (memI p 256)).size = (memI p 256).length := strOfNums_size _
  have hat := hid (fun i h => text_at (memI p 256) i h)
  generalize strOfNums (memI p 256) = s at hs hcb hsz hat
  have hB := (Below.refl w.heap.size w).alloc (Nat.le_refl _) (.cells #[.int .u64 (W p 0), .int .u64 (W p 1), .int .u64 (W p 2), .int .u64 (W p 3)] 24)
  have hT0 := hid (hT.below hB hT.1)
  have x0 := alloc_new w (.cells #[.int .u64 (W p 0), .int .u64 (W p 1), .int .u64 (W p 2), .int .u64 (W p 3)] 24)
  have HT := hid hT
  clear hT
  go_enter Tryd.func3, Tryd.ntmps3
  go_wp2_with (first | (go_at_call 7; with_reducible refine Calls.mono (hs.out _) ?_; rintro e w1 ⟨rfl, hb1⟩; have x1 := below_heap hb1 (block_lt x0) x0; have lx1 := block_cell x1; have hT1 := hid (hT0.out.below hb1 (Nat.lt_of_le_of_lt (Nat.zero_le _) (block_lt x0)))) | (go_at_call 8; with_reducible refine Calls.mono (gone_any p m (by omega) _ hT1.out) ?_; rintro e w2 ⟨v2, rfl, hr2, hb2⟩; have x2 := below_heap hb2 (block_lt x1) x1; have lx2 := block_cell x2; have hT2 := hid (hT1.out.below hb2 (Nat.lt_of_le_of_lt (Nat.zero_le _) (block_lt x1))); rw [hn2] at hr2; obtain ⟨ao2, ac2, rfl⟩ := owns_slice hr2) | (go_at_call 8; with_reducible refine Calls.mono (gone_any p 300 (by omega) _ hT2.out) ?_; rintro e w3 ⟨v3, rfl, hr3, hb3⟩; have x3 := below_heap hb3 (block_lt x2) x2; have lx3 := block_cell x3; have hT3 := hid (hT2.out.below hb3 (Nat.lt_of_le_of_lt (Nat.zero_le _) (block_lt x2))); rw [List.take_of_length_le (by omega)] at hr3; obtain ⟨ao3, ac3, rfl⟩ := owns_slice hr3) | (go_at_call 9; with_reducible refine Calls.mono (hcb.out _ hT3.out) ?_; rintro e w4 ⟨rfl, hb4⟩; have x4 := below_heap hb4 (block_lt x3) x3; have lx4 := block_cell x4; have hT4 := hid (hT3.out.below hb4 (Nat.lt_of_le_of_lt (Nat.zero_le _) (block_lt x3)))))
  have hr2 := RowIs.of_owns (own_below (own_below hr2 hb3) hb4)
  have hr3 := RowIs.of_owns (own_below hr3 hb4)
  have hB4 := (((hB.trans (hb1.mono hB.size)).trans (hb2.mono (Nat.le_trans hB.size hb1.size))).trans (hb3.mono (Nat.le_trans (Nat.le_trans hB.size hb1.size) hb2.size))).trans (hb4.mono (Nat.le_trans (Nat.le_trans (Nat.le_trans hB.size hb1.size) hb2.size) hb3.size))
  clear hb1 hb2 hb3 hb4 x0 x1 x2 x3 lx1 lx2 lx3 hT0 hT1 hT2 hT3 hB hm3
  go_loopw [10] (fun i wr => ∃ k : Nat, k ≤ (memI p 256).length ∧ i = .int .i64 k ∧ ∃ j, wr = w4.drewN j) (fun i _ => (memI p 256).length - (intOf i).toNat)
  case atStart => exact ⟨0, Nat.zero_le _, rfl, 0, rfl⟩
  case round =>
    obtain ⟨k, hk, rfl, j, rfl⟩ := hrel
    by_cases hlt : k < (memI p 256).length
    · obtain ⟨g3, o3, rfl, hc3⟩ := hr3.at (by omega)
      have h3 := (hc3 k (by omega)).trans (vals_at hlt)
      have hz := memI_range p k hlt
      have hb := hat.out k (by omega) hz.1 hz.2
      have hidx : k < s.size := by omega
      have hw1 : IntKind.i64.wrap ((memI p 256).getD k 0) = (memI p 256).getD k 0 := IntWalk.i64_in _ (by omega)
      have hw2 : IntKind.i64.wrap ((k : Int) + 1) = (k : Int) + 1 := IntWalk.i64_in _ (by omega)
      have h2 := fun h : k < (m) => hr2.at (show 0 < (m) by omega)
      have htk : k < (m) → (((memI p 256).take m).map (Value.int .i64))[k]? = some (.int .i64 ((memI p 256).getD k 0)) := fun h => by rw [vals_at (by omega), take_getD (by omega)]
      generalize (memI p 256).getD k 0 = z at *
      clear hc3 hr3 hat hs hcb hr2
      by_cases hk2 : k < (m)
      · obtain ⟨g2, o2, rfl, hc2⟩ := h2 hk2
        have h4 := (hc2 k (by omega)).trans (htk hk2)
        clear hc2 h2 htk
        have hd : decide ((k : Int) < ((m : Nat) : Int)) = true := decide_eq_true (by omega)
        go_wp2
        go_quiet (fail)
        go_wp2
        go_roundw
        case rel => exact ⟨k + 1, by omega, by go_num, _, rfl⟩
        case measure => simp [intOf]; omega
      · clear h2 htk
        have hd : decide ((k : Int) < ((m : Nat) : Int)) = false := decide_eq_false (by omega)
        go_wp2
        go_quiet (fail)
        go_wp2
        go_roundw
        case rel => exact ⟨k + 1, by omega, by go_num, _, rfl⟩
        case measure => simp [intOf]; omega
    · have hke : k = (memI p 256).length := by omega
      subst hke
      clear hr2 hr3
      obtain ⟨w5, hw5⟩ : ∃ w5, w4.drewN j = w5 := ⟨_, rfl⟩
      have hB5 : Below w.heap.size w w5 := hw5 ▸ below_drewN hB4 j
      have x5 : w5.heap[w.heap.size]? = some (.cells #[.int .u64 (W p 0), .int .u64 (W p 1), .int .u64 (W p 2), .int .u64 (W p 3)] 24) := hw5 ▸ x4
      have hT5 : Hid (TabOk w5) := hw5 ▸ hid hT4.out
      clear hB4 x4 hT4
      rw [hw5]
      clear hw5 lx4
      have lx5 := block_cell x5
      have hNs := spansOf_len (memI p 256)
      go_wp2_with (first | (go_at_call 10; with_reducible refine Calls.mono (spans_any p _ hT5.out) ?_; rintro e w6 ⟨v6, rfl, hr6, hb6⟩; have x6 := below_heap hb6 (block_lt x5) x5; have lx6 := block_cell x6; have hT6 := hid (hT5.out.below hb6 (Nat.lt_of_le_of_lt (Nat.zero_le _) (block_lt x5))); obtain ⟨ao6, ac6, rfl⟩ := owns_slice hr6) | (go_at_call 10; with_reducible refine Calls.mono (spans_any p _ hT6.out) ?_; rintro e w7 ⟨v7, rfl, hr7, hb7⟩; have x7 := below_heap hb7 (block_lt x6) x6; have lx7 := block_cell x7; have hT7 := hid (hT6.out.below hb7 (Nat.lt_of_le_of_lt (Nat.zero_le _) (block_lt x6))); obtain ⟨ao7, ac7, rfl⟩ := owns_slice hr7) | (go_at_call 12; with_reducible refine Calls.mono (rspans_any p _) ?_; rintro e w8 ⟨v8, rfl, hr8, hb8⟩; have x8 := below_heap hb8 (block_lt x7) x7; have lx8 := block_cell x8; have hT8 := hid (hT7.out.below hb8 (Nat.lt_of_le_of_lt (Nat.zero_le _) (block_lt x7))); obtain ⟨ao8, ac8, rfl⟩ := owns_slice hr8) | (go_at_call 11; with_reducible refine Calls.mono (sameSpans_yes (spansOf (memI p 256)) (by omega) _ _ _ (RowIs.of_owns (own_below (own_below hr6 hb7) hb8)) (RowIs.of_owns hr8)) ?_; rintro e w9 ⟨rfl, hb9⟩; have x9 := below_heap hb9 (block_lt x8) x8; have lx9 := block_cell x9; have hT9 := hid (hT8.out.below hb9 (Nat.lt_of_le_of_lt (Nat.zero_le _) (block_lt x8)))))
      have hown6 := own_below (own_below (own_below hr6 hb7) hb8) hb9
      have hown7 := own_below (own_below hr7 hb8) hb9
      have hB9 := (((hB5.trans (hb6.mono hB5.size)).trans (hb7.mono (Nat.le_trans hB5.size hb6.size))).trans (hb8.mono (Nat.le_trans (Nat.le_trans hB5.size hb6.size) hb7.size))).trans (hb9.mono (Nat.le_trans (Nat.le_trans (Nat.le_trans hB5.size hb6.size) hb7.size) hb8.size))
      have hs5 := hB5.size
      have hs6 := hb6.size
      have hbx := block_lt x5
      have hy : ∀ g, (Value.slice ao6 (spansOf (memI p 256)).length ac6).ownBlock = some g → g < w6.heap.size := fun g h => (hr6.lt g h).2
      clear hb6 hb7 hb8 hb9 x5 x6 x7 x8 lx5 lx6 lx7 lx8 hT5 hT6 hT7 hT8 hB5 hr6 hr7 hr8
      have HRS := hid (rspans_any p)
      have heq := eq_same (W (foldP p) 0) (W (foldP p) 1) (W (foldP p) 2) (W (foldP p) 3)
      generalize hlc : spansOf (memI p 256) = ls at *
      go_loopw [13] (fun i wr => ∃ (k : Nat) (xs : List Value), k ≤ ls.length ∧ i = .int .i64 k ∧ wr.ownsRow w5.heap.size 33 2 (.slice ao6 ls.length ac6) ls.length xs ∧ wr.ownsRow w6.heap.size 33 2 (.slice ao7 ls.length ac7) ls.length (spCells ls) ∧ wr.heap[w.heap.size]? = some (.cells #[.int .u64 (W p 0), .int .u64 (W p 1), .int .u64 (W p 2), .int .u64 (W p 3)] 24) ∧ Below w.heap.size w wr) (fun i _ => ls.length - (intOf i).toNat)
      case atStart => exact ⟨0, _, Nat.zero_le _, rfl, hown6, hown7, x9, hB9⟩
      case round =>
        clear hown6 hown7 x9 lx9 hB9 hT9
        obtain ⟨k, xs, hk, rfl, hx, hyr, hbox, hBr⟩ := hrel
        by_cases hlt : k < ls.length
        · obtain ⟨g, o, rfl, hcx⟩ := (RowIs.of_owns hx).at (by omega)
          obtain rfl := owns_off hx
          have hgl := own_block_ge hx g rfl
          have hgu := hy g rfl
          have hf1 := hx.frozenAt (k * 2)
          have hf2 := hx.frozenAt (k * 2 + 1)
          obtain ⟨u1, hu1⟩ : ∃ u, xs[k * 2]? = some u := ⟨_, List.getElem?_eq_getElem (by rw [hx.1]; omega)⟩
          obtain ⟨u2, hu2⟩ : ∃ u, xs[k * 2 + 1]? = some u := ⟨_, List.getElem?_eq_getElem (by rw [hx.1]; omega)⟩
          have hc1 := (hx.cellAt (k * 2) (by omega)).trans hu1
          have hc2 := (hx.cellAt (k * 2 + 1) (by omega)).trans hu2
          obtain ⟨hst1, hgb1⟩ := hx.stored (k * 2) (.int .i64 (-7))
          obtain ⟨hst2, hgb2⟩ := hst1.stored (k * 2 + 1) (.int .i64 (-7))
          have hw2 : IntKind.i64.wrap ((k : Int) + 1) = (k : Int) + 1 := IntWalk.i64_in _ (by omega)
          have hyn : ∀ g', (Value.slice ao7 ls.length ac7).ownBlock = some g' → some g' ≠ some g := fun g' h e => by have := own_block_ge hyr g' h; have := Option.some.inj e; omega
          clear hcx hy
          go_wp2
          go_roundw
          case rel =>
            refine ⟨k + 1, _, by omega, by go_num, hst2, (hyr.kept hgb1 (own_ne hyn)).kept hgb2 (own_ne hyn), ?_, ((hBr.setCell (p := ⟨g, k * 2, none⟩) (by show _ ≤ g; omega) _).setCell (p := ⟨g, k * 2 + 1, none⟩) (by show _ ≤ g; omega) _)⟩
            rw [heap_setCell_ne _ _ _ (by omega), heap_setCell_ne _ _ _ (by omega)]; exact hbox
          case measure => simp [intOf]; omega
        · have hke : k = ls.length := by omega
          subst hke
          have hTr := hid (HT.out.below hBr HT.out.1)
          have lxr := block_cell hbox
          have hbl := block_lt hbox
          have hw0 : 0 < w.heap.size := HT.out.1
          have hls : ls.length ≤ 4611686018427387904 := by omega
          go_wp2
          go_region_held3 (fun w' => ∀ o, w'.cell? ⟨w.heap.size, o, none⟩ = (#[.int .u64 (W p 0), .int .u64 (W p 1), .int .u64 (W p 2), .int .u64 (W p 3)] : Array Value)[o]?) (go_keep) (first | (go_at_call 12; with_reducible refine Calls.mono (HRS.out _) ?_; rintro e w10 ⟨v10, rfl, hr10, hb10⟩; obtain ⟨ao10, ac10, rfl⟩ := owns_slice hr10; have hy10 := RowIs.of_owns (own_below hyr.drew hb10); have x10 := below_heap (w := wr.drew) hb10 hbl hbox; have lx10 := block_cell x10; have B10 := hBr.drew.trans (hb10.mono hBr.drew.size)) | (go_at_call 11; with_reducible refine Calls.mono (sameSpans_yes ls hls _ _ _ hy10 (RowIs.of_owns hr10)) ?_; rintro e w11 ⟨rfl, hb11⟩; have x11 := below_heap hb11 (block_lt x10) x10; have lx11 := block_cell x11; have B11 := B10.trans (hb11.mono B10.size); have hT11 := hid (HT.out.below B11 hw0)) | (go_at_call 13; with_reducible refine Calls.mono (fold_any p _ hT11.out) ?_; rintro e w12 ⟨rfl, hb12⟩; have x12 := below_heap hb12 (block_lt x11) x11; have lx12 := block_cell x12; have B12 := B11.trans (hb12.mono B11.size)) | (go_at_call 14; with_reducible refine Calls.mono (rfold_any p _) ?_; rintro e w13 ⟨rfl, hb13⟩; have x13 := below_heap hb13 (block_lt x12) x12; have lx13 := block_cell x13; have B13 := B12.trans (hb13.mono B12.size)))
          go_wp2
          go_ret
          exact ⟨rfl, B13⟩
theorem lawLists_any (p : Nat → Bool) (mo : Int) (w : World) (hT : TabOk w) :
    Calls Tryd.prog 3 #[.agg #[.int .u64 (W p 0), .int .u64 (W p 1), .int .u64 (W p 2), .int .u64 (W p 3)], .int .i64 mo] w fun e w' => e = .returned (.bool true) ∧ Below w.heap.size w w' := by
  obtain ⟨m, hm1, hm3⟩ := most_mod mo
  by_cases h : (memI p 256).length < m
  · exact lawLists_lo p mo m hm1 hm3 h w hT
  · exact lawLists_hi p mo m hm1 hm3 h w hT

end Go.Proofs.YtjbdamedofgdgaaDoor
