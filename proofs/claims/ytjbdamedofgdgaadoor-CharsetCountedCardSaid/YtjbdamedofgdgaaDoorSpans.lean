/-
  charset.Spans, which ranges over Each: what it returns, for every set; what lay in memory stays as it was.
-/
import Derived.Test.YtjbdamedofgdgaaDoorIters
import Derived.WalkSmall
namespace Go.Proofs.YtjbdamedofgdgaaDoor
open Go.RowKit Go.Shelf
set_option linter.unusedVariables false
set_option linter.unusedSimpArgs false
attribute [local go_sem] Oper.semAt_some

theorem info_span : (Tryd.prog.info? 33).map (fun i => (i.zero, i.size, i.bytes)) = some (some (.agg #[.int .i64 0, .int .i64 0]), 2, 16) := by kernel_rfl
abbrev Sps := List (Int × Int)
/-- Spans as they lie in a row. -/
def spCells (l : Sps) : List Value := l.flatMap fun x => [.int .i64 x.1, .int .i64 x.2]
/-- The spans, with a number more. -/
def spStep (l : Sps) (b : Int) : Sps := if l.getLast?.map (·.2) = some (b - 1) then l.dropLast ++ [((l.getLast?.getD (0, 0)).1, b)] else l ++ [(b, b)]
/-- The spans of rising numbers. -/
def spansOf (l : List Int) : Sps := l.foldl spStep []
theorem spCells_append (l m : Sps) : spCells (l ++ m) = spCells l ++ spCells m := by simp [spCells]
theorem spCells_len (l : Sps) : (spCells l).length = l.length * 2 := by
  induction l with
  | nil => rfl
  | cons x l ih => simp only [spCells, List.flatMap_cons, List.length_append, List.length_cons, List.length_nil] at ih ⊢; omega
theorem spStep_nil (b : Int) : spStep [] b = [(b, b)] := by simp [spStep]
theorem spStep_more {l : Sps} {x : Int × Int} {b : Int} (h : x.2 = b - 1) : spStep (l ++ [x]) b = l ++ [(x.1, b)] := by simp [spStep, h]
theorem spStep_new {l : Sps} {x : Int × Int} {b : Int} (h : x.2 ≠ b - 1) : spStep (l ++ [x]) b = l ++ [x] ++ [(b, b)] := by simp [spStep, h]
theorem spansOf_snoc (l : List Int) (b : Int) : spansOf (l ++ [b]) = spStep (spansOf l) b := by simp [spansOf]
theorem spStep_len (l : Sps) (b : Int) : (spStep l b).length ≤ l.length + 1 := by
  rcases List.eq_nil_or_concat l with rfl | ⟨l, x, rfl⟩
  · simp [spStep_nil]
  · simp only [List.concat_eq_append]
    by_cases h : x.2 = b - 1
    · rw [spStep_more h]; simp
    · rw [spStep_new h]; simp
theorem foldl_sp_len (l : List Int) : ∀ a : Sps, (l.foldl spStep a).length ≤ a.length + l.length := by
  induction l with
  | nil => intro a; simp
  | cons b l ih => intro a; have h1 := ih (spStep a b); have h2 := spStep_len a b; simp only [List.foldl_cons, List.length_cons] at h1 ⊢; omega
theorem spansOf_len (l : List Int) : (spansOf l).length ≤ l.length := by simpa [spansOf] using foldl_sp_len l []
/-- What a round works on: nothing yet, or a last span. -/
theorem spCells_snoc (l : Sps) (x : Int × Int) : spCells (l ++ [x]) = spCells l ++ [.int .i64 x.1, .int .i64 x.2] := by rw [spCells_append]; simp [spCells]
theorem spCells_last (l : Sps) (x : Int × Int) : (spCells (l ++ [x]))[l.length * 2 + 1]? = some (.int .i64 x.2) := by
  rw [spCells_snoc, List.getElem?_append_right (by rw [spCells_len]; omega), spCells_len]
  simp [show l.length * 2 + 1 - l.length * 2 = 1 by omega]
theorem spCells_set (l : Sps) (x : Int × Int) (b : Int) : (spCells (l ++ [x])).set (l.length * 2 + 1) (.int .i64 b) = spCells (l ++ [(x.1, b)]) := by
  rw [spCells_snoc, spCells_snoc, List.set_append_right _ _ (by rw [spCells_len]; omega), spCells_len]
  simp [show l.length * 2 + 1 - l.length * 2 = 1 by omega]
/-- The members, as the walk's numbers. -/
def natsI (ys : List Byt) : List Int := ys.map fun x => (x.1 : Int)
theorem natsI_snoc (ys : List Byt) (x : Byt) : natsI (ys ++ [x]) = natsI ys ++ [(x.1 : Int)] := by simp [natsI]
theorem natsI_mem {p : Nat → Bool} {ys : List Byt} (h : ys.map (·.1) = mem p 256) : natsI ys = memI p 256 := by
  rw [memI, ← h, List.map_map]; rfl

set_option maxRecDepth 100000 in
set_option maxHeartbeats 2000000 in
theorem spans_in (n : Nat) (hn : 6 ≤ n) (p : Nat → Bool) (w : World) (hT : TabOk w) :
    CallsIn Fence.wide n Tryd.prog 10 #[.agg #[.int .u64 (W p 0), .int .u64 (W p 1), .int .u64 (W p 2), .int .u64 (W p 3)]] w fun e w' => ∃ v, e = .returned v ∧ w'.ownsRow w.heap.size 33 2 v (spansOf (memI p 256)).length (spCells (spansOf (memI p 256))) ∧ Below w.heap.size w w' := by
  have h1 : 1 ≤ n := by omega
  obtain ⟨i0, hi, hz0, hz1, hz2⟩ := info_parts info_span
  have HT := hid hT
  clear hT
  refine callsIn_of_wp_marks Tryd.func10 rfl trivial ?_ rfl
  simp only [Tryd.ntmps10, List.size_toArray, List.length_cons, List.length_nil, Nat.reduceAdd, Nat.reduceSub, Array.replicate_succ, Array.replicate_zero, List.push_toArray, List.append_toArray, List.nil_append, List.cons_append]
  gi_wp2_with (refine ⟨trivial, ?_⟩; gi_at_call 32; refine (each_in (n - 1) p _).mono ?_; rintro e w' ⟨rfl, rfl⟩)
  have bO := Boxed.new (w.alloc (.cells #[.int .u64 (W p 0), .int .u64 (W p 1), .int .u64 (W p 2), .int .u64 (W p 3)] 24)) 29 (.slice none 0 0)
  rw [World.size_alloc] at bO
  have hP : (((w.alloc (.cells #[.int .u64 (W p 0), .int .u64 (W p 1), .int .u64 (W p 2), .int .u64 (W p 3)] 24)).alloc (.cells #[.slice none 0 0] 29)).alloc (.cells #[.int .u64 (W p 0), .int .u64 (W p 1), .int .u64 (W p 2), .int .u64 (W p 3)] 24)).heap[w.heap.size + 1 + 1]? = some (.cells #[.int .u64 (W p 0), .int .u64 (W p 1), .int .u64 (W p 2), .int .u64 (W p 3)] 24) := by have h := alloc_new ((w.alloc (.cells #[.int .u64 (W p 0), .int .u64 (W p 1), .int .u64 (W p 2), .int .u64 (W p 3)] 24)).alloc (.cells #[.slice none 0 0] 29)) (.cells #[.int .u64 (W p 0), .int .u64 (W p 1), .int .u64 (W p 2), .int .u64 (W p 3)] 24); simpa using h
  have hB0 : Below w.heap.size w (((w.alloc (.cells #[.int .u64 (W p 0), .int .u64 (W p 1), .int .u64 (W p 2), .int .u64 (W p 3)] 24)).alloc (.cells #[.slice none 0 0] 29)).alloc (.cells #[.int .u64 (W p 0), .int .u64 (W p 1), .int .u64 (W p 2), .int .u64 (W p 3)] 24)) := (((Below.refl _ w).alloc (Nat.le_refl _) _).alloc (by simp) _).alloc (by simp; omega) _
  refine wpIn_rangeFunc_ownG rfl h1 (gf := 42) (lb := #[.pointer (some ⟨w.heap.size + 1 + 1, 0, none⟩)]) rfl trivial (enters_of Tryd.func42 (by kernel_rfl) rfl)
    (each_stops (n - 1) (by omega) (w.heap.size + 1 + 1) w.heap.size HT.out.1 p _ hP (HT.out.below hB0 HT.out.1)) belowK_t (belowK_b (by simp; omega)) (Below.refl _ _) (fun _ => rfl)
    (fun pre W => (∃ v, Boxed W (w.heap.size + 1) 29 v ∧ W.ownsRow (w.heap.size) 33 2 v (spansOf (natsI pre)).length (spCells (spansOf (natsI pre))) ∧ (spansOf (natsI pre) = [] → v = .slice none 0 0)) ∧ Below w.heap.size w W)
    (fun _ _ _ => False)
    (OwnFrom.and (Own.from (holdsRow_own (w.heap.size) (w.heap.size + 1) 29 33 2 (fun pre : List Byt => (spansOf (natsI pre)).length) (fun pre => spCells (spansOf (natsI pre))) (fun pre v => spansOf (natsI pre) = [] → v = .slice none 0 0)) _) (ownFrom_below (Nat.le_refl _) (by simp; omega)))
    (fun _ _ _ _ _ hs _ _ => hs)
    ⟨⟨_, bO.alloc _, World.ownsRow_nil _ _ _ _, fun _ => rfl⟩, hB0⟩
    (fun x => { tmps := #[.agg #[.int .u64 (W p 0), .int .u64 (W p 1), .int .u64 (W p 2), .int .u64 (W p 3)], .pointer (some ⟨w.heap.size, 0, none⟩), .slice none 0 0, .pointer (some ⟨w.heap.size + 1, 0, none⟩), .int .i64 (x.1 : Int), undef, .agg #[.int .u64 (W p 0), .int .u64 (W p 1), .int .u64 (W p 2), .int .u64 (W p 3)], .func (.func 42) #[] #[.pointer (some ⟨w.heap.size + 1 + 1, 0, none⟩)], .int .i64 (x.1 : Int), undef, undef, undef, undef, undef, undef, undef, undef, undef, undef, undef, undef, undef, undef, undef, undef, undef, undef, undef, undef, undef, undef, undef, undef, undef, undef, undef, undef], defers := [] }) ?assign ?body ?done ?stop
  case assign =>
    intro l x W K hK
    gi_wp2
    exact hK
  case body =>
    rintro l pre x W ⟨⟨v, hv, hrow, hG⟩, hB⟩ hlt
    have hx := x.2
    have hll := spansOf_len (natsI pre)
    have hl2 : (natsI pre).length = pre.length := by simp [natsI]
    have he : spansOf (natsI (pre ++ [x])) = spStep (spansOf (natsI pre)) (x.1 : Int) := by rw [natsI_snoc, spansOf_snoc]
    have hx63 : IntKind.i64.wrap ((x.1 : Int) - 1) = (x.1 : Int) - 1 := by rw [IntKind.wrap_i64]; omega
    have HE := hid he
    clear he
    revert HE hll hG hrow
    generalize spansOf (natsI pre) = l
    intro hrow hG hll HE
    rcases List.eq_nil_or_concat l with rfl | ⟨l, y, rfl⟩
    · obtain rfl := hG rfl
      have hc := hv.cell
      gi_wp2_with (gi_at_builtin; refine wpListIn_append_own _ rfl _ _ 29 rfl w.heap.size 33 i0 (.agg #[.int .i64 0, .int .i64 0]) 2 16 Tryd.underlying29 hi hz0 hz1 hz2 rfl (by decide) _ _ _ rfl (hrow.alloc _) ⟨W.heap.size, 0, none⟩ 1 1 [.int .i64 (x.1 : Int), .int .i64 (x.1 : Int)] rfl rfl (cell_two_new _ _ _ _) (by simp [Value.oneCell']) (by unfold maxLen; omega) (by omega) (by have := hB.size; simp; omega) ?_; intro v' w1 hown' hgrow _; obtain ⟨g', cap', rfl⟩ := ownsRow_succ hown'; obtain ⟨hv1, hv2, hr2, hk2, hb2⟩ := hv.appended (by decide) hrow hB.size (by omega) hown' hgrow; have hc1 := hv1.cell; have hf1 := hv1.frozen)
      refine ⟨hk2.from _, hb2, ⟨_, hv2, ?_, ?_⟩, hB.trans hb2⟩
      · rw [HE.out, spStep_nil]; exact hr2
      · rw [HE.out, spStep_nil]; intro h; cases h
    · simp only [List.concat_eq_append] at hrow hG hll HE
      have hlen : (l ++ [y]).length = l.length + 1 := by simp
      rw [hlen] at hrow hll
      obtain ⟨g, cap, rfl⟩ := ownsRow_succ hrow
      have hc := hv.cell
      have hlast := (hrow.cellAt (l.length * 2 + 1) (by omega)).trans (spCells_last l y)
      have hfz := hrow.frozenAt (l.length * 2 + 1)
      have hge := own_block_ge hrow g rfl
      by_cases hy : y.2 = (x.1 : Int) - 1
      · obtain ⟨hst, hgb⟩ := hrow.stored (l.length * 2 + 1) (.int .i64 (x.1 : Int))
        rw [spCells_set] at hst
        have hb2 : Below w.heap.size W (W.setCell ⟨g, l.length * 2 + 1, none⟩ (.int .i64 (x.1 : Int))) := (Below.refl _ W).setCell (p := ⟨g, l.length * 2 + 1, none⟩) hge _
        have hv2 := hv.kept hgb (hv.not_row (by decide) hrow)
        gi_wp2
        refine ⟨(KeepsOthers.setCell _ _ _).from _, hb2, ⟨_, hv2, ?_, ?_⟩, hB.trans hb2⟩
        · rw [HE.out, spStep_more hy]; simpa using hst
        · rw [HE.out, spStep_more hy]; intro h; simp at h
      · gi_wp2_with (gi_at_builtin; refine wpListIn_append_own _ rfl _ _ 29 rfl w.heap.size 33 i0 (.agg #[.int .i64 0, .int .i64 0]) 2 16 Tryd.underlying29 hi hz0 hz1 hz2 rfl (by decide) _ _ _ rfl (hrow.alloc _) ⟨W.heap.size, 0, none⟩ 1 1 [.int .i64 (x.1 : Int), .int .i64 (x.1 : Int)] rfl rfl (cell_two_new _ _ _ _) (by simp [Value.oneCell']) (by unfold maxLen; omega) (by omega) (by have := hB.size; simp; omega) ?_; intro v' w1 hown' hgrow _; obtain ⟨g', cap', rfl⟩ := ownsRow_succ hown'; obtain ⟨hv1, hv2, hr2, hk2, hb2⟩ := hv.appended (by decide) hrow hB.size (by omega) hown' hgrow; have hc1 := hv1.cell; have hf1 := hv1.frozen)
        refine ⟨hk2.from _, hb2, ⟨_, hv2, ?_, ?_⟩, hB.trans hb2⟩
        · rw [HE.out, spStep_new hy, spCells_append, List.length_append, hlen]; exact hr2
        · rw [HE.out, spStep_new hy]; intro h; simp at h
  case done =>
    rintro D ys W hD hys ⟨⟨v, hv, hrow, -⟩, hB⟩ hK
    have hc := hv.cell
    rw [natsI_mem hys] at hrow
    gi_wp2
    refine ⟨by simp, .inl ⟨_, _, rfl, run_takeDeferred hK, ?_⟩⟩
    refine ⟨_, results_tmp rfl _ _ _, v, rfl, ownsRow_putObj hrow _ hK rfl, hB.trans (belowK_b (w := w) (Nat.le_refl _) W D _ _ (by simp at hD; omega) hK rfl rfl)⟩
  case stop =>
    rintro D c pre W _ _ h _
    exact h.elim
theorem spans_any (p : Nat → Bool) (w : World) (hT : TabOk w) :
    Calls Tryd.prog 10 #[.agg #[.int .u64 (W p 0), .int .u64 (W p 1), .int .u64 (W p 2), .int .u64 (W p 3)]] w fun e w' => ∃ v, e = .returned v ∧ w'.ownsRow w.heap.size 33 2 v (spansOf (memI p 256)).length (spCells (spansOf (memI p 256))) ∧ Below w.heap.size w w' := (callsIn_wide (n := 6)).1 (spans_in 6 (by omega) p w hT)

theorem spStep_last (l : Sps) (b : Int) : (spStep l b).getLast?.map (·.2) = some b := by
  unfold spStep
  split <;> simp
theorem spans_last (l : List Int) : (spansOf l).getLast?.map (·.2) = l.getLast? := by
  rcases List.eq_nil_or_concat l with rfl | ⟨l, b, rfl⟩
  · rfl
  · simp only [List.concat_eq_append]
    rw [spansOf_snoc, spStep_last]
    simp
theorem memI_lt {p : Nat → Bool} {k : Nat} {i : Int} (h : i ∈ memI p k) : i < k := by
  simp only [memI, List.mem_map] at h
  obtain ⟨j, hj, rfl⟩ := h
  have := (mem_mem.1 hj).1
  show (j : Int) < k
  omega
/-- The byte ahead is in the set: the last span ends there. -/
theorem spans_more {p : Nat → Bool} {k : Nat} (hk : k ≤ 256) (h : hasB p ((k : Int) - 1) = true) : ∃ l y, spansOf (memI p k) = l ++ [y] ∧ y.2 = (k : Int) - 1 := by
  cases k with
  | zero => rw [hasB_lo (by omega)] at h; cases h
  | succ k =>
    have hp : p k = true := by
      rw [show ((k + 1 : Nat) : Int) - 1 = (k : Nat) by omega, hasB_in (by omega)] at h
      exact h
    have h1 := spans_last (memI p (k + 1))
    rw [memI_yes hp] at h1 ⊢
    rcases List.eq_nil_or_concat (spansOf (memI p k ++ [(k : Int)])) with e | ⟨l, y, e⟩
    · rw [e] at h1; simp at h1
    · rw [List.concat_eq_append] at e
      rw [e] at h1
      refine ⟨l, y, e, ?_⟩
      simp at h1
      omega
theorem spans_fresh {p : Nat → Bool} {k : Nat} (hk : k ≤ 256) (h : hasB p ((k : Int) - 1) = false) : spStep (spansOf (memI p k)) k = spansOf (memI p k) ++ [((k : Int), (k : Int))] := by
  unfold spStep
  rw [if_neg]
  rw [spans_last]
  intro e
  cases k with
  | zero => simp [memI, mem_zero] at e
  | succ k =>
    have hp : p k = false := by
      rw [show ((k + 1 : Nat) : Int) - 1 = (k : Nat) by omega, hasB_in (by omega)] at h
      exact h
    rw [memI_no hp] at e
    have := memI_lt (List.mem_of_getLast? e)
    omega

set_option maxHeartbeats 4000000 in
set_option maxRecDepth 20000 in
theorem rspans_any (p : Nat → Bool) (w : World) :
    Calls Tryd.prog 12 #[.agg #[.int .u64 (W p 0), .int .u64 (W p 1), .int .u64 (W p 2), .int .u64 (W p 3)]] w fun e w' => ∃ v, e = .returned v ∧ w'.ownsRow (w.heap.size + 1) 33 2 v (spansOf (memI p 256)).length (spCells (spansOf (memI p 256))) ∧ Below w.heap.size w w' := by
  obtain ⟨i0, hi, hz0, hz1, hz2⟩ := info_parts info_span
  go_enter Tryd.func12, Tryd.ntmps12
  go_wp2
  go_loopw [3, 4] (fun v i wr => ∃ k : Nat, k ≤ 256 ∧ i = .int .i64 k ∧ wr.heap[w.heap.size]? = some (.cells #[.int .u64 (W p 0), .int .u64 (W p 1), .int .u64 (W p 2), .int .u64 (W p 3)] 24) ∧ wr.ownsRow (w.heap.size + 1) 33 2 v (spansOf (memI p k)).length (spCells (spansOf (memI p k))) ∧ Below w.heap.size w wr) (fun _ i _ => 256 - (intOf i).toNat)
  case atStart => exact ⟨0, by omega, rfl, alloc_new _ _, World.ownsRow_nil _ _ _ _, (Below.refl _ _).alloc (Nat.le_refl _) _⟩
  case round =>
    obtain ⟨k, hk, rfl, hP, hown, hB⟩ := hrel
    have hlen := Nat.le_trans (spansOf_len (memI p k)) (by rw [memI_len]; exact mem_len_le p k)
    have hsz := block_lt hP
    have hld := block_cell hP
    by_cases hlt : k < 256
    · have hlt2 : (k : Int) ≤ 255 := by omega
      have hw63 : IntKind.i64.wrap ((k : Int) - 1) = (k : Int) - 1 := by rw [IntKind.wrap_i64]; omega
      cases hp : p k
      · have hs2 := hid (memI_no hp)
        have HP := hid hp
        clear hp
        go_wp2_with ((go_at_call 31; with_reducible refine Calls.mono (rhas_val p k false HP.out hlt _) ?_; rintro e w1 ⟨rfl, hb1⟩))
        go_roundw
        case rel => exact ⟨k + 1, by omega, by go_num, below_heap hb1 hsz hP, by rw [hs2.out]; exact own_below hown hb1, hB.trans (hb1.mono hB.size)⟩
        case measure => simp [intOf]; omega
      · have hs2 := hid (show spansOf (memI p (k + 1)) = spStep (spansOf (memI p k)) k by rw [memI_yes hp, spansOf_snoc])
        have HP := hid hp
        clear hp
        cases hq : hasB p ((k : Int) - 1)
        · have HS := hid (spans_fresh (by omega) hq)
          have HQ := hid hq
          clear hq
          go_wp2_with (first
            | (go_at_call 31; with_reducible refine Calls.mono (rhas_val p k true HP.out hlt _) ?_; rintro e w1 ⟨rfl, hb1⟩; have hown1 := own_below hown hb1; have hP1 := below_heap hb1 hsz hP; have hld1 := block_cell hP1; have hB1 := hB.trans (hb1.mono hB.size))
            | (go_at_call 31; with_reducible refine Calls.mono (rhas_any p ((k : Int) - 1) _) ?_; rintro e w2 ⟨rfl, hb2⟩; rw [HQ.out]; have hown2 := own_below hown1 hb2; have hP2 := below_heap hb2 (block_lt hP1) hP1; have hB2 := hB1.trans (hb2.mono hB1.size))
            | (at_builtin; refine wpList_append_own _ rfl _ _ 29 rfl (w.heap.size + 1) 33 i0 (.agg #[.int .i64 0, .int .i64 0]) 2 16 Tryd.underlying29 hi hz0 hz1 hz2 rfl (by decide) _ _ _ rfl (hown2.alloc _) ⟨w2.heap.size, 0, none⟩ 1 1 [.int .i64 (k : Int), .int .i64 (k : Int)] rfl rfl (cell_two_new _ _ _ _) (by simp [Value.oneCell']) (by unfold maxLen; omega) (by omega) (by have := block_lt hP2; simp; omega) ?_; intro v' w3 hown3 hgrow _))
          go_roundw
          case rel =>
            refine ⟨k + 1, by omega, by go_num, grown_heap hgrow (alloc_old hP2) (fun e => by have := own_block_ge hown2 _ e.symm; omega), ?_, (hB2.alloc hB2.size _).grown hgrow (by have := block_lt hP2; simp; omega) (fun b e => by have := own_block_ge hown2 _ e; omega)⟩
            rw [hs2.out, HS.out, spCells_append, List.length_append]
            exact hown3
          case measure => simp [intOf]; omega
        · obtain ⟨l, y, hl, hy⟩ := spans_more hk hq
          have HQ := hid hq
          clear hq
          rw [hl] at hown hlen hs2
          have HS := hid (hs2.out.trans (spStep_more hy))
          clear hs2
          have hlen2 : (l ++ [y]).length = l.length + 1 := by simp
          rw [hlen2] at hown hlen
          obtain ⟨g, cap, rfl⟩ := ownsRow_succ hown
          go_wp2_with (first
            | (go_at_call 31; with_reducible refine Calls.mono (rhas_val p k true HP.out hlt _) ?_; rintro e w1 ⟨rfl, hb1⟩; have hown1 := own_below hown hb1; have hP1 := below_heap hb1 hsz hP; have hld1 := block_cell hP1; have hB1 := hB.trans (hb1.mono hB.size))
            | (go_at_call 31; with_reducible refine Calls.mono (rhas_any p ((k : Int) - 1) _) ?_; rintro e w2 ⟨rfl, hb2⟩; rw [HQ.out]; have hown2 := own_below hown1 hb2; have hP2 := below_heap hb2 (block_lt hP1) hP1; have hB2 := hB1.trans (hb2.mono hB1.size); have hfz := hown2.frozenAt (l.length * 2 + 1); have hlast := (hown2.cellAt (l.length * 2 + 1) (by omega)).trans (spCells_last l y)))
          go_roundw
          case rel =>
            have hge := own_block_ge hown2 g rfl
            obtain ⟨hst, hgb⟩ := hown2.stored (l.length * 2 + 1) (.int .i64 (k : Int))
            rw [spCells_set] at hst
            refine ⟨k + 1, by omega, by go_num, (heap_setCell_ne _ _ _ (by omega)).trans hP2, ?_, hB2.setCell (p := ⟨g, l.length * 2 + 1, none⟩) (by show _ ≤ g; omega) _⟩
            rw [HS.out]
            simpa using hst
          case measure => simp [intOf]; omega
    · have hke : k = 256 := by omega
      subst hke
      go_wp2
      go_ret
      exact ⟨_, rfl, hown, hB⟩

end Go.Proofs.YtjbdamedofgdgaaDoor
