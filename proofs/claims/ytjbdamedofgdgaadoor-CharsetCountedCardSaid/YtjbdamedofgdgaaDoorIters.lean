/-
  charset.Bytes, which ranges over Each: what it returns, for every set; what lay in memory stays as it was.
-/
import Derived.Test.YtjbdamedofgdgaaDoorEach
namespace Go.Proofs.YtjbdamedofgdgaaDoor
open Go.RowKit Go.Shelf
set_option linter.unusedVariables false
set_option linter.unusedSimpArgs false
attribute [local go_sem] Oper.semAt_some

theorem bytes_vals {p : Nat → Bool} {ys : List Byt} (h : ys.map (·.1) = mem p 256) : ys.map (fun x => Value.int .u8 (x.1 : Int)) = (memI p 256).map (Value.int .u8) := by
  rw [memI, ← h, List.map_map, List.map_map]; rfl
set_option maxRecDepth 100000 in
set_option maxHeartbeats 2000000 in
theorem bytes_in (n : Nat) (hn : 6 ≤ n) (p : Nat → Bool) (w : World) (hT : TabOk w) :
    CallsIn Fence.wide n Tryd.prog 9 #[.agg #[.int .u64 (W p 0), .int .u64 (W p 1), .int .u64 (W p 2), .int .u64 (W p 3)]] w fun e w' => e = .returned (.string (strOfNums (memI p 256))) ∧ Below w.heap.size w w' := by
  have h1 : 1 ≤ n := by omega
  obtain ⟨i0, hi, hz0, hz1, hz2⟩ := info_parts info_u8
  have HT := hid hT
  clear hT
  refine callsIn_of_wp_marks Tryd.func9 rfl trivial ?_ rfl
  simp only [Tryd.ntmps9, List.size_toArray, List.length_cons, List.length_nil, Nat.reduceAdd, Nat.reduceSub, Array.replicate_succ, Array.replicate_zero, List.push_toArray, List.append_toArray, List.nil_append, List.cons_append]
  gi_wp2_with (refine ⟨trivial, ?_⟩; gi_at_call 32; refine (each_in (n - 1) p _).mono ?_; rintro e w' ⟨rfl, rfl⟩)
  have bO := Boxed.new (w.alloc (.cells #[.int .u64 (W p 0), .int .u64 (W p 1), .int .u64 (W p 2), .int .u64 (W p 3)] 24)) 44 (.slice none 0 0)
  rw [World.size_alloc] at bO
  have hP : (((w.alloc (.cells #[.int .u64 (W p 0), .int .u64 (W p 1), .int .u64 (W p 2), .int .u64 (W p 3)] 24)).alloc (.cells #[.slice none 0 0] 44)).alloc (.cells #[.int .u64 (W p 0), .int .u64 (W p 1), .int .u64 (W p 2), .int .u64 (W p 3)] 24)).heap[w.heap.size + 1 + 1]? = some (.cells #[.int .u64 (W p 0), .int .u64 (W p 1), .int .u64 (W p 2), .int .u64 (W p 3)] 24) := by have h := alloc_new ((w.alloc (.cells #[.int .u64 (W p 0), .int .u64 (W p 1), .int .u64 (W p 2), .int .u64 (W p 3)] 24)).alloc (.cells #[.slice none 0 0] 44)) (.cells #[.int .u64 (W p 0), .int .u64 (W p 1), .int .u64 (W p 2), .int .u64 (W p 3)] 24); simpa using h
  have hB0 : Below w.heap.size w (((w.alloc (.cells #[.int .u64 (W p 0), .int .u64 (W p 1), .int .u64 (W p 2), .int .u64 (W p 3)] 24)).alloc (.cells #[.slice none 0 0] 44)).alloc (.cells #[.int .u64 (W p 0), .int .u64 (W p 1), .int .u64 (W p 2), .int .u64 (W p 3)] 24)) := (((Below.refl _ w).alloc (Nat.le_refl _) _).alloc (by simp) _).alloc (by simp; omega) _
  refine wpIn_rangeFunc_ownG rfl h1 (gf := 42) (lb := #[.pointer (some ⟨w.heap.size + 1 + 1, 0, none⟩)]) rfl trivial (enters_of Tryd.func42 (by kernel_rfl) rfl)
    (each_stops (n - 1) (by omega) (w.heap.size + 1 + 1) w.heap.size HT.out.1 p _ hP (HT.out.below hB0 HT.out.1)) belowK_t (belowK_b (by simp; omega)) (Below.refl _ _) (fun _ => rfl)
    (fun pre W => (∃ v, Boxed W (w.heap.size + 1) 44 v ∧ W.ownsRow w.heap.size 5 1 v pre.length (pre.map (fun x => Value.int .u8 (x.1 : Int))) ∧ True) ∧ Below w.heap.size w W)
    (fun _ _ _ => False)
    (OwnFrom.and (Own.from (holdsRow_own w.heap.size (w.heap.size + 1) 44 5 1 (fun pre : List Byt => pre.length) (fun pre => pre.map (fun x => Value.int .u8 (x.1 : Int))) (fun _ _ => True)) _) (ownFrom_below (Nat.le_refl _) (by simp; omega)))
    (fun _ _ _ _ _ hs _ _ => hs)
    ⟨⟨_, bO.alloc _, World.ownsRow_nil _ _ _ _, trivial⟩, hB0⟩
    (fun x => { tmps := #[.agg #[.int .u64 (W p 0), .int .u64 (W p 1), .int .u64 (W p 2), .int .u64 (W p 3)], .pointer (some ⟨w.heap.size, 0, none⟩), .string ⟨#[]⟩, .pointer (some ⟨w.heap.size + 1, 0, none⟩), .int .i64 (x.1 : Int), .agg #[.int .u64 (W p 0), .int .u64 (W p 1), .int .u64 (W p 2), .int .u64 (W p 3)], .func (.func 42) #[] #[.pointer (some ⟨w.heap.size + 1 + 1, 0, none⟩)], .int .i64 (x.1 : Int), undef, undef, undef, undef, undef, undef, undef], defers := [] }) ?assign ?body ?done ?stop
  case assign =>
    intro l x W K hK
    gi_wp2
    exact hK
  case body =>
    rintro l pre x W ⟨⟨v, hv, hrow, -⟩, hB⟩ hlt
    have hc := hv.cell
    have hx := x.2
    have hw : IntKind.u8.wrap (x.1 : Int) = (x.1 : Int) := by rw [IntKind.wrap_u8]; omega
    gi_wp2_with (gi_at_builtin; refine wpListIn_append_own _ rfl _ _ 44 rfl w.heap.size 5 i0 (.int .u8 0) 1 1 Tryd.underlying44 hi hz0 hz1 hz2 rfl (by decide) _ _ _ rfl (hrow.alloc _) ⟨W.heap.size, 0, none⟩ 1 1 [.int .u8 (x.1 : Int)] rfl rfl (cell_one_new _ _ _) (by simp [Value.oneCell']) (by unfold maxLen; omega) (by omega) (by have := hB.size; simp; omega) ?_; intro v' w1 hown' hgrow _; obtain ⟨g', cap', rfl⟩ := ownsRow_succ hown'; obtain ⟨hv1, hv2, hr2, hk2, hb2⟩ := hv.appended (by decide) hrow hB.size (by omega) hown' hgrow; have hc1 := hv1.cell; have hf1 := hv1.frozen)
    exact ⟨hk2.from _, hb2, ⟨_, hv2, by simpa using hr2, trivial⟩, hB.trans hb2⟩
  case done =>
    rintro D ys W hD hys ⟨⟨v, hv, hrow, -⟩, hB⟩ hK
    have hc := hv.cell
    rw [bytes_vals hys] at hrow
    have hconv := own_text Tryd.underlying44 Tryd.underlying5 hrow 9 Tryd.underlying9
    gi_wp2
    refine ⟨by simp, .inl ⟨_, _, rfl, run_takeDeferred hK, ?_⟩⟩
    exact ⟨_, results_tmp rfl _ _ _, rfl, hB.trans (belowK_b (w := w) (Nat.le_refl _) W D _ _ (by simp at hD; omega) hK rfl rfl)⟩
  case stop =>
    rintro D c pre W _ _ h _
    exact h.elim
theorem bytes_any (p : Nat → Bool) (w : World) (hT : TabOk w) :
    Calls Tryd.prog 9 #[.agg #[.int .u64 (W p 0), .int .u64 (W p 1), .int .u64 (W p 2), .int .u64 (W p 3)]] w fun e w' => e = .returned (.string (strOfNums (memI p 256))) ∧ Below w.heap.size w w' := (callsIn_wide (n := 6)).1 (bytes_in 6 (by omega) p w hT)

end Go.Proofs.YtjbdamedofgdgaaDoor
