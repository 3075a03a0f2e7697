/-
  harrowlaw01.gone: the first members, at most so many; what lay in memory stays as it was.
-/
import Derived.Test.YtjbdamedofgdgaaDoorIters
namespace Go.Proofs.YtjbdamedofgdgaaDoor
open Go.RowKit Go.Shelf
set_option linter.unusedVariables false
set_option linter.unusedSimpArgs false
attribute [local go_sem] Oper.semAt_some
theorem info_int : (Tryd.prog.info? 3).map (fun i => (i.zero, i.size, i.bytes)) = some (some (.int .i64 0), 1, 8) := by kernel_rfl
def valsOf (ys : List Byt) : List Value := ys.map fun x => .int .i64 (x.1 : Int)
theorem owns_base {w : World} {b c : Nat} {e : TypeId} {size : Nat} {v : Value} {n : Nat} {xs : List Value} (h : w.ownsRow b e size v n xs) (hc : c ≤ b) : w.ownsRow c e size v n xs := by
  refine ⟨h.1, ?_⟩
  rcases h.2 with hn | ⟨g, cap, cur, hv, hb, rest⟩
  · exact .inl hn
  · exact .inr ⟨g, cap, cur, hv, by omega, rest⟩
theorem valsOf_snoc (ys : List Byt) (x : Byt) : valsOf (ys ++ [x]) = valsOf ys ++ [.int .i64 (x.1 : Int)] := by simp [valsOf]
theorem valsOf_mem {p : Nat → Bool} {ys : List Byt} (h : ys.map (·.1) = mem p 256) : valsOf ys = (memI p 256).map (Value.int .i64) := by
  rw [memI, ← h, List.map_map, List.map_map]; rfl
theorem valsOf_pre {p : Nat → Bool} {ys : List Byt} (h : ys.map (·.1) <+: mem p 256) : valsOf ys = ((memI p 256).take ys.length).map (Value.int .i64) := by
  have h1 := List.prefix_iff_eq_take.1 h
  rw [List.length_map] at h1
  rw [memI, ← List.map_take, ← h1, List.map_map, List.map_map]; rfl
theorem eq_func_nil (f : Fn) (a c : Array Value) (w : World) : Sem.run Tryd.prog (binOp .eql 46 (.func f a c) .nilFunc) w = .ok (.bool false) w := by
  have h : Sem.run Tryd.prog (Op.equalIn 10000 46 (.func f a c) .nilFunc) w = .ok false w := by
    rw [show (10000 : Nat) = 9999 + 1 from rfl, Op.equalIn]
    simp only [Sem.run_bind, run_underlying Tryd.underlying46, Result.andThen_ok]
    rfl
  simp only [binOp, Op.equal, Op.maxDepth, Sem.run_bind, h, Result.andThen_ok]
  rfl

/-- What lies in gone's own blocks when some members have been gone over. -/
def goneSt (n m : Nat) (pre : List Byt) (Wd : World) : Prop :=
  (∃ v, Boxed Wd (n + 1 + 1) 26 v ∧ Wd.ownsRow (n + 1 + 1 + 1) 3 1 v pre.length (valsOf pre) ∧ (pre = [] → v = .slice none 0 0)) ∧ Boxed Wd (n + 1) 3 (.int .i64 (m : Int)) ∧ pre.length ≤ m
theorem goneSt_own (n m : Nat) : Own (goneSt n m) := by
  rintro s X Y row ⟨h1, h2, h3⟩ hg hrow
  exact ⟨holdsRow_own (n + 1 + 1 + 1) (n + 1 + 1) 26 3 1 (fun pre : List Byt => pre.length) valsOf (fun pre v => pre = [] → v = .slice none 0 0) s X Y row h1 hg hrow, h2.kept hg (fun e => by obtain ⟨o, ho, hc⟩ := hrow _ e.symm; rw [show X.heap[n + 1]? = _ from h2] at ho; cases ho; cases hc), h3⟩
set_option maxRecDepth 100000 in
set_option maxHeartbeats 4000000 in
theorem gone_in (n : Nat) (hn : 6 ≤ n) (p : Nat → Bool) (m : Nat) (hm : m ≤ 300) (w : World) (hT : TabOk w) :
    CallsIn Fence.wide n Tryd.prog 8 #[.agg #[.int .u64 (W p 0), .int .u64 (W p 1), .int .u64 (W p 2), .int .u64 (W p 3)], .int .i64 (m : Int)] w fun e w' => ∃ v, e = .returned (.tuple #[v, .bool true]) ∧ w'.ownsRow w.heap.size 3 1 v ((memI p 256).take m).length (((memI p 256).take m).map (Value.int .i64)) ∧ Below w.heap.size w w' := by
  have h1 : 1 ≤ n := by omega
  obtain ⟨i0, hi, hz0, hz1, hz2⟩ := info_parts info_int
  have HT := hid hT
  clear hT
  refine callsIn_of_wp_marks Tryd.func8 rfl trivial ?_ rfl
  simp only [Tryd.ntmps8, List.size_toArray, List.length_cons, List.length_nil, Nat.reduceAdd, Nat.reduceSub, Array.replicate_succ, Array.replicate_zero, List.push_toArray, List.append_toArray, List.nil_append, List.cons_append]
  have heq := eq_func_nil (.func 42) #[] #[.pointer (some ⟨w.heap.size + 1 + 1 + 1, 0, none⟩)]
  gi_wp2_with (refine ⟨trivial, ?_⟩; gi_at_call 32; refine (each_in (n - 1) p _).mono ?_; rintro e w' ⟨rfl, rfl⟩)
  have bO := Boxed.new ((w.alloc (.cells #[.int .u64 (W p 0), .int .u64 (W p 1), .int .u64 (W p 2), .int .u64 (W p 3)] 24)).alloc (.cells #[.int .i64 (m : Int)] 3)) 26 (.slice none 0 0)
  have bM := Boxed.new (w.alloc (.cells #[.int .u64 (W p 0), .int .u64 (W p 1), .int .u64 (W p 2), .int .u64 (W p 3)] 24)) 3 (.int .i64 (m : Int))
  simp only [World.size_alloc] at bO bM
  have hP : ((((w.alloc (.cells #[.int .u64 (W p 0), .int .u64 (W p 1), .int .u64 (W p 2), .int .u64 (W p 3)] 24)).alloc (.cells #[.int .i64 (m : Int)] 3)).alloc (.cells #[.slice none 0 0] 26)).alloc (.cells #[.int .u64 (W p 0), .int .u64 (W p 1), .int .u64 (W p 2), .int .u64 (W p 3)] 24)).heap[w.heap.size + 1 + 1 + 1]? = some (.cells #[.int .u64 (W p 0), .int .u64 (W p 1), .int .u64 (W p 2), .int .u64 (W p 3)] 24) := by have h := alloc_new (((w.alloc (.cells #[.int .u64 (W p 0), .int .u64 (W p 1), .int .u64 (W p 2), .int .u64 (W p 3)] 24)).alloc (.cells #[.int .i64 (m : Int)] 3)).alloc (.cells #[.slice none 0 0] 26)) (.cells #[.int .u64 (W p 0), .int .u64 (W p 1), .int .u64 (W p 2), .int .u64 (W p 3)] 24); simpa using h
  have hB0 : Below w.heap.size w ((((w.alloc (.cells #[.int .u64 (W p 0), .int .u64 (W p 1), .int .u64 (W p 2), .int .u64 (W p 3)] 24)).alloc (.cells #[.int .i64 (m : Int)] 3)).alloc (.cells #[.slice none 0 0] 26)).alloc (.cells #[.int .u64 (W p 0), .int .u64 (W p 1), .int .u64 (W p 2), .int .u64 (W p 3)] 24)) := ((((Below.refl _ w).alloc (Nat.le_refl _) _).alloc (by simp) _).alloc (by simp; omega) _).alloc (by simp; omega) _
  refine wpIn_rangeFunc_ownG rfl h1 (gf := 42) (lb := #[.pointer (some ⟨w.heap.size + 1 + 1 + 1, 0, none⟩)]) rfl trivial (enters_of Tryd.func42 (by kernel_rfl) rfl)
    (each_stops (n - 1) (by omega) (w.heap.size + 1 + 1 + 1) w.heap.size HT.out.1 p _ hP (HT.out.below hB0 HT.out.1)) belowK_t (belowK_b (by simp; omega)) (Below.refl _ _) (fun _ => rfl)
    (fun pre Wd => goneSt w.heap.size m pre Wd ∧ Below w.heap.size w Wd)
    (fun c pre Wd => c = .exit 0 ∧ ∃ pre' x, pre = pre' ++ [x] ∧ pre'.length = m ∧ goneSt w.heap.size m pre' Wd ∧ Below w.heap.size w Wd)
    (OwnFrom.and (Own.from (goneSt_own w.heap.size m) _) (ownFrom_below (Nat.le_refl _) (by simp; omega)))
    (fun c s X Y row => by
      rintro ⟨hc, pre', x, hs, hl, hg, hb⟩ hgr hrow
      have h := (OwnFrom.and (Own.from (goneSt_own w.heap.size m) _) (ownFrom_below (Nat.le_refl _) (by simp; omega))) pre' X Y row ⟨hg, hb⟩ hgr hrow
      exact ⟨hc, pre', x, hs, hl, h.1, h.2⟩)
    ⟨⟨⟨_, bO.alloc _, World.ownsRow_nil _ _ _ _, fun _ => rfl⟩, (bM.alloc _).alloc _, Nat.zero_le _⟩, hB0⟩
    (fun x => { tmps := #[.agg #[.int .u64 (W p 0), .int .u64 (W p 1), .int .u64 (W p 2), .int .u64 (W p 3)], .int .i64 (m : Int), .pointer (some ⟨w.heap.size, 0, none⟩), .pointer (some ⟨w.heap.size + 1, 0, none⟩), .slice none 0 0, .bool false, .pointer (some ⟨w.heap.size + 1 + 1, 0, none⟩), .func (.func 42) #[] #[.pointer (some ⟨w.heap.size + 1 + 1 + 1, 0, none⟩)], .int .i64 (x.1 : Int), .agg #[.int .u64 (W p 0), .int .u64 (W p 1), .int .u64 (W p 2), .int .u64 (W p 3)], .func (.func 42) #[] #[.pointer (some ⟨w.heap.size + 1 + 1 + 1, 0, none⟩)], .func (.func 42) #[] #[.pointer (some ⟨w.heap.size + 1 + 1 + 1, 0, none⟩)], .bool false, .func (.func 42) #[] #[.pointer (some ⟨w.heap.size + 1 + 1 + 1, 0, none⟩)], .int .i64 (x.1 : Int), undef, undef, undef, undef, undef, undef, undef, undef, undef], defers := [] }) ?assign ?body ?done ?stop
  case assign =>
    intro l x Wd K hK
    gi_wp2
    exact hK
  case body =>
    rintro l pre x Wd ⟨⟨⟨v, hv, hrow, hG⟩, hM, hpm⟩, hB⟩ hlt
    have hx := x.2
    have hcm := hM.cell
    by_cases he : pre.length = m
    · have hlen : ((pre.length : Int) == (m : Int)) = true := by simp [he]
      obtain ⟨ao, cap, rfl⟩ : ∃ ao cap, v = .slice ao pre.length cap := by
        rcases hrow.2 with ⟨rfl, h0⟩ | ⟨g, cap, _, rfl, _⟩
        · exact ⟨none, 0, by rw [h0]⟩
        · exact ⟨_, _, rfl⟩
      have hc := hv.cell
      gi_wp2
      exact ⟨(KeepsOthers.refl _).from _, rfl, pre, x, rfl, he, ⟨⟨_, hv, hrow, hG⟩, hM, hpm⟩, hB⟩
    · have hlen : ((pre.length : Int) == (m : Int)) = false := by simp; omega
      obtain ⟨ao, cap, rfl⟩ : ∃ ao cap, v = .slice ao pre.length cap := by
        rcases hrow.2 with ⟨rfl, h0⟩ | ⟨g, cap, _, rfl, _⟩
        · exact ⟨none, 0, by rw [h0]⟩
        · exact ⟨_, _, rfl⟩
      have hc := hv.cell
      gi_wp2_with (gi_at_builtin; refine wpListIn_append_own _ rfl _ _ 26 rfl (w.heap.size + 1 + 1 + 1) 3 i0 (.int .i64 0) 1 8 Tryd.underlying26 hi hz0 hz1 hz2 rfl (by decide) _ _ _ rfl (hrow.alloc _) ⟨Wd.heap.size, 0, none⟩ 1 1 [.int .i64 (x.1 : Int)] rfl rfl (cell_one_new _ _ _) (by simp [Value.oneCell']) (by unfold maxLen; omega) (by omega) (by have := hv.lt; simp; omega) ?_; intro v' w1 hown' hgrow _; obtain ⟨g', cap', rfl⟩ := ownsRow_succ hown'; obtain ⟨hv1, hv2, hr2, hk2, hb2⟩ := hv.appended (n₀ := w.heap.size) (by decide) (owns_base hrow (by omega)) hB.size (by omega) (owns_base hown' (by omega)) hgrow; have hc1 := hv1.cell; have hf1 := hv1.frozen)
      have hM1 : Boxed w1 (w.heap.size + 1) 3 (.int .i64 (m : Int)) := (hM.alloc _).kept hgrow (fun e => by have := own_block_ge hrow _ e.symm; omega)
      have hM2 : Boxed (w1.setCell ⟨w.heap.size + 1 + 1, 0, none⟩ (.slice (some ⟨g', 0, none⟩) (pre.length + 1) cap')) (w.heap.size + 1) 3 (.int .i64 (m : Int)) := hM1.kept (grownBy_setCell' _ _ _) (by simp)
      have hr3 := hown'.kept (grownBy_setCell' w1 (w.heap.size + 1 + 1) (.slice (some ⟨g', 0, none⟩) (pre.length + 1) cap')) (.inr (hv1.not_row (by decide) hown').symm)
      refine ⟨hk2.from _, hb2, ⟨⟨_, hv2, ?_, fun h => by simp at h⟩, hM2, by simp; omega⟩, hB.trans hb2⟩
      rw [valsOf_snoc, List.length_append]
      exact hr3
  case done =>
    rintro D ys Wd hD hys ⟨⟨⟨v, hv, hrow, -⟩, hM, hpm⟩, hB⟩ hK
    have hpD := owns_base (ownsRow_putObj hrow (.deferred none) hK rfl) (show w.heap.size ≤ w.heap.size + 1 + 1 + 1 by omega)
    have hc := hv.cell
    gi_wp2
    refine ⟨by simp, .inl ⟨_, _, rfl, run_takeDeferred hK, ?_⟩⟩
    refine ⟨_, results_tmp2 rfl _ _ _, v, rfl, ?_, hB.trans (belowK_b (w := w) (Nat.le_refl _) Wd D _ _ (by simp at hD; omega) hK rfl rfl)⟩
    have hl : (memI p 256).length = ys.length := by rw [memI_len, ← hys, List.length_map]
    rw [List.take_of_length_le (by omega), hl, ← valsOf_mem hys]
    exact hpD
  case stop =>
    rintro D c pre Wd hD hsp ⟨rfl, pre', x, rfl, hl, ⟨⟨v, hv, hrow, -⟩, hM, hpm⟩, hB⟩ hK
    have hpD := owns_base (ownsRow_putObj hrow (.deferred none) hK rfl) (show w.heap.size ≤ w.heap.size + 1 + 1 + 1 by omega)
    have hc := hv.cell
    gi_wp2
    refine ⟨by simp, .inl ⟨_, _, rfl, run_takeDeferred hK, ?_⟩⟩
    refine ⟨_, results_tmp2 rfl _ _ _, v, rfl, ?_, hB.trans (belowK_b (w := w) (Nat.le_refl _) Wd D _ _ (by simp at hD; omega) hK rfl rfl)⟩
    have hsp' : pre'.map (·.1) <+: mem p 256 := List.IsPrefix.trans ⟨[x.1], by simp⟩ hsp
    have h2 := valsOf_pre hsp'
    have h3 := congrArg List.length h2
    simp only [valsOf, List.length_map] at h3
    rw [hl] at h2 h3
    rw [← h2, ← h3]
    rw [hl] at hpD
    exact hpD
theorem gone_any (p : Nat → Bool) (m : Nat) (hm : m ≤ 300) (w : World) (hT : TabOk w) :
    Calls Tryd.prog 8 #[.agg #[.int .u64 (W p 0), .int .u64 (W p 1), .int .u64 (W p 2), .int .u64 (W p 3)], .int .i64 (m : Int)] w fun e w' => ∃ v, e = .returned (.tuple #[v, .bool true]) ∧ w'.ownsRow w.heap.size 3 1 v ((memI p 256).take m).length (((memI p 256).take m).map (Value.int .i64)) ∧ Below w.heap.size w w' := (callsIn_wide (n := 6)).1 (gone_in 6 (by omega) p m hm w hT)

end Go.Proofs.YtjbdamedofgdgaaDoor
