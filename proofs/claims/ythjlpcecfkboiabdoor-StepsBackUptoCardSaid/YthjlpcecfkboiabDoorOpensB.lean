/-
  An argument of any plain type, opened, with its bulk. No program here.
-/
import Derived.Test.YthjlpcecfkboiabDoorOpens
import Derived.Test.YthjlpcecfkboiabDoorRows
namespace Go.Proofs.YthjlpcecfkboiabDoor
open Go.RowKit Go.ChangeShapes Go.WideShapes Go.Deep Go.Proofs.YthjlpcecfkboiabDoorW.PrintWords
set_option linter.unusedVariables false
/-- As Opens; m tells no more than the datum's bulk. -/
def OpensB (P : Program) (t : TypeId) {α : Type} (d : Kd α) (Q : α → Prop) (m : α → Nat) : Prop :=
  ∀ (H : Type) (enc : TypeId × Value → H) (w : World) (base : Nat) (spare : Nat → Bool) (held : Bool) (k : Nat) (cs : List Value) (y : DataW H × List MemPlace), cs.length = d.sz → DataW.trod enc P w base spare held k t cs = some y → Fits P t y.1 → ∃ x, d.K w x cs ∧ Q x ∧ m x ≤ Rows.uptoBulk y.1
theorem opensB_int {P : Program} {t : TypeId} {k : IntKind} (hu : P.underlying t = some (.int k)) : OpensB P t (Kd.int k) (fun x => (Lit.int k x).wf = true) (fun _ => 1) := by
  intro H enc w base spare held f cs y hl h hf
  obtain ⟨n, rfl, hy, hw⟩ := DataW.trod_int hu h
  refine ⟨n, rfl, hw, ?_⟩
  rw [hy]
  exact Nat.le_refl _
theorem opensB_bool {P : Program} {t : TypeId} (hu : P.underlying t = some .bool) : OpensB P t Kd.bool (fun _ => True) (fun _ => 1) := by
  intro H enc w base spare held f cs y hl h hf
  obtain ⟨n, rfl, hy⟩ := DataW.trod_bool hu h
  refine ⟨n, rfl, trivial, ?_⟩
  rw [hy]
  exact Nat.le_refl _
theorem opensB_string {P : Program} {t : TypeId} (hu : P.underlying t = some .string) : OpensB P t Kd.string (fun x => x.size ≤ 140737488351232) (fun x => x.size + 1) := by
  intro H enc w base spare held f cs y hl h hf
  obtain ⟨n, rfl, hy, _⟩ := DataW.trod_string hu h
  have h1 : y.1 = .lit (.string n.data.toList) := by rw [hy]
  refine ⟨n, rfl, ?_, ?_⟩
  · have := hf n.data.toList.length (by rw [h1]; simp [DataW.weights])
    simpa using this
  · rw [h1]
    show n.size + 1 ≤ n.data.toList.length + 1
    rw [Array.length_toList]
    exact Nat.le_refl _
theorem bulkAll_map {H : Type} (D : Nat → DataW H) {α : Type} (m : α → Nat) : ∀ (l : List α) (s : Nat), (∀ i (hi : i < l.length), m l[i] ≤ Rows.uptoBulk (D (s + i))) → (l.map m).sum ≤ Rows.uptoBulkAll ((List.range' s l.length).map D)
  | [], s, _ => Nat.le_refl _
  | x :: l, s, h => by
    rw [List.map_cons, List.sum_cons, List.length_cons, List.range'_succ, List.map_cons]
    have h0 := h 0 (by simp)
    have h1 := bulkAll_map D m l (s + 1) (fun i hi => by
      have := h (i + 1) (by simp; omega)
      rw [show s + (i + 1) = s + 1 + i by omega] at this
      exact this)
    show _ ≤ Rows.uptoBulk (D s) + Rows.uptoBulkAll _
    simp only [List.getElem_cons_zero, Nat.add_zero] at h0
    omega
theorem opensB_slice {P : Program} {t e : TypeId} {α : Type} {d : Kd α} {Q : α → Prop} {m : α → Nat} {B : Nat} (hu : P.underlying t = some (.slice e)) (hC : P.cellsOf e = d.sz) (hB : P.bytesOf e = B) (he : OpensB P e d Q m) : OpensB P t (Kd.slice e d) (fun l => l.length * B ≤ 140737488351232 ∧ ∀ x ∈ l, Q x) (fun l => (l.map m).sum) := by
  intro H enc w base spare held f cs y hl h hf
  rcases open_slice hu h with ⟨rfl, -⟩ | ⟨a, len, cap, mm, k, D, Pl, rfl, hb, hlc, hmx, hmm, hx, hi⟩
  · exact ⟨[], ⟨none, 0, rfl, Nat.le_refl _, ⟨rfl, by simp, fun h => by simp at h⟩⟩, ⟨by simp, fun _ h => by cases h⟩, Nat.zero_le _⟩
  · have hmn : len ≤ mm := by rw [hmm]; split <;> omega
    have hy : y.1 = .slice ((List.range len).map D) ((List.range (mm - len)).map fun j => D (len + j)) := by rw [hx]
    have hwt : y.1.weights P t = ((List.range len).map D).length.add ((List.range (mm - len)).map fun j => D (len + j)).length * P.bytesOf e :: (DataW.weightsAll P e ((List.range len).map D) ++ DataW.weightsAll P e ((List.range (mm - len)).map fun j => D (len + j))) := by
      rw [hy]; simp only [DataW.weights, hu]; rfl
    have each : ∀ i, i < len → ∃ x : α, (∃ c, c.length = d.sz ∧ d.K w x c ∧ ∀ j u, c[j]? = some u → w.cell? (a.add (i * d.sz + j)) = some u) ∧ (Q x ∧ m x ≤ Rows.uptoBulk (D i)) := by
      intro i hin
      obtain ⟨cs', hc, ht'⟩ := hi i (by omega)
      rw [hC] at hc
      obtain ⟨_, hcl, hat⟩ := World.cells?_some hc
      obtain ⟨x, hK, hQ, hm⟩ := he H enc w base spare held k cs' _ hcl ht' (fun n hn => hf n (by
        rw [hwt]; refine List.mem_cons_of_mem _ (List.mem_append_left _ (weightsAll_mem (d := D i) (List.mem_map.2 ⟨i, List.mem_range.2 hin, rfl⟩) hn))))
      refine ⟨x, ⟨cs', hcl, hK, fun j u hu' => ?_⟩, hQ, hm⟩
      have hj : j < d.sz := by have := (List.getElem?_eq_some_iff.1 hu').1; omega
      rw [← add_add, hat j hj, hu']
    obtain ⟨l, hln, hl2⟩ := list_of each
    refine ⟨l, ⟨some a, cap, by rw [hln], by omega, ⟨rfl, by unfold maxLen at hmx; omega, fun _ => ⟨a, rfl, fun j p hj => ?_⟩⟩⟩, ⟨?_, ?_⟩, ?_⟩
    · obtain ⟨hlt, rfl⟩ := List.getElem?_eq_some_iff.1 hj
      exact (hl2 j hlt).1
    · have := hf _ (by rw [hwt]; exact List.mem_cons_self)
      rw [hB] at this
      refine Nat.le_trans (Nat.mul_le_mul_right _ ?_) this
      simp only [List.length_map, List.length_range, hln]
      exact Nat.le_add_right _ _
    · intro x hx'
      obtain ⟨i, hi', rfl⟩ := List.mem_iff_getElem.1 hx'
      exact (hl2 i hi').2.1
    · have h1 := bulkAll_map D m l 0 (fun i hi' => by rw [Nat.zero_add]; exact (hl2 i hi').2.2)
      rw [hln, ← List.range_eq_range'] at h1
      rw [hy]
      show (l.map m).sum ≤ Rows.uptoBulkAll ((List.range len).map D) + Rows.uptoBulkAll _ + 1
      omega
theorem opensB_iso {P : Program} {t : TypeId} {α β : Type} {d : Kd α} {f : β → α} {g : α → β} {Q : α → Prop} {Q' : β → Prop} {m : α → Nat} {m' : β → Nat} (hfg : ∀ a, f (g a) = a) (hQ : ∀ a, Q a → Q' (g a)) (hm : ∀ a, m' (g a) = m a) (h : OpensB P t d Q m) : OpensB P t (Kd.iso d f) Q' m' := by
  intro H enc w base spare held k cs y hl hy hf
  obtain ⟨x, hK, hq, hb⟩ := h H enc w base spare held k cs y hl hy hf
  refine ⟨g x, ?_, hQ x hq, by rw [hm]; exact hb⟩
  show d.K w (f (g x)) cs
  rw [hfg]
  exact hK
def OpensLB (P : Program) (ts : List TypeId) {α : Type} (d : Kd α) (Q : α → Prop) (m : α → Nat) : Prop :=
  ∀ (H : Type) (enc : TypeId × Value → H) (w : World) (base : Nat) (spare : Nat → Bool) (held : Bool) (k : Nat) (cs : List Value) (ys : List (DataW H × List MemPlace)), cs.length = d.sz → ys.length = ts.length →
    (∀ (i : Nat) (t : TypeId), ts[i]? = some t → DataW.trod enc P w base spare held k t ((cs.drop ((ts.take i).map P.cellsOf).sum).take (P.cellsOf t)) = ys[i]?) → (∀ (i : Nat) (t : TypeId) (y : DataW H × List MemPlace), ts[i]? = some t → ys[i]? = some y → Fits P t y.1) → ∃ x, d.K w x cs ∧ Q x ∧ m x ≤ Rows.uptoBulkAll (ys.map (·.1))
theorem opensLB_one {P : Program} {t : TypeId} {α : Type} {d : Kd α} {Q : α → Prop} {m : α → Nat} (hC : P.cellsOf t = d.sz) (h : OpensB P t d Q m) : OpensLB P [t] d Q m := by
  intro H enc w base spare held k cs ys hl hn hy hf
  match ys, hn with
  | [y], _ =>
    have h0 := hy 0 t rfl
    simp only [List.take_zero, List.map_nil, List.sum_nil, List.drop_zero, List.getElem?_cons_zero] at h0
    rw [List.take_of_length_le (by omega)] at h0
    obtain ⟨x, h1, h2, h3⟩ := h H enc w base spare held k cs y hl h0 (hf 0 t y rfl rfl)
    exact ⟨x, h1, h2, h3⟩
theorem opensLB_cons {P : Program} {t : TypeId} {ts : List TypeId} {α β : Type} {d : Kd α} {d2 : Kd β} {Q : α → Prop} {Q2 : β → Prop} {m : α → Nat} {m2 : β → Nat} (hC : P.cellsOf t = d.sz) (h : OpensB P t d Q m) (h2 : OpensLB P ts d2 Q2 m2) : OpensLB P (t :: ts) (Kd.pair d d2) (fun x => Q x.1 ∧ Q2 x.2) (fun x => m x.1 + m2 x.2) := by
  intro H enc w base spare held k cs ys hl hn hy hf
  match ys, hn with
  | y :: ys, hn =>
    have hl' : cs.length = d.sz + d2.sz := hl
    have h0 := hy 0 t rfl
    simp only [List.take_zero, List.map_nil, List.sum_nil, List.drop_zero, List.getElem?_cons_zero] at h0
    obtain ⟨x, hK, hq, hb⟩ := h H enc w base spare held k (cs.take (P.cellsOf t)) y (by rw [List.length_take]; omega) h0 (hf 0 t y rfl rfl)
    obtain ⟨x2, hK2, hq2, hb2⟩ := h2 H enc w base spare held k (cs.drop (P.cellsOf t)) ys (by rw [List.length_drop]; omega) (by simpa using hn)
      (fun i u hu => by
        have := hy (i + 1) u hu
        simp only [List.take_succ_cons, List.map_cons, List.sum_cons, List.getElem?_cons_succ] at this
        rw [List.drop_drop]
        exact this)
      (fun i u z hu hz => hf (i + 1) u z hu hz)
    exact ⟨(x, x2), ⟨_, _, (List.take_append_drop _ _).symm, hK, hK2⟩, ⟨hq, hq2⟩, Nat.add_le_add hb hb2⟩
theorem opensB_struct {P : Program} {t : TypeId} {fs : Array Field} {ts : List TypeId} {α : Type} {d : Kd α} {Q : α → Prop} {mm : α → Nat} (hu : P.underlying t = some (.struct fs)) (hts : fs.toList.map (·.type) = ts) (hoff : fs.toList.map (·.offset) = (List.range ts.length).map fun i => ((ts.take i).map P.cellsOf).sum)
    (h : OpensLB P ts d Q mm) : OpensB P t d Q mm := by
  intro H enc w base spare held k cs y hl hy hf
  obtain ⟨ys, n, _, hx, _, hlen, hi⟩ := DataW.trod_struct hu hy
  subst hts
  have hnl : ys.length = (fs.toList.map (·.type)).length := by simp [hlen]
  have hag : y.1 = .agg (ys.map (·.1)) := by rw [hx]
  have key := h H enc w base spare held n cs ys hl hnl (fun i u hu' => ?_) (fun i u z hu' hz => ?_)
  · obtain ⟨x, h1, h2, h3⟩ := key
    refine ⟨x, h1, h2, ?_⟩
    rw [hag]
    show _ ≤ Rows.uptoBulkAll _ + 1
    omega
  · rw [List.getElem?_map] at hu'
    cases hfi : fs.toList[i]? with
    | none => rw [hfi] at hu'; cases hu'
    | some f =>
      rw [hfi] at hu'
      cases hu'
      have h1 := hi i f (by rw [← Array.getElem?_toList]; exact hfi)
      have h2 := congrArg (fun l => l[i]?) hoff
      simp only [List.getElem?_map, hfi, Option.map_some, List.length_map] at h2
      have hlt : i < fs.toList.length := (List.getElem?_eq_some_iff.1 hfi).1
      rw [List.getElem?_range hlt] at h2
      simp only [Option.map_some, Option.some.injEq] at h2
      rw [← h2]
      exact h1
  · intro m hm
    refine hf m ?_
    rw [hag]
    simp only [DataW.weights, hu]
    exact DataW.weights_mem_each (j := i) hu' (by rw [List.getElem?_map, hz]; rfl) m hm
theorem bulk_two {H : Type} {a b : DataW H} (hk : Rows.uptoSmall H [a, b] = true) : Rows.uptoBulk a ≤ 1048576 := by
  have h := of_decide_eq_true hk
  simp only [Rows.uptoBulkAll] at h
  omega
end Go.Proofs.YthjlpcecfkboiabDoor
