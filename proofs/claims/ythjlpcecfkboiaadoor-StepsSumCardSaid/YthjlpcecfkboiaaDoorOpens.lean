/-
  An argument of any plain type, opened into what the printed contracts say of it. No program here.
-/
import Derived.Test.YthjlpcecfkboiaaDoorOpen
import Derived.Test.YthjlpcecfkboiaaDoorBridge
import Derived.OpenShut
namespace Go.Proofs.YthjlpcecfkboiaaDoor
open Go.RowKit Go.ChangeShapes Go.WideShapes Go.Deep Go.Proofs.YthjlpcecfkboiaaDoorW.PrintWords
set_option linter.unusedVariables false
def Fits {H : Type} (P : Program) (t : TypeId) (y : DataW H) : Prop := ∀ n ∈ y.weights P t, n ≤ 140737488351232
/-- Cells that read as a datum of type t are those of a value of kind d that Q holds of. -/
def Opens (P : Program) (t : TypeId) {α : Type} (d : Kd α) (Q : α → Prop) : Prop :=
  ∀ (H : Type) (enc : TypeId × Value → H) (w : World) (base : Nat) (spare : Nat → Bool) (held : Bool) (k : Nat) (cs : List Value) (y : DataW H × List MemPlace), cs.length = d.sz → DataW.trod enc P w base spare held k t cs = some y → Fits P t y.1 → ∃ x, d.K w x cs ∧ Q x
theorem opens_int {P : Program} {t : TypeId} {k : IntKind} (hu : P.underlying t = some (.int k)) : Opens P t (Kd.int k) (fun x => (Lit.int k x).wf = true) := by
  intro H enc w base spare held f cs y hl h hf
  obtain ⟨n, rfl, _, hw⟩ := DataW.trod_int hu h
  exact ⟨n, rfl, hw⟩
theorem opens_string {P : Program} {t : TypeId} (hu : P.underlying t = some .string) : Opens P t Kd.string (fun x => x.size ≤ 140737488351232) := by
  intro H enc w base spare held f cs y hl h hf
  obtain ⟨n, rfl, hy, _⟩ := DataW.trod_string hu h
  refine ⟨n, rfl, ?_⟩
  have h1 : y.1 = .lit (.string n.data.toList) := by rw [hy]
  have := hf n.data.toList.length (by rw [h1]; simp [DataW.weights])
  simpa using this
theorem add_add (a : Addr) (x y : Nat) : (a.add x).add y = a.add (x + y) := by
  unfold Addr.add
  by_cases hx : x = 0 <;> by_cases hy : y = 0 <;> simp [hx, hy, Nat.add_assoc]
theorem weightsAll_mem {H : Type} {P : Program} {e : TypeId} : ∀ {l : List (DataW H)} {d : DataW H} {n : Nat}, d ∈ l → n ∈ d.weights P e → n ∈ DataW.weightsAll P e l
  | x :: l, d, n, hd, hn => by
    simp only [DataW.weightsAll, List.mem_append]
    rcases List.mem_cons.1 hd with rfl | hd
    · exact .inl hn
    · exact .inr (weightsAll_mem hd hn)
theorem opens_slice {P : Program} {t e : TypeId} {α : Type} {d : Kd α} {Q : α → Prop} {B : Nat} (hu : P.underlying t = some (.slice e)) (hC : P.cellsOf e = d.sz) (hB : P.bytesOf e = B) (he : Opens P e d Q) : Opens P t (Kd.slice e d) (fun l => l.length * B ≤ 140737488351232 ∧ ∀ x ∈ l, Q x) := by
  intro H enc w base spare held f cs y hl h hf
  rcases open_slice hu h with ⟨rfl, -⟩ | ⟨a, len, cap, mm, k, D, Pl, rfl, hb, hlc, hmx, hmm, hx, hi⟩
  · exact ⟨[], ⟨none, 0, rfl, Nat.le_refl _, ⟨rfl, by simp, fun h => by simp at h⟩⟩, by simp, fun _ h => by cases h⟩
  · have hmn : len ≤ mm := by rw [hmm]; split <;> omega
    have hy : y.1 = .slice ((List.range len).map D) ((List.range (mm - len)).map fun j => D (len + j)) := by rw [hx]
    have hwt : y.1.weights P t = ((List.range len).map D).length.add ((List.range (mm - len)).map fun j => D (len + j)).length * P.bytesOf e :: (DataW.weightsAll P e ((List.range len).map D) ++ DataW.weightsAll P e ((List.range (mm - len)).map fun j => D (len + j))) := by
      rw [hy]; simp only [DataW.weights, hu]; rfl
    have each : ∀ i, i < len → ∃ x : α, (∃ c, c.length = d.sz ∧ d.K w x c ∧ ∀ j u, c[j]? = some u → w.cell? (a.add (i * d.sz + j)) = some u) ∧ Q x := by
      intro i hin
      obtain ⟨cs', hc, ht'⟩ := hi i (by omega)
      rw [hC] at hc
      obtain ⟨_, hcl, hat⟩ := World.cells?_some hc
      obtain ⟨x, hK, hQ⟩ := he H enc w base spare held k cs' _ hcl ht' (fun n hn => hf n (by
        rw [hwt]; refine List.mem_cons_of_mem _ (List.mem_append_left _ (weightsAll_mem (d := D i) (List.mem_map.2 ⟨i, List.mem_range.2 hin, rfl⟩) hn))))
      refine ⟨x, ⟨cs', hcl, hK, fun j u hu' => ?_⟩, hQ⟩
      have hj : j < d.sz := by have := (List.getElem?_eq_some_iff.1 hu').1; omega
      rw [← add_add, hat j hj, hu']
    obtain ⟨l, hln, hl2⟩ := list_of each
    refine ⟨l, ⟨some a, cap, by rw [hln], by omega, ⟨rfl, by unfold maxLen at hmx; omega, fun _ => ⟨a, rfl, fun j p hj => ?_⟩⟩⟩, ?_, ?_⟩
    · obtain ⟨hlt, rfl⟩ := List.getElem?_eq_some_iff.1 hj
      exact (hl2 j hlt).1
    · have := hf _ (by rw [hwt]; exact List.mem_cons_self)
      rw [hB] at this
      refine Nat.le_trans (Nat.mul_le_mul_right _ ?_) this
      simp only [List.length_map, List.length_range, hln]
      exact Nat.le_add_right _ _
    · intro x hx'
      obtain ⟨i, hi', rfl⟩ := List.mem_iff_getElem.1 hx'
      exact (hl2 i hi').2
theorem opens_iso {P : Program} {t : TypeId} {α β : Type} {d : Kd α} {f : β → α} {g : α → β} {Q : α → Prop} {Q' : β → Prop} (hfg : ∀ a, f (g a) = a) (hQ : ∀ a, Q a → Q' (g a)) (h : Opens P t d Q) : Opens P t (Kd.iso d f) Q' := by
  intro H enc w base spare held k cs y hl hy hf
  obtain ⟨x, hK, hq⟩ := h H enc w base spare held k cs y hl hy hf
  refine ⟨g x, ?_, hQ x hq⟩
  show d.K w (f (g x)) cs
  rw [hfg]
  exact hK
/-- The parts of a record or an array: each by its own, from the first on. -/
def OpensL (P : Program) (ts : List TypeId) {α : Type} (d : Kd α) (Q : α → Prop) : Prop :=
  ∀ (H : Type) (enc : TypeId × Value → H) (w : World) (base : Nat) (spare : Nat → Bool) (held : Bool) (k : Nat) (cs : List Value) (ys : List (DataW H × List MemPlace)), cs.length = d.sz → ys.length = ts.length →
    (∀ (i : Nat) (t : TypeId), ts[i]? = some t → DataW.trod enc P w base spare held k t ((cs.drop ((ts.take i).map P.cellsOf).sum).take (P.cellsOf t)) = ys[i]?) → (∀ (i : Nat) (t : TypeId) (y : DataW H × List MemPlace), ts[i]? = some t → ys[i]? = some y → Fits P t y.1) → ∃ x, d.K w x cs ∧ Q x
theorem opensL_one {P : Program} {t : TypeId} {α : Type} {d : Kd α} {Q : α → Prop} (hC : P.cellsOf t = d.sz) (h : Opens P t d Q) : OpensL P [t] d Q := by
  intro H enc w base spare held k cs ys hl hn hy hf
  match ys, hn with
  | [y], _ =>
    have h0 := hy 0 t rfl
    simp only [List.take_zero, List.map_nil, List.sum_nil, List.drop_zero, List.getElem?_cons_zero] at h0
    rw [List.take_of_length_le (by omega)] at h0
    exact h H enc w base spare held k cs y hl h0 (hf 0 t y rfl rfl)
theorem opensL_cons {P : Program} {t : TypeId} {ts : List TypeId} {α β : Type} {d : Kd α} {d2 : Kd β} {Q : α → Prop} {Q2 : β → Prop} (hC : P.cellsOf t = d.sz) (h : Opens P t d Q) (h2 : OpensL P ts d2 Q2) : OpensL P (t :: ts) (Kd.pair d d2) (fun x => Q x.1 ∧ Q2 x.2) := by
  intro H enc w base spare held k cs ys hl hn hy hf
  match ys, hn with
  | y :: ys, hn =>
    have hl' : cs.length = d.sz + d2.sz := hl
    have h0 := hy 0 t rfl
    simp only [List.take_zero, List.map_nil, List.sum_nil, List.drop_zero, List.getElem?_cons_zero] at h0
    obtain ⟨x, hK, hq⟩ := h H enc w base spare held k (cs.take (P.cellsOf t)) y (by rw [List.length_take]; omega) h0 (hf 0 t y rfl rfl)
    obtain ⟨x2, hK2, hq2⟩ := h2 H enc w base spare held k (cs.drop (P.cellsOf t)) ys (by rw [List.length_drop]; omega) (by simpa using hn)
      (fun i u hu => by
        have := hy (i + 1) u hu
        simp only [List.take_succ_cons, List.map_cons, List.sum_cons, List.getElem?_cons_succ] at this
        rw [List.drop_drop]
        exact this)
      (fun i u z hu hz => hf (i + 1) u z hu hz)
    exact ⟨(x, x2), ⟨_, _, (List.take_append_drop _ _).symm, hK, hK2⟩, hq, hq2⟩
theorem opens_struct {P : Program} {t : TypeId} {fs : Array Field} {ts : List TypeId} {α : Type} {d : Kd α} {Q : α → Prop} (hu : P.underlying t = some (.struct fs)) (hts : fs.toList.map (·.type) = ts) (hoff : fs.toList.map (·.offset) = (List.range ts.length).map fun i => ((ts.take i).map P.cellsOf).sum)
    (h : OpensL P ts d Q) : Opens P t d Q := by
  intro H enc w base spare held k cs y hl hy hf
  obtain ⟨ys, n, _, hx, _, hlen, hi⟩ := DataW.trod_struct hu hy
  subst hts
  have hnl : ys.length = (fs.toList.map (·.type)).length := by simp [hlen]
  refine h H enc w base spare held n cs ys hl hnl (fun i u hu' => ?_) (fun i u z hu' hz => ?_)
  · rw [List.getElem?_map] at hu'
    cases hfi : fs.toList[i]? with
    | none => rw [hfi] at hu'; cases hu'
    | some f =>
      rw [hfi] at hu'
      cases hu'
      have h1 := hi i f (by rw [← Array.getElem?_toList]; exact hfi)
      have h2 := congrArg (fun l => l[i]?) hoff
      simp only [List.getElem?_map, hfi, Option.map_some, List.length_map] at h2
      have hlt : i < fs.toList.length := (List.getElem?_eq_some_iff.1 hfi).1
      rw [List.getElem?_range hlt] at h2
      simp only [Option.map_some, Option.some.injEq] at h2
      rw [← h2]
      exact h1
  · intro m hm
    refine hf m ?_
    have h1 : y.1 = .agg (ys.map (·.1)) := by rw [hx]
    rw [h1]
    simp only [DataW.weights, hu]
    exact DataW.weights_mem_each (j := i) hu' (by rw [List.getElem?_map, hz]; rfl) m hm
theorem opens_array {P : Program} {t e : TypeId} {n : Nat} {α : Type} {d : Kd α} {Q : α → Prop} (hu : P.underlying t = some (.array n e)) (h : OpensL P (List.replicate n e) d Q) : Opens P t d Q := by
  intro H enc w base spare held k cs y hl hy hf
  obtain ⟨ys, m, _, hx, _, hlen, hi⟩ := DataW.trod_array hu hy
  refine h H enc w base spare held m cs ys hl (by simp [hlen]) (fun i u hu' => ?_) (fun i u z hu' hz => ?_)
  · obtain ⟨hlt, rfl⟩ := List.getElem?_eq_some_iff.1 hu'
    simp only [List.length_replicate] at hlt
    have h1 := hi i hlt
    simp only [List.getElem_replicate]
    rw [List.take_replicate, List.map_replicate, List.sum_replicate_nat, Nat.min_eq_left (by omega)]
    exact h1
  · obtain ⟨hlt, rfl⟩ := List.getElem?_eq_some_iff.1 hu'
    intro b hb
    refine hf b ?_
    have h1 : y.1 = .agg (ys.map (·.1)) := by rw [hx]
    rw [h1]
    simp only [DataW.weights, hu]
    simp only [List.getElem_replicate] at hb
    exact weightsAll_mem (List.mem_map.2 ⟨z, List.mem_of_getElem? hz, rfl⟩) hb
end Go.Proofs.YthjlpcecfkboiaaDoor
