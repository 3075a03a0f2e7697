/-
  An argument that is a set of bytes (four words), opened: its words are numbers of 64 bits; and the words of a set.
-/
import Derived.Test.YtjbdamedofgdgaaDoorSets
import Derived.ChangeSame
import Derived.Laws.IdiomArrays
import Derived.WideShapes
import Derived.OpenShut
import Derived.ProofKit
namespace Go.Proofs.YtjbdamedofgdgaaDoor
open Go.ChangeShapes Go.WideShapes Go.ChangeAt Go.RowKit

theorem list_of_four {α : Type} (l : List α) (h : (⟨l⟩ : Array α).size = 4) : ∃ a b c d, l = [a, b, c, d] := by
  match l, h with
  | [a, b, c, d], _ => exact ⟨a, b, c, d, rfl⟩

/-- A set that came in: the set p whose words it holds. -/
theorem open_set {H : Type} {enc : TypeId × Value → H} {P : Program} {t u : TypeId} (hu : P.underlying t = some (.array 4 u)) (hk : P.underlying u = some (.int .u64)) (h1 : P.cellsOf u = 1) (h4 : P.cellsOf t = 4)
    {M : World} {r : Reach} {base b0 : Nat} {sp : Nat → Bool} {held : Bool} {v : Value} {d : DataW H} {ps : List MemPlace} (hv : Value.okWide P M r b0 t v) (h : DataW.Trod enc P M base sp held t v d ps) :
    ∃ p : Nat → Bool, v = .agg #[.int .u64 (W p 0), .int .u64 (W p 1), .int .u64 (W p 2), .int .u64 (W p 3)] := by
  obtain ⟨cs, rfl, hsz, _⟩ : ∃ cs, v = .agg cs ∧ cs.size = P.cellsOf t ∧ Row.okWide P M r b0 t cs := by
    simpa [Value.okWide, hu] using hv
  rw [h4] at hsz
  obtain ⟨l⟩ := cs
  obtain ⟨c0, c1, c2, c3, rfl⟩ := list_of_four l hsz
  obtain ⟨fuel, hf⟩ := h
  obtain ⟨y0, y1, y2, y3, m, hx, hy0, hy1, hy2, hy3⟩ := trod_array4 hu h1 hf
  obtain ⟨x0, e0, rfl, w0⟩ := DataW.trod_int hk hy0
  obtain ⟨x1, e1, rfl, w1⟩ := DataW.trod_int hk hy1
  obtain ⟨x2, e2, rfl, w2⟩ := DataW.trod_int hk hy2
  obtain ⟨x3, e3, rfl, w3⟩ := DataW.trod_int hk hy3
  simp at e0 e1 e2 e3
  subst e0 e1 e2 e3
  obtain ⟨a0, b0'⟩ := bounds_u64 w0
  obtain ⟨a1, b1'⟩ := bounds_u64 w1
  obtain ⟨a2, b2'⟩ := bounds_u64 w2
  obtain ⟨a3, b3'⟩ := bounds_u64 w3
  obtain ⟨g0, g1, g2, g3⟩ := setOfWords_words a0 (by omega) a1 (by omega) a2 (by omega) a3 (by omega)
  exact ⟨setOfWords x0 x1 x2 x3, by rw [g0, g1, g2, g3]⟩
end Go.Proofs.YtjbdamedofgdgaaDoor
