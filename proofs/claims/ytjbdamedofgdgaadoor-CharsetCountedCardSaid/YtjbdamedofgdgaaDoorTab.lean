/-
  The table of math/bits.TrailingZeros64, as the rows lay it, cell for cell.
-/
import Derived.Test.YtjbdamedofgdgaaDoorRows
import Derived.Test.YtjbdamedofgdgaaDoorMBits
import Derived.ProofKit
import Derived.OpenShut
import Derived.LaidMore
import Derived.Lay
import Derived.Stop.Joined
namespace Go.Proofs.YtjbdamedofgdgaaDoor
open Go.ChangeShapes Go.WideShapes Go.ChangeAt Go.RowKit

def theLaid : List (String × DataW Unit) := [("math/bits.deBruijn64tab", Rows.laid_math_bits_deBruijn64tab)]
theorem laid_table : (Rows.laid_math_bits_deBruijn64tab : DataW Unit) = .agg (tzTab.map fun (n : Nat) => .lit (.int .u8 (n : Int))) := by kernel_rfl
theorem tab_ok {M : World} (h : laidMetH Tryd.prog theLaid M) : TabOk M := by
  have hlen : tzTab.length = 64 := by kernel_rfl
  have key : ∀ r, r < 64 → M.cell? ⟨0, r, none⟩ = some (.int .u8 ((tzTab.getD r 0 : Nat) : Int)) := by
    intro r hr
    rw [MakeChecks.laidMetH_plain _ _ _ (by kernel_rfl)] at h
    obtain ⟨ps, ⟨g, t, cs, fuel, p, q, hg, ht, hv, hd, _, _⟩, _, _⟩ := h
    obtain rfl := Option.some.inj ((show Tryd.prog.globalNamed "math/bits.deBruijn64tab" = some 0 by kernel_rfl).symm.trans hg)
    obtain rfl := Option.some.inj ((show (Tryd.prog.globals[0]?).map (·.type) = some 59 by kernel_rfl).symm.trans ht)
    obtain ⟨xs, m, _, ex, _, hl, hel⟩ := DataW.trod_array Tryd.underlying59 hd
    have c5 : Tryd.prog.cellsOf 5 = 1 := by kernel_rfl
    have hE := hel r hr
    rw [c5, Nat.mul_one, List.getElem?_eq_getElem (by omega)] at hE
    obtain ⟨z, e1, e2, _⟩ := DataW.trod_int Tryd.underlying5 hE
    have e3 : (xs.map (·.1)) = tzTab.map fun (n : Nat) => .lit (.int .u8 (n : Int)) := by
      have e0 := (Prod.mk.inj ex).1
      rw [laid_table] at e0
      exact (DataW.agg.inj e0).symm
    have e4 : (xs.map (·.1))[r]? = (tzTab.map fun (n : Nat) => (DataW.lit (.int .u8 (n : Int)) : DataW Unit))[r]? := by rw [e3]
    rw [List.getElem?_map, List.getElem?_map, List.getElem?_eq_getElem (by omega : r < xs.length), List.getElem?_eq_getElem (by omega : r < tzTab.length), e2] at e4
    have hz : z = ((tzTab.getD r 0 : Nat) : Int) := by
      simp only [Option.map_some, Option.some.injEq, DataW.lit.injEq, Lit.int.injEq, true_and] at e4
      rw [e4, List.getD, List.getElem?_eq_getElem (by omega : r < tzTab.length)]; rfl
    rw [World.var?_cell hg hv r, ← hz]
    have : cs.toList[r]? = some (.int .u8 z) := by
      have h0 : ((cs.toList.drop r).take 1)[0]? = some (.int .u8 z) := by rw [e1]; rfl
      simpa using h0
    simpa using this
  refine ⟨?_, key⟩
  have h0 := key 0 (by omega)
  rcases Nat.lt_or_ge 0 M.heap.size with h | h
  · exact h
  · rw [World.cell?, Array.getElem?_eq_none h] at h0
    cases h0
end Go.Proofs.YtjbdamedofgdgaaDoor
