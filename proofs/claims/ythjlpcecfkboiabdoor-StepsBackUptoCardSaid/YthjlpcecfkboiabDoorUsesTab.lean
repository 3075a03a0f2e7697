/-
  The table of the instructions' uses, as the rows lay it, cell for cell.
-/
import Derived.Test.YthjlpcecfkboiabDoorRows
import Derived.Test.YthjlpcecfkboiabDoorInstr
import Derived.ProofKit
import Derived.OpenShut
import Derived.LaidMore
import Derived.Lay
import Derived.Stop.Joined
namespace Go.Proofs.YthjlpcecfkboiabDoor
open Go.ChangeShapes Go.WideShapes Go.ChangeAt Go.RowKit

def usesLaid : List (String × DataW Unit) := [("harrow/instr.uses", Rows.laid_harrow_instr_uses)]
theorem laid_uses : (Rows.laid_harrow_instr_uses : DataW Unit) = .agg (usesTab.map fun (n : Int) => .lit (.int .i64 n)) := by kernel_rfl
theorem uses_ok {M : World} (h : laidMetH Tryd.prog usesLaid M) : UsesOk M := by
  have hlen : usesTab.length = 21 := by kernel_rfl
  have key : ∀ r, r < 21 → M.cell? ⟨0, r, none⟩ = some (.int .i64 (usesTab.getD r 0)) := by
    intro r hr
    rw [MakeChecks.laidMetH_plain _ _ _ (by kernel_rfl)] at h
    obtain ⟨ps, ⟨g, t, cs, fuel, p, q, hg, ht, hv, hd, _, _⟩, _, _⟩ := h
    obtain rfl := Option.some.inj ((show Tryd.prog.globalNamed "harrow/instr.uses" = some 0 by kernel_rfl).symm.trans hg)
    obtain rfl := Option.some.inj ((show (Tryd.prog.globals[0]?).map (·.type) = some 101 by kernel_rfl).symm.trans ht)
    obtain ⟨xs, m, _, ex, _, hl, hel⟩ := DataW.trod_array Tryd.underlying101 hd
    have c5 : Tryd.prog.cellsOf 3 = 1 := by kernel_rfl
    have hE := hel r hr
    rw [c5, Nat.mul_one, List.getElem?_eq_getElem (by omega)] at hE
    obtain ⟨z, e1, e2, _⟩ := DataW.trod_int Tryd.underlying3 hE
    have e3 : (xs.map (·.1)) = usesTab.map fun (n : Int) => .lit (.int .i64 n) := by
      have e0 := (Prod.mk.inj ex).1
      rw [laid_uses] at e0
      exact (DataW.agg.inj e0).symm
    have e4 : (xs.map (·.1))[r]? = (usesTab.map fun (n : Int) => (DataW.lit (.int .i64 n) : DataW Unit))[r]? := by rw [e3]
    rw [List.getElem?_map, List.getElem?_map, List.getElem?_eq_getElem (by omega : r < xs.length), List.getElem?_eq_getElem (by omega : r < usesTab.length), e2] at e4
    have hz : z = usesTab.getD r 0 := by
      simp only [Option.map_some, Option.some.injEq, DataW.lit.injEq, Lit.int.injEq, true_and] at e4
      rw [e4, List.getD, List.getElem?_eq_getElem (by omega : r < usesTab.length)]; rfl
    rw [World.var?_cell hg hv r, ← hz]
    have : cs.toList[r]? = some (.int .i64 z) := by
      have h0 : ((cs.toList.drop r).take 1)[0]? = some (.int .i64 z) := by rw [e1]; rfl
      simpa using h0
    simpa using this
  refine ⟨?_, key⟩
  have h0 := key 0 (by omega)
  rcases Nat.lt_or_ge 0 M.heap.size with h | h
  · exact h
  · rw [World.cell?, Array.getElem?_eq_none h] at h0
    cases h0
end Go.Proofs.YthjlpcecfkboiabDoor
