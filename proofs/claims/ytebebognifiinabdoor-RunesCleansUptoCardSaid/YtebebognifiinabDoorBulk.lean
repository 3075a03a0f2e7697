/-
  What the bound on the bulk of the arguments gives.
-/
import Derived.Test.YtebebognifiinabDoorRows
namespace Go.Proofs.YtebebognifiinabDoor
theorem bulk_string {H : Type} {bytes : List UInt8} {l : List (DataW H)} (hk : Rows.uptoSmall H (DataW.lit (H := H) (.string bytes) :: l) = true) : bytes.length ≤ 1048576 := by
  have h := of_decide_eq_true hk
  simp only [Rows.uptoBulkAll, Rows.uptoBulk] at h
  omega
end Go.Proofs.YtebebognifiinabDoor
