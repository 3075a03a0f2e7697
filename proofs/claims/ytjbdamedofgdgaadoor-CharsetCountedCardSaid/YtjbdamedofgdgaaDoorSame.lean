/-
  harrowbook.SameSpans: two lists of the same spans are the same; nothing is written.
-/
import Derived.Test.YtjbdamedofgdgaaDoorSpans
namespace Go.Proofs.YtjbdamedofgdgaaDoor
open Go.RowKit
set_option linter.unusedVariables false
set_option linter.unusedSimpArgs false
/-- The slice v reads as n elements of so many cells each. -/
def RowIs (w : World) (v : Value) (size n : Nat) (xs : List Value) : Prop :=
  xs.length = n * size ∧ ∃ ao cap, v = .slice ao n cap ∧ (0 < n → ∃ g o, ao = some ⟨g, o, none⟩ ∧ ∀ j, j < n * size → w.cell? ⟨g, o + j, none⟩ = xs[j]?)
theorem RowIs.of_owns {w : World} {base : Nat} {e : TypeId} {size : Nat} {v : Value} {n : Nat} {xs : List Value} (h : w.ownsRow base e size v n xs) : RowIs w v size n xs := by
  refine ⟨h.1, ?_⟩
  rcases h.2 with ⟨rfl, rfl⟩ | ⟨g, cap, cur, rfl, h2⟩
  · exact ⟨none, 0, rfl, fun h => by omega⟩
  · exact ⟨some ⟨g, 0, none⟩, cap, rfl, fun _ => ⟨g, 0, rfl, fun j hj => by rw [Nat.zero_add]; exact World.ownsRow.cellAt ⟨h.1, .inr ⟨g, cap, cur, rfl, h2⟩⟩ j hj⟩⟩
theorem spCells_at {l : Sps} {k : Nat} (hk : k < l.length) : (spCells l)[k * 2]? = some (.int .i64 (l[k]).1) ∧ (spCells l)[k * 2 + 1]? = some (.int .i64 (l[k]).2) := by
  induction l generalizing k with
  | nil => cases hk
  | cons x l ih =>
    cases k with
    | zero => exact ⟨rfl, rfl⟩
    | succ k =>
      have h := ih (k := k) (by simp at hk; omega)
      rw [show (k + 1) * 2 = (k * 2) + 1 + 1 by omega]
      exact h

set_option maxRecDepth 100000 in
set_option maxHeartbeats 4000000 in
theorem sameSpans_yes (l : Sps) (hl : l.length ≤ 4611686018427387904) (a b : Value) (w : World) (ha : RowIs w a 2 l.length (spCells l)) (hb : RowIs w b 2 l.length (spCells l)) :
    Calls Tryd.prog 11 #[a, b] w fun e w' => e = .returned (.bool true) ∧ Below w.heap.size w w' := by
  obtain ⟨-, ao, ac, rfl, ha⟩ := ha
  obtain ⟨-, bo, bc, rfl, hb⟩ := hb
  go_enter Tryd.func11, Tryd.ntmps11
  go_wp2
  go_loopw [5] (fun i wr => ∃ k : Nat, k ≤ l.length ∧ i = .int .i64 k ∧ ∃ m, wr = w.drewN m) (fun i _ => l.length - (intOf i).toNat)
  case atStart => exact ⟨0, Nat.zero_le _, rfl, 0, rfl⟩
  case round =>
    obtain ⟨k, hk, rfl, m, rfl⟩ := hrel
    by_cases hlt : k < l.length
    · obtain ⟨ag, ao, rfl, hca⟩ := ha (by omega)
      obtain ⟨bg, bo, rfl, hcb⟩ := hb (by omega)
      obtain ⟨hs1, hs2⟩ := spCells_at hlt
      have h1 := (hca (k * 2) (by omega)).trans hs1
      have h2 := (hca (k * 2 + 1) (by omega)).trans hs2
      have h3 := (hcb (k * 2) (by omega)).trans hs1
      have h4 := (hcb (k * 2 + 1) (by omega)).trans hs2
      rw [← Nat.add_assoc] at h2 h4
      clear hca hcb hs1 hs2 ha hb
      generalize l[k].1 = x at *
      generalize l[k].2 = y at *
      have hw1 : IntKind.i64.wrap ((k : Int) + 1) = (k : Int) + 1 := IntWalk.i64_in _ (by omega)
      go_wp2
      go_quiet (fail)
      go_wp2
      go_roundw
      case rel => exact ⟨k + 1, by omega, by go_num, _, rfl⟩
      case measure => simp [intOf]; omega
    · have hk2 : k = l.length := by omega
      subst hk2
      go_wp2
      go_ret
      exact ⟨rfl, below_drewN (Below.refl _ _) _⟩

end Go.Proofs.YtjbdamedofgdgaaDoor
