/-
  Rows of whole numbers: harrowbook's Same, Lend, Kept and Spoil of them.
-/
import Derived.Test.YtebebognifiinaaDoorProg
import Derived.Test.YtebebognifiinaaDoorReads
import Derived.WalkSpells
import Derived.WalkLawsBesides
import Derived.BigQuiet
import Derived.Deep.QuietTactic
namespace Go.Proofs.YtebebognifiinaaDoor
open Go.RowKit
set_option linter.unusedVariables false
set_option linter.unusedSimpArgs false
def intsC (x : Int) : List Value := [.int .i64 x]
theorem intsC_len (x : Int) : (intsC x).length = 1 := rfl
theorem intsC_one (l : List Int) : ∀ u ∈ l.flatMap intsC, u.oneCell' = true := by
  intro u hu
  simp only [List.mem_flatMap, intsC, List.mem_cons, List.not_mem_nil, or_false] at hu
  obtain ⟨x, -, rfl⟩ := hu
  rfl
theorem info_ints : (Tryd.prog.info? 3).map (fun i => (i.zero, i.size, i.bytes)) = some (some (.int .i64 0), 1, 8) := by kernel_rfl

set_option maxRecDepth 100000 in
set_option maxHeartbeats 4000000 in
theorem sameInts_yes (l : List Int) (hl : l.length ≤ 4611686018427387904) (a b : Value) (w : World) (ha : RowIs w a 1 l.length (l.flatMap intsC)) (hb : RowIs w b 1 l.length (l.flatMap intsC)) :
    Calls Tryd.prog 13 #[a, b] w fun e w' => e = .returned (.bool true) ∧ Below w.heap.size w w' := by
  obtain ⟨-, ao, ac, rfl, ha⟩ := ha
  obtain ⟨-, bo, bc, rfl, hb⟩ := hb
  go_enter Tryd.func13, Tryd.ntmps13
  go_wp2
  go_loopw [5] (fun i wr => ∃ k : Nat, k ≤ l.length ∧ i = .int .i64 k ∧ ∃ m, wr = w.drewN m) (fun i _ => l.length - (intOf i).toNat)
  case atStart => exact ⟨0, Nat.zero_le _, rfl, 0, rfl⟩
  case round =>
    obtain ⟨k, hk, rfl, m, rfl⟩ := hrel
    by_cases hlt : k < l.length
    · obtain ⟨ag, ao, rfl, hca⟩ := ha (by omega)
      obtain ⟨bg, bo, rfl, hcb⟩ := hb (by omega)
      have p0 : w.cell? ⟨ag, ao + k, none⟩ = some (.int .i64 l[k]) := by have h := row_cell0 intsC_len hca hlt (by decide); rwa [Nat.mul_one] at h
      have q0 : w.cell? ⟨bg, bo + k, none⟩ = some (.int .i64 l[k]) := by have h := row_cell0 intsC_len hcb hlt (by decide); rwa [Nat.mul_one] at h
      clear hca hcb ha hb
      generalize l[k] = x0 at *
      have hw1 : IntKind.i64.wrap ((k : Int) + 1) = (k : Int) + 1 := IntWalk.i64_in _ (by omega)
      go_wp2
      go_quiet (fail)
      go_wp2
      go_roundw
      case rel => exact ⟨k + 1, by omega, by go_num, _, rfl⟩
      case measure => simp [intOf]; omega
    · have hk2 : k = l.length := by omega
      subst hk2
      go_wp2
      go_ret
      exact ⟨rfl, below_drewN (Below.refl _ _) _⟩

def markInts : List Value := [.int .i64 (-77)]


set_option maxRecDepth 100000 in
set_option maxHeartbeats 4000000 in
theorem spoilInts_any (n : Nat) (hn : (n + 1) * 8 ≤ 140737488355328) (base : Nat) (v : Value) (xs : List Value) (m : Int) (w : World) (hv : w.ownsRow base 3 1 v n xs) (hbase : base ≤ w.heap.size) :
    Calls Tryd.prog 18 #[v, .int .i64 m] w fun e w' => e = .returned (.tuple #[]) ∧ w.grownBy w' v.ownBlock := by
  obtain ⟨i0, hi, hz0, hz1, hz2⟩ := info_parts info_ints
  obtain ⟨ao, cap, rfl⟩ := (RowIs.of_owns hv).form
  go_enter Tryd.func18, Tryd.ntmps18
  go_wp2
  go_loopw [4] (fun i wr => ∃ (k : Nat) (ys : List Value), k ≤ n ∧ i = .int .i64 k ∧ wr.ownsRow base 3 1 (.slice ao n cap) n ys ∧ w.grownBy wr (Value.slice ao n cap).ownBlock) (fun i _ => n - (intOf i).toNat)
  case atStart => exact ⟨0, xs, Nat.zero_le _, rfl, hv, grown_refl _ _⟩
  case round =>
    obtain ⟨k, ys, hk, rfl, hown, hg⟩ := hrel
    by_cases hlt : k < n
    · obtain ⟨g, o, rfl, hcx⟩ := (RowIs.of_owns hown).at (by omega)
      obtain rfl := owns_off hown
      have hlen := hown.1
      obtain ⟨u0, hu0⟩ : ∃ u, ys[k]? = some u := ⟨_, List.getElem?_eq_getElem (by rw [hlen]; omega)⟩
      have hc0 := (hown.cellAt (k) (by omega)).trans hu0; have hf0 := hown.frozenAt (k)
      obtain ⟨hs0, hb0⟩ := hown.stored (k) (.int .i64 m)
      have hw2 : IntKind.i64.wrap ((k : Int) + 1) = (k : Int) + 1 := IntWalk.i64_in _ (by omega)
      clear hcx
      go_wp2
      go_roundw
      case rel => exact ⟨k + 1, _, by omega, by go_num, hs0, grown_trans hg hb0⟩
      case measure => simp [intOf]; omega
    · have hk2 : k = n := by omega
      subst hk2
      have hrw := row_new wr 3 #[.int .i64 m] 1 rfl
      have hbs := Nat.le_trans hbase hg.size
      go_wp2_with (at_builtin; refine wpList_append_row rfl _ _ 22 rfl base 3 i0 _ 1 8 Tryd.underlying22 hi hz0 hz1 hz2 rfl (by decide) (.slice ao k cap) _ _ rfl (hown.alloc _) (.slice (some ⟨wr.heap.size, 0, none⟩) 1 1) 1 (#[.int .i64 m] : Array Value).toList rfl hrw ?c6 ?c3 ?c4 ?c5 ?_)
      case c6 => simp [Value.oneCell']
      case c3 => unfold maxLen; omega
      try case c4 => omega
      case c5 => first | omega | (simp; omega)
      intro v2 w2 hown2 hg2 hb2
      have hgf := grown_trans (grown_trans hg (grown_alloc wr _ _)) hg2
      clear hown2 hown hrw hb2 hg2 hg
      go_wp2
      go_end0
      exact ⟨rfl, hgf⟩

end Go.Proofs.YtebebognifiinaaDoor
