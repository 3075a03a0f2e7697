/-
  A state's value and its lists; two states that are the same are told as the same. No program here but the printed function.
-/
import Derived.Test.YthjlpcecfkboiabDoorStepsTot
import Derived.Test.YthjlpcecfkboiabDoorClone
namespace Go.Proofs.YthjlpcecfkboiabDoor
open Go.RowKit Go.Proofs.YthjlpcecfkboiabDoorW.PrintWords Go.Proofs.YthjlpcecfkboiabDoor.Z
set_option linter.unusedVariables false
set_option linter.unusedSimpArgs false
def entOf (x : S56) : Ent := ⟨x.f0, x.f1, x.f2, x.f3⟩
def notOf (x : S59) : Not := ⟨x.f0, x.f1, x.f2, x.f3, x.f4, x.f5⟩
theorem stk_C {w : World} {A : Option Addr} {c : Nat} {l : List S56} (h : RowIs w (.slice A l.length c) 4 l.length ((l.map entOf).flatMap entC)) (hl : l.length ≤ 9223372036854775807) : Kd.C k56 w A l.length l := by
  rw [List.flatMap_map] at h
  exact C_of_rowIs (d := k56) (enc := fun x => entC (entOf x)) (fun w x => k56_mk w x) (fun _ => rfl) rfl h hl
theorem log_C {w : World} {A : Option Addr} {c : Nat} {l : List S59} (h : RowIs w (.slice A l.length c) 6 l.length ((l.map notOf).flatMap notC)) (hl : l.length ≤ 9223372036854775807) : Kd.C k59 w A l.length l := by
  rw [List.flatMap_map] at h
  exact C_of_rowIs (d := k59) (enc := fun x => notC (notOf x)) (fun w x => k59_mk w x) (fun _ => rfl) rfl h hl
def entS (x : Ent) : S56 := ⟨x.ret, x.pc, x.at_, x.notes⟩
def notS (x : Not) : S59 := ⟨x.op, x.kind, x.at_, x.len, x.n, x.text⟩
theorem entOf_S (l : List Ent) : (l.map entS).map entOf = l := by rw [List.map_map]; exact List.map_id _
theorem notOf_S (l : List Not) : (l.map notS).map notOf = l := by rw [List.map_map]; exact List.map_id _
/-- A state's value, and what its lists read as. -/
def StV (w : World) (x : MSt) (v : Value) : Prop := ∃ A1 c1 A2 c2, v = .agg #[.int .i64 x.pc, .int .i64 x.at_, .int .i64 x.steps, .int .i64 x.kind, .slice A1 x.stack.length c1, .slice A2 x.log.length c2] ∧ x.stack.length ≤ c1 ∧ x.log.length ≤ c2 ∧ RowIs w (.slice A1 x.stack.length c1) 4 x.stack.length (x.stack.flatMap entC) ∧ RowIs w (.slice A2 x.log.length c2) 6 x.log.length (x.log.flatMap notC)
theorem StV.below {w w' : World} {x : MSt} {v : Value} (h : StV w x v) (hb : Below w.heap.size w w') : StV w' x v := by
  obtain ⟨A1, c1, A2, c2, h1, h2, h3, h4, h5⟩ := h
  exact ⟨A1, c1, A2, c2, h1, h2, h3, h4.below hb, h5.below hb⟩
theorem StV.nil (w : World) (pc p st kd : Int) : StV w ⟨pc, p, st, kd, [], []⟩ (.agg #[.int .i64 pc, .int .i64 p, .int .i64 st, .int .i64 kd, .slice none 0 0, .slice none 0 0]) :=
  ⟨none, 0, none, 0, rfl, Nat.le_refl _, Nat.le_refl _, ⟨rfl, none, 0, rfl, fun h => absurd h (Nat.lt_irrefl 0)⟩, ⟨rfl, none, 0, rfl, fun h => absurd h (Nat.lt_irrefl 0)⟩⟩
theorem same_l1 (pc p st kd : Int) (stk : List S56) (lg : List S59) (hg : lg.length ≤ 1048576) (qc q qt qd : Int) (stk2 : List S56) : ∀ (n k x : Nat), x ≤ lg.length → lg.length - x ≤ n → n < k → harrowref22_Same.l1 k (x : Int) pc p st kd stk lg qc q qt qd stk2 lg = some true
  | n, 0, x, _, _, h => by omega
  | 0, k + 1, x, h0, h1, _ => by rw [harrowref22_Same.l1, if_neg (by omega)]
  | n + 1, k + 1, x, h0, h1, hk => by
    rw [harrowref22_Same.l1]
    by_cases c : (x : Int) < (lg.length : Int)
    · rw [if_pos c, if_pos (by omega), if_pos c, if_neg (by simp), wrap64_in (x := (x : Int) + 1) (by omega) (by omega), show (x : Int) + 1 = ((x + 1 : Nat) : Int) by omega]
      exact same_l1 pc p st kd stk lg hg qc q qt qd stk2 n k (x + 1) (by omega) (by omega) (by omega)
    · rw [if_neg c]
theorem same_l0 (pc p st kd : Int) (stk : List S56) (lg : List S59) (hs : stk.length ≤ 1048576) (hg : lg.length ≤ 1048576) (qc q qt qd : Int) : ∀ (n k x : Nat), x ≤ stk.length → stk.length - x ≤ n → n + 1048580 < k → harrowref22_Same.l0 k (x : Int) pc p st kd stk lg qc q qt qd stk lg = some true
  | n, 0, x, _, _, h => by omega
  | 0, k + 1, x, h0, h1, _ => by rw [harrowref22_Same.l0, if_neg (by omega)]; exact same_l1 pc p st kd stk lg hg qc q qt qd stk lg.length k 0 (Nat.zero_le _) (by omega) (by omega)
  | n + 1, k + 1, x, h0, h1, hk => by
    rw [harrowref22_Same.l0]
    by_cases c : (x : Int) < (stk.length : Int)
    · rw [if_pos c, if_pos (by omega), if_pos c, if_neg (by simp), wrap64_in (x := (x : Int) + 1) (by omega) (by omega), show (x : Int) + 1 = ((x + 1 : Nat) : Int) by omega]
      exact same_l0 pc p st kd stk lg hs hg qc q qt qd n k (x + 1) (by omega) (by omega) (by omega)
    · rw [if_neg c]; exact same_l1 pc p st kd stk lg hg qc q qt qd stk lg.length k 0 (Nat.zero_le _) (by omega) (by omega)
theorem same_yes (pc p st kd : Int) (stk : List S56) (lg : List S59) (hs : stk.length ≤ 1048576) (hg : lg.length ≤ 1048576) : harrowref22_Same.f 8400000 pc p st kd stk lg pc p st kd stk lg = some true := by
  obtain ⟨k, hk, hk2⟩ : ∃ k, 8400000 = k + 1 ∧ 8000000 ≤ k := ⟨8399999, rfl, by decide⟩
  unfold harrowref22_Same.f
  rw [if_pos rfl, if_pos rfl, if_pos rfl, if_pos rfl, if_pos rfl, hk, harrowref22_Same.j0, if_neg (by simp)]
  exact same_l0 pc p st kd stk lg hs hg pc p st kd stk.length k 0 (Nat.zero_le _) (by omega) (by omega)
theorem same_st (w : World) (x : MSt) (v v2 : Value) (hx : StV w x v) (hy : StV w x v2) (hs1 : x.stack.length ≤ 1048576) (hs2 : x.log.length ≤ 1048576) :
    Calls Tryd.prog 7 #[v, v2] w fun e w' => e = .returned (.bool true) ∧ Below w.heap.size w w' := by
  obtain ⟨A1, c1, A2, c2, rfl, h2, h3, h4, h5⟩ := hx
  obtain ⟨B1, d1, B2, d2, rfl, g2, g3, g4, g5⟩ := hy
  have hl1 : (x.stack.map entS).length = x.stack.length := List.length_map _
  have hl2 : (x.log.map notS).length = x.log.length := List.length_map _
  have hC1 : Kd.C k56 w A1 (x.stack.map entS).length (x.stack.map entS) := stk_C (c := c1) (by rw [entOf_S, hl1]; exact h4) (by omega)
  have hC2 : Kd.C k59 w A2 (x.log.map notS).length (x.log.map notS) := log_C (c := c2) (by rw [notOf_S, hl2]; exact h5) (by omega)
  have hD1 : Kd.C k56 w B1 (x.stack.map entS).length (x.stack.map entS) := stk_C (c := d1) (by rw [entOf_S, hl1]; exact g4) (by omega)
  have hD2 : Kd.C k59 w B2 (x.log.map notS).length (x.log.map notS) := log_C (c := d2) (by rw [notOf_S, hl2]; exact g5) (by omega)
  have h := harrowref22_Same.calls 8400000 x.pc x.at_ x.steps x.kind A1 c1 (x.stack.map entS) A2 c2 (x.log.map notS) x.pc x.at_ x.steps x.kind B1 d1 (x.stack.map entS) B2 d2 (x.log.map notS) true w hC1 (by omega) hC2 (by omega) hD1 (by omega) hD2 (by omega) (same_yes x.pc x.at_ x.steps x.kind _ _ (by omega) (by omega))
  rw [hl1, hl2] at h
  exact h
end Go.Proofs.YthjlpcecfkboiabDoor
