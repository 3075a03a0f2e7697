/-
  steps.Go, whatever it is given: what it refuses, and the state so many steps on.
-/
import Derived.Test.YthjlpcecfkboiaaDoorRunInv2
import Derived.Test.YthjlpcecfkboiaaDoorLives
import Derived.Test.YthjlpcecfkboiaaDoorGo
import Derived.WalkKit
import Derived.BigQuiet
import Derived.BigRegion
namespace Go.Proofs.YthjlpcecfkboiaaDoor
open Go.RowKit Go.Proofs.YthjlpcecfkboiaaDoorW.PrintWords Go.Proofs.YthjlpcecfkboiaaDoor.Z
set_option linter.unusedVariables false
set_option linter.unusedSimpArgs false
/-- What Go tells of a state. -/
def goM (er : Int) (b : Bool) (m : Int) (code : List Ins) (s : ByteArray) (l0 l1 l2 : Int) (x : MSt) : Except Int MSt :=
  if er ≠ 0 then .error er else if b = false then .error 220 else if m < 0 ∨ 1073741824 < m then .error 1 else onM code s l0 l1 l2 m.toNat x
def GoPost (B : Nat) (w : World) (r : Except Int MSt) (en : Ending) (w' : World) : Prop :=
  Below B w w' ∧ match r with
    | .error e => en = .returned (goV e)
    | .ok y => ∃ v, en = .returned (.tuple #[v, .int .i64 0]) ∧ MstOwn w' B y v
theorem codeAt_of {w : World} {A : Option Addr} {c : Nat} {l : List S52} (hr : Kd.C k52 w A l.length l) (hp : 0 < l.length) : CodeAt w w.heap.size (l.map insOf) (.slice A l.length c) := by
  have hrow : RowIs w (.slice A l.length c) 9 l.length (l.flatMap fun x => insC (insOf x)) := rowIs_of_C (d := k52) (enc := fun x => insC (insOf x)) (fun w x cs hk => k52_open hk) (fun _ => rfl) (by decide) hr
  obtain ⟨g, o, rfl, hc⟩ := hrow.at hp
  refine ⟨g, o, c, by rw [List.length_map], hrow.block hp (by decide), fun j hj => ?_⟩
  rw [List.length_map] at hj
  rw [List.flatMap_map]
  exact hc j hj
theorem stk_C {w : World} {A : Option Addr} {c : Nat} {l : List S55} (h : RowIs w (.slice A l.length c) 4 l.length ((l.map entOf).flatMap entC)) (hl : l.length ≤ 9223372036854775807) : Kd.C k55 w A l.length l := by
  rw [List.flatMap_map] at h
  exact C_of_rowIs (d := k55) (enc := fun x => entC (entOf x)) (fun w x => k55_mk w x) (fun _ => rfl) rfl h hl
theorem log_C {w : World} {A : Option Addr} {c : Nat} {l : List S57} (h : RowIs w (.slice A l.length c) 6 l.length ((l.map notOf).flatMap notC)) (hl : l.length ≤ 9223372036854775807) : Kd.C k57 w A l.length l := by
  rw [List.flatMap_map] at h
  exact C_of_rowIs (d := k57) (enc := fun x => notC (notOf x)) (fun w x => k57_mk w x) (fun _ => rfl) rfl h hl
theorem go_any (w : World) (A : Option Addr) (c : Nat) (l : List S52) (s : ByteArray) (l0 l1 l2 pc p st kd : Int) (stk : List S55) (lg : List S57) (A1 : Option Addr) (n1 c1 : Nat) (A2 : Option Addr) (n2 c2 : Nat) (m er : Int) (b : Bool) (hr : Kd.C k52 w A l.length l) (hc : l.length ≤ c) (hU : UsesOk w)
    (hx : MstIn w (mstOf pc p st kd stk lg) (.agg #[.int .i64 pc, .int .i64 p, .int .i64 st, .int .i64 kd, .slice A1 n1 c1, .slice A2 n2 c2])) (hn1 : n1 = stk.length) (hn2 : n2 = lg.length) (hc1 : stk.length ≤ c1) (hc2 : lg.length ≤ c2) (hb1 : Kd.C k55 w A1 stk.length stk) (hb2 : Kd.C k57 w A2 lg.length lg)
    (hE : steps_looked.f 8601 l s 0 l0 l1 l2 = some er) (hm : er = 0 → steps_may.f 8400000 l s pc p st kd stk lg = some b ∧ (b = true ↔ MayOk (l.map insOf) s (mstOf pc p st kd stk lg))) :
    Calls Tryd.prog 14 #[.slice A l.length c, .string s, .agg #[.int .i64 l0, .int .i64 l1, .int .i64 l2], .agg #[.int .i64 pc, .int .i64 p, .int .i64 st, .int .i64 kd, .slice A1 n1 c1, .slice A2 n2 c2], .int .i64 m] w (GoPost w.heap.size w (goM er b m (l.map insOf) s l0 l1 l2 (mstOf pc p st kd stk lg))) := by
  have hl : ∀ w2, Below w.heap.size w w2 → Calls Tryd.prog 20 #[.slice A l.length c, .string s, .int .i64 0, .agg #[.int .i64 l0, .int .i64 l1, .int .i64 l2]] w2 fun en w' => en = .returned (.int .i64 er) ∧ Below w2.heap.size w2 w' := fun w2 hb => steps_looked.calls 8601 A c l s 0 l0 l1 l2 er w2 (Kd.C_below hr hb) hc hE (hU.below hb)
  unfold goM
  by_cases c0 : er = 0
  rotate_left 1
  · rw [if_pos c0]
    refine (go_look w A l.length c s l0 l1 l2 pc p st kd A1 n1 c1 A2 n2 c2 m er hl c0).mono ?_
    rintro e w' ⟨rfl, hb⟩
    exact ⟨hb, rfl⟩
  rw [if_neg (by simpa using c0)]
  obtain ⟨hm, hiff⟩ := hm c0
  subst hn1 hn2
  have hmay : ∀ w2, Below w.heap.size w w2 → Calls Tryd.prog 23 #[.slice A l.length c, .string s, .agg #[.int .i64 pc, .int .i64 p, .int .i64 st, .int .i64 kd, .slice A1 stk.length c1, .slice A2 lg.length c2]] w2 fun e w' => e = .returned (.bool b) ∧ Below w2.heap.size w2 w' := fun w2 hb => steps_may.calls 8400000 A c l s pc p st kd A1 c1 stk A2 c2 lg b w2 (Kd.C_below hr hb) hc (Kd.C_below hb1 hb) hc1 (Kd.C_below hb2 hb) hc2 hm (hU.below hb)
  cases hbb : b with
  | false =>
    subst hbb
    rw [if_pos rfl]
    refine (go_may w A l.length c s l0 l1 l2 pc p st kd A1 stk.length c1 A2 lg.length c2 m er hl c0 false hmay rfl).mono ?_
    rintro e w' ⟨rfl, hb⟩
    exact ⟨hb, rfl⟩
  | true =>
    subst hbb
    rw [if_neg (by decide)]
    by_cases d0 : m < 0
    · rw [if_pos (.inl d0)]
      refine (go_neg w A l.length c s l0 l1 l2 pc p st kd A1 stk.length c1 A2 lg.length c2 m er hl c0 true hmay rfl d0).mono ?_
      rintro e w' ⟨rfl, hb⟩
      exact ⟨hb, rfl⟩
    by_cases d1 : 1073741824 < m
    · rw [if_pos (.inr d1)]
      refine (go_big w A l.length c s l0 l1 l2 pc p st kd A1 stk.length c1 A2 lg.length c2 m er hl c0 true hmay rfl d0 d1).mono ?_
      rintro e w' ⟨rfl, hb⟩
      exact ⟨hb, rfl⟩
    rw [if_neg (by omega)]
    obtain ⟨er', hE', hg⟩ := looked_tot l s 0 l0 l1 l2
    rw [hE] at hE'
    injection hE' with hE'
    subst hE'
    obtain ⟨hG, hz, _, _, g0, g1, g2, g3, g4, g5⟩ := hg c0
    have hI : Inv (l.map insOf) s (mstOf pc p st kd stk lg) := (hiff.1 rfl).1
    have hpos : 0 < l.length := by have := hG.some_; rwa [List.length_map] at this
    have hCA := codeAt_of (c := c) hr hpos
    have ok : RunOk (l.map insOf) s l0 l1 l2 (mstOf pc p st kd stk lg) := run_ok hG g1 g3 g5 (by omega) hI
    have hstep : ∀ (B r : Nat) (wr : World) (y : MSt), RunW wr B r (.slice A l.length c) s l0 l1 l2 y → CodeAt wr B (l.map insOf) (.slice A l.length c) → StepOk (l.map insOf) s l0 l1 l2 y → Calls Tryd.prog 43 #[.pointer (some ⟨r, 0, none⟩)] wr fun en w' => StepPost B r (.slice A l.length c) s l0 l1 l2 wr (stepM (l.map insOf) s l0 l1 l2 y) en w' := fun B r wr y h h2 h3 => step_any wr B r (l.map insOf) _ s l0 l1 l2 y h h2 h3
    have hsz : ∀ (j : Nat) (y : MSt), onM (l.map insOf) s l0 l1 l2 j (mstOf pc p st kd stk lg) = .ok y → y.stack.length ≤ 1048576 ∧ y.log.length ≤ 1048576 := fun j y hy => by
      have := on_inv hG g1 g3 g5 j _ y hI hy
      exact ⟨this.stack, this.log⟩
    have hk1 : (stk.map entOf).length ≤ 1048576 := hI.stack
    have hk2 : (lg.map notOf).length ≤ 1048576 := hI.log
    cases hq : onM (l.map insOf) s l0 l1 l2 m.toNat (mstOf pc p st kd stk lg) with
    | error k =>
      refine (go_err w A l.length c s l0 l1 l2 pc p st kd (stk.map entOf) (lg.map notOf) A1 stk.length c1 A2 lg.length c2 m er (l.map insOf) hl c0 true hmay rfl d0 d1 hx hk1 hk2 hCA ok hstep hsz k hq).mono ?_
      rintro e w' ⟨rfl, hb⟩
      exact ⟨hb, rfl⟩
    | ok y =>
      refine (go_ok w A l.length c s l0 l1 l2 pc p st kd (stk.map entOf) (lg.map notOf) A1 stk.length c1 A2 lg.length c2 m er (l.map insOf) hl c0 true hmay rfl d0 d1 hx hk1 hk2 hCA ok hstep hsz y hq).mono ?_
      rintro e w' ⟨hb, v, rfl, ho⟩
      exact ⟨hb, v, rfl, ho⟩
end Go.Proofs.YthjlpcecfkboiaaDoor

/-
  steps.Go and harrowref22.Same, at states as numbers and lists; harrowlaw22.cut.
-/
namespace Go.Proofs.YthjlpcecfkboiaaDoor
open Go.RowKit Go.Proofs.YthjlpcecfkboiaaDoorW.PrintWords Go.Proofs.YthjlpcecfkboiaaDoor.Z
set_option linter.unusedVariables false
set_option linter.unusedSimpArgs false
def entS (x : Ent) : S55 := ⟨x.ret, x.pc, x.at_, x.notes⟩
def notS (x : Not) : S57 := ⟨x.op, x.kind, x.at_, x.len, x.n, x.text⟩
theorem entOf_S (l : List Ent) : (l.map entS).map entOf = l := by rw [List.map_map]; exact List.map_id _
theorem notOf_S (l : List Not) : (l.map notS).map notOf = l := by rw [List.map_map]; exact List.map_id _
/-- A state's value, and what its lists read as. -/
def StV (w : World) (x : MSt) (v : Value) : Prop := ∃ A1 c1 A2 c2, v = .agg #[.int .i64 x.pc, .int .i64 x.at_, .int .i64 x.steps, .int .i64 x.kind, .slice A1 x.stack.length c1, .slice A2 x.log.length c2] ∧ x.stack.length ≤ c1 ∧ x.log.length ≤ c2 ∧ RowIs w (.slice A1 x.stack.length c1) 4 x.stack.length (x.stack.flatMap entC) ∧ RowIs w (.slice A2 x.log.length c2) 6 x.log.length (x.log.flatMap notC)
theorem StV.below {w w' : World} {x : MSt} {v : Value} (h : StV w x v) (hb : Below w.heap.size w w') : StV w' x v := by
  obtain ⟨A1, c1, A2, c2, h1, h2, h3, h4, h5⟩ := h
  exact ⟨A1, c1, A2, c2, h1, h2, h3, h4.below hb, h5.below hb⟩
theorem StV.nil (w : World) (pc p st kd : Int) : StV w ⟨pc, p, st, kd, [], []⟩ (.agg #[.int .i64 pc, .int .i64 p, .int .i64 st, .int .i64 kd, .slice none 0 0, .slice none 0 0]) :=
  ⟨none, 0, none, 0, rfl, Nat.le_refl _, Nat.le_refl _, ⟨rfl, none, 0, rfl, fun h => absurd h (Nat.lt_irrefl 0)⟩, ⟨rfl, none, 0, rfl, fun h => absurd h (Nat.lt_irrefl 0)⟩⟩
def goS (r : Except Int MSt) : MSt := match r with | .ok y => y | .error _ => ⟨0, 0, 0, 0, [], []⟩
def goE (r : Except Int MSt) : Int := match r with | .ok y => 0 | .error e => e
theorem go_st (w : World) (A : Option Addr) (c : Nat) (l : List S52) (s : ByteArray) (l0 l1 l2 : Int) (x : MSt) (v : Value) (m er : Int) (b : Bool) (hr : Kd.C k52 w A l.length l) (hc : l.length ≤ c) (hU : UsesOk w) (hx : StV w x v) (hs1 : x.stack.length ≤ 9223372036854775807) (hs2 : x.log.length ≤ 9223372036854775807)
    (hE : steps_looked.f 8601 l s 0 l0 l1 l2 = some er) (hm : er = 0 → steps_may.f 8400000 l s x.pc x.at_ x.steps x.kind (x.stack.map entS) (x.log.map notS) = some b ∧ (b = true ↔ MayOk (l.map insOf) s x)) :
    Calls Tryd.prog 14 #[.slice A l.length c, .string s, .agg #[.int .i64 l0, .int .i64 l1, .int .i64 l2], v, .int .i64 m] w fun en w' => ∃ v', en = .returned (.tuple #[v', .int .i64 (goE (goM er b m (l.map insOf) s l0 l1 l2 x))]) ∧ StV w' (goS (goM er b m (l.map insOf) s l0 l1 l2 x)) v' ∧ Below w.heap.size w w' := by
  obtain ⟨A1, c1, A2, c2, rfl, h2, h3, h4, h5⟩ := hx
  have hst : mstOf x.pc x.at_ x.steps x.kind (x.stack.map entS) (x.log.map notS) = x := by
    unfold mstOf
    rw [entOf_S, notOf_S]
  have hC1 : Kd.C k55 w A1 (x.stack.map entS).length (x.stack.map entS) := stk_C (c := c1) (by rw [entOf_S, List.length_map]; exact h4) (by rw [List.length_map]; exact hs1)
  have hC2 : Kd.C k57 w A2 (x.log.map notS).length (x.log.map notS) := log_C (c := c2) (by rw [notOf_S, List.length_map]; exact h5) (by rw [List.length_map]; exact hs2)
  have hI : MstIn w (mstOf x.pc x.at_ x.steps x.kind (x.stack.map entS) (x.log.map notS)) (.agg #[.int .i64 x.pc, .int .i64 x.at_, .int .i64 x.steps, .int .i64 x.kind, .slice A1 x.stack.length c1, .slice A2 x.log.length c2]) := by
    rw [hst]; exact ⟨_, _, rfl, h4, h5⟩
  have h := go_any w A c l s l0 l1 l2 x.pc x.at_ x.steps x.kind (x.stack.map entS) (x.log.map notS) A1 x.stack.length c1 A2 x.log.length c2 m er b hr hc hU hI (by rw [List.length_map]) (by rw [List.length_map]) (by rw [List.length_map]; exact h2) (by rw [List.length_map]; exact h3) hC1 hC2 hE (by rw [hst]; exact hm)
  rw [hst] at h
  refine h.mono ?_
  rintro en w' ⟨hb, hq⟩
  cases hg : goM er b m (l.map insOf) s l0 l1 l2 x with
  | error e =>
    rw [hg] at hq
    simp only at hq
    subst hq
    exact ⟨_, rfl, StV.nil w' 0 0 0 0, hb⟩
  | ok y =>
    rw [hg] at hq
    obtain ⟨v', rfl, sv, lv, rfl, o1, o2⟩ := hq
    have r1 := RowIs.of_owns o1
    have r2 := RowIs.of_owns o2
    obtain ⟨B1, d1, rfl⟩ := r1.form
    obtain ⟨B2, d2, rfl⟩ := r2.form
    exact ⟨_, rfl, ⟨B1, d1, B2, d2, rfl, owns_cap o1, owns_cap o2, r1, r2⟩, hb⟩
/-- Go, from a state that may be. -/
theorem go_st2 (w : World) (A : Option Addr) (c : Nat) (l : List S52) (s : ByteArray) (l0 l1 l2 : Int) (x : MSt) (v : Value) (m er : Int) (hr : Kd.C k52 w A l.length l) (hc : l.length ≤ c) (hU : UsesOk w) (hx : StV w x v) (hE : steps_looked.f 8601 l s 0 l0 l1 l2 = some er) (hM : MayOk (l.map insOf) s x) (hlp : 0 < l.length) :
    Calls Tryd.prog 14 #[.slice A l.length c, .string s, .agg #[.int .i64 l0, .int .i64 l1, .int .i64 l2], v, .int .i64 m] w fun en w' => ∃ v', en = .returned (.tuple #[v', .int .i64 (goE (goM er true m (l.map insOf) s l0 l1 l2 x))]) ∧ StV w' (goS (goM er true m (l.map insOf) s l0 l1 l2 x)) v' ∧ Below w.heap.size w w' := by
  refine go_st w A c l s l0 l1 l2 x v m er true hr hc hU hx (by have := hM.1.stack; omega) (by have := hM.1.log; omega) hE (fun h0 => ?_)
  obtain ⟨er', hE', hg⟩ := looked_tot l s 0 l0 l1 l2
  rw [hE] at hE'
  injection hE' with hE'
  subst hE'
  obtain ⟨_, hz, _⟩ := hg h0
  obtain ⟨b, hb, hi⟩ := may_tot l hlp s (by omega) x.pc x.at_ x.steps x.kind (x.stack.map entS) (x.log.map notS)
  have e : mstOf x.pc x.at_ x.steps x.kind (x.stack.map entS) (x.log.map notS) = x := by unfold mstOf; rw [entOf_S, notOf_S]
  rw [e] at hi
  have := hi.2 hM
  subst this
  exact ⟨hb, hi⟩
theorem same_st (w : World) (x : MSt) (v v2 : Value) (hx : StV w x v) (hy : StV w x v2) (hs1 : x.stack.length ≤ 1048576) (hs2 : x.log.length ≤ 1048576) :
    Calls Tryd.prog 11 #[v, v2] w fun e w' => e = .returned (.bool true) ∧ Below w.heap.size w w' := by
  obtain ⟨A1, c1, A2, c2, rfl, h2, h3, h4, h5⟩ := hx
  obtain ⟨B1, d1, B2, d2, rfl, g2, g3, g4, g5⟩ := hy
  have hl1 : (x.stack.map entS).length = x.stack.length := List.length_map _
  have hl2 : (x.log.map notS).length = x.log.length := List.length_map _
  have hC1 : Kd.C k55 w A1 (x.stack.map entS).length (x.stack.map entS) := stk_C (c := c1) (by rw [entOf_S, hl1]; exact h4) (by omega)
  have hC2 : Kd.C k57 w A2 (x.log.map notS).length (x.log.map notS) := log_C (c := c2) (by rw [notOf_S, hl2]; exact h5) (by omega)
  have hD1 : Kd.C k55 w B1 (x.stack.map entS).length (x.stack.map entS) := stk_C (c := d1) (by rw [entOf_S, hl1]; exact g4) (by omega)
  have hD2 : Kd.C k57 w B2 (x.log.map notS).length (x.log.map notS) := log_C (c := d2) (by rw [notOf_S, hl2]; exact g5) (by omega)
  have h := harrowref22_Same.calls 8400000 x.pc x.at_ x.steps x.kind A1 c1 (x.stack.map entS) A2 c2 (x.log.map notS) x.pc x.at_ x.steps x.kind B1 d1 (x.stack.map entS) B2 d2 (x.log.map notS) true w hC1 (by omega) hC2 (by omega) hD1 (by omega) hD2 (by omega) (same_yes x.pc x.at_ x.steps x.kind _ _ (by omega) (by omega))
  rw [hl1, hl2] at h
  exact h
theorem results_one {fn : Func} {p : Tmp} {ty : TypeId} (h : fn.results = #[.cell p ty]) (tmps : Array Value) (P : Program) (w : World) :
    (results fn tmps).run P w = ((asAddr (tmps.getD p undef)).run P w).andThen fun a w₁ => (loadVar ty a).run P w₁ := by
  simp only [results, h]
  simp [Sem.run_bind, Result.andThen]
def cutM (l2 : Int) : Int := if 16384 < l2 ∧ l2 ≤ 1073741824 then 16384 else l2
set_option maxHeartbeats 8000000 in
set_option maxRecDepth 20000 in
theorem cut_any (w : World) (v : Value) (s : ByteArray) (p l0 l1 l2 : Int) (A : Option Addr) (n c : Nat) (hv : v = .slice A n c) : Calls Tryd.prog 13 #[.agg #[v, .string s, .int .i64 p, .int .i64 l0, .int .i64 l1, .int .i64 l2]] w fun e w' => e = .returned (.agg #[v, .string s, .int .i64 p, .int .i64 l0, .int .i64 l1, .int .i64 (cutM l2)]) ∧ Below w.heap.size w w' := by
  subst hv
  unfold cutM
  go_enter Tryd.func13, Tryd.ntmps13
  by_cases d1 : 16384 < l2
  · have e1 : decide (16384 < l2) = true := decide_eq_true d1
    by_cases d2 : l2 ≤ 1073741824
    · have e2 : decide (l2 ≤ 1073741824) = true := decide_eq_true d2
      rw [if_pos ⟨d1, d2⟩]
      go_wp2_with (fail)
      have hc2 := block_cell (alloc_new_at (a := w.alloc (.cells #[.slice A n c, .string s, .int .i64 p, .int .i64 l0, .int .i64 l1, .int .i64 16384] 26)) (.cells #[.slice A n c, .string s, .int .i64 p, .int .i64 l0, .int .i64 l1, .int .i64 16384] 26) (show w.heap.size + 1 = (w.heap.push _).size by simp))
      refine bodyPost_ret (v := .agg #[.slice A n c, .string s, .int .i64 p, .int .i64 l0, .int .i64 l1, .int .i64 16384]) ?_ rfl ⟨rfl, g_al (g_al (Below.refl w.heap.size w) (Nat.le_refl _) _) (by simp) _⟩
      rw [results_one (show Tryd.f13.results = _ from rfl)]
      go_simp
    · have e2 : decide (l2 ≤ 1073741824) = false := decide_eq_false d2
      rw [if_neg (fun h => d2 h.2)]
      go_wp2_with (fail)
      have hc2 := block_cell (alloc_new_at (a := w.alloc (.cells #[.slice A n c, .string s, .int .i64 p, .int .i64 l0, .int .i64 l1, .int .i64 l2] 26)) (.cells #[.slice A n c, .string s, .int .i64 p, .int .i64 l0, .int .i64 l1, .int .i64 l2] 26) (show w.heap.size + 1 = (w.heap.push _).size by simp))
      refine bodyPost_ret (v := .agg #[.slice A n c, .string s, .int .i64 p, .int .i64 l0, .int .i64 l1, .int .i64 l2]) ?_ rfl ⟨rfl, g_al (g_al (Below.refl w.heap.size w) (Nat.le_refl _) _) (by simp) _⟩
      rw [results_one (show Tryd.f13.results = _ from rfl)]
      go_simp
  · have e1 : decide (16384 < l2) = false := decide_eq_false d1
    rw [if_neg (fun h => d1 h.1)]
    go_wp2_with (fail)
    have hc2 := block_cell (alloc_new_at (a := w.alloc (.cells #[.slice A n c, .string s, .int .i64 p, .int .i64 l0, .int .i64 l1, .int .i64 l2] 26)) (.cells #[.slice A n c, .string s, .int .i64 p, .int .i64 l0, .int .i64 l1, .int .i64 l2] 26) (show w.heap.size + 1 = (w.heap.push _).size by simp))
    refine bodyPost_ret (v := .agg #[.slice A n c, .string s, .int .i64 p, .int .i64 l0, .int .i64 l1, .int .i64 l2]) ?_ rfl ⟨rfl, g_al (g_al (Below.refl w.heap.size w) (Nat.le_refl _) _) (by simp) _⟩
    rw [results_one (show Tryd.f13.results = _ from rfl)]
    go_simp
end Go.Proofs.YthjlpcecfkboiaaDoor
