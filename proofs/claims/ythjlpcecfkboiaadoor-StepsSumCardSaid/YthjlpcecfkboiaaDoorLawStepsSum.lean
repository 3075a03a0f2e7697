/-
  harrowlaw22.StepsSum tells true of all code, subjects, places, limits and numbers of steps: so many steps, and so many more, are as many as both together.
-/
import Derived.Test.YthjlpcecfkboiaaDoorRows
import Derived.Test.YthjlpcecfkboiaaDoorCards
import Derived.Test.YthjlpcecfkboiaaDoorTie
import Derived.Test.YthjlpcecfkboiaaDoorOpens
import Derived.Test.YthjlpcecfkboiaaDoorUsesTab
import Derived.Test.YthjlpcecfkboiaaDoorLawSum
import Derived.Test.YthjlpcecfkboiaaDoorGiven
import Derived.WalkKit
import Derived.ProofKit
import Derived.OpenShut
import Derived.ShutString
import Derived.ChangeOld
import Derived.Below
import Derived.SizedLaws
import Derived.LaidMore
import Derived.Lay
import Derived.SevenTiedAt
import Derived.Stop.Joined
import Derived.Deep.DeepHandedRow
import Derived.JoinedCond
namespace Go.Proofs.YthjlpcecfkboiaaDoor.Z
open Go.ChangeShapes Go.WideShapes Go.ChangeAt Go.RowKit Go.Proofs.YthjlpcecfkboiaaDoorW.PrintWords
open Go.ChangeMaps (open_string shut_string)
set_option linter.unusedVariables false
def Q50 : S50 → Prop := fun x : S50 => (fun x => (Lit.int .u64 x).wf = true) x.f0 ∧ (fun x => (Lit.int .u64 x).wf = true) x.f1 ∧ (fun x => (Lit.int .u64 x).wf = true) x.f2 ∧ (fun x => (Lit.int .u64 x).wf = true) x.f3
theorem opens50 : Opens Tryd.prog 50 k50 Q50 := by
  refine opens_iso (g := fun p => ⟨p.1, p.2.1, p.2.2.1, p.2.2.2⟩) (fun _ => rfl) (fun _ h => h) ?_
  exact opens_array Tryd.underlying50 (opensL_cons (by kernel_rfl) (opens_int Tryd.underlying48) (opensL_cons (by kernel_rfl) (opens_int Tryd.underlying48) (opensL_cons (by kernel_rfl) (opens_int Tryd.underlying48) (opensL_one (by kernel_rfl) (opens_int Tryd.underlying48)))))
def Q52 : S52 → Prop := fun x : S52 => (fun x => (Lit.int .i64 x).wf = true) x.f0 ∧ (fun x => (Lit.int .i64 x).wf = true) x.f1 ∧ (fun x => (Lit.int .i64 x).wf = true) x.f2 ∧ (fun x => (Lit.int .i64 x).wf = true) x.f3 ∧ (fun x => x.size ≤ 140737488351232) x.f4 ∧ Q50 x.f5
theorem opens52 : Opens Tryd.prog 52 k52 Q52 := by
  refine opens_iso (g := fun p => ⟨p.1, p.2.1, p.2.2.1, p.2.2.2.1, p.2.2.2.2.1, p.2.2.2.2.2⟩) (fun _ => rfl) (fun _ h => h) ?_
  exact opens_struct Tryd.underlying52 (by kernel_rfl) (by kernel_rfl) (opensL_cons (by kernel_rfl) (opens_int Tryd.underlying3) (opensL_cons (by kernel_rfl) (opens_int Tryd.underlying3) (opensL_cons (by kernel_rfl) (opens_int Tryd.underlying3) (opensL_cons (by kernel_rfl) (opens_int Tryd.underlying3) (opensL_cons (by kernel_rfl) (opens_string Tryd.underlying9) (opensL_one (by kernel_rfl) opens50))))))
def Q24 : S24 → Prop := fun x : S24 => (fun x => (Lit.int .i64 x).wf = true) x.f0 ∧ (fun x => (Lit.int .i64 x).wf = true) x.f1 ∧ (fun x => (Lit.int .i64 x).wf = true) x.f2
theorem opens24 : Opens Tryd.prog 24 k24 Q24 := by
  refine opens_iso (g := fun p => ⟨p.1, p.2.1, p.2.2⟩) (fun _ => rfl) (fun _ h => h) ?_
  exact opens_struct Tryd.underlying24 (by kernel_rfl) (by kernel_rfl) (opensL_cons (by kernel_rfl) (opens_int Tryd.underlying3) (opensL_cons (by kernel_rfl) (opens_int Tryd.underlying3) (opensL_one (by kernel_rfl) (opens_int Tryd.underlying3))))
def Q26 : S26 → Prop := fun x : S26 => (fun l => l.length * 80 ≤ 140737488351232 ∧ ∀ x ∈ l, Q52 x) x.f0 ∧ (fun x => x.size ≤ 140737488351232) x.f1 ∧ (fun x => (Lit.int .i64 x).wf = true) x.f2 ∧ Q24 x.f3
theorem opens26 : Opens Tryd.prog 26 k26 Q26 := by
  refine opens_iso (g := fun p => ⟨p.1, p.2.1, p.2.2.1, p.2.2.2⟩) (fun _ => rfl) (fun _ h => h) ?_
  exact opens_struct Tryd.underlying26 (by kernel_rfl) (by kernel_rfl) (opensL_cons (by kernel_rfl) (opens_slice (B := 80) Tryd.underlying22 (by kernel_rfl) (by kernel_rfl) opens52) (opensL_cons (by kernel_rfl) (opens_string Tryd.underlying9) (opensL_cons (by kernel_rfl) (opens_int Tryd.underlying3) (opensL_one (by kernel_rfl) opens24))))
theorem fits_of_sized {H : Type} {P : Program} {ts : List TypeId} {ds : List (DataW H)} (h : (DataW.weightsEach P ts ds).all (· ≤ reachBytes) = true) {j : Nat} {t : TypeId} {d : DataW H} (ht : ts[j]? = some t) (hd : ds[j]? = some d) : Fits P t d := by
  intro n hn
  have := List.all_eq_true.1 h _ (DataW.weights_mem_each ht hd n hn)
  rw [show reachBytes = 140737488351232 by decide] at this
  simpa using this
theorem own : ownKnob Tryd.prog.godebug = none := by kernel_rfl
theorem laidOut : laidOutB Tryd.prog = true := by kernel_rfl
noncomputable def laidW (os : Os) : World := World.laidAll Tryd.prog os usesLaid
theorem reads (os : Os) {H : Type} (enc : TypeId × Value → H) : ∃ ds places, DataW.whole enc Tryd.prog ((laidW os).forCall (fun _ _ => 0) ⟨#[], #[.agg #[(.slice none 0 0), (.string ByteArray.empty), (.int .i64 0), (.int .i64 0), (.int .i64 0), (.int .i64 0)], .int .i64 0, .int .i64 0], []⟩).memory Tryd.f4.params.toList Rows.stepsSumSpec.vars false (#[.agg #[(.slice none 0 0), (.string ByteArray.empty), (.int .i64 0), (.int .i64 0), (.int .i64 0), (.int .i64 0)], .int .i64 0, .int .i64 0] : Array Value).toList 8 = some (ds, [], places) ∧ (∀ k, (OpenSpec.ofChange Rows.stepsSumSpec).cond = some k → k H (ds ++ []) = true) :=
  ⟨[.agg [.nil, .lit (.string []), .lit (.int .i64 0), .agg [.lit (.int .i64 0), .lit (.int .i64 0), .lit (.int .i64 0)]], .lit (.int .i64 0), .lit (.int .i64 0)], [], by kernel_rfl, fun k hk => by first | (cases hk; kernel_rfl) | cases hk⟩
set_option maxRecDepth 100000 in
theorem lifted (os : Os) (started : os.Started) (H : Type) (enc : TypeId × Value → H) (F : Stop.Interp) :
    ReturnsInHanded {} Tryd.checked os 4 .any ((OpenSpec.ofChange Rows.stepsSumSpec).preRow enc Tryd.prog Tryd.f4 Rows.stepsSumRow.domain false Rows.stepsSumRow.laid) (((OpenSpec.ofChange Rows.stepsSumSpec).at F).post enc Tryd.prog Tryd.f4 false true false false) := by
  obtain ⟨ds0, places, hx, hk0⟩ := reads os enc
  refine returnsInHanded_of_row (C := Tryd.checked) (s := (OpenSpec.ofChange Rows.stepsSumSpec)) own started (by kernel_rfl) Tryd.func4
    (witness_row_at (enc := enc) (C := Tryd.checked) false (laidW os) #[.agg #[(.slice none 0 0), (.string ByteArray.empty), (.int .i64 0), (.int .i64 0), (.int .i64 0), (.int .i64 0)], .int .i64 0, .int .i64 0] (World.laidAll_os _ _ _) (by kernel_rfl) (by kernel_rfl) (by kernel_rfl)
      (OpenSpec.preRow_of_cond 8 hx (by kernel_rfl) hk0 (by kernel_rfl) (laidMet_laidAll _ (by kernel_rfl) (by kernel_rfl)))) ?_
  intro W base args ds gs before hval0 hW _ hcond hsz0 hL _ _
  have hsz : (DataW.weightsEach Tryd.prog (Tryd.f4.params.toList ++ Rows.stepsSumSpec.plain.varTypes Tryd.prog) (ds ++ gs)).all (· ≤ reachBytes) = true := hsz0
  have hval : ∀ (j : Nat) t v, Tryd.f4.params[j]? = some t → args[j]? = some v → Value.okWide Tryd.prog W .any base t v := hval0
  have hW' := hW
  obtain ⟨p, q, hA0, hV, rfl, hfz, hnd⟩ := hW
  have hA : DataW.TrodAll enc Tryd.prog W 0 (fun _ => true) true Tryd.f4.params.toList args.toList ds p := hA0
  rw [Tryd.params4] at hA hval hsz
  obtain ⟨v0, vs0, d0, ds0, p0, q0, hargs, rfl, rfl, h0, r0⟩ := trodAll_cons hA
  obtain ⟨v1, vs1, d1, ds1, p1, q1, rfl, rfl, rfl, h1, r1⟩ := trodAll_cons r0
  obtain ⟨v2, vs2, d2, ds2, p2, q2, rfl, rfl, rfl, h2, r2⟩ := trodAll_cons r1
  obtain ⟨rfl, rfl, rfl⟩ := trodAll_nil r2
  obtain rfl : args = #[v0, v1, v2] := by cases args; simp_all
  obtain ⟨rfl, rfl⟩ := trodVars_none hV
  have k0 := h0
  have lt0 : ∀ x ∈ p0, x.block < W.heap.size := by obtain ⟨m, hm⟩ := k0; exact DataW.trod_lt m _ _ _ hm
  have ft0 := fits_of_sized hsz (j := 0) (t := 26) rfl rfl
  obtain ⟨cs0, rfl, hcz0⟩ : ∃ cs, v0 = .agg cs ∧ cs.size = 6 := by
    have z := (hval 0 26 v0 rfl rfl)
    obtain ⟨cs, h1, h2⟩ := okWide_struct Tryd.underlying26 z
    exact ⟨cs, h1, h2⟩
  obtain ⟨fu0, hf0⟩ := h0
  obtain ⟨x0, hK0, q0⟩ := opens26 _ _ _ _ _ _ _ cs0.toList _ hcz0 hf0 ft0
  obtain ⟨A0_0, c0_0, hco0, hc0_0, hr0_0⟩ := k26_open hK0
  obtain rfl := Array.ext' (show cs0.toList = (Array.toList #[_, _, _, _, _, _]) from hco0)
  obtain ⟨a1, rfl, rfl, rfl, w1⟩ := open_int Tryd.underlying3 (hval 1 3 v1 rfl rfl) h1
  obtain ⟨a2, rfl, rfl, rfl, w2⟩ := open_int Tryd.underlying3 (hval 2 3 v2 rfl rfl) h2
  clear hA0 hval0 hsz0 hsz
  refine (lawSum W A0_0 c0_0 _ _ _ _ _ _ a1 a2 hr0_0 hc0_0 (uses_ok hL) q0.2.1).mono fun e W' ⟨he, bel⟩ => ?_
  subst he
  exact ⟨_, rfl, _, _, _, [], _, [], hW', trodAll_mk1 (shut_bool Tryd.underlying4 _), (trodAll_cons_mk (Below.trod laidOut (by kernel_rfl) (of_decide_eq_true (by kernel_rfl)) k0 bel lt0) (trodAll_cons_mk (shut_int Tryd.underlying3 w1) (trodAll_cons_mk (shut_int Tryd.underlying3 w2) trodAll_mk0))), rfl, bel.frame _, fun h => by cases h⟩
theorem overstepsSum : Rows.StepsSumSaid :=
  OpenClaim.holds_of_cond 4 Tryd.f4 rfl rfl rfl rfl rfl rfl rfl ⟨rfl, rfl, rfl, rfl, rfl⟩ rfl rfl rfl rfl rfl (by kernel_rfl) Tryd.func4 (by kernel_rfl)
    (of_decide_eq_true (by kernel_rfl)) (by unfold Func.isWrapper; first | (rw [if_pos (by decide +kernel)]; kernel_rfl) | (rw [if_neg (by decide +kernel)]; exact ⟨rfl, rfl⟩))
    (fun os started H enc _ F => by rw [OpenClaim.pre_eq_preRow]; exact lifted os started H enc F)
theorem plain_ (f : FuncId) (fn : Func) (hf : Tryd.pinned.checked.prog.funcNamed "harrow/harrowlaw22.StepsSum" = some f) (hfn : Tryd.pinned.checked.prog.funcs[f]? = some fn) :
    false = Tryd.pinned.checked.prog.looks [] ∧ ∀ (j : Nat) t, fn.params[j]? = some t → Tryd.pinned.checked.prog.wantsStandIn t = false := by
  obtain rfl : f = 4 := Option.some.inj ((show Tryd.prog.funcNamed "harrow/harrowlaw22.StepsSum" = some 4 by kernel_rfl).symm.trans hf) |>.symm
  obtain rfl : fn = Tryd.f4 := (Option.some.inj (Tryd.func4.symm.trans hfn)).symm
  refine ⟨by kernel_rfl, fun j t ht => ?_⟩
  rw [Tryd.params4] at ht
  have hm := Array.mem_of_getElem? ht
  simp only [List.mem_toArray, List.mem_cons, List.not_mem_nil, or_false] at hm
  rcases hm with rfl | rfl | rfl
  · exact (show Tryd.prog.wantsStandIn 26 = false by kernel_rfl)
  · exact (show Tryd.prog.wantsStandIn 3 = false by kernel_rfl)
  · exact (show Tryd.prog.wantsStandIn 3 = false by kernel_rfl)
theorem cardstepsSum : Rows.StepsSumCardSaid :=
  Claim7.holds_tied_plain_at .later [] _ _ _ _ overstepsSum (fun _ h => by cases h) (by kernel_rfl) (fun _ h => by cases h) stepsSum_row_tie rfl ⟨rfl, rfl⟩ (by kernel_rfl) rfl plain_ (by kernel_rfl)
end Go.Proofs.YthjlpcecfkboiaaDoor.Z
namespace Go.Proofs.YthjlpcecfkboiaaDoor
/-- The row, under a short name, for the claim. -/
theorem stepsSum_holds : Rows.StepsSumCardSaid := Z.cardstepsSum
#print axioms stepsSum_holds
end Go.Proofs.YthjlpcecfkboiaaDoor
