/-
  harrowlaw22.StepsBack tells true of every state and every text where these are of bulk at most 1048576: what was saved is loaded, and what was loaded is saved as the same bytes; the table harrow/instr.uses is as its initialiser lays it.
-/
import Derived.Test.YthjlpcecfkboiabDoorRows
import Derived.Test.YthjlpcecfkboiabDoorCards
import Derived.Test.YthjlpcecfkboiabDoorTie
import Derived.Test.YthjlpcecfkboiabDoorOpens
import Derived.Test.YthjlpcecfkboiabDoorOpensB
import Derived.Test.YthjlpcecfkboiabDoorUsesTab
import Derived.Test.YthjlpcecfkboiabDoorLawSBack
import Derived.Test.YthjlpcecfkboiabDoorStRec
import Derived.WalkKit
import Derived.ProofKit
import Derived.OpenShut
import Derived.ShutString
import Derived.ChangeOld
import Derived.Below
import Derived.SizedLaws
import Derived.LaidMore
import Derived.Lay
import Derived.SevenTiedAt
import Derived.Stop.Joined
import Derived.Deep.DeepHandedRow
import Derived.JoinedCond
namespace Go.Proofs.YthjlpcecfkboiabDoor.Z
open Go.ChangeShapes Go.WideShapes Go.ChangeAt Go.RowKit Go.Proofs.YthjlpcecfkboiabDoorW.PrintWords
open Go.ChangeMaps (open_string shut_string)
set_option linter.unusedVariables false
def Q56 : S56 → Prop := fun x : S56 => (fun _ => True) x.f0 ∧ (fun x => (Lit.int .i64 x).wf = true) x.f1 ∧ (fun x => (Lit.int .i64 x).wf = true) x.f2 ∧ (fun x => (Lit.int .i64 x).wf = true) x.f3
def M56 : S56 → Nat := fun x => (fun _ => 1) x.f0 + ((fun _ => 1) x.f1 + ((fun _ => 1) x.f2 + ((fun _ => 1) x.f3)))
theorem opens56 : OpensB Tryd.prog 56 k56 Q56 M56 := by
  refine opensB_iso (g := fun p => ⟨p.1, p.2.1, p.2.2.1, p.2.2.2⟩) (fun _ => rfl) (fun _ h => h) (fun _ => rfl) ?_
  exact opensB_struct Tryd.underlying56 (by kernel_rfl) (by kernel_rfl) (opensLB_cons (by kernel_rfl) (opensB_bool Tryd.underlying4) (opensLB_cons (by kernel_rfl) (opensB_int Tryd.underlying3) (opensLB_cons (by kernel_rfl) (opensB_int Tryd.underlying3) (opensLB_one (by kernel_rfl) (opensB_int Tryd.underlying3)))))
def Q59 : S59 → Prop := fun x : S59 => (fun x => (Lit.int .i64 x).wf = true) x.f0 ∧ (fun x => (Lit.int .i64 x).wf = true) x.f1 ∧ (fun x => (Lit.int .i64 x).wf = true) x.f2 ∧ (fun x => (Lit.int .i64 x).wf = true) x.f3 ∧ (fun x => (Lit.int .i64 x).wf = true) x.f4 ∧ (fun x => x.size ≤ 140737488351232) x.f5
def M59 : S59 → Nat := fun x => (fun _ => 1) x.f0 + ((fun _ => 1) x.f1 + ((fun _ => 1) x.f2 + ((fun _ => 1) x.f3 + ((fun _ => 1) x.f4 + ((fun x => x.size + 1) x.f5)))))
theorem opens59 : OpensB Tryd.prog 59 k59 Q59 M59 := by
  refine opensB_iso (g := fun p => ⟨p.1, p.2.1, p.2.2.1, p.2.2.2.1, p.2.2.2.2.1, p.2.2.2.2.2⟩) (fun _ => rfl) (fun _ h => h) (fun _ => rfl) ?_
  exact opensB_struct Tryd.underlying59 (by kernel_rfl) (by kernel_rfl) (opensLB_cons (by kernel_rfl) (opensB_int Tryd.underlying3) (opensLB_cons (by kernel_rfl) (opensB_int Tryd.underlying3) (opensLB_cons (by kernel_rfl) (opensB_int Tryd.underlying3) (opensLB_cons (by kernel_rfl) (opensB_int Tryd.underlying3) (opensLB_cons (by kernel_rfl) (opensB_int Tryd.underlying3) (opensLB_one (by kernel_rfl) (opensB_string Tryd.underlying9)))))))
def Q25 : S25 → Prop := fun x : S25 => (fun x => (Lit.int .i64 x).wf = true) x.f0 ∧ (fun x => (Lit.int .i64 x).wf = true) x.f1 ∧ (fun x => (Lit.int .i64 x).wf = true) x.f2 ∧ (fun x => (Lit.int .i64 x).wf = true) x.f3 ∧ (fun l => l.length * 32 ≤ 140737488351232 ∧ ∀ x ∈ l, Q56 x) x.f4 ∧ (fun l => l.length * 56 ≤ 140737488351232 ∧ ∀ x ∈ l, Q59 x) x.f5
def M25 : S25 → Nat := fun x => (fun _ => 1) x.f0 + ((fun _ => 1) x.f1 + ((fun _ => 1) x.f2 + ((fun _ => 1) x.f3 + ((fun l => (l.map M56).sum) x.f4 + ((fun l => (l.map M59).sum) x.f5)))))
theorem opens25 : OpensB Tryd.prog 25 k25 Q25 M25 := by
  refine opensB_iso (g := fun p => ⟨p.1, p.2.1, p.2.2.1, p.2.2.2.1, p.2.2.2.2.1, p.2.2.2.2.2⟩) (fun _ => rfl) (fun _ h => h) (fun _ => rfl) ?_
  exact opensB_struct Tryd.underlying25 (by kernel_rfl) (by kernel_rfl) (opensLB_cons (by kernel_rfl) (opensB_int Tryd.underlying3) (opensLB_cons (by kernel_rfl) (opensB_int Tryd.underlying3) (opensLB_cons (by kernel_rfl) (opensB_int Tryd.underlying3) (opensLB_cons (by kernel_rfl) (opensB_int Tryd.underlying3) (opensLB_cons (by kernel_rfl) (opensB_slice (B := 32) Tryd.underlying22 (by kernel_rfl) (by kernel_rfl) opens56) (opensLB_one (by kernel_rfl) (opensB_slice (B := 56) Tryd.underlying23 (by kernel_rfl) (by kernel_rfl) opens59)))))))
theorem fits_of_sized {H : Type} {P : Program} {ts : List TypeId} {ds : List (DataW H)} (h : (DataW.weightsEach P ts ds).all (· ≤ reachBytes) = true) {j : Nat} {t : TypeId} {d : DataW H} (ht : ts[j]? = some t) (hd : ds[j]? = some d) : Fits P t d := by
  intro n hn
  have := List.all_eq_true.1 h _ (DataW.weights_mem_each ht hd n hn)
  rw [show reachBytes = 140737488351232 by decide] at this
  simpa using this
theorem own : ownKnob Tryd.prog.godebug = none := by kernel_rfl
theorem laidOut : laidOutB Tryd.prog = true := by kernel_rfl
noncomputable def laidW (os : Os) : World := World.laidAll Tryd.prog os usesLaid
theorem reads (os : Os) {H : Type} (enc : TypeId × Value → H) : ∃ ds places, DataW.whole enc Tryd.prog ((laidW os).forCall (fun _ _ => 0) ⟨#[], #[.agg #[(.int .i64 0), (.int .i64 0), (.int .i64 0), (.int .i64 0), (.slice none 0 0), (.slice none 0 0)], .string ByteArray.empty], []⟩).memory Tryd.f3.params.toList Rows.stepsBackSpec.vars false (#[.agg #[(.int .i64 0), (.int .i64 0), (.int .i64 0), (.int .i64 0), (.slice none 0 0), (.slice none 0 0)], .string ByteArray.empty] : Array Value).toList 8 = some (ds, [], places) ∧ (∀ k, (Rows.OpenSpec.upto Rows.stepsBackSpec).cond = some k → k H (ds ++ []) = true) :=
  ⟨[.agg [.lit (.int .i64 0), .lit (.int .i64 0), .lit (.int .i64 0), .lit (.int .i64 0), .nil, .nil], .lit (.string [])], [], by kernel_rfl, fun k hk => by first | (cases hk; kernel_rfl) | cases hk⟩
set_option maxRecDepth 100000 in
theorem lifted (os : Os) (started : os.Started) (H : Type) (enc : TypeId × Value → H) (F : Stop.Interp) :
    ReturnsInHanded {} Tryd.checked os 3 .any ((Rows.OpenSpec.upto Rows.stepsBackSpec).preRow enc Tryd.prog Tryd.f3 Rows.stepsBackUptoRow.domain false Rows.stepsBackUptoRow.laid) (((Rows.OpenSpec.upto Rows.stepsBackSpec).at F).post enc Tryd.prog Tryd.f3 false true false false) := by
  obtain ⟨ds0, places, hx, hk0⟩ := reads os enc
  refine returnsInHanded_of_row (C := Tryd.checked) (s := (Rows.OpenSpec.upto Rows.stepsBackSpec)) own started (by kernel_rfl) Tryd.func3
    (witness_row_at (enc := enc) (C := Tryd.checked) false (laidW os) #[.agg #[(.int .i64 0), (.int .i64 0), (.int .i64 0), (.int .i64 0), (.slice none 0 0), (.slice none 0 0)], .string ByteArray.empty] (World.laidAll_os _ _ _) (by kernel_rfl) (by kernel_rfl) (by kernel_rfl)
      (OpenSpec.preRow_of_cond 8 hx (by kernel_rfl) hk0 (by kernel_rfl) (laidMet_laidAll _ (by kernel_rfl) (by kernel_rfl)))) ?_
  intro W base args ds gs before hval0 hW _ hcond hsz0 hL _ _
  have hsz : (DataW.weightsEach Tryd.prog (Tryd.f3.params.toList ++ Rows.stepsBackSpec.plain.varTypes Tryd.prog) (ds ++ gs)).all (· ≤ reachBytes) = true := hsz0
  have hval : ∀ (j : Nat) t v, Tryd.f3.params[j]? = some t → args[j]? = some v → Value.okWide Tryd.prog W .any base t v := hval0
  have hW' := hW
  obtain ⟨p, q, hA0, hV, rfl, hfz, hnd⟩ := hW
  have hA : DataW.TrodAll enc Tryd.prog W 0 (fun _ => true) true Tryd.f3.params.toList args.toList ds p := hA0
  rw [Tryd.params3] at hA hval hsz
  obtain ⟨v0, vs0, d0, ds0, p0, q0, hargs, rfl, rfl, h0, r0⟩ := trodAll_cons hA
  obtain ⟨v1, vs1, d1, ds1, p1, q1, rfl, rfl, rfl, h1, r1⟩ := trodAll_cons r0
  obtain ⟨rfl, rfl, rfl⟩ := trodAll_nil r1
  obtain rfl : args = #[v0, v1] := by cases args; simp_all
  obtain ⟨rfl, rfl⟩ := trodVars_none hV
  have k0 := h0
  have lt0 : ∀ x ∈ p0, x.block < W.heap.size := by obtain ⟨m, hm⟩ := k0; exact DataW.trod_lt m _ _ _ hm
  have ft0 := fits_of_sized hsz (j := 0) (t := 25) rfl rfl
  obtain ⟨cs0, rfl, hcz0⟩ : ∃ cs, v0 = .agg cs ∧ cs.size = 6 := by
    have z := (hval 0 25 v0 rfl rfl)
    obtain ⟨cs, h1, h2⟩ := okWide_struct Tryd.underlying25 z
    exact ⟨cs, h1, h2⟩
  obtain ⟨fu0, hf0⟩ := h0
  obtain ⟨x0, hK0, q0, m0⟩ := opens25 _ _ _ _ _ _ _ cs0.toList _ hcz0 hf0 ft0
  obtain ⟨A0_4, c0_4, A0_5, c0_5, hco0, hc0_4, hr0_4, hc0_5, hr0_5⟩ := k25_open hK0
  obtain rfl := Array.ext' (show cs0.toList = (Array.toList #[_, _, _, _, _, _]) from hco0)
  obtain ⟨a1, rfl, rfl, rfl, y1⟩ := open_string Tryd.underlying9 (hval 1 9 v1 rfl rfl) h1
  have w1 : a1.size ≤ 140737488351232 := by
    have z := sized_string hsz (j := 1) (t := 9) rfl rfl
    rw [Array.length_toList] at z
    exact z
  clear hA0 hval0 hsz0 hsz
  refine (lawSBack W _ _ a1 (stv_of hr0_4 hc0_4 hr0_5 hc0_5) (uses_ok hL) (len_bound _ _ _ _ _ _ M56 M59 (fun _ => rfl) (fun n => by show 1 + (1 + (1 + (1 + (1 + (n.f5.size + 1))))) = 6 + n.f5.size; omega) (by have h1 : 1 + (1 + (1 + (1 + ((x0.f4.map M56).sum + (x0.f5.map M59).sum)))) ≤ Rows.uptoBulk d0 := m0; have h2 := bulk_two (hcond _ rfl); omega))).mono fun e W' ⟨he, bel⟩ => ?_
  subst he
  exact ⟨_, rfl, _, _, _, [], _, [], hW', trodAll_mk1 (shut_bool Tryd.underlying4 _), (trodAll_cons_mk (Below.trod laidOut (by kernel_rfl) (of_decide_eq_true (by kernel_rfl)) k0 bel lt0) (trodAll_cons_mk (shut_string Tryd.underlying9 y1) trodAll_mk0)), rfl, bel.frame _, fun h => by cases h⟩
theorem overstepsBack : Rows.StepsBackUptoSaid :=
  OpenClaim.holds_of_cond 3 Tryd.f3 rfl rfl rfl rfl rfl rfl rfl ⟨rfl, rfl, rfl, rfl, rfl⟩ rfl rfl rfl rfl rfl (by kernel_rfl) Tryd.func3 (by kernel_rfl)
    (of_decide_eq_true (by kernel_rfl)) (by unfold Func.isWrapper; first | (rw [if_pos (by decide +kernel)]; kernel_rfl) | (rw [if_neg (by decide +kernel)]; exact ⟨rfl, rfl⟩))
    (fun os started H enc _ F => by rw [OpenClaim.pre_eq_preRow]; exact lifted os started H enc F)
theorem plain_ (f : FuncId) (fn : Func) (hf : Tryd.pinned.checked.prog.funcNamed "harrow/harrowlaw22.StepsBack" = some f) (hfn : Tryd.pinned.checked.prog.funcs[f]? = some fn) :
    false = Tryd.pinned.checked.prog.looks [] ∧ ∀ (j : Nat) t, fn.params[j]? = some t → Tryd.pinned.checked.prog.wantsStandIn t = false := by
  obtain rfl : f = 3 := Option.some.inj ((show Tryd.prog.funcNamed "harrow/harrowlaw22.StepsBack" = some 3 by kernel_rfl).symm.trans hf) |>.symm
  obtain rfl : fn = Tryd.f3 := (Option.some.inj (Tryd.func3.symm.trans hfn)).symm
  refine ⟨by kernel_rfl, fun j t ht => ?_⟩
  rw [Tryd.params3] at ht
  have hm := Array.mem_of_getElem? ht
  simp only [List.mem_toArray, List.mem_cons, List.not_mem_nil, or_false] at hm
  rcases hm with rfl | rfl
  · exact (show Tryd.prog.wantsStandIn 25 = false by kernel_rfl)
  · exact (show Tryd.prog.wantsStandIn 9 = false by kernel_rfl)
theorem cardstepsBack : Rows.StepsBackUptoCardSaid :=
  Claim7.holds_tied_plain_at .later [] _ _ _ _ overstepsBack (fun _ h => by cases h) (by kernel_rfl) (fun _ h => by cases h) stepsBackUpto_row_tie rfl ⟨rfl, rfl⟩ (by kernel_rfl) rfl plain_ (by kernel_rfl)
end Go.Proofs.YthjlpcecfkboiabDoor.Z
namespace Go.Proofs.YthjlpcecfkboiabDoor
/-- The row, under a short name, for the claim. -/
theorem stepsBack_holds : Rows.StepsBackUptoCardSaid := Z.cardstepsBack
#print axioms stepsBack_holds
end Go.Proofs.YthjlpcecfkboiabDoor
