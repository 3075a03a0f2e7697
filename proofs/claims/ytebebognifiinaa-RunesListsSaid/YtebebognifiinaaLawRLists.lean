/-
  RunesLists, walked: it returns true and leaves what was there as it was.
-/
import Derived.Test.YtebebognifiinaaPureLists
import Derived.Test.YtebebognifiinaaBookInts
namespace Go.Proofs.Ytebebognifiinaa.R
open Go.RowKit Go.Proofs.YtebebognifiinaaW.PrintWords Go.Proofs.YtebebognifiinaaW.PrintLast Go.Proofs.YtebebognifiinaaW.PrintMore
set_option linter.unusedVariables false
set_option linter.unusedSimpArgs false
set_option maxRecDepth 100000 in
set_option maxHeartbeats 8000000 in
theorem lawLists (l : List Int) (hl : (l.length + 1) * 8 ≤ 140737488355328) (ao : Option Addr) (c : Nat) (hlc : l.length ≤ c) (w : World) (hv : RowIs w (.slice ao l.length c) 1 l.length (l.flatMap intsC)) :
    Calls Try.prog 5 #[.slice ao l.length c] w fun e w' => e = .returned (.bool true) ∧ Below w.heap.size w w' := by
  obtain ⟨kp, hkp⟩ := fromPoints_pure l
  obtain ⟨kr, hkr⟩ := refFromPoints_pure l
  generalize hF : fpL l = F at *
  obtain ⟨s, er⟩ := F
  go_enter Try.func5, Try.ntmps5
  go_wp2_with (fail)
  refine (lendInts_any l hl _ w hv).mono ?_
  rintro e w1 ⟨v1, rfl, hlent1, hb1⟩
  obtain ⟨a1, c1, rfl⟩ := hlent1.row.form
  have hc1 : l.length ≤ c1 := by
    obtain ⟨h1, h2, g, cap, he, h3, h4, h5, h6⟩ := hlent1
    injection he with e1 e2 e3
    omega
  go_wp2_with (fail)
  refine (runes_FromPoints.calls kp a1 c1 l s er w1 (C_of_rowIs (d := Kd.int .i64) (enc := intsC) (fun w x => rfl) (fun _ => rfl) rfl hlent1.row (by omega)) hc1 hkp).mono ?_
  rintro e w2 ⟨rfl, hb2⟩
  have hB2 := hb1.trans (hb2.mono hb1.size)
  go_wp2_with (fail)
  refine (harrowref03_FromPoints.calls kr ao c l s er w2 (C_of_rowIs (d := Kd.int .i64) (enc := intsC) (fun w x => rfl) (fun _ => rfl) rfl (hv.below hB2) (by omega)) hlc hkr).mono ?_
  rintro e w3 ⟨rfl, hb3⟩
  have hB3 := hB2.trans (hb3.mono hB2.size)
  have hlent3 := (hlent1.below hb2).below hb3
  go_wp2_with (fail)
  refine (keptInts_yes l (by omega) _ _ _ w3 hlent3 (hv.below hB3)).mono ?_
  rintro e w4 ⟨rfl, hb4⟩
  have hB4 := hB3.trans (hb4.mono hB3.size)
  go_wp2_with (fail)
  refine (harrowlaw03_works.calls 40 true w4 works_pure).mono ?_
  rintro e w5 ⟨rfl, hb5⟩
  have hB5 := hB4.trans (hb5.mono hB4.size)
  go_wp2_with (fail)
  go_ret
  exact ⟨rfl, hB5⟩
end Go.Proofs.Ytebebognifiinaa.R
