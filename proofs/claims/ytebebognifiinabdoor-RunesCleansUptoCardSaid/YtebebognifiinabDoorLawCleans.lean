/-
  RunesCleans, walked: it returns true and leaves what was there as it was.
-/
import Derived.Test.YtebebognifiinabDoorPureCleans
import Derived.Laws.StructEq
namespace Go.Proofs.YtebebognifiinabDoor.T
open Go.RowKit Go.Proofs.YtebebognifiinabDoorW.PrintWords Go.Proofs.YtebebognifiinabDoorW.PrintLast Go.Proofs.YtebebognifiinabDoorW.PrintMore
set_option linter.unusedVariables false
set_option linter.unusedSimpArgs false
theorem text_eq {x y : ByteArray} : (x.toList == y.toList) = decide (x = y) := by
  by_cases h : x = y
  · rw [decide_eq_true h, h]; simp
  · rw [decide_eq_false h]; exact text_ne h
set_option maxRecDepth 100000 in
set_option maxHeartbeats 8000000 in
theorem lawCleans (s : ByteArray) (hs : s.size ≤ 1048576) (w : World) (hT : Tabs w) :
    Calls Tryd.prog 3 #[.string s] w fun e w' => e = .returned (.bool true) ∧ Below w.heap.size w w' := by
  have hcs := cleanB_size s
  have cP := fun w hT => hid (points_any s w hT (by omega))
  have cV := fun w hT => hid (valid_any s w hT (by omega))
  have cVC := fun w hT => hid (valid_any (cleanB s) w hT (by omega))
  have cC := fun w => hid (clean_any s w (by omega))
  have cCC := fun w => hid (clean_any (cleanB s) w (by omega))
  rw [valid_clean] at cVC
  rw [clean_clean] at cCC
  have hvi := hid (valid_iff s)
  have hways := hid (points_ways s)
  have hpl := hid (fromPoints_pure (ptsB s).1)
  have HT := hid hT
  clear hT hcs
  have heq : ((cleanB s).toList == s.toList) = validB s := by
    rw [text_eq]
    cases hv : validB s with
    | true => exact decide_eq_true (hvi.out.1 hv)
    | false => exact decide_eq_false (fun h => by rw [hvi.out.2 h] at hv; cases hv)
  clear hvi
  generalize cleanB s = C at *
  generalize hV : validB s = V at *
  generalize hF : ptsB s = F at *
  go_enter Tryd.func3, Tryd.ntmps3
  go_wp2_with (fail)
  refine (harrowlaw03_works.calls 40 true w works_pure).mono ?_
  rintro e w0 ⟨rfl, hB0⟩
  go_wp2_with (fail)
  refine (cC w0).out.mono ?_
  rintro e w1 ⟨rfl, hb1⟩
  have hB1 := hB0.trans (hb1.mono hB0.size)
  go_wp2_with (fail)
  refine (cVC w1 (HT.out.below hB1)).out.mono ?_
  rintro e w2 ⟨rfl, hb2⟩
  have hB2 := hB1.trans (hb2.mono hB1.size)
  go_wp2_with (fail)
  refine (cCC w2).out.mono ?_
  rintro e w3 ⟨rfl, hb3⟩
  have hB3 := hB2.trans (hb3.mono hB2.size)
  go_wp2_with (fail)
  refine (cV w3 (HT.out.below hB3)).out.mono ?_
  rintro e w4 ⟨rfl, hb4⟩
  have hB4 := hB3.trans (hb4.mono hB3.size)
  go_wp2_with (fail)
  refine (cP w4 (HT.out.below hB4)).out.mono ?_
  rintro e w5 ⟨v5, rfl, hown5, hb5⟩
  have hB5 := hB4.trans (hb5.mono hB4.size)
  obtain ⟨av, cv, rfl⟩ := (RowIs.of_owns hown5).form
  rcases hways.out with ⟨h1, rfl⟩ | ⟨h1, rfl, p, rfl⟩ | ⟨h1, rfl, l, rfl, h2⟩
  · go_wp2_with (fail)
    go_ret
    exact ⟨rfl, hB5.alloc hB5.size _⟩
  · have hBa := hB5.alloc hB5.size (.cells #[.int .i64 p, .int .i64 6] 28)
    by_cases hp : p = 0
    · subst hp
      go_wp2_with (fail)
      refine (cV _ (HT.out.below hBa)).out.mono ?_
      rintro e w6 ⟨rfl, hb6⟩
      go_wp2_with (fail)
      go_ret
      exact ⟨rfl, hBa.trans (hb6.mono hBa.size)⟩
    · have hp2 : (p == 0) = false := beq_eq_false_iff_ne.2 hp
      go_wp2_with (fail)
      refine (cV _ (HT.out.below hBa)).out.mono ?_
      rintro e w6 ⟨rfl, hb6⟩
      go_wp2_with (fail)
      go_ret
      exact ⟨rfl, hBa.trans (hb6.mono hBa.size)⟩
  · have hBa := hB5.alloc hB5.size (.cells #[.int .i64 0, .int .i64 0] 28)
    have hza : (w5.alloc (.cells #[.int .i64 0, .int .i64 0] 28)).heap.size = w5.heap.size + 1 := by simp
    have hown6 := hown5.alloc (.cells #[.int .i64 0, .int .i64 0] 28)
    obtain ⟨kp, hkp⟩ := hpl.out
    clear hpl
    simp only at hkp hown5 hown6
    have hH2 := hid h2
    clear h2
    by_cases hl : 4000 < l.length
    · have hl2 : (4000 : Int) < (l.length : Int) := by omega
      go_wp2_with (fail)
      refine (cV _ (HT.out.below hBa)).out.mono ?_
      rintro e w6 ⟨rfl, hb6⟩
      go_wp2_with (fail)
      go_ret
      exact ⟨rfl, hBa.trans (hb6.mono hBa.size)⟩
    · have hl2 : ¬ (4000 : Int) < (l.length : Int) := by omega
      rw [hH2.out (by omega)] at hkp
      have hcap : l.length ≤ cv := by
        rcases hown5.2 with ⟨h, h'⟩ | ⟨g, cap, cur, h, h', h3, h4, h5⟩
        · omega
        · injection h with e1 e2 e3; omega
      go_wp2_with (fail)
      refine (runes_FromPoints.calls kp av cv l s 0 _ (C_of_rowIs (d := Kd.int .i64) (enc := intsC) (fun w x => rfl) (fun _ => rfl) rfl (RowIs.of_owns hown6) (by omega)) hcap hkp).mono ?_
      rintro e w6 ⟨rfl, hb6⟩
      go_wp2_with (fail)
      go_ret
      exact ⟨rfl, hBa.trans (hb6.mono hBa.size)⟩
end Go.Proofs.YtebebognifiinabDoor.T
