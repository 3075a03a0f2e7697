/-
  CaptureForests, walked: it returns true and leaves what was there as it was.
-/
import Derived.Test.YtebebognifiinaaPureForests
import Derived.Test.YtebebognifiinaaBookNotes
namespace Go.Proofs.Ytebebognifiinaa.Q
open Go.RowKit Go.Proofs.YtebebognifiinaaW.PrintWords Go.Proofs.YtebebognifiinaaW.PrintLast Go.Proofs.YtebebognifiinaaW.PrintMore
set_option linter.unusedVariables false
set_option linter.unusedSimpArgs false
theorem works_pure : harrowlaw23_works.f 9 = some true := by decide +kernel
def encN (x : SN) : List Value := [.int .i64 x.f0, .int .i64 x.f1, .int .i64 x.f2, .int .i64 x.f3, .int .i64 x.f4, .string x.f5]
def encC (x : SC) : List Value := [.int .i64 x.f0, .int .i64 x.f1, .int .i64 x.f2, .int .i64 x.f3, .int .i64 x.f4, .string x.f5]
theorem drawn_below {w w' : World} (h : Drawn0 w w') : Below w.heap.size w w' := by
  obtain ⟨n, rfl⟩ := h; exact below_drewN' (Below.refl _ _) n
theorem _root_.Go.Proofs.Ytebebognifiinaa.Lent.lt {w : World} {base : Nat} {v : Value} {size n : Nat} {xs y : List Value} (h : Lent w base v size n xs y) : ∀ b, v.ownBlock = some b → b < w.heap.size := by
  obtain ⟨h1, h2, g, cap, rfl, h3, h4, h5, h6⟩ := h
  intro b e
  have e' : g = b := by simpa [Value.ownBlock] using e
  omega
theorem _root_.Go.Proofs.Ytebebognifiinaa.Lent.grown {w w' : World} {base : Nat} {v : Value} {size n : Nat} {xs y : List Value} {row : Option Nat} (h : Lent w base v size n xs y) (hg : w.grownBy w' row) (hne : ∀ b, v.ownBlock = some b → some b ≠ row) : Lent w' base v size n xs y := by
  obtain ⟨h1, h2, g, cap, rfl, h3, h4, h5, h6⟩ := h
  refine ⟨h1, h2, g, cap, rfl, h3, h4, Nat.lt_of_lt_of_le h5 hg.size, fun j hj => ?_⟩
  rw [← h6 j hj, World.cell?, World.cell?, hg.block g h5 (hne g rfl)]
theorem own_apart {u v : Value} {c : Nat} (h : ∀ k, u.ownBlock = some k → c ≤ k) (h2 : ∀ k, v.ownBlock = some k → k < c) : u.ownBlock = none ∨ u.ownBlock ≠ v.ownBlock := by
  cases hu : u.ownBlock with
  | none => exact .inl rfl
  | some k => exact .inr (fun e => by have h3 := h k hu; have h4 := h2 k e.symm; omega)
theorem endF_len {b : Bool} {l : List Note} {out : List Cap} (h : endF b l = some out) : out.length ≤ l.length := by
  unfold endF at h
  split at h
  · rename_i o p hf
    cases h
    have := (FOk.fold l _ 0 FOk.start hf).len
    simpa using this
  · cases h
set_option maxRecDepth 100000 in
set_option maxHeartbeats 8000000 in
theorem lawForests (l : List SN) (hl : (l.length + 1) * 56 ≤ 140737488355328) (ao : Option Addr) (c : Nat) (hlc : l.length ≤ c) (w : World) (hv : RowIs w (.slice ao l.length c) 6 l.length (l.flatMap encN)) :
    Calls Try.prog 3 #[.slice ao l.length c] w fun e w' => e = .returned (.bool true) ∧ Below w.heap.size w w' := by
  have hvn : RowIs w (.slice ao l.length c) 6 (l.map noteOf).length ((l.map noteOf).flatMap notesC) := by rw [List.length_map, List.flatMap_map]; exact hv
  have hln : (l.map noteOf).length = l.length := List.length_map _
  obtain ⟨kr, hkr⟩ := refForest_pure l
  have hlo : (forestL (l.map noteOf)).1.length ≤ 1048576 := by
    unfold forestL
    split
    · rename_i hsm
      cases he : endF true (l.map noteOf) with
      | none => simp
      | some out => exact Nat.le_trans (endF_len he) hsm
    · simp
  generalize hn : l.map noteOf = ln at *
  generalize hF : forestL ln = F at *
  obtain ⟨out, er⟩ := F
  simp only at hlo hkr
  go_enter Try.func3, Try.ntmps3
  go_wp2_with (fail)
  refine (lendNotes_any ln (by omega) _ w hvn).mono ?_
  rintro e w1 ⟨v1, rfl, hlent1, hb1⟩
  go_wp2_with (fail)
  refine (forest_any ln v1 w1 hlent1.row (by omega)).mono ?_
  rintro e w2 ⟨v2, rfl, hown2, hb2⟩
  rw [hF] at hown2
  rw [hF]
  simp only at hown2
  go_wp2_with (fail)
  have hlent2 := hlent1.below hb2
  refine (forest_any ln v1 w2 hlent2.row (by omega)).mono ?_
  rintro e w3 ⟨v3, rfl, hown3, hb3⟩
  rw [hF] at hown3
  rw [hF]
  simp only at hown3
  go_wp2_with (fail)
  have hlent3 := hlent2.below hb3
  have hB3 := (hb1.trans (hb2.mono hb1.size)).trans (hb3.mono (hb1.trans (hb2.mono hb1.size)).size)
  have hv3 := hv.below hB3
  refine (harrowref23_Forest.calls kr ao c l (out.map capOf) er w3 (C_of_rowIs (enc := encN) (fun w x => k68_mk w x) (fun _ => rfl) rfl hv3 (by omega)) hlc hkr).mono ?_
  rintro e w4 ⟨v4, rfl, hR4, hb4⟩
  have hown4 := owns_of_R (enc := encC) (fun _ => rfl) (fun _ _ _ _ _ h => k39_openM h) hR4
  rw [List.length_map, List.flatMap_map] at hown4
  replace hown4 : w4.ownsRow w3.heap.size 39 6 v4 out.length (out.flatMap capsC) := hown4
  have hlent4 := hlent3.below hb4
  have hown24 := own_below (own_below hown2 hb3) hb4
  have hown34 := own_below hown3 hb4
  have hB4 := hB3.trans (hb4.mono hB3.size)
  go_wp2_with (fail)
  refine (sameCaps_yes out (by omega) v2 v4 w4 (RowIs.of_owns hown24) (RowIs.of_owns hown4)).mono ?_
  rintro e w5 ⟨rfl, hb5⟩
  have hlent5 := hlent4.below hb5
  have hown25 := own_below hown24 hb5
  have hown35 := own_below hown34 hb5
  have hown45 := own_below hown4 hb5
  have hB5 := hB4.trans (hb5.mono hB4.size)
  go_wp2_with (fail)
  refine (spoilCaps_any out.length (by omega) w1.heap.size v2 _ (-7) w5 hown25 (by have := hB5.size; have := hb1.size; have := hb2.size; have := hb3.size; have := hb4.size; have := hb5.size; omega)).mono ?_
  rintro e w6 ⟨rfl, hg6⟩
  have z1 := hb1.size
  have z2 := hb2.size
  have z3 := hb3.size
  have z4 := hb4.size
  have z5 := hb5.size
  have hlent6 := hlent5.grown hg6 (fun b e1 e2 => by have h1 := hlent1.lt b e1; have h2 := own_block_ge hown2 b e2.symm; omega)
  have hown36 := hown35.kept hg6 (own_apart (fun k e => own_block_ge hown3 k e) (fun k e => (hown2.lt k e).2))
  have hown46 := hown45.kept hg6 (own_apart (fun k e => own_block_ge hown4 k e) (fun k e => Nat.lt_of_lt_of_le (hown2.lt k e).2 z3))
  have hB6 := hB5.grown hg6 hB5.size (fun b e => by have := own_block_ge hown2 b e; omega)
  have z6 := hg6.size
  go_wp2_with (fail)
  refine (sameCaps_yes out (by omega) v3 v4 w6 (RowIs.of_owns hown36) (RowIs.of_owns hown46)).mono ?_
  rintro e w7 ⟨rfl, hb7⟩
  have hB7 := hB6.trans (hb7.mono hB6.size)
  have hlent7 := hlent6.below hb7
  go_wp2_with (fail)
  refine (keptNotes_yes ln (by omega) _ v1 _ w7 hlent7 (hvn.below hB7)).mono ?_
  rintro e w8 ⟨rfl, hb8⟩
  have hB8 := hB7.trans (hb8.mono hB7.size)
  go_wp2_with (fail)
  refine (harrowlaw23_works.calls 9 true w8 works_pure).mono ?_
  rintro e w9 ⟨rfl, hb9⟩
  have hB9 := hB8.trans (hb9.mono hB8.size)
  go_wp2_with (fail)
  go_ret
  exact ⟨rfl, hB9⟩
end Go.Proofs.Ytebebognifiinaa.Q
