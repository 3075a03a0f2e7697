/-
  RunesTexts, walked: it returns true and leaves what was there as it was.
-/
import Derived.Test.YtebebognifiinaaDoorPureTexts
namespace Go.Proofs.YtebebognifiinaaDoor.T
open Go.RowKit Go.Proofs.YtebebognifiinaaDoorW.PrintWords Go.Proofs.YtebebognifiinaaDoorW.PrintLast Go.Proofs.YtebebognifiinaaDoorW.PrintMore
set_option linter.unusedVariables false
set_option linter.unusedSimpArgs false
theorem works_pure : harrowlaw03_works.f 40 = some true := by decide +kernel
theorem ptsFrom_len (s : ByteArray) : ∀ (f pos : Nat) (acc : List Int), acc.length ≤ pos → pos ≤ s.size → (ptsFrom s f pos acc).1.length ≤ s.size
  | 0, pos, acc, h, h2 => by simp only [ptsFrom]; omega
  | f + 1, pos, acc, h, h2 => by
    simp only [ptsFrom]
    split
    · rename_i hp
      split
      · simp
      · rename_i hb
        have := width_pos s pos hp
        obtain ⟨g1, -⟩ := good_fits s pos hp hb
        exact ptsFrom_len s f _ _ (by rw [List.length_append, List.length_singleton]; omega) g1
    · simp only; omega
theorem ptsB_len (s : ByteArray) : (ptsB s).1.length ≤ 65536 := by
  unfold ptsB
  split
  · rename_i h; exact Nat.le_trans (ptsFrom_len s _ _ _ (Nat.le_refl _) (Nat.zero_le _)) h
  · simp
theorem own_apart {u v : Value} {c : Nat} (h : ∀ k, u.ownBlock = some k → c ≤ k) (h2 : ∀ k, v.ownBlock = some k → k < c) : u.ownBlock = none ∨ u.ownBlock ≠ v.ownBlock := by
  cases hu : u.ownBlock with
  | none => exact .inl rfl
  | some k => exact .inr (fun e => by have h3 := h k hu; have h4 := h2 k e.symm; omega)
theorem drawn_below {w w' : World} (h : Drawn0 w w') : Below w.heap.size w w' := by
  obtain ⟨n, rfl⟩ := h; exact below_drewN' (Below.refl _ _) n
set_option maxRecDepth 100000 in
set_option maxHeartbeats 8000000 in
theorem lawTexts (s : ByteArray) (hs : s.size ≤ 35184372088831) (w : World) (hT : Tabs w) :
    Calls Tryd.prog 4 #[.string s] w fun e w' => e = .returned (.bool true) ∧ Below w.heap.size w w' := by
  obtain ⟨kp, hkp⟩ := refPoints_pure s
  obtain ⟨kv, hkv⟩ := refValid_pure s (by omega)
  obtain ⟨kc, hkc⟩ := refClean_pure s hs
  have hlen := ptsB_len s
  have cP := fun w hT => hid (points_any s w hT (by omega))
  have cV := fun w hT => hid (valid_any s w hT (by omega))
  have cC := fun w => hid (clean_any s w hs)
  have HT := hid hT
  clear hT
  generalize hF : ptsB s = F at *
  generalize validB s = V at *
  generalize cleanB s = C at *
  obtain ⟨out, at_, er⟩ := F
  simp only at hlen cP
  go_enter Tryd.func4, Tryd.ntmps4
  go_wp2_with (fail)
  refine (harrowlaw03_names.calls true w rfl).mono ?_
  rintro e w0 ⟨rfl, hd0⟩
  have hB0 := drawn_below hd0
  go_wp2_with (fail)
  refine (cP w0 (HT.out.below hB0)).out.mono ?_
  rintro e w1 ⟨v1, rfl, hown1, hb1⟩
  have hB1 := hB0.trans (hb1.mono hB0.size)
  go_wp2_with (fail)
  have hBa := hB1.alloc hB1.size (.cells #[.int .i64 at_, .int .i64 er] 40)
  have hA := alloc_new w1 (.cells #[.int .i64 at_, .int .i64 er] 40)
  have hown1a := hown1.alloc (.cells #[.int .i64 at_, .int .i64 er] 40)
  have hza : (w1.alloc (.cells #[.int .i64 at_, .int .i64 er] 40)).heap.size = w1.heap.size + 1 := by simp
  generalize hwa : w1.alloc (.cells #[.int .i64 at_, .int .i64 er] 40) = wa at *
  refine (cP wa (HT.out.below hBa)).out.mono ?_
  rintro e w2 ⟨v2, rfl, hown2, hb2⟩
  have hB2 := hBa.trans (hb2.mono hBa.size)
  go_wp2_with (fail)
  have hBc := hB2.alloc hB2.size (.cells #[.int .i64 at_, .int .i64 er] 40)
  have hA2 := (hb2.block w1.heap.size (by omega)).trans hA
  have hAc := alloc_old (y := (.cells #[.int .i64 at_, .int .i64 er] 40)) hA2
  have hown1c := (own_below hown1a hb2).alloc (.cells #[.int .i64 at_, .int .i64 er] 40)
  have hown2c := hown2.alloc (.cells #[.int .i64 at_, .int .i64 er] 40)
  have hzc : (w2.alloc (.cells #[.int .i64 at_, .int .i64 er] 40)).heap.size = w2.heap.size + 1 := by simp
  generalize hwc : w2.alloc (.cells #[.int .i64 at_, .int .i64 er] 40) = wc at *
  refine (harrowref03_Points.calls kp s out at_ er wc hkp).mono ?_
  rintro e w3 ⟨v3, rfl, hR3, hb3⟩
  have hown3 := owns_of_R (d := Kd.int .i64) (enc := intsC) (fun _ => rfl) (fun _ _ _ _ _ h => h) hR3
  have hB3 := hBc.trans (hb3.mono hBc.size)
  have hA3 := (hb3.block w1.heap.size (block_lt hAc)).trans hAc
  have hown13 := own_below hown1c hb3
  have hown23 := own_below hown2c hb3
  go_wp2_with (fail)
  refine (sameInts_yes out (by omega) v1 v3 w3 (RowIs.of_owns hown13) (RowIs.of_owns hown3)).mono ?_
  rintro e w4 ⟨rfl, hb4⟩
  have hB4 := hB3.trans (hb4.mono hB3.size)
  have hA4 := (hb4.block w1.heap.size (block_lt hA3)).trans hA3
  have hown14 := own_below hown13 hb4
  have hown24 := own_below hown23 hb4
  have hown34 := own_below hown3 hb4
  have hcA := block_cell hA4
  go_wp2_with (fail)
  refine (cV w4 (HT.out.below hB4)).out.mono ?_
  rintro e w5 ⟨rfl, hb5⟩
  have hB5 := hB4.trans (hb5.mono hB4.size)
  go_wp2_with (fail)
  refine (harrowref03_Valid.calls kv s V w5 hkv).mono ?_
  rintro e w6 ⟨rfl, hb6⟩
  have hB6 := hB5.trans (hb6.mono hB5.size)
  go_wp2_with (fail)
  refine (cC w6).out.mono ?_
  rintro e w7 ⟨rfl, hb7⟩
  have hB7 := hB6.trans (hb7.mono hB6.size)
  go_wp2_with (fail)
  refine (harrowref03_Clean.calls kc s C w7 hkc).mono ?_
  rintro e w8 ⟨rfl, hb8⟩
  have hB8 := hB7.trans (hb8.mono hB7.size)
  have hown18 := own_below (own_below (own_below (own_below hown14 hb5) hb6) hb7) hb8
  have hown28 := own_below (own_below (own_below (own_below hown24 hb5) hb6) hb7) hb8
  have hown38 := own_below (own_below (own_below (own_below hown34 hb5) hb6) hb7) hb8
  have z1 := hb1.size
  have z2 := hb2.size
  have z3 := hb3.size
  have z4 := hb4.size
  have z5 := hb5.size
  have z6 := hb6.size
  have z7 := hb7.size
  have z8 := hb8.size
  go_wp2_with (fail)
  refine (spoilInts_any out.length (by omega) w0.heap.size v1 _ (-7) w8 hown18 (by omega)).mono ?_
  rintro e w9 ⟨rfl, hg9⟩
  have hown29 := hown28.kept hg9 (own_apart (fun k e => own_block_ge hown2 k e) (fun k e => by have := (hown1.lt k e).2; omega))
  have hown39 := hown38.kept hg9 (own_apart (fun k e => own_block_ge hown3 k e) (fun k e => by have := (hown1.lt k e).2; omega))
  have hB9 := hB8.grown hg9 hB8.size (fun b e => by have := own_block_ge hown1 b e; have := hB0.size; omega)
  go_wp2_with (fail)
  refine (sameInts_yes out (by omega) v2 v3 w9 (RowIs.of_owns hown29) (RowIs.of_owns hown39)).mono ?_
  rintro e w10 ⟨rfl, hb10⟩
  have hB10 := hB9.trans (hb10.mono hB9.size)
  go_wp2_with (fail)
  refine (harrowlaw03_works.calls 40 true w10 works_pure).mono ?_
  rintro e w11 ⟨rfl, hb11⟩
  have hB11 := hB10.trans (hb11.mono hB10.size)
  go_wp2_with (fail)
  go_ret
  exact ⟨rfl, hB11⟩
end Go.Proofs.YtebebognifiinaaDoor.T
