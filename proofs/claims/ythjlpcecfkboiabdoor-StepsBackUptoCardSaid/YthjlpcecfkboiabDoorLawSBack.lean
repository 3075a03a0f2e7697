/-
  The law StepsBack, walked: what was saved is loaded; what was loaded is saved as the same bytes.
-/
import Derived.Test.YthjlpcecfkboiabDoorBackP
import Derived.Test.YthjlpcecfkboiabDoorLoad
import Derived.Test.YthjlpcecfkboiabDoorSave
import Derived.Test.YthjlpcecfkboiabDoorStSame
import Derived.Test.YthjlpcecfkboiabDoorLives
import Derived.WalkKit
namespace Go.Proofs.YthjlpcecfkboiabDoor
open Go.RowKit Go.Proofs.YthjlpcecfkboiabDoorW.PrintWords Go.Proofs.YthjlpcecfkboiabDoor.Z
set_option linter.unusedVariables false
set_option linter.unusedSimpArgs false
theorem StV.of_own {w : World} {B : Nat} {x : MSt} {v : Value} (h : MstOwn w B x v) : StV w x v := by
  obtain ⟨sv, lv, rfl, o1, o2⟩ := h
  have r1 := RowIs.of_owns o1
  have r2 := RowIs.of_owns o2
  obtain ⟨B1, d1, rfl⟩ := r1.form
  obtain ⟨B2, d2, rfl⟩ := r2.form
  exact ⟨B1, d1, B2, d2, rfl, owns_cap o1, owns_cap o2, r1, r2⟩
theorem st_new2 {w : World} {x : MSt} {v : Value} (h : StV w x v) : ∃ A1 n1 c1 A2 n2 c2, v = .agg #[.int .i64 x.pc, .int .i64 x.at_, .int .i64 x.steps, .int .i64 x.kind, .slice A1 n1 c1, .slice A2 n2 c2] := by
  obtain ⟨A1, c1, A2, c2, h1, _⟩ := h
  exact ⟨_, _, _, _, _, _, h1⟩
theorem save_st (w : World) (x : MSt) (v : Value) (h : StV w x v) (hlen : (saveB x).length ≤ 1099511627000) : Calls Tryd.prog 5 #[v] w fun e w' => e = .returned (saveV x) ∧ Below w.heap.size w w' := by
  obtain ⟨A1, c1, A2, c2, rfl, _, _, h4, h5⟩ := h
  exact save_any w x A1 c1 A2 c2 h4 h5 hlen
theorem load_st (w : World) (s : ByteArray) : Calls Tryd.prog 6 #[.string s] w fun e w' => ∃ v, e = .returned (.tuple #[v, .int .i64 (loadM s).2]) ∧ StV w' (loadM s).1 v ∧ Below w.heap.size w w' := by
  refine (load_any w s).mono ?_
  rintro e w' ⟨v, rfl, ho, hb⟩
  exact ⟨v, rfl, StV.of_own ho, hb⟩
theorem len_save (x : MSt) : x.stack.length ≤ (saveB x).length ∧ x.log.length ≤ (saveB x).length := by
  have h1 := fl_len entB_len x.stack
  have h2 : x.log.length ≤ (x.log.flatMap noteB).length := fl_ge _ (fun e => by unfold noteB; simp [fourL, oneL]) x.log
  unfold saveB
  simp only [List.length_append]
  omega
set_option maxHeartbeats 8000000 in
set_option maxRecDepth 20000 in
theorem lawSBack (w : World) (x : MSt) (v : Value) (b : ByteArray) (hx : StV w x v) (hU : UsesOk w) (hlen : (saveB x).length ≤ 1099511627000) :
    Calls Tryd.prog 3 #[v, .string b] w fun e w' => e = .returned (.bool true) ∧ Below w.heap.size w w' := by
  obtain ⟨A1, n1, c1, A2, n2, c2, hv⟩ := st_new2 hx
  subst hv
  have hb0 := g_al1 (Below.refl w.heap.size w) (Nat.le_refl _) (.cells #[.int .i64 x.pc, .int .i64 x.at_, .int .i64 x.steps, .int .i64 x.kind, .slice A1 n1 c1, .slice A2 n2 c2] 25)
  have hX := alloc_new w (.cells #[.int .i64 x.pc, .int .i64 x.at_, .int .i64 x.steps, .int .i64 x.kind, .slice A1 n1 c1, .slice A2 n2 c2] 25)
  have hx0 := hx.below ((Below.refl w.heap.size w).alloc (Nat.le_refl _) (.cells #[.int .i64 x.pc, .int .i64 x.at_, .int .i64 x.steps, .int .i64 x.kind, .slice A1 n1 c1, .slice A2 n2 c2] 25))
  go_enter Tryd.func3, Tryd.ntmps3
  go_wp2_with (fail)
  generalize w.alloc (.cells #[.int .i64 x.pc, .int .i64 x.at_, .int .i64 x.steps, .int .i64 x.kind, .slice A1 n1 c1, .slice A2 n2 c2] 25) = W0 at *
  with_reducible refine (save_st W0 x _ hx0 hlen).mono ?_
  rintro e W1 ⟨rfl, hb1⟩
  replace hX := keep hb1 hX
  have hx1 := hx0.below hb1
  replace hb1 := g_then hb0 hb1
  clear hx0 hb0
  have hcX := block_cell hX
  have hltX := block_lt hX
  by_cases hs : saveBad x = false ∧ (saveB x).length ≤ 1048576
  · have hsv : saveV x = .tuple #[.string (strOfNums (saveB x)), .int .i64 0] := by unfold saveV; rw [if_neg (by rw [hs.1]; decide), if_neg (by omega)]
    have hlm := loadM_save hs.1 hs.2
    rw [hsv]
    clear hsv
    have hls := load_st W1 (strOfNums (saveB x))
    rw [hlm] at hls
    clear hlm
    generalize strOfNums (saveB x) = bs at *
    go_wp2_with (fail)
    with_reducible refine hls.mono ?_
    rintro e W2 ⟨v2, rfl, hv2, hb2⟩
    replace hX := keep hb2 hX
    have hx2 := hx1.below hb2
    replace hb2 := g_then hb1 hb2
    clear hb1 hx1 hls hcX hltX
    have hcX := block_cell hX
    have hltX := block_lt hX
    obtain ⟨D1, m1, d1, D2, m2, d2, hv⟩ := st_new2 hv2
    subst hv
    go_wp2_with (fail)
    have hx3 := hx2.below ((Below.refl W2.heap.size W2).alloc (Nat.le_refl _) (.cells #[.int .i64 x.pc, .int .i64 x.at_, .int .i64 x.steps, .int .i64 x.kind, .slice D1 m1 d1, .slice D2 m2 d2] 25))
    have hv3 := hv2.below ((Below.refl W2.heap.size W2).alloc (Nat.le_refl _) (.cells #[.int .i64 x.pc, .int .i64 x.at_, .int .i64 x.steps, .int .i64 x.kind, .slice D1 m1 d1, .slice D2 m2 d2] 25))
    have hb3 := g_al1 hb2 hb2.size (.cells #[.int .i64 x.pc, .int .i64 x.at_, .int .i64 x.steps, .int .i64 x.kind, .slice D1 m1 d1, .slice D2 m2 d2] 25)
    clear hX hx2 hv2 hb2 hcX hltX
    generalize W2.alloc (.cells #[.int .i64 x.pc, .int .i64 x.at_, .int .i64 x.steps, .int .i64 x.kind, .slice D1 m1 d1, .slice D2 m2 d2] 25) = W3 at *
    have hln := len_save x
    with_reducible refine (same_st W3 x _ _ hx3 hv3 (by omega) (by omega)).mono ?_
    rintro e W4 ⟨rfl, hb4⟩
    replace hb4 := g_then hb3 hb4
    clear hb3 hx3 hv3 hln
    go_wp2_with (fail)
    with_reducible refine (load_st W4 b).mono ?_
    rintro e U1 ⟨v3, rfl, hv3, hbL⟩
    replace hbL := g_then hb4 hbL
    generalize hLM : loadM b = q at *
    obtain ⟨y, f⟩ := q
    obtain ⟨E1, k1, e1, E2, k2, e2, hv⟩ := st_new2 hv3
    subst hv
    by_cases hf : f = 0
    · have g := loadM_back (by rw [hLM, hf])
      subst hf
      have hsy : saveV y = .tuple #[.string b, .int .i64 0] := by unfold saveV; rw [if_neg (by rw [g.1]; decide), if_neg (by have := g.2.2; omega), g.2.1]
      have hss := save_st (U1.alloc (.cells #[.int .i64 y.pc, .int .i64 y.at_, .int .i64 y.steps, .int .i64 y.kind, .slice E1 k1 e1, .slice E2 k2 e2] 25)) y _ (hv3.below ((Below.refl U1.heap.size U1).alloc (Nat.le_refl _) (.cells #[.int .i64 y.pc, .int .i64 y.at_, .int .i64 y.steps, .int .i64 y.kind, .slice E1 k1 e1, .slice E2 k2 e2] 25))) (by have := g.2.2; omega)
      have hbA := g_al1 hbL hbL.size (.cells #[.int .i64 y.pc, .int .i64 y.at_, .int .i64 y.steps, .int .i64 y.kind, .slice E1 k1 e1, .slice E2 k2 e2] 25)
      rw [hsy] at hss
      clear hsy g hLM
      go_wp2_with (fail)
      generalize U1.alloc (.cells #[.int .i64 y.pc, .int .i64 y.at_, .int .i64 y.steps, .int .i64 y.kind, .slice E1 k1 e1, .slice E2 k2 e2] 25) = U2 at *
      with_reducible refine hss.mono ?_
      rintro e U3 ⟨rfl, hb3⟩
      replace hb3 := g_then hbA hb3
      go_wp2_with (fail)
      with_reducible refine (lives_any _ (hU.below hb3)).mono ?_
      rintro e U4 ⟨rfl, hb4⟩
      replace hb4 := g_then hb3 hb4
      go_wp2_with (fail)
      go_ret
      exact ⟨rfl, hb4⟩
    · have nf : (f == 0) = false := beq_eq_false_iff_ne.2 hf
      have hbA := g_al1 hbL hbL.size (.cells #[.int .i64 y.pc, .int .i64 y.at_, .int .i64 y.steps, .int .i64 y.kind, .slice E1 k1 e1, .slice E2 k2 e2] 25)
      clear hLM
      go_wp2_with (fail)
      with_reducible refine (lives_any _ (hU.below hbA)).mono ?_
      rintro e U4 ⟨rfl, hb4⟩
      replace hb4 := g_then hbA hb4
      go_wp2_with (fail)
      go_ret
      exact ⟨rfl, hb4⟩
  · obtain ⟨ek, hsv, hek⟩ : ∃ k, saveV x = .tuple #[.string ⟨#[]⟩, .int .i64 k] ∧ k ≠ 0 := by
      unfold saveV
      cases hbad : saveBad x with
      | true => rw [if_pos rfl]; exact ⟨220, rfl, by decide⟩
      | false =>
        rw [if_neg (by decide), if_pos (by
          rw [hbad] at hs
          have : ¬ (saveB x).length ≤ 1048576 := fun h => hs ⟨rfl, h⟩
          omega)]
        exact ⟨2, rfl, by decide⟩
    rw [hsv]
    clear hsv hs hX hx1 hcX hltX
    have ne1 : (ek == 0) = false := beq_eq_false_iff_ne.2 hek
    go_wp2_with (fail)
    with_reducible refine (load_st W1 b).mono ?_
    rintro e U1 ⟨v3, rfl, hv3, hbL⟩
    replace hbL := g_then hb1 hbL
    generalize hLM : loadM b = q at *
    obtain ⟨y, f⟩ := q
    obtain ⟨E1, k1, e1, E2, k2, e2, hv⟩ := st_new2 hv3
    subst hv
    by_cases hf : f = 0
    · have g := loadM_back (by rw [hLM, hf])
      subst hf
      have hsy : saveV y = .tuple #[.string b, .int .i64 0] := by unfold saveV; rw [if_neg (by rw [g.1]; decide), if_neg (by have := g.2.2; omega), g.2.1]
      have hss := save_st (U1.alloc (.cells #[.int .i64 y.pc, .int .i64 y.at_, .int .i64 y.steps, .int .i64 y.kind, .slice E1 k1 e1, .slice E2 k2 e2] 25)) y _ (hv3.below ((Below.refl U1.heap.size U1).alloc (Nat.le_refl _) (.cells #[.int .i64 y.pc, .int .i64 y.at_, .int .i64 y.steps, .int .i64 y.kind, .slice E1 k1 e1, .slice E2 k2 e2] 25))) (by have := g.2.2; omega)
      have hbA := g_al1 hbL hbL.size (.cells #[.int .i64 y.pc, .int .i64 y.at_, .int .i64 y.steps, .int .i64 y.kind, .slice E1 k1 e1, .slice E2 k2 e2] 25)
      rw [hsy] at hss
      clear hsy g hLM
      go_wp2_with (fail)
      generalize U1.alloc (.cells #[.int .i64 y.pc, .int .i64 y.at_, .int .i64 y.steps, .int .i64 y.kind, .slice E1 k1 e1, .slice E2 k2 e2] 25) = U2 at *
      with_reducible refine hss.mono ?_
      rintro e U3 ⟨rfl, hb3⟩
      replace hb3 := g_then hbA hb3
      go_wp2_with (fail)
      with_reducible refine (lives_any _ (hU.below hb3)).mono ?_
      rintro e U4 ⟨rfl, hb4⟩
      replace hb4 := g_then hb3 hb4
      go_wp2_with (fail)
      go_ret
      exact ⟨rfl, hb4⟩
    · have nf : (f == 0) = false := beq_eq_false_iff_ne.2 hf
      have hbA := g_al1 hbL hbL.size (.cells #[.int .i64 y.pc, .int .i64 y.at_, .int .i64 y.steps, .int .i64 y.kind, .slice E1 k1 e1, .slice E2 k2 e2] 25)
      clear hLM
      go_wp2_with (fail)
      with_reducible refine (lives_any _ (hU.below hbA)).mono ?_
      rintro e U4 ⟨rfl, hb4⟩
      replace hb4 := g_then hbA hb4
      go_wp2_with (fail)
      go_ret
      exact ⟨rfl, hb4⟩
theorem stv_of {w : World} {pc p st kd : Int} {stk : List S56} {lg : List S59} {A1 A2 : Option Addr} {c1 c2 : Nat} (hr1 : Kd.C k56 w A1 stk.length stk) (hc1 : stk.length ≤ c1) (hr2 : Kd.C k59 w A2 lg.length lg) (hc2 : lg.length ≤ c2) :
    StV w ⟨pc, p, st, kd, stk.map entOf, lg.map notOf⟩ (.agg #[.int .i64 pc, .int .i64 p, .int .i64 st, .int .i64 kd, .slice A1 stk.length c1, .slice A2 lg.length c2]) := by
  have r1 : RowIs w (.slice A1 stk.length c1) 4 stk.length (stk.flatMap fun x => entC (entOf x)) := rowIs_of_C (d := k56) (enc := fun x => entC (entOf x)) (fun w x cs hk => k56_open hk) (fun _ => rfl) (by decide) hr1
  have r2 : RowIs w (.slice A2 lg.length c2) 6 lg.length (lg.flatMap fun x => notC (notOf x)) := rowIs_of_C (d := k59) (enc := fun x => notC (notOf x)) (fun w x cs hk => k59_open hk) (fun _ => rfl) (by decide) hr2
  have e1 : (stk.map entOf).length = stk.length := List.length_map _
  have e2 : (lg.map notOf).length = lg.length := List.length_map _
  refine ⟨A1, c1, A2, c2, by rw [e1, e2], by rw [e1]; exact hc1, by rw [e2]; exact hc2, ?_, ?_⟩
  · rw [e1, List.flatMap_map]; exact r1
  · rw [e2, List.flatMap_map]; exact r2
theorem len_bound (pc p st kd : Int) (stk : List S56) (lg : List S59) (f : S56 → Nat) (g : S59 → Nat) (hf : ∀ e, f e = 4) (hg : ∀ n, g n = 6 + n.f5.size) (h : (stk.map f).sum + (lg.map g).sum ≤ 1048576) : (saveB ⟨pc, p, st, kd, stk.map entOf, lg.map notOf⟩).length ≤ 1099511627000 := by
  have h1 : (stk.map f).sum = 4 * stk.length := by
    clear h
    induction stk with
    | nil => rfl
    | cons a l ih => rw [List.map_cons, List.sum_cons, hf, ih, List.length_cons]; omega
  have h2 : ((lg.map notOf).flatMap noteB).length ≤ 2 * (lg.map g).sum := by
    clear h h1
    induction lg with
    | nil => exact Nat.zero_le _
    | cons a l ih =>
      rw [List.map_cons, List.map_cons, List.sum_cons, List.flatMap_cons, List.length_append, hg]
      have : (noteB (notOf a)).length = 12 + a.f5.size := by
        unfold noteB notOf
        simp [fourL, oneL]
        omega
      omega
  have h3 := fl_len entB_len (stk.map entOf)
  unfold saveB
  simp only [List.length_append]
  rw [h3, List.length_map]
  have h4 : (headB ⟨pc, p, st, kd, stk.map entOf, lg.map notOf⟩).length = 17 := rfl
  have h5 : ([((lg.map notOf).length : Int)].flatMap fourL).length = 4 := rfl
  rw [h4, h5]
  omega
end Go.Proofs.YthjlpcecfkboiabDoor
