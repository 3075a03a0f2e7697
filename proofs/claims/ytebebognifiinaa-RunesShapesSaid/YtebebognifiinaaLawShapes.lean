/-
  RunesShapes, walked: it returns true and leaves what was there as it was.
-/
import Derived.Test.YtebebognifiinaaPureShapes
namespace Go.Proofs.Ytebebognifiinaa.U
open Go.RowKit Go.Proofs.YtebebognifiinaaW.PrintWords Go.Proofs.YtebebognifiinaaW.PrintLast Go.Proofs.YtebebognifiinaaW.PrintMore
set_option linter.unusedVariables false
set_option linter.unusedSimpArgs false
abbrev kR : Kd (List SP) := Kd.slice 63 k63
theorem drawn_below {w w' : World} (h : Drawn0 w w') : Below w.heap.size w w' := by
  obtain ⟨n, rfl⟩ := h; exact below_drewN' (Below.refl _ _) n
theorem cell_ltB {w : World} {p : Addr} {v : Value} (h : w.cell? p = some v) : p.block < w.heap.size := by
  by_cases hp : p.block < w.heap.size
  · exact hp
  · rw [World.cell?, Array.getElem?_eq_none (by omega)] at h; cases h
/-- A row of rows, read at a place. -/
theorem shape_at {w : World} {A : Option Addr} {n : Nat} {xs : List (List SP)} (h : Kd.C kR w A n xs) {j : Nat} (hj : j < xs.length) :
    ∃ b o A' c', A = some ⟨b, o, none⟩ ∧ w.cell? ⟨b, o + j, none⟩ = some (.slice A' xs[j].length c') ∧ xs[j].length ≤ c' ∧ Kd.C k63 w A' xs[j].length xs[j] := by
  obtain ⟨h1, h2, h3⟩ := h
  obtain ⟨ad, rfl, hc⟩ := h3 (by omega)
  have hp : ad = ⟨ad.block, ad.off, none⟩ := by
    obtain ⟨cs, e1, e2, e3⟩ := hc 0 _ (List.getElem?_eq_getElem (by omega))
    have := e3 0 _ (List.getElem?_eq_getElem (by rw [e1]; exact Nat.zero_lt_one))
    rw [Nat.zero_mul] at this
    exact addr_plain this
  obtain ⟨cs, e1, e2, e3⟩ := hc j _ (List.getElem?_eq_getElem hj)
  obtain ⟨A', c', rfl, hl, hr⟩ := e2
  have e4 := e3 0 _ rfl
  refine ⟨ad.block, ad.off, A', c', by rw [← hp], ?_, hl, hr⟩
  have e5 : j * kR.sz + 0 = j := by show j * 1 + 0 = j; omega
  rw [e5, hp, add_plain] at e4
  exact e4
def marked (sh : List (List SP)) (j : Nat) (xs : List (List SP)) : Prop := xs.length = sh.length ∧ ∀ m (h : m < sh.length), xs[m]? = some (if m < j then sh[m] ++ [⟨-7 - (m : Int), 0⟩] else sh[m])
theorem marked_start (sh : List (List SP)) : marked sh 0 sh := ⟨rfl, fun m h => by rw [if_neg (by omega), List.getElem?_eq_getElem h]⟩
theorem marked_step {sh xs : List (List SP)} {j : Nat} (h : marked sh j xs) (hj : j < sh.length) : marked sh (j + 1) (xs.set j (sh[j] ++ [⟨-7 - (j : Int), 0⟩])) := by
  refine ⟨by rw [List.length_set]; exact h.1, fun m hm => ?_⟩
  by_cases c : m = j
  · subst c
    rw [List.getElem?_set_self (by rw [h.1]; exact hm), if_pos (by omega)]
  · rw [List.getElem?_set_ne (Ne.symm c), h.2 m hm]
    by_cases d : m < j
    · rw [if_pos d, if_pos (by omega)]
    · rw [if_neg d, if_neg (by omega)]
theorem marked_at {sh xs : List (List SP)} {j : Nat} (h : marked sh j xs) (hj : j < sh.length) : xs.getD j [] = sh[j] := by
  rw [List.getD_eq_getElem?_getD, h.2 j hj, if_neg (by omega)]
  rfl
set_option maxRecDepth 100000 in
set_option maxHeartbeats 16000000 in
theorem lawShapes (lo hi : Int) (w : World) :
    Calls Try.prog 6 #[.int .i64 lo, .int .i64 hi] w fun e w' => e = .returned (.bool true) ∧ Below w.heap.size w w' := by
  obtain ⟨k1, h1⟩ := shapes_pure lo hi
  obtain ⟨k2, h2⟩ := refShapes_pure lo hi
  obtain ⟨k3, h3⟩ := pat_pure lo hi
  obtain ⟨k4, h4⟩ := refPat_pure lo hi
  obtain ⟨pr, hpr, hpl⟩ := patRes_some lo hi
  rw [hpr] at h3 h4
  have hl := shapesRes_len lo hi
  have hok : ∀ s ∈ (shapesRes lo hi).1, s.length ≤ 4 := by
    unfold shapesRes
    split
    · intro s hs; cases hs
    split
    · intro s hs; cases hs
    · rename_i c _
      exact fun s hs => (okSh_shapes (by omega) s hs).1
  generalize shapesRes lo hi = R at *
  obtain ⟨sh, er⟩ := R
  obtain ⟨pt, ep⟩ := pr
  replace hl : sh.length ≤ 1114112 := hl
  replace hok : ∀ s ∈ sh, s.length ≤ 4 := hok
  replace hpl : pt.length ≤ 10027008 := hpl
  obtain ⟨k5, h5⟩ := same_pure sh (by omega) hok
  obtain ⟨k6, h6⟩ := spoil_pure pt (-7) (by omega)
  have h7 := samePat_pure pt (by omega)
  clear hpr
  go_enter Try.func6, Try.ntmps6
  go_wp2_with (fail)
  with_reducible refine (runes_Shapes.calls k1 lo hi sh er w h1).mono ?_
  rintro e w1 ⟨vx, rfl, hx1, hb1⟩
  have hB1 := hb1
  go_wp2_with (fail)
  with_reducible refine (runes_Shapes.calls k1 lo hi sh er w1 h1).mono ?_
  rintro e w2 ⟨va, rfl, ha2, hb2⟩
  have hB2 := hB1.trans (hb2.mono hB1.size)
  go_wp2_with (fail)
  with_reducible refine (harrowref03_Shapes.calls k2 lo hi sh er w2 h2).mono ?_
  rintro e w3 ⟨vy, rfl, hy3, hb3⟩
  have hB3 := hB2.trans (hb3.mono hB2.size)
  go_wp2_with (fail)
  with_reducible refine (runes_Pattern.calls k3 lo hi pt ep w3 h3).mono ?_
  rintro e w4 ⟨vp, rfl, hp4, hb4⟩
  have hB4 := hB3.trans (hb4.mono hB3.size)
  go_wp2_with (fail)
  with_reducible refine (runes_Pattern.calls k3 lo hi pt ep w4 h3).mono ?_
  rintro e w5 ⟨vo, rfl, ho5, hb5⟩
  have hB5 := hB4.trans (hb5.mono hB4.size)
  go_wp2_with (fail)
  with_reducible refine (harrowref03_Pattern.calls k4 lo hi pt ep w5 h4).mono ?_
  rintro e w6 ⟨vq, rfl, hq6, hb6⟩
  have hB6 := hB5.trans (hb6.mono hB5.size)
  go_wp2_with (fail)
  -- the six answers, as they lie in w6
  have hb26 := ((hb3.trans (hb4.mono hb3.size)).trans (hb5.mono (hb3.trans (hb4.mono hb3.size)).size)).trans (hb6.mono ((hb3.trans (hb4.mono hb3.size)).trans (hb5.mono (hb3.trans (hb4.mono hb3.size)).size)).size)
  have hb36 := (hb4.trans (hb5.mono hb4.size)).trans (hb6.mono (hb4.trans (hb5.mono hb4.size)).size)
  have hb46 := hb5.trans (hb6.mono hb5.size)
  have hb16 := hb2.trans (hb26.mono hb2.size)
  obtain ⟨Ax, cx, rfl, hcx, hCx⟩ := Kd.S_reads hx1
  obtain ⟨Aa, ca, rfl, hca, hCa⟩ := Kd.S_reads ha2
  obtain ⟨Ay, cy, rfl, hcy, hCy⟩ := Kd.N_reads hy3
  obtain ⟨Ap, cp, rfl, hcp, hCp⟩ := Kd.R_reads hp4
  obtain ⟨Ao, co, rfl, hco, hCo⟩ := Kd.R_reads ho5
  obtain ⟨Aq, cq, rfl, hcq, hCq⟩ := Kd.R_reads hq6
  with_reducible refine (harrowlaw03_same.calls k5 Ax cx sh Ay cy sh true w6 (Kd.C_below hCx hb16) hcx (Kd.C_below hCy hb36) hcy h5).mono ?_
  rintro e w7 ⟨rfl, hd7⟩
  have hb7 := drawn_below hd7
  go_wp2_with (fail)
  with_reducible refine (harrowbook_SamePattern.calls Ap cp pt Aq cq pt true w7 (Kd.C_below (Kd.C_below hCp hb46) hb7) hcp (Kd.C_below hCq hb7) hcq h7).mono ?_
  rintro e w8 ⟨rfl, hd8⟩
  have hb8 := drawn_below hd8
  have hB8 := (hB6.trans (hb7.mono hB6.size)).trans (hb8.mono (hB6.trans (hb7.mono hB6.size)).size)
  have hb68 := hb7.trans (hb8.mono hb7.size)
  -- whose blocks are whose
  have hx8 : Kd.S kR 61 w8 w.heap.size (fun k => k < w1.heap.size) (.slice Ax sh.length cx) sh := Kd.S_mono (Kd.S_below (Kd.S_below (Kd.S_bound hx1) hb16) hb68) (fun k hk => hk.2.2.1)
  have ha8 : Kd.S kR 61 w8 w1.heap.size (fun k => w1.heap.size ≤ k ∧ k < w2.heap.size) (.slice Aa sh.length ca) sh := Kd.S_mono (Kd.S_below (Kd.S_below (Kd.S_bound ha2) hb26) hb68) (fun k hk => ⟨hk.2.1, hk.2.2.1⟩)
  have hy8 : Kd.N kR 61 w8 w2.heap.size (fun k => w2.heap.size ≤ k ∧ k < w3.heap.size) (.slice Ay sh.length cy) sh := Kd.N_below (Kd.N_below (Kd.N_bound hy3) hb36) hb68
  have hp8 : Kd.R k96 96 w8 w3.heap.size (fun k => w3.heap.size ≤ k ∧ k < w4.heap.size) (.slice Ap pt.length cp) pt := Kd.R_mono (Kd.R_below (Kd.R_below (Kd.R_bound hp4) hb46) hb68) (fun k hk => ⟨hk.2.1, hk.2.2.1⟩)
  have ho8 : Kd.R k96 96 w8 w4.heap.size (fun k => w4.heap.size ≤ k ∧ k < w5.heap.size) (.slice Ao pt.length co) pt := Kd.R_mono (Kd.R_below (Kd.R_below (Kd.R_bound ho5) hb6) hb68) (fun k hk => ⟨hk.2.1, hk.2.2.1⟩)
  have hq8 : Kd.R k96 96 w8 w5.heap.size (fun k => w5.heap.size ≤ k ∧ k < w6.heap.size) (.slice Aq pt.length cq) pt := Kd.R_mono (Kd.R_below (Kd.R_bound hq6) hb68) (fun k hk => ⟨hk.2.1, hk.2.2.1⟩)
  have z1 := hb1.size
  have z2 := hb2.size
  have z3 := hb3.size
  have z4 := hb4.size
  have z5 := hb5.size
  have z6 := hb6.size
  have z7 := hb7.size
  have z8 := hb8.size
  clear h1 h2 h3 h4 hx1 ha2 hy3 hp4 ho5 hq6 hCx hCa hCy hCp hCo hCq hb1 hb2 hb3 hb4 hb5 hb6 hb7 hb8 hB1 hB2 hB3 hB4 hB5 hB6 hb16 hb26 hb36 hb46 hb68 hd7 hd8
  go_wp2_with (fail)
  go_loopw [17] (fun i wr => ∃ (j : Nat) (xs : List (List SP)), j ≤ sh.length ∧ i = .int .i64 j ∧ marked sh j xs ∧ Kd.S kR 61 wr w.heap.size (fun k => k < w1.heap.size ∨ w8.heap.size ≤ k) (.slice Ax sh.length cx) xs ∧ Below w.heap.size w wr ∧ Kept w8 wr (fun k => w.heap.size ≤ k ∧ k < w1.heap.size)) (fun i _ => sh.length - (intOf i).toNat)
  case atStart => exact ⟨0, sh, Nat.zero_le _, rfl, marked_start sh, Kd.S_mono hx8 (fun k hk => .inl hk), hB8, Kept.refl _ _⟩
  case round =>
    obtain ⟨j, xs, hj, rfl, hm, hS, hB, hK⟩ := hrel
    by_cases hlt : j < sh.length
    · have hxl := hm.1
      obtain ⟨g, cap, hvx, hbg, hlg, _⟩ := Kd.S_form hS (by omega)
      injection hvx with e1 e2 e3
      subst e1 e3
      obtain ⟨oki, c, hcl, hM, hcc, hoki, hH⟩ := Kd.S_lend hS [] (j : Int) (by omega) (by omega)
      rw [show (j : Int).toNat = j from Int.toNat_natCast j, marked_at hm hlt] at hM
      obtain ⟨v, rfl, hR⟩ := hM
      have hx0 := hcc 0 v rfl
      rw [show (j : Int).toNat * kR.sz + 0 = j from by show (j : Int).toNat * 1 + 0 = j; omega] at hx0
      have hrow4 := hok _ (List.getElem_mem hlt)
      have hnew := marked_step hm hlt
      obtain ⟨Av, cv, rfl⟩ := Kd.R_slice hR
      have hH2 := Kd.H_widen hH
      have hRo := Kd.R_mono hR (ok' := fun k => oki k ∨ (k < w1.heap.size ∨ w8.heap.size ≤ k) ∧ wr.heap.size ≤ k) (fun k hk => .inl hk)
      have hwk := hK.1
      clear e2
      have HXL := Aside0.mk hxl
      clear hxl
      have HOK := Aside0.mk hok
      clear hok
      have HM := Aside0.mk hm
      clear hm
      generalize sh[j] = row at *
      have hw1 : IntKind.i64.wrap ((j : Int) + 1) = (j : Int) + 1 := IntWalk.i64_in _ (by omega)
      have hw2 : IntKind.i64.wrap (-7 - (j : Int)) = -7 - (j : Int) := IntWalk.i64_in _ (by omega)
      go_wp2_with (at_builtin; refine Kd.R_append k63 (w0 := w) w.heap.size rfl _ _ 61 63 _ 16 rfl Try.underlying61 info_span rfl (by decide) (by decide) (.slice Av row.length cv) row ⟨-7 - (j : Int), 0⟩ [.int .i64 (-7 - (j : Int)), .int .i64 0] _ (fun _ => False) rfl rfl ?aM (fun _ hk => hk.elim) ?aF hRo hB ?aS ?aL ?_)
      case aM => exact k63_mkM _ _ _ _
      case aF => exact fun k hk => .inr ⟨.inr (by omega), hk⟩
      case aS => exact hB.size
      case aL => omega
      intro v2 wn hR2 hB2 hg2 hat2
      have hH3 := Kd.H_grown hH2 hg2 (fun k hk => .inl (hR.1 k hk))
      obtain ⟨hcc3, hfr3⟩ := Kd.H_at hH3 (by omega) (by omega)
      have hx3 := hcc3 0 _ rfl
      have hf3 := hfr3 0
      rw [show (j : Int).toNat * kR.sz + 0 = j from by show (j : Int).toNat * 1 + 0 = j; omega] at hx3 hf3
      obtain ⟨A2, c2, rfl⟩ := Kd.R_slice hR2
      obtain ⟨hseg, hgs⟩ := Kd.H_seg hH3 (by omega) (by omega) (seg := [.slice A2 (row ++ [(⟨-7 - (j : Int), 0⟩ : SP)]).length c2]) (j := 0) (show 0 + 1 ≤ 1 from Nat.le_refl _) (fun q hq => by rw [List.mem_singleton.1 hq]; rfl)
      rw [show (j : Int).toNat * kR.sz + 0 = j from by show (j : Int).toNat * 1 + 0 = j; omega] at hseg hgs
      have hgl := hg2.size
      have hl2 : (row ++ [(⟨-7 - (j : Int), 0⟩ : SP)]).length = row.length + 1 := by simp
      rw [hl2] at hR2 hseg hgs
      clear hat2
      have hokg := (Kd.S_R hS).1 g rfl
      have hS2 := Kd.H_back hseg (x' := row ++ [(⟨-7 - (j : Int), 0⟩ : SP)]) ⟨_, rfl, Kd.R_grown hR2 hgs (fun k hk => by
        rcases hk with hk | hk
        · have := (hoki k hk).2
          intro e
          injection e with e
          exact this e
        · intro e
          injection e with e
          omega)⟩ (fun _ hk => hk)
      rw [Int.toNat_natCast] at hS2
      have hB4 := hB2.grown hgs hB2.size (fun b e => by injection e with e; omega)
      have hK4 := Kept.of_grown hgs (Kept.of_grown hg2 hK (fun k e => by have h1 := (hoki k (hR.1 k e)).1; have h2 := own_base (Kd.R_own hR).choose_spec k e; omega)) (fun k e => by injection e with e; subst e; omega)
      go_wp2_with (fail)
      refine ⟨⟨j + 1, _, by omega, by go_num, hnew, hS2, hB4, hK4⟩, ?_⟩
      simp [intOf]
      omega
    · obtain rfl : j = sh.length := by omega
      -- what was made ahead of it, as it lies there now
      have hKs := hK.1
      have ha9 := Kd.S_kept ha8 hK (fun k hk h => by omega)
      have hy9 := Kd.N_kept hy8 hK (fun k hk h => by omega)
      have hp9 := Kd.R_kept hp8 hK (fun k hk h => by omega)
      have ho9 := Kd.R_kept ho8 hK (fun k hk h => by omega)
      have hq9 := Kd.R_kept hq8 hK (fun k hk h => by omega)
      clear ha8 hy8 hp8 ho8 hq8 hK hx8 hlt hj hB8 z7 z8 hKs
      obtain ⟨-, hcxx, hCx⟩ := Kd.S_reads' hS
      obtain ⟨-, hcyy, hCy⟩ := Kd.N_reads' hy9
      obtain ⟨hml, hmm⟩ := hm
      have HOK := Aside0.mk hok
      have HMM := Aside0.mk hmm
      have HML := Aside0.mk hml
      clear hok hmm hml hS
      obtain ⟨W9, hW9⟩ : ∃ W9, W9 = wr := ⟨_, rfl⟩
      subst hW9
      go_wp2_with (fail)
      go_loopw [18] (fun i wq => ∃ k : Nat, k ≤ sh.length ∧ i = .int .i64 k ∧ Below W9.heap.size W9 wq) (fun i _ => sh.length - (intOf i).toNat)
      case atStart => exact ⟨0, Nat.zero_le _, rfl, Below.refl _ _⟩
      case round =>
        obtain ⟨k, hk, rfl, hBq⟩ := hrel
        by_cases hkl : k < sh.length
        · have hxk : xs[k]'(by rw [HML.out]; exact hkl) = sh[k] ++ [⟨-7 - (k : Int), 0⟩] := by
            have := HMM.out k hkl
            rw [if_pos hkl, List.getElem?_eq_getElem (by rw [HML.out]; exact hkl)] at this
            exact Option.some.inj this
          obtain ⟨b1, o1, A1, c1, rfl, p1, hl1, hC1⟩ := shape_at (Kd.C_below hCx hBq) (j := k) (by rw [HML.out]; exact hkl)
          obtain ⟨b2, o2, A2, c2, rfl, p2, hl2, hC2⟩ := shape_at (Kd.C_below hCy hBq) hkl
          rw [hxk] at p1 hl1 hC1
          clear hxk
          have h4 := HOK.out _ (List.getElem_mem hkl)
          obtain ⟨kq, hkq⟩ : ∃ kq, harrowbook_SameSpans.f kq sh[k] sh[k] = some true := ⟨_, sameSpans_pure sh[k] (by omega) (Nat.le_refl _)⟩
          generalize sh[k] = row at *
          have hlen : (row ++ [(⟨-7 - (k : Int), 0⟩ : SP)]).length = row.length + 1 := by simp
          obtain ⟨ad, rfl, p3, -⟩ := at_T63 hC1 (row.length : Int) (by omega) (by rw [hlen]; omega)
          rw [show rd_T63 (row ++ [(⟨-7 - (k : Int), 0⟩ : SP)]) (row.length : Int) = ⟨-7 - (k : Int), 0⟩ from by unfold rd_T63; rw [Int.toNat_natCast, List.getD_eq_getElem?_getD, List.getElem?_append_right (Nat.le_refl _)]; simp] at p3
          have hC3 := Kd.C_take hC1 (m := row.length) (by rw [hlen]; omega)
          rw [List.take_left' rfl] at hC3
          rw [hlen] at p1 hl1
          clear hC1
          have hsame : ∀ g : Grow wr.heap.size wr, Calls Try.prog 28 #[.slice (some ad) row.length c1, .slice A2 row.length c2] g.val fun e w'' => e = .returned (.bool true) ∧ ∃ g' : Grow wr.heap.size wr, w'' = g'.val := fun g => Calls.grow_of (Nat.le_refl _) ((harrowbook_SameSpans.calls kq (some ad) c1 row A2 c2 row true g.val (Kd.C_below hC3 g.below) (by omega) (Kd.C_below hC2 g.below) hl2 hkq).mono (fun e w' h => ⟨h.1, drawn_below h.2⟩))
          have q1 : ∀ g : Grow wr.heap.size wr, g.val.cell? ⟨b1, o1 + k, none⟩ = some (.slice (some ad) (row.length + 1) c1) := fun g => (g.cell (cell_ltB p1) _).trans p1
          have q2 : ∀ g : Grow wr.heap.size wr, g.val.cell? ⟨b2, o2 + k, none⟩ = some (.slice A2 row.length c2) := fun g => (g.cell (cell_ltB p2) _).trans p2
          have q3 : ∀ g : Grow wr.heap.size wr, g.val.cell? (ad.add (row.length * 2)) = some (.int .i64 (-7 - (k : Int))) := fun g => (g.below.cell (cell_ltB p3)).trans p3
          have hw1 : IntKind.i64.wrap ((k : Int) + 1) = (k : Int) + 1 := IntWalk.i64_in _ (by omega)
          have hw2 : IntKind.i64.wrap (-7 - (k : Int)) = -7 - (k : Int) := IntWalk.i64_in _ (by omega)
          go_wp2_with (fail)
          refine wp_region_grow wr.heap.size (by kernel_rfl) (by kernel_rfl) ?_
          repeat (go_big_quiet_step (first | (go_at_call 28; with_reducible refine hsame _; done)))
          refine wpQuiet_nil ?_
          rintro _ ⟨g, rfl⟩
          have hBg := hBq.trans (g.below.mono hBq.size)
          clear hsame q1 q2 q3 p1 p2 p3 hC2 hC3
          generalize g.val = wg at *
          go_wp2_with (fail)
          refine ⟨⟨k + 1, by omega, by go_num, hBg⟩, ?_⟩
          simp [intOf]
          omega
        · obtain rfl : k = sh.length := by omega
          have hB9 := hB.trans (hBq.mono hB.size)
          have ha10 := Kd.S_below ha9 hBq
          have hy10 := Kd.N_below hy9 hBq
          have hp10 := Kd.R_below hp9 hBq
          have ho10 := Kd.R_below ho9 hBq
          have hq10 := Kd.R_below hq9 hBq
          have hsz := hBq.size
          have hsz9 := hB.size
          have hp11 := Kd.R_lower hp10 (show w.heap.size ≤ w3.heap.size by omega)
          clear ha9 hy9 hp9 ho9 hq9 hp10
          go_wp2_with (fail)
          with_reducible refine (harrowbook_SpoilPattern.calls k6 _ _ pt (-7) w wr hB9 hp11 h6).mono ?_
          rintro e w12 ⟨rfl, hB12, hK12⟩
          have ha12 := Kd.S_kept ha10 hK12 (fun k hk h => by omega)
          have ho12 := Kd.R_kept ho10 hK12 (fun k hk h => by omega)
          have hq12 := Kd.R_kept hq10 hK12 (fun k hk h => by omega)
          have hy12 := Kd.N_kept hy10 hK12 (fun k hk h => by omega)
          obtain ⟨-, -, hCa⟩ := Kd.S_reads' ha12
          obtain ⟨-, -, hCy2⟩ := Kd.N_reads' hy12
          obtain ⟨-, -, hCo⟩ := Kd.R_reads' ho12
          obtain ⟨-, -, hCq⟩ := Kd.R_reads' hq12
          go_wp2_with (fail)
          with_reducible refine (harrowlaw03_same.calls k5 Aa ca sh Ay cy sh true w12 hCa hca hCy2 hcy h5).mono ?_
          rintro e w13 ⟨rfl, hd13⟩
          have hb13 := drawn_below hd13
          go_wp2_with (fail)
          with_reducible refine (harrowbook_SamePattern.calls Ao co pt Aq cq pt true w13 (Kd.C_below hCo hb13) hco (Kd.C_below hCq hb13) hcq h7).mono ?_
          rintro e w14 ⟨rfl, hd14⟩
          have hb14 := drawn_below hd14
          go_wp2_with (fail)
          with_reducible refine (harrowlaw03_works.calls 40 true w14 works_pure).mono ?_
          rintro e w15 ⟨rfl, hb15⟩
          have hB14 := (hB12.trans (hb13.mono hB12.size)).trans (hb14.mono (hB12.trans (hb13.mono hB12.size)).size)
          have hB15 := hB14.trans (hb15.mono hB14.size)
          go_wp2_with (fail)
          go_ret
          exact ⟨rfl, hB15⟩
end Go.Proofs.Ytebebognifiinaa.U
