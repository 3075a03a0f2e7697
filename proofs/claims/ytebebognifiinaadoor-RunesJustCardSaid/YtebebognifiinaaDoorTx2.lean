-- PRINTED by print.py (a twelfth state) out of the translation. Not trusted: Lean checks it.
import Derived.Test.YtebebognifiinaaDoorTx0
namespace Go.Proofs.YtebebognifiinaaDoor.T
open Go.RowKit Go.Proofs.YtebebognifiinaaDoorW.PrintWords Go.Proofs.YtebebognifiinaaDoorW.PrintLast Go.Proofs.YtebebognifiinaaDoorW.PrintMore
attribute [local go_sem] max2_int min2_int max_two min_two max_three min_three max_four min_four   -- for this text's walks alone
set_option linter.unusedVariables false
set_option linter.unusedSimpArgs false

/-! ### utf8_RuneLen: function 35 -/
def utf8_RuneLen.j0 : Nat → Int → Bool → Option (Int)
  | 0, _, _ => none
  | k + 1, x0, x12 => if x12 = true then (some (-1)) else (if x0 ≤ 65535 then (some 3) else (if x0 ≤ 1114111 then (some 4) else (some (-1))))
def utf8_RuneLen.f (k : Nat) (a0 : Int) : Option (Int) := if a0 < 0 then (some (-1)) else (if a0 ≤ 127 then (some 1) else (if a0 ≤ 2047 then (some 2) else (if 55296 ≤ a0 then (utf8_RuneLen.j0 k a0 (decide (a0 ≤ 57343))) else (utf8_RuneLen.j0 k a0 false))))
theorem utf8_RuneLen.mono_l : ∀ k, (∀ y0 y1, LeO (utf8_RuneLen.j0 k y0 y1) (utf8_RuneLen.j0 (k + 1) y0 y1))
  | 0 => fun _ _ r h => by simp [utf8_RuneLen.j0] at h
  | k + 1 => by
    have ih0 := utf8_RuneLen.mono_l k
    · intro y0 y1
      unfold utf8_RuneLen.j0
      repeat' first
      | (with_reducible exact ih0 _ _)
      | (with_reducible exact LeO.refl _)
      | (with_reducible exact LeO.none _)
      | (with_reducible refine LeO.ite ?_ ?_)
      | (with_reducible refine LeO.bind ?_ (fun _ => ?_))
      | exact ih0 _ _
      | exact LeO.none _
      | refine LeO.ite ?_ ?_
      | refine LeO.bind ?_ (fun _ => ?_)
theorem utf8_RuneLen.mono : ∀ a0 k, LeO (utf8_RuneLen.f k a0) (utf8_RuneLen.f (k + 1) a0) := by
  intro a0 k
  have ih0 := utf8_RuneLen.mono_l k
  unfold utf8_RuneLen.f
  repeat' first
      | (with_reducible exact ih0 _ _)
      | (with_reducible exact LeO.refl _)
      | (with_reducible exact LeO.none _)
      | (with_reducible refine LeO.ite ?_ ?_)
      | (with_reducible refine LeO.bind ?_ (fun _ => ?_))
      | exact ih0 _ _
      | exact LeO.none _
      | refine LeO.ite ?_ ?_
      | refine LeO.bind ?_ (fun _ => ?_)
set_option maxHeartbeats 8000000 in
set_option maxRecDepth 100000 in
theorem utf8_RuneLen.calls (k : Nat) (a0 : Int) (r : Int) (w : World) (h : utf8_RuneLen.f k a0 = some r) :
    Calls Tryd.prog 35 #[.int .i32 a0] w fun e w' => e = .returned (.int .i64 r) ∧ Drawn0 w w' := by
  have H : (if a0 < 0 then (some (-1)) else (if a0 ≤ 127 then (some 1) else (if a0 ≤ 2047 then (some 2) else (if 55296 ≤ a0 then (utf8_RuneLen.j0 k a0 (decide (a0 ≤ 57343))) else (utf8_RuneLen.j0 k a0 false))))) = some r := h
  clear h
  by_cases c2 : a0 < 0
  · rw [if_pos c2] at H
    have c2b0 : decide (a0 < 0) = true := decide_eq_true c2
    clear c2
    obtain rfl := Option.some.inj H
    go_enter Tryd.func35, Tryd.ntmps35
    go_wp2
    go_ret
    exact ⟨by first | rfl | (simp; done) | (simp [*]; done), by repeat (first | exact Drawn0.refl _ | apply Drawn0.step)⟩
  · rw [if_neg c2] at H
    have c2b0 : decide (a0 < 0) = false := decide_eq_false c2
    clear c2
    by_cases c3 : a0 ≤ 127
    · rw [if_pos c3] at H
      have c3b0 : decide (a0 ≤ 127) = true := decide_eq_true c3
      clear c3
      obtain rfl := Option.some.inj H
      go_enter Tryd.func35, Tryd.ntmps35
      go_wp2
      go_ret
      exact ⟨by first | rfl | (simp; done) | (simp [*]; done), by repeat (first | exact Drawn0.refl _ | apply Drawn0.step)⟩
    · rw [if_neg c3] at H
      have c3b0 : decide (a0 ≤ 127) = false := decide_eq_false c3
      clear c3
      by_cases c4 : a0 ≤ 2047
      · rw [if_pos c4] at H
        have c4b0 : decide (a0 ≤ 2047) = true := decide_eq_true c4
        clear c4
        obtain rfl := Option.some.inj H
        go_enter Tryd.func35, Tryd.ntmps35
        go_wp2
        go_ret
        exact ⟨by first | rfl | (simp; done) | (simp [*]; done), by repeat (first | exact Drawn0.refl _ | apply Drawn0.step)⟩
      · rw [if_neg c4] at H
        have c4b0 : decide (a0 ≤ 2047) = false := decide_eq_false c4
        clear c4
        have HC5 := Aside0.mk H
        clear H
        go_enter Tryd.func35, Tryd.ntmps35
        go_upto_region 7 with (fail)
        go_cut [12] (fun v12 wc => ∃ (kq : Nat) (x12_4 : Bool), v12 = .bool x12_4 ∧ Aside0 (utf8_RuneLen.j0 kq a0 x12_4 = some r) ∧ Aside0 (kq ≤ k) ∧ Drawn0 w wc)
        case first =>
          have H := HC5.out
          clear HC5
          by_cases c6 : 55296 ≤ a0
          · rw [if_pos c6] at H
            have c6b0 : decide (55296 ≤ a0) = true := decide_eq_true c6
            clear c6
            (first | rw [c6b0] | (simp only [i64_w, i32_w]; rw [c6b0]) | skip)
            have H' := Aside0.mk H
            clear H
            go_wp2
            go_meet
            case rel => exact ⟨_, (decide (a0 ≤ 57343)), (by first | rfl | (simp; done) | (simp [*]; done)), H', ⟨by first | omega | exact Nat.le_refl _⟩, by repeat (first | exact Drawn0.refl _ | apply Drawn0.step)⟩
          · rw [if_neg c6] at H
            have c6b0 : decide (55296 ≤ a0) = false := decide_eq_false c6
            clear c6
            (first | rw [c6b0] | (simp only [i64_w, i32_w]; rw [c6b0]) | skip)
            have H' := Aside0.mk H
            clear H
            go_wp2
            go_meet
            case rel => exact ⟨_, (false), (by first | rfl | (simp; done) | (simp [*]; done)), H', ⟨by first | omega | exact Nat.le_refl _⟩, by repeat (first | exact Drawn0.refl _ | apply Drawn0.step)⟩
        case rest =>
          clear HC5
          try clear c2
          try clear c2b0
          try clear p2
          try clear c3
          try clear c3b0
          try clear c4
          try clear c4b0
          try clear c6
          try clear c6b0
          obtain ⟨kq, x12_4, rfl, HA, HJ4, ⟨mc4, rfl⟩⟩ := hcut
          cases kq with
          | zero => exact absurd HA.out (by simp [utf8_RuneLen.j0])
          | succ kj4 =>
            have H := HA.out
            clear HA
            simp only [utf8_RuneLen.j0] at H
            by_cases c7 : x12_4 = true
            · subst c7
              have H1 : (some (-1)) = some r := by rw [if_pos rfl] at H; exact H
              clear H
              have H := H1
              clear H1
              obtain rfl := Option.some.inj H
              go_wp2
              go_ret
              exact ⟨by first | rfl | (simp; done) | (simp [*]; done), by repeat (first | exact Drawn0.refl _ | apply Drawn0.step)⟩
            · replace c7 := Bool.eq_false_iff.mpr c7
              subst c7
              have H1 : (if a0 ≤ 65535 then (some 3) else (if a0 ≤ 1114111 then (some 4) else (some (-1)))) = some r := by rw [if_neg (show ¬ (false = true) by decide)] at H; exact H
              clear H
              have H := H1
              clear H1
              by_cases c8 : a0 ≤ 65535
              · rw [if_pos c8] at H
                have c8b0 : decide (a0 ≤ 65535) = true := decide_eq_true c8
                clear c8
                obtain rfl := Option.some.inj H
                go_wp2
                go_ret
                exact ⟨by first | rfl | (simp; done) | (simp [*]; done), by repeat (first | exact Drawn0.refl _ | apply Drawn0.step)⟩
              · rw [if_neg c8] at H
                have c8b0 : decide (a0 ≤ 65535) = false := decide_eq_false c8
                clear c8
                by_cases c9 : a0 ≤ 1114111
                · rw [if_pos c9] at H
                  have c9b0 : decide (a0 ≤ 1114111) = true := decide_eq_true c9
                  clear c9
                  obtain rfl := Option.some.inj H
                  go_wp2
                  go_ret
                  exact ⟨by first | rfl | (simp; done) | (simp [*]; done), by repeat (first | exact Drawn0.refl _ | apply Drawn0.step)⟩
                · rw [if_neg c9] at H
                  have c9b0 : decide (a0 ≤ 1114111) = false := decide_eq_false c9
                  clear c9
                  obtain rfl := Option.some.inj H
                  go_wp2
                  go_ret
                  exact ⟨by first | rfl | (simp; done) | (simp [*]; done), by repeat (first | exact Drawn0.refl _ | apply Drawn0.step)⟩

/-! ### runes_size: function 33 -/
def runes_size.f (k : Nat) (a0 : Int) : Option (Int) := (utf8_RuneLen.f k (wrap32 (a0))).bind fun t101 => (some t101)
theorem runes_size.mono : ∀ a0 k, LeO (runes_size.f k a0) (runes_size.f (k + 1) a0) := by
  intro a0 k
  unfold runes_size.f
  repeat' first
      | (with_reducible exact utf8_RuneLen.mono _ _)
      | (with_reducible exact LeO.refl _)
      | (with_reducible exact LeO.none _)
      | (with_reducible refine LeO.ite ?_ ?_)
      | (with_reducible refine LeO.bind ?_ (fun _ => ?_))
      | exact utf8_RuneLen.mono _ _
      | exact LeO.none _
      | refine LeO.ite ?_ ?_
      | refine LeO.bind ?_ (fun _ => ?_)
set_option maxHeartbeats 8000000 in
set_option maxRecDepth 100000 in
theorem runes_size.calls (k : Nat) (a0 : Int) (r : Int) (w : World) (h : runes_size.f k a0 = some r) :
    Calls Tryd.prog 33 #[.int .i64 a0] w fun e w' => e = .returned (.int .i64 r) ∧ Drawn0 w w' := by
  have H : ((utf8_RuneLen.f k (wrap32 (a0))).bind fun t101 => (some t101)) = some r := h
  clear h
  replace H := Option.bind_eq_some_iff.mp H
  obtain ⟨t101, A20, H⟩ := H
  replace H : (some t101) = some r := H
  have A2 := Aside0.mk A20
  clear A20
  obtain rfl := Option.some.inj H
  go_enter Tryd.func33, Tryd.ntmps33
  go_wp2_with (first | ((with_reducible refine gate_callee (f := 35) rfl ?_); refine goesL_ (some 5) rfl rfl Tryd.func35 (by kernel_rfl) rfl #[.int .i32 (wrap32 (a0))] rfl (by (try simp only [List.map_toArray, List.map_cons, List.map_nil]); first | done | rfl | (simp only [List.length_drop, List.length_take]; rfl)) ?_; (with_reducible refine (utf8_RuneLen.calls k (wrap32 (a0)) t101 _ A2.out).mono ?_); rintro e w' ⟨rfl, ⟨nd, rfl⟩⟩; refine ⟨_, rfl, ?_⟩))
  go_ret
  exact ⟨by first | rfl | (simp; done) | (simp [*]; done), by repeat (first | exact Drawn0.refl _ | apply Drawn0.step)⟩

/-! ### runes_cut: function 26 -/
mutual
def runes_cut.l0 : Nat → Int → Int → Int → Int → Int → Option ((List (S34)))
  | 0, _, _, _, _, _ => none
  | k + 1, x0, x1, x5, x10, x11 => if x11 < x10 then (if (wrap64 (x5 * 64)) = 0 then (none) else (if (wrap64 (Int.tdiv x0 (wrap64 (x5 * 64)))) = (wrap64 (Int.tdiv x1 (wrap64 (x5 * 64)))) then (runes_cut.l0 k x0 x1 (wrap64 (x5 * 64)) x10 (wrap64 (x11 + 1))) else (if (Int.tmod x0 (wrap64 (x5 * 64))) = 0 then (if (Int.tmod (wrap64 (x1 + 1)) (wrap64 (x5 * 64))) = 0 then (runes_cut.l0 k x0 x1 (wrap64 (x5 * 64)) x10 (wrap64 (x11 + 1))) else ((runes_cut.f k x0 (wrap64 ((wrap64 ((wrap64 (Int.tdiv x1 (wrap64 (x5 * 64)))) * (wrap64 (x5 * 64)))) - 1))).bind fun t115 => ((runes_cut.f k (wrap64 ((wrap64 (Int.tdiv x1 (wrap64 (x5 * 64)))) * (wrap64 (x5 * 64)))) x1).bind fun t118 => (if t115.length + t118.length < 8796093022208 then (some (t115 ++ t118)) else (none))))) else ((runes_cut.f k x0 (wrap64 ((wrap64 ((wrap64 ((wrap64 (Int.tdiv x0 (wrap64 (x5 * 64)))) + 1)) * (wrap64 (x5 * 64)))) - 1))).bind fun t106 => ((runes_cut.f k (wrap64 ((wrap64 ((wrap64 ((wrap64 ((wrap64 (Int.tdiv x0 (wrap64 (x5 * 64)))) + 1)) * (wrap64 (x5 * 64)))) - 1)) + 1)) x1).bind fun t109 => (if t106.length + t109.length < 8796093022208 then (some (t106 ++ t109)) else (none))))))) else (some (([(⟨x0, x1⟩ : S34)] : List (S34))))
def runes_cut.f : Nat → Int → Int → Option ((List (S34)))
  | 0, _, _ => none
  | k + 1, a0, a1 => (runes_size.f k a0).bind fun t102 => (runes_cut.l0 k a0 a1 1 (wrap64 (t102 - 1)) 0)
end
theorem runes_cut.mono_l : ∀ k, (∀ y0 y1, LeO (runes_cut.f k y0 y1) (runes_cut.f (k + 1) y0 y1)) ∧ (∀ y0 y1 y2 y3 y4, LeO (runes_cut.l0 k y0 y1 y2 y3 y4) (runes_cut.l0 (k + 1) y0 y1 y2 y3 y4))
  | 0 => ⟨fun _ _ r h => by simp [runes_cut.f] at h, fun _ _ _ _ _ r h => by simp [runes_cut.l0] at h⟩
  | k + 1 => by
    obtain ⟨ih0, ih1⟩ := runes_cut.mono_l k
    refine ⟨?_, ?_⟩
    · intro y0 y1
      unfold runes_cut.f
      repeat' first
      | (with_reducible exact ih0 _ _)
      | (with_reducible exact ih1 _ _ _ _ _)
      | (with_reducible exact runes_size.mono _ _)
      | (with_reducible exact LeO.refl _)
      | (with_reducible exact LeO.none _)
      | (with_reducible refine LeO.ite ?_ ?_)
      | (with_reducible refine LeO.bind ?_ (fun _ => ?_))
      | exact ih0 _ _
      | exact ih1 _ _ _ _ _
      | exact runes_size.mono _ _
      | exact LeO.none _
      | refine LeO.ite ?_ ?_
      | refine LeO.bind ?_ (fun _ => ?_)
    · intro y0 y1 y2 y3 y4
      unfold runes_cut.l0
      repeat' first
      | (with_reducible exact ih0 _ _)
      | (with_reducible exact ih1 _ _ _ _ _)
      | (with_reducible exact runes_size.mono _ _)
      | (with_reducible exact LeO.refl _)
      | (with_reducible exact LeO.none _)
      | (with_reducible refine LeO.ite ?_ ?_)
      | (with_reducible refine LeO.bind ?_ (fun _ => ?_))
      | exact ih0 _ _
      | exact ih1 _ _ _ _ _
      | exact runes_size.mono _ _
      | exact LeO.none _
      | refine LeO.ite ?_ ?_
      | refine LeO.bind ?_ (fun _ => ?_)
theorem runes_cut.mono : ∀ a0 a1 k, LeO (runes_cut.f k a0 a1) (runes_cut.f (k + 1) a0 a1) := by
  intro a0 a1 k
  obtain ⟨ih0, ih1⟩ := runes_cut.mono_l k
  exact ih0 a0 a1
set_option maxHeartbeats 8000000 in
set_option maxRecDepth 100000 in
theorem runes_cut.calls (k : Nat) : ∀ (a0 : Int) (a1 : Int) (r : List (S34)) (w : World) (h : runes_cut.f k a0 a1 = some r),
    Calls Tryd.prog 26 #[.int .i64 a0, .int .i64 a1] w fun e w' => ∃ v0_ : Value, e = .returned (v0_) ∧ Kd.R k34 34 w' w.heap.size (fun _ => True) v0_ r ∧ Below w.heap.size w w' := by
  induction k using Nat.strongRecOn with
  | _ k ih =>
  intro a0 a1 r w h
  cases k with
  | zero => exact absurd h (by simp [runes_cut.f])
  | succ k =>
  simp only [runes_cut.f] at h
  have hu34 := Tryd.underlying34
  have HB := Aside0.mk (Below.refl w.heap.size w)
  have H : ((runes_size.f k a0).bind fun t102 => (runes_cut.l0 k a0 a1 1 (wrap64 (t102 - 1)) 0)) = some r := h
  clear h
  replace H := Option.bind_eq_some_iff.mp H
  obtain ⟨t102, A30, H⟩ := H
  replace H : (runes_cut.l0 k a0 a1 1 (wrap64 (t102 - 1)) 0) = some r := H
  have A3 := Aside0.mk A30
  clear A30
  have H' := Aside0.mk H
  clear H
  go_enter Tryd.func26, Tryd.ntmps26
  go_wp2_with (first | (go_at_call 33; (with_reducible refine (runes_size.calls k a0 t102 _ A3.out).mono ?_); rintro e w' ⟨rfl, ⟨nd, rfl⟩⟩; (try first | exact ⟨rfl, _, World.drewN_drewN _ _ _⟩ | exact ⟨rfl, _, Eq.trans (World.drewN_drewN _ _ _) (congrArg (World.drewN _) (Nat.add_assoc _ _ _))⟩)))
  repeat (go_quiet (first | (go_at_call 33; (with_reducible refine (runes_size.calls k a0 t102 _ A3.out).mono ?_); rintro e w' ⟨rfl, ⟨nd, rfl⟩⟩; (try first | exact ⟨rfl, _, World.drewN_drewN _ _ _⟩ | exact ⟨rfl, _, Eq.trans (World.drewN_drewN _ _ _) (congrArg (World.drewN _) (Nat.add_assoc _ _ _))⟩))); try go_wp2_with (first | (go_at_call 33; (with_reducible refine (runes_size.calls k a0 t102 _ A3.out).mono ?_); rintro e w' ⟨rfl, ⟨nd, rfl⟩⟩; (try first | exact ⟨rfl, _, World.drewN_drewN _ _ _⟩ | exact ⟨rfl, _, Eq.trans (World.drewN_drewN _ _ _) (congrArg (World.drewN _) (Nat.add_assoc _ _ _))⟩))))
  go_loopg [5, 11] k (fun kq v5 v11 w' => ∃ (x5_1 : Int) (x11_1 : Int), v5 = .int .i64 x5_1 ∧ v11 = .int .i64 x11_1 ∧ Aside0 (runes_cut.l0 kq a0 a1 x5_1 (wrap64 (t102 - 1)) x11_1 = some r) ∧ Aside0 (kq ≤ k) ∧ Aside0 (Below w.heap.size w w'))
  case atStart => exact ⟨(1), (0), (by first | rfl | (simp; done) | (simp [*]; done)), (by first | rfl | (simp; done) | (simp [*]; done)), H', ⟨Nat.le_refl _⟩, ⟨by repeat (first | (with_reducible first | exact HB.out | apply below_alloc | apply pw_below_drewN | apply below_drew1) | exact HB.out)⟩⟩
  case round =>
    clear H'
    try clear c2
    try clear p2
    obtain ⟨x5_1, x11_1, rfl, rfl, HA, HK1, HB⟩ := hrel
    cases gk with
    | zero => exact absurd HA.out (by simp [runes_cut.l0])
    | succ k1 =>
      have H := HA.out
      clear HA
      simp only [runes_cut.l0] at H
      by_cases c4 : x11_1 < (wrap64 (t102 - 1))
      · rw [if_pos c4] at H
        have c4b0 : decide (x11_1 < (wrap64 (t102 - 1))) = true := decide_eq_true c4
        clear c4
        by_cases c5 : (wrap64 (x5_1 * 64)) = 0
        · rw [if_pos c5] at H
          exact absurd H (by simp)
        · rw [if_neg c5] at H
          have c5b0 : ((wrap64 (x5_1 * 64)) == 0) = false := beq_eq_false_iff_ne.mpr c5
          have c5b1 : ((wrap64 (x5_1 * 64)) != 0) = true := bne_iff_ne.mpr c5
          by_cases c6 : (wrap64 (Int.tdiv a0 (wrap64 (x5_1 * 64)))) = (wrap64 (Int.tdiv a1 (wrap64 (x5_1 * 64))))
          · rw [if_pos c6] at H
            have c6b0 : ((wrap64 (Int.tdiv a0 (wrap64 (x5_1 * 64)))) == (wrap64 (Int.tdiv a1 (wrap64 (x5_1 * 64))))) = true := beq_iff_eq.mpr c6
            have c6b1 : ((wrap64 (Int.tdiv a0 (wrap64 (x5_1 * 64)))) != (wrap64 (Int.tdiv a1 (wrap64 (x5_1 * 64))))) = false := bne_eq_false_iff_eq.mpr c6
            clear c6
            have H' := Aside0.mk H
            clear H
            go_wp2
            repeat (go_quiet (fail); try go_wp2)
            go_roundg k1
            case measure => have := HK1.out; omega
            case rel => exact ⟨(wrap64 (x5_1 * 64)), (wrap64 (x11_1 + 1)), (by first | rfl | (simp; done) | (simp [*]; done)), (by first | rfl | (simp; done) | (simp [*]; done)), H', ⟨by have := HK1.out; omega⟩, ⟨by repeat (first | (with_reducible first | exact HB.out | apply below_alloc | apply pw_below_drewN | apply below_drew1) | exact HB.out)⟩⟩
          · rw [if_neg c6] at H
            have c6b0 : ((wrap64 (Int.tdiv a0 (wrap64 (x5_1 * 64)))) == (wrap64 (Int.tdiv a1 (wrap64 (x5_1 * 64))))) = false := beq_eq_false_iff_ne.mpr c6
            have c6b1 : ((wrap64 (Int.tdiv a0 (wrap64 (x5_1 * 64)))) != (wrap64 (Int.tdiv a1 (wrap64 (x5_1 * 64))))) = true := bne_iff_ne.mpr c6
            by_cases c7 : (Int.tmod a0 (wrap64 (x5_1 * 64))) = 0
            · rw [if_pos c7] at H
              have c7b0 : ((Int.tmod a0 (wrap64 (x5_1 * 64))) == 0) = true := beq_iff_eq.mpr c7
              have c7b1 : ((Int.tmod a0 (wrap64 (x5_1 * 64))) != 0) = false := bne_eq_false_iff_eq.mpr c7
              clear c7
              by_cases c8 : (Int.tmod (wrap64 (a1 + 1)) (wrap64 (x5_1 * 64))) = 0
              · rw [if_pos c8] at H
                have c8b0 : ((Int.tmod (wrap64 (a1 + 1)) (wrap64 (x5_1 * 64))) == 0) = true := beq_iff_eq.mpr c8
                have c8b1 : ((Int.tmod (wrap64 (a1 + 1)) (wrap64 (x5_1 * 64))) != 0) = false := bne_eq_false_iff_eq.mpr c8
                clear c8
                have H' := Aside0.mk H
                clear H
                go_wp2
                repeat (go_quiet (fail); try go_wp2)
                go_roundg k1
                case measure => have := HK1.out; omega
                case rel => exact ⟨(wrap64 (x5_1 * 64)), (wrap64 (x11_1 + 1)), (by first | rfl | (simp; done) | (simp [*]; done)), (by first | rfl | (simp; done) | (simp [*]; done)), H', ⟨by have := HK1.out; omega⟩, ⟨by repeat (first | (with_reducible first | exact HB.out | apply below_alloc | apply pw_below_drewN | apply below_drew1) | exact HB.out)⟩⟩
              · rw [if_neg c8] at H
                have c8b0 : ((Int.tmod (wrap64 (a1 + 1)) (wrap64 (x5_1 * 64))) == 0) = false := beq_eq_false_iff_ne.mpr c8
                have c8b1 : ((Int.tmod (wrap64 (a1 + 1)) (wrap64 (x5_1 * 64))) != 0) = true := bne_iff_ne.mpr c8
                replace H := Option.bind_eq_some_iff.mp H
                obtain ⟨t115, A90, H⟩ := H
                replace H : ((runes_cut.f k1 (wrap64 ((wrap64 (Int.tdiv a1 (wrap64 (x5_1 * 64)))) * (wrap64 (x5_1 * 64)))) a1).bind fun t118 => (if t115.length + t118.length < 8796093022208 then (some (t115 ++ t118)) else (none))) = some r := H
                have A9 := Aside0.mk A90
                clear A90
                replace H := Option.bind_eq_some_iff.mp H
                obtain ⟨t118, A100, H⟩ := H
                replace H : (if t115.length + t118.length < 8796093022208 then (some (t115 ++ t118)) else (none)) = some r := H
                have A10 := Aside0.mk A100
                clear A100
                by_cases c11 : t115.length + t118.length < 8796093022208
                · rw [if_pos c11] at H
                  have LMc11 := Aside0.mk c11
                  clear c11
                  obtain ⟨y121, hy121⟩ : ∃ y_ : List (S34), y_ = (t115 ++ t118) := ⟨_, rfl⟩
                  replace H : (some y121) = some r := by first | (rw [hy121]; with_reducible exact H) | (have H2_ := (Option.bind_some _ _).symm.trans H; rw [hy121]; with_reducible exact H2_) | (have H2_ := (Option.bind_some _ _).symm.trans H; with_reducible exact H2_) | with_reducible exact H | (rw [hy121]; exact H) | exact H
                  have Ny121 := Aside0.mk hy121
                  clear hy121
                  obtain rfl := Option.some.inj H
                  go_wp2_with (first | (go_at_call 26; (with_reducible refine (ih k1 (by have := HK1.out; omega) a0 (wrap64 ((wrap64 ((wrap64 (Int.tdiv a1 (wrap64 (x5_1 * 64)))) * (wrap64 (x5_1 * 64)))) - 1)) t115 _ A9.out).mono ?_); rintro e w12 ⟨v116, rfl, ho0, hb⟩; have n0_ := Aside0.mk (Kd.R_lower ho0 (below_size (by repeat (first | (with_reducible first | exact HB.out | apply below_alloc | apply pw_below_drewN | apply below_drew1) | exact HB.out)))); have n1_ := Aside0.mk (below_step (by repeat (first | (with_reducible first | exact HB.out | apply below_alloc | apply pw_below_drewN | apply below_drew1) | exact HB.out)) hb); clear HB; have HO117 := n0_; have HB := n1_; clear n0_ n1_; (try clear hb); (try clear hb2); (try clear hk); (try clear hi); (try clear ho0)) | (go_at_call 26; (with_reducible refine (ih k1 (by have := HK1.out; omega) (wrap64 ((wrap64 (Int.tdiv a1 (wrap64 (x5_1 * 64)))) * (wrap64 (x5_1 * 64)))) a1 t118 _ A10.out).mono ?_); rintro e w13 ⟨v119, rfl, ho0, hb⟩; have n0_ := Aside0.mk (Kd.R_elder' (by (with_reducible repeat (first | apply Kd.R_alloc | apply Kd.R_drewN | apply Kd.R_drew)); exact HO117.out) (Kd.R_base ho0) hb); have n1_ := Aside0.mk (Kd.R_lower (Kd.R_new' ho0 (Kd.R_lt (by (with_reducible repeat (first | apply Kd.R_alloc | apply Kd.R_drewN | apply Kd.R_drew)); exact HO117.out))) (below_size (by repeat (first | (with_reducible first | exact HB.out | apply below_alloc | apply pw_below_drewN | apply below_drew1) | exact HB.out)))); have n2_ := Aside0.mk (below_step (by repeat (first | (with_reducible first | exact HB.out | apply below_alloc | apply pw_below_drewN | apply below_drew1) | exact HB.out)) hb); clear HO117; clear HB; have HO117 := n0_; have HO120 := n1_; have HB := n2_; clear n0_ n1_ n2_; (try clear hb); (try clear hb2); (try clear hk); (try clear hi); (try clear ho0); obtain ⟨Ao15, co15, eo15⟩ := Kd.R_slice HO120.out; subst eo15) | ((with_reducible refine gate_builtin (b := .append) (xs := #[.tmp 54, .tmp 57]) rfl ?_); at_builtin; refine Kd.R_append_rows k34 (w0 := w) w.heap.size rfl (.tmp 54) (.tmp 57) 30 34 (.agg #[(.int .i64 0), (.int .i64 0)]) 16 rfl Tryd.underlying30 info34 rfl (by decide) (by omega) v116 t115 t118 _ _ _ (fun k_ => some k_ ≠ (.slice Ao15 t118.length co15 : Value).ownBlock) (fun _ => False) rfl rfl ?aO ?aR (fun _ _ h => h) (fun _ h => h.elim) ?aF ?aB ?aS ?aL ?_; (case aR => repeat (first | exact (Kd.R_reads' HO120.out).2.2 | (with_reducible refine Kd.C_alloc ?_ _) | (with_reducible refine Kd.C_drewN ?_ _) | (with_reducible refine Kd.C_drew ?_))); (case aB => exact (by repeat (first | (with_reducible first | exact HB.out | apply below_alloc | apply pw_below_drewN | apply below_drew1) | exact HB.out))); (case aF => exact (fun k_ hk => Kd.fresh' (Kd.R_lt (by (with_reducible repeat (first | apply Kd.R_alloc | apply Kd.R_drewN | apply Kd.R_drew)); exact HO120.out)) k_ hk)); (case aO => exact (by (with_reducible repeat (first | apply Kd.R_alloc | apply Kd.R_drewN | apply Kd.R_drew)); exact Kd.R_mono HO117.out (fun _ hk => hk.2))); (case aS => exact (below_size (by repeat (first | (with_reducible first | exact HB.out | apply below_alloc | apply pw_below_drewN | apply below_drew1) | exact HB.out)))); (case aL => have := LMc11.out; omega); intro v122 w14 ho hb hg hat; rw [← Ny121.out] at ho; have n0_ := Aside0.mk (Kd.R_after (ok := (fun _ => True)) (by (with_reducible repeat (first | apply Kd.R_alloc | apply Kd.R_drewN | apply Kd.R_drew)); exact HO120.out) hg hat); have n1_ := Aside0.mk (hb); have n2_ := Aside0.mk (ho); clear HO120; clear HB; clear HO117; have HO120 := n0_; have HB := n1_; have HO123 := n2_; clear n0_ n1_ n2_; clear ho hb hg hat))
                  repeat (go_quiet (first | (go_at_call 26; (with_reducible refine (ih k1 (by have := HK1.out; omega) a0 (wrap64 ((wrap64 ((wrap64 (Int.tdiv a1 (wrap64 (x5_1 * 64)))) * (wrap64 (x5_1 * 64)))) - 1)) t115 _ A9.out).mono ?_); rintro e w12 ⟨v116, rfl, ho0, hb⟩; have n0_ := Aside0.mk (Kd.R_lower ho0 (below_size (by repeat (first | (with_reducible first | exact HB.out | apply below_alloc | apply pw_below_drewN | apply below_drew1) | exact HB.out)))); have n1_ := Aside0.mk (below_step (by repeat (first | (with_reducible first | exact HB.out | apply below_alloc | apply pw_below_drewN | apply below_drew1) | exact HB.out)) hb); clear HB; have HO117 := n0_; have HB := n1_; clear n0_ n1_; (try clear hb); (try clear hb2); (try clear hk); (try clear hi); (try clear ho0)) | (go_at_call 26; (with_reducible refine (ih k1 (by have := HK1.out; omega) (wrap64 ((wrap64 (Int.tdiv a1 (wrap64 (x5_1 * 64)))) * (wrap64 (x5_1 * 64)))) a1 t118 _ A10.out).mono ?_); rintro e w13 ⟨v119, rfl, ho0, hb⟩; have n0_ := Aside0.mk (Kd.R_elder' (by (with_reducible repeat (first | apply Kd.R_alloc | apply Kd.R_drewN | apply Kd.R_drew)); exact HO117.out) (Kd.R_base ho0) hb); have n1_ := Aside0.mk (Kd.R_lower (Kd.R_new' ho0 (Kd.R_lt (by (with_reducible repeat (first | apply Kd.R_alloc | apply Kd.R_drewN | apply Kd.R_drew)); exact HO117.out))) (below_size (by repeat (first | (with_reducible first | exact HB.out | apply below_alloc | apply pw_below_drewN | apply below_drew1) | exact HB.out)))); have n2_ := Aside0.mk (below_step (by repeat (first | (with_reducible first | exact HB.out | apply below_alloc | apply pw_below_drewN | apply below_drew1) | exact HB.out)) hb); clear HO117; clear HB; have HO117 := n0_; have HO120 := n1_; have HB := n2_; clear n0_ n1_ n2_; (try clear hb); (try clear hb2); (try clear hk); (try clear hi); (try clear ho0); obtain ⟨Ao15, co15, eo15⟩ := Kd.R_slice HO120.out; subst eo15) | ((with_reducible refine gate_builtin (b := .append) (xs := #[.tmp 54, .tmp 57]) rfl ?_); at_builtin; refine Kd.R_append_rows k34 (w0 := w) w.heap.size rfl (.tmp 54) (.tmp 57) 30 34 (.agg #[(.int .i64 0), (.int .i64 0)]) 16 rfl Tryd.underlying30 info34 rfl (by decide) (by omega) v116 t115 t118 _ _ _ (fun k_ => some k_ ≠ (.slice Ao15 t118.length co15 : Value).ownBlock) (fun _ => False) rfl rfl ?aO ?aR (fun _ _ h => h) (fun _ h => h.elim) ?aF ?aB ?aS ?aL ?_; (case aR => repeat (first | exact (Kd.R_reads' HO120.out).2.2 | (with_reducible refine Kd.C_alloc ?_ _) | (with_reducible refine Kd.C_drewN ?_ _) | (with_reducible refine Kd.C_drew ?_))); (case aB => exact (by repeat (first | (with_reducible first | exact HB.out | apply below_alloc | apply pw_below_drewN | apply below_drew1) | exact HB.out))); (case aF => exact (fun k_ hk => Kd.fresh' (Kd.R_lt (by (with_reducible repeat (first | apply Kd.R_alloc | apply Kd.R_drewN | apply Kd.R_drew)); exact HO120.out)) k_ hk)); (case aO => exact (by (with_reducible repeat (first | apply Kd.R_alloc | apply Kd.R_drewN | apply Kd.R_drew)); exact Kd.R_mono HO117.out (fun _ hk => hk.2))); (case aS => exact (below_size (by repeat (first | (with_reducible first | exact HB.out | apply below_alloc | apply pw_below_drewN | apply below_drew1) | exact HB.out)))); (case aL => have := LMc11.out; omega); intro v122 w14 ho hb hg hat; rw [← Ny121.out] at ho; have n0_ := Aside0.mk (Kd.R_after (ok := (fun _ => True)) (by (with_reducible repeat (first | apply Kd.R_alloc | apply Kd.R_drewN | apply Kd.R_drew)); exact HO120.out) hg hat); have n1_ := Aside0.mk (hb); have n2_ := Aside0.mk (ho); clear HO120; clear HB; clear HO117; have HO120 := n0_; have HB := n1_; have HO123 := n2_; clear n0_ n1_ n2_; clear ho hb hg hat)); try go_wp2_with (first | (go_at_call 26; (with_reducible refine (ih k1 (by have := HK1.out; omega) a0 (wrap64 ((wrap64 ((wrap64 (Int.tdiv a1 (wrap64 (x5_1 * 64)))) * (wrap64 (x5_1 * 64)))) - 1)) t115 _ A9.out).mono ?_); rintro e w12 ⟨v116, rfl, ho0, hb⟩; have n0_ := Aside0.mk (Kd.R_lower ho0 (below_size (by repeat (first | (with_reducible first | exact HB.out | apply below_alloc | apply pw_below_drewN | apply below_drew1) | exact HB.out)))); have n1_ := Aside0.mk (below_step (by repeat (first | (with_reducible first | exact HB.out | apply below_alloc | apply pw_below_drewN | apply below_drew1) | exact HB.out)) hb); clear HB; have HO117 := n0_; have HB := n1_; clear n0_ n1_; (try clear hb); (try clear hb2); (try clear hk); (try clear hi); (try clear ho0)) | (go_at_call 26; (with_reducible refine (ih k1 (by have := HK1.out; omega) (wrap64 ((wrap64 (Int.tdiv a1 (wrap64 (x5_1 * 64)))) * (wrap64 (x5_1 * 64)))) a1 t118 _ A10.out).mono ?_); rintro e w13 ⟨v119, rfl, ho0, hb⟩; have n0_ := Aside0.mk (Kd.R_elder' (by (with_reducible repeat (first | apply Kd.R_alloc | apply Kd.R_drewN | apply Kd.R_drew)); exact HO117.out) (Kd.R_base ho0) hb); have n1_ := Aside0.mk (Kd.R_lower (Kd.R_new' ho0 (Kd.R_lt (by (with_reducible repeat (first | apply Kd.R_alloc | apply Kd.R_drewN | apply Kd.R_drew)); exact HO117.out))) (below_size (by repeat (first | (with_reducible first | exact HB.out | apply below_alloc | apply pw_below_drewN | apply below_drew1) | exact HB.out)))); have n2_ := Aside0.mk (below_step (by repeat (first | (with_reducible first | exact HB.out | apply below_alloc | apply pw_below_drewN | apply below_drew1) | exact HB.out)) hb); clear HO117; clear HB; have HO117 := n0_; have HO120 := n1_; have HB := n2_; clear n0_ n1_ n2_; (try clear hb); (try clear hb2); (try clear hk); (try clear hi); (try clear ho0); obtain ⟨Ao15, co15, eo15⟩ := Kd.R_slice HO120.out; subst eo15) | ((with_reducible refine gate_builtin (b := .append) (xs := #[.tmp 54, .tmp 57]) rfl ?_); at_builtin; refine Kd.R_append_rows k34 (w0 := w) w.heap.size rfl (.tmp 54) (.tmp 57) 30 34 (.agg #[(.int .i64 0), (.int .i64 0)]) 16 rfl Tryd.underlying30 info34 rfl (by decide) (by omega) v116 t115 t118 _ _ _ (fun k_ => some k_ ≠ (.slice Ao15 t118.length co15 : Value).ownBlock) (fun _ => False) rfl rfl ?aO ?aR (fun _ _ h => h) (fun _ h => h.elim) ?aF ?aB ?aS ?aL ?_; (case aR => repeat (first | exact (Kd.R_reads' HO120.out).2.2 | (with_reducible refine Kd.C_alloc ?_ _) | (with_reducible refine Kd.C_drewN ?_ _) | (with_reducible refine Kd.C_drew ?_))); (case aB => exact (by repeat (first | (with_reducible first | exact HB.out | apply below_alloc | apply pw_below_drewN | apply below_drew1) | exact HB.out))); (case aF => exact (fun k_ hk => Kd.fresh' (Kd.R_lt (by (with_reducible repeat (first | apply Kd.R_alloc | apply Kd.R_drewN | apply Kd.R_drew)); exact HO120.out)) k_ hk)); (case aO => exact (by (with_reducible repeat (first | apply Kd.R_alloc | apply Kd.R_drewN | apply Kd.R_drew)); exact Kd.R_mono HO117.out (fun _ hk => hk.2))); (case aS => exact (below_size (by repeat (first | (with_reducible first | exact HB.out | apply below_alloc | apply pw_below_drewN | apply below_drew1) | exact HB.out)))); (case aL => have := LMc11.out; omega); intro v122 w14 ho hb hg hat; rw [← Ny121.out] at ho; have n0_ := Aside0.mk (Kd.R_after (ok := (fun _ => True)) (by (with_reducible repeat (first | apply Kd.R_alloc | apply Kd.R_drewN | apply Kd.R_drew)); exact HO120.out) hg hat); have n1_ := Aside0.mk (hb); have n2_ := Aside0.mk (ho); clear HO120; clear HB; clear HO117; have HO120 := n0_; have HB := n1_; have HO123 := n2_; clear n0_ n1_ n2_; clear ho hb hg hat)))
                  go_ret
                  exact ⟨_, by first | rfl | (simp [errW_none, errW_some] <;> rfl) | (simp [*, errW_none, errW_some] <;> rfl), by (with_reducible repeat (first | apply Kd.R_alloc | apply Kd.R_drewN | apply Kd.R_drew)); exact Kd.R_mono HO123.out (fun _ hk => trivial), by repeat (first | (with_reducible first | exact HB.out | apply below_alloc | apply pw_below_drewN | apply below_drew1) | exact HB.out)⟩
                · rw [if_neg c11] at H
                  exact absurd H (by simp)
            · rw [if_neg c7] at H
              have c7b0 : ((Int.tmod a0 (wrap64 (x5_1 * 64))) == 0) = false := beq_eq_false_iff_ne.mpr c7
              have c7b1 : ((Int.tmod a0 (wrap64 (x5_1 * 64))) != 0) = true := bne_iff_ne.mpr c7
              replace H := Option.bind_eq_some_iff.mp H
              obtain ⟨t106, A160, H⟩ := H
              replace H : ((runes_cut.f k1 (wrap64 ((wrap64 ((wrap64 ((wrap64 ((wrap64 (Int.tdiv a0 (wrap64 (x5_1 * 64)))) + 1)) * (wrap64 (x5_1 * 64)))) - 1)) + 1)) a1).bind fun t109 => (if t106.length + t109.length < 8796093022208 then (some (t106 ++ t109)) else (none))) = some r := H
              have A16 := Aside0.mk A160
              clear A160
              replace H := Option.bind_eq_some_iff.mp H
              obtain ⟨t109, A170, H⟩ := H
              replace H : (if t106.length + t109.length < 8796093022208 then (some (t106 ++ t109)) else (none)) = some r := H
              have A17 := Aside0.mk A170
              clear A170
              by_cases c18 : t106.length + t109.length < 8796093022208
              · rw [if_pos c18] at H
                have LMc18 := Aside0.mk c18
                clear c18
                obtain ⟨y112, hy112⟩ : ∃ y_ : List (S34), y_ = (t106 ++ t109) := ⟨_, rfl⟩
                replace H : (some y112) = some r := by first | (rw [hy112]; with_reducible exact H) | (have H2_ := (Option.bind_some _ _).symm.trans H; rw [hy112]; with_reducible exact H2_) | (have H2_ := (Option.bind_some _ _).symm.trans H; with_reducible exact H2_) | with_reducible exact H | (rw [hy112]; exact H) | exact H
                have Ny112 := Aside0.mk hy112
                clear hy112
                obtain rfl := Option.some.inj H
                go_wp2_with (first | (go_at_call 26; (with_reducible refine (ih k1 (by have := HK1.out; omega) a0 (wrap64 ((wrap64 ((wrap64 ((wrap64 (Int.tdiv a0 (wrap64 (x5_1 * 64)))) + 1)) * (wrap64 (x5_1 * 64)))) - 1)) t106 _ A16.out).mono ?_); rintro e w19 ⟨v107, rfl, ho0, hb⟩; have n0_ := Aside0.mk (Kd.R_lower ho0 (below_size (by repeat (first | (with_reducible first | exact HB.out | apply below_alloc | apply pw_below_drewN | apply below_drew1) | exact HB.out)))); have n1_ := Aside0.mk (below_step (by repeat (first | (with_reducible first | exact HB.out | apply below_alloc | apply pw_below_drewN | apply below_drew1) | exact HB.out)) hb); clear HB; have HO108 := n0_; have HB := n1_; clear n0_ n1_; (try clear hb); (try clear hb2); (try clear hk); (try clear hi); (try clear ho0)) | (go_at_call 26; (with_reducible refine (ih k1 (by have := HK1.out; omega) (wrap64 ((wrap64 ((wrap64 ((wrap64 ((wrap64 (Int.tdiv a0 (wrap64 (x5_1 * 64)))) + 1)) * (wrap64 (x5_1 * 64)))) - 1)) + 1)) a1 t109 _ A17.out).mono ?_); rintro e w20 ⟨v110, rfl, ho0, hb⟩; have n0_ := Aside0.mk (Kd.R_elder' (by (with_reducible repeat (first | apply Kd.R_alloc | apply Kd.R_drewN | apply Kd.R_drew)); exact HO108.out) (Kd.R_base ho0) hb); have n1_ := Aside0.mk (Kd.R_lower (Kd.R_new' ho0 (Kd.R_lt (by (with_reducible repeat (first | apply Kd.R_alloc | apply Kd.R_drewN | apply Kd.R_drew)); exact HO108.out))) (below_size (by repeat (first | (with_reducible first | exact HB.out | apply below_alloc | apply pw_below_drewN | apply below_drew1) | exact HB.out)))); have n2_ := Aside0.mk (below_step (by repeat (first | (with_reducible first | exact HB.out | apply below_alloc | apply pw_below_drewN | apply below_drew1) | exact HB.out)) hb); clear HO108; clear HB; have HO108 := n0_; have HO111 := n1_; have HB := n2_; clear n0_ n1_ n2_; (try clear hb); (try clear hb2); (try clear hk); (try clear hi); (try clear ho0); obtain ⟨Ao22, co22, eo22⟩ := Kd.R_slice HO111.out; subst eo22) | ((with_reducible refine gate_builtin (b := .append) (xs := #[.tmp 35, .tmp 39]) rfl ?_); at_builtin; refine Kd.R_append_rows k34 (w0 := w) w.heap.size rfl (.tmp 35) (.tmp 39) 30 34 (.agg #[(.int .i64 0), (.int .i64 0)]) 16 rfl Tryd.underlying30 info34 rfl (by decide) (by omega) v107 t106 t109 _ _ _ (fun k_ => some k_ ≠ (.slice Ao22 t109.length co22 : Value).ownBlock) (fun _ => False) rfl rfl ?aO ?aR (fun _ _ h => h) (fun _ h => h.elim) ?aF ?aB ?aS ?aL ?_; (case aR => repeat (first | exact (Kd.R_reads' HO111.out).2.2 | (with_reducible refine Kd.C_alloc ?_ _) | (with_reducible refine Kd.C_drewN ?_ _) | (with_reducible refine Kd.C_drew ?_))); (case aB => exact (by repeat (first | (with_reducible first | exact HB.out | apply below_alloc | apply pw_below_drewN | apply below_drew1) | exact HB.out))); (case aF => exact (fun k_ hk => Kd.fresh' (Kd.R_lt (by (with_reducible repeat (first | apply Kd.R_alloc | apply Kd.R_drewN | apply Kd.R_drew)); exact HO111.out)) k_ hk)); (case aO => exact (by (with_reducible repeat (first | apply Kd.R_alloc | apply Kd.R_drewN | apply Kd.R_drew)); exact Kd.R_mono HO108.out (fun _ hk => hk.2))); (case aS => exact (below_size (by repeat (first | (with_reducible first | exact HB.out | apply below_alloc | apply pw_below_drewN | apply below_drew1) | exact HB.out)))); (case aL => have := LMc18.out; omega); intro v113 w21 ho hb hg hat; rw [← Ny112.out] at ho; have n0_ := Aside0.mk (Kd.R_after (ok := (fun _ => True)) (by (with_reducible repeat (first | apply Kd.R_alloc | apply Kd.R_drewN | apply Kd.R_drew)); exact HO111.out) hg hat); have n1_ := Aside0.mk (hb); have n2_ := Aside0.mk (ho); clear HO111; clear HB; clear HO108; have HO111 := n0_; have HB := n1_; have HO114 := n2_; clear n0_ n1_ n2_; clear ho hb hg hat))
                repeat (go_quiet (first | (go_at_call 26; (with_reducible refine (ih k1 (by have := HK1.out; omega) a0 (wrap64 ((wrap64 ((wrap64 ((wrap64 (Int.tdiv a0 (wrap64 (x5_1 * 64)))) + 1)) * (wrap64 (x5_1 * 64)))) - 1)) t106 _ A16.out).mono ?_); rintro e w19 ⟨v107, rfl, ho0, hb⟩; have n0_ := Aside0.mk (Kd.R_lower ho0 (below_size (by repeat (first | (with_reducible first | exact HB.out | apply below_alloc | apply pw_below_drewN | apply below_drew1) | exact HB.out)))); have n1_ := Aside0.mk (below_step (by repeat (first | (with_reducible first | exact HB.out | apply below_alloc | apply pw_below_drewN | apply below_drew1) | exact HB.out)) hb); clear HB; have HO108 := n0_; have HB := n1_; clear n0_ n1_; (try clear hb); (try clear hb2); (try clear hk); (try clear hi); (try clear ho0)) | (go_at_call 26; (with_reducible refine (ih k1 (by have := HK1.out; omega) (wrap64 ((wrap64 ((wrap64 ((wrap64 ((wrap64 (Int.tdiv a0 (wrap64 (x5_1 * 64)))) + 1)) * (wrap64 (x5_1 * 64)))) - 1)) + 1)) a1 t109 _ A17.out).mono ?_); rintro e w20 ⟨v110, rfl, ho0, hb⟩; have n0_ := Aside0.mk (Kd.R_elder' (by (with_reducible repeat (first | apply Kd.R_alloc | apply Kd.R_drewN | apply Kd.R_drew)); exact HO108.out) (Kd.R_base ho0) hb); have n1_ := Aside0.mk (Kd.R_lower (Kd.R_new' ho0 (Kd.R_lt (by (with_reducible repeat (first | apply Kd.R_alloc | apply Kd.R_drewN | apply Kd.R_drew)); exact HO108.out))) (below_size (by repeat (first | (with_reducible first | exact HB.out | apply below_alloc | apply pw_below_drewN | apply below_drew1) | exact HB.out)))); have n2_ := Aside0.mk (below_step (by repeat (first | (with_reducible first | exact HB.out | apply below_alloc | apply pw_below_drewN | apply below_drew1) | exact HB.out)) hb); clear HO108; clear HB; have HO108 := n0_; have HO111 := n1_; have HB := n2_; clear n0_ n1_ n2_; (try clear hb); (try clear hb2); (try clear hk); (try clear hi); (try clear ho0); obtain ⟨Ao22, co22, eo22⟩ := Kd.R_slice HO111.out; subst eo22) | ((with_reducible refine gate_builtin (b := .append) (xs := #[.tmp 35, .tmp 39]) rfl ?_); at_builtin; refine Kd.R_append_rows k34 (w0 := w) w.heap.size rfl (.tmp 35) (.tmp 39) 30 34 (.agg #[(.int .i64 0), (.int .i64 0)]) 16 rfl Tryd.underlying30 info34 rfl (by decide) (by omega) v107 t106 t109 _ _ _ (fun k_ => some k_ ≠ (.slice Ao22 t109.length co22 : Value).ownBlock) (fun _ => False) rfl rfl ?aO ?aR (fun _ _ h => h) (fun _ h => h.elim) ?aF ?aB ?aS ?aL ?_; (case aR => repeat (first | exact (Kd.R_reads' HO111.out).2.2 | (with_reducible refine Kd.C_alloc ?_ _) | (with_reducible refine Kd.C_drewN ?_ _) | (with_reducible refine Kd.C_drew ?_))); (case aB => exact (by repeat (first | (with_reducible first | exact HB.out | apply below_alloc | apply pw_below_drewN | apply below_drew1) | exact HB.out))); (case aF => exact (fun k_ hk => Kd.fresh' (Kd.R_lt (by (with_reducible repeat (first | apply Kd.R_alloc | apply Kd.R_drewN | apply Kd.R_drew)); exact HO111.out)) k_ hk)); (case aO => exact (by (with_reducible repeat (first | apply Kd.R_alloc | apply Kd.R_drewN | apply Kd.R_drew)); exact Kd.R_mono HO108.out (fun _ hk => hk.2))); (case aS => exact (below_size (by repeat (first | (with_reducible first | exact HB.out | apply below_alloc | apply pw_below_drewN | apply below_drew1) | exact HB.out)))); (case aL => have := LMc18.out; omega); intro v113 w21 ho hb hg hat; rw [← Ny112.out] at ho; have n0_ := Aside0.mk (Kd.R_after (ok := (fun _ => True)) (by (with_reducible repeat (first | apply Kd.R_alloc | apply Kd.R_drewN | apply Kd.R_drew)); exact HO111.out) hg hat); have n1_ := Aside0.mk (hb); have n2_ := Aside0.mk (ho); clear HO111; clear HB; clear HO108; have HO111 := n0_; have HB := n1_; have HO114 := n2_; clear n0_ n1_ n2_; clear ho hb hg hat)); try go_wp2_with (first | (go_at_call 26; (with_reducible refine (ih k1 (by have := HK1.out; omega) a0 (wrap64 ((wrap64 ((wrap64 ((wrap64 (Int.tdiv a0 (wrap64 (x5_1 * 64)))) + 1)) * (wrap64 (x5_1 * 64)))) - 1)) t106 _ A16.out).mono ?_); rintro e w19 ⟨v107, rfl, ho0, hb⟩; have n0_ := Aside0.mk (Kd.R_lower ho0 (below_size (by repeat (first | (with_reducible first | exact HB.out | apply below_alloc | apply pw_below_drewN | apply below_drew1) | exact HB.out)))); have n1_ := Aside0.mk (below_step (by repeat (first | (with_reducible first | exact HB.out | apply below_alloc | apply pw_below_drewN | apply below_drew1) | exact HB.out)) hb); clear HB; have HO108 := n0_; have HB := n1_; clear n0_ n1_; (try clear hb); (try clear hb2); (try clear hk); (try clear hi); (try clear ho0)) | (go_at_call 26; (with_reducible refine (ih k1 (by have := HK1.out; omega) (wrap64 ((wrap64 ((wrap64 ((wrap64 ((wrap64 (Int.tdiv a0 (wrap64 (x5_1 * 64)))) + 1)) * (wrap64 (x5_1 * 64)))) - 1)) + 1)) a1 t109 _ A17.out).mono ?_); rintro e w20 ⟨v110, rfl, ho0, hb⟩; have n0_ := Aside0.mk (Kd.R_elder' (by (with_reducible repeat (first | apply Kd.R_alloc | apply Kd.R_drewN | apply Kd.R_drew)); exact HO108.out) (Kd.R_base ho0) hb); have n1_ := Aside0.mk (Kd.R_lower (Kd.R_new' ho0 (Kd.R_lt (by (with_reducible repeat (first | apply Kd.R_alloc | apply Kd.R_drewN | apply Kd.R_drew)); exact HO108.out))) (below_size (by repeat (first | (with_reducible first | exact HB.out | apply below_alloc | apply pw_below_drewN | apply below_drew1) | exact HB.out)))); have n2_ := Aside0.mk (below_step (by repeat (first | (with_reducible first | exact HB.out | apply below_alloc | apply pw_below_drewN | apply below_drew1) | exact HB.out)) hb); clear HO108; clear HB; have HO108 := n0_; have HO111 := n1_; have HB := n2_; clear n0_ n1_ n2_; (try clear hb); (try clear hb2); (try clear hk); (try clear hi); (try clear ho0); obtain ⟨Ao22, co22, eo22⟩ := Kd.R_slice HO111.out; subst eo22) | ((with_reducible refine gate_builtin (b := .append) (xs := #[.tmp 35, .tmp 39]) rfl ?_); at_builtin; refine Kd.R_append_rows k34 (w0 := w) w.heap.size rfl (.tmp 35) (.tmp 39) 30 34 (.agg #[(.int .i64 0), (.int .i64 0)]) 16 rfl Tryd.underlying30 info34 rfl (by decide) (by omega) v107 t106 t109 _ _ _ (fun k_ => some k_ ≠ (.slice Ao22 t109.length co22 : Value).ownBlock) (fun _ => False) rfl rfl ?aO ?aR (fun _ _ h => h) (fun _ h => h.elim) ?aF ?aB ?aS ?aL ?_; (case aR => repeat (first | exact (Kd.R_reads' HO111.out).2.2 | (with_reducible refine Kd.C_alloc ?_ _) | (with_reducible refine Kd.C_drewN ?_ _) | (with_reducible refine Kd.C_drew ?_))); (case aB => exact (by repeat (first | (with_reducible first | exact HB.out | apply below_alloc | apply pw_below_drewN | apply below_drew1) | exact HB.out))); (case aF => exact (fun k_ hk => Kd.fresh' (Kd.R_lt (by (with_reducible repeat (first | apply Kd.R_alloc | apply Kd.R_drewN | apply Kd.R_drew)); exact HO111.out)) k_ hk)); (case aO => exact (by (with_reducible repeat (first | apply Kd.R_alloc | apply Kd.R_drewN | apply Kd.R_drew)); exact Kd.R_mono HO108.out (fun _ hk => hk.2))); (case aS => exact (below_size (by repeat (first | (with_reducible first | exact HB.out | apply below_alloc | apply pw_below_drewN | apply below_drew1) | exact HB.out)))); (case aL => have := LMc18.out; omega); intro v113 w21 ho hb hg hat; rw [← Ny112.out] at ho; have n0_ := Aside0.mk (Kd.R_after (ok := (fun _ => True)) (by (with_reducible repeat (first | apply Kd.R_alloc | apply Kd.R_drewN | apply Kd.R_drew)); exact HO111.out) hg hat); have n1_ := Aside0.mk (hb); have n2_ := Aside0.mk (ho); clear HO111; clear HB; clear HO108; have HO111 := n0_; have HB := n1_; have HO114 := n2_; clear n0_ n1_ n2_; clear ho hb hg hat)))
                go_ret
                exact ⟨_, by first | rfl | (simp [errW_none, errW_some] <;> rfl) | (simp [*, errW_none, errW_some] <;> rfl), by (with_reducible repeat (first | apply Kd.R_alloc | apply Kd.R_drewN | apply Kd.R_drew)); exact Kd.R_mono HO114.out (fun _ hk => trivial), by repeat (first | (with_reducible first | exact HB.out | apply below_alloc | apply pw_below_drewN | apply below_drew1) | exact HB.out)⟩
              · rw [if_neg c18] at H
                exact absurd H (by simp)
      · rw [if_neg c4] at H
        have c4b0 : decide (x11_1 < (wrap64 (t102 - 1))) = false := decide_eq_false c4
        clear c4
        obtain ⟨y103, hy103⟩ : ∃ y_ : List (S34), y_ = (([(⟨a0, a1⟩ : S34)] : List (S34))) := ⟨_, rfl⟩
        replace H : (some y103) = some r := by first | (rw [hy103]; with_reducible exact H) | (have H2_ := (Option.bind_some _ _).symm.trans H; rw [hy103]; with_reducible exact H2_) | (have H2_ := (Option.bind_some _ _).symm.trans H; with_reducible exact H2_) | with_reducible exact H | (rw [hy103]; exact H) | exact H
        have Ny103 := Aside0.mk hy103
        clear hy103
        obtain rfl := Option.some.inj H
        go_wp2_with (first | ((with_reducible refine gate_dst (N := 63) rfl ?_); refine Kd.R_lit k34 _ 34 ?hg (N := 63) ?hd (xs := ([(⟨a0, a1⟩ : S34)] : List (S34))) (inner := [.int .i64 a0, .int .i64 a1]) (ok := fun _ => True) (okp := fun _ => True) ?hr ?hp (fun _ hk => hk) trivial (Below.refl _ _) (Nat.le_refl _) (by simp) ?_; (case hd => rfl); (case hg => rfl); (case hr => first | (go_simp; done) | (go_simp; rfl)); (case hp => exact (Reps.c2 (show Kd.M k34 _ _ _ (⟨a0, a1⟩ : S34) [.int .i64 a0, .int .i64 a1] from (k34_mkM _ _ _ (⟨a0, a1⟩ : S34) )) (Reps.none _ _))); intro v104 w23 ho24 hb hg_ hnew_; clear hg_ hnew_; (first | rw [← Ny103.out] at ho24 | (simp only [Int.reduceToNat] at ho24; rw [← Ny103.out] at ho24)); have n0_ := Aside0.mk (Kd.R_lower ho24 (below_size (by repeat (first | (with_reducible first | exact HB.out | apply below_alloc | apply pw_below_drewN | apply below_drew1) | exact HB.out)))); have n1_ := Aside0.mk (below_step (by repeat (first | (with_reducible first | exact HB.out | apply below_alloc | apply pw_below_drewN | apply below_drew1) | exact HB.out)) hb); clear HB; have HO105 := n0_; have HB := n1_; clear n0_ n1_; clear hb ho24))
        repeat (go_quiet (first | ((with_reducible refine gate_dst (N := 63) rfl ?_); refine Kd.R_lit k34 _ 34 ?hg (N := 63) ?hd (xs := ([(⟨a0, a1⟩ : S34)] : List (S34))) (inner := [.int .i64 a0, .int .i64 a1]) (ok := fun _ => True) (okp := fun _ => True) ?hr ?hp (fun _ hk => hk) trivial (Below.refl _ _) (Nat.le_refl _) (by simp) ?_; (case hd => rfl); (case hg => rfl); (case hr => first | (go_simp; done) | (go_simp; rfl)); (case hp => exact (Reps.c2 (show Kd.M k34 _ _ _ (⟨a0, a1⟩ : S34) [.int .i64 a0, .int .i64 a1] from (k34_mkM _ _ _ (⟨a0, a1⟩ : S34) )) (Reps.none _ _))); intro v104 w23 ho24 hb hg_ hnew_; clear hg_ hnew_; (first | rw [← Ny103.out] at ho24 | (simp only [Int.reduceToNat] at ho24; rw [← Ny103.out] at ho24)); have n0_ := Aside0.mk (Kd.R_lower ho24 (below_size (by repeat (first | (with_reducible first | exact HB.out | apply below_alloc | apply pw_below_drewN | apply below_drew1) | exact HB.out)))); have n1_ := Aside0.mk (below_step (by repeat (first | (with_reducible first | exact HB.out | apply below_alloc | apply pw_below_drewN | apply below_drew1) | exact HB.out)) hb); clear HB; have HO105 := n0_; have HB := n1_; clear n0_ n1_; clear hb ho24)); try go_wp2_with (first | ((with_reducible refine gate_dst (N := 63) rfl ?_); refine Kd.R_lit k34 _ 34 ?hg (N := 63) ?hd (xs := ([(⟨a0, a1⟩ : S34)] : List (S34))) (inner := [.int .i64 a0, .int .i64 a1]) (ok := fun _ => True) (okp := fun _ => True) ?hr ?hp (fun _ hk => hk) trivial (Below.refl _ _) (Nat.le_refl _) (by simp) ?_; (case hd => rfl); (case hg => rfl); (case hr => first | (go_simp; done) | (go_simp; rfl)); (case hp => exact (Reps.c2 (show Kd.M k34 _ _ _ (⟨a0, a1⟩ : S34) [.int .i64 a0, .int .i64 a1] from (k34_mkM _ _ _ (⟨a0, a1⟩ : S34) )) (Reps.none _ _))); intro v104 w23 ho24 hb hg_ hnew_; clear hg_ hnew_; (first | rw [← Ny103.out] at ho24 | (simp only [Int.reduceToNat] at ho24; rw [← Ny103.out] at ho24)); have n0_ := Aside0.mk (Kd.R_lower ho24 (below_size (by repeat (first | (with_reducible first | exact HB.out | apply below_alloc | apply pw_below_drewN | apply below_drew1) | exact HB.out)))); have n1_ := Aside0.mk (below_step (by repeat (first | (with_reducible first | exact HB.out | apply below_alloc | apply pw_below_drewN | apply below_drew1) | exact HB.out)) hb); clear HB; have HO105 := n0_; have HB := n1_; clear n0_ n1_; clear hb ho24)))
        go_ret
        exact ⟨_, by first | rfl | (simp [errW_none, errW_some] <;> rfl) | (simp [*, errW_none, errW_some] <;> rfl), by (with_reducible repeat (first | apply Kd.R_alloc | apply Kd.R_drewN | apply Kd.R_drew)); exact HO105.out, by repeat (first | (with_reducible first | exact HB.out | apply below_alloc | apply pw_below_drewN | apply below_drew1) | exact HB.out)⟩

/-! ### runes_pieces: function 19 -/
def piecesL (k : Nat) (hi : Int) : List Int → Int → List S34 → Option (List S34)
  | [], _, out => some out
  | e :: es, fr, out => if hi < fr then some out else if fr ≤ e then (if e = 57343 then piecesL k hi es (e + 1) out else (runes_cut.f k fr (mn hi e)).bind fun c => if out.length + c.length < 8796093022208 then piecesL k hi es (e + 1) (out ++ c) else none) else piecesL k hi es fr out
theorem piecesL_mono (k : Nat) (hi : Int) : ∀ (es : List Int) (fr : Int) (out : List S34), LeO (piecesL k hi es fr out) (piecesL (k + 1) hi es fr out)
  | [], fr, out => LeO.refl _
  | e :: es, fr, out => by
    unfold piecesL
    refine LeO.ite (LeO.refl _) (LeO.ite (LeO.ite (piecesL_mono k hi es _ _) (LeO.bind (runes_cut.mono _ _ _) fun c => LeO.ite (piecesL_mono k hi es _ _) (LeO.refl _))) (piecesL_mono k hi es _ _))
def encSp (x : S34) : List Value := [.int .i64 x.f0, .int .i64 x.f1]
def endsL : List Int := [127, 2047, 55295, 57343, 65535, 1114111]
theorem info_span : (Tryd.prog.info? 34).map (fun i => (i.zero, i.size, i.bytes)) = some (some (.agg #[.int .i64 0, .int .i64 0]), 2, 16) := by kernel_rfl
def runes_pieces.f (k : Nat) (a0 : Int) (a1 : Int) : Option ((List (S34))) := piecesL k a1 [127, 2047, 55295, 57343, 65535, 1114111] a0 []
set_option maxHeartbeats 8000000 in
set_option maxRecDepth 100000 in
theorem runes_pieces.calls (k : Nat) (a0 : Int) (a1 : Int) (r : List (S34)) (w : World) (h : runes_pieces.f k a0 a1 = some r) :
    Calls Tryd.prog 19 #[.int .i64 a0, .int .i64 a1] w fun e w' => ∃ v0_ : Value, e = .returned (v0_) ∧ Kd.R k34 34 w' w.heap.size (fun _ => True) v0_ r ∧ Below w.heap.size w w' := by
  obtain ⟨i0, hi, hz0, hz1, hz2⟩ := info_parts info_span
  unfold runes_pieces.f at h
  replace h : piecesL k a1 endsL a0 [] = some r := h
  go_enter Tryd.func19, Tryd.ntmps19
  go_wp2_with (fail)
  go_loopw [5, 6, 11] (fun out fr i wr => ∃ (j : Nat) (f : Int) (o : List S34), j ≤ 6 ∧ i = .int .i64 j ∧ fr = .int .i64 f ∧ wr.ownsRow w.heap.size 34 2 out o.length (o.flatMap encSp) ∧ piecesL k a1 (endsL.drop j) f o = some r ∧ Below w.heap.size w wr) (fun _ _ i _ => 6 - (intOf i).toNat)
  case atStart => exact ⟨0, a0, [], by decide, rfl, rfl, World.ownsRow_nil _ _ _ _, h, Below.refl _ _⟩
  case round =>
    obtain ⟨j, f, o, hj, rfl, rfl, hown, hp, hB⟩ := hrel
    have hend : ∀ out v (wz : World), wz.ownsRow w.heap.size 34 2 v out.length (out.flatMap encSp) → Below w.heap.size w wz → out = r → ∃ v0_ : Value, Ending.returned v = .returned (v0_) ∧ Kd.R k34 34 wz w.heap.size (fun _ => True) v0_ r ∧ Below w.heap.size w wz := by
      intro out v wz h1 h2 h3
      subst h3
      exact ⟨v, rfl, R_of_owns (enc := encSp) (fun _ => rfl) (fun _ _ _ _ => k34_mkM _ _ _ _) h1 rfl, h2⟩
    have hj7 : j = 0 ∨ j = 1 ∨ j = 2 ∨ j = 3 ∨ j = 4 ∨ j = 5 ∨ j = 6 := by omega
    rcases hj7 with rfl | rfl | rfl | rfl | rfl | rfl | rfl
    · have hs : piecesL k a1 (endsL.drop 0) f o = if a1 < f then some o else if f ≤ 127 then (if (127 : Int) = 57343 then piecesL k a1 (endsL.drop 1) (127 + 1) o else (runes_cut.f k f (mn a1 127)).bind fun c => if o.length + c.length < 8796093022208 then piecesL k a1 (endsL.drop 1) (127 + 1) (o ++ c) else none) else piecesL k a1 (endsL.drop 1) f o := rfl
      rw [hs] at hp
      clear hs
      have hix : ∀ w : World, (Instr.index 62 (.agg #[.int .i64 127, .int .i64 2047, .int .i64 55295, .int .i64 57343, .int .i64 65535, .int .i64 1114111]) (.int .i64 0)).run Tryd.prog w = .ok (.int .i64 127) w := fun _ => by kernel_rfl
      by_cases c1 : a1 < f
      · rw [if_pos c1] at hp
        have hor : o = r := by injection hp
        go_wp2_with (fail)
        go_ret
        exact hend o _ _ hown hB hor
      rw [if_neg c1] at hp
      by_cases c2 : f ≤ 127
      · rw [if_pos c2] at hp
        rw [if_neg (by decide)] at hp
        by_cases c4 : 127 < a1
        · have hmn : mn a1 127 = 127 := by unfold mn; split <;> omega
          rw [hmn] at hp
          clear hmn
          cases hcut : runes_cut.f k f 127 with
          | none => rw [hcut] at hp; cases hp
          | some c =>
            rw [hcut] at hp
            simp only [Option.bind_some] at hp
            by_cases c3 : o.length + c.length < 8796093022208
            rotate_left 1
            · rw [if_neg c3] at hp; cases hp
            rw [if_pos c3] at hp
            have hcall := runes_cut.calls k f 127 c wr hcut
            clear hcut
            go_wp2_with (fail)
            with_reducible refine hcall.mono ?_
            rintro e w4 ⟨v4, rfl, hR4, hb4⟩
            have hown4 := owns_of_R (enc := encSp) (fun _ => rfl) (fun _ _ _ _ _ h => k34_openM h) hR4
            have hown5 := own_below hown hb4
            have hB4 := hB.trans (hb4.mono hB.size)
            have hone : ∀ x ∈ c.flatMap encSp, x.oneCell' = true := by intro x hx; obtain ⟨y, _, hy⟩ := List.mem_flatMap.1 hx; simp [encSp] at hy; rcases hy with rfl | rfl <;> rfl
            go_wp2_with (at_builtin; refine wpList_append_row rfl _ _ 30 rfl w.heap.size 34 i0 _ 2 16 Tryd.underlying30 hi hz0 hz1 hz2 rfl (by decide) _ o.length (o.flatMap encSp) rfl hown5 v4 c.length (c.flatMap encSp) rfl (RowIs.of_owns hown4) hone (by unfold maxLen; omega) (by omega) hB4.size ?_)
            intro v6 w6 hown6 hg6 hb6
            have hB6 := hB4.grown hg6 hB4.size (fun b e => (hown5.lt b e).1)
            go_wp2_with (fail)
            go_roundw
            case rel => exact ⟨1, 127 + 1, o ++ c, by decide, rfl, rfl, by rw [List.length_append, List.flatMap_append]; exact hown6, hp, hB6⟩
            case measure => decide
        · have hmn : mn a1 127 = a1 := by unfold mn; split <;> omega
          rw [hmn] at hp
          clear hmn
          cases hcut : runes_cut.f k f a1 with
          | none => rw [hcut] at hp; cases hp
          | some c =>
            rw [hcut] at hp
            simp only [Option.bind_some] at hp
            by_cases c3 : o.length + c.length < 8796093022208
            rotate_left 1
            · rw [if_neg c3] at hp; cases hp
            rw [if_pos c3] at hp
            have hcall := runes_cut.calls k f a1 c wr hcut
            clear hcut
            go_wp2_with (fail)
            with_reducible refine hcall.mono ?_
            rintro e w4 ⟨v4, rfl, hR4, hb4⟩
            have hown4 := owns_of_R (enc := encSp) (fun _ => rfl) (fun _ _ _ _ _ h => k34_openM h) hR4
            have hown5 := own_below hown hb4
            have hB4 := hB.trans (hb4.mono hB.size)
            have hone : ∀ x ∈ c.flatMap encSp, x.oneCell' = true := by intro x hx; obtain ⟨y, _, hy⟩ := List.mem_flatMap.1 hx; simp [encSp] at hy; rcases hy with rfl | rfl <;> rfl
            go_wp2_with (at_builtin; refine wpList_append_row rfl _ _ 30 rfl w.heap.size 34 i0 _ 2 16 Tryd.underlying30 hi hz0 hz1 hz2 rfl (by decide) _ o.length (o.flatMap encSp) rfl hown5 v4 c.length (c.flatMap encSp) rfl (RowIs.of_owns hown4) hone (by unfold maxLen; omega) (by omega) hB4.size ?_)
            intro v6 w6 hown6 hg6 hb6
            have hB6 := hB4.grown hg6 hB4.size (fun b e => (hown5.lt b e).1)
            go_wp2_with (fail)
            go_roundw
            case rel => exact ⟨1, 127 + 1, o ++ c, by decide, rfl, rfl, by rw [List.length_append, List.flatMap_append]; exact hown6, hp, hB6⟩
            case measure => decide
      · rw [if_neg c2] at hp
        go_wp2_with (fail)
        go_roundw
        case rel => exact ⟨1, f, o, by decide, rfl, rfl, hown, hp, hB⟩
        case measure => decide
    · have hs : piecesL k a1 (endsL.drop 1) f o = if a1 < f then some o else if f ≤ 2047 then (if (2047 : Int) = 57343 then piecesL k a1 (endsL.drop 2) (2047 + 1) o else (runes_cut.f k f (mn a1 2047)).bind fun c => if o.length + c.length < 8796093022208 then piecesL k a1 (endsL.drop 2) (2047 + 1) (o ++ c) else none) else piecesL k a1 (endsL.drop 2) f o := rfl
      rw [hs] at hp
      clear hs
      have hix : ∀ w : World, (Instr.index 62 (.agg #[.int .i64 127, .int .i64 2047, .int .i64 55295, .int .i64 57343, .int .i64 65535, .int .i64 1114111]) (.int .i64 1)).run Tryd.prog w = .ok (.int .i64 2047) w := fun _ => by kernel_rfl
      by_cases c1 : a1 < f
      · rw [if_pos c1] at hp
        have hor : o = r := by injection hp
        go_wp2_with (fail)
        go_ret
        exact hend o _ _ hown hB hor
      rw [if_neg c1] at hp
      by_cases c2 : f ≤ 2047
      · rw [if_pos c2] at hp
        rw [if_neg (by decide)] at hp
        by_cases c4 : 2047 < a1
        · have hmn : mn a1 2047 = 2047 := by unfold mn; split <;> omega
          rw [hmn] at hp
          clear hmn
          cases hcut : runes_cut.f k f 2047 with
          | none => rw [hcut] at hp; cases hp
          | some c =>
            rw [hcut] at hp
            simp only [Option.bind_some] at hp
            by_cases c3 : o.length + c.length < 8796093022208
            rotate_left 1
            · rw [if_neg c3] at hp; cases hp
            rw [if_pos c3] at hp
            have hcall := runes_cut.calls k f 2047 c wr hcut
            clear hcut
            go_wp2_with (fail)
            with_reducible refine hcall.mono ?_
            rintro e w4 ⟨v4, rfl, hR4, hb4⟩
            have hown4 := owns_of_R (enc := encSp) (fun _ => rfl) (fun _ _ _ _ _ h => k34_openM h) hR4
            have hown5 := own_below hown hb4
            have hB4 := hB.trans (hb4.mono hB.size)
            have hone : ∀ x ∈ c.flatMap encSp, x.oneCell' = true := by intro x hx; obtain ⟨y, _, hy⟩ := List.mem_flatMap.1 hx; simp [encSp] at hy; rcases hy with rfl | rfl <;> rfl
            go_wp2_with (at_builtin; refine wpList_append_row rfl _ _ 30 rfl w.heap.size 34 i0 _ 2 16 Tryd.underlying30 hi hz0 hz1 hz2 rfl (by decide) _ o.length (o.flatMap encSp) rfl hown5 v4 c.length (c.flatMap encSp) rfl (RowIs.of_owns hown4) hone (by unfold maxLen; omega) (by omega) hB4.size ?_)
            intro v6 w6 hown6 hg6 hb6
            have hB6 := hB4.grown hg6 hB4.size (fun b e => (hown5.lt b e).1)
            go_wp2_with (fail)
            go_roundw
            case rel => exact ⟨2, 2047 + 1, o ++ c, by decide, rfl, rfl, by rw [List.length_append, List.flatMap_append]; exact hown6, hp, hB6⟩
            case measure => decide
        · have hmn : mn a1 2047 = a1 := by unfold mn; split <;> omega
          rw [hmn] at hp
          clear hmn
          cases hcut : runes_cut.f k f a1 with
          | none => rw [hcut] at hp; cases hp
          | some c =>
            rw [hcut] at hp
            simp only [Option.bind_some] at hp
            by_cases c3 : o.length + c.length < 8796093022208
            rotate_left 1
            · rw [if_neg c3] at hp; cases hp
            rw [if_pos c3] at hp
            have hcall := runes_cut.calls k f a1 c wr hcut
            clear hcut
            go_wp2_with (fail)
            with_reducible refine hcall.mono ?_
            rintro e w4 ⟨v4, rfl, hR4, hb4⟩
            have hown4 := owns_of_R (enc := encSp) (fun _ => rfl) (fun _ _ _ _ _ h => k34_openM h) hR4
            have hown5 := own_below hown hb4
            have hB4 := hB.trans (hb4.mono hB.size)
            have hone : ∀ x ∈ c.flatMap encSp, x.oneCell' = true := by intro x hx; obtain ⟨y, _, hy⟩ := List.mem_flatMap.1 hx; simp [encSp] at hy; rcases hy with rfl | rfl <;> rfl
            go_wp2_with (at_builtin; refine wpList_append_row rfl _ _ 30 rfl w.heap.size 34 i0 _ 2 16 Tryd.underlying30 hi hz0 hz1 hz2 rfl (by decide) _ o.length (o.flatMap encSp) rfl hown5 v4 c.length (c.flatMap encSp) rfl (RowIs.of_owns hown4) hone (by unfold maxLen; omega) (by omega) hB4.size ?_)
            intro v6 w6 hown6 hg6 hb6
            have hB6 := hB4.grown hg6 hB4.size (fun b e => (hown5.lt b e).1)
            go_wp2_with (fail)
            go_roundw
            case rel => exact ⟨2, 2047 + 1, o ++ c, by decide, rfl, rfl, by rw [List.length_append, List.flatMap_append]; exact hown6, hp, hB6⟩
            case measure => decide
      · rw [if_neg c2] at hp
        go_wp2_with (fail)
        go_roundw
        case rel => exact ⟨2, f, o, by decide, rfl, rfl, hown, hp, hB⟩
        case measure => decide
    · have hs : piecesL k a1 (endsL.drop 2) f o = if a1 < f then some o else if f ≤ 55295 then (if (55295 : Int) = 57343 then piecesL k a1 (endsL.drop 3) (55295 + 1) o else (runes_cut.f k f (mn a1 55295)).bind fun c => if o.length + c.length < 8796093022208 then piecesL k a1 (endsL.drop 3) (55295 + 1) (o ++ c) else none) else piecesL k a1 (endsL.drop 3) f o := rfl
      rw [hs] at hp
      clear hs
      have hix : ∀ w : World, (Instr.index 62 (.agg #[.int .i64 127, .int .i64 2047, .int .i64 55295, .int .i64 57343, .int .i64 65535, .int .i64 1114111]) (.int .i64 2)).run Tryd.prog w = .ok (.int .i64 55295) w := fun _ => by kernel_rfl
      by_cases c1 : a1 < f
      · rw [if_pos c1] at hp
        have hor : o = r := by injection hp
        go_wp2_with (fail)
        go_ret
        exact hend o _ _ hown hB hor
      rw [if_neg c1] at hp
      by_cases c2 : f ≤ 55295
      · rw [if_pos c2] at hp
        rw [if_neg (by decide)] at hp
        by_cases c4 : 55295 < a1
        · have hmn : mn a1 55295 = 55295 := by unfold mn; split <;> omega
          rw [hmn] at hp
          clear hmn
          cases hcut : runes_cut.f k f 55295 with
          | none => rw [hcut] at hp; cases hp
          | some c =>
            rw [hcut] at hp
            simp only [Option.bind_some] at hp
            by_cases c3 : o.length + c.length < 8796093022208
            rotate_left 1
            · rw [if_neg c3] at hp; cases hp
            rw [if_pos c3] at hp
            have hcall := runes_cut.calls k f 55295 c wr hcut
            clear hcut
            go_wp2_with (fail)
            with_reducible refine hcall.mono ?_
            rintro e w4 ⟨v4, rfl, hR4, hb4⟩
            have hown4 := owns_of_R (enc := encSp) (fun _ => rfl) (fun _ _ _ _ _ h => k34_openM h) hR4
            have hown5 := own_below hown hb4
            have hB4 := hB.trans (hb4.mono hB.size)
            have hone : ∀ x ∈ c.flatMap encSp, x.oneCell' = true := by intro x hx; obtain ⟨y, _, hy⟩ := List.mem_flatMap.1 hx; simp [encSp] at hy; rcases hy with rfl | rfl <;> rfl
            go_wp2_with (at_builtin; refine wpList_append_row rfl _ _ 30 rfl w.heap.size 34 i0 _ 2 16 Tryd.underlying30 hi hz0 hz1 hz2 rfl (by decide) _ o.length (o.flatMap encSp) rfl hown5 v4 c.length (c.flatMap encSp) rfl (RowIs.of_owns hown4) hone (by unfold maxLen; omega) (by omega) hB4.size ?_)
            intro v6 w6 hown6 hg6 hb6
            have hB6 := hB4.grown hg6 hB4.size (fun b e => (hown5.lt b e).1)
            go_wp2_with (fail)
            go_roundw
            case rel => exact ⟨3, 55295 + 1, o ++ c, by decide, rfl, rfl, by rw [List.length_append, List.flatMap_append]; exact hown6, hp, hB6⟩
            case measure => decide
        · have hmn : mn a1 55295 = a1 := by unfold mn; split <;> omega
          rw [hmn] at hp
          clear hmn
          cases hcut : runes_cut.f k f a1 with
          | none => rw [hcut] at hp; cases hp
          | some c =>
            rw [hcut] at hp
            simp only [Option.bind_some] at hp
            by_cases c3 : o.length + c.length < 8796093022208
            rotate_left 1
            · rw [if_neg c3] at hp; cases hp
            rw [if_pos c3] at hp
            have hcall := runes_cut.calls k f a1 c wr hcut
            clear hcut
            go_wp2_with (fail)
            with_reducible refine hcall.mono ?_
            rintro e w4 ⟨v4, rfl, hR4, hb4⟩
            have hown4 := owns_of_R (enc := encSp) (fun _ => rfl) (fun _ _ _ _ _ h => k34_openM h) hR4
            have hown5 := own_below hown hb4
            have hB4 := hB.trans (hb4.mono hB.size)
            have hone : ∀ x ∈ c.flatMap encSp, x.oneCell' = true := by intro x hx; obtain ⟨y, _, hy⟩ := List.mem_flatMap.1 hx; simp [encSp] at hy; rcases hy with rfl | rfl <;> rfl
            go_wp2_with (at_builtin; refine wpList_append_row rfl _ _ 30 rfl w.heap.size 34 i0 _ 2 16 Tryd.underlying30 hi hz0 hz1 hz2 rfl (by decide) _ o.length (o.flatMap encSp) rfl hown5 v4 c.length (c.flatMap encSp) rfl (RowIs.of_owns hown4) hone (by unfold maxLen; omega) (by omega) hB4.size ?_)
            intro v6 w6 hown6 hg6 hb6
            have hB6 := hB4.grown hg6 hB4.size (fun b e => (hown5.lt b e).1)
            go_wp2_with (fail)
            go_roundw
            case rel => exact ⟨3, 55295 + 1, o ++ c, by decide, rfl, rfl, by rw [List.length_append, List.flatMap_append]; exact hown6, hp, hB6⟩
            case measure => decide
      · rw [if_neg c2] at hp
        go_wp2_with (fail)
        go_roundw
        case rel => exact ⟨3, f, o, by decide, rfl, rfl, hown, hp, hB⟩
        case measure => decide
    · have hs : piecesL k a1 (endsL.drop 3) f o = if a1 < f then some o else if f ≤ 57343 then (if (57343 : Int) = 57343 then piecesL k a1 (endsL.drop 4) (57343 + 1) o else (runes_cut.f k f (mn a1 57343)).bind fun c => if o.length + c.length < 8796093022208 then piecesL k a1 (endsL.drop 4) (57343 + 1) (o ++ c) else none) else piecesL k a1 (endsL.drop 4) f o := rfl
      rw [hs] at hp
      clear hs
      have hix : ∀ w : World, (Instr.index 62 (.agg #[.int .i64 127, .int .i64 2047, .int .i64 55295, .int .i64 57343, .int .i64 65535, .int .i64 1114111]) (.int .i64 3)).run Tryd.prog w = .ok (.int .i64 57343) w := fun _ => by kernel_rfl
      by_cases c1 : a1 < f
      · rw [if_pos c1] at hp
        have hor : o = r := by injection hp
        go_wp2_with (fail)
        go_ret
        exact hend o _ _ hown hB hor
      rw [if_neg c1] at hp
      by_cases c2 : f ≤ 57343
      · rw [if_pos c2] at hp
        rw [if_pos rfl] at hp
        go_wp2_with (fail)
        go_roundw
        case rel => exact ⟨4, 57343 + 1, o, by decide, rfl, rfl, hown, hp, hB⟩
        case measure => decide
      · rw [if_neg c2] at hp
        go_wp2_with (fail)
        go_roundw
        case rel => exact ⟨4, f, o, by decide, rfl, rfl, hown, hp, hB⟩
        case measure => decide
    · have hs : piecesL k a1 (endsL.drop 4) f o = if a1 < f then some o else if f ≤ 65535 then (if (65535 : Int) = 57343 then piecesL k a1 (endsL.drop 5) (65535 + 1) o else (runes_cut.f k f (mn a1 65535)).bind fun c => if o.length + c.length < 8796093022208 then piecesL k a1 (endsL.drop 5) (65535 + 1) (o ++ c) else none) else piecesL k a1 (endsL.drop 5) f o := rfl
      rw [hs] at hp
      clear hs
      have hix : ∀ w : World, (Instr.index 62 (.agg #[.int .i64 127, .int .i64 2047, .int .i64 55295, .int .i64 57343, .int .i64 65535, .int .i64 1114111]) (.int .i64 4)).run Tryd.prog w = .ok (.int .i64 65535) w := fun _ => by kernel_rfl
      by_cases c1 : a1 < f
      · rw [if_pos c1] at hp
        have hor : o = r := by injection hp
        go_wp2_with (fail)
        go_ret
        exact hend o _ _ hown hB hor
      rw [if_neg c1] at hp
      by_cases c2 : f ≤ 65535
      · rw [if_pos c2] at hp
        rw [if_neg (by decide)] at hp
        by_cases c4 : 65535 < a1
        · have hmn : mn a1 65535 = 65535 := by unfold mn; split <;> omega
          rw [hmn] at hp
          clear hmn
          cases hcut : runes_cut.f k f 65535 with
          | none => rw [hcut] at hp; cases hp
          | some c =>
            rw [hcut] at hp
            simp only [Option.bind_some] at hp
            by_cases c3 : o.length + c.length < 8796093022208
            rotate_left 1
            · rw [if_neg c3] at hp; cases hp
            rw [if_pos c3] at hp
            have hcall := runes_cut.calls k f 65535 c wr hcut
            clear hcut
            go_wp2_with (fail)
            with_reducible refine hcall.mono ?_
            rintro e w4 ⟨v4, rfl, hR4, hb4⟩
            have hown4 := owns_of_R (enc := encSp) (fun _ => rfl) (fun _ _ _ _ _ h => k34_openM h) hR4
            have hown5 := own_below hown hb4
            have hB4 := hB.trans (hb4.mono hB.size)
            have hone : ∀ x ∈ c.flatMap encSp, x.oneCell' = true := by intro x hx; obtain ⟨y, _, hy⟩ := List.mem_flatMap.1 hx; simp [encSp] at hy; rcases hy with rfl | rfl <;> rfl
            go_wp2_with (at_builtin; refine wpList_append_row rfl _ _ 30 rfl w.heap.size 34 i0 _ 2 16 Tryd.underlying30 hi hz0 hz1 hz2 rfl (by decide) _ o.length (o.flatMap encSp) rfl hown5 v4 c.length (c.flatMap encSp) rfl (RowIs.of_owns hown4) hone (by unfold maxLen; omega) (by omega) hB4.size ?_)
            intro v6 w6 hown6 hg6 hb6
            have hB6 := hB4.grown hg6 hB4.size (fun b e => (hown5.lt b e).1)
            go_wp2_with (fail)
            go_roundw
            case rel => exact ⟨5, 65535 + 1, o ++ c, by decide, rfl, rfl, by rw [List.length_append, List.flatMap_append]; exact hown6, hp, hB6⟩
            case measure => decide
        · have hmn : mn a1 65535 = a1 := by unfold mn; split <;> omega
          rw [hmn] at hp
          clear hmn
          cases hcut : runes_cut.f k f a1 with
          | none => rw [hcut] at hp; cases hp
          | some c =>
            rw [hcut] at hp
            simp only [Option.bind_some] at hp
            by_cases c3 : o.length + c.length < 8796093022208
            rotate_left 1
            · rw [if_neg c3] at hp; cases hp
            rw [if_pos c3] at hp
            have hcall := runes_cut.calls k f a1 c wr hcut
            clear hcut
            go_wp2_with (fail)
            with_reducible refine hcall.mono ?_
            rintro e w4 ⟨v4, rfl, hR4, hb4⟩
            have hown4 := owns_of_R (enc := encSp) (fun _ => rfl) (fun _ _ _ _ _ h => k34_openM h) hR4
            have hown5 := own_below hown hb4
            have hB4 := hB.trans (hb4.mono hB.size)
            have hone : ∀ x ∈ c.flatMap encSp, x.oneCell' = true := by intro x hx; obtain ⟨y, _, hy⟩ := List.mem_flatMap.1 hx; simp [encSp] at hy; rcases hy with rfl | rfl <;> rfl
            go_wp2_with (at_builtin; refine wpList_append_row rfl _ _ 30 rfl w.heap.size 34 i0 _ 2 16 Tryd.underlying30 hi hz0 hz1 hz2 rfl (by decide) _ o.length (o.flatMap encSp) rfl hown5 v4 c.length (c.flatMap encSp) rfl (RowIs.of_owns hown4) hone (by unfold maxLen; omega) (by omega) hB4.size ?_)
            intro v6 w6 hown6 hg6 hb6
            have hB6 := hB4.grown hg6 hB4.size (fun b e => (hown5.lt b e).1)
            go_wp2_with (fail)
            go_roundw
            case rel => exact ⟨5, 65535 + 1, o ++ c, by decide, rfl, rfl, by rw [List.length_append, List.flatMap_append]; exact hown6, hp, hB6⟩
            case measure => decide
      · rw [if_neg c2] at hp
        go_wp2_with (fail)
        go_roundw
        case rel => exact ⟨5, f, o, by decide, rfl, rfl, hown, hp, hB⟩
        case measure => decide
    · have hs : piecesL k a1 (endsL.drop 5) f o = if a1 < f then some o else if f ≤ 1114111 then (if (1114111 : Int) = 57343 then piecesL k a1 (endsL.drop 6) (1114111 + 1) o else (runes_cut.f k f (mn a1 1114111)).bind fun c => if o.length + c.length < 8796093022208 then piecesL k a1 (endsL.drop 6) (1114111 + 1) (o ++ c) else none) else piecesL k a1 (endsL.drop 6) f o := rfl
      rw [hs] at hp
      clear hs
      have hix : ∀ w : World, (Instr.index 62 (.agg #[.int .i64 127, .int .i64 2047, .int .i64 55295, .int .i64 57343, .int .i64 65535, .int .i64 1114111]) (.int .i64 5)).run Tryd.prog w = .ok (.int .i64 1114111) w := fun _ => by kernel_rfl
      by_cases c1 : a1 < f
      · rw [if_pos c1] at hp
        have hor : o = r := by injection hp
        go_wp2_with (fail)
        go_ret
        exact hend o _ _ hown hB hor
      rw [if_neg c1] at hp
      by_cases c2 : f ≤ 1114111
      · rw [if_pos c2] at hp
        rw [if_neg (by decide)] at hp
        by_cases c4 : 1114111 < a1
        · have hmn : mn a1 1114111 = 1114111 := by unfold mn; split <;> omega
          rw [hmn] at hp
          clear hmn
          cases hcut : runes_cut.f k f 1114111 with
          | none => rw [hcut] at hp; cases hp
          | some c =>
            rw [hcut] at hp
            simp only [Option.bind_some] at hp
            by_cases c3 : o.length + c.length < 8796093022208
            rotate_left 1
            · rw [if_neg c3] at hp; cases hp
            rw [if_pos c3] at hp
            have hcall := runes_cut.calls k f 1114111 c wr hcut
            clear hcut
            go_wp2_with (fail)
            with_reducible refine hcall.mono ?_
            rintro e w4 ⟨v4, rfl, hR4, hb4⟩
            have hown4 := owns_of_R (enc := encSp) (fun _ => rfl) (fun _ _ _ _ _ h => k34_openM h) hR4
            have hown5 := own_below hown hb4
            have hB4 := hB.trans (hb4.mono hB.size)
            have hone : ∀ x ∈ c.flatMap encSp, x.oneCell' = true := by intro x hx; obtain ⟨y, _, hy⟩ := List.mem_flatMap.1 hx; simp [encSp] at hy; rcases hy with rfl | rfl <;> rfl
            go_wp2_with (at_builtin; refine wpList_append_row rfl _ _ 30 rfl w.heap.size 34 i0 _ 2 16 Tryd.underlying30 hi hz0 hz1 hz2 rfl (by decide) _ o.length (o.flatMap encSp) rfl hown5 v4 c.length (c.flatMap encSp) rfl (RowIs.of_owns hown4) hone (by unfold maxLen; omega) (by omega) hB4.size ?_)
            intro v6 w6 hown6 hg6 hb6
            have hB6 := hB4.grown hg6 hB4.size (fun b e => (hown5.lt b e).1)
            go_wp2_with (fail)
            go_roundw
            case rel => exact ⟨6, 1114111 + 1, o ++ c, by decide, rfl, rfl, by rw [List.length_append, List.flatMap_append]; exact hown6, hp, hB6⟩
            case measure => decide
        · have hmn : mn a1 1114111 = a1 := by unfold mn; split <;> omega
          rw [hmn] at hp
          clear hmn
          cases hcut : runes_cut.f k f a1 with
          | none => rw [hcut] at hp; cases hp
          | some c =>
            rw [hcut] at hp
            simp only [Option.bind_some] at hp
            by_cases c3 : o.length + c.length < 8796093022208
            rotate_left 1
            · rw [if_neg c3] at hp; cases hp
            rw [if_pos c3] at hp
            have hcall := runes_cut.calls k f a1 c wr hcut
            clear hcut
            go_wp2_with (fail)
            with_reducible refine hcall.mono ?_
            rintro e w4 ⟨v4, rfl, hR4, hb4⟩
            have hown4 := owns_of_R (enc := encSp) (fun _ => rfl) (fun _ _ _ _ _ h => k34_openM h) hR4
            have hown5 := own_below hown hb4
            have hB4 := hB.trans (hb4.mono hB.size)
            have hone : ∀ x ∈ c.flatMap encSp, x.oneCell' = true := by intro x hx; obtain ⟨y, _, hy⟩ := List.mem_flatMap.1 hx; simp [encSp] at hy; rcases hy with rfl | rfl <;> rfl
            go_wp2_with (at_builtin; refine wpList_append_row rfl _ _ 30 rfl w.heap.size 34 i0 _ 2 16 Tryd.underlying30 hi hz0 hz1 hz2 rfl (by decide) _ o.length (o.flatMap encSp) rfl hown5 v4 c.length (c.flatMap encSp) rfl (RowIs.of_owns hown4) hone (by unfold maxLen; omega) (by omega) hB4.size ?_)
            intro v6 w6 hown6 hg6 hb6
            have hB6 := hB4.grown hg6 hB4.size (fun b e => (hown5.lt b e).1)
            go_wp2_with (fail)
            go_roundw
            case rel => exact ⟨6, 1114111 + 1, o ++ c, by decide, rfl, rfl, by rw [List.length_append, List.flatMap_append]; exact hown6, hp, hB6⟩
            case measure => decide
      · rw [if_neg c2] at hp
        go_wp2_with (fail)
        go_roundw
        case rel => exact ⟨6, f, o, by decide, rfl, rfl, hown, hp, hB⟩
        case measure => decide
    · have hor : o = r := by injection hp
      go_wp2_with (fail)
      go_ret
      exact hend o _ _ hown hB hor
theorem runes_pieces.mono : ∀ a0 a1 k, LeO (runes_pieces.f k a0 a1) (runes_pieces.f (k + 1) a0 a1) := fun a0 a1 k => piecesL_mono k a1 _ a0 []

end Go.Proofs.YtebebognifiinaaDoor.T
