import Derived.Test.YthjlpcecfkboiaaDoorZx0
import Derived.Test.YthjlpcecfkboiaaDoorZx7
-- PRINTED by print.py (a twelfth state) out of the translation. Not trusted: Lean checks it.
namespace Go.Proofs.YthjlpcecfkboiaaDoor.Z
open Go.RowKit Go.Proofs.YthjlpcecfkboiaaDoorW.PrintWords Go.Proofs.YthjlpcecfkboiaaDoorW.PrintLast Go.Proofs.YthjlpcecfkboiaaDoorW.PrintMore
attribute [local go_sem] eqset_a eqset_b max2_int min2_int max_two min_two max_three min_three max_four min_four   -- for this text's walks alone
set_option linter.unusedVariables false
set_option linter.unusedSimpArgs false

/-! ### harrowref04_Template: function 95 -/
def harrowref04_Template.l0 : Nat → ByteArray → Int → Option (Bool)
  | 0, _, _ => none
  | k + 1, x0, x3 => if x3 < (x0.size : Int) then (if 0 ≤ x3 then (if (bt x0 x3) = 37 then (if (wrap64 (x3 + 1)) = (x0.size : Int) then (some false) else (if 0 ≤ (wrap64 (x3 + 1)) then (if (wrap64 (x3 + 1)) < (x0.size : Int) then (if (bt x0 (wrap64 (x3 + 1))) = 37 then (harrowref04_Template.l0 k x0 (wrap64 ((wrap64 (x3 + 1)) + 1))) else (if (bt x0 (wrap64 (x3 + 1))) < 48 then (some false) else (if (bt x0 (wrap64 (x3 + 1))) > 57 then (some false) else (harrowref04_Template.l0 k x0 (wrap64 ((wrap64 (x3 + 1)) + 1)))))) else (none)) else (none))) else (harrowref04_Template.l0 k x0 (wrap64 (x3 + 1)))) else (none)) else (some true)
def harrowref04_Template.f (k : Nat) (a0 : ByteArray) : Option (Bool) := if (a0.size : Int) > 255 then (some false) else (harrowref04_Template.l0 k a0 0)
theorem harrowref04_Template.mono_l : ∀ k, (∀ y0 y1, LeO (harrowref04_Template.l0 k y0 y1) (harrowref04_Template.l0 (k + 1) y0 y1))
  | 0 => fun _ _ r h => by simp [harrowref04_Template.l0] at h
  | k + 1 => by
    have ih0 := harrowref04_Template.mono_l k
    · intro y0 y1
      unfold harrowref04_Template.l0
      repeat' first
      | (with_reducible exact ih0 _ _)
      | (with_reducible exact LeO.refl _)
      | (with_reducible exact LeO.none _)
      | (with_reducible refine LeO.ite ?_ ?_)
      | (with_reducible refine LeO.bind ?_ (fun _ => ?_))
      | exact ih0 _ _
      | exact LeO.none _
      | refine LeO.ite ?_ ?_
      | refine LeO.bind ?_ (fun _ => ?_)
theorem harrowref04_Template.mono : ∀ a0 k, LeO (harrowref04_Template.f k a0) (harrowref04_Template.f (k + 1) a0) := by
  intro a0 k
  have ih0 := harrowref04_Template.mono_l k
  unfold harrowref04_Template.f
  repeat' first
      | (with_reducible exact ih0 _ _)
      | (with_reducible exact LeO.refl _)
      | (with_reducible exact LeO.none _)
      | (with_reducible refine LeO.ite ?_ ?_)
      | (with_reducible refine LeO.bind ?_ (fun _ => ?_))
      | exact ih0 _ _
      | exact LeO.none _
      | refine LeO.ite ?_ ?_
      | refine LeO.bind ?_ (fun _ => ?_)
set_option maxHeartbeats 8000000 in
set_option maxRecDepth 100000 in
theorem harrowref04_Template.calls (k : Nat) (a0 : ByteArray) (r : Bool) (w : World) (h : harrowref04_Template.f k a0 = some r) :
    Calls Tryd.prog 95 #[.string a0] w fun e w' => e = .returned (.bool r) ∧ Drawn0 w w' := by
  have H : (if (a0.size : Int) > 255 then (some false) else (harrowref04_Template.l0 k a0 0)) = some r := h
  clear h
  by_cases c2 : (a0.size : Int) > 255
  · rw [if_pos c2] at H
    have c2b0 : decide (255 < (a0.size : Int)) = true := decide_eq_true c2
    have c2b1 : decide (255 < a0.size) = true := decide_eq_true (by omega)
    clear c2
    obtain rfl := Option.some.inj H
    go_enter Tryd.func95, Tryd.ntmps95
    go_wp2
    go_ret
    exact ⟨by first | rfl | (simp; done) | (simp [*]; done), by repeat (first | exact Drawn0.refl _ | apply Drawn0.step)⟩
  · rw [if_neg c2] at H
    have c2b0 : decide (255 < (a0.size : Int)) = false := decide_eq_false c2
    have c2b1 : decide (255 < a0.size) = false := decide_eq_false (by omega)
    clear c2
    have H' := Aside0.mk H
    clear H
    go_enter Tryd.func95, Tryd.ntmps95
    go_wp2
    go_loopg [3] k (fun kq v3 w' => ∃ (x3_1 : Int), v3 = .int .i64 x3_1 ∧ Aside0 (harrowref04_Template.l0 kq a0 x3_1 = some r) ∧ Aside0 (kq ≤ k) ∧ Drawn0 w w')
    case atStart => exact ⟨(0), (by first | rfl | (simp; done) | (simp [*]; done)), H', ⟨Nat.le_refl _⟩, by repeat (first | exact Drawn0.refl _ | apply Drawn0.step)⟩
    case round =>
      clear H'
      try clear c2
      try clear c2b0
      try clear c2b1
      try clear p2
      obtain ⟨x3_1, rfl, HA, HK1, ⟨m1, rfl⟩⟩ := hrel
      cases gk with
      | zero => exact absurd HA.out (by simp [harrowref04_Template.l0])
      | succ k1 =>
        have H := HA.out
        clear HA
        simp only [harrowref04_Template.l0] at H
        by_cases c3 : x3_1 < (a0.size : Int)
        · rw [if_pos c3] at H
          have c3b0 : decide (x3_1 < (a0.size : Int)) = true := decide_eq_true c3
          clear c3
          by_cases c4 : 0 ≤ x3_1
          · rw [if_pos c4] at H
            have c4b0 : decide (0 ≤ x3_1) = true := decide_eq_true c4
            clear c4
            by_cases c6 : (bt a0 x3_1) = 37
            · rw [if_pos c6] at H
              have c6b0 : ((bt a0 x3_1) == 37) = true := beq_iff_eq.mpr c6
              have c6b1 : ((bt a0 x3_1) != 37) = false := bne_eq_false_iff_eq.mpr c6
              clear c6
              by_cases c7 : (wrap64 (x3_1 + 1)) = (a0.size : Int)
              · rw [if_pos c7] at H
                have c7b0 : ((wrap64 (x3_1 + 1)) == (a0.size : Int)) = true := beq_iff_eq.mpr c7
                have c7b1 : ((wrap64 (x3_1 + 1)) != (a0.size : Int)) = false := bne_eq_false_iff_eq.mpr c7
                clear c7
                obtain rfl := Option.some.inj H
                have p5 : 0 ≤ (x3_1 : Int) := of_decide_eq_true (by first | (with_reducible assumption) | assumption)
                have q5 : x3_1 < (a0.size : Int) := of_decide_eq_true (by first | (with_reducible assumption) | assumption)
                have hx5 := bt_at a0 x3_1
                replace p5 := eq_true p5
                replace q5 := eq_true q5
                go_wp2
                go_ret
                exact ⟨by first | rfl | (simp; done) | (simp [*]; done), by repeat (first | exact Drawn0.refl _ | apply Drawn0.step)⟩
              · rw [if_neg c7] at H
                have c7b0 : ((wrap64 (x3_1 + 1)) == (a0.size : Int)) = false := beq_eq_false_iff_ne.mpr c7
                have c7b1 : ((wrap64 (x3_1 + 1)) != (a0.size : Int)) = true := bne_iff_ne.mpr c7
                obtain ⟨ji8, hji8⟩ : ∃ j_ : Int, (wrap64 (x3_1 + 1)) = j_ := ⟨_, rfl⟩
                replace H : (if 0 ≤ (ji8) then (if (ji8) < (a0.size : Int) then (if (bt a0 (ji8)) = 37 then (harrowref04_Template.l0 k1 a0 (wrap64 ((ji8) + 1))) else (if (bt a0 (ji8)) < 48 then (some false) else (if (bt a0 (ji8)) > 57 then (some false) else (harrowref04_Template.l0 k1 a0 (wrap64 ((ji8) + 1)))))) else (none)) else (none)) = some r := by first | (rw [hji8] at H; exact H) | (simp only [hji8] at H ⊢; exact H)
                (try rw [hji8] at c7b0)
                (try rw [hji8] at c7b1)
                have hji8w : (IntKind.i64.wrap (x3_1 + 1)) = ji8 := (i64_w _).trans hji8
                by_cases c9 : 0 ≤ (ji8)
                · rw [if_pos c9] at H
                  have c9b0 : decide (0 ≤ (ji8)) = true := decide_eq_true c9
                  clear c9
                  by_cases c10 : (ji8) < (a0.size : Int)
                  · rw [if_pos c10] at H
                    have c10b0 : decide ((ji8) < (a0.size : Int)) = true := decide_eq_true c10
                    clear c10
                    by_cases c12 : (bt a0 (ji8)) = 37
                    · rw [if_pos c12] at H
                      have c12b0 : ((bt a0 (ji8)) == 37) = true := beq_iff_eq.mpr c12
                      have c12b1 : ((bt a0 (ji8)) != 37) = false := bne_eq_false_iff_eq.mpr c12
                      clear c12
                      have H' := Aside0.mk H
                      clear H
                      have p5 : 0 ≤ (x3_1 : Int) := of_decide_eq_true (by first | (with_reducible assumption) | assumption)
                      have q5 : x3_1 < (a0.size : Int) := of_decide_eq_true (by first | (with_reducible assumption) | assumption)
                      have hx5 := bt_at a0 x3_1
                      replace p5 := eq_true p5
                      replace q5 := eq_true q5
                      have p11 : 0 ≤ ((ji8) : Int) := of_decide_eq_true (by first | (with_reducible assumption) | assumption)
                      have q11 : (ji8) < (a0.size : Int) := of_decide_eq_true (by first | (with_reducible assumption) | assumption)
                      have hx11 := bt_at a0 (ji8)
                      replace p11 := eq_true p11
                      replace q11 := eq_true q11
                      go_wp2
                      go_roundg k1
                      case measure => have := HK1.out; omega
                      case rel => exact ⟨(wrap64 ((ji8) + 1)), (by first | rfl | (simp; done) | (simp only [← hji8] <;> (first | rfl | simp)) | (simp [*]; done)), H', ⟨by have := HK1.out; omega⟩, by repeat (first | exact Drawn0.refl _ | apply Drawn0.step)⟩
                    · rw [if_neg c12] at H
                      have c12b0 : ((bt a0 (ji8)) == 37) = false := beq_eq_false_iff_ne.mpr c12
                      have c12b1 : ((bt a0 (ji8)) != 37) = true := bne_iff_ne.mpr c12
                      by_cases c14 : (bt a0 (ji8)) < 48
                      · rw [if_pos c14] at H
                        have c14b0 : decide ((bt a0 (ji8)) < 48) = true := decide_eq_true c14
                        clear c14
                        obtain rfl := Option.some.inj H
                        have p5 : 0 ≤ (x3_1 : Int) := of_decide_eq_true (by first | (with_reducible assumption) | assumption)
                        have q5 : x3_1 < (a0.size : Int) := of_decide_eq_true (by first | (with_reducible assumption) | assumption)
                        have hx5 := bt_at a0 x3_1
                        replace p5 := eq_true p5
                        replace q5 := eq_true q5
                        have p11 : 0 ≤ ((ji8) : Int) := of_decide_eq_true (by first | (with_reducible assumption) | assumption)
                        have q11 : (ji8) < (a0.size : Int) := of_decide_eq_true (by first | (with_reducible assumption) | assumption)
                        have hx11 := bt_at a0 (ji8)
                        replace p11 := eq_true p11
                        replace q11 := eq_true q11
                        have p13 : 0 ≤ ((ji8) : Int) := of_decide_eq_true (by first | (with_reducible assumption) | assumption)
                        have q13 : (ji8) < (a0.size : Int) := of_decide_eq_true (by first | (with_reducible assumption) | assumption)
                        have hx13 := bt_at a0 (ji8)
                        replace p13 := eq_true p13
                        replace q13 := eq_true q13
                        go_wp2
                        go_ret
                        exact ⟨by first | rfl | (simp; done) | (simp only [← hji8] <;> (first | rfl | simp)) | (simp [*]; done), by repeat (first | exact Drawn0.refl _ | apply Drawn0.step)⟩
                      · rw [if_neg c14] at H
                        have c14b0 : decide ((bt a0 (ji8)) < 48) = false := decide_eq_false c14
                        clear c14
                        by_cases c16 : (bt a0 (ji8)) > 57
                        · rw [if_pos c16] at H
                          have c16b0 : decide (57 < (bt a0 (ji8))) = true := decide_eq_true c16
                          clear c16
                          obtain rfl := Option.some.inj H
                          have p5 : 0 ≤ (x3_1 : Int) := of_decide_eq_true (by first | (with_reducible assumption) | assumption)
                          have q5 : x3_1 < (a0.size : Int) := of_decide_eq_true (by first | (with_reducible assumption) | assumption)
                          have hx5 := bt_at a0 x3_1
                          replace p5 := eq_true p5
                          replace q5 := eq_true q5
                          have p11 : 0 ≤ ((ji8) : Int) := of_decide_eq_true (by first | (with_reducible assumption) | assumption)
                          have q11 : (ji8) < (a0.size : Int) := of_decide_eq_true (by first | (with_reducible assumption) | assumption)
                          have hx11 := bt_at a0 (ji8)
                          replace p11 := eq_true p11
                          replace q11 := eq_true q11
                          have p13 : 0 ≤ ((ji8) : Int) := of_decide_eq_true (by first | (with_reducible assumption) | assumption)
                          have q13 : (ji8) < (a0.size : Int) := of_decide_eq_true (by first | (with_reducible assumption) | assumption)
                          have hx13 := bt_at a0 (ji8)
                          replace p13 := eq_true p13
                          replace q13 := eq_true q13
                          have p15 : 0 ≤ ((ji8) : Int) := of_decide_eq_true (by first | (with_reducible assumption) | assumption)
                          have q15 : (ji8) < (a0.size : Int) := of_decide_eq_true (by first | (with_reducible assumption) | assumption)
                          have hx15 := bt_at a0 (ji8)
                          replace p15 := eq_true p15
                          replace q15 := eq_true q15
                          go_wp2
                          go_ret
                          exact ⟨by first | rfl | (simp; done) | (simp only [← hji8] <;> (first | rfl | simp)) | (simp [*]; done), by repeat (first | exact Drawn0.refl _ | apply Drawn0.step)⟩
                        · rw [if_neg c16] at H
                          have c16b0 : decide (57 < (bt a0 (ji8))) = false := decide_eq_false c16
                          clear c16
                          have H' := Aside0.mk H
                          clear H
                          have p5 : 0 ≤ (x3_1 : Int) := of_decide_eq_true (by first | (with_reducible assumption) | assumption)
                          have q5 : x3_1 < (a0.size : Int) := of_decide_eq_true (by first | (with_reducible assumption) | assumption)
                          have hx5 := bt_at a0 x3_1
                          replace p5 := eq_true p5
                          replace q5 := eq_true q5
                          have p11 : 0 ≤ ((ji8) : Int) := of_decide_eq_true (by first | (with_reducible assumption) | assumption)
                          have q11 : (ji8) < (a0.size : Int) := of_decide_eq_true (by first | (with_reducible assumption) | assumption)
                          have hx11 := bt_at a0 (ji8)
                          replace p11 := eq_true p11
                          replace q11 := eq_true q11
                          have p13 : 0 ≤ ((ji8) : Int) := of_decide_eq_true (by first | (with_reducible assumption) | assumption)
                          have q13 : (ji8) < (a0.size : Int) := of_decide_eq_true (by first | (with_reducible assumption) | assumption)
                          have hx13 := bt_at a0 (ji8)
                          replace p13 := eq_true p13
                          replace q13 := eq_true q13
                          have p15 : 0 ≤ ((ji8) : Int) := of_decide_eq_true (by first | (with_reducible assumption) | assumption)
                          have q15 : (ji8) < (a0.size : Int) := of_decide_eq_true (by first | (with_reducible assumption) | assumption)
                          have hx15 := bt_at a0 (ji8)
                          replace p15 := eq_true p15
                          replace q15 := eq_true q15
                          go_wp2
                          go_roundg k1
                          case measure => have := HK1.out; omega
                          case rel => exact ⟨(wrap64 ((ji8) + 1)), (by first | rfl | (simp; done) | (simp only [← hji8] <;> (first | rfl | simp)) | (simp [*]; done)), H', ⟨by have := HK1.out; omega⟩, by repeat (first | exact Drawn0.refl _ | apply Drawn0.step)⟩
                  · rw [if_neg c10] at H
                    exact absurd H (by simp)
                · rw [if_neg c9] at H
                  exact absurd H (by simp)
            · rw [if_neg c6] at H
              have c6b0 : ((bt a0 x3_1) == 37) = false := beq_eq_false_iff_ne.mpr c6
              have c6b1 : ((bt a0 x3_1) != 37) = true := bne_iff_ne.mpr c6
              have H' := Aside0.mk H
              clear H
              have p5 : 0 ≤ (x3_1 : Int) := of_decide_eq_true (by first | (with_reducible assumption) | assumption)
              have q5 : x3_1 < (a0.size : Int) := of_decide_eq_true (by first | (with_reducible assumption) | assumption)
              have hx5 := bt_at a0 x3_1
              replace p5 := eq_true p5
              replace q5 := eq_true q5
              go_wp2
              go_roundg k1
              case measure => have := HK1.out; omega
              case rel => exact ⟨(wrap64 (x3_1 + 1)), (by first | rfl | (simp; done) | (simp [*]; done)), H', ⟨by have := HK1.out; omega⟩, by repeat (first | exact Drawn0.refl _ | apply Drawn0.step)⟩
          · rw [if_neg c4] at H
            exact absurd H (by simp)
        · rw [if_neg c3] at H
          have c3b0 : decide (x3_1 < (a0.size : Int)) = false := decide_eq_false c3
          clear c3
          obtain rfl := Option.some.inj H
          go_wp2
          go_ret
          exact ⟨by first | rfl | (simp; done) | (simp [*]; done), by repeat (first | exact Drawn0.refl _ | apply Drawn0.step)⟩

/-! ### harrowref16_catches: function 74 -/
mutual
def harrowref16_catches.j0 : Nat → Int → Int → Int → Int → Int → ByteArray → Int → Int → Int → Int → Option (Bool)
  | 0, _, _, _, _, _, _, _, _, _, _ => none
  | k + 1, x3, x179000, x179001, x179002, x179003, x179004, x179005, x179006, x179007, x179008 => if x179002 < x3 then (harrowref16_catches.j1 k true x179000 x179001 x179002 x179003 x179004 x179005 x179006 x179007 x179008) else (if x179002 > 7 then (harrowref16_catches.j1 k true x179000 x179001 x179002 x179003 x179004 x179005 x179006 x179007 x179008) else (if x179003 < 0 then (harrowref16_catches.j1 k true x179000 x179001 x179002 x179003 x179004 x179005 x179006 x179007 x179008) else (if x179003 > 50 then (harrowref16_catches.j1 k true x179000 x179001 x179002 x179003 x179004 x179005 x179006 x179007 x179008) else (if x179002 = 7 then (harrowref16_catches.j1 k false x179000 x179001 x179002 x179003 x179004 x179005 x179006 x179007 x179008) else (harrowref16_catches.j1 k (x179003 != 0) x179000 x179001 x179002 x179003 x179004 x179005 x179006 x179007 x179008)))))
def harrowref16_catches.j1 : Nat → Bool → Int → Int → Int → Int → ByteArray → Int → Int → Int → Int → Option (Bool)
  | 0, _, _, _, _, _, _, _, _, _, _ => none
  | k + 1, x35, x179000, x179001, x179002, x179003, x179004, x179005, x179006, x179007, x179008 => if x35 = true then (some false) else (if x179002 = 3 then (if x179004.toList = ([] : List UInt8) then (some true) else ((harrowref04_Name.f k x179004).bind fun t179 => (some t179))) else (if x179002 = 6 then ((harrowref04_Template.f k x179004).bind fun t180 => (some t180)) else (some (x179004.toList == ([] : List UInt8)))))
end
def harrowref16_catches.f (k : Nat) (a0_0 : Int) (a0_1 : Int) (a0_2 : Int) (a0_3 : Int) (a0_4 : ByteArray) (a0_5 : Int) (a0_6 : Int) (a0_7 : Int) (a0_8 : Int) : Option (Bool) := if a0_0 = 18 then (harrowref16_catches.j0 k 2 a0_0 a0_1 a0_2 a0_3 a0_4 a0_5 a0_6 a0_7 a0_8) else (harrowref16_catches.j0 k 1 a0_0 a0_1 a0_2 a0_3 a0_4 a0_5 a0_6 a0_7 a0_8)
theorem harrowref16_catches.mono_l : ∀ k, (∀ y0 y1 y2 y3 y4 y5 y6 y7 y8 y9, LeO (harrowref16_catches.j0 k y0 y1 y2 y3 y4 y5 y6 y7 y8 y9) (harrowref16_catches.j0 (k + 1) y0 y1 y2 y3 y4 y5 y6 y7 y8 y9)) ∧ (∀ y0 y1 y2 y3 y4 y5 y6 y7 y8 y9, LeO (harrowref16_catches.j1 k y0 y1 y2 y3 y4 y5 y6 y7 y8 y9) (harrowref16_catches.j1 (k + 1) y0 y1 y2 y3 y4 y5 y6 y7 y8 y9))
  | 0 => ⟨fun _ _ _ _ _ _ _ _ _ _ r h => by simp [harrowref16_catches.j0] at h, fun _ _ _ _ _ _ _ _ _ _ r h => by simp [harrowref16_catches.j1] at h⟩
  | k + 1 => by
    obtain ⟨ih0, ih1⟩ := harrowref16_catches.mono_l k
    refine ⟨?_, ?_⟩
    · intro y0 y1 y2 y3 y4 y5 y6 y7 y8 y9
      unfold harrowref16_catches.j0
      repeat' first
      | (with_reducible exact ih0 _ _ _ _ _ _ _ _ _ _)
      | (with_reducible exact ih1 _ _ _ _ _ _ _ _ _ _)
      | (with_reducible exact harrowref04_Name.mono _ _)
      | (with_reducible exact harrowref04_Template.mono _ _)
      | (with_reducible exact LeO.refl _)
      | (with_reducible exact LeO.none _)
      | (with_reducible refine LeO.ite ?_ ?_)
      | (with_reducible refine LeO.bind ?_ (fun _ => ?_))
      | exact ih0 _ _ _ _ _ _ _ _ _ _
      | exact ih1 _ _ _ _ _ _ _ _ _ _
      | exact harrowref04_Name.mono _ _
      | exact harrowref04_Template.mono _ _
      | exact LeO.none _
      | refine LeO.ite ?_ ?_
      | refine LeO.bind ?_ (fun _ => ?_)
    · intro y0 y1 y2 y3 y4 y5 y6 y7 y8 y9
      unfold harrowref16_catches.j1
      repeat' first
      | (with_reducible exact ih0 _ _ _ _ _ _ _ _ _ _)
      | (with_reducible exact ih1 _ _ _ _ _ _ _ _ _ _)
      | (with_reducible exact harrowref04_Name.mono _ _)
      | (with_reducible exact harrowref04_Template.mono _ _)
      | (with_reducible exact LeO.refl _)
      | (with_reducible exact LeO.none _)
      | (with_reducible refine LeO.ite ?_ ?_)
      | (with_reducible refine LeO.bind ?_ (fun _ => ?_))
      | exact ih0 _ _ _ _ _ _ _ _ _ _
      | exact ih1 _ _ _ _ _ _ _ _ _ _
      | exact harrowref04_Name.mono _ _
      | exact harrowref04_Template.mono _ _
      | exact LeO.none _
      | refine LeO.ite ?_ ?_
      | refine LeO.bind ?_ (fun _ => ?_)
theorem harrowref16_catches.mono : ∀ a0 a1 a2 a3 a4 a5 a6 a7 a8 k, LeO (harrowref16_catches.f k a0 a1 a2 a3 a4 a5 a6 a7 a8) (harrowref16_catches.f (k + 1) a0 a1 a2 a3 a4 a5 a6 a7 a8) := by
  intro a0 a1 a2 a3 a4 a5 a6 a7 a8 k
  obtain ⟨ih0, ih1⟩ := harrowref16_catches.mono_l k
  unfold harrowref16_catches.f
  repeat' first
      | (with_reducible exact ih0 _ _ _ _ _ _ _ _ _ _)
      | (with_reducible exact ih1 _ _ _ _ _ _ _ _ _ _)
      | (with_reducible exact harrowref04_Name.mono _ _)
      | (with_reducible exact harrowref04_Template.mono _ _)
      | (with_reducible exact LeO.refl _)
      | (with_reducible exact LeO.none _)
      | (with_reducible refine LeO.ite ?_ ?_)
      | (with_reducible refine LeO.bind ?_ (fun _ => ?_))
      | exact ih0 _ _ _ _ _ _ _ _ _ _
      | exact ih1 _ _ _ _ _ _ _ _ _ _
      | exact harrowref04_Name.mono _ _
      | exact harrowref04_Template.mono _ _
      | exact LeO.none _
      | refine LeO.ite ?_ ?_
      | refine LeO.bind ?_ (fun _ => ?_)
set_option maxHeartbeats 8000000 in
set_option maxRecDepth 100000 in
theorem harrowref16_catches.calls (k : Nat) (a0_0 : Int) (a0_1 : Int) (a0_2 : Int) (a0_3 : Int) (a0_4 : ByteArray) (a0_5 : Int) (a0_6 : Int) (a0_7 : Int) (a0_8 : Int) (r : Bool) (w : World) (h : harrowref16_catches.f k a0_0 a0_1 a0_2 a0_3 a0_4 a0_5 a0_6 a0_7 a0_8 = some r) :
    Calls Tryd.prog 74 #[.agg #[.int .i64 a0_0, .int .i64 a0_1, .int .i64 a0_2, .int .i64 a0_3, .string a0_4, .int .u64 a0_5, .int .u64 a0_6, .int .u64 a0_7, .int .u64 a0_8]] w fun e w' => e = .returned (.bool r) ∧ Below w.heap.size w w' := by
  have hu52 := Tryd.underlying52
  have HB := Aside0.mk (Below.refl w.heap.size w)
  have H : (if a0_0 = 18 then (harrowref16_catches.j0 k 2 a0_0 a0_1 a0_2 a0_3 a0_4 a0_5 a0_6 a0_7 a0_8) else (harrowref16_catches.j0 k 1 a0_0 a0_1 a0_2 a0_3 a0_4 a0_5 a0_6 a0_7 a0_8)) = some r := h
  clear h
  have HC2 := Aside0.mk H
  clear H
  go_enter Tryd.func74, Tryd.ntmps74
  go_upto_if 6 with (first | ((with_reducible refine gate_dst (N := 1) rfl ?_); refine box_event ?hg (N := 1) ?hd (cs := #[.int .i64 a0_0, .int .i64 a0_1, .int .i64 a0_2, .int .i64 a0_3, .string a0_4, .int .u64 a0_5, .int .u64 a0_6, .int .u64 a0_7, .int .u64 a0_8]) (t := 52) ?hr ?_; (case hd => rfl); (case hg => rfl); (case hr => first | (go_simp; done) | (go_simp; rfl)); intro gb178 hg w3 hbox hb; have n0_ := Aside0.mk (below_step (by repeat (first | (with_reducible first | exact HB.out | apply below_alloc | apply pw_below_drewN | apply below_drew1) | exact HB.out)) hb); have n1_ := Aside0.mk (hbox); have n2_ := Aside0.mk ((by rw [hg]; exact (below_size (by repeat (first | (with_reducible first | exact HB.out | apply below_alloc | apply pw_below_drewN | apply below_drew1) | exact HB.out))) : w.heap.size ≤ gb178)); have n3_ := Aside0.mk ((by rw [hg]; exact (below_size (by repeat (first | (with_reducible first | exact HB.out | apply below_alloc | apply pw_below_drewN | apply below_drew1) | exact HB.out))) : w.heap.size ≤ gb178)); clear HB; have HB := n0_; have BK178 := n1_; have GW178 := n2_; have GE178 := n3_; clear n0_ n1_ n2_ n3_; clear hb hbox hg; have hcz4_0 : w3.cell? ⟨gb178, 0, none⟩ = some (.int .i64 a0_0) := (blk_cell BK178.out 0).trans rfl; have hcz4_1 : w3.cell? ⟨gb178, 1, none⟩ = some (.int .i64 a0_1) := (blk_cell BK178.out 1).trans rfl; have hcz4_2 : w3.cell? ⟨gb178, 2, none⟩ = some (.int .i64 a0_2) := (blk_cell BK178.out 2).trans rfl; have hcz4_3 : w3.cell? ⟨gb178, 3, none⟩ = some (.int .i64 a0_3) := (blk_cell BK178.out 3).trans rfl; have hcz4_4 : w3.cell? ⟨gb178, 4, none⟩ = some (.string a0_4) := (blk_cell BK178.out 4).trans rfl; have hcz4_5 : w3.cell? ⟨gb178, 5, none⟩ = some (.int .u64 a0_5) := (blk_cell BK178.out 5).trans rfl; have hcz4_6 : w3.cell? ⟨gb178, 6, none⟩ = some (.int .u64 a0_6) := (blk_cell BK178.out 6).trans rfl; have hcz4_7 : w3.cell? ⟨gb178, 7, none⟩ = some (.int .u64 a0_7) := (blk_cell BK178.out 7).trans rfl; have hcz4_8 : w3.cell? ⟨gb178, 8, none⟩ = some (.int .u64 a0_8) := (blk_cell BK178.out 8).trans rfl; have hfz4_0 := blk_frozen BK178.out 0; have hfz4_1 := blk_frozen BK178.out 1; have hfz4_2 := blk_frozen BK178.out 2; have hfz4_3 := blk_frozen BK178.out 3; have hfz4_4 := blk_frozen BK178.out 4; have hfz4_5 := blk_frozen BK178.out 5; have hfz4_6 := blk_frozen BK178.out 6; have hfz4_7 := blk_frozen BK178.out 7; have hfz4_8 := blk_frozen BK178.out 8))
  (try simp only [Act.put, List.setIfInBounds_toArray, List.set_cons_zero, List.set_cons_succ])
  go_cut [3] (fun v3 wc => ∃ (kq : Nat) (x3_1 : Int), v3 = .int .i64 x3_1 ∧ Aside0 (harrowref16_catches.j0 kq x3_1 a0_0 a0_1 a0_2 a0_3 a0_4 a0_5 a0_6 a0_7 a0_8 = some r) ∧ Aside0 (kq ≤ k) ∧ Aside0 (wc.heap[gb178]? = some (.cells #[.int .i64 a0_0, .int .i64 a0_1, .int .i64 a0_2, .int .i64 a0_3, .string a0_4, .int .u64 a0_5, .int .u64 a0_6, .int .u64 a0_7, .int .u64 a0_8] 52 (0, 0))) ∧ Aside0 (Below w.heap.size w wc))
  case first =>
    have H := HC2.out
    clear HC2
    by_cases c5 : a0_0 = 18
    · rw [if_pos c5] at H
      have c5b0 : (a0_0 == 18) = true := beq_iff_eq.mpr c5
      have c5b1 : (a0_0 != 18) = false := bne_eq_false_iff_eq.mpr c5
      clear c5
      (first | rw [c5b0] | (simp only [i64_w, i32_w]; rw [c5b0]) | skip)
      have H' := Aside0.mk H
      clear H
      go_wp2
      go_meet
      case rel => exact ⟨_, (2), (by first | rfl | (simp; done) | (simp [*]; done)), H', ⟨by first | omega | exact Nat.le_refl _⟩, ⟨by (with_reducible repeat (first | refine blk_drewN ?_ _ | refine blk_drew ?_ | refine blk_alloc ?_ _)); exact BK178.out⟩, ⟨by repeat (first | (with_reducible first | exact HB.out | apply below_alloc | apply pw_below_drewN | apply below_drew1 | refine below_set ?_ GE178.out) | exact HB.out)⟩⟩
    · rw [if_neg c5] at H
      have c5b0 : (a0_0 == 18) = false := beq_eq_false_iff_ne.mpr c5
      have c5b1 : (a0_0 != 18) = true := bne_iff_ne.mpr c5
      (first | rw [c5b0] | (simp only [i64_w, i32_w]; rw [c5b0]) | skip)
      have H' := Aside0.mk H
      clear H
      go_wp2
      go_meet
      case rel => exact ⟨_, (1), (by first | rfl | (simp; done) | (simp [*]; done)), H', ⟨by first | omega | exact Nat.le_refl _⟩, ⟨by (with_reducible repeat (first | refine blk_drewN ?_ _ | refine blk_drew ?_ | refine blk_alloc ?_ _)); exact BK178.out⟩, ⟨by repeat (first | (with_reducible first | exact HB.out | apply below_alloc | apply pw_below_drewN | apply below_drew1 | refine below_set ?_ GE178.out) | exact HB.out)⟩⟩
  case rest =>
    clear HC2
    try clear p2
    try clear c5
    try clear c5b0
    try clear c5b1
    try clear hcz4_0
    try clear hcz4_1
    try clear hcz4_2
    try clear hcz4_3
    try clear hcz4_4
    try clear hcz4_5
    try clear hcz4_6
    try clear hcz4_7
    try clear hcz4_8
    try clear hfz4_0
    try clear hfz4_1
    try clear hfz4_2
    try clear hfz4_3
    try clear hfz4_4
    try clear hfz4_5
    try clear hfz4_6
    try clear hfz4_7
    try clear hfz4_8
    obtain ⟨kq, x3_1, rfl, HA, HJ1, BK178, HB⟩ := hcut
    cases kq with
    | zero => exact absurd HA.out (by simp [harrowref16_catches.j0])
    | succ kj1 =>
      have H := HA.out
      clear HA
      simp only [harrowref16_catches.j0] at H
      have HC6 := Aside0.mk H
      clear H
      go_upto_region 4 with (fail)
      go_cut [35] (fun v35 wc => ∃ (kq : Nat) (x35_5 : Bool), v35 = .bool x35_5 ∧ Aside0 (harrowref16_catches.j1 kq x35_5 a0_0 a0_1 a0_2 a0_3 a0_4 a0_5 a0_6 a0_7 a0_8 = some r) ∧ Aside0 (kq ≤ kj1) ∧ Aside0 (wc.heap[gb178]? = some (.cells #[.int .i64 a0_0, .int .i64 a0_1, .int .i64 a0_2, .int .i64 a0_3, .string a0_4, .int .u64 a0_5, .int .u64 a0_6, .int .u64 a0_7, .int .u64 a0_8] 52 (0, 0))) ∧ Aside0 (Below w.heap.size w wc))
      case first =>
        have H := HC6.out
        clear HC6
        by_cases c7 : a0_2 < x3_1
        · rw [if_pos c7] at H
          have c7b0 : decide (a0_2 < x3_1) = true := decide_eq_true c7
          clear c7
          (first | rw [c7b0] | (simp only [i64_w, i32_w]; rw [c7b0]) | skip)
          have H' := Aside0.mk H
          clear H
          have hcz8_0 : wc.cell? ⟨gb178, 0, none⟩ = some (.int .i64 a0_0) := (blk_cell BK178.out 0).trans rfl
          have hcz8_1 : wc.cell? ⟨gb178, 1, none⟩ = some (.int .i64 a0_1) := (blk_cell BK178.out 1).trans rfl
          have hcz8_2 : wc.cell? ⟨gb178, 2, none⟩ = some (.int .i64 a0_2) := (blk_cell BK178.out 2).trans rfl
          have hcz8_3 : wc.cell? ⟨gb178, 3, none⟩ = some (.int .i64 a0_3) := (blk_cell BK178.out 3).trans rfl
          have hcz8_4 : wc.cell? ⟨gb178, 4, none⟩ = some (.string a0_4) := (blk_cell BK178.out 4).trans rfl
          have hcz8_5 : wc.cell? ⟨gb178, 5, none⟩ = some (.int .u64 a0_5) := (blk_cell BK178.out 5).trans rfl
          have hcz8_6 : wc.cell? ⟨gb178, 6, none⟩ = some (.int .u64 a0_6) := (blk_cell BK178.out 6).trans rfl
          have hcz8_7 : wc.cell? ⟨gb178, 7, none⟩ = some (.int .u64 a0_7) := (blk_cell BK178.out 7).trans rfl
          have hcz8_8 : wc.cell? ⟨gb178, 8, none⟩ = some (.int .u64 a0_8) := (blk_cell BK178.out 8).trans rfl
          have hfz8_0 := blk_frozen BK178.out 0
          have hfz8_1 := blk_frozen BK178.out 1
          have hfz8_2 := blk_frozen BK178.out 2
          have hfz8_3 := blk_frozen BK178.out 3
          have hfz8_4 := blk_frozen BK178.out 4
          have hfz8_5 := blk_frozen BK178.out 5
          have hfz8_6 := blk_frozen BK178.out 6
          have hfz8_7 := blk_frozen BK178.out 7
          have hfz8_8 := blk_frozen BK178.out 8
          go_wp2
          go_meet
          case rel => exact ⟨_, (true), (by first | rfl | (simp; done) | (simp [*]; done)), H', ⟨by have := HJ1.out; first | omega | exact Nat.le_refl _⟩, ⟨by (with_reducible repeat (first | refine blk_drewN ?_ _ | refine blk_drew ?_ | refine blk_alloc ?_ _)); exact BK178.out⟩, ⟨by repeat (first | (with_reducible first | exact HB.out | apply below_alloc | apply pw_below_drewN | apply below_drew1 | refine below_set ?_ GE178.out) | exact HB.out)⟩⟩
        · rw [if_neg c7] at H
          have c7b0 : decide (a0_2 < x3_1) = false := decide_eq_false c7
          clear c7
          (first | rw [c7b0] | (simp only [i64_w, i32_w]; rw [c7b0]) | skip)
          by_cases c9 : a0_2 > 7
          · rw [if_pos c9] at H
            have c9b0 : decide (7 < a0_2) = true := decide_eq_true c9
            clear c9
            have H' := Aside0.mk H
            clear H
            have hcz10_0 : wc.cell? ⟨gb178, 0, none⟩ = some (.int .i64 a0_0) := (blk_cell BK178.out 0).trans rfl
            have hcz10_1 : wc.cell? ⟨gb178, 1, none⟩ = some (.int .i64 a0_1) := (blk_cell BK178.out 1).trans rfl
            have hcz10_2 : wc.cell? ⟨gb178, 2, none⟩ = some (.int .i64 a0_2) := (blk_cell BK178.out 2).trans rfl
            have hcz10_3 : wc.cell? ⟨gb178, 3, none⟩ = some (.int .i64 a0_3) := (blk_cell BK178.out 3).trans rfl
            have hcz10_4 : wc.cell? ⟨gb178, 4, none⟩ = some (.string a0_4) := (blk_cell BK178.out 4).trans rfl
            have hcz10_5 : wc.cell? ⟨gb178, 5, none⟩ = some (.int .u64 a0_5) := (blk_cell BK178.out 5).trans rfl
            have hcz10_6 : wc.cell? ⟨gb178, 6, none⟩ = some (.int .u64 a0_6) := (blk_cell BK178.out 6).trans rfl
            have hcz10_7 : wc.cell? ⟨gb178, 7, none⟩ = some (.int .u64 a0_7) := (blk_cell BK178.out 7).trans rfl
            have hcz10_8 : wc.cell? ⟨gb178, 8, none⟩ = some (.int .u64 a0_8) := (blk_cell BK178.out 8).trans rfl
            have hfz10_0 := blk_frozen BK178.out 0
            have hfz10_1 := blk_frozen BK178.out 1
            have hfz10_2 := blk_frozen BK178.out 2
            have hfz10_3 := blk_frozen BK178.out 3
            have hfz10_4 := blk_frozen BK178.out 4
            have hfz10_5 := blk_frozen BK178.out 5
            have hfz10_6 := blk_frozen BK178.out 6
            have hfz10_7 := blk_frozen BK178.out 7
            have hfz10_8 := blk_frozen BK178.out 8
            go_wp2
            go_meet
            case rel => exact ⟨_, (true), (by first | rfl | (simp; done) | (simp [*]; done)), H', ⟨by have := HJ1.out; first | omega | exact Nat.le_refl _⟩, ⟨by (with_reducible repeat (first | refine blk_drewN ?_ _ | refine blk_drew ?_ | refine blk_alloc ?_ _)); exact BK178.out⟩, ⟨by repeat (first | (with_reducible first | exact HB.out | apply below_alloc | apply pw_below_drewN | apply below_drew1 | refine below_set ?_ GE178.out) | exact HB.out)⟩⟩
          · rw [if_neg c9] at H
            have c9b0 : decide (7 < a0_2) = false := decide_eq_false c9
            clear c9
            by_cases c11 : a0_3 < 0
            · rw [if_pos c11] at H
              have c11b0 : decide (a0_3 < 0) = true := decide_eq_true c11
              clear c11
              have H' := Aside0.mk H
              clear H
              have hcz12_0 : wc.cell? ⟨gb178, 0, none⟩ = some (.int .i64 a0_0) := (blk_cell BK178.out 0).trans rfl
              have hcz12_1 : wc.cell? ⟨gb178, 1, none⟩ = some (.int .i64 a0_1) := (blk_cell BK178.out 1).trans rfl
              have hcz12_2 : wc.cell? ⟨gb178, 2, none⟩ = some (.int .i64 a0_2) := (blk_cell BK178.out 2).trans rfl
              have hcz12_3 : wc.cell? ⟨gb178, 3, none⟩ = some (.int .i64 a0_3) := (blk_cell BK178.out 3).trans rfl
              have hcz12_4 : wc.cell? ⟨gb178, 4, none⟩ = some (.string a0_4) := (blk_cell BK178.out 4).trans rfl
              have hcz12_5 : wc.cell? ⟨gb178, 5, none⟩ = some (.int .u64 a0_5) := (blk_cell BK178.out 5).trans rfl
              have hcz12_6 : wc.cell? ⟨gb178, 6, none⟩ = some (.int .u64 a0_6) := (blk_cell BK178.out 6).trans rfl
              have hcz12_7 : wc.cell? ⟨gb178, 7, none⟩ = some (.int .u64 a0_7) := (blk_cell BK178.out 7).trans rfl
              have hcz12_8 : wc.cell? ⟨gb178, 8, none⟩ = some (.int .u64 a0_8) := (blk_cell BK178.out 8).trans rfl
              have hfz12_0 := blk_frozen BK178.out 0
              have hfz12_1 := blk_frozen BK178.out 1
              have hfz12_2 := blk_frozen BK178.out 2
              have hfz12_3 := blk_frozen BK178.out 3
              have hfz12_4 := blk_frozen BK178.out 4
              have hfz12_5 := blk_frozen BK178.out 5
              have hfz12_6 := blk_frozen BK178.out 6
              have hfz12_7 := blk_frozen BK178.out 7
              have hfz12_8 := blk_frozen BK178.out 8
              go_wp2
              go_meet
              case rel => exact ⟨_, (true), (by first | rfl | (simp; done) | (simp [*]; done)), H', ⟨by have := HJ1.out; first | omega | exact Nat.le_refl _⟩, ⟨by (with_reducible repeat (first | refine blk_drewN ?_ _ | refine blk_drew ?_ | refine blk_alloc ?_ _)); exact BK178.out⟩, ⟨by repeat (first | (with_reducible first | exact HB.out | apply below_alloc | apply pw_below_drewN | apply below_drew1 | refine below_set ?_ GE178.out) | exact HB.out)⟩⟩
            · rw [if_neg c11] at H
              have c11b0 : decide (a0_3 < 0) = false := decide_eq_false c11
              clear c11
              by_cases c13 : a0_3 > 50
              · rw [if_pos c13] at H
                have c13b0 : decide (50 < a0_3) = true := decide_eq_true c13
                clear c13
                have H' := Aside0.mk H
                clear H
                have hcz14_0 : wc.cell? ⟨gb178, 0, none⟩ = some (.int .i64 a0_0) := (blk_cell BK178.out 0).trans rfl
                have hcz14_1 : wc.cell? ⟨gb178, 1, none⟩ = some (.int .i64 a0_1) := (blk_cell BK178.out 1).trans rfl
                have hcz14_2 : wc.cell? ⟨gb178, 2, none⟩ = some (.int .i64 a0_2) := (blk_cell BK178.out 2).trans rfl
                have hcz14_3 : wc.cell? ⟨gb178, 3, none⟩ = some (.int .i64 a0_3) := (blk_cell BK178.out 3).trans rfl
                have hcz14_4 : wc.cell? ⟨gb178, 4, none⟩ = some (.string a0_4) := (blk_cell BK178.out 4).trans rfl
                have hcz14_5 : wc.cell? ⟨gb178, 5, none⟩ = some (.int .u64 a0_5) := (blk_cell BK178.out 5).trans rfl
                have hcz14_6 : wc.cell? ⟨gb178, 6, none⟩ = some (.int .u64 a0_6) := (blk_cell BK178.out 6).trans rfl
                have hcz14_7 : wc.cell? ⟨gb178, 7, none⟩ = some (.int .u64 a0_7) := (blk_cell BK178.out 7).trans rfl
                have hcz14_8 : wc.cell? ⟨gb178, 8, none⟩ = some (.int .u64 a0_8) := (blk_cell BK178.out 8).trans rfl
                have hfz14_0 := blk_frozen BK178.out 0
                have hfz14_1 := blk_frozen BK178.out 1
                have hfz14_2 := blk_frozen BK178.out 2
                have hfz14_3 := blk_frozen BK178.out 3
                have hfz14_4 := blk_frozen BK178.out 4
                have hfz14_5 := blk_frozen BK178.out 5
                have hfz14_6 := blk_frozen BK178.out 6
                have hfz14_7 := blk_frozen BK178.out 7
                have hfz14_8 := blk_frozen BK178.out 8
                go_wp2
                go_meet
                case rel => exact ⟨_, (true), (by first | rfl | (simp; done) | (simp [*]; done)), H', ⟨by have := HJ1.out; first | omega | exact Nat.le_refl _⟩, ⟨by (with_reducible repeat (first | refine blk_drewN ?_ _ | refine blk_drew ?_ | refine blk_alloc ?_ _)); exact BK178.out⟩, ⟨by repeat (first | (with_reducible first | exact HB.out | apply below_alloc | apply pw_below_drewN | apply below_drew1 | refine below_set ?_ GE178.out) | exact HB.out)⟩⟩
              · rw [if_neg c13] at H
                have c13b0 : decide (50 < a0_3) = false := decide_eq_false c13
                clear c13
                by_cases c15 : a0_2 = 7
                · rw [if_pos c15] at H
                  have c15b0 : (a0_2 == 7) = true := beq_iff_eq.mpr c15
                  have c15b1 : (a0_2 != 7) = false := bne_eq_false_iff_eq.mpr c15
                  clear c15
                  have H' := Aside0.mk H
                  clear H
                  have hcz16_0 : wc.cell? ⟨gb178, 0, none⟩ = some (.int .i64 a0_0) := (blk_cell BK178.out 0).trans rfl
                  have hcz16_1 : wc.cell? ⟨gb178, 1, none⟩ = some (.int .i64 a0_1) := (blk_cell BK178.out 1).trans rfl
                  have hcz16_2 : wc.cell? ⟨gb178, 2, none⟩ = some (.int .i64 a0_2) := (blk_cell BK178.out 2).trans rfl
                  have hcz16_3 : wc.cell? ⟨gb178, 3, none⟩ = some (.int .i64 a0_3) := (blk_cell BK178.out 3).trans rfl
                  have hcz16_4 : wc.cell? ⟨gb178, 4, none⟩ = some (.string a0_4) := (blk_cell BK178.out 4).trans rfl
                  have hcz16_5 : wc.cell? ⟨gb178, 5, none⟩ = some (.int .u64 a0_5) := (blk_cell BK178.out 5).trans rfl
                  have hcz16_6 : wc.cell? ⟨gb178, 6, none⟩ = some (.int .u64 a0_6) := (blk_cell BK178.out 6).trans rfl
                  have hcz16_7 : wc.cell? ⟨gb178, 7, none⟩ = some (.int .u64 a0_7) := (blk_cell BK178.out 7).trans rfl
                  have hcz16_8 : wc.cell? ⟨gb178, 8, none⟩ = some (.int .u64 a0_8) := (blk_cell BK178.out 8).trans rfl
                  have hfz16_0 := blk_frozen BK178.out 0
                  have hfz16_1 := blk_frozen BK178.out 1
                  have hfz16_2 := blk_frozen BK178.out 2
                  have hfz16_3 := blk_frozen BK178.out 3
                  have hfz16_4 := blk_frozen BK178.out 4
                  have hfz16_5 := blk_frozen BK178.out 5
                  have hfz16_6 := blk_frozen BK178.out 6
                  have hfz16_7 := blk_frozen BK178.out 7
                  have hfz16_8 := blk_frozen BK178.out 8
                  go_wp2
                  go_meet
                  case rel => exact ⟨_, (false), (by first | rfl | (simp; done) | (simp [*]; done)), H', ⟨by have := HJ1.out; first | omega | exact Nat.le_refl _⟩, ⟨by (with_reducible repeat (first | refine blk_drewN ?_ _ | refine blk_drew ?_ | refine blk_alloc ?_ _)); exact BK178.out⟩, ⟨by repeat (first | (with_reducible first | exact HB.out | apply below_alloc | apply pw_below_drewN | apply below_drew1 | refine below_set ?_ GE178.out) | exact HB.out)⟩⟩
                · rw [if_neg c15] at H
                  have c15b0 : (a0_2 == 7) = false := beq_eq_false_iff_ne.mpr c15
                  have c15b1 : (a0_2 != 7) = true := bne_iff_ne.mpr c15
                  have H' := Aside0.mk H
                  clear H
                  have hcz17_0 : wc.cell? ⟨gb178, 0, none⟩ = some (.int .i64 a0_0) := (blk_cell BK178.out 0).trans rfl
                  have hcz17_1 : wc.cell? ⟨gb178, 1, none⟩ = some (.int .i64 a0_1) := (blk_cell BK178.out 1).trans rfl
                  have hcz17_2 : wc.cell? ⟨gb178, 2, none⟩ = some (.int .i64 a0_2) := (blk_cell BK178.out 2).trans rfl
                  have hcz17_3 : wc.cell? ⟨gb178, 3, none⟩ = some (.int .i64 a0_3) := (blk_cell BK178.out 3).trans rfl
                  have hcz17_4 : wc.cell? ⟨gb178, 4, none⟩ = some (.string a0_4) := (blk_cell BK178.out 4).trans rfl
                  have hcz17_5 : wc.cell? ⟨gb178, 5, none⟩ = some (.int .u64 a0_5) := (blk_cell BK178.out 5).trans rfl
                  have hcz17_6 : wc.cell? ⟨gb178, 6, none⟩ = some (.int .u64 a0_6) := (blk_cell BK178.out 6).trans rfl
                  have hcz17_7 : wc.cell? ⟨gb178, 7, none⟩ = some (.int .u64 a0_7) := (blk_cell BK178.out 7).trans rfl
                  have hcz17_8 : wc.cell? ⟨gb178, 8, none⟩ = some (.int .u64 a0_8) := (blk_cell BK178.out 8).trans rfl
                  have hfz17_0 := blk_frozen BK178.out 0
                  have hfz17_1 := blk_frozen BK178.out 1
                  have hfz17_2 := blk_frozen BK178.out 2
                  have hfz17_3 := blk_frozen BK178.out 3
                  have hfz17_4 := blk_frozen BK178.out 4
                  have hfz17_5 := blk_frozen BK178.out 5
                  have hfz17_6 := blk_frozen BK178.out 6
                  have hfz17_7 := blk_frozen BK178.out 7
                  have hfz17_8 := blk_frozen BK178.out 8
                  go_wp2
                  go_meet
                  case rel => exact ⟨_, ((a0_3 != 0)), (by first | rfl | (simp; done) | (simp [*]; done)), H', ⟨by have := HJ1.out; first | omega | exact Nat.le_refl _⟩, ⟨by (with_reducible repeat (first | refine blk_drewN ?_ _ | refine blk_drew ?_ | refine blk_alloc ?_ _)); exact BK178.out⟩, ⟨by repeat (first | (with_reducible first | exact HB.out | apply below_alloc | apply pw_below_drewN | apply below_drew1 | refine below_set ?_ GE178.out) | exact HB.out)⟩⟩
      case rest =>
        clear HC6
        try clear c1
        try clear p2
        try clear c5
        try clear c5b0
        try clear c5b1
        try clear c7
        try clear c7b0
        try clear c9
        try clear c9b0
        try clear c11
        try clear c11b0
        try clear c13
        try clear c13b0
        try clear c15
        try clear c15b0
        try clear c15b1
        try clear hcz10_0
        try clear hcz10_1
        try clear hcz10_2
        try clear hcz10_3
        try clear hcz10_4
        try clear hcz10_5
        try clear hcz10_6
        try clear hcz10_7
        try clear hcz10_8
        try clear hcz12_0
        try clear hcz12_1
        try clear hcz12_2
        try clear hcz12_3
        try clear hcz12_4
        try clear hcz12_5
        try clear hcz12_6
        try clear hcz12_7
        try clear hcz12_8
        try clear hcz14_0
        try clear hcz14_1
        try clear hcz14_2
        try clear hcz14_3
        try clear hcz14_4
        try clear hcz14_5
        try clear hcz14_6
        try clear hcz14_7
        try clear hcz14_8
        try clear hcz16_0
        try clear hcz16_1
        try clear hcz16_2
        try clear hcz16_3
        try clear hcz16_4
        try clear hcz16_5
        try clear hcz16_6
        try clear hcz16_7
        try clear hcz16_8
        try clear hcz17_0
        try clear hcz17_1
        try clear hcz17_2
        try clear hcz17_3
        try clear hcz17_4
        try clear hcz17_5
        try clear hcz17_6
        try clear hcz17_7
        try clear hcz17_8
        try clear hcz4_0
        try clear hcz4_1
        try clear hcz4_2
        try clear hcz4_3
        try clear hcz4_4
        try clear hcz4_5
        try clear hcz4_6
        try clear hcz4_7
        try clear hcz4_8
        try clear hcz8_0
        try clear hcz8_1
        try clear hcz8_2
        try clear hcz8_3
        try clear hcz8_4
        try clear hcz8_5
        try clear hcz8_6
        try clear hcz8_7
        try clear hcz8_8
        try clear hfz10_0
        try clear hfz10_1
        try clear hfz10_2
        try clear hfz10_3
        try clear hfz10_4
        try clear hfz10_5
        try clear hfz10_6
        try clear hfz10_7
        try clear hfz10_8
        try clear hfz12_0
        try clear hfz12_1
        try clear hfz12_2
        try clear hfz12_3
        try clear hfz12_4
        try clear hfz12_5
        try clear hfz12_6
        try clear hfz12_7
        try clear hfz12_8
        try clear hfz14_0
        try clear hfz14_1
        try clear hfz14_2
        try clear hfz14_3
        try clear hfz14_4
        try clear hfz14_5
        try clear hfz14_6
        try clear hfz14_7
        try clear hfz14_8
        try clear hfz16_0
        try clear hfz16_1
        try clear hfz16_2
        try clear hfz16_3
        try clear hfz16_4
        try clear hfz16_5
        try clear hfz16_6
        try clear hfz16_7
        try clear hfz16_8
        try clear hfz17_0
        try clear hfz17_1
        try clear hfz17_2
        try clear hfz17_3
        try clear hfz17_4
        try clear hfz17_5
        try clear hfz17_6
        try clear hfz17_7
        try clear hfz17_8
        try clear hfz4_0
        try clear hfz4_1
        try clear hfz4_2
        try clear hfz4_3
        try clear hfz4_4
        try clear hfz4_5
        try clear hfz4_6
        try clear hfz4_7
        try clear hfz4_8
        try clear hfz8_0
        try clear hfz8_1
        try clear hfz8_2
        try clear hfz8_3
        try clear hfz8_4
        try clear hfz8_5
        try clear hfz8_6
        try clear hfz8_7
        try clear hfz8_8
        try clear p2
        obtain ⟨kq, x35_5, rfl, HA, HJ5, BK178, HB⟩ := hcut
        cases kq with
        | zero => exact absurd HA.out (by simp [harrowref16_catches.j1])
        | succ kj5 =>
          have H := HA.out
          clear HA
          simp only [harrowref16_catches.j1] at H
          by_cases c18 : x35_5 = true
          · subst c18
            have H1 : (some false) = some r := by rw [if_pos rfl] at H; exact H
            clear H
            have H := H1
            clear H1
            obtain rfl := Option.some.inj H
            go_wp2
            go_ret
            exact ⟨by first | rfl | (simp [errW_none, errW_some] <;> rfl) | (simp [*, errW_none, errW_some] <;> rfl), by repeat (first | (with_reducible first | exact HB.out | apply below_alloc | apply pw_below_drewN | apply below_drew1 | refine below_set ?_ GE178.out) | exact HB.out)⟩
          · replace c18 := Bool.eq_false_iff.mpr c18
            subst c18
            have H1 : (if a0_2 = 3 then (if a0_4.toList = ([] : List UInt8) then (some true) else ((harrowref04_Name.f kj5 a0_4).bind fun t179 => (some t179))) else (if a0_2 = 6 then ((harrowref04_Template.f kj5 a0_4).bind fun t180 => (some t180)) else (some (a0_4.toList == ([] : List UInt8))))) = some r := by rw [if_neg (show ¬ (false = true) by decide)] at H; exact H
            clear H
            have H := H1
            clear H1
            by_cases c19 : a0_2 = 3
            · rw [if_pos c19] at H
              have c19b0 : (a0_2 == 3) = true := beq_iff_eq.mpr c19
              have c19b1 : (a0_2 != 3) = false := bne_eq_false_iff_eq.mpr c19
              clear c19
              by_cases c20 : a0_4.toList = ([] : List UInt8)
              · rw [if_pos c20] at H
                have c20b0 : (a0_4.toList == ([] : List UInt8)) = true := beq_iff_eq.mpr c20
                have c20b1 : (a0_4.toList != ([] : List UInt8)) = false := bne_eq_false_iff_eq.mpr c20
                clear c20
                obtain rfl := Option.some.inj H
                have hcz21_0 : wc.cell? ⟨gb178, 0, none⟩ = some (.int .i64 a0_0) := (blk_cell BK178.out 0).trans rfl
                have hcz21_1 : wc.cell? ⟨gb178, 1, none⟩ = some (.int .i64 a0_1) := (blk_cell BK178.out 1).trans rfl
                have hcz21_2 : wc.cell? ⟨gb178, 2, none⟩ = some (.int .i64 a0_2) := (blk_cell BK178.out 2).trans rfl
                have hcz21_3 : wc.cell? ⟨gb178, 3, none⟩ = some (.int .i64 a0_3) := (blk_cell BK178.out 3).trans rfl
                have hcz21_4 : wc.cell? ⟨gb178, 4, none⟩ = some (.string a0_4) := (blk_cell BK178.out 4).trans rfl
                have hcz21_5 : wc.cell? ⟨gb178, 5, none⟩ = some (.int .u64 a0_5) := (blk_cell BK178.out 5).trans rfl
                have hcz21_6 : wc.cell? ⟨gb178, 6, none⟩ = some (.int .u64 a0_6) := (blk_cell BK178.out 6).trans rfl
                have hcz21_7 : wc.cell? ⟨gb178, 7, none⟩ = some (.int .u64 a0_7) := (blk_cell BK178.out 7).trans rfl
                have hcz21_8 : wc.cell? ⟨gb178, 8, none⟩ = some (.int .u64 a0_8) := (blk_cell BK178.out 8).trans rfl
                have hfz21_0 := blk_frozen BK178.out 0
                have hfz21_1 := blk_frozen BK178.out 1
                have hfz21_2 := blk_frozen BK178.out 2
                have hfz21_3 := blk_frozen BK178.out 3
                have hfz21_4 := blk_frozen BK178.out 4
                have hfz21_5 := blk_frozen BK178.out 5
                have hfz21_6 := blk_frozen BK178.out 6
                have hfz21_7 := blk_frozen BK178.out 7
                have hfz21_8 := blk_frozen BK178.out 8
                go_wp2
                go_ret
                exact ⟨by first | rfl | (simp [errW_none, errW_some] <;> rfl) | (simp [*, errW_none, errW_some] <;> rfl), by repeat (first | (with_reducible first | exact HB.out | apply below_alloc | apply pw_below_drewN | apply below_drew1 | refine below_set ?_ GE178.out) | exact HB.out)⟩
              · rw [if_neg c20] at H
                have c20b0 : (a0_4.toList == ([] : List UInt8)) = false := beq_eq_false_iff_ne.mpr c20
                have c20b1 : (a0_4.toList != ([] : List UInt8)) = true := bne_iff_ne.mpr c20
                replace H := Option.bind_eq_some_iff.mp H
                obtain ⟨t179, A220, H⟩ := H
                replace H : (some t179) = some r := H
                have A22 := Aside0.mk A220
                clear A220
                obtain rfl := Option.some.inj H
                have hcz23_0 : wc.cell? ⟨gb178, 0, none⟩ = some (.int .i64 a0_0) := (blk_cell BK178.out 0).trans rfl
                have hcz23_1 : wc.cell? ⟨gb178, 1, none⟩ = some (.int .i64 a0_1) := (blk_cell BK178.out 1).trans rfl
                have hcz23_2 : wc.cell? ⟨gb178, 2, none⟩ = some (.int .i64 a0_2) := (blk_cell BK178.out 2).trans rfl
                have hcz23_3 : wc.cell? ⟨gb178, 3, none⟩ = some (.int .i64 a0_3) := (blk_cell BK178.out 3).trans rfl
                have hcz23_4 : wc.cell? ⟨gb178, 4, none⟩ = some (.string a0_4) := (blk_cell BK178.out 4).trans rfl
                have hcz23_5 : wc.cell? ⟨gb178, 5, none⟩ = some (.int .u64 a0_5) := (blk_cell BK178.out 5).trans rfl
                have hcz23_6 : wc.cell? ⟨gb178, 6, none⟩ = some (.int .u64 a0_6) := (blk_cell BK178.out 6).trans rfl
                have hcz23_7 : wc.cell? ⟨gb178, 7, none⟩ = some (.int .u64 a0_7) := (blk_cell BK178.out 7).trans rfl
                have hcz23_8 : wc.cell? ⟨gb178, 8, none⟩ = some (.int .u64 a0_8) := (blk_cell BK178.out 8).trans rfl
                have hfz23_0 := blk_frozen BK178.out 0
                have hfz23_1 := blk_frozen BK178.out 1
                have hfz23_2 := blk_frozen BK178.out 2
                have hfz23_3 := blk_frozen BK178.out 3
                have hfz23_4 := blk_frozen BK178.out 4
                have hfz23_5 := blk_frozen BK178.out 5
                have hfz23_6 := blk_frozen BK178.out 6
                have hfz23_7 := blk_frozen BK178.out 7
                have hfz23_8 := blk_frozen BK178.out 8
                go_wp2_with (first | (go_at_call 94; (with_reducible refine (harrowref04_Name.calls kj5 a0_4 t179 _ A22.out).mono ?_); rintro e w' ⟨rfl, ⟨nd, rfl⟩⟩))
                go_ret
                exact ⟨by first | rfl | (simp [errW_none, errW_some] <;> rfl) | (simp [*, errW_none, errW_some] <;> rfl), by repeat (first | (with_reducible first | exact HB.out | apply below_alloc | apply pw_below_drewN | apply below_drew1 | refine below_set ?_ GE178.out) | exact HB.out)⟩
            · rw [if_neg c19] at H
              have c19b0 : (a0_2 == 3) = false := beq_eq_false_iff_ne.mpr c19
              have c19b1 : (a0_2 != 3) = true := bne_iff_ne.mpr c19
              by_cases c24 : a0_2 = 6
              · rw [if_pos c24] at H
                have c24b0 : (a0_2 == 6) = true := beq_iff_eq.mpr c24
                have c24b1 : (a0_2 != 6) = false := bne_eq_false_iff_eq.mpr c24
                clear c24
                replace H := Option.bind_eq_some_iff.mp H
                obtain ⟨t180, A250, H⟩ := H
                replace H : (some t180) = some r := H
                have A25 := Aside0.mk A250
                clear A250
                obtain rfl := Option.some.inj H
                have hcz26_0 : wc.cell? ⟨gb178, 0, none⟩ = some (.int .i64 a0_0) := (blk_cell BK178.out 0).trans rfl
                have hcz26_1 : wc.cell? ⟨gb178, 1, none⟩ = some (.int .i64 a0_1) := (blk_cell BK178.out 1).trans rfl
                have hcz26_2 : wc.cell? ⟨gb178, 2, none⟩ = some (.int .i64 a0_2) := (blk_cell BK178.out 2).trans rfl
                have hcz26_3 : wc.cell? ⟨gb178, 3, none⟩ = some (.int .i64 a0_3) := (blk_cell BK178.out 3).trans rfl
                have hcz26_4 : wc.cell? ⟨gb178, 4, none⟩ = some (.string a0_4) := (blk_cell BK178.out 4).trans rfl
                have hcz26_5 : wc.cell? ⟨gb178, 5, none⟩ = some (.int .u64 a0_5) := (blk_cell BK178.out 5).trans rfl
                have hcz26_6 : wc.cell? ⟨gb178, 6, none⟩ = some (.int .u64 a0_6) := (blk_cell BK178.out 6).trans rfl
                have hcz26_7 : wc.cell? ⟨gb178, 7, none⟩ = some (.int .u64 a0_7) := (blk_cell BK178.out 7).trans rfl
                have hcz26_8 : wc.cell? ⟨gb178, 8, none⟩ = some (.int .u64 a0_8) := (blk_cell BK178.out 8).trans rfl
                have hfz26_0 := blk_frozen BK178.out 0
                have hfz26_1 := blk_frozen BK178.out 1
                have hfz26_2 := blk_frozen BK178.out 2
                have hfz26_3 := blk_frozen BK178.out 3
                have hfz26_4 := blk_frozen BK178.out 4
                have hfz26_5 := blk_frozen BK178.out 5
                have hfz26_6 := blk_frozen BK178.out 6
                have hfz26_7 := blk_frozen BK178.out 7
                have hfz26_8 := blk_frozen BK178.out 8
                go_wp2_with (first | ((with_reducible refine gate_callee (f := 95) rfl ?_); refine goesL_ (some 52) rfl rfl Tryd.func95 (by kernel_rfl) rfl #[.string a0_4] rfl (by (try simp only [List.map_toArray, List.map_cons, List.map_nil]); first | done | rfl | (simp only [List.length_drop, List.length_take]; rfl)) ?_; (with_reducible refine (harrowref04_Template.calls kj5 a0_4 t180 _ A25.out).mono ?_); rintro e w' ⟨rfl, ⟨nd, rfl⟩⟩; refine ⟨_, rfl, ?_⟩))
                go_ret
                exact ⟨by first | rfl | (simp [errW_none, errW_some] <;> rfl) | (simp [*, errW_none, errW_some] <;> rfl), by repeat (first | (with_reducible first | exact HB.out | apply below_alloc | apply pw_below_drewN | apply below_drew1 | refine below_set ?_ GE178.out) | exact HB.out)⟩
              · rw [if_neg c24] at H
                have c24b0 : (a0_2 == 6) = false := beq_eq_false_iff_ne.mpr c24
                have c24b1 : (a0_2 != 6) = true := bne_iff_ne.mpr c24
                obtain rfl := Option.some.inj H
                have hcz27_0 : wc.cell? ⟨gb178, 0, none⟩ = some (.int .i64 a0_0) := (blk_cell BK178.out 0).trans rfl
                have hcz27_1 : wc.cell? ⟨gb178, 1, none⟩ = some (.int .i64 a0_1) := (blk_cell BK178.out 1).trans rfl
                have hcz27_2 : wc.cell? ⟨gb178, 2, none⟩ = some (.int .i64 a0_2) := (blk_cell BK178.out 2).trans rfl
                have hcz27_3 : wc.cell? ⟨gb178, 3, none⟩ = some (.int .i64 a0_3) := (blk_cell BK178.out 3).trans rfl
                have hcz27_4 : wc.cell? ⟨gb178, 4, none⟩ = some (.string a0_4) := (blk_cell BK178.out 4).trans rfl
                have hcz27_5 : wc.cell? ⟨gb178, 5, none⟩ = some (.int .u64 a0_5) := (blk_cell BK178.out 5).trans rfl
                have hcz27_6 : wc.cell? ⟨gb178, 6, none⟩ = some (.int .u64 a0_6) := (blk_cell BK178.out 6).trans rfl
                have hcz27_7 : wc.cell? ⟨gb178, 7, none⟩ = some (.int .u64 a0_7) := (blk_cell BK178.out 7).trans rfl
                have hcz27_8 : wc.cell? ⟨gb178, 8, none⟩ = some (.int .u64 a0_8) := (blk_cell BK178.out 8).trans rfl
                have hfz27_0 := blk_frozen BK178.out 0
                have hfz27_1 := blk_frozen BK178.out 1
                have hfz27_2 := blk_frozen BK178.out 2
                have hfz27_3 := blk_frozen BK178.out 3
                have hfz27_4 := blk_frozen BK178.out 4
                have hfz27_5 := blk_frozen BK178.out 5
                have hfz27_6 := blk_frozen BK178.out 6
                have hfz27_7 := blk_frozen BK178.out 7
                have hfz27_8 := blk_frozen BK178.out 8
                go_wp2
                go_ret
                exact ⟨by first | rfl | (simp [errW_none, errW_some] <;> rfl) | (simp [*, errW_none, errW_some] <;> rfl), by repeat (first | (with_reducible first | exact HB.out | apply below_alloc | apply pw_below_drewN | apply below_drew1 | refine below_set ?_ GE178.out) | exact HB.out)⟩

end Go.Proofs.YthjlpcecfkboiaaDoor.Z
