/-
  The law StepsSum, walked: so many steps, and so many more, are as many as both together.
-/
import Derived.Test.YthjlpcecfkboiaaDoorGo2
import Derived.Test.YthjlpcecfkboiaaDoorLawBegins
namespace Go.Proofs.YthjlpcecfkboiaaDoor
open Go.RowKit Go.Proofs.YthjlpcecfkboiaaDoorW.PrintWords Go.Proofs.YthjlpcecfkboiaaDoor.Z
set_option linter.unusedVariables false
set_option linter.unusedSimpArgs false
/-- A state's block, made of a value that was told. -/
theorem st_new {w : World} {x : MSt} {v : Value} (h : StV w x v) : ∃ A1 n1 c1 A2 n2 c2, v = .agg #[.int .i64 x.pc, .int .i64 x.at_, .int .i64 x.steps, .int .i64 x.kind, .slice A1 n1 c1, .slice A2 n2 c2] := by
  obtain ⟨A1, c1, A2, c2, h1, _⟩ := h
  exact ⟨_, _, _, _, _, _, h1⟩
theorem StV.later {w w' : World} {x : MSt} {v : Value} {B : Nat} (h : StV w x v) (hB : w.heap.size ≤ B) (hb : Below B w w') : StV w' x v := h.below ⟨hb.os, hb.tape, hb.output, hb.size, fun i hi => hb.block i (Nat.lt_of_lt_of_le hi hB)⟩
theorem goM_max {er : Int} {b : Bool} {m : Int} {code : List Ins} {s : ByteArray} {l0 l1 l2 : Int} {x y : MSt} (hG : er = 0 → GoodCode code) (hN : er = 0 → CodeNotes FitG code) (h0 : er = 0 → l0 ≤ 1048576 ∧ l1 ≤ 1048576 ∧ l2 ≤ 1073741824) (hb : b = true → MayOk code s x) (h : goM er b m code s l0 l1 l2 x = .ok y) : er = 0 ∧ b = true ∧ MayOk code s y ∧ onM code s l0 l1 l2 m.toNat x = .ok y := by
  unfold goM at h
  by_cases c0 : er = 0
  rotate_left 1
  · rw [if_pos c0] at h; cases h
  rw [if_neg (by simpa using c0)] at h
  cases b with
  | false => rw [if_pos rfl] at h; cases h
  | true =>
    rw [if_neg (by decide)] at h
    by_cases c1 : m < 0 ∨ 1073741824 < m
    · rw [if_pos c1] at h; cases h
    rw [if_neg c1] at h
    obtain ⟨h1, h2, h3⟩ := hb rfl
    obtain ⟨b0, b1, b2⟩ := h0 c0
    exact ⟨c0, rfl, on_inv2 (hG c0) (hN c0) b0 b1 b2 _ x y h1 h2 h3 h, h⟩
/-- So many steps, and so many more, as they are told. -/
theorem goM_sum {er : Int} {n m : Int} {code : List Ins} {s : ByteArray} {l0 l1 l2 : Int} {x : MSt} (hn0 : 0 ≤ n) (hn1 : n ≤ 16384) (hm0 : 0 ≤ m) (hm1 : m ≤ 16384) :
    (∀ e, goM er true n code s l0 l1 l2 x = .error e → e ≠ 0 ∧ goM er true (n + m) code s l0 l1 l2 x = .error e) ∧ (∀ y, goM er true n code s l0 l1 l2 x = .ok y → goM er true m code s l0 l1 l2 y = goM er true (n + m) code s l0 l1 l2 x) := by
  unfold goM
  by_cases c0 : er = 0
  rotate_left 1
  · simp only [if_pos c0]
    refine ⟨fun e h => ?_, fun y h => by cases h⟩
    injection h with h
    subst h
    exact ⟨c0, rfl⟩
  simp only [if_neg (show ¬ er ≠ 0 by simpa using c0), if_neg (show ¬ (true = false) by decide), if_neg (show ¬ (n < 0 ∨ 1073741824 < n) by omega), if_neg (show ¬ (m < 0 ∨ 1073741824 < m) by omega), if_neg (show ¬ (n + m < 0 ∨ 1073741824 < n + m) by omega)]
  have ht : (n + m).toNat = n.toNat + m.toNat := by omega
  rw [ht]
  refine ⟨fun e h => ⟨onM_ne h, onM_err _ _ _ (by omega) h⟩, fun y h => (onM_add _ _ _ _ h).symm⟩
set_option maxHeartbeats 8000000 in
set_option maxRecDepth 20000 in
theorem lawSum (w : World) (A : Option Addr) (c : Nat) (l : List S52) (s : ByteArray) (p l0 l1 l2 n m : Int) (hr : Kd.C k52 w A l.length l) (hc : l.length ≤ c) (hU : UsesOk w) (hs : s.size ≤ 140737488351232) :
    Calls Tryd.prog 4 #[.agg #[.slice A l.length c, .string s, .int .i64 p, .int .i64 l0, .int .i64 l1, .int .i64 l2], .int .i64 n, .int .i64 m] w fun e w' => e = .returned (.bool true) ∧ Below w.heap.size w w' := by
  have hb0 := g_al (Below.refl w.heap.size w) (Nat.le_refl _) (.cells #[.slice A l.length c, .string s, .int .i64 p, .int .i64 l0, .int .i64 l1, .int .i64 l2] 26)
  have hG := alloc_new w (.cells #[.slice A l.length c, .string s, .int .i64 p, .int .i64 l0, .int .i64 l1, .int .i64 l2] 26)
  go_enter Tryd.func4, Tryd.ntmps4
  go_wp2_with (fail)
  with_reducible refine (cut_any _ _ s p l0 l1 l2 A l.length c rfl).mono ?_
  rintro e w2 ⟨rfl, hb2⟩
  generalize cutM l2 = l3 at *
  have hG2 := keep hb2 hG
  have hb3 := g_then hb0 hb2
  have hcG := block_cell hG2
  have hfG := block_free hG2
  have hltG := block_lt hG2
  clear hb0 hb2 hG
  have hWG := (heap_setCell_self (heap_setCell_self (heap_setCell_self (heap_setCell_self (heap_setCell_self (heap_setCell_self hG2 0 (.slice A l.length c)) 1 (.string s)) 2 (.int .i64 p)) 3 (.int .i64 l0)) 4 (.int .i64 l1)) 5 (.int .i64 l3))
  have hWb := (g_st (g_st (g_st (g_st (g_st (g_st hb3 (Nat.le_refl _) 0 (.slice A l.length c)) (Nat.le_refl _) 1 (.string s)) (Nat.le_refl _) 2 (.int .i64 p)) (Nat.le_refl _) 3 (.int .i64 l0)) (Nat.le_refl _) 4 (.int .i64 l1)) (Nat.le_refl _) 5 (.int .i64 l3))
  by_cases g : n < 0 ∨ 16384 < n ∨ m < 0 ∨ 16384 < m
  · rcases (show decide (n < 0) = true ∨ (decide (n < 0) = false ∧ decide (16384 < n) = true) ∨ (decide (n < 0) = false ∧ decide (16384 < n) = false ∧ decide (m < 0) = true) ∨ (decide (n < 0) = false ∧ decide (16384 < n) = false ∧ decide (m < 0) = false ∧ decide (16384 < m) = true) by simp only [decide_eq_true_eq, decide_eq_false_iff_not]; omega) with e0 | ⟨e0, e1⟩ | ⟨e0, e1, e2⟩ | ⟨e0, e1, e2, e3⟩
    all_goals
      go_wp2_with (fail)
      with_reducible refine (lives_any _ (hU.below hWb)).mono ?_
      rintro e w4 ⟨rfl, hb4⟩
      have hb5 := g_then hWb hb4
      go_wp2_with (fail)
      go_ret
      exact ⟨rfl, hb5⟩
  have e0 : decide (n < 0) = false := decide_eq_false (by omega)
  have e1 : decide (16384 < n) = false := decide_eq_false (by omega)
  have e2 : decide (m < 0) = false := decide_eq_false (by omega)
  have e3 : decide (16384 < m) = false := decide_eq_false (by omega)
  obtain ⟨e, hE, hEg⟩ := looked_tot l s p 0 0 0
  go_wp2_with (fail)
  clear hG2 hb3 hcG hfG hltG
  generalize ((((((w2.setCell ⟨w.heap.size, 0, none⟩ (.slice A l.length c)).setCell ⟨w.heap.size, 1, none⟩ (.string s)).setCell ⟨w.heap.size, 2, none⟩ (.int .i64 p)).setCell ⟨w.heap.size, 3, none⟩ (.int .i64 l0)).setCell ⟨w.heap.size, 4, none⟩ (.int .i64 l1)).setCell ⟨w.heap.size, 5, none⟩ (.int .i64 l3)) = W at *
  have hr2 := Kd.C_below hr hWb
  with_reducible refine (begin_any W A c l s p e hr2 hc (hU.below hWb) hE).mono ?_
  rintro en w4 ⟨rfl, hb4⟩
  unfold begV
  generalize hP : (if e = 0 then p else 0) = P at *
  have hG4 := keep hb4 hWG
  have hb5 := g_then hWb hb4
  have hcG := block_cell hG4
  have hfG := block_free hG4
  have hltG := block_lt hG4
  clear hWG hWb hb4
  by_cases c0 : e = 0
  rotate_left 1
  · rw [if_neg c0] at hP
    subst hP
    have ne : (e != 0) = true := bne_iff_ne.mpr c0
    go_wp2_with (fail)
    with_reducible refine (lives_any _ (hU.below (g_al hb5 hb5.size _))).mono ?_
    rintro en w6 ⟨rfl, hb6⟩
    have hX := keep hb6 (alloc_new w4 (.cells #[.int .i64 0, .int .i64 0, .int .i64 0, .int .i64 0, .slice none 0 0, .slice none 0 0] 31))
    have hb7 := g_then (g_al hb5 hb5.size _) hb6
    have hcX := block_cell hX
    go_wp2_with (fail)
    go_ret
    exact ⟨rfl, hb7⟩
  rw [if_pos c0] at hP
  subst hP
  have ne : (e != 0) = false := by subst c0; rfl
  obtain ⟨hGood, hz, hp0, hp1, _⟩ := hEg c0
  have hNotes : CodeNotes FitG (l.map insOf) := looked_notes l s p 0 0 0 (by rw [hE, c0])
  obtain ⟨er, hE2, hEg2⟩ := looked_tot l s 0 l0 l1 l3
  have hMay : MayOk (l.map insOf) s ⟨0, p, 0, 0, [], []⟩ := by
    have h0 := hGood.some_
    exact ⟨⟨Int.le_refl _, by show (0 : Int) < _; omega, hp0, hp1, Int.le_refl _, (show (0 : Int) ≤ 1073741824 by omega), Nat.zero_le _, Nat.zero_le _, (fun _ h => by cases h), (fun _ h => by cases h), (fun _ h => by cases h), List.Pairwise.nil⟩, Inv2.nil _ _ _ _ _ _, .inl rfl⟩
  have hlp : 0 < l.length := by have := hGood.some_; rwa [List.length_map] at this
  have hsmall : ∀ {q : Int} {x : MSt}, MayOk (l.map insOf) s x → (goS (goM er true q (l.map insOf) s l0 l1 l3 x)).stack.length ≤ 1048576 ∧ (goS (goM er true q (l.map insOf) s l0 l1 l3 x)).log.length ≤ 1048576 := by
    intro q x hx
    cases hq : goM er true q (l.map insOf) s l0 l1 l3 x with
    | error k => exact ⟨Nat.zero_le _, Nat.zero_le _⟩
    | ok y =>
      obtain ⟨_, _, hy, _⟩ := goM_max (fun _ => hGood) (fun _ => hNotes) (fun h => by have := hEg2 h; omega) (fun _ => hx) hq
      exact ⟨hy.1.stack, hy.1.log⟩
  obtain ⟨hsumE, hsumO⟩ := goM_sum (er := er) (n := n) (m := m) (code := l.map insOf) (s := s) (l0 := l0) (l1 := l1) (l2 := l3) (x := ⟨0, p, 0, 0, [], []⟩) (by omega) (by omega) (by omega) (by omega)
  go_wp2_with (fail)
  -- the state that was begun
  have hX := alloc_new w4 (.cells #[.int .i64 0, .int .i64 p, .int .i64 0, .int .i64 0, .slice none 0 0, .slice none 0 0] 31)
  have hG5 := alloc_old (y := (.cells #[.int .i64 0, .int .i64 p, .int .i64 0, .int .i64 0, .slice none 0 0, .slice none 0 0] 31)) hG4
  have hb6 := g_al hb5 hb5.size (.cells #[.int .i64 0, .int .i64 p, .int .i64 0, .int .i64 0, .slice none 0 0, .slice none 0 0] 31)
  have hq1 : w.heap.size < w4.heap.size := hltG
  clear hb5 hG4 hcG hfG hltG
  generalize w4.alloc (.cells #[.int .i64 0, .int .i64 p, .int .i64 0, .int .i64 0, .slice none 0 0, .slice none 0 0] 31) = w5 at *
  generalize w4.heap.size = bx at *
  with_reducible refine (go_st2 w5 A c l s l0 l1 l3 ⟨0, p, 0, 0, [], []⟩ (.agg #[.int .i64 0, .int .i64 p, .int .i64 0, .int .i64 0, .slice none 0 0, .slice none 0 0]) n er (Kd.C_below hr hb6) hc (hU.below hb6) (StV.nil w5 0 p 0 0) hE2 hMay hlp).mono ?_
  rintro en w6 ⟨va, rfl, hva, hb7⟩
  have hG6 := keep hb7 hG5
  have hX6 := keep hb7 hX
  have hb8 := g_then hb6 hb7
  have hcG := block_cell hG6
  have hcX := block_cell hX6
  have hltG := block_lt hG6
  have hltX := block_lt hX6
  clear hG5 hX hb6 hb7
  have hva0 := hva
  obtain ⟨A1, n1, c1, A2, n2, c2, hva1⟩ := st_new hva0
  clear hva0
  generalize hya : goS (goM er true n (l.map insOf) s l0 l1 l3 ⟨0, p, 0, 0, [], []⟩) = ya at *
  generalize hea : goE (goM er true n (l.map insOf) s l0 l1 l3 ⟨0, p, 0, 0, [], []⟩) = ea at *
  subst hva1
  go_wp2_with (fail)
  -- the first state
  have hY := alloc_new w6 (.cells #[.int .i64 ya.pc, .int .i64 ya.at_, .int .i64 ya.steps, .int .i64 ya.kind, .slice A1 n1 c1, .slice A2 n2 c2] 31)
  have hG7 := alloc_old (y := (.cells #[.int .i64 ya.pc, .int .i64 ya.at_, .int .i64 ya.steps, .int .i64 ya.kind, .slice A1 n1 c1, .slice A2 n2 c2] 31)) hG6
  have hX7 := alloc_old (y := (.cells #[.int .i64 ya.pc, .int .i64 ya.at_, .int .i64 ya.steps, .int .i64 ya.kind, .slice A1 n1 c1, .slice A2 n2 c2] 31)) hX6
  have hva7 := hva.below ((Below.refl w6.heap.size w6).alloc (Nat.le_refl _) (.cells #[.int .i64 ya.pc, .int .i64 ya.at_, .int .i64 ya.steps, .int .i64 ya.kind, .slice A1 n1 c1, .slice A2 n2 c2] 31))
  have hb9 := g_al hb8 hb8.size (.cells #[.int .i64 ya.pc, .int .i64 ya.at_, .int .i64 ya.steps, .int .i64 ya.kind, .slice A1 n1 c1, .slice A2 n2 c2] 31)
  have hq2 : bx < w6.heap.size := hltX
  clear hva hG6 hX6 hb8 hcG hcX hltG hltX
  generalize w6.alloc (.cells #[.int .i64 ya.pc, .int .i64 ya.at_, .int .i64 ya.steps, .int .i64 ya.kind, .slice A1 n1 c1, .slice A2 n2 c2] 31) = w7 at *
  generalize w6.heap.size = ba at *
  with_reducible refine (go_st2 w7 A c l s l0 l1 l3 ⟨0, p, 0, 0, [], []⟩ (.agg #[.int .i64 0, .int .i64 p, .int .i64 0, .int .i64 0, .slice none 0 0, .slice none 0 0]) (n + m) er (Kd.C_below hr hb9) hc (hU.below hb9) (StV.nil w7 0 p 0 0) hE2 hMay hlp).mono ?_
  rintro en w8 ⟨vb, rfl, hvb, hb10⟩
  have hG8 := keep hb10 hG7
  have hX8 := keep hb10 hX7
  have hY8 := keep hb10 hY
  have hva8 := hva7.below hb10
  have hb11 := g_then hb9 hb10
  have hcG := block_cell hG8
  have hcX := block_cell hX8
  have hcY := block_cell hY8
  have hltG := block_lt hG8
  have hltX := block_lt hX8
  have hltY := block_lt hY8
  clear hG7 hX7 hY hva7 hb9 hb10
  have hvb0 := hvb
  obtain ⟨B1, nB1, cB1, B2, nB2, cB2, hvb1⟩ := st_new hvb0
  clear hvb0
  generalize hyb : goS (goM er true (n + m) (l.map insOf) s l0 l1 l3 ⟨0, p, 0, 0, [], []⟩) = yb at *
  generalize heb : goE (goM er true (n + m) (l.map insOf) s l0 l1 l3 ⟨0, p, 0, 0, [], []⟩) = eb at *
  subst hvb1
  cases hR : goM er true n (l.map insOf) s l0 l1 l3 ⟨0, p, 0, 0, [], []⟩ with
  | error k =>
    obtain ⟨hk0, hk⟩ := hsumE k hR
    rw [hR] at hea
    rw [hk] at heb
    have hea : k = ea := hea
    have heb : k = eb := heb
    subst hea heb
    have ne2 : (k != 0) = true := bne_iff_ne.mpr hk0
    have nf : (k == k) = true := beq_self_eq_true k
    go_wp2_with (fail)
    have hU9 := hU.below (g_al hb11 hb11.size (.cells #[.int .i64 yb.pc, .int .i64 yb.at_, .int .i64 yb.steps, .int .i64 yb.kind, .slice B1 nB1 cB1, .slice B2 nB2 cB2] 31))
    with_reducible refine (lives_any _ hU9).mono ?_
    rintro en w9 ⟨rfl, hb12⟩
    have hb13 := g_then (g_al hb11 hb11.size (.cells #[.int .i64 yb.pc, .int .i64 yb.at_, .int .i64 yb.steps, .int .i64 yb.kind, .slice B1 nB1 cB1, .slice B2 nB2 cB2] 31)) hb12
    go_wp2_with (fail)
    go_ret
    exact ⟨rfl, hb13⟩
  | ok y =>
    have hMy : MayOk (l.map insOf) s y := (goM_max (fun _ => hGood) (fun _ => hNotes) (fun h => by have := hEg2 h; omega) (fun _ => hMay) hR).2.2.1
    have hsum := hsumO y hR
    rw [hR] at hea hya
    have hea : 0 = ea := hea
    have hya : y = ya := hya
    subst hea hya
    have ne2 : ((0 : Int) != 0) = false := by decide
    go_wp2_with (fail)
    have hZ := alloc_new w8 (.cells #[.int .i64 yb.pc, .int .i64 yb.at_, .int .i64 yb.steps, .int .i64 yb.kind, .slice B1 nB1 cB1, .slice B2 nB2 cB2] 31)
    have hG9 := alloc_old (y := (.cells #[.int .i64 yb.pc, .int .i64 yb.at_, .int .i64 yb.steps, .int .i64 yb.kind, .slice B1 nB1 cB1, .slice B2 nB2 cB2] 31)) hG8
    have hX9 := alloc_old (y := (.cells #[.int .i64 yb.pc, .int .i64 yb.at_, .int .i64 yb.steps, .int .i64 yb.kind, .slice B1 nB1 cB1, .slice B2 nB2 cB2] 31)) hX8
    have hY9 := alloc_old (y := (.cells #[.int .i64 yb.pc, .int .i64 yb.at_, .int .i64 yb.steps, .int .i64 yb.kind, .slice B1 nB1 cB1, .slice B2 nB2 cB2] 31)) hY8
    have hvb9 := hvb.below ((Below.refl w8.heap.size w8).alloc (Nat.le_refl _) (.cells #[.int .i64 yb.pc, .int .i64 yb.at_, .int .i64 yb.steps, .int .i64 yb.kind, .slice B1 nB1 cB1, .slice B2 nB2 cB2] 31))
    have hva9 := hva8.below ((Below.refl w8.heap.size w8).alloc (Nat.le_refl _) (.cells #[.int .i64 yb.pc, .int .i64 yb.at_, .int .i64 yb.steps, .int .i64 yb.kind, .slice B1 nB1 cB1, .slice B2 nB2 cB2] 31))
    have hb14 := g_al hb11 hb11.size (.cells #[.int .i64 yb.pc, .int .i64 yb.at_, .int .i64 yb.steps, .int .i64 yb.kind, .slice B1 nB1 cB1, .slice B2 nB2 cB2] 31)
    have hq3 : ba < w8.heap.size := hltY
    clear hvb hva8 hG8 hX8 hY8 hb11 hcG hcX hcY hltG hltX hltY
    generalize w8.alloc (.cells #[.int .i64 yb.pc, .int .i64 yb.at_, .int .i64 yb.steps, .int .i64 yb.kind, .slice B1 nB1 cB1, .slice B2 nB2 cB2] 31) = w9 at *
    generalize w8.heap.size = bb at *
    with_reducible refine (go_st2 w9 A c l s l0 l1 l3 y (.agg #[.int .i64 y.pc, .int .i64 y.at_, .int .i64 y.steps, .int .i64 y.kind, .slice A1 n1 c1, .slice A2 n2 c2]) m er (Kd.C_below hr hb14) hc (hU.below hb14) hva9 hE2 hMy hlp).mono ?_
    rintro en w10 ⟨vc, rfl, hvc, hb15⟩
    rw [hsum] at hvc ⊢
    rw [hyb] at hvc
    rw [heb]
    have hG10 := keep hb15 hG9
    have hZ10 := keep hb15 hZ
    have hvb10 := hvb9.below hb15
    have hb16 := g_then hb14 hb15
    have hcG := block_cell hG10
    have hcZ := block_cell hZ10
    have hltG := block_lt hG10
    have hltZ := block_lt hZ10
    clear hG9 hX9 hY9 hZ hva9 hvb9 hb14 hb15
    have hvc0 := hvc
    obtain ⟨C1, nC1, cC1, C2, nC2, cC2, hvc1⟩ := st_new hvc0
    clear hvc0
    subst hvc1
    have nf : (eb == eb) = true := beq_self_eq_true eb
    go_wp2_with (fail)
    have hV := alloc_new w10 (.cells #[.int .i64 yb.pc, .int .i64 yb.at_, .int .i64 yb.steps, .int .i64 yb.kind, .slice C1 nC1 cC1, .slice C2 nC2 cC2] 31)
    have hZ11 := alloc_old (y := (.cells #[.int .i64 yb.pc, .int .i64 yb.at_, .int .i64 yb.steps, .int .i64 yb.kind, .slice C1 nC1 cC1, .slice C2 nC2 cC2] 31)) hZ10
    have hvb11 := hvb10.below ((Below.refl w10.heap.size w10).alloc (Nat.le_refl _) (.cells #[.int .i64 yb.pc, .int .i64 yb.at_, .int .i64 yb.steps, .int .i64 yb.kind, .slice C1 nC1 cC1, .slice C2 nC2 cC2] 31))
    have hvc11 := hvc.below ((Below.refl w10.heap.size w10).alloc (Nat.le_refl _) (.cells #[.int .i64 yb.pc, .int .i64 yb.at_, .int .i64 yb.steps, .int .i64 yb.kind, .slice C1 nC1 cC1, .slice C2 nC2 cC2] 31))
    have hb17 := g_al hb16 hb16.size (.cells #[.int .i64 yb.pc, .int .i64 yb.at_, .int .i64 yb.steps, .int .i64 yb.kind, .slice C1 nC1 cC1, .slice C2 nC2 cC2] 31)
    have hsm : yb.stack.length ≤ 1048576 ∧ yb.log.length ≤ 1048576 := by rw [← hyb]; exact hsmall hMay
    clear hvb10 hvc hG10 hZ10 hb16 hcG hcZ hltG hltZ
    generalize w10.alloc (.cells #[.int .i64 yb.pc, .int .i64 yb.at_, .int .i64 yb.steps, .int .i64 yb.kind, .slice C1 nC1 cC1, .slice C2 nC2 cC2] 31) = w11 at *
    generalize w10.heap.size = bc at *
    with_reducible refine (same_st w11 yb _ _ hvc11 hvb11 hsm.1 hsm.2).mono ?_
    rintro en w12 ⟨rfl, hb18⟩
    have hb19 := g_then hb17 hb18
    go_wp2_with (fail)
    with_reducible refine (lives_any _ (hU.below hb19)).mono ?_
    rintro en w13 ⟨rfl, hb20⟩
    have hb21 := g_then hb19 hb20
    go_wp2_with (fail)
    go_ret
    exact ⟨rfl, hb21⟩
end Go.Proofs.YthjlpcecfkboiaaDoor
