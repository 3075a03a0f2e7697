/-
  CaptureKids, walked: it returns true and leaves what was there as it was.
-/
import Derived.Test.YtebebognifiinaaWalkI
import Derived.Test.YtebebognifiinaaLawForests
import Derived.OpenShut
namespace Go.Proofs.Ytebebognifiinaa
open Go.RowKit Go.Proofs.YtebebognifiinaaW.PrintWords
set_option linter.unusedVariables false
set_option linter.unusedSimpArgs false
def kn (P : List Int) (n : Nat) (a : Int) : List Nat := (List.range n).filter fun i => decide (P[i]? = some a)
theorem kn_mem {P : List Int} {n : Nat} {a : Int} {q : Nat} : q ∈ kn P n a ↔ q < n ∧ P[q]? = some a := by simp [kn]
theorem kn_sorted (P : List Int) (n : Nat) (a : Int) : (kn P n a).Pairwise (· < ·) := List.Pairwise.filter _ List.pairwise_lt_range
theorem kn_lt {P : List Int} {n : Nat} {a : Int} {m : Nat} (hm : m + 1 < (kn P n a).length) : (kn P n a)[m] < (kn P n a)[m + 1] :=
  List.pairwise_iff_getElem.1 (kn_sorted P n a) m (m + 1) (by omega) hm (by omega)
/-- What has been seen: of all that stand within one below a, and of the first m that stand within a. -/
def seenL (P : List Int) (n : Nat) (a : Int) (m : Nat) : List Int := (List.range n).map fun i => if P.getD i (-1) < a ∨ i ∈ (kn P n a).take m then 1 else 0
theorem seenL_len (P : List Int) (n : Nat) (a : Int) (m : Nat) : (seenL P n a m).length = n := by simp [seenL]
theorem seenL_at {P : List Int} {n : Nat} {a : Int} {m : Nat} {i : Nat} (hi : i < n) : (seenL P n a m)[i]? = some (if P.getD i (-1) < a ∨ i ∈ (kn P n a).take m then 1 else 0) := by
  simp [seenL, hi]
theorem getD_of {P : List Int} {q : Nat} {a : Int} (h : P[q]? = some a) : P.getD q (-1) = a := by rw [List.getD_eq_getElem?_getD, h]; rfl
theorem seenL_new {P : List Int} {n : Nat} {a : Int} {m : Nat} (hm : m < (kn P n a).length) : (seenL P n a m)[(kn P n a)[m]]? = some 0 := by
  obtain ⟨h1, h2⟩ := kn_mem.1 (List.getElem_mem hm)
  rw [seenL_at h1, if_neg]
  rintro (h | h)
  · rw [getD_of h2] at h; omega
  · obtain ⟨j, hj, e⟩ := List.mem_iff_getElem.1 h
    rw [List.length_take] at hj
    rw [List.getElem_take] at e
    have := List.pairwise_iff_getElem.1 (kn_sorted P n a) j m (by omega) hm (by omega)
    omega
theorem seenL_set {P : List Int} {n : Nat} {a : Int} {m : Nat} (hm : m < (kn P n a).length) : (seenL P n a m).set (kn P n a)[m] 1 = seenL P n a (m + 1) := by
  obtain ⟨h1, h2⟩ := kn_mem.1 (List.getElem_mem hm)
  refine List.ext_getElem? fun i => ?_
  rw [List.getElem?_set]
  by_cases hi : i < n
  · have hmem : i ∈ (kn P n a).take (m + 1) ↔ i ∈ (kn P n a).take m ∨ i = (kn P n a)[m] := by
      rw [List.take_succ_eq_append_getElem hm, List.mem_append, List.mem_singleton]
    by_cases e : (kn P n a)[m] = i
    · rw [if_pos e, if_pos (by rw [seenL_len]; omega), seenL_at hi, if_pos (.inr (hmem.2 (.inr e.symm)))]
    · rw [if_neg e, seenL_at hi, seenL_at hi]
      congr 1
      by_cases h : P.getD i (-1) < a ∨ i ∈ (kn P n a).take m
      · rw [if_pos h, if_pos (h.imp_right fun h => hmem.2 (.inl h))]
      · rw [if_neg h, if_neg]
        rintro (h' | h')
        · exact h (.inl h')
        · rcases hmem.1 h' with h' | h'
          · exact h (.inr h')
          · exact e h'.symm
  · rw [if_neg (by omega), List.getElem?_eq_none (by rw [seenL_len]; omega), List.getElem?_eq_none (by rw [seenL_len]; omega)]
theorem seenL_all {P : List Int} {n : Nat} {a : Int} (hP : P.length = n) : seenL P n a (kn P n a).length = seenL P n (a + 1) 0 := by
  unfold seenL
  refine List.map_congr_left fun i hi => ?_
  have hi := List.mem_range.1 hi
  rw [List.take_of_length_le (Nat.le_refl _)]
  have h : i ∈ kn P n a ↔ P.getD i (-1) = a := by
    rw [kn_mem]
    rw [List.getD_eq_getElem?_getD, List.getElem?_eq_getElem (by omega)]
    simp [hi]
  by_cases h1 : P.getD i (-1) < a + 1
  · rw [if_pos (by rcases Int.lt_or_eq_of_le (show P.getD i (-1) ≤ a by omega) with h2 | h2; exact .inl h2; exact .inr (h.2 h2)), if_pos (.inl h1)]
  · rw [if_neg (by rintro (h2 | h2); omega; have := h.1 h2; omega), if_neg (by rintro (h2 | h2); omega; simp at h2)]
theorem seenL_start {P : List Int} {n : Nat} (hP : ∀ (j : Nat) (i : Int), P[j]? = some i → -1 ≤ i ∧ i < j) (hn : P.length = n) : seenL P n (-1) 0 = List.replicate n 0 := by
  refine List.ext_getElem? fun i => ?_
  by_cases hi : i < n
  · rw [seenL_at hi, List.getElem?_replicate, if_pos hi, if_neg]
    rintro (h | h)
    · rw [List.getD_eq_getElem?_getD, List.getElem?_eq_getElem (by omega)] at h
      have := hP i P[i] (List.getElem?_eq_getElem (by omega))
      simp at h; omega
    · simp at h
  · rw [List.getElem?_eq_none (by rw [seenL_len]; omega), List.getElem?_eq_none (by simp; omega)]
theorem seenL_end {P : List Int} {n : Nat} (hP : ∀ (j : Nat) (i : Int), P[j]? = some i → -1 ≤ i ∧ i < j) (hn : P.length = n) : seenL P n n 0 = List.replicate n 1 := by
  refine List.ext_getElem? fun i => ?_
  by_cases hi : i < n
  · rw [seenL_at hi, List.getElem?_replicate, if_pos hi, if_pos]
    left
    rw [List.getD_eq_getElem?_getD, List.getElem?_eq_getElem (by omega)]
    have := hP i P[i] (List.getElem?_eq_getElem (by omega))
    simp; omega
  · rw [List.getElem?_eq_none (by rw [seenL_len]; omega), List.getElem?_eq_none (by simp; omega)]
theorem intsV_at {l : List Int} {i : Nat} {x : Int} (h : l[i]? = some x) : (intsV l)[i]? = some (.int .i64 x) := by rw [intsV, List.getElem?_map, h]; rfl
theorem intsV_set (l : List Int) (i : Nat) (x : Int) : (intsV l).set i (.int .i64 x) = intsV (l.set i x) := by rw [intsV, intsV, List.map_set]
theorem kids_zero {l : List Cap} {a : Int} (h : (checkL l).2 = 0) (h1 : ¬ a < -1) (h2 : ¬ (l.length : Int) ≤ a) : kidsL l a = (kidsTo l a l.length, 0) := by unfold kidsL; rw [if_pos h, if_neg (by omega)]
set_option maxRecDepth 100000 in
set_option maxHeartbeats 16000000 in
theorem lawKids (l : List Cap) (hk : ∀ c ∈ l, c.kids ≤ 9223372036854775807) (hl : l.length ≤ 4611686018427387904) (ao : Option Addr) (c : Nat) (w : World) (hv : RowIs w (.slice ao l.length c) 6 l.length (l.flatMap capsC)) :
    Calls Try.prog 4 #[.slice ao l.length c] w fun e w' => e = .returned (.bool true) ∧ Below w.heap.size w w' := by
  have hvb : 0 < l.length → ∀ g o n c', (.slice ao l.length c : Value) = .slice (some ⟨g, o, none⟩) n c' → g < w.heap.size := by
    intro hp g o n c' e
    injection e with e1 e2 e3
    subst e1
    exact hv.block hp (by decide)
  go_enter Try.func4, Try.ntmps4
  go_wp2_with (fail)
  refine (Q.harrowlaw23_works.calls 9 true w Q.works_pure).mono ?_
  rintro e w1 ⟨rfl, hb1⟩
  have hv1 := hv.below hb1
  by_cases hlong : 300 < l.length
  · have hlong' : (300 : Int) < (l.length : Int) := by omega
    go_wp2_with (fail)
    go_ret
    exact ⟨rfl, hb1⟩
  have hshort : ¬ (300 : Int) < (l.length : Int) := by omega
  have hvb1 : 0 < l.length → ∀ g o n c', (.slice ao l.length c : Value) = .slice (some ⟨g, o, none⟩) n c' → g < w1.heap.size := fun hp g o n c' e => Nat.lt_of_lt_of_le (hvb hp g o n c' e) hb1.size
  go_wp2_with (fail)
  refine (check_any l hk (.slice ao l.length c) w1 hl hv1 hvb1).mono ?_
  rintro e w2 ⟨rfl, hb2⟩
  have hB2 := hb1.trans (hb2.mono hb1.size)
  have hv2 := hv.below hB2
  have hvb2 : 0 < l.length → ∀ g o n c', (.slice ao l.length c : Value) = .slice (some ⟨g, o, none⟩) n c' → g < w2.heap.size := fun hp g o n c' e => Nat.lt_of_lt_of_le (hvb hp g o n c' e) hB2.size
  by_cases hc : (checkL l).2 = 0
  rotate_left 1
  · have hcb : ((checkL l).2 != 0) = true := by simp [hc]
    have hL : kidsL l (-1) = ([], (checkL l).2) := by unfold kidsL; rw [if_neg hc]
    have hK := kids_any l hk (-1) (.slice ao l.length c) w2 hl hv2 hvb2
    rw [hL] at hK
    generalize checkL l = C at *
    go_wp2_with (fail)
    refine hK.mono ?_
    rintro e w3 ⟨u, rfl, hown, hb3⟩
    obtain ⟨uo, uc, rfl⟩ := (RowIs.of_owns hown).form
    have hB3 := hB2.trans (hb3.mono hB2.size)
    go_wp2_with (fail)
    go_ret
    exact ⟨rfl, hB3⟩
  obtain ⟨P, hP⟩ := forest_of hk hc
  obtain ⟨hlm, hsome, hC⟩ := checkL_ok hc
  rw [hC]
  have hPn := hP.len
  obtain ⟨i0, hi, hz0, hz1, hz2⟩ := info_parts info_ints
  go_wp2_with (at_make; refine wpList_make_full _ rfl _ _ 35 rfl w2.heap.size 3 i0 (.int .i64 0) 1 Try.underlying35 hi hz0 hz1 _ _ _ _ l.length rfl rfl rfl rfl (by rw [hz2]; omega) (by unfold maxLen; omega) (Nat.le_refl _) ?_)
  intro w3 hown3 hg3
  have hown3' : w3.ownsRow w2.heap.size 3 1 (.slice (some ⟨w2.heap.size, 0, none⟩) l.length l.length) l.length (intsV (seenL P l.length (-1) 0)) := by
    have e : (madeCells #[Value.int .i64 0] l.length).toList = intsV (seenL P l.length (-1) 0) := by
      rw [Go.toList_madeCells_one, seenL_start hP.lt hPn, intsV, List.map_replicate]
    rw [← e]; exact hown3
  clear hown3
  have hB3 : Below w.heap.size w w3 := hB2.grown hg3 hB2.size (fun b e => by cases e)
  have hz23 := hg3.size
  have hzw := hB2.size
  generalize hsb : w2.heap.size = sb at *
  clear hg3 hb2 hb1 hv1 hv2 hvb1 hvb2 hB2
  have hsbl := (hown3'.lt sb rfl).2
  go_wp2_with (fail)
  go_loopw [8] (fun a wr => ∃ j : Nat, j ≤ l.length + 1 ∧ a = .int .i64 ((j : Int) - 1) ∧ wr.ownsRow sb 3 1 (.slice (some ⟨sb, 0, none⟩) l.length l.length) l.length (intsV (seenL P l.length ((j : Int) - 1) 0)) ∧ Below w.heap.size w wr) (fun a _ => l.length + 1 - (intOf a + 1).toNat)
  case atStart => exact ⟨0, by omega, rfl, hown3', hB3⟩
  case round =>
    obtain ⟨j, hj, rfl, hown, hB⟩ := hrel
    by_cases hlt : j < l.length + 1
    · have hvr := hv.below hB
      have hvbr : 0 < l.length → ∀ g o n c', (.slice ao l.length c : Value) = .slice (some ⟨g, o, none⟩) n c' → g < wr.heap.size := fun hp g o n c' e => Nat.lt_of_lt_of_le (hvb hp g o n c' e) hB.size
      have hkid := hP.kidsTo
      cases j with
      | zero =>
        have ea : (((0 : Nat) : Int) - 1) = -1 := by omega
        rw [ea] at hown ⊢
        have hK := kids_any l hk (-1) (.slice ao l.length c) wr hl hvr hvbr
        rw [kids_zero hc (by omega) (by omega), hkid] at hK
        obtain ⟨K, hKK⟩ : ∃ K, K = kn P l.length (-1) := ⟨_, rfl⟩
        rw [show ((List.range l.length).filter fun i => decide (P[i]? = some (-1))) = K from hKK.symm] at hK
        simp only [List.length_map] at hK
        clear hkid
        go_wp2_with (fail)
        refine hK.mono ?_
        rintro e w4 ⟨u, rfl, hown4, hb4⟩
        obtain ⟨uo, uc, rfl⟩ := (RowIs.of_owns hown4).form
        have hown5 := own_below hown hb4
        have hB4 := hB.trans (hb4.mono hB.size)
        have hub : ∀ b, (Value.slice uo K.length uc).ownBlock = some b → wr.heap.size ≤ b := fun b e => (hown4.lt b e).1
        have hsr := (hown.lt sb rfl).2
        have hKl : K.length ≤ l.length := by rw [hKK, kn]; exact Nat.le_trans (List.length_filter_le _ _) (by simp)
        have hv4 := hv.below hB4
        replace hKK := hid hKK
        have hdummy := trivial
        have hw8 : IntKind.i64.wrap ((-1) + 1) = (-1) + 1 := IntWalk.i64_in _ (by omega)
        go_wp2_with (fail)
        go_loopw [75] (fun i wr2 => ∃ m : Nat, m ≤ K.length ∧ i = .int .i64 m ∧ wr2.ownsRow sb 3 1 (.slice (some ⟨sb, 0, none⟩) l.length l.length) l.length (intsV (seenL P l.length (-1) m)) ∧ w4.grownBy wr2 (some sb) ∧ Below w.heap.size w wr2) (fun i _ => K.length - (intOf i).toNat)
        case atStart => exact ⟨0, Nat.zero_le _, rfl, hown5, grown_refl _ _, hB4⟩
        case round =>
          obtain ⟨m, hm, rfl, hownm, hgm, hBm⟩ := hrel
          by_cases hmk : m < K.length
          · have hvm := hv.below hBm
            obtain ⟨q, hKm⟩ : ∃ q, K[m]? = some q := ⟨_, List.getElem?_eq_getElem hmk⟩
            have hqe : (kn P l.length (-1))[m]? = some q := by rw [← hKK.out]; exact hKm
            obtain ⟨hmk2, hqe2⟩ := List.getElem?_eq_some_iff.1 hqe
            obtain ⟨hqn, hqP⟩ := kn_mem.1 (List.mem_of_getElem? hqe)
            have hql := hP.lt q _ hqP
            obtain ⟨g, o, rfl, hcm⟩ := hvm.at (by omega)
            have hlq : l[q]? = some l[q] := List.getElem?_eq_getElem hqn
            have hown4m := hown4.kept hgm (own_ne hub hsr)
            obtain ⟨gu, ou, rfl, -⟩ := (RowIs.of_owns hown4m).at (by omega)
            obtain rfl := owns_off hown4m
            have hum : wr.cell? ⟨gu, m, none⟩ = some (.int .i64 (q : Int)) := (hown4m.cellAt m (by omega)).trans (intsV_at (by rw [List.getElem?_map, hKm]; rfl))
            have hqs := hownm.cellAt q (by omega)
            rw [intsV_at (show (seenL P l.length (-1) m)[q]? = some 0 from by have := seenL_new hmk2; rwa [hqe2] at this)] at hqs
            have hqz := hownm.frozenAt q
            have hset : (intsV (seenL P l.length (-1) m)).set q (.int .i64 1) = intsV (seenL P l.length (-1) (m + 1)) := by rw [intsV_set, show (seenL P l.length (-1) m).set q 1 = seenL P l.length (-1) (m + 1) from by have := seenL_set hmk2; rwa [hqe2] at this]
            have hnq1 : wr.cell? ⟨g, o + q * 6 + 1, none⟩ = some (.int .i64 l[q].frm) := by rw [Nat.add_assoc]; exact (hcm (q * 6 + 1) (by omega)).trans (flat_at (j := 1) capsC_len hqn (by decide))
            have hnq2 : wr.cell? ⟨g, o + q * 6 + 2, none⟩ = some (.int .i64 l[q].to) := by rw [Nat.add_assoc]; exact (hcm (q * 6 + 2) (by omega)).trans (flat_at (j := 2) capsC_len hqn (by decide))
            have f1 : decide ((q : Int) ≤ -1) = false := decide_eq_false (by omega)
            have f0 : (0 : Int) ≤ (q : Int) := by omega
            have f3 : (q : Int) < (l.length : Int) := by omega
            have f2 : decide (l.length ≤ q) = false := decide_eq_false (by omega)
            have f6 : (m : Int) < (K.length : Int) := by omega
            have f7 : (0 : Int) ≤ (m : Int) := by omega
            have hw9 : IntKind.i64.wrap ((m : Int) + 1) = (m : Int) + 1 := IntWalk.i64_in _ (by omega)
            replace hset := hid hset
            cases m with
            | zero =>
              generalize l[q].frm = qf at *
              generalize l[q].to = qt at *
              clear hlq hqe hqe2 hKm hqP hmk2 hvm hcm hK hvbr hvr hvb hb4 hown5 hown3' hB3 hv4 hP hk hc hC hsome hPn hv hown4 hub
              go_wp2_with (fail)
              (try simp only [List.append_eq, List.cons_append, List.nil_append])
              go_quiet (fail)
              have hownz : (wr.drewN nq).ownsRow sb 3 1 (.slice (some ⟨sb, 0, none⟩) l.length l.length) l.length (intsV (seenL P l.length (-1) 0)) := hownm
              have hgz : w4.grownBy (wr.drewN nq) (some sb) := grown_trans hgm (grown_below (below_drewN' (Below.refl _ _) nq))
              have hBz : Below w.heap.size w (wr.drewN nq) := below_drewN' hBm nq
              have hqs2 : (wr.drewN nq).cell? ⟨sb, q, none⟩ = some (.int .i64 0) := hqs
              have hqz2 : (wr.drewN nq).frozen? ⟨sb, q, none⟩ = false := hqz
              clear hqs hqz hum hnq1 hnq2 hownm hgm hBm
              generalize wr.drewN nq = wz at *
              obtain ⟨hs5, hg5⟩ := hownz.stored q (.int .i64 1)
              rw [hset.out] at hs5
              have hg6 := grown_trans hgz hg5
              have hB5 := hBz.setCell (p := ⟨sb, q, none⟩) hzw (.int .i64 1)
              go_wp2_with (fail)
              go_roundw
              case rel => exact ⟨0 + 1, by omega, by first | rfl | go_num, hs5, hg6, hB5⟩
              case measure => first | (simp [intOf]; done) | (simp [intOf]; omega)
            | succ m =>
              obtain ⟨pq, hKp⟩ : ∃ p, K[m]? = some p := ⟨_, List.getElem?_eq_getElem (by omega)⟩
              have hpe : (kn P l.length (-1))[m]? = some pq := by rw [← hKK.out]; exact hKp
              obtain ⟨hpk2, hpe2⟩ := List.getElem?_eq_some_iff.1 hpe
              obtain ⟨hpn, hpP⟩ := kn_mem.1 (List.mem_of_getElem? hpe)
              have hpq : pq < q := by have := kn_lt hmk2; rw [hpe2, hqe2] at this; exact this
              have hlp : l[pq]? = some l[pq] := List.getElem?_eq_getElem hpn
              have hrise := hP.rise pq q _ _ _ hpq hpP hqP hlp hlq
              have hup : wr.cell? ⟨gu, m, none⟩ = some (.int .i64 (pq : Int)) := (hown4m.cellAt m (by omega)).trans (intsV_at (by rw [List.getElem?_map, hKp]; rfl))
              have hnp2 : wr.cell? ⟨g, o + pq * 6 + 2, none⟩ = some (.int .i64 l[pq].to) := by rw [Nat.add_assoc]; exact (hcm (pq * 6 + 2) (by omega)).trans (flat_at (j := 2) capsC_len hpn (by decide))
              have g1 : decide (q ≤ pq) = false := decide_eq_false (by omega)
              have g2 : decide (l[q].frm < l[pq].to) = false := decide_eq_false (by omega)
              have g3 : IntKind.i64.wrap (((m + 1 : Nat) : Int) - 1) = (m : Int) := by rw [IntKind.wrap_i64]; omega
              have g4 : (0 : Int) ≤ (m : Int) := by omega
              have g5 : (m : Int) < (K.length : Int) := by omega
              have g6 : (0 : Int) ≤ (pq : Int) := by omega
              have g7 : (pq : Int) < (l.length : Int) := by omega
              have g8 : (0 : Int) < ((m + 1 : Nat) : Int) := by omega
              generalize l[pq].to = pt at *
              generalize l[q].frm = qf at *
              generalize l[q].to = qt at *
              clear hlq hlp hpe hpe2 hKp hpP hpk2 hrise hown4m hqe hqe2 hKm hqP hmk2 hvm hcm hK hvbr hvr hvb hb4 hown5 hown3' hB3 hv4 hP hk hc hC hsome hPn hv hown4 hub
              go_wp2_with (fail)
              (try simp only [List.append_eq, List.cons_append, List.nil_append])
              go_quiet (fail)
              have hownz : (wr.drewN nq).ownsRow sb 3 1 (.slice (some ⟨sb, 0, none⟩) l.length l.length) l.length (intsV (seenL P l.length (-1) (m + 1))) := hownm
              have hgz : w4.grownBy (wr.drewN nq) (some sb) := grown_trans hgm (grown_below (below_drewN' (Below.refl _ _) nq))
              have hBz : Below w.heap.size w (wr.drewN nq) := below_drewN' hBm nq
              have hqs2 : (wr.drewN nq).cell? ⟨sb, q, none⟩ = some (.int .i64 0) := hqs
              have hqz2 : (wr.drewN nq).frozen? ⟨sb, q, none⟩ = false := hqz
              clear hqs hqz hum hnq1 hnq2 hownm hgm hBm
              generalize wr.drewN nq = wz at *
              obtain ⟨hs5, hg5⟩ := hownz.stored q (.int .i64 1)
              rw [hset.out] at hs5
              have hg6 := grown_trans hgz hg5
              have hB5 := hBz.setCell (p := ⟨sb, q, none⟩) hzw (.int .i64 1)
              go_wp2_with (fail)
              go_roundw
              case rel => exact ⟨(m + 1) + 1, by omega, by first | rfl | go_num, hs5, hg6, hB5⟩
              case measure => first | (simp [intOf]; done) | (simp [intOf]; omega)
          · have hme : m = K.length := by omega
            subst hme
            have hsa : seenL P l.length (-1) K.length = seenL P l.length ((-1) + 1) 0 := by rw [hKK.out]; exact seenL_all hPn
            rw [hsa] at hownm
            go_wp2_with (fail)
            go_roundw
            case rel => exact ⟨1, by omega, by first | rfl | (congr 1; omega), by rw [show (((1 : Nat) : Int) - 1) = (-1) + 1 from by omega]; exact hownm, hBm⟩
            case measure => first | (simp [intOf]; done) | (simp [intOf]; omega)
      | succ an =>
        have ea : (((an + 1 : Nat) : Int) - 1) = (an : Int) := by omega
        rw [ea] at hown ⊢
        have hK := kids_any l hk (an : Int) (.slice ao l.length c) wr hl hvr hvbr
        rw [kids_zero hc (by omega) (by omega), hkid] at hK
        have i1 : (0 : Int) ≤ (an : Int) := by omega
        have i2 : (an : Int) < (l.length : Int) := by omega
        obtain ⟨K, hKK⟩ : ∃ K, K = kn P l.length (an : Int) := ⟨_, rfl⟩
        rw [show ((List.range l.length).filter fun i => decide (P[i]? = some (an : Int))) = K from hKK.symm] at hK
        simp only [List.length_map] at hK
        clear hkid
        go_wp2_with (fail)
        refine hK.mono ?_
        rintro e w4 ⟨u, rfl, hown4, hb4⟩
        obtain ⟨uo, uc, rfl⟩ := (RowIs.of_owns hown4).form
        have hown5 := own_below hown hb4
        have hB4 := hB.trans (hb4.mono hB.size)
        have hub : ∀ b, (Value.slice uo K.length uc).ownBlock = some b → wr.heap.size ≤ b := fun b e => (hown4.lt b e).1
        have hsr := (hown.lt sb rfl).2
        have hKl : K.length ≤ l.length := by rw [hKK, kn]; exact Nat.le_trans (List.length_filter_le _ _) (by simp)
        have hv4 := hv.below hB4
        replace hKK := hid hKK
        have hla : l[an]? = some l[an] := List.getElem?_eq_getElem (by omega)
        have hkc := hP.kids an _ hla
        have hcnt := count_filter P (an : Int) l.length (by omega)
        rw [List.take_of_length_le (by omega)] at hcnt
        have hKc : (K.length : Int) = l[an].kids := by rw [← hkc, ← hcnt, hKK.out]; rfl
        obtain ⟨g, o, rfl, hcx⟩ := hv4.at (by omega)
        have hg0 : g < w4.heap.size := hv4.block (by omega) (by decide)
        have hna1 : w4.cell? ⟨g, o + an * 6 + 1, none⟩ = some (.int .i64 l[an].frm) := by rw [Nat.add_assoc]; exact (hcx (an * 6 + 1) (by omega)).trans (flat_at (j := 1) capsC_len (by omega) (by decide))
        have hna2 : w4.cell? ⟨g, o + an * 6 + 2, none⟩ = some (.int .i64 l[an].to) := by rw [Nat.add_assoc]; exact (hcx (an * 6 + 2) (by omega)).trans (flat_at (j := 2) capsC_len (by omega) (by decide))
        have hna3 : w4.cell? ⟨g, o + an * 6 + 3, none⟩ = some (.int .i64 l[an].kids) := by rw [Nat.add_assoc]; exact (hcx (an * 6 + 3) (by omega)).trans (flat_at (j := 3) capsC_len (by omega) (by decide))
        rw [← hKc] at hna3
        clear hkc hcnt hKc
        have hdummy := trivial
        have hw8 : IntKind.i64.wrap ((an : Int) + 1) = (an : Int) + 1 := IntWalk.i64_in _ (by omega)
        go_wp2_with (fail)
        go_loopw [75] (fun i wr2 => ∃ m : Nat, m ≤ K.length ∧ i = .int .i64 m ∧ wr2.ownsRow sb 3 1 (.slice (some ⟨sb, 0, none⟩) l.length l.length) l.length (intsV (seenL P l.length (an : Int) m)) ∧ w4.grownBy wr2 (some sb) ∧ Below w.heap.size w wr2) (fun i _ => K.length - (intOf i).toNat)
        case atStart => exact ⟨0, Nat.zero_le _, rfl, hown5, grown_refl _ _, hB4⟩
        case round =>
          obtain ⟨m, hm, rfl, hownm, hgm, hBm⟩ := hrel
          by_cases hmk : m < K.length
          · have hvm := hv.below hBm
            obtain ⟨_, _, e0, hcm⟩ := hvm.at (by omega)
            injection e0 with e0; injection e0 with e1 e2; subst e1; subst e2
            obtain ⟨q, hKm⟩ : ∃ q, K[m]? = some q := ⟨_, List.getElem?_eq_getElem hmk⟩
            have hqe : (kn P l.length (an : Int))[m]? = some q := by rw [← hKK.out]; exact hKm
            obtain ⟨hmk2, hqe2⟩ := List.getElem?_eq_some_iff.1 hqe
            obtain ⟨hqn, hqP⟩ := kn_mem.1 (List.mem_of_getElem? hqe)
            have hql := hP.lt q _ hqP
            have hlq : l[q]? = some l[q] := List.getElem?_eq_getElem hqn
            have hown4m := hown4.kept hgm (own_ne hub hsr)
            obtain ⟨gu, ou, rfl, -⟩ := (RowIs.of_owns hown4m).at (by omega)
            obtain rfl := owns_off hown4m
            have hum : wr.cell? ⟨gu, m, none⟩ = some (.int .i64 (q : Int)) := (hown4m.cellAt m (by omega)).trans (intsV_at (by rw [List.getElem?_map, hKm]; rfl))
            have hqs := hownm.cellAt q (by omega)
            rw [intsV_at (show (seenL P l.length (an : Int) m)[q]? = some 0 from by have := seenL_new hmk2; rwa [hqe2] at this)] at hqs
            have hqz := hownm.frozenAt q
            have hset : (intsV (seenL P l.length (an : Int) m)).set q (.int .i64 1) = intsV (seenL P l.length (an : Int) (m + 1)) := by rw [intsV_set, show (seenL P l.length (an : Int) m).set q 1 = seenL P l.length (an : Int) (m + 1) from by have := seenL_set hmk2; rwa [hqe2] at this]
            have hnq1 : wr.cell? ⟨g, o + q * 6 + 1, none⟩ = some (.int .i64 l[q].frm) := by rw [Nat.add_assoc]; exact (hcm (q * 6 + 1) (by omega)).trans (flat_at (j := 1) capsC_len hqn (by decide))
            have hnq2 : wr.cell? ⟨g, o + q * 6 + 2, none⟩ = some (.int .i64 l[q].to) := by rw [Nat.add_assoc]; exact (hcm (q * 6 + 2) (by omega)).trans (flat_at (j := 2) capsC_len hqn (by decide))
            have hma1 : wr.cell? ⟨g, o + an * 6 + 1, none⟩ = some (.int .i64 l[an].frm) := by rw [Nat.add_assoc]; exact (hcm (an * 6 + 1) (by omega)).trans (flat_at (j := 1) capsC_len (by omega) (by decide))
            have hma2 : wr.cell? ⟨g, o + an * 6 + 2, none⟩ = some (.int .i64 l[an].to) := by rw [Nat.add_assoc]; exact (hcm (an * 6 + 2) (by omega)).trans (flat_at (j := 2) capsC_len (by omega) (by decide))
            obtain ⟨hin1, hin2⟩ := hP.inside q an _ _ hqP hlq hla
            have f4 : decide (l[q].frm < l[an].frm) = false := decide_eq_false (by omega)
            have f5 : decide (l[an].to < l[q].to) = false := decide_eq_false (by omega)
            have f1 : decide (q ≤ an) = false := decide_eq_false (by omega)
            have f0 : (0 : Int) ≤ (q : Int) := by omega
            have f3 : (q : Int) < (l.length : Int) := by omega
            have f2 : decide (l.length ≤ q) = false := decide_eq_false (by omega)
            have f6 : (m : Int) < (K.length : Int) := by omega
            have f7 : (0 : Int) ≤ (m : Int) := by omega
            have hw9 : IntKind.i64.wrap ((m : Int) + 1) = (m : Int) + 1 := IntWalk.i64_in _ (by omega)
            replace hset := hid hset
            cases m with
            | zero =>
              generalize l[q].frm = qf at *
              generalize l[q].to = qt at *
              generalize l[an].frm = af at *
              generalize l[an].to = at_ at *
              clear hlq hla hin1 hin2 hqe hqe2 hKm hqP hmk2 hvm hcm hK hvbr hvr hvb hb4 hown5 hown3' hB3 hv4 hP hk hc hC hsome hPn hv hown4 hub hcx hna1 hna2 hna3
              go_wp2_with (fail)
              (try simp only [List.append_eq, List.cons_append, List.nil_append])
              go_quiet (fail)
              have hownz : (wr.drewN nq).ownsRow sb 3 1 (.slice (some ⟨sb, 0, none⟩) l.length l.length) l.length (intsV (seenL P l.length (an : Int) 0)) := hownm
              have hgz : w4.grownBy (wr.drewN nq) (some sb) := grown_trans hgm (grown_below (below_drewN' (Below.refl _ _) nq))
              have hBz : Below w.heap.size w (wr.drewN nq) := below_drewN' hBm nq
              have hqs2 : (wr.drewN nq).cell? ⟨sb, q, none⟩ = some (.int .i64 0) := hqs
              have hqz2 : (wr.drewN nq).frozen? ⟨sb, q, none⟩ = false := hqz
              clear hqs hqz hum hnq1 hnq2 hownm hgm hBm
              generalize wr.drewN nq = wz at *
              obtain ⟨hs5, hg5⟩ := hownz.stored q (.int .i64 1)
              rw [hset.out] at hs5
              have hg6 := grown_trans hgz hg5
              have hB5 := hBz.setCell (p := ⟨sb, q, none⟩) hzw (.int .i64 1)
              go_wp2_with (fail)
              go_roundw
              case rel => exact ⟨0 + 1, by omega, by first | rfl | go_num, hs5, hg6, hB5⟩
              case measure => first | (simp [intOf]; done) | (simp [intOf]; omega)
            | succ m =>
              obtain ⟨pq, hKp⟩ : ∃ p, K[m]? = some p := ⟨_, List.getElem?_eq_getElem (by omega)⟩
              have hpe : (kn P l.length (an : Int))[m]? = some pq := by rw [← hKK.out]; exact hKp
              obtain ⟨hpk2, hpe2⟩ := List.getElem?_eq_some_iff.1 hpe
              obtain ⟨hpn, hpP⟩ := kn_mem.1 (List.mem_of_getElem? hpe)
              have hpq : pq < q := by have := kn_lt hmk2; rw [hpe2, hqe2] at this; exact this
              have hlp : l[pq]? = some l[pq] := List.getElem?_eq_getElem hpn
              have hrise := hP.rise pq q _ _ _ hpq hpP hqP hlp hlq
              have hup : wr.cell? ⟨gu, m, none⟩ = some (.int .i64 (pq : Int)) := (hown4m.cellAt m (by omega)).trans (intsV_at (by rw [List.getElem?_map, hKp]; rfl))
              have hnp2 : wr.cell? ⟨g, o + pq * 6 + 2, none⟩ = some (.int .i64 l[pq].to) := by rw [Nat.add_assoc]; exact (hcm (pq * 6 + 2) (by omega)).trans (flat_at (j := 2) capsC_len hpn (by decide))
              have g1 : decide (q ≤ pq) = false := decide_eq_false (by omega)
              have g2 : decide (l[q].frm < l[pq].to) = false := decide_eq_false (by omega)
              have g3 : IntKind.i64.wrap (((m + 1 : Nat) : Int) - 1) = (m : Int) := by rw [IntKind.wrap_i64]; omega
              have g4 : (0 : Int) ≤ (m : Int) := by omega
              have g5 : (m : Int) < (K.length : Int) := by omega
              have g6 : (0 : Int) ≤ (pq : Int) := by omega
              have g7 : (pq : Int) < (l.length : Int) := by omega
              have g8 : (0 : Int) < ((m + 1 : Nat) : Int) := by omega
              generalize l[pq].to = pt at *
              generalize l[q].frm = qf at *
              generalize l[q].to = qt at *
              generalize l[an].frm = af at *
              generalize l[an].to = at_ at *
              clear hlq hlp hpe hpe2 hKp hpP hpk2 hrise hown4m hla hin1 hin2 hqe hqe2 hKm hqP hmk2 hvm hcm hK hvbr hvr hvb hb4 hown5 hown3' hB3 hv4 hP hk hc hC hsome hPn hv hown4 hub hcx hna1 hna2 hna3
              go_wp2_with (fail)
              (try simp only [List.append_eq, List.cons_append, List.nil_append])
              go_quiet (fail)
              have hownz : (wr.drewN nq).ownsRow sb 3 1 (.slice (some ⟨sb, 0, none⟩) l.length l.length) l.length (intsV (seenL P l.length (an : Int) (m + 1))) := hownm
              have hgz : w4.grownBy (wr.drewN nq) (some sb) := grown_trans hgm (grown_below (below_drewN' (Below.refl _ _) nq))
              have hBz : Below w.heap.size w (wr.drewN nq) := below_drewN' hBm nq
              have hqs2 : (wr.drewN nq).cell? ⟨sb, q, none⟩ = some (.int .i64 0) := hqs
              have hqz2 : (wr.drewN nq).frozen? ⟨sb, q, none⟩ = false := hqz
              clear hqs hqz hum hnq1 hnq2 hownm hgm hBm
              generalize wr.drewN nq = wz at *
              obtain ⟨hs5, hg5⟩ := hownz.stored q (.int .i64 1)
              rw [hset.out] at hs5
              have hg6 := grown_trans hgz hg5
              have hB5 := hBz.setCell (p := ⟨sb, q, none⟩) hzw (.int .i64 1)
              go_wp2_with (fail)
              go_roundw
              case rel => exact ⟨(m + 1) + 1, by omega, by first | rfl | go_num, hs5, hg6, hB5⟩
              case measure => first | (simp [intOf]; done) | (simp [intOf]; omega)
          · have hme : m = K.length := by omega
            subst hme
            have hsa : seenL P l.length (an : Int) K.length = seenL P l.length ((an : Int) + 1) 0 := by rw [hKK.out]; exact seenL_all hPn
            rw [hsa] at hownm
            go_wp2_with (fail)
            go_roundw
            case rel => exact ⟨an + 2, by omega, by first | rfl | (congr 1; omega), by rw [show (((an + 2 : Nat) : Int) - 1) = (an : Int) + 1 from by omega]; exact hownm, hBm⟩
            case measure => first | (simp [intOf]; done) | (simp [intOf]; omega)
    · have hje : j = l.length + 1 := by omega
      subst hje
      have ej : (((l.length + 1 : Nat) : Int) - 1) = (l.length : Int) := by omega
      rw [ej] at hown ⊢
      rw [seenL_end hP.lt hPn] at hown
      have hvr := hv.below hB
      have hD := fun (wz : World) (hz : Below w.heap.size w wz) => depth_any l hk (.slice ao l.length c) wz hl (hv.below hz) (fun hp g o n c' e => Nat.lt_of_lt_of_le (hvb hp g o n c' e) hz.size)
      have hDL : depthL l = (mostTo l l.length, 0) := by unfold depthL; rw [if_pos hc]
      rw [hDL] at hD
      obtain ⟨hm1, hm2, hm3⟩ := mostTo_bd l l.length
      generalize mostTo l l.length = M at *
      clear hk hc hC hP hDL hown3' hB3
      go_wp2_with (fail)
      go_loop [158] (fun i => ∃ k : Nat, k ≤ l.length ∧ i = .int .i64 k) (fun i => l.length - (intOf i).toNat)
      case atStart => exact ⟨0, Nat.zero_le _, rfl⟩
      case round =>
        obtain ⟨k, hkl, rfl⟩ := hrel
        by_cases hkn : k < l.length
        · have hcs := hown.cellAt k (by omega)
          rw [intsV_at (show (List.replicate l.length (1 : Int))[k]? = some 1 from by rw [List.getElem?_replicate, if_pos hkn])] at hcs
          have j1 : (0 : Int) ≤ (k : Int) := by omega
          have j2 : (k : Int) < (l.length : Int) := by omega
          have hw9 : IntKind.i64.wrap ((k : Int) + 1) = (k : Int) + 1 := IntWalk.i64_in _ (by omega)
          clear hD
          go_wp2_with (fail)
          go_round
          case rel => exact ⟨k + 1, by omega, by go_num⟩
          case measure => first | (simp [intOf]; done) | (simp [intOf]; omega)
        · have hD2 := hD wr hB
          clear hD
          go_wp2_with (fail)
          refine hD2.mono ?_
          rintro e w9 ⟨rfl, hb9⟩
          have hB9 := hB.trans (hb9.mono hB.size)
          by_cases hz : l.length = 0
          · have hM : M = 0 := by omega
            subst hM
            have hzb : ((l.length : Int) == 0) = true := by simp [hz]
            have hle : ((0 : Int) ≤ (l.length : Int)) := by omega
            go_wp2_with (fail)
            go_ret
            exact ⟨rfl, hB9⟩
          · have hM : ¬ M = 0 := by omega
            have hMb : (M == 0) = false := by simp [hM]
            have hzb : ((l.length : Int) == 0) = false := by simp [hz]
            have hle : M ≤ (l.length : Int) := by omega
            go_wp2_with (fail)
            go_ret
            exact ⟨rfl, hB9⟩
theorem lawKidsS (l : List Q.SC) (hk : ∀ c ∈ l, c.f3 ≤ 9223372036854775807) (hl : l.length ≤ 4611686018427387904) (ao : Option Addr) (c : Nat) (w : World) (hv : RowIs w (.slice ao l.length c) 6 l.length (l.flatMap Q.encC)) :
    Calls Try.prog 4 #[.slice ao l.length c] w fun e w' => e = .returned (.bool true) ∧ Below w.heap.size w w' := by
  have hlm : (l.map fun x => (⟨x.f0, x.f1, x.f2, x.f3, x.f4, x.f5⟩ : Cap)).length = l.length := List.length_map _
  have h := lawKids (l.map fun x => (⟨x.f0, x.f1, x.f2, x.f3, x.f4, x.f5⟩ : Cap)) (fun c hc => by obtain ⟨d, hd, rfl⟩ := List.mem_map.1 hc; exact hk d hd) (by omega) ao c w (by rw [hlm, List.flatMap_map]; exact hv)
  rw [hlm] at h
  exact h
theorem i64_top {x : Int} (h : (Lit.int .i64 x).wf = true) : x ≤ 9223372036854775807 := by
  simp [Lit.wf, IntKind.min, IntKind.max, IntKind.signed, IntKind.bits] at h
  omega
end Go.Proofs.Ytebebognifiinaa
