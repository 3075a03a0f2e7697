/-
  The document's forest, as it is printed: the forest of a log. No memory here.
-/
import Derived.Test.YtebebognifiinaaQx
namespace Go.Proofs.Ytebebognifiinaa.Q
open Go.RowKit Go.Proofs.YtebebognifiinaaW.PrintWords Go.Proofs.YtebebognifiinaaW.PrintLast Go.Proofs.YtebebognifiinaaW.PrintMore
set_option linter.unusedVariables false
set_option linter.unusedSimpArgs false
abbrev SN := S68
abbrev SC := S39
theorem text_nil (s : ByteArray) : (s.toList == ([] : List UInt8)) = decide (s = { data := #[] }) := by
  rw [show ({ data := #[] } : ByteArray) = ByteArray.empty from rfl, decide_eq_emptyBytes s]; cases s.toList <;> rfl
/-- What noteOk says, the text's part told as 0 or 1. -/
def okP (o kd a l n t p : Int) : Prop := p ≤ a ∧ a ≤ 65536 ∧ ((o = 20 ∧ 1 ≤ kd ∧ kd ≤ 7 ∧ 0 ≤ l ∧ l ≤ 65536 - a ∧ (¬ kd = 1 ∨ l = 0)) ∨ (o = 18 ∧ 2 ≤ kd ∧ kd ≤ 7 ∧ l = 0) ∨ (o = 19 ∧ kd = 0 ∧ l = 0 ∧ n = 0 ∧ t = 1))
def txt1 (s : ByteArray) : Int := if s = { data := #[] } then 1 else 0
theorem okP_iff (o kd a l n : Int) (s : ByteArray) (p : Int) : noteOk ⟨o, kd, a, l, n, s⟩ p = true ↔ okP o kd a l n (txt1 s) p := by
  unfold noteOk okP txt1
  by_cases hs : s = { data := #[] }
  · simp [hs, Decidable.imp_iff_not_or, and_assoc, or_assoc]
  · simp [hs, Decidable.imp_iff_not_or, and_assoc, or_assoc]
theorem note_pure (k : Nat) (x : SN) (p : Int) (h0 : 0 ≤ p) : ∃ nx, harrowref23_note.f (k + 1) x.f0 x.f1 x.f2 x.f3 x.f4 x.f5 p = some (nx, noteOk (noteOf x) p) ∧ (noteOk (noteOf x) p = true → nx = x.f2 + x.f3) := by
  obtain ⟨o, kd, a, l, n, s⟩ := x
  have hiff := okP_iff o kd a l n s p
  have ht : (s.toList == ([] : List UInt8)) = decide (txt1 s = 1) := by rw [text_nil]; unfold txt1; by_cases hs : s = { data := #[] } <;> simp [hs]
  simp only [noteOf, harrowref23_note.f, harrowref23_note.j0, ht]
  generalize txt1 s = t at *
  generalize noteOk ⟨o, kd, a, l, n, s⟩ p = c at *
  have hw1 : 0 ≤ a → a ≤ 65536 → wrap64 (65536 - a) = 65536 - a := by intro h1 h2; unfold wrap64; omega
  have hw2 : 0 ≤ a → a ≤ 65536 → 0 ≤ l → l ≤ 65536 → wrap64 (a + l) = a + l := by intro h1 h2 h3 h4; unfold wrap64; omega
  have key : ∀ (v : Int) (b : Bool), (okP o kd a l n t p ↔ b = true) → (okP o kd a l n t p → v = a + l) → ∃ nx, (some (v, b) : Option (Int × Bool)) = some (nx, c) ∧ (c = true → nx = a + l) :=
    fun v b h h2 => ⟨v, by rw [Bool.eq_iff_iff.2 (h.symm.trans hiff.symm)], fun hc => h2 (hiff.1 hc)⟩
  unfold okP at key
  clear hiff ht
  by_cases c1 : a < p
  · rw [if_pos c1]; exact key _ _ (by simp; omega) (by omega)
  rw [if_neg c1]
  by_cases c2 : 65536 < a
  · have d2 : decide (a > 65536) = true := by simp; omega
    rw [d2, if_pos rfl]; exact key _ _ (by simp; omega) (by omega)
  have d2 : decide (a > 65536) = false := by simp; omega
  rw [d2]
  simp only [Bool.false_eq_true, if_false]
  rw [hw1 (by omega) (by omega)]
  by_cases c20 : o = 20
  · subst c20
    simp only [if_true]
    repeat' split
    all_goals
      refine key _ _ ?_ ?_
      · simp; omega
      · intro h; exact hw2 (by omega) (by omega) (by omega) (by omega)
  by_cases c18 : o = 18
  · subst c18
    simp only [if_true, show ¬ (18 : Int) = 20 by decide, if_false]
    repeat' split
    all_goals
      refine key _ _ ?_ ?_
      · simp; omega
      · intro h; omega
  by_cases c19 : o = 19
  · subst c19
    simp only [if_true, show ¬ (19 : Int) = 20 by decide, show ¬ (19 : Int) = 18 by decide, if_false]
    repeat' split
    all_goals
      refine key _ _ ?_ ?_
      · simp; omega
      · intro h; omega
  rw [if_neg c20, if_neg c18, if_neg c19]
  exact key _ _ (by simp; omega) (by omega)
def opnI (o : List Nat) : List Int := o.reverse.map fun (n : Nat) => (n : Int)
theorem opnI_len (o : List Nat) : (opnI o).length = o.length := by simp [opnI]
theorem opnI_cons (q : Nat) (r : List Nat) : opnI (q :: r) = opnI r ++ [(q : Int)] := by simp [opnI]
def endPair (l : List SN) : List SC × Int := match endF true (l.map noteOf) with | some out => (out.map capOf, 0) | none => ([], 230)
theorem endPair_none {l : List SN} {k : Nat} (h : foldF true fs0 ((l.map noteOf).take k) = none) : endPair l = ([], 230) := by
  unfold endPair; rw [foldF_none h]
theorem rd_caps (out : List Cap) (q : Nat) (h : q < out.length) : rd_T39 (out.map capOf) (q : Int) = capOf out[q] := by
  unfold rd_T39
  rw [Int.toNat_natCast, List.getD_eq_getElem?_getD, List.getElem?_map, List.getElem?_eq_getElem h]
  rfl
theorem set_caps (out : List Cap) (q : Nat) (f : Cap → Cap) (h : q < out.length) : (out.map capOf).set q (capOf (f out[q])) = (out.modify q f).map capOf := by
  refine List.ext_getElem? fun i => ?_
  rw [List.getElem?_set, List.getElem?_map, List.getElem?_map, List.getElem?_modify]
  by_cases e : q = i
  · subst e; simp [h]
  · simp [e]
theorem forest_loop (l : List SN) (hl : l.length ≤ 1048576) : ∀ (d k i : Nat) (st : FSt), foldF true fs0 ((l.map noteOf).take i) = some st → i + d = l.length → 2 * d + 1 < k →
    harrowref23_Forest.l0 k l (st.out.map capOf) (opnI st.opn) st.place (i : Int) = some (endPair l) := by
  intro d
  induction d with
  | zero =>
    intro k i st hst hi hk
    obtain ⟨k, rfl⟩ : ∃ m, k = m + 1 := ⟨k - 1, by omega⟩
    simp only [harrowref23_Forest.l0]
    rw [if_neg (by omega)]
    rw [List.take_of_length_le (by simp; omega)] at hst
    obtain ⟨out, opn, pl⟩ := st
    cases opn with
    | nil =>
      rw [if_neg (by simp [opnI])]
      unfold endPair endF
      rw [show (⟨[], [], 0⟩ : FSt) = fs0 from rfl, hst]
    | cons q r =>
      rw [if_pos (by rw [opnI_len]; simp only [List.length_cons]; omega)]
      unfold endPair endF
      rw [show (⟨[], [], 0⟩ : FSt) = fs0 from rfl, hst]
  | succ d ih =>
    intro k i st hst hi hk
    obtain ⟨k, rfl⟩ : ∃ m, k = m + 3 := ⟨k - 3, by omega⟩
    have hlt : i < l.length := by omega
    have hx : (l.map noteOf)[i]? = some (noteOf l[i]) := by rw [List.getElem?_map, List.getElem?_eq_getElem hlt]; rfl
    have hrd : rd_T68 l (i : Int) = l[i] := by unfold rd_T68; rw [Int.toNat_natCast, List.getD_eq_getElem?_getD, List.getElem?_eq_getElem hlt]; rfl
    have hok := FOk.take (by rw [List.length_map]; omega) hst
    have hs1 := foldF_take hx hst
    generalize hxe : l[i] = x at *
    obtain ⟨nx, hn1, hn2⟩ := note_pure (k + 1) x st.place hok.low
    have hw9 : wrap64 ((i : Int) + 1) = ((i + 1 : Nat) : Int) := by unfold wrap64; omega
    simp only [harrowref23_Forest.l0]
    rw [if_pos (by omega), if_pos (by omega), hrd, hn1]
    simp only [Option.bind_some]
    obtain ⟨out, opn, pl⟩ := st
    simp only at hok hn1 hn2 hs1 ⊢
    have hol : opn.length ≤ i := hok.olen
    have hlen : out.length ≤ i := hok.len
    cases hno : noteOk (noteOf x) pl with
    | false =>
      rw [if_neg (by simp)]
      simp only [harrowref23_Forest.j1]
      rw [if_pos trivial, endPair_none (k := i + 1)]
      rw [hs1]; simp [stepF, hno]
    | true =>
      rw [if_pos rfl]
      have hnx : nx = x.f2 + x.f3 := hn2 hno
      subst hnx
      have hnw : wrap64 (x.f2 + x.f3) = x.f2 + x.f3 := by have := noteOk_next hno hok.low; simp only [noteOf] at this; unfold wrap64; omega
      by_cases h19 : x.f0 = 19
      · rw [if_pos h19]
        simp only [harrowref23_Forest.j1]
        cases opn with
        | nil =>
          rw [if_pos (by simp [opnI]), endPair_none (k := i + 1)]
          rw [hs1]; unfold stepF; simp only [hno, if_true]; rw [if_pos (show (noteOf x).op = 19 from h19)]
        | cons q r =>
          have hq : q < out.length := hok.lt q (by simp)
          have hL : (opnI (q :: r)).length = r.length + 1 := opnI_len _
          have hw5 : wrap64 (((opnI (q :: r)).length : Int) - 1) = (r.length : Int) := by rw [hL]; simp only [List.length_cons] at hol; unfold wrap64; omega
          have hrq : rd (opnI (q :: r)) (r.length : Int) = (q : Int) := by
            unfold rd; rw [opnI_cons, Int.toNat_natCast, List.getD_eq_getElem?_getD, List.getElem?_append_right (by rw [opnI_len]; omega), opnI_len]; simp
          rw [if_neg (by rw [hL]; simp; omega), if_pos h19]
          simp only [hw5, hrq, rd_caps out q hq]
          rw [if_pos (by omega), if_pos (by rw [hL]; omega), if_pos (by omega), if_pos (by rw [List.length_map]; omega), if_pos (by rw [hL]; omega), hw9]
          have e1 : (out.map capOf).set ((q : Int)).toNat (⟨(capOf out[q]).f0, (capOf out[q]).f1, x.f2, (capOf out[q]).f3, (capOf out[q]).f4, (capOf out[q]).f5⟩ : SC) = (out.modify q (toAt x.f2)).map capOf := by
            rw [← set_caps out q (toAt x.f2) hq]; rfl
          have e2 : (opnI (q :: r)).take ((r.length : Int)).toNat = opnI r := by rw [opnI_cons, Int.toNat_natCast, ← opnI_len r, List.take_left]
          rw [e1, e2]
          exact ih (k + 1) (i + 1) ⟨out.modify q (toAt x.f2), r, x.f2 + x.f3⟩ (hs1.trans (by unfold stepF; simp only [hno, if_true]; rw [if_pos (show (noteOf x).op = 19 from h19)]; rfl)) (by omega) (by omega)
      · rw [if_neg h19]
        simp only [harrowref23_Forest.j1]
        rw [if_neg (by simp), if_neg h19]
        have hcap : ∀ (o2 : List Cap), o2.length = out.length → wrap64 ((((o2.map capOf) ++ [(⟨x.f1, x.f2, x.f2 + x.f3, 0, x.f4, x.f5⟩ : SC)]).length : Int) - 1) = (out.length : Int) := by
          intro o2 h; rw [List.length_append, List.length_map, h]; simp; unfold wrap64; omega
        have hend : ∀ (o2 : List Cap) (o : List Nat), o2.length = out.length → o.length ≤ i → stepF true ⟨out, opn, pl⟩ (noteOf x) = (if x.f0 = 18 then some ⟨o2 ++ [⟨x.f1, x.f2, x.f2 + x.f3, 0, x.f4, x.f5⟩], out.length :: o, x.f2 + x.f3⟩ else some ⟨o2 ++ [⟨x.f1, x.f2, x.f2 + x.f3, 0, x.f4, x.f5⟩], o, x.f2 + x.f3⟩) →
            (if x.f0 = 18 then (if (opnI o).length < 17592186044416 then (harrowref23_Forest.l0 (k + 1) l (o2.map capOf ++ [(⟨x.f1, x.f2, x.f2 + x.f3, 0, x.f4, x.f5⟩ : SC)]) (opnI o ++ [wrap64 ((((o2.map capOf) ++ [(⟨x.f1, x.f2, x.f2 + x.f3, 0, x.f4, x.f5⟩ : SC)]).length : Int) - 1)]) (x.f2 + x.f3) (wrap64 ((i : Int) + 1))) else none) else (harrowref23_Forest.l0 (k + 1) l (o2.map capOf ++ [(⟨x.f1, x.f2, x.f2 + x.f3, 0, x.f4, x.f5⟩ : SC)]) (opnI o) (x.f2 + x.f3) (wrap64 ((i : Int) + 1)))) = some (endPair l) := by
          intro o2 o hl2 hlo hstep
          have em : o2.map capOf ++ [(⟨x.f1, x.f2, x.f2 + x.f3, 0, x.f4, x.f5⟩ : SC)] = (o2 ++ [(⟨x.f1, x.f2, x.f2 + x.f3, 0, x.f4, x.f5⟩ : Cap)]).map capOf := by rw [List.map_append]; rfl
          rw [hcap o2 hl2, hw9, em]
          by_cases h18 : x.f0 = 18
          · rw [if_pos h18, if_pos (by rw [opnI_len]; omega), ← opnI_cons]
            rw [if_pos h18] at hstep
            exact ih (k + 1) (i + 1) ⟨_, _, _⟩ (hs1.trans hstep) (by omega) (by omega)
          · rw [if_neg h18]
            rw [if_neg h18] at hstep
            exact ih (k + 1) (i + 1) ⟨_, _, _⟩ (hs1.trans hstep) (by omega) (by omega)
        cases opn with
        | nil =>
          rw [if_neg (by simp [opnI]), if_pos (by rw [List.length_map]; omega), hnw]
          simp only [Option.bind_some]
          refine hend out [] rfl (by simp) ?_
          unfold stepF
          simp only [hno, if_true]
          rw [if_neg (by simpa [noteOf] using h19)]
          rfl
        | cons q r =>
          have hq : q < out.length := hok.lt q (by simp)
          have hL : (opnI (q :: r)).length = r.length + 1 := opnI_len _
          have hw5 : wrap64 (((opnI (q :: r)).length : Int) - 1) = (r.length : Int) := by rw [hL]; simp only [List.length_cons] at hol; unfold wrap64; omega
          have hrq : rd (opnI (q :: r)) (r.length : Int) = (q : Int) := by
            unfold rd; rw [opnI_cons, Int.toNat_natCast, List.getD_eq_getElem?_getD, List.getElem?_append_right (by rw [opnI_len]; omega), opnI_len]; simp
          have hkq : wrap64 (out[q].kids + 1) = out[q].kids + 1 := by have := hok.kids out[q] (List.getElem_mem hq); unfold wrap64; omega
          rw [if_pos (by rw [hL]; omega)]
          simp only [hw5, hrq, rd_caps out q hq]
          rw [if_pos (by omega), if_pos (by rw [hL]; omega), if_pos (by omega), if_pos (by rw [List.length_map]; omega)]
          have e1 : (out.map capOf).set ((q : Int)).toNat (⟨(capOf out[q]).f0, (capOf out[q]).f1, (capOf out[q]).f2, wrap64 ((capOf out[q]).f3 + 1), (capOf out[q]).f4, (capOf out[q]).f5⟩ : SC) = (out.modify q kidUp).map capOf := by
            rw [← set_caps out q kidUp hq]
            show _ = (out.map capOf).set q ⟨_, _, _, out[q].kids + 1, _, _⟩
            rw [← hkq]; rfl
          rw [e1, hnw]
          simp only [Option.bind_some]
          rw [if_pos (by rw [List.length_map, List.length_modify]; omega)]
          refine hend (out.modify q kidUp) (q :: r) (List.length_modify _ _ _) hol ?_
          unfold stepF
          simp only [hno, if_true]
          rw [if_neg (by simpa [noteOf] using h19)]
          rfl
theorem refForest_pure (l : List SN) : ∃ k, harrowref23_Forest.f k l = some ((forestL (l.map noteOf)).1.map capOf, (forestL (l.map noteOf)).2) := by
  by_cases hl : l.length ≤ 1048576
  · refine ⟨2 * l.length + 2, ?_⟩
    unfold harrowref23_Forest.f
    rw [if_neg (by omega)]
    have := forest_loop l hl l.length (2 * l.length + 2) 0 fs0 (by simp [foldF]) (by omega) (by omega)
    refine this.trans ?_
    unfold endPair forestL
    rw [if_pos (by rw [List.length_map]; exact hl)]
    cases endF true (l.map noteOf) <;> rfl
  · refine ⟨0, ?_⟩
    unfold harrowref23_Forest.f forestL
    rw [if_pos (by omega), if_neg (by rw [List.length_map]; exact hl)]
    rfl
end Go.Proofs.Ytebebognifiinaa.Q
