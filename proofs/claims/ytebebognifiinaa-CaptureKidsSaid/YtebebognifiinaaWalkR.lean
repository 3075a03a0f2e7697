/-
  capture.walk, with whatever it calls for each capture: by an invariant of what is called.
-/
import Derived.Test.YtebebognifiinaaWalkP
import Derived.Test.YtebebognifiinaaWithin
import Derived.Test.YtebebognifiinaaForestW
import Derived.Deep.QuietTactic
import Derived.BigQuiet
namespace Go.Proofs.Ytebebognifiinaa
open Go.RowKit
set_option linter.unusedVariables false
set_option linter.unusedSimpArgs false
theorem info_frame : (Try.prog.info? 101).map (fun i => (i.zero, i.size, i.bytes)) = some (some (.agg #[.int .i64 0, .int .i64 0, .int .i64 0, .int .i64 0]), 4, 32) := by kernel_rfl
theorem frsC_set {f f' : Fr} {r : List Fr} {j : Nat} {u : Value} (h : (frC f).set j u = frC f') : (frsC (f :: r)).set (r.length * 4 + j) u = frsC (f' :: r) := by
  rw [frsC_cons, frsC_cons, List.set_append_right _ _ (by rw [frsC_len]; omega), frsC_len, show r.length * 4 + j - r.length * 4 = j by omega, h]
theorem owns_move {w w' : World} {base : Nat} {e : TypeId} {size : Nat} {v : Value} {n : Nat} {xs : List Value} (h : w.ownsRow base e size v n xs) (hm : ∀ k, v.ownBlock = some k → w'.heap[k]? = w.heap[k]?) : w'.ownsRow base e size v n xs := by
  refine ⟨h.1, ?_⟩
  rcases h.2 with h | ⟨g, cap, cur, h1, h2, h3, h4⟩
  · exact .inl h
  · subst h1
    exact .inr ⟨g, cap, cur, rfl, h2, (hm g rfl).trans h3, h4⟩
/-- What is called for each capture: F with what it caught. I k S w: behind k calls; S: the blocks from B on that are its own. -/
structure Each (F : Nat) (cap : Array Value) (B0 B : Nat) (l : List Cap) (I : Nat → (Nat → Prop) → World → Prop) : Prop where
  lt : ∀ {k S w}, I k S w → ∀ b, S b → B ≤ b ∧ b < w.heap.size
  kept : ∀ {k S w w'}, I k S w → w.heap.size ≤ w'.heap.size → (∀ b, b < B ∨ S b → w'.heap[b]? = w.heap[b]?) → I k S w'
  call : ∀ {k S w st} {i : Int}, k < l.length → foldW l (k + 1) = some st → st.par[k]? = some i → I k S w → B ≤ w.heap.size → Calls Try.prog F (#[.int .i64 k, .int .i64 i] ++ cap) w fun e w' => e = .returned (.tuple #[]) ∧
    ∃ S', I (k + 1) S' w' ∧ Below B0 w w' ∧ (∀ b, B ≤ b → b < w.heap.size → ¬ S b → w'.heap[b]? = w.heap[b]?) ∧ (∀ b, S' b → S b ∨ w.heap.size ≤ b)
/-- The state behind k captures. -/
def WAt (l : List Cap) (B0 B : Nat) (I : Nat → (Nat → Prop) → World → Prop) (w : World) (k : Nat) (stack : Value) (wr : World) : Prop :=
  ∃ st S, foldW l k = some st ∧ wr.ownsRow B 101 4 stack st.stk.length (frsC st.stk) ∧ I k S wr ∧ (∀ b, stack.ownBlock = some b → ¬ S b) ∧ Below B0 w wr ∧ B ≤ wr.heap.size
theorem walk_bad {l : List Cap} {k : Nat} {st : WSt} {B0 : Nat} {I : Nat → (Nat → Prop) → World → Prop} {S : Nat → Prop} {w w2 : World} (hst : foldW l k = some st) (hn : foldW l (k + 1) = none) (hkl : k ≤ l.length) (hI : I k S w2) (hB : Below B0 w w2) :
    Ending.returned (.tuple #[.int .i64 (k : Int), .bool false]) = .returned (.tuple #[.int .i64 (walkRes l).1, .bool (walkRes l).2]) ∧ (∃ S, I (seenW l l.length) S w2) ∧ Below B0 w w2 := by
  have hlt : k < l.length := by
    rcases Nat.lt_or_ge k l.length with h | h
    · exact h
    · have : k = l.length := by omega
      subst this
      simp only [foldW, hst, Option.bind_some] at hn
      rw [List.getElem?_eq_none (Nat.le_refl _)] at hn
      cases hn
  have hs : seenW l l.length = k := seenW_of (by rw [hst]; rfl) hn hkl
  have hr : walkRes l = ((k : Int), false) := by unfold walkRes; rw [foldW_none hn (by omega), hs]
  rw [hr, hs]
  exact ⟨rfl, ⟨S, hI⟩, hB⟩
theorem walk_end {l : List Cap} {x : Int} {b : Bool} {B0 : Nat} {I : Nat → (Nat → Prop) → World → Prop} {S : Nat → Prop} {w w2 : World} (hr : walkRes l = (x, b)) (hs : seenW l l.length = l.length) (hI : I l.length S w2) (hB : Below B0 w w2) :
    Ending.returned (.tuple #[.int .i64 x, .bool b]) = .returned (.tuple #[.int .i64 (walkRes l).1, .bool (walkRes l).2]) ∧ (∃ S, I (seenW l l.length) S w2) ∧ Below B0 w w2 := by
  rw [hr, hs]; exact ⟨rfl, ⟨S, hI⟩, hB⟩
set_option maxRecDepth 100000 in
set_option maxHeartbeats 4000000 in
theorem walk_any (l : List Cap) (hk : ∀ c ∈ l, c.kids ≤ 9223372036854775807) (hl : l.length ≤ 1048576) (v : Value) (F : Nat) (cap : Array Value) (B0 B : Nat) (I : Nat → (Nat → Prop) → World → Prop) (hE : Each F cap B0 B l I) (hcf : ∀ (args : Array Value) (w : World), (callFunc F args).run Try.prog w = .ok (.enter F args) w)
    (w : World) (hB : B = w.heap.size) (hB0 : B0 ≤ B) (hv : RowIs w v 6 l.length (l.flatMap capsC)) (hvb : 0 < l.length → ∀ g o n c, v = .slice (some ⟨g, o, none⟩) n c → g < B0) (hI : I 0 (fun _ => False) w) :
    Calls Try.prog 34 #[v, .func (.func F) #[] cap] w fun e w' => e = .returned (.tuple #[.int .i64 (walkRes l).1, .bool (walkRes l).2]) ∧ (∃ S, I (seenW l l.length) S w') ∧ Below B0 w w' := by
  obtain ⟨ao, cc, rfl⟩ := hv.form
  subst hB
  go_enter Try.func34, Try.ntmps34
  go_wp2_with (fail)
  go_loopw [6, 16] (fun stack i wr => ∃ k : Nat, k ≤ l.length ∧ i = .int .i64 k ∧ WAt l B0 w.heap.size I w k stack wr) (fun _ i _ => l.length - (intOf i).toNat)
  case atStart =>
    refine ⟨0, Nat.zero_le _, rfl, ws0, _, rfl, ?_, hE.kept hI (by simp) (fun b hb => Below.heap_alloc _ _ _ (by rcases hb with h | h; exact h; exact h.elim)), (fun _ _ h => h), (Below.refl _ _).alloc hB0 _, by simp⟩
    exact ⟨rfl, .inr ⟨_, 1, #[.int .i64 (-1), .int .i64 (-1), .int .i64 0, .int .i64 65536], rfl, Nat.le_refl _, alloc_new _ _, Nat.le_refl _, by decide, rfl, rfl⟩⟩
  case round =>
    obtain ⟨k, hkl, rfl, st, S, hst, hstk, hIk, hne, hBw, hBs⟩ := hrel
    have hok := WOk.fold hk hkl hst
    by_cases hlt : k < l.length
    · have hx : l[k]? = some l[k] := List.getElem?_eq_getElem hlt
      have hvr : RowIs wr (.slice ao l.length cc) 6 l.length (l.flatMap capsC) := by
        obtain ⟨h1, ao', cap', e, h2⟩ := hv
        injection e with e1 e2 e3; subst e1; subst e3
        refine ⟨h1, ao, cc, rfl, fun hn => ?_⟩
        obtain ⟨g, o, e', h3⟩ := h2 hn
        subst e'
        exact ⟨g, o, rfl, fun j hj => (hBw.cell (p := ⟨g, o + j, none⟩) (hvb (by omega) g o _ _ rfl)).trans (h3 j hj)⟩
      obtain ⟨g, o, rfl, hcx⟩ := hvr.at (by omega)
      have hgB : g < B0 := hvb (by omega) g o _ _ rfl
      have hn0 : wr.cell? ⟨g, o + k * 6, none⟩ = (capsC l[k])[0]? := (hcx (k * 6) (by omega)).trans (flat_at (j := 0) capsC_len hlt (by decide))
      have hn1 : wr.cell? ⟨g, o + k * 6 + 1, none⟩ = (capsC l[k])[1]? := by rw [Nat.add_assoc]; exact (hcx (k * 6 + 1) (by omega)).trans (flat_at (j := 1) capsC_len hlt (by decide))
      have hn2 : wr.cell? ⟨g, o + k * 6 + 2, none⟩ = (capsC l[k])[2]? := by rw [Nat.add_assoc]; exact (hcx (k * 6 + 2) (by omega)).trans (flat_at (j := 2) capsC_len hlt (by decide))
      have hn3 : wr.cell? ⟨g, o + k * 6 + 3, none⟩ = (capsC l[k])[3]? := by rw [Nat.add_assoc]; exact (hcx (k * 6 + 3) (by omega)).trans (flat_at (j := 3) capsC_len hlt (by decide))
      have hn4 : wr.cell? ⟨g, o + k * 6 + 4, none⟩ = (capsC l[k])[4]? := by rw [Nat.add_assoc]; exact (hcx (k * 6 + 4) (by omega)).trans (flat_at (j := 4) capsC_len hlt (by decide))
      have hn5 : wr.cell? ⟨g, o + k * 6 + 5, none⟩ = (capsC l[k])[5]? := by rw [Nat.add_assoc]; exact (hcx (k * 6 + 5) (by omega)).trans (flat_at (j := 5) capsC_len hlt (by decide))
      have hck : l[k].kids ≤ 9223372036854775807 := hk _ (List.getElem_mem _)
      have hstep := foldW_succ hst hx
      generalize hxe : l[k] = x at *
      obtain ⟨xk, xf, xt, xd, xn, xs⟩ := x
      replace hn0 : wr.cell? ⟨g, o + k * 6, none⟩ = some (.int .i64 xk) := hn0
      replace hn1 : wr.cell? ⟨g, o + k * 6 + 1, none⟩ = some (.int .i64 xf) := hn1
      replace hn2 : wr.cell? ⟨g, o + k * 6 + 2, none⟩ = some (.int .i64 xt) := hn2
      replace hn3 : wr.cell? ⟨g, o + k * 6 + 3, none⟩ = some (.int .i64 xd) := hn3
      replace hn4 : wr.cell? ⟨g, o + k * 6 + 4, none⟩ = some (.int .i64 xn) := hn4
      replace hn5 : wr.cell? ⟨g, o + k * 6 + 5, none⟩ = some (.string xs) := hn5
      have i1 : (0 : Int) ≤ (k : Int) := by omega
      have i2 : (k : Int) < (l.length : Int) := by omega
      clear hcx
      have hx0 := alloc_new wr (.cells #[.int .i64 xk, .int .i64 xf, .int .i64 xt, .int .i64 xd, .int .i64 xn, .string xs] 39)
      have hB1 := hBw.alloc (Nat.le_trans hB0 hBs) (.cells #[.int .i64 xk, .int .i64 xf, .int .i64 xt, .int .i64 xd, .int .i64 xn, .string xs] 39)
      have hstk1 := hstk.alloc (.cells #[.int .i64 xk, .int .i64 xf, .int .i64 xt, .int .i64 xd, .int .i64 xn, .string xs] 39)
      have hI1 := hE.kept hIk (w' := wr.alloc (.cells #[.int .i64 xk, .int .i64 xf, .int .i64 xt, .int .i64 xd, .int .i64 xn, .string xs] 39)) (by simp) (fun b hb => Below.heap_alloc _ _ _ (by rcases hb with h | h; omega; exact (hE.lt hIk b h).2))
      have hSx : ¬ S wr.heap.size := fun h => by have := (hE.lt hIk _ h).2; omega
      obtain ⟨so, sc, rfl⟩ := (RowIs.of_owns hstk).form
      have hsn : 0 < st.stk.length := by obtain ⟨u, b, h1, _⟩ := hok.last; rw [h1]; simp
      obtain ⟨gs, o1, rfl, -⟩ := (RowIs.of_owns hstk).at hsn
      obtain rfl := owns_off hstk
      have hgs := hstk.lt gs rfl
      have hnS : ¬ S gs := hne gs rfl
      go_wp2_with (fail)
      generalize hw2 : wr.alloc (.cells #[.int .i64 xk, .int .i64 xf, .int .i64 xt, .int .i64 xd, .int .i64 xn, .string xs] 39) = w2 at *
      go_loop [6] (fun stack => ∃ s, stack = .slice (some ⟨gs, 0, none⟩) s.length sc ∧ popz s = popz st.stk ∧ s.length ≤ st.stk.length ∧ 0 < s.length ∧ w2.ownsRow w.heap.size 101 4 (.slice (some ⟨gs, 0, none⟩) s.length sc) s.length (frsC s)) (fun stack => match stack with | .slice _ n _ => n | _ => 0)
      case atStart => exact ⟨st.stk, rfl, rfl, Nat.le_refl _, hsn, hstk1⟩
      case round =>
        obtain ⟨s, rfl, hps, hsl, hsp, hown⟩ := hrel
        obtain ⟨t, r0, hpop, htl, hrl, hth, htlo⟩ := hok.pop
        cases s with
        | nil => simp at hsp
        | cons f r =>
          have hsc := owns_cap hown
          have hsk : (f :: r).length ≤ k + 1 := Nat.le_trans hsl hok.len
          simp only [List.length_cons] at hown hsc hsk
          have hf0 := (hown.cellAt (r.length * 4 + 0) (by omega)).trans (frsC_top f r 0 (by decide))
          have hf1 := (hown.cellAt (r.length * 4 + 1) (by omega)).trans (frsC_top f r 1 (by decide))
          have hf2 := (hown.cellAt (r.length * 4 + 2) (by omega)).trans (frsC_top f r 2 (by decide))
          have hf3 := (hown.cellAt (r.length * 4 + 3) (by omega)).trans (frsC_top f r 3 (by decide))
          replace hf0 : w2.cell? ⟨gs, r.length * 4, none⟩ = some (.int .i64 f.at_) := hf0
          replace hf1 : w2.cell? ⟨gs, r.length * 4 + 1, none⟩ = some (.int .i64 f.left) := hf1
          replace hf2 : w2.cell? ⟨gs, r.length * 4 + 2, none⟩ = some (.int .i64 f.frm) := hf2
          replace hf3 : w2.cell? ⟨gs, r.length * 4 + 3, none⟩ = some (.int .i64 f.to) := hf3
          have j3 : IntKind.i64.wrap (((r.length + 1 : Nat) : Int) - 1) = (r.length : Int) := by rw [IntKind.wrap_i64]; omega
          have j4 : (0 : Int) ≤ (r.length : Int) := by omega
          have j5 : (r.length : Int) < ((r.length + 1 : Nat) : Int) := by omega
          have j7 : (r.length : Int) ≤ (sc : Int) := by omega
          simp only [List.length_cons]
          clear hn0 hn1 hn2 hn3 hn4 hn5
          by_cases hz : f.left = 0
          · have hzb : (f.left == 0) = true := by simp [hz]
            have hpr : popz r = popz st.stk := by rw [← hps]; simp only [popz]; rw [if_pos hz]
            have hown2 := owns_shorter hown (m := r.length) (by omega)
            rw [frsC_take] at hown2
            go_wp2_with (fail)
            go_round
            case rel => exact ⟨r, rfl, hpr, by simp only [List.length_cons] at hsl; omega, by cases r with | nil => rw [hpop] at hpr; cases hpr | cons _ _ => simp, hown2⟩
            case measure => simp
          have hzb : (f.left == 0) = false := by simp [hz]
          have hpf : popz st.stk = f :: r := by rw [← hps]; simp only [popz]; rw [if_neg hz]
          rw [hpf] at hpop
          obtain ⟨rfl, rfl⟩ : f = t ∧ r = r0 := by injection hpop with h1 h2; exact ⟨h1, h2⟩
          have hcx := block_cell hx0
          have hc0 := hcx 0; have hc1 := hcx 1; have hc2 := hcx 2; have hc3 := hcx 3; have hc4 := hcx 4; have hc5 := hcx 5
          clear hcx
          have hbad : badC ⟨xk, xf, xt, xd, xn, xs⟩ f = true → foldW l (k + 1) = none := fun hb => by rw [hstep, stepW, hpf]; simp only; rw [if_pos hb]
          have hok2 : badC ⟨xk, xf, xt, xd, xn, xs⟩ f = false → foldW l (k + 1) = some ⟨⟨k, xd, xf, xt⟩ :: ⟨f.at_, f.left - 1, xt, f.to⟩ :: r, st.par ++ [f.at_]⟩ := fun hb => by rw [hstep, stepW, hpf]; simp only; rw [if_neg (by rw [hb]; simp)]
          have hwl : IntKind.i64.wrap (f.left - 1) = f.left - 1 := by rw [IntKind.wrap_i64]; omega
          clear hstep hzb hps hpop hpf hsp hsl
          go_wp2_with (fail)
          by_cases c0 : xk < 1
          · have dc0 : decide (xk < 1) = true := decide_eq_true c0
            have hnone := hbad (by simp [badC]; omega)
            go_quiet (fail)
            go_wp2_with (fail)
            go_ret2
            exact walk_bad hst hnone hkl (hE.kept hI1 (Nat.le_refl _) (fun _ _ => rfl)) (below_drewN' hB1 _)
          have dc0 : decide (xk < 1) = false := decide_eq_false c0
          by_cases c1 : 7 < xk
          · have dc1 : decide (7 < xk) = true := decide_eq_true c1
            have hnone := hbad (by simp [badC]; omega)
            go_quiet (fail)
            go_wp2_with (fail)
            go_ret2
            exact walk_bad hst hnone hkl (hE.kept hI1 (Nat.le_refl _) (fun _ _ => rfl)) (below_drewN' hB1 _)
          have dc1 : decide (7 < xk) = false := decide_eq_false c1
          by_cases c2 : xd < 0
          · have dc2 : decide (xd < 0) = true := decide_eq_true c2
            have hnone := hbad (by simp [badC]; omega)
            go_quiet (fail)
            go_wp2_with (fail)
            go_ret2
            exact walk_bad hst hnone hkl (hE.kept hI1 (Nat.le_refl _) (fun _ _ => rfl)) (below_drewN' hB1 _)
          have dc2 : decide (xd < 0) = false := decide_eq_false c2
          by_cases c3 : xf < f.frm
          · have dc3 : decide (xf < f.frm) = true := decide_eq_true c3
            have hnone := hbad (by simp [badC]; omega)
            go_quiet (fail)
            go_wp2_with (fail)
            go_ret2
            exact walk_bad hst hnone hkl (hE.kept hI1 (Nat.le_refl _) (fun _ _ => rfl)) (below_drewN' hB1 _)
          have dc3 : decide (xf < f.frm) = false := decide_eq_false c3
          by_cases c4 : xt < xf
          · have dc4 : decide (xt < xf) = true := decide_eq_true c4
            have hnone := hbad (by simp [badC]; omega)
            go_quiet (fail)
            go_wp2_with (fail)
            go_ret2
            exact walk_bad hst hnone hkl (hE.kept hI1 (Nat.le_refl _) (fun _ _ => rfl)) (below_drewN' hB1 _)
          have dc4 : decide (xt < xf) = false := decide_eq_false c4
          by_cases c5 : f.to < xt
          · have dc5 : decide (f.to < xt) = true := decide_eq_true c5
            have hnone := hbad (by simp [badC]; omega)
            go_quiet (fail)
            go_wp2_with (fail)
            go_ret2
            exact walk_bad hst hnone hkl (hE.kept hI1 (Nat.le_refl _) (fun _ _ => rfl)) (below_drewN' hB1 _)
          have dc5 : decide (f.to < xt) = false := decide_eq_false c5
          by_cases c6 : xk = 1
          · subst c6
            by_cases c7 : xf = xt
            · subst c7
              by_cases c8 : xd = 0
              · subst c8
                have hgood := hok2 (by simp [badC]; omega)
                go_quiet (fail)
                have hown3 : (w2.drewN nq).ownsRow w.heap.size 101 4 (.slice (some ⟨gs, 0, none⟩) (r.length + 1) sc) (r.length + 1) (frsC (f :: r)) := hown
                have hx3 : (w2.drewN nq).heap[wr.heap.size]? = some (.cells #[.int .i64 1, .int .i64 xf, .int .i64 xf, .int .i64 0, .int .i64 xn, .string xs] 39) := hx0
                have hI3 : I k S (w2.drewN nq) := hE.kept hI1 (Nat.le_refl _) (fun _ _ => rfl)
                have hB3 : Below B0 w (w2.drewN nq) := below_drewN' hB1 _
                have hz3 : w2.heap.size = (w2.drewN nq).heap.size := rfl
                generalize w2.drewN nq = w3 at *
                have hzz : gs < w3.heap.size ∧ wr.heap.size < w3.heap.size := ⟨(hown3.lt gs rfl).2, block_lt hx3⟩
                have hgx : ¬ gs = wr.heap.size := by omega
                obtain ⟨hs4, hg4⟩ := hown3.stored (r.length * 4 + 2) (.int .i64 xf)
                have hq1 := hown3.frozenAt (r.length * 4 + 2)
                have hq2 := hown3.frozenAt (r.length * 4 + 1)
                have hf30 : w3.cell? ⟨gs, r.length * 4, none⟩ = some (.int .i64 f.at_) := (hown3.cellAt (r.length * 4 + 0) (by omega)).trans (frsC_top f r 0 (by decide))
                have hf31 : w3.cell? ⟨gs, r.length * 4 + 1, none⟩ = some (.int .i64 f.left) := (hown3.cellAt (r.length * 4 + 1) (by omega)).trans (frsC_top f r 1 (by decide))
                have hf32 : w3.cell? ⟨gs, r.length * 4 + 2, none⟩ = some (.int .i64 f.frm) := (hown3.cellAt (r.length * 4 + 2) (by omega)).trans (frsC_top f r 2 (by decide))
                rw [frsC_set (f' := ⟨f.at_, f.left, xf, f.to⟩) rfl] at hs4
                obtain ⟨hs5, hg5⟩ := hs4.stored (r.length * 4 + 1) (.int .i64 (f.left - 1))
                rw [frsC_set (f' := ⟨f.at_, f.left - 1, xf, f.to⟩) rfl] at hs5
                have hcx := block_cell hx3
                have he0 := hcx 0; have he1 := hcx 1; have he2 := hcx 2; have he3 := hcx 3; have he4 := hcx 4; have he5 := hcx 5
                clear hcx hc0 hc1 hc2 hc3 hc4 hc5 hf0 hf1 hf2 hf3
                have hx5 := ((heap_setCell_ne (w := w3.setCell ⟨gs, r.length * 4 + 2, none⟩ (.int .i64 xf)) (r.length * 4 + 1) wr.heap.size (.int .i64 (f.left - 1)) (b := gs) (by omega)).trans (heap_setCell_ne (w := w3) (r.length * 4 + 2) wr.heap.size (.int .i64 xf) (b := gs) (by omega))).trans hx3
                have hgsB : w.heap.size ≤ gs := hgs.1
                have hI5 : I k S ((w3.setCell ⟨gs, r.length * 4 + 2, none⟩ (.int .i64 xf)).setCell ⟨gs, r.length * 4 + 1, none⟩ (.int .i64 (f.left - 1))) := hE.kept hI3 (by simp) (fun b hb => by
                  have hne' : b ≠ gs := by
                    intro e; subst e
                    rcases hb with h | h
                    · omega
                    · exact hnS h
                  exact (heap_setCell_ne _ _ _ hne').trans (heap_setCell_ne _ _ _ hne'))
                have hB5 := (hB3.setCell (p := ⟨gs, r.length * 4 + 2, none⟩) (by show B0 ≤ gs; omega) (.int .i64 xf)).setCell (p := ⟨gs, r.length * 4 + 1, none⟩) (by show B0 ≤ gs; omega) (.int .i64 (f.left - 1))
                have hpar : (st.par ++ [f.at_])[k]? = some f.at_ := by rw [List.getElem?_append_right (by rw [hok.par]; omega), hok.par, Nat.sub_self]; rfl
                have hsz5 : ((w3.setCell ⟨gs, r.length * 4 + 2, none⟩ (.int .i64 xf)).setCell ⟨gs, r.length * 4 + 1, none⟩ (.int .i64 (f.left - 1))).heap.size = w3.heap.size := by simp
                go_wp2_with (fail)
                refine (hE.call hlt hgood hpar hI5 (by rw [hsz5]; omega)).mono ?_
                rintro e w6 ⟨rfl, S', hI6, hb6, hsame, hS'⟩
                have hown6 := owns_move hs5 (fun b e => by
                  have e' : gs = b := by simpa [Value.ownBlock] using e
                  subst e'
                  exact hsame _ hgsB (by rw [hsz5]; omega) hnS)
                have hx6 := (hsame wr.heap.size (by omega) (by rw [hsz5]; omega) hSx).trans hx5
                have hB6 : Below B0 w w6 := hB5.trans hb6
                have hsz6 := hb6.size
                rw [hsz5] at hsz6
                have hnS' : ¬ S' gs := fun h => by
                  rcases hS' gs h with h | h
                  · exact hnS h
                  · rw [hsz5] at h; omega
                have hSlt := fun b h => (hE.lt hI6 b h).2
                have hcx := block_cell hx6
                have hd0 := hcx 0; have hd1 := hcx 1; have hd2 := hcx 2; have hd3 := hcx 3; have hd4 := hcx 4; have hd5 := hcx 5
                clear hcx he0 he1 he2 he3 he4 he5 hf30 hf31 hf32 hq1 hq2
                obtain ⟨i0, hi, hz0, hz1, hz2⟩ := info_parts info_frame
                have hw9 : IntKind.i64.wrap ((k : Int) + 1) = (k : Int) + 1 := IntWalk.i64_in _ (by omega)
                have hrow := row_new w6 101 #[.int .i64 (k : Int), .int .i64 0, .int .i64 xf, .int .i64 xf] 4 rfl
                go_wp2_with (at_builtin; refine wpList_append_row rfl _ _ 102 rfl w.heap.size 101 i0 _ 4 32 Try.underlying102 hi hz0 hz1 hz2 rfl (by decide) (.slice (some ⟨gs, 0, none⟩) (r.length + 1) sc) _ _ rfl (hown6.alloc _) (.slice (some ⟨w6.heap.size, 0, none⟩) 1 1) 1 (#[.int .i64 (k : Int), .int .i64 0, .int .i64 xf, .int .i64 xf] : Array Value).toList rfl hrow ?c6 ?c3 ?c4 ?c5 ?_)
                case c6 => simp [Value.oneCell']
                case c3 => unfold maxLen; omega
                case c4 => omega
                case c5 => simp; omega
                intro v7 w7 hown7 hg7 hb7
                have hB7 : Below B0 w w7 := (hB6.alloc (by omega) _).grown hg7 (by simp; omega) (fun b e => by have e' : gs = b := (by simpa [Value.ownBlock] using e); omega)
                have hz7 := hg7.size
                simp only [World.size_alloc] at hz7
                have hI7 : I (k + 1) S' w7 := hE.kept hI6 (by omega) (fun b hb => by
                  have hbl : b < w6.heap.size := by
                    rcases hb with h | h
                    · omega
                    · exact hSlt b h
                  refine (hg7.block b (by simp; omega) ?_).trans (Below.heap_alloc _ _ _ hbl)
                  intro e
                  have e' : gs = b := by simpa [Value.ownBlock] using e.symm
                  subst e'
                  rcases hb with h | h
                  · omega
                  · exact hnS' h)
                have hne7 : ∀ b, v7.ownBlock = some b → ¬ S' b := fun b e h => by
                  rcases hb7 with e2 | e2
                  · rw [e2] at e
                    have e' : gs = b := by simpa [Value.ownBlock] using e
                    subst e'
                    exact hnS' h
                  · rw [e2] at e
                    injection e with e
                    have := hSlt b h
                    first | omega | (simp at e; omega)
                go_wp2_with (fail)
                have hown8 : w7.ownsRow w.heap.size 101 4 v7 ((⟨k, 0, xf, xf⟩ : Fr) :: ⟨f.at_, f.left - 1, xf, f.to⟩ :: r).length (frsC ((⟨k, 0, xf, xf⟩ : Fr) :: ⟨f.at_, f.left - 1, xf, f.to⟩ :: r)) := by
                  rw [frsC_cons]; exact hown7
                go_roundw
                case rel => exact ⟨k + 1, by omega, by go_num, _, S', hgood, hown8, hI7, hne7, hB7, by omega⟩
                case measure => simp [intOf]; omega
              · have dc8 : (xd != 0) = true := by simp [c8]
                have hnone := hbad (by simp [badC]; omega)
                go_quiet (fail)
                go_wp2_with (fail)
                go_ret2
                exact walk_bad hst hnone hkl (hE.kept hI1 (Nat.le_refl _) (fun _ _ => rfl)) (below_drewN' hB1 _)
            · have dc7 : (xf != xt) = true := by simp [c7]
              have hnone := hbad (by simp [badC]; omega)
              go_quiet (fail)
              go_wp2_with (fail)
              go_ret2
              exact walk_bad hst hnone hkl (hE.kept hI1 (Nat.le_refl _) (fun _ _ => rfl)) (below_drewN' hB1 _)
          · have dc6 : (xk == 1) = false := by simp [c6]
            have hgood := hok2 (by simp [badC]; omega)
            go_quiet (fail)
            have hown3 : (w2.drewN nq).ownsRow w.heap.size 101 4 (.slice (some ⟨gs, 0, none⟩) (r.length + 1) sc) (r.length + 1) (frsC (f :: r)) := hown
            have hx3 : (w2.drewN nq).heap[wr.heap.size]? = some (.cells #[.int .i64 xk, .int .i64 xf, .int .i64 xt, .int .i64 xd, .int .i64 xn, .string xs] 39) := hx0
            have hI3 : I k S (w2.drewN nq) := hE.kept hI1 (Nat.le_refl _) (fun _ _ => rfl)
            have hB3 : Below B0 w (w2.drewN nq) := below_drewN' hB1 _
            have hz3 : w2.heap.size = (w2.drewN nq).heap.size := rfl
            generalize w2.drewN nq = w3 at *
            have hzz : gs < w3.heap.size ∧ wr.heap.size < w3.heap.size := ⟨(hown3.lt gs rfl).2, block_lt hx3⟩
            have hgx : ¬ gs = wr.heap.size := by omega
            obtain ⟨hs4, hg4⟩ := hown3.stored (r.length * 4 + 2) (.int .i64 xt)
            have hq1 := hown3.frozenAt (r.length * 4 + 2)
            have hq2 := hown3.frozenAt (r.length * 4 + 1)
            have hf30 : w3.cell? ⟨gs, r.length * 4, none⟩ = some (.int .i64 f.at_) := (hown3.cellAt (r.length * 4 + 0) (by omega)).trans (frsC_top f r 0 (by decide))
            have hf31 : w3.cell? ⟨gs, r.length * 4 + 1, none⟩ = some (.int .i64 f.left) := (hown3.cellAt (r.length * 4 + 1) (by omega)).trans (frsC_top f r 1 (by decide))
            have hf32 : w3.cell? ⟨gs, r.length * 4 + 2, none⟩ = some (.int .i64 f.frm) := (hown3.cellAt (r.length * 4 + 2) (by omega)).trans (frsC_top f r 2 (by decide))
            rw [frsC_set (f' := ⟨f.at_, f.left, xt, f.to⟩) rfl] at hs4
            obtain ⟨hs5, hg5⟩ := hs4.stored (r.length * 4 + 1) (.int .i64 (f.left - 1))
            rw [frsC_set (f' := ⟨f.at_, f.left - 1, xt, f.to⟩) rfl] at hs5
            have hcx := block_cell hx3
            have he0 := hcx 0; have he1 := hcx 1; have he2 := hcx 2; have he3 := hcx 3; have he4 := hcx 4; have he5 := hcx 5
            clear hcx hc0 hc1 hc2 hc3 hc4 hc5 hf0 hf1 hf2 hf3
            have hx5 := ((heap_setCell_ne (w := w3.setCell ⟨gs, r.length * 4 + 2, none⟩ (.int .i64 xt)) (r.length * 4 + 1) wr.heap.size (.int .i64 (f.left - 1)) (b := gs) (by omega)).trans (heap_setCell_ne (w := w3) (r.length * 4 + 2) wr.heap.size (.int .i64 xt) (b := gs) (by omega))).trans hx3
            have hgsB : w.heap.size ≤ gs := hgs.1
            have hI5 : I k S ((w3.setCell ⟨gs, r.length * 4 + 2, none⟩ (.int .i64 xt)).setCell ⟨gs, r.length * 4 + 1, none⟩ (.int .i64 (f.left - 1))) := hE.kept hI3 (by simp) (fun b hb => by
              have hne' : b ≠ gs := by
                intro e; subst e
                rcases hb with h | h
                · omega
                · exact hnS h
              exact (heap_setCell_ne _ _ _ hne').trans (heap_setCell_ne _ _ _ hne'))
            have hB5 := (hB3.setCell (p := ⟨gs, r.length * 4 + 2, none⟩) (by show B0 ≤ gs; omega) (.int .i64 xt)).setCell (p := ⟨gs, r.length * 4 + 1, none⟩) (by show B0 ≤ gs; omega) (.int .i64 (f.left - 1))
            have hpar : (st.par ++ [f.at_])[k]? = some f.at_ := by rw [List.getElem?_append_right (by rw [hok.par]; omega), hok.par, Nat.sub_self]; rfl
            have hsz5 : ((w3.setCell ⟨gs, r.length * 4 + 2, none⟩ (.int .i64 xt)).setCell ⟨gs, r.length * 4 + 1, none⟩ (.int .i64 (f.left - 1))).heap.size = w3.heap.size := by simp
            go_wp2_with (fail)
            refine (hE.call hlt hgood hpar hI5 (by rw [hsz5]; omega)).mono ?_
            rintro e w6 ⟨rfl, S', hI6, hb6, hsame, hS'⟩
            have hown6 := owns_move hs5 (fun b e => by
              have e' : gs = b := by simpa [Value.ownBlock] using e
              subst e'
              exact hsame _ hgsB (by rw [hsz5]; omega) hnS)
            have hx6 := (hsame wr.heap.size (by omega) (by rw [hsz5]; omega) hSx).trans hx5
            have hB6 : Below B0 w w6 := hB5.trans hb6
            have hsz6 := hb6.size
            rw [hsz5] at hsz6
            have hnS' : ¬ S' gs := fun h => by
              rcases hS' gs h with h | h
              · exact hnS h
              · rw [hsz5] at h; omega
            have hSlt := fun b h => (hE.lt hI6 b h).2
            have hcx := block_cell hx6
            have hd0 := hcx 0; have hd1 := hcx 1; have hd2 := hcx 2; have hd3 := hcx 3; have hd4 := hcx 4; have hd5 := hcx 5
            clear hcx he0 he1 he2 he3 he4 he5 hf30 hf31 hf32 hq1 hq2
            obtain ⟨i0, hi, hz0, hz1, hz2⟩ := info_parts info_frame
            have hw9 : IntKind.i64.wrap ((k : Int) + 1) = (k : Int) + 1 := IntWalk.i64_in _ (by omega)
            have hrow := row_new w6 101 #[.int .i64 (k : Int), .int .i64 xd, .int .i64 xf, .int .i64 xt] 4 rfl
            go_wp2_with (at_builtin; refine wpList_append_row rfl _ _ 102 rfl w.heap.size 101 i0 _ 4 32 Try.underlying102 hi hz0 hz1 hz2 rfl (by decide) (.slice (some ⟨gs, 0, none⟩) (r.length + 1) sc) _ _ rfl (hown6.alloc _) (.slice (some ⟨w6.heap.size, 0, none⟩) 1 1) 1 (#[.int .i64 (k : Int), .int .i64 xd, .int .i64 xf, .int .i64 xt] : Array Value).toList rfl hrow ?c6 ?c3 ?c4 ?c5 ?_)
            case c6 => simp [Value.oneCell']
            case c3 => unfold maxLen; omega
            case c4 => omega
            case c5 => simp; omega
            intro v7 w7 hown7 hg7 hb7
            have hB7 : Below B0 w w7 := (hB6.alloc (by omega) _).grown hg7 (by simp; omega) (fun b e => by have e' : gs = b := (by simpa [Value.ownBlock] using e); omega)
            have hz7 := hg7.size
            simp only [World.size_alloc] at hz7
            have hI7 : I (k + 1) S' w7 := hE.kept hI6 (by omega) (fun b hb => by
              have hbl : b < w6.heap.size := by
                rcases hb with h | h
                · omega
                · exact hSlt b h
              refine (hg7.block b (by simp; omega) ?_).trans (Below.heap_alloc _ _ _ hbl)
              intro e
              have e' : gs = b := by simpa [Value.ownBlock] using e.symm
              subst e'
              rcases hb with h | h
              · omega
              · exact hnS' h)
            have hne7 : ∀ b, v7.ownBlock = some b → ¬ S' b := fun b e h => by
              rcases hb7 with e2 | e2
              · rw [e2] at e
                have e' : gs = b := by simpa [Value.ownBlock] using e
                subst e'
                exact hnS' h
              · rw [e2] at e
                injection e with e
                have := hSlt b h
                first | omega | (simp at e; omega)
            go_wp2_with (fail)
            have hown8 : w7.ownsRow w.heap.size 101 4 v7 ((⟨k, xd, xf, xt⟩ : Fr) :: ⟨f.at_, f.left - 1, xt, f.to⟩ :: r).length (frsC ((⟨k, xd, xf, xt⟩ : Fr) :: ⟨f.at_, f.left - 1, xt, f.to⟩ :: r)) := by
              rw [frsC_cons]; exact hown7
            go_roundw
            case rel => exact ⟨k + 1, by omega, by go_num, _, S', hgood, hown8, hI7, hne7, hB7, by omega⟩
            case measure => simp [intOf]; omega
    · have hke : k = l.length := by omega
      subst hke
      obtain ⟨wq, rfl⟩ : ∃ x, x = wr := ⟨_, rfl⟩
      have hse : seenW l l.length = l.length := seenW_all (by rw [hst]; rfl)
      have hres : walkRes l = (if shortW st.stk then ((l.length : Int), false) else (0, true)) := by unfold walkRes; rw [hst]
      obtain ⟨so, sc, rfl⟩ := (RowIs.of_owns hstk).form
      have hsn : 0 < st.stk.length := by obtain ⟨u, b, h1, _⟩ := hok.last; rw [h1]; simp
      obtain ⟨gs, o1, rfl, -⟩ := (RowIs.of_owns hstk).at hsn
      obtain rfl := owns_off hstk
      have hgs := hstk.lt gs rfl
      have hsc := owns_cap hstk
      have hlk : st.stk.length ≤ l.length + 1 := hok.len
      obtain ⟨n, hn⟩ : ∃ n, st.stk.length = n + 1 := ⟨st.stk.length - 1, by omega⟩
      rw [hn] at hstk hsc hlk hsn
      rw [hn]
      have hql : (st.stk.reverse.drop 1).length = n := by simp [hn]
      have hsh : shortW st.stk = (st.stk.reverse.drop 1).any (fun f => decide (f.left > 0)) := by
        unfold shortW
        rw [show st.stk.dropLast = (st.stk.reverse.drop 1).reverse from by simp [List.dropLast_eq_take, List.drop_reverse], List.any_reverse]
      obtain ⟨q, hq⟩ : ∃ q, q = st.stk.reverse.drop 1 := ⟨_, rfl⟩
      rw [← hq] at hql hsh
      have hcell : ∀ (j i : Nat) (f : Fr), q[j]? = some f → i < 4 → wq.cell? ⟨gs, (j + 1) * 4 + i, none⟩ = (frC f)[i]? := by
        intro j i f hf hi
        have hj : j < n := by have := (List.getElem?_eq_some_iff.1 hf).1; omega
        rw [hq, List.getElem?_drop] at hf
        obtain ⟨hlt', hf⟩ := List.getElem?_eq_some_iff.1 hf
        refine (hstk.cellAt ((j + 1) * 4 + i) (by omega)).trans ?_
        unfold frsC
        rw [flat_at frC_len (by simp [hn]; omega) hi, ← hf]
        congr 3
        omega
      clear hq
      rw [hsh] at hres
      clear hsh hn hst hok
      have hkn : (0 : Int) ≤ ((n + 1 : Nat) : Int) := by omega
      by_cases hs1 : sc = 1
      · subst hs1
        obtain rfl : n = 0 := by omega
        obtain rfl : q = [] := List.eq_nil_of_length_eq_zero hql
        go_wp2_with (fail)
        go_loop [129] (fun i => i = .int .i64 0) (fun _ => 0)
        case atStart => rfl
        case round =>
          subst hrel
          go_wp2_with (fail)
          go_ret2
          exact ⟨rfl, ⟨S, hIk⟩, hBw⟩
      · have hs2 : (1 : Int) ≤ ((n + 1 : Nat) : Int) := by omega
        have hs3 : ((n + 1 : Nat) : Int) ≤ (sc : Int) := by omega
        go_wp2_with (fail)
        go_loopw [129] (fun i wr => ∃ j : Nat, j ≤ n ∧ i = .int .i64 j ∧ (∀ m f, m < j → q[m]? = some f → ¬ f.left > 0) ∧ Below wq.heap.size wq wr) (fun i _ => n - (intOf i).toNat)
        case atStart => exact ⟨0, Nat.zero_le _, rfl, fun m f h => by omega, Below.refl _ _⟩
        case round =>
          obtain ⟨j, hj, rfl, hall, hbz⟩ := hrel
          have hIz : I l.length S wr := hE.kept hIk hbz.size (fun b hb => hbz.block b (by rcases hb with h | h; omega; exact (hE.lt hIk b h).2))
          have hBz : Below B0 w wr := hBw.trans (hbz.mono (by have := hBw.size; omega))
          by_cases hjn : j < n
          · have hf : q[j]? = some q[j] := List.getElem?_eq_getElem (by omega)
            have hz0 := (hbz.cell (p := ⟨gs, (j + 1) * 4 + 0, none⟩) hgs.2).trans (hcell j 0 _ hf (by decide))
            have hz1 := (hbz.cell (p := ⟨gs, (j + 1) * 4 + 1, none⟩) hgs.2).trans (hcell j 1 _ hf (by decide))
            have hz2 := (hbz.cell (p := ⟨gs, (j + 1) * 4 + 2, none⟩) hgs.2).trans (hcell j 2 _ hf (by decide))
            have hz3 := (hbz.cell (p := ⟨gs, (j + 1) * 4 + 3, none⟩) hgs.2).trans (hcell j 3 _ hf (by decide))
            generalize q[j] = f at *
            have ea : (j + 1) * 4 = 4 + j * 4 := by omega
            rw [ea] at hz0 hz1 hz2 hz3
            replace hz0 : wr.cell? ⟨gs, 4 + j * 4, none⟩ = some (.int .i64 f.at_) := hz0
            replace hz1 : wr.cell? ⟨gs, 4 + j * 4 + 1, none⟩ = some (.int .i64 f.left) := hz1
            replace hz2 : wr.cell? ⟨gs, 4 + j * 4 + 2, none⟩ = some (.int .i64 f.frm) := hz2
            replace hz3 : wr.cell? ⟨gs, 4 + j * 4 + 3, none⟩ = some (.int .i64 f.to) := hz3
            have j1 : (0 : Int) ≤ (j : Int) := by omega
            have j2 : (j : Int) < (n : Int) := by omega
            have hIa : I l.length S (wr.alloc (.cells #[.int .i64 f.at_, .int .i64 f.left, .int .i64 f.frm, .int .i64 f.to] 101)) := hE.kept hIz (by simp) (fun b hb => Below.heap_alloc _ _ _ (by have := hBz.size; rcases hb with h | h; have := hbz.size; omega; exact (hE.lt hIz b h).2))
            have hBa := hBz.alloc (Nat.le_trans hB0 hBz.size) (.cells #[.int .i64 f.at_, .int .i64 f.left, .int .i64 f.frm, .int .i64 f.to] 101)
            have hw9 : IntKind.i64.wrap ((j : Int) + 1) = (j : Int) + 1 := IntWalk.i64_in _ (by omega)
            by_cases hpz : 0 < f.left
            · have hany : q.any (fun f => decide (f.left > 0)) = true := List.any_eq_true.2 ⟨f, List.mem_of_getElem? hf, by simpa using hpz⟩
              go_wp2_with (fail)
              go_ret2
              exact ⟨rfl, ⟨S, hIa⟩, hBa⟩
            · go_wp2_with (fail)
              go_roundw
              case rel => exact ⟨j + 1, by omega, by go_num, fun m f' hm hf' => by
                by_cases e : m = j
                · subst e; rw [hf] at hf'; cases hf'; exact hpz
                · exact hall m f' (by omega) hf', hbz.alloc hbz.size _⟩
              case measure => simp [intOf]; omega
          · have hany : q.any (fun f => decide (f.left > 0)) = false := by
              rw [List.any_eq_false]
              intro f hf
              obtain ⟨m, hm⟩ := List.mem_iff_getElem?.1 hf
              have hlt := (List.getElem?_eq_some_iff.1 hm).1
              simpa using hall m f (by omega) hm
            go_wp2_with (fail)
            go_ret2
            exact ⟨rfl, ⟨S, hIz⟩, hBz⟩
end Go.Proofs.Ytebebognifiinaa
