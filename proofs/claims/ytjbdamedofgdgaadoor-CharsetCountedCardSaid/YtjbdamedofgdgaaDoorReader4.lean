/-
  charset.Read at a place within its text, and charset.Parse: what each returns; what lay in memory stays as it was.
-/
import Derived.Test.YtjbdamedofgdgaaDoorReader3
import Derived.Deep.LoopGhost
import Derived.Deep.RegionHeld3
import Derived.StillTailTactics
namespace Go.Proofs.YtjbdamedofgdgaaDoor
open Go.RowKit
set_option linter.unusedVariables false
set_option linter.unusedSimpArgs false

/-- What Read returns. -/
def ReadPost (s : ByteArray) (i : Nat) (w : World) (e : Ending) (w' : World) : Prop :=
  Below w.heap.size w w' ∧ match readR s i with
  | .ok (q, n) => e = .returned (.tuple #[.agg #[.int .u64 (W q 0), .int .u64 (W q 1), .int .u64 (W q 2), .int .u64 (W q 3)], .int .i64 (n : Int), .agg #[.int .i64 0, .int .i64 0]])
  | .error (a, c) => e = .returned (.tuple #[.agg #[.int .u64 0, .int .u64 0, .int .u64 0, .int .u64 0], .int .i64 0, .agg #[.int .i64 a, .int .i64 c]])
theorem ReadPost.ok {s : ByteArray} {i n : Nat} {q : Nat → Bool} {w w' : World} (h : readR s i = .ok (q, n)) (hb : Below w.heap.size w w') : ReadPost s i w (.returned (.tuple #[.agg #[.int .u64 (W q 0), .int .u64 (W q 1), .int .u64 (W q 2), .int .u64 (W q 3)], .int .i64 (n : Int), .agg #[.int .i64 0, .int .i64 0]])) w' := by
  unfold ReadPost; rw [h]; exact ⟨hb, rfl⟩
theorem ReadPost.bad {s : ByteArray} {i a : Nat} {c : Int} {w w' : World} (h : readR s i = .error (a, c)) (hb : Below w.heap.size w w') : ReadPost s i w (.returned (.tuple #[.agg #[.int .u64 0, .int .u64 0, .int .u64 0, .int .u64 0], .int .i64 0, .agg #[.int .i64 a, .int .i64 c]])) w' := by
  unfold ReadPost; rw [h]; exact ⟨hb, rfl⟩
/-- What lies in Read's own blocks at a round's head: k rounds at most are to come. -/
def RdSt (s : ByteArray) (R : Except (Nat × Int) ((Nat → Bool) × Nat)) (B T k : Nat) (w : World) : Prop :=
  w.heap[B]? = some (.cells #[.int .u64 0, .int .u64 0, .int .u64 0, .int .u64 0] 24) ∧ w.heap[B + 1]? = some (.cells #[.int .i64 0, .int .i64 0] 55) ∧
  ((∃ i acc, i ≤ s.size ∧ s.size < k + i ∧ rdAll s k i acc = R ∧ w.heap[B + 1 + 1]? = some (rd s i 0 0) ∧ w.heap[T]? = some (.cells #[.int .u64 (W acc 0), .int .u64 (W acc 1), .int .u64 (W acc 2), .int .u64 (W acc 3)] 24)) ∨
   (k = 0 ∧ ∃ n a c acc, R = .error (a, c) ∧ (c = 10 ∨ c = 6 ∨ c = 1) ∧ n ≤ s.size + 4 ∧ w.heap[B + 1 + 1]? = some (rd s n a c) ∧ w.heap[T]? = some (.cells #[.int .u64 (W acc 0), .int .u64 (W acc 1), .int .u64 (W acc 2), .int .u64 (W acc 3)] 24)))
/-- What is made of what all members are read as. -/
def finR (g : (Nat → Bool) → Nat → Bool) : Except (Nat × Int) ((Nat → Bool) × Nat) → Except (Nat × Int) ((Nat → Bool) × Nat)
  | .error e => .error e
  | .ok (q, n) => .ok (g q, n + 1)
theorem drew_cell {w : World} {b : Nat} {T : TypeId} {cs : Array Value} {fr : Nat × Nat} (h : w.heap[b]? = some (.cells cs T fr)) (o : Nat) : w.drew.cell? ⟨b, o, none⟩ = cs[o]? := block_cell (w := w.drew) h o
theorem below_of_grown {a b c : World} {r : Nat} (h : Below a.heap.size a b) (g : b.grownBy c (some r)) (hr : a.heap.size ≤ r) : Below a.heap.size a c :=
  ⟨g.os.trans h.os, g.tape.trans h.tape, g.output.trans h.output, Nat.le_trans h.size g.size, fun k hk => (g.block k (Nat.lt_of_lt_of_le hk h.size) (fun e => by injection e; omega)).trans (h.block k hk)⟩
theorem set2 {w : World} {b : Nat} {T : TypeId} {x0 x1 : Value} (h : w.heap[b]? = some (.cells #[x0, x1] T)) (y0 y1 : Value) :
    ((w.setCell ⟨b, 0, none⟩ y0).setCell ⟨b, 1, none⟩ y1).heap[b]? = some (.cells #[y0, y1] T) := by
  rw [heap_setCell_self (heap_setCell_self h _ _) _ _]
  rfl
theorem set2_ne {w : World} {b c : Nat} {x : Option Obj} (h : w.heap[c]? = x) (hne : c ≠ b) (y0 y1 : Value) : ((w.setCell ⟨b, 0, none⟩ y0).setCell ⟨b, 1, none⟩ y1).heap[c]? = x :=
  (heap_setCell_ne _ _ _ hne).trans ((heap_setCell_ne _ _ _ hne).trans h)
theorem below_set2 {B : Nat} {w0 w : World} {b : Nat} (h : Below B w0 w) (hb : B ≤ b) (y0 y1 : Value) : Below B w0 ((w.setCell ⟨b, 0, none⟩ y0).setCell ⟨b, 1, none⟩ y1) :=
  (h.setCell (p := ⟨b, 0, none⟩) hb _).setCell (p := ⟨b, 1, none⟩) hb _

set_option maxHeartbeats 16000000 in
set_option maxRecDepth 100000 in
theorem read_no (s : ByteArray) (hs : s.size ≤ 140737488351232) (i : Nat) (hi : i ≤ s.size) (h : ¬ pk s i = 91) (w : World) :
    Calls Tryd.prog 44 #[.string s, .int .i64 (i : Int)] w (ReadPost s i w) := by
  have hR0 : (((w.alloc (.cells #[.int .u64 0, .int .u64 0, .int .u64 0, .int .u64 0] 24)).alloc (.cells #[.int .i64 0, .int .i64 0] 55)).alloc (rd s i 0 0)).heap[w.heap.size]? = some (.cells #[.int .u64 0, .int .u64 0, .int .u64 0, .int .u64 0] 24) := alloc_old (alloc_old (alloc_new w _))
  have hF0 : (((w.alloc (.cells #[.int .u64 0, .int .u64 0, .int .u64 0, .int .u64 0] 24)).alloc (.cells #[.int .i64 0, .int .i64 0] 55)).alloc (rd s i 0 0)).heap[w.heap.size + 1]? = some (.cells #[.int .i64 0, .int .i64 0] 55) := alloc_old (alloc_new_at _ (by simp))
  have hb0 : (((w.alloc (.cells #[.int .u64 0, .int .u64 0, .int .u64 0, .int .u64 0] 24)).alloc (.cells #[.int .i64 0, .int .i64 0] 55)).alloc (rd s i 0 0)).heap[w.heap.size + 1 + 1]? = some (rd s i 0 0) := alloc_new_at _ (by simp)
  have hB0 : Below w.heap.size w (((w.alloc (.cells #[.int .u64 0, .int .u64 0, .int .u64 0, .int .u64 0] 24)).alloc (.cells #[.int .i64 0, .int .i64 0] 55)).alloc (rd s i 0 0)) := (((Below.refl _ w).alloc (Nat.le_refl _) _).alloc (by simp) _).alloc (by simp; omega) _
  have HP := hid (peek_any s hs i (by omega) 0 0 _ _ hb0)
  have hd1 : decide ((i : Int) < 0) = false := decide_eq_false (by omega)
  have hd2 : decide ((s.size : Int) < (i : Int)) = false := decide_eq_false (by omega)
  have hd3 : decide (s.size < i) = false := decide_eq_false (by omega)
  have hz : (pk s i != 91) = true := by simpa using h
  have HM := hid (show readR s i = .error (i, 6) from if_neg h)
  generalize pk s i = z at *
  clear h
  go_enter Tryd.func44, Tryd.ntmps44
  go_wp2_with (first | (go_at_call 48; (with_reducible refine Calls.mono HP.out ?_); rintro e w1 ⟨rfl, hbw⟩; have hR1 := keep hbw hR0; have hF1 := keep hbw hF0; have hb1 := keep hbw hb0; have hB1 := hB0.trans (hbw.mono hB0.size); have hcb1 := block_cell hb1; have hfb1 := block_free hb1; have hcR1 := block_cell hR1; have hfR1 := block_free hR1; have hcF1 := block_cell hF1; have hfF1 := block_free hF1))
  have hr9 := set2_ne (set4 hR1 (.int .u64 0) (.int .u64 0) (.int .u64 0) (.int .u64 0)) (by omega : w.heap.size ≠ w.heap.size + 1) (.int .i64 (i : Int)) (.int .i64 6)
  have hf9 := set2 (set4_ne hF1 (by omega : w.heap.size + 1 ≠ w.heap.size) (.int .u64 0) (.int .u64 0) (.int .u64 0) (.int .u64 0)) (.int .i64 (i : Int)) (.int .i64 6)
  have hb9 := below_set2 (below_set4 hB1 (Nat.le_refl _) (.int .u64 0) (.int .u64 0) (.int .u64 0) (.int .u64 0)) (by omega : w.heap.size ≤ w.heap.size + 1) (.int .i64 (i : Int)) (.int .i64 6)
  have hcr9 := block_cell hr9
  have hcf9 := block_cell hf9
  exact bodyPost_ret (v := .tuple #[.agg #[.int .u64 0, .int .u64 0, .int .u64 0, .int .u64 0], .int .i64 0, .agg #[.int .i64 (i : Int), .int .i64 6]]) (by simp [results, Tryd.results44, go_sem, hcr9, hcf9]) rfl (ReadPost.bad HM.out hb9)
set_option maxHeartbeats 16000000 in
set_option maxRecDepth 100000 in
theorem read_plain (s : ByteArray) (hs : s.size ≤ 140737488351232) (i : Nat) (hi : i ≤ s.size) (h : pk s i = 91) (h94 : ¬ pk s (i + 1) = 94) (w : World) :
    Calls Tryd.prog 44 #[.string s, .int .i64 (i : Int)] w (ReadPost s i w) := by
  have hR0 : (((w.alloc (.cells #[.int .u64 0, .int .u64 0, .int .u64 0, .int .u64 0] 24)).alloc (.cells #[.int .i64 0, .int .i64 0] 55)).alloc (rd s i 0 0)).heap[w.heap.size]? = some (.cells #[.int .u64 0, .int .u64 0, .int .u64 0, .int .u64 0] 24) := alloc_old (alloc_old (alloc_new w _))
  have hF0 : (((w.alloc (.cells #[.int .u64 0, .int .u64 0, .int .u64 0, .int .u64 0] 24)).alloc (.cells #[.int .i64 0, .int .i64 0] 55)).alloc (rd s i 0 0)).heap[w.heap.size + 1]? = some (.cells #[.int .i64 0, .int .i64 0] 55) := alloc_old (alloc_new_at _ (by simp))
  have hb0 : (((w.alloc (.cells #[.int .u64 0, .int .u64 0, .int .u64 0, .int .u64 0] 24)).alloc (.cells #[.int .i64 0, .int .i64 0] 55)).alloc (rd s i 0 0)).heap[w.heap.size + 1 + 1]? = some (rd s i 0 0) := alloc_new_at _ (by simp)
  have hB0 : Below w.heap.size w (((w.alloc (.cells #[.int .u64 0, .int .u64 0, .int .u64 0, .int .u64 0] 24)).alloc (.cells #[.int .i64 0, .int .i64 0] 55)).alloc (rd s i 0 0)) := (((Below.refl _ w).alloc (Nat.le_refl _) _).alloc (by simp) _).alloc (by simp; omega) _
  have HP := hid (peek_any s hs i (by omega) 0 0 _ _ hb0)
  have hd1 : decide ((i : Int) < 0) = false := decide_eq_false (by omega)
  have hd2 : decide ((s.size : Int) < (i : Int)) = false := decide_eq_false (by omega)
  have hd3 : decide (s.size < i) = false := decide_eq_false (by omega)
  have hi1s : i + 1 ≤ s.size := by have := pk_lt (s := s) (i := i) (by omega); omega
  obtain ⟨i1, hi1⟩ : ∃ i1, i1 = i + 1 := ⟨_, rfl⟩
  obtain ⟨R, hR⟩ : ∃ R, rdAll s (s.size + 1) (i + 1) emp = R := ⟨_, rfl⟩
  have HM : readR s i = finR id R := by
    unfold readR
    rw [if_pos h, show startP (pk s (i + 1)) i = i + 1 from if_neg h94, hR]
    cases R with
    | error e => rfl
    | ok x => obtain ⟨q, n⟩ := x; simp only [finR, id]; rw [show turnP (pk s (i + 1)) q = q from if_neg h94]
  have HM := hid HM
  rw [← hi1] at h94 hi1s
  have HQ := hid (fun w' h => peek_any s hs i1 (by omega) 0 0 (w.heap.size + 1 + 1) w' h)
  have hw1 : IntKind.i64.wrap ((i : Int) + 1) = (i1 : Int) := by rw [IntKind.wrap_i64]; omega
  rw [h] at HP
  rw [← hi1] at hR
  have hz : (pk s i1 == 94) = false := by simpa using h94
  clear h h94 hi1
  generalize pk s i1 = z1 at *
  have HR := hid hR
  clear hR
  have hneR : w.heap.size ≠ w.heap.size + 1 + 1 := by omega
  have hneF : w.heap.size + 1 ≠ w.heap.size + 1 + 1 := by omega
  have hleb : w.heap.size ≤ w.heap.size + 1 + 1 := by omega
  go_enter Tryd.func44, Tryd.ntmps44
  go_wp2_with (first | (go_at_call 48; (with_reducible refine Calls.mono HP.out ?_); rintro e w1 ⟨rfl, hbw⟩; have hR1 := keep hbw hR0; have hF1 := keep hbw hF0; have hb1 := keep hbw hb0; have hB1 := hB0.trans (hbw.mono hB0.size); have hcb1 := block_cell hb1; have hfb1 := block_free hb1; have hcR1 := block_cell hR1; have hfR1 := block_free hR1; have hcF1 := block_cell hF1; have hfF1 := block_free hF1; have hb2 : (w1.setCell ⟨w.heap.size + 1 + 1, 1, none⟩ (.int .i64 (i1 : Int))).heap[w.heap.size + 1 + 1]? = some (rd s i1 0 0) := heap_setCell_self hb1 1 _; have hR2 := (heap_setCell_ne (w := w1) (b := w.heap.size + 1 + 1) 1 _ (.int .i64 (i1 : Int)) hneR).trans hR1; have hF2 := (heap_setCell_ne (w := w1) (b := w.heap.size + 1 + 1) 1 _ (.int .i64 (i1 : Int)) hneF).trans hF1; have hB2 := hB1.setCell (p := ⟨w.heap.size + 1 + 1, 1, none⟩) hleb (.int .i64 (i1 : Int))) | (go_at_call 48; (with_reducible refine Calls.mono (HQ.out _ hb2) ?_); rintro e w3 ⟨rfl, hbw3⟩; have hR3 := keep hbw3 hR2; have hF3 := keep hbw3 hF2; have hb3 := keep hbw3 hb2; have hB3 := hB2.trans (hbw3.mono hB2.size); have hcb3 := block_cell hb3; have hfb3 := block_free hb3))
  have hT5 : (w3.alloc (.cells #[.int .u64 0, .int .u64 0, .int .u64 0, .int .u64 0] 24)).heap[w3.heap.size]? = some (.cells #[.int .u64 0, .int .u64 0, .int .u64 0, .int .u64 0] 24) := alloc_new_at _ rfl
  have hszT : w.heap.size + 1 + 1 < w3.heap.size := block_lt hb3
  go_loopg [] (s.size + 1) (fun k wr => RdSt s R w.heap.size w3.heap.size k wr ∧ Below w.heap.size w wr)
  case atStart => exact ⟨⟨alloc_old hR3, alloc_old hF3, .inl ⟨i1, emp, hi1s, by omega, HR.out, alloc_old hb3, by rw [W_emp, W_emp, W_emp, W_emp]; exact hT5⟩⟩, hB3.alloc hB3.size _⟩
  case round =>
    obtain ⟨⟨hRr, hFr, hst⟩, hBr⟩ := hrel
    have hleT : w.heap.size ≤ w3.heap.size := by omega
    have hneT : w.heap.size + 1 + 1 ≠ w3.heap.size := by omega
    have hneRT : w.heap.size ≠ w3.heap.size := by omega
    have hneFT : w.heap.size + 1 ≠ w3.heap.size := by omega
    rcases hst with ⟨j, acc, hj, hf, hrd, hbr, hTr⟩ | ⟨rfl, n, a, c, acc, hRe, hcc, hn, hbr, hTr⟩
    · obtain ⟨k, rfl⟩ : ∃ k, gk = k + 1 := ⟨gk - 1, by omega⟩
      have HP2 := hid (peek_any s hs j (by omega) 0 0 _ wr hbr)
      have hcbr := block_cell hbr
      by_cases h93 : pk s j = 93
      · rw [rdAll, if_pos h93] at hrd
        have HE : Hid (readR s i = .ok (acc, j + 1)) := hid (by rw [HM.out, ← hrd]; rfl)
        rw [h93] at HP2
        clear hrd h93 HM HR
        go_wp2_with (go_at_call 48; (with_reducible refine Calls.mono HP2.out ?_); rintro e w5 ⟨rfl, hbw5⟩; have hR5 := keep hbw5 hRr; have hF5 := keep hbw5 hFr; have hb5 := keep hbw5 hbr; have hT5 := keep hbw5 hTr; have hB5 := hBr.trans (hbw5.mono hBr.size); have hcb5 := block_cell hb5; have hcT5 := block_cell hT5; have hcR5 := block_cell hR5; have hcF5 := block_cell hF5; have hfR5 := block_free hR5; have hfF5 := block_free hF5; have hfT5 := block_free hT5)
        have hwj : IntKind.i64.wrap ((j : Int) + 1) = (j : Int) + 1 := by rw [IntKind.wrap_i64]; omega
        go_region_held3 (fun w' => (∀ o, w'.cell? ⟨w3.heap.size, o, none⟩ = (#[.int .u64 (W acc 0), .int .u64 (W acc 1), .int .u64 (W acc 2), .int .u64 (W acc 3)] : Array Value)[o]?) ∧ (∀ o, w'.cell? ⟨w.heap.size + 1 + 1, o, none⟩ = (#[.string s, .int .i64 (j : Int), .int .i64 0, .int .i64 0] : Array Value)[o]?)) (go_keep) (fail)
        go_wp2
        have hr9 := set2_ne (set4 hR5 (.int .u64 (W acc 0)) (.int .u64 (W acc 1)) (.int .u64 (W acc 2)) (.int .u64 (W acc 3))) (by omega : w.heap.size ≠ w.heap.size + 1) (.int .i64 0) (.int .i64 0)
        have hf9 := set2 (set4_ne hF5 (by omega : w.heap.size + 1 ≠ w.heap.size) (.int .u64 (W acc 0)) (.int .u64 (W acc 1)) (.int .u64 (W acc 2)) (.int .u64 (W acc 3))) (.int .i64 0) (.int .i64 0)
        have hb9 := below_set2 (below_set4 hB5 (Nat.le_refl _) (.int .u64 (W acc 0)) (.int .u64 (W acc 1)) (.int .u64 (W acc 2)) (.int .u64 (W acc 3))) (by omega : w.heap.size ≤ w.heap.size + 1) (.int .i64 0) (.int .i64 0)
        have hcr9 := drew_cell hr9
        have hcf9 := drew_cell hf9
        exact bodyPost_ret (v := .tuple #[.agg #[.int .u64 (W acc 0), .int .u64 (W acc 1), .int .u64 (W acc 2), .int .u64 (W acc 3)], .int .i64 ((j + 1 : Nat) : Int), .agg #[.int .i64 0, .int .i64 0]]) (by simp [results, Tryd.results44, go_sem, hcr9, hcf9]) rfl (ReadPost.ok HE.out hb9.drew)
      · rw [rdAll, if_neg h93] at hrd
        have hz3 : (pk s j != 93) = true := by simpa using h93
        have HME := hid (fun w' h => member_any s hs j hj (w.heap.size + 1 + 1) w' h)
        clear h93
        generalize pk s j = z3 at *
        cases hm : memR s j with
        | error e =>
          obtain ⟨a, c⟩ := e
          rw [hm] at hrd
          simp only at hrd
          have HX := hid hrd
          have HMM := hid hm
          clear hrd hm HM HR
          go_wp2_with (go_at_call 48; (with_reducible refine Calls.mono HP2.out ?_); rintro e w5 ⟨rfl, hbw5⟩; have hR5 := keep hbw5 hRr; have hF5 := keep hbw5 hFr; have hb5 := keep hbw5 hbr; have hT5 := keep hbw5 hTr; have hB5 := hBr.trans (hbw5.mono hBr.size); have hcT5 := block_cell hT5; have hb5d : w5.drew.heap[w.heap.size + 1 + 1]? = some (rd s j 0 0) := hb5)
          go_region_with (first | (go_at_call 49; (with_reducible refine Calls.mono (HME.out _ hb5d) ?_); rintro e w6 ⟨q, rfl, hg6, hl6⟩; have hR6 := grown_heap (w := w5.drew) hg6 hR5 (fun e => hneR (Option.some.inj e)); have hF6 := grown_heap (w := w5.drew) hg6 hF5 (fun e => hneF (Option.some.inj e)); have hT6 := grown_heap (w := w5.drew) hg6 hT5 (fun e => hneT (Option.some.inj e).symm); have hB6 := below_of_grown hB5.drew hg6 hleb; have hcT6 := block_cell hT6) | (go_at_call 27; (with_reducible refine Calls.mono (union_any acc q _) ?_); rintro e w7 ⟨rfl, hbw7⟩; have hR7 := keep hbw7 hR6; have hF7 := keep hbw7 hF6; have hT7 := keep hbw7 hT6; have hB7 := hB6.trans (hbw7.mono hB6.size); have hfT7 := block_free hT7; have hcT7 := block_cell hT7))
          all_goals unfold MemLeft at hl6
          all_goals rw [HMM.out] at hl6
          all_goals obtain ⟨n, hn, hb6⟩ := hl6
          all_goals have hcc := (memR_bad hj HMM.out).2
          all_goals have hb7 := keep hbw7 hb6
          all_goals go_wp2
          all_goals go_roundg 0
          all_goals first | omega | skip
          all_goals exact ⟨⟨set4_ne hR7 hneRT (.int .u64 (W (uni acc q) 0)) (.int .u64 (W (uni acc q) 1)) (.int .u64 (W (uni acc q) 2)) (.int .u64 (W (uni acc q) 3)), set4_ne hF7 hneFT (.int .u64 (W (uni acc q) 0)) (.int .u64 (W (uni acc q) 1)) (.int .u64 (W (uni acc q) 2)) (.int .u64 (W (uni acc q) 3)), .inr ⟨rfl, n, a, c, uni acc q, HX.out.symm, hcc, hn, set4_ne hb7 hneT (.int .u64 (W (uni acc q) 0)) (.int .u64 (W (uni acc q) 1)) (.int .u64 (W (uni acc q) 2)) (.int .u64 (W (uni acc q) 3)), set4 hT7 (.int .u64 (W (uni acc q) 0)) (.int .u64 (W (uni acc q) 1)) (.int .u64 (W (uni acc q) 2)) (.int .u64 (W (uni acc q) 3))⟩⟩, below_set4 hB7 hleT (.int .u64 (W (uni acc q) 0)) (.int .u64 (W (uni acc q) 1)) (.int .u64 (W (uni acc q) 2)) (.int .u64 (W (uni acc q) 3))⟩
        | ok x =>
          obtain ⟨q0, n⟩ := x
          rw [hm] at hrd
          simp only at hrd
          have HX := hid hrd
          have HMM := hid hm
          clear hrd hm HM HR
          go_wp2_with (go_at_call 48; (with_reducible refine Calls.mono HP2.out ?_); rintro e w5 ⟨rfl, hbw5⟩; have hR5 := keep hbw5 hRr; have hF5 := keep hbw5 hFr; have hb5 := keep hbw5 hbr; have hT5 := keep hbw5 hTr; have hB5 := hBr.trans (hbw5.mono hBr.size); have hcT5 := block_cell hT5; have hb5d : w5.drew.heap[w.heap.size + 1 + 1]? = some (rd s j 0 0) := hb5)
          go_region_with (first | (go_at_call 49; (with_reducible refine Calls.mono (HME.out _ hb5d) ?_); rintro e w6 ⟨q, rfl, hg6, hl6⟩; have hR6 := grown_heap (w := w5.drew) hg6 hR5 (fun e => hneR (Option.some.inj e)); have hF6 := grown_heap (w := w5.drew) hg6 hF5 (fun e => hneF (Option.some.inj e)); have hT6 := grown_heap (w := w5.drew) hg6 hT5 (fun e => hneT (Option.some.inj e).symm); have hB6 := below_of_grown hB5.drew hg6 hleb; have hcT6 := block_cell hT6) | (go_at_call 27; (with_reducible refine Calls.mono (union_any acc q _) ?_); rintro e w7 ⟨rfl, hbw7⟩; have hR7 := keep hbw7 hR6; have hF7 := keep hbw7 hF6; have hT7 := keep hbw7 hT6; have hB7 := hB6.trans (hbw7.mono hB6.size); have hfT7 := block_free hT7; have hcT7 := block_cell hT7))
          all_goals unfold MemLeft at hl6
          all_goals rw [HMM.out] at hl6
          all_goals obtain ⟨rfl, hb6⟩ := hl6
          all_goals have hn1 := memR_next HMM.out
          all_goals have hb7 := keep hbw7 hb6
          all_goals go_wp2
          all_goals go_roundg k
          all_goals first | omega | skip
          all_goals exact ⟨⟨set4_ne hR7 hneRT (.int .u64 (W (uni acc q) 0)) (.int .u64 (W (uni acc q) 1)) (.int .u64 (W (uni acc q) 2)) (.int .u64 (W (uni acc q) 3)), set4_ne hF7 hneFT (.int .u64 (W (uni acc q) 0)) (.int .u64 (W (uni acc q) 1)) (.int .u64 (W (uni acc q) 2)) (.int .u64 (W (uni acc q) 3)), .inl ⟨n, uni acc q, hn1.2, by omega, HX.out, set4_ne hb7 hneT (.int .u64 (W (uni acc q) 0)) (.int .u64 (W (uni acc q) 1)) (.int .u64 (W (uni acc q) 2)) (.int .u64 (W (uni acc q) 3)), set4 hT7 (.int .u64 (W (uni acc q) 0)) (.int .u64 (W (uni acc q) 1)) (.int .u64 (W (uni acc q) 2)) (.int .u64 (W (uni acc q) 3))⟩⟩, below_set4 hB7 hleT (.int .u64 (W (uni acc q) 0)) (.int .u64 (W (uni acc q) 1)) (.int .u64 (W (uni acc q) 2)) (.int .u64 (W (uni acc q) 3))⟩
    · have HE : Hid (readR s i = .error (a, c)) := hid (by rw [HM.out, hRe]; rfl)
      have hc0 : (c == 0) = false := by rcases hcc with h | h | h <;> rw [h] <;> rfl
      have hc1 : (c != 0) = true := by rcases hcc with h | h | h <;> rw [h] <;> rfl
      clear hRe hcc HM HR
      have hcbr := block_cell hbr
      have hcRr := block_cell hRr
      have hcFr := block_cell hFr
      have hfRr := block_free hRr
      have hfFr := block_free hFr
      go_wp2
      go_region_held3 (fun w' => (∀ o, w'.cell? ⟨w.heap.size + 1 + 1, o, none⟩ = (#[.string s, .int .i64 (n : Int), .int .i64 (a : Int), .int .i64 c] : Array Value)[o]?)) (go_keep) (fail)
      go_wp2
      have hr9 := set2_ne (set4 hRr (.int .u64 0) (.int .u64 0) (.int .u64 0) (.int .u64 0)) (by omega : w.heap.size ≠ w.heap.size + 1) (.int .i64 (a : Int)) (.int .i64 c)
      have hf9 := set2 (set4_ne hFr (by omega : w.heap.size + 1 ≠ w.heap.size) (.int .u64 0) (.int .u64 0) (.int .u64 0) (.int .u64 0)) (.int .i64 (a : Int)) (.int .i64 c)
      have hb9 := below_set2 (below_set4 hBr (Nat.le_refl _) (.int .u64 0) (.int .u64 0) (.int .u64 0) (.int .u64 0)) (by omega : w.heap.size ≤ w.heap.size + 1) (.int .i64 (a : Int)) (.int .i64 c)
      have hcr9 := drew_cell hr9
      have hcf9 := drew_cell hf9
      exact bodyPost_ret (v := .tuple #[.agg #[.int .u64 0, .int .u64 0, .int .u64 0, .int .u64 0], .int .i64 0, .agg #[.int .i64 (a : Int), .int .i64 c]]) (by simp [results, Tryd.results44, go_sem, hcr9, hcf9]) rfl (ReadPost.bad HE.out hb9.drew)
set_option maxHeartbeats 16000000 in
set_option maxRecDepth 100000 in
theorem read_turned (s : ByteArray) (hs : s.size ≤ 140737488351232) (i : Nat) (hi : i ≤ s.size) (h : pk s i = 91) (h94 : pk s (i + 1) = 94) (w : World) :
    Calls Tryd.prog 44 #[.string s, .int .i64 (i : Int)] w (ReadPost s i w) := by
  have hR0 : (((w.alloc (.cells #[.int .u64 0, .int .u64 0, .int .u64 0, .int .u64 0] 24)).alloc (.cells #[.int .i64 0, .int .i64 0] 55)).alloc (rd s i 0 0)).heap[w.heap.size]? = some (.cells #[.int .u64 0, .int .u64 0, .int .u64 0, .int .u64 0] 24) := alloc_old (alloc_old (alloc_new w _))
  have hF0 : (((w.alloc (.cells #[.int .u64 0, .int .u64 0, .int .u64 0, .int .u64 0] 24)).alloc (.cells #[.int .i64 0, .int .i64 0] 55)).alloc (rd s i 0 0)).heap[w.heap.size + 1]? = some (.cells #[.int .i64 0, .int .i64 0] 55) := alloc_old (alloc_new_at _ (by simp))
  have hb0 : (((w.alloc (.cells #[.int .u64 0, .int .u64 0, .int .u64 0, .int .u64 0] 24)).alloc (.cells #[.int .i64 0, .int .i64 0] 55)).alloc (rd s i 0 0)).heap[w.heap.size + 1 + 1]? = some (rd s i 0 0) := alloc_new_at _ (by simp)
  have hB0 : Below w.heap.size w (((w.alloc (.cells #[.int .u64 0, .int .u64 0, .int .u64 0, .int .u64 0] 24)).alloc (.cells #[.int .i64 0, .int .i64 0] 55)).alloc (rd s i 0 0)) := (((Below.refl _ w).alloc (Nat.le_refl _) _).alloc (by simp) _).alloc (by simp; omega) _
  have HP := hid (peek_any s hs i (by omega) 0 0 _ _ hb0)
  have hd1 : decide ((i : Int) < 0) = false := decide_eq_false (by omega)
  have hd2 : decide ((s.size : Int) < (i : Int)) = false := decide_eq_false (by omega)
  have hd3 : decide (s.size < i) = false := decide_eq_false (by omega)
  have hi1s : i + 1 ≤ s.size := by have := pk_lt (s := s) (i := i) (by omega); omega
  have hi2s : i + 2 ≤ s.size := by have := pk_lt (s := s) (i := i + 1) (by omega); omega
  obtain ⟨i1, hi1⟩ : ∃ i1, i1 = i + 1 := ⟨_, rfl⟩
  obtain ⟨R, hR⟩ : ∃ R, rdAll s (s.size + 1) (i + 2) emp = R := ⟨_, rfl⟩
  have HM : readR s i = finR neg R := by
    unfold readR
    rw [if_pos h, show startP (pk s (i + 1)) i = i + 2 from if_pos h94, hR]
    cases R with
    | error e => rfl
    | ok x => obtain ⟨q, n⟩ := x; simp only [finR, id]; rw [show turnP (pk s (i + 1)) q = neg q from if_pos h94]
  have HM := hid HM
  rw [← hi1] at h94 hi1s
  have HQ := hid (fun w' h => peek_any s hs i1 (by omega) 0 0 (w.heap.size + 1 + 1) w' h)
  have hw1 : IntKind.i64.wrap ((i : Int) + 1) = (i1 : Int) := by rw [IntKind.wrap_i64]; omega
  rw [h] at HP
  rw [h94] at HQ
  obtain ⟨i2, hi2⟩ : ∃ i2, i2 = i + 2 := ⟨_, rfl⟩
  rw [← hi2] at hR hi2s
  have hw2 : IntKind.i64.wrap ((i1 : Int) + 1) = (i2 : Int) := by rw [IntKind.wrap_i64]; omega
  clear hi2
  clear h h94 hi1
  have HR := hid hR
  clear hR
  have hneR : w.heap.size ≠ w.heap.size + 1 + 1 := by omega
  have hneF : w.heap.size + 1 ≠ w.heap.size + 1 + 1 := by omega
  have hleb : w.heap.size ≤ w.heap.size + 1 + 1 := by omega
  go_enter Tryd.func44, Tryd.ntmps44
  go_wp2_with (first | (go_at_call 48; (with_reducible refine Calls.mono HP.out ?_); rintro e w1 ⟨rfl, hbw⟩; have hR1 := keep hbw hR0; have hF1 := keep hbw hF0; have hb1 := keep hbw hb0; have hB1 := hB0.trans (hbw.mono hB0.size); have hcb1 := block_cell hb1; have hfb1 := block_free hb1; have hcR1 := block_cell hR1; have hfR1 := block_free hR1; have hcF1 := block_cell hF1; have hfF1 := block_free hF1; have hb2 : (w1.setCell ⟨w.heap.size + 1 + 1, 1, none⟩ (.int .i64 (i1 : Int))).heap[w.heap.size + 1 + 1]? = some (rd s i1 0 0) := heap_setCell_self hb1 1 _; have hR2 := (heap_setCell_ne (w := w1) (b := w.heap.size + 1 + 1) 1 _ (.int .i64 (i1 : Int)) hneR).trans hR1; have hF2 := (heap_setCell_ne (w := w1) (b := w.heap.size + 1 + 1) 1 _ (.int .i64 (i1 : Int)) hneF).trans hF1; have hB2 := hB1.setCell (p := ⟨w.heap.size + 1 + 1, 1, none⟩) hleb (.int .i64 (i1 : Int))) | (go_at_call 48; (with_reducible refine Calls.mono (HQ.out _ hb2) ?_); rintro e w3 ⟨rfl, hbw3⟩; have hR3 := keep hbw3 hR2; have hF3 := keep hbw3 hF2; have hb3 := keep hbw3 hb2; have hB3 := hB2.trans (hbw3.mono hB2.size); have hcb3 := block_cell hb3; have hfb3 := block_free hb3))
  have hb4 : (w3.setCell ⟨w.heap.size + 1 + 1, 1, none⟩ (.int .i64 (i2 : Int))).heap[w.heap.size + 1 + 1]? = some (rd s i2 0 0) := heap_setCell_self hb3 1 _
  have hR4 := (heap_setCell_ne (w := w3) (b := w.heap.size + 1 + 1) 1 _ (.int .i64 (i2 : Int)) hneR).trans hR3
  have hF4 := (heap_setCell_ne (w := w3) (b := w.heap.size + 1 + 1) 1 _ (.int .i64 (i2 : Int)) hneF).trans hF3
  have hB4 := hB3.setCell (p := ⟨w.heap.size + 1 + 1, 1, none⟩) hleb (.int .i64 (i2 : Int))
  have hT5 : ((w3.setCell ⟨w.heap.size + 1 + 1, 1, none⟩ (.int .i64 (i2 : Int))).alloc (.cells #[.int .u64 0, .int .u64 0, .int .u64 0, .int .u64 0] 24)).heap[w3.heap.size]? = some (.cells #[.int .u64 0, .int .u64 0, .int .u64 0, .int .u64 0] 24) := alloc_new_at _ (setCell_size _ _ _).symm
  have hszT : w.heap.size + 1 + 1 < w3.heap.size := block_lt hb3
  go_loopg [] (s.size + 1) (fun k wr => RdSt s R w.heap.size w3.heap.size k wr ∧ Below w.heap.size w wr)
  case atStart => exact ⟨⟨alloc_old hR4, alloc_old hF4, .inl ⟨i2, emp, hi2s, by omega, HR.out, alloc_old hb4, by rw [W_emp, W_emp, W_emp, W_emp]; exact hT5⟩⟩, hB4.alloc hB4.size _⟩
  case round =>
    obtain ⟨⟨hRr, hFr, hst⟩, hBr⟩ := hrel
    have hleT : w.heap.size ≤ w3.heap.size := by omega
    have hneT : w.heap.size + 1 + 1 ≠ w3.heap.size := by omega
    have hneRT : w.heap.size ≠ w3.heap.size := by omega
    have hneFT : w.heap.size + 1 ≠ w3.heap.size := by omega
    rcases hst with ⟨j, acc, hj, hf, hrd, hbr, hTr⟩ | ⟨rfl, n, a, c, acc, hRe, hcc, hn, hbr, hTr⟩
    · obtain ⟨k, rfl⟩ : ∃ k, gk = k + 1 := ⟨gk - 1, by omega⟩
      have HP2 := hid (peek_any s hs j (by omega) 0 0 _ wr hbr)
      have hcbr := block_cell hbr
      by_cases h93 : pk s j = 93
      · rw [rdAll, if_pos h93] at hrd
        have HE : Hid (readR s i = .ok (neg acc, j + 1)) := hid (by rw [HM.out, ← hrd]; rfl)
        rw [h93] at HP2
        clear hrd h93 HM HR
        go_wp2_with (first | (go_at_call 48; (with_reducible refine Calls.mono HP2.out ?_); rintro e w5 ⟨rfl, hbw5⟩; have hR5 := keep hbw5 hRr; have hF5 := keep hbw5 hFr; have hb5 := keep hbw5 hbr; have hT5 := keep hbw5 hTr; have hB5 := hBr.trans (hbw5.mono hBr.size); have hcb5 := block_cell hb5; have hcT5 := block_cell hT5; have hcR5 := block_cell hR5; have hcF5 := block_cell hF5; have hfR5 := block_free hR5; have hfF5 := block_free hF5; have hfT5 := block_free hT5) | (go_at_call 29; (with_reducible refine Calls.mono (not_any acc _) ?_); rintro e w6 ⟨rfl, hbw6⟩; have hR6 := keep hbw6 hR5; have hF6 := keep hbw6 hF5; have hb6 := keep hbw6 hb5; have hT6 := keep hbw6 hT5; have hB6 := hB5.trans (hbw6.mono hB5.size); have hfT6 := block_free hT6; have hcT6 := block_cell hT6; have hT7 := set4 hT6 (.int .u64 (W (neg acc) 0)) (.int .u64 (W (neg acc) 1)) (.int .u64 (W (neg acc) 2)) (.int .u64 (W (neg acc) 3)); have hR7 := set4_ne hR6 hneRT (.int .u64 (W (neg acc) 0)) (.int .u64 (W (neg acc) 1)) (.int .u64 (W (neg acc) 2)) (.int .u64 (W (neg acc) 3)); have hF7 := set4_ne hF6 hneFT (.int .u64 (W (neg acc) 0)) (.int .u64 (W (neg acc) 1)) (.int .u64 (W (neg acc) 2)) (.int .u64 (W (neg acc) 3)); have hb7 := set4_ne hb6 hneT (.int .u64 (W (neg acc) 0)) (.int .u64 (W (neg acc) 1)) (.int .u64 (W (neg acc) 2)) (.int .u64 (W (neg acc) 3)); have hB7 := below_set4 hB6 hleT (.int .u64 (W (neg acc) 0)) (.int .u64 (W (neg acc) 1)) (.int .u64 (W (neg acc) 2)) (.int .u64 (W (neg acc) 3)); have hcb7 := block_cell hb7; have hcT7 := block_cell hT7; have hcR7 := block_cell hR7; have hcF7 := block_cell hF7; have hfR7 := block_free hR7; have hfF7 := block_free hF7))
        have hwj : IntKind.i64.wrap ((j : Int) + 1) = (j : Int) + 1 := by rw [IntKind.wrap_i64]; omega
        go_region_held3 (fun w' => (∀ o, w'.cell? ⟨w3.heap.size, o, none⟩ = (#[.int .u64 (W (neg acc) 0), .int .u64 (W (neg acc) 1), .int .u64 (W (neg acc) 2), .int .u64 (W (neg acc) 3)] : Array Value)[o]?) ∧ (∀ o, w'.cell? ⟨w.heap.size + 1 + 1, o, none⟩ = (#[.string s, .int .i64 (j : Int), .int .i64 0, .int .i64 0] : Array Value)[o]?)) (go_keep) (fail)
        go_wp2
        have hr9 := set2_ne (set4 hR7 (.int .u64 (W (neg acc) 0)) (.int .u64 (W (neg acc) 1)) (.int .u64 (W (neg acc) 2)) (.int .u64 (W (neg acc) 3))) (by omega : w.heap.size ≠ w.heap.size + 1) (.int .i64 0) (.int .i64 0)
        have hf9 := set2 (set4_ne hF7 (by omega : w.heap.size + 1 ≠ w.heap.size) (.int .u64 (W (neg acc) 0)) (.int .u64 (W (neg acc) 1)) (.int .u64 (W (neg acc) 2)) (.int .u64 (W (neg acc) 3))) (.int .i64 0) (.int .i64 0)
        have hb9 := below_set2 (below_set4 hB7 (Nat.le_refl _) (.int .u64 (W (neg acc) 0)) (.int .u64 (W (neg acc) 1)) (.int .u64 (W (neg acc) 2)) (.int .u64 (W (neg acc) 3))) (by omega : w.heap.size ≤ w.heap.size + 1) (.int .i64 0) (.int .i64 0)
        have hcr9 := drew_cell hr9
        have hcf9 := drew_cell hf9
        exact bodyPost_ret (v := .tuple #[.agg #[.int .u64 (W (neg acc) 0), .int .u64 (W (neg acc) 1), .int .u64 (W (neg acc) 2), .int .u64 (W (neg acc) 3)], .int .i64 ((j + 1 : Nat) : Int), .agg #[.int .i64 0, .int .i64 0]]) (by simp [results, Tryd.results44, go_sem, hcr9, hcf9]) rfl (ReadPost.ok HE.out hb9.drew)
      · rw [rdAll, if_neg h93] at hrd
        have hz3 : (pk s j != 93) = true := by simpa using h93
        have HME := hid (fun w' h => member_any s hs j hj (w.heap.size + 1 + 1) w' h)
        clear h93
        generalize pk s j = z3 at *
        cases hm : memR s j with
        | error e =>
          obtain ⟨a, c⟩ := e
          rw [hm] at hrd
          simp only at hrd
          have HX := hid hrd
          have HMM := hid hm
          clear hrd hm HM HR
          go_wp2_with (go_at_call 48; (with_reducible refine Calls.mono HP2.out ?_); rintro e w5 ⟨rfl, hbw5⟩; have hR5 := keep hbw5 hRr; have hF5 := keep hbw5 hFr; have hb5 := keep hbw5 hbr; have hT5 := keep hbw5 hTr; have hB5 := hBr.trans (hbw5.mono hBr.size); have hcT5 := block_cell hT5; have hb5d : w5.drew.heap[w.heap.size + 1 + 1]? = some (rd s j 0 0) := hb5)
          go_region_with (first | (go_at_call 49; (with_reducible refine Calls.mono (HME.out _ hb5d) ?_); rintro e w6 ⟨q, rfl, hg6, hl6⟩; have hR6 := grown_heap (w := w5.drew) hg6 hR5 (fun e => hneR (Option.some.inj e)); have hF6 := grown_heap (w := w5.drew) hg6 hF5 (fun e => hneF (Option.some.inj e)); have hT6 := grown_heap (w := w5.drew) hg6 hT5 (fun e => hneT (Option.some.inj e).symm); have hB6 := below_of_grown hB5.drew hg6 hleb; have hcT6 := block_cell hT6) | (go_at_call 27; (with_reducible refine Calls.mono (union_any acc q _) ?_); rintro e w7 ⟨rfl, hbw7⟩; have hR7 := keep hbw7 hR6; have hF7 := keep hbw7 hF6; have hT7 := keep hbw7 hT6; have hB7 := hB6.trans (hbw7.mono hB6.size); have hfT7 := block_free hT7; have hcT7 := block_cell hT7))
          all_goals unfold MemLeft at hl6
          all_goals rw [HMM.out] at hl6
          all_goals obtain ⟨n, hn, hb6⟩ := hl6
          all_goals have hcc := (memR_bad hj HMM.out).2
          all_goals have hb7 := keep hbw7 hb6
          all_goals go_wp2
          all_goals go_roundg 0
          all_goals first | omega | skip
          all_goals exact ⟨⟨set4_ne hR7 hneRT (.int .u64 (W (uni acc q) 0)) (.int .u64 (W (uni acc q) 1)) (.int .u64 (W (uni acc q) 2)) (.int .u64 (W (uni acc q) 3)), set4_ne hF7 hneFT (.int .u64 (W (uni acc q) 0)) (.int .u64 (W (uni acc q) 1)) (.int .u64 (W (uni acc q) 2)) (.int .u64 (W (uni acc q) 3)), .inr ⟨rfl, n, a, c, uni acc q, HX.out.symm, hcc, hn, set4_ne hb7 hneT (.int .u64 (W (uni acc q) 0)) (.int .u64 (W (uni acc q) 1)) (.int .u64 (W (uni acc q) 2)) (.int .u64 (W (uni acc q) 3)), set4 hT7 (.int .u64 (W (uni acc q) 0)) (.int .u64 (W (uni acc q) 1)) (.int .u64 (W (uni acc q) 2)) (.int .u64 (W (uni acc q) 3))⟩⟩, below_set4 hB7 hleT (.int .u64 (W (uni acc q) 0)) (.int .u64 (W (uni acc q) 1)) (.int .u64 (W (uni acc q) 2)) (.int .u64 (W (uni acc q) 3))⟩
        | ok x =>
          obtain ⟨q0, n⟩ := x
          rw [hm] at hrd
          simp only at hrd
          have HX := hid hrd
          have HMM := hid hm
          clear hrd hm HM HR
          go_wp2_with (go_at_call 48; (with_reducible refine Calls.mono HP2.out ?_); rintro e w5 ⟨rfl, hbw5⟩; have hR5 := keep hbw5 hRr; have hF5 := keep hbw5 hFr; have hb5 := keep hbw5 hbr; have hT5 := keep hbw5 hTr; have hB5 := hBr.trans (hbw5.mono hBr.size); have hcT5 := block_cell hT5; have hb5d : w5.drew.heap[w.heap.size + 1 + 1]? = some (rd s j 0 0) := hb5)
          go_region_with (first | (go_at_call 49; (with_reducible refine Calls.mono (HME.out _ hb5d) ?_); rintro e w6 ⟨q, rfl, hg6, hl6⟩; have hR6 := grown_heap (w := w5.drew) hg6 hR5 (fun e => hneR (Option.some.inj e)); have hF6 := grown_heap (w := w5.drew) hg6 hF5 (fun e => hneF (Option.some.inj e)); have hT6 := grown_heap (w := w5.drew) hg6 hT5 (fun e => hneT (Option.some.inj e).symm); have hB6 := below_of_grown hB5.drew hg6 hleb; have hcT6 := block_cell hT6) | (go_at_call 27; (with_reducible refine Calls.mono (union_any acc q _) ?_); rintro e w7 ⟨rfl, hbw7⟩; have hR7 := keep hbw7 hR6; have hF7 := keep hbw7 hF6; have hT7 := keep hbw7 hT6; have hB7 := hB6.trans (hbw7.mono hB6.size); have hfT7 := block_free hT7; have hcT7 := block_cell hT7))
          all_goals unfold MemLeft at hl6
          all_goals rw [HMM.out] at hl6
          all_goals obtain ⟨rfl, hb6⟩ := hl6
          all_goals have hn1 := memR_next HMM.out
          all_goals have hb7 := keep hbw7 hb6
          all_goals go_wp2
          all_goals go_roundg k
          all_goals first | omega | skip
          all_goals exact ⟨⟨set4_ne hR7 hneRT (.int .u64 (W (uni acc q) 0)) (.int .u64 (W (uni acc q) 1)) (.int .u64 (W (uni acc q) 2)) (.int .u64 (W (uni acc q) 3)), set4_ne hF7 hneFT (.int .u64 (W (uni acc q) 0)) (.int .u64 (W (uni acc q) 1)) (.int .u64 (W (uni acc q) 2)) (.int .u64 (W (uni acc q) 3)), .inl ⟨n, uni acc q, hn1.2, by omega, HX.out, set4_ne hb7 hneT (.int .u64 (W (uni acc q) 0)) (.int .u64 (W (uni acc q) 1)) (.int .u64 (W (uni acc q) 2)) (.int .u64 (W (uni acc q) 3)), set4 hT7 (.int .u64 (W (uni acc q) 0)) (.int .u64 (W (uni acc q) 1)) (.int .u64 (W (uni acc q) 2)) (.int .u64 (W (uni acc q) 3))⟩⟩, below_set4 hB7 hleT (.int .u64 (W (uni acc q) 0)) (.int .u64 (W (uni acc q) 1)) (.int .u64 (W (uni acc q) 2)) (.int .u64 (W (uni acc q) 3))⟩
    · have HE : Hid (readR s i = .error (a, c)) := hid (by rw [HM.out, hRe]; rfl)
      have hc0 : (c == 0) = false := by rcases hcc with h | h | h <;> rw [h] <;> rfl
      have hc1 : (c != 0) = true := by rcases hcc with h | h | h <;> rw [h] <;> rfl
      clear hRe hcc HM HR
      have hcbr := block_cell hbr
      have hcRr := block_cell hRr
      have hcFr := block_cell hFr
      have hfRr := block_free hRr
      have hfFr := block_free hFr
      go_wp2
      go_region_held3 (fun w' => (∀ o, w'.cell? ⟨w.heap.size + 1 + 1, o, none⟩ = (#[.string s, .int .i64 (n : Int), .int .i64 (a : Int), .int .i64 c] : Array Value)[o]?)) (go_keep) (fail)
      go_wp2
      have hr9 := set2_ne (set4 hRr (.int .u64 0) (.int .u64 0) (.int .u64 0) (.int .u64 0)) (by omega : w.heap.size ≠ w.heap.size + 1) (.int .i64 (a : Int)) (.int .i64 c)
      have hf9 := set2 (set4_ne hFr (by omega : w.heap.size + 1 ≠ w.heap.size) (.int .u64 0) (.int .u64 0) (.int .u64 0) (.int .u64 0)) (.int .i64 (a : Int)) (.int .i64 c)
      have hb9 := below_set2 (below_set4 hBr (Nat.le_refl _) (.int .u64 0) (.int .u64 0) (.int .u64 0) (.int .u64 0)) (by omega : w.heap.size ≤ w.heap.size + 1) (.int .i64 (a : Int)) (.int .i64 c)
      have hcr9 := drew_cell hr9
      have hcf9 := drew_cell hf9
      exact bodyPost_ret (v := .tuple #[.agg #[.int .u64 0, .int .u64 0, .int .u64 0, .int .u64 0], .int .i64 0, .agg #[.int .i64 (a : Int), .int .i64 c]]) (by simp [results, Tryd.results44, go_sem, hcr9, hcf9]) rfl (ReadPost.bad HE.out hb9.drew)

end Go.Proofs.YtjbdamedofgdgaaDoor
