/-
  charset.Fold and the reference's Fold: what each returns, for every set; what lay in memory stays as it was.
-/
import Derived.Test.YtjbdamedofgdgaaDoorIters
namespace Go.Proofs.YtjbdamedofgdgaaDoor
open Go.RowKit Go.Shelf
set_option linter.unusedVariables false
set_option linter.unusedSimpArgs false
attribute [local go_sem] Oper.semAt_some
theorem ownCells {β : Type} (b : Nat) (T : TypeId) (f : β → Array Value) : Own (fun s (W : World) => W.heap[b]? = some (.cells (f s) T)) := by
  rintro s X Y row h hg hrow
  refine (hg.block b (block_lt h) (fun e => ?_)).trans h
  obtain ⟨o, ho, hc⟩ := hrow b e.symm
  rw [h] at ho; cases ho; cases hc
theorem keeps_below {w w' : World} (h : Below w.heap.size w w') : KeepsOthers w w' := ⟨h.size, fun k o hk _ => (h.block k (block_lt hk)).trans hk⟩
/-- A byte's other case, put in. -/
def foldStep (q : Nat → Bool) (x : Nat) : Nat → Bool := if 97 ≤ x ∧ x ≤ 122 then ins q (x - 32) else if 65 ≤ x ∧ x ≤ 90 then ins q (x + 32) else q
def foldAll (p : Nat → Bool) (l : List Nat) : Nat → Bool := l.foldl foldStep p
theorem foldAll_snoc (p : Nat → Bool) (l : List Nat) (x : Nat) : foldAll p (l ++ [x]) = foldStep (foldAll p l) x := by simp [foldAll]
theorem foldStep_at (q : Nat → Bool) (x i : Nat) : foldStep q x i = true ↔ q i = true ∨ (97 ≤ x ∧ x ≤ 122 ∧ i + 32 = x) ∨ (65 ≤ x ∧ x ≤ 90 ∧ i = x + 32) := by
  unfold foldStep
  split
  · simp only [ins, Bool.or_eq_true, decide_eq_true_eq]
    cases q i <;> simp <;> omega
  · split
    · simp only [ins, Bool.or_eq_true, decide_eq_true_eq]
      cases q i <;> simp <;> omega
    · constructor
      · exact Or.inl
      · rintro (h | h | h)
        · exact h
        · omega
        · omega
theorem foldAll_at (i : Nat) : ∀ (l : List Nat) (p : Nat → Bool), foldAll p l i = true ↔ p i = true ∨ ∃ x, x ∈ l ∧ ((97 ≤ x ∧ x ≤ 122 ∧ i + 32 = x) ∨ (65 ≤ x ∧ x ≤ 90 ∧ i = x + 32))
  | [], p => by simp [foldAll]
  | x :: l, p => by
    rw [show foldAll p (x :: l) = foldAll (foldStep p x) l from rfl, foldAll_at i l, foldStep_at]
    simp only [List.mem_cons, exists_eq_or_imp, or_assoc]
/-- The set with each letter's other case. -/
def foldP (p : Nat → Bool) : Nat → Bool := fun i => p i || (decide (97 ≤ i) && decide (i ≤ 122) && p (i - 32)) || (decide (65 ≤ i) && decide (i ≤ 90) && p (i + 32))
theorem foldAll_mem (p : Nat → Bool) (k : Nat) (hk : k < 4) : W (foldAll p (mem p 256)) k = W (foldP p) k := by
  refine W_congr fun i h0 h1 => Bool.eq_iff_iff.2 ?_
  rw [foldAll_at]
  simp only [foldP, Bool.or_eq_true, Bool.and_eq_true, decide_eq_true_eq, mem_mem]
  constructor
  · rintro (h | ⟨x, ⟨hx, hp⟩, (h | h)⟩)
    · exact .inl (.inl h)
    · exact .inr ⟨by omega, by rw [show i + 32 = x by omega]; exact hp⟩
    · exact .inl (.inr ⟨by omega, by rw [show i - 32 = x by omega]; exact hp⟩)
  · rintro ((h | ⟨⟨h2, h3⟩, hp⟩) | ⟨⟨h2, h3⟩, hp⟩)
    · exact .inl h
    · exact .inr ⟨i - 32, ⟨by omega, hp⟩, .inr (by omega)⟩
    · exact .inr ⟨i + 32, ⟨by omega, hp⟩, .inl (by omega)⟩
/-- The reference's rounds: the letters ahead of b have been seen. -/
def rfoldP (p : Nat → Bool) (b : Nat) : Nat → Bool := fun i => p i || (decide (97 ≤ i) && decide (i < b) && p (i - 32)) || (decide (65 ≤ i) && decide (i + 32 < b) && p (i + 32))
theorem rfoldP_start (p : Nat → Bool) : rfoldP p 97 = p := by
  funext i
  have h1 : (decide (97 ≤ i) && decide (i < 97)) = false := by simp
  have h2 : (decide (65 ≤ i) && decide (i + 32 < 97)) = false := by
    simp only [Bool.and_eq_false_iff, decide_eq_false_iff_not]; omega
  simp [rfoldP, h1, h2]
theorem rfoldP_end (p : Nat → Bool) : rfoldP p 123 = foldP p := by
  funext i
  rw [rfoldP, foldP]
  congr 3
  · rw [decide_eq_decide.2 (show i < 123 ↔ i ≤ 122 by omega)]
  · rw [decide_eq_decide.2 (show i + 32 < 123 ↔ i ≤ 90 by omega)]
theorem rfoldP_no {p : Nat → Bool} {b : Nat} (hb : 97 ≤ b) (h : p b = false) (h' : p (b - 32) = false) : rfoldP p (b + 1) = rfoldP p b := by
  funext i
  refine Bool.eq_iff_iff.2 ?_
  simp only [rfoldP, Bool.or_eq_true, Bool.and_eq_true, decide_eq_true_eq]
  by_cases e : i = b
  · subst e
    simp only [h', and_false, Bool.false_eq_true, or_false]
    constructor <;> rintro (h1 | ⟨⟨h1, h2⟩, h3⟩)
    all_goals first | exact .inl h1 | exact .inr ⟨⟨h1, by omega⟩, h3⟩ | omega
  · by_cases e' : i + 32 = b
    · subst e'
      simp only [h, and_false, Bool.false_eq_true, or_false]
      constructor <;> rintro (h1 | ⟨⟨h1, h2⟩, h3⟩)
      all_goals first | exact .inl h1 | exact .inr ⟨⟨h1, by omega⟩, h3⟩ | omega
    · constructor <;> rintro ((h | ⟨⟨h1, h2⟩, h3⟩) | ⟨⟨h1, h2⟩, h3⟩)
      all_goals first | exact .inl (.inl h) | exact .inl (.inr ⟨⟨h1, by omega⟩, h3⟩) | exact .inr ⟨⟨h1, by omega⟩, h3⟩
theorem rfoldP_yes {p : Nat → Bool} {b : Nat} (hb : 97 ≤ b) (h : p b = true ∨ p (b - 32) = true) : ins (ins (rfoldP p b) b) (b - 32) = rfoldP p (b + 1) := by
  funext i
  refine Bool.eq_iff_iff.2 ?_
  simp only [ins, rfoldP, Bool.or_eq_true, Bool.and_eq_true, decide_eq_true_eq]
  constructor
  · rintro ((((h1 | ⟨⟨h1, h2⟩, h3⟩) | ⟨⟨h1, h2⟩, h3⟩) | e) | e)
    · exact .inl (.inl h1)
    · exact .inl (.inr ⟨⟨h1, by omega⟩, h3⟩)
    · exact .inr ⟨⟨h1, by omega⟩, h3⟩
    · subst e
      rcases h with h | h
      · exact .inl (.inl h)
      · exact .inl (.inr ⟨⟨hb, by omega⟩, h⟩)
    · rcases h with h | h
      · exact .inr ⟨⟨by omega, by omega⟩, by rw [show i + 32 = b by omega]; exact h⟩
      · exact .inl (.inl (by rw [e]; exact h))
  · rintro ((h1 | ⟨⟨h1, h2⟩, h3⟩) | ⟨⟨h1, h2⟩, h3⟩)
    · exact .inl (.inl (.inl (.inl h1)))
    · by_cases e : i = b
      · exact .inl (.inr e)
      · exact .inl (.inl (.inl (.inr ⟨⟨h1, by omega⟩, h3⟩)))
    · by_cases e : i + 32 = b
      · exact .inr (by omega)
      · exact .inl (.inl (.inr ⟨⟨h1, by omega⟩, h3⟩))

/-- What lies in Fold's own blocks when some members have been gone over. -/
def foldSt (n : Nat) (p : Nat → Bool) (pre : List Byt) (Wd : World) : Prop :=
  Wd.heap[n + 1 + 1]? = some (.cells #[.int .u64 (W (foldAll p (pre.map (·.1))) 0), .int .u64 (W (foldAll p (pre.map (·.1))) 1), .int .u64 (W (foldAll p (pre.map (·.1))) 2), .int .u64 (W (foldAll p (pre.map (·.1))) 3)] 24) ∧ Wd.heap[n + 1]? = some (.cells #[.int .u64 0, .int .u64 0, .int .u64 0, .int .u64 0] 24)
theorem foldSt_own (n : Nat) (p : Nat → Bool) : Own (foldSt n p) := by
  rintro s X Y row ⟨h1, h2⟩ hg hrow
  exact ⟨ownCells (β := Unit) _ _ (fun _ => _) () X Y row h1 hg hrow, ownCells (β := Unit) _ _ (fun _ => _) () X Y row h2 hg hrow⟩
set_option maxRecDepth 100000 in
set_option maxHeartbeats 4000000 in
theorem fold_in (n : Nat) (hn : 6 ≤ n) (p : Nat → Bool) (w : World) (hT : TabOk w) :
    CallsIn Fence.wide n Tryd.prog 13 #[.agg #[.int .u64 (W p 0), .int .u64 (W p 1), .int .u64 (W p 2), .int .u64 (W p 3)]] w fun e w' => e = .returned (.agg #[.int .u64 (W (foldP p) 0), .int .u64 (W (foldP p) 1), .int .u64 (W (foldP p) 2), .int .u64 (W (foldP p) 3)]) ∧ Below w.heap.size w w' := by
  have h1 : 1 ≤ n := by omega
  have HT := hid hT
  clear hT
  refine callsIn_of_wp_marks Tryd.func13 rfl trivial ?_ rfl
  simp only [Tryd.ntmps13, List.size_toArray, List.length_cons, List.length_nil, Nat.reduceAdd, Nat.reduceSub, Array.replicate_succ, Array.replicate_zero, List.push_toArray, List.append_toArray, List.nil_append, List.cons_append]
  gi_wp2_with (refine ⟨trivial, ?_⟩; gi_at_call 32; refine (each_in (n - 1) p _).mono ?_; rintro e w' ⟨rfl, rfl⟩)
  have hP : ((((w.alloc (.cells #[.int .u64 (W p 0), .int .u64 (W p 1), .int .u64 (W p 2), .int .u64 (W p 3)] 24)).alloc (.cells #[.int .u64 0, .int .u64 0, .int .u64 0, .int .u64 0] 24)).alloc (.cells #[.int .u64 (W p 0), .int .u64 (W p 1), .int .u64 (W p 2), .int .u64 (W p 3)] 24)).alloc (.cells #[.int .u64 (W p 0), .int .u64 (W p 1), .int .u64 (W p 2), .int .u64 (W p 3)] 24)).heap[w.heap.size + 1 + 1 + 1]? = some (.cells #[.int .u64 (W p 0), .int .u64 (W p 1), .int .u64 (W p 2), .int .u64 (W p 3)] 24) := by have h := alloc_new (((w.alloc (.cells #[.int .u64 (W p 0), .int .u64 (W p 1), .int .u64 (W p 2), .int .u64 (W p 3)] 24)).alloc (.cells #[.int .u64 0, .int .u64 0, .int .u64 0, .int .u64 0] 24)).alloc (.cells #[.int .u64 (W p 0), .int .u64 (W p 1), .int .u64 (W p 2), .int .u64 (W p 3)] 24)) (.cells #[.int .u64 (W p 0), .int .u64 (W p 1), .int .u64 (W p 2), .int .u64 (W p 3)] 24); simpa using h
  have hO : ((((w.alloc (.cells #[.int .u64 (W p 0), .int .u64 (W p 1), .int .u64 (W p 2), .int .u64 (W p 3)] 24)).alloc (.cells #[.int .u64 0, .int .u64 0, .int .u64 0, .int .u64 0] 24)).alloc (.cells #[.int .u64 (W p 0), .int .u64 (W p 1), .int .u64 (W p 2), .int .u64 (W p 3)] 24)).alloc (.cells #[.int .u64 (W p 0), .int .u64 (W p 1), .int .u64 (W p 2), .int .u64 (W p 3)] 24)).heap[w.heap.size + 1 + 1]? = some (.cells #[.int .u64 (W p 0), .int .u64 (W p 1), .int .u64 (W p 2), .int .u64 (W p 3)] 24) := alloc_old (by have h := alloc_new ((w.alloc (.cells #[.int .u64 (W p 0), .int .u64 (W p 1), .int .u64 (W p 2), .int .u64 (W p 3)] 24)).alloc (.cells #[.int .u64 0, .int .u64 0, .int .u64 0, .int .u64 0] 24)) (.cells #[.int .u64 (W p 0), .int .u64 (W p 1), .int .u64 (W p 2), .int .u64 (W p 3)] 24); simpa using h)
  have hR : ((((w.alloc (.cells #[.int .u64 (W p 0), .int .u64 (W p 1), .int .u64 (W p 2), .int .u64 (W p 3)] 24)).alloc (.cells #[.int .u64 0, .int .u64 0, .int .u64 0, .int .u64 0] 24)).alloc (.cells #[.int .u64 (W p 0), .int .u64 (W p 1), .int .u64 (W p 2), .int .u64 (W p 3)] 24)).alloc (.cells #[.int .u64 (W p 0), .int .u64 (W p 1), .int .u64 (W p 2), .int .u64 (W p 3)] 24)).heap[w.heap.size + 1]? = some (.cells #[.int .u64 0, .int .u64 0, .int .u64 0, .int .u64 0] 24) := alloc_old (alloc_old (by have h := alloc_new (w.alloc (.cells #[.int .u64 (W p 0), .int .u64 (W p 1), .int .u64 (W p 2), .int .u64 (W p 3)] 24)) (.cells #[.int .u64 0, .int .u64 0, .int .u64 0, .int .u64 0] 24); simpa using h))
  have hB0 : Below w.heap.size w ((((w.alloc (.cells #[.int .u64 (W p 0), .int .u64 (W p 1), .int .u64 (W p 2), .int .u64 (W p 3)] 24)).alloc (.cells #[.int .u64 0, .int .u64 0, .int .u64 0, .int .u64 0] 24)).alloc (.cells #[.int .u64 (W p 0), .int .u64 (W p 1), .int .u64 (W p 2), .int .u64 (W p 3)] 24)).alloc (.cells #[.int .u64 (W p 0), .int .u64 (W p 1), .int .u64 (W p 2), .int .u64 (W p 3)] 24)) := ((((Below.refl _ w).alloc (Nat.le_refl _) _).alloc (by simp) _).alloc (by simp; omega) _).alloc (by simp; omega) _
  refine wpIn_rangeFunc_ownG rfl h1 (gf := 42) (lb := #[.pointer (some ⟨w.heap.size + 1 + 1 + 1, 0, none⟩)]) rfl trivial (enters_of Tryd.func42 (by kernel_rfl) rfl)
    (each_stops (n - 1) (by omega) (w.heap.size + 1 + 1 + 1) w.heap.size HT.out.1 p _ hP (HT.out.below hB0 HT.out.1)) belowK_t (belowK_b (by simp; omega)) (Below.refl _ _) (fun _ => rfl)
    (fun pre Wd => foldSt w.heap.size p pre Wd ∧ Below w.heap.size w Wd)
    (fun _ _ _ => False)
    (OwnFrom.and (Own.from (foldSt_own w.heap.size p) _) (ownFrom_below (Nat.le_refl _) (by simp; omega)))
    (fun _ _ _ _ _ hs _ _ => hs)
    ⟨⟨hO, hR⟩, hB0⟩
    (fun x => { tmps := #[.agg #[.int .u64 (W p 0), .int .u64 (W p 1), .int .u64 (W p 2), .int .u64 (W p 3)], .pointer (some ⟨w.heap.size, 0, none⟩), .pointer (some ⟨w.heap.size + 1, 0, none⟩), .pointer (some ⟨w.heap.size + 1 + 1, 0, none⟩), .int .i64 (x.1 : Int), .agg #[.int .u64 (W p 0), .int .u64 (W p 1), .int .u64 (W p 2), .int .u64 (W p 3)], .agg #[.int .u64 (W p 0), .int .u64 (W p 1), .int .u64 (W p 2), .int .u64 (W p 3)], .func (.func 42) #[] #[.pointer (some ⟨w.heap.size + 1 + 1 + 1, 0, none⟩)], .int .i64 (x.1 : Int), undef, undef, undef, undef, undef, undef, undef, undef, undef, undef, undef, undef, undef, undef, undef, undef, undef, undef, undef, undef, undef], defers := [] }) ?assign ?body ?done ?stop
  case assign =>
    intro l x Wd K hK
    gi_wp2
    exact hK
  case body =>
    rintro l pre x Wd ⟨⟨hO, hR⟩, hB⟩ hlt
    have hx := x.2
    have h3 : 1 ≤ n - 1 - 1 := by omega
    have he := hid (foldAll_snoc p (pre.map (·.1)) x.1)
    have hm : (pre ++ [x]).map (·.1) = pre.map (·.1) ++ [x.1] := by simp
    rw [← hm] at he
    clear hm
    generalize foldAll p (pre.map (·.1)) = q at hO he
    have hlt := block_lt hO
    have hc := block_cell hO
    have hf := block_free hO
    have hcase : (x.1 < 65) ∨ (65 ≤ x.1 ∧ x.1 ≤ 90) ∨ (90 < x.1 ∧ x.1 < 97) ∨ (97 ≤ x.1 ∧ x.1 ≤ 122) ∨ (122 < x.1) := by omega
    rcases hcase with hcase | hcase | hcase | hcase | hcase
    · have hd0 : decide (97 ≤ (x.1 : Int)) = false := decide_eq_false (by omega)
      have hd1 : decide ((x.1 : Int) ≤ 122) = true := decide_eq_true (by omega)
      have hd2 : decide (65 ≤ (x.1 : Int)) = false := decide_eq_false (by omega)
      have hd3 : decide ((x.1 : Int) ≤ 90) = true := decide_eq_true (by omega)
      have hstep : foldStep q x.1 = q := by rw [foldStep, if_neg (by omega), if_neg (by omega)]
      have HS := hid (he.out.trans hstep)
      clear hstep he
      gi_wp2
      refine ⟨(KeepsOthers.refl _).from _, Below.refl _ _, ⟨?_, hR⟩, hB⟩
      rw [HS.out]; exact hO
    · have hd0 : decide (97 ≤ (x.1 : Int)) = false := decide_eq_false (by omega)
      have hd1 : decide ((x.1 : Int) ≤ 122) = true := decide_eq_true (by omega)
      have hd2 : decide (65 ≤ (x.1 : Int)) = true := decide_eq_true (by omega)
      have hd3 : decide ((x.1 : Int) ≤ 90) = true := decide_eq_true (by omega)
      obtain ⟨m, hm⟩ : ∃ m : Nat, m = x.1 + 32 := ⟨_, rfl⟩
      have hw : IntKind.i64.wrap ((x.1 : Int) + 32) = (m : Int) := by rw [IntKind.wrap_i64]; omega
      have hm2 : m < 256 := by omega
      have hstep : foldStep q x.1 = ins q m := by rw [foldStep, if_neg (by omega), if_pos (by omega), hm]
      have HS := hid (he.out.trans hstep)
      clear hstep he hm
      gi_wp2_with (refine ⟨trivial, ?_⟩; gi_at_call 33; refine (CallsIn.inRound l (callsIn_wide.2 (with_any q m hm2 _))).mono ?_; rintro e w1 ⟨rfl, hb1⟩; have hO1 := below_heap hb1 hlt hO; have hR1 := below_heap hb1 (block_lt hR) hR; have hc1 := block_cell hO1; have hf1 := block_free hO1)
      have hb2 := below_set4 (hb1.mono hB.size) (show w.heap.size ≤ w.heap.size + 1 + 1 by omega) (.int .u64 (W (ins q m) 0)) (.int .u64 (W (ins q m) 1)) (.int .u64 (W (ins q m) 2)) (.int .u64 (W (ins q m) 3))
      refine ⟨(((((keeps_below hb1).trans (KeepsOthers.setCell _ _ _)).trans (KeepsOthers.setCell _ _ _)).trans (KeepsOthers.setCell _ _ _)).trans (KeepsOthers.setCell _ _ _)).from _, hb2, ⟨?_, ?_⟩, hB.trans hb2⟩
      · rw [HS.out]; exact set4 hO1 _ _ _ _
      · rw [heap_setCell_ne _ _ _ (by omega), heap_setCell_ne _ _ _ (by omega), heap_setCell_ne _ _ _ (by omega), heap_setCell_ne _ _ _ (by omega)]; exact hR1
    · have hd0 : decide (97 ≤ (x.1 : Int)) = false := decide_eq_false (by omega)
      have hd1 : decide ((x.1 : Int) ≤ 122) = true := decide_eq_true (by omega)
      have hd2 : decide (65 ≤ (x.1 : Int)) = true := decide_eq_true (by omega)
      have hd3 : decide ((x.1 : Int) ≤ 90) = false := decide_eq_false (by omega)
      have hstep : foldStep q x.1 = q := by rw [foldStep, if_neg (by omega), if_neg (by omega)]
      have HS := hid (he.out.trans hstep)
      clear hstep he
      gi_wp2
      refine ⟨(KeepsOthers.refl _).from _, Below.refl _ _, ⟨?_, hR⟩, hB⟩
      rw [HS.out]; exact hO
    · have hd0 : decide (97 ≤ (x.1 : Int)) = true := decide_eq_true (by omega)
      have hd1 : decide ((x.1 : Int) ≤ 122) = true := decide_eq_true (by omega)
      have hd2 : decide (65 ≤ (x.1 : Int)) = true := decide_eq_true (by omega)
      have hd3 : decide ((x.1 : Int) ≤ 90) = false := decide_eq_false (by omega)
      obtain ⟨m, hm⟩ : ∃ m : Nat, m = x.1 - 32 := ⟨_, rfl⟩
      have hw : IntKind.i64.wrap ((x.1 : Int) - 32) = (m : Int) := by rw [IntKind.wrap_i64]; omega
      have hm2 : m < 256 := by omega
      have hstep : foldStep q x.1 = ins q m := by rw [foldStep, if_pos (by omega), hm]
      have HS := hid (he.out.trans hstep)
      clear hstep he hm
      gi_wp2_with (refine ⟨trivial, ?_⟩; gi_at_call 33; refine (CallsIn.inRound l (callsIn_wide.2 (with_any q m hm2 _))).mono ?_; rintro e w1 ⟨rfl, hb1⟩; have hO1 := below_heap hb1 hlt hO; have hR1 := below_heap hb1 (block_lt hR) hR; have hc1 := block_cell hO1; have hf1 := block_free hO1)
      have hb2 := below_set4 (hb1.mono hB.size) (show w.heap.size ≤ w.heap.size + 1 + 1 by omega) (.int .u64 (W (ins q m) 0)) (.int .u64 (W (ins q m) 1)) (.int .u64 (W (ins q m) 2)) (.int .u64 (W (ins q m) 3))
      refine ⟨(((((keeps_below hb1).trans (KeepsOthers.setCell _ _ _)).trans (KeepsOthers.setCell _ _ _)).trans (KeepsOthers.setCell _ _ _)).trans (KeepsOthers.setCell _ _ _)).from _, hb2, ⟨?_, ?_⟩, hB.trans hb2⟩
      · rw [HS.out]; exact set4 hO1 _ _ _ _
      · rw [heap_setCell_ne _ _ _ (by omega), heap_setCell_ne _ _ _ (by omega), heap_setCell_ne _ _ _ (by omega), heap_setCell_ne _ _ _ (by omega)]; exact hR1
    · have hd0 : decide (97 ≤ (x.1 : Int)) = true := decide_eq_true (by omega)
      have hd1 : decide ((x.1 : Int) ≤ 122) = false := decide_eq_false (by omega)
      have hd2 : decide (65 ≤ (x.1 : Int)) = true := decide_eq_true (by omega)
      have hd3 : decide ((x.1 : Int) ≤ 90) = false := decide_eq_false (by omega)
      have hstep : foldStep q x.1 = q := by rw [foldStep, if_neg (by omega), if_neg (by omega)]
      have HS := hid (he.out.trans hstep)
      clear hstep he
      gi_wp2
      refine ⟨(KeepsOthers.refl _).from _, Below.refl _ _, ⟨?_, hR⟩, hB⟩
      rw [HS.out]; exact hO
  case done =>
    rintro D ys Wd hD hys ⟨⟨hO, hR⟩, hB⟩ hK
    rw [hys, foldAll_mem p 0 (by omega), foldAll_mem p 1 (by omega), foldAll_mem p 2 (by omega), foldAll_mem p 3 (by omega)] at hO
    have hc := block_cell hO
    have hf := block_free hR
    have hc0 := block_cell hR
    have hne : w.heap.size + 1 ≠ D := by intro e; rw [e] at hR; rw [hR] at hK; cases hK
    have hD1 : w.heap.size + 1 + 1 + 1 ≤ D := by have h := hD; simp at h; omega
    gi_wp2
    have hK4 : ((((Wd.setCell ⟨w.heap.size + 1, 0, none⟩ (.int .u64 (W (foldP p) 0))).setCell ⟨w.heap.size + 1, 1, none⟩ (.int .u64 (W (foldP p) 1))).setCell ⟨w.heap.size + 1, 2, none⟩ (.int .u64 (W (foldP p) 2))).setCell ⟨w.heap.size + 1, 3, none⟩ (.int .u64 (W (foldP p) 3))).heap[D]? = some (.deferred (some [])) := by
      rw [heap_setCell_ne _ _ _ (Ne.symm hne), heap_setCell_ne _ _ _ (Ne.symm hne), heap_setCell_ne _ _ _ (Ne.symm hne), heap_setCell_ne _ _ _ (Ne.symm hne)]; exact hK
    refine ⟨by simp, .inl ⟨_, _, rfl, run_takeDeferred hK4, ?_⟩⟩
    refine ⟨_, results_cell_row rfl _ _ (w.heap.size + 1) 24 #[.int .u64 (W (foldP p) 0), .int .u64 (W (foldP p) 1), .int .u64 (W (foldP p) 2), .int .u64 (W (foldP p) 3)] (0, 0) _ rfl ((World.putObj_heap_other hne).trans (set4 hR _ _ _ _)) Tryd.underlying24 rfl (by kernel_rfl), rfl, (below_set4 hB (by omega) _ _ _ _).trans (belowK_b (w := w) (Nat.le_refl _) _ D _ _ (by omega) hK4 rfl rfl)⟩
  case stop =>
    rintro D c pre Wd _ _ h _
    exact h.elim
theorem fold_any (p : Nat → Bool) (w : World) (hT : TabOk w) :
    Calls Tryd.prog 13 #[.agg #[.int .u64 (W p 0), .int .u64 (W p 1), .int .u64 (W p 2), .int .u64 (W p 3)]] w fun e w' => e = .returned (.agg #[.int .u64 (W (foldP p) 0), .int .u64 (W (foldP p) 1), .int .u64 (W (foldP p) 2), .int .u64 (W (foldP p) 3)]) ∧ Below w.heap.size w w' := (callsIn_wide (n := 6)).1 (fold_in 6 (by omega) p w hT)

set_option maxRecDepth 100000 in
set_option maxHeartbeats 4000000 in
theorem rfold_any (p : Nat → Bool) (w : World) :
    Calls Tryd.prog 14 #[.agg #[.int .u64 (W p 0), .int .u64 (W p 1), .int .u64 (W p 2), .int .u64 (W p 3)]] w fun e w' => e = .returned (.agg #[.int .u64 (W (foldP p) 0), .int .u64 (W (foldP p) 1), .int .u64 (W (foldP p) 2), .int .u64 (W (foldP p) 3)]) ∧ Below w.heap.size w w' := by
  go_enter Tryd.func14, Tryd.ntmps14
  go_wp2
  go_loopw [4] (fun i wr => ∃ k : Nat, 97 ≤ k ∧ k ≤ 123 ∧ i = .int .i32 k ∧ wr.heap[w.heap.size]? = some (.cells #[.int .u64 (W p 0), .int .u64 (W p 1), .int .u64 (W p 2), .int .u64 (W p 3)] 24) ∧ wr.heap[w.heap.size + 1]? = some (.cells #[.int .u64 0, .int .u64 0, .int .u64 0, .int .u64 0] 24) ∧ wr.heap[w.heap.size + 2]? = some (.cells #[.int .u64 (W (rfoldP p k) 0), .int .u64 (W (rfoldP p k) 1), .int .u64 (W (rfoldP p k) 2), .int .u64 (W (rfoldP p k) 3)] 24) ∧ Below w.heap.size w wr) (fun i _ => 123 - (intOf i).toNat)
  case atStart =>
    refine ⟨97, by omega, by omega, rfl, ?_, ?_, ?_, (((Below.refl _ _).alloc (Nat.le_refl _) _).alloc (by simp) _).alloc (by simp; omega) _⟩
    · exact alloc_old (alloc_old (alloc_new _ _))
    · exact alloc_old (by have h := alloc_new (w.alloc (.cells #[.int .u64 (W p 0), .int .u64 (W p 1), .int .u64 (W p 2), .int .u64 (W p 3)] 24)) (.cells #[.int .u64 0, .int .u64 0, .int .u64 0, .int .u64 0] 24); simpa using h)
    · rw [rfoldP_start]
      exact (by have h := alloc_new ((w.alloc (.cells #[.int .u64 (W p 0), .int .u64 (W p 1), .int .u64 (W p 2), .int .u64 (W p 3)] 24)).alloc (.cells #[.int .u64 0, .int .u64 0, .int .u64 0, .int .u64 0] 24)) (.cells #[.int .u64 (W p 0), .int .u64 (W p 1), .int .u64 (W p 2), .int .u64 (W p 3)] 24); simpa using h)
  case round =>
    obtain ⟨k, hk0, hk, rfl, hP, hR, hO, hB⟩ := hrel
    have hsz : w.heap.size + 2 < wr.heap.size := block_lt hO
    by_cases hlt : k < 123
    · have hdk : decide ((k : Int) ≤ 122) = true := decide_eq_true (by omega)
      have hlt2 : (k : Int) ≤ 122 := by omega
      have hld := block_cell hP
      have hw1 : IntKind.i64.wrap (k : Int) = (k : Int) := by rw [IntKind.wrap_i64]; omega
      obtain ⟨m, hm⟩ : ∃ m : Nat, m + 32 = k := ⟨k - 32, by omega⟩
      have hw2 : IntKind.i64.wrap ((k : Int) - 32) = (m : Int) := by rw [IntKind.wrap_i64]; omega
      have hw3 : IntKind.i32.wrap ((k : Int) + 1) = (k : Int) + 1 := by rw [IntKind.wrap_i32]; omega
      have hm2 : m < 256 := by omega
      have hk256 : k < 256 := by omega
      have hmk : k - 32 = m := by omega
      cases hx : p k <;> cases hy : p m
      · have hs := hid (rfoldP_no hk0 hx (by rw [hmk]; exact hy))
        have HX := hid hx
        have HY := hid hy
        clear hx hy hm hmk
        go_wp2_with (first | (go_at_call 31; with_reducible refine Calls.mono (rhas_val p k false HX.out hk256 _) ?_; rintro e w1 ⟨rfl, hb1⟩; have hP1 := below_heap hb1 (block_lt hP) hP; have hR1 := below_heap hb1 (block_lt hR) hR; have hO1 := below_heap hb1 (block_lt hO) hO; have hB1 := hB.trans (hb1.mono hB.size); have hc1 := block_cell hP1; have ho1 := block_cell hO1; have hf1 := block_free hO1) | (go_at_call 31; with_reducible refine Calls.mono (rhas_val p m false HY.out hm2 _) ?_; rintro e w2 ⟨rfl, hb2⟩; have hP2 := below_heap hb2 (block_lt hP1) hP1; have hR2 := below_heap hb2 (block_lt hR1) hR1; have hO2 := below_heap hb2 (block_lt hO1) hO1; have hB2 := hB1.trans (hb2.mono hB1.size); have hc2 := block_cell hP2; have ho2 := block_cell hO2; have hf2 := block_free hO2))
        go_roundw
        case rel => exact ⟨k + 1, by omega, by omega, by go_num, hP2, hR2, by rw [hs.out]; exact hO2, hB2⟩
        case measure => simp [intOf]; omega
      · have hs := hid (rfoldP_yes (p := p) hk0 (by rw [hmk]; exact .inr hy))
        rw [hmk] at hs
        have HX := hid hx
        have HY := hid hy
        clear hx hy hm hmk
        go_wp2_with (first | (go_at_call 31; with_reducible refine Calls.mono (rhas_val p k false HX.out hk256 _) ?_; rintro e w1 ⟨rfl, hb1⟩; have hP1 := below_heap hb1 (block_lt hP) hP; have hR1 := below_heap hb1 (block_lt hR) hR; have hO1 := below_heap hb1 (block_lt hO) hO; have hB1 := hB.trans (hb1.mono hB.size); have hc1 := block_cell hP1; have ho1 := block_cell hO1; have hf1 := block_free hO1) | (go_at_call 31; with_reducible refine Calls.mono (rhas_val p m true HY.out hm2 _) ?_; rintro e w2 ⟨rfl, hb2⟩; have hP2 := below_heap hb2 (block_lt hP1) hP1; have hR2 := below_heap hb2 (block_lt hR1) hR1; have hO2 := below_heap hb2 (block_lt hO1) hO1; have hB2 := hB1.trans (hb2.mono hB1.size); have hc2 := block_cell hP2; have ho2 := block_cell hO2; have hf2 := block_free hO2) | (go_at_call 34; with_reducible refine Calls.mono (rwith_any (rfoldP p k) k hk256 _) ?_; rintro e w3 ⟨rfl, hb3⟩; have hP3 := below_heap hb3 (block_lt hP2) hP2; have hR3 := below_heap hb3 (block_lt hR2) hR2; have hO3 := below_heap hb3 (block_lt hO2) hO2; have hB3 := hB2.trans (hb3.mono hB2.size); have hc3 := block_cell hP3; have ho3 := block_cell hO3; have hf3 := block_free hO3) | (go_at_call 34; with_reducible refine Calls.mono (rwith_any (ins (rfoldP p k) k) m hm2 _) ?_; rintro e w4 ⟨rfl, hb4⟩; have hP4 := below_heap hb4 (block_lt hP3) hP3; have hR4 := below_heap hb4 (block_lt hR3) hR3; have hO4 := below_heap hb4 (block_lt hO3) hO3; have hB4 := hB3.trans (hb4.mono hB3.size); have hc4 := block_cell hP4; have ho4 := block_cell hO4; have hf4 := block_free hO4))
        go_roundw
        case rel =>
          refine ⟨k + 1, by omega, by omega, by go_num, ?_, ?_, by rw [← hs.out]; exact set4 hO4 _ _ _ _, below_set4 hB4 (by omega) _ _ _ _⟩
          · rw [heap_setCell_ne _ _ _ (by omega), heap_setCell_ne _ _ _ (by omega), heap_setCell_ne _ _ _ (by omega), heap_setCell_ne _ _ _ (by omega)]; exact hP4
          · rw [heap_setCell_ne _ _ _ (by omega), heap_setCell_ne _ _ _ (by omega), heap_setCell_ne _ _ _ (by omega), heap_setCell_ne _ _ _ (by omega)]; exact hR4
        case measure => simp [intOf]; omega
      · have hs := hid (rfoldP_yes (p := p) hk0 (by rw [hmk]; exact .inl hx))
        rw [hmk] at hs
        have HX := hid hx
        have HY := hid hy
        clear hx hy hm hmk
        go_wp2_with (first | (go_at_call 31; with_reducible refine Calls.mono (rhas_val p k true HX.out hk256 _) ?_; rintro e w1 ⟨rfl, hb1⟩; have hP1 := below_heap hb1 (block_lt hP) hP; have hR1 := below_heap hb1 (block_lt hR) hR; have hO1 := below_heap hb1 (block_lt hO) hO; have hB1 := hB.trans (hb1.mono hB.size); have hc1 := block_cell hP1; have ho1 := block_cell hO1; have hf1 := block_free hO1) | (go_at_call 34; with_reducible refine Calls.mono (rwith_any (rfoldP p k) k hk256 _) ?_; rintro e w2 ⟨rfl, hb2⟩; have hP2 := below_heap hb2 (block_lt hP1) hP1; have hR2 := below_heap hb2 (block_lt hR1) hR1; have hO2 := below_heap hb2 (block_lt hO1) hO1; have hB2 := hB1.trans (hb2.mono hB1.size); have hc2 := block_cell hP2; have ho2 := block_cell hO2; have hf2 := block_free hO2) | (go_at_call 34; with_reducible refine Calls.mono (rwith_any (ins (rfoldP p k) k) m hm2 _) ?_; rintro e w3 ⟨rfl, hb3⟩; have hP3 := below_heap hb3 (block_lt hP2) hP2; have hR3 := below_heap hb3 (block_lt hR2) hR2; have hO3 := below_heap hb3 (block_lt hO2) hO2; have hB3 := hB2.trans (hb3.mono hB2.size); have hc3 := block_cell hP3; have ho3 := block_cell hO3; have hf3 := block_free hO3))
        go_roundw
        case rel =>
          refine ⟨k + 1, by omega, by omega, by go_num, ?_, ?_, by rw [← hs.out]; exact set4 hO3 _ _ _ _, below_set4 hB3 (by omega) _ _ _ _⟩
          · rw [heap_setCell_ne _ _ _ (by omega), heap_setCell_ne _ _ _ (by omega), heap_setCell_ne _ _ _ (by omega), heap_setCell_ne _ _ _ (by omega)]; exact hP3
          · rw [heap_setCell_ne _ _ _ (by omega), heap_setCell_ne _ _ _ (by omega), heap_setCell_ne _ _ _ (by omega), heap_setCell_ne _ _ _ (by omega)]; exact hR3
        case measure => simp [intOf]; omega
      · have hs := hid (rfoldP_yes (p := p) hk0 (by rw [hmk]; exact .inl hx))
        rw [hmk] at hs
        have HX := hid hx
        have HY := hid hy
        clear hx hy hm hmk
        go_wp2_with (first | (go_at_call 31; with_reducible refine Calls.mono (rhas_val p k true HX.out hk256 _) ?_; rintro e w1 ⟨rfl, hb1⟩; have hP1 := below_heap hb1 (block_lt hP) hP; have hR1 := below_heap hb1 (block_lt hR) hR; have hO1 := below_heap hb1 (block_lt hO) hO; have hB1 := hB.trans (hb1.mono hB.size); have hc1 := block_cell hP1; have ho1 := block_cell hO1; have hf1 := block_free hO1) | (go_at_call 34; with_reducible refine Calls.mono (rwith_any (rfoldP p k) k hk256 _) ?_; rintro e w2 ⟨rfl, hb2⟩; have hP2 := below_heap hb2 (block_lt hP1) hP1; have hR2 := below_heap hb2 (block_lt hR1) hR1; have hO2 := below_heap hb2 (block_lt hO1) hO1; have hB2 := hB1.trans (hb2.mono hB1.size); have hc2 := block_cell hP2; have ho2 := block_cell hO2; have hf2 := block_free hO2) | (go_at_call 34; with_reducible refine Calls.mono (rwith_any (ins (rfoldP p k) k) m hm2 _) ?_; rintro e w3 ⟨rfl, hb3⟩; have hP3 := below_heap hb3 (block_lt hP2) hP2; have hR3 := below_heap hb3 (block_lt hR2) hR2; have hO3 := below_heap hb3 (block_lt hO2) hO2; have hB3 := hB2.trans (hb3.mono hB2.size); have hc3 := block_cell hP3; have ho3 := block_cell hO3; have hf3 := block_free hO3))
        go_roundw
        case rel =>
          refine ⟨k + 1, by omega, by omega, by go_num, ?_, ?_, by rw [← hs.out]; exact set4 hO3 _ _ _ _, below_set4 hB3 (by omega) _ _ _ _⟩
          · rw [heap_setCell_ne _ _ _ (by omega), heap_setCell_ne _ _ _ (by omega), heap_setCell_ne _ _ _ (by omega), heap_setCell_ne _ _ _ (by omega)]; exact hP3
          · rw [heap_setCell_ne _ _ _ (by omega), heap_setCell_ne _ _ _ (by omega), heap_setCell_ne _ _ _ (by omega), heap_setCell_ne _ _ _ (by omega)]; exact hR3
        case measure => simp [intOf]; omega
    · obtain rfl : k = 123 := by omega
      have hdk : decide ((123 : Int) ≤ 122) = false := by decide
      rw [rfoldP_end] at hO
      have hc := block_cell hO
      have hc0 := block_cell hR
      have hf := block_free hR
      go_wp2
      refine bodyPost_ret (results_cell_row rfl _ _ (w.heap.size + 1) 24 #[.int .u64 (W (foldP p) 0), .int .u64 (W (foldP p) 1), .int .u64 (W (foldP p) 2), .int .u64 (W (foldP p) 3)] (0, 0) _ rfl (set4 hR _ _ _ _) Tryd.underlying24 rfl (by kernel_rfl)) rfl ⟨rfl, below_set4 hB (by omega) _ _ _ _⟩

end Go.Proofs.YtjbdamedofgdgaaDoor
