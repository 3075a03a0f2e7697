/-
  charset.Read at a place within its text, and charset.Parse of any text: what each returns; what lay in memory stays as it was.
-/
import Derived.Test.YtjbdamedofgdgaaDoorReader4
namespace Go.Proofs.YtjbdamedofgdgaaDoor
open Go.RowKit
set_option linter.unusedVariables false
set_option linter.unusedSimpArgs false

theorem read_any (s : ByteArray) (hs : s.size ≤ 140737488351232) (i : Nat) (hi : i ≤ s.size) (w : World) :
    Calls Tryd.prog 44 #[.string s, .int .i64 (i : Int)] w (ReadPost s i w) := by
  by_cases h : pk s i = 91
  · by_cases h94 : pk s (i + 1) = 94
    · exact read_turned s hs i hi h h94 w
    · exact read_plain s hs i hi h h94 w
  · exact read_no s hs i hi h w

theorem rdAll_ok {s : ByteArray} : ∀ (f i : Nat) (acc q : Nat → Bool) (n : Nat), rdAll s f i acc = .ok (q, n) → n < s.size := by
  intro f
  induction f with
  | zero => intro i acc q n h; rw [rdAll] at h; cases h
  | succ f ih =>
    intro i acc q n h
    rw [rdAll] at h
    split at h
    · rename_i g; cases h; exact pk_lt (by omega)
    · cases hm : memR s i with
      | error e => rw [hm] at h; cases h
      | ok x => rw [hm] at h; exact ih _ _ q n h
theorem readR_ok {s : ByteArray} {i n : Nat} {q : Nat → Bool} (h : readR s i = .ok (q, n)) : n ≤ s.size := by
  unfold readR at h
  split at h
  · split at h
    · cases h
    · rename_i he; cases h; exact rdAll_ok _ _ _ _ _ he
  · cases h
/-- What Parse makes of a text. -/
def parseR (s : ByteArray) : Except (Nat × Int) (Nat → Bool) :=
  if 65536 < s.size then .error (0, 2) else
  match readR s 0 with
  | .error e => .error e
  | .ok (q, n) => if n < s.size then .error (n, 6) else .ok q
/-- What Parse returns. -/
def ParsePost (s : ByteArray) (w : World) (e : Ending) (w' : World) : Prop :=
  Below w.heap.size w w' ∧ match parseR s with
  | .ok q => e = .returned (.tuple #[.agg #[.int .u64 (W q 0), .int .u64 (W q 1), .int .u64 (W q 2), .int .u64 (W q 3)], .agg #[.int .i64 0, .int .i64 0]])
  | .error (a, c) => e = .returned (.tuple #[.agg #[.int .u64 0, .int .u64 0, .int .u64 0, .int .u64 0], .agg #[.int .i64 (a : Int), .int .i64 c]])
theorem ParsePost.ok {s : ByteArray} {q : Nat → Bool} {w w' : World} (h : parseR s = .ok q) (hb : Below w.heap.size w w') : ParsePost s w (.returned (.tuple #[.agg #[.int .u64 (W q 0), .int .u64 (W q 1), .int .u64 (W q 2), .int .u64 (W q 3)], .agg #[.int .i64 0, .int .i64 0]])) w' := by
  unfold ParsePost; rw [h]; exact ⟨hb, rfl⟩
theorem ParsePost.bad {s : ByteArray} {a : Nat} {c : Int} {w w' : World} (h : parseR s = .error (a, c)) (hb : Below w.heap.size w w') : ParsePost s w (.returned (.tuple #[.agg #[.int .u64 0, .int .u64 0, .int .u64 0, .int .u64 0], .agg #[.int .i64 (a : Int), .int .i64 c]])) w' := by
  unfold ParsePost; rw [h]; exact ⟨hb, rfl⟩
theorem parse_show {p : Nat → Bool} {s : ByteArray} (h : s.data.toList = showS p) : ∃ q, parseR s = .ok q ∧ ∀ i, i < 256 → q i = p i := by
  obtain ⟨q, h1, h2⟩ := read_show h
  refine ⟨q, ?_, h2⟩
  have h3 := showS_len p
  have h4 := size_of_list' h
  unfold parseR
  rw [if_neg (by omega), h1]
  simp
theorem parse_bad {s : ByteArray} {a : Nat} {c : Int} (h : parseR s = .error (a, c)) : a ≤ s.size ∧ (c = 10 ∨ c = 6 ∨ c = 1 ∨ c = 2) := by
  unfold parseR at h
  split at h
  · cases h; exact ⟨Nat.zero_le _, .inr (.inr (.inr rfl))⟩
  · split at h
    · rename_i he; cases h; have := readR_bad (Nat.zero_le _) he; exact ⟨this.1, by omega⟩
    · rename_i he
      split at h
      · cases h; exact ⟨readR_ok he, .inr (.inl rfl)⟩
      · cases h

set_option maxHeartbeats 8000000 in
set_option maxRecDepth 100000 in
theorem parse_long (s : ByteArray) (hs : s.size ≤ 140737488351232) (h : 65536 < s.size) (w : World) :
    Calls Tryd.prog 40 #[.string s] w (ParsePost s w) := by
  have hR0 : ((w.alloc (.cells #[.int .u64 0, .int .u64 0, .int .u64 0, .int .u64 0] 24)).alloc (.cells #[.int .i64 0, .int .i64 0] 55)).heap[w.heap.size]? = some (.cells #[.int .u64 0, .int .u64 0, .int .u64 0, .int .u64 0] 24) := alloc_old (alloc_new w _)
  have hF0 : ((w.alloc (.cells #[.int .u64 0, .int .u64 0, .int .u64 0, .int .u64 0] 24)).alloc (.cells #[.int .i64 0, .int .i64 0] 55)).heap[w.heap.size + 1]? = some (.cells #[.int .i64 0, .int .i64 0] 55) := alloc_new_at _ (by simp)
  have hB0 : Below w.heap.size w ((w.alloc (.cells #[.int .u64 0, .int .u64 0, .int .u64 0, .int .u64 0] 24)).alloc (.cells #[.int .i64 0, .int .i64 0] 55)) := ((Below.refl _ w).alloc (Nat.le_refl _) _).alloc (by simp) _
  have hneRF : w.heap.size ≠ w.heap.size + 1 := by omega
  have hleF : w.heap.size ≤ w.heap.size + 1 := by omega
  have HE := hid (show parseR s = .error (0, 2) from if_pos h)
  have hd : decide (65536 < (s.size : Int)) = true := decide_eq_true (by omega)
  have hd' : decide (65536 < s.size) = true := decide_eq_true h
  clear h
  go_enter Tryd.func40, Tryd.ntmps40
  go_wp2
  exact bodyPost_ret (v := .tuple #[.agg #[.int .u64 0, .int .u64 0, .int .u64 0, .int .u64 0], .agg #[.int .i64 ((0 : Nat) : Int), .int .i64 2]]) (by simp [results, Tryd.results40, go_sem]) rfl (ParsePost.bad HE.out (((Below.refl _ w).alloc (Nat.le_refl _) _).alloc (by simp) _))
set_option maxHeartbeats 8000000 in
set_option maxRecDepth 100000 in
theorem parse_err (s : ByteArray) (hs : s.size ≤ 140737488351232) (h : ¬ 65536 < s.size) (a : Nat) (c : Int) (hX : readR s 0 = .error (a, c)) (w : World) :
    Calls Tryd.prog 40 #[.string s] w (ParsePost s w) := by
  have hR0 : ((w.alloc (.cells #[.int .u64 0, .int .u64 0, .int .u64 0, .int .u64 0] 24)).alloc (.cells #[.int .i64 0, .int .i64 0] 55)).heap[w.heap.size]? = some (.cells #[.int .u64 0, .int .u64 0, .int .u64 0, .int .u64 0] 24) := alloc_old (alloc_new w _)
  have hF0 : ((w.alloc (.cells #[.int .u64 0, .int .u64 0, .int .u64 0, .int .u64 0] 24)).alloc (.cells #[.int .i64 0, .int .i64 0] 55)).heap[w.heap.size + 1]? = some (.cells #[.int .i64 0, .int .i64 0] 55) := alloc_new_at _ (by simp)
  have hB0 : Below w.heap.size w ((w.alloc (.cells #[.int .u64 0, .int .u64 0, .int .u64 0, .int .u64 0] 24)).alloc (.cells #[.int .i64 0, .int .i64 0] 55)) := ((Below.refl _ w).alloc (Nat.le_refl _) _).alloc (by simp) _
  have hneRF : w.heap.size ≠ w.heap.size + 1 := by omega
  have hleF : w.heap.size ≤ w.heap.size + 1 := by omega
  have hd : decide (65536 < (s.size : Int)) = false := decide_eq_false (by omega)
  have hd' : decide (65536 < s.size) = false := decide_eq_false h
  have HD := hid (read_any s hs 0 (Nat.zero_le _) ((w.alloc (.cells #[.int .u64 0, .int .u64 0, .int .u64 0, .int .u64 0] 24)).alloc (.cells #[.int .i64 0, .int .i64 0] 55)))
  have hcc := (readR_bad (Nat.zero_le _) hX).2
  have HE := hid (show parseR s = .error (a, c) by unfold parseR; rw [if_neg h, hX])
  have HX := hid hX
  have hc0 : (c == 0) = false := by rcases hcc with h | h | h <;> rw [h] <;> rfl
  have hc1 : (c != 0) = true := by rcases hcc with h | h | h <;> rw [h] <;> rfl
  clear hX h hcc
  go_enter Tryd.func40, Tryd.ntmps40
  go_wp2_with (go_at_call 44; (with_reducible refine Calls.mono HD.out ?_); rintro e w1 ⟨hb01, hpost⟩; rw [HX.out] at hpost; simp only at hpost; subst hpost; have hR1 := keep hb01 hR0; have hF1 := keep hb01 hF0; have hB1 := hB0.trans (hb01.mono hB0.size); have hs1 := block_lt hF1; have hcR1 := block_cell hR1; have hcF1 := block_cell hF1; have hfR1 := block_free hR1; have hfF1 := block_free hF1; have hneRT : w.heap.size ≠ w1.heap.size + 1 := Nat.ne_of_lt (Nat.lt_succ_of_lt (block_lt hR1)); have hneX : w.heap.size ≠ w1.heap.size := Nat.ne_of_lt (block_lt hR1); have hneFT : w.heap.size + 1 ≠ w1.heap.size + 1 := Nat.ne_of_lt (Nat.lt_succ_of_lt hs1))
  have hT2 : ((w1.alloc (.cells #[.int .u64 0, .int .u64 0, .int .u64 0, .int .u64 0] 24)).alloc (.cells #[.int .i64 (a : Int), .int .i64 c] 55)).heap[w1.heap.size + 1]? = some (.cells #[.int .i64 (a : Int), .int .i64 c] 55) := alloc_new_at _ (by simp)
  have hR2 : ((w1.alloc (.cells #[.int .u64 0, .int .u64 0, .int .u64 0, .int .u64 0] 24)).alloc (.cells #[.int .i64 (a : Int), .int .i64 c] 55)).heap[w.heap.size]? = some (.cells #[.int .u64 0, .int .u64 0, .int .u64 0, .int .u64 0] 24) := alloc_old (alloc_old hR1)
  have hF2 : ((w1.alloc (.cells #[.int .u64 0, .int .u64 0, .int .u64 0, .int .u64 0] 24)).alloc (.cells #[.int .i64 (a : Int), .int .i64 c] 55)).heap[w.heap.size + 1]? = some (.cells #[.int .i64 0, .int .i64 0] 55) := alloc_old (alloc_old hF1)
  have hB2 : Below w.heap.size w ((w1.alloc (.cells #[.int .u64 0, .int .u64 0, .int .u64 0, .int .u64 0] 24)).alloc (.cells #[.int .i64 (a : Int), .int .i64 c] 55)) := (hB1.alloc hB1.size _).alloc (by have := hB1.size; simp; omega) _
  have hcT2 := block_cell hT2
  have hcR2 := block_cell hR2
  have hcF2 := block_cell hF2
  have hfR2 := block_free hR2
  have hfF2 := block_free hF2
  generalize ((w1.alloc (.cells #[.int .u64 0, .int .u64 0, .int .u64 0, .int .u64 0] 24)).alloc (.cells #[.int .i64 (a : Int), .int .i64 c] 55)) = w2 at *
  clear hcR1 hcF1 hfR1 hfF1
  go_wp2
  go_region_held3 (fun w' => (∀ o, w'.cell? ⟨w1.heap.size + 1, o, none⟩ = (#[.int .i64 (a : Int), .int .i64 c] : Array Value)[o]?)) (go_keep) (fail)
  go_wp2
  have hr9 := set2_ne (set4 hR2 (.int .u64 0) (.int .u64 0) (.int .u64 0) (.int .u64 0)) hneRF (.int .i64 (a : Int)) (.int .i64 c)
  have hf9 := set2 (set4_ne hF2 (Ne.symm hneRF) (.int .u64 0) (.int .u64 0) (.int .u64 0) (.int .u64 0)) (.int .i64 (a : Int)) (.int .i64 c)
  have hb9 := below_set2 (below_set4 hB2 (Nat.le_refl _) (.int .u64 0) (.int .u64 0) (.int .u64 0) (.int .u64 0)) hleF (.int .i64 (a : Int)) (.int .i64 c)
  have hcr9 := drew_cell hr9
  have hcf9 := drew_cell hf9
  exact bodyPost_ret (v := .tuple #[.agg #[.int .u64 0, .int .u64 0, .int .u64 0, .int .u64 0], .agg #[.int .i64 (a : Int), .int .i64 c]]) (by simp [results, Tryd.results40, go_sem, hcr9, hcf9]) rfl (ParsePost.bad HE.out hb9.drew)
set_option maxHeartbeats 8000000 in
set_option maxRecDepth 100000 in
theorem parse_rest (s : ByteArray) (hs : s.size ≤ 140737488351232) (h : ¬ 65536 < s.size) (q : Nat → Bool) (n : Nat) (hX : readR s 0 = .ok (q, n)) (hn : n < s.size) (w : World) :
    Calls Tryd.prog 40 #[.string s] w (ParsePost s w) := by
  have hR0 : ((w.alloc (.cells #[.int .u64 0, .int .u64 0, .int .u64 0, .int .u64 0] 24)).alloc (.cells #[.int .i64 0, .int .i64 0] 55)).heap[w.heap.size]? = some (.cells #[.int .u64 0, .int .u64 0, .int .u64 0, .int .u64 0] 24) := alloc_old (alloc_new w _)
  have hF0 : ((w.alloc (.cells #[.int .u64 0, .int .u64 0, .int .u64 0, .int .u64 0] 24)).alloc (.cells #[.int .i64 0, .int .i64 0] 55)).heap[w.heap.size + 1]? = some (.cells #[.int .i64 0, .int .i64 0] 55) := alloc_new_at _ (by simp)
  have hB0 : Below w.heap.size w ((w.alloc (.cells #[.int .u64 0, .int .u64 0, .int .u64 0, .int .u64 0] 24)).alloc (.cells #[.int .i64 0, .int .i64 0] 55)) := ((Below.refl _ w).alloc (Nat.le_refl _) _).alloc (by simp) _
  have hneRF : w.heap.size ≠ w.heap.size + 1 := by omega
  have hleF : w.heap.size ≤ w.heap.size + 1 := by omega
  have hd : decide (65536 < (s.size : Int)) = false := decide_eq_false (by omega)
  have hd' : decide (65536 < s.size) = false := decide_eq_false h
  have HD := hid (read_any s hs 0 (Nat.zero_le _) ((w.alloc (.cells #[.int .u64 0, .int .u64 0, .int .u64 0, .int .u64 0] 24)).alloc (.cells #[.int .i64 0, .int .i64 0] 55)))
  have HE := hid (show parseR s = .error (n, 6) by unfold parseR; rw [if_neg h, hX]; simp only; rw [if_pos hn])
  have HX := hid hX
  have hdn : decide ((n : Int) < (s.size : Int)) = true := decide_eq_true (by omega)
  have hdn' : decide (n < s.size) = true := decide_eq_true hn
  clear hX h
  go_enter Tryd.func40, Tryd.ntmps40
  go_wp2_with (go_at_call 44; (with_reducible refine Calls.mono HD.out ?_); rintro e w1 ⟨hb01, hpost⟩; rw [HX.out] at hpost; simp only at hpost; subst hpost; have hR1 := keep hb01 hR0; have hF1 := keep hb01 hF0; have hB1 := hB0.trans (hb01.mono hB0.size); have hs1 := block_lt hF1; have hcR1 := block_cell hR1; have hcF1 := block_cell hF1; have hfR1 := block_free hR1; have hfF1 := block_free hF1; have hneRT : w.heap.size ≠ w1.heap.size + 1 := Nat.ne_of_lt (Nat.lt_succ_of_lt (block_lt hR1)); have hneX : w.heap.size ≠ w1.heap.size := Nat.ne_of_lt (block_lt hR1); have hneFT : w.heap.size + 1 ≠ w1.heap.size + 1 := Nat.ne_of_lt (Nat.lt_succ_of_lt hs1))
  have hT2 : ((w1.alloc (.cells #[.int .u64 (W q 0), .int .u64 (W q 1), .int .u64 (W q 2), .int .u64 (W q 3)] 24)).alloc (.cells #[.int .i64 (n : Int), .int .i64 6] 55)).heap[w1.heap.size + 1]? = some (.cells #[.int .i64 (n : Int), .int .i64 6] 55) := alloc_new_at _ (by simp)
  have hR2 : ((w1.alloc (.cells #[.int .u64 (W q 0), .int .u64 (W q 1), .int .u64 (W q 2), .int .u64 (W q 3)] 24)).alloc (.cells #[.int .i64 (n : Int), .int .i64 6] 55)).heap[w.heap.size]? = some (.cells #[.int .u64 0, .int .u64 0, .int .u64 0, .int .u64 0] 24) := alloc_old (alloc_old hR1)
  have hF2 : ((w1.alloc (.cells #[.int .u64 (W q 0), .int .u64 (W q 1), .int .u64 (W q 2), .int .u64 (W q 3)] 24)).alloc (.cells #[.int .i64 (n : Int), .int .i64 6] 55)).heap[w.heap.size + 1]? = some (.cells #[.int .i64 0, .int .i64 0] 55) := alloc_old (alloc_old hF1)
  have hB2 : Below w.heap.size w ((w1.alloc (.cells #[.int .u64 (W q 0), .int .u64 (W q 1), .int .u64 (W q 2), .int .u64 (W q 3)] 24)).alloc (.cells #[.int .i64 (n : Int), .int .i64 6] 55)) := (hB1.alloc hB1.size _).alloc (by have := hB1.size; simp; omega) _
  have hcT2 := block_cell hT2
  have hcR2 := block_cell hR2
  have hcF2 := block_cell hF2
  have hfR2 := block_free hR2
  have hfF2 := block_free hF2
  generalize ((w1.alloc (.cells #[.int .u64 (W q 0), .int .u64 (W q 1), .int .u64 (W q 2), .int .u64 (W q 3)] 24)).alloc (.cells #[.int .i64 (n : Int), .int .i64 6] 55)) = w2 at *
  clear hcR1 hcF1 hfR1 hfF1
  go_wp2
  go_region_held3 (fun w' => (∀ o, w'.cell? ⟨w1.heap.size + 1, o, none⟩ = (#[.int .i64 (n : Int), .int .i64 6] : Array Value)[o]?)) (go_keep) (fail)
  go_wp2
  have hr9 := set2_ne (set4 hR2 (.int .u64 0) (.int .u64 0) (.int .u64 0) (.int .u64 0)) hneRF (.int .i64 (n : Int)) (.int .i64 6)
  have hf9 := set2 (set4_ne hF2 (Ne.symm hneRF) (.int .u64 0) (.int .u64 0) (.int .u64 0) (.int .u64 0)) (.int .i64 (n : Int)) (.int .i64 6)
  have hb9 := below_set2 (below_set4 hB2 (Nat.le_refl _) (.int .u64 0) (.int .u64 0) (.int .u64 0) (.int .u64 0)) hleF (.int .i64 (n : Int)) (.int .i64 6)
  have hcr9 := drew_cell hr9
  have hcf9 := drew_cell hf9
  exact bodyPost_ret (v := .tuple #[.agg #[.int .u64 0, .int .u64 0, .int .u64 0, .int .u64 0], .agg #[.int .i64 (n : Int), .int .i64 6]]) (by simp [results, Tryd.results40, go_sem, hcr9, hcf9]) rfl (ParsePost.bad HE.out hb9.drew)
set_option maxHeartbeats 8000000 in
set_option maxRecDepth 100000 in
theorem parse_all (s : ByteArray) (hs : s.size ≤ 140737488351232) (h : ¬ 65536 < s.size) (q : Nat → Bool) (n : Nat) (hX : readR s 0 = .ok (q, n)) (hn : ¬ n < s.size) (w : World) :
    Calls Tryd.prog 40 #[.string s] w (ParsePost s w) := by
  have hR0 : ((w.alloc (.cells #[.int .u64 0, .int .u64 0, .int .u64 0, .int .u64 0] 24)).alloc (.cells #[.int .i64 0, .int .i64 0] 55)).heap[w.heap.size]? = some (.cells #[.int .u64 0, .int .u64 0, .int .u64 0, .int .u64 0] 24) := alloc_old (alloc_new w _)
  have hF0 : ((w.alloc (.cells #[.int .u64 0, .int .u64 0, .int .u64 0, .int .u64 0] 24)).alloc (.cells #[.int .i64 0, .int .i64 0] 55)).heap[w.heap.size + 1]? = some (.cells #[.int .i64 0, .int .i64 0] 55) := alloc_new_at _ (by simp)
  have hB0 : Below w.heap.size w ((w.alloc (.cells #[.int .u64 0, .int .u64 0, .int .u64 0, .int .u64 0] 24)).alloc (.cells #[.int .i64 0, .int .i64 0] 55)) := ((Below.refl _ w).alloc (Nat.le_refl _) _).alloc (by simp) _
  have hneRF : w.heap.size ≠ w.heap.size + 1 := by omega
  have hleF : w.heap.size ≤ w.heap.size + 1 := by omega
  have hd : decide (65536 < (s.size : Int)) = false := decide_eq_false (by omega)
  have hd' : decide (65536 < s.size) = false := decide_eq_false h
  have HD := hid (read_any s hs 0 (Nat.zero_le _) ((w.alloc (.cells #[.int .u64 0, .int .u64 0, .int .u64 0, .int .u64 0] 24)).alloc (.cells #[.int .i64 0, .int .i64 0] 55)))
  have HE := hid (show parseR s = .ok q by unfold parseR; rw [if_neg h, hX]; simp only; rw [if_neg hn])
  have HX := hid hX
  have hdn : decide ((n : Int) < (s.size : Int)) = false := decide_eq_false (by omega)
  have hdn' : decide (n < s.size) = false := decide_eq_false hn
  clear hX h hn
  go_enter Tryd.func40, Tryd.ntmps40
  go_wp2_with (go_at_call 44; (with_reducible refine Calls.mono HD.out ?_); rintro e w1 ⟨hb01, hpost⟩; rw [HX.out] at hpost; simp only at hpost; subst hpost; have hR1 := keep hb01 hR0; have hF1 := keep hb01 hF0; have hB1 := hB0.trans (hb01.mono hB0.size); have hs1 := block_lt hF1; have hcR1 := block_cell hR1; have hcF1 := block_cell hF1; have hfR1 := block_free hR1; have hfF1 := block_free hF1; have hneRT : w.heap.size ≠ w1.heap.size + 1 := Nat.ne_of_lt (Nat.lt_succ_of_lt (block_lt hR1)); have hneX : w.heap.size ≠ w1.heap.size := Nat.ne_of_lt (block_lt hR1); have hneFT : w.heap.size + 1 ≠ w1.heap.size + 1 := Nat.ne_of_lt (Nat.lt_succ_of_lt hs1); have hR2 : ((w1.alloc (.cells #[.int .u64 (W q 0), .int .u64 (W q 1), .int .u64 (W q 2), .int .u64 (W q 3)] 24)).alloc (.cells #[.int .i64 0, .int .i64 0] 55)).heap[w.heap.size]? = some (.cells #[.int .u64 0, .int .u64 0, .int .u64 0, .int .u64 0] 24) := alloc_old (alloc_old hR1); have hF2 : ((w1.alloc (.cells #[.int .u64 (W q 0), .int .u64 (W q 1), .int .u64 (W q 2), .int .u64 (W q 3)] 24)).alloc (.cells #[.int .i64 0, .int .i64 0] 55)).heap[w.heap.size + 1]? = some (.cells #[.int .i64 0, .int .i64 0] 55) := alloc_old (alloc_old hF1); have hcR2 := block_cell hR2; have hcF2 := block_cell hF2; have hfR2 := block_free hR2; have hfF2 := block_free hF2)
  have hB2 : Below w.heap.size w ((w1.alloc (.cells #[.int .u64 (W q 0), .int .u64 (W q 1), .int .u64 (W q 2), .int .u64 (W q 3)] 24)).alloc (.cells #[.int .i64 0, .int .i64 0] 55)) := (hB1.alloc hB1.size _).alloc (by have := hB1.size; simp; omega) _
  have hr9 := set2_ne (set4 hR2 (.int .u64 (W q 0)) (.int .u64 (W q 1)) (.int .u64 (W q 2)) (.int .u64 (W q 3))) hneRF (.int .i64 0) (.int .i64 0)
  have hf9 := set2 (set4_ne hF2 (Ne.symm hneRF) (.int .u64 (W q 0)) (.int .u64 (W q 1)) (.int .u64 (W q 2)) (.int .u64 (W q 3))) (.int .i64 0) (.int .i64 0)
  have hb9 := below_set2 (below_set4 hB2 (Nat.le_refl _) (.int .u64 (W q 0)) (.int .u64 (W q 1)) (.int .u64 (W q 2)) (.int .u64 (W q 3))) hleF (.int .i64 0) (.int .i64 0)
  have hcr9 := block_cell hr9
  have hcf9 := block_cell hf9
  exact bodyPost_ret (v := .tuple #[.agg #[.int .u64 (W q 0), .int .u64 (W q 1), .int .u64 (W q 2), .int .u64 (W q 3)], .agg #[.int .i64 0, .int .i64 0]]) (by simp [results, Tryd.results40, go_sem, hcr9, hcf9]) rfl (ParsePost.ok HE.out hb9)
theorem parse_any (s : ByteArray) (hs : s.size ≤ 140737488351232) (w : World) :
    Calls Tryd.prog 40 #[.string s] w (ParsePost s w) := by
  by_cases h : 65536 < s.size
  · exact parse_long s hs h w
  · cases hX : readR s 0 with
    | error e => obtain ⟨a, c⟩ := e; exact parse_err s hs h a c hX w
    | ok x =>
      obtain ⟨q, n⟩ := x
      by_cases hn : n < s.size
      · exact parse_rest s hs h q n hX hn w
      · exact parse_all s hs h q n hX hn w

end Go.Proofs.YtjbdamedofgdgaaDoor
