/-
  A note by itself: the document's note, and capture's fits: the same condition.
-/
import Derived.Test.YtebebognifiinaaBookNotes
namespace Go.Proofs.Ytebebognifiinaa
open Go.RowKit
set_option linter.unusedVariables false
set_option linter.unusedSimpArgs false
/-- A note that may stand behind place p. -/
def noteOk (x : Note) (p : Int) : Bool :=
  decide (p ≤ x.at_) && decide (x.at_ ≤ 65536) &&
    (decide (x.op = 20 ∧ 1 ≤ x.kind ∧ x.kind ≤ 7 ∧ 0 ≤ x.len ∧ x.len ≤ 65536 - x.at_ ∧ (x.kind = 1 → x.len = 0)) ||
     decide (x.op = 18 ∧ 2 ≤ x.kind ∧ x.kind ≤ 7 ∧ x.len = 0) ||
     decide (x.op = 19 ∧ x.kind = 0 ∧ x.len = 0 ∧ x.n = 0 ∧ x.text = { data := #[] }))
theorem sub_wrap {a : Int} (h0 : 0 ≤ a) (h1 : a ≤ 65536) : IntKind.i64.wrap (65536 - a) = 65536 - a := by rw [IntKind.wrap_i64]; omega
def NotePost (x : Note) (p : Int) (w : World) (e : Ending) (w' : World) : Prop :=
  (∃ nx, e = .returned (.tuple #[.int .i64 nx, .bool (noteOk x p)]) ∧ (noteOk x p = true → nx = x.at_ + x.len)) ∧ Below w.heap.size w w'
theorem NotePost.of {x : Note} {p : Int} {w w' : World} {nx : Int} {b : Bool} (hb : noteOk x p = b) (hn : noteOk x p = true → nx = x.at_ + x.len) (hB : Below w.heap.size w w') :
    NotePost x p w (.returned (.tuple #[.int .i64 nx, .bool b])) w' := ⟨⟨nx, by rw [hb], hn⟩, hB⟩
def FitsPost (x : Note) (p : Int) (w : World) (e : Ending) (w' : World) : Prop :=
  e = (if noteOk x p then .returned (.tuple #[]) else .panicked [{ v := .iface 99 (.agg #[]), recovered := false }]) ∧ Below w.heap.size w w'
theorem FitsPost.yes {x : Note} {p : Int} {w w' : World} (hb : noteOk x p = true) (hB : Below w.heap.size w w') : FitsPost x p w (.returned (.tuple #[])) w' := ⟨by rw [if_pos hb], hB⟩
theorem FitsPost.no {x : Note} {p : Int} {w w' : World} (hb : noteOk x p = false) (hB : Below w.heap.size w w') : FitsPost x p w (.panicked [{ v := .iface 99 (.agg #[]), recovered := false }]) w' := ⟨by rw [hb]; rfl, hB⟩

set_option maxHeartbeats 8000000 in
set_option maxRecDepth 100000 in
theorem note_full (k a l n : Int) (s : ByteArray) (p : Int) (w : World) (h0 : 0 ≤ p) :
    Calls Try.prog 32 #[.agg #[.int .i64 20, .int .i64 k, .int .i64 a, .int .i64 l, .int .i64 n, .string s], .int .i64 p] w fun e w' => NotePost ⟨20, k, a, l, n, s⟩ p w e w' := by
  have hB := (Below.refl w.heap.size w).alloc (Nat.le_refl _) (.cells #[.int .i64 20, .int .i64 k, .int .i64 a, .int .i64 l, .int .i64 n, .string s] 68)
  go_enter Try.func32, Try.ntmps32
  by_cases h1 : a < p
  · go_wp2_with (fail)
    go_ret2
    refine .of ?_ ?_ hB <;> (simp [noteOk]; omega)
  by_cases h2 : 65536 < a
  · go_wp2_with (fail)
    go_ret2
    refine .of ?_ ?_ hB <;> (simp [noteOk]; omega)
  have hw := sub_wrap (a := a) (by omega) (by omega)
  by_cases c0 : 1 ≤ k
  rotate_left 1
  · have d0 : decide (1 ≤ k) = false := decide_eq_false c0
    go_wp2_with (fail)
    go_ret2
    refine .of ?_ ?_ hB
    all_goals first | (simp [noteOk, *]; done) | (simp [noteOk, *]; omega) | (simp [noteOk]; omega)
  by_cases c1 : k ≤ 7
  rotate_left 1
  · have d1 : decide (k ≤ 7) = false := decide_eq_false c1
    go_wp2_with (fail)
    go_ret2
    refine .of ?_ ?_ hB
    all_goals first | (simp [noteOk, *]; done) | (simp [noteOk, *]; omega) | (simp [noteOk]; omega)
  by_cases c2 : 0 ≤ l
  rotate_left 1
  · have d2 : decide (0 ≤ l) = false := decide_eq_false c2
    go_wp2_with (fail)
    go_ret2
    refine .of ?_ ?_ hB
    all_goals first | (simp [noteOk, *]; done) | (simp [noteOk, *]; omega) | (simp [noteOk]; omega)
  by_cases c3 : l ≤ 65536 - a
  rotate_left 1
  · have d3 : decide (l ≤ 65536 - a) = false := decide_eq_false c3
    go_wp2_with (fail)
    go_ret2
    refine .of ?_ ?_ hB
    all_goals first | (simp [noteOk, *]; done) | (simp [noteOk, *]; omega) | (simp [noteOk]; omega)
  by_cases c4 : k = 1
  rotate_left 1
  · have d4 : (k == 1) = false := by simp [c4]
    go_wp2_with (fail)
    go_ret2
    refine .of ?_ ?_ hB
    all_goals first | (simp [noteOk, *]; done) | (simp [noteOk, *]; omega) | (simp [noteOk]; omega)
  subst c4
  by_cases c5 : l = 0
  rotate_left 1
  · have d5 : (l == 0) = false := by simp [c5]
    go_wp2_with (fail)
    go_ret2
    refine .of ?_ ?_ hB
    all_goals first | (simp [noteOk, *]; done) | (simp [noteOk, *]; omega) | (simp [noteOk]; omega)
  subst c5
  go_wp2_with (fail)
  go_ret2
  refine .of ?_ ?_ hB
  all_goals first | (simp [noteOk, *]; done) | (simp [noteOk, *]; omega) | (simp [noteOk]; omega)

set_option maxHeartbeats 8000000 in
set_option maxRecDepth 100000 in
theorem note_open (k a l n : Int) (s : ByteArray) (p : Int) (w : World) (h0 : 0 ≤ p) :
    Calls Try.prog 32 #[.agg #[.int .i64 18, .int .i64 k, .int .i64 a, .int .i64 l, .int .i64 n, .string s], .int .i64 p] w fun e w' => NotePost ⟨18, k, a, l, n, s⟩ p w e w' := by
  have hB := (Below.refl w.heap.size w).alloc (Nat.le_refl _) (.cells #[.int .i64 18, .int .i64 k, .int .i64 a, .int .i64 l, .int .i64 n, .string s] 68)
  go_enter Try.func32, Try.ntmps32
  by_cases h1 : a < p
  · go_wp2_with (fail)
    go_ret2
    refine .of ?_ ?_ hB <;> (simp [noteOk]; omega)
  by_cases h2 : 65536 < a
  · go_wp2_with (fail)
    go_ret2
    refine .of ?_ ?_ hB <;> (simp [noteOk]; omega)
  have hw := sub_wrap (a := a) (by omega) (by omega)
  by_cases c0 : 2 ≤ k
  rotate_left 1
  · have d0 : decide (2 ≤ k) = false := decide_eq_false c0
    go_wp2_with (fail)
    go_quiet (fail)
    go_wp2_with (fail)
    go_ret2
    refine .of ?_ ?_ (below_drewN hB _)
    all_goals first | (simp [noteOk, *]; done) | (simp [noteOk, *]; omega) | (simp [noteOk]; omega)
  by_cases c1 : k ≤ 7
  rotate_left 1
  · have d1 : decide (k ≤ 7) = false := decide_eq_false c1
    go_wp2_with (fail)
    go_quiet (fail)
    go_wp2_with (fail)
    go_ret2
    refine .of ?_ ?_ (below_drewN hB _)
    all_goals first | (simp [noteOk, *]; done) | (simp [noteOk, *]; omega) | (simp [noteOk]; omega)
  by_cases c2 : l = 0
  rotate_left 1
  · have d2 : (l == 0) = false := by simp [c2]
    go_wp2_with (fail)
    go_quiet (fail)
    go_wp2_with (fail)
    go_ret2
    refine .of ?_ ?_ (below_drewN hB _)
    all_goals first | (simp [noteOk, *]; done) | (simp [noteOk, *]; omega) | (simp [noteOk]; omega)
  subst c2
  go_wp2_with (fail)
  go_quiet (fail)
  go_wp2_with (fail)
  go_ret2
  refine .of ?_ ?_ (below_drewN hB _)
  all_goals first | (simp [noteOk, *]; done) | (simp [noteOk, *]; omega) | (simp [noteOk]; omega)

set_option maxHeartbeats 8000000 in
set_option maxRecDepth 100000 in
theorem note_close (k a l n : Int) (s : ByteArray) (p : Int) (w : World) (h0 : 0 ≤ p) :
    Calls Try.prog 32 #[.agg #[.int .i64 19, .int .i64 k, .int .i64 a, .int .i64 l, .int .i64 n, .string s], .int .i64 p] w fun e w' => NotePost ⟨19, k, a, l, n, s⟩ p w e w' := by
  have hB := (Below.refl w.heap.size w).alloc (Nat.le_refl _) (.cells #[.int .i64 19, .int .i64 k, .int .i64 a, .int .i64 l, .int .i64 n, .string s] 68)
  go_enter Try.func32, Try.ntmps32
  by_cases h1 : a < p
  · go_wp2_with (fail)
    go_ret2
    refine .of ?_ ?_ hB <;> (simp [noteOk]; omega)
  by_cases h2 : 65536 < a
  · go_wp2_with (fail)
    go_ret2
    refine .of ?_ ?_ hB <;> (simp [noteOk]; omega)
  have hw := sub_wrap (a := a) (by omega) (by omega)
  by_cases c0 : k = 0
  rotate_left 1
  · have d0 : (k == 0) = false := by simp [c0]
    go_wp2_with (fail)
    go_quiet (fail)
    go_wp2_with (fail)
    go_ret2
    refine .of ?_ ?_ (below_drewN hB _)
    all_goals first | (simp [noteOk, *]; done) | (simp [noteOk, *]; omega) | (simp [noteOk]; omega)
  subst c0
  by_cases c1 : l = 0
  rotate_left 1
  · have d1 : (l == 0) = false := by simp [c1]
    go_wp2_with (fail)
    go_quiet (fail)
    go_wp2_with (fail)
    go_ret2
    refine .of ?_ ?_ (below_drewN hB _)
    all_goals first | (simp [noteOk, *]; done) | (simp [noteOk, *]; omega) | (simp [noteOk]; omega)
  subst c1
  by_cases c2 : n = 0
  rotate_left 1
  · have d2 : (n == 0) = false := by simp [c2]
    go_wp2_with (fail)
    go_quiet (fail)
    go_wp2_with (fail)
    go_ret2
    refine .of ?_ ?_ (below_drewN hB _)
    all_goals first | (simp [noteOk, *]; done) | (simp [noteOk, *]; omega) | (simp [noteOk]; omega)
  subst c2
  by_cases c3 : s = { data := #[] }
  rotate_left 1
  · have d3 : decide (s = { data := #[] }) = false := decide_eq_false c3
    have d9 : s.toList.isEmpty = false := (decide_eq_emptyBytes s).symm.trans (decide_eq_false c3)
    go_wp2_with (fail)
    go_quiet (fail)
    go_wp2_with (fail)
    go_ret2
    refine .of ?_ ?_ (below_drewN hB _)
    all_goals first | (simp [noteOk, *]; done) | (simp [noteOk, *]; omega) | (simp [noteOk]; omega)
  subst c3
  go_wp2_with (fail)
  go_quiet (fail)
  go_wp2_with (fail)
  go_ret2
  refine .of ?_ ?_ (below_drewN hB _)
  all_goals first | (simp [noteOk, *]; done) | (simp [noteOk, *]; omega) | (simp [noteOk]; omega)

set_option maxHeartbeats 8000000 in
set_option maxRecDepth 100000 in
theorem note_none (o : Int) (ho1 : ¬ o = 20) (ho2 : ¬ o = 18) (ho3 : ¬ o = 19) (k a l n : Int) (s : ByteArray) (p : Int) (w : World) (h0 : 0 ≤ p) :
    Calls Try.prog 32 #[.agg #[.int .i64 o, .int .i64 k, .int .i64 a, .int .i64 l, .int .i64 n, .string s], .int .i64 p] w fun e w' => NotePost ⟨o, k, a, l, n, s⟩ p w e w' := by
  have hB := (Below.refl w.heap.size w).alloc (Nat.le_refl _) (.cells #[.int .i64 o, .int .i64 k, .int .i64 a, .int .i64 l, .int .i64 n, .string s] 68)
  go_enter Try.func32, Try.ntmps32
  by_cases h1 : a < p
  · go_wp2_with (fail)
    go_ret2
    refine .of ?_ ?_ hB <;> (simp [noteOk]; omega)
  by_cases h2 : 65536 < a
  · go_wp2_with (fail)
    go_ret2
    refine .of ?_ ?_ hB <;> (simp [noteOk]; omega)
  have hw := sub_wrap (a := a) (by omega) (by omega)
  go_wp2_with (fail)
  go_ret2
  refine .of ?_ ?_ hB
  all_goals first | (simp [noteOk, *]; done) | (simp [noteOk, *]; omega) | (simp [noteOk]; omega)


theorem note_any (x : Note) (p : Int) (w : World) (h0 : 0 ≤ p) :
    Calls Try.prog 32 #[notesCA x, .int .i64 p] w fun e w' => NotePost x p w e w' := by
  obtain ⟨o, k, a, l, n, s⟩ := x
  by_cases h1 : o = 20
  · subst h1; exact note_full k a l n s p w h0
  by_cases h2 : o = 18
  · subst h2; exact note_open k a l n s p w h0
  by_cases h3 : o = 19
  · subst h3; exact note_close k a l n s p w h0
  exact note_none o h1 h2 h3 k a l n s p w h0


set_option maxHeartbeats 8000000 in
set_option maxRecDepth 100000 in
theorem fits_full (k a l n : Int) (s : ByteArray) (p : Int) (w : World) (h0 : 0 ≤ p) :
    Calls Try.prog 31 #[.agg #[.int .i64 20, .int .i64 k, .int .i64 a, .int .i64 l, .int .i64 n, .string s], .int .i64 p] w fun e w' => FitsPost ⟨20, k, a, l, n, s⟩ p w e w' := by
  have hB := (Below.refl w.heap.size w).alloc (Nat.le_refl _) (.cells #[.int .i64 20, .int .i64 k, .int .i64 a, .int .i64 l, .int .i64 n, .string s] 68)
  go_enter Try.func31, Try.ntmps31
  by_cases c0 : k < 1
  · skip
    go_wp2_with (fail)
    refine ⟨rfl, FitsPost.no ?_ hB⟩
    all_goals first | (simp [noteOk, *]; done) | (simp [noteOk, *]; omega) | (simp [noteOk]; omega)
  have d0 : decide (k < 1) = false := decide_eq_false c0
  by_cases c1 : 7 < k
  · skip
    go_wp2_with (fail)
    refine ⟨rfl, FitsPost.no ?_ hB⟩
    all_goals first | (simp [noteOk, *]; done) | (simp [noteOk, *]; omega) | (simp [noteOk]; omega)
  have d1 : decide (7 < k) = false := decide_eq_false c1
  by_cases c2 : l < 0
  · skip
    go_wp2_with (fail)
    refine ⟨rfl, FitsPost.no ?_ hB⟩
    all_goals first | (simp [noteOk, *]; done) | (simp [noteOk, *]; omega) | (simp [noteOk]; omega)
  have d2 : decide (l < 0) = false := decide_eq_false c2
  by_cases c3 : k = 1
  · subst c3
    by_cases c4 : l = 0
    rotate_left 1
    · have d4 : (l == 0) = false := by simp [c4]
      go_wp2_with (fail)
      refine ⟨rfl, FitsPost.no ?_ hB⟩
      all_goals first | (simp [noteOk, *]; done) | (simp [noteOk, *]; omega) | (simp [noteOk]; omega)
    subst c4
    by_cases c5 : a < p
    · skip
      go_wp2_with (fail)
      refine ⟨rfl, FitsPost.no ?_ hB⟩
      all_goals first | (simp [noteOk, *]; done) | (simp [noteOk, *]; omega) | (simp [noteOk]; omega)
    have d5 : decide (a < p) = false := decide_eq_false c5
    by_cases c6 : 65536 < a
    · skip
      go_wp2_with (fail)
      refine ⟨rfl, FitsPost.no ?_ hB⟩
      all_goals first | (simp [noteOk, *]; done) | (simp [noteOk, *]; omega) | (simp [noteOk]; omega)
    have d6 : decide (65536 < a) = false := decide_eq_false c6
    have hw := sub_wrap (a := a) (by omega) (by omega)
    go_wp2_with (fail)
    refine bodyPost_end (v := .tuple #[]) (by simp [results, Try.results31]) rfl (FitsPost.yes ?_ hB)
    all_goals first | (simp [noteOk, *]; done) | (simp [noteOk, *]; omega) | (simp [noteOk]; omega)
  have d3 : (k == 1) = false := by simp [c3]
  by_cases c8 : a < p
  · skip
    go_wp2_with (fail)
    refine ⟨rfl, FitsPost.no ?_ hB⟩
    all_goals first | (simp [noteOk, *]; done) | (simp [noteOk, *]; omega) | (simp [noteOk]; omega)
  have d8 : decide (a < p) = false := decide_eq_false c8
  by_cases c9 : 65536 < a
  · skip
    go_wp2_with (fail)
    refine ⟨rfl, FitsPost.no ?_ hB⟩
    all_goals first | (simp [noteOk, *]; done) | (simp [noteOk, *]; omega) | (simp [noteOk]; omega)
  have d9 : decide (65536 < a) = false := decide_eq_false c9
  have hw := sub_wrap (a := a) (by omega) (by omega)
  by_cases c10 : 65536 - a < l
  · skip
    go_wp2_with (fail)
    refine ⟨rfl, FitsPost.no ?_ hB⟩
    all_goals first | (simp [noteOk, *]; done) | (simp [noteOk, *]; omega) | (simp [noteOk]; omega)
  have d10 : decide (65536 - a < l) = false := decide_eq_false c10
  go_wp2_with (fail)
  refine bodyPost_end (v := .tuple #[]) (by simp [results, Try.results31]) rfl (FitsPost.yes ?_ hB)
  all_goals first | (simp [noteOk, *]; done) | (simp [noteOk, *]; omega) | (simp [noteOk]; omega)

set_option maxHeartbeats 8000000 in
set_option maxRecDepth 100000 in
theorem fits_open (k a l n : Int) (s : ByteArray) (p : Int) (w : World) (h0 : 0 ≤ p) :
    Calls Try.prog 31 #[.agg #[.int .i64 18, .int .i64 k, .int .i64 a, .int .i64 l, .int .i64 n, .string s], .int .i64 p] w fun e w' => FitsPost ⟨18, k, a, l, n, s⟩ p w e w' := by
  have hB := (Below.refl w.heap.size w).alloc (Nat.le_refl _) (.cells #[.int .i64 18, .int .i64 k, .int .i64 a, .int .i64 l, .int .i64 n, .string s] 68)
  go_enter Try.func31, Try.ntmps31
  by_cases c0 : k < 2
  · skip
    go_wp2_with (fail)
    refine ⟨rfl, FitsPost.no ?_ hB⟩
    all_goals first | (simp [noteOk, *]; done) | (simp [noteOk, *]; omega) | (simp [noteOk]; omega)
  have d0 : decide (k < 2) = false := decide_eq_false c0
  by_cases c1 : 7 < k
  · skip
    go_wp2_with (fail)
    refine ⟨rfl, FitsPost.no ?_ hB⟩
    all_goals first | (simp [noteOk, *]; done) | (simp [noteOk, *]; omega) | (simp [noteOk]; omega)
  have d1 : decide (7 < k) = false := decide_eq_false c1
  by_cases c2 : l = 0
  rotate_left 1
  · have d2 : (l == 0) = false := by simp [c2]
    go_wp2_with (fail)
    refine ⟨rfl, FitsPost.no ?_ hB⟩
    all_goals first | (simp [noteOk, *]; done) | (simp [noteOk, *]; omega) | (simp [noteOk]; omega)
  subst c2
  by_cases c3 : a < p
  · skip
    go_wp2_with (fail)
    refine ⟨rfl, FitsPost.no ?_ hB⟩
    all_goals first | (simp [noteOk, *]; done) | (simp [noteOk, *]; omega) | (simp [noteOk]; omega)
  have d3 : decide (a < p) = false := decide_eq_false c3
  by_cases c4 : 65536 < a
  · skip
    go_wp2_with (fail)
    refine ⟨rfl, FitsPost.no ?_ hB⟩
    all_goals first | (simp [noteOk, *]; done) | (simp [noteOk, *]; omega) | (simp [noteOk]; omega)
  have d4 : decide (65536 < a) = false := decide_eq_false c4
  have hw := sub_wrap (a := a) (by omega) (by omega)
  go_wp2_with (fail)
  refine bodyPost_end (v := .tuple #[]) (by simp [results, Try.results31]) rfl (FitsPost.yes ?_ hB)
  all_goals first | (simp [noteOk, *]; done) | (simp [noteOk, *]; omega) | (simp [noteOk]; omega)

set_option maxHeartbeats 8000000 in
set_option maxRecDepth 100000 in
theorem fits_close (k a l n : Int) (s : ByteArray) (p : Int) (w : World) (h0 : 0 ≤ p) :
    Calls Try.prog 31 #[.agg #[.int .i64 19, .int .i64 k, .int .i64 a, .int .i64 l, .int .i64 n, .string s], .int .i64 p] w fun e w' => FitsPost ⟨19, k, a, l, n, s⟩ p w e w' := by
  have hB := (Below.refl w.heap.size w).alloc (Nat.le_refl _) (.cells #[.int .i64 19, .int .i64 k, .int .i64 a, .int .i64 l, .int .i64 n, .string s] 68)
  go_enter Try.func31, Try.ntmps31
  by_cases c0 : k = 0
  rotate_left 1
  · have d0 : (k == 0) = false := by simp [c0]
    go_wp2_with (fail)
    refine ⟨rfl, FitsPost.no ?_ hB⟩
    all_goals first | (simp [noteOk, *]; done) | (simp [noteOk, *]; omega) | (simp [noteOk]; omega)
  subst c0
  by_cases c1 : l = 0
  rotate_left 1
  · have d1 : (l == 0) = false := by simp [c1]
    go_wp2_with (fail)
    refine ⟨rfl, FitsPost.no ?_ hB⟩
    all_goals first | (simp [noteOk, *]; done) | (simp [noteOk, *]; omega) | (simp [noteOk]; omega)
  subst c1
  by_cases c2 : n = 0
  rotate_left 1
  · have d2 : (n == 0) = false := by simp [c2]
    go_wp2_with (fail)
    refine ⟨rfl, FitsPost.no ?_ hB⟩
    all_goals first | (simp [noteOk, *]; done) | (simp [noteOk, *]; omega) | (simp [noteOk]; omega)
  subst c2
  by_cases c3 : s = { data := #[] }
  rotate_left 1
  · have d3 : s.toList.isEmpty = false := (decide_eq_emptyBytes s).symm.trans (decide_eq_false c3)
    go_wp2_with (fail)
    refine ⟨rfl, FitsPost.no ?_ hB⟩
    all_goals first | (simp [noteOk, *]; done) | (simp [noteOk, *]; omega) | (simp [noteOk]; omega)
  subst c3
  by_cases c4 : a < p
  · skip
    go_wp2_with (fail)
    refine ⟨rfl, FitsPost.no ?_ hB⟩
    all_goals first | (simp [noteOk, *]; done) | (simp [noteOk, *]; omega) | (simp [noteOk]; omega)
  have d4 : decide (a < p) = false := decide_eq_false c4
  by_cases c5 : 65536 < a
  · skip
    go_wp2_with (fail)
    refine ⟨rfl, FitsPost.no ?_ hB⟩
    all_goals first | (simp [noteOk, *]; done) | (simp [noteOk, *]; omega) | (simp [noteOk]; omega)
  have d5 : decide (65536 < a) = false := decide_eq_false c5
  have hw := sub_wrap (a := a) (by omega) (by omega)
  go_wp2_with (fail)
  refine bodyPost_end (v := .tuple #[]) (by simp [results, Try.results31]) rfl (FitsPost.yes ?_ hB)
  all_goals first | (simp [noteOk, *]; done) | (simp [noteOk, *]; omega) | (simp [noteOk]; omega)

set_option maxHeartbeats 8000000 in
set_option maxRecDepth 100000 in
theorem fits_none (o : Int) (ho1 : ¬ o = 20) (ho2 : ¬ o = 18) (ho3 : ¬ o = 19) (k a l n : Int) (s : ByteArray) (p : Int) (w : World) (h0 : 0 ≤ p) :
    Calls Try.prog 31 #[.agg #[.int .i64 o, .int .i64 k, .int .i64 a, .int .i64 l, .int .i64 n, .string s], .int .i64 p] w fun e w' => FitsPost ⟨o, k, a, l, n, s⟩ p w e w' := by
  have hB := (Below.refl w.heap.size w).alloc (Nat.le_refl _) (.cells #[.int .i64 o, .int .i64 k, .int .i64 a, .int .i64 l, .int .i64 n, .string s] 68)
  go_enter Try.func31, Try.ntmps31
  go_wp2_with (fail)
  refine ⟨rfl, FitsPost.no ?_ hB⟩
  all_goals first | (simp [noteOk, *]; done) | (simp [noteOk, *]; omega) | (simp [noteOk]; omega)


theorem fits_any (x : Note) (p : Int) (w : World) (h0 : 0 ≤ p) :
    Calls Try.prog 31 #[notesCA x, .int .i64 p] w fun e w' => FitsPost x p w e w' := by
  obtain ⟨o, k, a, l, n, s⟩ := x
  by_cases h1 : o = 20
  · subst h1; exact fits_full k a l n s p w h0
  by_cases h2 : o = 18
  · subst h2; exact fits_open k a l n s p w h0
  by_cases h3 : o = 19
  · subst h3; exact fits_close k a l n s p w h0
  exact fits_none o h1 h2 h3 k a l n s p w h0


end Go.Proofs.Ytebebognifiinaa
