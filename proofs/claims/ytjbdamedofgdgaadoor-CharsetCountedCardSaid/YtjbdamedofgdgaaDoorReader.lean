/-
  charset's reader of class texts: peek, fail, hexDigit, escaped, item: what each returns and what it leaves in the reader.
-/
import Derived.Test.YtjbdamedofgdgaaDoorShowP
import Derived.RangeFuncBox
namespace Go.Proofs.YtjbdamedofgdgaaDoor
open Go.RowKit
set_option linter.unusedVariables false
set_option linter.unusedSimpArgs false
/-- A reader as it lies in memory. -/
abbrev rd (s : ByteArray) (i : Nat) (ba bc : Int) : Obj := .cells #[.string s, .int .i64 (i : Int), .int .i64 ba, .int .i64 bc] 75
theorem grown_trans {a b c : World} {row : Option Nat} (h : a.grownBy b row) (k : b.grownBy c row) : a.grownBy c row :=
  ⟨k.os.trans h.os, k.tape.trans h.tape, k.output.trans h.output, Nat.le_trans h.size k.size, fun i hi hr => (k.block i (Nat.lt_of_lt_of_le hi h.size) hr).trans (h.block i hi hr)⟩
theorem grown_below {a b : World} {row : Option Nat} (h : Below a.heap.size a b) : a.grownBy b row := ⟨h.os, h.tape, h.output, h.size, fun k hk _ => h.block k hk⟩
theorem grown_refl (a : World) (row : Option Nat) : a.grownBy a row := ⟨rfl, rfl, rfl, Nat.le_refl _, fun _ _ _ => rfl⟩
theorem grown_set (a : World) (b o : Nat) (v : Value) : a.grownBy (a.setCell ⟨b, o, none⟩ v) (some b) :=
  ⟨rfl, rfl, rfl, by simp [World.setCell], fun k _ hk => Below.heap_setCell _ _ _ k (fun e => hk (by rw [e]))⟩

set_option maxHeartbeats 2000000 in
theorem peek_any (s : ByteArray) (hs : s.size ≤ 140737488351232) (i : Nat) (hi : i ≤ s.size + 4) (ba bc : Int) (b : Nat) (w : World) (hb : w.heap[b]? = some (rd s i ba bc)) :
    Calls Tryd.prog 48 #[.pointer (some ⟨b, 0, none⟩)] w fun e w' => e = .returned (.int .i64 (pk s i)) ∧ Below w.heap.size w w' := by
  have hc := block_cell hb
  by_cases h : i < s.size
  · rw [pk_in h]
    have hd : decide ((i : Int) < (s.size : Int)) = true := decide_eq_true (by omega)
    have hr := s[i].toNat_lt
    have hw : IntKind.i64.wrap (s[i].toNat : Int) = (s[i].toNat : Int) := IntWalk.i64_in _ (by omega)
    go_enter Tryd.func48, Tryd.ntmps48
    go_wp2
    go_quiet (fail)
    go_wp2
    go_quiet (fail)
    go_wp2
    go_ret
    exact ⟨rfl, below_drewN (below_drewN (Below.refl _ _) _) _⟩
  · rw [pk_out h]
    have hd : decide ((i : Int) < (s.size : Int)) = false := decide_eq_false (by omega)
    go_enter Tryd.func48, Tryd.ntmps48
    go_wp2
    go_quiet (fail)
    go_wp2
    go_ret
    exact ⟨rfl, below_drewN (Below.refl _ _) _⟩

set_option maxHeartbeats 2000000 in
theorem fail_any (s : ByteArray) (i j : Nat) (c : Int) (b : Nat) (w : World) (hb : w.heap[b]? = some (rd s i 0 0)) :
    Calls Tryd.prog 52 #[.pointer (some ⟨b, 0, none⟩), .int .i64 (j : Int), .int .i64 c] w fun e w' => e = .returned (.tuple #[]) ∧ w.grownBy w' (some b) ∧ w'.heap[b]? = some (rd s i j c) := by
  have hc := block_cell hb
  have hf := block_free hb
  go_enter Tryd.func52, Tryd.ntmps52
  go_wp2
  go_end0
  exact ⟨rfl, grown_trans (grown_set _ _ _ _) (grown_set _ _ _ _), heap_setCell_self (heap_setCell_self hb 2 _) 3 _⟩

set_option maxHeartbeats 2000000 in
theorem hexDigit_any (c : Int) (h0 : 0 ≤ c) (h1 : c < 256) (w : World) :
    Calls Tryd.prog 57 #[.int .u8 c] w fun e w' => e = .returned (.int .i64 (hexd c)) ∧ w' = w := by
  have hcase : (c < 48) ∨ (48 ≤ c ∧ c ≤ 57) ∨ (57 < c ∧ c < 97) ∨ (97 ≤ c ∧ c ≤ 102) ∨ (102 < c) := by omega
  rcases hcase with h | h | h | h | h
  · have d0 : decide (48 ≤ c) = false := decide_eq_false (by omega)
    have d1 : decide (c ≤ 57) = true := decide_eq_true (by omega)
    have d2 : decide (97 ≤ c) = false := decide_eq_false (by omega)
    have d3 : decide (c ≤ 102) = true := decide_eq_true (by omega)
    have hv : hexd c = -1 := by rw [hexd, if_neg (by omega), if_neg (by omega)]
    rw [hv]
    clear hv
    go_enter Tryd.func57, Tryd.ntmps57
    go_wp2
    go_ret
    exact ⟨rfl, rfl⟩
  · have d0 : decide (48 ≤ c) = true := decide_eq_true (by omega)
    have d1 : decide (c ≤ 57) = true := decide_eq_true (by omega)
    have d2 : decide (97 ≤ c) = false := decide_eq_false (by omega)
    have d3 : decide (c ≤ 102) = true := decide_eq_true (by omega)
    have hv : hexd c = c - 48 := by rw [hexd, if_pos (by omega)]
    have w1 : IntKind.u8.wrap (c - 48) = c - 48 := by rw [IntKind.wrap_u8]; omega
    have w2 : IntKind.i64.wrap (c - 48) = c - 48 := by rw [IntKind.wrap_i64]; omega
    rw [hv]
    clear hv
    go_enter Tryd.func57, Tryd.ntmps57
    go_wp2
    go_ret
    exact ⟨rfl, rfl⟩
  · have d0 : decide (48 ≤ c) = true := decide_eq_true (by omega)
    have d1 : decide (c ≤ 57) = false := decide_eq_false (by omega)
    have d2 : decide (97 ≤ c) = false := decide_eq_false (by omega)
    have d3 : decide (c ≤ 102) = true := decide_eq_true (by omega)
    have hv : hexd c = -1 := by rw [hexd, if_neg (by omega), if_neg (by omega)]
    rw [hv]
    clear hv
    go_enter Tryd.func57, Tryd.ntmps57
    go_wp2
    go_ret
    exact ⟨rfl, rfl⟩
  · have d0 : decide (48 ≤ c) = true := decide_eq_true (by omega)
    have d1 : decide (c ≤ 57) = false := decide_eq_false (by omega)
    have d2 : decide (97 ≤ c) = true := decide_eq_true (by omega)
    have d3 : decide (c ≤ 102) = true := decide_eq_true (by omega)
    have hv : hexd c = c - 97 + 10 := by rw [hexd, if_neg (by omega), if_pos (by omega)]; omega
    have w1 : IntKind.u8.wrap (c - 97) = c - 97 := by rw [IntKind.wrap_u8]; omega
    have w2 : IntKind.i64.wrap (c - 97) = c - 97 := by rw [IntKind.wrap_i64]; omega
    have w3 : IntKind.i64.wrap (c - 97 + 10) = c - 97 + 10 := by rw [IntKind.wrap_i64]; omega
    rw [hv]
    clear hv
    go_enter Tryd.func57, Tryd.ntmps57
    go_wp2
    go_ret
    exact ⟨rfl, rfl⟩
  · have d0 : decide (48 ≤ c) = true := decide_eq_true (by omega)
    have d1 : decide (c ≤ 57) = false := decide_eq_false (by omega)
    have d2 : decide (97 ≤ c) = true := decide_eq_true (by omega)
    have d3 : decide (c ≤ 102) = false := decide_eq_false (by omega)
    have hv : hexd c = -1 := by rw [hexd, if_neg (by omega), if_neg (by omega)]
    rw [hv]
    clear hv
    go_enter Tryd.func57, Tryd.ntmps57
    go_wp2
    go_ret
    exact ⟨rfl, rfl⟩

/-- The reader behind a step that went well, or not (i: where it began). -/
abbrev rdR (s : ByteArray) (i : Nat) (r : Int × Nat × Bool) : Obj := if r.2.2 = true then rd s r.2.1 0 0 else rd s r.2.1 i 6

set_option maxHeartbeats 4000000 in
theorem esc_110 (s : ByteArray) (hs : s.size ≤ 140737488351232) (i : Nat) (hi : i ≤ s.size) (h : pk s (i + 1) = 110) (b : Nat) (w : World) (hb : w.heap[b]? = some (rd s i 0 0)) :
    Calls Tryd.prog 56 #[.pointer (some ⟨b, 0, none⟩)] w fun e w' => e = .returned (.int .i64 (10)) ∧ w.grownBy w' (some b) ∧ w'.heap[b]? = some (rd s (i + 2) 0 0) := by
  obtain ⟨i1, hi1⟩ : ∃ i1, i1 = i + 1 := ⟨_, rfl⟩
  obtain ⟨i2, hi2⟩ : ∃ i2, i2 = i + 2 := ⟨_, rfl⟩
  have HP := hid (fun w h => peek_any s hs i1 (by omega) 0 0 b w h)
  first | rw [← hi2] | skip
  have hpk : pk s (i + 1) = pk s i1 := by rw [hi1]
  rw [hpk] at h
  rw [h] at HP
  have hw1 : IntKind.i64.wrap ((i : Int) + 1) = (i1 : Int) := by rw [IntKind.wrap_i64]; omega
  have hw2 : IntKind.i64.wrap ((i1 : Int) + 1) = (i2 : Int) := by rw [IntKind.wrap_i64]; omega
  have hc := block_cell hb
  have hf := block_free hb
  have hbl := block_lt hb
  have hb1 : (w.setCell ⟨b, 1, none⟩ (.int .i64 (i1 : Int))).heap[b]? = some (rd s i1 0 0) := heap_setCell_self hb 1 _
  clear hi1 hi2
  go_enter Tryd.func56, Tryd.ntmps56
  go_wp2_with (first | (go_at_call 48; with_reducible refine Calls.mono (HP.out _ hb1) ?_; rintro e w1 ⟨rfl, hbw⟩; have hb2 := below_heap hbw (block_lt hb1) hb1; have hc2 := block_cell hb2; have hf2 := block_free hb2; have hg2 := grown_trans (grown_set w b 1 _) (grown_below hbw); have hb3 : (w1.setCell ⟨b, 1, none⟩ (.int .i64 (i2 : Int))).heap[b]? = some (rd s i2 0 0) := heap_setCell_self hb2 1 _; have hg3 := grown_trans hg2 (grown_set w1 b 1 (.int .i64 (i2 : Int)))) | (go_at_call 52; with_reducible refine Calls.mono (fail_any s i2 i 6 b _ hb3) ?_; rintro e w2 ⟨rfl, hgf, hbf⟩; have hg4 := grown_trans hg3 hgf))
  go_ret
  exact ⟨rfl, hg3, hb3⟩
set_option maxHeartbeats 4000000 in
theorem esc_114 (s : ByteArray) (hs : s.size ≤ 140737488351232) (i : Nat) (hi : i ≤ s.size) (h : pk s (i + 1) = 114) (b : Nat) (w : World) (hb : w.heap[b]? = some (rd s i 0 0)) :
    Calls Tryd.prog 56 #[.pointer (some ⟨b, 0, none⟩)] w fun e w' => e = .returned (.int .i64 (13)) ∧ w.grownBy w' (some b) ∧ w'.heap[b]? = some (rd s (i + 2) 0 0) := by
  obtain ⟨i1, hi1⟩ : ∃ i1, i1 = i + 1 := ⟨_, rfl⟩
  obtain ⟨i2, hi2⟩ : ∃ i2, i2 = i + 2 := ⟨_, rfl⟩
  have HP := hid (fun w h => peek_any s hs i1 (by omega) 0 0 b w h)
  first | rw [← hi2] | skip
  have hpk : pk s (i + 1) = pk s i1 := by rw [hi1]
  rw [hpk] at h
  rw [h] at HP
  have hw1 : IntKind.i64.wrap ((i : Int) + 1) = (i1 : Int) := by rw [IntKind.wrap_i64]; omega
  have hw2 : IntKind.i64.wrap ((i1 : Int) + 1) = (i2 : Int) := by rw [IntKind.wrap_i64]; omega
  have hc := block_cell hb
  have hf := block_free hb
  have hbl := block_lt hb
  have hb1 : (w.setCell ⟨b, 1, none⟩ (.int .i64 (i1 : Int))).heap[b]? = some (rd s i1 0 0) := heap_setCell_self hb 1 _
  clear hi1 hi2
  go_enter Tryd.func56, Tryd.ntmps56
  go_wp2_with (first | (go_at_call 48; with_reducible refine Calls.mono (HP.out _ hb1) ?_; rintro e w1 ⟨rfl, hbw⟩; have hb2 := below_heap hbw (block_lt hb1) hb1; have hc2 := block_cell hb2; have hf2 := block_free hb2; have hg2 := grown_trans (grown_set w b 1 _) (grown_below hbw); have hb3 : (w1.setCell ⟨b, 1, none⟩ (.int .i64 (i2 : Int))).heap[b]? = some (rd s i2 0 0) := heap_setCell_self hb2 1 _; have hg3 := grown_trans hg2 (grown_set w1 b 1 (.int .i64 (i2 : Int)))) | (go_at_call 52; with_reducible refine Calls.mono (fail_any s i2 i 6 b _ hb3) ?_; rintro e w2 ⟨rfl, hgf, hbf⟩; have hg4 := grown_trans hg3 hgf))
  go_ret
  exact ⟨rfl, hg3, hb3⟩
set_option maxHeartbeats 4000000 in
theorem esc_116 (s : ByteArray) (hs : s.size ≤ 140737488351232) (i : Nat) (hi : i ≤ s.size) (h : pk s (i + 1) = 116) (b : Nat) (w : World) (hb : w.heap[b]? = some (rd s i 0 0)) :
    Calls Tryd.prog 56 #[.pointer (some ⟨b, 0, none⟩)] w fun e w' => e = .returned (.int .i64 (9)) ∧ w.grownBy w' (some b) ∧ w'.heap[b]? = some (rd s (i + 2) 0 0) := by
  obtain ⟨i1, hi1⟩ : ∃ i1, i1 = i + 1 := ⟨_, rfl⟩
  obtain ⟨i2, hi2⟩ : ∃ i2, i2 = i + 2 := ⟨_, rfl⟩
  have HP := hid (fun w h => peek_any s hs i1 (by omega) 0 0 b w h)
  first | rw [← hi2] | skip
  have hpk : pk s (i + 1) = pk s i1 := by rw [hi1]
  rw [hpk] at h
  rw [h] at HP
  have hw1 : IntKind.i64.wrap ((i : Int) + 1) = (i1 : Int) := by rw [IntKind.wrap_i64]; omega
  have hw2 : IntKind.i64.wrap ((i1 : Int) + 1) = (i2 : Int) := by rw [IntKind.wrap_i64]; omega
  have hc := block_cell hb
  have hf := block_free hb
  have hbl := block_lt hb
  have hb1 : (w.setCell ⟨b, 1, none⟩ (.int .i64 (i1 : Int))).heap[b]? = some (rd s i1 0 0) := heap_setCell_self hb 1 _
  clear hi1 hi2
  go_enter Tryd.func56, Tryd.ntmps56
  go_wp2_with (first | (go_at_call 48; with_reducible refine Calls.mono (HP.out _ hb1) ?_; rintro e w1 ⟨rfl, hbw⟩; have hb2 := below_heap hbw (block_lt hb1) hb1; have hc2 := block_cell hb2; have hf2 := block_free hb2; have hg2 := grown_trans (grown_set w b 1 _) (grown_below hbw); have hb3 : (w1.setCell ⟨b, 1, none⟩ (.int .i64 (i2 : Int))).heap[b]? = some (rd s i2 0 0) := heap_setCell_self hb2 1 _; have hg3 := grown_trans hg2 (grown_set w1 b 1 (.int .i64 (i2 : Int)))) | (go_at_call 52; with_reducible refine Calls.mono (fail_any s i2 i 6 b _ hb3) ?_; rintro e w2 ⟨rfl, hgf, hbf⟩; have hg4 := grown_trans hg3 hgf))
  go_ret
  exact ⟨rfl, hg3, hb3⟩
set_option maxHeartbeats 4000000 in
theorem esc_92 (s : ByteArray) (hs : s.size ≤ 140737488351232) (i : Nat) (hi : i ≤ s.size) (h : pk s (i + 1) = 92) (b : Nat) (w : World) (hb : w.heap[b]? = some (rd s i 0 0)) :
    Calls Tryd.prog 56 #[.pointer (some ⟨b, 0, none⟩)] w fun e w' => e = .returned (.int .i64 (92)) ∧ w.grownBy w' (some b) ∧ w'.heap[b]? = some (rd s (i + 2) 0 0) := by
  obtain ⟨i1, hi1⟩ : ∃ i1, i1 = i + 1 := ⟨_, rfl⟩
  obtain ⟨i2, hi2⟩ : ∃ i2, i2 = i + 2 := ⟨_, rfl⟩
  have HP := hid (fun w h => peek_any s hs i1 (by omega) 0 0 b w h)
  first | rw [← hi2] | skip
  have hpk : pk s (i + 1) = pk s i1 := by rw [hi1]
  rw [hpk] at h
  rw [h] at HP
  have hw1 : IntKind.i64.wrap ((i : Int) + 1) = (i1 : Int) := by rw [IntKind.wrap_i64]; omega
  have hw2 : IntKind.i64.wrap ((i1 : Int) + 1) = (i2 : Int) := by rw [IntKind.wrap_i64]; omega
  have hc := block_cell hb
  have hf := block_free hb
  have hbl := block_lt hb
  have hb1 : (w.setCell ⟨b, 1, none⟩ (.int .i64 (i1 : Int))).heap[b]? = some (rd s i1 0 0) := heap_setCell_self hb 1 _
  clear hi1 hi2
  go_enter Tryd.func56, Tryd.ntmps56
  go_wp2_with (first | (go_at_call 48; with_reducible refine Calls.mono (HP.out _ hb1) ?_; rintro e w1 ⟨rfl, hbw⟩; have hb2 := below_heap hbw (block_lt hb1) hb1; have hc2 := block_cell hb2; have hf2 := block_free hb2; have hg2 := grown_trans (grown_set w b 1 _) (grown_below hbw); have hb3 : (w1.setCell ⟨b, 1, none⟩ (.int .i64 (i2 : Int))).heap[b]? = some (rd s i2 0 0) := heap_setCell_self hb2 1 _; have hg3 := grown_trans hg2 (grown_set w1 b 1 (.int .i64 (i2 : Int)))) | (go_at_call 52; with_reducible refine Calls.mono (fail_any s i2 i 6 b _ hb3) ?_; rintro e w2 ⟨rfl, hgf, hbf⟩; have hg4 := grown_trans hg3 hgf))
  go_ret
  exact ⟨rfl, hg3, hb3⟩
set_option maxHeartbeats 4000000 in
theorem esc_93 (s : ByteArray) (hs : s.size ≤ 140737488351232) (i : Nat) (hi : i ≤ s.size) (h : pk s (i + 1) = 93) (b : Nat) (w : World) (hb : w.heap[b]? = some (rd s i 0 0)) :
    Calls Tryd.prog 56 #[.pointer (some ⟨b, 0, none⟩)] w fun e w' => e = .returned (.int .i64 (93)) ∧ w.grownBy w' (some b) ∧ w'.heap[b]? = some (rd s (i + 2) 0 0) := by
  obtain ⟨i1, hi1⟩ : ∃ i1, i1 = i + 1 := ⟨_, rfl⟩
  obtain ⟨i2, hi2⟩ : ∃ i2, i2 = i + 2 := ⟨_, rfl⟩
  have HP := hid (fun w h => peek_any s hs i1 (by omega) 0 0 b w h)
  first | rw [← hi2] | skip
  have hpk : pk s (i + 1) = pk s i1 := by rw [hi1]
  rw [hpk] at h
  rw [h] at HP
  have hw1 : IntKind.i64.wrap ((i : Int) + 1) = (i1 : Int) := by rw [IntKind.wrap_i64]; omega
  have hw2 : IntKind.i64.wrap ((i1 : Int) + 1) = (i2 : Int) := by rw [IntKind.wrap_i64]; omega
  have hc := block_cell hb
  have hf := block_free hb
  have hbl := block_lt hb
  have hb1 : (w.setCell ⟨b, 1, none⟩ (.int .i64 (i1 : Int))).heap[b]? = some (rd s i1 0 0) := heap_setCell_self hb 1 _
  clear hi1 hi2
  go_enter Tryd.func56, Tryd.ntmps56
  go_wp2_with (first | (go_at_call 48; with_reducible refine Calls.mono (HP.out _ hb1) ?_; rintro e w1 ⟨rfl, hbw⟩; have hb2 := below_heap hbw (block_lt hb1) hb1; have hc2 := block_cell hb2; have hf2 := block_free hb2; have hg2 := grown_trans (grown_set w b 1 _) (grown_below hbw); have hb3 : (w1.setCell ⟨b, 1, none⟩ (.int .i64 (i2 : Int))).heap[b]? = some (rd s i2 0 0) := heap_setCell_self hb2 1 _; have hg3 := grown_trans hg2 (grown_set w1 b 1 (.int .i64 (i2 : Int)))) | (go_at_call 52; with_reducible refine Calls.mono (fail_any s i2 i 6 b _ hb3) ?_; rintro e w2 ⟨rfl, hgf, hbf⟩; have hg4 := grown_trans hg3 hgf))
  go_ret
  exact ⟨rfl, hg3, hb3⟩
set_option maxHeartbeats 4000000 in
theorem esc_91 (s : ByteArray) (hs : s.size ≤ 140737488351232) (i : Nat) (hi : i ≤ s.size) (h : pk s (i + 1) = 91) (b : Nat) (w : World) (hb : w.heap[b]? = some (rd s i 0 0)) :
    Calls Tryd.prog 56 #[.pointer (some ⟨b, 0, none⟩)] w fun e w' => e = .returned (.int .i64 (91)) ∧ w.grownBy w' (some b) ∧ w'.heap[b]? = some (rd s (i + 2) 0 0) := by
  obtain ⟨i1, hi1⟩ : ∃ i1, i1 = i + 1 := ⟨_, rfl⟩
  obtain ⟨i2, hi2⟩ : ∃ i2, i2 = i + 2 := ⟨_, rfl⟩
  have HP := hid (fun w h => peek_any s hs i1 (by omega) 0 0 b w h)
  first | rw [← hi2] | skip
  have hpk : pk s (i + 1) = pk s i1 := by rw [hi1]
  rw [hpk] at h
  rw [h] at HP
  have hw1 : IntKind.i64.wrap ((i : Int) + 1) = (i1 : Int) := by rw [IntKind.wrap_i64]; omega
  have hw2 : IntKind.i64.wrap ((i1 : Int) + 1) = (i2 : Int) := by rw [IntKind.wrap_i64]; omega
  have hc := block_cell hb
  have hf := block_free hb
  have hbl := block_lt hb
  have hb1 : (w.setCell ⟨b, 1, none⟩ (.int .i64 (i1 : Int))).heap[b]? = some (rd s i1 0 0) := heap_setCell_self hb 1 _
  clear hi1 hi2
  go_enter Tryd.func56, Tryd.ntmps56
  go_wp2_with (first | (go_at_call 48; with_reducible refine Calls.mono (HP.out _ hb1) ?_; rintro e w1 ⟨rfl, hbw⟩; have hb2 := below_heap hbw (block_lt hb1) hb1; have hc2 := block_cell hb2; have hf2 := block_free hb2; have hg2 := grown_trans (grown_set w b 1 _) (grown_below hbw); have hb3 : (w1.setCell ⟨b, 1, none⟩ (.int .i64 (i2 : Int))).heap[b]? = some (rd s i2 0 0) := heap_setCell_self hb2 1 _; have hg3 := grown_trans hg2 (grown_set w1 b 1 (.int .i64 (i2 : Int)))) | (go_at_call 52; with_reducible refine Calls.mono (fail_any s i2 i 6 b _ hb3) ?_; rintro e w2 ⟨rfl, hgf, hbf⟩; have hg4 := grown_trans hg3 hgf))
  go_ret
  exact ⟨rfl, hg3, hb3⟩
set_option maxHeartbeats 4000000 in
theorem esc_94 (s : ByteArray) (hs : s.size ≤ 140737488351232) (i : Nat) (hi : i ≤ s.size) (h : pk s (i + 1) = 94) (b : Nat) (w : World) (hb : w.heap[b]? = some (rd s i 0 0)) :
    Calls Tryd.prog 56 #[.pointer (some ⟨b, 0, none⟩)] w fun e w' => e = .returned (.int .i64 (94)) ∧ w.grownBy w' (some b) ∧ w'.heap[b]? = some (rd s (i + 2) 0 0) := by
  obtain ⟨i1, hi1⟩ : ∃ i1, i1 = i + 1 := ⟨_, rfl⟩
  obtain ⟨i2, hi2⟩ : ∃ i2, i2 = i + 2 := ⟨_, rfl⟩
  have HP := hid (fun w h => peek_any s hs i1 (by omega) 0 0 b w h)
  first | rw [← hi2] | skip
  have hpk : pk s (i + 1) = pk s i1 := by rw [hi1]
  rw [hpk] at h
  rw [h] at HP
  have hw1 : IntKind.i64.wrap ((i : Int) + 1) = (i1 : Int) := by rw [IntKind.wrap_i64]; omega
  have hw2 : IntKind.i64.wrap ((i1 : Int) + 1) = (i2 : Int) := by rw [IntKind.wrap_i64]; omega
  have hc := block_cell hb
  have hf := block_free hb
  have hbl := block_lt hb
  have hb1 : (w.setCell ⟨b, 1, none⟩ (.int .i64 (i1 : Int))).heap[b]? = some (rd s i1 0 0) := heap_setCell_self hb 1 _
  clear hi1 hi2
  go_enter Tryd.func56, Tryd.ntmps56
  go_wp2_with (first | (go_at_call 48; with_reducible refine Calls.mono (HP.out _ hb1) ?_; rintro e w1 ⟨rfl, hbw⟩; have hb2 := below_heap hbw (block_lt hb1) hb1; have hc2 := block_cell hb2; have hf2 := block_free hb2; have hg2 := grown_trans (grown_set w b 1 _) (grown_below hbw); have hb3 : (w1.setCell ⟨b, 1, none⟩ (.int .i64 (i2 : Int))).heap[b]? = some (rd s i2 0 0) := heap_setCell_self hb2 1 _; have hg3 := grown_trans hg2 (grown_set w1 b 1 (.int .i64 (i2 : Int)))) | (go_at_call 52; with_reducible refine Calls.mono (fail_any s i2 i 6 b _ hb3) ?_; rintro e w2 ⟨rfl, hgf, hbf⟩; have hg4 := grown_trans hg3 hgf))
  go_ret
  exact ⟨rfl, hg3, hb3⟩
set_option maxHeartbeats 4000000 in
theorem esc_45 (s : ByteArray) (hs : s.size ≤ 140737488351232) (i : Nat) (hi : i ≤ s.size) (h : pk s (i + 1) = 45) (b : Nat) (w : World) (hb : w.heap[b]? = some (rd s i 0 0)) :
    Calls Tryd.prog 56 #[.pointer (some ⟨b, 0, none⟩)] w fun e w' => e = .returned (.int .i64 (45)) ∧ w.grownBy w' (some b) ∧ w'.heap[b]? = some (rd s (i + 2) 0 0) := by
  obtain ⟨i1, hi1⟩ : ∃ i1, i1 = i + 1 := ⟨_, rfl⟩
  obtain ⟨i2, hi2⟩ : ∃ i2, i2 = i + 2 := ⟨_, rfl⟩
  have HP := hid (fun w h => peek_any s hs i1 (by omega) 0 0 b w h)
  first | rw [← hi2] | skip
  have hpk : pk s (i + 1) = pk s i1 := by rw [hi1]
  rw [hpk] at h
  rw [h] at HP
  have hw1 : IntKind.i64.wrap ((i : Int) + 1) = (i1 : Int) := by rw [IntKind.wrap_i64]; omega
  have hw2 : IntKind.i64.wrap ((i1 : Int) + 1) = (i2 : Int) := by rw [IntKind.wrap_i64]; omega
  have hc := block_cell hb
  have hf := block_free hb
  have hbl := block_lt hb
  have hb1 : (w.setCell ⟨b, 1, none⟩ (.int .i64 (i1 : Int))).heap[b]? = some (rd s i1 0 0) := heap_setCell_self hb 1 _
  clear hi1 hi2
  go_enter Tryd.func56, Tryd.ntmps56
  go_wp2_with (first | (go_at_call 48; with_reducible refine Calls.mono (HP.out _ hb1) ?_; rintro e w1 ⟨rfl, hbw⟩; have hb2 := below_heap hbw (block_lt hb1) hb1; have hc2 := block_cell hb2; have hf2 := block_free hb2; have hg2 := grown_trans (grown_set w b 1 _) (grown_below hbw); have hb3 : (w1.setCell ⟨b, 1, none⟩ (.int .i64 (i2 : Int))).heap[b]? = some (rd s i2 0 0) := heap_setCell_self hb2 1 _; have hg3 := grown_trans hg2 (grown_set w1 b 1 (.int .i64 (i2 : Int)))) | (go_at_call 52; with_reducible refine Calls.mono (fail_any s i2 i 6 b _ hb3) ?_; rintro e w2 ⟨rfl, hgf, hbf⟩; have hg4 := grown_trans hg3 hgf))
  go_ret
  exact ⟨rfl, hg3, hb3⟩
set_option maxHeartbeats 4000000 in
theorem esc_37 (s : ByteArray) (hs : s.size ≤ 140737488351232) (i : Nat) (hi : i ≤ s.size) (h : pk s (i + 1) = 37) (b : Nat) (w : World) (hb : w.heap[b]? = some (rd s i 0 0)) :
    Calls Tryd.prog 56 #[.pointer (some ⟨b, 0, none⟩)] w fun e w' => e = .returned (.int .i64 (37)) ∧ w.grownBy w' (some b) ∧ w'.heap[b]? = some (rd s (i + 2) 0 0) := by
  obtain ⟨i1, hi1⟩ : ∃ i1, i1 = i + 1 := ⟨_, rfl⟩
  obtain ⟨i2, hi2⟩ : ∃ i2, i2 = i + 2 := ⟨_, rfl⟩
  have HP := hid (fun w h => peek_any s hs i1 (by omega) 0 0 b w h)
  first | rw [← hi2] | skip
  have hpk : pk s (i + 1) = pk s i1 := by rw [hi1]
  rw [hpk] at h
  rw [h] at HP
  have hw1 : IntKind.i64.wrap ((i : Int) + 1) = (i1 : Int) := by rw [IntKind.wrap_i64]; omega
  have hw2 : IntKind.i64.wrap ((i1 : Int) + 1) = (i2 : Int) := by rw [IntKind.wrap_i64]; omega
  have hc := block_cell hb
  have hf := block_free hb
  have hbl := block_lt hb
  have hb1 : (w.setCell ⟨b, 1, none⟩ (.int .i64 (i1 : Int))).heap[b]? = some (rd s i1 0 0) := heap_setCell_self hb 1 _
  clear hi1 hi2
  go_enter Tryd.func56, Tryd.ntmps56
  go_wp2_with (first | (go_at_call 48; with_reducible refine Calls.mono (HP.out _ hb1) ?_; rintro e w1 ⟨rfl, hbw⟩; have hb2 := below_heap hbw (block_lt hb1) hb1; have hc2 := block_cell hb2; have hf2 := block_free hb2; have hg2 := grown_trans (grown_set w b 1 _) (grown_below hbw); have hb3 : (w1.setCell ⟨b, 1, none⟩ (.int .i64 (i2 : Int))).heap[b]? = some (rd s i2 0 0) := heap_setCell_self hb2 1 _; have hg3 := grown_trans hg2 (grown_set w1 b 1 (.int .i64 (i2 : Int)))) | (go_at_call 52; with_reducible refine Calls.mono (fail_any s i2 i 6 b _ hb3) ?_; rintro e w2 ⟨rfl, hgf, hbf⟩; have hg4 := grown_trans hg3 hgf))
  go_ret
  exact ⟨rfl, hg3, hb3⟩
set_option maxHeartbeats 4000000 in
theorem esc_other (s : ByteArray) (hs : s.size ≤ 140737488351232) (i : Nat) (hi : i ≤ s.size) (h : ¬ pk s (i + 1) = 110 ∧ ¬ pk s (i + 1) = 114 ∧ ¬ pk s (i + 1) = 116 ∧ spec (pk s (i + 1)) = false ∧ ¬ pk s (i + 1) = 120) (b : Nat) (w : World) (hb : w.heap[b]? = some (rd s i 0 0)) :
    Calls Tryd.prog 56 #[.pointer (some ⟨b, 0, none⟩)] w fun e w' => e = .returned (.int .i64 (0)) ∧ w.grownBy w' (some b) ∧ w'.heap[b]? = some (rd s (i + 2) i 6) := by
  obtain ⟨i1, hi1⟩ : ∃ i1, i1 = i + 1 := ⟨_, rfl⟩
  obtain ⟨i2, hi2⟩ : ∃ i2, i2 = i + 2 := ⟨_, rfl⟩
  have HP := hid (fun w h => peek_any s hs i1 (by omega) 0 0 b w h)
  first | rw [← hi2] | skip
  have hpk : pk s (i + 1) = pk s i1 := by rw [hi1]
  rw [hpk] at h
  generalize pk s i1 = z at *
  obtain ⟨h1, h2, h3, h4, h5⟩ := h
  simp only [spec, Bool.or_eq_false_iff] at h4
  obtain ⟨⟨⟨⟨⟨s1, s2⟩, s3⟩, s4⟩, s5⟩, s6⟩ := h4
  have b1 : (z == 110) = false := beq_eq_false_iff_ne.2 h1
  have b2 : (z == 114) = false := beq_eq_false_iff_ne.2 h2
  have b3 : (z == 116) = false := beq_eq_false_iff_ne.2 h3
  have b5 : (z == 120) = false := beq_eq_false_iff_ne.2 h5
  have hw1 : IntKind.i64.wrap ((i : Int) + 1) = (i1 : Int) := by rw [IntKind.wrap_i64]; omega
  have hw2 : IntKind.i64.wrap ((i1 : Int) + 1) = (i2 : Int) := by rw [IntKind.wrap_i64]; omega
  have hc := block_cell hb
  have hf := block_free hb
  have hbl := block_lt hb
  have hb1 : (w.setCell ⟨b, 1, none⟩ (.int .i64 (i1 : Int))).heap[b]? = some (rd s i1 0 0) := heap_setCell_self hb 1 _
  clear hi1 hi2
  go_enter Tryd.func56, Tryd.ntmps56
  go_wp2_with (first | (go_at_call 48; with_reducible refine Calls.mono (HP.out _ hb1) ?_; rintro e w1 ⟨rfl, hbw⟩; have hb2 := below_heap hbw (block_lt hb1) hb1; have hc2 := block_cell hb2; have hf2 := block_free hb2; have hg2 := grown_trans (grown_set w b 1 _) (grown_below hbw); have hb3 : (w1.setCell ⟨b, 1, none⟩ (.int .i64 (i2 : Int))).heap[b]? = some (rd s i2 0 0) := heap_setCell_self hb2 1 _; have hg3 := grown_trans hg2 (grown_set w1 b 1 (.int .i64 (i2 : Int)))) | (go_at_call 52; with_reducible refine Calls.mono (fail_any s i2 i 6 b _ hb3) ?_; rintro e w2 ⟨rfl, hgf, hbf⟩; have hg4 := grown_trans hg3 hgf))
  go_ret
  exact ⟨rfl, hg4, hbf⟩
set_option maxHeartbeats 4000000 in
theorem esc_x_end (s : ByteArray) (hs : s.size ≤ 140737488351232) (i : Nat) (hi : i ≤ s.size) (h : pk s (i + 1) = 120) (hx : ¬ i + 3 < s.size) (b : Nat) (w : World) (hb : w.heap[b]? = some (rd s i 0 0)) :
    Calls Tryd.prog 56 #[.pointer (some ⟨b, 0, none⟩)] w fun e w' => e = .returned (.int .i64 (0)) ∧ w.grownBy w' (some b) ∧ w'.heap[b]? = some (rd s (i + 2) i 6) := by
  obtain ⟨i1, hi1⟩ : ∃ i1, i1 = i + 1 := ⟨_, rfl⟩
  obtain ⟨i2, hi2⟩ : ∃ i2, i2 = i + 2 := ⟨_, rfl⟩
  have HP := hid (fun w h => peek_any s hs i1 (by omega) 0 0 b w h)
  first | rw [← hi2] | skip
  have hpk : pk s (i + 1) = pk s i1 := by rw [hi1]
  rw [hpk] at h
  rw [h] at HP
  obtain ⟨i3, hi3⟩ : ∃ i3, i3 = i + 3 := ⟨_, rfl⟩
  have hw3 : IntKind.i64.wrap ((i2 : Int) + 1) = (i3 : Int) := by rw [IntKind.wrap_i64]; omega
  have hd3 : ¬ i3 < s.size := by omega
  clear hi3
  have hw1 : IntKind.i64.wrap ((i : Int) + 1) = (i1 : Int) := by rw [IntKind.wrap_i64]; omega
  have hw2 : IntKind.i64.wrap ((i1 : Int) + 1) = (i2 : Int) := by rw [IntKind.wrap_i64]; omega
  have hc := block_cell hb
  have hf := block_free hb
  have hbl := block_lt hb
  have hb1 : (w.setCell ⟨b, 1, none⟩ (.int .i64 (i1 : Int))).heap[b]? = some (rd s i1 0 0) := heap_setCell_self hb 1 _
  clear hi1 hi2
  go_enter Tryd.func56, Tryd.ntmps56
  go_wp2_with (first | (go_at_call 48; with_reducible refine Calls.mono (HP.out _ hb1) ?_; rintro e w1 ⟨rfl, hbw⟩; have hb2 := below_heap hbw (block_lt hb1) hb1; have hc2 := block_cell hb2; have hf2 := block_free hb2; have hg2 := grown_trans (grown_set w b 1 _) (grown_below hbw); have hb3 : (w1.setCell ⟨b, 1, none⟩ (.int .i64 (i2 : Int))).heap[b]? = some (rd s i2 0 0) := heap_setCell_self hb2 1 _; have hg3 := grown_trans hg2 (grown_set w1 b 1 (.int .i64 (i2 : Int)))) | (go_at_call 52; with_reducible refine Calls.mono (fail_any s i2 i 6 b _ hb3) ?_; rintro e w2 ⟨rfl, hgf, hbf⟩; have hg4 := grown_trans hg3 hgf))
  go_quiet (fail)
  obtain ⟨w2, hw2⟩ : ∃ w2, (w1.setCell ⟨b, 1, none⟩ (.int .i64 (i2 : Int))).drewN nq = w2 := ⟨_, rfl⟩
  rw [hw2]
  have hb3 : w2.heap[b]? = some (rd s i2 0 0) := by rw [← hw2]; exact hb3
  have hg3 : w.grownBy w2 (some b) := by rw [← hw2]; exact grown_trans hg3 (grown_below (below_drewN (Below.refl _ _) _))
  clear hw2
  go_wp2_with (go_at_call 52; with_reducible refine Calls.mono (fail_any s i2 i 6 b _ hb3) ?_; rintro e w3 ⟨rfl, hgf, hbf⟩; have hg4 := grown_trans hg3 hgf)
  go_ret
  exact ⟨rfl, hg4, hbf⟩
set_option maxHeartbeats 4000000 in
theorem esc_x_yes (s : ByteArray) (hs : s.size ≤ 140737488351232) (i : Nat) (hi : i ≤ s.size) (h : pk s (i + 1) = 120) (hx : i + 3 < s.size) (x y : Int) (hH1 : hexd (pk s (i + 2)) = x) (hH2 : hexd (pk s (i + 3)) = y) (hp : 0 ≤ x ∧ 0 ≤ y) (b : Nat) (w : World) (hb : w.heap[b]? = some (rd s i 0 0)) :
    Calls Tryd.prog 56 #[.pointer (some ⟨b, 0, none⟩)] w fun e w' => e = .returned (.int .i64 (16 * x + y)) ∧ w.grownBy w' (some b) ∧ w'.heap[b]? = some (rd s (i + 4) 0 0) := by
  obtain ⟨i1, hi1⟩ : ∃ i1, i1 = i + 1 := ⟨_, rfl⟩
  obtain ⟨i2, hi2⟩ : ∃ i2, i2 = i + 2 := ⟨_, rfl⟩
  have HP := hid (fun w h => peek_any s hs i1 (by omega) 0 0 b w h)
  first | rw [← hi2] | skip
  have hpk : pk s (i + 1) = pk s i1 := by rw [hi1]
  rw [hpk] at h
  rw [h] at HP
  have hlt2 : i2 < s.size := by omega
  obtain ⟨i3, hi3⟩ : ∃ i3, i3 = i + 3 := ⟨_, rfl⟩
  obtain ⟨i4, hi4⟩ : ∃ i4, i4 = i + 4 := ⟨_, rfl⟩
  have hlt3 : i3 < s.size := by omega
  rw [← hi3] at hH2
  rw [← hi2] at hH1
  rw [pk_in hlt2] at hH1
  rw [pk_in hlt3] at hH2
  have hw3 : IntKind.i64.wrap ((i2 : Int) + 1) = (i3 : Int) := by rw [IntKind.wrap_i64]; omega
  have hw4 : IntKind.i64.wrap ((i2 : Int) + 2) = (i4 : Int) := by rw [IntKind.wrap_i64]; omega
  have hd3 : decide ((i3 : Int) < (s.size : Int)) = true := decide_eq_true (by omega)
  have q1 : 0 ≤ (s[i2].toNat : Int) ∧ (s[i2].toNat : Int) < 256 := by have := s[i2].toNat_lt; omega
  have q2 : 0 ≤ (s[i3].toNat : Int) ∧ (s[i3].toNat : Int) < 256 := by have := s[i3].toNat_lt; omega
  have r1 := hexd_range (s[i2].toNat : Int)
  have r2 := hexd_range (s[i3].toNat : Int)
  rw [← hi4]
  have e1 : decide (0 ≤ x) = true := decide_eq_true hp.1
  have e2 : decide (0 ≤ y) = true := decide_eq_true hp.2
  have m1 : IntKind.i64.wrap (16 * x) = 16 * x := by rw [IntKind.wrap_i64]; omega
  have m2 : IntKind.i64.wrap (16 * x + y) = 16 * x + y := by rw [IntKind.wrap_i64]; omega
  clear hi3 hi4
  have hw1 : IntKind.i64.wrap ((i : Int) + 1) = (i1 : Int) := by rw [IntKind.wrap_i64]; omega
  have hw2 : IntKind.i64.wrap ((i1 : Int) + 1) = (i2 : Int) := by rw [IntKind.wrap_i64]; omega
  have hc := block_cell hb
  have hf := block_free hb
  have hbl := block_lt hb
  have hb1 : (w.setCell ⟨b, 1, none⟩ (.int .i64 (i1 : Int))).heap[b]? = some (rd s i1 0 0) := heap_setCell_self hb 1 _
  clear hi1 hi2
  go_enter Tryd.func56, Tryd.ntmps56
  go_wp2_with (first | (go_at_call 48; with_reducible refine Calls.mono (HP.out _ hb1) ?_; rintro e w1 ⟨rfl, hbw⟩; have hb2 := below_heap hbw (block_lt hb1) hb1; have hc2 := block_cell hb2; have hf2 := block_free hb2; have hg2 := grown_trans (grown_set w b 1 _) (grown_below hbw); have hb3 : (w1.setCell ⟨b, 1, none⟩ (.int .i64 (i2 : Int))).heap[b]? = some (rd s i2 0 0) := heap_setCell_self hb2 1 _; have hg3 := grown_trans hg2 (grown_set w1 b 1 (.int .i64 (i2 : Int)))) | (go_at_call 52; with_reducible refine Calls.mono (fail_any s i2 i 6 b _ hb3) ?_; rintro e w2 ⟨rfl, hgf, hbf⟩; have hg4 := grown_trans hg3 hgf))
  go_quiet (fail)
  obtain ⟨w2, hw2⟩ : ∃ w2, (w1.setCell ⟨b, 1, none⟩ (.int .i64 (i2 : Int))).drewN nq = w2 := ⟨_, rfl⟩
  rw [hw2]
  have hb3 : w2.heap[b]? = some (rd s i2 0 0) := by rw [← hw2]; exact hb3
  have hg3 : w.grownBy w2 (some b) := by rw [← hw2]; exact grown_trans hg3 (grown_below (below_drewN (Below.refl _ _) _))
  clear hw2 hb1 hb2 hc2 hf2 hg2 hbw hc hf hb HP hpk
  have hc3 := block_cell hb3
  go_wp2
  go_quiet ((go_at_call 57; exact Calls.quiet_of_same (hexDigit_any _ (by omega) (by omega) _)))
  obtain ⟨w4, hw4⟩ : ∃ w4, w2.drewN nq = w4 := ⟨_, rfl⟩
  rw [hw4]
  have hb5 : w4.heap[b]? = some (rd s i2 0 0) := by rw [← hw4]; exact hb3
  have hg5 : w.grownBy w4 (some b) := by rw [← hw4]; exact grown_trans hg3 (grown_below (below_drewN (Below.refl _ _) _))
  clear hw4 hb3 hg3 hc3
  have hc5 := block_cell hb5
  have hf5 := block_free hb5
  have hb6 : (w4.setCell ⟨b, 1, none⟩ (.int .i64 (i4 : Int))).heap[b]? = some (rd s i4 0 0) := heap_setCell_self hb5 1 _
  have hg6 := grown_trans hg5 (grown_set w4 b 1 (.int .i64 (i4 : Int)))
  go_wp2
  go_ret
  exact ⟨rfl, hg6, hb6⟩
set_option maxHeartbeats 4000000 in
theorem esc_x_no1 (s : ByteArray) (hs : s.size ≤ 140737488351232) (i : Nat) (hi : i ≤ s.size) (h : pk s (i + 1) = 120) (hx : i + 3 < s.size) (x y : Int) (hH1 : hexd (pk s (i + 2)) = x) (hH2 : hexd (pk s (i + 3)) = y) (hp : ¬ 0 ≤ x) (b : Nat) (w : World) (hb : w.heap[b]? = some (rd s i 0 0)) :
    Calls Tryd.prog 56 #[.pointer (some ⟨b, 0, none⟩)] w fun e w' => e = .returned (.int .i64 (0)) ∧ w.grownBy w' (some b) ∧ w'.heap[b]? = some (rd s (i + 2) i 6) := by
  obtain ⟨i1, hi1⟩ : ∃ i1, i1 = i + 1 := ⟨_, rfl⟩
  obtain ⟨i2, hi2⟩ : ∃ i2, i2 = i + 2 := ⟨_, rfl⟩
  have HP := hid (fun w h => peek_any s hs i1 (by omega) 0 0 b w h)
  first | rw [← hi2] | skip
  have hpk : pk s (i + 1) = pk s i1 := by rw [hi1]
  rw [hpk] at h
  rw [h] at HP
  have hlt2 : i2 < s.size := by omega
  obtain ⟨i3, hi3⟩ : ∃ i3, i3 = i + 3 := ⟨_, rfl⟩
  obtain ⟨i4, hi4⟩ : ∃ i4, i4 = i + 4 := ⟨_, rfl⟩
  have hlt3 : i3 < s.size := by omega
  rw [← hi3] at hH2
  rw [← hi2] at hH1
  rw [pk_in hlt2] at hH1
  rw [pk_in hlt3] at hH2
  have hw3 : IntKind.i64.wrap ((i2 : Int) + 1) = (i3 : Int) := by rw [IntKind.wrap_i64]; omega
  have hw4 : IntKind.i64.wrap ((i2 : Int) + 2) = (i4 : Int) := by rw [IntKind.wrap_i64]; omega
  have hd3 : decide ((i3 : Int) < (s.size : Int)) = true := decide_eq_true (by omega)
  have q1 : 0 ≤ (s[i2].toNat : Int) ∧ (s[i2].toNat : Int) < 256 := by have := s[i2].toNat_lt; omega
  have q2 : 0 ≤ (s[i3].toNat : Int) ∧ (s[i3].toNat : Int) < 256 := by have := s[i3].toNat_lt; omega
  have r1 := hexd_range (s[i2].toNat : Int)
  have r2 := hexd_range (s[i3].toNat : Int)
  have e1 : decide (0 ≤ x) = false := decide_eq_false hp
  clear hi3 hi4
  have hw1 : IntKind.i64.wrap ((i : Int) + 1) = (i1 : Int) := by rw [IntKind.wrap_i64]; omega
  have hw2 : IntKind.i64.wrap ((i1 : Int) + 1) = (i2 : Int) := by rw [IntKind.wrap_i64]; omega
  have hc := block_cell hb
  have hf := block_free hb
  have hbl := block_lt hb
  have hb1 : (w.setCell ⟨b, 1, none⟩ (.int .i64 (i1 : Int))).heap[b]? = some (rd s i1 0 0) := heap_setCell_self hb 1 _
  clear hi1 hi2
  go_enter Tryd.func56, Tryd.ntmps56
  go_wp2_with (first | (go_at_call 48; with_reducible refine Calls.mono (HP.out _ hb1) ?_; rintro e w1 ⟨rfl, hbw⟩; have hb2 := below_heap hbw (block_lt hb1) hb1; have hc2 := block_cell hb2; have hf2 := block_free hb2; have hg2 := grown_trans (grown_set w b 1 _) (grown_below hbw); have hb3 : (w1.setCell ⟨b, 1, none⟩ (.int .i64 (i2 : Int))).heap[b]? = some (rd s i2 0 0) := heap_setCell_self hb2 1 _; have hg3 := grown_trans hg2 (grown_set w1 b 1 (.int .i64 (i2 : Int)))) | (go_at_call 52; with_reducible refine Calls.mono (fail_any s i2 i 6 b _ hb3) ?_; rintro e w2 ⟨rfl, hgf, hbf⟩; have hg4 := grown_trans hg3 hgf))
  go_quiet (fail)
  obtain ⟨w2, hw2⟩ : ∃ w2, (w1.setCell ⟨b, 1, none⟩ (.int .i64 (i2 : Int))).drewN nq = w2 := ⟨_, rfl⟩
  rw [hw2]
  have hb3 : w2.heap[b]? = some (rd s i2 0 0) := by rw [← hw2]; exact hb3
  have hg3 : w.grownBy w2 (some b) := by rw [← hw2]; exact grown_trans hg3 (grown_below (below_drewN (Below.refl _ _) _))
  clear hw2 hb1 hb2 hc2 hf2 hg2 hbw hc hf hb HP hpk
  have hc3 := block_cell hb3
  go_wp2
  go_quiet ((go_at_call 57; exact Calls.quiet_of_same (hexDigit_any _ (by omega) (by omega) _)))
  obtain ⟨w4, hw4⟩ : ∃ w4, w2.drewN nq = w4 := ⟨_, rfl⟩
  rw [hw4]
  have hb5 : w4.heap[b]? = some (rd s i2 0 0) := by rw [← hw4]; exact hb3
  have hg5 : w.grownBy w4 (some b) := by rw [← hw4]; exact grown_trans hg3 (grown_below (below_drewN (Below.refl _ _) _))
  clear hw4 hb3 hg3 hc3
  have hc5 := block_cell hb5
  have hf5 := block_free hb5
  go_wp2_with (go_at_call 52; with_reducible refine Calls.mono (fail_any s i2 i 6 b _ hb5) ?_; rintro e w3 ⟨rfl, hgf, hbf⟩; have hg4 := grown_trans hg5 hgf)
  go_ret
  exact ⟨rfl, hg4, hbf⟩
set_option maxHeartbeats 4000000 in
theorem esc_x_no2 (s : ByteArray) (hs : s.size ≤ 140737488351232) (i : Nat) (hi : i ≤ s.size) (h : pk s (i + 1) = 120) (hx : i + 3 < s.size) (x y : Int) (hH1 : hexd (pk s (i + 2)) = x) (hH2 : hexd (pk s (i + 3)) = y) (hp0 : 0 ≤ x) (hp : ¬ 0 ≤ y) (b : Nat) (w : World) (hb : w.heap[b]? = some (rd s i 0 0)) :
    Calls Tryd.prog 56 #[.pointer (some ⟨b, 0, none⟩)] w fun e w' => e = .returned (.int .i64 (0)) ∧ w.grownBy w' (some b) ∧ w'.heap[b]? = some (rd s (i + 2) i 6) := by
  obtain ⟨i1, hi1⟩ : ∃ i1, i1 = i + 1 := ⟨_, rfl⟩
  obtain ⟨i2, hi2⟩ : ∃ i2, i2 = i + 2 := ⟨_, rfl⟩
  have HP := hid (fun w h => peek_any s hs i1 (by omega) 0 0 b w h)
  first | rw [← hi2] | skip
  have hpk : pk s (i + 1) = pk s i1 := by rw [hi1]
  rw [hpk] at h
  rw [h] at HP
  have hlt2 : i2 < s.size := by omega
  obtain ⟨i3, hi3⟩ : ∃ i3, i3 = i + 3 := ⟨_, rfl⟩
  obtain ⟨i4, hi4⟩ : ∃ i4, i4 = i + 4 := ⟨_, rfl⟩
  have hlt3 : i3 < s.size := by omega
  rw [← hi3] at hH2
  rw [← hi2] at hH1
  rw [pk_in hlt2] at hH1
  rw [pk_in hlt3] at hH2
  have hw3 : IntKind.i64.wrap ((i2 : Int) + 1) = (i3 : Int) := by rw [IntKind.wrap_i64]; omega
  have hw4 : IntKind.i64.wrap ((i2 : Int) + 2) = (i4 : Int) := by rw [IntKind.wrap_i64]; omega
  have hd3 : decide ((i3 : Int) < (s.size : Int)) = true := decide_eq_true (by omega)
  have q1 : 0 ≤ (s[i2].toNat : Int) ∧ (s[i2].toNat : Int) < 256 := by have := s[i2].toNat_lt; omega
  have q2 : 0 ≤ (s[i3].toNat : Int) ∧ (s[i3].toNat : Int) < 256 := by have := s[i3].toNat_lt; omega
  have r1 := hexd_range (s[i2].toNat : Int)
  have r2 := hexd_range (s[i3].toNat : Int)
  have e1 : decide (0 ≤ x) = true := decide_eq_true hp0
  have e2 : decide (0 ≤ y) = false := decide_eq_false hp
  clear hi3 hi4
  have hw1 : IntKind.i64.wrap ((i : Int) + 1) = (i1 : Int) := by rw [IntKind.wrap_i64]; omega
  have hw2 : IntKind.i64.wrap ((i1 : Int) + 1) = (i2 : Int) := by rw [IntKind.wrap_i64]; omega
  have hc := block_cell hb
  have hf := block_free hb
  have hbl := block_lt hb
  have hb1 : (w.setCell ⟨b, 1, none⟩ (.int .i64 (i1 : Int))).heap[b]? = some (rd s i1 0 0) := heap_setCell_self hb 1 _
  clear hi1 hi2
  go_enter Tryd.func56, Tryd.ntmps56
  go_wp2_with (first | (go_at_call 48; with_reducible refine Calls.mono (HP.out _ hb1) ?_; rintro e w1 ⟨rfl, hbw⟩; have hb2 := below_heap hbw (block_lt hb1) hb1; have hc2 := block_cell hb2; have hf2 := block_free hb2; have hg2 := grown_trans (grown_set w b 1 _) (grown_below hbw); have hb3 : (w1.setCell ⟨b, 1, none⟩ (.int .i64 (i2 : Int))).heap[b]? = some (rd s i2 0 0) := heap_setCell_self hb2 1 _; have hg3 := grown_trans hg2 (grown_set w1 b 1 (.int .i64 (i2 : Int)))) | (go_at_call 52; with_reducible refine Calls.mono (fail_any s i2 i 6 b _ hb3) ?_; rintro e w2 ⟨rfl, hgf, hbf⟩; have hg4 := grown_trans hg3 hgf))
  go_quiet (fail)
  obtain ⟨w2, hw2⟩ : ∃ w2, (w1.setCell ⟨b, 1, none⟩ (.int .i64 (i2 : Int))).drewN nq = w2 := ⟨_, rfl⟩
  rw [hw2]
  have hb3 : w2.heap[b]? = some (rd s i2 0 0) := by rw [← hw2]; exact hb3
  have hg3 : w.grownBy w2 (some b) := by rw [← hw2]; exact grown_trans hg3 (grown_below (below_drewN (Below.refl _ _) _))
  clear hw2 hb1 hb2 hc2 hf2 hg2 hbw hc hf hb HP hpk
  have hc3 := block_cell hb3
  go_wp2
  go_quiet ((go_at_call 57; exact Calls.quiet_of_same (hexDigit_any _ (by omega) (by omega) _)))
  obtain ⟨w4, hw4⟩ : ∃ w4, w2.drewN nq = w4 := ⟨_, rfl⟩
  rw [hw4]
  have hb5 : w4.heap[b]? = some (rd s i2 0 0) := by rw [← hw4]; exact hb3
  have hg5 : w.grownBy w4 (some b) := by rw [← hw4]; exact grown_trans hg3 (grown_below (below_drewN (Below.refl _ _) _))
  clear hw4 hb3 hg3 hc3
  have hc5 := block_cell hb5
  have hf5 := block_free hb5
  go_wp2_with (go_at_call 52; with_reducible refine Calls.mono (fail_any s i2 i 6 b _ hb5) ?_; rintro e w3 ⟨rfl, hgf, hbf⟩; have hg4 := grown_trans hg5 hgf)
  go_ret
  exact ⟨rfl, hg4, hbf⟩

end Go.Proofs.YtjbdamedofgdgaaDoor
