/-
  charset's reader of class texts: escaped, item and member: what each returns and what it leaves in the reader.
-/
import Derived.Test.YtjbdamedofgdgaaDoorReader
import Derived.Test.YtjbdamedofgdgaaDoorClassR
namespace Go.Proofs.YtjbdamedofgdgaaDoor
open Go.RowKit
set_option linter.unusedVariables false
set_option linter.unusedSimpArgs false

theorem escaped_any (s : ByteArray) (hs : s.size ≤ 140737488351232) (i : Nat) (hi : i ≤ s.size) (b : Nat) (w : World) (hb : w.heap[b]? = some (rd s i 0 0)) :
    Calls Tryd.prog 56 #[.pointer (some ⟨b, 0, none⟩)] w fun e w' => e = .returned (.int .i64 ((escR s i).1)) ∧ w.grownBy w' (some b) ∧ w'.heap[b]? = some (rdR s i (escR s i)) := by
  by_cases h1 : pk s (i + 1) = 110
  · have E : escR s i = (10, i + 2, true) := by unfold escR; rw [if_pos h1]
    rw [E]; exact esc_110 s hs i hi h1 b w hb
  by_cases h2 : pk s (i + 1) = 114
  · have E : escR s i = (13, i + 2, true) := by unfold escR; rw [if_neg h1, if_pos h2]
    rw [E]; exact esc_114 s hs i hi h2 b w hb
  by_cases h3 : pk s (i + 1) = 116
  · have E : escR s i = (9, i + 2, true) := by unfold escR; rw [if_neg h1, if_neg h2, if_pos h3]
    rw [E]; exact esc_116 s hs i hi h3 b w hb
  by_cases h4 : spec (pk s (i + 1)) = true
  · have E : escR s i = (pk s (i + 1), i + 2, true) := by unfold escR; rw [if_neg h1, if_neg h2, if_neg h3, if_pos h4]
    rw [E]
    rcases spec_cases h4 with h | h | h | h | h | h
    · simp only [h]; exact esc_92 s hs i hi h b w hb
    · simp only [h]; exact esc_93 s hs i hi h b w hb
    · simp only [h]; exact esc_91 s hs i hi h b w hb
    · simp only [h]; exact esc_94 s hs i hi h b w hb
    · simp only [h]; exact esc_45 s hs i hi h b w hb
    · simp only [h]; exact esc_37 s hs i hi h b w hb
  by_cases h5 : pk s (i + 1) = 120
  · by_cases hx : i + 3 < s.size
    · by_cases p1 : 0 ≤ hexd (pk s (i + 2))
      · by_cases p2 : 0 ≤ hexd (pk s (i + 3))
        · have E : escR s i = (16 * hexd (pk s (i + 2)) + hexd (pk s (i + 3)), i + 4, true) := by unfold escR; rw [if_neg h1, if_neg h2, if_neg h3, if_neg h4, if_pos ⟨h5, hx, p1, p2⟩]
          rw [E]; exact esc_x_yes s hs i hi h5 hx _ _ rfl rfl ⟨p1, p2⟩ b w hb
        · have E : escR s i = (0, i + 2, false) := by unfold escR; rw [if_neg h1, if_neg h2, if_neg h3, if_neg h4, if_neg (fun h => p2 h.2.2.2)]
          rw [E]; exact esc_x_no2 s hs i hi h5 hx _ _ rfl rfl p1 p2 b w hb
      · have E : escR s i = (0, i + 2, false) := by unfold escR; rw [if_neg h1, if_neg h2, if_neg h3, if_neg h4, if_neg (fun h => p1 h.2.2.1)]
        rw [E]; exact esc_x_no1 s hs i hi h5 hx _ _ rfl rfl p1 b w hb
    · have E : escR s i = (0, i + 2, false) := by unfold escR; rw [if_neg h1, if_neg h2, if_neg h3, if_neg h4, if_neg (fun h => hx h.2.1)]
      rw [E]; exact esc_x_end s hs i hi h5 hx b w hb
  · have E : escR s i = (0, i + 2, false) := by unfold escR; rw [if_neg h1, if_neg h2, if_neg h3, if_neg h4, if_neg (fun h => h5 h.1)]
    rw [E]; exact esc_other s hs i hi ⟨h1, h2, h3, by simpa using h4, h5⟩ b w hb

set_option maxHeartbeats 4000000 in
theorem item_any (s : ByteArray) (hs : s.size ≤ 140737488351232) (i : Nat) (hi : i ≤ s.size) (b : Nat) (w : World) (hb : w.heap[b]? = some (rd s i 0 0)) :
    Calls Tryd.prog 53 #[.pointer (some ⟨b, 0, none⟩)] w fun e w' => e = .returned (.int .i64 ((itemR s i).1)) ∧ w.grownBy w' (some b) ∧ w'.heap[b]? = some (rdR s i (itemR s i)) := by
  have HP := hid (peek_any s hs i (by omega) 0 0 b w hb)
  have HE := hid (fun w' h => escaped_any s hs i hi b w' h)
  have hr := pk_range s i
  unfold itemR
  by_cases h1 : pk s i = 92
  · rw [if_pos h1]
    rw [h1] at HP
    clear h1 hr
    go_enter Tryd.func53, Tryd.ntmps53
    go_wp2_with (first | (go_at_call 48; with_reducible refine Calls.mono HP.out ?_; rintro e w1 ⟨rfl, hbw⟩; have hb1 := below_heap hbw (block_lt hb) hb) | (go_at_call 56; with_reducible refine Calls.mono (HE.out _ hb1) ?_; rintro e w2 ⟨rfl, hg2, hb2⟩))
    go_ret
    exact ⟨rfl, grown_trans (grown_below hbw) hg2, hb2⟩
  · rw [if_neg h1]
    by_cases h2 : noItem (pk s i) = true
    · rw [if_pos h2]
      have HN := hid h2
      clear h2
      have e1 : (pk s i == 92) = false := by simpa using h1
      clear h1
      generalize pk s i = z at *
      go_enter Tryd.func53, Tryd.ntmps53
      go_wp2_with (first | (go_at_call 48; with_reducible refine Calls.mono HP.out ?_; rintro e w1 ⟨rfl, hbw⟩; have hb1 := below_heap hbw (block_lt hb) hb; have hc1 := block_cell hb1) | (go_at_call 52; with_reducible refine Calls.mono (fail_any s i i 6 b _ hb1) ?_; rintro e w2 ⟨rfl, hg2, hb2⟩))
      all_goals first | (go_ret; exact ⟨rfl, grown_trans (grown_below hbw) hg2, hb2⟩) | (exfalso; have H := HN.out; simp_all [noItem]; omega)
    · rw [if_neg h2]
      have n1 : decide (pk s i < 32) = false := by simp only [noItem, Bool.or_eq_true, not_or] at h2; simpa using h2.1.1.1.1
      have n2 : decide (126 < pk s i) = false := by simp only [noItem, Bool.or_eq_true, not_or] at h2; simpa using h2.1.1.1.2
      have n3 : (pk s i == 93) = false := by simp only [noItem, Bool.or_eq_true, not_or] at h2; simpa using h2.1.1.2
      have n4 : (pk s i == 45) = false := by simp only [noItem, Bool.or_eq_true, not_or] at h2; simpa using h2.1.2
      have n5 : (pk s i == 37) = false := by simp only [noItem, Bool.or_eq_true, not_or] at h2; simpa using h2.2
      have e1 : (pk s i == 92) = false := by simpa using h1
      clear h1 h2
      obtain ⟨i1, hi1⟩ : ∃ i1, i1 = i + 1 := ⟨_, rfl⟩
      have hw1 : IntKind.i64.wrap ((i : Int) + 1) = (i1 : Int) := by rw [IntKind.wrap_i64]; omega
      rw [← hi1]
      clear hi1
      generalize pk s i = z at *
      go_enter Tryd.func53, Tryd.ntmps53
      go_wp2_with (first | (go_at_call 48; with_reducible refine Calls.mono HP.out ?_; rintro e w1 ⟨rfl, hbw⟩; have hb1 := below_heap hbw (block_lt hb) hb; have hc1 := block_cell hb1; have hf1 := block_free hb1; have hb2 : (w1.setCell ⟨b, 1, none⟩ (.int .i64 (i1 : Int))).heap[b]? = some (rd s i1 0 0) := heap_setCell_self hb1 1 _))
      go_ret
      exact ⟨rfl, grown_trans (grown_below hbw) (grown_set w1 b 1 (.int .i64 (i1 : Int))), hb2⟩

end Go.Proofs.YtjbdamedofgdgaaDoor
