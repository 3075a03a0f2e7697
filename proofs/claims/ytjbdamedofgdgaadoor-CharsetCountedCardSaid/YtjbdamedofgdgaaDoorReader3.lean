/-
  charset's reader of class texts: member: what it returns and what it leaves in the reader.
-/
import Derived.Test.YtjbdamedofgdgaaDoorReader2
namespace Go.Proofs.YtjbdamedofgdgaaDoor
open Go.RowKit
set_option linter.unusedVariables false
set_option linter.unusedSimpArgs false
/-- What a member leaves in the reader. -/
def MemLeft (s : ByteArray) (i b : Nat) (q : Nat → Bool) (w : World) : Prop :=
  match memR s i with
  | .ok (P, n) => q = P ∧ w.heap[b]? = some (rd s n 0 0)
  | .error (a, c) => ∃ n, n ≤ s.size + 4 ∧ w.heap[b]? = some (rd s n a c)
theorem MemLeft.ok {s : ByteArray} {i b n : Nat} {q : Nat → Bool} {w : World} (h : memR s i = .ok (q, n)) (hb : w.heap[b]? = some (rd s n 0 0)) : MemLeft s i b q w := by
  unfold MemLeft; rw [h]; exact ⟨rfl, hb⟩
theorem MemLeft.bad {s : ByteArray} {i b n a : Nat} {c : Int} {q : Nat → Bool} {w : World} (h : memR s i = .error (a, c)) (hn : n ≤ s.size + 4) (hb : w.heap[b]? = some (rd s n a c)) : MemLeft s i b q w := by
  unfold MemLeft; rw [h]; exact ⟨n, hn, hb⟩
def MemPost (s : ByteArray) (i b : Nat) (w : World) (e : Ending) (w' : World) : Prop :=
  ∃ q, e = .returned (.agg #[.int .u64 (W q 0), .int .u64 (W q 1), .int .u64 (W q 2), .int .u64 (W q 3)]) ∧ w.grownBy w' (some b) ∧ MemLeft s i b q w'
theorem keep {a b : World} (h : Below a.heap.size a b) {k : Nat} {x : Obj} (hx : a.heap[k]? = some x) : b.heap[k]? = some x := below_heap h (block_lt hx) hx
theorem alloc_new_at {a : World} {n : Nat} (x : Obj) (h : n = a.heap.size) : (a.alloc x).heap[n]? = some x := by subst h; exact alloc_new a x
theorem setCell_size (a : World) (p : Addr) (v : Value) : (a.setCell p v).heap.size = a.heap.size := by simp [World.setCell]
theorem grown_up {a b c : World} {row : Option Nat} {r : Nat} (h : a.grownBy b row) (k : b.grownBy c (some r)) (hr : a.heap.size ≤ r) : a.grownBy c row :=
  ⟨k.os.trans h.os, k.tape.trans h.tape, k.output.trans h.output, Nat.le_trans h.size k.size, fun i hi hn => (k.block i (Nat.lt_of_lt_of_le hi h.size) (fun e => by injection e; omega)).trans (h.block i hi hn)⟩
theorem set4_ne {w : World} {b c : Nat} {x : Option Obj} (h : w.heap[c]? = x) (hne : c ≠ b) (y0 y1 y2 y3 : Value) :
    ((((w.setCell ⟨b, 0, none⟩ y0).setCell ⟨b, 1, none⟩ y1).setCell ⟨b, 2, none⟩ y2).setCell ⟨b, 3, none⟩ y3).heap[c]? = x :=
  (heap_setCell_ne _ _ _ hne).trans ((heap_setCell_ne _ _ _ hne).trans ((heap_setCell_ne _ _ _ hne).trans ((heap_setCell_ne _ _ _ hne).trans h)))
theorem grown_set4 {w0 w : World} {b : Nat} {row : Option Nat} (h : w0.grownBy w row) (hb : w0.heap.size ≤ b) (y0 y1 y2 y3 : Value) :
    w0.grownBy ((((w.setCell ⟨b, 0, none⟩ y0).setCell ⟨b, 1, none⟩ y1).setCell ⟨b, 2, none⟩ y2).setCell ⟨b, 3, none⟩ y3) row :=
  grown_up (grown_up (grown_up (grown_up h (grown_set _ _ _ _) hb) (grown_set _ _ _ _) hb) (grown_set _ _ _ _) hb) (grown_set _ _ _ _) hb
theorem grown_alloc (a : World) (x : Obj) (row : Option Nat) : a.grownBy (a.alloc x) row := grown_below ((Below.refl _ _).alloc (Nat.le_refl _) _)

set_option maxHeartbeats 8000000 in
theorem member_cls_yes (s : ByteArray) (hs : s.size ≤ 140737488351232) (i : Nat) (hi : i ≤ s.size) (h : pk s i = 37) (k : Nat) (hk : pk s (i + 1) = (k : Int)) (hcE : classE k = 0) (b : Nat) (w : World) (hb : w.heap[b]? = some (rd s i 0 0)) :
    Calls Tryd.prog 49 #[.pointer (some ⟨b, 0, none⟩)] w (MemPost s i b w) := by
  have hb0 : (w.alloc (.cells #[.int .u64 0, .int .u64 0, .int .u64 0, .int .u64 0] 24)).heap[b]? = some (rd s i 0 0) := alloc_old hb
  have hbl := block_lt hb
  have hcb := block_cell hb
  have hcb0 := block_cell hb0
  have HP := hid (peek_any s hs i (by omega) 0 0 b _ hb0)
  obtain ⟨i1, hi1⟩ : ∃ i1, i1 = i + 1 := ⟨_, rfl⟩
  obtain ⟨i2, hi2⟩ : ∃ i2, i2 = i + 2 := ⟨_, rfl⟩
  have hw1 : IntKind.i64.wrap ((i : Int) + 1) = (i1 : Int) := by rw [IntKind.wrap_i64]; omega
  have hw2 : IntKind.i64.wrap ((i1 : Int) + 1) = (i2 : Int) := by rw [IntKind.wrap_i64]; omega
  have hi2b : i2 ≤ s.size + 4 := by omega
  have HQ := hid (fun w' h => peek_any s hs i1 (by omega) 0 0 b w' h)
  rw [h] at HP
  rw [← hi1] at hk
  have hk8 : k < 256 := by have := pk_range s i1; omega
  have hw8 : IntKind.u8.wrap (k : Int) = (k : Int) := by rw [IntKind.wrap_u8]; omega
  have hdk : decide (0 ≤ (k : Int)) = true := decide_eq_true (by omega)
  have HM := hid (show memR s i = .ok (classP k, i2) by unfold memR; rw [if_pos h, ← hi1, hk, if_pos ⟨by omega, by simpa using hcE⟩, hi2]; rfl)
  rw [hk] at HQ
  clear hk
  clear hi1 hi2
  go_enter Tryd.func49, Tryd.ntmps49
  go_wp2_with (first | (go_at_call 48; (with_reducible refine Calls.mono HP.out ?_); rintro e w1 ⟨rfl, hbw⟩; have hb1 := keep hbw hb0; have hc1 := block_cell hb1; have hf1 := block_free hb1; have hb2 : (w1.setCell ⟨b, 1, none⟩ (.int .i64 (i1 : Int))).heap[b]? = some (rd s i1 0 0) := heap_setCell_self hb1 1 _; have hR1 := keep hbw (alloc_new w _); have hg1 := grown_trans (grown_alloc w (.cells #[.int .u64 0, .int .u64 0, .int .u64 0, .int .u64 0] 24) (some b)) (grown_below hbw); have hbne : w.heap.size ≠ b := by omega) | (go_at_call 48; (with_reducible refine Calls.mono (HQ.out _ (alloc_old hb2)) ?_); rintro e w2 ⟨rfl, hbw2⟩; have hb3 := keep hbw2 (alloc_old hb2); have hR2 := keep hbw2 (alloc_old ((heap_setCell_ne (w := w1) _ _ _ hbne).trans hR1)); have hT2 := keep hbw2 (alloc_new_at (a := w1.setCell ⟨b, 1, none⟩ (.int .i64 (i1 : Int))) (.cells #[.int .u64 0, .int .u64 0, .int .u64 0, .int .u64 0] 24) (setCell_size w1 _ _).symm); have hg2 := grown_trans (grown_trans hg1 (grown_set w1 b 1 _)) (grown_trans (grown_alloc _ _ _) (grown_below hbw2))) | (go_at_call 51; (with_reducible refine Calls.mono (class_any k hk8 _) ?_); rintro e w3 ⟨rfl, hbw3⟩; have hb4 := keep hbw3 hb3; have hR3 := keep hbw3 hR2; have hT3 := keep hbw3 hT2; have hf3 := block_free hT3; have hc3 := block_cell hT3; have hg3 := grown_trans hg2 (grown_below hbw3); have hT4 := set4 hT3 (.int .u64 (W (classP k) 0)) (.int .u64 (W (classP k) 1)) (.int .u64 (W (classP k) 2)) (.int .u64 (W (classP k) 3)); have hb5 := set4_ne hb4 (Nat.ne_of_lt (block_lt hb1)) (.int .u64 (W (classP k) 0)) (.int .u64 (W (classP k) 1)) (.int .u64 (W (classP k) 2)) (.int .u64 (W (classP k) 3)); have hR4 := set4_ne hR3 (Nat.ne_of_lt (block_lt hR1)) (.int .u64 (W (classP k) 0)) (.int .u64 (W (classP k) 1)) (.int .u64 (W (classP k) 2)) (.int .u64 (W (classP k) 3)); have hcb5 := block_cell hb5; have hfb5 := block_free hb5; have hg5 := grown_set4 hg3 (Nat.le_of_lt (block_lt hR1)) (.int .u64 (W (classP k) 0)) (.int .u64 (W (classP k) 1)) (.int .u64 (W (classP k) 2)) (.int .u64 (W (classP k) 3)); have hb6 : (((((w3.setCell ⟨w1.heap.size, 0, none⟩ (.int .u64 (W (classP k) 0))).setCell ⟨w1.heap.size, 1, none⟩ (.int .u64 (W (classP k) 1))).setCell ⟨w1.heap.size, 2, none⟩ (.int .u64 (W (classP k) 2))).setCell ⟨w1.heap.size, 3, none⟩ (.int .u64 (W (classP k) 3))).setCell ⟨b, 1, none⟩ (.int .i64 (i2 : Int))).heap[b]? = some (rd s i2 0 0) := heap_setCell_self hb5 1 _; have hT5 := (heap_setCell_ne 1 _ (.int .i64 (i2 : Int)) (Ne.symm (Nat.ne_of_lt (block_lt hb1)))).trans hT4; have hR5 := (heap_setCell_ne 1 _ (.int .i64 (i2 : Int)) hbne).trans hR4; have hcT5 := block_cell hT5; have hcR5 := block_cell hR5; have hfR5 := block_free hR5; have hg6 := grown_trans hg5 (grown_set _ b 1 (.int .i64 (i2 : Int)))))
  have hR6 := set4 hR5 (.int .u64 (W (classP k) 0)) (.int .u64 (W (classP k) 1)) (.int .u64 (W (classP k) 2)) (.int .u64 (W (classP k) 3))
  have hfc := block_cell hR6
  have hb7 := set4_ne hb6 (Ne.symm hbne) (.int .u64 (W (classP k) 0)) (.int .u64 (W (classP k) 1)) (.int .u64 (W (classP k) 2)) (.int .u64 (W (classP k) 3))
  have hg7 := grown_set4 hg6 (Nat.le_refl w.heap.size) (.int .u64 (W (classP k) 0)) (.int .u64 (W (classP k) 1)) (.int .u64 (W (classP k) 2)) (.int .u64 (W (classP k) 3))
  refine bodyPost_ret (v := .agg #[.int .u64 (W (classP k) 0), .int .u64 (W (classP k) 1), .int .u64 (W (classP k) 2), .int .u64 (W (classP k) 3)]) (by simp [results, Tryd.results49, go_sem, hfc]) rfl ⟨(classP k), rfl, hg7, MemLeft.ok HM.out hb7⟩
set_option maxHeartbeats 8000000 in
theorem member_cls_no (s : ByteArray) (hs : s.size ≤ 140737488351232) (i : Nat) (hi : i ≤ s.size) (h : pk s i = 37) (k : Nat) (hk : pk s (i + 1) = (k : Int)) (hcE : classE k = 10) (b : Nat) (w : World) (hb : w.heap[b]? = some (rd s i 0 0)) :
    Calls Tryd.prog 49 #[.pointer (some ⟨b, 0, none⟩)] w (MemPost s i b w) := by
  have hb0 : (w.alloc (.cells #[.int .u64 0, .int .u64 0, .int .u64 0, .int .u64 0] 24)).heap[b]? = some (rd s i 0 0) := alloc_old hb
  have hbl := block_lt hb
  have hcb := block_cell hb
  have hcb0 := block_cell hb0
  have HP := hid (peek_any s hs i (by omega) 0 0 b _ hb0)
  obtain ⟨i1, hi1⟩ : ∃ i1, i1 = i + 1 := ⟨_, rfl⟩
  obtain ⟨i2, hi2⟩ : ∃ i2, i2 = i + 2 := ⟨_, rfl⟩
  have hw1 : IntKind.i64.wrap ((i : Int) + 1) = (i1 : Int) := by rw [IntKind.wrap_i64]; omega
  have hw2 : IntKind.i64.wrap ((i1 : Int) + 1) = (i2 : Int) := by rw [IntKind.wrap_i64]; omega
  have hi2b : i2 ≤ s.size + 4 := by omega
  have HQ := hid (fun w' h => peek_any s hs i1 (by omega) 0 0 b w' h)
  rw [h] at HP
  rw [← hi1] at hk
  have hk8 : k < 256 := by have := pk_range s i1; omega
  have hw8 : IntKind.u8.wrap (k : Int) = (k : Int) := by rw [IntKind.wrap_u8]; omega
  have hdk : decide (0 ≤ (k : Int)) = true := decide_eq_true (by omega)
  have HM := hid (show memR s i = .error (i, 10) by unfold memR; rw [if_pos h, ← hi1, hk, if_neg (fun g => by rw [Int.toNat_natCast, hcE] at g; exact absurd g.2 (by decide))])
  rw [hk] at HQ
  clear hk
  clear hi1 hi2
  go_enter Tryd.func49, Tryd.ntmps49
  go_wp2_with (first | (go_at_call 48; (with_reducible refine Calls.mono HP.out ?_); rintro e w1 ⟨rfl, hbw⟩; have hb1 := keep hbw hb0; have hc1 := block_cell hb1; have hf1 := block_free hb1; have hb2 : (w1.setCell ⟨b, 1, none⟩ (.int .i64 (i1 : Int))).heap[b]? = some (rd s i1 0 0) := heap_setCell_self hb1 1 _; have hR1 := keep hbw (alloc_new w _); have hg1 := grown_trans (grown_alloc w (.cells #[.int .u64 0, .int .u64 0, .int .u64 0, .int .u64 0] 24) (some b)) (grown_below hbw); have hbne : w.heap.size ≠ b := by omega) | (go_at_call 48; (with_reducible refine Calls.mono (HQ.out _ (alloc_old hb2)) ?_); rintro e w2 ⟨rfl, hbw2⟩; have hb3 := keep hbw2 (alloc_old hb2); have hR2 := keep hbw2 (alloc_old ((heap_setCell_ne (w := w1) _ _ _ hbne).trans hR1)); have hT2 := keep hbw2 (alloc_new_at (a := w1.setCell ⟨b, 1, none⟩ (.int .i64 (i1 : Int))) (.cells #[.int .u64 0, .int .u64 0, .int .u64 0, .int .u64 0] 24) (setCell_size w1 _ _).symm); have hg2 := grown_trans (grown_trans hg1 (grown_set w1 b 1 _)) (grown_trans (grown_alloc _ _ _) (grown_below hbw2))) | (go_at_call 51; (with_reducible refine Calls.mono (class_any k hk8 _) ?_); rintro e w3 ⟨rfl, hbw3⟩; have hb4 := keep hbw3 hb3; have hR3 := keep hbw3 hR2; have hT3 := keep hbw3 hT2; have hf3 := block_free hT3; have hc3 := block_cell hT3; have hg3 := grown_trans hg2 (grown_below hbw3); have hT4 := set4 hT3 (.int .u64 (W (classP k) 0)) (.int .u64 (W (classP k) 1)) (.int .u64 (W (classP k) 2)) (.int .u64 (W (classP k) 3)); have hb5 := set4_ne hb4 (Nat.ne_of_lt (block_lt hb1)) (.int .u64 (W (classP k) 0)) (.int .u64 (W (classP k) 1)) (.int .u64 (W (classP k) 2)) (.int .u64 (W (classP k) 3)); have hR4 := set4_ne hR3 (Nat.ne_of_lt (block_lt hR1)) (.int .u64 (W (classP k) 0)) (.int .u64 (W (classP k) 1)) (.int .u64 (W (classP k) 2)) (.int .u64 (W (classP k) 3)); have hcb5 := block_cell hb5; have hfb5 := block_free hb5; have hg5 := grown_set4 hg3 (Nat.le_of_lt (block_lt hR1)) (.int .u64 (W (classP k) 0)) (.int .u64 (W (classP k) 1)) (.int .u64 (W (classP k) 2)) (.int .u64 (W (classP k) 3))) | (go_at_call 52; (with_reducible refine Calls.mono (fail_any s i1 i 10 b _ hb5) ?_); rintro e w5 ⟨rfl, hgf, hbf⟩; have hTf := grown_heap hgf hT4 (fun e => Nat.ne_of_gt (block_lt hb1) (Option.some.inj e)); have hRf := grown_heap hgf hR4 (fun e => hbne (Option.some.inj e)); have hcf := block_cell hbf; have hff := block_free hbf; have hgf2 := grown_trans hg5 hgf; have hb6 : (w5.setCell ⟨b, 1, none⟩ (.int .i64 (i2 : Int))).heap[b]? = some (rd s i2 i 10) := heap_setCell_self hbf 1 _; have hT5 := (heap_setCell_ne 1 _ (.int .i64 (i2 : Int)) (Ne.symm (Nat.ne_of_lt (block_lt hb1)))).trans hTf; have hR5 := (heap_setCell_ne 1 _ (.int .i64 (i2 : Int)) hbne).trans hRf; have hcT5 := block_cell hT5; have hcR5 := block_cell hR5; have hfR5 := block_free hR5; have hg6 := grown_trans hgf2 (grown_set _ b 1 (.int .i64 (i2 : Int)))))
  have hR6 := set4 hR5 (.int .u64 (W (classP k) 0)) (.int .u64 (W (classP k) 1)) (.int .u64 (W (classP k) 2)) (.int .u64 (W (classP k) 3))
  have hfc := block_cell hR6
  have hb7 := set4_ne hb6 (Ne.symm hbne) (.int .u64 (W (classP k) 0)) (.int .u64 (W (classP k) 1)) (.int .u64 (W (classP k) 2)) (.int .u64 (W (classP k) 3))
  have hg7 := grown_set4 hg6 (Nat.le_refl w.heap.size) (.int .u64 (W (classP k) 0)) (.int .u64 (W (classP k) 1)) (.int .u64 (W (classP k) 2)) (.int .u64 (W (classP k) 3))
  refine bodyPost_ret (v := .agg #[.int .u64 (W (classP k) 0), .int .u64 (W (classP k) 1), .int .u64 (W (classP k) 2), .int .u64 (W (classP k) 3)]) (by simp [results, Tryd.results49, go_sem, hfc]) rfl ⟨(classP k), rfl, hg7, MemLeft.bad HM.out hi2b hb7⟩
set_option maxHeartbeats 8000000 in
theorem member_cls_end (s : ByteArray) (hs : s.size ≤ 140737488351232) (i : Nat) (hi : i ≤ s.size) (h : pk s i = 37) (hk : pk s (i + 1) = -1) (b : Nat) (w : World) (hb : w.heap[b]? = some (rd s i 0 0)) :
    Calls Tryd.prog 49 #[.pointer (some ⟨b, 0, none⟩)] w (MemPost s i b w) := by
  have hb0 : (w.alloc (.cells #[.int .u64 0, .int .u64 0, .int .u64 0, .int .u64 0] 24)).heap[b]? = some (rd s i 0 0) := alloc_old hb
  have hbl := block_lt hb
  have hcb := block_cell hb
  have hcb0 := block_cell hb0
  have HP := hid (peek_any s hs i (by omega) 0 0 b _ hb0)
  obtain ⟨i1, hi1⟩ : ∃ i1, i1 = i + 1 := ⟨_, rfl⟩
  obtain ⟨i2, hi2⟩ : ∃ i2, i2 = i + 2 := ⟨_, rfl⟩
  have hw1 : IntKind.i64.wrap ((i : Int) + 1) = (i1 : Int) := by rw [IntKind.wrap_i64]; omega
  have hw2 : IntKind.i64.wrap ((i1 : Int) + 1) = (i2 : Int) := by rw [IntKind.wrap_i64]; omega
  have hi2b : i2 ≤ s.size + 4 := by omega
  have HQ := hid (fun w' h => peek_any s hs i1 (by omega) 0 0 b w' h)
  rw [h] at HP
  rw [← hi1] at hk
  have HM := hid (show memR s i = .error (i, 10) by unfold memR; rw [if_pos h, ← hi1, hk, if_neg (fun g => absurd g.1 (by decide))])
  rw [hk] at HQ
  clear hk
  clear hi1 hi2
  go_enter Tryd.func49, Tryd.ntmps49
  go_wp2_with (first | (go_at_call 48; (with_reducible refine Calls.mono HP.out ?_); rintro e w1 ⟨rfl, hbw⟩; have hb1 := keep hbw hb0; have hc1 := block_cell hb1; have hf1 := block_free hb1; have hb2 : (w1.setCell ⟨b, 1, none⟩ (.int .i64 (i1 : Int))).heap[b]? = some (rd s i1 0 0) := heap_setCell_self hb1 1 _; have hR1 := keep hbw (alloc_new w _); have hg1 := grown_trans (grown_alloc w (.cells #[.int .u64 0, .int .u64 0, .int .u64 0, .int .u64 0] 24) (some b)) (grown_below hbw); have hbne : w.heap.size ≠ b := by omega) | (go_at_call 48; (with_reducible refine Calls.mono (HQ.out _ (alloc_old hb2)) ?_); rintro e w2 ⟨rfl, hbw2⟩; have hb3 := keep hbw2 (alloc_old hb2); have hR2 := keep hbw2 (alloc_old ((heap_setCell_ne (w := w1) _ _ _ hbne).trans hR1)); have hT2 := keep hbw2 (alloc_new_at (a := w1.setCell ⟨b, 1, none⟩ (.int .i64 (i1 : Int))) (.cells #[.int .u64 0, .int .u64 0, .int .u64 0, .int .u64 0] 24) (setCell_size w1 _ _).symm); have hg2 := grown_trans (grown_trans hg1 (grown_set w1 b 1 _)) (grown_trans (grown_alloc _ _ _) (grown_below hbw2))) | (go_at_call 52; (with_reducible refine Calls.mono (fail_any s i1 i 10 b _ hb3) ?_); rintro e w5 ⟨rfl, hgf, hbf⟩; have hTf := grown_heap hgf hT2 (fun e => Nat.ne_of_gt (block_lt hb1) (Option.some.inj e)); have hRf := grown_heap hgf hR2 (fun e => hbne (Option.some.inj e)); have hcf := block_cell hbf; have hff := block_free hbf; have hgf2 := grown_trans hg2 hgf; have hb6 : (w5.setCell ⟨b, 1, none⟩ (.int .i64 (i2 : Int))).heap[b]? = some (rd s i2 i 10) := heap_setCell_self hbf 1 _; have hT5 := (heap_setCell_ne 1 _ (.int .i64 (i2 : Int)) (Ne.symm (Nat.ne_of_lt (block_lt hb1)))).trans hTf; have hR5 := (heap_setCell_ne 1 _ (.int .i64 (i2 : Int)) hbne).trans hRf; have hcT5 := block_cell hT5; have hcR5 := block_cell hR5; have hfR5 := block_free hR5; have hg6 := grown_trans hgf2 (grown_set _ b 1 (.int .i64 (i2 : Int)))))
  have hR6 := set4 hR5 (.int .u64 0) (.int .u64 0) (.int .u64 0) (.int .u64 0)
  have hfc := block_cell hR6
  have hb7 := set4_ne hb6 (Ne.symm hbne) (.int .u64 0) (.int .u64 0) (.int .u64 0) (.int .u64 0)
  have hg7 := grown_set4 hg6 (Nat.le_refl w.heap.size) (.int .u64 0) (.int .u64 0) (.int .u64 0) (.int .u64 0)
  refine bodyPost_ret (v := .agg #[.int .u64 0, .int .u64 0, .int .u64 0, .int .u64 0]) (by simp [results, Tryd.results49, go_sem, hfc]) rfl ⟨emp, by rw [W_emp, W_emp, W_emp, W_emp], hg7, MemLeft.bad HM.out hi2b hb7⟩

theorem classE_cases (c : Nat) : classE c = 0 ∨ classE c = 10 := by
  unfold classE
  split
  · exact .inl rfl
  · split
    · exact .inl rfl
    · exact .inr rfl
theorem itemR_no {s : ByteArray} {i : Nat} (h : (itemR s i).2.2 = false) : (itemR s i).1 = 0 ∧ (itemR s i).2.1 ≤ i + 2 := by
  unfold itemR at h ⊢
  by_cases h1 : pk s i = 92
  · rw [if_pos h1] at h ⊢; have := escR_no h; omega
  · rw [if_neg h1] at h ⊢
    by_cases h2 : noItem (pk s i) = true
    · rw [if_pos h2]; exact ⟨rfl, by simp only; omega⟩
    · rw [if_neg h2] at h; cases h

theorem item_ok (s : ByteArray) (hs : s.size ≤ 140737488351232) (i : Nat) (hi : i ≤ s.size) (x : Int) (n : Nat) (h : itemR s i = (x, n, true)) (b : Nat) (w : World) (hb : w.heap[b]? = some (rd s i 0 0)) :
    Calls Tryd.prog 53 #[.pointer (some ⟨b, 0, none⟩)] w fun e w' => e = .returned (.int .i64 x) ∧ w.grownBy w' (some b) ∧ w'.heap[b]? = some (rd s n 0 0) := by
  have := item_any s hs i hi b w hb
  rw [h] at this
  exact this
theorem item_no (s : ByteArray) (hs : s.size ≤ 140737488351232) (i : Nat) (hi : i ≤ s.size) (h : (itemR s i).2.2 = false) (b : Nat) (w : World) (hb : w.heap[b]? = some (rd s i 0 0)) :
    Calls Tryd.prog 53 #[.pointer (some ⟨b, 0, none⟩)] w fun e w' => e = .returned (.int .i64 0) ∧ w.grownBy w' (some b) ∧ ∃ n, n ≤ i + 2 ∧ w'.heap[b]? = some (rd s n i 6) := by
  refine (item_any s hs i hi b w hb).mono fun e w' ⟨he, hg, hh⟩ => ?_
  have k := itemR_no h
  rw [k.1] at he
  refine ⟨he, hg, _, k.2, ?_⟩
  rw [hh]; simp only [rdR, h, Bool.false_eq_true, if_false]

set_option maxHeartbeats 8000000 in
theorem member_lo_no (s : ByteArray) (hs : s.size ≤ 140737488351232) (i : Nat) (hi : i ≤ s.size) (h : ¬ pk s i = 37) (hI : (itemR s i).2.2 = false) (b : Nat) (w : World) (hb : w.heap[b]? = some (rd s i 0 0)) :
    Calls Tryd.prog 49 #[.pointer (some ⟨b, 0, none⟩)] w (MemPost s i b w) := by
  have hb0 : (w.alloc (.cells #[.int .u64 0, .int .u64 0, .int .u64 0, .int .u64 0] 24)).heap[b]? = some (rd s i 0 0) := alloc_old hb
  have hbl := block_lt hb
  have hcb := block_cell hb
  have hcb0 := block_cell hb0
  have HP := hid (peek_any s hs i (by omega) 0 0 b _ hb0)
  have hz : (pk s i == 37) = false := by simpa using h
  have HM := hid (show memR s i = .error (i, 6) by unfold memR; rw [if_neg h, if_pos hI])
  have HI := hid (fun w' h => item_no s hs i hi hI b w' h)
  clear hI
  have hbne : w.heap.size ≠ b := by omega
  generalize pk s i = z at *
  clear h
  go_enter Tryd.func49, Tryd.ntmps49
  go_wp2_with (first | (go_at_call 48; (with_reducible refine Calls.mono HP.out ?_); rintro e w1 ⟨rfl, hbw⟩; have hb1 := keep hbw hb0; have hR1 := keep hbw (alloc_new w _); have hg1 := grown_trans (grown_alloc w (.cells #[.int .u64 0, .int .u64 0, .int .u64 0, .int .u64 0] 24) (some b)) (grown_below hbw)) | (go_at_call 53; (with_reducible refine Calls.mono (HI.out _ hb1) ?_); rintro e w2 ⟨rfl, hgi, n, hn, hb2⟩; have hR2 := grown_heap hgi hR1 (fun e => hbne (Option.some.inj e)); have hg2 := grown_trans hg1 hgi; have hc2 := block_cell hb2; have hf2 := block_free hb2) | (go_at_call 43; (with_reducible refine Calls.mono (span_any 0 0 (by omega) (by omega) _) ?_); rintro e w9 ⟨rfl, hbs⟩; have hb9 := keep hbs hb2; have hR9 := keep hbs hR2; have hg9 := grown_trans hg2 (grown_below hbs); have hc9 := block_cell hR9; have hf9 := block_free hR9))
  have hfin := set4 hR9 (.int .u64 (W (rngP 0 (0 + 1)) 0)) (.int .u64 (W (rngP 0 (0 + 1)) 1)) (.int .u64 (W (rngP 0 (0 + 1)) 2)) (.int .u64 (W (rngP 0 (0 + 1)) 3))
  have hfc := block_cell hfin
  have hbF := set4_ne hb9 (Ne.symm hbne) (.int .u64 (W (rngP 0 (0 + 1)) 0)) (.int .u64 (W (rngP 0 (0 + 1)) 1)) (.int .u64 (W (rngP 0 (0 + 1)) 2)) (.int .u64 (W (rngP 0 (0 + 1)) 3))
  have hgF := grown_set4 hg9 (Nat.le_refl w.heap.size) (.int .u64 (W (rngP 0 (0 + 1)) 0)) (.int .u64 (W (rngP 0 (0 + 1)) 1)) (.int .u64 (W (rngP 0 (0 + 1)) 2)) (.int .u64 (W (rngP 0 (0 + 1)) 3))
  refine bodyPost_ret (v := .agg #[.int .u64 (W (rngP 0 (0 + 1)) 0), .int .u64 (W (rngP 0 (0 + 1)) 1), .int .u64 (W (rngP 0 (0 + 1)) 2), .int .u64 (W (rngP 0 (0 + 1)) 3)]) (by simp [results, Tryd.results49, go_sem, hfc]) rfl ⟨(rngP 0 (0 + 1)), rfl, hgF, MemLeft.bad HM.out (by omega) hbF⟩
set_option maxHeartbeats 8000000 in
theorem member_one (s : ByteArray) (hs : s.size ≤ 140737488351232) (i : Nat) (hi : i ≤ s.size) (h : ¬ pk s i = 37) (lo n : Nat) (hlo : lo < 256) (hns : n ≤ s.size) (hI : itemR s i = ((lo : Int), n, true)) (hn : ¬ pk s n = 45) (b : Nat) (w : World) (hb : w.heap[b]? = some (rd s i 0 0)) :
    Calls Tryd.prog 49 #[.pointer (some ⟨b, 0, none⟩)] w (MemPost s i b w) := by
  have hb0 : (w.alloc (.cells #[.int .u64 0, .int .u64 0, .int .u64 0, .int .u64 0] 24)).heap[b]? = some (rd s i 0 0) := alloc_old hb
  have hbl := block_lt hb
  have hcb := block_cell hb
  have hcb0 := block_cell hb0
  have HP := hid (peek_any s hs i (by omega) 0 0 b _ hb0)
  have hz : (pk s i == 37) = false := by simpa using h
  have HM := hid (show memR s i = .ok (rngP lo (lo + 1), n) by unfold memR; rw [if_neg h, hI, if_neg (by simp), if_neg hn, Int.toNat_natCast])
  have HI := hid (fun w' h => item_ok s hs i hi _ n hI b w' h)
  have HN := hid (fun w' h => peek_any s hs n (by omega) 0 0 b w' h)
  have hn2 : (pk s n == 45) = false := by simpa using hn
  clear hI hn
  have hbne : w.heap.size ≠ b := by omega
  generalize pk s i = z at *
  clear h
  go_enter Tryd.func49, Tryd.ntmps49
  go_wp2_with (first | (go_at_call 48; (with_reducible refine Calls.mono HP.out ?_); rintro e w1 ⟨rfl, hbw⟩; have hb1 := keep hbw hb0; have hR1 := keep hbw (alloc_new w _); have hg1 := grown_trans (grown_alloc w (.cells #[.int .u64 0, .int .u64 0, .int .u64 0, .int .u64 0] 24) (some b)) (grown_below hbw)) | (go_at_call 53; (with_reducible refine Calls.mono (HI.out _ hb1) ?_); rintro e w2 ⟨rfl, hgi, hb2⟩; have hR2 := grown_heap hgi hR1 (fun e => hbne (Option.some.inj e)); have hg2 := grown_trans hg1 hgi; have hc2 := block_cell hb2; have hf2 := block_free hb2) | (go_at_call 48; (with_reducible refine Calls.mono (HN.out _ hb2) ?_); rintro e w3 ⟨rfl, hb23⟩; have hb3 := keep hb23 hb2; have hR3 := keep hb23 hR2; have hg3 := grown_trans hg2 (grown_below hb23); have hc3 := block_cell hb3; have hf3 := block_free hb3) | (go_at_call 43; (with_reducible refine Calls.mono (span_any lo lo hlo hlo _) ?_); rintro e w9 ⟨rfl, hbs⟩; have hb9 := keep hbs hb3; have hR9 := keep hbs hR3; have hg9 := grown_trans hg3 (grown_below hbs); have hc9 := block_cell hR9; have hf9 := block_free hR9))
  have hfin := set4 hR9 (.int .u64 (W (rngP lo (lo + 1)) 0)) (.int .u64 (W (rngP lo (lo + 1)) 1)) (.int .u64 (W (rngP lo (lo + 1)) 2)) (.int .u64 (W (rngP lo (lo + 1)) 3))
  have hfc := block_cell hfin
  have hbF := set4_ne hb9 (Ne.symm hbne) (.int .u64 (W (rngP lo (lo + 1)) 0)) (.int .u64 (W (rngP lo (lo + 1)) 1)) (.int .u64 (W (rngP lo (lo + 1)) 2)) (.int .u64 (W (rngP lo (lo + 1)) 3))
  have hgF := grown_set4 hg9 (Nat.le_refl w.heap.size) (.int .u64 (W (rngP lo (lo + 1)) 0)) (.int .u64 (W (rngP lo (lo + 1)) 1)) (.int .u64 (W (rngP lo (lo + 1)) 2)) (.int .u64 (W (rngP lo (lo + 1)) 3))
  refine bodyPost_ret (v := .agg #[.int .u64 (W (rngP lo (lo + 1)) 0), .int .u64 (W (rngP lo (lo + 1)) 1), .int .u64 (W (rngP lo (lo + 1)) 2), .int .u64 (W (rngP lo (lo + 1)) 3)]) (by simp [results, Tryd.results49, go_sem, hfc]) rfl ⟨(rngP lo (lo + 1)), rfl, hgF, MemLeft.ok HM.out hbF⟩
set_option maxHeartbeats 8000000 in
theorem member_hi_no (s : ByteArray) (hs : s.size ≤ 140737488351232) (i : Nat) (hi : i ≤ s.size) (h : ¬ pk s i = 37) (lo n : Nat) (hlo : lo < 256) (hns : n ≤ s.size) (hI : itemR s i = ((lo : Int), n, true)) (hn : pk s n = 45) (hJ : (itemR s (n + 1)).2.2 = false) (b : Nat) (w : World) (hb : w.heap[b]? = some (rd s i 0 0)) :
    Calls Tryd.prog 49 #[.pointer (some ⟨b, 0, none⟩)] w (MemPost s i b w) := by
  have hb0 : (w.alloc (.cells #[.int .u64 0, .int .u64 0, .int .u64 0, .int .u64 0] 24)).heap[b]? = some (rd s i 0 0) := alloc_old hb
  have hbl := block_lt hb
  have hcb := block_cell hb
  have hcb0 := block_cell hb0
  have HP := hid (peek_any s hs i (by omega) 0 0 b _ hb0)
  have hz : (pk s i == 37) = false := by simpa using h
  have HM := hid (show memR s i = .error (n + 1, 6) by unfold memR; rw [if_neg h, hI, if_neg (by simp), if_pos hn, if_pos hJ])
  have HI := hid (fun w' h => item_ok s hs i hi _ n hI b w' h)
  have HN := hid (fun w' h => peek_any s hs n (by omega) 0 0 b w' h)
  rw [hn] at HN
  obtain ⟨n1, hn1⟩ : ∃ n1, n1 = n + 1 := ⟨_, rfl⟩
  have hw1 : IntKind.i64.wrap ((n : Int) + 1) = (n1 : Int) := by rw [IntKind.wrap_i64]; omega
  have hns1 : n1 ≤ s.size := by have := pk_lt (s := s) (i := n) (by omega); omega
  rw [← hn1] at hJ
  rw [← hn1] at HM
  have HJ := hid (fun w' h => item_no s hs n1 hns1 hJ b w' h)
  clear hI hn hJ hn1
  have hbne : w.heap.size ≠ b := by omega
  generalize pk s i = z at *
  clear h
  go_enter Tryd.func49, Tryd.ntmps49
  go_wp2_with (first | (go_at_call 48; (with_reducible refine Calls.mono HP.out ?_); rintro e w1 ⟨rfl, hbw⟩; have hb1 := keep hbw hb0; have hR1 := keep hbw (alloc_new w _); have hg1 := grown_trans (grown_alloc w (.cells #[.int .u64 0, .int .u64 0, .int .u64 0, .int .u64 0] 24) (some b)) (grown_below hbw)) | (go_at_call 53; (with_reducible refine Calls.mono (HI.out _ hb1) ?_); rintro e w2 ⟨rfl, hgi, hb2⟩; have hR2 := grown_heap hgi hR1 (fun e => hbne (Option.some.inj e)); have hg2 := grown_trans hg1 hgi; have hc2 := block_cell hb2; have hf2 := block_free hb2) | (go_at_call 48; (with_reducible refine Calls.mono (HN.out _ hb2) ?_); rintro e w3 ⟨rfl, hb23⟩; have hb3 := keep hb23 hb2; have hR3 := keep hb23 hR2; have hg3 := grown_trans hg2 (grown_below hb23); have hc3 := block_cell hb3; have hf3 := block_free hb3; have hb4 : (w3.setCell ⟨b, 1, none⟩ (.int .i64 (n1 : Int))).heap[b]? = some (rd s n1 0 0) := heap_setCell_self hb3 1 _; have hR4 := (heap_setCell_ne (w := w3) (b := b) 1 _ (.int .i64 (n1 : Int)) hbne).trans hR3; have hg4 := grown_trans hg3 (grown_set w3 b 1 (.int .i64 (n1 : Int)))) | (go_at_call 53; (with_reducible refine Calls.mono (HJ.out _ hb4) ?_); rintro e w5 ⟨rfl, hgj, m, hm, hb5⟩; have hR5 := grown_heap hgj hR4 (fun e => hbne (Option.some.inj e)); have hg5 := grown_trans hg4 hgj; have hc5 := block_cell hb5; have hf5 := block_free hb5) | (go_at_call 43; (with_reducible refine Calls.mono (span_any lo 0 hlo (by omega) _) ?_); rintro e w9 ⟨rfl, hbs⟩; have hb9 := keep hbs hb5; have hR9 := keep hbs hR5; have hg9 := grown_trans hg5 (grown_below hbs); have hc9 := block_cell hR9; have hf9 := block_free hR9))
  have hfin := set4 hR9 (.int .u64 (W (rngP lo (0 + 1)) 0)) (.int .u64 (W (rngP lo (0 + 1)) 1)) (.int .u64 (W (rngP lo (0 + 1)) 2)) (.int .u64 (W (rngP lo (0 + 1)) 3))
  have hfc := block_cell hfin
  have hbF := set4_ne hb9 (Ne.symm hbne) (.int .u64 (W (rngP lo (0 + 1)) 0)) (.int .u64 (W (rngP lo (0 + 1)) 1)) (.int .u64 (W (rngP lo (0 + 1)) 2)) (.int .u64 (W (rngP lo (0 + 1)) 3))
  have hgF := grown_set4 hg9 (Nat.le_refl w.heap.size) (.int .u64 (W (rngP lo (0 + 1)) 0)) (.int .u64 (W (rngP lo (0 + 1)) 1)) (.int .u64 (W (rngP lo (0 + 1)) 2)) (.int .u64 (W (rngP lo (0 + 1)) 3))
  refine bodyPost_ret (v := .agg #[.int .u64 (W (rngP lo (0 + 1)) 0), .int .u64 (W (rngP lo (0 + 1)) 1), .int .u64 (W (rngP lo (0 + 1)) 2), .int .u64 (W (rngP lo (0 + 1)) 3)]) (by simp [results, Tryd.results49, go_sem, hfc]) rfl ⟨(rngP lo (0 + 1)), rfl, hgF, MemLeft.bad HM.out (by omega) hbF⟩
set_option maxHeartbeats 8000000 in
theorem member_less (s : ByteArray) (hs : s.size ≤ 140737488351232) (i : Nat) (hi : i ≤ s.size) (h : ¬ pk s i = 37) (lo n : Nat) (hlo : lo < 256) (hns : n ≤ s.size) (hI : itemR s i = ((lo : Int), n, true)) (hn : pk s n = 45) (hi2 m : Nat) (hhi : hi2 < 256) (hms : m ≤ s.size) (hJ : itemR s (n + 1) = ((hi2 : Int), m, true)) (hl : hi2 < lo) (b : Nat) (w : World) (hb : w.heap[b]? = some (rd s i 0 0)) :
    Calls Tryd.prog 49 #[.pointer (some ⟨b, 0, none⟩)] w (MemPost s i b w) := by
  have hb0 : (w.alloc (.cells #[.int .u64 0, .int .u64 0, .int .u64 0, .int .u64 0] 24)).heap[b]? = some (rd s i 0 0) := alloc_old hb
  have hbl := block_lt hb
  have hcb := block_cell hb
  have hcb0 := block_cell hb0
  have HP := hid (peek_any s hs i (by omega) 0 0 b _ hb0)
  have hz : (pk s i == 37) = false := by simpa using h
  have HM := hid (show memR s i = .error (i, 1) by unfold memR; rw [if_neg h, hI, if_neg (by simp), if_pos hn, hJ, if_neg (by simp), if_pos (by simp only; omega)])
  have HI := hid (fun w' h => item_ok s hs i hi _ n hI b w' h)
  have HN := hid (fun w' h => peek_any s hs n (by omega) 0 0 b w' h)
  rw [hn] at HN
  obtain ⟨n1, hn1⟩ : ∃ n1, n1 = n + 1 := ⟨_, rfl⟩
  have hw1 : IntKind.i64.wrap ((n : Int) + 1) = (n1 : Int) := by rw [IntKind.wrap_i64]; omega
  have hns1 : n1 ≤ s.size := by have := pk_lt (s := s) (i := n) (by omega); omega
  rw [← hn1] at hJ
  have HJ := hid (fun w' h => item_ok s hs n1 hns1 _ m hJ b w' h)
  clear hI hn hJ hn1
  have hd : decide ((hi2 : Int) < (lo : Int)) = true := decide_eq_true (by omega)
  have hd' : decide (hi2 < lo) = true := decide_eq_true hl
  clear hl
  have hbne : w.heap.size ≠ b := by omega
  generalize pk s i = z at *
  clear h
  go_enter Tryd.func49, Tryd.ntmps49
  go_wp2_with (first | (go_at_call 48; (with_reducible refine Calls.mono HP.out ?_); rintro e w1 ⟨rfl, hbw⟩; have hb1 := keep hbw hb0; have hR1 := keep hbw (alloc_new w _); have hg1 := grown_trans (grown_alloc w (.cells #[.int .u64 0, .int .u64 0, .int .u64 0, .int .u64 0] 24) (some b)) (grown_below hbw)) | (go_at_call 53; (with_reducible refine Calls.mono (HI.out _ hb1) ?_); rintro e w2 ⟨rfl, hgi, hb2⟩; have hR2 := grown_heap hgi hR1 (fun e => hbne (Option.some.inj e)); have hg2 := grown_trans hg1 hgi; have hc2 := block_cell hb2; have hf2 := block_free hb2) | (go_at_call 48; (with_reducible refine Calls.mono (HN.out _ hb2) ?_); rintro e w3 ⟨rfl, hb23⟩; have hb3 := keep hb23 hb2; have hR3 := keep hb23 hR2; have hg3 := grown_trans hg2 (grown_below hb23); have hc3 := block_cell hb3; have hf3 := block_free hb3; have hb4 : (w3.setCell ⟨b, 1, none⟩ (.int .i64 (n1 : Int))).heap[b]? = some (rd s n1 0 0) := heap_setCell_self hb3 1 _; have hR4 := (heap_setCell_ne (w := w3) (b := b) 1 _ (.int .i64 (n1 : Int)) hbne).trans hR3; have hg4 := grown_trans hg3 (grown_set w3 b 1 (.int .i64 (n1 : Int)))) | (go_at_call 53; (with_reducible refine Calls.mono (HJ.out _ hb4) ?_); rintro e w5 ⟨rfl, hgj, hb5⟩; have hR5 := grown_heap hgj hR4 (fun e => hbne (Option.some.inj e)); have hg5 := grown_trans hg4 hgj; have hc5 := block_cell hb5; have hf5 := block_free hb5) | (go_at_call 52; (with_reducible refine Calls.mono (fail_any s m i 1 b _ hb5) ?_); rintro e w6 ⟨rfl, hgk, hb6⟩; have hR6 := grown_heap hgk hR5 (fun e => hbne (Option.some.inj e)); have hg6 := grown_trans hg5 hgk) | (go_at_call 43; (with_reducible refine Calls.mono (span_any lo hi2 hlo hhi _) ?_); rintro e w9 ⟨rfl, hbs⟩; have hb9 := keep hbs hb6; have hR9 := keep hbs hR6; have hg9 := grown_trans hg6 (grown_below hbs); have hc9 := block_cell hR9; have hf9 := block_free hR9))
  have hfin := set4 hR9 (.int .u64 (W (rngP lo (hi2 + 1)) 0)) (.int .u64 (W (rngP lo (hi2 + 1)) 1)) (.int .u64 (W (rngP lo (hi2 + 1)) 2)) (.int .u64 (W (rngP lo (hi2 + 1)) 3))
  have hfc := block_cell hfin
  have hbF := set4_ne hb9 (Ne.symm hbne) (.int .u64 (W (rngP lo (hi2 + 1)) 0)) (.int .u64 (W (rngP lo (hi2 + 1)) 1)) (.int .u64 (W (rngP lo (hi2 + 1)) 2)) (.int .u64 (W (rngP lo (hi2 + 1)) 3))
  have hgF := grown_set4 hg9 (Nat.le_refl w.heap.size) (.int .u64 (W (rngP lo (hi2 + 1)) 0)) (.int .u64 (W (rngP lo (hi2 + 1)) 1)) (.int .u64 (W (rngP lo (hi2 + 1)) 2)) (.int .u64 (W (rngP lo (hi2 + 1)) 3))
  refine bodyPost_ret (v := .agg #[.int .u64 (W (rngP lo (hi2 + 1)) 0), .int .u64 (W (rngP lo (hi2 + 1)) 1), .int .u64 (W (rngP lo (hi2 + 1)) 2), .int .u64 (W (rngP lo (hi2 + 1)) 3)]) (by simp [results, Tryd.results49, go_sem, hfc]) rfl ⟨(rngP lo (hi2 + 1)), rfl, hgF, MemLeft.bad HM.out (by omega) hbF⟩
set_option maxHeartbeats 8000000 in
theorem member_two (s : ByteArray) (hs : s.size ≤ 140737488351232) (i : Nat) (hi : i ≤ s.size) (h : ¬ pk s i = 37) (lo n : Nat) (hlo : lo < 256) (hns : n ≤ s.size) (hI : itemR s i = ((lo : Int), n, true)) (hn : pk s n = 45) (hi2 m : Nat) (hhi : hi2 < 256) (hms : m ≤ s.size) (hJ : itemR s (n + 1) = ((hi2 : Int), m, true)) (hl : ¬ hi2 < lo) (b : Nat) (w : World) (hb : w.heap[b]? = some (rd s i 0 0)) :
    Calls Tryd.prog 49 #[.pointer (some ⟨b, 0, none⟩)] w (MemPost s i b w) := by
  have hb0 : (w.alloc (.cells #[.int .u64 0, .int .u64 0, .int .u64 0, .int .u64 0] 24)).heap[b]? = some (rd s i 0 0) := alloc_old hb
  have hbl := block_lt hb
  have hcb := block_cell hb
  have hcb0 := block_cell hb0
  have HP := hid (peek_any s hs i (by omega) 0 0 b _ hb0)
  have hz : (pk s i == 37) = false := by simpa using h
  have HM := hid (show memR s i = .ok (rngP lo (hi2 + 1), m) by unfold memR; rw [if_neg h, hI, if_neg (by simp), if_pos hn, hJ, if_neg (by simp), if_neg (by simp only; omega), Int.toNat_natCast, Int.toNat_natCast])
  have HI := hid (fun w' h => item_ok s hs i hi _ n hI b w' h)
  have HN := hid (fun w' h => peek_any s hs n (by omega) 0 0 b w' h)
  rw [hn] at HN
  obtain ⟨n1, hn1⟩ : ∃ n1, n1 = n + 1 := ⟨_, rfl⟩
  have hw1 : IntKind.i64.wrap ((n : Int) + 1) = (n1 : Int) := by rw [IntKind.wrap_i64]; omega
  have hns1 : n1 ≤ s.size := by have := pk_lt (s := s) (i := n) (by omega); omega
  rw [← hn1] at hJ
  have HJ := hid (fun w' h => item_ok s hs n1 hns1 _ m hJ b w' h)
  clear hI hn hJ hn1
  have hd : decide ((hi2 : Int) < (lo : Int)) = false := decide_eq_false (by omega)
  have hd' : decide (hi2 < lo) = false := decide_eq_false hl
  clear hl
  have hbne : w.heap.size ≠ b := by omega
  generalize pk s i = z at *
  clear h
  go_enter Tryd.func49, Tryd.ntmps49
  go_wp2_with (first | (go_at_call 48; (with_reducible refine Calls.mono HP.out ?_); rintro e w1 ⟨rfl, hbw⟩; have hb1 := keep hbw hb0; have hR1 := keep hbw (alloc_new w _); have hg1 := grown_trans (grown_alloc w (.cells #[.int .u64 0, .int .u64 0, .int .u64 0, .int .u64 0] 24) (some b)) (grown_below hbw)) | (go_at_call 53; (with_reducible refine Calls.mono (HI.out _ hb1) ?_); rintro e w2 ⟨rfl, hgi, hb2⟩; have hR2 := grown_heap hgi hR1 (fun e => hbne (Option.some.inj e)); have hg2 := grown_trans hg1 hgi; have hc2 := block_cell hb2; have hf2 := block_free hb2) | (go_at_call 48; (with_reducible refine Calls.mono (HN.out _ hb2) ?_); rintro e w3 ⟨rfl, hb23⟩; have hb3 := keep hb23 hb2; have hR3 := keep hb23 hR2; have hg3 := grown_trans hg2 (grown_below hb23); have hc3 := block_cell hb3; have hf3 := block_free hb3; have hb4 : (w3.setCell ⟨b, 1, none⟩ (.int .i64 (n1 : Int))).heap[b]? = some (rd s n1 0 0) := heap_setCell_self hb3 1 _; have hR4 := (heap_setCell_ne (w := w3) (b := b) 1 _ (.int .i64 (n1 : Int)) hbne).trans hR3; have hg4 := grown_trans hg3 (grown_set w3 b 1 (.int .i64 (n1 : Int)))) | (go_at_call 53; (with_reducible refine Calls.mono (HJ.out _ hb4) ?_); rintro e w5 ⟨rfl, hgj, hb5⟩; have hR5 := grown_heap hgj hR4 (fun e => hbne (Option.some.inj e)); have hg5 := grown_trans hg4 hgj; have hc5 := block_cell hb5; have hf5 := block_free hb5) | (go_at_call 43; (with_reducible refine Calls.mono (span_any lo hi2 hlo hhi _) ?_); rintro e w9 ⟨rfl, hbs⟩; have hb9 := keep hbs hb5; have hR9 := keep hbs hR5; have hg9 := grown_trans hg5 (grown_below hbs); have hc9 := block_cell hR9; have hf9 := block_free hR9))
  have hfin := set4 hR9 (.int .u64 (W (rngP lo (hi2 + 1)) 0)) (.int .u64 (W (rngP lo (hi2 + 1)) 1)) (.int .u64 (W (rngP lo (hi2 + 1)) 2)) (.int .u64 (W (rngP lo (hi2 + 1)) 3))
  have hfc := block_cell hfin
  have hbF := set4_ne hb9 (Ne.symm hbne) (.int .u64 (W (rngP lo (hi2 + 1)) 0)) (.int .u64 (W (rngP lo (hi2 + 1)) 1)) (.int .u64 (W (rngP lo (hi2 + 1)) 2)) (.int .u64 (W (rngP lo (hi2 + 1)) 3))
  have hgF := grown_set4 hg9 (Nat.le_refl w.heap.size) (.int .u64 (W (rngP lo (hi2 + 1)) 0)) (.int .u64 (W (rngP lo (hi2 + 1)) 1)) (.int .u64 (W (rngP lo (hi2 + 1)) 2)) (.int .u64 (W (rngP lo (hi2 + 1)) 3))
  refine bodyPost_ret (v := .agg #[.int .u64 (W (rngP lo (hi2 + 1)) 0), .int .u64 (W (rngP lo (hi2 + 1)) 1), .int .u64 (W (rngP lo (hi2 + 1)) 2), .int .u64 (W (rngP lo (hi2 + 1)) 3)]) (by simp [results, Tryd.results49, go_sem, hfc]) rfl ⟨(rngP lo (hi2 + 1)), rfl, hgF, MemLeft.ok HM.out hbF⟩

theorem member_any (s : ByteArray) (hs : s.size ≤ 140737488351232) (i : Nat) (hi : i ≤ s.size) (b : Nat) (w : World) (hb : w.heap[b]? = some (rd s i 0 0)) :
    Calls Tryd.prog 49 #[.pointer (some ⟨b, 0, none⟩)] w (MemPost s i b w) := by
  by_cases h : pk s i = 37
  · by_cases h1 : 0 ≤ pk s (i + 1)
    · have hr := pk_range s (i + 1)
      have hk : pk s (i + 1) = (((pk s (i + 1)).toNat : Nat) : Int) := by omega
      by_cases hE : classE (pk s (i + 1)).toNat = 0
      · exact member_cls_yes s hs i hi h _ hk hE b w hb
      · exact member_cls_no s hs i hi h _ hk ((classE_cases _).resolve_left hE) b w hb
    · exact member_cls_end s hs i hi h (by have := pk_range s (i + 1); omega) b w hb
  · cases hI : (itemR s i).2.2 with
    | false => exact member_lo_no s hs i hi h hI b w hb
    | true =>
      have k := itemR_ok hI
      have hI2 : itemR s i = (((itemR s i).1.toNat : Int), (itemR s i).2.1, true) := Prod.ext (by show (itemR s i).1 = _; omega) (Prod.ext rfl hI)
      by_cases hn : pk s (itemR s i).2.1 = 45
      · cases hJ : (itemR s ((itemR s i).2.1 + 1)).2.2 with
        | false => exact member_hi_no s hs i hi h _ _ (by omega) k.2.2.2 hI2 hn hJ b w hb
        | true =>
          have l := itemR_ok hJ
          have hJ2 : itemR s ((itemR s i).2.1 + 1) = (((itemR s ((itemR s i).2.1 + 1)).1.toNat : Int), (itemR s ((itemR s i).2.1 + 1)).2.1, true) := Prod.ext (by show (itemR s _).1 = _; omega) (Prod.ext rfl hJ)
          by_cases hl : (itemR s ((itemR s i).2.1 + 1)).1.toNat < (itemR s i).1.toNat
          · exact member_less s hs i hi h _ _ (by omega) k.2.2.2 hI2 hn _ _ (by omega) l.2.2.2 hJ2 hl b w hb
          · exact member_two s hs i hi h _ _ (by omega) k.2.2.2 hI2 hn _ _ (by omega) l.2.2.2 hJ2 hl b w hb
      · exact member_one s hs i hi h _ _ (by omega) k.2.2.2 hI2 hn b w hb

end Go.Proofs.YtjbdamedofgdgaaDoor
