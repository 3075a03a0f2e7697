/-
  harrowlaw01.CharsetCounts returns true, for every two sets; what lay in memory stays as it was.
-/
import Derived.Test.YtjbdamedofgdgaaDoorCounts
namespace Go.Proofs.YtjbdamedofgdgaaDoor
open Go.RowKit
set_option linter.unusedVariables false
set_option linter.unusedSimpArgs false

theorem text_at (xs : List Int) (i : Nat) (h : i < (strOfNums xs).size) (h0 : 0 ≤ xs.getD i 0) (h1 : xs.getD i 0 < 256) : (((strOfNums xs)[i]'h).toNat : Int) = xs.getD i 0 := by
  have hl : i < xs.length := by rw [strOfNums_size] at h; exact h
  have e : (strOfNums xs)[i]'h = UInt8.ofNat (xs.getD i 0).toNat := by
    rw [List.getD_eq_getElem?_getD, List.getElem?_eq_getElem hl]
    show ((xs.map fun n => UInt8.ofNat n.toNat).toArray)[i]'(by simpa using hl) = _
    rw [List.getElem_toArray, List.getElem_map]
    rfl
  rw [e]
  generalize xs.getD i 0 = z at *
  have h2 : z.toNat < 256 := by omega
  rw [show (UInt8.ofNat z.toNat).toNat = z.toNat % 256 from rfl, Nat.mod_eq_of_lt h2]
  omega
theorem memI_getD (p : Nat → Bool) (k i : Nat) : (memI p k).getD i 0 = (((mem p k).getD i 0 : Nat) : Int) := by
  simp only [memI, List.getD_eq_getElem?_getD, List.getElem?_map]
  cases (mem p k)[i]? <;> rfl
/-- What the law's text says of a set that is not empty. -/
theorem bytes_ends (p : Nat → Bool) (m M : Nat) (hm : m < 256) (hM : M < 256) (hp : p m = true) (hz : ∀ i, i < m → p i = false) (hp2 : p M = true) (hz2 : ∀ i, M < i → i < 256 → p i = false) :
    ∃ s : ByteArray, strOfNums (memI p 256) = s ∧ s.size = cnt p 256 ∧ 0 < s.size ∧ (∀ h : 0 < s.size, ((s[0]'h).toNat : Int) = (m : Int)) ∧ (∀ h : s.size - 1 < s.size, ((s[s.size - 1]'h).toNat : Int) = (M : Int)) := by
  have hsz : (strOfNums (memI p 256)).size = (mem p 256).length := by rw [strOfNums_size, memI_len]
  have hf := mem_first hm hp hz
  have hpos : 0 < (mem p 256).length := List.length_pos_iff.2 hf.2
  refine ⟨_, rfl, by rw [hsz, mem_cnt], by omega, fun h => ?_, fun h => ?_⟩
  · have e := memI_getD p 256 0
    rw [hf.1] at e
    rw [text_at _ _ _ (by rw [e]; omega) (by rw [e]; omega), e]
  · have e := memI_getD p 256 ((strOfNums (memI p 256)).size - 1)
    rw [hsz, mem_last hM hp2 hz2, ← hsz] at e
    rw [text_at _ _ _ (by rw [e]; omega) (by rw [e]; omega), e]

set_option maxHeartbeats 8000000 in
set_option maxRecDepth 20000 in
theorem lawCounts_many (p q : Nat → Bool) (m M : Nat) (s : ByteArray) (h2 : 2 ≤ s.size) (hn : cnt p 256 = s.size) (hm : m < 256) (hM : M < 256) (HB : Hid (∀ w, Calls Tryd.prog 7 #[.agg #[.int .u64 (W p 0), .int .u64 (W p 1), .int .u64 (W p 2), .int .u64 (W p 3)]] w fun e w' => e = .returned (.string s) ∧ Below w.heap.size w w')) (HL : Hid (∀ w, TabOk w → Calls Tryd.prog 15 #[.agg #[.int .u64 (W p 0), .int .u64 (W p 1), .int .u64 (W p 2), .int .u64 (W p 3)]] w fun e w' => e = .returned (.tuple #[.int .i64 (m : Int), .bool true]) ∧ Below w.heap.size w w')) (HM : Hid (∀ w, Calls Tryd.prog 16 #[.agg #[.int .u64 (W p 0), .int .u64 (W p 1), .int .u64 (W p 2), .int .u64 (W p 3)]] w fun e w' => e = .returned (.tuple #[.int .i64 (M : Int), .bool true]) ∧ Below w.heap.size w w')) (e0 : ∀ h : 0 < s.size, ((s[0]'h).toNat : Int) = (m : Int)) (e1 : ∀ h : s.size - 1 < s.size, ((s[s.size - 1]'h).toNat : Int) = (M : Int)) (w : World) (hT : TabOk w) :
    Calls Tryd.prog 4 #[.agg #[.int .u64 (W p 0), .int .u64 (W p 1), .int .u64 (W p 2), .int .u64 (W p 3)], .agg #[.int .u64 (W q 0), .int .u64 (W q 1), .int .u64 (W q 2), .int .u64 (W q 3)]] w fun e w' => e = .returned (.bool true) ∧ Below w.heap.size w w' := by
  have HC := hid (count_any p)
  rw [hn] at HC
  have HS := hid (single_no p (by omega))
  have hsm : s.size ≤ 256 := by rw [← hn]; exact cnt_le p 256
  have HE := hid (empty_any p)
  rw [show decide (cnt p 256 = 0) = false from decide_eq_false (by omega)] at HE
  have H1 := hid (rcount_any (mee p q))
  have H2 := hid (rcount_any (les p q))
  have HA := hid (apart_any p q)
  have HW := hid (within_any p q)
  have HF := hid (full_any p)
  rw [hn] at HF
  generalize cnt (mee p q) 256 = c1 at *
  generalize cnt (les p q) 256 = c2 at *
  have t1 : (((c1 : Nat) : Int) == 0) = decide (c1 = 0) := by rw [Bool.eq_iff_iff, beq_iff_eq, decide_eq_true_iff]; omega
  have t2 : (((c2 : Nat) : Int) == 0) = decide (c2 = 0) := by rw [Bool.eq_iff_iff, beq_iff_eq, decide_eq_true_iff]; omega
  generalize decide (c1 = 0) = z1 at *
  generalize decide (c2 = 0) = z2 at *
  have hF2 : (((s.size : Nat) : Int) == 256) = decide (s.size = 256) := by rw [Bool.eq_iff_iff, beq_iff_eq, decide_eq_true_iff]; omega
  generalize decide (s.size = 256) = f1 at *
  have hd : decide (0 < s.size) = true := decide_eq_true (by omega)
  have hd1 : (((s.size : Nat) : Int) == 1) = false := beq_eq_false_iff_ne.2 (by omega)
  have hd2 : (((s.size : Nat) : Int) == 0) = false := beq_eq_false_iff_ne.2 (by omega)
  have hd3 : ¬ s = ByteArray.empty := fun h => by rw [h] at h2; simp at h2
  clear hn
  have hB := ((Below.refl w.heap.size w).alloc (Nat.le_refl _) (.cells #[.int .u64 (W p 0), .int .u64 (W p 1), .int .u64 (W p 2), .int .u64 (W p 3)] 24)).alloc (by simp) (.cells #[.int .u64 (W q 0), .int .u64 (W q 1), .int .u64 (W q 2), .int .u64 (W q 3)] 24)
  have hT0 := hid (hT.below hB hT.1)
  have x0 := alloc_old (y := .cells #[.int .u64 (W q 0), .int .u64 (W q 1), .int .u64 (W q 2), .int .u64 (W q 3)] 24) (alloc_new w (.cells #[.int .u64 (W p 0), .int .u64 (W p 1), .int .u64 (W p 2), .int .u64 (W p 3)] 24))
  have y0 := (by have h := alloc_new (w.alloc (.cells #[.int .u64 (W p 0), .int .u64 (W p 1), .int .u64 (W p 2), .int .u64 (W p 3)] 24)) (.cells #[.int .u64 (W q 0), .int .u64 (W q 1), .int .u64 (W q 2), .int .u64 (W q 3)] 24); simpa using h : ((w.alloc (.cells #[.int .u64 (W p 0), .int .u64 (W p 1), .int .u64 (W p 2), .int .u64 (W p 3)] 24)).alloc (.cells #[.int .u64 (W q 0), .int .u64 (W q 1), .int .u64 (W q 2), .int .u64 (W q 3)] 24)).heap[w.heap.size + 1]? = some (.cells #[.int .u64 (W q 0), .int .u64 (W q 1), .int .u64 (W q 2), .int .u64 (W q 3)] 24))
  clear hT
  go_enter Tryd.func4, Tryd.ntmps4
  go_wp2_with (first | (go_at_call 7; with_reducible refine Calls.mono (HB.out _) ?_; rintro e w1 ⟨rfl, hb1⟩; have x1 := below_heap hb1 (block_lt x0) x0; have y1 := below_heap hb1 (block_lt y0) y0; have lx1 := block_cell x1; have ly1 := block_cell y1; have hT1 := hid (hT0.out.below hb1 (Nat.lt_of_le_of_lt (Nat.zero_le _) (block_lt x0)))) | (go_at_call 15; with_reducible refine Calls.mono (HL.out _ hT1.out) ?_; rintro e w2 ⟨rfl, hb2⟩; have x2 := below_heap hb2 (block_lt x1) x1; have y2 := below_heap hb2 (block_lt y1) y1; have lx2 := block_cell x2; have ly2 := block_cell y2; have hT2 := hid (hT1.out.below hb2 (Nat.lt_of_le_of_lt (Nat.zero_le _) (block_lt x1)))) | (go_at_call 16; with_reducible refine Calls.mono (HM.out _) ?_; rintro e w3 ⟨rfl, hb3⟩; have x3 := below_heap hb3 (block_lt x2) x2; have y3 := below_heap hb3 (block_lt y2) y2; have lx3 := block_cell x3; have ly3 := block_cell y3; have hT3 := hid (hT2.out.below hb3 (Nat.lt_of_le_of_lt (Nat.zero_le _) (block_lt x2)))) | (go_at_call 17; with_reducible refine Calls.mono (HS.out _ ) ?_; rintro e w4 ⟨rfl, hb4⟩; have x4 := below_heap hb4 (block_lt x3) x3; have y4 := below_heap hb4 (block_lt y3) y3; have lx4 := block_cell x4; have ly4 := block_cell y4; have hT4 := hid (hT3.out.below hb4 (Nat.lt_of_le_of_lt (Nat.zero_le _) (block_lt x3)))) | (go_at_call 18; with_reducible refine Calls.mono (HC.out _) ?_; rintro e w5 ⟨rfl, hb5⟩; have x5 := below_heap hb5 (block_lt x4) x4; have y5 := below_heap hb5 (block_lt y4) y4; have lx5 := block_cell x5; have ly5 := block_cell y5; have hT5 := hid (hT4.out.below hb5 (Nat.lt_of_le_of_lt (Nat.zero_le _) (block_lt x4)))))
  have b5 := ((((hB.trans (hb1.mono hB.size)).trans (hb2.mono (Nat.le_trans hB.size hb1.size))).trans (hb3.mono (Nat.le_trans (Nat.le_trans hB.size hb1.size) hb2.size))).trans (hb4.mono (Nat.le_trans (Nat.le_trans (Nat.le_trans hB.size hb1.size) hb2.size) hb3.size))).trans (hb5.mono (Nat.le_trans (Nat.le_trans (Nat.le_trans (Nat.le_trans hB.size hb1.size) hb2.size) hb3.size) hb4.size))
  clear hb1 hb2 hb3 hb4 hb5 x0 x1 x2 x3 x4 y0 y1 y2 y3 y4 lx1 lx2 lx3 lx4 ly1 ly2 ly3 ly4 hT0 hT1 hT2 hT3 hT4 hB
  have gx := grow_cell x5 (block_lt x5)
  have gy := grow_cell y5 (block_lt y5)
  refine wp_region_grow w5.heap.size (by kernel_rfl) (by kernel_rfl) ?_
  repeat (go_big_quiet_step (first | (go_at_call 20; with_reducible refine Calls.grow_of (Nat.le_refl _) (rmeet_any p q _); done) | (go_at_call 21; with_reducible refine Calls.grow_of (Nat.le_refl _) (rless_any p q _); done) | (go_at_call 19; with_reducible refine Calls.grow_of (Nat.le_refl _) (H1.out _); done) | (go_at_call 19; with_reducible refine Calls.grow_of (Nat.le_refl _) (H2.out _); done)))
  refine wpQuiet_nil ?_
  rintro _ ⟨g, rfl⟩
  have x6 := grow_heap x5 (block_lt x5) g
  have y6 := grow_heap y5 (block_lt y5) g
  have b6 := b5.trans (g.below.mono b5.size)
  have hT6 := hT5
  clear gx gy x5 y5 lx5 ly5 hT5 b5 hT6
  generalize g.val = w6 at *
  have lx6 := block_cell x6
  have ly6 := block_cell y6
  go_wp2_with (first | (go_at_call 22; with_reducible refine Calls.mono (HE.out _) ?_; rintro e w7 ⟨rfl, hb7⟩; have x7 := below_heap hb7 (block_lt x6) x6; have y7 := below_heap hb7 (block_lt y6) y6; have lx7 := block_cell x7; have ly7 := block_cell y7; have b7 := b6.trans (hb7.mono b6.size)) | (go_at_call 23; with_reducible refine Calls.mono (HF.out _) ?_; rintro e w8 ⟨rfl, hb8⟩; have x8 := below_heap hb8 (block_lt x7) x7; have y8 := below_heap hb8 (block_lt y7) y7; have lx8 := block_cell x8; have ly8 := block_cell y8; have b8 := b7.trans (hb8.mono b7.size)) | (go_at_call 24; with_reducible refine Calls.mono (HA.out _) ?_; rintro e w9 ⟨rfl, hb9⟩; have x9 := below_heap hb9 (block_lt x8) x8; have y9 := below_heap hb9 (block_lt y8) y8; have lx9 := block_cell x9; have ly9 := block_cell y9; have b9 := b8.trans (hb9.mono b8.size)) | (go_at_call 25; with_reducible refine Calls.mono (HW.out _) ?_; rintro e w10 ⟨rfl, hb10⟩; have x10 := below_heap hb10 (block_lt x9) x9; have y10 := below_heap hb10 (block_lt y9) y9; have lx10 := block_cell x10; have ly10 := block_cell y10; have b10 := b9.trans (hb10.mono b9.size)))
  go_ret
  exact ⟨rfl, b10⟩
set_option maxHeartbeats 8000000 in
set_option maxRecDepth 20000 in
theorem lawCounts_one (p q : Nat → Bool) (m : Nat) (s : ByteArray) (hs1 : s.size = 1) (hn : cnt p 256 = 1) (hm : m < 256) (HB : Hid (∀ w, Calls Tryd.prog 7 #[.agg #[.int .u64 (W p 0), .int .u64 (W p 1), .int .u64 (W p 2), .int .u64 (W p 3)]] w fun e w' => e = .returned (.string s) ∧ Below w.heap.size w w')) (HL : Hid (∀ w, TabOk w → Calls Tryd.prog 15 #[.agg #[.int .u64 (W p 0), .int .u64 (W p 1), .int .u64 (W p 2), .int .u64 (W p 3)]] w fun e w' => e = .returned (.tuple #[.int .i64 (m : Int), .bool true]) ∧ Below w.heap.size w w')) (HM : Hid (∀ w, Calls Tryd.prog 16 #[.agg #[.int .u64 (W p 0), .int .u64 (W p 1), .int .u64 (W p 2), .int .u64 (W p 3)]] w fun e w' => e = .returned (.tuple #[.int .i64 (m : Int), .bool true]) ∧ Below w.heap.size w w')) (HS : Hid (∀ w, TabOk w → Calls Tryd.prog 17 #[.agg #[.int .u64 (W p 0), .int .u64 (W p 1), .int .u64 (W p 2), .int .u64 (W p 3)]] w fun e w' => e = .returned (.tuple #[.int .i64 (m : Int), .bool true]) ∧ Below w.heap.size w w')) (e0 : ∀ h : 0 < s.size, ((s[0]'h).toNat : Int) = (m : Int)) (w : World) (hT : TabOk w) :
    Calls Tryd.prog 4 #[.agg #[.int .u64 (W p 0), .int .u64 (W p 1), .int .u64 (W p 2), .int .u64 (W p 3)], .agg #[.int .u64 (W q 0), .int .u64 (W q 1), .int .u64 (W q 2), .int .u64 (W q 3)]] w fun e w' => e = .returned (.bool true) ∧ Below w.heap.size w w' := by
  have HC := hid (count_any p)
  rw [hn] at HC
  have HE := hid (empty_any p)
  rw [show decide (cnt p 256 = 0) = false from decide_eq_false (by omega)] at HE
  have H1 := hid (rcount_any (mee p q))
  have H2 := hid (rcount_any (les p q))
  have HA := hid (apart_any p q)
  have HW := hid (within_any p q)
  have HF := hid (full_any p)
  generalize cnt (mee p q) 256 = c1 at *
  generalize cnt (les p q) 256 = c2 at *
  have t1 : (((c1 : Nat) : Int) == 0) = decide (c1 = 0) := by rw [Bool.eq_iff_iff, beq_iff_eq, decide_eq_true_iff]; omega
  have t2 : (((c2 : Nat) : Int) == 0) = decide (c2 = 0) := by rw [Bool.eq_iff_iff, beq_iff_eq, decide_eq_true_iff]; omega
  generalize decide (c1 = 0) = z1 at *
  generalize decide (c2 = 0) = z2 at *
  rw [show decide (cnt p 256 = 256) = false from decide_eq_false (by omega)] at HF
  have hd3 : ¬ s = ByteArray.empty := fun h => by rw [h] at hs1; simp at hs1
  clear hn
  have hB := ((Below.refl w.heap.size w).alloc (Nat.le_refl _) (.cells #[.int .u64 (W p 0), .int .u64 (W p 1), .int .u64 (W p 2), .int .u64 (W p 3)] 24)).alloc (by simp) (.cells #[.int .u64 (W q 0), .int .u64 (W q 1), .int .u64 (W q 2), .int .u64 (W q 3)] 24)
  have hT0 := hid (hT.below hB hT.1)
  have x0 := alloc_old (y := .cells #[.int .u64 (W q 0), .int .u64 (W q 1), .int .u64 (W q 2), .int .u64 (W q 3)] 24) (alloc_new w (.cells #[.int .u64 (W p 0), .int .u64 (W p 1), .int .u64 (W p 2), .int .u64 (W p 3)] 24))
  have y0 := (by have h := alloc_new (w.alloc (.cells #[.int .u64 (W p 0), .int .u64 (W p 1), .int .u64 (W p 2), .int .u64 (W p 3)] 24)) (.cells #[.int .u64 (W q 0), .int .u64 (W q 1), .int .u64 (W q 2), .int .u64 (W q 3)] 24); simpa using h : ((w.alloc (.cells #[.int .u64 (W p 0), .int .u64 (W p 1), .int .u64 (W p 2), .int .u64 (W p 3)] 24)).alloc (.cells #[.int .u64 (W q 0), .int .u64 (W q 1), .int .u64 (W q 2), .int .u64 (W q 3)] 24)).heap[w.heap.size + 1]? = some (.cells #[.int .u64 (W q 0), .int .u64 (W q 1), .int .u64 (W q 2), .int .u64 (W q 3)] 24))
  clear hT
  go_enter Tryd.func4, Tryd.ntmps4
  go_wp2_with (first | (go_at_call 7; with_reducible refine Calls.mono (HB.out _) ?_; rintro e w1 ⟨rfl, hb1⟩; have x1 := below_heap hb1 (block_lt x0) x0; have y1 := below_heap hb1 (block_lt y0) y0; have lx1 := block_cell x1; have ly1 := block_cell y1; have hT1 := hid (hT0.out.below hb1 (Nat.lt_of_le_of_lt (Nat.zero_le _) (block_lt x0)))) | (go_at_call 15; with_reducible refine Calls.mono (HL.out _ hT1.out) ?_; rintro e w2 ⟨rfl, hb2⟩; have x2 := below_heap hb2 (block_lt x1) x1; have y2 := below_heap hb2 (block_lt y1) y1; have lx2 := block_cell x2; have ly2 := block_cell y2; have hT2 := hid (hT1.out.below hb2 (Nat.lt_of_le_of_lt (Nat.zero_le _) (block_lt x1)))) | (go_at_call 16; with_reducible refine Calls.mono (HM.out _) ?_; rintro e w3 ⟨rfl, hb3⟩; have x3 := below_heap hb3 (block_lt x2) x2; have y3 := below_heap hb3 (block_lt y2) y2; have lx3 := block_cell x3; have ly3 := block_cell y3; have hT3 := hid (hT2.out.below hb3 (Nat.lt_of_le_of_lt (Nat.zero_le _) (block_lt x2)))) | (go_at_call 17; with_reducible refine Calls.mono (HS.out _ hT3.out) ?_; rintro e w4 ⟨rfl, hb4⟩; have x4 := below_heap hb4 (block_lt x3) x3; have y4 := below_heap hb4 (block_lt y3) y3; have lx4 := block_cell x4; have ly4 := block_cell y4; have hT4 := hid (hT3.out.below hb4 (Nat.lt_of_le_of_lt (Nat.zero_le _) (block_lt x3)))) | (go_at_call 18; with_reducible refine Calls.mono (HC.out _) ?_; rintro e w5 ⟨rfl, hb5⟩; have x5 := below_heap hb5 (block_lt x4) x4; have y5 := below_heap hb5 (block_lt y4) y4; have lx5 := block_cell x5; have ly5 := block_cell y5; have hT5 := hid (hT4.out.below hb5 (Nat.lt_of_le_of_lt (Nat.zero_le _) (block_lt x4)))))
  have b5 := ((((hB.trans (hb1.mono hB.size)).trans (hb2.mono (Nat.le_trans hB.size hb1.size))).trans (hb3.mono (Nat.le_trans (Nat.le_trans hB.size hb1.size) hb2.size))).trans (hb4.mono (Nat.le_trans (Nat.le_trans (Nat.le_trans hB.size hb1.size) hb2.size) hb3.size))).trans (hb5.mono (Nat.le_trans (Nat.le_trans (Nat.le_trans (Nat.le_trans hB.size hb1.size) hb2.size) hb3.size) hb4.size))
  clear hb1 hb2 hb3 hb4 hb5 x0 x1 x2 x3 x4 y0 y1 y2 y3 y4 lx1 lx2 lx3 lx4 ly1 ly2 ly3 ly4 hT0 hT1 hT2 hT3 hT4 hB
  have gx := grow_cell x5 (block_lt x5)
  have gy := grow_cell y5 (block_lt y5)
  refine wp_region_grow w5.heap.size (by kernel_rfl) (by kernel_rfl) ?_
  repeat (go_big_quiet_step (first | (go_at_call 20; with_reducible refine Calls.grow_of (Nat.le_refl _) (rmeet_any p q _); done) | (go_at_call 21; with_reducible refine Calls.grow_of (Nat.le_refl _) (rless_any p q _); done) | (go_at_call 19; with_reducible refine Calls.grow_of (Nat.le_refl _) (H1.out _); done) | (go_at_call 19; with_reducible refine Calls.grow_of (Nat.le_refl _) (H2.out _); done)))
  refine wpQuiet_nil ?_
  rintro _ ⟨g, rfl⟩
  have x6 := grow_heap x5 (block_lt x5) g
  have y6 := grow_heap y5 (block_lt y5) g
  have b6 := b5.trans (g.below.mono b5.size)
  have hT6 := hT5
  clear gx gy x5 y5 lx5 ly5 hT5 b5 hT6
  generalize g.val = w6 at *
  have lx6 := block_cell x6
  have ly6 := block_cell y6
  go_wp2_with (first | (go_at_call 22; with_reducible refine Calls.mono (HE.out _) ?_; rintro e w7 ⟨rfl, hb7⟩; have x7 := below_heap hb7 (block_lt x6) x6; have y7 := below_heap hb7 (block_lt y6) y6; have lx7 := block_cell x7; have ly7 := block_cell y7; have b7 := b6.trans (hb7.mono b6.size)) | (go_at_call 23; with_reducible refine Calls.mono (HF.out _) ?_; rintro e w8 ⟨rfl, hb8⟩; have x8 := below_heap hb8 (block_lt x7) x7; have y8 := below_heap hb8 (block_lt y7) y7; have lx8 := block_cell x8; have ly8 := block_cell y8; have b8 := b7.trans (hb8.mono b7.size)) | (go_at_call 24; with_reducible refine Calls.mono (HA.out _) ?_; rintro e w9 ⟨rfl, hb9⟩; have x9 := below_heap hb9 (block_lt x8) x8; have y9 := below_heap hb9 (block_lt y8) y8; have lx9 := block_cell x9; have ly9 := block_cell y9; have b9 := b8.trans (hb9.mono b8.size)) | (go_at_call 25; with_reducible refine Calls.mono (HW.out _) ?_; rintro e w10 ⟨rfl, hb10⟩; have x10 := below_heap hb10 (block_lt x9) x9; have y10 := below_heap hb10 (block_lt y9) y9; have lx10 := block_cell x10; have ly10 := block_cell y10; have b10 := b9.trans (hb10.mono b9.size)))
  go_ret
  exact ⟨rfl, b10⟩
set_option maxHeartbeats 8000000 in
set_option maxRecDepth 20000 in
theorem lawCounts_none (p q : Nat → Bool) (hn : cnt p 256 = 0) (HB : Hid (∀ w, Calls Tryd.prog 7 #[.agg #[.int .u64 (W p 0), .int .u64 (W p 1), .int .u64 (W p 2), .int .u64 (W p 3)]] w fun e w' => e = .returned (.string ByteArray.empty) ∧ Below w.heap.size w w')) (w : World) (hT : TabOk w) :
    Calls Tryd.prog 4 #[.agg #[.int .u64 (W p 0), .int .u64 (W p 1), .int .u64 (W p 2), .int .u64 (W p 3)], .agg #[.int .u64 (W q 0), .int .u64 (W q 1), .int .u64 (W q 2), .int .u64 (W q 3)]] w fun e w' => e = .returned (.bool true) ∧ Below w.heap.size w w' := by
  have HC := hid (count_any p)
  rw [hn] at HC
  have HL := hid (least_none p (cnt_zero hn))
  have HM := hid (most_none p (cnt_zero hn))
  have HS := hid (single_no p (by omega))
  have HE := hid (empty_any p)
  rw [show decide (cnt p 256 = 0) = true from decide_eq_true hn] at HE
  have H1 := hid (rcount_any (mee p q))
  have H2 := hid (rcount_any (les p q))
  have HA := hid (apart_any p q)
  have HW := hid (within_any p q)
  have HF := hid (full_any p)
  generalize cnt (mee p q) 256 = c1 at *
  generalize cnt (les p q) 256 = c2 at *
  have t1 : (((c1 : Nat) : Int) == 0) = decide (c1 = 0) := by rw [Bool.eq_iff_iff, beq_iff_eq, decide_eq_true_iff]; omega
  have t2 : (((c2 : Nat) : Int) == 0) = decide (c2 = 0) := by rw [Bool.eq_iff_iff, beq_iff_eq, decide_eq_true_iff]; omega
  generalize decide (c1 = 0) = z1 at *
  generalize decide (c2 = 0) = z2 at *
  rw [show decide (cnt p 256 = 256) = false from decide_eq_false (by omega)] at HF
  clear hn
  have hB := ((Below.refl w.heap.size w).alloc (Nat.le_refl _) (.cells #[.int .u64 (W p 0), .int .u64 (W p 1), .int .u64 (W p 2), .int .u64 (W p 3)] 24)).alloc (by simp) (.cells #[.int .u64 (W q 0), .int .u64 (W q 1), .int .u64 (W q 2), .int .u64 (W q 3)] 24)
  have hT0 := hid (hT.below hB hT.1)
  have x0 := alloc_old (y := .cells #[.int .u64 (W q 0), .int .u64 (W q 1), .int .u64 (W q 2), .int .u64 (W q 3)] 24) (alloc_new w (.cells #[.int .u64 (W p 0), .int .u64 (W p 1), .int .u64 (W p 2), .int .u64 (W p 3)] 24))
  have y0 := (by have h := alloc_new (w.alloc (.cells #[.int .u64 (W p 0), .int .u64 (W p 1), .int .u64 (W p 2), .int .u64 (W p 3)] 24)) (.cells #[.int .u64 (W q 0), .int .u64 (W q 1), .int .u64 (W q 2), .int .u64 (W q 3)] 24); simpa using h : ((w.alloc (.cells #[.int .u64 (W p 0), .int .u64 (W p 1), .int .u64 (W p 2), .int .u64 (W p 3)] 24)).alloc (.cells #[.int .u64 (W q 0), .int .u64 (W q 1), .int .u64 (W q 2), .int .u64 (W q 3)] 24)).heap[w.heap.size + 1]? = some (.cells #[.int .u64 (W q 0), .int .u64 (W q 1), .int .u64 (W q 2), .int .u64 (W q 3)] 24))
  clear hT
  go_enter Tryd.func4, Tryd.ntmps4
  go_wp2_with (first | (go_at_call 7; with_reducible refine Calls.mono (HB.out _) ?_; rintro e w1 ⟨rfl, hb1⟩; have x1 := below_heap hb1 (block_lt x0) x0; have y1 := below_heap hb1 (block_lt y0) y0; have lx1 := block_cell x1; have ly1 := block_cell y1; have hT1 := hid (hT0.out.below hb1 (Nat.lt_of_le_of_lt (Nat.zero_le _) (block_lt x0)))) | (go_at_call 15; with_reducible refine Calls.mono (HL.out _) ?_; rintro e w2 ⟨rfl, hb2⟩; have x2 := below_heap hb2 (block_lt x1) x1; have y2 := below_heap hb2 (block_lt y1) y1; have lx2 := block_cell x2; have ly2 := block_cell y2; have hT2 := hid (hT1.out.below hb2 (Nat.lt_of_le_of_lt (Nat.zero_le _) (block_lt x1)))) | (go_at_call 16; with_reducible refine Calls.mono (HM.out _) ?_; rintro e w3 ⟨rfl, hb3⟩; have x3 := below_heap hb3 (block_lt x2) x2; have y3 := below_heap hb3 (block_lt y2) y2; have lx3 := block_cell x3; have ly3 := block_cell y3; have hT3 := hid (hT2.out.below hb3 (Nat.lt_of_le_of_lt (Nat.zero_le _) (block_lt x2)))) | (go_at_call 17; with_reducible refine Calls.mono (HS.out _ ) ?_; rintro e w4 ⟨rfl, hb4⟩; have x4 := below_heap hb4 (block_lt x3) x3; have y4 := below_heap hb4 (block_lt y3) y3; have lx4 := block_cell x4; have ly4 := block_cell y4; have hT4 := hid (hT3.out.below hb4 (Nat.lt_of_le_of_lt (Nat.zero_le _) (block_lt x3)))) | (go_at_call 18; with_reducible refine Calls.mono (HC.out _) ?_; rintro e w5 ⟨rfl, hb5⟩; have x5 := below_heap hb5 (block_lt x4) x4; have y5 := below_heap hb5 (block_lt y4) y4; have lx5 := block_cell x5; have ly5 := block_cell y5; have hT5 := hid (hT4.out.below hb5 (Nat.lt_of_le_of_lt (Nat.zero_le _) (block_lt x4)))))
  have b5 := ((((hB.trans (hb1.mono hB.size)).trans (hb2.mono (Nat.le_trans hB.size hb1.size))).trans (hb3.mono (Nat.le_trans (Nat.le_trans hB.size hb1.size) hb2.size))).trans (hb4.mono (Nat.le_trans (Nat.le_trans (Nat.le_trans hB.size hb1.size) hb2.size) hb3.size))).trans (hb5.mono (Nat.le_trans (Nat.le_trans (Nat.le_trans (Nat.le_trans hB.size hb1.size) hb2.size) hb3.size) hb4.size))
  clear hb1 hb2 hb3 hb4 hb5 x0 x1 x2 x3 x4 y0 y1 y2 y3 y4 lx1 lx2 lx3 lx4 ly1 ly2 ly3 ly4 hT0 hT1 hT2 hT3 hT4 hB
  have gx := grow_cell x5 (block_lt x5)
  have gy := grow_cell y5 (block_lt y5)
  refine wp_region_grow w5.heap.size (by kernel_rfl) (by kernel_rfl) ?_
  repeat (go_big_quiet_step (first | (go_at_call 20; with_reducible refine Calls.grow_of (Nat.le_refl _) (rmeet_any p q _); done) | (go_at_call 21; with_reducible refine Calls.grow_of (Nat.le_refl _) (rless_any p q _); done) | (go_at_call 19; with_reducible refine Calls.grow_of (Nat.le_refl _) (H1.out _); done) | (go_at_call 19; with_reducible refine Calls.grow_of (Nat.le_refl _) (H2.out _); done)))
  refine wpQuiet_nil ?_
  rintro _ ⟨g, rfl⟩
  have x6 := grow_heap x5 (block_lt x5) g
  have y6 := grow_heap y5 (block_lt y5) g
  have b6 := b5.trans (g.below.mono b5.size)
  have hT6 := hT5
  clear gx gy x5 y5 lx5 ly5 hT5 b5 hT6
  generalize g.val = w6 at *
  have lx6 := block_cell x6
  have ly6 := block_cell y6
  go_wp2_with (first | (go_at_call 22; with_reducible refine Calls.mono (HE.out _) ?_; rintro e w7 ⟨rfl, hb7⟩; have x7 := below_heap hb7 (block_lt x6) x6; have y7 := below_heap hb7 (block_lt y6) y6; have lx7 := block_cell x7; have ly7 := block_cell y7; have b7 := b6.trans (hb7.mono b6.size)) | (go_at_call 23; with_reducible refine Calls.mono (HF.out _) ?_; rintro e w8 ⟨rfl, hb8⟩; have x8 := below_heap hb8 (block_lt x7) x7; have y8 := below_heap hb8 (block_lt y7) y7; have lx8 := block_cell x8; have ly8 := block_cell y8; have b8 := b7.trans (hb8.mono b7.size)) | (go_at_call 24; with_reducible refine Calls.mono (HA.out _) ?_; rintro e w9 ⟨rfl, hb9⟩; have x9 := below_heap hb9 (block_lt x8) x8; have y9 := below_heap hb9 (block_lt y8) y8; have lx9 := block_cell x9; have ly9 := block_cell y9; have b9 := b8.trans (hb9.mono b8.size)) | (go_at_call 25; with_reducible refine Calls.mono (HW.out _) ?_; rintro e w10 ⟨rfl, hb10⟩; have x10 := below_heap hb10 (block_lt x9) x9; have y10 := below_heap hb10 (block_lt y9) y9; have lx10 := block_cell x10; have ly10 := block_cell y10; have b10 := b9.trans (hb10.mono b9.size)))
  go_ret
  exact ⟨rfl, b10⟩
theorem lawCounts_any (p q : Nat → Bool) (w : World) (hT : TabOk w) :
    Calls Tryd.prog 4 #[.agg #[.int .u64 (W p 0), .int .u64 (W p 1), .int .u64 (W p 2), .int .u64 (W p 3)], .agg #[.int .u64 (W q 0), .int .u64 (W q 1), .int .u64 (W q 2), .int .u64 (W q 3)]] w fun e w' => e = .returned (.bool true) ∧ Below w.heap.size w w' := by
  by_cases h0 : cnt p 256 = 0
  · refine lawCounts_none p q h0 (hid fun w => ?_) w hT
    have h := rbytes_any p w
    rw [show memI p 256 = [] from List.eq_nil_of_length_eq_zero (by rw [memI_len, mem_cnt, h0])] at h
    exact h
  · have hex : ¬ ∀ i, i < 256 → p i = false := fun h => h0 (cnt_none h)
    obtain ⟨m, hm, hp, hz⟩ := least_ex hex
    obtain ⟨M, hM, hp2, hz2⟩ := most_ex hex
    obtain ⟨s, hs, hsz, hpos, e0, e1⟩ := bytes_ends p m M hm hM hp hz hp2 hz2
    have HB := rbytes_any p
    rw [hs] at HB
    by_cases h1 : s.size = 1
    · have hMm : M = m := by
        have a := e0 (by omega)
        have b := e1 (by omega)
        have c : ∀ (h : 0 < s.size) (h' : s.size - 1 < s.size), (s[s.size - 1]'h') = (s[0]'h) := fun h h' => by
          have hi : s.size - 1 = 0 := by omega
          simp only [hi]
        rw [c (by omega) (by omega)] at b
        omega
      subst hMm
      exact lawCounts_one p q M s h1 (by omega) hM (hid HB) (hid (least_some p M hM hp hz)) (hid (most_some p M hM hp2 hz2)) (hid fun w hT => single_yes p M hM hp hz (by omega) w hT) e0 w hT
    · exact lawCounts_many p q m M s (by omega) (by omega) hm hM (hid HB) (hid (least_some p m hm hp hz)) (hid (most_some p M hM hp2 hz2)) e0 e1 w hT

end Go.Proofs.YtjbdamedofgdgaaDoor
