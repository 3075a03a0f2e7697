/-
  harrowlaw01.CharsetBack returns true, for every set and every text; what lay in memory stays as it was.
-/
import Derived.Test.YtjbdamedofgdgabDoorWorks01
import Derived.Test.YtjbdamedofgdgabDoorFromSpans
import Derived.Test.YtjbdamedofgdgabDoorOf
import Derived.Test.YtjbdamedofgdgabDoorBytes
namespace Go.Proofs.YtjbdamedofgdgabDoor
open Go.RowKit
set_option linter.unusedVariables false
set_option linter.unusedSimpArgs false
set_option maxHeartbeats 1000000 in
theorem eq_fault (a b c d : Int) (w : World) :
    Sem.run Tryd.prog (Op.equalIn 10000 37 (.agg #[.int .i64 a, .int .i64 b]) (.agg #[.int .i64 c, .int .i64 d])) w = .ok (a == c && b == d) w := by
  have h1 := Tryd.underlying3
  have h2 := Tryd.underlying28
  rw [show (10000 : Nat) = 9999 + 1 from rfl, Op.equalIn]
  simp only [Sem.run_bind, run_underlying Tryd.underlying37, Result.andThen_ok]
  simp only [show (9999 : Nat) = 9998 + 1 from rfl]
  simp [go_sem, run_equalIn_int]
  by_cases x : a = c <;> by_cases y : b = d <;> simp [x, y]
theorem four_same {p q : Nat → Bool} (h : ∀ i, i < 256 → q i = p i) : W q 0 = W p 0 ∧ W q 1 = W p 1 ∧ W q 2 = W p 2 ∧ W q 3 = W p 3 :=
  ⟨W_congr fun i _ h1 => h i (by omega), W_congr fun i _ h1 => h i (by omega), W_congr fun i _ h1 => h i (by omega), W_congr fun i _ h1 => h i (by omega)⟩
/-- What Parse returns of a set's class text. -/
theorem parse_shown (p : Nat → Bool) (w : World) : Calls Tryd.prog 9 #[.string ⟨(showS p).toArray⟩] w fun e w' => e = .returned (.tuple #[.agg #[.int .u64 (W p 0), .int .u64 (W p 1), .int .u64 (W p 2), .int .u64 (W p 3)], .agg #[.int .i64 0, .int .i64 0]]) ∧ Below w.heap.size w w' := by
  obtain ⟨q, hq, hp⟩ := parse_show (p := p) (s := ⟨(showS p).toArray⟩) (by simp)
  have hz : (⟨(showS p).toArray⟩ : ByteArray).size ≤ 140737488351232 := by
    have := showS_len p
    show (showS p).toArray.size ≤ _
    simp; omega
  refine (parse_any _ hz w).mono fun e w' ⟨hb, h⟩ => ?_
  rw [hq] at h
  simp only at h
  obtain ⟨h0, h1, h2, h3⟩ := four_same hp
  rw [h0, h1, h2, h3] at h
  exact ⟨h, hb⟩
theorem fsAcc_ok : ∀ (l : Sps) (acc : Nat → Bool), (∀ x ∈ l, okSp x) → ∃ q, fsAcc l acc = some q ∧ ∀ i, q i = (acc i || inSps l i) := by
  intro l
  induction l with
  | nil => intro acc _; exact ⟨acc, rfl, fun i => by simp [inSps]⟩
  | cons x l ih =>
    intro acc h
    have hx := h x (by simp)
    obtain ⟨q, h1, h2⟩ := ih (uni acc (rngP x.1.toNat (x.2.toNat + 1))) (fun y hy => h y (by simp [hy]))
    refine ⟨q, by rw [fsAcc, if_pos ⟨hx.1, hx.2.1, by have := hx.2.2; omega⟩, h1], fun i => ?_⟩
    have e1 := hx.1; have e2 := hx.2.1
    rw [h2]
    simp only [uni, rngP, inSps, List.any_cons, Bool.or_assoc]
    congr 2
    rw [Bool.eq_iff_iff]; simp; omega
/-- What FromSpans returns of a set's spans. -/
theorem fspans_shown (p : Nat → Bool) (v : Value) (w : World) (hv : RowIs w v 2 (spansOf (memI p 256)).length (spCells (spansOf (memI p 256)))) :
    Calls Tryd.prog 5 #[v] w fun e w' => e = .returned (.tuple #[.agg #[.int .u64 (W p 0), .int .u64 (W p 1), .int .u64 (W p 2), .int .u64 (W p 3)], .int .i64 0]) ∧ Below w.heap.size w w' := by
  have hc := spans_cover p 256 (Nat.le_refl _)
  have hl : (spansOf (memI p 256)).length ≤ 256 := Nat.le_trans (spansOf_len _) (by rw [memI_len]; exact mem_len_le p 256)
  obtain ⟨q, hq, hp⟩ := fsAcc_ok (spansOf (memI p 256)) emp hc.1
  have hq2 : fsR (spansOf (memI p 256)) = .ok q := by unfold fsR; rw [if_neg (by omega), hq]
  refine (fspans_any _ v w hv).mono fun e w' ⟨hb, h⟩ => ?_
  rw [hq2] at h
  simp only at h
  obtain ⟨h0, h1, h2, h3⟩ := four_same (p := p) (q := q) (fun i hi => by rw [hp, hc.2]; simp [emp, hi])
  rw [h0, h1, h2, h3] at h
  exact ⟨h, hb⟩
theorem ofB_take {s : ByteArray} {l : List Nat} (hs : s.data.toList = l.map UInt8.ofNat) (hl : ∀ n ∈ l, n < 256) (i : Nat) : ∀ k, k ≤ l.length → ofB s k i = decide (i ∈ l.take k) := by
  intro k
  induction k with
  | zero => intro _; simp [ofB, emp]
  | succ k ih =>
    intro hk
    have hg : (s.data.getD k 0).toNat = l[k] := by
      have h1 : s.data.toList[k]? = some (UInt8.ofNat l[k]) := by rw [hs]; simp [List.getElem?_eq_getElem (show k < l.length by omega)]
      have h2 : s.data[k]? = some (UInt8.ofNat l[k]) := by simpa using h1
      have h3 : s.data.getD k 0 = UInt8.ofNat l[k] := by rw [Array.getD_eq_getD_getElem?, h2]; rfl
      rw [h3, show (UInt8.ofNat l[k]).toNat = l[k] % 256 from rfl, Nat.mod_eq_of_lt (hl _ (List.getElem_mem (by omega)))]
    show ins (ofB s k) (s.data.getD k 0).toNat i = _
    rw [ins, ih (by omega), hg]
    have e := List.take_succ_eq_append_getElem (show k < l.length by omega)
    rw [Bool.eq_iff_iff, e, Bool.or_eq_true, decide_eq_true_iff, decide_eq_true_iff, decide_eq_true_iff, List.mem_append, List.mem_singleton]
theorem of_bytes (p : Nat → Bool) : ∃ s : ByteArray, strOfNums (memI p 256) = s ∧ s.size ≤ 256 ∧ ∀ i, i < 256 → ofB s s.size i = p i := by
  refine ⟨_, rfl, ?_, fun i hi => ?_⟩
  · rw [strOfNums_size, memI_len]; exact mem_len_le p 256
  · have hd : (strOfNums (memI p 256)).data.toList = (mem p 256).map UInt8.ofNat := by
      simp only [strOfNums, memI, List.map_map]
      exact List.map_congr_left fun n _ => rfl
    rw [strOfNums_size, memI_len, ofB_take hd (fun n hn => (mem_mem.1 hn).1) i _ (Nat.le_refl _), List.take_length, Bool.eq_iff_iff]
    simp [mem_mem, hi]

set_option maxHeartbeats 16000000 in
set_option maxRecDepth 100000 in
theorem lawBack_any (p : Nat → Bool) (tx : ByteArray) (hs : tx.size ≤ 140737488351232) (w : World) (hT : TabOk w) :
    Calls Tryd.prog 4 #[.agg #[.int .u64 (W p 0), .int .u64 (W p 1), .int .u64 (W p 2), .int .u64 (W p 3)], .string tx] w fun e w' => e = .returned (.bool true) ∧ Below w.heap.size w w' := by
  have hes := fun (P : Nat → Bool) w => eq_same (W P 0) (W P 1) (W P 2) (W P 3) w
  have hef := fun (a b c d : Int) w => eq_fault a b c d w
  have x0 := alloc_new w (.cells #[.int .u64 (W p 0), .int .u64 (W p 1), .int .u64 (W p 2), .int .u64 (W p 3)] 27)
  have B0 := (Below.refl w.heap.size w).alloc (Nat.le_refl _) (.cells #[.int .u64 (W p 0), .int .u64 (W p 1), .int .u64 (W p 2), .int .u64 (W p 3)] 27)
  have hw0 := hT.1
  have HT := hid hT
  obtain ⟨sb, hsb, hsz, hof⟩ := of_bytes p
  have HBY := hid (fun w h => bytes_any p w h)
  rw [hsb] at HBY
  have HOF := hid (fun w => of_any sb (by omega) w)
  obtain ⟨o0, o1, o2, o3⟩ := four_same hof
  rw [o0, o1, o2, o3] at HOF
  clear hT o0 o1 o2 o3 hof hsb
  go_enter Tryd.func4, Tryd.ntmps4
  go_wp2_with (fail)
  refine (works_any _ (HT.out.below B0 hw0)).mono ?_
  rintro e w1 ⟨rfl, hb1⟩
  have x1 := keep hb1 x0; have hcx1 := block_cell x1; have B1 := B0.trans (hb1.mono B0.size)
  go_wp2_with (fail)
  refine (show_any p _ (HT.out.below B1 hw0)).mono ?_
  rintro e w2 ⟨rfl, hb2⟩
  have x2 := keep hb2 x1; have hcx2 := block_cell x2
  have B2 := B1.trans (hb2.mono B1.size)
  go_wp2_with (fail)
  refine (parse_shown p _).mono ?_
  rintro e w3 ⟨rfl, hb3⟩
  have x3 := keep hb3 x2; have hcx3 := block_cell x3
  have B3 := B2.trans (hb3.mono B2.size)
  have x4 : ((w3.alloc (.cells #[.int .u64 (W p 0), .int .u64 (W p 1), .int .u64 (W p 2), .int .u64 (W p 3)] 27)).alloc (.cells #[.int .i64 0, .int .i64 0] 37)).heap[_]? = _ := alloc_old (alloc_old (x3)); have hcx4 := block_cell x4
  have s4 : ((w3.alloc (.cells #[.int .u64 (W p 0), .int .u64 (W p 1), .int .u64 (W p 2), .int .u64 (W p 3)] 27)).alloc (.cells #[.int .i64 0, .int .i64 0] 37)).heap[w3.heap.size]? = some (.cells #[.int .u64 (W p 0), .int .u64 (W p 1), .int .u64 (W p 2), .int .u64 (W p 3)] 27) := alloc_old (alloc_new_at _ rfl); have hcs4 := block_cell s4; have hfs4 := block_free s4
  have f4 : ((w3.alloc (.cells #[.int .u64 (W p 0), .int .u64 (W p 1), .int .u64 (W p 2), .int .u64 (W p 3)] 27)).alloc (.cells #[.int .i64 0, .int .i64 0] 37)).heap[w3.heap.size + 1]? = some (.cells #[.int .i64 0, .int .i64 0] 37) := alloc_new_at _ (by simp); have hcf4 := block_cell f4; have hff4 := block_free f4
  have B4 : Below w.heap.size w ((w3.alloc (.cells #[.int .u64 (W p 0), .int .u64 (W p 1), .int .u64 (W p 2), .int .u64 (W p 3)] 27)).alloc (.cells #[.int .i64 0, .int .i64 0] 37)) := ((B3).alloc (by have := B3.size; omega) _).alloc (by have := B3.size; simp; omega) _
  go_wp2_with (fail)
  refine (spans_any p _ (HT.out.below B4 hw0)).mono ?_
  rintro e w5 ⟨v, rfl, hrow, hb5⟩
  have x5 := keep hb5 x4; have hcx5 := block_cell x5
  have s5 := keep hb5 s4; have hcs5 := block_cell s5
  have f5 := keep hb5 f4; have hcf5 := block_cell f5
  have B5 := B4.trans (hb5.mono B4.size)
  go_wp2_with (fail)
  refine (fspans_shown p _ _ (RowIs.of_owns hrow)).mono ?_
  rintro e w6 ⟨rfl, hb6⟩
  have x6 := keep hb6 x5; have hcx6 := block_cell x6
  have s6 := keep hb6 s5; have hcs6 := block_cell s6
  have f6 := keep hb6 f5; have hcf6 := block_cell f6
  have B6 := B5.trans (hb6.mono B5.size)
  have x7 : (w6.alloc (.cells #[.int .u64 (W p 0), .int .u64 (W p 1), .int .u64 (W p 2), .int .u64 (W p 3)] 27)).heap[_]? = _ := alloc_old (x6); have hcx7 := block_cell x7
  have s7 : (w6.alloc (.cells #[.int .u64 (W p 0), .int .u64 (W p 1), .int .u64 (W p 2), .int .u64 (W p 3)] 27)).heap[_]? = _ := alloc_old (s6); have hcs7 := block_cell s7
  have f7 : (w6.alloc (.cells #[.int .u64 (W p 0), .int .u64 (W p 1), .int .u64 (W p 2), .int .u64 (W p 3)] 27)).heap[_]? = _ := alloc_old (f6); have hcf7 := block_cell f7
  have y7 : (w6.alloc (.cells #[.int .u64 (W p 0), .int .u64 (W p 1), .int .u64 (W p 2), .int .u64 (W p 3)] 27)).heap[w6.heap.size]? = some (.cells #[.int .u64 (W p 0), .int .u64 (W p 1), .int .u64 (W p 2), .int .u64 (W p 3)] 27) := alloc_new_at _ rfl; have hcy7 := block_cell y7; have hfy7 := block_free y7
  have B7 : Below w.heap.size w (w6.alloc (.cells #[.int .u64 (W p 0), .int .u64 (W p 1), .int .u64 (W p 2), .int .u64 (W p 3)] 27)) := (B6).alloc (by have := B6.size; omega) _
  generalize hgw : (w6.alloc (.cells #[.int .u64 (W p 0), .int .u64 (W p 1), .int .u64 (W p 2), .int .u64 (W p 3)] 27)) = wz at *
  go_wp2_with (fail)
  have hwf : w.heap.size ≤ w3.heap.size + 1 := by have := B3.size; omega
  clear hgw hb1 hb2 hb3 hb5 hb6 hrow x0 B0 x1 hcx1 B1 x2 hcx2 B2 x3 hcx3 B3 x4 hcx4 s4 hcs4 hfs4 f4 hcf4 hff4 B4 x5 hcx5 s5 hcs5 f5 hcf5 B5 x6 hcx6 s6 hcs6 f6 hcf6 B6 hcx7 hcs7 hcf7 hcy7 hfy7
  have gx := grow_cell x7 (block_lt x7)
  have gs := grow_cell s7 (block_lt s7)
  have gf := grow_cell f7 (block_lt f7)
  have gy := grow_cell y7 (block_lt y7)
  have hlt : w.heap.size ≤ wz.heap.size := B7.size
  refine wp_region_grow wz.heap.size (by kernel_rfl) (by kernel_rfl) ?_
  repeat (go_big_quiet_step (first | (go_at_call 13; ((with_reducible refine Calls.grow_of (Nat.le_refl _) (HBY.out _ ?_)); exact HT.out.below (B7.trans (Grow.below _ |>.mono hlt)) hw0)) | (go_at_call 12; ((with_reducible refine Calls.grow_of (Nat.le_refl _) (HOF.out _)); done))))
  refine wpQuiet_nil ?_
  rintro _ ⟨g, rfl⟩
  have f8 := grow_heap f7 (block_lt f7) g
  have B8 := B7.trans (g.below.mono B7.size)
  clear gx gs gf gy x7 s7 f7 y7 B7 hlt HBY HOF
  generalize g.val = w8 at *
  clear g
  have hez := fun w => eq_same 0 0 0 0 w
  have h31 := B8.size
  skip
  cases hX : parseR tx with
  | error e =>
    obtain ⟨a, c⟩ := e
    obtain ⟨ha, hc⟩ := parse_bad hX
    have hc0 : (c == 0) = false := by rcases hc with h | h | h | h <;> rw [h] <;> rfl
    have hc1 : (c != 0) = true := by rcases hc with h | h | h | h <;> rw [h] <;> rfl
    have da : decide (0 ≤ (a : Int)) = true := decide_eq_true (by omega)
    have dl : decide ((a : Int) ≤ (tx.size : Int)) = true := decide_eq_true (by omega)
    have dl2 : decide (a ≤ tx.size) = true := decide_eq_true (by omega)
    clear hc
    have HX := hid hX
    clear hX
    go_wp2_with (fail)
    refine (parse_any tx hs _).mono ?_
    rintro e w9 ⟨hb9, hpost⟩
    rw [HX.out] at hpost
    simp only at hpost
    subst hpost
    have f9 := keep hb9 f8
    have B9 := B8.trans (hb9.mono B8.size)
    have hwl := block_lt f9
    have hne : w9.heap.size ≠ w3.heap.size + 1 := by omega
    have hf9 := block_free f9; have hc9 := block_cell f9
    have f9s := set2 f9 (.int .i64 (a : Int)) (.int .i64 c)
    have B9s := below_set2 B9 hwf (.int .i64 (a : Int)) (.int .i64 c)
    have fb := alloc_old (y := .cells #[.int .u64 0, .int .u64 0, .int .u64 0, .int .u64 0] 27) f9s
    have zb : (((w9.setCell ⟨w3.heap.size + 1, 0, none⟩ (.int .i64 (a : Int))).setCell ⟨w3.heap.size + 1, 1, none⟩ (.int .i64 c)).alloc (.cells #[.int .u64 0, .int .u64 0, .int .u64 0, .int .u64 0] 27)).heap[w9.heap.size]? = some (.cells #[.int .u64 0, .int .u64 0, .int .u64 0, .int .u64 0] 27) := alloc_new_at _ (by simp [World.setCell])
    have Bb := B9s.alloc B9s.size (.cells #[.int .u64 0, .int .u64 0, .int .u64 0, .int .u64 0] 27)
    have hcfb := block_cell fb; have hczb := block_cell zb
    go_wp2_with (fail)
    go_ret
    exact ⟨rfl, Bb⟩
  | ok q =>
    have HX := hid hX
    clear hX
    go_wp2_with (fail)
    refine (parse_any tx hs _).mono ?_
    rintro e w9 ⟨hb9, hpost⟩
    rw [HX.out] at hpost
    simp only at hpost
    subst hpost
    have f9 := keep hb9 f8
    have B9 := B8.trans (hb9.mono B8.size)
    have hwl := block_lt f9
    have hne : w9.heap.size ≠ w3.heap.size + 1 := by omega
    have hf9 := block_free f9; have hc9 := block_cell f9
    have f9s := set2 f9 (.int .i64 0) (.int .i64 0)
    have B9s := below_set2 B9 hwf (.int .i64 0) (.int .i64 0)
    have fb := alloc_old (y := .cells #[.int .u64 (W q 0), .int .u64 (W q 1), .int .u64 (W q 2), .int .u64 (W q 3)] 27) f9s
    have zb : (((w9.setCell ⟨w3.heap.size + 1, 0, none⟩ (.int .i64 0)).setCell ⟨w3.heap.size + 1, 1, none⟩ (.int .i64 0)).alloc (.cells #[.int .u64 (W q 0), .int .u64 (W q 1), .int .u64 (W q 2), .int .u64 (W q 3)] 27)).heap[w9.heap.size]? = some (.cells #[.int .u64 (W q 0), .int .u64 (W q 1), .int .u64 (W q 2), .int .u64 (W q 3)] 27) := alloc_new_at _ (by simp [World.setCell])
    have Bb := B9s.alloc B9s.size (.cells #[.int .u64 (W q 0), .int .u64 (W q 1), .int .u64 (W q 2), .int .u64 (W q 3)] 27)
    have hcfb := block_cell fb; have hczb := block_cell zb
    go_wp2_with (fail)
    refine (show_any q _ (HT.out.below Bb hw0)).mono ?_
    rintro e wc ⟨rfl, hbc⟩
    have fc := keep hbc fb; have zc := keep hbc zb
    have Bc := Bb.trans (hbc.mono Bb.size)
    go_wp2_with (fail)
    refine (parse_shown q _).mono ?_
    rintro e wd ⟨rfl, hbd⟩
    have fd := keep hbd fc; have zd := keep hbd zc
    have Bd := Bc.trans (hbd.mono Bc.size)
    have hwl2 := block_lt fd
    have hfd := block_free fd; have hcd := block_cell fd
    have hne2 : wd.heap.size ≠ w3.heap.size + 1 := by omega
    have fds := set2 fd (.int .i64 0) (.int .i64 0)
    have zds := set2_ne zd hne (.int .i64 0) (.int .i64 0)
    have Bds := below_set2 Bd hwf (.int .i64 0) (.int .i64 0)
    have ff := alloc_old (y := .cells #[.int .u64 (W q 0), .int .u64 (W q 1), .int .u64 (W q 2), .int .u64 (W q 3)] 27) fds
    have zf := alloc_old (y := .cells #[.int .u64 (W q 0), .int .u64 (W q 1), .int .u64 (W q 2), .int .u64 (W q 3)] 27) zds
    have yf : (((wd.setCell ⟨w3.heap.size + 1, 0, none⟩ (.int .i64 0)).setCell ⟨w3.heap.size + 1, 1, none⟩ (.int .i64 0)).alloc (.cells #[.int .u64 (W q 0), .int .u64 (W q 1), .int .u64 (W q 2), .int .u64 (W q 3)] 27)).heap[wd.heap.size]? = some (.cells #[.int .u64 (W q 0), .int .u64 (W q 1), .int .u64 (W q 2), .int .u64 (W q 3)] 27) := alloc_new_at _ (by simp [World.setCell])
    have Bf := Bds.alloc Bds.size (.cells #[.int .u64 (W q 0), .int .u64 (W q 1), .int .u64 (W q 2), .int .u64 (W q 3)] 27)
    have hcff := block_cell ff; have hczf := block_cell zf; have hcyf := block_cell yf
    go_wp2_with (fail)
    go_ret
    exact ⟨rfl, Bf⟩

end Go.Proofs.YtjbdamedofgdgabDoor
