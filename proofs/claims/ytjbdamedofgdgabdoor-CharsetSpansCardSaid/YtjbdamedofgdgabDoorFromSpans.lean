/-
  FromSpans of charset and of the reference: what each returns of any list of spans; what lay in memory stays as it was.
-/
import Derived.Test.YtjbdamedofgdgabDoorSame
import Derived.Test.YtjbdamedofgdgabDoorSpan
import Derived.Test.YtjbdamedofgdgabDoorMix
import Derived.Test.YtjbdamedofgdgabDoorReader3
namespace Go.Proofs.YtjbdamedofgdgabDoor
open Go.RowKit
set_option linter.unusedVariables false
set_option linter.unusedSimpArgs false
/-- The bytes of all spans, put to what there is; none: one of them is no span of bytes. -/
def fsAcc : Sps → (Nat → Bool) → Option (Nat → Bool)
  | [], acc => some acc
  | x :: l, acc => if 0 ≤ x.1 ∧ x.1 ≤ x.2 ∧ x.2 ≤ 255 then fsAcc l (uni acc (rngP x.1.toNat (x.2.toNat + 1))) else none
def fsR (l : Sps) : Except Int (Nat → Bool) :=
  if 4096 < l.length then .error 2 else match fsAcc l emp with
  | none => .error 10
  | some q => .ok q
def FsPost (l : Sps) (w : World) (e : Ending) (w' : World) : Prop :=
  Below w.heap.size w w' ∧ match fsR l with
  | .ok q => e = .returned (.tuple #[.agg #[.int .u64 (W q 0), .int .u64 (W q 1), .int .u64 (W q 2), .int .u64 (W q 3)], .int .i64 0])
  | .error c => e = .returned (.tuple #[.agg #[.int .u64 0, .int .u64 0, .int .u64 0, .int .u64 0], .int .i64 c])
theorem FsPost.ok {l : Sps} {q : Nat → Bool} {w w' : World} (h : fsR l = .ok q) (hb : Below w.heap.size w w') : FsPost l w (.returned (.tuple #[.agg #[.int .u64 (W q 0), .int .u64 (W q 1), .int .u64 (W q 2), .int .u64 (W q 3)], .int .i64 0])) w' := by
  unfold FsPost; rw [h]; exact ⟨hb, rfl⟩
theorem FsPost.bad {l : Sps} {c : Int} {w w' : World} (h : fsR l = .error c) (hb : Below w.heap.size w w') : FsPost l w (.returned (.tuple #[.agg #[.int .u64 0, .int .u64 0, .int .u64 0, .int .u64 0], .int .i64 c])) w' := by
  unfold FsPost; rw [h]; exact ⟨hb, rfl⟩
theorem fs_drop {l : Sps} {k : Nat} (h : k < l.length) (acc : Nat → Bool) : fsAcc (l.drop k) acc = if 0 ≤ l[k].1 ∧ l[k].1 ≤ l[k].2 ∧ l[k].2 ≤ 255 then fsAcc (l.drop (k + 1)) (uni acc (rngP l[k].1.toNat (l[k].2.toNat + 1))) else none := by
  rw [List.drop_eq_getElem_cons h, fsAcc]
/-- The cells of a row that came in, in a later world. -/
theorem row_at {w : World} {ao : Option Addr} {n c : Nat} {l : Sps} (h : RowIs w (.slice ao n c) 2 l.length (spCells l)) {k : Nat} (hk : k < l.length) :
    ∃ g o, ao = some ⟨g, o, none⟩ ∧ ∀ w' B, Below B w w' → g < B → w'.cell? ⟨g, o + k * 2, none⟩ = some (.int .i64 l[k].1) ∧ w'.cell? ⟨g, o + k * 2 + 1, none⟩ = some (.int .i64 l[k].2) := by
  obtain ⟨_, ao', cap, e, hc⟩ := h
  injection e with e1 e2 e3
  subst e1
  obtain ⟨g, o, rfl, hj⟩ := hc (by omega)
  obtain ⟨h1, h2⟩ := spCells_at hk
  exact ⟨g, o, rfl, fun w' B hB hg => ⟨(hB.cell (p := ⟨g, o + k * 2, none⟩) hg).trans ((hj _ (by omega)).trans h1), (hB.cell (p := ⟨g, o + k * 2 + 1, none⟩) hg).trans ((by have h := hj (k * 2 + 1) (by omega); rwa [← Nat.add_assoc] at h : w.cell? ⟨g, o + k * 2 + 1, none⟩ = (spCells l)[k * 2 + 1]?).trans h2)⟩⟩
theorem row_lt {w : World} {g o : Nat} {n c : Nat} {l : Sps} (h : RowIs w (.slice (some ⟨g, o, none⟩) n c) 2 l.length (spCells l)) {k : Nat} (hk : k < l.length) : g < w.heap.size := by
  obtain ⟨g', o', e, hh⟩ := row_at h hk
  injection e with e; injection e with e1 e2; subst e1; subst e2
  rcases Nat.lt_or_ge g w.heap.size with h' | h'
  · exact h'
  · exfalso
    have := (hh w (g + 1) (Below.refl _ _) (by omega)).1
    rw [World.cell?, Array.getElem?_eq_none h'] at this
    cases this

set_option maxHeartbeats 8000000 in
set_option maxRecDepth 100000 in
theorem fspans_long (l : Sps) (v : Value) (w : World) (hv : RowIs w v 2 l.length (spCells l)) (hl : 4096 < l.length) :
    Calls Tryd.prog 5 #[v] w (FsPost l w) := by
  obtain ⟨ao, cap, rfl⟩ : ∃ ao cap, v = .slice ao l.length cap := ⟨_, _, hv.2.choose_spec.choose_spec.1⟩
  have HE := hid (show fsR l = .error 2 from if_pos hl)
  have hd : decide (4096 < (l.length : Int)) = true := decide_eq_true (by omega)
  have hd' : decide (4096 < l.length) = true := decide_eq_true hl
  clear hl
  go_enter Tryd.func5, Tryd.ntmps5
  go_wp2
  exact bodyPost_ret (v := .tuple #[.agg #[.int .u64 0, .int .u64 0, .int .u64 0, .int .u64 0], .int .i64 2]) (by simp [results, Tryd.results5, go_sem]) rfl (FsPost.bad HE.out ((Below.refl _ w).alloc (Nat.le_refl _) _))
set_option maxHeartbeats 8000000 in
set_option maxRecDepth 100000 in
theorem fspans_short (l : Sps) (v : Value) (w : World) (hv : RowIs w v 2 l.length (spCells l)) (hl : ¬ 4096 < l.length) :
    Calls Tryd.prog 5 #[v] w (FsPost l w) := by
  obtain ⟨ao, cap, rfl⟩ : ∃ ao cap, v = .slice ao l.length cap := ⟨_, _, hv.2.choose_spec.choose_spec.1⟩
  obtain ⟨R, hR⟩ : ∃ R, fsAcc l emp = R := ⟨_, rfl⟩
  have HE := hid (show fsR l = _ from (if_neg hl).trans (by rw [hR]))
  have hd : decide (4096 < (l.length : Int)) = false := decide_eq_false (by omega)
  have hd' : decide (4096 < l.length) = false := decide_eq_false hl
  have hln : l.length ≤ 4096 := by omega
  have HR := hid hR
  clear hl hR
  have hB0 : Below w.heap.size w ((w.alloc (.cells #[.int .u64 0, .int .u64 0, .int .u64 0, .int .u64 0] 27)).alloc (.cells #[.int .u64 0, .int .u64 0, .int .u64 0, .int .u64 0] 27)) := ((Below.refl _ w).alloc (Nat.le_refl _) _).alloc (by simp) _
  have hR0 : ((w.alloc (.cells #[.int .u64 0, .int .u64 0, .int .u64 0, .int .u64 0] 27)).alloc (.cells #[.int .u64 0, .int .u64 0, .int .u64 0, .int .u64 0] 27)).heap[w.heap.size]? = some (.cells #[.int .u64 0, .int .u64 0, .int .u64 0, .int .u64 0] 27) := alloc_old (alloc_new w _)
  have hT0 : ((w.alloc (.cells #[.int .u64 0, .int .u64 0, .int .u64 0, .int .u64 0] 27)).alloc (.cells #[.int .u64 0, .int .u64 0, .int .u64 0, .int .u64 0] 27)).heap[w.heap.size + 1]? = some (.cells #[.int .u64 0, .int .u64 0, .int .u64 0, .int .u64 0] 27) := alloc_new_at _ (by simp)
  have hneRT : w.heap.size ≠ w.heap.size + 1 := by omega
  have hleT : w.heap.size ≤ w.heap.size + 1 := by omega
  go_enter Tryd.func5, Tryd.ntmps5
  go_wp2
  go_loopw [15] (fun i wr => ∃ (k : Nat) (acc : Nat → Bool), k ≤ l.length ∧ i = .int .i64 k ∧ fsAcc (l.drop k) acc = R ∧ wr.heap[w.heap.size]? = some (.cells #[.int .u64 0, .int .u64 0, .int .u64 0, .int .u64 0] 27) ∧ wr.heap[w.heap.size + 1]? = some (.cells #[.int .u64 (W acc 0), .int .u64 (W acc 1), .int .u64 (W acc 2), .int .u64 (W acc 3)] 27) ∧ Below w.heap.size w wr) (fun i _ => l.length - (intOf i).toNat)
  case atStart => exact ⟨0, emp, Nat.zero_le _, rfl, by rw [List.drop_zero]; exact HR.out, hR0, by rw [W_emp, W_emp, W_emp, W_emp]; exact hT0, hB0⟩
  case round =>
    obtain ⟨k, acc, hk, rfl, hfs, hRr, hTr, hBr⟩ := hrel
    clear hB0 hR0 hT0 HR
    by_cases hlt : k < l.length
    · obtain ⟨g, o, rfl, hrow⟩ := row_at hv hlt
      have hg := row_lt hv hlt
      obtain ⟨c1, c2⟩ := hrow wr _ hBr hg
      rw [fs_drop hlt] at hfs
      have hbr := hBr.size
      have hTl := block_lt hTr
      clear hv hrow
      by_cases hok : 0 ≤ l[k].1 ∧ l[k].1 ≤ l[k].2 ∧ l[k].2 ≤ 255
      · rw [if_pos hok] at hfs
        have HF := hid hfs
        obtain ⟨a, ha⟩ : ∃ a : Nat, l[k].1 = (a : Int) := ⟨l[k].1.toNat, by omega⟩
        obtain ⟨b, hb⟩ : ∃ b : Nat, l[k].2 = (b : Int) := ⟨l[k].2.toNat, by omega⟩
        rw [ha, hb] at HF hok
        simp only [Int.toNat_natCast] at HF
        rw [ha] at c1
        rw [hb] at c2
        have hab : a ≤ b := by omega
        have hb2 : b < 256 := by omega
        clear hfs ha hb hok
        have hR1 := alloc_old (y := .cells #[.int .i64 (a : Int), .int .i64 (b : Int)] 24) hRr
        have hT1 := alloc_old (y := .cells #[.int .i64 (a : Int), .int .i64 (b : Int)] 24) hTr
        have hB1 := hBr.alloc hbr (.cells #[.int .i64 (a : Int), .int .i64 (b : Int)] 24)
        go_wp2_with (fail)
        refine (range_ok a b hab hb2 _).mono ?_
        rintro e w2 ⟨rfl, hb12⟩
        have hR2 := keep hb12 hR1
        have hT2 := keep hb12 hT1
        have hB2 := hB1.trans (hb12.mono hB1.size)
        have hb2s := hB2.size
        have hR3 := alloc_old (y := .cells #[.int .u64 (W (rngP a (b + 1)) 0), .int .u64 (W (rngP a (b + 1)) 1), .int .u64 (W (rngP a (b + 1)) 2), .int .u64 (W (rngP a (b + 1)) 3)] 27) hR2
        have hT3 := alloc_old (y := .cells #[.int .u64 (W (rngP a (b + 1)) 0), .int .u64 (W (rngP a (b + 1)) 1), .int .u64 (W (rngP a (b + 1)) 2), .int .u64 (W (rngP a (b + 1)) 3)] 27) hT2
        have hB3 := hB2.alloc hb2s (.cells #[.int .u64 (W (rngP a (b + 1)) 0), .int .u64 (W (rngP a (b + 1)) 1), .int .u64 (W (rngP a (b + 1)) 2), .int .u64 (W (rngP a (b + 1)) 3)] 27)
        have hcT3 := block_cell hT3; have hcT2 := block_cell hT2; have hfR3 := block_free hR3; have hcR3 := block_cell hR3
        go_wp2_with (fail)
        refine (union_any acc (rngP a (b + 1)) _).mono ?_
        rintro e w4 ⟨rfl, hb34⟩
        have hR4 := keep hb34 hR3
        have hT4 := keep hb34 hT3
        have hB4 := hB3.trans (hb34.mono hB3.size)
        have hfT4 := block_free hT4; have hcT4 := block_cell hT4
        go_wp2_with (fail)
        go_roundw
        case rel => exact ⟨k + 1, uni acc (rngP a (b + 1)), by omega, by go_num, HF.out, set4_ne hR4 hneRT (.int .u64 (W (uni acc (rngP a (b + 1))) 0)) (.int .u64 (W (uni acc (rngP a (b + 1))) 1)) (.int .u64 (W (uni acc (rngP a (b + 1))) 2)) (.int .u64 (W (uni acc (rngP a (b + 1))) 3)), set4 hT4 (.int .u64 (W (uni acc (rngP a (b + 1))) 0)) (.int .u64 (W (uni acc (rngP a (b + 1))) 1)) (.int .u64 (W (uni acc (rngP a (b + 1))) 2)) (.int .u64 (W (uni acc (rngP a (b + 1))) 3)), below_set4 hB4 hleT (.int .u64 (W (uni acc (rngP a (b + 1))) 0)) (.int .u64 (W (uni acc (rngP a (b + 1))) 1)) (.int .u64 (W (uni acc (rngP a (b + 1))) 2)) (.int .u64 (W (uni acc (rngP a (b + 1))) 3))⟩
        case measure => simp [intOf]; omega
      · rw [if_neg hok] at hfs
        have HF := hid hfs
        generalize l[k].1 = a at *
        generalize l[k].2 = b at *
        clear hfs
        have hR1 := alloc_old (y := .cells #[.int .i64 a, .int .i64 b] 24) hRr
        have hT1 := alloc_old (y := .cells #[.int .i64 a, .int .i64 b] 24) hTr
        have hB1 := hBr.alloc hbr (.cells #[.int .i64 a, .int .i64 b] 24)
        go_wp2_with (fail)
        refine (range_bad a b hok _).mono ?_
        rintro e w2 ⟨rfl, hb12⟩
        have hR2 := keep hb12 hR1
        have hT2 := keep hb12 hT1
        have hB2 := hB1.trans (hb12.mono hB1.size)
        have hb2s := hB2.size
        have hR3 := alloc_old (y := .cells #[.int .u64 0, .int .u64 0, .int .u64 0, .int .u64 0] 27) hR2
        have hT3 := alloc_old (y := .cells #[.int .u64 0, .int .u64 0, .int .u64 0, .int .u64 0] 27) hT2
        have hB3 := hB2.alloc hb2s (.cells #[.int .u64 0, .int .u64 0, .int .u64 0, .int .u64 0] 27)
        have hcT3 := block_cell hT3; have hcT2 := block_cell hT2; have hfR3 := block_free hR3; have hcR3 := block_cell hR3
        go_wp2_with (fail)
        have HE2 : fsR l = .error 10 := by rw [HE.out, ← HF.out]
        have hfin := set4 hR3 (.int .u64 0) (.int .u64 0) (.int .u64 0) (.int .u64 0)
        have hfb := below_set4 hB3 (Nat.le_refl _) (.int .u64 0) (.int .u64 0) (.int .u64 0) (.int .u64 0)
        have hfc := block_cell hfin
        exact bodyPost_ret (v := .tuple #[.agg #[.int .u64 0, .int .u64 0, .int .u64 0, .int .u64 0], .int .i64 10]) (by simp [results, Tryd.results5, go_sem, hfc]) rfl (FsPost.bad HE2 hfb)
    · have hke : k = l.length := by omega
      subst hke
      rw [List.drop_length, fsAcc] at hfs
      have HE2 : fsR l = .ok acc := by rw [HE.out, ← hfs]
      have HE3 := hid HE2
      have hcT := block_cell hTr; have hfR := block_free hRr; have hcR := block_cell hRr
      have hfin := set4 hRr (.int .u64 (W acc 0)) (.int .u64 (W acc 1)) (.int .u64 (W acc 2)) (.int .u64 (W acc 3))
      have hfb := below_set4 hBr (Nat.le_refl _) (.int .u64 (W acc 0)) (.int .u64 (W acc 1)) (.int .u64 (W acc 2)) (.int .u64 (W acc 3))
      have hfc := block_cell hfin
      clear HE2 hfs hfin
      go_wp2
      exact bodyPost_ret (v := .tuple #[.agg #[.int .u64 (W acc 0), .int .u64 (W acc 1), .int .u64 (W acc 2), .int .u64 (W acc 3)], .int .i64 0]) (by simp [results, Tryd.results5, go_sem, hfc]) rfl (FsPost.ok HE3.out hfb)
theorem fspans_any (l : Sps) (v : Value) (w : World) (hv : RowIs w v 2 l.length (spCells l)) : Calls Tryd.prog 5 #[v] w (FsPost l w) := by
  by_cases hl : 4096 < l.length
  · exact fspans_long l v w hv hl
  · exact fspans_short l v w hv hl

set_option maxHeartbeats 8000000 in
set_option maxRecDepth 100000 in
theorem rfspans_long (l : Sps) (v : Value) (w : World) (hv : RowIs w v 2 l.length (spCells l)) (hl : 4096 < l.length) :
    Calls Tryd.prog 6 #[v] w (FsPost l w) := by
  obtain ⟨ao, cap, rfl⟩ : ∃ ao cap, v = .slice ao l.length cap := ⟨_, _, hv.2.choose_spec.choose_spec.1⟩
  have HE := hid (show fsR l = .error 2 from if_pos hl)
  have hd : decide (4096 < (l.length : Int)) = true := decide_eq_true (by omega)
  have hd' : decide (4096 < l.length) = true := decide_eq_true hl
  clear hl
  go_enter Tryd.func6, Tryd.ntmps6
  go_wp2
  exact bodyPost_ret (v := .tuple #[.agg #[.int .u64 0, .int .u64 0, .int .u64 0, .int .u64 0], .int .i64 2]) (by simp [results, Tryd.results6, go_sem]) rfl (FsPost.bad HE.out ((Below.refl _ w).alloc (Nat.le_refl _) _))
set_option maxHeartbeats 8000000 in
set_option maxRecDepth 100000 in
theorem rfspans_short (l : Sps) (v : Value) (w : World) (hv : RowIs w v 2 l.length (spCells l)) (hl : ¬ 4096 < l.length) :
    Calls Tryd.prog 6 #[v] w (FsPost l w) := by
  obtain ⟨ao, cap, rfl⟩ : ∃ ao cap, v = .slice ao l.length cap := ⟨_, _, hv.2.choose_spec.choose_spec.1⟩
  obtain ⟨R, hR⟩ : ∃ R, fsAcc l emp = R := ⟨_, rfl⟩
  have HE := hid (show fsR l = _ from (if_neg hl).trans (by rw [hR]))
  have hd : decide (4096 < (l.length : Int)) = false := decide_eq_false (by omega)
  have hd' : decide (4096 < l.length) = false := decide_eq_false hl
  have hln : l.length ≤ 4096 := by omega
  have HR := hid hR
  clear hl hR
  have hB0 : Below w.heap.size w ((w.alloc (.cells #[.int .u64 0, .int .u64 0, .int .u64 0, .int .u64 0] 27)).alloc (.cells #[.int .u64 0, .int .u64 0, .int .u64 0, .int .u64 0] 27)) := ((Below.refl _ w).alloc (Nat.le_refl _) _).alloc (by simp) _
  have hR0 : ((w.alloc (.cells #[.int .u64 0, .int .u64 0, .int .u64 0, .int .u64 0] 27)).alloc (.cells #[.int .u64 0, .int .u64 0, .int .u64 0, .int .u64 0] 27)).heap[w.heap.size]? = some (.cells #[.int .u64 0, .int .u64 0, .int .u64 0, .int .u64 0] 27) := alloc_old (alloc_new w _)
  have hT0 : ((w.alloc (.cells #[.int .u64 0, .int .u64 0, .int .u64 0, .int .u64 0] 27)).alloc (.cells #[.int .u64 0, .int .u64 0, .int .u64 0, .int .u64 0] 27)).heap[w.heap.size + 1]? = some (.cells #[.int .u64 0, .int .u64 0, .int .u64 0, .int .u64 0] 27) := alloc_new_at _ (by simp)
  have hneRT : w.heap.size ≠ w.heap.size + 1 := by omega
  have hleT : w.heap.size ≤ w.heap.size + 1 := by omega
  go_enter Tryd.func6, Tryd.ntmps6
  go_wp2
  go_loopw [5] (fun i wr => ∃ (k : Nat) (acc : Nat → Bool), k ≤ l.length ∧ i = .int .i64 k ∧ fsAcc (l.drop k) acc = R ∧ wr.heap[w.heap.size]? = some (.cells #[.int .u64 0, .int .u64 0, .int .u64 0, .int .u64 0] 27) ∧ wr.heap[w.heap.size + 1]? = some (.cells #[.int .u64 (W acc 0), .int .u64 (W acc 1), .int .u64 (W acc 2), .int .u64 (W acc 3)] 27) ∧ Below w.heap.size w wr) (fun i _ => l.length - (intOf i).toNat)
  case atStart => exact ⟨0, emp, Nat.zero_le _, rfl, by rw [List.drop_zero]; exact HR.out, hR0, by rw [W_emp, W_emp, W_emp, W_emp]; exact hT0, hB0⟩
  case round =>
    obtain ⟨k, acc, hk, rfl, hfs, hRr, hTr, hBr⟩ := hrel
    clear hB0 hR0 hT0 HR
    by_cases hlt : k < l.length
    · obtain ⟨g, o, rfl, hrow⟩ := row_at hv hlt
      have hg := row_lt hv hlt
      obtain ⟨c1, c2⟩ := hrow wr _ hBr hg
      rw [fs_drop hlt] at hfs
      have hbr := hBr.size
      have hTl := block_lt hTr
      clear hv hrow
      by_cases hok : 0 ≤ l[k].1 ∧ l[k].1 ≤ l[k].2 ∧ l[k].2 ≤ 255
      · rw [if_pos hok] at hfs
        have HF := hid hfs
        obtain ⟨a, ha⟩ : ∃ a : Nat, l[k].1 = (a : Int) := ⟨l[k].1.toNat, by omega⟩
        obtain ⟨b, hb⟩ : ∃ b : Nat, l[k].2 = (b : Int) := ⟨l[k].2.toNat, by omega⟩
        rw [ha, hb] at HF hok
        simp only [Int.toNat_natCast] at HF
        rw [ha] at c1
        rw [hb] at c2
        have hab : a ≤ b := by omega
        have hb2 : b < 256 := by omega
        clear hfs ha hb hok
        have HI := hid (fun w => isspan_any (a : Int) (b : Int) w)
        rw [show spanB (a : Int) (b : Int) = true by simp [spanB]; omega] at HI
        go_wp2_with (fail)
        refine (HI.out _).mono ?_
        rintro e w2 ⟨rfl, hb12⟩
        have hR2 := keep hb12 hRr
        have hT2 := keep hb12 hTr
        have hB2 := hBr.trans (hb12.mono hbr)
        have d1 := (hb12.cell (p := ⟨g, o + k * 2, none⟩) (by show g < _; omega)).trans c1
        have d2 := (hb12.cell (p := ⟨g, o + k * 2 + 1, none⟩) (by show g < _; omega)).trans c2
        have hfR2 := block_free hR2; have hcR2 := block_cell hR2
        have gT := grow_cell hT2 (block_lt hT2)
        have g1 : ∀ g' : Grow w2.heap.size w2, g'.val.cell? ⟨g, o + k * 2, none⟩ = some (.int .i64 (a : Int)) := fun g' => (g'.cell (by have := hb12.size; omega) _).trans d1
        have g2 : ∀ g' : Grow w2.heap.size w2, g'.val.cell? ⟨g, o + k * 2 + 1, none⟩ = some (.int .i64 (b : Int)) := fun g' => (g'.cell (by have := hb12.size; omega) _).trans d2
        clear c1 c2 d1 d2
        go_wp2_with (fail)
        refine wp_region_grow_tail w2.heap.size 13 (by kernel_rfl) (by kernel_rfl) ?_
        simp only [List.take_succ_cons, List.take_zero, List.drop_succ_cons, List.drop_zero]
        repeat (go_big_quiet_step (first | (go_at_call 18; ((with_reducible refine Calls.grow_of (Nat.le_refl _) (fromto_any a b (by omega) hb2 _)); done)) | (go_at_call 17; ((with_reducible refine Calls.grow_of (Nat.le_refl _) (runion_any acc (rngP a (b + 1)) _)); done))))
        refine wpQuiet_nil ?_
        rintro _ ⟨gg, rfl⟩
        have hR4 := grow_heap hR2 (block_lt hR2) gg
        have hT4 := grow_heap hT2 (block_lt hT2) gg
        have hB4 := hB2.trans (gg.below.mono hB2.size)
        clear gT g1 g2 hR2 hT2 hfR2 hcR2
        generalize gg.val = w4 at *
        have hfT4 := block_free hT4; have hcT4 := block_cell hT4
        go_wp2_with (fail)
        go_roundw
        case rel => exact ⟨k + 1, uni acc (rngP a (b + 1)), by omega, by go_num, HF.out, set4_ne hR4 hneRT (.int .u64 (W (uni acc (rngP a (b + 1))) 0)) (.int .u64 (W (uni acc (rngP a (b + 1))) 1)) (.int .u64 (W (uni acc (rngP a (b + 1))) 2)) (.int .u64 (W (uni acc (rngP a (b + 1))) 3)), set4 hT4 (.int .u64 (W (uni acc (rngP a (b + 1))) 0)) (.int .u64 (W (uni acc (rngP a (b + 1))) 1)) (.int .u64 (W (uni acc (rngP a (b + 1))) 2)) (.int .u64 (W (uni acc (rngP a (b + 1))) 3)), below_set4 hB4 hleT (.int .u64 (W (uni acc (rngP a (b + 1))) 0)) (.int .u64 (W (uni acc (rngP a (b + 1))) 1)) (.int .u64 (W (uni acc (rngP a (b + 1))) 2)) (.int .u64 (W (uni acc (rngP a (b + 1))) 3))⟩
        case measure => simp [intOf]; omega
      · rw [if_neg hok] at hfs
        have HF := hid hfs
        generalize l[k].1 = a at *
        generalize l[k].2 = b at *
        clear hfs
        have HI := hid (fun w => isspan_any a b w)
        rw [show spanB a b = false by simp [spanB]; omega] at HI
        go_wp2_with (fail)
        refine (HI.out _).mono ?_
        rintro e w2 ⟨rfl, hb12⟩
        have hR2 := keep hb12 hRr
        have hT2 := keep hb12 hTr
        have hB2 := hBr.trans (hb12.mono hbr)
        have d1 := (hb12.cell (p := ⟨g, o + k * 2, none⟩) (by show g < _; omega)).trans c1
        have d2 := (hb12.cell (p := ⟨g, o + k * 2 + 1, none⟩) (by show g < _; omega)).trans c2
        have hfR2 := block_free hR2; have hcR2 := block_cell hR2
        go_wp2_with (fail)
        have HE2 : fsR l = .error 10 := by rw [HE.out, ← HF.out]
        have hfin := set4 hR2 (.int .u64 0) (.int .u64 0) (.int .u64 0) (.int .u64 0)
        have hfb := below_set4 hB2 (Nat.le_refl _) (.int .u64 0) (.int .u64 0) (.int .u64 0) (.int .u64 0)
        have hfc := block_cell hfin
        exact bodyPost_ret (v := .tuple #[.agg #[.int .u64 0, .int .u64 0, .int .u64 0, .int .u64 0], .int .i64 10]) (by simp [results, Tryd.results6, go_sem, hfc]) rfl (FsPost.bad HE2 hfb)
    · have hke : k = l.length := by omega
      subst hke
      rw [List.drop_length, fsAcc] at hfs
      have HE2 : fsR l = .ok acc := by rw [HE.out, ← hfs]
      have HE3 := hid HE2
      have hcT := block_cell hTr; have hfR := block_free hRr; have hcR := block_cell hRr
      have hfin := set4 hRr (.int .u64 (W acc 0)) (.int .u64 (W acc 1)) (.int .u64 (W acc 2)) (.int .u64 (W acc 3))
      have hfb := below_set4 hBr (Nat.le_refl _) (.int .u64 (W acc 0)) (.int .u64 (W acc 1)) (.int .u64 (W acc 2)) (.int .u64 (W acc 3))
      have hfc := block_cell hfin
      clear HE2 hfs hfin
      go_wp2
      exact bodyPost_ret (v := .tuple #[.agg #[.int .u64 (W acc 0), .int .u64 (W acc 1), .int .u64 (W acc 2), .int .u64 (W acc 3)], .int .i64 0]) (by simp [results, Tryd.results6, go_sem, hfc]) rfl (FsPost.ok HE3.out hfb)
theorem rfspans_any (l : Sps) (v : Value) (w : World) (hv : RowIs w v 2 l.length (spCells l)) : Calls Tryd.prog 6 #[v] w (FsPost l w) := by
  by_cases hl : 4096 < l.length
  · exact rfspans_long l v w hv hl
  · exact rfspans_short l v w hv hl

end Go.Proofs.YtjbdamedofgdgabDoor
