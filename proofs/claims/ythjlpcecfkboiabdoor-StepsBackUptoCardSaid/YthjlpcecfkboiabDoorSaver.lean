/-
  The steps' saver: what number and small put behind its bytes.
-/
import Derived.Test.YthjlpcecfkboiabDoorClone
import Derived.WalkKit
import Derived.BigQuiet
import Derived.BigRegion
namespace Go.Proofs.YthjlpcecfkboiabDoor
open Go.RowKit
set_option linter.unusedVariables false
set_option linter.unusedSimpArgs false
def fourL (n : Int) : List Int := [n / 16777216 % 256, n / 65536 % 256, n / 256 % 256, n % 256]
def u8s (l : List Int) : List Value := l.map (.int .u8 ·)
def badN (n : Int) : Bool := decide (n < 0) || decide (2147483647 < n)
def badB (n : Int) : Bool := decide (n < 0) || decide (255 < n)
theorem u8s_app (a b : List Int) : u8s (a ++ b) = u8s a ++ u8s b := List.map_append
/-- A saver's memory. -/
def SavW (w : World) (B r : Nat) (bs : List Int) (bad : Bool) : Prop := ∃ bv, w.heap[r]? = some (.cells #[bv, .bool bad] 53) ∧ B ≤ r ∧ w.ownsRow B 5 1 bv bs.length (u8s bs)
/-- What is no saver's and no bytes' stays. -/
def KeepsU (w w' : World) : Prop := ∀ (b : Nat) (cs : Array Value) (T : Nat), T ≠ 5 → T ≠ 53 → w.heap[b]? = some (.cells cs T) → w'.heap[b]? = some (.cells cs T)
theorem KeepsU.trans {a b c : World} (h : KeepsU a b) (k : KeepsU b c) : KeepsU a c := fun x cs T h1 h2 hx => k x cs T h1 h2 (h x cs T h1 h2 hx)
theorem KeepsU.refl (a : World) : KeepsU a a := fun x cs T h1 h2 hx => hx
theorem KeepsU.below {w w' : World} (h : Below w.heap.size w w') : KeepsU w w' := fun b cs T _ _ hb => keep h hb
theorem KeepsU.grown {w w' : World} {base : Nat} {size n : Nat} {v : Value} {xs : List Value} (hS : w.ownsRow base 5 size v n xs) (hg : w.grownBy w' v.ownBlock) : KeepsU w w' := fun b cs T h1 _ hb => (hg.block b (block_lt hb) (fun h => by
  obtain ⟨cells, hc⟩ := own_typed' hS b h.symm
  rw [hb] at hc
  injection hc with hc
  injection hc with _ hc
  exact h1 hc)).trans hb
theorem KeepsU.set {w : World} {r : Nat} {cs : Array Value} (hr : w.heap[r]? = some (.cells cs 53)) (i : Nat) (u : Value) : KeepsU w (w.setCell ⟨r, i, none⟩ u) := fun b c2 T _ h2 hb => (heap_setCell_ne _ _ _ (fun he => by
  subst he
  rw [hr] at hb
  injection hb with hb
  injection hb with _ hb
  exact h2 hb.symm)).trans hb
theorem row_many (w : World) (e : TypeId) (cs : Array Value) : RowIs (w.alloc (.cells cs e)) (.slice (some ⟨w.heap.size, 0, none⟩) cs.size cs.size) 1 cs.size cs.toList := by
  refine ⟨by simp, _, _, rfl, fun _ => ⟨_, _, rfl, fun j hj => ?_⟩⟩
  rw [Nat.zero_add]
  exact (block_cell (alloc_new w (.cells cs e)) j).trans (by simp)
theorem info_u8 : (Tryd.prog.info? 5).map (fun i => (i.zero, i.size, i.bytes)) = some (some (.int .u8 0), 1, 1) := by kernel_rfl
def oneL (n : Int) : List Int := [n % 256]
theorem g_st1 {B : Nat} {a w : World} (h : Below B a w) {b : Nat} (hb : B ≤ b) (o : Nat) (v : Value) : Below B a (w.setCell ⟨b, o, none⟩ v) := Below.setCell (p := ⟨b, o, none⟩) h hb v
set_option maxHeartbeats 8000000 in
set_option maxRecDepth 20000 in
theorem number_any (w : World) (B r g n c : Nat) (bs : List Int) (bad : Bool) (ns : List Int) (hnn : n = ns.length) (h : SavW w B r bs bad) (hl : w.heap[g]? = some (.cells (ns.map (.int .i64 ·)).toArray 3)) (hn : ns.length ≤ 1000) (hz : bs.length ≤ 1099511627776) :
    Calls Tryd.prog 15 #[.pointer (some ⟨r, 0, none⟩), .slice (some ⟨g, 0, none⟩) n c] w fun e w' => e = .returned (.tuple #[]) ∧ SavW w' B r (bs ++ ns.flatMap fourL) (bad || ns.any badN) ∧ Below B w w' ∧ KeepsU w w' := by
  subst hnn
  obtain ⟨i0, hi, hz0, hz1, hz2⟩ := info_parts info_u8
  go_enter Tryd.func15, Tryd.ntmps15
  go_wp2_with (fail)
  go_loopw [5, 8] (fun _ i wr => ∃ k : Nat, k ≤ ns.length ∧ i = .int .i64 k ∧ SavW wr B r (bs ++ (ns.take k).flatMap fourL) (bad || (ns.take k).any badN) ∧ Below B w wr ∧ KeepsU w wr) (fun _ i _ => ns.length - (intOf i).toNat)
  case atStart =>
    refine ⟨0, Nat.zero_le _, rfl, ?_, Below.refl _ _, KeepsU.refl _⟩
    simpa using h
  case round =>
    obtain ⟨k, hk, rfl, ⟨bv, hR, hBr, hS⟩, hb, hK⟩ := hrel
    by_cases c0 : k < ns.length
    · have hl2 := hK g _ _ (by decide) (by decide) hl
      obtain ⟨x, hx⟩ : ∃ x, ns[k]? = some x := ⟨_, List.getElem?_eq_getElem c0⟩
      have hcl : wr.cell? ⟨g, k, none⟩ = some (.int .i64 x) := by rw [block_cell hl2 k]; simp [hx]
      have htk : ns.take (k + 1) = ns.take k ++ [x] := by rw [List.take_add_one, hx]; rfl
      have hlen : ((ns.take k).flatMap fourL).length ≤ 4000 := by
        have : ∀ l : List Int, (l.flatMap fourL).length = l.length * 4 := fun l => by induction l with | nil => rfl | cons a l ih => rw [List.flatMap_cons, List.length_append, ih, List.length_cons]; simp [fourL]; omega
        rw [this, List.length_take]; omega
      generalize hbd : (bad || (ns.take k).any badN) = bd at *
      generalize hbs : bs ++ (ns.take k).flatMap fourL = cs at *
      have hcs : cs.length ≤ 1099511631776 := by rw [← hbs, List.length_append]; omega
      have hw2 : IntKind.i64.wrap ((k : Int) + 1) = (k : Int) + 1 := IntWalk.i64_in _ (by omega)
      have hBW : B ≤ wr.heap.size := Nat.le_trans hBr (Nat.le_of_lt (block_lt hR))
      have hfin : ∀ (W : World) (v : Value), W.heap[r]? = some (.cells #[v, .bool (bd || badN x)] 53) → W.ownsRow B 5 1 v (cs.length + 4) (u8s cs ++ u8s (fourL x)) → Below B w W → KeepsU w W → ∃ k' : Nat, k' ≤ ns.length ∧ (.int .i64 ((k : Int) + 1) : Value) = .int .i64 (k' : Int) ∧ SavW W B r (bs ++ (ns.take k').flatMap fourL) (bad || (ns.take k').any badN) ∧ Below B w W ∧ KeepsU w W := by
        intro W v h1 h2 h3 h4
        refine ⟨k + 1, by omega, by congr 1, ?_, h3, h4⟩
        have e1 : (bad || (ns.take (k + 1)).any badN) = (bd || badN x) := by rw [htk, List.any_append, ← hbd]; simp [Bool.or_assoc]
        have e2 : bs ++ (ns.take (k + 1)).flatMap fourL = cs ++ fourL x := by rw [htk, List.flatMap_append, ← hbs]; simp
        rw [e1, e2]
        refine ⟨v, h1, hBr, ?_⟩
        rw [u8s_app, List.length_append]
        exact h2
      have hcR := block_cell hR
      have hfR := block_free hR
      have hltR := block_lt hR
      obtain ⟨A, c, rfl⟩ := (RowIs.of_owns hS).form
      have hrest : ∀ v : Bool, v = (bd || badN x) → (wr.setCell ⟨r, 1, none⟩ (.bool v)).heap[r]? = some (.cells #[.slice A cs.length c, .bool v] 53) ∧ (wr.setCell ⟨r, 1, none⟩ (.bool v)).ownsRow B 5 1 (.slice A cs.length c) cs.length (u8s cs) ∧ Below B w (wr.setCell ⟨r, 1, none⟩ (.bool v)) ∧ KeepsU w (wr.setCell ⟨r, 1, none⟩ (.bool v)) ∧ (wr.setCell ⟨r, 1, none⟩ (.bool v)).heap.size = wr.heap.size := fun v _ => ⟨heap_setCell_self hR 1 _, own_set hS hR (by decide) 1 _, g_st1 hb hBr 1 _, hK.trans (KeepsU.set hR 1 _), by simp [World.setCell]⟩
      rcases (show bd = true ∨ (bd = false ∧ decide (x < 0) = true) ∨ (bd = false ∧ decide (x < 0) = false ∧ decide (2147483647 < x) = true) ∨ (bd = false ∧ decide (x < 0) = false ∧ decide (2147483647 < x) = false) by simp only [decide_eq_true_eq, decide_eq_false_iff_not]; cases bd <;> simp; omega) with e0 | ⟨e0, e1⟩ | ⟨e0, e1, e2⟩ | ⟨e0, e1, e2⟩
      · have hv : true = (bd || badN x) := by rw [e0]; rfl
        obtain ⟨hR1, hS1, hb1, hK1, hsz1⟩ := hrest true hv
        rw [← hv] at hfin
        clear hbd hrest hv
        subst e0
        have hne : some r ≠ (Value.slice A cs.length c).ownBlock := fun e => by obtain ⟨cs, h⟩ := own_typed' hS1 r e.symm; rw [hR1] at h; injection h with h; injection h with _ h; cases h
        obtain ⟨W1, hW1⟩ : ∃ W1, W1 = wr.setCell ⟨r, 1, none⟩ (.bool true) := ⟨_, rfl⟩
        rw [← hW1] at hR1 hS1 hb1 hK1 hsz1
        have hBW1 : B ≤ W1.heap.size := by rw [hsz1]; exact hBW
        have hr2 := row_many W1 5 #[.int .u8 (x / 16777216 % 256), .int .u8 (x / 65536 % 256), .int .u8 (x / 256 % 256), .int .u8 (x % 256)]
        rw [hsz1] at hr2
        have hR2 := alloc_old (y := .cells #[.int .u8 (x / 16777216 % 256), .int .u8 (x / 65536 % 256), .int .u8 (x / 256 % 256), .int .u8 (x % 256)] 5) hR1
        have hS2 := hS1.alloc (.cells #[.int .u8 (x / 16777216 % 256), .int .u8 (x / 65536 % 256), .int .u8 (x / 256 % 256), .int .u8 (x % 256)] 5)
        have hb2 := hb1.alloc hBW1 (.cells #[.int .u8 (x / 16777216 % 256), .int .u8 (x / 65536 % 256), .int .u8 (x / 256 % 256), .int .u8 (x % 256)] 5)
        have hK2 := hK1.trans (KeepsU.below ((Below.refl W1.heap.size W1).alloc (Nat.le_refl _) (.cells #[.int .u8 (x / 16777216 % 256), .int .u8 (x / 65536 % 256), .int .u8 (x / 256 % 256), .int .u8 (x % 256)] 5)))
        have hBW2 : B ≤ (W1.alloc (.cells #[.int .u8 (x / 16777216 % 256), .int .u8 (x / 65536 % 256), .int .u8 (x / 256 % 256), .int .u8 (x % 256)] 5)).heap.size := Nat.le_trans hBW1 (by simp)
        clear hR1 hS1 hb1 hK1 hBW1
        rw [hW1] at hr2 hR2 hS2 hb2 hK2 hBW2
        clear hsz1 hW1
        clear W1
        go_wp2_with (at_builtin; refine wpList_append_row rfl _ _ 51 rfl B 5 i0 _ 1 1 Tryd.underlying51 hi hz0 hz1 hz2 rfl (by decide) _ cs.length (u8s cs) rfl hS2 _ 4 _ rfl hr2 ?q2 ?q3 ?q4 hBW2 ?_)
        case q2 => simp [Value.oneCell']
        case q3 => unfold maxLen; omega
        case q4 => omega
        intro v4 w4 hS4 hg4 hb4
        obtain ⟨A4, c4, rfl⟩ := (RowIs.of_owns hS4).form
        have hR4 := (hg4.block r (block_lt hR2) hne).trans hR2
        have hb5 := hb2.grown hg4 hBW2 (fun b e => (hS2.lt b e).1)
        have hK4 := hK2.trans (KeepsU.grown hS2 hg4)
        have hcR := block_cell hR4
        have hfR := block_free hR4
        have hR5 : (w4.setCell ⟨r, 0, none⟩ (.slice A4 (cs.length + 4) c4)).heap[r]? = some (.cells #[.slice A4 (cs.length + 4) c4, .bool true] 53) := heap_setCell_self hR4 0 _
        have hS5 := own_set hS4 hR4 (by decide) 0 (.slice A4 (cs.length + 4) c4)
        have hF := hfin _ _ hR5 hS5 (g_st1 hb5 hBr 0 _) (hK4.trans (KeepsU.set hR4 0 _))
        go_wp2_with (fail)
        go_roundw
        case rel => exact hF
        case measure => simp [intOf]; omega
      · have hv : true = (bd || badN x) := by unfold badN; rw [e0, e1]; rfl
        obtain ⟨hR1, hS1, hb1, hK1, hsz1⟩ := hrest true hv
        rw [← hv] at hfin
        clear hbd hrest hv
        subst e0
        have hne : some r ≠ (Value.slice A cs.length c).ownBlock := fun e => by obtain ⟨cs, h⟩ := own_typed' hS1 r e.symm; rw [hR1] at h; injection h with h; injection h with _ h; cases h
        obtain ⟨W1, hW1⟩ : ∃ W1, W1 = wr.setCell ⟨r, 1, none⟩ (.bool true) := ⟨_, rfl⟩
        rw [← hW1] at hR1 hS1 hb1 hK1 hsz1
        have hBW1 : B ≤ W1.heap.size := by rw [hsz1]; exact hBW
        have hr2 := row_many W1 5 #[.int .u8 (x / 16777216 % 256), .int .u8 (x / 65536 % 256), .int .u8 (x / 256 % 256), .int .u8 (x % 256)]
        rw [hsz1] at hr2
        have hR2 := alloc_old (y := .cells #[.int .u8 (x / 16777216 % 256), .int .u8 (x / 65536 % 256), .int .u8 (x / 256 % 256), .int .u8 (x % 256)] 5) hR1
        have hS2 := hS1.alloc (.cells #[.int .u8 (x / 16777216 % 256), .int .u8 (x / 65536 % 256), .int .u8 (x / 256 % 256), .int .u8 (x % 256)] 5)
        have hb2 := hb1.alloc hBW1 (.cells #[.int .u8 (x / 16777216 % 256), .int .u8 (x / 65536 % 256), .int .u8 (x / 256 % 256), .int .u8 (x % 256)] 5)
        have hK2 := hK1.trans (KeepsU.below ((Below.refl W1.heap.size W1).alloc (Nat.le_refl _) (.cells #[.int .u8 (x / 16777216 % 256), .int .u8 (x / 65536 % 256), .int .u8 (x / 256 % 256), .int .u8 (x % 256)] 5)))
        have hBW2 : B ≤ (W1.alloc (.cells #[.int .u8 (x / 16777216 % 256), .int .u8 (x / 65536 % 256), .int .u8 (x / 256 % 256), .int .u8 (x % 256)] 5)).heap.size := Nat.le_trans hBW1 (by simp)
        clear hR1 hS1 hb1 hK1 hBW1
        rw [hW1] at hr2 hR2 hS2 hb2 hK2 hBW2
        clear hsz1 hW1
        clear W1
        go_wp2_with (at_builtin; refine wpList_append_row rfl _ _ 51 rfl B 5 i0 _ 1 1 Tryd.underlying51 hi hz0 hz1 hz2 rfl (by decide) _ cs.length (u8s cs) rfl hS2 _ 4 _ rfl hr2 ?q2 ?q3 ?q4 hBW2 ?_)
        case q2 => simp [Value.oneCell']
        case q3 => unfold maxLen; omega
        case q4 => omega
        intro v4 w4 hS4 hg4 hb4
        obtain ⟨A4, c4, rfl⟩ := (RowIs.of_owns hS4).form
        have hR4 := (hg4.block r (block_lt hR2) hne).trans hR2
        have hb5 := hb2.grown hg4 hBW2 (fun b e => (hS2.lt b e).1)
        have hK4 := hK2.trans (KeepsU.grown hS2 hg4)
        have hcR := block_cell hR4
        have hfR := block_free hR4
        have hR5 : (w4.setCell ⟨r, 0, none⟩ (.slice A4 (cs.length + 4) c4)).heap[r]? = some (.cells #[.slice A4 (cs.length + 4) c4, .bool true] 53) := heap_setCell_self hR4 0 _
        have hS5 := own_set hS4 hR4 (by decide) 0 (.slice A4 (cs.length + 4) c4)
        have hF := hfin _ _ hR5 hS5 (g_st1 hb5 hBr 0 _) (hK4.trans (KeepsU.set hR4 0 _))
        go_wp2_with (fail)
        go_roundw
        case rel => exact hF
        case measure => simp [intOf]; omega
      · have hv : true = (bd || badN x) := by unfold badN; rw [e0, e1, e2]; rfl
        obtain ⟨hR1, hS1, hb1, hK1, hsz1⟩ := hrest true hv
        rw [← hv] at hfin
        clear hbd hrest hv
        subst e0
        have hne : some r ≠ (Value.slice A cs.length c).ownBlock := fun e => by obtain ⟨cs, h⟩ := own_typed' hS1 r e.symm; rw [hR1] at h; injection h with h; injection h with _ h; cases h
        obtain ⟨W1, hW1⟩ : ∃ W1, W1 = wr.setCell ⟨r, 1, none⟩ (.bool true) := ⟨_, rfl⟩
        rw [← hW1] at hR1 hS1 hb1 hK1 hsz1
        have hBW1 : B ≤ W1.heap.size := by rw [hsz1]; exact hBW
        have hr2 := row_many W1 5 #[.int .u8 (x / 16777216 % 256), .int .u8 (x / 65536 % 256), .int .u8 (x / 256 % 256), .int .u8 (x % 256)]
        rw [hsz1] at hr2
        have hR2 := alloc_old (y := .cells #[.int .u8 (x / 16777216 % 256), .int .u8 (x / 65536 % 256), .int .u8 (x / 256 % 256), .int .u8 (x % 256)] 5) hR1
        have hS2 := hS1.alloc (.cells #[.int .u8 (x / 16777216 % 256), .int .u8 (x / 65536 % 256), .int .u8 (x / 256 % 256), .int .u8 (x % 256)] 5)
        have hb2 := hb1.alloc hBW1 (.cells #[.int .u8 (x / 16777216 % 256), .int .u8 (x / 65536 % 256), .int .u8 (x / 256 % 256), .int .u8 (x % 256)] 5)
        have hK2 := hK1.trans (KeepsU.below ((Below.refl W1.heap.size W1).alloc (Nat.le_refl _) (.cells #[.int .u8 (x / 16777216 % 256), .int .u8 (x / 65536 % 256), .int .u8 (x / 256 % 256), .int .u8 (x % 256)] 5)))
        have hBW2 : B ≤ (W1.alloc (.cells #[.int .u8 (x / 16777216 % 256), .int .u8 (x / 65536 % 256), .int .u8 (x / 256 % 256), .int .u8 (x % 256)] 5)).heap.size := Nat.le_trans hBW1 (by simp)
        clear hR1 hS1 hb1 hK1 hBW1
        rw [hW1] at hr2 hR2 hS2 hb2 hK2 hBW2
        clear hsz1 hW1
        clear W1
        go_wp2_with (at_builtin; refine wpList_append_row rfl _ _ 51 rfl B 5 i0 _ 1 1 Tryd.underlying51 hi hz0 hz1 hz2 rfl (by decide) _ cs.length (u8s cs) rfl hS2 _ 4 _ rfl hr2 ?q2 ?q3 ?q4 hBW2 ?_)
        case q2 => simp [Value.oneCell']
        case q3 => unfold maxLen; omega
        case q4 => omega
        intro v4 w4 hS4 hg4 hb4
        obtain ⟨A4, c4, rfl⟩ := (RowIs.of_owns hS4).form
        have hR4 := (hg4.block r (block_lt hR2) hne).trans hR2
        have hb5 := hb2.grown hg4 hBW2 (fun b e => (hS2.lt b e).1)
        have hK4 := hK2.trans (KeepsU.grown hS2 hg4)
        have hcR := block_cell hR4
        have hfR := block_free hR4
        have hR5 : (w4.setCell ⟨r, 0, none⟩ (.slice A4 (cs.length + 4) c4)).heap[r]? = some (.cells #[.slice A4 (cs.length + 4) c4, .bool true] 53) := heap_setCell_self hR4 0 _
        have hS5 := own_set hS4 hR4 (by decide) 0 (.slice A4 (cs.length + 4) c4)
        have hF := hfin _ _ hR5 hS5 (g_st1 hb5 hBr 0 _) (hK4.trans (KeepsU.set hR4 0 _))
        go_wp2_with (fail)
        go_roundw
        case rel => exact hF
        case measure => simp [intOf]; omega
      · have hv : false = (bd || badN x) := by unfold badN; rw [e0, e1, e2]; rfl
        obtain ⟨hR1, hS1, hb1, hK1, hsz1⟩ := hrest false hv
        rw [← hv] at hfin
        clear hbd hrest hv
        subst e0
        have hne : some r ≠ (Value.slice A cs.length c).ownBlock := fun e => by obtain ⟨cs, h⟩ := own_typed' hS1 r e.symm; rw [hR1] at h; injection h with h; injection h with _ h; cases h
        obtain ⟨W1, hW1⟩ : ∃ W1, W1 = wr.setCell ⟨r, 1, none⟩ (.bool false) := ⟨_, rfl⟩
        rw [← hW1] at hR1 hS1 hb1 hK1 hsz1
        have hBW1 : B ≤ W1.heap.size := by rw [hsz1]; exact hBW
        have hr2 := row_many W1 5 #[.int .u8 (x / 16777216 % 256), .int .u8 (x / 65536 % 256), .int .u8 (x / 256 % 256), .int .u8 (x % 256)]
        rw [hsz1] at hr2
        have hR2 := alloc_old (y := .cells #[.int .u8 (x / 16777216 % 256), .int .u8 (x / 65536 % 256), .int .u8 (x / 256 % 256), .int .u8 (x % 256)] 5) hR1
        have hS2 := hS1.alloc (.cells #[.int .u8 (x / 16777216 % 256), .int .u8 (x / 65536 % 256), .int .u8 (x / 256 % 256), .int .u8 (x % 256)] 5)
        have hb2 := hb1.alloc hBW1 (.cells #[.int .u8 (x / 16777216 % 256), .int .u8 (x / 65536 % 256), .int .u8 (x / 256 % 256), .int .u8 (x % 256)] 5)
        have hK2 := hK1.trans (KeepsU.below ((Below.refl W1.heap.size W1).alloc (Nat.le_refl _) (.cells #[.int .u8 (x / 16777216 % 256), .int .u8 (x / 65536 % 256), .int .u8 (x / 256 % 256), .int .u8 (x % 256)] 5)))
        have hBW2 : B ≤ (W1.alloc (.cells #[.int .u8 (x / 16777216 % 256), .int .u8 (x / 65536 % 256), .int .u8 (x / 256 % 256), .int .u8 (x % 256)] 5)).heap.size := Nat.le_trans hBW1 (by simp)
        clear hR1 hS1 hb1 hK1 hBW1
        rw [hW1] at hr2 hR2 hS2 hb2 hK2 hBW2
        clear hsz1 hW1
        clear W1
        go_wp2_with (at_builtin; refine wpList_append_row rfl _ _ 51 rfl B 5 i0 _ 1 1 Tryd.underlying51 hi hz0 hz1 hz2 rfl (by decide) _ cs.length (u8s cs) rfl hS2 _ 4 _ rfl hr2 ?q2 ?q3 ?q4 hBW2 ?_)
        case q2 => simp [Value.oneCell']
        case q3 => unfold maxLen; omega
        case q4 => omega
        intro v4 w4 hS4 hg4 hb4
        obtain ⟨A4, c4, rfl⟩ := (RowIs.of_owns hS4).form
        have hR4 := (hg4.block r (block_lt hR2) hne).trans hR2
        have hb5 := hb2.grown hg4 hBW2 (fun b e => (hS2.lt b e).1)
        have hK4 := hK2.trans (KeepsU.grown hS2 hg4)
        have hcR := block_cell hR4
        have hfR := block_free hR4
        have hR5 : (w4.setCell ⟨r, 0, none⟩ (.slice A4 (cs.length + 4) c4)).heap[r]? = some (.cells #[.slice A4 (cs.length + 4) c4, .bool false] 53) := heap_setCell_self hR4 0 _
        have hS5 := own_set hS4 hR4 (by decide) 0 (.slice A4 (cs.length + 4) c4)
        have hF := hfin _ _ hR5 hS5 (g_st1 hb5 hBr 0 _) (hK4.trans (KeepsU.set hR4 0 _))
        go_wp2_with (fail)
        go_roundw
        case rel => exact hF
        case measure => simp [intOf]; omega
    · have hk2 : k = ns.length := by omega
      subst hk2
      have q0 : decide ((ns.length : Int) < (ns.length : Int)) = false := decide_eq_false (by omega)
      go_wp2_with (fail)
      go_end0
      refine ⟨rfl, ?_, hb, hK⟩
      rw [List.take_length] at hS
      exact ⟨bv, by rw [List.take_length] at hR; exact hR, hBr, hS⟩
set_option maxHeartbeats 8000000 in
set_option maxRecDepth 20000 in
theorem small_any (w : World) (B r g n c : Nat) (bs : List Int) (bad : Bool) (ns : List Int) (hnn : n = ns.length) (h : SavW w B r bs bad) (hl : w.heap[g]? = some (.cells (ns.map (.int .i64 ·)).toArray 3)) (hn : ns.length ≤ 1000) (hz : bs.length ≤ 1099511627776) :
    Calls Tryd.prog 16 #[.pointer (some ⟨r, 0, none⟩), .slice (some ⟨g, 0, none⟩) n c] w fun e w' => e = .returned (.tuple #[]) ∧ SavW w' B r (bs ++ ns.flatMap oneL) (bad || ns.any badB) ∧ Below B w w' ∧ KeepsU w w' := by
  subst hnn
  obtain ⟨i0, hi, hz0, hz1, hz2⟩ := info_parts info_u8
  go_enter Tryd.func16, Tryd.ntmps16
  go_wp2_with (fail)
  go_loopw [5, 8] (fun _ i wr => ∃ k : Nat, k ≤ ns.length ∧ i = .int .i64 k ∧ SavW wr B r (bs ++ (ns.take k).flatMap oneL) (bad || (ns.take k).any badB) ∧ Below B w wr ∧ KeepsU w wr) (fun _ i _ => ns.length - (intOf i).toNat)
  case atStart =>
    refine ⟨0, Nat.zero_le _, rfl, ?_, Below.refl _ _, KeepsU.refl _⟩
    simpa using h
  case round =>
    obtain ⟨k, hk, rfl, ⟨bv, hR, hBr, hS⟩, hb, hK⟩ := hrel
    by_cases c0 : k < ns.length
    · have hl2 := hK g _ _ (by decide) (by decide) hl
      obtain ⟨x, hx⟩ : ∃ x, ns[k]? = some x := ⟨_, List.getElem?_eq_getElem c0⟩
      have hcl : wr.cell? ⟨g, k, none⟩ = some (.int .i64 x) := by rw [block_cell hl2 k]; simp [hx]
      have htk : ns.take (k + 1) = ns.take k ++ [x] := by rw [List.take_add_one, hx]; rfl
      have hlen : ((ns.take k).flatMap oneL).length ≤ 4000 := by
        have : ∀ l : List Int, (l.flatMap oneL).length = l.length * 1 := fun l => by induction l with | nil => rfl | cons a l ih => rw [List.flatMap_cons, List.length_append, ih, List.length_cons]; simp [oneL]; omega
        rw [this, List.length_take]; omega
      generalize hbd : (bad || (ns.take k).any badB) = bd at *
      generalize hbs : bs ++ (ns.take k).flatMap oneL = cs at *
      have hcs : cs.length ≤ 1099511631776 := by rw [← hbs, List.length_append]; omega
      have hw2 : IntKind.i64.wrap ((k : Int) + 1) = (k : Int) + 1 := IntWalk.i64_in _ (by omega)
      have hBW : B ≤ wr.heap.size := Nat.le_trans hBr (Nat.le_of_lt (block_lt hR))
      have hfin : ∀ (W : World) (v : Value), W.heap[r]? = some (.cells #[v, .bool (bd || badB x)] 53) → W.ownsRow B 5 1 v (cs.length + 1) (u8s cs ++ u8s (oneL x)) → Below B w W → KeepsU w W → ∃ k' : Nat, k' ≤ ns.length ∧ (.int .i64 ((k : Int) + 1) : Value) = .int .i64 (k' : Int) ∧ SavW W B r (bs ++ (ns.take k').flatMap oneL) (bad || (ns.take k').any badB) ∧ Below B w W ∧ KeepsU w W := by
        intro W v h1 h2 h3 h4
        refine ⟨k + 1, by omega, by congr 1, ?_, h3, h4⟩
        have e1 : (bad || (ns.take (k + 1)).any badB) = (bd || badB x) := by rw [htk, List.any_append, ← hbd]; simp [Bool.or_assoc]
        have e2 : bs ++ (ns.take (k + 1)).flatMap oneL = cs ++ oneL x := by rw [htk, List.flatMap_append, ← hbs]; simp
        rw [e1, e2]
        refine ⟨v, h1, hBr, ?_⟩
        rw [u8s_app, List.length_append]
        exact h2
      have hcR := block_cell hR
      have hfR := block_free hR
      have hltR := block_lt hR
      obtain ⟨A, c, rfl⟩ := (RowIs.of_owns hS).form
      have hrest : ∀ v : Bool, v = (bd || badB x) → (wr.setCell ⟨r, 1, none⟩ (.bool v)).heap[r]? = some (.cells #[.slice A cs.length c, .bool v] 53) ∧ (wr.setCell ⟨r, 1, none⟩ (.bool v)).ownsRow B 5 1 (.slice A cs.length c) cs.length (u8s cs) ∧ Below B w (wr.setCell ⟨r, 1, none⟩ (.bool v)) ∧ KeepsU w (wr.setCell ⟨r, 1, none⟩ (.bool v)) ∧ (wr.setCell ⟨r, 1, none⟩ (.bool v)).heap.size = wr.heap.size := fun v _ => ⟨heap_setCell_self hR 1 _, own_set hS hR (by decide) 1 _, g_st1 hb hBr 1 _, hK.trans (KeepsU.set hR 1 _), by simp [World.setCell]⟩
      rcases (show bd = true ∨ (bd = false ∧ decide (x < 0) = true) ∨ (bd = false ∧ decide (x < 0) = false ∧ decide (255 < x) = true) ∨ (bd = false ∧ decide (x < 0) = false ∧ decide (255 < x) = false) by simp only [decide_eq_true_eq, decide_eq_false_iff_not]; cases bd <;> simp; omega) with e0 | ⟨e0, e1⟩ | ⟨e0, e1, e2⟩ | ⟨e0, e1, e2⟩
      · have hv : true = (bd || badB x) := by rw [e0]; rfl
        obtain ⟨hR1, hS1, hb1, hK1, hsz1⟩ := hrest true hv
        rw [← hv] at hfin
        clear hbd hrest hv
        subst e0
        have hne : some r ≠ (Value.slice A cs.length c).ownBlock := fun e => by obtain ⟨cs, h⟩ := own_typed' hS1 r e.symm; rw [hR1] at h; injection h with h; injection h with _ h; cases h
        obtain ⟨W1, hW1⟩ : ∃ W1, W1 = wr.setCell ⟨r, 1, none⟩ (.bool true) := ⟨_, rfl⟩
        rw [← hW1] at hR1 hS1 hb1 hK1 hsz1
        have hBW1 : B ≤ W1.heap.size := by rw [hsz1]; exact hBW
        have hr2 := row_many W1 5 #[.int .u8 (x % 256)]
        rw [hsz1] at hr2
        have hR2 := alloc_old (y := .cells #[.int .u8 (x % 256)] 5) hR1
        have hS2 := hS1.alloc (.cells #[.int .u8 (x % 256)] 5)
        have hb2 := hb1.alloc hBW1 (.cells #[.int .u8 (x % 256)] 5)
        have hK2 := hK1.trans (KeepsU.below ((Below.refl W1.heap.size W1).alloc (Nat.le_refl _) (.cells #[.int .u8 (x % 256)] 5)))
        have hBW2 : B ≤ (W1.alloc (.cells #[.int .u8 (x % 256)] 5)).heap.size := Nat.le_trans hBW1 (by simp)
        clear hR1 hS1 hb1 hK1 hBW1
        rw [hW1] at hr2 hR2 hS2 hb2 hK2 hBW2
        clear hsz1 hW1
        clear W1
        go_wp2_with (at_builtin; refine wpList_append_row rfl _ _ 51 rfl B 5 i0 _ 1 1 Tryd.underlying51 hi hz0 hz1 hz2 rfl (by decide) _ cs.length (u8s cs) rfl hS2 _ 1 _ rfl hr2 ?q2 ?q3 ?q4 hBW2 ?_)
        case q2 => simp [Value.oneCell']
        case q3 => unfold maxLen; omega
        case q4 => omega
        intro v4 w4 hS4 hg4 hb4
        obtain ⟨A4, c4, rfl⟩ := (RowIs.of_owns hS4).form
        have hR4 := (hg4.block r (block_lt hR2) hne).trans hR2
        have hb5 := hb2.grown hg4 hBW2 (fun b e => (hS2.lt b e).1)
        have hK4 := hK2.trans (KeepsU.grown hS2 hg4)
        have hcR := block_cell hR4
        have hfR := block_free hR4
        have hR5 : (w4.setCell ⟨r, 0, none⟩ (.slice A4 (cs.length + 1) c4)).heap[r]? = some (.cells #[.slice A4 (cs.length + 1) c4, .bool true] 53) := heap_setCell_self hR4 0 _
        have hS5 := own_set hS4 hR4 (by decide) 0 (.slice A4 (cs.length + 1) c4)
        have hF := hfin _ _ hR5 hS5 (g_st1 hb5 hBr 0 _) (hK4.trans (KeepsU.set hR4 0 _))
        go_wp2_with (fail)
        go_roundw
        case rel => exact hF
        case measure => simp [intOf]; omega
      · have hv : true = (bd || badB x) := by unfold badB; rw [e0, e1]; rfl
        obtain ⟨hR1, hS1, hb1, hK1, hsz1⟩ := hrest true hv
        rw [← hv] at hfin
        clear hbd hrest hv
        subst e0
        have hne : some r ≠ (Value.slice A cs.length c).ownBlock := fun e => by obtain ⟨cs, h⟩ := own_typed' hS1 r e.symm; rw [hR1] at h; injection h with h; injection h with _ h; cases h
        obtain ⟨W1, hW1⟩ : ∃ W1, W1 = wr.setCell ⟨r, 1, none⟩ (.bool true) := ⟨_, rfl⟩
        rw [← hW1] at hR1 hS1 hb1 hK1 hsz1
        have hBW1 : B ≤ W1.heap.size := by rw [hsz1]; exact hBW
        have hr2 := row_many W1 5 #[.int .u8 (x % 256)]
        rw [hsz1] at hr2
        have hR2 := alloc_old (y := .cells #[.int .u8 (x % 256)] 5) hR1
        have hS2 := hS1.alloc (.cells #[.int .u8 (x % 256)] 5)
        have hb2 := hb1.alloc hBW1 (.cells #[.int .u8 (x % 256)] 5)
        have hK2 := hK1.trans (KeepsU.below ((Below.refl W1.heap.size W1).alloc (Nat.le_refl _) (.cells #[.int .u8 (x % 256)] 5)))
        have hBW2 : B ≤ (W1.alloc (.cells #[.int .u8 (x % 256)] 5)).heap.size := Nat.le_trans hBW1 (by simp)
        clear hR1 hS1 hb1 hK1 hBW1
        rw [hW1] at hr2 hR2 hS2 hb2 hK2 hBW2
        clear hsz1 hW1
        clear W1
        go_wp2_with (at_builtin; refine wpList_append_row rfl _ _ 51 rfl B 5 i0 _ 1 1 Tryd.underlying51 hi hz0 hz1 hz2 rfl (by decide) _ cs.length (u8s cs) rfl hS2 _ 1 _ rfl hr2 ?q2 ?q3 ?q4 hBW2 ?_)
        case q2 => simp [Value.oneCell']
        case q3 => unfold maxLen; omega
        case q4 => omega
        intro v4 w4 hS4 hg4 hb4
        obtain ⟨A4, c4, rfl⟩ := (RowIs.of_owns hS4).form
        have hR4 := (hg4.block r (block_lt hR2) hne).trans hR2
        have hb5 := hb2.grown hg4 hBW2 (fun b e => (hS2.lt b e).1)
        have hK4 := hK2.trans (KeepsU.grown hS2 hg4)
        have hcR := block_cell hR4
        have hfR := block_free hR4
        have hR5 : (w4.setCell ⟨r, 0, none⟩ (.slice A4 (cs.length + 1) c4)).heap[r]? = some (.cells #[.slice A4 (cs.length + 1) c4, .bool true] 53) := heap_setCell_self hR4 0 _
        have hS5 := own_set hS4 hR4 (by decide) 0 (.slice A4 (cs.length + 1) c4)
        have hF := hfin _ _ hR5 hS5 (g_st1 hb5 hBr 0 _) (hK4.trans (KeepsU.set hR4 0 _))
        go_wp2_with (fail)
        go_roundw
        case rel => exact hF
        case measure => simp [intOf]; omega
      · have hv : true = (bd || badB x) := by unfold badB; rw [e0, e1, e2]; rfl
        obtain ⟨hR1, hS1, hb1, hK1, hsz1⟩ := hrest true hv
        rw [← hv] at hfin
        clear hbd hrest hv
        subst e0
        have hne : some r ≠ (Value.slice A cs.length c).ownBlock := fun e => by obtain ⟨cs, h⟩ := own_typed' hS1 r e.symm; rw [hR1] at h; injection h with h; injection h with _ h; cases h
        obtain ⟨W1, hW1⟩ : ∃ W1, W1 = wr.setCell ⟨r, 1, none⟩ (.bool true) := ⟨_, rfl⟩
        rw [← hW1] at hR1 hS1 hb1 hK1 hsz1
        have hBW1 : B ≤ W1.heap.size := by rw [hsz1]; exact hBW
        have hr2 := row_many W1 5 #[.int .u8 (x % 256)]
        rw [hsz1] at hr2
        have hR2 := alloc_old (y := .cells #[.int .u8 (x % 256)] 5) hR1
        have hS2 := hS1.alloc (.cells #[.int .u8 (x % 256)] 5)
        have hb2 := hb1.alloc hBW1 (.cells #[.int .u8 (x % 256)] 5)
        have hK2 := hK1.trans (KeepsU.below ((Below.refl W1.heap.size W1).alloc (Nat.le_refl _) (.cells #[.int .u8 (x % 256)] 5)))
        have hBW2 : B ≤ (W1.alloc (.cells #[.int .u8 (x % 256)] 5)).heap.size := Nat.le_trans hBW1 (by simp)
        clear hR1 hS1 hb1 hK1 hBW1
        rw [hW1] at hr2 hR2 hS2 hb2 hK2 hBW2
        clear hsz1 hW1
        clear W1
        go_wp2_with (at_builtin; refine wpList_append_row rfl _ _ 51 rfl B 5 i0 _ 1 1 Tryd.underlying51 hi hz0 hz1 hz2 rfl (by decide) _ cs.length (u8s cs) rfl hS2 _ 1 _ rfl hr2 ?q2 ?q3 ?q4 hBW2 ?_)
        case q2 => simp [Value.oneCell']
        case q3 => unfold maxLen; omega
        case q4 => omega
        intro v4 w4 hS4 hg4 hb4
        obtain ⟨A4, c4, rfl⟩ := (RowIs.of_owns hS4).form
        have hR4 := (hg4.block r (block_lt hR2) hne).trans hR2
        have hb5 := hb2.grown hg4 hBW2 (fun b e => (hS2.lt b e).1)
        have hK4 := hK2.trans (KeepsU.grown hS2 hg4)
        have hcR := block_cell hR4
        have hfR := block_free hR4
        have hR5 : (w4.setCell ⟨r, 0, none⟩ (.slice A4 (cs.length + 1) c4)).heap[r]? = some (.cells #[.slice A4 (cs.length + 1) c4, .bool true] 53) := heap_setCell_self hR4 0 _
        have hS5 := own_set hS4 hR4 (by decide) 0 (.slice A4 (cs.length + 1) c4)
        have hF := hfin _ _ hR5 hS5 (g_st1 hb5 hBr 0 _) (hK4.trans (KeepsU.set hR4 0 _))
        go_wp2_with (fail)
        go_roundw
        case rel => exact hF
        case measure => simp [intOf]; omega
      · have hv : false = (bd || badB x) := by unfold badB; rw [e0, e1, e2]; rfl
        obtain ⟨hR1, hS1, hb1, hK1, hsz1⟩ := hrest false hv
        rw [← hv] at hfin
        clear hbd hrest hv
        subst e0
        have hne : some r ≠ (Value.slice A cs.length c).ownBlock := fun e => by obtain ⟨cs, h⟩ := own_typed' hS1 r e.symm; rw [hR1] at h; injection h with h; injection h with _ h; cases h
        obtain ⟨W1, hW1⟩ : ∃ W1, W1 = wr.setCell ⟨r, 1, none⟩ (.bool false) := ⟨_, rfl⟩
        rw [← hW1] at hR1 hS1 hb1 hK1 hsz1
        have hBW1 : B ≤ W1.heap.size := by rw [hsz1]; exact hBW
        have hr2 := row_many W1 5 #[.int .u8 (x % 256)]
        rw [hsz1] at hr2
        have hR2 := alloc_old (y := .cells #[.int .u8 (x % 256)] 5) hR1
        have hS2 := hS1.alloc (.cells #[.int .u8 (x % 256)] 5)
        have hb2 := hb1.alloc hBW1 (.cells #[.int .u8 (x % 256)] 5)
        have hK2 := hK1.trans (KeepsU.below ((Below.refl W1.heap.size W1).alloc (Nat.le_refl _) (.cells #[.int .u8 (x % 256)] 5)))
        have hBW2 : B ≤ (W1.alloc (.cells #[.int .u8 (x % 256)] 5)).heap.size := Nat.le_trans hBW1 (by simp)
        clear hR1 hS1 hb1 hK1 hBW1
        rw [hW1] at hr2 hR2 hS2 hb2 hK2 hBW2
        clear hsz1 hW1
        clear W1
        go_wp2_with (at_builtin; refine wpList_append_row rfl _ _ 51 rfl B 5 i0 _ 1 1 Tryd.underlying51 hi hz0 hz1 hz2 rfl (by decide) _ cs.length (u8s cs) rfl hS2 _ 1 _ rfl hr2 ?q2 ?q3 ?q4 hBW2 ?_)
        case q2 => simp [Value.oneCell']
        case q3 => unfold maxLen; omega
        case q4 => omega
        intro v4 w4 hS4 hg4 hb4
        obtain ⟨A4, c4, rfl⟩ := (RowIs.of_owns hS4).form
        have hR4 := (hg4.block r (block_lt hR2) hne).trans hR2
        have hb5 := hb2.grown hg4 hBW2 (fun b e => (hS2.lt b e).1)
        have hK4 := hK2.trans (KeepsU.grown hS2 hg4)
        have hcR := block_cell hR4
        have hfR := block_free hR4
        have hR5 : (w4.setCell ⟨r, 0, none⟩ (.slice A4 (cs.length + 1) c4)).heap[r]? = some (.cells #[.slice A4 (cs.length + 1) c4, .bool false] 53) := heap_setCell_self hR4 0 _
        have hS5 := own_set hS4 hR4 (by decide) 0 (.slice A4 (cs.length + 1) c4)
        have hF := hfin _ _ hR5 hS5 (g_st1 hb5 hBr 0 _) (hK4.trans (KeepsU.set hR4 0 _))
        go_wp2_with (fail)
        go_roundw
        case rel => exact hF
        case measure => simp [intOf]; omega
    · have hk2 : k = ns.length := by omega
      subst hk2
      have q0 : decide ((ns.length : Int) < (ns.length : Int)) = false := decide_eq_false (by omega)
      go_wp2_with (fail)
      go_end0
      refine ⟨rfl, ?_, hb, hK⟩
      rw [List.take_length] at hS
      exact ⟨bv, by rw [List.take_length] at hR; exact hR, hBr, hS⟩
end Go.Proofs.YthjlpcecfkboiabDoor
