/-
  The steps' loader: what number, take and small read.
-/
import Derived.Test.YthjlpcecfkboiabDoorSaver
import Derived.WalkKit
import Derived.BigQuiet
import Derived.BigRegion
import Derived.Laws.BitsLemmas
namespace Go.Proofs.YthjlpcecfkboiabDoor
open Go.RowKit
set_option linter.unusedVariables false
set_option linter.unusedSimpArgs false
/-- Bytes that a slice value reads as, in another block than r. -/
def BytesAt (w : World) (r : Nat) (v : Value) (l : List Int) : Prop :=
  ∃ g o c, v = .slice (some ⟨g, o, none⟩) l.length c ∧ l.length ≤ c ∧ g ≠ r ∧ (∃ cs m, w.heap[g]? = some (.cells cs 5 m)) ∧ ∀ j, j < l.length → w.cell? ⟨g, o + j, none⟩ = some (.int .u8 (l.getD j 0))
/-- Bytes and loaders stay. -/
def KeepsV (w w' : World) : Prop := ∀ (b : Nat) (cs : Array Value) (T : Nat) (m : Nat × Nat), (T = 5 ∨ T = 61) → w.heap[b]? = some (.cells cs T m) → w'.heap[b]? = some (.cells cs T m)
theorem KeepsV.trans {a b c : World} (h : KeepsV a b) (k : KeepsV b c) : KeepsV a c := fun x cs T m h1 hx => k x cs T m h1 (h x cs T m h1 hx)
theorem KeepsV.below {w w' : World} (h : Below w.heap.size w w') : KeepsV w w' := fun b cs T m _ hb => keep h hb
theorem KeepsV.grown {w w' : World} {base : Nat} {e : TypeId} {size n : Nat} {v : Value} {xs : List Value} (hS : w.ownsRow base e size v n xs) (he : e ≠ 5) (he2 : e ≠ 61) (hg : w.grownBy w' v.ownBlock) : KeepsV w w' := fun b cs T m h1 hb => (hg.block b (block_lt hb) (fun h => by
  obtain ⟨cells, hc⟩ := own_typed' hS b h.symm
  rw [hb] at hc
  injection hc with hc
  injection hc with _ hc _
  subst hc
  rcases h1 with h1 | h1
  · exact he h1
  · exact he2 h1)).trans hb
theorem KeepsV.set {w : World} {x T : Nat} {cs : Array Value} (hr : w.heap[x]? = some (.cells cs T)) (h1 : T ≠ 5) (h2 : T ≠ 61) (i : Nat) (u : Value) : KeepsV w (w.setCell ⟨x, i, none⟩ u) := fun b c2 T2 m h hb => (heap_setCell_ne _ _ _ (fun he => by
  subst he
  rw [hr] at hb
  injection hb with hb
  injection hb with _ hb _
  subst hb
  rcases h with h | h
  · exact h1 h
  · exact h2 h)).trans hb
theorem BytesAt.keeps {w w' : World} {r : Nat} {v : Value} {l : List Int} (h : BytesAt w r v l) (hk : KeepsV w w') : BytesAt w' r v l := by
  obtain ⟨g, o, c, h1, h2, hne, ⟨cs, m, hg⟩, hc⟩ := h
  have hg2 := hk g cs _ m (.inl rfl) hg
  refine ⟨g, o, c, h1, h2, hne, ⟨cs, m, hg2⟩, fun j hj => ?_⟩
  rw [← hc j hj]
  simp only [World.cell?, hg, hg2]
theorem BytesAt.below {w w' : World} {r : Nat} {v : Value} {l : List Int} (h : BytesAt w r v l) (hb : Below w.heap.size w w') : BytesAt w' r v l := h.keeps (KeepsV.below hb)
theorem BytesAt.set {w : World} {r : Nat} {v : Value} {l : List Int} (h : BytesAt w r v l) (i : Nat) (u : Value) : BytesAt (w.setCell ⟨r, i, none⟩ u) r v l := by
  obtain ⟨g, o, c, h1, h2, hne, ⟨cs, m, hg⟩, hc⟩ := h
  refine ⟨g, o, c, h1, h2, hne, ⟨cs, m, (heap_setCell_ne i g u hne).trans hg⟩, fun j hj => ?_⟩
  rw [← hc j hj]
  simp only [World.cell?, heap_setCell_ne i g u hne]
/-- A loader's memory: what is still to be read. -/
def LdW (w : World) (B r : Nat) (l : List Int) (bad : Bool) : Prop := ∃ bv, w.heap[r]? = some (.cells #[bv, .bool bad] 61) ∧ B ≤ r ∧ BytesAt w r bv l
theorem LdW.keeps {w w' : World} {B r : Nat} {l : List Int} {bad : Bool} (h : LdW w B r l bad) (hk : KeepsV w w') : LdW w' B r l bad := by
  obtain ⟨bv, h1, h2, h3⟩ := h
  exact ⟨bv, hk r _ _ _ (.inr rfl) h1, h2, h3.keeps hk⟩
theorem LdW.below {w w' : World} {B r : Nat} {l : List Int} {bad : Bool} (h : LdW w B r l bad) (hb : Below w.heap.size w w') : LdW w' B r l bad := by
  obtain ⟨bv, h1, h2, h3⟩ := h
  exact ⟨bv, keep hb h1, h2, h3.below hb⟩
def allB (l : List Int) : Prop := ∀ b ∈ l, 0 ≤ b ∧ b < 256
def numV (b0 b1 b2 b3 : Int) : Int := b0 * 16777216 + b1 * 65536 + b2 * 256 + b3
def numM : List Int → Bool → Int × List Int × Bool
  | b0 :: b1 :: b2 :: b3 :: r, bad => if 2147483647 < numV b0 b1 b2 b3 then (0, r, true) else (numV b0 b1 b2 b3, r, bad)
  | l, _ => (0, l, true)
theorem wraps_i64 (n : Int) (h₀ : 0 ≤ n) (h₁ : n < 2 ^ 40) : IntKind.i64.wrap n = n := by rw [IntKind.wrap_i64]; omega
theorem i64_or (i : Nat) (hi : i ≤ 40) {x y : Int} (hx₀ : 0 ≤ x) (hx : x % 2 ^ i = 0) (hx₁ : x < 2 ^ 40) (h₀ : 0 ≤ y) (h₁ : y < 2 ^ i) (h₂ : y < 2 ^ 40) : bits .or .i64 x y = x + y :=
  bits_join .i64 40 (by decide) wraps_i64 i x y hx₀ hx hx₁ h₀ h₁ h₂
theorem wrap64_b {x : Int} (h0 : 0 ≤ x) (h1 : x < 9223372036854775808) : wrap64 x = x := by unfold wrap64; omega
theorem num_bits {b0 b1 b2 b3 : Int} (h0 : 0 ≤ b0 ∧ b0 < 256) (h1 : 0 ≤ b1 ∧ b1 < 256) (h2 : 0 ≤ b2 ∧ b2 < 256) (h3 : 0 ≤ b3 ∧ b3 < 256) :
    bits .or .i64 (bits .or .i64 (bits .or .i64 (wrap64 (wrap64 b0 * 16777216)) (wrap64 (wrap64 b1 * 65536))) (wrap64 (wrap64 b2 * 256))) (wrap64 b3) = numV b0 b1 b2 b3 := by
  rw [wrap64_b h0.1 (by omega), wrap64_b h1.1 (by omega), wrap64_b h2.1 (by omega), wrap64_b h3.1 (by omega), wrap64_b (x := b0 * 16777216) (by omega) (by omega), wrap64_b (x := b1 * 65536) (by omega) (by omega), wrap64_b (x := b2 * 256) (by omega) (by omega)]
  rw [i64_or 24 (by decide) (x := b0 * 16777216) (y := b1 * 65536) (by omega) (by omega) (by omega) (by omega) (by omega) (by omega), i64_or 16 (by decide) (x := b0 * 16777216 + b1 * 65536) (y := b2 * 256) (by omega) (by omega) (by omega) (by omega) (by omega) (by omega), i64_or 8 (by decide) (x := b0 * 16777216 + b1 * 65536 + b2 * 256) (y := b3) (by omega) (by omega) (by omega) (by omega) (by omega) (by omega)]
  rfl
theorem numM_short {l : List Int} (bad : Bool) (h : l.length < 4) : numM l bad = (0, l, true) := by
  match l, h with
  | [], _ => rfl
  | [_], _ => rfl
  | [_, _], _ => rfl
  | [_, _, _], _ => rfl
  | _ :: _ :: _ :: _ :: _, h => simp at h; omega
set_option maxHeartbeats 8000000 in
set_option maxRecDepth 20000 in
theorem lnumber_any (w : World) (B r : Nat) (l : List Int) (bad : Bool) (h : LdW w B r l bad) (hl : l.length ≤ 1048576) (hB : allB l) :
    Calls Tryd.prog 18 #[.pointer (some ⟨r, 0, none⟩)] w fun e w' => e = .returned (.int .i64 (numM l bad).1) ∧ LdW w' B r (numM l bad).2.1 (numM l bad).2.2 ∧ w.grownBy w' (some r) := by
  obtain ⟨bv, hR, hBr, g, o, c, rfl, hlc, hgr, hgl, hcell⟩ := h
  have hcR := block_cell hR
  have hfR := block_free hR
  have hltR := block_lt hR
  go_enter Tryd.func18, Tryd.ntmps18
  by_cases c4 : l.length < 4
  · have q4 : decide ((l.length : Int) < 4) = true := decide_eq_true (by omega)
    go_wp2_with (fail)
    go_ret
    rw [numM_short bad c4]
    exact ⟨rfl, ⟨_, heap_setCell_self hR 1 _, hBr, BytesAt.set ⟨g, o, c, rfl, hlc, hgr, hgl, hcell⟩ 1 _⟩, grown_set _ r 1 _⟩
  · have q4 : decide ((l.length : Int) < 4) = false := decide_eq_false (by omega)
    obtain ⟨b0, b1, b2, b3, rs, rfl⟩ : ∃ b0 b1 b2 b3 rs, l = b0 :: b1 :: b2 :: b3 :: rs := by
      match l, c4 with
      | b0 :: b1 :: b2 :: b3 :: rs, _ => exact ⟨_, _, _, _, _, rfl⟩
      | [], h => simp at h
      | [_], h => simp at h
      | [_, _], h => simp at h
      | [_, _, _], h => simp at h
    have d0 : w.cell? ⟨g, o, none⟩ = some (.int .u8 b0) := hcell 0 (by simp)
    have d1 : w.cell? ⟨g, o + 1, none⟩ = some (.int .u8 b1) := hcell 1 (by simp)
    have d2 : w.cell? ⟨g, o + 2, none⟩ = some (.int .u8 b2) := hcell 2 (by simp)
    have d3 : w.cell? ⟨g, o + 3, none⟩ = some (.int .u8 b3) := hcell 3 (by simp)
    have hnb := num_bits (hB b0 (by simp)) (hB b1 (by simp)) (hB b2 (by simp)) (hB b3 (by simp))
    have hMp : 2147483647 < numV b0 b1 b2 b3 → numM (b0 :: b1 :: b2 :: b3 :: rs) bad = (0, rs, true) := fun h => if_pos h
    have hMn : ¬ 2147483647 < numV b0 b1 b2 b3 → numM (b0 :: b1 :: b2 :: b3 :: rs) bad = (numV b0 b1 b2 b3, rs, bad) := fun h => if_neg h
    generalize numV b0 b1 b2 b3 = N at *
    generalize hn : (b0 :: b1 :: b2 :: b3 :: rs).length = n at *
    have hn4 : n - 4 = rs.length := by rw [← hn]; simp
    have hlast : ∀ (W : World) (o2 : Nat) (bd : Bool), W.heap[r]? = some (.cells #[.slice (some ⟨g, o2, none⟩) rs.length (c - 4), .bool bd] 61) → (0 < rs.length → o2 = o + 4) → W.heap[g]? = w.heap[g]? → LdW W B r rs bd := by
      intro W o2 bd hW hA hc
      obtain ⟨csg, mg, hgl2⟩ := hgl
      refine ⟨_, hW, hBr, g, o2, c - 4, rfl, by omega, hgr, ⟨csg, mg, hc.trans hgl2⟩, fun j hj => ?_⟩
      have hc3 : W.cell? ⟨g, o2 + j, none⟩ = w.cell? ⟨g, o2 + j, none⟩ := by simp only [World.cell?, hc]
      rw [hc3, hA (by omega), Nat.add_assoc, hcell (4 + j) (by omega)]
      rw [show 4 + j = j + 4 by omega]
      rfl
    clear hcell
    go_wp2_with (fail)
    go_quiet (fail)
    have hRq : (w.drewN nq).heap[r]? = _ := hR
    by_cases hc4 : c = 4
    · by_cases hbig : 2147483647 < N
      · have q5 : decide (2147483647 < N) = true := decide_eq_true hbig
        go_wp2_with (fail)
        go_ret
        try rw [hMp hbig]
        refine ⟨rfl, hlast _ o true ?_ ?_ ?_, ?_⟩
        · have hz : c - 4 = 0 := by omega
          rw [hz]
          exact heap_setCell_self (heap_setCell_self hRq 0 (.slice (some ⟨g, o, none⟩) rs.length 0)) 1 (.bool true)
        · intro hp; omega
        · simp only [heap_setCell_ne _ g _ hgr]; rfl
        · exact grown_trans (grown_trans (grown_below (below_drewN (Below.refl _ w) nq)) (grown_set _ r 0 _)) (grown_set _ r 1 _)
      · have q5 : decide (2147483647 < N) = false := decide_eq_false hbig
        go_wp2_with (fail)
        go_ret
        try rw [hMn (by omega)]
        refine ⟨rfl, hlast _ o bad ?_ ?_ ?_, ?_⟩
        · have hz : c - 4 = 0 := by omega
          rw [hz]
          exact heap_setCell_self hRq 0 (.slice (some ⟨g, o, none⟩) rs.length 0)
        · intro hp; omega
        · simp only [heap_setCell_ne _ g _ hgr]; rfl
        · exact grown_trans (grown_below (below_drewN (Below.refl _ w) nq)) (grown_set _ r 0 _)
    · by_cases hbig : 2147483647 < N
      · have q5 : decide (2147483647 < N) = true := decide_eq_true hbig
        go_wp2_with (fail)
        go_ret
        try rw [hMp hbig]
        refine ⟨rfl, hlast _ (o + 4) true ?_ ?_ ?_, ?_⟩
        · exact heap_setCell_self (heap_setCell_self hRq 0 (.slice (some ⟨g, o + 4, none⟩) rs.length (c - 4))) 1 (.bool true)
        · intro _; rfl
        · simp only [heap_setCell_ne _ g _ hgr]; rfl
        · exact grown_trans (grown_trans (grown_below (below_drewN (Below.refl _ w) nq)) (grown_set _ r 0 _)) (grown_set _ r 1 _)
      · have q5 : decide (2147483647 < N) = false := decide_eq_false hbig
        go_wp2_with (fail)
        go_ret
        try rw [hMn (by omega)]
        refine ⟨rfl, hlast _ (o + 4) bad ?_ ?_ ?_, ?_⟩
        · exact heap_setCell_self hRq 0 (.slice (some ⟨g, o + 4, none⟩) rs.length (c - 4))
        · intro _; rfl
        · simp only [heap_setCell_ne _ g _ hgr]; rfl
        · exact grown_trans (grown_below (below_drewN (Below.refl _ w) nq)) (grown_set _ r 0 _)
theorem made_u8 (n : Nat) : madeCells (Value.int .u8 0).cells n = Array.replicate n (.int .u8 0) := by
  unfold madeCells
  apply Array.ext
  · simp
  · intro i h1 h2
    simp [Value.cells, Nat.mod_one]
def takM (n : Nat) (l : List Int) (bad : Bool) : List Int × List Int × Bool := if l.length < n then (List.replicate n 0, l, true) else (l.take n, l.drop n, bad)
theorem takM_len (n : Nat) (l : List Int) (bad : Bool) : (takM n l bad).1.length = n := by
  unfold takM
  by_cases h : l.length < n
  · rw [if_pos h]; exact List.length_replicate
  · rw [if_neg h]; show (l.take n).length = n; rw [List.length_take]; omega
set_option maxHeartbeats 8000000 in
set_option maxRecDepth 20000 in
theorem ltake_any (w : World) (B r : Nat) (l : List Int) (bad : Bool) (n : Nat) (hn : n ≤ 255) (h : LdW w B r l bad) (hl : l.length ≤ 1048576) :
    Calls Tryd.prog 20 #[.pointer (some ⟨r, 0, none⟩), .int .i64 n] w fun e w' => ∃ v, e = .returned v ∧ BytesAt w' r v (takM n l bad).1 ∧ LdW w' B r (takM n l bad).2.1 (takM n l bad).2.2 ∧ w.grownBy w' (some r) := by
  obtain ⟨bv, hR, hBr, g, o, c, rfl, hlc, hgr, hgl, hcell⟩ := h
  have hcR := block_cell hR
  have hfR := block_free hR
  have hltR := block_lt hR
  by_cases c4 : l.length < n
  · have q4 : decide ((l.length : Int) < (n : Int)) = true := decide_eq_true (by omega)
    obtain ⟨i0, hi, hz0, hz1, hz2⟩ := info_parts info_u8
    have hT : takM n l bad = (List.replicate n 0, l, true) := if_pos c4
    have hmk : ∀ w : World, (Instr.makeSlice 51 (.int .i64 n) (.int .i64 n)).run Tryd.prog w = .ok (.slice (some ⟨w.heap.size, 0, none⟩) n n) (w.alloc (.cells (Array.replicate n (.int .u8 0)) 5)) := fun w => (run_make w _ 5 i0 (.int .u8 0) Tryd.underlying51 hi hz0 .i64 .i64 n n (by omega) (by omega) (by rw [hz2]; omega) (by omega)).trans (by rw [hz1, Nat.mul_one, made_u8]; rfl)
    go_enter Tryd.func20, Tryd.ntmps20
    go_wp2_with (fail)
    have hR1 : (w.setCell ⟨r, 1, none⟩ (.bool true)).heap[r]? = some (.cells #[.slice (some ⟨g, o, none⟩) l.length c, .bool true] 61) := heap_setCell_self hR 1 _
    have hL1 : LdW (w.setCell ⟨r, 1, none⟩ (.bool true)) B r l true := ⟨_, hR1, hBr, BytesAt.set ⟨g, o, c, rfl, hlc, hgr, hgl, hcell⟩ 1 _⟩
    have hb1 : w.grownBy (w.setCell ⟨r, 1, none⟩ (.bool true)) (some r) := grown_set _ r 1 _
    have hsz : (w.setCell ⟨r, 1, none⟩ (.bool true)).heap.size = w.heap.size := by simp [World.setCell]
    generalize (w.setCell ⟨r, 1, none⟩ (.bool true)) = W1 at *
    go_ret
    try rw [hT]
    refine ⟨_, rfl, ⟨W1.heap.size, 0, n, ?_, ?_, by omega, ⟨_, _, alloc_new W1 _⟩, fun j hj => ?_⟩, hL1.below ((Below.refl W1.heap.size W1).alloc (Nat.le_refl _) _), grown_trans hb1 (grown_alloc W1 _ _)⟩
    · rw [List.length_replicate, hsz]; rfl
    · rw [List.length_replicate]; omega
    · rw [List.length_replicate] at hj
      rw [Nat.zero_add]
      refine (block_cell (alloc_new W1 _) j).trans ?_
      simp [hj, List.getD]
  · have q4 : decide ((l.length : Int) < (n : Int)) = false := decide_eq_false (by omega)
    have hT : takM n l bad = (l.take n, l.drop n, bad) := if_neg c4
    go_enter Tryd.func20, Tryd.ntmps20
    have hdl : (l.drop n).length = l.length - n := List.length_drop
    have htl : (l.take n).length = n := by rw [List.length_take]; omega
    have hfin : ∀ o2, (0 < l.length - n → o2 = o + n) → ∀ c2, l.length - n ≤ c2 → BytesAt (w.setCell ⟨r, 0, none⟩ (.slice (some ⟨g, o2, none⟩) (l.length - n) c2)) r (.slice (some ⟨g, o, none⟩) n c) (l.take n) ∧ LdW (w.setCell ⟨r, 0, none⟩ (.slice (some ⟨g, o2, none⟩) (l.length - n) c2)) B r (l.drop n) bad := by
      intro o2 ho2 c2 hc2
      have hd : BytesAt w r (.slice (some ⟨g, o2, none⟩) (l.length - n) c2) (l.drop n) := by
        refine ⟨g, o2, c2, by rw [hdl], by rw [hdl]; exact hc2, hgr, hgl, fun j hj => ?_⟩
        rw [hdl] at hj
        rw [ho2 (by omega), Nat.add_assoc, hcell (n + j) (by omega)]
        simp [List.getD, List.getElem?_drop]
      have ht : BytesAt w r (.slice (some ⟨g, o, none⟩) n c) (l.take n) := by
        refine ⟨g, o, c, by rw [htl], by omega, hgr, hgl, fun j hj => ?_⟩
        rw [htl] at hj
        rw [hcell j (by omega)]
        simp [List.getD, List.getElem?_take, hj]
      exact ⟨ht.set 0 _, _, heap_setCell_self hR 0 _, hBr, hd.set 0 _⟩
    by_cases hcn : c = n
    · have hF := hfin o (fun h => by omega) 0 (by omega)
      rw [hcn] at hF
      clear hfin hdl htl
      go_wp2_with (fail)
      go_ret
      try rw [hT]
      exact ⟨_, rfl, hF.1, hF.2, grown_set _ r 0 _⟩
    · have hF := hfin (o + n) (fun h => rfl) (c - n) (by omega)
      clear hfin hdl htl
      go_wp2_with (fail)
      go_ret
      try rw [hT]
      exact ⟨_, rfl, hF.1, hF.2, grown_set _ r 0 _⟩
theorem takM_u8 {n : Nat} {l : List Int} {bad : Bool} (h : allB l) : allB (takM n l bad).1 ∧ allB (takM n l bad).2.1 := by
  unfold takM
  by_cases c : l.length < n
  · rw [if_pos c]
    refine ⟨fun b hb => ?_, h⟩
    have hb : b ∈ List.replicate n (0 : Int) := hb
    rw [(List.mem_replicate.1 hb).2]
    omega
  · rw [if_neg c]
    exact ⟨fun b hb => h b (List.mem_of_mem_take hb), fun b hb => h b (List.mem_of_mem_drop hb)⟩
theorem numM_u8 {l : List Int} {bad : Bool} (h : allB l) : allB (numM l bad).2.1 ∧ (numM l bad).2.1.length ≤ l.length := by
  by_cases c4 : l.length < 4
  · rw [numM_short bad c4]; exact ⟨h, Nat.le_refl _⟩
  · match l, c4 with
    | b0 :: b1 :: b2 :: b3 :: rs, _ =>
      have hsub : ∀ b ∈ rs, b ∈ (b0 :: b1 :: b2 :: b3 :: rs) := fun b hb => List.mem_cons_of_mem _ (List.mem_cons_of_mem _ (List.mem_cons_of_mem _ (List.mem_cons_of_mem _ hb)))
      have hle : rs.length ≤ (b0 :: b1 :: b2 :: b3 :: rs).length := by simp only [List.length_cons]; omega
      by_cases q : 2147483647 < numV b0 b1 b2 b3
      · have e : numM (b0 :: b1 :: b2 :: b3 :: rs) bad = (0, rs, true) := if_pos q
        rw [e]; exact ⟨fun b hb => h b (hsub b hb), hle⟩
      · have e : numM (b0 :: b1 :: b2 :: b3 :: rs) bad = (numV b0 b1 b2 b3, rs, bad) := if_neg q
        rw [e]; exact ⟨fun b hb => h b (hsub b hb), hle⟩
    | [], h => simp at h
    | [_], h => simp at h
    | [_, _], h => simp at h
    | [_, _, _], h => simp at h
theorem takM_le (n : Nat) (l : List Int) (bad : Bool) : (takM n l bad).2.1.length ≤ l.length := by
  unfold takM
  split
  · exact Nat.le_refl _
  · show (l.drop n).length ≤ _; rw [List.length_drop]; omega
/-- One byte, as a number. -/
def smaM (l : List Int) (bad : Bool) : Int × List Int × Bool := match l with
  | [] => (0, [], true)
  | b :: r => (b, r, bad)
set_option maxHeartbeats 8000000 in
set_option maxRecDepth 20000 in
theorem lsmall_any (w : World) (B r : Nat) (l : List Int) (bad : Bool) (h : LdW w B r l bad) (hl : l.length ≤ 1048576) (hB : allB l) :
    Calls Tryd.prog 19 #[.pointer (some ⟨r, 0, none⟩)] w fun e w' => e = .returned (.int .i64 (smaM l bad).1) ∧ LdW w' B r (smaM l bad).2.1 (smaM l bad).2.2 ∧ w.grownBy w' (some r) := by
  have hT : takM 1 l bad = ([(smaM l bad).1], (smaM l bad).2.1, (smaM l bad).2.2) := by
    unfold takM smaM
    match l with
    | [] => rfl
    | b :: r => rw [if_neg (by simp)]; rfl
  have hk := ltake_any w B r l bad 1 (by decide) h hl
  have hb8 := (takM_u8 (n := 1) (bad := bad) hB).1
  rw [hT] at hk hb8
  rw [show ((1 : Nat) : Int) = 1 from rfl] at hk
  have hb9 := hb8 _ (List.mem_singleton.2 rfl)
  clear hb8 hT
  generalize smaM l bad = q at *
  obtain ⟨x, l2, bad2⟩ := q
  have hwx : wrap64 x = x := wrap64_b hb9.1 (by have := hb9.2; simp only at this; omega)
  go_enter Tryd.func19, Tryd.ntmps19
  go_wp2_with (fail)
  with_reducible refine hk.mono ?_
  rintro e w2 ⟨v, rfl, ⟨g, o, c, rfl, hlc, hgr, hgl, hcell⟩, hL, hb⟩
  have hc0 := hcell 0 (by simp)
  simp only [List.getD_cons_zero, Nat.add_zero] at hc0
  go_wp2_with (fail)
  go_ret
  exact ⟨rfl, hL, hb⟩
theorem numM_range {l : List Int} {bad : Bool} (h : allB l) : 0 ≤ (numM l bad).1 ∧ (numM l bad).1 ≤ 2147483647 := by
  by_cases c4 : l.length < 4
  · rw [numM_short bad c4]; exact ⟨Int.le_refl 0, (show (0 : Int) ≤ 2147483647 by omega)⟩
  · match l, c4 with
    | b0 :: b1 :: b2 :: b3 :: rs, _ =>
      by_cases q : 2147483647 < numV b0 b1 b2 b3
      · have e : numM (b0 :: b1 :: b2 :: b3 :: rs) bad = (0, rs, true) := if_pos q
        rw [e]; exact ⟨Int.le_refl 0, (show (0 : Int) ≤ 2147483647 by omega)⟩
      · have e : numM (b0 :: b1 :: b2 :: b3 :: rs) bad = (numV b0 b1 b2 b3, rs, bad) := if_neg q
        rw [e]
        have h0 := h b0 (by simp)
        have h1 := h b1 (by simp)
        have h2 := h b2 (by simp)
        have h3 := h b3 (by simp)
        refine ⟨?_, (show numV b0 b1 b2 b3 ≤ 2147483647 by omega)⟩
        show 0 ≤ numV b0 b1 b2 b3
        unfold numV
        omega
    | [], h => simp at h
    | [_], h => simp at h
    | [_, _], h => simp at h
    | [_, _, _], h => simp at h
theorem numM_bad {l : List Int} : (numM l true).2.2 = true := by
  by_cases c4 : l.length < 4
  · rw [numM_short true c4]
  · match l, c4 with
    | b0 :: b1 :: b2 :: b3 :: rs, _ =>
      by_cases q : 2147483647 < numV b0 b1 b2 b3
      · have e : numM (b0 :: b1 :: b2 :: b3 :: rs) true = (0, rs, true) := if_pos q
        rw [e]
      · have e : numM (b0 :: b1 :: b2 :: b3 :: rs) true = (numV b0 b1 b2 b3, rs, true) := if_neg q
        rw [e]
    | [], h => simp at h
    | [_], h => simp at h
    | [_, _], h => simp at h
    | [_, _, _], h => simp at h
theorem smaM_u8 {l : List Int} {bad : Bool} (h : allB l) : allB (smaM l bad).2.1 ∧ (smaM l bad).2.1.length ≤ l.length := by
  unfold smaM
  match l with
  | [] => exact ⟨h, Nat.le_refl _⟩
  | b :: r => exact ⟨fun x hx => h x (List.mem_cons_of_mem _ hx), Nat.le_succ _⟩
theorem smaM_byte {l : List Int} {bad : Bool} (h : allB l) : 0 ≤ (smaM l bad).1 ∧ (smaM l bad).1 < 256 := by
  unfold smaM
  match l with
  | [] => exact ⟨Int.le_refl 0, (show (0 : Int) < 256 by omega)⟩
  | b :: r => exact h b (List.mem_cons_self)
theorem smaM_down {l : List Int} (h : allB l) : (smaM l false).2.1.length + 1 ≤ l.length + (if (smaM l false).2.2 = true then 1 else 0) := by
  unfold smaM
  match l with
  | [] => exact Nat.le_refl _
  | b :: r => exact Nat.le_refl _
theorem own_ne {w : World} {base b T : Nat} {cs : Array Value} {e : TypeId} {size n : Nat} {v : Value} {xs : List Value} (h : w.ownsRow base e size v n xs) (hr : w.heap[b]? = some (.cells cs T)) (hT : T ≠ e) : some b ≠ v.ownBlock := fun he => by
  obtain ⟨c2, h2⟩ := own_typed' h b he.symm
  rw [hr] at h2
  injection h2 with h2
  injection h2 with _ h2
  exact hT h2
theorem own_grown1 {w w' : World} {base r : Nat} {e : TypeId} {size n : Nat} {v : Value} {xs : List Value} (h : w.ownsRow base e size v n xs) (hg : w.grownBy w' (some r)) (hr : v.ownBlock ≠ some r) : w'.ownsRow base e size v n xs :=
  own_move' h fun k hk => hg.block k (h.lt k hk).2 (fun e => hr (hk.trans e))
theorem cell_grown {w w' : World} {r b : Nat} (hg : w.grownBy w' (some r)) (hb : b < w.heap.size) (hr : some b ≠ some r) (o : Nat) : w'.cell? ⟨b, o, none⟩ = w.cell? ⟨b, o, none⟩ := by
  simp only [World.cell?, hg.block b hb hr]
theorem smaM_bad {l : List Int} : (smaM l true).2.2 = true := by
  unfold smaM
  match l with
  | [] => rfl
  | _ :: _ => rfl
theorem takM_bad {n : Nat} {l : List Int} : (takM n l true).2.2 = true := by
  unfold takM
  split
  · rfl
  · rfl
end Go.Proofs.YthjlpcecfkboiabDoor
