/-
  capture.Depth: how many captures stand within one another at most.
-/
import Derived.Test.YtebebognifiinaaKids
import Derived.Deep.RegionWith
import Derived.Laws.MakeOwn
namespace Go.Proofs.Ytebebognifiinaa
open Go.RowKit
set_option linter.unusedVariables false
set_option linter.unusedSimpArgs false
theorem popz_mem {s : List Fr} {f : Fr} (h : f ∈ popz s) : f ∈ s := by
  obtain ⟨u, h1, _⟩ := popz_suffix s
  rw [h1]; exact List.mem_append_right _ h
theorem at_lt {l : List Cap} : ∀ {k : Nat} {st : WSt}, foldW l k = some st → k ≤ l.length → (∀ f ∈ st.stk, -1 ≤ f.at_ ∧ f.at_ < k) ∧ st.par.length = k ∧ ∀ (j : Nat) (i : Int), st.par[j]? = some i → -1 ≤ i ∧ i < j
  | 0, st, h, _ => by
    cases h
    refine ⟨fun f hf => ?_, rfl, fun j i h => by cases h⟩
    simp [ws0] at hf; subst hf; decide
  | k + 1, st, h, hk => by
    simp only [foldW] at h
    cases hf : foldW l k with
    | none => rw [hf] at h; cases h
    | some t =>
      rw [hf] at h
      simp only [Option.bind_some] at h
      rw [List.getElem?_eq_getElem (by omega)] at h
      obtain ⟨h1, h2, h3⟩ := at_lt hf (by omega)
      simp only [stepW] at h
      cases hp : popz t.stk with
      | nil => rw [hp] at h; cases h
      | cons f r =>
        rw [hp] at h
        simp only at h
        split at h
        · cases h
        · cases h
          have hfm := h1 f (popz_mem (by rw [hp]; simp))
          refine ⟨fun g hg => ?_, by simp [h2], fun j i hj => ?_⟩
          · simp only [List.mem_cons] at hg
            rcases hg with rfl | rfl | hg
            · constructor
              · show (-1 : Int) ≤ (k : Int); omega
              · show (k : Int) < ((k + 1 : Nat) : Int); omega
            · constructor
              · exact hfm.1
              · have := hfm.2; show f.at_ < ((k + 1 : Nat) : Int); omega
            · have := h1 g (popz_mem (by rw [hp]; simp [hg])); omega
          · by_cases hjk : j < k
            · rw [List.getElem?_append_left (by omega)] at hj; exact h3 j i hj
            · rw [List.getElem?_append_right (by omega), h2] at hj
              have hj0 : j = k := by
                rcases Nat.lt_or_ge (j - k) 1 with h | h
                · omega
                · rw [List.getElem?_eq_none (by simpa using h)] at hj; cases hj
              subst hj0
              simp at hj
              subst hj
              exact hfm
/-- How deep each of the first k stands. -/
def deepTo (l : List Cap) : Nat → List Int
  | 0 => []
  | k + 1 => deepTo l k ++ [match foldW l (k + 1) with | some st => (match st.par[k]? with | some i => if 0 ≤ i then (deepTo l k).getD i.toNat 0 + 1 else 1 | none => 1) | none => 1]
theorem deepTo_len (l : List Cap) : ∀ k, (deepTo l k).length = k
  | 0 => rfl
  | k + 1 => by simp [deepTo, deepTo_len l k]
theorem deepTo_bd (l : List Cap) : ∀ k, ∀ d ∈ deepTo l k, 1 ≤ d ∧ d ≤ k
  | 0 => fun d h => by cases h
  | k + 1 => by
    have ih := deepTo_bd l k
    have hg : ∀ i : Nat, 0 ≤ (deepTo l k).getD i 0 ∧ (deepTo l k).getD i 0 ≤ k := by
      intro i
      rw [List.getD_eq_getElem?_getD]
      cases h : (deepTo l k)[i]? with
      | none => simp
      | some d => have := ih d (List.mem_of_getElem? h); simp; omega
    intro d hd
    simp only [deepTo, List.mem_append, List.mem_singleton] at hd
    rcases hd with hd | hd
    · have := ih d hd; omega
    · subst hd
      cases foldW l (k + 1) with
      | none => simp only; omega
      | some st =>
        simp only
        cases st.par[k]? with
        | none => simp only; omega
        | some i =>
          simp only
          by_cases hi : 0 ≤ i
          · rw [if_pos hi]; have := hg i.toNat; omega
          · rw [if_neg hi]; omega
def mostTo (l : List Cap) : Nat → Int
  | 0 => 0
  | k + 1 => max (mostTo l k) ((deepTo l (k + 1)).getD k 0)
theorem deepTo_last (l : List Cap) (k : Nat) : 1 ≤ (deepTo l (k + 1)).getD k 0 ∧ (deepTo l (k + 1)).getD k 0 ≤ k + 1 := by
  have hlt : k < (deepTo l (k + 1)).length := by rw [deepTo_len]; omega
  rw [List.getD_eq_getElem?_getD, List.getElem?_eq_getElem hlt]
  have := deepTo_bd l (k + 1) _ (List.getElem_mem hlt)
  simp only [Option.getD_some]
  omega
theorem mostTo_bd (l : List Cap) : ∀ k, 0 ≤ mostTo l k ∧ mostTo l k ≤ k ∧ (0 < k → 1 ≤ mostTo l k)
  | 0 => by simp [mostTo]
  | k + 1 => by
    obtain ⟨h1, h2, h3⟩ := mostTo_bd l k
    have := deepTo_last l k
    simp only [mostTo]
    omega
def depthV (l : List Cap) (k : Nat) : List Value := (deepTo l k ++ List.replicate (l.length - k) 0).map fun x => Value.int .i64 x
theorem set_zeros {A : List Int} {n k : Nat} (hA : A.length = k) (hk : k < n) (x y : Int) (B : List Int) (hB : B = A ++ y :: List.replicate (n - k - 1) 0) : (B.map fun x => Value.int .i64 x).set k (.int .i64 x) = (A ++ x :: List.replicate (n - k - 1) 0).map fun x => Value.int .i64 x := by
  subst hB hA
  simp [List.set_append]
theorem zeros_succ {n k : Nat} (hk : k < n) : List.replicate (n - k) (0 : Int) = 0 :: List.replicate (n - k - 1) 0 := by
  rw [← List.replicate_succ]; congr 1; omega
/-- What the closure of Depth holds behind k calls. -/
def DepthI (l : List Cap) (pd gd pm B : Nat) (k : Nat) (S : Nat → Prop) (w' : World) : Prop :=
  (∀ b, ¬ S b) ∧ w'.heap[pd]? = some (.cells #[.slice (some ⟨gd, 0, none⟩) l.length l.length] 35) ∧ w'.heap[pm]? = some (.cells #[.int .i64 (mostTo l k)] 3) ∧ w'.ownsRow 0 3 1 (.slice (some ⟨gd, 0, none⟩) l.length l.length) l.length (depthV l k) ∧ B ≤ w'.heap.size
set_option maxRecDepth 100000 in
set_option maxHeartbeats 4000000 in
theorem each_depth (l : List Cap) (pd gd pm B0 B : Nat) (hl : l.length ≤ 1048576) (h1 : B0 ≤ gd) (h2 : gd < B) (h3 : pd < B) (h4 : B0 ≤ pm) (h5 : pm < B) (h6 : pd ≠ gd) (h7 : pd ≠ pm) (h8 : gd ≠ pm) :
    Each 37 #[.pointer (some ⟨pd, 0, none⟩), .pointer (some ⟨pm, 0, none⟩)] B0 B l (DepthI l pd gd pm B) := by
  refine ⟨fun h b hb => (h.1 b hb).elim, ?_, ?_⟩
  · rintro k S w w' ⟨hS, hd, hm, ho, hz⟩ hs hb
    refine ⟨hS, (hb pd (.inl h3)).trans hd, (hb pm (.inl h5)).trans hm, owns_move ho (fun b e => ?_), by omega⟩
    have e' : gd = b := by simpa [Value.ownBlock] using e
    exact hb b (.inl (by omega))
  · rintro k S w st i hk hf hp ⟨hS, hd, hm, ho, hz⟩ hB
    show Calls Try.prog 37 #[.int .i64 k, .int .i64 i, .pointer (some ⟨pd, 0, none⟩), .pointer (some ⟨pm, 0, none⟩)] w _
    obtain ⟨-, -, hpar⟩ := at_lt hf (by omega)
    obtain ⟨hi0, hi1⟩ := hpar k i hp
    have cd := block_cell hd 0
    have cm := block_cell hm 0
    have fm := block_free hm 0
    have i1 : (0 : Int) ≤ (k : Int) := by omega
    have i2 : (k : Int) < (l.length : Int) := by omega
    have hf0 := ho.frozenAt k
    have hdl := deepTo_len l k
    have hbd := deepTo_bd l k
    have hmb := mostTo_bd l k
    obtain ⟨x, hx, hxb, hx2⟩ : ∃ x : Int, deepTo l (k + 1) = deepTo l k ++ [x] ∧ (1 ≤ x ∧ x ≤ (k : Int) + 1) ∧ x = if 0 ≤ i then (deepTo l k).getD i.toNat 0 + 1 else 1 := by
      refine ⟨_, by simp only [deepTo, hf, hp], ?_, rfl⟩
      have := deepTo_last l k
      have e : (deepTo l (k + 1)).getD k 0 = if 0 ≤ i then (deepTo l k).getD i.toNat 0 + 1 else 1 := by
        simp only [deepTo, hf, hp]
        rw [List.getD_eq_getElem?_getD, List.getElem?_append_right (by omega), hdl, Nat.sub_self]; rfl
      rw [e] at this; exact this
    have hmost : mostTo l (k + 1) = max (mostTo l k) x := by
      simp only [mostTo]; rw [hx, List.getD_eq_getElem?_getD, List.getElem?_append_right (by omega), hdl, Nat.sub_self]; rfl
    have hV0 : depthV l k = (deepTo l k ++ (0 : Int) :: List.replicate (l.length - k - 1) 0).map fun x => Value.int .i64 x := by unfold depthV; rw [zeros_succ hk]
    have hV1 : depthV l (k + 1) = (deepTo l k ++ x :: List.replicate (l.length - k - 1) 0).map fun x => Value.int .i64 x := by
      unfold depthV; rw [hx, List.append_assoc]; congr 2
    rw [hV0] at ho
    have ck : w.cell? ⟨gd, k, none⟩ = some (.int .i64 0) := by
      rw [ho.cellAt k (by omega), List.getElem?_map, List.getElem?_append_right (by omega), hdl, Nat.sub_self]; rfl
    obtain ⟨ho1, hg1⟩ := ho.stored k (.int .i64 1)
    rw [set_zeros hdl hk 1 0 _ rfl] at ho1
    have hd1 := (heap_setCell_ne (w := w) k pd (.int .i64 1) (b := gd) h6).trans hd
    have hm1 := (heap_setCell_ne (w := w) k pm (.int .i64 1) (b := gd) (Ne.symm h8)).trans hm
    have cd1 := block_cell hd1 0
    have cm1 := block_cell hm1 0
    have fm1 := block_free hm1 0
    have ck1 : (w.setCell ⟨gd, k, none⟩ (.int .i64 1)).cell? ⟨gd, k, none⟩ = some (.int .i64 1) := by
      rw [ho1.cellAt k (by omega), List.getElem?_map, List.getElem?_append_right (by omega), hdl, Nat.sub_self]; rfl
    have ff1 := ho1.frozenAt k
    have hB1 : Below B0 w (w.setCell ⟨gd, k, none⟩ (.int .i64 1)) := (Below.refl B0 w).setCell (p := ⟨gd, k, none⟩) h1 _
    have hs1 : ∀ b, ¬ b = gd → (w.setCell ⟨gd, k, none⟩ (.int .i64 1)).heap[b]? = w.heap[b]? := fun b h => heap_setCell_ne _ _ _ h
    have hz1 : (w.setCell ⟨gd, k, none⟩ (.int .i64 1)).heap.size = w.heap.size := by simp
    go_enter Try.func37, Try.ntmps37
    by_cases hi : 0 ≤ i
    · rw [if_pos hi] at hx2
      have hlt : i.toNat < (deepTo l k).length := by omega
      have ci1 : (w.setCell ⟨gd, k, none⟩ (.int .i64 1)).cell? ⟨gd, i.toNat, none⟩ = some (.int .i64 ((deepTo l k).getD i.toNat 0)) := by
        rw [ho1.cellAt i.toNat (by omega), List.getElem?_map, List.getElem?_append_left hlt, List.getElem?_eq_getElem hlt, List.getD_eq_getElem?_getD, List.getElem?_eq_getElem hlt]; rfl
      have hil : i < (l.length : Int) := by omega
      obtain ⟨y, hy⟩ : ∃ y, (deepTo l k).getD i.toNat 0 = y := ⟨_, rfl⟩
      rw [hy] at ci1 hx2
      subst hx2
      have hwx : IntKind.i64.wrap (y + 1) = y + 1 := by rw [IntKind.wrap_i64]; omega
      clear hy hx hlt hV0
      go_wp2_with (fail)
      have ho2 := (ho1.stored k (.int .i64 (y + 1))).1
      rw [set_zeros hdl hk (y + 1) 1 _ rfl] at ho2
      have hoW : (((w.setCell ⟨gd, k, none⟩ (.int .i64 1)).setCell ⟨gd, k, none⟩ (.int .i64 (y + 1))).drew).ownsRow 0 3 1 (.slice (some ⟨gd, 0, none⟩) l.length l.length) l.length ((deepTo l k ++ (y + 1) :: List.replicate (l.length - k - 1) 0).map fun x => Value.int .i64 x) := ho2
      have hBW : Below B0 w (((w.setCell ⟨gd, k, none⟩ (.int .i64 1)).setCell ⟨gd, k, none⟩ (.int .i64 (y + 1))).drew) := below_drewN' (hB1.setCell (p := ⟨gd, k, none⟩) h1 _) 1
      have hsW : ∀ b, ¬ b = gd → (((w.setCell ⟨gd, k, none⟩ (.int .i64 1)).setCell ⟨gd, k, none⟩ (.int .i64 (y + 1))).drew).heap[b]? = w.heap[b]? := fun b h => (heap_setCell_ne (w := w.setCell ⟨gd, k, none⟩ (.int .i64 1)) k b (.int .i64 (y + 1)) (b := gd) h).trans (hs1 b h)
      have hzW : (((w.setCell ⟨gd, k, none⟩ (.int .i64 1)).setCell ⟨gd, k, none⟩ (.int .i64 (y + 1))).drew).heap.size = w.heap.size := by show ((w.setCell ⟨gd, k, none⟩ (.int .i64 1)).setCell ⟨gd, k, none⟩ (.int .i64 (y + 1))).heap.size = _; simp
      go_region
      generalize ((w.setCell ⟨gd, k, none⟩ (.int .i64 1)).setCell ⟨gd, k, none⟩ (.int .i64 (y + 1))).drew = W at *
      clear ho1 ho2 ck1 cd1 cm1 fm1 ff1 ci1 ck cd cm fm hf0
      have ckW : W.cell? ⟨gd, k, none⟩ = some (.int .i64 (y + 1)) := by
        rw [hoW.cellAt k (by omega), List.getElem?_map, List.getElem?_append_right (by omega), hdl, Nat.sub_self]; rfl
      have hdW := (hsW pd h6).trans hd
      have hmW := (hsW pm (Ne.symm h8)).trans hm
      have cdW := block_cell hdW 0
      have cmW := block_cell hmW 0
      have fmW := block_free hmW 0
      clear hbd
      replace hS := hid hS
      have hend : ∀ z : Int, z = max (mostTo l k) (y + 1) → DepthI l pd gd pm B (k + 1) S ((W.setCell ⟨pm, 0, none⟩ (.int .i64 z)).drew) ∧ Below B0 w ((W.setCell ⟨pm, 0, none⟩ (.int .i64 z)).drew) ∧ (∀ b, B ≤ b → b < w.heap.size → ¬ S b → ((W.setCell ⟨pm, 0, none⟩ (.int .i64 z)).drew).heap[b]? = w.heap[b]?) := by
        intro z hz'
        have hpmz := heap_setCell_self hmW 0 (.int .i64 z)
        refine ⟨⟨hS.out, (heap_setCell_ne (w := W) 0 pd (.int .i64 z) (b := pm) h7).trans hdW, by rw [hmost, ← hz']; exact hpmz, by rw [hV1]; exact (show World.ownsRow (W.setCell ⟨pm, 0, none⟩ (.int .i64 z)) _ _ _ _ _ _ from hoW.kept (grown_set W pm 0 (.int .i64 z)) (.inr (by simp [Value.ownBlock]; exact h8))), by show B ≤ (W.setCell ⟨pm, 0, none⟩ (.int .i64 z)).heap.size; simp; omega⟩, below_drewN' (hBW.setCell (p := ⟨pm, 0, none⟩) h4 _) 1, fun b hb hlt _ => ?_⟩
        exact (heap_setCell_ne (w := W) 0 b (.int .i64 z) (b := pm) (by omega)).trans (hsW b (by omega))
      clear hV1 hmost hoW
      go_wp2_with (fail)
      go_region
      all_goals go_wp2_with (fail)
      all_goals
        first
          | (have hE := hend (y + 1) (by omega); exact bodyPost_end (v := .tuple #[]) (by simp [results, Try.results37]) rfl ⟨rfl, S, hE.1, hE.2.1, hE.2.2, fun b h => .inl h⟩)
          | (have hE := hend (mostTo l k) (by omega); exact bodyPost_end (v := .tuple #[]) (by simp [results, Try.results37]) rfl ⟨rfl, S, hE.1, hE.2.1, hE.2.2, fun b h => .inl h⟩)
    · rw [if_neg hi] at hx2
      subst hx2
      clear hx hV0
      go_wp2_with (fail)
      generalize w.setCell ⟨gd, k, none⟩ (.int .i64 1) = W at *
      have hoW := ho1
      have hBW := hB1
      have hsW := hs1
      have hzW := hz1
      clear ho1 ck1 cd1 cm1 fm1 ff1 ck cd cm fm hf0
      have ckW : W.cell? ⟨gd, k, none⟩ = some (.int .i64 (1)) := by
        rw [hoW.cellAt k (by omega), List.getElem?_map, List.getElem?_append_right (by omega), hdl, Nat.sub_self]; rfl
      have hdW := (hsW pd h6).trans hd
      have hmW := (hsW pm (Ne.symm h8)).trans hm
      have cdW := block_cell hdW 0
      have cmW := block_cell hmW 0
      have fmW := block_free hmW 0
      clear hbd
      replace hS := hid hS
      have hend : ∀ z : Int, z = max (mostTo l k) (1) → DepthI l pd gd pm B (k + 1) S ((W.setCell ⟨pm, 0, none⟩ (.int .i64 z)).drew) ∧ Below B0 w ((W.setCell ⟨pm, 0, none⟩ (.int .i64 z)).drew) ∧ (∀ b, B ≤ b → b < w.heap.size → ¬ S b → ((W.setCell ⟨pm, 0, none⟩ (.int .i64 z)).drew).heap[b]? = w.heap[b]?) := by
        intro z hz'
        have hpmz := heap_setCell_self hmW 0 (.int .i64 z)
        refine ⟨⟨hS.out, (heap_setCell_ne (w := W) 0 pd (.int .i64 z) (b := pm) h7).trans hdW, by rw [hmost, ← hz']; exact hpmz, by rw [hV1]; exact (show World.ownsRow (W.setCell ⟨pm, 0, none⟩ (.int .i64 z)) _ _ _ _ _ _ from hoW.kept (grown_set W pm 0 (.int .i64 z)) (.inr (by simp [Value.ownBlock]; exact h8))), by show B ≤ (W.setCell ⟨pm, 0, none⟩ (.int .i64 z)).heap.size; simp; omega⟩, below_drewN' (hBW.setCell (p := ⟨pm, 0, none⟩) h4 _) 1, fun b hb hlt _ => ?_⟩
        exact (heap_setCell_ne (w := W) 0 b (.int .i64 z) (b := pm) (by omega)).trans (hsW b (by omega))
      clear hV1 hmost hoW
      go_wp2_with (fail)
      go_region
      all_goals go_wp2_with (fail)
      all_goals
        first
          | (have hE := hend (1) (by omega); exact bodyPost_end (v := .tuple #[]) (by simp [results, Try.results37]) rfl ⟨rfl, S, hE.1, hE.2.1, hE.2.2, fun b h => .inl h⟩)
          | (have hE := hend (mostTo l k) (by omega); exact bodyPost_end (v := .tuple #[]) (by simp [results, Try.results37]) rfl ⟨rfl, S, hE.1, hE.2.1, hE.2.2, fun b h => .inl h⟩)
def depthL (l : List Cap) : Int × Int := if (checkL l).2 = 0 then (mostTo l l.length, 0) else (0, (checkL l).2)
set_option maxRecDepth 100000 in
set_option maxHeartbeats 4000000 in
theorem depth_any (l : List Cap) (hk : ∀ c ∈ l, c.kids ≤ 9223372036854775807) (v : Value) (w : World) (hl : l.length ≤ 4611686018427387904) (hv : RowIs w v 6 l.length (l.flatMap capsC)) (hvb : 0 < l.length → ∀ g o n c, v = .slice (some ⟨g, o, none⟩) n c → g < w.heap.size) :
    Calls Try.prog 16 #[v] w fun e w' => e = .returned (.tuple #[.int .i64 (depthL l).1, .int .i64 (depthL l).2]) ∧ Below w.heap.size w w' := by
  obtain ⟨ao, cc, rfl⟩ := hv.form
  have hmf : ∀ (fn : Fn) (first cap : Array Value) (w : World), (Instr.makeFunc fn first cap).run Try.prog w = .ok (.func fn first cap) w := fun _ _ _ _ => rfl
  go_enter Try.func16, Try.ntmps16
  go_wp2_with (fail)
  refine (check_any l hk (.slice ao l.length cc) w hl hv hvb).mono ?_
  rintro e w1 ⟨rfl, hb1⟩
  by_cases hc : (checkL l).2 = 0
  rotate_left 1
  · have hcb : ((checkL l).2 != 0) = true := by simp [hc]
    have hL : depthL l = (0, (checkL l).2) := by unfold depthL; rw [if_neg hc]
    generalize checkL l = C at *
    go_wp2_with (fail)
    go_ret2
    rw [hL]
    exact ⟨rfl, hb1⟩
  obtain ⟨hlm, hsome, hC⟩ := checkL_ok hc
  rw [hC]
  have hL : depthL l = (mostTo l l.length, 0) := by unfold depthL; rw [if_pos hc]
  have hse : seenW l l.length = l.length := seenW_all hsome
  obtain ⟨i0, hi, hz0, hz1, hz2⟩ := info_parts info_ints
  go_wp2_with (at_make; refine wpList_make_full _ rfl _ _ 35 rfl w1.heap.size 3 i0 (.int .i64 0) 1 Try.underlying35 hi hz0 hz1 _ _ _ _ l.length rfl rfl rfl rfl (by rw [hz2]; omega) (by unfold maxLen; omega) (Nat.le_refl _) ?_)
  intro w2 hown2 hg2
  have hown2' : w2.ownsRow w1.heap.size 3 1 (.slice (some ⟨w1.heap.size, 0, none⟩) l.length l.length) l.length (depthV l 0) := by
    have e : (madeCells #[Value.int .i64 0] l.length).toList = depthV l 0 := by
      rw [Go.toList_madeCells_one]; simp [depthV, deepTo]
    rw [← e]; exact hown2
  clear hown2
  have hz2 := hg2.size
  have hB2 : Below w.heap.size w w2 := hb1.grown hg2 hb1.size (fun b e => by cases e)
  have hzg := hown2'.lt w1.heap.size rfl
  have hz1' := hb1.size
  have hd3 := alloc_new w2 (.cells #[.slice (some ⟨w1.heap.size, 0, none⟩) l.length l.length] 35)
  have hown3 := (hown2'.alloc (.cells #[.slice (some ⟨w1.heap.size, 0, none⟩) l.length l.length] 35)).alloc (.cells #[.int .i64 0] 3)
  have hd4 := alloc_old (y := .cells #[.int .i64 0] 3) hd3
  have hm4 := alloc_new_at (n := w2.heap.size + 1) (a := w2.alloc (.cells #[.slice (some ⟨w1.heap.size, 0, none⟩) l.length l.length] 35)) (.cells #[.int .i64 0] 3) (by simp)
  have hB4 := (hB2.alloc hB2.size (.cells #[.slice (some ⟨w1.heap.size, 0, none⟩) l.length l.length] 35)).alloc (by simp; omega) (.cells #[.int .i64 0] 3)
  have hv4 := hv.below hB4
  have hs4 : ((w2.alloc (.cells #[.slice (some ⟨w1.heap.size, 0, none⟩) l.length l.length] 35)).alloc (.cells #[.int .i64 0] 3)).heap.size = w2.heap.size + 2 := by simp
  have hE := each_depth l w2.heap.size w1.heap.size (w2.heap.size + 1) w.heap.size (w2.heap.size + 2) hlm (by omega) (by omega) (by omega) (by omega) (by omega) (by omega) (by omega) (by omega)
  have hI0 : DepthI l w2.heap.size w1.heap.size (w2.heap.size + 1) (w2.heap.size + 2) 0 (fun _ => False) ((w2.alloc (.cells #[.slice (some ⟨w1.heap.size, 0, none⟩) l.length l.length] 35)).alloc (.cells #[.int .i64 0] 3)) :=
    ⟨fun _ h => h, hd4, hm4, owns_base (Nat.zero_le _) hown3, by omega⟩
  have hW := walk_any l hk hlm (.slice ao l.length cc) 37 #[.pointer (some ⟨w2.heap.size, 0, none⟩), .pointer (some ⟨w2.heap.size + 1, 0, none⟩)] w.heap.size _ _ hE (fun _ _ => rfl) _ hs4.symm (by omega) hv4 hvb hI0
  rw [hse] at hW
  clear hE hI0 hd3 hd4 hm4 hown3
  go_wp2_with (fail)
  refine hW.mono ?_
  rintro e w5 ⟨rfl, ⟨S, -, hd5, hm5, -, -⟩, hb5⟩
  have hB5 := hB4.trans hb5
  have cu := block_cell hm5 0
  go_wp2_with (fail)
  go_ret2
  rw [hL]
  exact ⟨rfl, hB5⟩
end Go.Proofs.Ytebebognifiinaa
