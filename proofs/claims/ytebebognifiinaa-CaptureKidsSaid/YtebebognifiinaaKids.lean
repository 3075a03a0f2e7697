/-
  capture.Check, Kids and Depth: what they answer, by what each capture stands in.
-/
import Derived.Test.YtebebognifiinaaWalkR
import Derived.Test.YtebebognifiinaaBookInts
namespace Go.Proofs.Ytebebognifiinaa
open Go.RowKit
set_option linter.unusedVariables false
set_option linter.unusedSimpArgs false
def checkL (l : List Cap) : Int × Int := if l.length ≤ 1048576 then (if (walkRes l).2 then (0, 0) else ((walkRes l).1, 3)) else (0, 2)
/-- The captures among the first k that stand right within one. -/
def kidsTo (l : List Cap) (a : Int) : Nat → List Int
  | 0 => []
  | k + 1 => kidsTo l a k ++ (match foldW l (k + 1) with | some st => if st.par[k]? = some a then [(k : Int)] else [] | none => [])
theorem kidsTo_len (l : List Cap) (a : Int) : ∀ k, (kidsTo l a k).length ≤ k
  | 0 => Nat.le_refl _
  | k + 1 => by
    have := kidsTo_len l a k
    simp only [kidsTo, List.length_append]
    split
    · split
      · simp; omega
      · simp; omega
    · simp; omega
theorem check1_any (i j : Int) (w : World) : Calls Try.prog 35 #[.int .i64 i, .int .i64 j] w fun e w' => e = .returned (.tuple #[]) ∧ w = w' := by
  go_enter Try.func35, Try.ntmps35
  go_wp2_with (fail)
  exact bodyPost_end (v := .tuple #[]) (by simp [results, Try.results35]) rfl ⟨rfl, rfl⟩
theorem each_none (B : Nat) (l : List Cap) : Each 35 #[] B B l (fun k S w' => (∀ b, ¬ S b)) := by
  refine ⟨fun h b hb => (h b hb).elim, fun h _ _ => h, ?_⟩
  intro k S w1 st i hk hf hp hI hB
  refine (check1_any k i w1).mono ?_
  rintro e w' ⟨rfl, rfl⟩
  exact ⟨rfl, S, hI, ⟨rfl, rfl, rfl, Nat.le_refl _, fun _ _ => rfl⟩, fun _ _ _ _ => rfl, fun b h => .inl h⟩
theorem check_any (l : List Cap) (hk : ∀ c ∈ l, c.kids ≤ 9223372036854775807) (v : Value) (w : World) (hl : l.length ≤ 4611686018427387904) (hv : RowIs w v 6 l.length (l.flatMap capsC)) (hvb : 0 < l.length → ∀ g o n c, v = .slice (some ⟨g, o, none⟩) n c → g < w.heap.size) :
    Calls Try.prog 14 #[v] w fun e w' => e = .returned (.tuple #[.int .i64 (checkL l).1, .int .i64 (checkL l).2]) ∧ Below w.heap.size w w' := by
  obtain ⟨ao, cc, rfl⟩ := hv.form
  go_enter Try.func14, Try.ntmps14
  by_cases hlong : 1048576 < l.length
  · have hlong' : (1048576 : Int) < (l.length : Int) := by omega
    have hc : checkL l = (0, 2) := by unfold checkL; rw [if_neg (by omega)]
    go_wp2_with (fail)
    go_ret2
    rw [hc]
    exact ⟨rfl, Below.refl _ _⟩
  have hshort : ¬ (1048576 : Int) < (l.length : Int) := by omega
  go_wp2_with (fail)
  refine (walk_any l hk (by omega) (.slice ao l.length cc) 35 #[] w.heap.size w.heap.size _ (each_none _ l) (fun _ _ => rfl) w rfl (Nat.le_refl _) hv hvb (fun _ h => h)).mono ?_
  rintro e w1 ⟨rfl, -, hb⟩
  have hc : checkL l = (if (walkRes l).2 then (0, 0) else ((walkRes l).1, 3)) := by unfold checkL; rw [if_pos (by omega)]
  generalize walkRes l = R at *
  obtain ⟨x, b⟩ := R
  cases b with
  | true =>
    go_wp2_with (fail)
    go_ret2
    rw [hc]
    exact ⟨rfl, hb⟩
  | false =>
    go_wp2_with (fail)
    go_ret2
    rw [hc]
    exact ⟨rfl, hb⟩
def intsV (l : List Int) : List Value := l.map fun x => Value.int .i64 x
/-- What the closure of Kids holds behind k calls. -/
def KidsI (l : List Cap) (a : Int) (pa po B : Nat) (k : Nat) (S : Nat → Prop) (w' : World) : Prop :=
  w'.heap[pa]? = some (.cells #[.int .i64 a] 3) ∧ ∃ v, w'.heap[po]? = some (.cells #[v] 35) ∧ w'.ownsRow B 3 1 v (kidsTo l a k).length (intsV (kidsTo l a k)) ∧ S = (fun b => v.ownBlock = some b) ∧ B ≤ w'.heap.size
set_option maxRecDepth 100000 in
set_option maxHeartbeats 4000000 in
theorem each_kids (l : List Cap) (a : Int) (pa po B0 B : Nat) (hl : l.length ≤ 1048576) (h1 : B0 ≤ po) (h2 : po < B) (h3 : pa < B) (hpp : pa ≠ po) :
    Each 36 #[.pointer (some ⟨pa, 0, none⟩), .pointer (some ⟨po, 0, none⟩)] B0 B l (KidsI l a pa po B) := by
  refine ⟨?_, ?_, ?_⟩
  · rintro k S w ⟨-, v, -, ho, rfl, -⟩ b hb
    exact ho.lt b hb
  · rintro k S w w' ⟨ha, v, hv, ho, rfl, hz⟩ hs hb
    exact ⟨(hb pa (.inl h3)).trans ha, v, (hb po (.inl h2)).trans hv, owns_move ho (fun b e => hb b (.inr e)), rfl, by omega⟩
  · rintro k S w st i hk hf hp ⟨ha, v, hv, ho, rfl, hz⟩ hB
    obtain ⟨vo, vc, rfl⟩ := (RowIs.of_owns ho).form
    have ca := block_cell ha 0
    have cv := block_cell hv 0
    have fv := block_free hv 0
    have hkl := kidsTo_len l a k
    have hnext : kidsTo l a (k + 1) = kidsTo l a k ++ (if i = a then [(k : Int)] else []) := by
      simp only [kidsTo, hf, hp, Option.some.injEq]
    obtain ⟨i0, hi, hz0, hz1, hz2⟩ := info_parts info_ints
    show Calls Try.prog 36 #[.int .i64 k, .int .i64 i, .pointer (some ⟨pa, 0, none⟩), .pointer (some ⟨po, 0, none⟩)] w _
    have hno : ∀ b, (Value.slice vo (kidsTo l a k).length vc).ownBlock = some b → B ≤ b := fun b e => (ho.lt b e).1
    go_enter Try.func36, Try.ntmps36
    by_cases hia : i = a
    · subst hia
      rw [if_pos rfl] at hnext
      have hrow := row_new w 3 #[.int .i64 (k : Int)] 1 rfl
      go_wp2_with (at_builtin; refine wpList_append_row rfl _ _ 35 rfl B 3 i0 _ 1 8 Try.underlying35 hi hz0 hz1 hz2 rfl (by decide) (.slice vo (kidsTo l i k).length vc) _ _ rfl (ho.alloc _) (.slice (some ⟨w.heap.size, 0, none⟩) 1 1) 1 (#[.int .i64 (k : Int)] : Array Value).toList rfl hrow ?c6 ?c3 ?c4 ?c5 ?_)
      case c6 => simp [Value.oneCell']
      case c3 => unfold maxLen; omega
      case c4 => omega
      case c5 => first | omega | (simp; omega)
      intro v3 w3 hown3 hg3 hb3
      obtain ⟨zo, zc, rfl⟩ := (RowIs.of_owns hown3).form
      have hv3 := grown_heap hg3 (alloc_old hv) (fun e => by have := hno po e.symm; omega)
      have ha3 := grown_heap hg3 (alloc_old ha) (fun e => by have := hno pa e.symm; omega)
      have cv3 := block_cell hv3 0
      have fv3 := block_free hv3 0
      have hz3 := hg3.size
      simp only [World.size_alloc] at hz3
      have hown4 := hown3.kept (grown_set w3 po 0 (.slice zo ((kidsTo l i k).length + 1) zc)) (own_ne (fun b e => (hown3.lt b e).1) h2)
      have hv4 := heap_setCell_self hv3 0 (.slice zo ((kidsTo l i k).length + 1) zc)
      have ha4 := (heap_setCell_ne (w := w3) 0 pa (.slice zo ((kidsTo l i k).length + 1) zc) (b := po) hpp).trans ha3
      have hB4 : Below B0 w (w3.setCell ⟨po, 0, none⟩ (.slice zo ((kidsTo l i k).length + 1) zc)) := Below.setCell (p := ⟨po, 0, none⟩) (((Below.refl B0 w).alloc (by omega) _).grown hg3 (by simp; omega) (fun b e => by have := hno b e; omega)) (by show B0 ≤ po; omega) _
      go_wp2_with (fail)
      refine bodyPost_end (v := .tuple #[]) (by simp [results, Try.results36]) rfl ⟨rfl, _, ⟨ha4, _, hv4, ?_, rfl, by simp; omega⟩, hB4, ?_, ?_⟩
      · rw [hnext, List.length_append]
        show World.ownsRow _ _ _ _ _ _ (intsV (kidsTo l i k ++ [(k : Int)]))
        rw [intsV, List.map_append]
        exact hown4
      · intro b hb hlt hS
        refine (heap_setCell_ne _ _ _ (by omega)).trans ((hg3.block b (by simp; omega) ?_).trans (Below.heap_alloc _ _ _ hlt))
        intro e
        exact hS e.symm
      · intro b hb
        rcases hb3 with e | e
        · exact .inl (e.symm.trans hb)
        · rw [e] at hb; injection hb with hb; right; first | omega | (simp at hb; omega)
    · rw [if_neg hia, List.append_nil] at hnext
      have hib : (i == a) = false := by simp [hia]
      go_wp2_with (fail)
      exact bodyPost_end (v := .tuple #[]) (by simp [results, Try.results36]) rfl ⟨rfl, _, ⟨ha, _, hv, by rw [hnext]; exact ho, rfl, hz⟩, Below.refl _ _, fun _ _ _ _ => rfl, fun b h => .inl h⟩
def kidsL (l : List Cap) (a : Int) : List Int × Int := if (checkL l).2 = 0 then (if a < -1 ∨ (l.length : Int) ≤ a then ([], 1) else (kidsTo l a l.length, 0)) else ([], (checkL l).2)
theorem checkL_ok {l : List Cap} (h : (checkL l).2 = 0) : l.length ≤ 1048576 ∧ (foldW l l.length).isSome ∧ checkL l = (0, 0) := by
  unfold checkL at h ⊢
  by_cases hl : l.length ≤ 1048576
  · rw [if_pos hl] at h ⊢
    cases hw : (walkRes l).2 with
    | false => rw [hw] at h; simp at h
    | true =>
      refine ⟨hl, ?_, by simp⟩
      unfold walkRes at hw
      cases hf : foldW l l.length with
      | none => rw [hf] at hw; cases hw
      | some st => rfl
  · rw [if_neg hl] at h; simp at h
set_option maxRecDepth 100000 in
set_option maxHeartbeats 4000000 in
theorem kids_any (l : List Cap) (hk : ∀ c ∈ l, c.kids ≤ 9223372036854775807) (a : Int) (v : Value) (w : World) (hl : l.length ≤ 4611686018427387904) (hv : RowIs w v 6 l.length (l.flatMap capsC)) (hvb : 0 < l.length → ∀ g o n c, v = .slice (some ⟨g, o, none⟩) n c → g < w.heap.size) :
    Calls Try.prog 15 #[v, .int .i64 a] w fun e w' => ∃ u, e = .returned (.tuple #[u, .int .i64 (kidsL l a).2]) ∧ w'.ownsRow w.heap.size 3 1 u (kidsL l a).1.length (intsV (kidsL l a).1) ∧ Below w.heap.size w w' := by
  obtain ⟨ao, cc, rfl⟩ := hv.form
  have hmf : ∀ (fn : Fn) (first cap : Array Value) (w : World), (Instr.makeFunc fn first cap).run Try.prog w = .ok (.func fn first cap) w := fun _ _ _ _ => rfl
  have hB0 := (Below.refl w.heap.size w).alloc (Nat.le_refl _) (.cells #[.int .i64 a] 3)
  have ha0 := alloc_new w (.cells #[.int .i64 a] 3)
  have hv0 := hv.below hB0
  go_enter Try.func15, Try.ntmps15
  go_wp2_with (fail)
  refine (check_any l hk (.slice ao l.length cc) _ hl hv0 (fun hp g o n c e => by have := hvb hp g o n c e; simp; omega)).mono ?_
  rintro e w1 ⟨rfl, hb1⟩
  have ha1 := keep hb1 ha0
  have hB1 := hB0.trans (hb1.mono hB0.size)
  have hz1 := block_lt ha1
  by_cases hc : (checkL l).2 = 0
  rotate_left 1
  · have hcb : ((checkL l).2 != 0) = true := by simp [hc]
    have hL : kidsL l a = ([], (checkL l).2) := by unfold kidsL; rw [if_neg hc]
    generalize checkL l = C at *
    go_wp2_with (fail)
    go_ret2
    rw [hL]
    exact ⟨.slice none 0 0, rfl, World.ownsRow_nil _ _ _ _, hB1⟩
  obtain ⟨hlm, hsome, hC⟩ := checkL_ok hc
  rw [hC]
  have ca := block_cell ha1 0
  by_cases hlo : a < -1
  · have hL : kidsL l a = ([], 1) := by unfold kidsL; rw [if_pos hc, if_pos (.inl hlo)]
    go_wp2_with (fail)
    go_ret2
    rw [hL]
    exact ⟨.slice none 0 0, rfl, World.ownsRow_nil _ _ _ _, hB1⟩
  by_cases hhi : (l.length : Int) ≤ a
  · have hL : kidsL l a = ([], 1) := by unfold kidsL; rw [if_pos hc, if_pos (.inr hhi)]
    go_wp2_with (fail)
    go_ret2
    rw [hL]
    exact ⟨.slice none 0 0, rfl, World.ownsRow_nil _ _ _ _, hB1⟩
  have hL : kidsL l a = (kidsTo l a l.length, 0) := by unfold kidsL; rw [if_pos hc, if_neg (by omega)]
  have hse : seenW l l.length = l.length := seenW_all hsome
  have ha2 := alloc_old (y := .cells #[.slice none 0 0] 35) ha1
  have hp2 := alloc_new w1 (.cells #[.slice none 0 0] 35)
  have hB2 := hB1.alloc hB1.size (.cells #[.slice none 0 0] 35)
  have hv2 := hv.below hB2
  have hE := each_kids l a w.heap.size w1.heap.size w.heap.size (w1.alloc (.cells #[.slice none 0 0] 35)).heap.size hlm (by omega) (by simp) (by simp; omega) (by omega)
  have hI0 : KidsI l a w.heap.size w1.heap.size (w1.alloc (.cells #[.slice none 0 0] 35)).heap.size 0 (fun _ => False) (w1.alloc (.cells #[.slice none 0 0] 35)) :=
    ⟨ha2, _, hp2, World.ownsRow_nil _ _ _ _, funext fun b => by simp [Value.ownBlock], Nat.le_refl _⟩
  have hW := walk_any l hk hlm (.slice ao l.length cc) 36 #[.pointer (some ⟨w.heap.size, 0, none⟩), .pointer (some ⟨w1.heap.size, 0, none⟩)] w.heap.size _ _ hE (fun _ _ => rfl) _ rfl (by simp; omega) hv2 hvb hI0
  rw [hse] at hW
  go_wp2_with (fail)
  refine hW.mono ?_
  rintro e w3 ⟨rfl, ⟨S, ha3, u, hu3, hown3, -, hz3⟩, hb3⟩
  have hB3 := hB2.trans hb3
  have cu := block_cell hu3 0
  go_wp2_with (fail)
  go_ret2
  rw [hL]
  exact ⟨u, rfl, owns_base (by simp; omega) hown3, hB3⟩
end Go.Proofs.Ytebebognifiinaa
