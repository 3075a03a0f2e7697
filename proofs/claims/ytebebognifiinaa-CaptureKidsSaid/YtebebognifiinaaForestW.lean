/-
  The program's Forest: what endF says; a log that is none ends in ErrNotes, by the deferred closure.
-/
import Derived.Test.YtebebognifiinaaForestP
import Derived.Test.YtebebognifiinaaBookInts
namespace Go.Proofs.Ytebebognifiinaa
open Go.RowKit
set_option linter.unusedVariables false
set_option linter.unusedSimpArgs false
theorem flat_to : ∀ {l : List Cap} {q : Nat} (a : Int), q < l.length → (l.flatMap capsC).set (q * 6 + 2) (.int .i64 a) = (l.modify q (toAt a)).flatMap capsC
  | c :: l, 0, a, _ => by simp [capsC, toAt]
  | c :: l, q + 1, a, h => by
    have ih := flat_to (l := l) (q := q) a (by simpa using h)
    rw [List.modify_succ_cons, List.flatMap_cons, List.flatMap_cons, ← ih, List.set_append_right _ _ (by rw [capsC_len]; omega), capsC_len]
    congr 2
    omega
theorem flat_kid : ∀ {l : List Cap} {q : Nat} (h : q < l.length), (l.flatMap capsC).set (q * 6 + 3) (.int .i64 (l[q].kids + 1)) = (l.modify q kidUp).flatMap capsC
  | c :: l, 0, _ => by simp [capsC, kidUp]
  | c :: l, q + 1, h => by
    have hq : q < l.length := by simpa using h
    have ih := flat_kid (l := l) (q := q) hq
    rw [List.modify_succ_cons, List.flatMap_cons, List.flatMap_cons, ← ih, List.set_append_right _ _ (by rw [capsC_len]; omega), capsC_len]
    congr 2
    omega
theorem owns_cap {w : World} {base : Nat} {e : TypeId} {size g n cap : Nat} {xs : List Value} (h : w.ownsRow base e size (.slice (some ⟨g, 0, none⟩) n cap) n xs) : n ≤ cap := by
  rcases h.2 with ⟨he, -⟩ | ⟨g', cap', cur, he, h1, h2, h3, h4, h5, h6⟩
  · cases he
  · cases he; exact h3
theorem info_member : (Try.prog.info? 74).map (fun i => (i.zero, i.size, i.bytes)) = some (some .nilIface, 1, 16) := by kernel_rfl
/-- A type that is known and no interface. -/
def solid (P : Program) (t : TypeId) : Bool := match P.underlying t with | some (.interface _) => false | some _ => true | none => false
theorem assert_panics (s t a : TypeId) (v : Value) (hne : ¬ t = a) (hs : solid Try.prog a = true) : ∃ X : Obj, ∃ T, ∀ w : World, (Instr.typeAssert (.iface t v) s a false).run Try.prog w = .halt (.panic (.iface T (.pointer (some ⟨w.heap.size, 0, none⟩)))) (w.alloc X) := by
  refine ⟨.cells #[typeHandle Try.prog s, typeHandle Try.prog t, typeHandle Try.prog a, strVal ""] 123, Try.prog.rt.typeAssertionError, fun w => ?_⟩
  unfold solid at hs
  split at hs
  · cases hs
  · rename_i D hD hu
    cases D with
    | interface w => exact absurd rfl (hD w)
    | _ => simp [Instr.typeAssert, runtimePanic, newVar, newRow, go_sem, hu, hne, run_underlying, elemOf, goPanic]
  · cases hs
theorem assert_holds (s t : TypeId) (v : Value) (hs : solid Try.prog t = true) (w : World) : (Instr.typeAssert (.iface t v) s t false).run Try.prog w = .ok v w := by
  unfold solid at hs
  split at hs
  · cases hs
  · rename_i D hD hu
    cases D with
    | interface w => exact absurd rfl (hD w)
    | _ => simp [Instr.typeAssert, go_sem, hu, run_underlying]
  · cases hs
/-- What a log comes to: the forest, or none and the error. -/
def forestL (l : List Note) : List Cap × Int :=
  if l.length ≤ 1048576 then (match endF true l with | some out => (out, 0) | none => ([], 230)) else ([], 2)
def ForestPost (l : List Note) (w : World) (e : Ending) (w' : World) : Prop :=
  ∃ v, e = .returned (.tuple #[v, .int .i64 (forestL l).2]) ∧ w'.ownsRow w.heap.size 39 6 v (forestL l).1.length ((forestL l).1.flatMap capsC) ∧ Below w.heap.size w w'
def stkL (b : Nat) (opn : List Nat) : List Value := .iface 70 (.agg #[]) :: opn.reverse.map fun (i : Nat) => .iface 77 (.agg #[.pointer (some ⟨b, 0, none⟩), .int .i64 (i : Int)])
def topV (b : Nat) : List Nat → Value
  | [] => .iface 70 (.agg #[])
  | q :: _ => .iface 77 (.agg #[.pointer (some ⟨b, 0, none⟩), .int .i64 (q : Int)])
theorem stkL_cons (b n : Nat) (o : List Nat) : stkL b (n :: o) = stkL b o ++ [.iface 77 (.agg #[.pointer (some ⟨b, 0, none⟩), .int .i64 (n : Int)])] := by simp [stkL]
theorem stkL_top (b : Nat) (o : List Nat) : (stkL b o)[o.length]? = some (topV b o) := by
  cases o with
  | nil => rfl
  | cons q r => rw [stkL_cons, List.getElem?_append_right (by simp [stkL])]; simp [stkL, topV]
theorem own_ne {v : Value} {c b : Nat} (h : ∀ k, v.ownBlock = some k → c ≤ k) (hb : b < c) : v.ownBlock = none ∨ v.ownBlock ≠ some b := by
  cases hv : v.ownBlock with
  | none => exact .inl rfl
  | some k => exact .inr (fun e => by injection e with e; have := h k hv; omega)
theorem owns_base {w : World} {base base' : Nat} {e : TypeId} {size : Nat} {v : Value} {n : Nat} {xs : List Value} (hb : base' ≤ base) (h : w.ownsRow base e size v n xs) : w.ownsRow base' e size v n xs := by
  refine ⟨h.1, ?_⟩
  rcases h.2 with h | ⟨g, cap, cur, h1, h2, h3⟩
  · exact .inl h
  · exact .inr ⟨g, cap, cur, h1, Nat.le_trans hb h2, h3⟩
/-- The state of the loop behind k notes. -/
def FAt (l : List Note) (w : World) (k : Nat) (stack place : Value) (wr : World) : Prop :=
  ∃ st v, foldF false fs0 (l.take k) = some st ∧ place = .int .i64 st.place ∧ wr.heap[w.heap.size]? = some (.cells #[v] 24) ∧ wr.heap[w.heap.size + 1]? = some (.cells #[.int .i64 0] 25) ∧
    wr.ownsRow (w.heap.size + 2) 39 6 v st.out.length (st.out.flatMap capsC) ∧
    wr.ownsRow (w.heap.size + 2) 74 1 stack (st.opn.length + 1) (stkL w.heap.size st.opn) ∧ (∀ b, v.ownBlock = some b → stack.ownBlock ≠ some b) ∧ Below w.heap.size w wr
/-- The end of a frame whose results lie in cells 2 and 3, the closure deferred: it returns. -/
theorem leaves_lives {l : List Note} {w wz : World} {tmps : Array Value} {v : Value} (h2 : tmps[2]? = some (.pointer (some ⟨w.heap.size, 0, none⟩))) (h3 : tmps[3]? = some (.pointer (some ⟨w.heap.size + 1, 0, none⟩)))
    (hc2 : wz.heap[w.heap.size]? = some (.cells #[v] 24)) (hc3 : wz.heap[w.heap.size + 1]? = some (.cells #[.int .i64 (forestL l).2] 25)) (hown : wz.ownsRow w.heap.size 39 6 v (forestL l).1.length ((forestL l).1.flatMap capsC)) (hB : Below w.heap.size w wz) :
    Leaves Try.prog Try.f8 tmps (fun e w' => ForestPost l w e w') [] .returning wz := by
  have e2 := block_cell hc2 0
  have e3 := block_cell hc3 0
  refine ⟨.tuple #[v, .int .i64 (forestL l).2], ?_, v, rfl, hown, hB⟩
  simp [results, Try.results8, go_sem, h2, h3, e2, e3]
theorem leaves_lives1 {l : List Note} {w wz : World} {tmps : Array Value} {v : Value} (h2 : tmps[2]? = some (.pointer (some ⟨w.heap.size, 0, none⟩))) (h3 : tmps[3]? = some (.pointer (some ⟨w.heap.size + 1, 0, none⟩)))
    (hc2 : wz.heap[w.heap.size]? = some (.cells #[v] 24)) (hc3 : wz.heap[w.heap.size + 1]? = some (.cells #[.int .i64 (forestL l).2] 25)) (hown : wz.ownsRow w.heap.size 39 6 v (forestL l).1.length ((forestL l).1.flatMap capsC)) (hB : Below w.heap.size w wz) :
    Leaves Try.prog Try.f8 tmps (fun e w' => ForestPost l w e w') [{ target := .fn (.func 30) #[.pointer (some ⟨w.heap.size, 0, none⟩), .pointer (some ⟨w.heap.size + 1, 0, none⟩)], args := #[] }] .returning wz := by
  refine leaves_cons (f := 30) (args := #[.pointer (some ⟨w.heap.size, 0, none⟩), .pointer (some ⟨w.heap.size + 1, 0, none⟩)]) (by simp) (by simp [go_sem]) ?_
  refine (catch_idle _ _ _).mono ?_
  rintro e u' w'' ⟨rfl, rfl, rfl⟩
  exact leaves_lives h2 h3 hc2 hc3 hown hB
/-- It panics: what it hands back is none and the error. -/
theorem leaves_dies {l : List Note} {w wz : World} {tmps : Array Value} {v z : Value} {u : TypeId} {pv : Value} (h2 : tmps[2]? = some (.pointer (some ⟨w.heap.size, 0, none⟩))) (h3 : tmps[3]? = some (.pointer (some ⟨w.heap.size + 1, 0, none⟩)))
    (hc2 : wz.heap[w.heap.size]? = some (.cells #[v] 24)) (hc3 : wz.heap[w.heap.size + 1]? = some (.cells #[z] 25)) (hl : l.length ≤ 1048576) (hn : endF true l = none) (hB : Below w.heap.size w wz) :
    Leaves Try.prog Try.f8 tmps (fun e w' => ForestPost l w e w') [{ target := .fn (.func 30) #[.pointer (some ⟨w.heap.size, 0, none⟩), .pointer (some ⟨w.heap.size + 1, 0, none⟩)], args := #[] }] (.panicking [{ v := .iface u pv, recovered := false }]) wz := by
  have e2 := block_cell hc2 0
  have e3 := block_cell hc3 0
  have f2 := block_free hc2 0
  have f3 := block_free hc3 0
  refine leaves_cons (f := 30) (args := #[.pointer (some ⟨w.heap.size, 0, none⟩), .pointer (some ⟨w.heap.size + 1, 0, none⟩)]) (by simp) (by simp [go_sem]) ?_
  refine (catch_panicking ⟨w.heap.size, 0, none⟩ ⟨w.heap.size + 1, 0, none⟩ v z u pv [] _ e2 f2 e3 f3 (by simp)).mono ?_
  rintro e u' w'' ⟨rfl, rfl, rfl⟩
  have hf : forestL l = ([], 230) := by unfold forestL; rw [if_pos hl, hn]
  have k2 := (heap_setCell_ne (w := wz.setCell ⟨w.heap.size, 0, none⟩ (.slice none 0 0)) 0 w.heap.size (.int .i64 230) (b := w.heap.size + 1) (by omega)).trans (heap_setCell_self hc2 0 (.slice none 0 0))
  have k3 := heap_setCell_self ((heap_setCell_ne (w := wz) 0 (w.heap.size + 1) (.slice none 0 0) (b := w.heap.size) (by omega)).trans hc3) 0 (.int .i64 230)
  refine leaves_lives (v := .slice none 0 0) h2 h3 k2 (by rw [hf]; exact k3) (by rw [hf]; exact World.ownsRow_nil _ _ _ _) ((hB.setCell (by simp) _).setCell (by simp) _)
set_option maxRecDepth 100000 in
set_option maxHeartbeats 4000000 in
theorem forest_any (l : List Note) (v : Value) (w : World) (hv : RowIs w v 6 l.length (l.flatMap notesC)) (hl : l.length ≤ 4611686018427387904) :
    Calls Try.prog 8 #[v] w fun e w' => ForestPost l w e w' := by
  obtain ⟨ao, cap, rfl⟩ := hv.form
  have hmf : ∀ (fn : Fn) (first cap : Array Value) (w : World), (Instr.makeFunc fn first cap).run Try.prog w = .ok (.func fn first cap) w := fun _ _ _ _ => rfl
  obtain ⟨X1, T1, hno1⟩ := assert_panics 74 70 77 (.agg #[]) (by decide) (by kernel_rfl)
  have hB0 := ((Below.refl w.heap.size w).alloc (Nat.le_refl _) (.cells #[.slice none 0 0] 24)).alloc (by simp) (.cells #[.int .i64 0] 25)
  go_enter_defers Try.func8, Try.ntmps8
  by_cases hlong : 1048576 < l.length
  · have hlong' : (1048576 : Int) < (l.length : Int) := by omega
    have hf : forestL l = ([], 2) := by unfold forestL; rw [if_neg (by omega)]
    go_wp2_with (fail)
    refine leaves_lives (l := l) (v := .slice none 0 0) rfl rfl (alloc_old (alloc_new _ _)) (by rw [hf]; exact alloc_new_at _ (by simp)) (by rw [hf]; exact World.ownsRow_nil _ _ _ _) ?_
    exact ((Below.refl w.heap.size w).alloc (Nat.le_refl _) _).alloc (by simp) _
  have hshort : ¬ (1048576 : Int) < (l.length : Int) := by omega
  have hq0 := alloc_old (y := .cells #[.int .i64 0] 25) (alloc_new w (.cells #[.slice none 0 0] 24))
  have hq1 := alloc_new_at (n := w.heap.size + 1) (a := w.alloc (.cells #[.slice none 0 0] 24)) (.cells #[.int .i64 0] 25) (by simp)
  go_wp2_with (fail)
  go_loopw [4, 5, 19] (fun stack place i wr => ∃ k : Nat, k ≤ l.length ∧ i = .int .i64 k ∧ FAt l w k stack place wr) (fun _ _ i _ => l.length - (intOf i).toNat)
  case atStart =>
    refine ⟨0, Nat.zero_le _, rfl, fs0, .slice none 0 0, rfl, rfl, alloc_old hq0, alloc_old hq1, World.ownsRow_nil _ _ _ _, ?_, (fun b h => by cases h), hB0.alloc (by simp; omega) _⟩
    exact ⟨rfl, .inr ⟨_, 1, #[.iface 70 (.agg #[])], rfl, by simp, alloc_new_at _ (by simp), Nat.le_refl _, by decide, rfl, rfl⟩⟩
  case round =>
    obtain ⟨k, hk, rfl, st, v, hst, rfl, hbo, hbe, hout, hstk, hne, hB⟩ := hrel
    have hok := FOk.take hk hst
    have hB0 := hB.size
    have hbl := block_lt hbe
    by_cases hlt : k < l.length
    · have hx : l[k]? = some l[k] := List.getElem?_eq_getElem hlt
      have hvr := hv.below (hB.mono (Nat.le_refl _))
      obtain ⟨g, o, rfl, hcx⟩ := hvr.at (by omega)
      have hn0 : wr.cell? ⟨g, o + k * 6, none⟩ = (notesC l[k])[0]? := (hcx (k * 6) (by omega)).trans (flat_at (j := 0) notesC_len hlt (by decide))
      have hn1 : wr.cell? ⟨g, o + k * 6 + 1, none⟩ = (notesC l[k])[1]? := by rw [Nat.add_assoc]; exact (hcx (k * 6 + 1) (by omega)).trans (flat_at (j := 1) notesC_len hlt (by decide))
      have hn2 : wr.cell? ⟨g, o + k * 6 + 2, none⟩ = (notesC l[k])[2]? := by rw [Nat.add_assoc]; exact (hcx (k * 6 + 2) (by omega)).trans (flat_at (j := 2) notesC_len hlt (by decide))
      have hn3 : wr.cell? ⟨g, o + k * 6 + 3, none⟩ = (notesC l[k])[3]? := by rw [Nat.add_assoc]; exact (hcx (k * 6 + 3) (by omega)).trans (flat_at (j := 3) notesC_len hlt (by decide))
      have hn4 : wr.cell? ⟨g, o + k * 6 + 4, none⟩ = (notesC l[k])[4]? := by rw [Nat.add_assoc]; exact (hcx (k * 6 + 4) (by omega)).trans (flat_at (j := 4) notesC_len hlt (by decide))
      have hn5 : wr.cell? ⟨g, o + k * 6 + 5, none⟩ = (notesC l[k])[5]? := by rw [Nat.add_assoc]; exact (hcx (k * 6 + 5) (by omega)).trans (flat_at (j := 5) notesC_len hlt (by decide))
      generalize hxe : l[k] = x at *
      obtain ⟨xo, xk, xa, xl, xn, xs⟩ := x
      replace hn0 : wr.cell? ⟨g, o + k * 6, none⟩ = some (.int .i64 xo) := hn0
      replace hn1 : wr.cell? ⟨g, o + k * 6 + 1, none⟩ = some (.int .i64 xk) := hn1
      replace hn2 : wr.cell? ⟨g, o + k * 6 + 2, none⟩ = some (.int .i64 xa) := hn2
      replace hn3 : wr.cell? ⟨g, o + k * 6 + 3, none⟩ = some (.int .i64 xl) := hn3
      replace hn4 : wr.cell? ⟨g, o + k * 6 + 4, none⟩ = some (.int .i64 xn) := hn4
      replace hn5 : wr.cell? ⟨g, o + k * 6 + 5, none⟩ = some (.string xs) := hn5
      have i1 : (0 : Int) ≤ (k : Int) := by omega
      have i2 : (k : Int) < (l.length : Int) := by omega
      clear hcx
      have hx0 := alloc_new wr (.cells #[.int .i64 xo, .int .i64 xk, .int .i64 xa, .int .i64 xl, .int .i64 xn, .string xs] 68)
      have hB1 := hB.alloc hB0 (.cells #[.int .i64 xo, .int .i64 xk, .int .i64 xa, .int .i64 xl, .int .i64 xn, .string xs] 68)
      have hout1 := (hout.alloc (.cells #[.int .i64 xo, .int .i64 xk, .int .i64 xa, .int .i64 xl, .int .i64 xn, .string xs] 68))
      have hstk1 := (hstk.alloc (.cells #[.int .i64 xo, .int .i64 xk, .int .i64 xa, .int .i64 xl, .int .i64 xn, .string xs] 68))
      have hbo1 := alloc_old (y := .cells #[.int .i64 xo, .int .i64 xk, .int .i64 xa, .int .i64 xl, .int .i64 xn, .string xs] 68) hbo
      have hbe1 := alloc_old (y := .cells #[.int .i64 xo, .int .i64 xk, .int .i64 xa, .int .i64 xl, .int .i64 xn, .string xs] 68) hbe
      clear hq0 hq1
      go_wp2_with (fail)
      refine (fits_any ⟨xo, xk, xa, xl, xn, xs⟩ st.place _ hok.low).mono ?_
      rintro e w1 ⟨he, hb1⟩
      have hx1 := keep hb1 hx0
      have hbo2 := keep hb1 hbo1
      have hbe2 := keep hb1 hbe1
      have hB2 := hB1.trans (hb1.mono hB1.size)
      have hout2 := own_below hout1 hb1
      have hstk2 := own_below hstk1 hb1
      have hsl : ∀ b, u4.ownBlock = some b → b < wr.heap.size := fun b h => (hstk.lt b h).2
      have holo : ∀ b, v.ownBlock = some b → b < wr.heap.size := fun b h => (hout.lt b h).2
      have hcx1 := block_cell hx1
      have hc0 := hcx1 0; have hc1 := hcx1 1; have hc2 := hcx1 2; have hc3 := hcx1 3; have hc4 := hcx1 4; have hc5 := hcx1 5
      have hob := block_cell hbo2 0
      have hof := block_free hbo2 0
      clear hcx1 hn0 hn1 hn2 hn3 hn4 hn5 hout hstk hout1 hstk1 hbo hbe hbo1 hbe1 hB hB1
      cases hno : noteOk ⟨xo, xk, xa, xl, xn, xs⟩ st.place with
      | false =>
        rw [hno] at he
        subst he
        have hnone : foldF false fs0 (l.take (k + 1)) = none := by rw [foldF_take hx hst]; simp [stepF, hno]
        exact leaves_dies (l := l) rfl rfl hbo2 hbe2 (by omega) ((endF_same l).symm.trans (foldF_none hnone)) hB2
      | true =>
        rw [hno] at he
        subst he
        have hnw : IntKind.i64.wrap (xa + xl) = xa + xl := by
          have := noteOk_next hno hok.low
          rw [IntKind.wrap_i64]; simp only at this; omega
        have hw9 : IntKind.i64.wrap ((k : Int) + 1) = (k : Int) + 1 := IntWalk.i64_in _ (by omega)
        obtain ⟨so, sc, rfl⟩ := (RowIs.of_owns hstk2).form
        obtain ⟨gs, o1, rfl, -⟩ := (RowIs.of_owns hstk2).at (by omega)
        obtain rfl := owns_off hstk2
        obtain ⟨sout, sopn, spl⟩ := st
        have hsc := owns_cap hstk2
        simp only at hsc
        have hol : sopn.length ≤ k := hok.olen
        have hlen : sout.length ≤ k := hok.len
        have htop : w1.cell? ⟨gs, sopn.length, none⟩ = some (topV w.heap.size sopn) := (hstk2.cellAt sopn.length (by simp)).trans (stkL_top _ _)
        simp only at hstk2 hout2
        obtain ⟨m, hm⟩ : ∃ m, m = sopn.length := ⟨_, rfl⟩
        rw [← hm] at hstk2 htop hol hsc hne
        rw [← hm]
        replace hm := hid hm
        have hxl := block_lt (alloc_new wr (.cells #[.int .i64 xo, .int .i64 xk, .int .i64 xa, .int .i64 xl, .int .i64 xn, .string xs] 68))
        have j3 : IntKind.i64.wrap (((m + 1 : Nat) : Int) - 1) = (m : Int) := by rw [IntKind.wrap_i64]; omega
        have j4 : (0 : Int) ≤ (m : Int) := by omega
        have j5 : (m : Int) < ((m + 1 : Nat) : Int) := by omega
        have hm0 : ∀ w : World, (method 235 70 (.agg #[]) "harrow/capture.within").run Try.prog w = .ok (75, .agg #[]) w := fun _ => by kernel_rfl
        have hm1 : ∀ (w : World) (x y : Value), (method 235 77 (.agg #[x, y]) "harrow/capture.within").run Try.prog w = .ok (76, .agg #[x, y]) w := fun _ _ _ => by kernel_rfl
        have hta : ∀ (v : Value) (w : World), (Instr.typeAssert (.iface 77 v) 74 77 false).run Try.prog w = .ok v w := fun v w => assert_holds _ _ v (by kernel_rfl) w
        obtain ⟨i0, hi, hz0, hz1, hz2⟩ := info_parts info_caps
        obtain ⟨k0, ki, kz0, kz1, kz2⟩ := info_parts info_member
        obtain ⟨oo, oc, rfl⟩ := (RowIs.of_owns hout2).form
        cases sopn with
        | nil =>
          replace htop : w1.cell? ⟨gs, m, none⟩ = some (.iface 70 (.agg #[])) := htop
          by_cases h19 : xo = 19
          · subst h19
            go_wp2_with (fail)
            have hnone : foldF false fs0 (l.take (k + 1)) = none := by rw [foldF_take hx hst]; simp [stepF, hno]
            exact leaves_dies (l := l) rfl rfl (alloc_old hbo2) (alloc_old hbe2) (by omega) ((endF_same l).symm.trans (foldF_none hnone)) (hB2.alloc hB2.size _)
          have hn19 : (xo == 19) = false := by simp [h19]
          by_cases h18 : xo = 18
          · subst h18
            have hst2 : foldF false fs0 (l.take (k + 1)) = some ⟨bump sout [] ++ [⟨xk, xa, 0, 0, xn, xs⟩], sout.length :: [], xa + xl⟩ := by rw [foldF_take hx hst]; simp [stepF, hno]
            go_wp2_with (fail)
            refine (rootWithin_any _).mono ?_
            rintro e w2 ⟨rfl, hb2⟩
            have hx2 := keep hb2 hx1
            have hbo3 := keep hb2 hbo2
            have hbe3 := keep hb2 hbe2
            have hB3 := hB2.trans (hb2.mono hB2.size)
            have hout3 : w2.ownsRow (w.heap.size + 2) 39 6 (.slice oo sout.length oc) sout.length ((bump sout []).flatMap capsC) := own_below hout2 hb2
            have hstk3 := own_below hstk2 hb2
            have hbz := hb2.size
            have hlb : (bump sout []).length = sout.length := bump_len _ _
            have hne3 := hne
            have hbl2 := hB3.size
            have hm3 : w2.heap.size = w2.heap.size := rfl
            have hob3 := block_cell hbo3 0
            have hcx2 := block_cell hx2
            have hd0 := hcx2 0; have hd1 := hcx2 1; have hd2 := hcx2 2; have hd3 := hcx2 3; have hd4 := hcx2 4; have hd5 := hcx2 5; clear hcx2
            clear hc0 hc1 hc2 hc3 hc4 hc5 hob hof htop
            have hrow := row_new w2 74 #[.iface 77 (.agg #[.pointer (some ⟨w.heap.size, 0, none⟩), .int .i64 (sout.length : Int)])] 1 rfl
            go_wp2_with (at_builtin; refine wpList_append_row rfl _ _ 71 rfl (w.heap.size + 2) 74 k0 _ 1 16 Try.underlying71 ki kz0 kz1 kz2 rfl (by decide) (.slice (some ⟨gs, 0, none⟩) (m + 1) sc) _ _ rfl (hstk3.alloc _) (.slice (some ⟨w2.heap.size, 0, none⟩) 1 1) 1 (#[.iface 77 (.agg #[.pointer (some ⟨w.heap.size, 0, none⟩), .int .i64 (sout.length : Int)])] : Array Value).toList rfl hrow ?d6 ?d3 ?d4 ?d5 ?_)
            case d6 => simp [Value.oneCell']
            case d3 => unfold maxLen; omega
            case d4 => omega
            case d5 => have := block_lt hbe3; simp; omega
            intro v4 w3 hstk4 hg4 hb4
            have hbo4 := grown_heap hg4 (alloc_old hbo3) (fun e => by have := (hstk3.lt _ e.symm).1; omega)
            have hbe4 := grown_heap hg4 (alloc_old hbe3) (fun e => by have := (hstk3.lt _ e.symm).1; omega)
            have hx4 := grown_heap hg4 (alloc_old hx2) (fun e => by have h1 := hsl _ e.symm; omega)
            have hout4 := (hout3.alloc (.cells #[.iface 77 (.agg #[.pointer (some ⟨w.heap.size, 0, none⟩), .int .i64 (sout.length : Int)])] 74)).kept hg4 (by
              rcases hpo : (.slice oo sout.length oc : Value).ownBlock with _ | b
              · exact .inl rfl
              · exact .inr fun e => hne b hpo e.symm)
            have hB4 : Below w.heap.size w w3 := (hB3.alloc hbl2 _).grown hg4 (by simp; omega) (fun b e => by have := (hstk3.lt b e).1; omega)
            have hz4 := hg4.size
            have hstk5 : w3.ownsRow (w.heap.size + 2) 74 1 v4 ((sout.length :: []).length + 1) (stkL w.heap.size (sout.length :: [])) := by
              rw [stkL_cons, List.length_cons, show [].length + 1 + 1 = m + 1 + 1 from by rw [hm.out]]; exact hstk4
            have hne4 : ∀ b, (.slice oo sout.length oc : Value).ownBlock = some b → v4.ownBlock ≠ some b := by
              intro b e1 e2
              have hbl3 := (hout3.lt b e1).2
              rcases hb4 with e3 | e3
              · exact hne b e1 (e3.symm.trans e2)
              · rw [e2] at e3; injection e3 with e3; first | omega | (simp at e3; omega)
            have hob4 := block_cell hbo4 0
            have hcx4 := block_cell hx4
            have he0 := hcx4 0; have he1 := hcx4 1; have he2 := hcx4 2; have he3 := hcx4 3; have he4 := hcx4 4; have he5 := hcx4 5; clear hcx4 hd0 hd1 hd2 hd3 hd4 hd5 hob3
            have hrow6 := row_new w3 39 #[.int .i64 xk, .int .i64 xa, .int .i64 (0), .int .i64 0, .int .i64 xn, .string xs] 6 rfl
            have hW6 := hB4.size
            go_wp2_with (at_builtin; refine wpList_append_row rfl _ _ 24 rfl (w.heap.size + 2) 39 i0 _ 6 56 Try.underlying24 hi hz0 hz1 hz2 rfl (by decide) (.slice oo sout.length oc) _ _ rfl (hout4.alloc _) (.slice (some ⟨w3.heap.size, 0, none⟩) 1 1) 1 (#[.int .i64 xk, .int .i64 xa, .int .i64 (0), .int .i64 0, .int .i64 xn, .string xs] : Array Value).toList rfl hrow6 ?c6 ?c3 ?c4 ?c5 ?_)
            case c6 => simp [Value.oneCell']
            case c3 => unfold maxLen; omega
            case c4 => omega
            case c5 => have := block_lt hbe4; simp; omega
            intro v6 w6 hown6 hg6 hb6
            obtain ⟨zo, zc, rfl⟩ := (RowIs.of_owns hown6).form
            have hbo6 := grown_heap hg6 (alloc_old hbo4) (fun e => by have := (hout4.lt _ e.symm).1; omega)
            have hbe6 := grown_heap hg6 (alloc_old hbe4) (fun e => by have := (hout4.lt _ e.symm).1; omega)
            have hstk6 := (hstk5.alloc (.cells #[.int .i64 xk, .int .i64 xa, .int .i64 (0), .int .i64 0, .int .i64 xn, .string xs] 39)).kept hg6 (by
              rcases hpo : (.slice oo sout.length oc : Value).ownBlock with _ | b
              · cases hso : (v4 : Value).ownBlock with
                | none => exact .inl rfl
                | some c => exact .inr (by simp)
              · cases hso : (v4 : Value).ownBlock with
                | none => exact .inl rfl
                | some c => exact .inr (fun e => by injection e with e; subst e; exact hne4 _ hpo hso))
            have hB6 : Below w.heap.size w w6 := (hB4.alloc hW6 _).grown hg6 (by simp; omega) (fun b e => by have := (hout4.lt b e).1; omega)
            have hne6 : ∀ b, (Value.slice zo (sout.length + 1) zc).ownBlock = some b → (v4 : Value).ownBlock ≠ some b := by
              intro b e1 e2
              have hbl3 := (hstk5.lt b e2).2
              rcases hb6 with e3 | e3
              · exact hne4 b (e3.symm.trans e1) e2
              · rw [e1] at e3; injection e3 with e3; first | omega | (simp at e3; omega)
            have hob6 := block_cell hbo6 0
            have hof6 := block_free hbo6 0
            go_wp2_with (fail)
            have hown7 : w6.ownsRow (w.heap.size + 2) 39 6 (.slice zo (sout.length + 1) zc) (bump sout [] ++ [(⟨xk, xa, 0, 0, xn, xs⟩ : Cap)]).length ((bump sout [] ++ [(⟨xk, xa, 0, 0, xn, xs⟩ : Cap)]).flatMap capsC) := by
              rw [flat_snoc, List.length_append, hlb]; exact hown6
            have hgs := grown_set w6 w.heap.size 0 (.slice zo (sout.length + 1) zc)
            have hown8 := hown7.kept hgs (by
              cases hso : (Value.slice zo (sout.length + 1) zc).ownBlock with
              | none => exact .inl rfl
              | some c => exact .inr (fun e => by injection e with e; have := (hown7.lt c hso).1; omega))
            have hstk8 := hstk6.kept hgs (by
              cases hso : (v4 : Value).ownBlock with
              | none => exact .inl rfl
              | some c => exact .inr (fun e => by injection e with e; have := (hstk6.lt c hso).1; omega))
            have hbo8 := heap_setCell_self hbo6 0 (.slice zo (sout.length + 1) zc)
            have hbe8 := (heap_setCell_ne (w := w6) 0 (w.heap.size + 1) (.slice zo (sout.length + 1) zc) (b := w.heap.size) (by omega)).trans hbe6
            have hB8 := hB6.setCell (p := ⟨w.heap.size, 0, none⟩) (Nat.le_refl _) (.slice zo (sout.length + 1) zc)
            go_roundw
            case rel => exact ⟨k + 1, by omega, by go_num, _, _, hst2, rfl, hbo8, hbe8, hown8, hstk8, hne6, hB8⟩
            case measure => simp [intOf]; omega
          have hn18 : (xo == 18) = false := by simp [h18]
          have hst2 : foldF false fs0 (l.take (k + 1)) = some ⟨bump sout [] ++ [⟨xk, xa, xa + xl, 0, xn, xs⟩], [], xa + xl⟩ := by rw [foldF_take hx hst]; simp [stepF, hno, h19, h18]
          go_wp2_with (fail)
          refine (rootWithin_any _).mono ?_
          rintro e w2 ⟨rfl, hb2⟩
          have hx2 := keep hb2 hx1
          have hbo3 := keep hb2 hbo2
          have hbe3 := keep hb2 hbe2
          have hB3 := hB2.trans (hb2.mono hB2.size)
          have hout3 : w2.ownsRow (w.heap.size + 2) 39 6 (.slice oo sout.length oc) sout.length ((bump sout []).flatMap capsC) := own_below hout2 hb2
          have hstk3 := own_below hstk2 hb2
          have hbz := hb2.size
          have hlb : (bump sout []).length = sout.length := bump_len _ _
          have hne3 := hne
          have hbl2 := hB3.size
          have hm3 : w2.heap.size = w2.heap.size := rfl
          have hob3 := block_cell hbo3 0
          have hcx2 := block_cell hx2
          have hd0 := hcx2 0; have hd1 := hcx2 1; have hd2 := hcx2 2; have hd3 := hcx2 3; have hd4 := hcx2 4; have hd5 := hcx2 5; clear hcx2
          clear hc0 hc1 hc2 hc3 hc4 hc5 hob hof htop
          have hrow6 := row_new w2 39 #[.int .i64 xk, .int .i64 xa, .int .i64 (xa + xl), .int .i64 0, .int .i64 xn, .string xs] 6 rfl
          have hW6 := hB3.size
          go_wp2_with (at_builtin; refine wpList_append_row rfl _ _ 24 rfl (w.heap.size + 2) 39 i0 _ 6 56 Try.underlying24 hi hz0 hz1 hz2 rfl (by decide) (.slice oo sout.length oc) _ _ rfl (hout3.alloc _) (.slice (some ⟨w2.heap.size, 0, none⟩) 1 1) 1 (#[.int .i64 xk, .int .i64 xa, .int .i64 (xa + xl), .int .i64 0, .int .i64 xn, .string xs] : Array Value).toList rfl hrow6 ?c6 ?c3 ?c4 ?c5 ?_)
          case c6 => simp [Value.oneCell']
          case c3 => unfold maxLen; omega
          case c4 => omega
          case c5 => have := block_lt hbe3; simp; omega
          intro v6 w6 hown6 hg6 hb6
          obtain ⟨zo, zc, rfl⟩ := (RowIs.of_owns hown6).form
          have hbo6 := grown_heap hg6 (alloc_old hbo3) (fun e => by have := (hout3.lt _ e.symm).1; omega)
          have hbe6 := grown_heap hg6 (alloc_old hbe3) (fun e => by have := (hout3.lt _ e.symm).1; omega)
          have hstk6 := (hstk3.alloc (.cells #[.int .i64 xk, .int .i64 xa, .int .i64 (xa + xl), .int .i64 0, .int .i64 xn, .string xs] 39)).kept hg6 (by
            rcases hpo : (.slice oo sout.length oc : Value).ownBlock with _ | b
            · cases hso : (.slice (some ⟨gs, 0, none⟩) (m + 1) sc : Value).ownBlock with
              | none => exact .inl rfl
              | some c => exact .inr (by simp)
            · cases hso : (.slice (some ⟨gs, 0, none⟩) (m + 1) sc : Value).ownBlock with
              | none => exact .inl rfl
              | some c => exact .inr (fun e => by injection e with e; subst e; exact hne3 _ hpo hso))
          have hB6 : Below w.heap.size w w6 := (hB3.alloc hW6 _).grown hg6 (by simp; omega) (fun b e => by have := (hout3.lt b e).1; omega)
          have hne6 : ∀ b, (Value.slice zo (sout.length + 1) zc).ownBlock = some b → (.slice (some ⟨gs, 0, none⟩) (m + 1) sc : Value).ownBlock ≠ some b := by
            intro b e1 e2
            have hbl3 := (hstk3.lt b e2).2
            rcases hb6 with e3 | e3
            · exact hne3 b (e3.symm.trans e1) e2
            · rw [e1] at e3; injection e3 with e3; first | omega | (simp at e3; omega)
          have hob6 := block_cell hbo6 0
          have hof6 := block_free hbo6 0
          go_wp2_with (fail)
          have hown7 : w6.ownsRow (w.heap.size + 2) 39 6 (.slice zo (sout.length + 1) zc) (bump sout [] ++ [(⟨xk, xa, xa + xl, 0, xn, xs⟩ : Cap)]).length ((bump sout [] ++ [(⟨xk, xa, xa + xl, 0, xn, xs⟩ : Cap)]).flatMap capsC) := by
            rw [flat_snoc, List.length_append, hlb]; exact hown6
          have hgs := grown_set w6 w.heap.size 0 (.slice zo (sout.length + 1) zc)
          have hown8 := hown7.kept hgs (by
            cases hso : (Value.slice zo (sout.length + 1) zc).ownBlock with
            | none => exact .inl rfl
            | some c => exact .inr (fun e => by injection e with e; have := (hown7.lt c hso).1; omega))
          have hstk8 := hstk6.kept hgs (by
            cases hso : (.slice (some ⟨gs, 0, none⟩) (m + 1) sc : Value).ownBlock with
            | none => exact .inl rfl
            | some c => exact .inr (fun e => by injection e with e; have := (hstk6.lt c hso).1; omega))
          have hbo8 := heap_setCell_self hbo6 0 (.slice zo (sout.length + 1) zc)
          have hbe8 := (heap_setCell_ne (w := w6) 0 (w.heap.size + 1) (.slice zo (sout.length + 1) zc) (b := w.heap.size) (by omega)).trans hbe6
          have hB8 := hB6.setCell (p := ⟨w.heap.size, 0, none⟩) (Nat.le_refl _) (.slice zo (sout.length + 1) zc)
          go_roundw
          case rel => exact ⟨k + 1, by omega, by go_num, _, _, hst2, rfl, hbo8, hbe8, hown8, by rw [show [].length = m from hm.out.symm]; exact hstk8, hne6, hB8⟩
          case measure => simp [intOf]; omega
        | cons q r =>
          replace htop : w1.cell? ⟨gs, m, none⟩ = some (.iface 77 (.agg #[.pointer (some ⟨w.heap.size, 0, none⟩), .int .i64 (q : Int)])) := htop
          have hq : q < sout.length := hok.lt q (by simp)
          have hmr := hid (show m = r.length + 1 from hm.out)
          by_cases h19 : xo = 19
          · subst h19
            obtain ⟨gp, o2, rfl, -⟩ := (RowIs.of_owns hout2).at (by omega)
            obtain rfl := owns_off hout2
            have hgo := (hout2.lt gp rfl).1
            have hst2 : foldF false fs0 (l.take (k + 1)) = some ⟨sout.modify q (toAt xa), r, xa + xl⟩ := by rw [foldF_take hx hst]; simp [stepF, hno]
            have z1 := block_lt hbo2
            have z2 := block_lt hx1
            have z3 := (hout2.lt gp rfl).2
            have z4 := (hstk2.lt gs rfl).2
            have ht := (hout2.cellAt (q * 6 + 2) (by omega)).trans (flat_at (j := 2) capsC_len hq (by decide))
            replace ht : w1.cell? ⟨gp, q * 6 + 2, none⟩ = some (.int .i64 (sout[q].to)) := ht
            have hf := hout2.frozenAt (q * 6 + 2)
            obtain ⟨hs, hg⟩ := hout2.stored (q * 6 + 2) (.int .i64 xa)
            have q1 : (0 : Int) ≤ (q : Int) := by omega
            have q2 : (q : Int) < (sout.length : Int) := by omega
            have q3 : (m : Int) ≤ (sc : Int) := by omega
            rw [flat_to xa hq] at hs
            have hopn3 := owns_shorter (hstk2.kept hg (.inr (fun e => hne gp rfl e))) (m := m) (by omega)
            have hopn4 : (w1.setCell ⟨gp, q * 6 + 2, none⟩ (.int .i64 xa)).ownsRow (w.heap.size + 2) 74 1 (.slice (some ⟨gs, 0, none⟩) m sc) m (stkL w.heap.size r) := by
              rw [stkL_cons, show m * 1 = (stkL w.heap.size r).length from by rw [hmr.out]; simp [stkL], List.take_left'] at hopn3
              · exact hopn3
              · rfl
            have hbo3 := (heap_setCell_ne (w := w1) (q * 6 + 2) w.heap.size (.int .i64 xa) (b := gp) (by omega)).trans hbo2
            have hbe3 := (heap_setCell_ne (w := w1) (q * 6 + 2) (w.heap.size + 1) (.int .i64 xa) (b := gp) (by omega)).trans hbe2
            have hB3 := hB2.setCell (p := ⟨gp, q * 6 + 2, none⟩) (by show w.heap.size ≤ gp; omega) (.int .i64 xa)
            go_wp2_with (fail)
            go_roundw
            case rel => exact ⟨k + 1, by omega, by go_num, _, _, hst2, rfl, alloc_old hbo3, alloc_old hbe3, by rw [List.length_modify]; exact hs.alloc _, by rw [show r.length + 1 = m from hmr.out.symm]; exact hopn4.alloc _, (fun b e1 e2 => hne b e1 e2), hB3.alloc hB3.size _⟩
            case measure => simp [intOf]; omega
          have hn19 : (xo == 19) = false := by simp [h19]
          by_cases h18 : xo = 18
          · subst h18
            have hst2 : foldF false fs0 (l.take (k + 1)) = some ⟨bump sout (q :: r) ++ [⟨xk, xa, 0, 0, xn, xs⟩], sout.length :: (q :: r), xa + xl⟩ := by rw [foldF_take hx hst]; simp [stepF, hno]
            go_wp2_with (fail)
            obtain ⟨gp, o2, rfl, -⟩ := (RowIs.of_owns hout2).at (by omega)
            obtain rfl := owns_off hout2
            have hgo := (hout2.lt gp rfl).1
            have hkq : IntKind.i64.wrap (sout[q].kids + 1) = sout[q].kids + 1 := by have := hok.kids sout[q] (List.getElem_mem hq); rw [IntKind.wrap_i64]; omega
            have hxq : (sout.flatMap capsC)[q * 6 + 3]? = some (.int .i64 sout[q].kids) := flat_at (j := 3) capsC_len hq (by decide)
            refine (openWithin_any w.heap.size gp sout.length oc q (w.heap.size + 2) sout[q].kids _ _ hbo2 (by have := block_lt hbe2; omega) hout2 hq hxq (by omega) hkq (by omega)).mono ?_
            rintro e w2 ⟨rfl, hout3, hbo3, hg2⟩
            rw [flat_kid hq] at hout3
            have hx2 := grown_heap hg2 hx1 (by have := holo gp rfl; intro e; injection e with e; omega)
            have hbe3 := grown_heap hg2 hbe2 (by intro e; injection e with e; omega)
            have hB3 : Below w.heap.size w w2 := hB2.grown hg2 hB2.size (fun b e => by injection e with e; omega)
            have hstk3 := hstk2.kept hg2 (.inr (fun e => hne gp rfl e))
            have hbz := hg2.size
            have hlb : (bump sout (q :: r)).length = sout.length := bump_len _ _
            have hne3 := hne
            have hbl2 := hB3.size
            have hm3 : w2.heap.size = w2.heap.size := rfl
            have hob3 := block_cell hbo3 0
            have hcx2 := block_cell hx2
            have hd0 := hcx2 0; have hd1 := hcx2 1; have hd2 := hcx2 2; have hd3 := hcx2 3; have hd4 := hcx2 4; have hd5 := hcx2 5; clear hcx2
            clear hc0 hc1 hc2 hc3 hc4 hc5 hob hof htop
            have hrow := row_new w2 74 #[.iface 77 (.agg #[.pointer (some ⟨w.heap.size, 0, none⟩), .int .i64 (sout.length : Int)])] 1 rfl
            go_wp2_with (at_builtin; refine wpList_append_row rfl _ _ 71 rfl (w.heap.size + 2) 74 k0 _ 1 16 Try.underlying71 ki kz0 kz1 kz2 rfl (by decide) (.slice (some ⟨gs, 0, none⟩) (m + 1) sc) _ _ rfl (hstk3.alloc _) (.slice (some ⟨w2.heap.size, 0, none⟩) 1 1) 1 (#[.iface 77 (.agg #[.pointer (some ⟨w.heap.size, 0, none⟩), .int .i64 (sout.length : Int)])] : Array Value).toList rfl hrow ?d6 ?d3 ?d4 ?d5 ?_)
            case d6 => simp [Value.oneCell']
            case d3 => unfold maxLen; omega
            case d4 => omega
            case d5 => have := block_lt hbe3; simp; omega
            intro v4 w3 hstk4 hg4 hb4
            have hbo4 := grown_heap hg4 (alloc_old hbo3) (fun e => by have := (hstk3.lt _ e.symm).1; omega)
            have hbe4 := grown_heap hg4 (alloc_old hbe3) (fun e => by have := (hstk3.lt _ e.symm).1; omega)
            have hx4 := grown_heap hg4 (alloc_old hx2) (fun e => by have h1 := hsl _ e.symm; omega)
            have hout4 := (hout3.alloc (.cells #[.iface 77 (.agg #[.pointer (some ⟨w.heap.size, 0, none⟩), .int .i64 (sout.length : Int)])] 74)).kept hg4 (by
              rcases hpo : (.slice (some ⟨gp, 0, none⟩) sout.length oc : Value).ownBlock with _ | b
              · exact .inl rfl
              · exact .inr fun e => hne b hpo e.symm)
            have hB4 : Below w.heap.size w w3 := (hB3.alloc hbl2 _).grown hg4 (by simp; omega) (fun b e => by have := (hstk3.lt b e).1; omega)
            have hz4 := hg4.size
            have hstk5 : w3.ownsRow (w.heap.size + 2) 74 1 v4 ((sout.length :: (q :: r)).length + 1) (stkL w.heap.size (sout.length :: (q :: r))) := by
              rw [stkL_cons, List.length_cons, show (q :: r).length + 1 + 1 = m + 1 + 1 from by rw [hm.out]]; exact hstk4
            have hne4 : ∀ b, (.slice (some ⟨gp, 0, none⟩) sout.length oc : Value).ownBlock = some b → v4.ownBlock ≠ some b := by
              intro b e1 e2
              have hbl3 := (hout3.lt b e1).2
              rcases hb4 with e3 | e3
              · exact hne b e1 (e3.symm.trans e2)
              · rw [e2] at e3; injection e3 with e3; first | omega | (simp at e3; omega)
            have hob4 := block_cell hbo4 0
            have hcx4 := block_cell hx4
            have he0 := hcx4 0; have he1 := hcx4 1; have he2 := hcx4 2; have he3 := hcx4 3; have he4 := hcx4 4; have he5 := hcx4 5; clear hcx4 hd0 hd1 hd2 hd3 hd4 hd5 hob3
            have hrow6 := row_new w3 39 #[.int .i64 xk, .int .i64 xa, .int .i64 (0), .int .i64 0, .int .i64 xn, .string xs] 6 rfl
            have hW6 := hB4.size
            go_wp2_with (at_builtin; refine wpList_append_row rfl _ _ 24 rfl (w.heap.size + 2) 39 i0 _ 6 56 Try.underlying24 hi hz0 hz1 hz2 rfl (by decide) (.slice (some ⟨gp, 0, none⟩) sout.length oc) _ _ rfl (hout4.alloc _) (.slice (some ⟨w3.heap.size, 0, none⟩) 1 1) 1 (#[.int .i64 xk, .int .i64 xa, .int .i64 (0), .int .i64 0, .int .i64 xn, .string xs] : Array Value).toList rfl hrow6 ?c6 ?c3 ?c4 ?c5 ?_)
            case c6 => simp [Value.oneCell']
            case c3 => unfold maxLen; omega
            case c4 => omega
            case c5 => have := block_lt hbe4; simp; omega
            intro v6 w6 hown6 hg6 hb6
            obtain ⟨zo, zc, rfl⟩ := (RowIs.of_owns hown6).form
            have hbo6 := grown_heap hg6 (alloc_old hbo4) (fun e => by have := (hout4.lt _ e.symm).1; omega)
            have hbe6 := grown_heap hg6 (alloc_old hbe4) (fun e => by have := (hout4.lt _ e.symm).1; omega)
            have hstk6 := (hstk5.alloc (.cells #[.int .i64 xk, .int .i64 xa, .int .i64 (0), .int .i64 0, .int .i64 xn, .string xs] 39)).kept hg6 (by
              rcases hpo : (.slice (some ⟨gp, 0, none⟩) sout.length oc : Value).ownBlock with _ | b
              · cases hso : (v4 : Value).ownBlock with
                | none => exact .inl rfl
                | some c => exact .inr (by simp)
              · cases hso : (v4 : Value).ownBlock with
                | none => exact .inl rfl
                | some c => exact .inr (fun e => by injection e with e; subst e; exact hne4 _ hpo hso))
            have hB6 : Below w.heap.size w w6 := (hB4.alloc hW6 _).grown hg6 (by simp; omega) (fun b e => by have := (hout4.lt b e).1; omega)
            have hne6 : ∀ b, (Value.slice zo (sout.length + 1) zc).ownBlock = some b → (v4 : Value).ownBlock ≠ some b := by
              intro b e1 e2
              have hbl3 := (hstk5.lt b e2).2
              rcases hb6 with e3 | e3
              · exact hne4 b (e3.symm.trans e1) e2
              · rw [e1] at e3; injection e3 with e3; first | omega | (simp at e3; omega)
            have hob6 := block_cell hbo6 0
            have hof6 := block_free hbo6 0
            go_wp2_with (fail)
            have hown7 : w6.ownsRow (w.heap.size + 2) 39 6 (.slice zo (sout.length + 1) zc) (bump sout (q :: r) ++ [(⟨xk, xa, 0, 0, xn, xs⟩ : Cap)]).length ((bump sout (q :: r) ++ [(⟨xk, xa, 0, 0, xn, xs⟩ : Cap)]).flatMap capsC) := by
              rw [flat_snoc, List.length_append, hlb]; exact hown6
            have hgs := grown_set w6 w.heap.size 0 (.slice zo (sout.length + 1) zc)
            have hown8 := hown7.kept hgs (by
              cases hso : (Value.slice zo (sout.length + 1) zc).ownBlock with
              | none => exact .inl rfl
              | some c => exact .inr (fun e => by injection e with e; have := (hown7.lt c hso).1; omega))
            have hstk8 := hstk6.kept hgs (by
              cases hso : (v4 : Value).ownBlock with
              | none => exact .inl rfl
              | some c => exact .inr (fun e => by injection e with e; have := (hstk6.lt c hso).1; omega))
            have hbo8 := heap_setCell_self hbo6 0 (.slice zo (sout.length + 1) zc)
            have hbe8 := (heap_setCell_ne (w := w6) 0 (w.heap.size + 1) (.slice zo (sout.length + 1) zc) (b := w.heap.size) (by omega)).trans hbe6
            have hB8 := hB6.setCell (p := ⟨w.heap.size, 0, none⟩) (Nat.le_refl _) (.slice zo (sout.length + 1) zc)
            go_roundw
            case rel => exact ⟨k + 1, by omega, by go_num, _, _, hst2, rfl, hbo8, hbe8, hown8, hstk8, hne6, hB8⟩
            case measure => simp [intOf]; omega
          have hn18 : (xo == 18) = false := by simp [h18]
          have hst2 : foldF false fs0 (l.take (k + 1)) = some ⟨bump sout (q :: r) ++ [⟨xk, xa, xa + xl, 0, xn, xs⟩], (q :: r), xa + xl⟩ := by rw [foldF_take hx hst]; simp [stepF, hno, h19, h18]
          go_wp2_with (fail)
          obtain ⟨gp, o2, rfl, -⟩ := (RowIs.of_owns hout2).at (by omega)
          obtain rfl := owns_off hout2
          have hgo := (hout2.lt gp rfl).1
          have hkq : IntKind.i64.wrap (sout[q].kids + 1) = sout[q].kids + 1 := by have := hok.kids sout[q] (List.getElem_mem hq); rw [IntKind.wrap_i64]; omega
          have hxq : (sout.flatMap capsC)[q * 6 + 3]? = some (.int .i64 sout[q].kids) := flat_at (j := 3) capsC_len hq (by decide)
          refine (openWithin_any w.heap.size gp sout.length oc q (w.heap.size + 2) sout[q].kids _ _ hbo2 (by have := block_lt hbe2; omega) hout2 hq hxq (by omega) hkq (by omega)).mono ?_
          rintro e w2 ⟨rfl, hout3, hbo3, hg2⟩
          rw [flat_kid hq] at hout3
          have hx2 := grown_heap hg2 hx1 (by have := holo gp rfl; intro e; injection e with e; omega)
          have hbe3 := grown_heap hg2 hbe2 (by intro e; injection e with e; omega)
          have hB3 : Below w.heap.size w w2 := hB2.grown hg2 hB2.size (fun b e => by injection e with e; omega)
          have hstk3 := hstk2.kept hg2 (.inr (fun e => hne gp rfl e))
          have hbz := hg2.size
          have hlb : (bump sout (q :: r)).length = sout.length := bump_len _ _
          have hne3 := hne
          have hbl2 := hB3.size
          have hm3 : w2.heap.size = w2.heap.size := rfl
          have hob3 := block_cell hbo3 0
          have hcx2 := block_cell hx2
          have hd0 := hcx2 0; have hd1 := hcx2 1; have hd2 := hcx2 2; have hd3 := hcx2 3; have hd4 := hcx2 4; have hd5 := hcx2 5; clear hcx2
          clear hc0 hc1 hc2 hc3 hc4 hc5 hob hof htop
          have hrow6 := row_new w2 39 #[.int .i64 xk, .int .i64 xa, .int .i64 (xa + xl), .int .i64 0, .int .i64 xn, .string xs] 6 rfl
          have hW6 := hB3.size
          go_wp2_with (at_builtin; refine wpList_append_row rfl _ _ 24 rfl (w.heap.size + 2) 39 i0 _ 6 56 Try.underlying24 hi hz0 hz1 hz2 rfl (by decide) (.slice (some ⟨gp, 0, none⟩) sout.length oc) _ _ rfl (hout3.alloc _) (.slice (some ⟨w2.heap.size, 0, none⟩) 1 1) 1 (#[.int .i64 xk, .int .i64 xa, .int .i64 (xa + xl), .int .i64 0, .int .i64 xn, .string xs] : Array Value).toList rfl hrow6 ?c6 ?c3 ?c4 ?c5 ?_)
          case c6 => simp [Value.oneCell']
          case c3 => unfold maxLen; omega
          case c4 => omega
          case c5 => have := block_lt hbe3; simp; omega
          intro v6 w6 hown6 hg6 hb6
          obtain ⟨zo, zc, rfl⟩ := (RowIs.of_owns hown6).form
          have hbo6 := grown_heap hg6 (alloc_old hbo3) (fun e => by have := (hout3.lt _ e.symm).1; omega)
          have hbe6 := grown_heap hg6 (alloc_old hbe3) (fun e => by have := (hout3.lt _ e.symm).1; omega)
          have hstk6 := (hstk3.alloc (.cells #[.int .i64 xk, .int .i64 xa, .int .i64 (xa + xl), .int .i64 0, .int .i64 xn, .string xs] 39)).kept hg6 (by
            rcases hpo : (.slice (some ⟨gp, 0, none⟩) sout.length oc : Value).ownBlock with _ | b
            · cases hso : (.slice (some ⟨gs, 0, none⟩) (m + 1) sc : Value).ownBlock with
              | none => exact .inl rfl
              | some c => exact .inr (by simp)
            · cases hso : (.slice (some ⟨gs, 0, none⟩) (m + 1) sc : Value).ownBlock with
              | none => exact .inl rfl
              | some c => exact .inr (fun e => by injection e with e; subst e; exact hne3 _ hpo hso))
          have hB6 : Below w.heap.size w w6 := (hB3.alloc hW6 _).grown hg6 (by simp; omega) (fun b e => by have := (hout3.lt b e).1; omega)
          have hne6 : ∀ b, (Value.slice zo (sout.length + 1) zc).ownBlock = some b → (.slice (some ⟨gs, 0, none⟩) (m + 1) sc : Value).ownBlock ≠ some b := by
            intro b e1 e2
            have hbl3 := (hstk3.lt b e2).2
            rcases hb6 with e3 | e3
            · exact hne3 b (e3.symm.trans e1) e2
            · rw [e1] at e3; injection e3 with e3; first | omega | (simp at e3; omega)
          have hob6 := block_cell hbo6 0
          have hof6 := block_free hbo6 0
          go_wp2_with (fail)
          have hown7 : w6.ownsRow (w.heap.size + 2) 39 6 (.slice zo (sout.length + 1) zc) (bump sout (q :: r) ++ [(⟨xk, xa, xa + xl, 0, xn, xs⟩ : Cap)]).length ((bump sout (q :: r) ++ [(⟨xk, xa, xa + xl, 0, xn, xs⟩ : Cap)]).flatMap capsC) := by
            rw [flat_snoc, List.length_append, hlb]; exact hown6
          have hgs := grown_set w6 w.heap.size 0 (.slice zo (sout.length + 1) zc)
          have hown8 := hown7.kept hgs (by
            cases hso : (Value.slice zo (sout.length + 1) zc).ownBlock with
            | none => exact .inl rfl
            | some c => exact .inr (fun e => by injection e with e; have := (hown7.lt c hso).1; omega))
          have hstk8 := hstk6.kept hgs (by
            cases hso : (.slice (some ⟨gs, 0, none⟩) (m + 1) sc : Value).ownBlock with
            | none => exact .inl rfl
            | some c => exact .inr (fun e => by injection e with e; have := (hstk6.lt c hso).1; omega))
          have hbo8 := heap_setCell_self hbo6 0 (.slice zo (sout.length + 1) zc)
          have hbe8 := (heap_setCell_ne (w := w6) 0 (w.heap.size + 1) (.slice zo (sout.length + 1) zc) (b := w.heap.size) (by omega)).trans hbe6
          have hB8 := hB6.setCell (p := ⟨w.heap.size, 0, none⟩) (Nat.le_refl _) (.slice zo (sout.length + 1) zc)
          go_roundw
          case rel => exact ⟨k + 1, by omega, by go_num, _, _, hst2, rfl, hbo8, hbe8, hown8, by rw [show (q :: r).length = m from hm.out.symm]; exact hstk8, hne6, hB8⟩
          case measure => simp [intOf]; omega
    · have hke : k = l.length := by omega
      subst hke
      rw [List.take_length] at hst
      obtain ⟨so, sc, rfl⟩ := (RowIs.of_owns hstk).form
      obtain ⟨gs, o1, rfl, -⟩ := (RowIs.of_owns hstk).at (by omega)
      obtain rfl := owns_off hstk
      obtain ⟨sout, sopn, spl⟩ := st
      have hol : sopn.length ≤ l.length := hok.olen
      have htop : wr.cell? ⟨gs, sopn.length, none⟩ = some (topV w.heap.size sopn) := (hstk.cellAt sopn.length (by simp)).trans (stkL_top _ _)
      simp only at hstk hout
      obtain ⟨m, hm⟩ : ∃ m, m = sopn.length := ⟨_, rfl⟩
      rw [← hm] at hstk htop hol
      rw [← hm]
      replace hm := hid hm
      have j3 : IntKind.i64.wrap (((m + 1 : Nat) : Int) - 1) = (m : Int) := by rw [IntKind.wrap_i64]; omega
      have j4 : (0 : Int) ≤ (m : Int) := by omega
      have j5 : (m : Int) < ((m + 1 : Nat) : Int) := by omega
      have hta : ∀ (v : Value) (w : World), (Instr.typeAssert (.iface 70 v) 74 70 false).run Try.prog w = .ok v w := fun v w => assert_holds _ _ v (by kernel_rfl) w
      have hob := block_cell hbo 0
      have hof := block_free hbo 0
      have hoe := block_cell hbe 0
      have hoz := block_free hbe 0
      obtain ⟨zo, zc, rfl⟩ := (RowIs.of_owns hout).form
      cases sopn with
      | nil =>
        replace htop : wr.cell? ⟨gs, m, none⟩ = some (.iface 70 (.agg #[])) := htop
        have hef : endF true l = some sout := by rw [← endF_same]; unfold endF; rw [show (⟨[], [], 0⟩ : FSt) = fs0 from rfl, hst]
        have hf : forestL l = (sout, 0) := by unfold forestL; rw [if_pos (by omega), hef]
        go_wp2_with (fail)
        refine leaves_lives1 (l := l) (v := .slice zo sout.length zc) rfl rfl ?_ ?_ ?_ ?_
        · exact (heap_setCell_ne _ _ _ (by omega)).trans (heap_setCell_self hbo 0 _)
        · rw [hf]; exact heap_setCell_self ((heap_setCell_ne _ _ _ (by omega)).trans hbe) 0 _
        · rw [hf]
          have hg1 := grown_set wr w.heap.size 0 (.slice zo sout.length zc)
          have hg2 := grown_set (wr.setCell ⟨w.heap.size, 0, none⟩ (.slice zo sout.length zc)) (w.heap.size + 1) 0 (.int .i64 0)
          have hko : ∀ b, (Value.slice zo sout.length zc).ownBlock = some b → w.heap.size + 2 ≤ b := fun b h => (hout.lt b h).1
          exact owns_base (Nat.le_add_right _ 2) ((hout.kept hg1 (own_ne hko (by omega))).kept hg2 (own_ne hko (by omega)))
        · exact (hB.setCell (p := ⟨w.heap.size, 0, none⟩) (Nat.le_refl _) _).setCell (p := ⟨w.heap.size + 1, 0, none⟩) (by show w.heap.size ≤ w.heap.size + 1; omega) _
      | cons q r =>
        replace htop : wr.cell? ⟨gs, m, none⟩ = some (.iface 77 (.agg #[.pointer (some ⟨w.heap.size, 0, none⟩), .int .i64 (q : Int)])) := htop
        obtain ⟨X2, T2, hno2⟩ := assert_panics 74 77 70 (.agg #[.pointer (some ⟨w.heap.size, 0, none⟩), .int .i64 (q : Int)]) (by decide) (by kernel_rfl)
        have hef : endF true l = none := by rw [← endF_same]; unfold endF; rw [show (⟨[], [], 0⟩ : FSt) = fs0 from rfl, hst]
        go_wp2_with (fail)
        exact leaves_dies (l := l) rfl rfl (alloc_old hbo) (alloc_old hbe) (by omega) hef (hB.alloc hB.size _)
end Go.Proofs.Ytebebognifiinaa
