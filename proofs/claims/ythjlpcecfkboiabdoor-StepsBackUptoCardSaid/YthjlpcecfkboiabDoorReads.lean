/-
  Slices that read as so many elements; what is lent with one more behind its end; appending what came in. No program here.
-/
import Derived.Test.YthjlpcecfkboiabDoorGrow
import Derived.Laws.OwnMore
import Derived.Deep.AppendLies
import Derived.Maps.AppendAt
import Derived.OwnWalk
namespace Go.Proofs.YthjlpcecfkboiabDoor
open Go.RowKit
set_option linter.unusedVariables false
set_option linter.unusedSimpArgs false
theorem keep {a b : World} (h : Below a.heap.size a b) {k : Nat} {x : Obj} (hx : a.heap[k]? = some x) : b.heap[k]? = some x := below_heap h (block_lt hx) hx
theorem alloc_new_at {a : World} {n : Nat} (x : Obj) (h : n = a.heap.size) : (a.alloc x).heap[n]? = some x := by subst h; exact alloc_new a x
/-- The slice v reads as n elements of so many cells each. -/
def RowIs (w : World) (v : Value) (size n : Nat) (xs : List Value) : Prop :=
  xs.length = n * size ∧ ∃ ao cap, v = .slice ao n cap ∧ (0 < n → ∃ g o, ao = some ⟨g, o, none⟩ ∧ ∀ j, j < n * size → w.cell? ⟨g, o + j, none⟩ = xs[j]?)
theorem cell_lt {w : World} {g o : Nat} {v : Value} (h : w.cell? ⟨g, o, none⟩ = some v) : g < w.heap.size := by
  rcases Nat.lt_or_ge g w.heap.size with h' | h'
  · exact h'
  · rw [World.cell?, Array.getElem?_eq_none h'] at h; cases h
theorem RowIs.of_owns {w : World} {base : Nat} {e : TypeId} {size : Nat} {v : Value} {n : Nat} {xs : List Value} (h : w.ownsRow base e size v n xs) : RowIs w v size n xs := by
  refine ⟨h.1, ?_⟩
  rcases h.2 with ⟨rfl, rfl⟩ | ⟨g, cap, cur, rfl, h2⟩
  · exact ⟨none, 0, rfl, fun h => by omega⟩
  · exact ⟨some ⟨g, 0, none⟩, cap, rfl, fun _ => ⟨g, 0, rfl, fun j hj => by rw [Nat.zero_add]; exact World.ownsRow.cellAt ⟨h.1, .inr ⟨g, cap, cur, rfl, h2⟩⟩ j hj⟩⟩
theorem RowIs.block {w : World} {g o size n cap : Nat} {xs : List Value} (h : RowIs w (.slice (some ⟨g, o, none⟩) n cap) size n xs) (hn : 0 < n) (hs : 0 < size) : g < w.heap.size := by
  obtain ⟨h1, ao, cap', e, h2⟩ := h
  obtain ⟨g', o', e', h3⟩ := h2 hn
  injection e with e
  subst e
  injection e' with e'
  injection e' with e1 e2
  subst e1
  subst e2
  have h4 : 0 < n * size := Nat.mul_pos hn hs
  have h5 := h3 0 h4
  rw [List.getElem?_eq_getElem (by omega)] at h5
  exact cell_lt h5
/-- What reads so, reads so where what lay there is as it was. -/
theorem RowIs.below {w w' : World} {v : Value} {size n : Nat} {xs : List Value} (h : RowIs w v size n xs) (hb : Below w.heap.size w w') : RowIs w' v size n xs := by
  obtain ⟨h1, ao, cap, e, h2⟩ := h
  refine ⟨h1, ao, cap, e, fun hn => ?_⟩
  obtain ⟨g, o, e', h3⟩ := h2 hn
  refine ⟨g, o, e', fun j hj => ?_⟩
  have h4 := h3 j hj
  rw [← h4]
  rw [List.getElem?_eq_getElem (by omega)] at h4
  exact hb.cell (p := ⟨g, o + j, none⟩) (cell_lt h4)
theorem RowIs.form {w : World} {v : Value} {size n : Nat} {xs : List Value} (h : RowIs w v size n xs) : ∃ ao cap, v = .slice ao n cap := ⟨h.2.choose, h.2.choose_spec.choose, h.2.choose_spec.choose_spec.1⟩
theorem RowIs.at {w : World} {ao : Option Addr} {c size n : Nat} {xs : List Value} (h : RowIs w (.slice ao n c) size n xs) (hn : 0 < n) : ∃ g o, ao = some ⟨g, o, none⟩ ∧ ∀ j, j < n * size → w.cell? ⟨g, o + j, none⟩ = xs[j]? := by
  obtain ⟨h1, ao', cap', e, h2⟩ := h
  injection e with e
  subst e
  exact h2 hn
theorem below_drewN' {B : Nat} {a w : World} (h : Below B a w) (n : Nat) : Below B a (w.drewN n) := ⟨h.os, h.tape, h.output, h.size, h.block⟩
theorem add_plain (g o j : Nat) : (⟨g, o, none⟩ : Addr).add j = ⟨g, o + j, none⟩ := by
  unfold Addr.add
  split
  · rename_i h; subst h; rfl
  · rfl
/-- What came in is put behind a row of the call's own: nil, empty or not. -/
theorem run_append_row {P : Program} (w : World) (base : Nat) (t ty e : TypeId) (i : TypeInfo) (z : Value) (size bytes : Nat) (ht : P.underlying t = some (.slice e)) (hi : P.info? e = some i) (hz : i.zero = some z)
    (hsize : i.size = size) (hby : i.bytes = bytes) (hzs : z.cells.size = size) (hsz : 0 < size) (v : Value) (n : Nat) (xs : List Value) (hown : w.ownsRow base e size v n xs)
    (u : Value) (m : Nat) (news : List Value) (hr : RowIs w u size m news) (h1 : ∀ x ∈ news, x.oneCell' = true) (h63 : n + m ≤ maxLen) (hbytes : (n + m) * bytes ≤ 140737488355328) (hbase : base ≤ w.heap.size) :
    ∃ v' w', (Builtin.append_ #[t, t] ty #[v, u]).run P w = .ok v' w' ∧ w'.ownsRow base e size v' (n + m) (xs ++ news) ∧ w.grownBy w' v.ownBlock ∧ (v'.ownBlock = v.ownBlock ∨ v'.ownBlock = some w.heap.size) := by
  obtain ⟨hl, ao, cap, rfl, hc⟩ := hr
  cases ao with
  | none =>
    have hm : m = 0 := by
      cases m with
      | zero => rfl
      | succ m => obtain ⟨_, _, h, _⟩ := hc (by omega); cases h
    subst hm
    obtain rfl : news = [] := List.eq_nil_of_length_eq_zero (by simpa using hl)
    refine ⟨v, w, ?_, by simpa using hown, ⟨rfl, rfl, rfl, Nat.le_refl _, fun _ _ _ => rfl⟩, .inl rfl⟩
    rcases hown.2 with ⟨rfl, rfl⟩ | ⟨g, c, cur, rfl, _, _, hnc, _⟩
    · simp [Builtin.append_, run_underlying ht, sizeOf, typeInfo, hi, Builtin.lenOf, Builtin.firstCells]
    · simp [Builtin.append_, run_underlying ht, sizeOf, typeInfo, hi, Builtin.lenOf, Builtin.firstCells, hnc, storeCells]
  | some ad =>
    have hcells : ∀ j x, news[j]? = some x → w.cell? (ad.add j) = some x := by
      intro j x hx
      have hj : j < news.length := (List.getElem?_eq_some_iff.1 hx).1
      have hm : 0 < m := by
        cases m with
        | zero => omega
        | succ m => omega
      obtain ⟨g, o, e', h3⟩ := hc hm
      injection e' with e'
      subst e'
      rw [add_plain, h3 j (by omega), hx]
    obtain ⟨v', w', hrun, h2, h3, _, h5⟩ := run_append_own_at (P := P) w base t ty e i z size bytes ht hi hz hsize hby hzs hsz v n xs hown ad m cap news hl hcells h1 h63 hbytes hbase
    exact ⟨v', w', hrun, h2, h3, h5⟩
theorem wp_append_row {P : Program} {w : World} {o : Oper} {a : Act} {K : Act → World → Prop} {Q : Exit → Act → World → Prop} (s x : Operand) (t : TypeId)
    (ho : o.op = .call { callee := .builtin .append, args := #[s, x], argTypes := #[t, t] }) (base : Nat) (e : TypeId) (i : TypeInfo) (z : Value) (size bytes : Nat) (ht : P.underlying t = some (.slice e)) (hi : P.info? e = some i) (hz : i.zero = some z)
    (hsize : i.size = size) (hby : i.bytes = bytes) (hzs : z.cells.size = size) (hsz : 0 < size) (v : Value) (n : Nat) (xs : List Value) (hs : a.eval s = v) (hown : w.ownsRow base e size v n xs)
    (u : Value) (m : Nat) (news : List Value) (hx : a.eval x = u) (hr : RowIs w u size m news) (h1 : ∀ x ∈ news, x.oneCell' = true) (h63 : n + m ≤ maxLen) (hbytes : (n + m) * bytes ≤ 140737488355328) (hbase : base ≤ w.heap.size)
    (h : ∀ v' w', w'.ownsRow base e size v' (n + m) (xs ++ news) → w.grownBy w' v.ownBlock → (v'.ownBlock = v.ownBlock ∨ v'.ownBlock = some w.heap.size) → K (a.put o.dst v') w') : o.wp P a w K Q := by
  obtain ⟨v', w', hrun, h2, h3, h4⟩ := run_append_row (P := P) w base t o.type e i z size bytes ht hi hz hsize hby hzs hsz v n xs hown u m news hr h1 h63 hbytes hbase
  unfold Oper.wp execOp
  simp only [ho, resolve, invoke, builtin, Sem.run_bind, Sem.run_pure, Result.andThen_ok, List.map_toArray, List.map_cons, List.map_nil, hs, hx, hrun]
  exact h v' w' h2 h3 h4
theorem wpList_append_row {P : Program} {w : World} {ops : Array Oper} {rest : List Oper} {o : Oper} {a : Act} {Q : Exit → Act → World → Prop} (hgd : o.guard = none) (s x : Operand) (t : TypeId)
    (ho : o.op = .call { callee := .builtin .append, args := #[s, x], argTypes := #[t, t] }) (base : Nat) (e : TypeId) (i : TypeInfo) (z : Value) (size bytes : Nat) (ht : P.underlying t = some (.slice e)) (hi : P.info? e = some i) (hz : i.zero = some z)
    (hsize : i.size = size) (hby : i.bytes = bytes) (hzs : z.cells.size = size) (hsz : 0 < size) (v : Value) (n : Nat) (xs : List Value) (hs : a.eval s = v) (hown : w.ownsRow base e size v n xs)
    (u : Value) (m : Nat) (news : List Value) (hx : a.eval x = u) (hr : RowIs w u size m news) (h1 : ∀ x ∈ news, x.oneCell' = true) (h63 : n + m ≤ maxLen) (hbytes : (n + m) * bytes ≤ 140737488355328) (hbase : base ≤ w.heap.size)
    (h : ∀ v' w', w'.ownsRow base e size v' (n + m) (xs ++ news) → w.grownBy w' v.ownBlock → (v'.ownBlock = v.ownBlock ∨ v'.ownBlock = some w.heap.size) → wpList P ops Q rest (a.put o.dst v') w') : wpList P ops Q (o :: rest) a w :=
  wpList_plain hgd fun _ hK => wp_append_row s x t ho base e i z size bytes ht hi hz hsize hby hzs hsz v n xs hs hown u m news hx hr h1 h63 hbytes hbase fun v' w' h2 h3 h4 => hK _ _ (h v' w' h2 h3 h4)
/-- A row of the call's own that is empty and lies in a block. -/
theorem owns_empty (w : World) (base : Nat) (e : TypeId) (size : Nat) (hb : base ≤ w.heap.size) : (w.alloc (.cells #[] e)).ownsRow base e size (.slice (some ⟨w.heap.size, 0, none⟩) 0 0) 0 [] :=
  ⟨by simp, .inr ⟨w.heap.size, 0, #[], rfl, hb, alloc_new w _, Nat.le_refl _, Nat.zero_le _, by simp, by simp⟩⟩
/-- A new block of one element, as a row. -/
theorem row_new (w : World) (e : TypeId) (cs : Array Value) (size : Nat) (hs : cs.size = size) : RowIs (w.alloc (.cells cs e)) (.slice (some ⟨w.heap.size, 0, none⟩) 1 1) size 1 cs.toList := by
  refine ⟨by simp [hs], _, _, rfl, fun _ => ⟨_, _, rfl, fun j hj => ?_⟩⟩
  rw [Nat.zero_add, block_cell (alloc_new w _) j]
  simp
/-- n elements, with one more behind the end, in a block of the caller's own. -/
def Lent (w : World) (base : Nat) (v : Value) (size n : Nat) (xs y : List Value) : Prop :=
  xs.length = n * size ∧ y.length = size ∧ ∃ g cap, v = .slice (some ⟨g, 0, none⟩) n cap ∧ n + 1 ≤ cap ∧ base ≤ g ∧ g < w.heap.size ∧ ∀ j, j < (n + 1) * size → w.cell? ⟨g, j, none⟩ = (xs ++ y)[j]?
theorem Lent.row {w : World} {base : Nat} {v : Value} {size n : Nat} {xs y : List Value} (h : Lent w base v size n xs y) : RowIs w v size n xs := by
  obtain ⟨h1, h2, g, cap, rfl, h3, h4, h5, h6⟩ := h
  refine ⟨h1, _, _, rfl, fun hn => ⟨g, 0, rfl, fun j hj => ?_⟩⟩
  rw [Nat.zero_add, h6 j (by rw [Nat.succ_mul]; omega), List.getElem?_append_left (by omega)]
theorem Lent.below {w w' : World} {base : Nat} {v : Value} {size n : Nat} {xs y : List Value} (h : Lent w base v size n xs y) (hb : Below w.heap.size w w') : Lent w' base v size n xs y := by
  obtain ⟨h1, h2, g, cap, rfl, h3, h4, h5, h6⟩ := h
  exact ⟨h1, h2, g, cap, rfl, h3, h4, Nat.lt_of_lt_of_le h5 hb.size, fun j hj => (hb.cell (p := ⟨g, j, none⟩) h5).trans (h6 j hj)⟩
/-- What was put together, cut to all but its last element. -/
theorem Lent.of_owns {w : World} {base : Nat} {e : TypeId} {size n : Nat} {g cap : Nat} {xs y : List Value} (h : w.ownsRow base e size (.slice (some ⟨g, 0, none⟩) (n + 1) cap) (n + 1) (xs ++ y)) (hx : xs.length = n * size) (hy : y.length = size) :
    Lent w base (.slice (some ⟨g, 0, none⟩) n cap) size n xs y ∧ n + 1 ≤ cap := by
  have hc : n + 1 ≤ cap := by
    rcases h.2 with ⟨e, _⟩ | ⟨g', cap', cur, e, _, _, h1, _⟩
    · cases e
    · injection e with e1 e2 e3; omega
  obtain ⟨k1, k2⟩ := h.lt g rfl
  exact ⟨⟨hx, hy, g, cap, rfl, hc, k1, k2, fun j hj => World.ownsRow.cellAt h j hj⟩, hc⟩
theorem grown_trans {a b c : World} {row : Option Nat} (h : a.grownBy b row) (k : b.grownBy c row) : a.grownBy c row :=
  ⟨k.os.trans h.os, k.tape.trans h.tape, k.output.trans h.output, Nat.le_trans h.size k.size, fun i hi hr => (k.block i (Nat.lt_of_lt_of_le hi h.size) hr).trans (h.block i hi hr)⟩
theorem grown_below {a b : World} {row : Option Nat} (h : Below a.heap.size a b) : a.grownBy b row := ⟨h.os, h.tape, h.output, h.size, fun k hk _ => h.block k hk⟩
theorem grown_set (a : World) (b o : Nat) (v : Value) : a.grownBy (a.setCell ⟨b, o, none⟩ v) (some b) :=
  ⟨rfl, rfl, rfl, by simp [World.setCell], fun k _ hk => Below.heap_setCell _ _ _ k (fun e => hk (by rw [e]))⟩
theorem grown_alloc (a : World) (x : Obj) (row : Option Nat) : a.grownBy (a.alloc x) row := grown_below ((Below.refl _ _).alloc (Nat.le_refl _) _)
/-! ### Rows of records: each of m cells -/
theorem flat_len {α : Type} {f : α → List Value} {m : Nat} (hf : ∀ x, (f x).length = m) (l : List α) : (l.flatMap f).length = l.length * m := by
  induction l with
  | nil => simp
  | cons x l ih => rw [List.flatMap_cons, List.length_append, hf, ih, List.length_cons, Nat.succ_mul]; omega
theorem flat_at {α : Type} {f : α → List Value} {m : Nat} (hf : ∀ x, (f x).length = m) {l : List α} {k j : Nat} (hk : k < l.length) (hj : j < m) : (l.flatMap f)[k * m + j]? = (f l[k])[j]? := by
  induction l generalizing k with
  | nil => cases hk
  | cons x l ih =>
    rw [List.flatMap_cons]
    cases k with
    | zero => rw [List.getElem?_append_left (by rw [hf]; omega)]; simp
    | succ k =>
      rw [List.getElem?_append_right (by rw [hf, Nat.succ_mul]; omega), hf, show (k + 1) * m + j - m = k * m + j by rw [Nat.succ_mul]; omega, ih (by simpa using hk)]
      rfl
/-- A cell of an element of a row. -/
theorem row_cell {α : Type} {f : α → List Value} {m : Nat} (hf : ∀ x, (f x).length = m) {l : List α} {w : World} {g o : Nat} (h : ∀ j, j < l.length * m → w.cell? ⟨g, o + j, none⟩ = (l.flatMap f)[j]?) {k : Nat} (hk : k < l.length) {j : Nat} (hj : j < m) :
    w.cell? ⟨g, o + k * m + j, none⟩ = (f l[k])[j]? := by
  have h1 : k * m + j < l.length * m := by
    have : (k + 1) * m ≤ l.length * m := Nat.mul_le_mul_right m hk
    rw [Nat.succ_mul] at this
    omega
  rw [Nat.add_assoc, h _ h1, flat_at hf hk hj]
theorem row_cell0 {α : Type} {f : α → List Value} {m : Nat} (hf : ∀ x, (f x).length = m) {l : List α} {w : World} {g o : Nat} (h : ∀ j, j < l.length * m → w.cell? ⟨g, o + j, none⟩ = (l.flatMap f)[j]?) {k : Nat} (hk : k < l.length) (hj : 0 < m) :
    w.cell? ⟨g, o + k * m, none⟩ = (f l[k])[0]? := row_cell hf h hk hj
end Go.Proofs.YthjlpcecfkboiabDoor
