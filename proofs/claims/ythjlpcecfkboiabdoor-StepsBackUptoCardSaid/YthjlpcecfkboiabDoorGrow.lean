/-
  Regions that draw their order and whose calls make memory: the operations are walked once, in the order of the text, over a class of worlds: the worlds that are as w was below block B. No program here.
-/
import Derived.BigQuiet
import Derived.StillTail
import Derived.Below
import Derived.Deep.Draws
import Derived.Laws.BytesArg
import Derived.Laws.AppendOwn
import Derived.WalkKit
namespace Go.Proofs.YthjlpcecfkboiabDoor
open Go.RowKit Go

theorem below_drewN {B : Nat} {a w : World} (h : Below B a w) (n : Nat) : Below B a (w.drewN n) := ⟨h.os, h.tape, h.output, h.size, h.block⟩
theorem hid {p : Prop} (h : p) : Hid p := h

/-- A world that is as w was below B. -/
structure Grow (B : Nat) (w : World) where
  val : World
  below : Below B w val

instance (B : Nat) (w : World) : Nonempty (Grow B w) := ⟨⟨w, Below.refl _ _⟩⟩

theorem Grow.cell {B : Nat} {w : World} (g : Grow B w) {b : Nat} (h : b < B) (o : Nat) : g.val.cell? ⟨b, o, none⟩ = w.cell? ⟨b, o, none⟩ := g.below.cell (p := ⟨b, o, none⟩) h
theorem Grow.frozen {B : Nat} {w : World} (g : Grow B w) {b : Nat} (h : b < B) (o : Nat) : g.val.frozen? ⟨b, o, none⟩ = w.frozen? ⟨b, o, none⟩ := g.below.frozen (p := ⟨b, o, none⟩) h
theorem Grow.block {B : Nat} {w : World} (g : Grow B w) {b : Nat} (h : b < B) : g.val.heap[b]? = w.heap[b]? := g.below.block b h

section
variable {P : Program} {B : Nat} {w : World}

end

/-! ### A region whose last operations stand in one forced order: its head over the class, its tail in each world of the class -/
section
variable {P : Program} {ops : Array Oper} {md : Region.Mode} {C : World → Prop}

end

/-! ### A row of the call's own -/
theorem own_below {w w' : World} {base : Nat} {e : TypeId} {size : Nat} {v : Value} {n : Nat} {xs : List Value} (h : w.ownsRow base e size v n xs) (hb : Below w.heap.size w w') : w'.ownsRow base e size v n xs := by
  obtain ⟨h1, h2⟩ := h
  refine ⟨h1, ?_⟩
  rcases h2 with h2 | ⟨g, cap, cur, hv, hg, hh, r⟩
  · exact .inl h2
  · exact .inr ⟨g, cap, cur, hv, hg, (hb.block g (Array.getElem?_eq_some_iff.1 hh).1).trans hh, r⟩
/-! ### An array of four cells: stored whole into a block that is known whole -/
section
variable {w : World} {b : Nat} {T : TypeId} {x0 x1 x2 x3 : Value}
theorem heap_setCell_self {cs : Array Value} {fr : Nat × Nat} (h : w.heap[b]? = some (.cells cs T fr)) (o : Nat) (v : Value) :
    (w.setCell ⟨b, o, none⟩ v).heap[b]? = some (.cells (cs.setIfInBounds o v) T fr) := by
  simp [World.setCell, Array.getElem?_modify, h]
theorem heap_setCell_ne (o c : Nat) (v : Value) (h : c ≠ b) : (w.setCell ⟨b, o, none⟩ v).heap[c]? = w.heap[c]? := Below.heap_setCell _ _ _ _ h
theorem block_lt {o : Obj} (h : w.heap[b]? = some o) : b < w.heap.size := (Array.getElem?_eq_some_iff.1 h).1
theorem block_cell {cs : Array Value} {fr : Nat × Nat} (h : w.heap[b]? = some (.cells cs T fr)) (o : Nat) : w.cell? ⟨b, o, none⟩ = cs[o]? := by
  rw [World.cell?, h]; rfl
theorem block_free {cs : Array Value} (h : w.heap[b]? = some (.cells cs T)) (o : Nat) : w.frozen? ⟨b, o, none⟩ = false := by
  rw [World.frozen?, h]; simp
/-- The block that an alloc lays, and the ones ahead of it. -/
theorem alloc_new (w : World) (x : Obj) : (w.alloc x).heap[w.heap.size]? = some x := by
  show (w.heap.push x)[w.heap.size]? = _
  simp
theorem alloc_old {x y : Obj} (h : w.heap[b]? = some x) : (w.alloc y).heap[b]? = some x := (Below.heap_alloc w y b (block_lt h)).trans h
theorem below_heap {B : Nat} {w' : World} (hB : Below B w w') (hb : b < B) {x : Obj} (h : w.heap[b]? = some x) : w'.heap[b]? = some x := (hB.block b hb).trans h
end
end Go.Proofs.YthjlpcecfkboiabDoor
