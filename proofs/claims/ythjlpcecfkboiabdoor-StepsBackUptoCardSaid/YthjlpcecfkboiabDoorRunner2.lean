/-
  The runner of steps, what writes its memory: push, note, top, fail.
-/
import Derived.Test.YthjlpcecfkboiabDoorRunner
import Derived.WalkKit
import Derived.BigQuiet
import Derived.Deep.RegionLaw
namespace Go.Proofs.YthjlpcecfkboiabDoor
open Go.RowKit
set_option linter.unusedVariables false
set_option linter.unusedSimpArgs false
/-- append to a row of the call's own, as one step of a region that draws. -/
theorem step_append_row {P : Program} {ops : Array Oper} {w : World} {o : Oper} {a : Act} {K : Act → World → Prop} {Q : Exit → Act → World → Prop} {E : Prop} (hg : o.guard = none) (s x : Operand) (t : TypeId)
    (ho : o.op = .call { callee := .builtin .append, args := #[s, x], argTypes := #[t, t] }) (base : Nat) (e : TypeId) (i : TypeInfo) (z : Value) (size bytes : Nat) (ht : P.underlying t = some (.slice e)) (hi : P.info? e = some i) (hz : i.zero = some z)
    (hsize : i.size = size) (hby : i.bytes = bytes) (hzs : z.cells.size = size) (hsz : 0 < size) (v : Value) (n : Nat) (xs : List Value) (hs : a.eval s = v) (hown : w.ownsRow base e size v n xs)
    (u : Value) (m : Nat) (news : List Value) (hx : a.eval x = u) (hr : RowIs w u size m news) (h1 : ∀ x ∈ news, x.oneCell' = true) (h63 : n + m ≤ maxLen) (hbytes : (n + m) * bytes ≤ 140737488355328) (hbase : base ≤ w.heap.size)
    (h : ∀ v' w', w'.ownsRow base e size v' (n + m) (xs ++ news) → w.grownBy w' v.ownBlock → (v'.ownBlock = v.ownBlock ∨ v'.ownBlock = some w.heap.size) → K (a.put o.dst v') w') :
    if Region.wanted o (yielded ops a.tmps) = true then Oper.wp P o a w K Q else E := by
  rw [if_pos (by simp [Region.wanted, hg])]
  exact wp_append_row s x t ho base e i z size bytes ht hi hz hsize hby hzs hsz v n xs hs hown u m news hx hr h1 h63 hbytes hbase h
theorem own_typed' {w : World} {base : Nat} {e : TypeId} {size n : Nat} {v : Value} {xs : List Value} (h : w.ownsRow base e size v n xs) (k : Nat) (hk : v.ownBlock = some k) : ∃ cells, w.heap[k]? = some (.cells cells e (0, 0)) := by
  rcases h.2 with ⟨rfl, _⟩ | ⟨g, cap, cur, rfl, hg, hh, r⟩
  · simp [Value.ownBlock] at hk
  · have : g = k := by simpa [Value.ownBlock] using hk
    subst this
    exact ⟨cur, hh⟩
theorem own_move' {w w1 : World} {base : Nat} {e : TypeId} {size n : Nat} {v : Value} {xs : List Value} (h : w.ownsRow base e size v n xs) (hm : ∀ k, v.ownBlock = some k → w1.heap[k]? = w.heap[k]?) : w1.ownsRow base e size v n xs := by
  obtain ⟨h1, h2⟩ := h
  refine ⟨h1, ?_⟩
  rcases h2 with h2 | ⟨g, cap, cur, rfl, hg, hh, r⟩
  · exact .inl h2
  · exact .inr ⟨g, cap, cur, rfl, hg, (hm g (by simp [Value.ownBlock])).trans hh, r⟩
/-- A store into a block of another type. -/
theorem own_set {w : World} {base r T : Nat} {cs : Array Value} {e : TypeId} {size n : Nat} {v : Value} {xs : List Value} (h : w.ownsRow base e size v n xs) (hr : w.heap[r]? = some (.cells cs T)) (hT : T ≠ e) (i : Nat) (u : Value) : (w.setCell ⟨r, i, none⟩ u).ownsRow base e size v n xs :=
  own_move' h fun k hk => heap_setCell_ne _ _ _ (fun he => by
    obtain ⟨c2, h2⟩ := own_typed' h k hk
    subst he
    rw [hr] at h2
    injection h2 with h2
    injection h2 with _ h2
    exact hT h2)
/-- Behind an append to a row of another type. -/
theorem own_other {w w1 : World} {base : Nat} {e e2 : TypeId} {size n size2 n2 : Nat} {v v2 : Value} {xs ys : List Value} (h : w.ownsRow base e size v n xs) (h2 : w.ownsRow base e2 size2 v2 n2 ys) (hT : e ≠ e2) (hg : w.grownBy w1 v2.ownBlock) : w1.ownsRow base e size v n xs :=
  own_move' h fun k hk => by
    obtain ⟨c1, k1⟩ := own_typed' h k hk
    refine hg.block k (block_lt k1) (fun he => ?_)
    obtain ⟨c2, k2⟩ := own_typed' h2 k he.symm
    rw [k1] at k2
    injection k2 with k2
    injection k2 with _ k2
    exact hT k2
theorem cell_alloc {W : World} {x : Obj} {b : Nat} (h : b < W.heap.size) (o : Nat) : (W.alloc x).cell? ⟨b, o, none⟩ = W.cell? ⟨b, o, none⟩ := ((Below.refl W.heap.size W).alloc (Nat.le_refl _) x).cell (p := ⟨b, o, none⟩) h
/-- Blocks of instructions stay as they are. -/
def KeepsI (w w' : World) : Prop := ∀ (b : Nat) (cs : Array Value), w.heap[b]? = some (.cells cs 68) → w'.heap[b]? = some (.cells cs 68)
theorem KeepsI.below {w w' : World} (h : Below w.heap.size w w') : KeepsI w w' := fun b cs hb => keep h hb
theorem KeepsI.trans {a b c : World} (h : KeepsI a b) (k : KeepsI b c) : KeepsI a c := fun x cs hx => k x cs (h x cs hx)
theorem KeepsI.grown {w w' : World} {base : Nat} {e : TypeId} {size n : Nat} {v : Value} {xs : List Value} (hS : w.ownsRow base e size v n xs) (he : e ≠ 68) (hg : w.grownBy w' v.ownBlock) : KeepsI w w' := fun b cs hb => (hg.block b (block_lt hb) (fun h => by
  obtain ⟨c2, h2⟩ := own_typed' hS b h.symm
  rw [hb] at h2
  injection h2 with h2
  injection h2 with _ h2
  exact he h2.symm)).trans hb
theorem KeepsI.set {w : World} {r T : Nat} {cs : Array Value} (hr : w.heap[r]? = some (.cells cs T)) (hT : T ≠ 68) (i : Nat) (u : Value) : KeepsI w (w.setCell ⟨r, i, none⟩ u) := fun b c2 hb => (heap_setCell_ne _ _ _ (fun he => by
  subst he
  rw [hr] at hb
  injection hb with hb
  injection hb with _ hb
  exact hT hb)).trans hb
/-- A runner lies at r, its lists are rows of the call's own (blocks from B on). -/
def RunW (w : World) (B r : Nat) (code : Value) (s : ByteArray) (l0 l1 l2 : Int) (x : MSt) : Prop :=
  ∃ sv lv, w.heap[r]? = some (.cells (runC code s l0 l1 l2 x sv lv) 83) ∧ B ≤ r ∧ w.ownsRow B 56 4 sv x.stack.length (x.stack.flatMap entC) ∧ w.ownsRow B 59 6 lv x.log.length (x.log.flatMap notC)
theorem RunW.below {w w' : World} {B r : Nat} {code : Value} {s : ByteArray} {l0 l1 l2 : Int} {x : MSt} (h : RunW w B r code s l0 l1 l2 x) (hb : Below w.heap.size w w') : RunW w' B r code s l0 l1 l2 x := by
  obtain ⟨sv, lv, h1, h2, h3, h4⟩ := h
  exact ⟨sv, lv, keep hb h1, h2, own_below h3 hb, own_below h4 hb⟩
theorem info_ent : (Tryd.prog.info? 56).map (fun i => (i.zero, i.size, i.bytes)) = some (some (.agg #[.bool false, .int .i64 0, .int .i64 0, .int .i64 0]), 4, 32) := by kernel_rfl
theorem info_not : (Tryd.prog.info? 59).map (fun i => (i.zero, i.size, i.bytes)) = some (some (.agg #[.int .i64 0, .int .i64 0, .int .i64 0, .int .i64 0, .int .i64 0, .string ⟨#[]⟩]), 6, 56) := by kernel_rfl
end Go.Proofs.YthjlpcecfkboiabDoor
