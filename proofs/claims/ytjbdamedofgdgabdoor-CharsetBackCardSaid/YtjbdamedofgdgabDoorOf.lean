/-
  charset.Of and the reference's Of, Mix, Union, Meet, Less, Not: what each returns, for every text and every set; what lay in memory stays as it was.
-/
import Derived.Test.YtjbdamedofgdgabDoorBits
namespace Go.Proofs.YtjbdamedofgdgabDoor
open Go.RowKit

set_option maxHeartbeats 2000000 in
set_option maxRecDepth 20000 in
theorem of_any (s : ByteArray) (hs : s.size ≤ 140737488351232) (w : World) :
    Calls Tryd.prog 12 #[.string s] w fun e w' =>
      e = .returned (.agg #[.int .u64 (W (ofB s s.size) 0), .int .u64 (W (ofB s s.size) 1), .int .u64 (W (ofB s s.size) 2), .int .u64 (W (ofB s s.size) 3)]) ∧ Below w.heap.size w w' := by
  go_enter Tryd.func12, Tryd.ntmps12
  go_wp2
  go_loopw [4, 7] (fun _ i wr => ∃ k : Nat, k ≤ s.size ∧ i = .int .i64 k ∧ wr.heap[w.heap.size]? = some (.cells #[.int .u64 0, .int .u64 0, .int .u64 0, .int .u64 0] 27) ∧ wr.heap[w.heap.size + 1]? = some (.cells #[.int .u64 (W (ofB s k) 0), .int .u64 (W (ofB s k) 1), .int .u64 (W (ofB s k) 2), .int .u64 (W (ofB s k) 3)] 27) ∧ Below w.heap.size w wr) (fun _ i _ => s.size - (intOf i).toNat)
  case atStart =>
    refine ⟨0, Nat.zero_le _, rfl, ?_, ?_, ((Below.refl _ _).alloc (Nat.le_refl _) _).alloc (by simp) _⟩
    · exact alloc_old (alloc_new _ _)
    · rw [ofB_zero, W_emp, W_emp, W_emp, W_emp]
      exact (by have h := alloc_new (w.alloc (.cells #[.int .u64 0, .int .u64 0, .int .u64 0, .int .u64 0] 27)) (.cells #[.int .u64 0, .int .u64 0, .int .u64 0, .int .u64 0] 27); simpa using h)
  case round =>
    obtain ⟨k, hk, rfl, hR, hA, hB⟩ := hrel
    have hsz : w.heap.size + 1 < wr.heap.size := block_lt hA
    have hld := block_cell hA
    by_cases hlt : k < s.size
    · have hbyte : (s[k].toNat : Int) < 256 := by have := s[k].toNat_lt; omega
      have hw1 : IntKind.i64.wrap (s[k].toNat : Int) = (s[k].toNat : Int) := IntWalk.i64_in _ (by omega)
      have hload := grow_cell hA hsz
      have hsucc := hid (ofB_succ hlt)
      go_wp2
      refine wp_region_grow_tail wr.heap.size 6 (by kernel_rfl) (by kernel_rfl) ?_
      simp only [List.take_succ_cons, List.take_zero, List.drop_succ_cons, List.drop_zero]
      repeat (go_big_quiet_step ((go_at_call 26; refine Calls.grow_of (Nat.le_refl _) (with_any (ofB s k) _ ?_ _); omega)))
      refine wpQuiet_nil ?_
      rintro _ ⟨g, rfl⟩
      have hA' := grow_heap hA hsz g
      have hR' := grow_heap hR (by omega) g
      have hb := hB.trans (g.below.mono hB.size)
      clear hload
      generalize g.val = w1 at *
      have hst := block_free hA'
      have hcl := block_cell hA'
      rw [← hsucc.out]
      go_wp2
      go_roundw
      case rel =>
        refine ⟨k + 1, by omega, by go_num, ?_, set4 hA' _ _ _ _, below_set4 hb (by omega) _ _ _ _⟩
        rw [heap_setCell_ne _ _ _ (by omega), heap_setCell_ne _ _ _ (by omega), heap_setCell_ne _ _ _ (by omega), heap_setCell_ne _ _ _ (by omega)]
        exact hR'
      case measure => simp [intOf]; omega
    · have hke : k = s.size := by omega
      subst hke
      have hst := block_free hR
      have hcr := block_cell hR
      go_wp2
      have hfin := set4 hR (.int .u64 (W (ofB s s.size) 0)) (.int .u64 (W (ofB s s.size) 1)) (.int .u64 (W (ofB s s.size) 2)) (.int .u64 (W (ofB s s.size) 3))
      have hfb := below_set4 hB (Nat.le_refl _) (.int .u64 (W (ofB s s.size) 0)) (.int .u64 (W (ofB s s.size) 1)) (.int .u64 (W (ofB s s.size) 2)) (.int .u64 (W (ofB s s.size) 3))
      exact bodyPost_ret (v := .agg #[.int .u64 (W (ofB s s.size) 0), .int .u64 (W (ofB s s.size) 1), .int .u64 (W (ofB s s.size) 2), .int .u64 (W (ofB s s.size) 3)]) (by have hc := block_cell hfin; simp [results, Tryd.results12, go_sem, hc]) rfl ⟨rfl, hfb⟩




end Go.Proofs.YtjbdamedofgdgabDoor
