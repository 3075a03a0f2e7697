/-
  The reference's Bytes and Count: what each returns, for every set; what lay in memory stays as it was.
-/
import Derived.Test.YtjbdamedofgdgaaDoorMix
import Derived.Test.YtjbdamedofgdgaaDoorMem
namespace Go.Proofs.YtjbdamedofgdgaaDoor
open Go.RowKit
set_option linter.unusedVariables false
set_option linter.unusedSimpArgs false
theorem info_u8 : (Tryd.prog.info? 5).map (fun i => (i.zero, i.size, i.bytes)) = some (some (.int .u8 0), 1, 1) := by kernel_rfl

set_option maxHeartbeats 4000000 in
set_option maxRecDepth 20000 in
theorem rbytes_any (p : Nat → Bool) (w : World) :
    Calls Tryd.prog 7 #[.agg #[.int .u64 (W p 0), .int .u64 (W p 1), .int .u64 (W p 2), .int .u64 (W p 3)]] w fun e w' => e = .returned (.string (strOfNums (memI p 256))) ∧ Below w.heap.size w w' := by
  obtain ⟨i0, hi, hz0, hz1, hz2⟩ := info_parts info_u8
  go_enter Tryd.func7, Tryd.ntmps7
  go_wp2
  go_loopw [3, 4] (fun v i wr => ∃ k : Nat, k ≤ 256 ∧ i = .int .i64 k ∧ wr.heap[w.heap.size]? = some (.cells #[.int .u64 (W p 0), .int .u64 (W p 1), .int .u64 (W p 2), .int .u64 (W p 3)] 24) ∧ wr.ownsRow (w.heap.size + 1) 5 1 v (mem p k).length ((memI p k).map (Value.int .u8)) ∧ Below w.heap.size w wr) (fun _ i _ => 256 - (intOf i).toNat)
  case atStart => exact ⟨0, by omega, rfl, alloc_new _ _, World.ownsRow_nil _ _ _ _, (Below.refl _ _).alloc (Nat.le_refl _) _⟩
  case round =>
    obtain ⟨k, hk, rfl, hP, hown, hB⟩ := hrel
    have hlen := mem_len_le p k
    have hsz := block_lt hP
    have hld := block_cell hP
    by_cases hlt : k < 256
    · have hlt2 : (k : Int) ≤ 255 := by omega
      have hw : IntKind.u8.wrap (k : Int) = (k : Int) := by rw [IntKind.wrap_u8]; omega
      cases hp : p k
      · have hs := hid (mem_no hp)
        have hs2 := hid (memI_no hp)
        have HP := hid hp
        clear hp
        go_wp2_with ((go_at_call 31; with_reducible refine Calls.mono (rhas_val p k false HP.out hlt _) ?_; rintro e w1 ⟨rfl, hb1⟩))
        go_roundw
        case rel => exact ⟨k + 1, by omega, by go_num, below_heap hb1 hsz hP, by rw [hs.out, hs2.out]; exact own_below hown hb1, hB.trans (hb1.mono hB.size)⟩
        case measure => simp [intOf]; omega
      · have hs := hid (mem_yes hp)
        have hs2 := hid (memI_yes hp)
        have HP := hid hp
        clear hp
        go_wp2_with (first
          | (go_at_call 31; with_reducible refine Calls.mono (rhas_val p k true HP.out hlt _) ?_; rintro e w1 ⟨rfl, hb1⟩; have hown1 := own_below hown hb1; have hP1 := below_heap hb1 hsz hP; have hB1 := hB.trans (hb1.mono hB.size))
          | (at_builtin; refine wpList_append_own _ rfl _ _ 44 rfl (w.heap.size + 1) 5 i0 (.int .u8 0) 1 1 Tryd.underlying44 hi hz0 hz1 hz2 rfl (by decide) _ _ _ rfl (hown1.alloc _) ⟨w1.heap.size, 0, none⟩ 1 1 [.int .u8 (k : Int)] rfl rfl (cell_one_new _ _ _) (by simp [Value.oneCell']) (by unfold maxLen; omega) (by omega) (by have := block_lt hP1; simp; omega) ?_; intro v' w2 hown2 hgrow _))
        go_roundw
        case rel =>
          refine ⟨k + 1, by omega, by go_num, grown_heap hgrow (alloc_old hP1) (fun e => by have := own_block_ge hown1 _ e.symm; omega), ?_, (hB1.alloc hB1.size _).grown hgrow (by have := block_lt hP1; simp; omega) (fun b e => by have := own_block_ge hown1 _ e; omega)⟩
          rw [hs.out, hs2.out]
          simpa using hown2
        case measure => simp [intOf]; omega
    · have hke : k = 256 := by omega
      subst hke
      have hconv := own_text Tryd.underlying44 Tryd.underlying5 hown 9 Tryd.underlying9
      go_wp2
      go_ret
      exact ⟨rfl, hB⟩

theorem strOfNums_size (xs : List Int) : (strOfNums xs).size = xs.length := by simp [strOfNums, ByteArray.size]
set_option maxHeartbeats 2000000 in
theorem rcount_any (p : Nat → Bool) (w : World) :
    Calls Tryd.prog 19 #[.agg #[.int .u64 (W p 0), .int .u64 (W p 1), .int .u64 (W p 2), .int .u64 (W p 3)]] w fun e w' => e = .returned (.int .i64 (cnt p 256 : Nat)) ∧ Below w.heap.size w w' := by
  have hsize := hid (show (strOfNums (memI p 256)).size = cnt p 256 by rw [strOfNums_size, memI_len, mem_cnt])
  generalize hs : strOfNums (memI p 256) = s at hsize
  have hb := hid (rbytes_any p)
  rw [hs] at hb
  clear hs
  go_enter Tryd.func19, Tryd.ntmps19
  go_wp2_with ((go_at_call 7; with_reducible refine Calls.mono (hb.out _) ?_; rintro e w1 ⟨rfl, hb1⟩))
  go_ret
  exact ⟨by rw [← hsize.out]; rfl, ((Below.refl _ _).alloc (Nat.le_refl _) _).trans (hb1.mono (by simp))⟩

end Go.Proofs.YtjbdamedofgdgaaDoor
