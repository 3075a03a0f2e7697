/-
  charset.Each, an iterator over the members of a set, rising: its contract for whoever ranges over it.
-/
import Derived.Test.YtjbdamedofgdgaaDoorMBits
import Derived.Test.YtjbdamedofgdgaaDoorCounts
import Derived.RangeFuncNested
import Derived.RangeFuncBound
import Derived.RangeFuncCalls
import Derived.RangeFuncLeaves
import Derived.RangeFuncBox
import Derived.Shelf.Abstract
import Derived.OwnWalkIn
import Derived.TacticsInMore
import Derived.LoopNIn
import Derived.LoopIn
import Derived.Maps.AppendAt
namespace Go.Proofs.YtjbdamedofgdgaaDoor
open Go.RowKit Go.Shelf
set_option linter.unusedVariables false
set_option linter.unusedSimpArgs false
attribute [local go_sem] Oper.semAt_some

abbrev Byt := { x : Nat // x < 256 }
/-- What is left of a set from m on. -/
def restP (p : Nat → Bool) (m : Nat) : Nat → Bool := fun i => p i && decide (m ≤ i)
theorem rest_start (p : Nat → Bool) (k : Nat) : W (restP p (64 * k)) k = W p k := W_congr fun i h0 h1 => by simp [restP, h0]
/-- The next member in a word. -/
theorem rest_next {p : Nat → Bool} {k m : Nat} (hm : 64 * k ≤ m) (hne : (W (restP p m) k != 0) = true) :
    ∃ j, j < 64 ∧ m ≤ 64 * k + j ∧ p (64 * k + j) = true ∧ ∀ i, m ≤ i → i < 64 * k + j → p i = false := by
  have h : ¬ ∀ i, i < 64 → restP p m (64 * k + i) = false := fun h => by
    rw [W_zero h] at hne; cases hne
  obtain ⟨j, h1, h2, h3⟩ := least_ex (q := fun i => restP p m (64 * k + i)) h
  simp only [restP, Bool.and_eq_true, decide_eq_true_eq] at h2
  refine ⟨j, h1, h2.2, h2.1, fun i hi hij => ?_⟩
  have := h3 (i - 64 * k) (by omega)
  simp only [restP, show 64 * k + (i - 64 * k) = i by omega] at this
  simpa [hi] using this
theorem rest_none {p : Nat → Bool} {k m : Nat} (hm : 64 * k ≤ m) (he : (W (restP p m) k != 0) = false) : ∀ i, m ≤ i → i < 64 * k + 64 → p i = false := by
  intro i hi hlt
  cases hp : p i
  · rfl
  · have : (W (restP p m) k != 0) = true := W_some (i := i - 64 * k) (by omega) (by simp [restP, show 64 * k + (i - 64 * k) = i by omega, hp, hi])
    rw [he] at this
    cases this
/-- Nothing between: the members below. -/
theorem mem_skip {p : Nat → Bool} {m : Nat} : ∀ {n : Nat}, m ≤ n → (∀ i, m ≤ i → i < n → p i = false) → mem p n = mem p m
  | 0, h, _ => by rw [show m = 0 by omega]
  | n + 1, h, hz => by
    by_cases e : m = n + 1
    · rw [e]
    · rw [mem_no (hz n (by omega) (by omega)), mem_skip (n := n) (by omega) (fun i h0 h1 => hz i h0 (by omega))]
theorem mem_prefix (p : Nat → Bool) {m n : Nat} (h : m ≤ n) : mem p m <+: mem p n := by
  induction n with
  | zero => rw [show m = 0 by omega]; exact List.prefix_refl _
  | succ n ih =>
    by_cases e : m = n + 1
    · rw [e]; exact List.prefix_refl _
    · have h1 := ih (by omega)
      cases hp : p n
      · rw [mem_no hp]; exact h1
      · rw [mem_yes hp]; exact h1.trans (List.prefix_append _ _)
theorem tz_rest {p : Nat → Bool} {k m j : Nat} (hj : j < 64) (hmj : m ≤ 64 * k + j) (hp : p (64 * k + j) = true) (hz : ∀ i, m ≤ i → i < 64 * k + j → p i = false) (w : World) (hT : TabOk w) :
    Calls Tryd.prog 35 #[.int .u64 (W (restP p m) k)] w fun e w' => e = .returned (.int .i64 (j : Int)) ∧ w' = w :=
  tz_W (restP p m) k j hj (by simp [restP, hp, hmj]) (fun i hi => by
    simp only [restP]
    by_cases h : m ≤ 64 * k + i
    · simp [hz _ h (by omega)]
    · simp [h]) w hT
/-- The word without its lowest member. -/
theorem rest_clear {p : Nat → Bool} {k m j : Nat} (hj : j < 64) (hmj : m ≤ 64 * k + j) (hp : p (64 * k + j) = true) (hz : ∀ i, m ≤ i → i < 64 * k + j → p i = false) :
    bits .and .u64 (W (restP p m) k) (IntKind.u64.wrap (W (restP p m) k - 1)) = W (restP p (64 * k + j + 1)) k ∧ W (restP p (64 * k + j + 1)) k < W (restP p m) k := by
  have hb : (Wn (restP p m) k).testBit j = true := by rw [Wn_testBit]; simp [hj, restP, hp, hmj]
  have hlo : ∀ i, i < j → (Wn (restP p m) k).testBit i = false := fun i hi => by
    rw [Wn_testBit]
    simp only [restP]
    by_cases h : m ≤ 64 * k + i
    · simp [hz _ h (by omega)]
    · simp [h]
  have hpos : 0 < Wn (restP p m) k := Nat.pos_of_ne_zero fun e => by rw [e] at hb; simp at hb
  have hlt := Wn_lt (restP p m) k
  have hw : IntKind.u64.wrap (W (restP p m) k - 1) = ((Wn (restP p m) k - 1 : Nat) : Int) := by
    unfold W
    rw [IntKind.wrap_u64]; omega
  have he : Wn (restP p m) k &&& (Wn (restP p m) k - 1) = Wn (restP p (64 * k + j + 1)) k := by
    apply Nat.eq_of_testBit_eq
    intro i
    rw [clear_low hb hlo, Wn_testBit, Wn_testBit]
    simp only [restP]
    by_cases hi : i < 64
    · by_cases h1 : i = j
      · subst h1; simp
      · rcases Nat.lt_or_gt_of_ne h1 with h | h
        · by_cases h2 : m ≤ 64 * k + i
          · simp [hi, h1, hz _ h2 (by omega)]
          · simp [hi, h1, h2, show ¬ 64 * k + j + 1 ≤ 64 * k + i by omega]
        · simp [hi, h1, show m ≤ 64 * k + i by omega, show 64 * k + j + 1 ≤ 64 * k + i by omega]
    · simp [hi]
  have hle : Wn (restP p (64 * k + j + 1)) k < Wn (restP p m) k := by
    rw [← he]
    have := Nat.and_le_right (n := Wn (restP p m) k) (m := Wn (restP p m) k - 1)
    omega
  refine ⟨?_, by unfold W; omega⟩
  rw [hw]
  unfold W
  rw [(bits_u64 _ _ hlt (by omega)).1, he]
theorem idx_word (p : Nat → Bool) (k : Nat) (hk : k < 4) (w : World) : (Instr.index 24 (.agg #[.int .u64 (W p 0), .int .u64 (W p 1), .int .u64 (W p 2), .int .u64 (W p 3)]) (.int .i64 (k : Int))).run Tryd.prog w = .ok (.int .u64 (W p k)) w := by
  have h : k = 0 ∨ k = 1 ∨ k = 2 ∨ k = 3 := by omega
  rcases h with rfl | rfl | rfl | rfl
  · exact idx4_0 _ _ _ _ w
  · exact idx4_1 _ _ _ _ w
  · exact idx4_2 _ _ _ _ w
  · exact idx4_3 _ _ _ _ w

set_option maxRecDepth 100000 in
set_option maxHeartbeats 4000000 in
theorem each1_in (n : Nat) (hn : 1 ≤ n) (l Bn n₀ : Nat) (hn₀ : 0 < n₀) (p : Nat → Bool) (J Jx : List Byt → World → Prop)
    (hY : ∀ pre x W, J pre W → pre.length < 256 → YieldAt Fence.wide (n - 1) Tryd.prog l #[.int .i64 ((x : Byt).1 : Int)] W fun e W' =>
      (e = .returned (.bool true) ∧ J (pre ++ [x]) W' ∧ Below n₀ W W') ∨ (e = .returned (.bool false) ∧ Jx (pre ++ [x]) W'))
    (M : World) (hBn : M.heap[Bn]? = some (.cells #[.int .u64 (W p 0), .int .u64 (W p 1), .int .u64 (W p 2), .int .u64 (W p 3)] 24)) (hT : TabOk M) (h0 : J [] M) :
    CallsIn Fence.wide n Tryd.prog 42 #[.func (.yield l) #[] #[], .pointer (some ⟨Bn, 0, none⟩)] M fun e W' => (∃ v, e = .returned v) ∧
      ((∃ ys, ys.map (·.1) = mem p 256 ∧ J ys W') ∨ (∃ pre, pre.map (·.1) <+: mem p 256 ∧ Jx pre W')) := by
  have hcb := block_cell hBn
  have HT := hid hT
  clear hT
  refine callsIn_of_wp Tryd.func42 rfl trivial ?_ rfl
  simp only [Tryd.ntmps42, List.size_toArray, List.length_cons, List.length_nil, Nat.reduceAdd, Nat.reduceSub, Array.replicate_succ, Array.replicate_zero, List.push_toArray, List.append_toArray, List.nil_append, List.cons_append]
  gi_wp2
  gi_loopw [3, 4, 6] (fun _ _ c wr => ∃ (k : Nat) (pre : List Byt), k ≤ 4 ∧ c = .int .i64 k ∧ pre.map (·.1) = mem p (64 * k) ∧ J pre wr ∧ TabOk wr) (fun _ _ c _ => 4 - (intOf c).toNat)
  case atStart => exact ⟨0, [], by omega, rfl, rfl, h0, HT.out⟩
  case round =>
    clear hcb hBn HT
    obtain ⟨k, pre, hk, rfl, hpre, hJ, hTr⟩ := hrel
    have HTr := hid hTr
    have HP := hid hpre
    clear hTr hpre
    by_cases hlt : k < 4
    · have hidx := idx_word p k hlt
      have hdk : decide ((k : Int) < 4) = true := decide_eq_true (by omega)
      have hk1 : (k : Int) < 4 := by omega
      obtain ⟨wo, rfl⟩ : ∃ wo : World, wo = wr := ⟨_, rfl⟩
      gi_wp2
      gi_loopw [4] (fun b wr => ∃ (m : Nat) (pre : List Byt), 64 * k ≤ m ∧ m ≤ 64 * k + 64 ∧ b = .int .u64 (W (restP p m) k) ∧ pre.map (·.1) = mem p m ∧ J pre wr ∧ TabOk wr) (fun b _ => (intOf b).toNat)
      case atStart => exact ⟨64 * k, pre, Nat.le_refl _, by omega, by rw [rest_start], HP.out, hJ, HTr.out⟩
      case round =>
        clear HP HTr hJ hidx
        obtain ⟨m, pre, hm0, hm1, rfl, hpre, hJ, hTr⟩ := hrel
        cases hz : (W (restP p m) k != 0)
        · have hsk := hid (mem_skip (p := p) hm1 (rest_none hm0 hz))
          have HTr := hid hTr
          have HP := hid hpre
          clear hTr hpre
          gi_wp2
          go_roundw
          case rel => exact ⟨k + 1, pre, by omega, by go_num, by rw [show 64 * (k + 1) = 64 * k + 64 by omega, hsk.out]; exact HP.out, hJ, HTr.out⟩
          case measure => simp [intOf]; omega
        · obtain ⟨j, hj, hmj, hp, hbt⟩ := rest_next hm0 hz
          obtain ⟨hcl, hless⟩ := rest_clear hj hmj hp hbt
          have hlen : pre.length < 256 := by
            have h1 : (pre.map (·.1)).length = (mem p m).length := by rw [hpre]
            have h2 := mem_len_le p m
            rw [List.length_map] at h1
            omega
          obtain ⟨x, hx0⟩ : ∃ x : Byt, x.1 = 64 * k + j := ⟨⟨64 * k + j, by omega⟩, rfl⟩
          obtain ⟨fn, tmps, assign, body, hy, hR⟩ := hY pre x wr hJ hlen
          have hx : ((x.1 : Nat) : Int) = 64 * (k : Int) + (j : Int) := by omega
          rw [hx] at hy
          have hnext : (pre ++ [x]).map (·.1) = mem p (64 * k + j + 1) := by
            rw [List.map_append, hpre, mem_yes hp, mem_skip (p := p) hmj hbt, List.map_cons, List.map_nil, hx0]
          have HN := hid hnext
          have HTZ := hid (fun w hT => tz_rest hj hmj hp hbt w hT)
          have HTr := hid hTr
          have HLE := hid hless
          have hj1 : (j : Int) < 64 := by omega
          clear hTr hpre hnext hp hbt hless hx hx0
          gi_wp2_with (refine ⟨trivial, ?_⟩; gi_at_call 35; refine (callsIn_wide.2 (HTZ.out _ HTr.out)).mono ?_; rintro e w' ⟨rfl, rfl⟩)
          refine hR.mono ?_
          rintro e W3 (⟨rfl, hJ3, hk3⟩ | ⟨rfl, hJx3⟩)
          · have HT3 := hid (HTr.out.below hk3 hn₀)
            gi_wp2
            go_roundw
            case rel => exact ⟨64 * k + j + 1, _, by omega, by omega, rfl, HN.out, hJ3, HT3.out⟩
            case measure =>
              have h1 := HLE.out
              have h2 := W_nonneg (restP p (64 * k + j + 1)) k
              simp only [intOf]
              omega
          · gi_wp2
            refine bodyPost_ret (results_none rfl _ _ _) rfl ?_
            refine ⟨⟨_, rfl⟩, .inr ⟨_, ?_, hJx3⟩⟩
            rw [HN.out]
            exact mem_prefix p (by omega)
    · obtain rfl : k = 4 := by omega
      gi_wp2
      go_end0
      exact ⟨⟨_, rfl⟩, .inl ⟨pre, HP.out, hJ⟩⟩

set_option maxHeartbeats 1000000 in
theorem each_in (n : Nat) (p : Nat → Bool) (M : World) :
    CallsIn Fence.wide n Tryd.prog 32 #[.agg #[.int .u64 (W p 0), .int .u64 (W p 1), .int .u64 (W p 2), .int .u64 (W p 3)]] M fun e w' =>
      e = .returned (.func (.func 42) #[] #[.pointer (some ⟨M.heap.size, 0, none⟩)]) ∧ w' = M.alloc (.cells #[.int .u64 (W p 0), .int .u64 (W p 1), .int .u64 (W p 2), .int .u64 (W p 3)] 24) := by
  refine callsIn_of_wp Tryd.func32 rfl trivial ?_ rfl
  simp only [Tryd.ntmps32, List.size_toArray, List.length_cons, List.length_nil, Nat.reduceAdd, Nat.reduceSub, Array.replicate_succ, Array.replicate_zero, List.push_toArray, List.append_toArray, List.nil_append, List.cons_append]
  gi_wp2
  go_ret
  exact ⟨rfl, rfl⟩
theorem each_stops (n : Nat) (hn : 1 ≤ n) (Bn n₀ : Nat) (hn₀ : 0 < n₀) (p : Nat → Bool) (M : World) (hBn : M.heap[Bn]? = some (.cells #[.int .u64 (W p 0), .int .u64 (W p 1), .int .u64 (W p 2), .int .u64 (W p 3)] 24)) (hT : TabOk M) :
    SeqStopsK Fence.wide n Tryd.prog 42 #[.pointer (some ⟨Bn, 0, none⟩)] (fun x : Byt => #[Value.int .i64 (x.1 : Int)]) (Below n₀) (fun ys => ys.map (·.1) = mem p 256) (fun pre => pre.map (·.1) <+: mem p 256) 256 M :=
  fun l J Jx W0 hW _ _ hY h0 => each1_in n hn l Bn n₀ hn₀ p J Jx hY W0 (below_heap hW (block_lt hBn) hBn) (hT.below hW hT.1) h0
end Go.Proofs.YtjbdamedofgdgaaDoor
