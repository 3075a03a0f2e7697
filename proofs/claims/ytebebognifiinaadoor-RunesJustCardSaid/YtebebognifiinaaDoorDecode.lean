/-
  runes.Decode, Valid and Points: what they answer, by the model's own decoding, where the tables of unicode/utf8 are as their initialisers lay them.
-/
import Derived.Test.YtebebognifiinaaDoorShelf
import Derived.Test.YtebebognifiinaaDoorRune
import Derived.Test.YtebebognifiinaaDoorBookInts
import Derived.Laws.Strings3
import Derived.Lib.DecodeN
namespace Go.Proofs.YtebebognifiinaaDoor
open Go.RowKit
set_option linter.unusedVariables false
set_option linter.unusedSimpArgs false
def Tabs (w : World) : Prop := Lib.Utf8Tabs 0 1 w
theorem Tabs.below {w w' : World} (h : Tabs w) (hb : Below w.heap.size w w') : Tabs w' := Utf8Tabs_below h hb
theorem get_extract (s : ByteArray) (pos k : Nat) : (s.extract pos s.size).get! k = s.get! (pos + k) := by
  have hd : (s.extract pos s.size).data = s.data.extract pos s.size := ByteArray.data_extract
  show (s.extract pos s.size).data[k]! = s.data[pos + k]!
  rw [hd]
  simp only [getElem!_def, Array.getElem?_extract]
  have hs : s.size = s.data.size := rfl
  by_cases h : k < min s.size s.data.size - pos
  · rw [if_pos h]
  · rw [if_neg h]
    have : s.data[pos + k]? = none := by
      apply Array.getElem?_eq_none
      rw [hs, Nat.min_self] at h
      omega
    rw [this]
theorem decode_extract (s : ByteArray) (pos : Nat) : Utf8.decode (s.extract pos s.size) 0 = Utf8.decode s pos := by
  have hsz : (s.extract pos s.size).size = s.size - pos := by rw [ByteArray.size_extract]; omega
  rw [Lib.decode_at, Lib.decode_at s pos, hsz]
  simp only [get_extract, Nat.sub_zero, Nat.add_zero, Nat.zero_add]
theorem decodeGo_extract (s : ByteArray) (pos : Nat) (h : pos < s.size) : Lib.decodeGo (s.extract pos s.size) = Utf8.decode s pos := by
  have hsz : (s.extract pos s.size).size = s.size - pos := by rw [ByteArray.size_extract]; omega
  unfold Lib.decodeGo
  rw [if_neg (by omega), decode_extract]
def badD (d : Nat × Nat) : Prop := d.1 = 65533 ∧ d.2 ≤ 1
instance (d : Nat × Nat) : Decidable (badD d) := by unfold badD; infer_instance
def decG (d : Nat × Nat) : Int × Int × Bool := if badD d then (0, 0, false) else (d.1, d.2, true)
def decR (s : ByteArray) (at_ : Int) : Int × Int × Bool := if at_ < 0 ∨ (s.size : Int) ≤ at_ then (0, 0, false) else decG (Utf8.decode s at_.toNat)
set_option maxHeartbeats 4000000 in
set_option maxRecDepth 100000 in
theorem decode_any (s : ByteArray) (at_ : Int) (w : World) (hT : Tabs w) :
    Calls Tryd.prog 9 #[.string s, .int .i64 at_] w fun e w' => e = .returned (.tuple #[.int .i64 (decR s at_).1, .int .i64 (decR s at_).2.1, .bool (decR s at_).2.2]) ∧ Below w.heap.size w w' := by
  have HT := hid hT
  clear hT
  generalize hF : decR s at_ = F
  unfold decR at hF
  go_enter Tryd.func9, Tryd.ntmps9
  by_cases h0 : at_ < 0
  · rw [if_pos (.inl h0)] at hF
    subst hF
    go_wp2
    go_ret3
    exact ⟨rfl, Below.refl _ _⟩
  by_cases h1 : (s.size : Int) ≤ at_
  · rw [if_pos (.inr h1)] at hF
    subst hF
    go_wp2
    go_ret3
    exact ⟨rfl, Below.refl _ _⟩
  rw [if_neg (by omega)] at hF
  obtain ⟨a, rfl⟩ : ∃ a : Nat, at_ = a := ⟨at_.toNat, by omega⟩
  rw [Int.toNat_natCast] at hF
  have hlt : a < s.size := by omega
  have hC := hid (Tryd.utf8_DecodeRuneInString (s.extract a s.size) w HT.out)
  rw [decodeGo_extract s a hlt] at hC
  have hd2 := decode_le s a
  generalize Utf8.decode s a = d at *
  obtain ⟨r, n⟩ := d
  simp only at hC hd2
  have hsl : ∀ w : World, (Instr.slice 9 (.string s) (some (.int .i64 a)) none none).run Tryd.prog w = .ok (.string (s.extract a s.size)) w := fun w => by
    rw [run_slice_string_from_if (P := Tryd.prog) w 9 s .i64 (a : Int) Tryd.underlying9, if_pos (by omega), Int.toNat_natCast]
  go_wp2_with (fail)
  with_reducible refine hC.out.mono ?_
  rintro e w1 ⟨rfl, hb⟩
  unfold decG at hF
  by_cases c1 : r = 65533
  · by_cases c2 : n ≤ 1
    · rw [if_pos (show badD (r, n) from ⟨c1, c2⟩)] at hF
      subst hF
      have c1' : ((r : Int) == 65533) = true := by rw [c1]; rfl
      have c2' : (n : Int) ≤ 1 := by omega
      go_wp2_with (fail)
      go_ret3
      exact ⟨rfl, hb⟩
    · rw [if_neg (fun h => c2 h.2)] at hF
      subst hF
      have c1' : ((r : Int) == 65533) = true := by rw [c1]; rfl
      have c2' : ¬ (n : Int) ≤ 1 := by omega
      go_wp2_with (fail)
      go_ret3
      exact ⟨rfl, hb⟩
  · rw [if_neg (fun h => c1 h.1)] at hF
    subst hF
    have c1' : ((r : Int) == 65533) = false := by rw [beq_eq_false_iff_ne]; omega
    go_wp2_with (fail)
    go_ret3
    exact ⟨rfl, hb⟩
def validFrom (s : ByteArray) : Nat → Nat → Bool
  | 0, _ => true
  | f + 1, pos => if pos < s.size then (if badD (Utf8.decode s pos) then false else validFrom s f (pos + (Utf8.decode s pos).2)) else true
def validB (s : ByteArray) : Bool := validFrom s s.size 0
theorem decR_at (s : ByteArray) (pos : Nat) (h : pos < s.size) : decR s pos = decG (Utf8.decode s pos) := by
  unfold decR; rw [if_neg (by omega), Int.toNat_natCast]
set_option maxHeartbeats 4000000 in
set_option maxRecDepth 100000 in
theorem valid_any (s : ByteArray) (w : World) (hT : Tabs w) (hs : s.size ≤ 4611686018427387904) :
    Calls Tryd.prog 14 #[.string s] w fun e w' => e = .returned (.bool (validB s)) ∧ Below w.heap.size w w' := by
  have HT := hid hT
  clear hT
  generalize hF : validB s = F
  go_enter Tryd.func14, Tryd.ntmps14
  go_wp2
  go_loopw [3, 4] (fun _ _ wr => ∃ (pos fuel : Nat), wr.heap[w.heap.size]? = some (.stringIter s pos) ∧ Below w.heap.size w wr ∧ validFrom s fuel pos = F ∧ s.size ≤ pos + fuel) (fun _ _ wr => s.size - wr.iterPos w.heap.size)
  case atStart =>
    refine ⟨0, s.size, ?_, (Below.refl _ w).alloc (Nat.le_refl _) _, hF, by omega⟩
    exact World.iter_heap w s 0
  case round =>
    obtain ⟨pos, fuel, hit, hbw, hv, hfu⟩ := hrel
    have hsz : w.heap.size < wr.heap.size := (Array.getElem?_eq_some_iff.1 hit).1
    by_cases hp : pos < s.size
    · have hnx : ∀ ty, (Instr.next (.pointer (some ⟨w.heap.size, 0, none⟩)) true ty).run Tryd.prog wr = _ := fun ty => Lib.run_next_any_at wr w.heap.size s pos ty hit hp
      have hwd := width_pos s pos hp
      have hd1 := decode_le s pos
      have hit2 := Lib.iterAt_heap wr w.heap.size s pos (pos + (Utf8.decode s pos).2) hit
      have hbw2 := Lib.below_iterAt hbw (k := w.heap.size) (by omega) s (pos + (Utf8.decode s pos).2)
      obtain ⟨f, rfl⟩ : ∃ f, fuel = f + 1 := ⟨fuel - 1, by omega⟩
      have hv2 : (if pos < s.size then (if badD (Utf8.decode s pos) then false else validFrom s f (pos + (Utf8.decode s pos).2)) else true) = F := hv
      rw [if_pos hp] at hv2
      clear hv
      by_cases c1 : (Utf8.decode s pos).1 = 65533
      · have hC := fun w hw => hid (decode_any s (pos : Int) w hw)
        rw [decR_at s pos hp] at hC
        have hi2 := (Array.getElem?_eq_some_iff.1 hit2).1
        have HT2 := hid (HT.out.below hbw2)
        generalize hw2 : wr.iterAt w.heap.size s (pos + (Utf8.decode s pos).2) = w2 at *
        generalize hd : Utf8.decode s pos = d at *
        obtain ⟨r, n⟩ := d
        simp only at *
        have c1' : ((r : Int) == 65533) = true := by rw [c1]; rfl
        by_cases c2 : n ≤ 1
        · have hb : badD (r, n) := ⟨c1, c2⟩
          rw [if_pos hb] at hv2
          obtain rfl : F = false := hv2.symm
          clear hv2
          have hg : decG (r, n) = (0, 0, false) := by unfold decG; rw [if_pos hb]
          rw [hg] at hC
          go_wp2_with (fail)
          with_reducible refine (hC w2 HT2.out).out.mono ?_
          rintro e w3 ⟨rfl, hb3⟩
          go_wp2_with (fail)
          go_ret
          exact ⟨rfl, hbw2.trans (hb3.mono hbw2.size)⟩
        · have hb : ¬ badD (r, n) := fun h => c2 h.2
          rw [if_neg hb] at hv2
          have hg : decG (r, n) = ((r : Int), (n : Int), true) := by unfold decG; rw [if_neg hb]
          rw [hg] at hC
          go_wp2_with (fail)
          with_reducible refine (hC w2 HT2.out).out.mono ?_
          rintro e w3 ⟨rfl, hb3⟩
          have hit3 := (hb3.block w.heap.size hi2).trans hit2
          go_wp2_with (fail)
          go_roundw
          case rel => exact ⟨pos + n, f, hit3, hbw2.trans (hb3.mono hbw2.size), hv2, by omega⟩
          case measure =>
            simp only [World.iterPos, hit3, hit]
            omega
      · rw [if_neg (fun h => c1 h.1)] at hv2
        have c1' : (((Utf8.decode s pos).1 : Int) == 65533) = false := by rw [beq_eq_false_iff_ne]; omega
        go_wp2_with (fail)
        go_roundw
        case rel => exact ⟨pos + (Utf8.decode s pos).2, f, hit2, hbw2, hv2, by omega⟩
        case measure =>
          simp only [World.iterPos, hit2, hit]
          omega
    · have hnx : ∀ ty, (Instr.next (.pointer (some ⟨w.heap.size, 0, none⟩)) true ty).run Tryd.prog wr = _ := fun ty => Lib.run_next_end_at wr w.heap.size s pos ty hit hp
      obtain rfl : F = true := by
        rw [← hv]
        cases fuel with
        | zero => rfl
        | succ f => exact if_neg hp
      go_wp2_with (fail)
      go_ret
      exact ⟨rfl, hbw⟩
theorem owns_weak {w : World} {B B' e size n : Nat} {v : Value} {xs : List Value} (h : w.ownsRow B e size v n xs) (hb : B' ≤ B) : w.ownsRow B' e size v n xs :=
  ⟨h.1, h.2.imp_right fun ⟨g, cap, cur, e1, e2, e3⟩ => ⟨g, cap, cur, e1, Nat.le_trans hb e2, e3⟩⟩
theorem own_iter {w : World} {B e size n : Nat} {v : Value} {xs : List Value} {k : Nat} {s : ByteArray} {pos : Nat} (h : w.ownsRow B e size v n xs) (hk : w.heap[k]? = some (.stringIter s pos)) (pos' : Nat) : (w.iterAt k s pos').ownsRow B e size v n xs := by
  obtain ⟨h1, h2⟩ := h
  refine ⟨h1, h2.imp_right ?_⟩
  rintro ⟨g, cap, cur, e1, e2, e3, e4⟩
  refine ⟨g, cap, cur, e1, e2, ?_, e4⟩
  rw [Lib.iterAt_other _ _ _ _ _ (by rintro rfl; rw [hk] at e3; cases e3)]
  exact e3
/-- The code points from a place on, behind those so far; the place of what is wrong, the error. -/
def ptsFrom (s : ByteArray) : Nat → Nat → List Int → List Int × Int × Int
  | 0, _, acc => (acc, 0, 0)
  | f + 1, pos, acc => if pos < s.size then (if badD (Utf8.decode s pos) then ([], (pos : Int), 6) else ptsFrom s f (pos + (Utf8.decode s pos).2) (acc ++ [((Utf8.decode s pos).1 : Int)])) else (acc, 0, 0)
def ptsB (s : ByteArray) : List Int × Int × Int := if s.size ≤ 65536 then ptsFrom s s.size 0 [] else ([], 0, 2)
def intsR (l : List Int) : List Value := l.flatMap intsC
set_option maxHeartbeats 4000000 in
set_option maxRecDepth 100000 in
theorem points_any (s : ByteArray) (w : World) (hT : Tabs w) (hs : s.size ≤ 4611686018427387904) :
    Calls Tryd.prog 11 #[.string s] w fun e w' => ∃ v, e = .returned (.tuple #[v, .agg #[.int .i64 (ptsB s).2.1, .int .i64 (ptsB s).2.2]]) ∧ w'.ownsRow w.heap.size 3 1 v (ptsB s).1.length ((ptsB s).1.flatMap intsC) ∧ Below w.heap.size w w' := by
  have HT := hid hT
  clear hT
  obtain ⟨i0, hi, hz0, hz1, hz2⟩ := info_parts info_ints
  generalize hF : ptsB s = F
  unfold ptsB at hF
  go_enter Tryd.func11, Tryd.ntmps11
  by_cases hlong : 65536 < s.size
  · rw [if_neg (by omega)] at hF
    subst hF
    have hl2 : (65536 : Int) < (s.size : Int) := by omega
    go_wp2_with (fail)
    have hn := alloc_new w (.cells #[.int .i64 0, .int .i64 0] 40)
    exact bodyPost_ret (v := .tuple #[.slice none 0 0, .agg #[.int .i64 0, .int .i64 2]]) (by simp [results, Tryd.results11, go_sem]) rfl ⟨_, rfl, World.ownsRow_nil _ _ _ _, (Below.refl _ _).alloc (Nat.le_refl _) _⟩
  rw [if_pos (by omega)] at hF
  have hl2 : ¬ (65536 : Int) < (s.size : Int) := by omega
  go_wp2_with (fail)
  go_loopw [4, 5, 6] (fun out _ _ wr => ∃ (pos fuel : Nat) (acc : List Int), wr.heap[w.heap.size]? = some (.cells #[.int .i64 0, .int .i64 0] 40) ∧ wr.heap[w.heap.size + 1]? = some (.stringIter s pos) ∧ wr.ownsRow (w.heap.size + 2) 3 1 out acc.length (acc.flatMap intsC) ∧ Below w.heap.size w wr ∧ ptsFrom s fuel pos acc = F ∧ s.size ≤ pos + fuel ∧ acc.length ≤ pos) (fun _ _ _ wr => s.size - wr.iterPos (w.heap.size + 1))
  case atStart =>
    refine ⟨0, s.size, [], ?_, ?_, World.ownsRow_nil _ _ _ _, ((Below.refl _ w).alloc (Nat.le_refl _) _).alloc (by simp) _, hF, by omega, Nat.le_refl _⟩
    · exact alloc_old (alloc_new _ _)
    · have := World.iter_heap (w.alloc (.cells #[.int .i64 0, .int .i64 0] 40)) s 0
      simpa using this
  case round =>
    obtain ⟨pos, fuel, acc, hH, hit, hown, hbw, hv, hfu, hacl⟩ := hrel
    have hsz : w.heap.size + 1 < wr.heap.size := (Array.getElem?_eq_some_iff.1 hit).1
    by_cases hp : pos < s.size
    · have hnx : ∀ ty, (Instr.next (.pointer (some ⟨w.heap.size + 1, 0, none⟩)) true ty).run Tryd.prog wr = _ := fun ty => Lib.run_next_any_at wr (w.heap.size + 1) s pos ty hit hp
      have hwd := width_pos s pos hp
      have hd1 := decode_le s pos
      have hit2 := Lib.iterAt_heap wr (w.heap.size + 1) s pos (pos + (Utf8.decode s pos).2) hit
      have hbw2 := Lib.below_iterAt hbw (k := w.heap.size + 1) (by omega) s (pos + (Utf8.decode s pos).2)
      have hown2 := own_iter hown hit (pos + (Utf8.decode s pos).2)
      have hH2 : (wr.iterAt (w.heap.size + 1) s (pos + (Utf8.decode s pos).2)).heap[w.heap.size]? = some (.cells #[.int .i64 0, .int .i64 0] 40) := by rw [Lib.iterAt_other _ _ _ _ _ (by omega)]; exact hH
      obtain ⟨f, rfl⟩ : ∃ f, fuel = f + 1 := ⟨fuel - 1, by omega⟩
      have hv2 : (if pos < s.size then (if badD (Utf8.decode s pos) then ([], (pos : Int), 6) else ptsFrom s f (pos + (Utf8.decode s pos).2) (acc ++ [((Utf8.decode s pos).1 : Int)])) else (acc, 0, 0)) = F := hv
      rw [if_pos hp] at hv2
      clear hv
      have hC := fun w hw => hid (decode_any s (pos : Int) w hw)
      rw [decR_at s pos hp] at hC
      have HT2 := hid (HT.out.below hbw2)
      generalize hw2 : wr.iterAt (w.heap.size + 1) s (pos + (Utf8.decode s pos).2) = w2 at *
      generalize hd : Utf8.decode s pos = d at *
      obtain ⟨r, n⟩ := d
      simp only at *
      have hnil : ∀ w3 : World, w3.heap[w.heap.size + 1]? = some (.stringIter s (pos + n)) → w.heap.size + 1 < w3.heap.size := fun w3 h => (Array.getElem?_eq_some_iff.1 h).1
      by_cases c1 : r = 65533
      · have c1' : ((r : Int) == 65533) = true := by rw [c1]; rfl
        by_cases c2 : n ≤ 1
        · have hb : badD (r, n) := ⟨c1, c2⟩
          rw [if_pos hb] at hv2
          have hg : decG (r, n) = (0, 0, false) := by unfold decG; rw [if_pos hb]
          rw [hg] at hC
          go_wp2_with (fail)
          with_reducible refine (hC w2 HT2.out).out.mono ?_
          rintro e w3 ⟨rfl, hb3⟩
          have hH3 := (hb3.block w.heap.size (block_lt hH2)).trans hH2
          have hB3 := hbw2.trans (hb3.mono hbw2.size)
          have hcl := block_cell hH3
          have hfr := block_free hH3
          have hHz := heap_setCell_self (heap_setCell_self hH3 0 (.int .i64 (pos : Int))) 1 (.int .i64 6)
          have hcz := block_cell hHz
          have hz0 : ((w3.setCell ⟨w.heap.size, 0, none⟩ (.int .i64 (pos : Int))).setCell ⟨w.heap.size, 1, none⟩ (.int .i64 6)).cell? ⟨w.heap.size, 0, none⟩ = some (.int .i64 (pos : Int)) := by
            rw [hcz 0]; rfl
          have hz1 : ((w3.setCell ⟨w.heap.size, 0, none⟩ (.int .i64 (pos : Int))).setCell ⟨w.heap.size, 1, none⟩ (.int .i64 6)).cell? ⟨w.heap.size, 1, none⟩ = some (.int .i64 6) := by
            rw [hcz 1]; rfl
          clear hcz hHz
          go_wp2_with (fail)
          subst hv2
          have hBz : Below w.heap.size w ((w3.setCell ⟨w.heap.size, 0, none⟩ (.int .i64 (pos : Int))).setCell ⟨w.heap.size, 1, none⟩ (.int .i64 6)) := (hB3.setCell (p := ⟨w.heap.size, 0, none⟩) (Nat.le_refl _) _).setCell (p := ⟨w.heap.size, 1, none⟩) (Nat.le_refl _) _
          generalize (w3.setCell ⟨w.heap.size, 0, none⟩ (.int .i64 (pos : Int))).setCell ⟨w.heap.size, 1, none⟩ (.int .i64 6) = wz at *
          refine bodyPost_ret (v := .tuple #[.slice none 0 0, .agg #[.int .i64 (pos : Int), .int .i64 6]]) (by simp [results, Tryd.results11, go_sem, hz0, hz1, Result.andThen]) rfl ⟨_, rfl, World.ownsRow_nil _ _ _ _, hBz⟩
        · have hb : ¬ badD (r, n) := fun h => c2 h.2
          rw [if_neg hb] at hv2
          have hg : decG (r, n) = ((r : Int), (n : Int), true) := by unfold decG; rw [if_neg hb]
          rw [hg] at hC
          go_wp2_with (fail)
          with_reducible refine (hC w2 HT2.out).out.mono ?_
          rintro e w3 ⟨rfl, hb3⟩
          have hH3 := (hb3.block w.heap.size (block_lt hH2)).trans hH2
          have hit3 := (hb3.block (w.heap.size + 1) (hnil w2 hit2)).trans hit2
          have hB3 := hbw2.trans (hb3.mono hbw2.size)
          have hown3 := own_below hown2 hb3
          clear c1'
          subst c1
          have hrow := row_new w3 3 #[.int .i64 65533] 1 rfl
          go_wp2_with (at_builtin; refine wpList_append_row rfl _ _ 22 rfl (w.heap.size + 2) 3 i0 _ 1 8 Tryd.underlying22 hi hz0 hz1 hz2 rfl (by decide) _ acc.length (acc.flatMap intsC) rfl (hown3.alloc _) (.slice (some ⟨w3.heap.size, 0, none⟩) 1 1) 1 (#[.int .i64 65533] : Array Value).toList rfl hrow ?c6 ?c3 ?c4 ?c5 ?_)
          case c6 => simp [Value.oneCell']
          case c3 => unfold maxLen; omega
          case c4 => omega
          case c5 => have := hnil _ hit3; simp; omega
          intro v3 w5 hown5 hg5 hb5
          have hH5 := grown_heap hg5 (alloc_old hH3) (fun e => absurd (own_block_ge hown3 _ e.symm) (by omega))
          have hit5 := grown_heap hg5 (alloc_old hit3) (fun e => absurd (own_block_ge hown3 _ e.symm) (by omega))
          have hB5 := (hB3.alloc hB3.size (.cells #[.int .i64 65533] 3)).grown hg5 (by have := hB3.size; simp; omega) (fun b e => by have := own_block_ge hown3 b e; omega)
          go_wp2_with (fail)
          go_roundw
          case rel => exact ⟨pos + n, f, acc ++ [65533], hH5, hit5, by rw [List.length_append, List.flatMap_append]; exact hown5, hB5, hv2, by omega, by rw [List.length_append, List.length_singleton]; omega⟩
          case measure =>
            simp only [World.iterPos, hit5, hit]
            omega
      · have c1' : ((r : Int) == 65533) = false := by rw [beq_eq_false_iff_ne]; omega
        rw [if_neg (fun h => c1 h.1)] at hv2
        have hH3 := hH2
        have hit3 := hit2
        have hB3 := hbw2
        have hown3 := hown2
        have hrow := row_new w2 3 #[.int .i64 (r : Int)] 1 rfl
        go_wp2_with (at_builtin; refine wpList_append_row rfl _ _ 22 rfl (w.heap.size + 2) 3 i0 _ 1 8 Tryd.underlying22 hi hz0 hz1 hz2 rfl (by decide) _ acc.length (acc.flatMap intsC) rfl (hown3.alloc _) (.slice (some ⟨w2.heap.size, 0, none⟩) 1 1) 1 (#[.int .i64 (r : Int)] : Array Value).toList rfl hrow ?c6 ?c3 ?c4 ?c5 ?_)
        case c6 => simp [Value.oneCell']
        case c3 => unfold maxLen; omega
        case c4 => omega
        case c5 => have := hnil _ hit3; simp; omega
        intro v3 w5 hown5 hg5 hb5
        have hH5 := grown_heap hg5 (alloc_old hH3) (fun e => absurd (own_block_ge hown3 _ e.symm) (by omega))
        have hit5 := grown_heap hg5 (alloc_old hit3) (fun e => absurd (own_block_ge hown3 _ e.symm) (by omega))
        have hB5 := (hB3.alloc hB3.size (.cells #[.int .i64 (r : Int)] 3)).grown hg5 (by have := hB3.size; simp; omega) (fun b e => by have := own_block_ge hown3 b e; omega)
        go_wp2_with (fail)
        go_roundw
        case rel => exact ⟨pos + n, f, acc ++ [(r : Int)], hH5, hit5, by rw [List.length_append, List.flatMap_append]; exact hown5, hB5, hv2, by omega, by rw [List.length_append, List.length_singleton]; omega⟩
        case measure =>
          simp only [World.iterPos, hit5, hit]
          omega
    · have hnx : ∀ ty, (Instr.next (.pointer (some ⟨w.heap.size + 1, 0, none⟩)) true ty).run Tryd.prog wr = _ := fun ty => Lib.run_next_end_at wr (w.heap.size + 1) s pos ty hit hp
      obtain rfl : F = (acc, 0, 0) := by
        rw [← hv]
        cases fuel with
        | zero => rfl
        | succ f => exact if_neg hp
      have hcl := block_cell hH
      have hfr := block_free hH
      have hHz := heap_setCell_self (heap_setCell_self hH 0 (.int .i64 0)) 1 (.int .i64 0)
      have hcz := block_cell hHz
      have hz0 : ((wr.setCell ⟨w.heap.size, 0, none⟩ (.int .i64 0)).setCell ⟨w.heap.size, 1, none⟩ (.int .i64 0)).cell? ⟨w.heap.size, 0, none⟩ = some (.int .i64 0) := by
        rw [hcz 0]; rfl
      have hz1 : ((wr.setCell ⟨w.heap.size, 0, none⟩ (.int .i64 0)).setCell ⟨w.heap.size, 1, none⟩ (.int .i64 0)).cell? ⟨w.heap.size, 1, none⟩ = some (.int .i64 0) := by
        rw [hcz 1]; rfl
      clear hcz hHz
      go_wp2_with (fail)
      have hBz : Below w.heap.size w ((wr.setCell ⟨w.heap.size, 0, none⟩ (.int .i64 0)).setCell ⟨w.heap.size, 1, none⟩ (.int .i64 0)) := (hbw.setCell (p := ⟨w.heap.size, 0, none⟩) (Nat.le_refl _) _).setCell (p := ⟨w.heap.size, 1, none⟩) (Nat.le_refl _) _
      have hoz : ((wr.setCell ⟨w.heap.size, 0, none⟩ (.int .i64 0)).setCell ⟨w.heap.size, 1, none⟩ (.int .i64 0)).ownsRow w.heap.size 3 1 u4 acc.length (acc.flatMap intsC) := owns_weak (ownsRow_setCell_below (ownsRow_setCell_below hown (a := ⟨w.heap.size, 0, none⟩) (by simp) _) (a := ⟨w.heap.size, 1, none⟩) (by simp) _) (by omega)
      generalize (wr.setCell ⟨w.heap.size, 0, none⟩ (.int .i64 0)).setCell ⟨w.heap.size, 1, none⟩ (.int .i64 0) = wz at *
      exact bodyPost_ret (v := .tuple #[u4, .agg #[.int .i64 0, .int .i64 0]]) (by simp [results, Tryd.results11, go_sem, hz0, hz1, Result.andThen]) rfl ⟨_, rfl, hoz, hBz⟩
end Go.Proofs.YtebebognifiinaaDoor
