/-
  lives: an end ends. And code, states between the print's and the walk's form.
-/
import Derived.Test.YthjlpcecfkboiabDoorZx
import Derived.Test.YthjlpcecfkboiabDoorStepsTot
import Derived.Test.YthjlpcecfkboiabDoorGo
import Derived.Test.YthjlpcecfkboiabDoorLit
import Derived.Test.YthjlpcecfkboiabDoorBridge
import Derived.WalkKit
import Derived.BigQuiet
import Derived.BigRegion
namespace Go.Proofs.YthjlpcecfkboiabDoor
open Go.RowKit Go.Proofs.YthjlpcecfkboiabDoorW.PrintWords Go.Proofs.YthjlpcecfkboiabDoor.Z
set_option linter.unusedVariables false
set_option linter.unusedSimpArgs false
theorem code_C {w : World} {A : Option Addr} {c : Nat} {l : List S68} (h : RowIs w (.slice A l.length c) 9 l.length (l.flatMap fun x => insC (insOf x))) (hl : l.length ≤ 9223372036854775807) : Kd.C k68 w A l.length l :=
  C_of_rowIs (d := k68) (enc := fun x => insC (insOf x)) (fun w x => k68_mk w x) (fun _ => rfl) rfl h hl
def endI : S68 := ⟨17, 0, 0, 0, ⟨#[]⟩, ⟨0, 0, 0, 0⟩⟩
def sA : ByteArray := ⟨#[97]⟩
theorem looked_end : steps_looked.f 30 [endI] sA 1 0 0 0 = some 0 ∧ steps_looked.f 30 [endI] sA 0 0 0 1 = some 0 := by constructor <;> decide +kernel
def endIns : Ins := ⟨17, 0, 0, 0, ⟨#[]⟩, 0, 0, 0, 0⟩
theorem good_end : GoodCode [endIns] := by
  refine ⟨by decide, by decide, ?_, ?_, ?_⟩
  · intro i hi
    simp only [List.mem_singleton] at hi
    subst hi
    decide
  · intro k i h ho
    cases k with
    | zero => simp at h; subst h; exact absurd ho (by simp [onOp, endIns])
    | succ k => simp at h
  · intro k i h ho
    cases k with
    | zero => simp at h; subst h; exact absurd ho (by simp [tgOp, endIns])
    | succ k => simp at h
theorem inv_end : Inv [endIns] sA ⟨0, 1, 0, 0, [], []⟩ :=
  ⟨by decide, by decide, by decide, by decide, by decide, by decide, by decide, by decide, (fun e he => by cases he), (fun e he => by cases he), (fun e he => by cases he), List.Pairwise.nil⟩
theorem on_end : onM [endIns] sA 0 0 1 1 ⟨0, 1, 0, 0, [], []⟩ = .ok ⟨0, 1, 1, 1, [], []⟩ := rfl
theorem l_then {a b c : World} (h : Below a.heap.size a b) (k : Below b.heap.size b c) : Below a.heap.size a c := h.trans ⟨k.os, k.tape, k.output, k.size, fun i hi => k.block i (Nat.lt_of_lt_of_le hi h.size)⟩
theorem end_row {w : World} {b : Nat} (h : w.heap[b]? = some (.cells #[.int .i64 17, .int .i64 0, .int .i64 0, .int .i64 0, .string ⟨#[]⟩, .int .u64 0, .int .u64 0, .int .u64 0, .int .u64 0] 68)) : RowIs w (.slice (some ⟨b, 0, none⟩) 1 1) 9 1 (insC endIns) := by
  refine ⟨rfl, _, _, rfl, fun _ => ⟨b, 0, rfl, fun j hj => ?_⟩⟩
  rw [Nat.zero_add, block_cell h j]
  have hj : j < 9 := hj
  match j, hj with
  | 0, _ => rfl
  | 1, _ => rfl
  | 2, _ => rfl
  | 3, _ => rfl
  | 4, _ => rfl
  | 5, _ => rfl
  | 6, _ => rfl
  | 7, _ => rfl
  | 8, _ => rfl
theorem end_C {w : World} {b : Nat} (h : w.heap[b]? = some (.cells #[.int .i64 17, .int .i64 0, .int .i64 0, .int .i64 0, .string ⟨#[]⟩, .int .u64 0, .int .u64 0, .int .u64 0, .int .u64 0] 68)) : Kd.C k68 w (some ⟨b, 0, none⟩) [endI].length [endI] :=
  code_C (l := [endI]) (c := 1) (end_row h) (by decide)
theorem end_code {w : World} {b B : Nat} (h : w.heap[b]? = some (.cells #[.int .i64 17, .int .i64 0, .int .i64 0, .int .i64 0, .string ⟨#[]⟩, .int .u64 0, .int .u64 0, .int .u64 0, .int .u64 0] 68)) (hb : b < B) : CodeAt w B [endIns] (.slice (some ⟨b, 0, none⟩) 1 1) := by
  obtain ⟨_, ao, cap, e, hc⟩ := end_row h
  injection e with e1 e2 e3
  subst e1
  obtain ⟨g, o, e4, hc⟩ := hc (by decide)
  injection e4 with e4
  injection e4 with e5 e6
  subst e5 e6
  exact ⟨b, 0, 1, rfl, hb, hc⟩
theorem row_none (w : World) (size : Nat) : RowIs w (.slice none 0 0) size 0 [] := ⟨by simp, _, _, rfl, fun h => absurd h (by decide)⟩
theorem end_short : ∀ (j : Nat) (y : MSt), onM [endIns] sA 0 0 1 j ⟨0, 1, 0, 0, [], []⟩ = .ok y → y.stack.length ≤ 1048576 ∧ y.log.length ≤ 1048576 := fun j y h =>
  have i := on_inv good_end (by decide) (by decide) (by decide) j _ y inv_end h
  ⟨i.stack, i.log⟩
theorem step_lit (A : Option Addr) (n c : Nat) (B r : Nat) (wr : World) (y : MSt) (h : RunW wr B r (.slice A n c) ⟨#[97]⟩ 0 0 1 y) (hC : CodeAt wr B [endIns] (.slice A n c)) (ok : StepOk [endIns] ⟨#[97]⟩ 0 0 1 y) :
    Calls Tryd.prog 49 #[.pointer (some ⟨r, 0, none⟩)] wr fun en w' => StepPost B r (.slice A n c) ⟨#[97]⟩ 0 0 1 wr (stepM [endIns] ⟨#[97]⟩ 0 0 1 y) en w' := by
  by_cases hst : 1 ≤ y.steps
  · refine (step_tired wr B r (.slice A n c) ⟨#[97]⟩ 0 0 1 y h hst).mono ?_
    rintro e w' ⟨rfl, hb⟩
    exact StepPost.err (by unfold stepM; rw [if_pos hst]) hb
  · have hk : y.pc.toNat = 0 := by have := ok.pc0; have h1 := ok.pc1; simp only [List.length_singleton] at h1; omega
    have hi : [endIns][y.pc.toNat]? = some endIns := by rw [hk]; rfl
    have hM : stepM [endIns] ⟨#[97]⟩ 0 0 1 y = stepI ⟨#[97]⟩ 0 0 endIns { y with steps := y.steps + 1 } := by unfold stepM; rw [if_neg hst, hi]
    rw [hM]
    exact step_end wr B r [endIns] (.slice A n c) ⟨#[97]⟩ 0 0 1 y 0 0 0 ⟨#[]⟩ 0 0 0 0 h hC ok (by omega) hi
set_option maxHeartbeats 8000000 in
set_option maxRecDepth 20000 in
theorem lives_any (w : World) (hU : UsesOk w) : Calls Tryd.prog 8 #[] w fun e w' => e = .returned (.bool true) ∧ Below w.heap.size w w' := by
  have hA := alloc_new w (.cells #[.int .i64 17, .int .i64 0, .int .i64 0, .int .i64 0, .string ⟨#[]⟩, .int .u64 0, .int .u64 0, .int .u64 0, .int .u64 0] 68)
  have hb0 := (Below.refl w.heap.size w).alloc (Nat.le_refl _) (.cells #[.int .i64 17, .int .i64 0, .int .i64 0, .int .i64 0, .string ⟨#[]⟩, .int .u64 0, .int .u64 0, .int .u64 0, .int .u64 0] 68)
  go_enter Tryd.func8, Tryd.ntmps8
  go_wp2_with (fail)
  have hBg := begin_ok _ (some ⟨w.heap.size, 0, none⟩) 1 1 ⟨#[97]⟩ 1 0 (fun w2 hb => steps_looked.calls 30 (some ⟨w.heap.size, 0, none⟩) 1 [endI] sA 1 0 0 0 0 w2 (end_C (keep hb hA)) (Nat.le_refl _) looked_end.1 (hU.below (l_then hb0 hb))) rfl
  with_reducible refine hBg.mono ?_
  rintro e w2 ⟨rfl, hb2⟩
  have hA2 := keep hb2 hA
  have hb3 := l_then hb0 hb2
  go_wp2_with (fail)
  have hb4 := hb3.alloc hb3.size (.cells #[.int .i64 0, .int .i64 1, .int .i64 0, .int .i64 0, .slice none 0 0, .slice none 0 0] 25)
  have hA4 := alloc_old (y := .cells #[.int .i64 0, .int .i64 1, .int .i64 0, .int .i64 0, .slice none 0 0, .slice none 0 0] 25) hA2
  have hX4 := alloc_new w2 (.cells #[.int .i64 0, .int .i64 1, .int .i64 0, .int .i64 0, .slice none 0 0, .slice none 0 0] 25)
  generalize w2.alloc (.cells #[.int .i64 0, .int .i64 1, .int .i64 0, .int .i64 0, .slice none 0 0, .slice none 0 0] 25) = w4 at *
  generalize w2.heap.size = q at *
  clear hA hb0 hA2 hb2 hb3
  have hltX := block_lt hX4
  have hcX := block_cell hX4
  go_wp2_with (fail)
  have hG := go_ok w4 (some ⟨w.heap.size, 0, none⟩) 1 1 ⟨#[97]⟩ 0 0 1 0 1 0 0 [] [] none 0 0 none 0 0 1 0 [endIns] (fun w2 hb => steps_looked.calls 30 (some ⟨w.heap.size, 0, none⟩) 1 [endI] sA 0 0 0 1 0 w2 (end_C (keep hb hA4)) (Nat.le_refl _) looked_end.2 (hU.below (l_then hb4 hb))) rfl true (fun w2 hb => may_none w2 (some ⟨w.heap.size, 0, none⟩) 1 ⟨#[97]⟩ 1 (by decide) (by decide)) rfl (by decide) (by decide) ⟨_, _, rfl, row_none _ _, row_none _ _⟩ (by decide) (by decide) (end_code hA4 (block_lt hA4)) (run_ok good_end (by decide) (by decide) (by decide) (by decide) inv_end) (fun B r wr y => step_lit _ _ _ B r wr y) end_short ⟨0, 1, 1, 1, [], []⟩ on_end
  with_reducible refine hG.mono ?_
  rintro e w5 ⟨hb5, v5, rfl, sv5, lv5, hv, hS5, hL5⟩
  obtain ⟨A5, c5, rfl⟩ := (RowIs.of_owns hS5).form
  obtain ⟨A6, c6, rfl⟩ := (RowIs.of_owns hL5).form
  unfold mstA at hv
  simp only at hv
  subst hv
  have hX5 := keep hb5 hX4
  have hb6 := l_then hb4 hb5
  clear hG hb4 hb5 hA4 hX4 hcX hS5 hL5 hBg
  have hcX5 := block_cell hX5
  have hlX5 := block_lt hX5
  have hnX5 : ¬ w5.heap.size = q := by omega
  have hnX6 : ¬ q = w5.heap.size := by omega
  go_wp2_with (fail)
  go_ret
  exact ⟨rfl, hb6.alloc hb6.size _⟩
end Go.Proofs.YthjlpcecfkboiabDoor
