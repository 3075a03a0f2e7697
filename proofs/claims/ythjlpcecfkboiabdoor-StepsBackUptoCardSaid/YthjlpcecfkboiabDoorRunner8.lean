/-
  The runner of steps: one step, whatever it is; so many steps.
-/
import Derived.Test.YthjlpcecfkboiabDoorRunner7
import Derived.WalkKit
import Derived.BigQuiet
import Derived.BigRegion
namespace Go.Proofs.YthjlpcecfkboiabDoor
open Go.RowKit
set_option linter.unusedVariables false
set_option linter.unusedSimpArgs false
set_option maxHeartbeats 16000000 in
set_option maxRecDepth 20000 in
theorem step_tired (w : World) (B r : Nat) (code : Value) (s : ByteArray) (l0 l1 l2 : Int) (x : MSt) (h : RunW w B r code s l0 l1 l2 x) (hst : l2 ≤ x.steps) :
    Calls Tryd.prog 49 #[.pointer (some ⟨r, 0, none⟩)] w fun en w' => en = .returned (.int .i64 212) ∧ Below B w w' := by
  obtain ⟨sv, lv, hR, hBr, hS, hL⟩ := h
  obtain ⟨pc, p, st, kd, stk, lg⟩ := x
  simp only at hst
  unfold runC at hR
  simp only at hR
  have hcR := block_cell hR
  go_enter Tryd.func49, Tryd.ntmps49
  go_wp2_with (fail)
  go_quiet (fail)
  go_wp2_with (fail)
  go_ret
  exact ⟨rfl, below_drewN (Below.refl _ _) _⟩
/-- So many steps, while it has not ended. -/
def onM (code : List Ins) (s : ByteArray) (l0 l1 l2 : Int) : Nat → MSt → Except Int MSt
  | 0, x => .ok x
  | n + 1, x => if x.kind = 0 then (match stepM code s l0 l1 l2 x with | .error e => .error e | .ok y => onM code s l0 l1 l2 n y) else .ok x
/-- What all steps from a state on ask: each state that is come to is one from which a step may be done. -/
def RunOk (code : List Ins) (s : ByteArray) (l0 l1 l2 : Int) (x : MSt) : Prop := ∀ n y, onM code s l0 l1 l2 n x = .ok y → y.kind = 0 → StepOk code s l0 l1 l2 y
theorem onM_stop {code : List Ins} {s : ByteArray} {l0 l1 l2 : Int} {x : MSt} (h : x.kind ≠ 0) : ∀ n, onM code s l0 l1 l2 n x = .ok x
  | 0 => rfl
  | n + 1 => by unfold onM; rw [if_neg h]
theorem onM_snoc {code : List Ins} {s : ByteArray} {l0 l1 l2 : Int} : ∀ (n : Nat) (x y : MSt), onM code s l0 l1 l2 n x = .ok y → onM code s l0 l1 l2 (n + 1) x = if y.kind = 0 then stepM code s l0 l1 l2 y else .ok y
  | 0, x, y, h => by
    injection h with h
    subst h
    unfold onM
    by_cases c : x.kind = 0
    · rw [if_pos c, if_pos c]
      cases stepM code s l0 l1 l2 x <;> rfl
    · rw [if_neg c, if_neg c]
  | n + 1, x, y, h => by
    rw [onM]
    by_cases c : x.kind = 0
    · rw [onM, if_pos c] at h
      rw [if_pos c]
      cases hs : stepM code s l0 l1 l2 x with
      | error e => rw [hs] at h; cases h
      | ok z => rw [hs] at h; exact onM_snoc n z y h
    · rw [onM, if_neg c] at h
      injection h with h
      subst h
      rw [if_neg c, if_neg c]
theorem onM_err {code : List Ins} {s : ByteArray} {l0 l1 l2 : Int} {e : Int} : ∀ (n m : Nat) (x : MSt), n ≤ m → onM code s l0 l1 l2 n x = .error e → onM code s l0 l1 l2 m x = .error e
  | 0, _, _, _, h => by cases h
  | n + 1, 0, _, h, _ => by omega
  | n + 1, m + 1, x, hl, h => by
    rw [onM] at h ⊢
    by_cases c : x.kind = 0
    · rw [if_pos c] at h ⊢
      cases hs : stepM code s l0 l1 l2 x with
      | error e2 => rw [hs] at h; exact h
      | ok z => rw [hs] at h; exact onM_err n m z (by omega) h
    · rw [if_neg c] at h; cases h
theorem onM_end {code : List Ins} {s : ByteArray} {l0 l1 l2 : Int} : ∀ (n m : Nat) (x y : MSt), n ≤ m → onM code s l0 l1 l2 n x = .ok y → y.kind ≠ 0 → onM code s l0 l1 l2 m x = .ok y
  | 0, m, x, y, _, h, hy => by
    injection h with h
    subst h
    exact onM_stop hy m
  | n + 1, 0, _, _, h, _, _ => by omega
  | n + 1, m + 1, x, y, hl, h, hy => by
    rw [onM] at h ⊢
    by_cases c : x.kind = 0
    · rw [if_pos c] at h ⊢
      cases hs : stepM code s l0 l1 l2 x with
      | error e2 => rw [hs] at h; cases h
      | ok z => rw [hs] at h; exact onM_end n m z y (by omega) h hy
    · rw [if_neg c] at h ⊢
      exact h
theorem noteM_ne {l1 : Int} {n : Not} {x : MSt} {e : Int} (h : noteM l1 n x = .error e) : e ≠ 0 := by
  unfold noteM at h
  split at h
  · injection h with h; subst h; decide
  · cases h
theorem stepI_ne {s : ByteArray} {l0 l1 : Int} {i : Ins} {x : MSt} {e : Int} (h : stepI s l0 l1 i x = .error e) : e ≠ 0 := by
  have inj : ∀ {a b : Int}, (Except.error a : Except Int MSt) = .error b → a ≠ 0 → b ≠ 0 := fun h ha => by injection h with h; rw [← h]; exact ha
  unfold stepI at h
  by_cases c8 : i.op = 8
  · rw [if_pos c8] at h
    by_cases d : l0 ≤ x.stack.length
    · rw [if_pos d] at h; exact inj h (by decide)
    · rw [if_neg d] at h; cases h
  rw [if_neg c8] at h
  by_cases c9 : i.op = 9 ∨ i.op = 10 ∨ i.op = 11 ∨ i.op = 12
  · rw [if_pos c9] at h
    cases hc : choiceM i x with
    | none => rw [hc] at h; exact inj h (by decide)
    | some y => rw [hc] at h; cases h
  rw [if_neg c9] at h
  by_cases c13 : i.op = 13
  · rw [if_pos c13] at h; cases h
  rw [if_neg c13] at h
  by_cases c14 : i.op = 14
  · rw [if_pos c14] at h; cases h
  rw [if_neg c14] at h
  by_cases c15 : i.op = 15
  · rw [if_pos c15] at h
    by_cases d : l0 ≤ x.stack.length
    · rw [if_pos d] at h; exact inj h (by decide)
    · rw [if_neg d] at h; cases h
  rw [if_neg c15] at h
  by_cases c16 : i.op = 16
  · rw [if_pos c16] at h
    cases hc : x.stack[x.stack.length - 1]? with
    | none => rw [hc] at h; exact inj h (by decide)
    | some y =>
      rw [hc] at h
      simp only at h
      by_cases d : y.ret = true
      · rw [if_pos d] at h; cases h
      · rw [if_neg d] at h; exact inj h (by decide)
  rw [if_neg c16] at h
  by_cases c17 : i.op = 17
  · rw [if_pos c17] at h; cases h
  rw [if_neg c17] at h
  by_cases c18 : i.op = 18
  · rw [if_pos c18] at h; exact noteM_ne h
  rw [if_neg c18] at h
  by_cases c19 : i.op = 19
  · rw [if_pos c19] at h; exact noteM_ne h
  rw [if_neg c19] at h
  by_cases c20 : i.op = 20
  · rw [if_pos c20] at h
    by_cases d : i.a > x.at_
    · rw [if_pos d] at h; exact inj h (by decide)
    · rw [if_neg d] at h; exact noteM_ne h
  rw [if_neg c20] at h
  cases h
theorem stepM_ne {code : List Ins} {s : ByteArray} {l0 l1 l2 : Int} {x : MSt} {e : Int} (h : stepM code s l0 l1 l2 x = .error e) : e ≠ 0 := by
  unfold stepM at h
  by_cases d : l2 ≤ x.steps
  · rw [if_pos d] at h; injection h with h; rw [← h]; decide
  rw [if_neg d] at h
  cases hc : code[x.pc.toNat]? with
  | none => rw [hc] at h; injection h with h; rw [← h]; decide
  | some i => rw [hc] at h; exact stepI_ne h
set_option maxHeartbeats 16000000 in
set_option maxRecDepth 20000 in
theorem on_gen (w : World) (B r : Nat) (cl : List Ins) (code : Value) (s : ByteArray) (l0 l1 l2 : Int) (x : MSt) (n : Nat) (hn : n ≤ 1073741824) (h : RunW w B r code s l0 l1 l2 x) (hC : CodeAt w B cl code) (ok : RunOk cl s l0 l1 l2 x) (hBw : B ≤ w.heap.size) (hstep : ∀ (wr : World) (y : MSt), RunW wr B r code s l0 l1 l2 y → CodeAt wr B cl code → StepOk cl s l0 l1 l2 y → Calls Tryd.prog 49 #[.pointer (some ⟨r, 0, none⟩)] wr fun en w' => StepPost B r code s l0 l1 l2 wr (stepM cl s l0 l1 l2 y) en w') :
    Calls Tryd.prog 26 #[.pointer (some ⟨r, 0, none⟩), .int .i64 n] w fun en w' => StepPost B r code s l0 l1 l2 w (onM cl s l0 l1 l2 n x) en w' := by
  go_enter Tryd.func26, Tryd.ntmps26
  go_wp2_with (fail)
  go_loopw [5] (fun i wr => ∃ (k : Nat) (y : MSt), k ≤ n ∧ i = .int .i64 k ∧ onM cl s l0 l1 l2 k x = .ok y ∧ RunW wr B r code s l0 l1 l2 y ∧ Below B w wr) (fun i _ => n - (intOf i).toNat)
  case atStart => exact ⟨0, x, Nat.zero_le _, rfl, rfl, h, Below.refl _ _⟩
  case round =>
    obtain ⟨k, y, hk, rfl, ho, hW, hB⟩ := hrel
    have hok := ok k y ho
    have hsn := onM_snoc k x y ho
    have hC2 := hC.below hB
    obtain ⟨sv, lv, hR, hBr, hS, hL⟩ := hW
    have hR0 := hR
    obtain ⟨pc, p, st, kd, stk, lg⟩ := y
    unfold runC at hR
    simp only at hR
    have hcR := block_cell hR
    by_cases hkn : k < n
    · have hkn2 : (k : Int) < (n : Int) := by omega
      have hwk : IntKind.i64.wrap ((k : Int) + 1) = (k : Int) + 1 := wrap_in (by omega)
      have hw1 : k + 1 ≤ n := hkn
      have hms : n - (k + 1) < n - k := by omega
      by_cases hkd : kd = 0
      · subst hkd
        have hst := hstep wr ⟨pc, p, st, 0, stk, lg⟩ ⟨sv, lv, hR0, hBr, hS, hL⟩ hC2 (hok rfl)
        rw [if_pos rfl] at hsn
        have HO := hid ho
        clear ho hok hR hR0 hS hL
        cases hm : stepM cl s l0 l1 l2 ⟨pc, p, st, 0, stk, lg⟩ with
        | error e =>
          rw [hm] at hst hsn
          have hne := stepM_ne hm
          have hfin := onM_err (k + 1) n x hw1 hsn
          have HF := hid hfin
          clear hfin hsn hm
          go_wp2_with (fail)
          with_reducible refine hst.mono ?_
          rintro en w2 ⟨hb2, hen⟩
          simp only at hen
          subst hen
          go_wp2_with (fail)
          go_ret
          exact StepPost.err HF.out (hB.trans hb2)
        | ok y2 =>
          rw [hm] at hst hsn
          have HF := hid hsn
          clear hsn hm
          go_wp2_with (fail)
          with_reducible refine hst.mono ?_
          rintro en w2 ⟨hb2, hen, hW2⟩
          subst hen
          go_wp2_with (fail)
          refine ⟨⟨k + 1, y2, hw1, rfl, HF.out, hW2, hB.trans hb2⟩, ?_⟩
          exact hms
      · have HF := hid (onM_end k n x _ hk ho hkd)
        have hkd2 : (kd == 0) = false := beq_eq_false_iff_ne.2 hkd
        have hW2 : RunW wr B r code s l0 l1 l2 ⟨pc, p, st, kd, stk, lg⟩ := ⟨sv, lv, hR0, hBr, hS, hL⟩
        clear ho hok hsn
        go_wp2_with (fail)
        go_ret
        exact StepPost.ok HF.out hB hW2
    · obtain rfl : k = n := by omega
      have HF := hid ho
      have hW2 : RunW wr B r code s l0 l1 l2 ⟨pc, p, st, kd, stk, lg⟩ := ⟨sv, lv, hR0, hBr, hS, hL⟩
      clear ho hok hsn
      go_wp2_with (fail)
      go_ret
      exact StepPost.ok HF.out hB hW2
end Go.Proofs.YthjlpcecfkboiabDoor
