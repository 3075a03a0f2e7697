/-
  The steps' questions always have an answer: names, templates, fields, captures. No program here but the printed functions.
-/
import Derived.Test.YthjlpcecfkboiaaDoorZx
import Derived.Test.YthjlpcecfkboiaaDoorRunInv
namespace Go.Proofs.YthjlpcecfkboiaaDoor
open Go.RowKit Go.Proofs.YthjlpcecfkboiaaDoorW.PrintWords Go.Proofs.YthjlpcecfkboiaaDoor.Z
set_option linter.unusedVariables false
set_option linter.unusedSimpArgs false
def insOf (x : S52) : Ins := ⟨x.f0, x.f1, x.f2, x.f3, x.f4, x.f5.f0, x.f5.f1, x.f5.f2, x.f5.f3⟩
theorem wrap64_in {x : Int} (h0 : -9223372036854775808 ≤ x) (h1 : x < 9223372036854775808) : wrap64 x = x := by unfold wrap64; omega
theorem isHead_tot (a : Int) : ∃ r, tree_isHead.f a = some r := by
  unfold tree_isHead.f
  repeat' split
  all_goals exact ⟨_, rfl⟩
theorem isName_l0 (s : ByteArray) (hs : s.size ≤ 32) : ∀ (n k : Nat) (x : Int), 0 ≤ x → ((s.size : Int) - x).toNat ≤ n → n < k → ∃ r, tree_isName.l0 k s (s.size : Int) x = some r
  | n, 0, x, _, _, h => by omega
  | 0, k + 1, x, h0, hn, _ => by
    rw [tree_isName.l0, if_neg (by omega)]
    exact ⟨_, rfl⟩
  | n + 1, k + 1, x, h0, hn, hk => by
    rw [tree_isName.l0]
    by_cases c : x < (s.size : Int)
    · rw [if_pos c, if_pos h0, if_pos c, wrap64_in (by omega) (by omega)]
      obtain ⟨b, hb⟩ := isHead_tot (bt s x)
      rw [hb, Option.bind_some]
      obtain ⟨r, hr⟩ := isName_l0 s hs n k (x + 1) (by omega) (by omega) (by omega)
      rw [hr]
      repeat' split
      all_goals exact ⟨_, rfl⟩
    · rw [if_neg c]; exact ⟨_, rfl⟩
theorem isName_tot (s : ByteArray) (k : Nat) (hk : 40 ≤ k) : ∃ r, tree_isName.f k s = some r := by
  obtain ⟨k, rfl⟩ : ∃ j, k = j + 1 := ⟨k - 1, by omega⟩
  unfold tree_isName.f
  by_cases c0 : s.toList = ([] : List UInt8)
  · rw [if_pos c0, tree_isName.j0, if_pos rfl]; exact ⟨_, rfl⟩
  rw [if_neg c0]
  by_cases c1 : (s.size : Int) > 32
  · rw [if_pos c1, tree_isName.j0, if_pos rfl]; exact ⟨_, rfl⟩
  rw [if_neg c1]
  have hpos : 0 < (s.size : Int) := by
    have : s.size ≠ 0 := fun h => c0 (by
      obtain ⟨⟨l⟩⟩ := s
      have hl : l.length = 0 := h
      obtain rfl := List.eq_nil_of_length_eq_zero hl
      rw [ByteArray.toList, ByteArray.toList.loop]; rfl)
    omega
  rw [if_pos hpos]
  obtain ⟨b, hb⟩ := isHead_tot (bt s 0)
  rw [hb, Option.bind_some, tree_isName.j0]
  obtain ⟨r, hr⟩ := isName_l0 s (by omega) 32 k 0 (by omega) (by omega) (by omega)
  rw [hr]
  split
  all_goals exact ⟨_, rfl⟩
theorem isTemplate_l0 (s : ByteArray) (hs : s.size ≤ 255) : ∀ (n k : Nat) (x : Int), 0 ≤ x → ((s.size : Int) - x).toNat ≤ n → n < k → ∃ r, tree_isTemplate.l0 k s x = some r
  | n, 0, x, _, _, h => by omega
  | 0, k + 1, x, h0, hn, _ => by
    rw [tree_isTemplate.l0, if_neg (by omega)]
    exact ⟨_, rfl⟩
  | n + 1, k + 1, x, h0, hn, hk => by
    rw [tree_isTemplate.l0]
    by_cases c : x < (s.size : Int)
    · rw [if_pos c, if_pos h0, wrap64_in (x := x + 1) (by omega) (by omega)]
      obtain ⟨r, hr⟩ := isTemplate_l0 s hs n k (x + 1) (by omega) (by omega) (by omega)
      by_cases c2 : bt s x = 37
      · rw [if_pos c2]
        by_cases c3 : x + 1 = (s.size : Int)
        · rw [if_pos c3]; exact ⟨_, rfl⟩
        rw [if_neg c3, if_pos (by omega), if_pos (by omega), wrap64_in (x := x + 1 + 1) (by omega) (by omega)]
        obtain ⟨r2, hr2⟩ := isTemplate_l0 s hs n k (x + 1 + 1) (by omega) (by omega) (by omega)
        rw [hr2]
        repeat' split
        all_goals exact ⟨_, rfl⟩
      · rw [if_neg c2, hr]; exact ⟨_, rfl⟩
    · rw [if_neg c]; exact ⟨_, rfl⟩
theorem isTemplate_tot (s : ByteArray) (k : Nat) (hk : 260 ≤ k) : ∃ r, tree_isTemplate.f k s = some r := by
  unfold tree_isTemplate.f
  by_cases c1 : (s.size : Int) > 255
  · rw [if_pos c1]; exact ⟨_, rfl⟩
  rw [if_neg c1]
  exact isTemplate_l0 s (by omega) 255 k 0 (by omega) (by omega) (by omega)
theorem counted_tot (a : Int) : ∃ r, tree_counted.f a = some r := by
  unfold tree_counted.f
  repeat' split
  all_goals exact ⟨_, rfl⟩
theorem fields_j1 (k : Nat) (hk : 261 ≤ k) (b : Bool) (op n : Int) (s : ByteArray) (a0 a1 a2 a3 : Int) : ∃ r, tree_fields.j1 k b op n s a0 a1 a2 a3 = some r := by
  obtain ⟨k, rfl⟩ : ∃ j, k = j + 1 := ⟨k - 1, by omega⟩
  rw [tree_fields.j1]
  obtain ⟨r1, h1⟩ := isName_tot s k (by omega)
  obtain ⟨r2, h2⟩ := isTemplate_tot s k (by omega)
  rw [h1, h2]
  repeat' split
  all_goals exact ⟨_, rfl⟩
theorem fields_tot (k : Nat) (hk : 262 ≤ k) (op n : Int) (s : ByteArray) (a0 a1 a2 a3 : Int) : ∃ r, tree_fields.f k op n s a0 a1 a2 a3 = some r := by
  obtain ⟨k, rfl⟩ : ∃ j, k = j + 1 := ⟨k - 1, by omega⟩
  have hj : ∀ b, ∃ r, tree_fields.j0 (k + 1) b op n s a0 a1 a2 a3 = some r := by
    intro b
    rw [tree_fields.j0]
    obtain ⟨c, hc⟩ := counted_tot op
    rw [hc, Option.bind_some]
    repeat' split
    all_goals first | exact ⟨_, rfl⟩ | exact fields_j1 k (by omega) _ _ _ _ _ _ _ _
  unfold tree_fields.f
  repeat' split
  all_goals exact hj _
theorem arity_any (k : Nat) (hk : 3 ≤ k) : tree_Arity.f k 3 = some 0 := by
  obtain ⟨k, rfl⟩ : ∃ j, k = j + 3 := ⟨k - 3, by omega⟩
  rfl
theorem arity_one (k : Nat) (hk : 3 ≤ k) (op : Int) (h0 : 18 ≤ op) (h1 : op ≤ 23) : tree_Arity.f k op = some 1 := by
  obtain ⟨k, rfl⟩ : ∃ j, k = j + 3 := ⟨k - 3, by omega⟩
  unfold tree_Arity.f
  rw [if_neg (by omega), tree_Arity.j0, if_neg (by simp; omega), if_pos (by omega), if_neg (by omega), tree_Arity.j1, if_neg (by simp; omega), if_pos (by omega), if_pos (by omega)]
def anyN : S125 := ⟨3, 0, ⟨#[]⟩, ⟨0, 0, 0, 0⟩⟩
theorem toList_nil : (⟨#[]⟩ : ByteArray).toList = [] := by rw [ByteArray.toList, ByteArray.toList.loop]; rfl
theorem fields_any (k : Nat) (hk : 3 ≤ k) : tree_fields.f k 3 0 ⟨#[]⟩ 0 0 0 0 = some true := by
  obtain ⟨k, rfl⟩ : ∃ j, k = j + 3 := ⟨k - 3, by omega⟩
  unfold tree_fields.f
  rw [if_neg (by decide), if_pos rfl, if_pos rfl, if_pos rfl, if_pos rfl, tree_fields.j0, if_neg (by decide), if_neg (by decide), if_neg (by decide), if_neg (by decide), tree_fields.j1, if_neg (by decide), if_neg (by decide), if_neg (by decide), if_neg (by decide), if_neg (by decide), toList_nil]
  rfl
theorem nodeOk_any (k : Nat) (hk : 3 ≤ k) : nodeOk k anyN 0 = true := by
  unfold nodeOk anyN
  simp only [Bool.and_eq_true, decide_eq_true_eq]
  exact ⟨arity_any k hk, fields_any k hk⟩
theorem join_tot (k : Nat) (hk : 300 ≤ k) (op n : Int) (h0 : 18 ≤ op) (h1 : op ≤ 23) (s : ByteArray) : ∃ r b, tree_Join.f k op n s 0 0 0 0 [[anyN]] = some r ∧ tree_fields.f k op n s 0 0 0 0 = some b ∧ (r.2 == 0) = b := by
  obtain ⟨k, rfl⟩ : ∃ j, k = j + 2 := ⟨k - 2, by omega⟩
  unfold tree_Join.f
  rw [arity_one (k + 2) (by omega) op h0 h1, Option.bind_some, if_neg (by decide)]
  obtain ⟨b, hb⟩ := fields_tot (k + 2) (by omega) op n s 0 0 0 0
  rw [hb, Option.bind_some]
  cases b with
  | false => rw [if_neg (by decide)]; exact ⟨_, _, rfl, rfl, rfl⟩
  | true =>
    rw [if_pos rfl, if_pos (by rfl), tree_Join.l0, if_pos (by decide), if_pos (by decide), if_pos (by decide)]
    have e1 : rd_L5 [[anyN]] 0 = [anyN] := rfl
    rw [e1]
    have c1 : tree_Check.f (k + 1) [anyN] = some (0, 0) := by
      unfold tree_Check.f
      exact if_pos (show nodeOk (k + 1) anyN 0 = true from nodeOk_any _ (by omega))
    rw [c1, Option.bind_some, if_pos rfl, if_pos (by decide), show wrap64 (0 + 1) = 1 from wrap64_in (x := 0 + 1) (by omega) (by omega), tree_Join.l0, if_neg (by decide), if_pos (by decide)]
    have c2 : tree_checked.f k ([] ++ [anyN] ++ [(⟨op, n, s, ⟨0, 0, 0, 0⟩⟩ : S125)]) = some ([anyN, ⟨op, n, s, ⟨0, 0, 0, 0⟩⟩], 0) := by
      unfold tree_checked.f
      obtain ⟨b2, hb2⟩ := fields_tot k (by omega) op n s 0 0 0 0
      have hb3 : b2 = true := by
        have m1 := tree_fields.mono op n s 0 0 0 0 k _ hb2
        have m2 := tree_fields.mono op n s 0 0 0 0 (k + 1) _ m1
        rw [hb] at m2
        injection m2 with m2
        exact m2.symm
      subst hb3
      have hn : nodeOk k (⟨op, n, s, ⟨0, 0, 0, 0⟩⟩ : S125) 1 = true := by
        unfold nodeOk
        simp only [Bool.and_eq_true, decide_eq_true_eq]
        exact ⟨arity_one k (by omega) op h0 h1, hb2⟩
      have hc : tree_Check.f k ([] ++ [anyN] ++ [(⟨op, n, s, ⟨0, 0, 0, 0⟩⟩ : S125)]) = some (0, 0) := by
        unfold tree_Check.f
        exact if_pos (show (nodeOk k anyN 0 && nodeOk k _ 1) = true by rw [nodeOk_any k (by omega), hn]; rfl)
      rw [hc]
      rfl
    rw [c2]
    exact ⟨_, _, rfl, rfl, rfl⟩
theorem capture_tot (k : Nat) (hk : 300 ≤ k) (b n : Int) (h0 : 1 ≤ b) (h1 : b ≤ 7) (s : ByteArray) : ∃ r, instr_capture.f k b n s = some r := by
  unfold instr_capture.f
  by_cases c : b = 1
  · rw [if_pos c]
    split
    all_goals exact ⟨_, rfl⟩
  · rw [if_neg c, wrap64_in (x := b - 2) (by omega) (by omega), wrap64_in (x := b - 2 + 18) (by omega) (by omega)]
    obtain ⟨r, _, hr, _, _⟩ := join_tot k hk (b - 2 + 18) n (by omega) (by omega) s
    rw [show [[(⟨3, 0, ⟨#[]⟩, ⟨0, 0, 0, 0⟩⟩ : S125)]] = [[anyN]] from rfl, hr]
    exact ⟨_, rfl⟩
theorem ite_tot {α : Type} {p : Prop} [Decidable p] {x y : Option α} (hx : ∃ r, x = some r) (hy : ∃ r, y = some r) : ∃ r, (if p then x else y) = some r := by
  by_cases c : p
  · rw [if_pos c]; exact hx
  · rw [if_neg c]; exact hy
theorem ite_tt {p : Prop} [Decidable p] {x : Option Bool} (h : (if p then x else some false) = some true) : p ∧ x = some true := by
  by_cases c : p
  · rw [if_pos c] at h; exact ⟨c, h⟩
  · rw [if_neg c] at h; cases h
theorem fits_j0 (k : Nat) (hk : 301 ≤ k) (x8 : Int) (x9 : Bool) (op a b n : Int) (s : ByteArray) (s0 s1 s2 s3 : Int) : ∃ r, instr_fits.j0 k x8 x9 op a b n s s0 s1 s2 s3 = some r := by
  obtain ⟨k, rfl⟩ : ∃ j, k = j + 1 := ⟨k - 1, by omega⟩
  rw [instr_fits.j0]
  have hc : 1 ≤ b → b ≤ 7 → ∃ r, instr_capture.f k b n s = some r := fun h0 h1 => capture_tot k (by omega) b n h0 h1 s
  by_cases c : 1 ≤ b ∧ b ≤ 7
  · obtain ⟨r, hr⟩ := hc c.1 c.2
    rw [hr]
    repeat' split
    all_goals exact ⟨_, rfl⟩
  · repeat' split
    all_goals first | exact ⟨_, rfl⟩ | (exfalso; omega)
theorem fits_tot (k : Nat) (hk : 301 ≤ k) (op a b n : Int) (s : ByteArray) (s0 s1 s2 s3 : Int) (h0 : 1 ≤ op) (h1 : op ≤ 20) : ∃ r, instr_fits.f k op a b n s s0 s1 s2 s3 = some r := by
  unfold instr_fits.f instr_plain.f
  rw [if_pos ⟨h0, h1⟩]
  dsimp only
  rw [Option.bind_some]
  repeat' (with_reducible first | refine ite_tot ?_ ?_ | exact fits_j0 k hk _ _ _ _ _ _ _ _ _ _ _ | exact ⟨_, rfl⟩)
theorem j0_full {k : Nat} {op a b n : Int} {s : ByteArray} {s0 s1 s2 s3 : Int} (h20 : op = 20) (h : instr_fits.j0 k op false op a b n s s0 s1 s2 s3 = some true) : 0 ≤ a ∧ a ≤ 255 := by
  cases k with
  | zero => rw [instr_fits.j0] at h; cases h
  | succ k =>
    rw [instr_fits.j0, if_neg (by decide), if_neg (by omega), if_pos h20] at h
    by_cases c1 : b < 1
    · rw [if_pos c1] at h; cases h
    rw [if_neg c1] at h
    by_cases c2 : b > 7
    · rw [if_pos c2] at h; cases h
    rw [if_neg c2] at h
    by_cases c3 : a < 0
    · rw [if_pos c3] at h; cases h
    rw [if_neg c3] at h
    by_cases c4 : a > 255
    · rw [if_pos c4] at h; cases h
    omega
theorem fits_a {k : Nat} {op a b n : Int} {s : ByteArray} {s0 s1 s2 s3 : Int} (h0 : 1 ≤ op) (h1 : op ≤ 20) (h : instr_fits.f k op a b n s s0 s1 s2 s3 = some true) : (hasM op 1 = false → a = 0) ∧ (op = 20 → 0 ≤ a ∧ a ≤ 255) := by
  unfold instr_fits.f instr_plain.f at h
  rw [if_pos ⟨h0, h1⟩] at h
  rw [Option.bind_some] at h
  obtain ⟨_, h⟩ := ite_tt h
  obtain ⟨c1, h⟩ := ite_tt h
  obtain ⟨_, h⟩ := ite_tt h
  obtain ⟨_, h⟩ := ite_tt h
  obtain ⟨_, h⟩ := ite_tt h
  obtain ⟨_, h⟩ := ite_tt h
  obtain ⟨_, h⟩ := ite_tt h
  obtain ⟨_, h⟩ := ite_tt h
  obtain ⟨_, h⟩ := ite_tt h
  have c1 : a = (if hasM op 1 = true then a else 0) := c1
  refine ⟨fun hm => ?_, fun h20 => ?_⟩
  · rw [hm] at c1; simpa using c1
  · rw [if_neg (show ¬ op = 2 by omega), show (op == 5) = false from beq_eq_false_iff_ne.2 (by omega)] at h
    exact j0_full h20 h
/-- What is asked of an instruction at a place. -/
structure InsOk (len j : Nat) (i : Ins) : Prop where
  op0 : 1 ≤ i.op
  op1 : i.op ≤ 20
  a0 : hasM i.op 1 = false → i.a = 0
  a1 : i.op = 20 → 0 ≤ i.a ∧ i.a ≤ 255
  tg : hasM i.op 32 = true → 0 ≤ (j : Int) + i.a ∧ (j : Int) + i.a < len
theorem is_any (a : Int) : instr_is.f a = some (decide (1 ≤ a ∧ a ≤ 20)) := by
  unfold instr_is.f
  by_cases c : a ≥ 1
  · rw [if_pos c]
    by_cases d : a ≤ 20
    · rw [decide_eq_true d, decide_eq_true ⟨c, d⟩]
    · rw [decide_eq_false d, decide_eq_false (fun h => d h.2)]
  · rw [if_neg c, decide_eq_false (fun h => c h.1)]
theorem has_f (op bit : Int) (h0 : 1 ≤ op) (h1 : op ≤ 20) : instr_has.f op bit = some (hasM op bit) := by
  unfold instr_has.f; rw [if_pos ⟨by omega, h1⟩]
theorem check_l0 (l : List S52) (hl : l.length ≤ 8192) (hp : 0 < l.length) : ∀ (n k : Nat) (x : Nat), x ≤ l.length → l.length - x ≤ n → n + 320 < k → (∀ j, j < x → InsOk l.length j (insOf (rd_T52 l j))) →
    ∃ r, instr_Check.l0 k l l (l.length : Int) (x : Int) = some r ∧ r.2 < 200 ∧ (r.2 = 0 → (∀ j, j < l.length → InsOk l.length j (insOf (rd_T52 l j))) ∧ hasM (insOf (rd_T52 l (l.length - 1 : Nat))).op 64 = false)
  | n, 0, x, _, _, h, _ => by omega
  | 0, k + 1, x, h0, hn, _, ha => by
    obtain rfl : x = l.length := by omega
    rw [instr_Check.l0, if_neg (by omega), wrap64_in (by omega) (by omega), if_pos (by omega), if_pos (by omega), show ((l.length : Int) - 1) = ((l.length - 1 : Nat) : Int) by omega]
    have hi := ha (l.length - 1) (by omega)
    rw [has_f (rd_T52 l (l.length - 1 : Nat)).f0 64 hi.op0 hi.op1, Option.bind_some]
    cases hc : hasM (rd_T52 l (l.length - 1 : Nat)).f0 64 with
    | true => rw [if_pos rfl]; exact ⟨_, rfl, by simp, fun h => by simp at h⟩
    | false => rw [if_neg (by decide)]; exact ⟨_, rfl, by simp, fun _ => ⟨ha, hc⟩⟩
  | n + 1, k + 1, x, h0, hn, hk, ha => by
    by_cases c : x < l.length
    · rw [instr_Check.l0, if_pos (by omega), if_pos (by omega), if_pos (by omega), is_any, Option.bind_some]
      generalize hi : rd_T52 l x = i at *
      by_cases d : 1 ≤ i.f0 ∧ i.f0 ≤ 20
      · rw [decide_eq_true d, if_pos rfl]
        obtain ⟨b, hb⟩ := fits_tot k (by omega) i.f0 i.f1 i.f2 i.f3 i.f4 i.f5.f0 i.f5.f1 i.f5.f2 i.f5.f3 d.1 d.2
        rw [hb, Option.bind_some]
        cases b with
        | false => rw [if_neg (by decide)]; exact ⟨_, rfl, by simp, fun h => by simp at h⟩
        | true =>
          obtain ⟨ha0, ha1⟩ := fits_a d.1 d.2 hb
          rw [if_pos rfl, has_f _ 32 d.1 d.2, Option.bind_some, wrap64_in (x := -(x : Int)) (by omega) (by omega), wrap64_in (x := (l.length : Int) - x) (by omega) (by omega), wrap64_in (x := (x : Int) + 1) (by omega) (by omega)]
          have hnext : (hasM i.f0 32 = true → 0 ≤ (x : Int) + i.f1 ∧ (x : Int) + i.f1 < l.length) → ∃ r, instr_Check.l0 k l l (l.length : Int) ((x : Int) + 1) = some r ∧ r.2 < 200 ∧ (r.2 = 0 → (∀ j, j < l.length → InsOk l.length j (insOf (rd_T52 l j))) ∧ hasM (insOf (rd_T52 l (l.length - 1 : Nat))).op 64 = false) := by
            intro ht
            have h := check_l0 l hl hp n k (x + 1) (by omega) (by omega) (by omega) (fun j hj => by
              by_cases e : j = x
              · subst e; rw [hi]; exact ⟨d.1, d.2, ha0, ha1, ht⟩
              · exact ha j (by omega))
            rw [show ((x + 1 : Nat) : Int) = (x : Int) + 1 by omega] at h
            exact h
          cases hc : hasM i.f0 32 with
          | false => rw [if_neg (by decide)]; exact hnext (fun h => by rw [hc] at h; cases h)
          | true =>
            rw [if_pos rfl]
            by_cases c1 : i.f1 < -(x : Int)
            · rw [if_pos c1]; exact ⟨_, rfl, by simp, fun h => by simp at h⟩
            rw [if_neg c1]
            by_cases c2 : i.f1 ≥ (l.length : Int) - x
            · rw [if_pos c2]; exact ⟨_, rfl, by simp, fun h => by simp at h⟩
            rw [if_neg c2]
            exact hnext (fun _ => by omega)
      · rw [decide_eq_false d, if_neg (by decide)]; exact ⟨_, rfl, by simp, fun h => by simp at h⟩
    · exact check_l0 l hl hp 0 (k + 1) x h0 (by omega) (by omega) ha
theorem on_has : ∀ k : Fin 21, 1 ≤ k.val → ((k.val : Int) ≠ 9 ∧ (k.val : Int) ≠ 10 ∧ (k.val : Int) ≠ 11 ∧ (k.val : Int) ≠ 12 ∧ (k.val : Int) ≠ 13 ∧ (k.val : Int) ≠ 14 ∧ (k.val : Int) ≠ 16 ∧ (k.val : Int) ≠ 17) → hasM (k.val : Int) 64 = true := by decide +kernel
theorem tg_has : ∀ k : Fin 21, ((k.val : Int) = 4 ∨ (k.val : Int) = 5 ∨ (k.val : Int) = 6 ∨ (k.val : Int) = 8 ∨ (k.val : Int) = 9 ∨ (k.val : Int) = 10 ∨ (k.val : Int) = 11 ∨ (k.val : Int) = 14 ∨ (k.val : Int) = 15) → hasM (k.val : Int) 32 = true := by decide +kernel
theorem a_has : ∀ k : Fin 21, hasM (k.val : Int) 1 = true → hasM (k.val : Int) 32 = true ∨ (k.val : Int) = 20 := by decide +kernel
theorem op_fin {op : Int} (h0 : 1 ≤ op) (h1 : op ≤ 20) : ∃ k : Fin 21, 1 ≤ k.val ∧ op = (k.val : Int) := ⟨⟨op.toNat, by omega⟩, by show 1 ≤ op.toNat; omega, by show op = (op.toNat : Int); omega⟩
theorem rd_map {l : List S52} {k : Nat} {i : Ins} (h : (l.map insOf)[k]? = some i) : k < l.length ∧ i = insOf (rd_T52 l (k : Int)) := by
  rw [List.getElem?_map] at h
  cases hl : l[k]? with
  | none => rw [hl] at h; cases h
  | some x =>
    rw [hl] at h
    injection h with h
    obtain ⟨hk, he⟩ := List.getElem?_eq_some_iff.1 hl
    refine ⟨hk, ?_⟩
    rw [← h]
    unfold rd_T52
    rw [Int.toNat_natCast, List.getD_eq_getElem?_getD, hl]
    rfl
theorem good_of {l : List S52} (hl : l.length ≤ 8192) (hp : 0 < l.length) (ha : ∀ j, j < l.length → InsOk l.length j (insOf (rd_T52 l j))) (hf : hasM (insOf (rd_T52 l (l.length - 1 : Nat))).op 64 = false) : GoodCode (l.map insOf) := by
  refine ⟨by rw [List.length_map]; exact hp, by rw [List.length_map]; omega, ?_, ?_, ?_⟩
  · intro i hi
    obtain ⟨k, hk⟩ := List.getElem?_of_mem hi
    obtain ⟨hk1, rfl⟩ := rd_map hk
    have h := ha k hk1
    obtain ⟨q, hq, e⟩ := op_fin h.op0 h.op1
    cases h1 : hasM (insOf (rd_T52 l (k : Int))).op 1 with
    | false => have := h.a0 h1; omega
    | true =>
      rw [e] at h1
      rcases a_has q h1 with h2 | h2
      · rw [← e] at h2; have := h.tg h2; omega
      · rw [← e] at h2; have := h.a1 h2; omega
  · intro k i hk ho
    obtain ⟨hk1, rfl⟩ := rd_map hk
    have h := ha k hk1
    obtain ⟨q, hq, e⟩ := op_fin h.op0 h.op1
    rw [List.length_map]
    by_cases c : k + 1 < l.length
    · exact c
    · exfalso
      have hk2 : k = l.length - 1 := by omega
      unfold onOp at ho
      rw [e] at ho
      have := on_has q hq ho
      rw [← e, hk2, hf] at this
      cases this
  · intro k i hk ht
    obtain ⟨hk1, rfl⟩ := rd_map hk
    have h := ha k hk1
    obtain ⟨q, hq, e⟩ := op_fin h.op0 h.op1
    rw [List.length_map]
    unfold tgOp at ht
    rw [e] at ht
    have h2 := tg_has q ht
    rw [← e] at h2
    exact h.tg h2
theorem check_tot (l : List S52) : ∃ c, instr_Check.f 8600 l = some c ∧ c.2 < 200 ∧ (c.2 = 0 → GoodCode (l.map insOf)) := by
  unfold instr_Check.f
  by_cases c0 : (l.length : Int) > 8192
  · rw [if_pos c0]; exact ⟨_, rfl, by simp, fun h => by simp at h⟩
  rw [if_neg c0]
  by_cases c1 : (l.length : Int) = 0
  · rw [if_pos c1]; exact ⟨_, rfl, by simp, fun h => by simp at h⟩
  rw [if_neg c1]
  obtain ⟨r, hr, hlt, hg⟩ := check_l0 l (by omega) (by omega) 8192 8600 0 (Nat.zero_le _) (by omega) (by omega) (fun j hj => absurd hj (Nat.not_lt_zero _))
  exact ⟨r, hr, hlt, fun h => good_of (by omega) (by omega) (hg h).1 (hg h).2⟩
theorem run_tot (l : List S52) (s : ByteArray) (p l0 l1 l2 : Int) (hx : l2 ≤ 0 ∨ 1073741824 < l2) : ∃ e, machine_Run.f 8600 l s p l0 l1 l2 = some (0, 0, [], 0, 0, 0, e) ∧ e ≠ 0 ∧ (e = 212 → GoodCode (l.map insOf) ∧ (s.size : Int) ≤ 65536 ∧ 0 ≤ p ∧ p ≤ s.size ∧ 0 ≤ l0 ∧ l0 ≤ 1048576 ∧ 0 ≤ l1 ∧ l1 ≤ 1048576 ∧ 0 ≤ l2 ∧ l2 ≤ 1073741824) := by
  obtain ⟨⟨c1, c2⟩, hc, hlt, hg⟩ := check_tot l
  unfold machine_Run.f
  rw [hc, Option.bind_some]
  simp only at hlt hg ⊢
  have key : ∃ e, run0E c2 (s.size : Int) p l0 l1 l2 = some e ∧ e ≠ 0 ∧ (e = 212 → c2 = 0 ∧ (s.size : Int) ≤ 65536 ∧ 0 ≤ p ∧ p ≤ s.size ∧ 0 ≤ l0 ∧ l0 ≤ 1048576 ∧ 0 ≤ l1 ∧ l1 ≤ 1048576 ∧ 0 ≤ l2 ∧ l2 ≤ 1073741824) := by
    unfold run0E
    by_cases d0 : c2 ≠ 0
    · rw [if_pos d0]; exact ⟨_, rfl, d0, fun h => by omega⟩
    rw [if_neg d0]
    by_cases d1 : (65536 : Int) < (s.size : Int)
    · rw [if_pos d1]; exact ⟨_, rfl, by decide, fun h => by omega⟩
    rw [if_neg d1]
    by_cases d2 : p < 0
    · rw [if_pos d2]; exact ⟨_, rfl, by decide, fun h => by omega⟩
    rw [if_neg d2]
    by_cases d3 : (s.size : Int) < p
    · rw [if_pos d3]; exact ⟨_, rfl, by decide, fun h => by omega⟩
    rw [if_neg d3]
    by_cases d4 : l0 < 0
    · rw [if_pos d4]; exact ⟨_, rfl, by decide, fun h => by omega⟩
    rw [if_neg d4]
    by_cases d5 : 1048576 < l0
    · rw [if_pos d5]; exact ⟨_, rfl, by decide, fun h => by omega⟩
    rw [if_neg d5]
    by_cases d6 : l1 < 0
    · rw [if_pos d6]; exact ⟨_, rfl, by decide, fun h => by omega⟩
    rw [if_neg d6]
    by_cases d7 : 1048576 < l1
    · rw [if_pos d7]; exact ⟨_, rfl, by decide, fun h => by omega⟩
    rw [if_neg d7]
    by_cases d8 : l2 < 0
    · rw [if_pos d8]; exact ⟨_, rfl, by decide, fun h => by omega⟩
    rw [if_neg d8]
    by_cases d9 : 1073741824 < l2
    · rw [if_pos d9]; exact ⟨_, rfl, by decide, fun h => by omega⟩
    rw [if_neg d9, if_pos (by omega)]
    exact ⟨_, rfl, by decide, fun _ => by omega⟩
  obtain ⟨e, he, hne, hg2⟩ := key
  rw [he, Option.bind_some]
  exact ⟨e, rfl, hne, fun h => ⟨hg (hg2 h).1, (hg2 h).2⟩⟩
/-- What a run without a step refuses. -/
theorem looked_tot (l : List S52) (s : ByteArray) (p l0 l1 l2 : Int) : ∃ e, steps_looked.f 8601 l s p l0 l1 l2 = some e ∧ (e = 0 → GoodCode (l.map insOf) ∧ (s.size : Int) ≤ 65536 ∧ 0 ≤ p ∧ p ≤ s.size ∧ 0 ≤ l0 ∧ l0 ≤ 1048576 ∧ 0 ≤ l1 ∧ l1 ≤ 1048576 ∧ 0 ≤ l2 ∧ l2 ≤ 1073741824) := by
  have fin : ∀ (l2' : Int), (l2' ≤ 0 ∨ 1073741824 < l2') → (0 ≤ l2' → l2' ≤ 1073741824 → 0 ≤ l2 ∧ l2 ≤ 1073741824) → ∃ e, ((machine_Run.f 8600 l s p l0 l1 l2').bind fun b => (if b.2.2.2.2.2.2 = 212 then (some 0) else (some b.2.2.2.2.2.2))) = some e ∧ (e = 0 → GoodCode (l.map insOf) ∧ (s.size : Int) ≤ 65536 ∧ 0 ≤ p ∧ p ≤ s.size ∧ 0 ≤ l0 ∧ l0 ≤ 1048576 ∧ 0 ≤ l1 ∧ l1 ≤ 1048576 ∧ 0 ≤ l2 ∧ l2 ≤ 1073741824) := by
    intro l2' hx hb
    obtain ⟨e, he, hne, hg⟩ := run_tot l s p l0 l1 l2' hx
    rw [he, Option.bind_some]
    simp only
    by_cases c : e = 212
    · rw [if_pos c]
      obtain ⟨g0, g1, g2, g3, g4, g5, g6, g7, g8, g9⟩ := hg c
      exact ⟨_, rfl, fun _ => ⟨g0, g1, g2, g3, g4, g5, g6, g7, hb g8 g9⟩⟩
    · rw [if_neg c]; exact ⟨_, rfl, fun h => absurd h hne⟩
  unfold steps_looked.f
  by_cases c : l2 > 0
  · rw [if_pos c, steps_looked.j0]
    by_cases d : l2 ≤ 1073741824
    · rw [decide_eq_true d, if_pos rfl]; exact fin 0 (by omega) (by omega)
    · rw [decide_eq_false d, if_neg (by decide)]; exact fin l2 (by omega) (by omega)
  · rw [if_neg c, steps_looked.j0, if_neg (by decide)]; exact fin l2 (by omega) (by omega)
end Go.Proofs.YthjlpcecfkboiaaDoor
