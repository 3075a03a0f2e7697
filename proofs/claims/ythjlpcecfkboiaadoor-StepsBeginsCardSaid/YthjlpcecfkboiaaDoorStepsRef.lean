/-
  The steps' questions and the document's: names, templates, fields, captures, code. No program here but the printed functions.
-/
import Derived.Test.YthjlpcecfkboiaaDoorZx
import Derived.Test.YthjlpcecfkboiaaDoorStepsTot
namespace Go.Proofs.YthjlpcecfkboiaaDoor
open Go.RowKit Go.Proofs.YthjlpcecfkboiaaDoorW.PrintWords Go.Proofs.YthjlpcecfkboiaaDoor.Z
set_option linter.unusedVariables false
set_option linter.unusedSimpArgs false
def headB (b : Int) : Bool := decide ((97 ≤ b ∧ b ≤ 122) ∨ (65 ≤ b ∧ b ≤ 90) ∨ b = 95)
theorem isHead_fin : ∀ b : Fin 256, tree_isHead.f (b.val : Int) = some (headB (b.val : Int)) := by decide +kernel
theorem bt_fin (s : ByteArray) (x : Int) : ∃ b : Fin 256, bt s x = (b.val : Int) := by
  unfold bt
  by_cases h : x.toNat < s.size
  · rw [dif_pos h]; exact ⟨⟨(s[x.toNat]'h).toNat, UInt8.toNat_lt _⟩, rfl⟩
  · rw [dif_neg h]; exact ⟨⟨0, by decide⟩, rfl⟩
theorem isHead_bt (s : ByteArray) (x : Int) : tree_isHead.f (bt s x) = some (headB (bt s x)) := by
  obtain ⟨b, hb⟩ := bt_fin s x
  rw [hb]; exact isHead_fin b
theorem name_l0 (s : ByteArray) (hs : s.size ≤ 32) : ∀ (n k : Nat) (x : Int), 0 ≤ x → ((s.size : Int) - x).toNat ≤ n → n < k → ∃ r, tree_isName.l0 k s (s.size : Int) x = some r ∧ harrowref04_Name.l0 k s x = some r
  | n, 0, x, _, _, h => by omega
  | 0, k + 1, x, h0, hn, _ => by
    rw [tree_isName.l0, harrowref04_Name.l0, if_neg (by omega), if_neg (by omega)]
    exact ⟨_, rfl, rfl⟩
  | n + 1, k + 1, x, h0, hn, hk => by
    rw [tree_isName.l0, harrowref04_Name.l0]
    by_cases c : x < (s.size : Int)
    · rw [if_pos c, if_pos h0, if_pos c, if_pos c, if_pos h0, wrap64_in (by omega) (by omega), isHead_bt, Option.bind_some]
      obtain ⟨r, hr, hr2⟩ := name_l0 s hs n k (x + 1) (by omega) (by omega) (by omega)
      rw [hr, hr2]
      generalize bt s x = b
      by_cases d : (97 ≤ b ∧ b ≤ 122) ∨ (65 ≤ b ∧ b ≤ 90) ∨ b = 95
      · refine ⟨r, by rw [show headB b = true from decide_eq_true d, if_pos rfl], ?_⟩
        repeat' split
        all_goals first | rfl | (exfalso; omega)
      · rw [if_neg (by rw [show headB b = false from decide_eq_false d]; decide)]
        by_cases e : 48 ≤ b ∧ b ≤ 57
        · refine ⟨r, by rw [if_neg (by omega), if_neg (by omega)], ?_⟩
          repeat' split
          all_goals first | rfl | (exfalso; omega)
        · refine ⟨false, ?_, ?_⟩
          all_goals
            repeat' split
            all_goals first | rfl | (exfalso; omega)
    · rw [if_neg c, if_neg c]; exact ⟨_, rfl, rfl⟩
theorem name_same (s : ByteArray) (k : Nat) (hk : 40 ≤ k) (hne : s.toList ≠ []) : ∃ r, tree_isName.f k s = some r ∧ harrowref04_Name.f k s = some r := by
  obtain ⟨k, rfl⟩ : ∃ j, k = j + 1 := ⟨k - 1, by omega⟩
  unfold tree_isName.f harrowref04_Name.f
  have hpos : 0 < (s.size : Int) := by
    have : s.size ≠ 0 := fun h => hne (by
      obtain ⟨⟨l⟩⟩ := s
      have hl : l.length = 0 := h
      obtain rfl := List.eq_nil_of_length_eq_zero hl
      exact toList_nil)
    omega
  rw [if_neg hne, if_neg (show ¬ (s.size : Int) < 1 by omega)]
  by_cases c1 : (s.size : Int) > 32
  · rw [if_pos c1, if_pos c1, tree_isName.j0, harrowref04_Name.j0, if_pos rfl, if_pos rfl]; exact ⟨_, rfl, rfl⟩
  rw [if_neg c1, if_neg c1, if_pos hpos, if_pos hpos, isHead_bt, Option.bind_some]
  obtain ⟨r, hr, hr2⟩ := name_l0 s (by omega) 32 k 0 (by omega) (by omega) (by omega)
  by_cases d : (97 ≤ bt s 0 ∧ bt s 0 ≤ 122) ∨ (65 ≤ bt s 0 ∧ bt s 0 ≤ 90) ∨ bt s 0 = 95
  · refine ⟨r, ?_, ?_⟩
    · rw [show headB (bt s 0) = true from decide_eq_true d, tree_isName.j0, if_neg (by decide), hr]
    · by_cases e : bt s 0 ≥ 48
      · rw [if_pos e, decide_eq_false (by omega), harrowref04_Name.j0, if_neg (by decide), hr2]
      · exfalso; omega
  · rw [show headB (bt s 0) = false from decide_eq_false d, tree_isName.j0, if_pos (by rfl)]
    refine ⟨false, rfl, ?_⟩
    by_cases e : bt s 0 ≥ 48
    · rw [if_pos e]
      by_cases e2 : bt s 0 ≤ 57
      · rw [decide_eq_true e2, harrowref04_Name.j0, if_pos rfl]
      · rw [decide_eq_false e2, harrowref04_Name.j0, if_neg (by decide)]
        obtain ⟨k, rfl⟩ : ∃ j, k = j + 1 := ⟨k - 1, by omega⟩
        rw [harrowref04_Name.l0, if_pos hpos, if_pos (by decide)]
        generalize bt s 0 = b at *
        repeat' split
        all_goals first | rfl | (exfalso; omega)
    · rw [if_neg e, harrowref04_Name.j0, if_neg (by decide)]
      obtain ⟨k, rfl⟩ : ∃ j, k = j + 1 := ⟨k - 1, by omega⟩
      rw [harrowref04_Name.l0, if_pos hpos, if_pos (by decide)]
      generalize bt s 0 = b at *
      repeat' split
      all_goals first | rfl | (exfalso; omega)
theorem template_l0 (s : ByteArray) (hs : s.size ≤ 255) : ∀ (n k : Nat) (x : Int), 0 ≤ x → ((s.size : Int) - x).toNat ≤ n → n < k → ∃ r, tree_isTemplate.l0 k s x = some r ∧ harrowref04_Template.l0 k s x = some r
  | n, 0, x, _, _, h => by omega
  | 0, k + 1, x, h0, hn, _ => by
    rw [tree_isTemplate.l0, harrowref04_Template.l0, if_neg (by omega), if_neg (by omega)]
    exact ⟨_, rfl, rfl⟩
  | n + 1, k + 1, x, h0, hn, hk => by
    rw [tree_isTemplate.l0, harrowref04_Template.l0]
    by_cases c : x < (s.size : Int)
    · rw [if_pos c, if_pos c, if_pos h0, if_pos h0, wrap64_in (x := x + 1) (by omega) (by omega)]
      obtain ⟨r, hr, hr2⟩ := template_l0 s hs n k (x + 1) (by omega) (by omega) (by omega)
      by_cases c2 : bt s x = 37
      · rw [if_pos c2, if_pos c2]
        by_cases c3 : x + 1 = (s.size : Int)
        · rw [if_pos c3, if_pos c3]; exact ⟨_, rfl, rfl⟩
        rw [if_neg c3, if_neg c3, wrap64_in (x := x + 1 + 1) (by omega) (by omega)]
        have p0 : 0 ≤ x + 1 := by omega
        have p1 : x + 1 < (s.size : Int) := by omega
        simp only [if_pos p0, if_pos p1]
        obtain ⟨r2, hr3, hr4⟩ := template_l0 s hs n k (x + 1 + 1) (by omega) (by omega) (by omega)
        rw [hr3, hr4]
        by_cases d1 : bt s (x + 1) = 37
        · rw [if_pos d1]; exact ⟨_, rfl, rfl⟩
        rw [if_neg d1]
        by_cases d2 : bt s (x + 1) < 48
        · rw [if_pos d2]; exact ⟨_, rfl, rfl⟩
        rw [if_neg d2]
        by_cases d3 : bt s (x + 1) > 57
        · rw [if_pos d3]; exact ⟨_, rfl, rfl⟩
        rw [if_neg d3]; exact ⟨_, rfl, rfl⟩
      · rw [if_neg c2, if_neg c2, hr, hr2]; exact ⟨_, rfl, rfl⟩
    · rw [if_neg c, if_neg c]; exact ⟨_, rfl, rfl⟩
theorem template_same (s : ByteArray) (k : Nat) (hk : 260 ≤ k) : ∃ r, tree_isTemplate.f k s = some r ∧ harrowref04_Template.f k s = some r := by
  unfold tree_isTemplate.f harrowref04_Template.f
  by_cases c1 : (s.size : Int) > 255
  · rw [if_pos c1, if_pos c1]; exact ⟨_, rfl, rfl⟩
  rw [if_neg c1, if_neg c1]
  exact template_l0 s (by omega) 255 k 0 (by omega) (by omega) (by omega)
/-- What a capture's N and Text may be. -/
theorem fields_val (k : Nat) (hk : 262 ≤ k) (b n : Int) (h0 : 2 ≤ b) (h1 : b ≤ 7) (s : ByteArray) : tree_fields.f k (b + 16) n s 0 0 0 0 =
    if n < 0 ∨ n > 50 ∨ (b ≠ 7 ∧ n ≠ 0) then some false else if b = 3 then (if s.toList = [] then some true else tree_isName.f (k - 2) s) else if b = 6 then tree_isTemplate.f (k - 2) s else some (s.toList == []) := by
  obtain ⟨k, rfl⟩ : ∃ j, k = j + 2 := ⟨k - 2, by omega⟩
  have hj : ∀ f : Bool, tree_fields.j1 (k + 1) f (b + 16) n s 0 0 0 0 = if f = true then some false else if b = 3 then (if s.toList = [] then some true else tree_isName.f k s) else if b = 6 then tree_isTemplate.f k s else some (s.toList == []) := by
    intro f
    rw [tree_fields.j1]
    by_cases c0 : f = true
    · rw [if_pos c0, if_pos c0]
    rw [if_neg c0, if_neg c0, if_neg (by omega), if_neg (by omega)]
    obtain ⟨r1, e1⟩ := isName_tot s k (by omega)
    obtain ⟨r2, e2⟩ := isTemplate_tot s k (by omega)
    rw [e1, e2]
    by_cases c1 : b = 3
    · rw [if_pos (show b + 16 = 19 by omega), if_pos c1]; rfl
    rw [if_neg (show ¬ b + 16 = 19 by omega), if_neg c1]
    by_cases c2 : b = 6
    · rw [if_pos (show b + 16 = 22 by omega), if_pos c2]; rfl
    rw [if_neg (show ¬ b + 16 = 22 by omega), if_neg c2]
  unfold tree_fields.f
  rw [if_neg (by omega), if_pos rfl, if_pos rfl, if_pos rfl, if_pos rfl, tree_fields.j0, if_neg (by decide), hj, hj, show k + 2 - 2 = k from rfl]
  by_cases d0 : n < 0
  · rw [if_pos d0, if_pos rfl, if_pos (.inl d0)]
  rw [if_neg d0]
  by_cases d1 : n > 50
  · rw [if_pos d1, if_pos rfl, if_pos (.inr (.inl d1))]
  rw [if_neg d1]
  by_cases d2 : n > 0
  · rw [if_pos d2]
    unfold tree_counted.f
    rw [if_pos (show b + 16 ≥ 14 by omega), if_neg (show ¬ b + 16 ≤ 16 by omega), Option.bind_some, hj]
    by_cases d3 : b = 7
    · rw [show (b + 16 == 23) = true from beq_iff_eq.2 (by omega), if_neg (by decide), if_neg (show ¬ (n < 0 ∨ n > 50 ∨ (b ≠ 7 ∧ n ≠ 0)) by omega)]
    · rw [show (b + 16 == 23) = false from beq_eq_false_iff_ne.2 (by omega), if_pos (by decide), if_pos (show (n < 0 ∨ n > 50 ∨ (b ≠ 7 ∧ n ≠ 0)) by omega)]
  · rw [if_neg d2, if_neg (by decide), if_neg (show ¬ (n < 0 ∨ n > 50 ∨ (b ≠ 7 ∧ n ≠ 0)) by omega)]
theorem catches_val (k : Nat) (hk : 265 ≤ k) (op a b n : Int) (s : ByteArray) (s0 s1 s2 s3 : Int) : harrowref16_catches.f k op a b n s s0 s1 s2 s3 =
    if b < (if op = 18 then 2 else 1) ∨ b > 7 ∨ n < 0 ∨ n > 50 ∨ (b ≠ 7 ∧ n ≠ 0) then some false else if b = 3 then (if s.toList = [] then some true else harrowref04_Name.f (k - 2) s) else if b = 6 then harrowref04_Template.f (k - 2) s else some (s.toList == []) := by
  obtain ⟨k, rfl⟩ : ∃ j, k = j + 2 := ⟨k - 2, by omega⟩
  have hj : ∀ f : Bool, harrowref16_catches.j1 (k + 1) f op a b n s s0 s1 s2 s3 = if f = true then some false else if b = 3 then (if s.toList = [] then some true else harrowref04_Name.f k s) else if b = 6 then harrowref04_Template.f k s else some (s.toList == []) := by
    intro f
    rw [harrowref16_catches.j1]
    by_cases c0 : f = true
    · rw [if_pos c0, if_pos c0]
    rw [if_neg c0, if_neg c0]
    obtain ⟨r2, _, e2⟩ := template_same s k (by omega)
    rw [e2]
    by_cases c1 : b = 3
    · rw [if_pos c1, if_pos c1]
      by_cases c3 : s.toList = []
      · rw [if_pos c3, if_pos c3]
      · obtain ⟨r1, _, e1⟩ := name_same s k (by omega) c3
        rw [if_neg c3, if_neg c3, e1]; rfl
    rw [if_neg c1, if_neg c1]
    rfl
  have hl : ∀ least : Int, harrowref16_catches.j0 (k + 2) least op a b n s s0 s1 s2 s3 = if b < least ∨ b > 7 ∨ n < 0 ∨ n > 50 ∨ (b ≠ 7 ∧ n ≠ 0) then some false else if b = 3 then (if s.toList = [] then some true else harrowref04_Name.f k s) else if b = 6 then harrowref04_Template.f k s else some (s.toList == []) := by
    intro least
    rw [harrowref16_catches.j0, hj, hj, hj]
    by_cases d0 : b < least
    · rw [if_pos d0, if_pos rfl, if_pos (.inl d0)]
    rw [if_neg d0]
    by_cases d1 : b > 7
    · rw [if_pos d1, if_pos rfl, if_pos (.inr (.inl d1))]
    rw [if_neg d1]
    by_cases d2 : n < 0
    · rw [if_pos d2, if_pos rfl, if_pos (.inr (.inr (.inl d2)))]
    rw [if_neg d2]
    by_cases d3 : n > 50
    · rw [if_pos d3, if_pos rfl, if_pos (.inr (.inr (.inr (.inl d3))))]
    rw [if_neg d3]
    by_cases d4 : b = 7
    · rw [if_pos d4, if_neg (by decide), if_neg (show ¬ (b < least ∨ b > 7 ∨ n < 0 ∨ n > 50 ∨ (b ≠ 7 ∧ n ≠ 0)) by omega)]
    rw [if_neg d4]
    by_cases d5 : n = 0
    · rw [show (n != 0) = false from bne_eq_false_iff_eq.2 d5, if_neg (by decide), if_neg (show ¬ (b < least ∨ b > 7 ∨ n < 0 ∨ n > 50 ∨ (b ≠ 7 ∧ n ≠ 0)) by omega)]
    · rw [show (n != 0) = true from bne_iff_ne.2 d5, if_pos rfl, if_pos (show (b < least ∨ b > 7 ∨ n < 0 ∨ n > 50 ∨ (b ≠ 7 ∧ n ≠ 0)) by omega)]
  unfold harrowref16_catches.f
  by_cases c : op = 18
  · rw [if_pos c, hl, if_pos c]; rfl
  · rw [if_neg c, hl, if_neg c]; rfl
theorem catch_same (k : Nat) (hk : 302 ≤ k) (op a b n : Int) (s : ByteArray) (s0 s1 s2 s3 : Int) (h0 : (if op = 18 then 2 else 1) ≤ b) (h1 : b ≤ 7) : ∃ r, instr_capture.f k b n s = some r ∧ harrowref16_catches.f k op a b n s s0 s1 s2 s3 = some r := by
  rw [catches_val k (by omega)]
  by_cases c1 : b = 1
  · unfold instr_capture.f
    rw [if_pos c1]
    by_cases c2 : n = 0
    · rw [if_pos c2, if_neg (show ¬ (b < (if op = 18 then 2 else 1) ∨ b > 7 ∨ n < 0 ∨ n > 50 ∨ (b ≠ 7 ∧ n ≠ 0)) by omega), if_neg (by omega), if_neg (by omega)]
      exact ⟨_, rfl, rfl⟩
    · rw [if_neg c2, if_pos (show (b < (if op = 18 then 2 else 1) ∨ b > 7 ∨ n < 0 ∨ n > 50 ∨ (b ≠ 7 ∧ n ≠ 0)) by omega)]
      exact ⟨_, rfl, rfl⟩
  · have h2 : 2 ≤ b := by split at h0 <;> omega
    rw [capture_val k (by omega) b n h2 h1, fields_val k (by omega) b n h2 h1]
    by_cases d : n < 0 ∨ n > 50 ∨ (b ≠ 7 ∧ n ≠ 0)
    · rw [if_pos d, if_pos (show (b < (if op = 18 then 2 else 1) ∨ b > 7 ∨ n < 0 ∨ n > 50 ∨ (b ≠ 7 ∧ n ≠ 0)) by omega)]; exact ⟨_, rfl, rfl⟩
    rw [if_neg d, if_neg (show ¬ (b < (if op = 18 then 2 else 1) ∨ b > 7 ∨ n < 0 ∨ n > 50 ∨ (b ≠ 7 ∧ n ≠ 0)) by omega)]
    by_cases c3 : b = 3
    · rw [if_pos c3, if_pos c3]
      by_cases c4 : s.toList = []
      · rw [if_pos c4, if_pos c4]; exact ⟨_, rfl, rfl⟩
      · rw [if_neg c4, if_neg c4]; exact name_same s (k - 2) (by omega) c4
    rw [if_neg c3, if_neg c3]
    by_cases c6 : b = 6
    · rw [if_pos c6, if_pos c6]; exact template_same s (k - 2) (by omega)
    rw [if_neg c6, if_neg c6]
    exact ⟨_, rfl, rfl⟩
def useF (q : Int) : Int := ((harrowref16_Uses.f q).getD (0, ⟨#[]⟩, false)).1
def nameF (q : Int) : ByteArray := ((harrowref16_Uses.f q).getD (0, ⟨#[]⟩, false)).2.1
def nextF (q : Int) : Bool := ((harrowref16_Uses.f q).getD (0, ⟨#[]⟩, false)).2.2
theorem uses_tab : ∀ q : Fin 21, 1 ≤ q.val → (harrowref16_Uses.f (q.val : Int)).isSome = true ∧ harrowref16_has.f (useF (q.val : Int)) 16 = some (hasM (q.val : Int) 16) ∧ harrowref16_has.f (useF (q.val : Int)) 1 = some (hasM (q.val : Int) 32) ∧ harrowref16_has.f (useF (q.val : Int)) 2 = some (decide ((q.val : Int) = 20)) ∧ harrowref16_has.f (useF (q.val : Int)) 8 = some (decide ((q.val : Int) = 18 ∨ (q.val : Int) = 20)) ∧ harrowref16_has.f (useF (q.val : Int)) 4 = some (decide ((q.val : Int) = 2 ∨ (q.val : Int) = 5)) ∧ nextF (q.val : Int) = hasM (q.val : Int) 64 ∧ (nameF (q.val : Int)).toList ≠ [] := by decide +kernel
theorem has_tab : ∀ q : Fin 21, 1 ≤ q.val → hasM (q.val : Int) 1 = (hasM (q.val : Int) 32 || decide ((q.val : Int) = 20)) ∧ hasM (q.val : Int) 2 = decide ((q.val : Int) = 2 ∨ (q.val : Int) = 5 ∨ (q.val : Int) = 18 ∨ (q.val : Int) = 20) ∧ hasM (q.val : Int) 4 = decide ((q.val : Int) = 18 ∨ (q.val : Int) = 20) ∧ hasM (q.val : Int) 8 = decide ((q.val : Int) = 18 ∨ (q.val : Int) = 20) := by decide +kernel
theorem uses_f (op : Int) (h0 : 1 ≤ op) (h1 : op ≤ 20) : harrowref16_Uses.f op = some (useF op, nameF op, nextF op) ∧ harrowref16_has.f (useF op) 16 = some (hasM op 16) ∧ harrowref16_has.f (useF op) 1 = some (hasM op 32) ∧ harrowref16_has.f (useF op) 2 = some (decide (op = 20)) ∧ harrowref16_has.f (useF op) 8 = some (decide (op = 18 ∨ op = 20)) ∧ harrowref16_has.f (useF op) 4 = some (decide (op = 2 ∨ op = 5)) ∧ nextF op = hasM op 64 ∧ (nameF op).toList ≠ [] := by
  obtain ⟨q, hq, rfl⟩ := op_fin h0 h1
  obtain ⟨e0, e1, e2, e3, e4, e5, e6, e7⟩ := uses_tab q hq
  refine ⟨?_, e1, e2, e3, e4, e5, e6, e7⟩
  unfold useF nameF nextF
  cases h : harrowref16_Uses.f (q.val : Int) with
  | none => rw [h] at e0; cases e0
  | some u => rfl
theorem has_m (op : Int) (h0 : 1 ≤ op) (h1 : op ≤ 20) : hasM op 1 = (hasM op 32 || decide (op = 20)) ∧ hasM op 2 = decide (op = 2 ∨ op = 5 ∨ op = 18 ∨ op = 20) ∧ hasM op 4 = decide (op = 18 ∨ op = 20) ∧ hasM op 8 = decide (op = 18 ∨ op = 20) := by
  obtain ⟨q, hq, rfl⟩ := op_fin h0 h1
  exact has_tab q hq
/-- An instruction's fields that its kind does not use are empty. -/
def Bare (op a b n : Int) (s : ByteArray) (s0 s1 s2 s3 : Int) : Prop := (hasM op 1 = true ∨ a = 0) ∧ (hasM op 2 = true ∨ b = 0) ∧ (hasM op 4 = true ∨ n = 0) ∧ (hasM op 8 = true ∨ s.toList = []) ∧ (hasM op 16 = true ∨ (s0 = 0 ∧ s1 = 0 ∧ s2 = 0 ∧ s3 = 0))
theorem ite_self_iff {h : Bool} {x : Int} : x = (if h = true then x else 0) ↔ (h = true ∨ x = 0) := by cases h <;> simp
theorem ite_self_iff2 {h : Bool} {x : ByteArray} : x.toList = (if h = true then x else ⟨#[]⟩ : ByteArray).toList ↔ (h = true ∨ x.toList = []) := by cases h <;> simp [toList_nil]
theorem fits_form (k : Nat) (op a b n : Int) (s : ByteArray) (s0 s1 s2 s3 : Int) (h0 : 1 ≤ op) (h1 : op ≤ 20) :
    (Bare op a b n s s0 s1 s2 s3 → instr_fits.f k op a b n s s0 s1 s2 s3 = instr_fits.j0 k op (decide (op = 2 ∨ op = 5)) op a b n s s0 s1 s2 s3) ∧ (¬ Bare op a b n s s0 s1 s2 s3 → instr_fits.f k op a b n s s0 s1 s2 s3 = some false) := by
  unfold instr_fits.f instr_plain.f Bare
  rw [if_pos ⟨h0, h1⟩]
  dsimp only
  rw [Option.bind_some, if_pos (show op = (plainM ⟨op, a, b, n, s, s0, s1, s2, s3⟩).op from rfl)]
  have hfin : (if op = 2 then instr_fits.j0 k op (op == 2) op a b n s s0 s1 s2 s3 else instr_fits.j0 k op (op == 5) op a b n s s0 s1 s2 s3) = instr_fits.j0 k op (decide (op = 2 ∨ op = 5)) op a b n s s0 s1 s2 s3 := by
    by_cases c : op = 2
    · rw [if_pos c, show (op == 2) = true from beq_iff_eq.2 c, decide_eq_true (.inl c)]
    · rw [if_neg c]
      by_cases d : op = 5
      · rw [show (op == 5) = true from beq_iff_eq.2 d, decide_eq_true (.inr d)]
      · rw [show (op == 5) = false from beq_eq_false_iff_ne.2 d, decide_eq_false (by omega)]
  rw [hfin]
  generalize instr_fits.j0 k op (decide (op = 2 ∨ op = 5)) op a b n s s0 s1 s2 s3 = X
  have e1 := ite_self_iff (h := hasM op 1) (x := a)
  have e2 := ite_self_iff (h := hasM op 2) (x := b)
  have e3 := ite_self_iff (h := hasM op 4) (x := n)
  have e4 := ite_self_iff2 (h := hasM op 8) (x := s)
  have e5 := ite_self_iff (h := hasM op 16) (x := s0)
  have e6 := ite_self_iff (h := hasM op 16) (x := s1)
  have e7 := ite_self_iff (h := hasM op 16) (x := s2)
  have e8 := ite_self_iff (h := hasM op 16) (x := s3)
  have key : ∀ (p1 p2 p3 p4 p5 p6 p7 p8 : Prop) [Decidable p1] [Decidable p2] [Decidable p3] [Decidable p4] [Decidable p5] [Decidable p6] [Decidable p7] [Decidable p8], ((p1 ∧ p2 ∧ p3 ∧ p4 ∧ p5 ∧ p6 ∧ p7 ∧ p8) → (if p1 then (if p2 then (if p3 then (if p4 then (if p5 then (if p6 then (if p7 then (if p8 then X else some false) else some false) else some false) else some false) else some false) else some false) else some false) else some false) = X) ∧ (¬ (p1 ∧ p2 ∧ p3 ∧ p4 ∧ p5 ∧ p6 ∧ p7 ∧ p8) → (if p1 then (if p2 then (if p3 then (if p4 then (if p5 then (if p6 then (if p7 then (if p8 then X else some false) else some false) else some false) else some false) else some false) else some false) else some false) else some false) = some false) := by
    intro p1 p2 p3 p4 p5 p6 p7 p8 _ _ _ _ _ _ _ _
    constructor
    · rintro ⟨q1, q2, q3, q4, q5, q6, q7, q8⟩
      rw [if_pos q1, if_pos q2, if_pos q3, if_pos q4, if_pos q5, if_pos q6, if_pos q7, if_pos q8]
    · intro hn
      by_cases q1 : p1
      · rw [if_pos q1]
        by_cases q2 : p2
        · rw [if_pos q2]
          by_cases q3 : p3
          · rw [if_pos q3]
            by_cases q4 : p4
            · rw [if_pos q4]
              by_cases q5 : p5
              · rw [if_pos q5]
                by_cases q6 : p6
                · rw [if_pos q6]
                  by_cases q7 : p7
                  · rw [if_pos q7, if_neg (fun q8 => hn ⟨q1, q2, q3, q4, q5, q6, q7, q8⟩)]
                  · rw [if_neg q7]
                · rw [if_neg q6]
              · rw [if_neg q5]
            · rw [if_neg q4]
          · rw [if_neg q3]
        · rw [if_neg q2]
      · rw [if_neg q1]
  have heq : ((hasM op 1 = true ∨ a = 0) ∧ (hasM op 2 = true ∨ b = 0) ∧ (hasM op 4 = true ∨ n = 0) ∧ (hasM op 8 = true ∨ s.toList = []) ∧ (hasM op 16 = true ∨ (s0 = 0 ∧ s1 = 0 ∧ s2 = 0 ∧ s3 = 0))) ↔ ((a = if hasM op 1 = true then a else 0) ∧ (b = if hasM op 2 = true then b else 0) ∧ (n = if hasM op 4 = true then n else 0) ∧ (s.toList = (if hasM op 8 = true then s else ⟨#[]⟩ : ByteArray).toList) ∧ (s0 = if hasM op 16 = true then s0 else 0) ∧ (s1 = if hasM op 16 = true then s1 else 0) ∧ (s2 = if hasM op 16 = true then s2 else 0) ∧ (s3 = if hasM op 16 = true then s3 else 0)) := by
    rw [← e1, ← e2, ← e3, ← e4, e5, e6, e7, e8]
    generalize (hasM op 16 = true) = z
    constructor
    · rintro ⟨q1, q2, q3, q4, q5⟩
      refine ⟨q1, q2, q3, q4, ?_, ?_, ?_, ?_⟩
      · exact q5.imp id (fun h => h.1)
      · exact q5.imp id (fun h => h.2.1)
      · exact q5.imp id (fun h => h.2.2.1)
      · exact q5.imp id (fun h => h.2.2.2)
    · rintro ⟨q1, q2, q3, q4, q5, q6, q7, q8⟩
      refine ⟨q1, q2, q3, q4, ?_⟩
      rcases q5 with q5 | q5
      · exact .inl q5
      rcases q6 with q6 | q6
      · exact .inl q6
      rcases q7 with q7 | q7
      · exact .inl q7
      rcases q8 with q8 | q8
      · exact .inl q8
      exact .inr ⟨q5, q6, q7, q8⟩
  have hk := key (a = if hasM op 1 = true then a else 0) (b = if hasM op 2 = true then b else 0) (n = if hasM op 4 = true then n else 0) (s.toList = (if hasM op 8 = true then s else ⟨#[]⟩ : ByteArray).toList) (s0 = if hasM op 16 = true then s0 else 0) (s1 = if hasM op 16 = true then s1 else 0) (s2 = if hasM op 16 = true then s2 else 0) (s3 = if hasM op 16 = true then s3 else 0)
  exact ⟨fun h => hk.1 (heq.1 h), fun h => hk.2 (fun h2 => h (heq.2 h2))⟩
theorem args_v (k : Nat) (op a b n : Int) (s : ByteArray) (s0 s1 s2 s3 : Int) (h0 : 1 ≤ op) (h1 : op ≤ 20) : harrowref16_Args.j0 (k + 2) (useF op) false op a b n s s0 s1 s2 s3 =
    if op = 20 ∧ (a < 0 ∨ a > 255 ∨ (b = 1 ∧ a ≠ 0)) then some false else if op = 18 ∨ op = 20 then (harrowref16_catches.f k op a b n s s0 s1 s2 s3).bind (fun t => some t) else if n = 0 ∧ s.toList = [] ∧ (((op = 2 ∨ op = 5) ∧ 0 ≤ b ∧ b ≤ 255) ∨ b = 0) then some true else some false := by
  obtain ⟨u, e16, e1, e2, e8, e4, _, _⟩ := uses_f op h0 h1
  have hj : harrowref16_Args.j1 (k + 1) (useF op) false op a b n s s0 s1 s2 s3 = if op = 18 ∨ op = 20 then (harrowref16_catches.f k op a b n s s0 s1 s2 s3).bind (fun t => some t) else if n = 0 ∧ s.toList = [] ∧ (((op = 2 ∨ op = 5) ∧ 0 ≤ b ∧ b ≤ 255) ∨ b = 0) then some true else some false := by
    rw [harrowref16_Args.j1, if_neg (by decide), e8, Option.bind_some]
    by_cases c : op = 18 ∨ op = 20
    · rw [decide_eq_true c, if_pos rfl, if_pos c]
    rw [decide_eq_false c, if_neg (by decide), if_neg c]
    by_cases d0 : n = 0
    · rw [if_pos d0]
      by_cases d1 : s.toList = []
      · rw [if_pos d1, e4, Option.bind_some]
        by_cases d2 : op = 2 ∨ op = 5
        · rw [decide_eq_true d2, if_pos rfl]
          by_cases d3 : 0 ≤ b ∧ b ≤ 255
          · rw [if_pos d3.1, if_pos d3.2, if_pos ⟨d0, d1, .inl ⟨d2, d3⟩⟩]
          · have hb : (b == 0) = false := beq_eq_false_iff_ne.2 (by omega)
            rw [if_neg (show ¬ (n = 0 ∧ s.toList = [] ∧ (((op = 2 ∨ op = 5) ∧ 0 ≤ b ∧ b ≤ 255) ∨ b = 0)) from fun h => by rcases h.2.2 with h | h <;> omega), hb]
            repeat' split
            all_goals first | rfl | (exfalso; omega)
        · rw [decide_eq_false d2, if_neg (by decide)]
          by_cases d3 : b = 0
          · rw [if_pos ⟨d0, d1, .inr d3⟩, beq_iff_eq.2 d3]
          · rw [if_neg (show ¬ (n = 0 ∧ s.toList = [] ∧ (((op = 2 ∨ op = 5) ∧ 0 ≤ b ∧ b ≤ 255) ∨ b = 0)) from fun h => by rcases h.2.2 with h | h; exact d2 h.1; exact d3 h), beq_eq_false_iff_ne.2 d3]
      · rw [if_neg d1, if_neg (fun h => d1 h.2.1)]
    · rw [if_neg d0, if_neg (fun h => d0 h.1)]
  have ht : harrowref16_Args.j1 (k + 1) (useF op) true op a b n s s0 s1 s2 s3 = some false := by rw [harrowref16_Args.j1, if_pos rfl]
  rw [harrowref16_Args.j0, if_neg (by decide), e2, Option.bind_some]
  by_cases c : op = 20
  · rw [decide_eq_true c, if_pos rfl]
    by_cases d0 : a < 0
    · rw [if_pos d0, ht, if_pos ⟨c, .inl d0⟩]
    rw [if_neg d0]
    by_cases d1 : a > 255
    · rw [if_pos d1, ht, if_pos ⟨c, .inr (.inl d1)⟩]
    rw [if_neg d1]
    by_cases d2 : b = 1
    · rw [if_pos d2]
      by_cases d3 : a = 0
      · rw [show (a != 0) = false from bne_eq_false_iff_eq.2 d3, hj, if_neg (show ¬ (op = 20 ∧ (a < 0 ∨ a > 255 ∨ (b = 1 ∧ a ≠ 0))) by omega)]
      · rw [show (a != 0) = true from bne_iff_ne.2 d3, ht, if_pos ⟨c, .inr (.inr ⟨d2, d3⟩)⟩]
    · rw [if_neg d2, hj, if_neg (show ¬ (op = 20 ∧ (a < 0 ∨ a > 255 ∨ (b = 1 ∧ a ≠ 0))) by omega)]
  · rw [decide_eq_false c, if_neg (by decide), hj, if_neg (show ¬ (op = 20 ∧ (a < 0 ∨ a > 255 ∨ (b = 1 ∧ a ≠ 0))) by omega)]
theorem args_form (k : Nat) (op a b n : Int) (s : ByteArray) (s0 s1 s2 s3 : Int) (h0 : 1 ≤ op) (h1 : op ≤ 20) : harrowref16_Args.f (k + 2) op a b n s s0 s1 s2 s3 =
    if (hasM op 16 = true ∨ (s0 = 0 ∧ s1 = 0 ∧ s2 = 0 ∧ s3 = 0)) ∧ (hasM op 32 = true ∨ op = 20 ∨ a = 0) then harrowref16_Args.j0 (k + 2) (useF op) false op a b n s s0 s1 s2 s3 else some false := by
  obtain ⟨u, e16, e1, e2, e8, e4, _, _⟩ := uses_f op h0 h1
  have ht : harrowref16_Args.j0 (k + 2) (useF op) true op a b n s s0 s1 s2 s3 = some false := by rw [harrowref16_Args.j0, if_pos rfl]
  have hin : ((harrowref16_has.f (useF op) 1).bind fun t => (if t = true then (harrowref16_Args.j0 (k + 2) (useF op) false op a b n s s0 s1 s2 s3) else ((harrowref16_has.f (useF op) 2).bind fun t2 => (if t2 = true then (harrowref16_Args.j0 (k + 2) (useF op) false op a b n s s0 s1 s2 s3) else (harrowref16_Args.j0 (k + 2) (useF op) (a != 0) op a b n s s0 s1 s2 s3))))) = if hasM op 32 = true ∨ op = 20 ∨ a = 0 then harrowref16_Args.j0 (k + 2) (useF op) false op a b n s s0 s1 s2 s3 else some false := by
    rw [e1, Option.bind_some]
    by_cases c : hasM op 32 = true
    · rw [if_pos c, if_pos (.inl c)]
    rw [if_neg c, e2, Option.bind_some]
    by_cases d : op = 20
    · rw [decide_eq_true d, if_pos rfl, if_pos (.inr (.inl d))]
    rw [decide_eq_false d, if_neg (by decide)]
    by_cases e : a = 0
    · rw [show (a != 0) = false from bne_eq_false_iff_eq.2 e, if_pos (.inr (.inr e))]
    · rw [show (a != 0) = true from bne_iff_ne.2 e, ht, if_neg (fun h => by rcases h with h | h | h; exact c h; exact d h; exact e h)]
  unfold harrowref16_Args.f
  rw [u, Option.bind_some]
  dsimp only
  rw [e16, Option.bind_some, hin, ht]
  by_cases c : hasM op 16 = true
  · rw [if_pos c]
    by_cases d : hasM op 32 = true ∨ op = 20 ∨ a = 0
    · rw [if_pos d, if_pos ⟨.inl c, d⟩]
    · rw [if_neg d, if_neg (fun h => d h.2)]
  rw [if_neg c]
  by_cases c0 : s0 = 0
  · rw [if_pos c0]
    by_cases c1 : s1 = 0
    · rw [if_pos c1]
      by_cases c2 : s2 = 0
      · rw [if_pos c2]
        by_cases c3 : s3 = 0
        · rw [if_pos c3]
          by_cases d : hasM op 32 = true ∨ op = 20 ∨ a = 0
          · rw [if_pos d, if_pos ⟨.inr ⟨c0, c1, c2, c3⟩, d⟩]
          · rw [if_neg d, if_neg (fun h => d h.2)]
        · rw [if_neg c3, if_neg (fun h => by rcases h.1 with h | h; exact c h; exact c3 h.2.2.2)]
      · rw [if_neg c2, if_neg (fun h => by rcases h.1 with h | h; exact c h; exact c2 h.2.2.1)]
    · rw [if_neg c1, if_neg (fun h => by rcases h.1 with h | h; exact c h; exact c1 h.2.1)]
  · rw [if_neg c0, if_neg (fun h => by rcases h.1 with h | h; exact c h; exact c0 h.1)]
theorem args_same (k : Nat) (hk : 310 ≤ k) (op a b n : Int) (s : ByteArray) (s0 s1 s2 s3 : Int) (h0 : 1 ≤ op) (h1 : op ≤ 20) : ∃ r, instr_fits.f k op a b n s s0 s1 s2 s3 = some r ∧ harrowref16_Args.f k op a b n s s0 s1 s2 s3 = some r := by
  obtain ⟨j, rfl⟩ : ∃ j, k = j + 2 := ⟨k - 2, by omega⟩
  obtain ⟨m1, m2, m4, m8⟩ := has_m op h0 h1
  obtain ⟨fb, fn⟩ := fits_form (j + 2) op a b n s s0 s1 s2 s3 h0 h1
  rw [args_form j op a b n s s0 s1 s2 s3 h0 h1, args_v j op a b n s s0 s1 s2 s3 h0 h1]
  have hcap : (if op = 18 then 2 else 1) ≤ b → b ≤ 7 → ∃ r, instr_capture.f (j + 1) b n s = some r ∧ (harrowref16_catches.f j op a b n s s0 s1 s2 s3).bind (fun t => some t) = some r := by
    intro q0 q1
    obtain ⟨r, hr, hr2⟩ := catch_same j (by omega) op a b n s s0 s1 s2 s3 q0 q1
    exact ⟨r, instr_capture.mono _ _ _ _ _ hr, by rw [hr2]; rfl⟩
  have hout : (b < (if op = 18 then 2 else 1) ∨ b > 7) → (harrowref16_catches.f j op a b n s s0 s1 s2 s3).bind (fun t => some t) = some false := by
    intro q
    rw [catches_val j (by omega), if_pos (by omega)]
    rfl
  generalize (harrowref16_catches.f j op a b n s s0 s1 s2 s3).bind (fun t => some t) = C at *
  unfold Bare at fb fn
  rw [m1, m2, m4, m8] at fb fn
  generalize hasM op 16 = z16 at *
  generalize hasM op 32 = z32 at *
  clear m1 m2 m4 m8
  by_cases c18 : op = 18
  · subst c18
    simp only [if_pos rfl] at hcap hout
    have hB : ((z32 || decide ((18 : Int) = 20)) = true ∨ a = 0) ∧ (decide ((18 : Int) = 2 ∨ (18 : Int) = 5 ∨ (18 : Int) = 18 ∨ (18 : Int) = 20) = true ∨ b = 0) ∧ (decide ((18 : Int) = 18 ∨ (18 : Int) = 20) = true ∨ n = 0) ∧ (decide ((18 : Int) = 18 ∨ (18 : Int) = 20) = true ∨ s.toList = []) ∧ (z16 = true ∨ (s0 = 0 ∧ s1 = 0 ∧ s2 = 0 ∧ s3 = 0)) ↔ ((z16 = true ∨ (s0 = 0 ∧ s1 = 0 ∧ s2 = 0 ∧ s3 = 0)) ∧ (z32 = true ∨ (18 : Int) = 20 ∨ a = 0)) := by
      simp
      constructor
      · rintro ⟨p, q⟩; exact ⟨q, p⟩
      · rintro ⟨p, q⟩; exact ⟨q, p⟩
    by_cases hb : ((z16 = true ∨ (s0 = 0 ∧ s1 = 0 ∧ s2 = 0 ∧ s3 = 0)) ∧ (z32 = true ∨ (18 : Int) = 20 ∨ a = 0))
    · rw [fb (hB.2 hb), if_pos hb, if_neg (show ¬ ((18 : Int) = 20 ∧ (a < 0 ∨ a > 255 ∨ (b = 1 ∧ a ≠ 0))) by omega), if_pos (show (18 : Int) = 18 ∨ (18 : Int) = 20 from .inl rfl), instr_fits.j0, if_neg (by decide), if_pos rfl]
      by_cases d0 : b ≥ 2
      · rw [if_pos d0]
        by_cases d1 : b ≤ 7
        · obtain ⟨r, hr, hr2⟩ := hcap d0 d1
          rw [if_pos d1, hr, hr2]; exact ⟨r, rfl, rfl⟩
        · rw [if_neg d1, hout (.inr (by omega))]; exact ⟨_, rfl, rfl⟩
      · rw [if_neg d0, hout (.inl (show b < 2 by omega))]; exact ⟨_, rfl, rfl⟩
    · rw [fn (fun h => hb (hB.1 h)), if_neg hb]; exact ⟨_, rfl, rfl⟩
  by_cases c20 : op = 20
  · subst c20
    simp only [if_neg (show ¬ (20 : Int) = 18 by decide)] at hcap hout
    by_cases hs : z16 = true ∨ (s0 = 0 ∧ s1 = 0 ∧ s2 = 0 ∧ s3 = 0)
    · rw [fb (by simp; exact hs), if_pos ⟨hs, .inr (.inl rfl)⟩, instr_fits.j0, if_neg (by decide), if_neg (by decide), if_pos rfl, if_pos (show (20 : Int) = 18 ∨ (20 : Int) = 20 from .inr rfl)]
      by_cases d0 : b < 1
      · rw [if_pos d0, hout (.inl d0)]
        refine ⟨false, rfl, ?_⟩
        split <;> rfl
      rw [if_neg d0]
      by_cases d1 : b > 7
      · rw [if_pos d1, hout (.inr d1)]
        refine ⟨false, rfl, ?_⟩
        split <;> rfl
      rw [if_neg d1]
      by_cases d2 : a < 0
      · rw [if_pos d2, if_pos ⟨rfl, .inl d2⟩]; exact ⟨_, rfl, rfl⟩
      rw [if_neg d2]
      by_cases d3 : a > 255
      · rw [if_pos d3, if_pos ⟨rfl, .inr (.inl d3)⟩]; exact ⟨_, rfl, rfl⟩
      rw [if_neg d3]
      obtain ⟨r, hr, hr2⟩ := hcap (by omega) (by omega)
      by_cases d4 : b = 1
      · rw [if_pos d4]
        by_cases d5 : a > 0
        · rw [if_pos d5, if_pos ⟨rfl, .inr (.inr ⟨d4, by omega⟩)⟩]; exact ⟨_, rfl, rfl⟩
        · rw [if_neg d5, if_neg (show ¬ ((20 : Int) = 20 ∧ (a < 0 ∨ a > 255 ∨ (b = 1 ∧ a ≠ 0))) by omega), hr, hr2]; exact ⟨r, rfl, rfl⟩
      · rw [if_neg d4, if_neg (show ¬ ((20 : Int) = 20 ∧ (a < 0 ∨ a > 255 ∨ (b = 1 ∧ a ≠ 0))) by omega), hr, hr2]; exact ⟨r, rfl, rfl⟩
    · rw [fn (fun h => hs h.2.2.2.2), if_neg (fun h => hs h.1)]; exact ⟨_, rfl, rfl⟩
  rw [if_neg (show ¬ (op = 20 ∧ (a < 0 ∨ a > 255 ∨ (b = 1 ∧ a ≠ 0))) by omega), if_neg (show ¬ (op = 18 ∨ op = 20) by omega)]
  rw [decide_eq_false c20, decide_eq_false (show ¬ (op = 18 ∨ op = 20) by omega)] at fb fn
  by_cases c2 : op = 2 ∨ op = 5
  · rw [decide_eq_true (show op = 2 ∨ op = 5 ∨ op = 18 ∨ op = 20 by omega)] at fb fn
    by_cases hb : ((z16 = true ∨ (s0 = 0 ∧ s1 = 0 ∧ s2 = 0 ∧ s3 = 0)) ∧ (z32 = true ∨ op = 20 ∨ a = 0)) ∧ n = 0 ∧ s.toList = []
    · obtain ⟨⟨b1, b2⟩, b3, b4⟩ := hb
      rw [fb (by simp only [Bool.or_false]; exact ⟨b2.imp id (fun h => h.resolve_left c20), (by first | trivial | exact .inl trivial | exact .inl rfl), .inr b3, .inr b4, b1⟩), if_pos ⟨b1, b2⟩, instr_fits.j0, decide_eq_true c2, if_pos rfl]
      by_cases d0 : b ≥ 0
      · rw [if_pos d0]
        by_cases d1 : b ≤ 255
        · rw [decide_eq_true d1, if_pos ⟨b3, b4, .inl ⟨c2, d0, d1⟩⟩]; exact ⟨_, rfl, rfl⟩
        · rw [decide_eq_false d1, if_neg (fun h => by rcases h.2.2 with h | h <;> omega)]; exact ⟨_, rfl, rfl⟩
      · rw [if_neg d0, if_neg (fun h => by rcases h.2.2 with h | h <;> omega)]; exact ⟨_, rfl, rfl⟩
    · rw [fn (fun h => hb ⟨⟨h.2.2.2.2, by simpa using h.1.imp id (fun h => Or.inr h)⟩, by simpa using h.2.2.1, by simpa using h.2.2.2.1⟩)]
      refine ⟨false, rfl, ?_⟩
      by_cases q : (z16 = true ∨ (s0 = 0 ∧ s1 = 0 ∧ s2 = 0 ∧ s3 = 0)) ∧ (z32 = true ∨ op = 20 ∨ a = 0)
      · rw [if_pos q, if_neg (fun h => hb ⟨q, h.1, h.2.1⟩)]
      · rw [if_neg q]
  · rw [decide_eq_false (show ¬ (op = 2 ∨ op = 5 ∨ op = 18 ∨ op = 20) by omega)] at fb fn
    by_cases hb : ((z16 = true ∨ (s0 = 0 ∧ s1 = 0 ∧ s2 = 0 ∧ s3 = 0)) ∧ (z32 = true ∨ op = 20 ∨ a = 0)) ∧ n = 0 ∧ s.toList = [] ∧ b = 0
    · obtain ⟨⟨b1, b2⟩, b3, b4, b5⟩ := hb
      rw [fb (by simp only [Bool.or_false]; exact ⟨b2.imp id (fun h => h.resolve_left c20), .inr b5, .inr b3, .inr b4, b1⟩), if_pos ⟨b1, b2⟩, instr_fits.j0, decide_eq_false c2, if_neg (by decide), if_neg c18, if_neg c20, if_pos ⟨b3, b4, .inr b5⟩]
      exact ⟨_, rfl, rfl⟩
    · rw [fn (fun h => hb ⟨⟨h.2.2.2.2, by simpa using h.1.imp id (fun h => Or.inr h)⟩, by simpa using h.2.2.1, by simpa using h.2.2.2.1, by simpa using h.2.1⟩)]
      refine ⟨false, rfl, ?_⟩
      by_cases q : (z16 = true ∨ (s0 = 0 ∧ s1 = 0 ∧ s2 = 0 ∧ s3 = 0)) ∧ (z32 = true ∨ op = 20 ∨ a = 0)
      · rw [if_pos q, if_neg (fun h => hb ⟨q, h.1, h.2.1, by rcases h.2.2 with h | h; exact absurd h.1 c2; exact h⟩)]
      · rw [if_neg q]
theorem uses_none (op : Int) (h : ¬ (1 ≤ op ∧ op ≤ 20)) : harrowref16_Uses.f op = some (0, ⟨#[]⟩, false) := by
  unfold harrowref16_Uses.f
  rw [if_neg (by omega), if_neg (by omega), if_neg (by omega), if_neg (by omega), if_neg (by omega), if_neg (by omega), if_neg (by omega), if_neg (by omega), if_neg (by omega), if_neg (by omega), if_neg (by omega), if_neg (by omega), if_neg (by omega), if_neg (by omega), if_neg (by omega), if_neg (by omega), if_neg (by omega), if_neg (by omega), if_neg (by omega), if_neg (by omega)]
theorem check_l0_same (l : List S52) (hl : l.length ≤ 8192) (hp : 0 < l.length) : ∀ (n k : Nat) (x : Nat), x ≤ l.length → l.length - x ≤ n → n + 320 < k → (∀ j, j < x → 1 ≤ (rd_T52 l (j : Nat)).f0 ∧ (rd_T52 l (j : Nat)).f0 ≤ 20) →
    ∃ r, instr_Check.l0 k l l (l.length : Int) (x : Int) = some r ∧ harrowref16_Check.l0 k l (x : Int) = some r
  | n, 0, x, _, _, h, _ => by omega
  | 0, k + 1, x, h0, hn, _, ha => by
    obtain rfl : x = l.length := by omega
    rw [instr_Check.l0, harrowref16_Check.l0, if_neg (show ¬ (l.length : Int) < (l.length : Int) by omega), wrap64_in (by omega) (by omega)]
    have q0 : 0 ≤ (l.length : Int) - 1 := by omega
    have q1 : (l.length : Int) - 1 < (l.length : Int) := by omega
    simp only [if_pos q0, if_pos q1, show ((l.length : Int) - 1) = ((l.length - 1 : Nat) : Int) by omega]
    have hi := ha (l.length - 1) (by omega)
    obtain ⟨u, _, _, _, _, _, e6, _⟩ := uses_f _ hi.1 hi.2
    rw [has_f _ 64 hi.1 hi.2, u, Option.bind_some, Option.bind_some, if_neg (show ¬ (l.length : Int) < (l.length : Int) by omega)]
    have q2 : 0 ≤ ((l.length - 1 : Nat) : Int) := by omega
    have q3 : ((l.length - 1 : Nat) : Int) < (l.length : Int) := by omega
    simp only [e6, if_pos q2, if_pos q3]
    cases hasM (rd_T52 l (l.length - 1 : Nat)).f0 64 with
    | true => exact ⟨_, rfl, rfl⟩
    | false => exact ⟨_, rfl, rfl⟩
  | n + 1, k + 1, x, h0, hn, hk, ha => by
    by_cases c : x < l.length
    · have c1 : (x : Int) < (l.length : Int) := by omega
      have c0 : 0 ≤ (x : Int) := by omega
      rw [instr_Check.l0, harrowref16_Check.l0]
      simp only [if_pos c1, if_pos c0]
      rw [is_any, Option.bind_some]
      generalize hi : rd_T52 l x = i at *
      by_cases d : 1 ≤ i.f0 ∧ i.f0 ≤ 20
      · obtain ⟨u, _, e1, _, _, _, e6, e7⟩ := uses_f i.f0 d.1 d.2
        obtain ⟨b, hb, hb2⟩ := args_same k (by omega) i.f0 i.f1 i.f2 i.f3 i.f4 i.f5.f0 i.f5.f1 i.f5.f2 i.f5.f3 d.1 d.2
        rw [decide_eq_true d, if_pos rfl, u, Option.bind_some, if_neg e7, hb, hb2, Option.bind_some, Option.bind_some]
        obtain ⟨r, hr, hr2⟩ := check_l0_same l hl hp n k (x + 1) (by omega) (by omega) (by omega) (fun j hj => by
          by_cases e : j = x
          · subst e; rw [hi]; exact d
          · exact ha j (by omega))
        rw [show ((x + 1 : Nat) : Int) = (x : Int) + 1 by omega] at hr hr2
        cases b with
        | false => exact ⟨_, rfl, rfl⟩
        | true =>
          simp only [if_pos]
          rw [has_f _ 32 d.1 d.2, Option.bind_some, wrap64_in (x := -(x : Int)) (by omega) (by omega), wrap64_in (x := (l.length : Int) - x) (by omega) (by omega), wrap64_in (x := (x : Int) + 1) (by omega) (by omega), hr, hr2]
          unfold harrowref16_Targets.f
          rw [u, Option.bind_some, e1, Option.bind_some, Option.bind_some]
          repeat' split
          all_goals first | exact ⟨_, rfl, rfl⟩ | (exfalso; simp_all)
      · rw [decide_eq_false d, if_neg (by decide), uses_none i.f0 d, Option.bind_some, if_pos toList_nil]; exact ⟨_, rfl, rfl⟩
    · exact check_l0_same l hl hp 0 (k + 1) x h0 (by omega) (by omega) ha
theorem check_same (l : List S52) : ∃ c, instr_Check.f 8600 l = some c ∧ harrowref16_Check.f 8600 l = some c := by
  unfold instr_Check.f harrowref16_Check.f
  by_cases c0 : (l.length : Int) > 8192
  · rw [if_pos c0, if_pos c0]; exact ⟨_, rfl, rfl⟩
  rw [if_neg c0, if_neg c0]
  by_cases c1 : (l.length : Int) = 0
  · rw [if_pos c1, if_pos c1]; exact ⟨_, rfl, rfl⟩
  rw [if_neg c1, if_neg c1]
  exact check_l0_same l (by omega) (by omega) 8192 8600 0 (Nat.zero_le _) (by omega) (by omega) (fun j hj => absurd hj (Nat.not_lt_zero _))
theorem right_same (l : List S52) (s : ByteArray) (p l0 l1 l2 : Int) : ∃ e, steps_looked.f 8601 l s p l0 l1 l2 = some e ∧ harrowref21_Right.f 8600 l s p l0 l1 l2 = some e := by
  obtain ⟨c, hc, hc2⟩ := check_same l
  obtain ⟨c', hc', hlt, _⟩ := check_tot l
  rw [hc] at hc'
  injection hc' with hc'
  subst hc'
  have key : ∀ l2' : Int, (l2' ≤ 0 ∨ 1073741824 < l2') → (l2' < 0 ↔ l2 < 0) → (1073741824 < l2' ↔ 1073741824 < l2) → ∃ e' e, run0E c.2 (s.size : Int) p l0 l1 l2' = some e' ∧ harrowref21_Right.f 8600 l s p l0 l1 l2 = some e ∧ (if e' = 212 then 0 else e') = e := by
    intro l2' hx h8 h9
    unfold harrowref21_Right.f run0E
    rw [hc2, Option.bind_some]
    by_cases d0 : c.2 = 0
    rotate_left
    · rw [if_neg d0, if_pos d0]; exact ⟨_, _, rfl, rfl, if_neg (by omega)⟩
    rw [if_pos d0, if_neg (show ¬ c.2 ≠ 0 from fun h => h d0)]
    by_cases d1 : (s.size : Int) > 65536
    · rw [if_pos d1, if_pos (show (65536 : Int) < (s.size : Int) from d1)]; exact ⟨_, _, rfl, rfl, by decide⟩
    rw [if_neg d1, if_neg (show ¬ (65536 : Int) < (s.size : Int) from d1)]
    by_cases d2 : p < 0
    · rw [if_pos d2, if_pos (show p < 0 from d2)]; exact ⟨_, _, rfl, rfl, by decide⟩
    rw [if_neg d2, if_neg (show ¬ p < 0 from d2)]
    by_cases d3 : p > (s.size : Int)
    · rw [if_pos d3, if_pos (show (s.size : Int) < p from d3)]; exact ⟨_, _, rfl, rfl, by decide⟩
    rw [if_neg d3, if_neg (show ¬ (s.size : Int) < p from d3)]
    by_cases d4 : l0 < 0
    · rw [if_pos d4, if_pos (show l0 < 0 from d4)]; exact ⟨_, _, rfl, rfl, by decide⟩
    rw [if_neg d4, if_neg (show ¬ l0 < 0 from d4)]
    by_cases d5 : l0 > 1048576
    · rw [if_pos d5, if_pos (show 1048576 < l0 from d5)]; exact ⟨_, _, rfl, rfl, by decide⟩
    rw [if_neg d5, if_neg (show ¬ 1048576 < l0 from d5)]
    by_cases d6 : l1 < 0
    · rw [if_pos d6, if_pos (show l1 < 0 from d6)]; exact ⟨_, _, rfl, rfl, by decide⟩
    rw [if_neg d6, if_neg (show ¬ l1 < 0 from d6)]
    by_cases d7 : l1 > 1048576
    · rw [if_pos d7, if_pos (show 1048576 < l1 from d7)]; exact ⟨_, _, rfl, rfl, by decide⟩
    rw [if_neg d7, if_neg (show ¬ 1048576 < l1 from d7)]
    by_cases d8 : l2 < 0
    · rw [if_pos d8, if_pos (h8.2 d8)]; exact ⟨_, _, rfl, rfl, by decide⟩
    rw [if_neg d8, if_neg (fun h => d8 (h8.1 h))]
    by_cases d9 : l2 > 1073741824
    · rw [if_pos d9, if_pos (h9.2 d9)]; exact ⟨_, _, rfl, rfl, by decide⟩
    rw [if_neg d9, if_neg (fun h => d9 (h9.1 h)), if_pos (show l2' ≤ 0 from hx.resolve_right (fun h => d9 (h9.1 h)))]
    exact ⟨_, _, rfl, rfl, by decide⟩
  have fin : ∀ l2' : Int, (l2' ≤ 0 ∨ 1073741824 < l2') → (l2' < 0 ↔ l2 < 0) → (1073741824 < l2' ↔ 1073741824 < l2) → ∃ e, ((machine_Run.f 8600 l s p l0 l1 l2').bind fun b => (if b.2.2.2.2.2.2 = 212 then (some 0) else (some b.2.2.2.2.2.2))) = some e ∧ harrowref21_Right.f 8600 l s p l0 l1 l2 = some e := by
    intro l2' hx h8 h9
    obtain ⟨e', e, he, hr, h⟩ := key l2' hx h8 h9
    refine ⟨e, ?_, hr⟩
    unfold machine_Run.f
    rw [hc, Option.bind_some, he, Option.bind_some, Option.bind_some]
    simp only
    rw [← h]
    split <;> rfl
  unfold steps_looked.f
  by_cases c2 : l2 > 0
  · rw [if_pos c2, steps_looked.j0]
    by_cases d : l2 ≤ 1073741824
    · rw [decide_eq_true d, if_pos rfl]; exact fin 0 (by omega) (by omega) (by omega)
    · rw [decide_eq_false d, if_neg (by decide)]; exact fin l2 (by omega) Iff.rfl Iff.rfl
  · rw [if_neg c2, steps_looked.j0, if_neg (by decide)]; exact fin l2 (by omega) Iff.rfl Iff.rfl
end Go.Proofs.YthjlpcecfkboiaaDoor
