/-
  There and back: what was saved is loaded; what was loaded is saved as the same bytes. No program here.
-/
import Derived.Test.YthjlpcecfkboiabDoorLoadP
namespace Go.Proofs.YthjlpcecfkboiabDoor
open Go.RowKit
set_option linter.unusedVariables false
set_option linter.unusedSimpArgs false
/-! ### Bytes and texts -/
theorem bytes_str {l : List Int} (h : allB l) : bytesL (strOfNums l) = l := by
  unfold bytesL
  rw [strOfNums_data, List.map_map]
  apply List.ext_getElem?
  intro i
  rw [List.getElem?_map]
  cases hi : l[i]? with
  | none => rfl
  | some x =>
    have hx := h x (List.mem_of_getElem? hi)
    simp only [Option.map_some, Function.comp]
    congr 1
    rw [UInt8.toNat_ofNat']
    omega
theorem str_bytes (s : ByteArray) : strOfNums (bytesL s) = s := by
  unfold bytesL
  apply ByteArray.ext
  apply Array.ext'
  rw [strOfNums_data, List.map_map]
  apply List.ext_getElem?
  intro i
  rw [List.getElem?_map]
  cases hi : s.data.toList[i]? with
  | none => rfl
  | some x =>
    simp only [Option.map_some, Function.comp]
    congr 1
    apply UInt8.toNat_inj.1
    rw [UInt8.toNat_ofNat']
    have := x.toNat_lt
    omega
theorem fourL_u8 (n : Int) : allB (fourL n) := by
  intro b hb
  simp only [fourL, List.mem_cons, List.not_mem_nil, or_false] at hb
  rcases hb with rfl | rfl | rfl | rfl <;> omega
theorem oneL_u8 (n : Int) : allB (oneL n) := by
  intro b hb
  simp only [oneL, List.mem_cons, List.not_mem_nil, or_false] at hb
  subst hb
  omega
theorem allB_app {a b : List Int} (h : allB a) (k : allB b) : allB (a ++ b) := fun x hx => (List.mem_append.1 hx).elim (h x) (k x)
theorem allB_flat {α : Type} {f : α → List Int} (h : ∀ x, allB (f x)) (l : List α) : allB (l.flatMap f) := fun x hx => by
  obtain ⟨y, _, hy⟩ := List.mem_flatMap.1 hx
  exact h y x hy
theorem entB_u8 (e : Ent) : allB (entB e) := allB_app (oneL_u8 _) (allB_flat fourL_u8 _)
theorem noteB_u8 (n : Not) : allB (noteB n) := allB_app (allB_app (allB_app (allB_flat oneL_u8 _) (allB_flat fourL_u8 _)) (allB_flat oneL_u8 _)) (bytesL_u8 n.text)
theorem saveB_u8 (x : MSt) : allB (saveB x) :=
  allB_app (allB_app (allB_app (allB_app (allB_app (allB_flat fourL_u8 _) (allB_flat oneL_u8 _)) (allB_flat fourL_u8 _)) (allB_flat entB_u8 _)) (allB_flat fourL_u8 _)) (allB_flat noteB_u8 _)
/-! ### What was written is read -/
theorem num_four {n : Int} (h : badN n = false) (r : List Int) (bad : Bool) : numM (fourL n ++ r) bad = (n, r, bad) := by
  unfold badN at h
  rw [Bool.or_eq_false_iff] at h
  have h0 := of_decide_eq_false h.1
  have h1 := of_decide_eq_false h.2
  have e : numV (n / 16777216 % 256) (n / 65536 % 256) (n / 256 % 256) (n % 256) = n := by unfold numV; omega
  have e2 : numM (fourL n ++ r) bad = if 2147483647 < numV (n / 16777216 % 256) (n / 65536 % 256) (n / 256 % 256) (n % 256) then (0, r, true) else (numV (n / 16777216 % 256) (n / 65536 % 256) (n / 256 % 256) (n % 256), r, bad) := rfl
  rw [e2, e, if_neg (by omega)]
theorem sma_one {n : Int} (h : badB n = false) (r : List Int) (bad : Bool) : smaM (oneL n ++ r) bad = (n, r, bad) := by
  unfold badB at h
  rw [Bool.or_eq_false_iff] at h
  have h0 := of_decide_eq_false h.1
  have h1 := of_decide_eq_false h.2
  have e : n % 256 = n := by omega
  show (n % 256, r, bad) = (n, r, bad)
  rw [e]
theorem tak_app (l r : List Int) (bad : Bool) : takM l.length (l ++ r) bad = (l, r, bad) := by
  unfold takM
  rw [if_neg (by rw [List.length_append]; omega), List.take_left, List.drop_left]
theorem any3 {f : Int → Bool} {a b c : Int} (h : [a, b, c].any f = false) : f a = false ∧ f b = false ∧ f c = false := by
  simpa [List.any] using h
theorem any2 {f : Int → Bool} {a b : Int} (h : [a, b].any f = false) : f a = false ∧ f b = false := by
  simpa [List.any] using h
theorem any1 {f : Int → Bool} {a : Int} (h : [a].any f = false) : f a = false := by
  simpa [List.any] using h
theorem entL_app : ∀ (es : List Ent) (acc : List Ent) (r : List Int), es.any entBad = false → entL es.length acc (es.flatMap entB ++ r) false = (acc ++ es, r, false)
  | [], acc, r, _ => by rw [List.append_nil]; rfl
  | e :: es, acc, r, h => by
    rw [List.any_cons, Bool.or_eq_false_iff] at h
    obtain ⟨p1, p2, p3⟩ := any3 h.1
    rw [List.length_cons, entL, if_neg (by decide)]
    have hb : badB (if e.ret = true then 1 else 0) = false := by cases e.ret <;> rfl
    have e0 : (e :: es).flatMap entB ++ r = oneL (if e.ret = true then 1 else 0) ++ (fourL e.pc ++ (fourL e.at_ ++ (fourL e.notes ++ (es.flatMap entB ++ r)))) := by
      simp [entB, List.append_assoc]
    rw [e0, sma_one hb]
    have hd : (false || decide ((1 : Int) < (if e.ret = true then 1 else 0))) = false := by cases e.ret <;> rfl
    simp only [hd]
    rw [num_four p1]
    simp only
    rw [num_four p2]
    simp only
    rw [num_four p3]
    simp only
    have he : (⟨(if e.ret = true then (1 : Int) else 0) == 1, e.pc, e.at_, e.notes⟩ : Ent) = e := by
      obtain ⟨ret, pc, at_, nt⟩ := e
      cases ret <;> rfl
    rw [he, entL_app es (acc ++ [e]) r h.2, List.append_assoc]
    rfl
theorem notL_app : ∀ (es : List Not) (acc : List Not) (r : List Int), es.any noteBad = false → notL es.length acc (es.flatMap noteB ++ r) false = (acc ++ es, r, false)
  | [], acc, r, _ => by rw [List.append_nil]; rfl
  | e :: es, acc, r, h => by
    rw [List.any_cons, Bool.or_eq_false_iff] at h
    have h1 := h.1
    unfold noteBad at h1
    rw [Bool.or_eq_false_iff, Bool.or_eq_false_iff] at h1
    obtain ⟨p1, p2⟩ := any2 h1.1.1
    obtain ⟨p3, p4⟩ := any2 h1.1.2
    obtain ⟨p5, p6⟩ := any2 h1.2
    rw [List.length_cons, notL, if_neg (by decide)]
    have e0 : (e :: es).flatMap noteB ++ r = oneL e.op ++ (oneL e.kind ++ (fourL e.at_ ++ (fourL e.len ++ (oneL e.n ++ (oneL (e.text.size : Int) ++ (bytesL e.text ++ (es.flatMap noteB ++ r))))))) := by
      simp [noteB, bytesL, List.append_assoc]
    rw [e0, sma_one p1]
    simp only
    rw [sma_one p2]
    simp only
    rw [num_four p3]
    simp only
    rw [num_four p4]
    simp only
    rw [sma_one p5]
    simp only
    rw [sma_one p6]
    simp only
    rw [Int.toNat_natCast, ← bytesL_len e.text, tak_app]
    simp only
    rw [str_bytes, notL_app es (acc ++ [e]) r h.2, List.append_assoc]
    rfl
theorem load_save {x : MSt} (h : saveBad x = false) : loadQ (saveB x) = (x, [], false) := by
  unfold saveBad headBad at h
  simp only [Bool.or_eq_false_iff] at h
  obtain ⟨⟨⟨⟨⟨h1, h2⟩, h3⟩, h4⟩, h5⟩, h6⟩ := h
  obtain ⟨p1, p2, p3⟩ := any3 h1
  have p4 := any1 h2
  have p5 := any1 h3
  have p6 := any1 h5
  have e0 : saveB x = fourL x.pc ++ (fourL x.at_ ++ (fourL x.steps ++ (oneL x.kind ++ (fourL (x.stack.length : Int) ++ (x.stack.flatMap entB ++ (fourL (x.log.length : Int) ++ (x.log.flatMap noteB ++ []))))))) := by
    simp [saveB, headB, List.append_assoc]
  unfold loadQ
  rw [e0, num_four p1]
  simp only
  rw [num_four p2]
  simp only
  rw [num_four p3]
  simp only
  rw [sma_one p4]
  simp only
  rw [num_four p5]
  simp only
  rw [Int.toNat_natCast, entL_app x.stack [] _ h4]
  simp only [List.nil_append, Bool.false_eq_true, if_false]
  rw [num_four p6]
  simp only
  rw [Int.toNat_natCast, notL_app x.log [] [] h6]
  rfl
theorem loadM_save {x : MSt} (h : saveBad x = false) (hl : (saveB x).length ≤ 1048576) : loadM (strOfNums (saveB x)) = (x, 0) := by
  unfold loadM
  rw [if_neg (by rw [strOfNums_size]; omega), bytes_str (saveB_u8 x), load_save h]
  simp
/-! ### What was read is written -/
theorem num_back {l r : List Int} {v : Int} (hl : allB l) (h : numM l false = (v, r, false)) : l = fourL v ++ r ∧ badN v = false := by
  by_cases c4 : l.length < 4
  · rw [numM_short false c4] at h
    simp at h
  · match l, c4 with
    | b0 :: b1 :: b2 :: b3 :: rs, _ =>
      have h0 := hl b0 (by simp)
      have h1 := hl b1 (by simp)
      have h2 := hl b2 (by simp)
      have h3 := hl b3 (by simp)
      by_cases q : 2147483647 < numV b0 b1 b2 b3
      · have e : numM (b0 :: b1 :: b2 :: b3 :: rs) false = (0, rs, true) := if_pos q
        rw [e] at h
        simp at h
      · have e : numM (b0 :: b1 :: b2 :: b3 :: rs) false = (numV b0 b1 b2 b3, rs, false) := if_neg q
        rw [e] at h
        simp only [Prod.mk.injEq, and_true] at h
        obtain ⟨rfl, rfl⟩ := h
        unfold numV at q ⊢
        refine ⟨?_, ?_⟩
        · unfold fourL
          simp only [List.cons_append, List.nil_append, List.cons.injEq, and_true]
          refine ⟨?_, ?_, ?_, ?_⟩ <;> omega
        · unfold badN
          rw [Bool.or_eq_false_iff]
          exact ⟨decide_eq_false (by omega), decide_eq_false (by omega)⟩
    | [], h => simp at h
    | [_], h => simp at h
    | [_, _], h => simp at h
    | [_, _, _], h => simp at h
theorem sma_back {l r : List Int} {v : Int} (hl : allB l) (h : smaM l false = (v, r, false)) : l = oneL v ++ r ∧ badB v = false := by
  match l, h with
  | [], h => simp [smaM] at h
  | b :: rs, h =>
    have h0 := hl b (by simp)
    simp only [smaM, Prod.mk.injEq, and_true] at h
    obtain ⟨rfl, rfl⟩ := h
    refine ⟨?_, ?_⟩
    · show b :: rs = b % 256 :: rs
      rw [show b % 256 = b by omega]
    · unfold badB
      rw [Bool.or_eq_false_iff]
      exact ⟨decide_eq_false (by omega), decide_eq_false (by omega)⟩
theorem tak_back {l r bs : List Int} {k : Nat} (h : takM k l false = (bs, r, false)) : l = bs ++ r ∧ bs.length = k := by
  have hk := takM_len k l false
  rw [h] at hk
  refine ⟨?_, hk⟩
  unfold takM at h
  by_cases c : l.length < k
  · rw [if_pos c] at h; simp at h
  · rw [if_neg c] at h
    simp only [Prod.mk.injEq, and_true] at h
    rw [← h.1, ← h.2, List.take_append_drop]
theorem entL_bad : ∀ (k : Nat) (acc : List Ent) (l : List Int), entL k acc l true = (acc, l, true)
  | 0, acc, l => rfl
  | k + 1, acc, l => by rw [entL, if_pos rfl]
theorem notL_bad : ∀ (k : Nat) (acc : List Not) (l : List Int), notL k acc l true = (acc, l, true)
  | 0, acc, l => rfl
  | k + 1, acc, l => by rw [notL, if_pos rfl]
theorem num_off {l : List Int} {b : Bool} {v : Int} {r : List Int} (h : numM l b = (v, r, false)) : b = false := by
  cases b with
  | false => rfl
  | true => have := numM_bad (l := l); rw [h] at this; cases this
theorem sma_off {l : List Int} {b : Bool} {v : Int} {r : List Int} (h : smaM l b = (v, r, false)) : b = false := by
  cases b with
  | false => rfl
  | true => have := smaM_bad (l := l); rw [h] at this; cases this
theorem tak_off {n : Nat} {l : List Int} {b : Bool} {v r : List Int} (h : takM n l b = (v, r, false)) : b = false := by
  cases b with
  | false => rfl
  | true => have := takM_bad (n := n) (l := l); rw [h] at this; cases this
theorem allB_right {a b : List Int} (h : allB (a ++ b)) : allB b := fun x hx => h x (List.mem_append_right _ hx)
theorem entL_back : ∀ (k : Nat) (acc : List Ent) (l : List Int) (acc' : List Ent) (r : List Int), allB l → entL k acc l false = (acc', r, false) → ∃ es : List Ent, acc' = acc ++ es ∧ es.length = k ∧ l = es.flatMap entB ++ r ∧ es.any entBad = false
  | 0, acc, l, acc', r, hl, h => by
    simp only [entL, Prod.mk.injEq, and_true] at h
    exact ⟨[], by rw [← h.1, List.append_nil], rfl, by rw [← h.2]; rfl, rfl⟩
  | k + 1, acc, l, acc', r, hl, h => by
    rw [entL, if_neg (by decide)] at h
    obtain ⟨⟨v0, l0, f0⟩, h0⟩ : ∃ q, smaM l false = q := ⟨_, rfl⟩
    rw [h0] at h
    simp only at h
    obtain ⟨⟨v1, l1, f1⟩, h1⟩ : ∃ q, numM l0 (f0 || decide (1 < v0)) = q := ⟨_, rfl⟩
    rw [h1] at h
    simp only at h
    obtain ⟨⟨v2, l2, f2⟩, h2⟩ : ∃ q, numM l1 f1 = q := ⟨_, rfl⟩
    rw [h2] at h
    simp only at h
    obtain ⟨⟨v3, l3, f3⟩, h3⟩ : ∃ q, numM l2 f2 = q := ⟨_, rfl⟩
    rw [h3] at h
    simp only at h
    have e3 : f3 = false := by
      cases f3 with
      | false => rfl
      | true => rw [entL_bad] at h; simp at h
    subst e3
    have e2 := num_off h3
    subst e2
    have e1 := num_off h2
    subst e1
    have e0 := num_off h1
    rw [Bool.or_eq_false_iff] at e0
    obtain ⟨e0, e4⟩ := e0
    subst e0
    have e5 := of_decide_eq_false e4
    rw [e4] at h1
    obtain ⟨s0, b0⟩ := sma_back hl h0
    have hl0 : allB l0 := by rw [s0] at hl; exact allB_right hl
    obtain ⟨s1, b1⟩ := num_back hl0 h1
    have hl1 : allB l1 := by rw [s1] at hl0; exact allB_right hl0
    obtain ⟨s2, b2⟩ := num_back hl1 h2
    have hl2 : allB l2 := by rw [s2] at hl1; exact allB_right hl1
    obtain ⟨s3, b3⟩ := num_back hl2 h3
    have hl3 : allB l3 := by rw [s3] at hl2; exact allB_right hl2
    obtain ⟨es, g1, g2, g3, g4⟩ := entL_back k _ l3 acc' r hl3 h
    unfold badB at b0
    rw [Bool.or_eq_false_iff] at b0
    have c0 := of_decide_eq_false b0.1
    have hv : oneL v0 = oneL (if (⟨v0 == 1, v1, v2, v3⟩ : Ent).ret = true then 1 else 0) := by
      rcases (show v0 = 0 ∨ v0 = 1 by omega) with rfl | rfl <;> rfl
    refine ⟨⟨v0 == 1, v1, v2, v3⟩ :: es, by rw [g1, List.append_assoc]; rfl, by rw [List.length_cons, g2], ?_, ?_⟩
    · rw [s0, s1, s2, s3, g3, hv]
      simp [entB, List.append_assoc]
    · rw [List.any_cons, g4, Bool.or_false]
      unfold entBad
      simp [List.any, b1, b2, b3]
theorem notL_back : ∀ (k : Nat) (acc : List Not) (l : List Int) (acc' : List Not) (r : List Int), allB l → notL k acc l false = (acc', r, false) → ∃ es : List Not, acc' = acc ++ es ∧ es.length = k ∧ l = es.flatMap noteB ++ r ∧ es.any noteBad = false
  | 0, acc, l, acc', r, hl, h => by
    simp only [notL, Prod.mk.injEq, and_true] at h
    exact ⟨[], by rw [← h.1, List.append_nil], rfl, by rw [← h.2]; rfl, rfl⟩
  | k + 1, acc, l, acc', r, hl, h => by
    rw [notL, if_neg (by decide)] at h
    obtain ⟨⟨v0, l0, f0⟩, h0⟩ : ∃ q, smaM l false = q := ⟨_, rfl⟩
    rw [h0] at h
    simp only at h
    obtain ⟨⟨v1, l1, f1⟩, h1⟩ : ∃ q, smaM l0 f0 = q := ⟨_, rfl⟩
    rw [h1] at h
    simp only at h
    obtain ⟨⟨v2, l2, f2⟩, h2⟩ : ∃ q, numM l1 f1 = q := ⟨_, rfl⟩
    rw [h2] at h
    simp only at h
    obtain ⟨⟨v3, l3, f3⟩, h3⟩ : ∃ q, numM l2 f2 = q := ⟨_, rfl⟩
    rw [h3] at h
    simp only at h
    obtain ⟨⟨v4, l4, f4⟩, h4⟩ : ∃ q, smaM l3 f3 = q := ⟨_, rfl⟩
    rw [h4] at h
    simp only at h
    obtain ⟨⟨v5, l5, f5⟩, h5⟩ : ∃ q, smaM l4 f4 = q := ⟨_, rfl⟩
    rw [h5] at h
    simp only at h
    obtain ⟨⟨v6, l6, f6⟩, h6⟩ : ∃ q, takM v5.toNat l5 f5 = q := ⟨_, rfl⟩
    rw [h6] at h
    simp only at h
    have e6 : f6 = false := by
      cases f6 with
      | false => rfl
      | true => rw [notL_bad] at h; simp at h
    subst e6
    have e5 := tak_off h6
    subst e5
    have e4 := sma_off h5
    subst e4
    have e3 := sma_off h4
    subst e3
    have e2 := num_off h3
    subst e2
    have e1 := num_off h2
    subst e1
    have e0 := sma_off h1
    subst e0
    obtain ⟨s0, b0⟩ := sma_back hl h0
    have hl0 : allB l0 := by rw [s0] at hl; exact allB_right hl
    obtain ⟨s1, b1⟩ := sma_back hl0 h1
    have hl1 : allB l1 := by rw [s1] at hl0; exact allB_right hl0
    obtain ⟨s2, b2⟩ := num_back hl1 h2
    have hl2 : allB l2 := by rw [s2] at hl1; exact allB_right hl1
    obtain ⟨s3, b3⟩ := num_back hl2 h3
    have hl3 : allB l3 := by rw [s3] at hl2; exact allB_right hl2
    obtain ⟨s4, b4⟩ := sma_back hl3 h4
    have hl4 : allB l4 := by rw [s4] at hl3; exact allB_right hl3
    obtain ⟨s5, b5⟩ := sma_back hl4 h5
    have hl5 : allB l5 := by rw [s5] at hl4; exact allB_right hl4
    obtain ⟨s6, hk⟩ := tak_back h6
    have hl6 : allB l6 := by rw [s6] at hl5; exact allB_right hl5
    have hv6 : allB v6 := fun x hx => hl5 x (by rw [s6]; exact List.mem_append_left _ hx)
    obtain ⟨es, g1, g2, g3, g4⟩ := notL_back k _ l6 acc' r hl6 h
    have h5r : 0 ≤ v5 := by
      unfold badB at b5
      rw [Bool.or_eq_false_iff] at b5
      have := of_decide_eq_false b5.1
      omega
    have hsz : ((strOfNums v6).size : Int) = v5 := by rw [strOfNums_size, hk]; omega
    refine ⟨⟨v0, v1, v2, v3, v4, strOfNums v6⟩ :: es, by rw [g1, List.append_assoc]; rfl, by rw [List.length_cons, g2], ?_, ?_⟩
    · rw [s0, s1, s2, s3, s4, s5, s6, g3]
      have e : noteB ⟨v0, v1, v2, v3, v4, strOfNums v6⟩ = [v0, v1].flatMap oneL ++ [v2, v3].flatMap fourL ++ [v4, v5].flatMap oneL ++ v6 := by
        show [v0, v1].flatMap oneL ++ [v2, v3].flatMap fourL ++ [v4, ((strOfNums v6).size : Int)].flatMap oneL ++ bytesL (strOfNums v6) = _
        rw [hsz, bytes_str hv6]
      rw [List.flatMap_cons, e]
      simp [List.append_assoc]
    · rw [List.any_cons, g4, Bool.or_false]
      show ([v0, v1].any badB || [v2, v3].any badN || [v4, ((strOfNums v6).size : Int)].any badB) = false
      rw [hsz]
      simp [List.any, b0, b1, b2, b3, b4, b5]
theorem save_load {l : List Int} (hl : allB l) {x : MSt} (h : loadQ l = (x, [], false)) : saveB x = l ∧ saveBad x = false := by
  unfold loadQ at h
  obtain ⟨⟨v0, l0, f0⟩, h0⟩ : ∃ q, numM l false = q := ⟨_, rfl⟩
  rw [h0] at h
  simp only at h
  obtain ⟨⟨v1, l1, f1⟩, h1⟩ : ∃ q, numM l0 f0 = q := ⟨_, rfl⟩
  rw [h1] at h
  simp only at h
  obtain ⟨⟨v2, l2, f2⟩, h2⟩ : ∃ q, numM l1 f1 = q := ⟨_, rfl⟩
  rw [h2] at h
  simp only at h
  obtain ⟨⟨v3, l3, f3⟩, h3⟩ : ∃ q, smaM l2 f2 = q := ⟨_, rfl⟩
  rw [h3] at h
  simp only at h
  obtain ⟨⟨v4, l4, f4⟩, h4⟩ : ∃ q, numM l3 f3 = q := ⟨_, rfl⟩
  rw [h4] at h
  simp only at h
  obtain ⟨⟨v5, l5, f5⟩, h5⟩ : ∃ q, entL v4.toNat [] l4 f4 = q := ⟨_, rfl⟩
  rw [h5] at h
  simp only at h
  have e5 : f5 = false := by
    cases f5 with
    | false => rfl
    | true =>
      rw [if_pos rfl, notL_bad] at h
      simp at h
  subst e5
  rw [if_neg (by decide)] at h
  obtain ⟨⟨v6, l6, f6⟩, h6⟩ : ∃ q, numM l5 false = q := ⟨_, rfl⟩
  rw [h6] at h
  simp only at h
  obtain ⟨⟨v7, l7, f7⟩, h7⟩ : ∃ q, notL v6.toNat [] l6 f6 = q := ⟨_, rfl⟩
  rw [h7] at h
  simp only [Prod.mk.injEq] at h
  obtain ⟨rfl, rfl, rfl⟩ := h
  have e6 : f6 = false := by
    cases f6 with
    | false => rfl
    | true => rw [notL_bad] at h7; simp at h7
  subst e6
  have e4 : f4 = false := by
    cases f4 with
    | false => rfl
    | true => rw [entL_bad] at h5; simp at h5
  subst e4
  have e3 := num_off h4
  subst e3
  have e2 := sma_off h3
  subst e2
  have e1 := num_off h2
  subst e1
  have e0 := num_off h1
  subst e0
  obtain ⟨s0, b0⟩ := num_back hl h0
  have hl0 : allB l0 := by rw [s0] at hl; exact allB_right hl
  obtain ⟨s1, b1⟩ := num_back hl0 h1
  have hl1 : allB l1 := by rw [s1] at hl0; exact allB_right hl0
  obtain ⟨s2, b2⟩ := num_back hl1 h2
  have hl2 : allB l2 := by rw [s2] at hl1; exact allB_right hl1
  obtain ⟨s3, b3⟩ := sma_back hl2 h3
  have hl3 : allB l3 := by rw [s3] at hl2; exact allB_right hl2
  obtain ⟨s4, b4⟩ := num_back hl3 h4
  have hl4 : allB l4 := by rw [s4] at hl3; exact allB_right hl3
  obtain ⟨es, g1, g2, g3, g4⟩ := entL_back _ _ _ _ _ hl4 h5
  have hl5 : allB l5 := by rw [g3] at hl4; exact allB_right hl4
  obtain ⟨s6, b6⟩ := num_back hl5 h6
  have hl6 : allB l6 := by rw [s6] at hl5; exact allB_right hl5
  obtain ⟨ns, k1, k2, k3, k4⟩ := notL_back _ _ _ _ _ hl6 h7
  rw [List.nil_append] at g1 k1
  subst g1 k1
  have n4 : ((v5.length : Nat) : Int) = v4 := by
    unfold badN at b4
    rw [Bool.or_eq_false_iff] at b4
    have := of_decide_eq_false b4.1
    rw [g2]; omega
  have n6 : ((v7.length : Nat) : Int) = v6 := by
    unfold badN at b6
    rw [Bool.or_eq_false_iff] at b6
    have := of_decide_eq_false b6.1
    rw [k2]; omega
  constructor
  · rw [s0, s1, s2, s3, s4, g3, s6, k3]
    unfold saveB headB
    simp only [n4, n6]
    simp [List.append_assoc]
  · unfold saveBad headBad
    simp only [n4, n6]
    simp [List.any, b0, b1, b2, b3, b4, b6]
    exact ⟨by simpa using g4, by simpa using k4⟩
theorem loadM_back {s : ByteArray} {x : MSt} (h : loadM s = (x, 0)) : saveBad x = false ∧ strOfNums (saveB x) = s ∧ (saveB x).length ≤ 1048576 := by
  unfold loadM at h
  by_cases c : 1048576 < s.size
  · rw [if_pos c] at h; simp at h
  rw [if_neg c] at h
  by_cases d : (loadQ (bytesL s)).2.2 = true ∨ 0 < (loadQ (bytesL s)).2.1.length
  · rw [if_pos d] at h; simp at h
  rw [if_neg d] at h
  simp only [Prod.mk.injEq, and_true] at h
  have hq : loadQ (bytesL s) = (x, [], false) := by
    obtain ⟨⟨a, b, c2⟩, hq⟩ : ∃ q, loadQ (bytesL s) = q := ⟨_, rfl⟩
    rw [hq] at h d ⊢
    simp only at h d
    subst h
    have hb : b = [] := List.eq_nil_of_length_eq_zero (by omega)
    have hc : c2 = false := by cases c2 with | false => rfl | true => exact absurd (.inl rfl) d
    rw [hb, hc]
  obtain ⟨h1, h2⟩ := save_load (bytesL_u8 s) hq
  exact ⟨h2, by rw [h1, str_bytes], by rw [h1, bytesL_len]; omega⟩
end Go.Proofs.YthjlpcecfkboiabDoor
