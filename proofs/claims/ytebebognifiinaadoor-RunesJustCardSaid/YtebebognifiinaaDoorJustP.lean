/-
  JUST THESE: a code point's bytes lie in just one of a range's shapes, if it is in the range, else in none; what lies in a shape is a code point of the range. No memory here.
-/
import Derived.Test.YtebebognifiinaaDoorShapesP
import Derived.Test.YtebebognifiinaaDoorDecP
namespace Go.Proofs.YtebebognifiinaaDoor.T
open Go.RowKit Go.Proofs.YtebebognifiinaaDoorW.PrintWords Go.Proofs.YtebebognifiinaaDoorW.PrintLast Go.Proofs.YtebebognifiinaaDoorW.PrintMore
set_option linter.unusedVariables false
set_option linter.unusedSimpArgs false
theorem nextCut_one (lo : Int) : nextCut lo lo = none := by
  cases h : nextCut lo lo with
  | none => rfl
  | some c => have := nextCut_in (Int.le_refl _) h; omega
/-- A piece is cut no more. -/
theorem cutF_whole (f : Nat) : ∀ (lo hi : Int), lo ≤ hi → hi - lo ≤ f → ∀ x ∈ cutF f lo hi, nextCut x.f0 x.f1 = none := by
  induction f with
  | zero =>
    intro lo hi h hd x hx
    obtain rfl : lo = hi := by omega
    simp only [cutF, List.mem_singleton] at hx
    subst hx
    exact nextCut_one lo
  | succ f ih =>
    intro lo hi h hd x hx
    simp only [cutF] at hx
    split at hx
    · rename_i hn
      simp only [List.mem_singleton] at hx; subst hx; exact hn
    · rename_i c hc
      obtain ⟨h1, h2⟩ := nextCut_in h hc
      rcases List.mem_append.1 hx with hx | hx
      · exact ih _ _ (by omega) (by omega) x hx
      · exact ih _ _ h2 (by omega) x hx
theorem rest_whole {lo hi s e : Int} {es : List Int} (h0 : 0 ≤ lo) (he : e ≤ 1114111) (ih : ∀ x ∈ restL lo hi (e + 1) es, nextCut x.f0 x.f1 = none) : ∀ x ∈ restL lo hi s (e :: es), nextCut x.f0 x.f1 = none := by
  intro x hx
  simp only [restL] at hx
  rcases List.mem_append.1 hx with hx | hx
  · have m1 := mx_le lo s
    have m2 := mn_le hi e
    by_cases c : e = 57343
    · rw [if_pos c] at hx; cases hx
    · rw [if_neg c] at hx
      by_cases d : mx lo s ≤ mn hi e
      · rw [if_pos d] at hx
        exact cutF_whole _ _ _ d (by unfold FU; omega) x hx
      · rw [if_neg d] at hx; cases hx
  · exact ih x hx
theorem spans_whole {lo hi : Int} (h0 : 0 ≤ lo) : ∀ x ∈ spansL lo hi, nextCut x.f0 x.f1 = none :=
  rest_whole h0 (by decide) <| rest_whole h0 (by decide) <| rest_whole h0 (by decide) <| rest_whole h0 (by decide) <| rest_whole h0 (by decide) <| rest_whole h0 (by decide) (fun x hx => by cases hx)
/-- How many pieces hold a number. -/
def holds (n : Int) (x : SP) : Bool := decide (x.f0 ≤ n ∧ n ≤ x.f1)
theorem cutF_count (f : Nat) (n : Int) : ∀ (lo hi : Int), lo ≤ hi → (cutF f lo hi).countP (holds n) = if lo ≤ n ∧ n ≤ hi then 1 else 0 := by
  induction f with
  | zero =>
    intro lo hi h
    simp only [cutF, List.countP_singleton, holds, decide_eq_true_eq]
  | succ f ih =>
    intro lo hi h
    simp only [cutF]
    split
    · simp only [List.countP_singleton, holds, decide_eq_true_eq]
    · rename_i c hc
      obtain ⟨h1, h2⟩ := nextCut_in h hc
      rw [List.countP_append, ih lo (c - 1) (by omega), ih c hi h2]
      repeat' split
      all_goals omega
theorem rest_count {n lo hi s e : Int} {es : List Int} {m : Nat} (he : e ≠ 57343) (ih : (restL lo hi (e + 1) es).countP (holds n) = m) : (restL lo hi s (e :: es)).countP (holds n) = (if lo ≤ n ∧ n ≤ hi ∧ s ≤ n ∧ n ≤ e then 1 else 0) + m := by
  simp only [restL]
  have m1 := mx_le lo s
  have m2 := mn_le hi e
  rw [List.countP_append, ih, if_neg he]
  congr 1
  by_cases d : mx lo s ≤ mn hi e
  · rw [if_pos d, cutF_count _ _ _ _ d]
    split
    · rw [if_pos (by omega)]
    · rw [if_neg (by omega)]
  · rw [if_neg d, if_neg (by omega)]; rfl
theorem rest_skip {n lo hi s : Int} {es : List Int} {m : Nat} (ih : (restL lo hi (57343 + 1) es).countP (holds n) = m) : (restL lo hi s (57343 :: es)).countP (holds n) = m := by
  simp only [restL]
  rw [if_pos trivial, List.nil_append, ih]
theorem spans_count {n lo hi : Int} (hn : isRune n) : (spansL lo hi).countP (holds n) = if lo ≤ n ∧ n ≤ hi then 1 else 0 := by
  obtain ⟨n0, n1, n2⟩ := hn
  have := rest_count (n := n) (lo := lo) (hi := hi) (s := 0) (e := 127) (es := [2047, 55295, 57343, 65535, 1114111]) (by decide) <| rest_count (by decide) <| rest_count (by decide) <| rest_skip <| rest_count (by decide) <| rest_count (by decide) (m := 0) rfl
  unfold spansL
  rw [this]
  repeat' split
  all_goals omega
/-- Where a piece is cut no more: what that says of the powers of 64. -/
def Box (lo hi m : Int) : Prop := lo / m = hi / m ∨ (lo % m = 0 ∧ (hi + 1) % m = 0)
theorem cutAt_none {lo hi m : Int} (h : cutAt lo hi m = none) : Box lo hi m := by
  unfold cutAt at h
  by_cases h1 : lo / m = hi / m
  · exact .inl h1
  rw [if_neg h1] at h
  by_cases h2 : lo % m ≠ 0
  · rw [if_pos h2] at h; cases h
  rw [if_neg h2] at h
  by_cases h3 : (hi + 1) % m ≠ 0
  · rw [if_pos h3] at h; cases h
  · exact .inr ⟨by omega, by omega⟩
theorem firstCut_none {lo hi : Int} : ∀ (l : List Int), firstCut lo hi l = none → ∀ m ∈ l, Box lo hi m
  | [], _, m, hm => by cases hm
  | p :: l, h, m, hm => by
    simp only [firstCut] at h
    split at h
    · cases h
    · rename_i hc
      rcases List.mem_cons.1 hm with rfl | hm
      · exact cutAt_none hc
      · exact firstCut_none l h m hm
theorem box2 {lo hi : Int} (h : nextCut lo hi = none) (hs : sizeN lo = 2) : Box lo hi 64 := firstCut_none _ h 64 (by rw [hs]; decide)
theorem box3 {lo hi : Int} (h : nextCut lo hi = none) (hs : sizeN lo = 3) : Box lo hi 64 ∧ Box lo hi 4096 := ⟨firstCut_none _ h 64 (by rw [hs]; decide), firstCut_none _ h 4096 (by rw [hs]; decide)⟩
theorem box4 {lo hi : Int} (h : nextCut lo hi = none) (hs : sizeN lo = 4) : Box lo hi 64 ∧ Box lo hi 4096 ∧ Box lo hi 262144 := ⟨firstCut_none _ h 64 (by rw [hs]; decide), firstCut_none _ h 4096 (by rw [hs]; decide), firstCut_none _ h 262144 (by rw [hs]; decide)⟩
theorem digits2 {lo hi n : Int} (h0 : 0 ≤ lo) (hl : lo ≤ hi) (hb : Box lo hi 64) (hn : 0 ≤ n) : (lo / 64 ≤ n / 64 ∧ n / 64 ≤ hi / 64 ∧ lo % 64 ≤ n % 64 ∧ n % 64 ≤ hi % 64) ↔ (lo ≤ n ∧ n ≤ hi) := by
  unfold Box at hb; omega
theorem digits3 {lo hi n : Int} (h0 : 0 ≤ lo) (hl : lo ≤ hi) (hb : Box lo hi 64 ∧ Box lo hi 4096) (hn : 0 ≤ n) :
    (lo / 64 / 64 ≤ n / 64 / 64 ∧ n / 64 / 64 ≤ hi / 64 / 64 ∧ lo / 64 % 64 ≤ n / 64 % 64 ∧ n / 64 % 64 ≤ hi / 64 % 64 ∧ lo % 64 ≤ n % 64 ∧ n % 64 ≤ hi % 64) ↔ (lo ≤ n ∧ n ≤ hi) := by
  unfold Box at hb; omega
theorem digits4 {lo hi n : Int} (h0 : 0 ≤ lo) (hl : lo ≤ hi) (hb : Box lo hi 64 ∧ Box lo hi 4096 ∧ Box lo hi 262144) (hn : 0 ≤ n) :
    (lo / 64 / 64 / 64 ≤ n / 64 / 64 / 64 ∧ n / 64 / 64 / 64 ≤ hi / 64 / 64 / 64 ∧ lo / 64 / 64 % 64 ≤ n / 64 / 64 % 64 ∧ n / 64 / 64 % 64 ≤ hi / 64 / 64 % 64 ∧ lo / 64 % 64 ≤ n / 64 % 64 ∧ n / 64 % 64 ≤ hi / 64 % 64 ∧ lo % 64 ≤ n % 64 ∧ n % 64 ≤ hi % 64) ↔ (lo ≤ n ∧ n ≤ hi) := by
  unfold Box at hb; omega
/-- Are these bytes in a shape? -/
def inShape : List Int → List SP → Bool
  | [], [] => true
  | b :: l, x :: m => decide (x.f0 ≤ b ∧ b ≤ x.f1) && inShape l m
  | _, _ => false
theorem inShape_len : ∀ (l : List Int) (m : List SP), inShape l m = true → l.length = m.length
  | [], [], _ => rfl
  | [], x :: m, h => by cases h
  | b :: l, [], h => by cases h
  | b :: l, x :: m, h => by
    simp only [inShape, Bool.and_eq_true] at h
    rw [List.length_cons, List.length_cons, inShape_len l m h.2]
theorem shapeGo_len : ∀ (a b : List Int), a.length = b.length → (shapeGo a b).length = a.length
  | [], [], _ => rfl
  | [], y :: b, h => by cases h
  | x :: a, [], h => by cases h
  | x :: a, y :: b, h => by
    simp only [shapeGo, List.length_cons]
    rw [shapeGo_len a b (by simpa using h)]
theorem shapeOf_len {x : SP} (h : Class x.f0 x.f1) : (shapeOf x).length = sizeN x.f0 := by
  unfold shapeOf
  rw [shapeGo_len _ _ (by rw [codeL_lenN, codeL_lenN]; exact h.2.2.2.1), codeL_lenN]
theorem code1 {r : Int} (h : sizeN r = 1) : codeL r = [r] := by
  unfold sizeN at h; unfold codeL
  by_cases c : r ≤ 127
  · rw [if_pos c]
  · rw [if_neg c] at h; split at h
    · omega
    · split at h <;> omega
theorem code2 {r : Int} (h : sizeN r = 2) : codeL r = [192 + r / 64, 128 + r % 64] := by
  unfold sizeN at h; unfold codeL
  by_cases c : r ≤ 127
  · rw [if_pos c] at h; omega
  rw [if_neg c] at h ⊢
  by_cases c2 : r ≤ 2047
  · rw [if_pos c2]
  · rw [if_neg c2] at h; split at h <;> omega
theorem code3 {r : Int} (h : sizeN r = 3) : codeL r = [224 + r / 64 / 64, 128 + r / 64 % 64, 128 + r % 64] := by
  unfold sizeN at h; unfold codeL
  by_cases c : r ≤ 127
  · rw [if_pos c] at h; omega
  rw [if_neg c] at h ⊢
  by_cases c2 : r ≤ 2047
  · rw [if_pos c2] at h; omega
  rw [if_neg c2] at h ⊢
  by_cases c3 : r ≤ 65535
  · rw [if_pos c3]
  · rw [if_neg c3] at h; omega
theorem code4 {r : Int} (h : sizeN r = 4) : codeL r = [240 + r / 64 / 64 / 64, 128 + r / 64 / 64 % 64, 128 + r / 64 % 64, 128 + r % 64] := by
  unfold sizeN at h; unfold codeL
  by_cases c : r ≤ 127
  · rw [if_pos c] at h; omega
  rw [if_neg c] at h ⊢
  by_cases c2 : r ≤ 2047
  · rw [if_pos c2] at h; omega
  rw [if_neg c2] at h ⊢
  by_cases c3 : r ≤ 65535
  · rw [if_pos c3] at h; omega
  · rw [if_neg c3]
/-- A code point of a piece's length lies in its shape just if it lies in the piece. -/
theorem in_box {x : SP} (hc : Class x.f0 x.f1) (hw : nextCut x.f0 x.f1 = none) {n : Int} (hn : 0 ≤ n) (hs : sizeN n = sizeN x.f0) : inShape (codeL n) (shapeOf x) = true ↔ (x.f0 ≤ n ∧ n ≤ x.f1) := by
  obtain ⟨a1, a2, a3, a4, a5, a6, a7⟩ := hc
  unfold shapeOf
  rcases sizeN_4 x.f0 with e | e | e | e
  · rw [code1 (hs.trans e), code1 e, code1 (a4 ▸ e)]
    simp only [shapeGo, inShape, Bool.and_true, decide_eq_true_eq]
  · rw [code2 (hs.trans e), code2 e, code2 (a4 ▸ e), ← digits2 a1 a2 (box2 hw e) hn]
    simp only [shapeGo, inShape, Bool.and_true, Bool.and_eq_true, decide_eq_true_eq]
    omega
  · rw [code3 (hs.trans e), code3 e, code3 (a4 ▸ e), ← digits3 a1 a2 (box3 hw e) hn]
    simp only [shapeGo, inShape, Bool.and_true, Bool.and_eq_true, decide_eq_true_eq]
    omega
  · rw [code4 (hs.trans e), code4 e, code4 (a4 ▸ e), ← digits4 a1 a2 (box4 hw e) hn]
    simp only [shapeGo, inShape, Bool.and_true, Bool.and_eq_true, decide_eq_true_eq]
    omega
theorem in_holds {x : SP} (hc : Class x.f0 x.f1) (hw : nextCut x.f0 x.f1 = none) {n : Int} (hn : isRune n) : inShape (codeL n) (shapeOf x) = holds n x := by
  rw [Bool.eq_iff_iff]
  unfold holds
  rw [decide_eq_true_eq]
  by_cases hs : sizeN n = sizeN x.f0
  · exact in_box hc hw hn.1 hs
  · constructor
    · intro h
      exact absurd (by have := inShape_len _ _ h; rwa [codeL_lenN, shapeOf_len hc] at this) hs
    · rintro ⟨h1, h2⟩
      have b1 := sizeN_mono h1
      have b2 := sizeN_mono h2
      have := hc.2.2.2.1
      exact absurd (by omega) hs
theorem countP_congr' {α : Type} {p q : α → Bool} : ∀ (l : List α), (∀ x ∈ l, p x = q x) → l.countP p = l.countP q
  | [], _ => rfl
  | x :: l, h => by rw [List.countP_cons, List.countP_cons, h x List.mem_cons_self, countP_congr' l (fun y hy => h y (List.mem_cons_of_mem _ hy))]
/-- JUST THESE. -/
theorem just_count {lo hi n : Int} (h0 : 0 ≤ lo) (hn : isRune n) : (shapesL lo hi).countP (inShape (codeL n)) = if lo ≤ n ∧ n ≤ hi then 1 else 0 := by
  unfold shapesL
  rw [List.countP_map, ← spans_count hn]
  exact countP_congr' _ (fun x hx => in_holds (spans_class h0 x hx) (spans_whole h0 x hx) hn)
theorem spans_in {lo hi : Int} (h0 : 0 ≤ lo) {x : SP} (hx : x ∈ spansL lo hi) {n : Int} (hn : isRune n) (h1 : x.f0 ≤ n) (h2 : n ≤ x.f1) : lo ≤ n ∧ n ≤ hi := by
  have hc := spans_count (lo := lo) (hi := hi) hn
  have hp : 0 < (spansL lo hi).countP (holds n) := List.countP_pos_iff.2 ⟨x, hx, by unfold holds; exact decide_eq_true ⟨h1, h2⟩⟩
  by_cases h : lo ≤ n ∧ n ≤ hi
  · exact h
  · rw [hc, if_neg h] at hp; omega
theorem consEq {a b : Int} {l m : List Int} (h : a = b) (h2 : l = m) : a :: l = b :: m := by rw [h, h2]
/-- What lies in a piece's shape is a code point of the piece. -/
theorem of_box {x : SP} (hc : Class x.f0 x.f1) (hw : nextCut x.f0 x.f1 = none) {B : List Int} (hB : inShape B (shapeOf x) = true) : ∃ n, isRune n ∧ codeL n = B ∧ x.f0 ≤ n ∧ n ≤ x.f1 := by
  have hc2 := hc
  obtain ⟨a1, a2, a3, a4, a5, a6, a7⟩ := hc2
  have hl := inShape_len _ _ hB
  rw [shapeOf_len hc] at hl
  have fin : ∀ n, 0 ≤ n → sizeN n = sizeN x.f0 → codeL n = B → ∃ n, isRune n ∧ codeL n = B ∧ x.f0 ≤ n ∧ n ≤ x.f1 := by
    intro n hn hs he
    have := (in_box hc hw hn hs).1 (by rw [he]; exact hB)
    exact ⟨n, ⟨by omega, by omega, by omega⟩, he, this.1, this.2⟩
  unfold shapeOf at hB
  rcases sizeN_4 x.f0 with e | e | e | e
  · rw [code1 e, code1 (a4 ▸ e)] at hB
    rw [e] at hl
    match B, hl with
    | [b0], _ =>
      simp only [shapeGo, inShape, Bool.and_true, decide_eq_true_eq] at hB
      have h127 : x.f1 ≤ 127 := by
        have h := a4 ▸ e
        unfold sizeN at h; split at h
        · assumption
        · split at h
          · omega
          · split at h <;> omega
      have hs : sizeN b0 = 1 := by unfold sizeN; rw [if_pos (by omega)]
      exact fin b0 (by omega) (by rw [hs, e]) (code1 hs)
  · rw [code2 e, code2 (a4 ▸ e)] at hB
    rw [e] at hl
    match B, hl with
    | [b0, b1], _ =>
      simp only [shapeGo, inShape, Bool.and_true, Bool.and_eq_true, decide_eq_true_eq] at hB
      have h1 : 128 ≤ x.f0 ∧ x.f1 ≤ 2047 := by
        have h := a4 ▸ e
        have h' := e
        unfold sizeN at h h'
        constructor
        · split at h'
          · omega
          · omega
        · split at h
          · omega
          · split at h
            · assumption
            · split at h <;> omega
      have hs : sizeN ((b0 - 192) * 64 + (b1 - 128)) = 2 := by unfold sizeN; rw [if_neg (by omega), if_pos (by omega)]
      refine fin ((b0 - 192) * 64 + (b1 - 128)) (by omega) (by rw [hs, e]) ?_
      rw [code2 hs]
      refine consEq (by omega) (consEq (by omega) rfl)
  · rw [code3 e, code3 (a4 ▸ e)] at hB
    rw [e] at hl
    match B, hl with
    | [b0, b1, b2], _ =>
      simp only [shapeGo, inShape, Bool.and_true, Bool.and_eq_true, decide_eq_true_eq] at hB
      have h1 : 2048 ≤ x.f0 ∧ x.f1 ≤ 65535 := by
        have h := a4 ▸ e
        have h' := e
        unfold sizeN at h h'
        constructor
        · split at h'
          · omega
          · split at h'
            · omega
            · omega
        · split at h
          · omega
          · split at h
            · omega
            · split at h
              · assumption
              · omega
      have hbx := box3 hw e
      unfold Box at hbx
      have hs : sizeN ((b0 - 224) * 4096 + (b1 - 128) * 64 + (b2 - 128)) = 3 := by unfold sizeN; rw [if_neg (by omega), if_neg (by omega), if_pos (by omega)]
      refine fin ((b0 - 224) * 4096 + (b1 - 128) * 64 + (b2 - 128)) (by omega) (by rw [hs, e]) ?_
      rw [code3 hs]
      refine consEq (by omega) (consEq (by omega) (consEq (by omega) rfl))
  · rw [code4 e, code4 (a4 ▸ e)] at hB
    rw [e] at hl
    match B, hl with
    | [b0, b1, b2, b3], _ =>
      simp only [shapeGo, inShape, Bool.and_true, Bool.and_eq_true, decide_eq_true_eq] at hB
      have h1 : 65536 ≤ x.f0 := by
        have h' := e
        unfold sizeN at h'
        split at h'
        · omega
        · split at h'
          · omega
          · split at h' <;> omega
      have hbx := box4 hw e
      unfold Box at hbx
      have hs : sizeN ((b0 - 240) * 262144 + (b1 - 128) * 4096 + (b2 - 128) * 64 + (b3 - 128)) = 4 := by unfold sizeN; rw [if_neg (by omega), if_neg (by omega), if_neg (by omega)]
      refine fin ((b0 - 240) * 262144 + (b1 - 128) * 4096 + (b2 - 128) * 64 + (b3 - 128)) (by omega) (by rw [hs, e]) ?_
      rw [code4 hs]
      refine consEq (by omega) (consEq (by omega) (consEq (by omega) (consEq (by omega) rfl)))
theorem inShape_snoc : ∀ (B : List Int) (m : List SP) (y : Int) (z : SP), inShape B m = true → z.f0 ≤ y → y ≤ z.f1 → inShape (B ++ [y]) (m ++ [z]) = true
  | [], [], y, z, _, h1, h2 => by simp only [List.nil_append, inShape, Bool.and_true]; exact decide_eq_true ⟨h1, h2⟩
  | [], x :: m, y, z, h, _, _ => by cases h
  | b :: B, [], y, z, h, _, _ => by cases h
  | b :: B, x :: m, y, z, h, h1, h2 => by
    simp only [inShape, Bool.and_eq_true] at h
    simp only [List.cons_append, inShape, Bool.and_eq_true]
    exact ⟨h.1, inShape_snoc B m y z h.2 h1 h2⟩
/-- The spans of a shape are of bytes, none empty. -/
theorem shapeOf_bytes {x : SP} (hc : Class x.f0 x.f1) (hw : nextCut x.f0 x.f1 = none) : ∀ z ∈ shapeOf x, 0 ≤ z.f0 ∧ z.f0 ≤ z.f1 ∧ z.f1 ≤ 255 := by
  obtain ⟨a1, a2, a3, a4, a5, a6, a7⟩ := hc
  unfold shapeOf
  rcases sizeN_4 x.f0 with e | e | e | e
  · have h127 : x.f1 ≤ 127 := by
      have h := a4 ▸ e
      unfold sizeN at h; split at h
      · assumption
      · split at h
        · omega
        · split at h <;> omega
    rw [code1 e, code1 (a4 ▸ e)]
    intro z hz
    simp only [shapeGo, List.mem_cons, List.not_mem_nil, or_false] at hz
    subst hz
    exact ⟨a1, a2, by simp only; omega⟩
  · have hb := box2 hw e
    unfold Box at hb
    have h2 : x.f1 ≤ 2047 := by
      have h := a4 ▸ e
      unfold sizeN at h; split at h
      · omega
      · split at h
        · assumption
        · split at h <;> omega
    rw [code2 e, code2 (a4 ▸ e)]
    intro z hz
    simp only [shapeGo, List.mem_cons, List.not_mem_nil, or_false] at hz
    rcases hz with rfl | rfl <;> simp only <;> omega
  · have hb := box3 hw e
    unfold Box at hb
    have h3 : x.f1 ≤ 65535 := by
      have h := a4 ▸ e
      unfold sizeN at h; split at h
      · omega
      · split at h
        · omega
        · split at h
          · assumption
          · omega
    rw [code3 e, code3 (a4 ▸ e)]
    intro z hz
    simp only [shapeGo, List.mem_cons, List.not_mem_nil, or_false] at hz
    rcases hz with rfl | rfl | rfl <;> simp only <;> omega
  · have hb := box4 hw e
    unfold Box at hb
    rw [code4 e, code4 (a4 ▸ e)]
    intro z hz
    simp only [shapeGo, List.mem_cons, List.not_mem_nil, or_false] at hz
    rcases hz with rfl | rfl | rfl | rfl <;> simp only <;> omega
theorem bytes_strOf {l : List Int} (h : ∀ x ∈ l, 0 ≤ x ∧ x < 256) : bytesOf (strOfNums l) = l := by
  unfold bytesOf
  rw [strOfNums_data, List.map_map]
  refine (List.map_congr_left fun x hx => ?_).trans (List.map_id _)
  obtain ⟨h0, h1⟩ := h x hx
  show ((UInt8.ofNat x.toNat).toNat : Int) = x
  rw [UInt8.toNat_ofNat']
  omega
theorem within_turn (k : Nat) (s : ByteArray) (m : List SP) (j : Nat) (hj : j < s.size) (hj2 : j < m.length) (hm : m.length ≤ 4) :
    harrowlaw03_within.l0 (k + 1) s m (j : Int) = if (m[j].f0 ≤ bt s j ∧ bt s j ≤ m[j].f1) then harrowlaw03_within.l0 k s m ((j + 1 : Nat) : Int) else some false := by
  have hr : rd_T34 m (j : Int) = m[j] := by
    unfold rd_T34
    rw [Int.toNat_natCast, List.getD_eq_getElem?_getD, List.getElem?_eq_getElem hj2]
    rfl
  have hb : wrap64 (bt s j) = bt s j := by
    have := bt_range s (j : Int)
    unfold wrap64; omega
  simp only [harrowlaw03_within.l0]
  rw [if_pos (by omega), if_pos (by omega), if_pos (by omega), hr, hb, show wrap64 ((j : Int) + 1) = ((j + 1 : Nat) : Int) from by unfold wrap64; omega]
  by_cases c1 : bt s j < m[j].f0
  · rw [if_pos c1, if_neg (by omega)]
  rw [if_neg c1]
  by_cases c2 : bt s j > m[j].f1
  · rw [if_pos c2, if_neg (by omega)]
  · rw [if_neg c2, if_pos (by omega)]
theorem within_loop (s : ByteArray) (m : List SP) (hm : m.length ≤ 4) (hs : s.size = m.length) : ∀ (d j : Nat), m.length = j + d → harrowlaw03_within.l0 (d + 1) s m (j : Int) = some (inShape ((bytesOf s).drop j) (m.drop j)) := by
  intro d
  induction d with
  | zero =>
    intro j hd
    simp only [harrowlaw03_within.l0]
    rw [if_neg (by omega), List.drop_eq_nil_of_le (by rw [bytesOf_length]; omega), List.drop_eq_nil_of_le (by omega)]
    rfl
  | succ d ih =>
    intro j hd
    have hjb : j < (bytesOf s).length := by rw [bytesOf_length]; omega
    rw [within_turn (d + 1) s m j (by omega) (by omega) hm, ih (j + 1) (by omega), List.drop_eq_getElem_cons hjb, List.drop_eq_getElem_cons (show j < m.length by omega)]
    have e : (bytesOf s)[j] = bt s j := by
      have := rd_bytesOf s (j : Int)
      rw [← this]
      unfold rd
      rw [Int.toNat_natCast, List.getD_eq_getElem?_getD, List.getElem?_eq_getElem hjb]
      rfl
    simp only [inShape, e]
    split
    · rename_i h; rw [decide_eq_true h, Bool.true_and]
    · rename_i h; rw [decide_eq_false h, Bool.false_and]
theorem inShape_ne : ∀ (l : List Int) (m : List SP), l.length ≠ m.length → inShape l m = false := by
  intro l m h
  cases hb : inShape l m with
  | false => rfl
  | true => exact absurd (inShape_len l m hb) h
theorem within_pure (s : ByteArray) (m : List SP) (hm : m.length ≤ 4) : harrowlaw03_within.f 5 s m = some (inShape (bytesOf s) m) := by
  unfold harrowlaw03_within.f
  by_cases h : s.size = m.length
  · rw [if_pos (by omega)]
    have e := within_loop s m hm h m.length 0 (by omega)
    exact at_rounds (g := fun k => harrowlaw03_within.l0 k s m 0) (fun k => harrowlaw03_within.mono_l k _ _ _) (by omega) e
  · rw [if_neg (by omega), inShape_ne _ _ (by rw [bytesOf_length]; exact h)]
theorem isRune_f (r : Int) : runes_is.f r = some (decide (isRune r)) := by
  have key : ∀ b : Bool, (b = true ↔ isRune r) → (some b : Option Bool) = some (decide (isRune r)) := fun b h => by rw [Bool.eq_iff_iff.2 (h.trans decide_eq_true_iff.symm)]
  unfold runes_is.f
  repeat' split
  all_goals
    refine key _ ?_
    simp only [isRune, decide_eq_true_eq, true_iff, false_iff, Bool.false_eq_true]
    omega
def encRes (n : Int) : ByteArray × Int := if isRune n then (strOfNums (codeL n), 0) else (⟨#[]⟩, 30)
theorem encode_pure (n : Int) : runes_Encode.f 1 n = some (encRes n) := by
  unfold runes_Encode.f encRes
  rw [isRune_f, Option.bind_some]
  by_cases h : isRune n
  · rw [decide_eq_true h, if_pos rfl, if_pos h, show wrap32 n = n from by obtain ⟨h0, h1, h2⟩ := h; unfold wrap32; omega, append_rune 0 [] n h (by decide)]
    rfl
  · rw [decide_eq_false h, if_neg (by decide), if_neg h]
end Go.Proofs.YtebebognifiinaaDoor.T
