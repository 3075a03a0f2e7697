/-
  runes.pieces and runes.Shapes, as they are printed: the ranges' pieces, told as shapes. No memory here.
-/
import Derived.Test.YtebebognifiinaaCutP
namespace Go.Proofs.Ytebebognifiinaa.U
open Go.RowKit Go.Proofs.YtebebognifiinaaW.PrintWords Go.Proofs.YtebebognifiinaaW.PrintLast Go.Proofs.YtebebognifiinaaW.PrintMore
set_option linter.unusedVariables false
set_option linter.unusedSimpArgs false
def FU : Nat := 1114112
/-- The pieces of lo to hi behind a place, up to these ends. -/
def restL (lo hi : Int) : Int → List Int → List SP
  | _, [] => []
  | s, e :: es => (if e = 57343 then [] else if mx lo s ≤ mn hi e then cutF FU (mx lo s) (mn hi e) else []) ++ restL lo hi (e + 1) es
def chainE : Int → List Int → Prop
  | _, [] => True
  | s, e :: es => s ≤ e ∧ chainE (e + 1) es
theorem mx_le (a b : Int) : a ≤ mx a b ∧ b ≤ mx a b ∧ (mx a b = a ∨ mx a b = b) := by unfold mx; split <;> omega
theorem mn_le (a b : Int) : mn a b ≤ a ∧ mn a b ≤ b ∧ (mn a b = a ∨ mn a b = b) := by unfold mn; split <;> omega
theorem restL_stop {lo hi : Int} : ∀ (es : List Int) (s : Int), chainE s es → hi < mx lo s → restL lo hi s es = []
  | [], _, _, _ => rfl
  | e :: es, s, hc, h => by
    simp only [restL]
    have h1 := mx_le lo s
    have h2 := mn_le hi e
    have h3 := mx_le lo (e + 1)
    have hc1 := hc.1
    rw [restL_stop es (e + 1) hc.2 (by omega)]
    by_cases c : e = 57343
    · rw [if_pos c]; rfl
    · rw [if_neg c, if_neg (by omega)]; rfl
theorem pieces_step {k : Nat} {lo hi s e : Int} {es : List Int} {out : List SP} (h0 : 0 ≤ lo) (h1 : lo ≤ 1114111) (hs : s ≤ e) (hc : chainE (e + 1) es) (hk : 5 * (FU + 1) ≤ k)
    (hcls : e ≠ 57343 → ∀ a b, 0 ≤ a → s ≤ a → a ≤ b → b ≤ e → Class a b) (hn0 : 0 ≤ s) (ho : (out.length : Int) ≤ mx lo s)
    (ih : ∀ out' : List SP, (out'.length : Int) ≤ mx lo (e + 1) → piecesL k hi es (mx lo (e + 1)) out' = some (out' ++ restL lo hi (e + 1) es)) (he : e ≤ 1114111) :
    piecesL k hi (e :: es) (mx lo s) out = some (out ++ restL lo hi s (e :: es)) := by
  have m1 := mx_le lo s
  have m3 := mx_le lo (e + 1)
  have m2 := mn_le hi e
  by_cases c1 : hi < mx lo s
  · rw [restL_stop (e :: es) s ⟨hs, hc⟩ c1, List.append_nil]
    simp only [piecesL]
    rw [if_pos c1]
  simp only [piecesL]
  rw [if_neg c1]
  by_cases c2 : mx lo s ≤ e
  · rw [if_pos c2]
    have hm : mx lo (e + 1) = e + 1 := by omega
    by_cases c3 : e = 57343
    · rw [if_pos c3, ← hm, ih out (by omega)]
      simp only [restL]
      rw [if_pos c3]; rfl
    · rw [if_neg c3, cut_pure FU (mx lo s) (mn hi e) k (hcls c3 _ _ (by omega) m1.2.1 (by omega) (by omega)) (by unfold FU; omega) hk]
      have hl := cutF_len FU (mx lo s) (mn hi e) (by omega)
      rw [Option.bind_some, if_pos (by omega), ← hm, ih _ (by rw [List.length_append]; omega)]
      simp only [restL]
      rw [if_neg c3, if_pos (by omega), List.append_assoc]
  · rw [if_neg c2]
    have hm : mx lo (e + 1) = mx lo s := by omega
    rw [← hm, ih out (by omega)]
    simp only [restL]
    have : ¬ mx lo s ≤ mn hi e := by omega
    by_cases c3 : e = 57343
    · rw [if_pos c3]; rfl
    · rw [if_neg c3, if_neg this]; rfl
def spansL (lo hi : Int) : List SP := restL lo hi 0 [127, 2047, 55295, 57343, 65535, 1114111]
theorem class_of {a b s e : Int} (h0 : 0 ≤ a) (h1 : s ≤ a) (h2 : a ≤ b) (h3 : b ≤ e) (he : e ≤ 1114111) (hsz : sizeN s = sizeN e) (hn : e < 55296 ∨ 57343 < s) : Class a b := by
  have b1 := sizeN_mono h1
  have b2 := sizeN_mono h2
  have b3 := sizeN_mono h3
  exact ⟨h0, h2, by omega, by omega, by omega, by omega, by omega⟩
theorem pieces_pure {lo hi : Int} (h0 : 0 ≤ lo) (h1 : lo ≤ 1114111) (h2 : 0 ≤ hi) (h3 : hi ≤ 1114111) {k : Nat} (hk : 5 * (FU + 1) ≤ k) : runes_pieces.f k lo hi = some (spansL lo hi) := by
  have z : lo = mx lo 0 := by have := mx_le lo 0; omega
  have e6 : ∀ out : List SP, (out.length : Int) ≤ mx lo (1114111 + 1) → piecesL k hi [] (mx lo (1114111 + 1)) out = some (out ++ restL lo hi (1114111 + 1) []) := fun out _ => by simp only [piecesL, restL, List.append_nil]
  have e5 : ∀ out : List SP, (out.length : Int) ≤ mx lo (65535 + 1) → piecesL k hi [1114111] (mx lo (65535 + 1)) out = some (out ++ restL lo hi (65535 + 1) [1114111]) := fun out ho =>
    pieces_step h0 h1 (by decide) trivial hk (fun _ a b p q r t => class_of p q r t (by decide) (by decide) (by decide)) (by decide) ho e6 (by decide)
  have e4 : ∀ out : List SP, (out.length : Int) ≤ mx lo (57343 + 1) → piecesL k hi [65535, 1114111] (mx lo (57343 + 1)) out = some (out ++ restL lo hi (57343 + 1) [65535, 1114111]) := fun out ho =>
    pieces_step h0 h1 (by decide) ⟨by decide, trivial⟩ hk (fun _ a b p q r t => class_of p q r t (by decide) (by decide) (by decide)) (by decide) ho e5 (by decide)
  have e3 : ∀ out : List SP, (out.length : Int) ≤ mx lo (55295 + 1) → piecesL k hi [57343, 65535, 1114111] (mx lo (55295 + 1)) out = some (out ++ restL lo hi (55295 + 1) [57343, 65535, 1114111]) := fun out ho =>
    pieces_step h0 h1 (by decide) ⟨by decide, by decide, trivial⟩ hk (fun h => absurd rfl h) (by decide) ho e4 (by decide)
  have e2 : ∀ out : List SP, (out.length : Int) ≤ mx lo (2047 + 1) → piecesL k hi [55295, 57343, 65535, 1114111] (mx lo (2047 + 1)) out = some (out ++ restL lo hi (2047 + 1) [55295, 57343, 65535, 1114111]) := fun out ho =>
    pieces_step h0 h1 (by decide) ⟨by decide, by decide, by decide, trivial⟩ hk (fun _ a b p q r t => class_of p q r t (by decide) (by decide) (by decide)) (by decide) ho e3 (by decide)
  have e1 : ∀ out : List SP, (out.length : Int) ≤ mx lo (127 + 1) → piecesL k hi [2047, 55295, 57343, 65535, 1114111] (mx lo (127 + 1)) out = some (out ++ restL lo hi (127 + 1) [2047, 55295, 57343, 65535, 1114111]) := fun out ho =>
    pieces_step h0 h1 (by decide) ⟨by decide, by decide, by decide, by decide, trivial⟩ hk (fun _ a b p q r t => class_of p q r t (by decide) (by decide) (by decide)) (by decide) ho e2 (by decide)
  have e0 := pieces_step (out := []) (s := 0) (e := 127) (es := [2047, 55295, 57343, 65535, 1114111]) h0 h1 (by decide) ⟨by decide, by decide, by decide, by decide, by decide, trivial⟩ hk (fun _ a b p q r t => class_of p q r t (by decide) (by decide) (by decide)) (by decide) (by have := mx_le lo 0; simp; omega) e1 (by decide)
  unfold runes_pieces.f
  rw [← z, List.nil_append] at e0
  unfold spansL
  exact e0
/-- A piece is of one class. -/
theorem cutF_class (f : Nat) : ∀ (lo hi : Int), Class lo hi → ∀ x ∈ cutF f lo hi, Class x.f0 x.f1 := by
  induction f with
  | zero => intro lo hi h x hx; simp only [cutF, List.mem_singleton] at hx; subst hx; exact h
  | succ f ih =>
    intro lo hi h x hx
    simp only [cutF] at hx
    split at hx
    · simp only [List.mem_singleton] at hx; subst hx; exact h
    · rename_i c hc
      obtain ⟨h1, h2⟩ := nextCut_in h.2.1 hc
      rcases List.mem_append.1 hx with hx | hx
      · exact ih _ _ (h.left h1 h2) x hx
      · exact ih _ _ (h.right h1 h2) x hx
theorem rest_class {lo hi s e : Int} {es : List Int} (h0 : 0 ≤ lo) (hn0 : 0 ≤ s) (hcls : e ≠ 57343 → ∀ a b, 0 ≤ a → s ≤ a → a ≤ b → b ≤ e → Class a b) (ih : ∀ x ∈ restL lo hi (e + 1) es, Class x.f0 x.f1) : ∀ x ∈ restL lo hi s (e :: es), Class x.f0 x.f1 := by
  intro x hx
  simp only [restL] at hx
  rcases List.mem_append.1 hx with hx | hx
  · have m1 := mx_le lo s
    have m2 := mn_le hi e
    by_cases c : e = 57343
    · rw [if_pos c] at hx; cases hx
    · rw [if_neg c] at hx
      by_cases d : mx lo s ≤ mn hi e
      · rw [if_pos d] at hx
        exact cutF_class _ _ _ (hcls c _ _ (by omega) m1.2.1 d m2.2.1) x hx
      · rw [if_neg d] at hx; cases hx
  · exact ih x hx
theorem spans_class {lo hi : Int} (h0 : 0 ≤ lo) : ∀ x ∈ spansL lo hi, Class x.f0 x.f1 :=
  rest_class h0 (by decide) (fun _ a b p q r t => class_of p q r t (by decide) (by decide) (by decide)) <|
  rest_class h0 (by decide) (fun _ a b p q r t => class_of p q r t (by decide) (by decide) (by decide)) <|
  rest_class h0 (by decide) (fun _ a b p q r t => class_of p q r t (by decide) (by decide) (by decide)) <|
  rest_class h0 (by decide) (fun h => absurd rfl h) <|
  rest_class h0 (by decide) (fun _ a b p q r t => class_of p q r t (by decide) (by decide) (by decide)) <|
  rest_class h0 (by decide) (fun _ a b p q r t => class_of p q r t (by decide) (by decide) (by decide)) (fun x hx => by cases hx)
theorem rest_len {lo hi s e : Int} {es : List Int} (hs : s ≤ e) (ih : ((restL lo hi (e + 1) es).length : Int) ≤ 1114112 - (e + 1)) : ((restL lo hi s (e :: es)).length : Int) ≤ 1114112 - s := by
  simp only [restL, List.length_append]
  have m1 := mx_le lo s
  have m2 := mn_le hi e
  by_cases c : e = 57343
  · rw [if_pos c]; simp only [List.length_nil]; omega
  · rw [if_neg c]
    by_cases d : mx lo s ≤ mn hi e
    · rw [if_pos d]
      have := cutF_len FU _ _ d
      omega
    · rw [if_neg d]; simp only [List.length_nil]; omega
theorem spans_len (lo hi : Int) : (spansL lo hi).length ≤ 1114112 := by
  have := rest_len (lo := lo) (hi := hi) (s := 0) (e := 127) (es := [2047, 55295, 57343, 65535, 1114111]) (by decide) <|
    rest_len (by decide) <| rest_len (by decide) <| rest_len (by decide) <| rest_len (by decide) <| rest_len (by decide) (by simp [restL])
  unfold spansL
  omega
/-- A shape: the spans of the bytes, one by one. -/
def shapeGo : List Int → List Int → List SP
  | a :: l, b :: m => ⟨a, b⟩ :: shapeGo l m
  | _, _ => []
def shapeOf (x : SP) : List SP := shapeGo (codeL x.f0) (codeL x.f1)
def shapesL (lo hi : Int) : List (List SP) := (spansL lo hi).map shapeOf
theorem codeL_lenN (r : Int) : (codeL r).length = sizeN r := by
  unfold codeL sizeN
  split; rfl
  split; rfl
  split; rfl
  rfl
theorem rd_at {l : List Int} {i : Nat} (h : i < l.length) : rd l i = l[i] := by
  unfold rd
  rw [Int.toNat_natCast, List.getD_eq_getElem?_getD, List.getElem?_eq_getElem h]
  rfl
theorem codeL_byte {r : Int} (h : isRune r) {i : Nat} (hi : i < (codeL r).length) : 0 ≤ (codeL r)[i] ∧ (codeL r)[i] < 256 := by
  obtain ⟨h0, h1, h2⟩ := h
  have hm := List.getElem_mem hi
  generalize (codeL r)[i] = x at *
  unfold codeL at hm
  split at hm
  · simp only [List.mem_cons, List.not_mem_nil, or_false] at hm; omega
  split at hm
  · simp only [List.mem_cons, List.not_mem_nil, or_false] at hm; omega
  split at hm
  · simp only [List.mem_cons, List.not_mem_nil, or_false] at hm; omega
  · simp only [List.mem_cons, List.not_mem_nil, or_false] at hm; omega
theorem shape_turn (k : Nat) (out : List (List SP)) (A B : List Int) (acc sp : List SP) (cnt ix : Int) (j : Nat) (hj : j < A.length) (hj2 : j < B.length) (hA : 0 ≤ A[j] ∧ A[j] < 256) (hB : 0 ≤ B[j] ∧ B[j] < 256) (ha : acc.length ≤ j) (hl : A.length ≤ 4) :
    runes_Shapes.l1 (k + 1) out A B acc sp cnt ix (A.length : Int) (j : Int) = runes_Shapes.l1 k out A B (acc ++ [⟨A[j], B[j]⟩]) sp cnt ix (A.length : Int) ((j + 1 : Nat) : Int) := by
  simp only [runes_Shapes.l1]
  rw [if_pos (by omega), if_pos (by omega), if_pos (by omega), if_pos (by omega), if_pos (by omega), rd_at hj, rd_at hj2, show wrap64 A[j] = A[j] from by unfold wrap64; omega, show wrap64 B[j] = B[j] from by unfold wrap64; omega, show wrap64 ((j : Int) + 1) = ((j + 1 : Nat) : Int) from by unfold wrap64; omega]
theorem shape_done (k : Nat) (out : List (List SP)) (A B : List Int) (acc sp : List SP) (cnt ix : Int) (j : Nat) (hj : A.length ≤ j) (ho : out.length ≤ 4194304) (h0 : 0 ≤ ix) (h1 : ix ≤ 4194304) :
    runes_Shapes.l1 (k + 1) out A B acc sp cnt ix (A.length : Int) (j : Int) = runes_Shapes.l0 k (out ++ [acc]) sp cnt (ix + 1) := by
  simp only [runes_Shapes.l1]
  rw [if_neg (by omega), if_pos (by omega), show wrap64 (ix + 1) = ix + 1 from by unfold wrap64; omega]
theorem shape_loop (out : List (List SP)) (A B : List Int) (sp : List SP) (cnt ix : Int) (hl : A.length ≤ 4) (hAB : A.length = B.length) (hA : ∀ i (h : i < A.length), 0 ≤ A[i] ∧ A[i] < 256) (hB : ∀ i (h : i < B.length), 0 ≤ B[i] ∧ B[i] < 256) (ho : out.length ≤ 4194304) (h0 : 0 ≤ ix) (h1 : ix ≤ 4194304) :
    ∀ (d j k : Nat) (acc : List SP), A.length = j + d → acc.length ≤ j → runes_Shapes.l1 (k + d + 1) out A B acc sp cnt ix (A.length : Int) (j : Int) = runes_Shapes.l0 k (out ++ [acc ++ shapeGo (A.drop j) (B.drop j)]) sp cnt (ix + 1) := by
  intro d
  induction d with
  | zero =>
    intro j k acc hd ha
    rw [shape_done _ _ _ _ _ _ _ _ _ (by omega) ho h0 h1, List.drop_eq_nil_of_le (by omega : A.length ≤ j)]
    simp [shapeGo]
  | succ d ih =>
    intro j k acc hd ha
    rw [show k + (d + 1) + 1 = (k + d + 1) + 1 from by omega, shape_turn _ _ _ _ _ _ _ _ j (by omega) (by omega) (hA j _) (hB j _) ha hl, ih (j + 1) k _ (by omega) (by rw [List.length_append, List.length_singleton]; omega)]
    rw [List.drop_eq_getElem_cons (show j < A.length by omega), List.drop_eq_getElem_cons (show j < B.length by omega)]
    simp only [shapeGo, List.append_assoc, List.cons_append, List.nil_append]
theorem rdT_cons {l : List SP} {i : Nat} {x : SP} {t : List SP} (h : l.drop i = x :: t) : rd_T63 l i = x ∧ i < l.length ∧ l.drop (i + 1) = t := by
  have hlt : i < l.length := by
    rcases Nat.lt_or_ge i l.length with h1 | h1
    · exact h1
    · rw [List.drop_eq_nil_of_le h1] at h; cases h
  have h2 := List.drop_eq_getElem_cons hlt
  rw [h2] at h
  injection h with h3 h4
  refine ⟨?_, hlt, h4⟩
  unfold rd_T63
  rw [Int.toNat_natCast, List.getD_eq_getElem?_getD, List.getElem?_eq_getElem hlt]
  exact h3
theorem Class.runes {lo hi : Int} (h : Class lo hi) : isRune lo ∧ isRune hi := by
  obtain ⟨a1, a2, a3, a4, a5, a6, a7⟩ := h
  exact ⟨⟨a1, by omega, a5⟩, ⟨by omega, a3, a6⟩⟩
theorem shapes_turn (k : Nat) (out : List (List SP)) (sp : List SP) (i : Nat) (x : SP) (t : List SP) (h : sp.drop i = x :: t) (hx : Class x.f0 x.f1) (ho : out.length ≤ 4194304) (hi : i ≤ 4194304) :
    ∃ m, m ≤ 5 ∧ runes_Shapes.l0 (k + 1 + m + 1) out sp (sp.length : Int) (i : Int) = runes_Shapes.l0 (k + 1) (out ++ [shapeOf x]) sp (sp.length : Int) ((i + 1 : Nat) : Int) := by
  obtain ⟨hr, hlt, -⟩ := rdT_cons h
  obtain ⟨r1, r2⟩ := hx.runes
  have l1 := codeL_lenN x.f0
  have l2 := codeL_lenN x.f1
  have s4 := sizeN_4 x.f0
  have hs := hx.2.2.2.1
  refine ⟨(codeL x.f0).length + 1, by omega, ?_⟩
  have hk : k + 1 + ((codeL x.f0).length + 1) = (k + (codeL x.f0).length + 1) + 1 := by omega
  rw [hk]
  generalize hq : k + (codeL x.f0).length + 1 + 1 = q
  simp only [runes_Shapes.l0]
  subst hq
  have w1 : wrap32 x.f0 = x.f0 := by have := r1.1; have := r1.2.1; unfold wrap32; omega
  have w2 : wrap32 x.f1 = x.f1 := by have := r2.1; have := r2.2.1; unfold wrap32; omega
  rw [if_pos (by omega), if_pos (by omega), if_pos (by omega), hr, w1, w2, append_rune _ [] _ r1 (by decide), append_rune _ [] _ r2 (by decide), Option.bind_some, Option.bind_some, List.nil_append, List.nil_append]
  have := shape_loop out (codeL x.f0) (codeL x.f1) sp (sp.length : Int) (i : Int) (by omega) (by omega) (fun i h => codeL_byte r1 h) (fun i h => codeL_byte r2 h) ho (by omega) (by omega) (codeL x.f0).length 0 (k + 1) [] (by omega) (by simp)
  rw [show k + (codeL x.f0).length + 1 + 1 = k + 1 + (codeL x.f0).length + 1 from by omega]
  refine this.trans ?_
  rfl
theorem shapes_loop (sp : List SP) (hc : ∀ x ∈ sp, Class x.f0 x.f1) : ∀ (t : List SP) (i : Nat) (out : List (List SP)), sp.drop i = t → out.length ≤ i → i + t.length ≤ 4194304 → ∃ k, runes_Shapes.l0 (k + 1) out sp (sp.length : Int) (i : Int) = some (out ++ t.map shapeOf, 0) := by
  intro t
  induction t with
  | nil =>
    intro i out h ho hi
    refine ⟨0, ?_⟩
    have : sp.length ≤ i := by have := congrArg List.length h; rw [List.length_drop] at this; simp only [List.length_nil] at this; omega
    simp only [runes_Shapes.l0]
    rw [if_neg (by omega), List.map_nil, List.append_nil]
  | cons x t ih =>
    intro i out h ho hi
    rw [List.length_cons] at hi
    obtain ⟨hr, hlt, hd⟩ := rdT_cons h
    obtain ⟨k, hk⟩ := ih (i + 1) (out ++ [shapeOf x]) hd (by rw [List.length_append, List.length_singleton]; omega) (by omega)
    have hm : x ∈ sp := List.mem_of_mem_drop (i := i) (by rw [h]; exact List.mem_cons_self)
    obtain ⟨m, -, e⟩ := shapes_turn k out sp i x t h (hc x hm) (by omega) (by omega)
    refine ⟨k + 1 + m, e.trans (hk.trans ?_)⟩
    rw [List.map_cons, List.append_assoc]
    rfl
/-- What Shapes tells. -/
def shapesRes (lo hi : Int) : List (List SP) × Int := if lo < 0 ∨ 1114111 < lo ∨ hi < 0 ∨ 1114111 < hi then ([], 30) else if lo > hi then ([], 1) else (shapesL lo hi, 0)
theorem shapes_pure (lo hi : Int) : ∃ k, runes_Shapes.f k lo hi = some (shapesRes lo hi) := by
  unfold shapesRes
  by_cases h : lo < 0 ∨ 1114111 < lo ∨ hi < 0 ∨ 1114111 < hi
  · rw [if_pos h]
    refine ⟨1, ?_⟩
    have hj : ∀ b, b = true → runes_Shapes.j0 1 lo hi b = some (([] : List (List SP)), 30) := by
      intro b hb; simp only [runes_Shapes.j0]; rw [if_pos hb]
    unfold runes_Shapes.f
    by_cases c1 : lo < 0
    · rw [if_pos c1]; exact hj _ rfl
    rw [if_neg c1]
    by_cases c2 : lo > 1114111
    · rw [if_pos c2]; exact hj _ rfl
    rw [if_neg c2]
    by_cases c3 : hi < 0
    · rw [if_pos c3]; exact hj _ rfl
    rw [if_neg c3]
    exact hj _ (decide_eq_true (by omega))
  · rw [if_neg h]
    have e : ∀ k, runes_Shapes.f (k + 1) lo hi = if lo > hi then some (([] : List (List SP)), 1) else ((runes_pieces.f k lo hi).bind fun t => runes_Shapes.l0 k ([] : List (List SP)) t (t.length : Int) 0) := by
      intro k
      unfold runes_Shapes.f
      rw [if_neg (by omega), if_neg (by omega), if_neg (by omega), decide_eq_false (by omega)]
      simp only [runes_Shapes.j0]
      rw [if_neg (by decide)]
    by_cases c : lo > hi
    · rw [if_pos c]
      exact ⟨1, by rw [e, if_pos c]⟩
    · rw [if_neg c]
      obtain ⟨k, hk⟩ := shapes_loop (spansL lo hi) (spans_class (by omega)) (spansL lo hi) 0 [] rfl (Nat.le_refl _) (by have := spans_len lo hi; omega)
      obtain ⟨k', h1, h2⟩ : ∃ k', 5 * (FU + 1) ≤ k' ∧ k + 1 ≤ k' := ⟨5 * (FU + 1) + (k + 1), by omega, by omega⟩
      refine ⟨k' + 1, ?_⟩
      rw [e, if_neg c, pieces_pure (by omega) (by omega) (by omega) (by omega) h1, Option.bind_some]
      have hm := at_rounds (g := fun k => runes_Shapes.l0 k ([] : List (List SP)) (spansL lo hi) ((spansL lo hi).length : Int) 0) (fun k => (runes_Shapes.mono_l k).2.1 _ _ _ _) h2 hk
      exact hm
end Go.Proofs.Ytebebognifiinaa.U
