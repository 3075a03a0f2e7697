/-
  The document's Shapes, and both Patterns, as they are printed: the same. No memory here.
-/
import Derived.Test.YtebebognifiinaaRefPieces
namespace Go.Proofs.Ytebebognifiinaa.U
open Go.RowKit Go.Proofs.YtebebognifiinaaW.PrintWords Go.Proofs.YtebebognifiinaaW.PrintLast Go.Proofs.YtebebognifiinaaW.PrintMore
set_option linter.unusedVariables false
set_option linter.unusedSimpArgs false
theorem refS_step {k : Nat} {lo hi s e : Int} {es : List (Int × Int)} {out : List (List SP)} (hk : 5 * (FU + 1) + 6 ≤ k) (h0 : 0 ≤ lo) (hs : 0 ≤ s) (he : e ≤ 1114111) (hse : s ≤ e)
    (hcls : ∀ a b, 0 ≤ a → s ≤ a → a ≤ b → b ≤ e → Class a b) (ho : (out.length : Int) ≤ s) :
    refShapesL k lo hi ((s, e) :: es) out = refShapesL k lo hi es (out ++ (if mx lo s ≤ mn hi e then cutF FU (mx lo s) (mn hi e) else []).map shapeOf) ∧ ((out ++ (if mx lo s ≤ mn hi e then cutF FU (mx lo s) (mn hi e) else []).map shapeOf).length : Int) ≤ e + 1 := by
  have m1 := mx_le lo s
  have m2 := mn_le hi e
  simp only [refShapesL]
  by_cases c : mx lo s ≤ mn hi e
  · have hl := cutF_len FU _ _ c
    rw [if_pos c, rp_pure FU _ _ k (hcls _ _ (by omega) (by omega) c (by omega)) (by unfold FU; omega) hk, Option.bind_some, if_pos (by rw [List.length_map]; omega)]
    refine ⟨rfl, ?_⟩
    rw [List.length_append, List.length_map]
    omega
  · obtain ⟨k, rfl⟩ : ∃ m, k = m + 1 := ⟨k - 1, by unfold FU at hk; omega⟩
    rw [if_neg c, rp_none k (by omega), Option.bind_some, if_pos (by simp only [List.length_nil]; omega)]
    refine ⟨by rw [List.map_nil], ?_⟩
    rw [List.map_nil, List.append_nil]
    omega
theorem refShapes_pure (lo hi : Int) : ∃ k, harrowref03_Shapes.f k lo hi = some (shapesRes lo hi) := by
  refine ⟨5 * (FU + 1) + 6, ?_⟩
  unfold shapesRes harrowref03_Shapes.f
  by_cases c1 : lo < 0
  · rw [if_pos c1, if_pos (.inl c1)]
  rw [if_neg c1]
  by_cases c2 : 1114111 < lo
  · rw [if_pos c2, if_pos (.inr (.inl c2))]
  rw [if_neg c2]
  by_cases c3 : hi < 0
  · rw [if_pos c3, if_pos (.inr (.inr (.inl c3)))]
  rw [if_neg c3]
  by_cases c4 : 1114111 < hi
  · rw [if_pos c4, if_pos (.inr (.inr (.inr c4)))]
  rw [if_neg c4, if_neg (show ¬ (lo < 0 ∨ 1114111 < lo ∨ hi < 0 ∨ 1114111 < hi) by omega)]
  by_cases c5 : hi < lo
  · rw [if_pos c5, if_pos c5]
  rw [if_neg c5, if_neg (show ¬ lo > hi from c5)]
  obtain ⟨k, hk, hkk⟩ : ∃ k, 5 * (FU + 1) + 6 ≤ k ∧ 5 * (FU + 1) + 6 = k := ⟨_, Nat.le_refl _, rfl⟩
  rw [hkk]
  unfold partsL
  obtain ⟨e1, l1⟩ := refS_step (lo := lo) (hi := hi) (s := 0) (e := 127) (es := [(128, 2047), (2048, 55295), (57344, 65535), (65536, 1114111)]) (out := []) hk (by omega) (by decide) (by decide) (by decide) (fun a b p q r t => class_of p q r t (by decide) (by decide) (by decide)) (by decide)
  obtain ⟨e2, l2⟩ := refS_step (lo := lo) (hi := hi) (s := 128) (e := 2047) (es := [(2048, 55295), (57344, 65535), (65536, 1114111)]) hk (by omega) (by decide) (by decide) (by decide) (fun a b p q r t => class_of p q r t (by decide) (by decide) (by decide)) l1
  obtain ⟨e3, l3⟩ := refS_step (lo := lo) (hi := hi) (s := 2048) (e := 55295) (es := [(57344, 65535), (65536, 1114111)]) hk (by omega) (by decide) (by decide) (by decide) (fun a b p q r t => class_of p q r t (by decide) (by decide) (by decide)) l2
  obtain ⟨e4, l4⟩ := refS_step (lo := lo) (hi := hi) (s := 57344) (e := 65535) (es := [(65536, 1114111)]) hk (by omega) (by decide) (by decide) (by decide) (fun a b p q r t => class_of p q r t (by decide) (by decide) (by decide)) (Int.le_trans l3 (by decide))
  obtain ⟨e5, l5⟩ := refS_step (lo := lo) (hi := hi) (s := 65536) (e := 1114111) (es := []) hk (by omega) (by decide) (by decide) (by decide) (fun a b p q r t => class_of p q r t (by decide) (by decide) (by decide)) l4
  rw [e1, e2, e3, e4, e5]
  simp only [refShapesL, Option.bind_some]
  refine congrArg some (congrArg (fun x => (x, (0 : Int))) ?_)
  unfold shapesL spansL
  simp only [restL, List.map_append, List.append_assoc, List.nil_append, List.append_nil]
  rfl
/-- A pattern's node for a span of bytes. -/
def okSh (s : List SP) : Prop := s.length ≤ 4 ∧ ∀ x ∈ s, 0 ≤ x.f0 ∧ x.f0 < 256 ∧ 0 ≤ x.f1 ∧ x.f1 < 256
theorem patIn_ok : ∀ (s : List SP) (j : Nat) (out : List S96), (∀ x ∈ s, 0 ≤ x.f0 ∧ x.f0 < 256 ∧ 0 ≤ x.f1 ∧ x.f1 < 256) → out.length + 2 * s.length < 2199023255550 → ∃ r, patIn s j out = some r ∧ r.length ≤ out.length + 2 * s.length
  | [], _, out, _, _ => ⟨out, rfl, by simp⟩
  | x :: s, j, out, h, hl => by
    rw [List.length_cons] at hl
    simp only [patIn]
    unfold runes_set.f
    rw [if_pos (h x List.mem_cons_self), Option.bind_some, if_pos (by omega)]
    obtain ⟨r, h1, h2⟩ := patIn_ok s (j + 1) (if 0 < j then (out ++ [⟨5, 0, ⟨#[]⟩, ⟨W (rngP x.f0.toNat (x.f1.toNat + 1)) 0, W (rngP x.f0.toNat (x.f1.toNat + 1)) 1, W (rngP x.f0.toNat (x.f1.toNat + 1)) 2, W (rngP x.f0.toNat (x.f1.toNat + 1)) 3⟩⟩]) ++ [ndN 7] else out ++ [⟨5, 0, ⟨#[]⟩, ⟨W (rngP x.f0.toNat (x.f1.toNat + 1)) 0, W (rngP x.f0.toNat (x.f1.toNat + 1)) 1, W (rngP x.f0.toNat (x.f1.toNat + 1)) 2, W (rngP x.f0.toNat (x.f1.toNat + 1)) 3⟩⟩]) (fun y hy => h y (List.mem_cons_of_mem _ hy)) (by split <;> (try simp only [List.length_append, List.length_singleton]) <;> omega)
    refine ⟨r, h1, Nat.le_trans h2 ?_⟩
    rw [List.length_cons]
    split <;> (try simp only [List.length_append, List.length_singleton]) <;> omega
theorem patOut_ok : ∀ (ss : List (List SP)) (i : Nat) (out : List S96), (∀ s ∈ ss, okSh s) → out.length + 9 * ss.length < 2199023255550 → ∃ r, patOut ss i out = some r ∧ r.length ≤ out.length + 9 * ss.length
  | [], _, out, _, _ => ⟨out, rfl, by simp⟩
  | s :: ss, i, out, h, hl => by
    rw [List.length_cons] at hl
    simp only [patOut]
    obtain ⟨o, h1, h2⟩ := patIn_ok s 0 out (h s List.mem_cons_self).2 (by have := (h s List.mem_cons_self).1; omega)
    have hs4 := (h s List.mem_cons_self).1
    rw [h1, Option.bind_some, if_pos (by omega)]
    obtain ⟨r, h3, h4⟩ := patOut_ok ss (i + 1) (if 0 < i then o ++ [ndN 8] else o) (fun y hy => h y (List.mem_cons_of_mem _ hy)) (by split <;> (try simp only [List.length_append, List.length_singleton]) <;> omega)
    refine ⟨r, h3, Nat.le_trans h4 ?_⟩
    rw [List.length_cons]
    split <;> (try simp only [List.length_append, List.length_singleton]) <;> omega
theorem okSh_shape {x : SP} (h : Class x.f0 x.f1) : okSh (shapeOf x) := by
  obtain ⟨r1, r2⟩ := h.runes
  have l1 := codeL_lenN x.f0
  have l2 := codeL_lenN x.f1
  have s4 := sizeN_4 x.f0
  have key : ∀ (A B : List Int), (∀ y ∈ A, 0 ≤ y ∧ y < 256) → (∀ y ∈ B, 0 ≤ y ∧ y < 256) → (shapeGo A B).length ≤ A.length ∧ ∀ y ∈ shapeGo A B, 0 ≤ y.f0 ∧ y.f0 < 256 ∧ 0 ≤ y.f1 ∧ y.f1 < 256 := by
    intro A
    induction A with
    | nil => intro B _ _; cases B <;> exact ⟨Nat.le_refl _, fun y hy => by cases hy⟩
    | cons a A ih =>
      intro B hA hB
      cases B with
      | nil => exact ⟨Nat.zero_le _, fun y hy => by cases hy⟩
      | cons b B =>
        obtain ⟨i1, i2⟩ := ih B (fun y hy => hA y (List.mem_cons_of_mem _ hy)) (fun y hy => hB y (List.mem_cons_of_mem _ hy))
        refine ⟨by simp only [shapeGo, List.length_cons]; omega, fun y hy => ?_⟩
        simp only [shapeGo, List.mem_cons] at hy
        rcases hy with rfl | hy
        · exact ⟨(hA a List.mem_cons_self).1, (hA a List.mem_cons_self).2, (hB b List.mem_cons_self).1, (hB b List.mem_cons_self).2⟩
        · exact i2 y hy
  obtain ⟨k1, k2⟩ := key (codeL x.f0) (codeL x.f1) (fun y hy => by obtain ⟨i, hi, rfl⟩ := List.getElem_of_mem hy; exact codeL_byte r1 hi) (fun y hy => by obtain ⟨i, hi, rfl⟩ := List.getElem_of_mem hy; exact codeL_byte r2 hi)
  exact ⟨by unfold shapeOf; omega, k2⟩
theorem okSh_shapes {lo hi : Int} (h0 : 0 ≤ lo) : ∀ s ∈ shapesL lo hi, okSh s := by
  intro s hs
  unfold shapesL at hs
  obtain ⟨x, hx, rfl⟩ := List.mem_map.1 hs
  exact okSh_shape (spans_class h0 x hx)
/-- What Pattern tells. -/
def patRes (lo hi : Int) : Option (List S96 × Int) := if (shapesRes lo hi).2 = 0 then (if (shapesRes lo hi).1.length = 0 then some ([ndN 2], 0) else (patOut (shapesRes lo hi).1 0 []).bind fun o => some (o, 0)) else some ([], (shapesRes lo hi).2)
theorem pat_pure (lo hi : Int) : ∃ k, runes_Pattern.f k lo hi = patRes lo hi := by
  obtain ⟨k, h⟩ := shapes_pure lo hi
  refine ⟨k, ?_⟩
  unfold runes_Pattern.f
  rw [h, Option.bind_some]
  rfl
theorem shapesRes_len (lo hi : Int) : (shapesRes lo hi).1.length ≤ 1114112 := by
  unfold shapesRes
  split
  · exact Nat.zero_le _
  split
  · exact Nat.zero_le _
  · show (shapesL lo hi).length ≤ _
    unfold shapesL
    rw [List.length_map]
    exact spans_len lo hi
theorem patRes_some (lo hi : Int) : ∃ r, patRes lo hi = some r ∧ r.1.length ≤ 10027008 := by
  have hl := shapesRes_len lo hi
  have hok : ∀ s ∈ (shapesRes lo hi).1, okSh s := by
    unfold shapesRes
    split
    · intro s hs; cases hs
    split
    · intro s hs; cases hs
    · rename_i c _
      exact okSh_shapes (by omega)
  unfold patRes
  generalize shapesRes lo hi = R at *
  by_cases c : R.2 = 0
  · rw [if_pos c]
    by_cases d : R.1.length = 0
    · rw [if_pos d]; exact ⟨_, rfl, by decide⟩
    · rw [if_neg d]
      obtain ⟨r, h1, h2⟩ := patOut_ok R.1 0 [] hok (by simp only [List.length_nil]; omega)
      rw [h1]
      refine ⟨_, rfl, ?_⟩
      simp only [List.length_nil] at h2
      show r.length ≤ _
      omega
  · rw [if_neg c]; exact ⟨_, rfl, by simp⟩
theorem fromTo_set (a b : Int) : harrowref01_FromTo.f a b = runes_set.f a b := rfl
theorem rdL_at {l : List (List SP)} {i : Nat} (h : i < l.length) : rd_L3 l (i : Int) = l[i] := by
  unfold rd_L3
  rw [Int.toNat_natCast, List.getD_eq_getElem?_getD, List.getElem?_eq_getElem h]
  rfl
theorem rdT_at {l : List SP} {i : Nat} (h : i < l.length) : rd_T63 l (i : Int) = l[i] := by
  unfold rd_T63
  rw [Int.toNat_natCast, List.getD_eq_getElem?_getD, List.getElem?_eq_getElem h]
  rfl
/-- The inner loop: it lays what patIn lays, then the sign of choice, and goes on. -/
theorem refIn_loop (sh : List (List SP)) (i : Nat) (hi : i < sh.length) (hm : sh.length ≤ 1114112) : ∀ (d j k : Nat) (out o : List S96), sh[i].length = j + d → sh[i].length ≤ 4 → patIn (sh[i].drop j) j out = some o → o.length < 2199023255550 →
    harrowref03_Pattern.l1 (k + d + 1) sh out (i : Int) (j : Int) = harrowref03_Pattern.l0 k sh (if 0 < i then o ++ [ndN 8] else o) ((i + 1 : Nat) : Int) := by
  intro d
  induction d with
  | zero =>
    intro j k out o hd h4 hp ho
    rw [List.drop_eq_nil_of_le (by omega)] at hp
    have hoo : out = o := Option.some.inj hp
    subst hoo
    simp only [harrowref03_Pattern.l1]
    rw [if_pos (by omega), if_pos (by omega), rdL_at hi, if_neg (by omega), show wrap64 ((i : Int) + 1) = ((i + 1 : Nat) : Int) from by unfold wrap64; omega]
    by_cases c : 0 < i
    · rw [if_pos (show (i : Int) > 0 by omega), if_pos (by omega), if_pos c]
      rfl
    · rw [if_neg (show ¬ (i : Int) > 0 by omega), if_neg c]
  | succ d ih =>
    intro j k out o hd h4 hp ho
    have hj : j < sh[i].length := by omega
    rw [List.drop_eq_getElem_cons hj] at hp
    simp only [patIn] at hp
    rw [show k + (d + 1) + 1 = (k + d + 1) + 1 from by omega]
    generalize hq : k + d + 1 = q
    simp only [harrowref03_Pattern.l1]
    subst hq
    rw [if_pos (by omega), if_pos (by omega), rdL_at hi, if_pos (by omega), if_pos (by omega), rdT_at hj, fromTo_set]
    cases hset : runes_set.f sh[i][j].f0 sh[i][j].f1 with
    | none => rw [hset] at hp; cases hp
    | some b =>
    rw [hset] at hp
    simp only [Option.bind_some] at hp ⊢
    by_cases c4 : out.length < 2199023255550
    rotate_left 1
    · rw [if_neg c4] at hp; cases hp
    rw [if_pos c4] at hp
    rw [if_pos (by omega), show wrap64 ((j : Int) + 1) = ((j + 1 : Nat) : Int) from by unfold wrap64; omega]
    by_cases c : 0 < j
    · rw [if_pos c] at hp
      rw [if_pos (show (j : Int) > 0 by omega), if_pos (by rw [List.length_append, List.length_singleton]; omega)]
      exact ih (j + 1) k _ o (by omega) h4 hp ho
    · rw [if_neg c] at hp
      rw [if_neg (show ¬ (j : Int) > 0 by omega)]
      exact ih (j + 1) k _ o (by omega) h4 hp ho
theorem refOut_loop (sh : List (List SP)) (hm : sh.length ≤ 1114112) (h4 : ∀ s ∈ sh, s.length ≤ 4) : ∀ (d i : Nat) (out r : List S96), sh.length = i + d → patOut (sh.drop i) i out = some r → ∃ k, harrowref03_Pattern.l0 k sh out (i : Int) = some (r, 0) := by
  intro d
  induction d with
  | zero =>
    intro i out r hd hp
    rw [List.drop_eq_nil_of_le (by omega)] at hp
    have hoo : out = r := Option.some.inj hp
    subst hoo
    refine ⟨1, ?_⟩
    simp only [harrowref03_Pattern.l0]
    rw [if_neg (by omega)]
  | succ d ih =>
    intro i out r hd hp
    have hi : i < sh.length := by omega
    rw [List.drop_eq_getElem_cons hi] at hp
    simp only [patOut] at hp
    cases hI : patIn sh[i] 0 out with
    | none => rw [hI] at hp; cases hp
    | some o =>
    rw [hI, Option.bind_some] at hp
    by_cases c : o.length < 2199023255550
    rotate_left 1
    · rw [if_neg c] at hp; cases hp
    rw [if_pos c] at hp
    obtain ⟨k, hk⟩ := ih (i + 1) _ r (by omega) hp
    have hl := refIn_loop sh i hi hm sh[i].length 0 k out o (by omega) (h4 _ (List.getElem_mem hi)) (by rw [List.drop_zero]; exact hI) c
    refine ⟨k + sh[i].length + 1 + 1, ?_⟩
    generalize hq : k + sh[i].length + 1 = q at hl ⊢
    simp only [harrowref03_Pattern.l0]
    rw [if_pos (by omega)]
    exact hl.trans hk
theorem refPat_pure (lo hi : Int) : ∃ k, harrowref03_Pattern.f k lo hi = patRes lo hi := by
  obtain ⟨k, h⟩ := refShapes_pure lo hi
  obtain ⟨r, hr, -⟩ := patRes_some lo hi
  have hl := shapesRes_len lo hi
  have hok : ∀ s ∈ (shapesRes lo hi).1, s.length ≤ 4 := by
    unfold shapesRes
    split
    · intro s hs; cases hs
    split
    · intro s hs; cases hs
    · rename_i c _
      exact fun s hs => (okSh_shapes (by omega) s hs).1
  rw [hr]
  unfold patRes at hr
  generalize shapesRes lo hi = R at *
  by_cases c : R.2 = 0
  · rw [if_pos c] at hr
    by_cases d : R.1.length = 0
    · rw [if_pos d] at hr
      refine ⟨k, ?_⟩
      unfold harrowref03_Pattern.f
      rw [h, Option.bind_some, if_pos c, if_pos (by omega)]
      exact hr
    · rw [if_neg d] at hr
      cases hP : patOut R.1 0 [] with
      | none => rw [hP] at hr; cases hr
      | some o =>
      rw [hP, Option.bind_some] at hr
      obtain ⟨k2, h2⟩ := refOut_loop R.1 hl hok R.1.length 0 [] o (by omega) hP
      refine ⟨k + k2, ?_⟩
      unfold harrowref03_Pattern.f
      rw [at_rounds (fun k => harrowref03_Shapes.mono lo hi k) (Nat.le_add_right k k2) h, Option.bind_some, if_pos c, if_neg (by omega), at_rounds (g := fun k => harrowref03_Pattern.l0 k R.1 [] 0) (fun k => (harrowref03_Pattern.mono_l k).1 _ _ _) (Nat.le_add_left k2 k) h2]
      exact hr
  · rw [if_neg c] at hr
    refine ⟨k, ?_⟩
    unfold harrowref03_Pattern.f
    rw [h, Option.bind_some, if_neg c]
    exact hr
/-! same -/
theorem sameSpans_loop (l : List SP) (hl : l.length ≤ 9223372036854775806) : ∀ (d i k : Nat), l.length = i + d → d + 1 ≤ k → harrowbook_SameSpans.l0 k l l (i : Int) = some true := by
  intro d
  induction d with
  | zero =>
    intro i k hd hk
    obtain ⟨k, rfl⟩ : ∃ m, k = m + 1 := ⟨k - 1, by omega⟩
    simp only [harrowbook_SameSpans.l0]
    rw [if_neg (by omega)]
  | succ d ih =>
    intro i k hd hk
    obtain ⟨k, rfl⟩ : ∃ m, k = m + 1 := ⟨k - 1, by omega⟩
    simp only [harrowbook_SameSpans.l0]
    rw [if_pos (by omega), if_pos (by omega), if_pos (by omega), if_neg (by simp), show wrap64 ((i : Int) + 1) = ((i + 1 : Nat) : Int) from by unfold wrap64; omega]
    exact ih (i + 1) k (by omega) (by omega)
theorem sameSpans_pure (l : List SP) (hl : l.length ≤ 9223372036854775806) {k : Nat} (hk : l.length + 1 ≤ k) : harrowbook_SameSpans.f k l l = some true := by
  unfold harrowbook_SameSpans.f
  rw [if_pos rfl]
  exact sameSpans_loop l hl l.length 0 k (by omega) hk
theorem same_loop (l : List (List SP)) (hl : l.length ≤ 9223372036854775806) (h4 : ∀ s ∈ l, s.length ≤ 4) : ∀ (d i k : Nat), l.length = i + d → d + 6 ≤ k → harrowlaw03_same.l0 k l l (i : Int) = some true := by
  intro d
  induction d with
  | zero =>
    intro i k hd hk
    obtain ⟨k, rfl⟩ : ∃ m, k = m + 1 := ⟨k - 1, by omega⟩
    simp only [harrowlaw03_same.l0]
    rw [if_neg (by omega)]
  | succ d ih =>
    intro i k hd hk
    obtain ⟨k, rfl⟩ : ∃ m, k = m + 1 := ⟨k - 1, by omega⟩
    have hi : i < l.length := by omega
    have h5 := h4 _ (List.getElem_mem hi)
    simp only [harrowlaw03_same.l0]
    rw [if_pos (by omega), if_pos (by omega), if_pos (by omega), rdL_at hi, sameSpans_pure _ (by omega) (by omega), Option.bind_some, if_pos rfl, show wrap64 ((i : Int) + 1) = ((i + 1 : Nat) : Int) from by unfold wrap64; omega]
    exact ih (i + 1) k (by omega) (by omega)
theorem same_pure (l : List (List SP)) (hl : l.length ≤ 9223372036854775806) (h4 : ∀ s ∈ l, s.length ≤ 4) : ∃ k, harrowlaw03_same.f k l l = some true := by
  refine ⟨l.length + 6, ?_⟩
  unfold harrowlaw03_same.f
  rw [if_pos rfl]
  exact same_loop l hl h4 l.length 0 _ (by omega) (Nat.le_refl _)
theorem spoil_loop (m : Int) : ∀ (d i k : Nat) (l : List S96), l.length = i + d → l.length < 2199023255552 → d + 1 ≤ k → harrowbook_SpoilPattern.l0 k l m (i : Int) = some () := by
  intro d
  induction d with
  | zero =>
    intro i k l hd hl hk
    obtain ⟨k, rfl⟩ : ∃ m, k = m + 1 := ⟨k - 1, by omega⟩
    simp only [harrowbook_SpoilPattern.l0]
    rw [if_neg (by omega), if_pos hl]
  | succ d ih =>
    intro i k l hd hl hk
    obtain ⟨k, rfl⟩ : ∃ m, k = m + 1 := ⟨k - 1, by omega⟩
    simp only [harrowbook_SpoilPattern.l0]
    rw [if_pos (by omega), if_pos (by omega), show wrap64 ((i : Int) + 1) = ((i + 1 : Nat) : Int) from by unfold wrap64; omega]
    exact ih (i + 1) k _ (by rw [List.length_set]; omega) (by rw [List.length_set]; exact hl) (by omega)
theorem spoil_pure (l : List S96) (m : Int) (hl : l.length < 2199023255552) : ∃ k, harrowbook_SpoilPattern.f k l m = some () := ⟨l.length + 1, spoil_loop m l.length 0 _ l (by omega) hl (Nat.le_refl _)⟩
theorem samePat_pure (l : List S96) (hl : l.length ≤ 4611686018427387904) : harrowbook_SamePattern.f l l = some true := by
  unfold harrowbook_SamePattern.f
  rw [if_pos ⟨rfl, hl⟩]
theorem works_pure : harrowlaw03_works.f 40 = some true := by decide +kernel
end Go.Proofs.Ytebebognifiinaa.U
