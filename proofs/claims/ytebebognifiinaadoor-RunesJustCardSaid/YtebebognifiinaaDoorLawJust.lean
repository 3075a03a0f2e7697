/-
  RunesJust, walked: it returns true and leaves what was there as it was.
-/
import Derived.Test.YtebebognifiinaaDoorJustP
import Derived.Test.YtebebognifiinaaDoorBookInts
import Derived.Laws.Strings2
import Derived.Laws.BytesArg
namespace Go.Proofs.YtebebognifiinaaDoor.T
open Go.RowKit Go.Proofs.YtebebognifiinaaDoorW.PrintWords Go.Proofs.YtebebognifiinaaDoorW.PrintLast Go.Proofs.YtebebognifiinaaDoorW.PrintMore
set_option linter.unusedVariables false
set_option linter.unusedSimpArgs false
theorem works_pure : harrowlaw03_works.f 40 = some true := by decide +kernel
/-- A row of rows, read at a place. -/
theorem shape_at {w : World} {A : Option Addr} {n : Nat} {xs : List (List SP)} (h : Kd.C (Kd.slice 34 k34) w A n xs) {j : Nat} (hj : j < xs.length) :
    ∃ b o A' c', A = some ⟨b, o, none⟩ ∧ w.cell? ⟨b, o + j, none⟩ = some (.slice A' xs[j].length c') ∧ xs[j].length ≤ c' ∧ Kd.C k34 w A' xs[j].length xs[j] := by
  obtain ⟨h1, h2, h3⟩ := h
  obtain ⟨ad, rfl, hc⟩ := h3 (by omega)
  have hp : ad = ⟨ad.block, ad.off, none⟩ := by
    obtain ⟨cs, e1, e2, e3⟩ := hc 0 _ (List.getElem?_eq_getElem (by omega))
    have := e3 0 _ (List.getElem?_eq_getElem (by rw [e1]; exact Nat.zero_lt_one))
    rw [Nat.zero_mul] at this
    exact addr_plain this
  obtain ⟨cs, e1, e2, e3⟩ := hc j _ (List.getElem?_eq_getElem hj)
  obtain ⟨A', c', rfl, hl, hr⟩ := e2
  have e4 := e3 0 _ rfl
  refine ⟨ad.block, ad.off, A', c', by rw [← hp], ?_, hl, hr⟩
  have e5 : j * (Kd.slice 34 k34).sz + 0 = j := by show j * 1 + 0 = j; omega
  rw [e5, hp, add_plain] at e4
  exact e4
theorem drawn_below {w w' : World} (h : Drawn0 w w') : Below w.heap.size w w' := by
  obtain ⟨n, rfl⟩ := h; exact below_drewN' (Below.refl _ _) n
theorem C_stay {α : Type} {d : Kd α} {w w' : World} {A : Option Addr} {n : Nat} {xs : List α} (h : Kd.C d w A n xs) (hb : Below w.heap.size w w') : Kd.C d w' A n xs := Kd.C_below h hb
def spC (x : SP) : List Value := [.int .i64 x.f0, .int .i64 x.f1]
theorem spC_len (x : SP) : (spC x).length = 2 := rfl
theorem i64_in {x : Int} (h : (Lit.int .i64 x).wf = true) : -9223372036854775808 ≤ x ∧ x ≤ 9223372036854775807 := by
  simpa [Lit.wf, IntKind.min, IntKind.max, IntKind.bits, IntKind.signed] using h
theorem count_take {α : Type} (p : α → Bool) (l : List α) (j : Nat) (h : j < l.length) : (l.take (j + 1)).countP p = (l.take j).countP p + if p l[j] = true then 1 else 0 := by
  rw [List.take_succ_eq_append_getElem h, List.countP_append, List.countP_singleton]
theorem count_le {α : Type} (p : α → Bool) (l : List α) (j : Nat) : (l.take j).countP p ≤ j := Nat.le_trans (List.countP_le_length) (by rw [List.length_take]; omega)
theorem shapes_len4 {lo hi : Int} (h0 : 0 ≤ lo) {m : List SP} (h : m ∈ shapesL lo hi) : 1 ≤ m.length ∧ m.length ≤ 4 := by
  unfold shapesL at h
  obtain ⟨x, hx, rfl⟩ := List.mem_map.1 h
  rw [shapeOf_len (spans_class h0 x hx)]
  have := sizeN_4 x.f0
  omega
set_option maxRecDepth 100000 in
set_option maxHeartbeats 16000000 in
theorem lawJust (lo hi : Int) (pick : List Int) (hp : pick.length * 8 ≤ 140737488351232) (hlo : -9223372036854775808 ≤ lo ∧ lo ≤ 9223372036854775807) (hhi : -9223372036854775808 ≤ hi ∧ hi ≤ 9223372036854775807) (hpk : ∀ x ∈ pick, -9223372036854775808 ≤ x ∧ x ≤ 9223372036854775807) (A : Option Addr) (c : Nat) (hc : pick.length ≤ c) (w : World) (hv : RowIs w (.slice A pick.length c) 1 pick.length (pick.flatMap intsC)) (hT : Tabs w) :
    Calls Tryd.prog 3 #[.int .i64 lo, .int .i64 hi, .slice A pick.length c] w fun e w' => e = .returned (.bool true) ∧ Below w.heap.size w w' := by
  have HT := hid hT
  clear hT
  obtain ⟨ks, hks⟩ := shapes_pure lo hi
  obtain ⟨i0, hi0, hz0, hz1, hz2⟩ := info_parts info_ints
  go_enter Tryd.func3, Tryd.ntmps3
  go_wp2_with (fail)
  refine (harrowlaw03_works.calls 40 true w works_pure).mono ?_
  rintro e w0 ⟨rfl, hB0⟩
  go_wp2_with (fail)
  by_cases hw : lo < 0 ∨ 1114111 < lo ∨ hi < 0 ∨ 1114111 < hi
  · rw [shapesRes, if_pos hw] at hks
    refine (runes_Shapes.calls ks lo hi [] 30 w0 hks).mono ?_
    rintro e w1 ⟨v1, rfl, hS, hb1⟩
    obtain ⟨A1, c1, rfl, -, -⟩ := Kd.S_reads hS
    by_cases d1 : lo < 0
    · go_wp2_with (fail)
      go_ret
      exact ⟨rfl, hB0.trans (hb1.mono hB0.size)⟩
    by_cases d2 : hi < 0
    · go_wp2_with (fail)
      go_ret
      exact ⟨rfl, hB0.trans (hb1.mono hB0.size)⟩
    by_cases d3 : 1114111 < lo
    · go_wp2_with (fail)
      go_ret
      exact ⟨rfl, hB0.trans (hb1.mono hB0.size)⟩
    have d4 : 1114111 < hi := by omega
    go_wp2_with (fail)
    go_ret
    exact ⟨rfl, hB0.trans (hb1.mono hB0.size)⟩
  rw [shapesRes, if_neg hw] at hks
  by_cases hgt : lo > hi
  · rw [if_pos hgt] at hks
    refine (runes_Shapes.calls ks lo hi [] 1 w0 hks).mono ?_
    rintro e w1 ⟨v1, rfl, hS, hb1⟩
    obtain ⟨A1, c1, rfl, -, -⟩ := Kd.S_reads hS
    have d1 : ¬ lo < 0 := by omega
    have d2 : ¬ hi < 0 := by omega
    have d3 : ¬ 1114111 < lo := by omega
    have d4 : ¬ 1114111 < hi := by omega
    go_wp2_with (fail)
    go_ret
    exact ⟨rfl, hB0.trans (hb1.mono hB0.size)⟩
  rw [if_neg hgt] at hks
  refine (runes_Shapes.calls ks lo hi (shapesL lo hi) 0 w0 hks).mono ?_
  rintro e w1 ⟨v1, rfl, hS, hb1⟩
  obtain ⟨A1, c1, rfl, hc1, hC1⟩ := Kd.S_reads hS
  clear hS
  have hB1 := hB0.trans (hb1.mono hB0.size)
  have hw1 : wrap64 (lo - 1) = lo - 1 := by unfold wrap64; omega
  have hw2 : wrap64 (hi + 1) = hi + 1 := by unfold wrap64; omega
  have hown4 : (w1.alloc (.cells #[.int .i64 lo, .int .i64 hi, .int .i64 (lo - 1), .int .i64 (hi + 1)] 3)).ownsRow w1.heap.size 3 1 (.slice (some ⟨w1.heap.size, 0, none⟩) 4 4) 4 ([lo, hi, lo - 1, hi + 1].flatMap intsC) := ⟨rfl, .inr ⟨_, 4, #[.int .i64 lo, .int .i64 hi, .int .i64 (lo - 1), .int .i64 (hi + 1)], rfl, Nat.le_refl _, alloc_new _ _, Nat.le_refl _, by decide, rfl, rfl⟩⟩
  obtain ⟨P4, hP4⟩ : ∃ P4, P4 = [lo, hi, lo - 1, hi + 1] := ⟨_, rfl⟩
  rw [← hP4] at hown4
  have HP4 := hid hP4
  clear hP4
  have hBa := hB1.alloc hB1.size (.cells #[.int .i64 lo, .int .i64 hi, .int .i64 (lo - 1), .int .i64 (hi + 1)] 3)
  have hva := hv.below hBa
  go_wp2_with (at_builtin; refine wpList_append_row rfl _ _ 22 rfl w1.heap.size 3 i0 _ 1 8 Tryd.underlying22 hi0 hz0 hz1 hz2 rfl (by decide) _ 4 (P4.flatMap intsC) rfl hown4 (.slice A pick.length c) pick.length (pick.flatMap intsC) rfl hva (intsC_one pick) ?c3 ?c4 ?c5 ?_)
  case c3 => unfold maxLen; omega
  case c4 => omega
  case c5 => simp
  intro v2 w2 hown2 hg2 hb2
  have hB2 := hBa.grown hg2 hBa.size (fun b e => by have := own_block_ge hown4 b e; have := hB1.size; omega)
  have hC2 : Kd.C (Kd.slice 34 k34) w2 A1 (shapesL lo hi).length (shapesL lo hi) := C_stay hC1 (((Below.refl w1.heap.size w1).alloc (Nat.le_refl _) _).grown hg2 (by simp) (fun b e => own_block_ge hown4 b e))
  rw [← List.flatMap_append] at hown2
  generalize hL : P4 ++ pick = L at hown2
  have hLl : 4 + pick.length = L.length := by rw [← hL, HP4.out]; simp; omega
  rw [hLl] at hown2
  have hrow2 := RowIs.of_owns hown2
  obtain ⟨av, cv, rfl⟩ := hrow2.form
  clear hva hown4 hg2 hb2
  go_wp2_with (fail)
  have HL := hid hL
  clear hL
  have hLr := hrow2
  have HT2 := hid (HT.out.below hB2)
  have hLb : ∀ x ∈ L, -9223372036854775808 ≤ x ∧ x ≤ 9223372036854775807 := by
    intro x hx
    rw [← HL.out, HP4.out] at hx
    rcases List.mem_append.1 hx with hx | hx
    · simp only [List.mem_cons, List.not_mem_nil, or_false] at hx; omega
    · exact hpk x hx
  clear hc1
  have hvp := hv.below hB2
  generalize hSL : shapesL lo hi = SL at *
  have hSn : SL.length ≤ 1114112 := by rw [← hSL]; unfold shapesL; rw [List.length_map]; exact spans_len lo hi
  go_loopw [69] (fun i wr => ∃ k : Nat, k ≤ L.length ∧ i = .int .i64 k ∧ Below w2.heap.size w2 wr) (fun i _ => L.length - (intOf i).toNat)
  case atStart => exact ⟨0, Nat.zero_le _, rfl, Below.refl _ _⟩
  case round =>
    obtain ⟨k, hk, rfl, hBr⟩ := hrel
    by_cases hkl : k < L.length
    · have hkl2 : (k : Int) < (L.length : Int) := by omega
      obtain ⟨g, o, rfl, hcx⟩ := (hrow2.below hBr).at (by omega)
      have p0 : wr.cell? ⟨g, o + k, none⟩ = some (.int .i64 L[k]) := by have h := row_cell0 intsC_len hcx hkl (by decide); rwa [Nat.mul_one] at h
      have hcnt : isRune L[k] → SL.countP (inShape (codeL L[k])) = if lo ≤ L[k] ∧ L[k] ≤ hi then 1 else 0 := fun h => by rw [← hSL]; exact just_count (by omega) h
      generalize L[k] = n at *
      clear hcx
      go_wp2_with (fail)
      refine (runes_Encode.calls 1 n (encRes n).1 (encRes n).2 wr (encode_pure n)).mono ?_
      rintro e w3 ⟨rfl, hb3⟩
      have hB3 := hBr.trans (hb3.mono hBr.size)
      have hC3 := C_stay hC2 hB3
      unfold encRes
      by_cases hn : isRune n
      · rw [if_pos hn]
        go_wp2_with (fail)
        have hcn := hid (hcnt hn)
        clear hcnt
        go_loopw [13, 80] (fun m j wq => ∃ (jj : Nat), jj ≤ SL.length ∧ j = .int .i64 jj ∧ m = .int .i64 ((SL.take jj).countP (inShape (codeL n)) : Nat) ∧ Below w2.heap.size w2 wq) (fun _ j _ => SL.length - (intOf j).toNat)
        case atStart => exact ⟨0, Nat.zero_le _, rfl, rfl, hB3⟩
        case round =>
          obtain ⟨jj, hj, rfl, rfl, hBq⟩ := hrel
          by_cases hjl : jj < SL.length
          · have hjl2 : (jj : Int) < (SL.length : Int) := by omega
            obtain ⟨b1, o1, A', c', rfl, p1, hlc, hCs⟩ := shape_at (C_stay hC2 hBq) hjl
            have h4 := shapes_len4 (lo := lo) (hi := hi) (by omega) (m := SL[jj]) (by rw [hSL]; exact List.getElem_mem hjl)
            have hst := count_take (inShape (codeL n)) SL jj hjl
            have hcl := count_le (inShape (codeL n)) SL jj
            have hwp := within_pure (strOfNums (codeL n)) SL[jj] h4.2
            rw [bytes_strOf (fun x hx => by obtain ⟨i, hi, rfl⟩ := List.getElem_of_mem hx; exact codeL_byte hn hi)] at hwp
            generalize SL[jj] = sh at *
            generalize (SL.take jj).countP (inShape (codeL n)) = cn at *
            cases hin : inShape (codeL n) sh with
            | true =>
              rw [hin] at hwp hst
              rw [if_pos rfl] at hst
              clear hin
              go_wp2_with (fail)
              refine (harrowlaw03_within.calls 5 (strOfNums (codeL n)) A' c' sh true wr hCs hlc hwp).mono ?_
              rintro e w4 ⟨rfl, hd4⟩
              have hB4 := hBq.trans ((drawn_below hd4).mono hBq.size)
              go_wp2_with (fail)
              go_roundw
              case rel => exact ⟨jj + 1, by omega, by first | rfl | go_num, by rw [hst]; first | rfl | go_num, hB4⟩
              case measure => simp [intOf]; omega
            | false =>
              rw [hin] at hwp hst
              rw [if_neg (by decide)] at hst
              clear hin
              go_wp2_with (fail)
              refine (harrowlaw03_within.calls 5 (strOfNums (codeL n)) A' c' sh false wr hCs hlc hwp).mono ?_
              rintro e w4 ⟨rfl, hd4⟩
              have hB4 := hBq.trans ((drawn_below hd4).mono hBq.size)
              go_wp2_with (fail)
              go_roundw
              case rel => exact ⟨jj + 1, by omega, by first | rfl | go_num, by rw [hst]; first | rfl | go_num, hB4⟩
              case measure => simp [intOf]; omega
          · obtain rfl : jj = SL.length := by omega
            have hall := hcn.out
            rw [← List.take_length (l := SL)] at hall
            generalize (SL.take SL.length).countP (inShape (codeL n)) = cn at *
            by_cases hr1 : lo ≤ n
            · by_cases hr2 : n ≤ hi
              · rw [if_pos ⟨hr1, hr2⟩] at hall
                subst hall
                go_wp2_with (fail)
                go_roundw
                case rel => exact ⟨k + 1, by omega, by first | rfl | go_num, hBq⟩
                case measure => simp [intOf]; omega
              · rw [if_neg (fun h => hr2 h.2)] at hall
                subst hall
                go_wp2_with (fail)
                go_roundw
                case rel => exact ⟨k + 1, by omega, by first | rfl | go_num, hBq⟩
                case measure => simp [intOf]; omega
            · rw [if_neg (fun h => hr1 h.1)] at hall
              subst hall
              go_wp2_with (fail)
              go_roundw
              case rel => exact ⟨k + 1, by omega, by first | rfl | go_num, hBq⟩
              case measure => simp [intOf]; omega
      · rw [if_neg hn]
        clear hcnt
        go_wp2_with (fail)
        go_loopw [13, 80] (fun m j wq => ∃ (jj : Nat), jj ≤ SL.length ∧ j = .int .i64 jj ∧ m = .int .i64 0 ∧ Below w2.heap.size w2 wq) (fun _ j _ => SL.length - (intOf j).toNat)
        case atStart => exact ⟨0, Nat.zero_le _, rfl, rfl, hB3⟩
        case round =>
          obtain ⟨jj, hj, rfl, rfl, hBq⟩ := hrel
          by_cases hjl : jj < SL.length
          · have hjl2 : (jj : Int) < (SL.length : Int) := by omega
            obtain ⟨b1, o1, A', c', rfl, p1, hlc, hCs⟩ := shape_at (C_stay hC2 hBq) hjl
            generalize SL[jj] = sh at *
            go_wp2_with (fail)
            go_roundw
            case rel => exact ⟨jj + 1, by omega, by first | rfl | go_num, rfl, hBq⟩
            case measure => simp [intOf]; omega
          · obtain rfl : jj = SL.length := by omega
            go_wp2_with (fail)
            go_roundw
            case rel => exact ⟨k + 1, by omega, by first | rfl | go_num, hBq⟩
            case measure => simp [intOf]; omega
    · obtain rfl : k = L.length := by omega
      have hBw := hB2.trans (hBr.mono hB2.size)
      have hC4 := C_stay hC2 hBr
      have hvp4 := hvp.below hBr
      have HT4 := hid (HT2.out.below hBr)
      clear hkl hLb hlo hhi
      go_wp2_with (fail)
      go_loopw [116] (fun i wq => ∃ k : Nat, k ≤ SL.length ∧ i = .int .i64 k ∧ Below wr.heap.size wr wq) (fun i _ => SL.length - (intOf i).toNat)
      case atStart => exact ⟨0, Nat.zero_le _, rfl, Below.refl _ _⟩
      case round =>
        obtain ⟨i, hil0, rfl, hBq⟩ := hrel
        by_cases hil : i < SL.length
        · have hil2 : (i : Int) < (SL.length : Int) := by omega
          obtain ⟨b1, o1, A', c', rfl, p1, hlc, hCs⟩ := shape_at (C_stay hC4 hBq) hil
          obtain ⟨x, hx, hxs⟩ : ∃ x ∈ spansL lo hi, shapeOf x = SL[i] := by
            have hm : SL[i] ∈ shapesL lo hi := by rw [hSL]; exact List.getElem_mem hil
            exact List.mem_map.1 hm
          have h4 := shapes_len4 (lo := lo) (hi := hi) (by omega) (m := SL[i]) (by rw [hSL]; exact List.getElem_mem hil)
          have hvp5 := hvp4.below hBq
          have hshp : ∀ z ∈ SL[i], 0 ≤ z.f0 ∧ z.f0 ≤ z.f1 ∧ z.f1 ≤ 255 := by rw [← hxs]; exact shapeOf_bytes (spans_class (by omega) x hx) (spans_whole (by omega) x hx)
          generalize SL[i] = sh at *
          have hrS := rowIs_of_C (enc := spC) (c := c') (fun _ _ _ h => k34_open h) (fun _ => rfl) (by decide) hCs
          have hd1 : ¬ (sh.length : Int) < 1 := by omega
          have hd2 : ¬ (4 : Int) < (sh.length : Int) := by omega
          go_wp2_with (fail)
          obtain ⟨wS, rfl⟩ : ∃ wS, wS = wr := ⟨wr, rfl⟩
          go_loopw [18, 131] (fun b kk wq => ∃ (k : Nat) (B : List Int), k ≤ sh.length ∧ kk = .int .i64 k ∧ Kd.R (Kd.int .u8) 5 wq wS.heap.size (fun _ => True) b B ∧ B.length = k ∧ inShape B (sh.take k) = true ∧ Below wS.heap.size wS wq) (fun _ kk _ => sh.length - (intOf kk).toNat)
          case atStart => exact ⟨0, [], Nat.zero_le _, rfl, ⟨fun _ _ => trivial, [], World.ownsRow_nil _ _ _ _, Reps.none _ _⟩, rfl, by cases sh <;> rfl, Below.refl _ _⟩
          case round =>
            obtain ⟨k, B, hk, rfl, hownB, hBl, hin, hBs⟩ := hrel
            by_cases hkl : k < sh.length
            · have hkl2 : (k : Int) < (sh.length : Int) := by omega
              obtain ⟨g, o, rfl, hcx⟩ := (hrS.below hBs).at (by omega)
              have p2 : wr.cell? ⟨g, o + k * 2, none⟩ = some (.int .i64 sh[k].f0) := row_cell0 spC_len hcx hkl (by decide)
              have p3 : wr.cell? ⟨g, o + k * 2 + 1, none⟩ = some (.int .i64 sh[k].f1) := row_cell spC_len hcx hkl (j := 1) (by decide)
              have hxk : 0 ≤ sh[k].f0 ∧ sh[k].f0 ≤ sh[k].f1 ∧ sh[k].f1 ≤ 255 := hshp sh[k] (List.getElem_mem hkl)
              have hinn : ∀ y : Int, sh[k].f0 ≤ y → y ≤ sh[k].f1 → inShape (B ++ [y]) (sh.take (k + 1)) = true := fun y h1 h2 => by
                rw [List.take_succ_eq_append_getElem hkl]
                exact inShape_snoc B (sh.take k) y sh[k] hin h1 h2
              generalize sh[k] = y at *
              obtain ⟨y0, y1⟩ := y
              simp only at p2 p3 hxk hinn
              clear hcx
              go_upto_if 138 with (fail)
              go_cut [21] from 139 to 148 (fun v wc => ∃ a : Int, -9223372036854775808 ≤ a ∧ a ≤ 9223372036854775807 ∧ v = .int .i64 a ∧ wc = wr.alloc (.cells #[.int .i64 y0, .int .i64 y1] 34))
              case first =>
                by_cases hpe : pick.length = 0
                · clear hv hvp hvp4 hvp5 HL hpk hp hc
                  simp only [hpe] at *
                  go_wp2_with (fail)
                  go_meet
                  case rel => exact ⟨0, by decide, by decide, rfl, rfl⟩
                · have hpe2 : (0 : Int) < (pick.length : Int) := by omega
                  obtain ⟨g3, o3, rfl, hcp⟩ := ((hvp5.below hBs).below ((Below.refl wr.heap.size wr).alloc (Nat.le_refl _) (.cells #[.int .i64 y0, .int .i64 y1] 34))).at (by omega)
                  have hml : (i + k) % pick.length < pick.length := Nat.mod_lt _ (by omega)
                  have p4 : (wr.alloc (.cells #[.int .i64 y0, .int .i64 y1] 34)).cell? ⟨g3, o3 + (i + k) % pick.length, none⟩ = some (.int .i64 pick[(i + k) % pick.length]) := by have h := row_cell0 intsC_len hcp hml (by decide); rwa [Nat.mul_one] at h
                  have hpb := hpk _ (List.getElem_mem hml)
                  have hmod : Int.tmod ((i : Int) + (k : Int)) (pick.length : Int) = (((i + k) % pick.length : Nat) : Int) := by
                    rw [Int.tmod_eq_emod_of_nonneg (by omega)]
                    rfl
                  generalize pick[(i + k) % pick.length] = a at *
                  generalize (i + k) % pick.length = q at *
                  clear hcp
                  go_wp2_with (fail)
                  go_meet
                  case rel => exact ⟨a, hpb.1, hpb.2, rfl, rfl⟩
              case rest =>
                obtain ⟨a, ha0, ha1, rfl, rfl⟩ := hcut
                have hA := alloc_new wr (.cells #[.int .i64 y0, .int .i64 y1] 34)
                have hownA := Kd.R_alloc hownB (.cells #[.int .i64 y0, .int .i64 y1] 34)
                have hBA := hBs.alloc hBs.size (.cells #[.int .i64 y0, .int .i64 y1] 34)
                generalize wr.alloc (.cells #[.int .i64 y0, .int .i64 y1] 34) = W at *
                have hcA := block_cell hA
                have hq1 : wrap64 (y1 - y0) = y1 - y0 := by unfold wrap64; omega
                have hq2 : wrap64 (y1 - y0 + 1) = y1 - y0 + 1 := by unfold wrap64; omega
                have hq3 : IntKind.u64.wrap (y1 - y0 + 1) = y1 - y0 + 1 := by rw [IntKind.wrap_u64]; omega
                have hq4 : ¬ (y1 - y0 + 1 = 0) := by omega
                obtain ⟨U, hU⟩ : ∃ U, U = IntKind.u64.wrap a := ⟨_, rfl⟩
                have hU2 : IntKind.u64.wrap a = U := hU.symm
                have hU3 : 0 ≤ U := by rw [hU, IntKind.wrap_u64]; omega
                clear hU
                have hq5 : Int.tmod U (y1 - y0 + 1) = U % (y1 - y0 + 1) := Int.tmod_eq_emod_of_nonneg hU3
                have hq6 : 0 ≤ U % (y1 - y0 + 1) ∧ U % (y1 - y0 + 1) < y1 - y0 + 1 := ⟨Int.emod_nonneg _ hq4, Int.emod_lt_of_pos _ (by omega)⟩
                have c0 : W.cell? ⟨wr.heap.size, 0, none⟩ = some (.int .i64 y0) := hcA 0
                have c1 : W.cell? ⟨wr.heap.size, 1, none⟩ = some (.int .i64 y1) := hcA 1
                clear hcA
                go_wp2_with (fail)
                have hownD := Kd.R_drew hownA
                have hBD : Below wS.heap.size wS W.drew := below_drew hBA
                refine start_ (n := 19) (S := fun w' => w'.cell? ⟨wr.heap.size, 0, none⟩ = some (.int .i64 y0) ∧ w'.cell? ⟨wr.heap.size, 1, none⟩ = some (.int .i64 y1)) (ds := [16, 17]) #[false, false, false, false, false, false, false, false, false, false, false, false, false, false, false, false, false, false, false] (by kernel_rfl) rfl rfl ⟨c0, c1⟩ (fun hHeld => ?_)
                generalize W.drew = Wd at hownD hBD hHeld ⊢
                refine pure_ (i := 0) (N := some 163) (v := ?_) (a' := ?_) #[true, false, false, false, false, false, false, false, false, false, false, false, false, false, false, false, false, false, false] rfl rfl (by kernel_rfl) (fun _ _ _ h => h) (Or.inl ⟨by rfl, ?_⟩) ?_ ?_
                rotate_left
                · intro w'
                  go_simp
                  with_reducible rfl
                rotate_left
                · simp only [Act.put, List.setIfInBounds_toArray, List.set_cons_zero, List.set_cons_succ, i64_w, i32_w]
                  rfl
                refine pure_ (i := 1) (N := some 164) (v := ?_) (a' := ?_) #[true, true, false, false, false, false, false, false, false, false, false, false, false, false, false, false, false, false, false] rfl rfl (by kernel_rfl) (fun _ _ _ h => h) (Or.inl ⟨by rfl, ?_⟩) ?_ ?_
                rotate_left
                · intro w'
                  go_simp
                  with_reducible rfl
                rotate_left
                · simp only [Act.put, List.setIfInBounds_toArray, List.set_cons_zero, List.set_cons_succ, i64_w, i32_w]
                  rfl
                refine pure_ (i := 3) (N := some 166) (v := ?_) (a' := ?_) #[true, true, false, true, false, false, false, false, false, false, false, false, false, false, false, false, false, false, false] rfl rfl (by kernel_rfl) (fun _ _ _ h => h) (Or.inl ⟨by rfl, ?_⟩) ?_ ?_
                rotate_left
                · intro w'
                  go_simp
                  with_reducible rfl
                rotate_left
                · simp only [Act.put, List.setIfInBounds_toArray, List.set_cons_zero, List.set_cons_succ, i64_w, i32_w]
                  rfl
                refine pure_ (i := 4) (N := some 167) (v := ?_) (a' := ?_) #[true, true, false, true, true, false, false, false, false, false, false, false, false, false, false, false, false, false, false] rfl rfl (by kernel_rfl) (fun _ _ _ h => h) (Or.inl ⟨by rfl, ?_⟩) ?_ ?_
                rotate_left
                · intro w'
                  go_simp
                  with_reducible rfl
                rotate_left
                · simp only [Act.put, List.setIfInBounds_toArray, List.set_cons_zero, List.set_cons_succ, i64_w, i32_w]
                  rfl
                refine pure_ (i := 5) (N := some 168) (v := ?_) (a' := ?_) #[true, true, false, true, true, true, false, false, false, false, false, false, false, false, false, false, false, false, false] rfl rfl (by kernel_rfl) (fun _ _ _ h => h) (Or.inl ⟨by rfl, ?_⟩) ?_ ?_
                rotate_left
                · intro w'
                  go_simp
                  with_reducible rfl
                rotate_left
                · simp only [Act.put, List.setIfInBounds_toArray, List.set_cons_zero, List.set_cons_succ, i64_w, i32_w]
                  rfl
                refine pure_ (i := 7) (N := some 170) (v := ?_) (a' := ?_) #[true, true, false, true, true, true, false, true, false, false, false, false, false, false, false, false, false, false, false] rfl rfl (by kernel_rfl) (fun _ _ _ h => h) (Or.inl ⟨by rfl, ?_⟩) ?_ ?_
                rotate_left
                · intro w'
                  go_simp
                  with_reducible rfl
                rotate_left
                · simp only [Act.put, List.setIfInBounds_toArray, List.set_cons_zero, List.set_cons_succ, i64_w, i32_w]
                  rfl
                refine take_ (i := 2) (N := some 165) (v := ?_) (a' := ?_) #[true, true, true, true, true, true, false, true, false, false, false, false, false, false, false, false, false, false, false] rfl rfl (by kernel_rfl) (fun _ _ _ h => h) (Or.inl ⟨by rfl, ?_⟩) hHeld ?_ ?_
                rotate_left
                · rintro w' ⟨s0, s1⟩
                  go_simp
                  with_reducible rfl
                rotate_left
                · simp only [Act.put, List.setIfInBounds_toArray, List.set_cons_zero, List.set_cons_succ, i64_w, i32_w]
                  rfl
                refine take_ (i := 6) (N := some 169) (v := ?_) (a' := ?_) #[true, true, true, true, true, true, true, true, false, false, false, false, false, false, false, false, false, false, false] rfl rfl (by kernel_rfl) (fun _ _ _ h => h) (Or.inl ⟨by rfl, ?_⟩) hHeld ?_ ?_
                rotate_left
                · rintro w' ⟨s0, s1⟩
                  go_simp
                  with_reducible rfl
                rotate_left
                · simp only [Act.put, List.setIfInBounds_toArray, List.set_cons_zero, List.set_cons_succ, i64_w, i32_w]
                  rfl
                refine take_ (i := 8) (N := some 171) (v := ?_) (a' := ?_) #[true, true, true, true, true, true, true, true, true, false, false, false, false, false, false, false, false, false, false] rfl rfl (by kernel_rfl) (fun _ _ _ h => h) (Or.inl ⟨by rfl, ?_⟩) hHeld ?_ ?_
                rotate_left
                · rintro w' ⟨s0, s1⟩
                  go_simp
                  with_reducible rfl
                rotate_left
                · simp only [Act.put, List.setIfInBounds_toArray, List.set_cons_zero, List.set_cons_succ, i64_w, i32_w]
                  rfl
                refine pure_ (i := 9) (N := some 172) (v := ?_) (a' := ?_) #[true, true, true, true, true, true, true, true, true, true, false, false, false, false, false, false, false, false, false] rfl rfl (by kernel_rfl) (fun _ _ _ h => h) (Or.inl ⟨by rfl, ?_⟩) ?_ ?_
                rotate_left
                · intro w'
                  go_simp
                  with_reducible rfl
                rotate_left
                · simp only [Act.put, List.setIfInBounds_toArray, List.set_cons_zero, List.set_cons_succ, i64_w, i32_w]
                  rfl
                refine pure_ (i := 10) (N := some 173) (v := ?_) (a' := ?_) #[true, true, true, true, true, true, true, true, true, true, true, false, false, false, false, false, false, false, false] rfl rfl (by kernel_rfl) (fun _ _ _ h => h) (Or.inl ⟨by rfl, ?_⟩) ?_ ?_
                rotate_left
                · intro w'
                  go_simp
                  with_reducible rfl
                rotate_left
                · simp only [Act.put, List.setIfInBounds_toArray, List.set_cons_zero, List.set_cons_succ, i64_w, i32_w]
                  rfl
                refine pure_ (i := 11) (N := some 174) (v := ?_) (a' := ?_) #[true, true, true, true, true, true, true, true, true, true, true, true, false, false, false, false, false, false, false] rfl rfl (by kernel_rfl) (fun _ _ _ h => h) (Or.inl ⟨by rfl, ?_⟩) ?_ ?_
                rotate_left
                · intro w'
                  go_simp
                  with_reducible rfl
                rotate_left
                · simp only [Act.put, List.setIfInBounds_toArray, List.set_cons_zero, List.set_cons_succ, i64_w, i32_w]
                  rfl
                refine pure_ (i := 12) (N := some 175) (v := ?_) (a' := ?_) #[true, true, true, true, true, true, true, true, true, true, true, true, true, false, false, false, false, false, false] rfl rfl (by kernel_rfl) (fun _ _ _ h => h) (Or.inl ⟨by rfl, ?_⟩) ?_ ?_
                rotate_left
                · intro w'
                  go_simp
                  with_reducible rfl
                rotate_left
                · simp only [Act.put, List.setIfInBounds_toArray, List.set_cons_zero, List.set_cons_succ, i64_w, i32_w]
                  rfl
                refine pure_ (i := 13) (N := some 176) (v := ?_) (a' := ?_) #[true, true, true, true, true, true, true, true, true, true, true, true, true, true, false, false, false, false, false] rfl rfl (by kernel_rfl) (fun _ _ _ h => h) (Or.inl ⟨by rfl, ?_⟩) ?_ ?_
                rotate_left
                · intro w'
                  go_simp
                  with_reducible rfl
                rotate_left
                · simp only [Act.put, List.setIfInBounds_toArray, List.set_cons_zero, List.set_cons_succ, i64_w, i32_w]
                  rfl
                refine pure_ (i := 14) (N := some 177) (v := ?_) (a' := ?_) #[true, true, true, true, true, true, true, true, true, true, true, true, true, true, true, false, false, false, false] rfl rfl (by kernel_rfl) (fun _ _ _ h => h) (Or.inl ⟨by rfl, ?_⟩) ?_ ?_
                rotate_left
                · intro w'
                  go_simp
                  with_reducible rfl
                rotate_left
                · simp only [Act.put, List.setIfInBounds_toArray, List.set_cons_zero, List.set_cons_succ, i64_w, i32_w]
                  rfl
                refine pure_ (i := 15) (N := some 178) (v := ?_) (a' := ?_) #[true, true, true, true, true, true, true, true, true, true, true, true, true, true, true, true, false, false, false] rfl rfl (by kernel_rfl) (fun _ _ _ h => h) (Or.inl ⟨by rfl, ?_⟩) ?_ ?_
                rotate_left
                · intro w'
                  go_simp
                  with_reducible rfl
                rotate_left
                · simp only [Act.put, List.setIfInBounds_toArray, List.set_cons_zero, List.set_cons_succ, i64_w, i32_w]
                  rfl
                refine last_ (i := 16) (N := some 179) #[true, true, true, true, true, true, true, true, true, true, true, true, true, true, true, true, true, false, false] rfl rfl (by kernel_rfl) (by decide) (fun K hK => ?_)
                refine value_ (w1 := ?_) (v := ?_) (by rfl) rfl ?_ ?_
                rotate_left 2
                · go_simp
                  constructor
                  · rfl
                  · rfl
                refine hK.out _ _ ?_
                clear hK K
                refine norm_ (a' := ?_) ?_ ?_
                rotate_left
                · show Act.put _ (some 179) _ = _
                  simp only [Act.put, List.setIfInBounds_toArray, List.set_cons_zero, List.set_cons_succ, i64_w, i32_w]
                  rfl
                refine last_ (i := 17) (N := some 180) #[true, true, true, true, true, true, true, true, true, true, true, true, true, true, true, true, true, true, false] rfl rfl (by kernel_rfl) (by decide) (fun K hK => ?_)
                refine Kd.R_append_step (Kd.int .u8) (w0 := wS) wS.heap.size (by rfl) (.tmp 163) (.tmp 179) 32 5 (.int .u8 0) 1 rfl Tryd.underlying32 info_byte rfl (by decide) (by decide) _ B (IntKind.u8.wrap (wrap64 (y0 + wrap64 (U % (y1 - y0 + 1))))) [.int .u8 (IntKind.u8.wrap (wrap64 (y0 + wrap64 (U % (y1 - y0 + 1)))))] (fun _ => True) (fun _ => False) rfl rfl ?aP (fun _ hk => hk.elim) (fun _ _ => trivial) hownD hBD hBD.size (by omega) ?_
                case aP => rfl
                intro v7 w7 ho hb hg hat
                refine hK.out _ _ ?_
                clear hK K
                refine norm_ (a' := ?_) ?_ ?_
                rotate_left
                · show Act.put _ (some 180) _ = _
                  simp only [Act.put, List.setIfInBounds_toArray, List.set_cons_zero, List.set_cons_succ, i64_w, i32_w]
                  rfl
                refine pure_ (i := 18) (N := some 18) (v := ?_) (a' := ?_) #[true, true, true, true, true, true, true, true, true, true, true, true, true, true, true, true, true, true, true] rfl rfl (by kernel_rfl) (fun _ _ _ h => h) (Or.inl ⟨by rfl, ?_⟩) ?_ ?_
                rotate_left
                · intro w'
                  go_simp
                  with_reducible rfl
                rotate_left
                · simp only [Act.put, List.setIfInBounds_toArray, List.set_cons_zero, List.set_cons_succ, i64_w, i32_w]
                  rfl
                refine done_ (by kernel_rfl) ?_
                have hE : (IntKind.u8.wrap (wrap64 (y0 + wrap64 (U % (y1 - y0 + 1))))) = y0 + U % (y1 - y0 + 1) := by
                  rw [show wrap64 (U % (y1 - y0 + 1)) = U % (y1 - y0 + 1) from by unfold wrap64; omega, show wrap64 (y0 + U % (y1 - y0 + 1)) = y0 + U % (y1 - y0 + 1) from by unfold wrap64; omega, IntKind.wrap_u8]; omega
                rw [hE] at ho
                have hin2 := hinn (y0 + U % (y1 - y0 + 1)) (by omega) (by omega)
                go_wp2_with (fail)
                go_roundw
                case rel => exact ⟨k + 1, B ++ [y0 + U % (y1 - y0 + 1)], by omega, by first | rfl | go_num, ho, by rw [List.length_append, List.length_singleton]; omega, hin2, hb⟩
                case measure => simp [intOf]; omega
            · obtain rfl : k = sh.length := by omega
              have hall := hin
              rw [List.take_length] at hall
              rw [← hxs] at hall
              obtain ⟨n, hn, hnB, hn1, hn2⟩ := of_box (spans_class (by omega) x hx) (spans_whole (by omega) x hx) hall
              have hnr := spans_in (by omega) hx hn hn1 hn2
              have hownT := owns_of_R (d := Kd.int .u8) (enc := fun x => [Value.int .u8 x]) (fun _ => rfl) (fun _ _ _ _ _ h => h) hownB
              rw [← List.map_eq_flatMap] at hownT
              have hconv := own_text Tryd.underlying32 Tryd.underlying5 hownT 9 Tryd.underlying9
              obtain ⟨ab, cb, rfl⟩ := (RowIs.of_owns hownT).form
              have hBx := hBq.trans (hBs.mono hBq.size)
              have hD := hid (decode_any (strOfNums B) 0 wr (HT4.out.below hBx))
              rw [← hnB, decode_own n hn, hnB] at hD
              clear hall hin hnB hxs hBl
              have hd3 : ¬ n < lo := by omega
              have hd4 : ¬ hi < n := by omega
              go_wp2_with (fail)
              refine hD.out.mono ?_
              rintro e w8 ⟨rfl, hb8⟩
              have hB8 := hBx.trans (hb8.mono hBx.size)
              go_wp2_with (fail)
              go_roundw
              case rel => exact ⟨i + 1, by omega, by first | rfl | go_num, hB8⟩
              case measure => simp [intOf]; omega
        · obtain rfl : i = SL.length := by omega
          go_wp2_with (fail)
          go_ret
          exact ⟨rfl, hBw.trans (hBq.mono hBw.size)⟩
end Go.Proofs.YtebebognifiinaaDoor.T
