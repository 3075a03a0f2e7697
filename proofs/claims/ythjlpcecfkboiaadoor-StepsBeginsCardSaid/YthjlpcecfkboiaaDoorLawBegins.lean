/-
  StepsBegins holds: of any code, subject, place.
-/
import Derived.Test.YthjlpcecfkboiaaDoorZx
import Derived.Test.YthjlpcecfkboiaaDoorStepsRef
import Derived.Test.YthjlpcecfkboiaaDoorLives
import Derived.Test.YthjlpcecfkboiaaDoorBookCode
import Derived.WalkKit
import Derived.BigQuiet
import Derived.BigRegion
import Derived.Laws.ResultCell
namespace Go.Proofs.YthjlpcecfkboiaaDoor
open Go.RowKit Go.Proofs.YthjlpcecfkboiaaDoorW.PrintWords Go.Proofs.YthjlpcecfkboiaaDoor.Z
set_option linter.unusedVariables false
set_option linter.unusedSimpArgs false
set_option maxHeartbeats 8000000 in
set_option maxRecDepth 20000 in
theorem rbegin_err (w : World) (A : Option Addr) (n c : Nat) (s : ByteArray) (p er : Int) (hl : ∀ w2, Below w.heap.size w w2 → Calls Tryd.prog 21 #[.slice A n c, .string s, .int .i64 p, .agg #[.int .i64 0, .int .i64 0, .int .i64 0]] w2 fun e w' => e = .returned (.int .i64 er) ∧ Below w2.heap.size w2 w') (he : er ≠ 0) :
    Calls Tryd.prog 9 #[.slice A n c, .string s, .int .i64 p] w fun e w' => e = .returned (goV er) ∧ Below w.heap.size w w' := by
  have hb0 := g_al (Below.refl w.heap.size w) (Nat.le_refl _) (.cells #[.int .i64 0, .int .i64 0, .int .i64 0, .int .i64 0, .slice none 0 0, .slice none 0 0] 31)
  have hA9 := alloc_new w (.cells #[.int .i64 0, .int .i64 0, .int .i64 0, .int .i64 0, .slice none 0 0, .slice none 0 0] 31)
  go_enter Tryd.func9, Tryd.ntmps9
  go_wp2_with (fail)
  with_reducible refine (hl _ hb0).mono ?_
  rintro e w2 ⟨rfl, hb2⟩
  have hB9 := keep hb2 hA9
  have hb3 := g_then hb0 hb2
  have hlt := block_lt hB9
  have hc9 := block_cell hB9
  have hf9 := block_free hB9
  clear hA9 hb0 hb2
  have he2 : (er != 0) = true := bne_iff_ne.mpr he
  go_wp2_with (fail)
  refine gen_g (P := fun W' => W'.heap[w.heap.size]? = some (.cells #[.int .i64 0, .int .i64 0, .int .i64 0, .int .i64 0, .slice none 0 0, .slice none 0 0] 31) ∧ Below w.heap.size w W') (Q := fun W' => bodyPost Tryd.prog _ _ _ _ W') ⟨?_, ?_⟩ ?_
  · exact heap_setCell_self (heap_setCell_self (heap_setCell_self (heap_setCell_self (heap_setCell_self (heap_setCell_self hB9 0 _) 1 _) 2 _) 3 _) 4 _) 5 _
  · exact g_st (g_st (g_st (g_st (g_st (g_st hb3 (by omega) _ _) (by omega) _ _) (by omega) _ _) (by omega) _ _) (by omega) _ _) (by omega) _ _
  rintro W ⟨hW, hbW⟩
  have hcW := block_cell hW
  refine bodyPost_ret (v := goV er) ?_ rfl ⟨rfl, hbW⟩
  rw [results_cell_tmp (show Tryd.f9.results = _ from rfl)]
  go_simp
  (try rfl)
set_option maxHeartbeats 8000000 in
set_option maxRecDepth 20000 in
theorem rbegin_ok (w : World) (A : Option Addr) (n c : Nat) (s : ByteArray) (p er : Int) (hl : ∀ w2, Below w.heap.size w w2 → Calls Tryd.prog 21 #[.slice A n c, .string s, .int .i64 p, .agg #[.int .i64 0, .int .i64 0, .int .i64 0]] w2 fun e w' => e = .returned (.int .i64 er) ∧ Below w2.heap.size w2 w') (he : er = 0) :
    Calls Tryd.prog 9 #[.slice A n c, .string s, .int .i64 p] w fun e w' => e = .returned (.tuple #[.agg #[.int .i64 0, .int .i64 p, .int .i64 0, .int .i64 0, .slice none 0 0, .slice none 0 0], .int .i64 0]) ∧ Below w.heap.size w w' := by
  have hb0 := g_al (Below.refl w.heap.size w) (Nat.le_refl _) (.cells #[.int .i64 0, .int .i64 0, .int .i64 0, .int .i64 0, .slice none 0 0, .slice none 0 0] 31)
  have hA9 := alloc_new w (.cells #[.int .i64 0, .int .i64 0, .int .i64 0, .int .i64 0, .slice none 0 0, .slice none 0 0] 31)
  go_enter Tryd.func9, Tryd.ntmps9
  go_wp2_with (fail)
  with_reducible refine (hl _ hb0).mono ?_
  rintro e w2 ⟨rfl, hb2⟩
  have hB9 := keep hb2 hA9
  have hb3 := g_then hb0 hb2
  have hlt := block_lt hB9
  have hc9 := block_cell hB9
  have hf9 := block_free hB9
  clear hA9 hb0 hb2
  subst he
  go_wp2_with (fail)
  refine gen_g (P := fun W' => W'.heap[w.heap.size]? = some (.cells #[.int .i64 0, .int .i64 p, .int .i64 0, .int .i64 0, .slice none 0 0, .slice none 0 0] 31) ∧ Below w.heap.size w W') (Q := fun W' => bodyPost Tryd.prog _ _ _ _ W') ⟨?_, ?_⟩ ?_
  · exact heap_setCell_self (heap_setCell_self (heap_setCell_self (heap_setCell_self (heap_setCell_self (heap_setCell_self hB9 0 _) 1 _) 2 _) 3 _) 4 _) 5 _
  · exact g_st (g_st (g_st (g_st (g_st (g_st hb3 (by omega) _ _) (by omega) _ _) (by omega) _ _) (by omega) _ _) (by omega) _ _) (by omega) _ _
  rintro W ⟨hW, hbW⟩
  have hcW := block_cell hW
  refine bodyPost_ret (v := .tuple #[.agg #[.int .i64 0, .int .i64 p, .int .i64 0, .int .i64 0, .slice none 0 0, .slice none 0 0], .int .i64 0]) ?_ rfl ⟨rfl, hbW⟩
  rw [results_cell_tmp (show Tryd.f9.results = _ from rfl)]
  go_simp
  (try rfl)
def begV (e p : Int) : Value := .tuple #[.agg #[.int .i64 0, .int .i64 (if e = 0 then p else 0), .int .i64 0, .int .i64 0, .slice none 0 0, .slice none 0 0], .int .i64 e]
theorem begin_any (w : World) (A : Option Addr) (c : Nat) (l : List S52) (s : ByteArray) (p e : Int) (hr : Kd.C k52 w A l.length l) (hc : l.length ≤ c) (hU : UsesOk w) (he : steps_looked.f 8601 l s p 0 0 0 = some e) :
    Calls Tryd.prog 8 #[.slice A l.length c, .string s, .int .i64 p] w fun en w' => en = .returned (begV e p) ∧ Below w.heap.size w w' := by
  have hl : ∀ w2, Below w.heap.size w w2 → Calls Tryd.prog 20 #[.slice A l.length c, .string s, .int .i64 p, .agg #[.int .i64 0, .int .i64 0, .int .i64 0]] w2 fun en w' => en = .returned (.int .i64 e) ∧ Below w2.heap.size w2 w' := fun w2 hb => steps_looked.calls 8601 A c l s p 0 0 0 e w2 (Kd.C_below hr hb) hc he (hU.below hb)
  unfold begV
  by_cases c0 : e = 0
  · rw [if_pos c0]
    have h := begin_ok w A l.length c s p e hl c0
    subst c0
    exact h
  · rw [if_neg c0]; exact begin_err w A l.length c s p e hl c0
theorem rbegin_any (w : World) (A : Option Addr) (c : Nat) (l : List S52) (s : ByteArray) (p e : Int) (hr : Kd.C k52 w A l.length l) (hc : l.length ≤ c) (he : harrowref21_Right.f 8600 l s p 0 0 0 = some e) :
    Calls Tryd.prog 9 #[.slice A l.length c, .string s, .int .i64 p] w fun en w' => en = .returned (begV e p) ∧ Below w.heap.size w w' := by
  have hl : ∀ w2, Below w.heap.size w w2 → Calls Tryd.prog 21 #[.slice A l.length c, .string s, .int .i64 p, .agg #[.int .i64 0, .int .i64 0, .int .i64 0]] w2 fun en w' => en = .returned (.int .i64 e) ∧ Below w2.heap.size w2 w' := fun w2 hb => harrowref21_Right.calls 8600 A c l s p 0 0 0 e w2 (Kd.C_below hr hb) hc he
  unfold begV
  by_cases c0 : e = 0
  · rw [if_pos c0]
    have h := rbegin_ok w A l.length c s p e hl c0
    subst c0
    exact h
  · rw [if_neg c0]; exact rbegin_err w A l.length c s p e hl c0
theorem code_row {w : World} {A : Option Addr} {c : Nat} {l : List S52} (h : Kd.C k52 w A l.length l) : RowIs w (.slice A l.length c) 9 (l.map insOf).length ((l.map insOf).flatMap codeC) := by
  rw [List.length_map, List.flatMap_map]
  exact rowIs_of_C (d := k52) (enc := fun x => codeC (insOf x)) (fun w x cs hk => k52_open hk) (fun _ => rfl) (by decide) h
theorem row_code {w : World} {A : Option Addr} {c n : Nat} {l : List S52} (h : RowIs w (.slice A n c) 9 (l.map insOf).length ((l.map insOf).flatMap codeC)) (hn : n = l.length) (hl : l.length ≤ 9223372036854775807) : Kd.C k52 w A l.length l := by
  subst hn
  rw [List.length_map, List.flatMap_map] at h
  exact code_C h hl
set_option maxHeartbeats 8000000 in
set_option maxRecDepth 20000 in
theorem lawBegins (w : World) (A : Option Addr) (c : Nat) (l : List S52) (s : ByteArray) (p l0 l1 l2 : Int) (hr : Kd.C k52 w A l.length l) (hc : l.length ≤ c) (hm : (l.length + 1) * 80 ≤ 140737488355328) (hU : UsesOk w) :
    Calls Tryd.prog 3 #[.agg #[.slice A l.length c, .string s, .int .i64 p, .int .i64 l0, .int .i64 l1, .int .i64 l2]] w fun e w' => e = .returned (.bool true) ∧ Below w.heap.size w w' := by
  obtain ⟨er, hE1, hE2⟩ := right_same l s p 0 0 0
  have hrow := code_row (c := c) hr
  have hb0 := g_al (Below.refl w.heap.size w) (Nat.le_refl _) (.cells #[.slice A l.length c, .string s, .int .i64 p, .int .i64 l0, .int .i64 l1, .int .i64 l2] 26)
  have hG := alloc_new w (.cells #[.slice A l.length c, .string s, .int .i64 p, .int .i64 l0, .int .i64 l1, .int .i64 l2] 26)
  go_enter Tryd.func3, Tryd.ntmps3
  go_wp2_with (fail)
  have hL := lendCode_any (l.map insOf) (by rw [List.length_map]; exact hm) (.slice A l.length c) _ (hrow.below hb0)
  with_reducible refine hL.mono ?_
  rintro e w2 ⟨v2, rfl, hlent, hb2⟩
  have hlent0 := hlent
  obtain ⟨_, _, g, cap, hv2, hcap, _⟩ := hlent0
  subst hv2
  have hcap2 : l.length ≤ cap := by rw [List.length_map] at hcap; omega
  have hrow2 := hlent.row
  rw [List.length_map] at hlent
  simp only [List.length_map]
  have hG2 := keep hb2 hG
  have hb3 := g_then hb0 hb2
  have hcG := block_cell hG2
  have hltG := block_lt hG2
  have hC2 : Kd.C k52 w2 (some ⟨g, 0, none⟩) l.length l := row_code (c := cap) (n := (l.map insOf).length) hrow2 (List.length_map _) (by omega)
  clear hL hb0 hb2 hG hrow2
  go_wp2_with (fail)
  with_reducible refine (begin_any w2 (some ⟨g, 0, none⟩) cap l s p er hC2 hcap2 (hU.below hb3) hE1).mono ?_
  rintro e w3 ⟨rfl, hb4⟩
  unfold begV
  generalize hP : (if er = 0 then p else 0) = P at *
  have hG3 := keep hb4 hG2
  have hlent3 := hlent.below hb4
  have hb5 := g_then hb3 hb4
  replace hcG := block_cell hG3
  replace hltG := block_lt hG3
  clear hlent hG2 hb3 hb4 hC2
  go_wp2_with (fail)
  have hX := alloc_new w3 (.cells #[.int .i64 0, .int .i64 P, .int .i64 0, .int .i64 0, .slice none 0 0, .slice none 0 0] 31)
  have hG4 := alloc_old (y := (.cells #[.int .i64 0, .int .i64 P, .int .i64 0, .int .i64 0, .slice none 0 0, .slice none 0 0] 31)) hG3
  have hb6 := g_al hb5 hb5.size (.cells #[.int .i64 0, .int .i64 P, .int .i64 0, .int .i64 0, .slice none 0 0, .slice none 0 0] 31)
  have hlent4 := hlent3.below ((Below.refl w3.heap.size w3).alloc (Nat.le_refl _) (.cells #[.int .i64 0, .int .i64 P, .int .i64 0, .int .i64 0, .slice none 0 0, .slice none 0 0] 31))
  have hq : w.heap.size < w3.heap.size := hltG
  clear hlent3 hG3 hb5 hcG hltG
  generalize w3.alloc (.cells #[.int .i64 0, .int .i64 P, .int .i64 0, .int .i64 0, .slice none 0 0, .slice none 0 0] 31) = w4 at *
  generalize w3.heap.size = q at *
  with_reducible refine (rbegin_any w4 A c l s p er (Kd.C_below hr hb6) hc hE2).mono ?_
  rintro e w5 ⟨rfl, hb7⟩
  unfold begV
  rw [hP]
  have hG5 := keep hb7 hG4
  have hX5 := keep hb7 hX
  have hlent5 := hlent4.below hb7
  have hb8 := g_then hb6 hb7
  have hcG := block_cell hG5
  have hltG := block_lt hG5
  have hcX := block_cell hX5
  have hltX := block_lt hX5
  clear hlent4 hG4 hb6 hb7 hX
  go_wp2_with (fail)
  have hY := alloc_new w5 (.cells #[.int .i64 0, .int .i64 P, .int .i64 0, .int .i64 0, .slice none 0 0, .slice none 0 0] 31)
  have hG6 := alloc_old (y := (.cells #[.int .i64 0, .int .i64 P, .int .i64 0, .int .i64 0, .slice none 0 0, .slice none 0 0] 31)) hG5
  have hX6 := alloc_old (y := (.cells #[.int .i64 0, .int .i64 P, .int .i64 0, .int .i64 0, .slice none 0 0, .slice none 0 0] 31)) hX5
  have hb9 := g_al hb8 hb8.size (.cells #[.int .i64 0, .int .i64 P, .int .i64 0, .int .i64 0, .slice none 0 0, .slice none 0 0] 31)
  have hlent6 := hlent5.below ((Below.refl w5.heap.size w5).alloc (Nat.le_refl _) (.cells #[.int .i64 0, .int .i64 P, .int .i64 0, .int .i64 0, .slice none 0 0, .slice none 0 0] 31))
  clear hlent5 hG5 hb8 hcG hX5 hcX
  generalize w5.alloc (.cells #[.int .i64 0, .int .i64 P, .int .i64 0, .int .i64 0, .slice none 0 0, .slice none 0 0] 31) = w6 at *
  generalize w5.heap.size = q2 at *
  with_reducible refine (lives_any w6 (hU.below hb9)).mono ?_
  rintro e w7 ⟨rfl, hb10⟩
  have hG7 := keep hb10 hG6
  have hX7 := keep hb10 hX6
  have hY7 := keep hb10 hY
  have hlent7 := hlent6.below hb10
  have hb11 := g_then hb9 hb10
  have hcG := block_cell hG7
  have hcX := block_cell hX7
  have hcY := block_cell hY7
  clear hlent6 hG6 hb9 hb10 hX6 hY
  have hS := same_none w7 P
  go_wp2_with (fail)
  with_reducible refine hS.mono ?_
  rintro e w8 ⟨rfl, hb12⟩
  have hG8 := keep hb12 hG7
  have hlent8 := hlent7.below hb12
  have hb13 := g_then hb11 hb12
  replace hcG := block_cell hG8
  clear hS hlent7 hG7 hX7 hY7 hb11 hb12 hcX hcY
  have hK := keptCode_yes (l.map insOf) (by rw [List.length_map]; omega) _ (.slice (some ⟨g, 0, none⟩) l.length cap) (.slice A l.length c) w8 (by rw [List.length_map]; exact hlent8) (hrow.below hb13)
  go_wp2_with (fail)
  with_reducible refine hK.mono ?_
  rintro e w9 ⟨rfl, hb14⟩
  have hb15 := g_then hb13 hb14
  clear hK hlent8 hG8 hb13 hb14 hcG
  go_wp2_with (fail)
  go_ret
  exact ⟨rfl, hb15⟩
end Go.Proofs.YthjlpcecfkboiaaDoor
