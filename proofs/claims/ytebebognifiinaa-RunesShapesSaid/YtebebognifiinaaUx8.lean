-- PRINTED by print.py (a twelfth state) out of the translation. Not trusted: Lean checks it.
import Derived.Test.YtebebognifiinaaUx0
import Derived.Test.YtebebognifiinaaUx4
namespace Go.Proofs.Ytebebognifiinaa.U
open Go.RowKit Go.Proofs.YtebebognifiinaaW.PrintWords Go.Proofs.YtebebognifiinaaW.PrintLast Go.Proofs.YtebebognifiinaaW.PrintMore
attribute [local go_sem] max2_int min2_int max_two min_two max_three min_three max_four min_four   -- for this text's walks alone
set_option linter.unusedVariables false
set_option linter.unusedSimpArgs false

/-! ### runes_set: function 47 -/

def runes_set.f (a0_0 : Int) (a0_1 : Int) : Option (Int × Int × Int × Int) := if 0 ≤ a0_0 ∧ a0_0 < 256 ∧ 0 ≤ a0_1 ∧ a0_1 < 256 then some (W (rngP a0_0.toNat (a0_1.toNat + 1)) 0, W (rngP a0_0.toNat (a0_1.toNat + 1)) 1, W (rngP a0_0.toNat (a0_1.toNat + 1)) 2, W (rngP a0_0.toNat (a0_1.toNat + 1)) 3) else none
set_option maxHeartbeats 8000000 in
set_option maxRecDepth 100000 in
theorem runes_set.calls (a0_0 : Int) (a0_1 : Int) (r1 : Int) (r2 : Int) (r3 : Int) (r4 : Int) (w : World) (h : runes_set.f a0_0 a0_1 = some (r1, r2, r3, r4)) :
    Calls Try.prog 47 #[.agg #[.int .i64 a0_0, .int .i64 a0_1]] w fun e w' => e = .returned (.agg #[.int .u64 r1, .int .u64 r2, .int .u64 r3, .int .u64 r4]) ∧ Below w.heap.size w w' := by
  unfold runes_set.f at h
  by_cases hs : 0 ≤ a0_0 ∧ a0_0 < 256 ∧ 0 ≤ a0_1 ∧ a0_1 < 256
  rotate_left 1
  · rw [if_neg hs] at h; cases h
  rw [if_pos hs] at h
  injection h with h
  injection h with e1 h
  injection h with e2 h
  injection h with e3 e4
  subst e1 e2 e3 e4
  obtain ⟨h0, h1, h2, h3⟩ := hs
  obtain ⟨x', rfl⟩ := Int.eq_ofNat_of_zero_le h0
  obtain ⟨y', rfl⟩ := Int.eq_ofNat_of_zero_le h2
  exact set_any x' y' (by omega) (by omega) w


/-! ### runes_Pattern: function 24 -/
def ndN (op : Int) : S96 := ⟨op, 0, ⟨#[]⟩, ⟨0, 0, 0, 0⟩⟩
def patIn : List S63 → Nat → List S96 → Option (List S96)
  | [], _, out => some out
  | x :: xs, j, out => (runes_set.f x.f0 x.f1).bind fun b => if out.length < 2199023255550 then patIn xs (j + 1) (if 0 < j then (out ++ [⟨5, 0, ⟨#[]⟩, ⟨b.1, b.2.1, b.2.2.1, b.2.2.2⟩⟩]) ++ [ndN 7] else out ++ [⟨5, 0, ⟨#[]⟩, ⟨b.1, b.2.1, b.2.2.1, b.2.2.2⟩⟩]) else none
def patOut : List (List S63) → Nat → List S96 → Option (List S96)
  | [], _, out => some out
  | s :: ss, i, out => (patIn s 0 out).bind fun o => if o.length < 2199023255550 then patOut ss (i + 1) (if 0 < i then o ++ [ndN 8] else o) else none
def nodE (x : S96) : List Value := [.int .i64 x.f0, .int .i64 x.f1, .string x.f2, .int .u64 x.f3.f0, .int .u64 x.f3.f1, .int .u64 x.f3.f2, .int .u64 x.f3.f3]
theorem owns_one (w : World) (base : Nat) (e : TypeId) (cs : Array Value) (size : Nat) (hs : cs.size = size) (hb : base ≤ w.heap.size) : (w.alloc (.cells cs e)).ownsRow base e size (.slice (some ⟨w.heap.size, 0, none⟩) 1 1) 1 cs.toList :=
  ⟨by simp [hs], .inr ⟨w.heap.size, 1, cs, rfl, hb, alloc_new w _, Nat.le_refl _, by decide, by simp [hs], by rw [List.take_of_length_le (by simp [hs])]⟩⟩
theorem cell_ltA {w : World} {p : Addr} {v : Value} (h : w.cell? p = some v) : p.block < w.heap.size := by
  by_cases hp : p.block < w.heap.size
  · exact hp
  · rw [World.cell?, Array.getElem?_eq_none (by omega)] at h; cases h
def runes_Pattern.f (k : Nat) (a0 : Int) (a1 : Int) : Option ((List (S96)) × Int) := (runes_Shapes.f k a0 a1).bind fun t => if t.2 = 0 then (if t.1.length = 0 then some ([ndN 2], 0) else (patOut t.1 0 []).bind fun o => some (o, 0)) else some ([], t.2)
set_option maxHeartbeats 8000000 in
set_option maxRecDepth 100000 in
theorem runes_Pattern.calls (k : Nat) (a0 : Int) (a1 : Int) (r1 : List (S96)) (r2 : Int) (w : World) (h : runes_Pattern.f k a0 a1 = some (r1, r2)) :
    Calls Try.prog 24 #[.int .i64 a0, .int .i64 a1] w fun e w' => ∃ v0_ : Value, e = .returned (.tuple #[v0_, .int .i64 r2]) ∧ Kd.R k96 96 w' w.heap.size (fun _ => True) v0_ r1 ∧ Below w.heap.size w w' := by
  obtain ⟨i0, hi, hz0, hz1, hz2⟩ := info_parts info96
  unfold runes_Pattern.f at h
  cases hS : runes_Shapes.f k a0 a1 with
  | none => rw [hS] at h; cases h
  | some t =>
  obtain ⟨sh, er⟩ := t
  rw [hS] at h
  simp only [Option.bind_some] at h
  have hcS := runes_Shapes.calls k a0 a1 sh er w hS
  go_enter Try.func24, Try.ntmps24
  by_cases c1 : er = 0
  rotate_left 1
  · rw [if_neg c1] at h
    injection h with h
    injection h with h1 h2
    subst h1 h2
    go_wp2_with (fail)
    with_reducible refine hcS.mono ?_
    rintro e w1 ⟨v1, rfl, hS1, hb1⟩
    go_wp2_with (fail)
    go_ret2
    exact ⟨_, rfl, Kd.R_nil _ _ _ _ _, hb1⟩
  subst c1
  rw [if_pos rfl] at h
  by_cases c2 : sh.length = 0
  · rw [if_pos c2] at h
    injection h with h
    injection h with h1 h2
    subst h1 h2
    go_wp2_with (fail)
    with_reducible refine hcS.mono ?_
    rintro e w1 ⟨v1, rfl, hS1, hb1⟩
    obtain ⟨A1, k1, rfl, hlk, hC1⟩ := Kd.S_reads hS1
    go_wp2_with (fail)
    go_ret2
    exact ⟨_, rfl, R_of_owns (enc := nodE) (fun _ => rfl) (fun _ _ _ _ => k96_mkM _ _ _ _) (owns_one w1 w.heap.size _ _ 7 rfl hb1.size) rfl, hb1.alloc hb1.size _⟩
  rw [if_neg c2] at h
  have c2b : ((sh.length : Int) == 0) = false := by rw [beq_eq_false_iff_ne]; omega
  cases hP : patOut sh 0 [] with
  | none => rw [hP] at h; cases h
  | some oR =>
  rw [hP] at h
  injection h with h
  injection h with h1 h2
  subst h1 h2
  go_wp2_with (fail)
  with_reducible refine hcS.mono ?_
  rintro e w1 ⟨v1, rfl, hS1, hb1⟩
  obtain ⟨A1, k1, rfl, hlk, hC1⟩ := Kd.S_reads hS1
  go_wp2_with (fail)
  try rw [c2b]
  go_loopw [8, 29] (fun out i wr => ∃ (j : Nat) (o : List S96), j ≤ sh.length ∧ i = .int .i64 j ∧ wr.ownsRow w1.heap.size 96 7 out o.length (o.flatMap nodE) ∧ patOut (sh.drop j) j o = some oR ∧ Below w1.heap.size w1 wr) (fun _ i _ => sh.length - (intOf i).toNat)
  case atStart => exact ⟨0, [], Nat.zero_le _, rfl, World.ownsRow_nil _ _ _ _, hP, Below.refl _ _⟩
  case round =>
    obtain ⟨j, o, hj, rfl, hown, hp, hB⟩ := hrel
    by_cases hlt : j < sh.length
    rotate_left 1
    · have hjl : j = sh.length := by omega
      subst hjl
      rw [List.drop_length] at hp
      have hoR : o = oR := Option.some.inj hp
      subst hoR
      go_wp2_with (fail)
      go_ret2
      exact ⟨_, rfl, Kd.R_lower (R_of_owns (enc := nodE) (fun _ => rfl) (fun _ _ _ _ => k96_mkM _ _ _ _) hown rfl) hb1.size, hb1.trans (hB.mono hb1.size)⟩
    rw [List.drop_eq_getElem_cons hlt] at hp
    simp only [patOut] at hp
    have hlong : sh.length ≤ 9223372036854775807 := hC1.2.1
    have hw1 : IntKind.i64.wrap ((j : Int) + 1) = (j : Int) + 1 := IntWalk.i64_in _ (by omega)
    have hrd : rd_L3 sh (j : Int) = sh[j] := by simp [rd_L3, hlt]
    obtain ⟨ad, A0, c0, e0, hx, hlc, hCj⟩ := at_L3 hC1 (j : Int) (by omega) (by omega)
    rw [hrd] at hx hlc hCj
    clear hrd
    subst e0
    generalize hrow : sh[j] = row at *
    clear hrow
    cases hI : patIn row 0 o with
    | none => rw [hI] at hp; cases hp
    | some o2 =>
    rw [hI] at hp
    simp only [Option.bind_some] at hp
    by_cases c3 : o2.length < 2199023255550
    rotate_left 1
    · rw [if_neg c3] at hp; cases hp
    rw [if_pos c3] at hp
    have hxr := (hB.cell (p := ad.add (j : Int).toNat) (cell_ltA hx)).trans hx
    simp only [Int.toNat_natCast] at hxr
    go_wp2_with (fail)
    go_loopw [8, 36] (fun out2 i2 wr2 => ∃ (q : Nat) (p : List S96), q ≤ row.length ∧ i2 = .int .i64 q ∧ wr2.ownsRow w1.heap.size 96 7 out2 p.length (p.flatMap nodE) ∧ patIn (row.drop q) q p = some o2 ∧ Below w1.heap.size w1 wr2) (fun _ i2 _ => row.length - (intOf i2).toNat)
    case atStart => exact ⟨0, o, Nat.zero_le _, rfl, hown, hI, hB⟩
    case round =>
      obtain ⟨q, p, hq, rfl, hown2, hI2, hB2⟩ := hrel
      by_cases hql : q < row.length
      · rw [List.drop_eq_getElem_cons hql] at hI2
        simp only [patIn] at hI2
        obtain ⟨ax, e1, g0, g1⟩ := at_T63 (Kd.C_below hCj hB2) (q : Int) (by omega) (by omega)
        have hrx : rd_T63 row (q : Int) = row[q] := by simp [rd_T63, hql]
        rw [hrx] at g0 g1
        clear hrx
        simp only [Int.toNat_natCast] at g0 g1
        subst e1
        have hlr : row.length ≤ 9223372036854775807 := hCj.2.1
        have hw2 : IntKind.i64.wrap ((q : Int) + 1) = (q : Int) + 1 := IntWalk.i64_in _ (by omega)
        cases hset : runes_set.f row[q].f0 row[q].f1 with
        | none => rw [hset] at hI2; cases hI2
        | some b =>
        rw [hset] at hI2
        simp only [Option.bind_some] at hI2
        by_cases c4 : p.length < 2199023255550
        rotate_left 1
        · rw [if_neg c4] at hI2; cases hI2
        rw [if_pos c4] at hI2
        obtain ⟨b0, b1, b2, b3⟩ := b
        have hcs := fun w => runes_set.calls row[q].f0 row[q].f1 b0 b1 b2 b3 w hset
        clear hset
        generalize row[q].f0 = y0 at *
        generalize row[q].f1 = y1 at *
        go_wp2_with (fail)
        with_reducible refine (hcs _).mono ?_
        rintro e w5 ⟨rfl, hb5⟩
        have hB5 : Below w1.heap.size w1 w5 := (hB2.alloc hB2.size _).trans (hb5.mono (by simp only [World.alloc, Array.size_push]; have := hB2.size; omega))
        have hown5 : w5.ownsRow w1.heap.size 96 7 u8 p.length (p.flatMap nodE) := own_below (own_below hown2 ((Below.refl _ _).alloc (Nat.le_refl _) _)) hb5
        have hown6 := fun x => own_below (w' := w5.alloc x) hown5 ((Below.refl _ _).alloc (Nat.le_refl _) _)
        go_wp2_with (at_builtin; refine wpList_append_row rfl _ _ 54 rfl w1.heap.size 96 i0 _ 7 64 Try.underlying54 hi hz0 hz1 hz2 rfl (by decide) _ p.length (p.flatMap nodE) rfl (hown6 _) _ 1 _ rfl (row_new _ _ _ 7 rfl) (by intro x hx; simp at hx; rcases hx with rfl | rfl | rfl | rfl | rfl | rfl | rfl <;> rfl) (by unfold maxLen; omega) (by omega) ?hbase ?_)
        case hbase => simp only [World.alloc, Array.size_push]; have := hB5.size; omega
        intro v7 w7 hown7 hg7 hb7
        have hB7 := (hB5.alloc hB5.size _).grown hg7 (by simp only [World.alloc, Array.size_push]; have := hB5.size; omega) (fun b e => (hown5.lt b e).1)
        by_cases hq0 : 0 < q
        · rw [if_pos hq0] at hI2
          have hown8 := fun x => own_below (w' := w7.alloc x) hown7 ((Below.refl _ _).alloc (Nat.le_refl _) _)
          go_wp2_with (at_builtin; refine wpList_append_row rfl _ _ 54 rfl w1.heap.size 96 i0 _ 7 64 Try.underlying54 hi hz0 hz1 hz2 rfl (by decide) _ (p.length + 1) _ rfl (hown8 _) _ 1 _ rfl (row_new _ _ _ 7 rfl) (by intro x hx; simp at hx; rcases hx with rfl | rfl | rfl | rfl | rfl | rfl | rfl <;> rfl) (by unfold maxLen; omega) (by omega) ?hbase ?_)
          case hbase => simp only [World.alloc, Array.size_push]; have := hB7.size; omega
          intro v9 w9 hown9 hg9 hb9
          have hB9 := (hB7.alloc hB7.size _).grown hg9 (by simp only [World.alloc, Array.size_push]; have := hB7.size; omega) (fun b e => (hown7.lt b e).1)
          go_wp2_with (fail)
          go_roundw
          case rel => exact ⟨q + 1, (p ++ [⟨5, 0, ⟨#[]⟩, ⟨b0, b1, b2, b3⟩⟩]) ++ [ndN 7], by omega, by go_num, (by have z : ((p ++ [(⟨5, 0, ⟨#[]⟩, ⟨b0, b1, b2, b3⟩⟩ : S96)]) ++ [ndN 7]).flatMap nodE = (p.flatMap nodE ++ nodE (⟨5, 0, ⟨#[]⟩, ⟨b0, b1, b2, b3⟩⟩ : S96)) ++ nodE (ndN 7) := (by simp [List.flatMap_append]); have z2 : ((p ++ [(⟨5, 0, ⟨#[]⟩, ⟨b0, b1, b2, b3⟩⟩ : S96)]) ++ [ndN 7]).length = p.length + 1 + 1 := (by simp); rw [z, z2]; simpa [nodE, ndN, List.append_assoc] using hown9), hI2, hB9⟩
          case measure => simp [intOf]; omega
        · rw [if_neg hq0] at hI2
          go_wp2_with (fail)
          go_roundw
          case rel => exact ⟨q + 1, p ++ [⟨5, 0, ⟨#[]⟩, ⟨b0, b1, b2, b3⟩⟩], by omega, by go_num, by rw [List.length_append, List.flatMap_append]; exact hown7, hI2, hB7⟩
          case measure => simp [intOf]; omega
      · have hql2 : q = row.length := by omega
        subst hql2
        rw [List.drop_length] at hI2
        have hpo : p = o2 := Option.some.inj hI2
        subst hpo
        by_cases hj0 : 0 < j
        · rw [if_pos hj0] at hp
          have hown3 := fun x => own_below (w' := wr.alloc x) hown2 ((Below.refl _ _).alloc (Nat.le_refl _) _)
          go_wp2_with (at_builtin; refine wpList_append_row rfl _ _ 54 rfl w1.heap.size 96 i0 _ 7 64 Try.underlying54 hi hz0 hz1 hz2 rfl (by decide) _ p.length (p.flatMap nodE) rfl (hown3 _) _ 1 _ rfl (row_new _ _ _ 7 rfl) (by intro x hx; simp at hx; rcases hx with rfl | rfl | rfl | rfl | rfl | rfl | rfl <;> rfl) (by unfold maxLen; omega) (by omega) ?hbase ?_)
          case hbase => simp only [World.alloc, Array.size_push]; have := hB2.size; omega
          intro v6 w6 hown6 hg6 hb6
          have hB6 := (hB2.alloc hB2.size _).grown hg6 (by simp only [World.alloc, Array.size_push]; have := hB2.size; omega) (fun b e => (hown2.lt b e).1)
          go_wp2_with (fail)
          go_roundw
          case rel => exact ⟨j + 1, p ++ [ndN 8], by omega, by go_num, by rw [List.length_append, List.flatMap_append]; exact hown6, hp, hB6⟩
          case measure => simp [intOf]; omega
        · rw [if_neg hj0] at hp
          go_wp2_with (fail)
          go_roundw
          case rel => exact ⟨j + 1, p, by omega, by go_num, hown2, hp, hB2⟩
          case measure => simp [intOf]; omega
theorem runes_Pattern.mono : ∀ (a0 : Int) (a1 : Int) k, LeO (runes_Pattern.f k a0 a1) (runes_Pattern.f (k + 1) a0 a1) := by
  intro a0 a1 k
  unfold runes_Pattern.f
  exact LeO.bind (runes_Shapes.mono _ _ _) fun _ => LeO.refl _

-- NOT PRINTED: function 54 (harrowref01_With)

/-! ### harrowref01_FromTo: function 48 -/

def harrowref01_FromTo.f (a0 : Int) (a1 : Int) : Option (Int × Int × Int × Int) := if 0 ≤ a0 ∧ a0 < 256 ∧ 0 ≤ a1 ∧ a1 < 256 then some (W (rngP a0.toNat (a1.toNat + 1)) 0, W (rngP a0.toNat (a1.toNat + 1)) 1, W (rngP a0.toNat (a1.toNat + 1)) 2, W (rngP a0.toNat (a1.toNat + 1)) 3) else none
set_option maxHeartbeats 8000000 in
set_option maxRecDepth 100000 in
theorem harrowref01_FromTo.calls (a0 : Int) (a1 : Int) (r1 : Int) (r2 : Int) (r3 : Int) (r4 : Int) (w : World) (h : harrowref01_FromTo.f a0 a1 = some (r1, r2, r3, r4)) :
    Calls Try.prog 48 #[.int .i64 a0, .int .i64 a1] w fun e w' => e = .returned (.agg #[.int .u64 r1, .int .u64 r2, .int .u64 r3, .int .u64 r4]) ∧ Below w.heap.size w w' := by
  unfold harrowref01_FromTo.f at h
  by_cases hs : 0 ≤ a0 ∧ a0 < 256 ∧ 0 ≤ a1 ∧ a1 < 256
  rotate_left 1
  · rw [if_neg hs] at h; cases h
  rw [if_pos hs] at h
  injection h with h
  injection h with e1 h
  injection h with e2 h
  injection h with e3 e4
  subst e1 e2 e3 e4
  obtain ⟨h0, h1, h2, h3⟩ := hs
  obtain ⟨x', rfl⟩ := Int.eq_ofNat_of_zero_le h0
  obtain ⟨y', rfl⟩ := Int.eq_ofNat_of_zero_le h2
  exact fromto_any x' y' (by omega) (by omega) w


end Go.Proofs.Ytebebognifiinaa.U
