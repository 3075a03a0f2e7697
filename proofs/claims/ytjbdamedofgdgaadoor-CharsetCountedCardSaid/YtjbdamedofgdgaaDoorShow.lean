/-
  charset.item and charset.Show: the class text of a set; what lay in memory stays as it was.
-/
import Derived.Test.YtjbdamedofgdgaaDoorShowP
import Derived.Test.YtjbdamedofgdgaaDoorBuilder
import Derived.Test.YtjbdamedofgdgaaDoorShelf
import Derived.Test.YtjbdamedofgdgaaDoorCounts
import Derived.Test.YtjbdamedofgdgaaDoorReader3
import Derived.Test.YtjbdamedofgdgaaDoorSame
import Derived.StillTailTactics
namespace Go.Proofs.YtjbdamedofgdgaaDoor
open Go.RowKit Go.Shelf
set_option linter.unusedVariables false
set_option linter.unusedSimpArgs false
theorem conv1 (c : Int) (w : World) : (convert 44 9 (.slice (some ⟨w.heap.size, 0, none⟩) 1 1)).run Tryd.prog (w.alloc (.cells #[.int .u8 c] 5)) = .ok (.string (strOfNums [c])) (w.alloc (.cells #[.int .u8 c] 5)) :=
  run_convert_bytes_arg _ _ _ Tryd.underlying44 Tryd.underlying5 w.heap.size 0 1 1 [c] rfl (fun i hi => by
    obtain rfl : i = 0 := by omega
    exact block_cell (alloc_new w _) 0) _ Tryd.underlying9
theorem conv2 (c d : Int) (w : World) : (convert 44 9 (.slice (some ⟨w.heap.size, 0, none⟩) 2 2)).run Tryd.prog (w.alloc (.cells #[.int .u8 c, .int .u8 d] 5)) = .ok (.string (strOfNums [c, d])) (w.alloc (.cells #[.int .u8 c, .int .u8 d] 5)) :=
  run_convert_bytes_arg _ _ _ Tryd.underlying44 Tryd.underlying5 w.heap.size 0 2 2 [c, d] rfl (fun i hi => by
    match i, hi with
    | 0, _ => exact block_cell (alloc_new w _) 0
    | 1, _ => exact block_cell (alloc_new w _) 1) _ Tryd.underlying9
theorem conv2d (c d : Int) (w : World) : (convert 44 9 (.slice (some ⟨w.heap.size, 0, none⟩) 2 2)).run Tryd.prog (w.alloc (.cells #[.int .u8 c, .int .u8 d] 5)).drew = .ok (.string (strOfNums [c, d])) (w.alloc (.cells #[.int .u8 c, .int .u8 d] 5)).drew :=
  run_convert_bytes_arg _ _ _ Tryd.underlying44 Tryd.underlying5 w.heap.size 0 2 2 [c, d] rfl (fun i hi => by
    match i, hi with
    | 0, _ => exact block_cell (alloc_new w _) 0
    | 1, _ => exact block_cell (alloc_new w _) 1) _ Tryd.underlying9
theorem hex_at : ∀ n, n < 16 → ∀ (h : n < (⟨#[48, 49, 50, 51, 52, 53, 54, 55, 56, 57, 97, 98, 99, 100, 101, 102]⟩ : ByteArray).size), (⟨#[48, 49, 50, 51, 52, 53, 54, 55, 56, 57, 97, 98, 99, 100, 101, 102]⟩ : ByteArray)[n] = hexc n := by decide +kernel

set_option maxHeartbeats 4000000 in
theorem item_10 (w : World) : Calls Tryd.prog 46 #[.int .i64 10] w fun e w' => e = .returned (.string ⟨([92, 110] : List UInt8).toArray⟩) ∧ Below w.heap.size w w' := by
  go_enter Tryd.func46, Tryd.ntmps46
  go_wp2
  go_ret
  exact ⟨rfl, Below.refl _ _⟩
set_option maxHeartbeats 4000000 in
theorem item_13 (w : World) : Calls Tryd.prog 46 #[.int .i64 13] w fun e w' => e = .returned (.string ⟨([92, 114] : List UInt8).toArray⟩) ∧ Below w.heap.size w w' := by
  go_enter Tryd.func46, Tryd.ntmps46
  go_wp2
  go_ret
  exact ⟨rfl, Below.refl _ _⟩
set_option maxHeartbeats 4000000 in
theorem item_9 (w : World) : Calls Tryd.prog 46 #[.int .i64 9] w fun e w' => e = .returned (.string ⟨([92, 116] : List UInt8).toArray⟩) ∧ Below w.heap.size w w' := by
  go_enter Tryd.func46, Tryd.ntmps46
  go_wp2
  go_ret
  exact ⟨rfl, Below.refl _ _⟩
set_option maxHeartbeats 4000000 in
theorem item_spec (b : Nat) (hb : b < 256) (h : spec (b : Int) = true) (h1 : ¬ (b : Int) = 10) (h2 : ¬ (b : Int) = 13) (h3 : ¬ (b : Int) = 9) (w : World) :
    Calls Tryd.prog 46 #[.int .i64 (b : Int)] w fun e w' => e = .returned (.string ⟨([92, UInt8.ofNat b] : List UInt8).toArray⟩) ∧ Below w.heap.size w w' := by
  have e1 : ((b : Int) == 10) = false := by simpa using h1
  have e2 : ((b : Int) == 13) = false := by simpa using h2
  have e3 : ((b : Int) == 9) = false := by simpa using h3
  have HS := hid h
  have hw : IntKind.u8.wrap (b : Int) = (b : Int) := by rw [IntKind.wrap_u8]; omega
  have hk := conv1 (b : Int) w
  clear h h1 h2 h3
  go_enter Tryd.func46, Tryd.ntmps46
  go_wp2
  all_goals first | (go_ret; exact ⟨rfl, (Below.refl _ _).alloc (Nat.le_refl _) _⟩) | (exfalso; have H := spec_cases HS.out; first | (simp_all; done) | (simp_all; omega))
set_option maxHeartbeats 4000000 in
theorem item_plain (b : Nat) (hb : b < 256) (h : spec (b : Int) = false) (h4 : 32 ≤ b ∧ b ≤ 126) (w : World) :
    Calls Tryd.prog 46 #[.int .i64 (b : Int)] w fun e w' => e = .returned (.string ⟨([UInt8.ofNat b] : List UInt8).toArray⟩) ∧ Below w.heap.size w w' := by
  simp only [spec, Bool.or_eq_false_iff] at h
  obtain ⟨⟨⟨⟨⟨s1, s2⟩, s3⟩, s4⟩, s5⟩, s6⟩ := h
  have e1 : ((b : Int) == 10) = false := by simp; omega
  have e2 : ((b : Int) == 13) = false := by simp; omega
  have e3 : ((b : Int) == 9) = false := by simp; omega
  have d1 : decide (32 ≤ (b : Int)) = true := decide_eq_true (by omega)
  have d2 : decide ((b : Int) ≤ 126) = true := decide_eq_true (by omega)
  have hw : IntKind.u8.wrap (b : Int) = (b : Int) := by rw [IntKind.wrap_u8]; omega
  have hk := conv1 (b : Int) w
  clear h4
  go_enter Tryd.func46, Tryd.ntmps46
  go_wp2
  go_ret
  exact ⟨rfl, (Below.refl _ _).alloc (Nat.le_refl _) _⟩
set_option maxHeartbeats 4000000 in
set_option maxRecDepth 100000 in
theorem item_hex_lo (b : Nat) (hb : b < 256) (h : spec (b : Int) = false) (h1 : ¬ b = 10) (h2 : ¬ b = 13) (h3 : ¬ b = 9) (h4 : b < 32) (w : World) :
    Calls Tryd.prog 46 #[.int .i64 (b : Int)] w fun e w' => e = .returned (.string ⟨([92, 120, hexc (b / 16), hexc (b % 16)] : List UInt8).toArray⟩) ∧ Below w.heap.size w w' := by
  simp only [spec, Bool.or_eq_false_iff] at h
  obtain ⟨⟨⟨⟨⟨s1, s2⟩, s3⟩, s4⟩, s5⟩, s6⟩ := h
  have e1 : ((b : Int) == 10) = false := by simp; omega
  have e2 : ((b : Int) == 13) = false := by simp; omega
  have e3 : ((b : Int) == 9) = false := by simp; omega
  have d1 : decide (32 ≤ (b : Int)) = false := decide_eq_false (by omega)
  obtain ⟨x, hx⟩ : ∃ x : Nat, x = b / 16 := ⟨_, rfl⟩
  obtain ⟨y, hy⟩ : ∃ y : Nat, y = b % 16 := ⟨_, rfl⟩
  rw [← hx, ← hy]
  have hx2 : x < 16 := by omega
  have hy2 : y < 16 := by omega
  have q1 : (b : Int).tdiv 16 = (x : Int) := by rw [Int.tdiv_eq_ediv_of_nonneg (by omega)]; omega
  have q2 : (b : Int).tmod 16 = (y : Int) := by rw [Int.tmod_eq_emod_of_nonneg (by omega)]; omega
  have q3 : (b : Int) / 16 = (x : Int) := by omega
  have q4 : (b : Int) % 16 = (y : Int) := by omega
  have hk := conv2d ((hexc x).toNat : Int) ((hexc y).toNat : Int) w
  have hix := hex_at x hx2
  have hiy := hex_at y hy2
  have w1 : IntKind.i64.wrap (x : Int) = (x : Int) := by rw [IntKind.wrap_i64]; omega
  have w2 : IntKind.i64.wrap (y : Int) = (y : Int) := by rw [IntKind.wrap_i64]; omega
  clear h1 h2 h3 h4 hx hy
  go_enter Tryd.func46, Tryd.ntmps46
  go_wp2
  go_region_with (fail)
  all_goals go_wp2
  all_goals go_ret
  all_goals exact ⟨by rw [show strOfNums [((hexc x).toNat : Int), ((hexc y).toNat : Int)] = ⟨#[hexc x, hexc y]⟩ from by simp [strOfNums]]; rfl, ((Below.refl _ _).alloc (Nat.le_refl _) _).drew⟩
set_option maxHeartbeats 4000000 in
set_option maxRecDepth 100000 in
theorem item_hex_hi (b : Nat) (hb : b < 256) (h : spec (b : Int) = false) (h1 : ¬ b = 10) (h2 : ¬ b = 13) (h3 : ¬ b = 9) (h4 : 126 < b) (w : World) :
    Calls Tryd.prog 46 #[.int .i64 (b : Int)] w fun e w' => e = .returned (.string ⟨([92, 120, hexc (b / 16), hexc (b % 16)] : List UInt8).toArray⟩) ∧ Below w.heap.size w w' := by
  simp only [spec, Bool.or_eq_false_iff] at h
  obtain ⟨⟨⟨⟨⟨s1, s2⟩, s3⟩, s4⟩, s5⟩, s6⟩ := h
  have e1 : ((b : Int) == 10) = false := by simp; omega
  have e2 : ((b : Int) == 13) = false := by simp; omega
  have e3 : ((b : Int) == 9) = false := by simp; omega
  have d1 : decide (32 ≤ (b : Int)) = true := decide_eq_true (by omega)
  have d2 : decide ((b : Int) ≤ 126) = false := decide_eq_false (by omega)
  obtain ⟨x, hx⟩ : ∃ x : Nat, x = b / 16 := ⟨_, rfl⟩
  obtain ⟨y, hy⟩ : ∃ y : Nat, y = b % 16 := ⟨_, rfl⟩
  rw [← hx, ← hy]
  have hx2 : x < 16 := by omega
  have hy2 : y < 16 := by omega
  have q1 : (b : Int).tdiv 16 = (x : Int) := by rw [Int.tdiv_eq_ediv_of_nonneg (by omega)]; omega
  have q2 : (b : Int).tmod 16 = (y : Int) := by rw [Int.tmod_eq_emod_of_nonneg (by omega)]; omega
  have q3 : (b : Int) / 16 = (x : Int) := by omega
  have q4 : (b : Int) % 16 = (y : Int) := by omega
  have hk := conv2d ((hexc x).toNat : Int) ((hexc y).toNat : Int) w
  have hix := hex_at x hx2
  have hiy := hex_at y hy2
  have w1 : IntKind.i64.wrap (x : Int) = (x : Int) := by rw [IntKind.wrap_i64]; omega
  have w2 : IntKind.i64.wrap (y : Int) = (y : Int) := by rw [IntKind.wrap_i64]; omega
  clear h1 h2 h3 h4 hx hy
  go_enter Tryd.func46, Tryd.ntmps46
  go_wp2
  go_region_with (fail)
  all_goals go_wp2
  all_goals go_ret
  all_goals exact ⟨by rw [show strOfNums [((hexc x).toNat : Int), ((hexc y).toNat : Int)] = ⟨#[hexc x, hexc y]⟩ from by simp [strOfNums]]; rfl, ((Below.refl _ _).alloc (Nat.le_refl _) _).drew⟩
theorem shown_any (b : Nat) (hb : b < 256) (w : World) :
    Calls Tryd.prog 46 #[.int .i64 (b : Int)] w fun e w' => e = .returned (.string ⟨(itemL b).toArray⟩) ∧ Below w.heap.size w w' := by
  unfold itemL
  by_cases h1 : b = 10
  · rw [if_pos h1]; subst h1; exact item_10 w
  · rw [if_neg h1]
    by_cases h2 : b = 13
    · rw [if_pos h2]; subst h2; exact item_13 w
    · rw [if_neg h2]
      by_cases h3 : b = 9
      · rw [if_pos h3]; subst h3; exact item_9 w
      · rw [if_neg h3]
        by_cases h4 : spec (b : Int) = true
        · rw [if_pos h4]; exact item_spec b hb h4 (by omega) (by omega) (by omega) w
        · rw [if_neg h4]
          have h4' : spec (b : Int) = false := by simpa using h4
          by_cases h5 : 32 ≤ b ∧ b ≤ 126
          · rw [if_pos h5]; exact item_plain b hb h4' h5 w
          · rw [if_neg h5]
            by_cases h6 : b < 32
            · exact item_hex_lo b hb h4' h1 h2 h3 h6 w
            · exact item_hex_hi b hb h4' h1 h2 h3 (by omega) w

theorem strCells_lit (l : List UInt8) : Lib.strCells ⟨l.toArray⟩ = Lib.byteCells l := by simp [Lib.strCells, Lib.byteCells]
theorem byteCells_app (l m : List UInt8) : Lib.byteCells (l ++ m) = Lib.byteCells l ++ Lib.byteCells m := by simp [Lib.byteCells]
theorem byteCells_len (l : List UInt8) : (Lib.byteCells l).length = l.length := by simp [Lib.byteCells]
/-- What lies when some spans have been shown: the builder (block B) holds acc, the row of the spans is as it was. -/
def ShSt (w0 : World) (B : Nat) (l : Sps) (v : Value) (acc : List UInt8) (w : World) : Prop :=
  Lib.IsBuilderF 66 5 B B (Lib.byteCells acc) w ∧ (∀ g o n c, v = .slice (some ⟨g, o, none⟩) n c → ∃ cur, w.heap[g]? = some (.cells cur 33) ∧ ∀ j, j < l.length * 2 → cur[o + j]? = (spCells l)[j]?) ∧ Below w0.heap.size w0 w ∧ w0.heap.size ≤ B ∧ B ≤ w.heap.size
theorem isB_below {B : Nat} {bs : List Value} {w w' : World} (h : Lib.IsBuilderF 66 5 B B bs w) (hb : Below w.heap.size w w') : Lib.IsBuilderF 66 5 B B bs w' := by
  have key : ∀ p, Lib.BuilderAtF 66 5 B B p bs w → Lib.BuilderAtF 66 5 B B p bs w' := by
    rintro p ⟨k1, u, k2, k3, k4⟩
    exact ⟨k1, u, keep hb k2, k3.kept (row := none) (grown_below hb) (by cases hu : u.ownBlock <;> simp), k4⟩
  exact h.imp (key _) (key _)
theorem ShSt.below {w0 w w' : World} {B : Nat} {l : Sps} {v : Value} {acc : List UInt8} (h : ShSt w0 B l v acc w) (hb : Below w.heap.size w w') : ShSt w0 B l v acc w' := by
  obtain ⟨h1, h2, h3, h4, h5⟩ := h
  refine ⟨isB_below h1 hb, fun g o n c e => ?_, h3.trans (hb.mono h3.size), h4, Nat.le_trans h5 hb.size⟩
  obtain ⟨cur, k1, k2⟩ := h2 g o n c e
  exact ⟨cur, keep hb k1, k2⟩
theorem ShSt.alloc {w0 w : World} {B : Nat} {l : Sps} {v : Value} {acc : List UInt8} (h : ShSt w0 B l v acc w) (o : Obj) : ShSt w0 B l v acc (w.alloc o) := h.below ((Below.refl _ _).alloc (Nat.le_refl _) _)
theorem ShSt.wrote {w0 w w' : World} {B : Nat} {l : Sps} {v : Value} {acc m : List UInt8} (h : ShSt w0 B l v acc w)
    (h1 : Lib.BuilderAtF 66 5 B B (.pointer (some ⟨B, 0, none⟩)) (Lib.byteCells acc ++ Lib.strCells ⟨m.toArray⟩) w') (hb : Below B w w') (hk : Lib.OthersKept 5 (some B) w w') : ShSt w0 B l v (acc ++ m) w' := by
  obtain ⟨k1, k2, k3, k4, k5⟩ := h
  refine ⟨.inr (by rw [byteCells_app, ← strCells_lit m]; exact h1), fun g o n c e => ?_, k3.trans (hb.mono k4), k4, Nat.le_trans k5 hb.size⟩
  obtain ⟨cur, j1, j2⟩ := k2 g o n c e
  by_cases hg : g = B
  · exfalso
    subst hg
    rcases k1 with ⟨_, u, hu, _⟩ | ⟨_, u, hu, _⟩
    · rw [hu] at j1; injection j1 with j1; injection j1 with _ j1; exact absurd j1 (by decide)
    · rw [hu] at j1; injection j1 with j1; injection j1 with _ j1; exact absurd j1 (by decide)
  · exact ⟨cur, hk g _ j1 (fun e => hg (Option.some.inj e)) (fun c fz e => by injection e with _ e; exact absurd e (by decide)), j2⟩
/-- A row that the call owns, as cells in a block. -/
theorem row_cells {w : World} {base n : Nat} {v : Value} {l : Sps} (h : w.ownsRow base 33 2 v n (spCells l)) (hl : l.length = n) : ∀ g o m c, v = .slice (some ⟨g, o, none⟩) m c → ∃ cur, w.heap[g]? = some (.cells cur 33) ∧ ∀ j, j < l.length * 2 → cur[o + j]? = (spCells l)[j]? := by
  rintro g o m c rfl
  rcases h.2 with ⟨e, -⟩ | ⟨g', cap, cur, e, hg, hh, h1, h2, h3, h4⟩
  · cases e
  · injection e with e
    injection e with e
    injection e with e1 e2
    subst e1
    subst e2
    refine ⟨cur, hh, fun j hj => ?_⟩
    rw [← h4, List.getElem?_take, if_pos (by omega), Nat.zero_add]
    simp

set_option maxHeartbeats 4000000 in
set_option maxRecDepth 100000 in
theorem show_full (p : Nat → Bool) (h : cnt p 256 = 256) (w : World) :
    Calls Tryd.prog 41 #[.agg #[.int .u64 (W p 0), .int .u64 (W p 1), .int .u64 (W p 2), .int .u64 (W p 3)]] w fun e w' => e = .returned (.string ⟨(showS p).toArray⟩) ∧ Below w.heap.size w w' := by
  have hs : showS p = [91, 94, 93] := if_pos h
  have hd : decide (cnt p 256 = 256) = true := decide_eq_true h
  rw [hs]
  clear hs h
  go_enter Tryd.func41, Tryd.ntmps41
  go_wp2_with (go_at_call 23; (with_reducible refine Calls.mono (full_any p _) ?_); rintro e w1 ⟨rfl, hb1⟩)
  go_ret
  exact ⟨rfl, ((Below.refl _ _).alloc (Nat.le_refl _) _).trans (hb1.mono (by simp))⟩
set_option maxHeartbeats 16000000 in
set_option maxRecDepth 100000 in
theorem show_part (p : Nat → Bool) (h : ¬ cnt p 256 = 256) (w : World) (hT : TabOk w) :
    Calls Tryd.prog 41 #[.agg #[.int .u64 (W p 0), .int .u64 (W p 1), .int .u64 (W p 2), .int .u64 (W p 3)]] w fun e w' => e = .returned (.string ⟨(showS p).toArray⟩) ∧ Below w.heap.size w w' := by
  have hs : showS p = [91] ++ showL (spansOf (memI p 256)) ++ [93] := if_neg h
  have hd : decide (cnt p 256 = 256) = false := decide_eq_false h
  have hln := showS_len p
  rw [hs] at hln ⊢
  have hcov := (spans_cover p 256 (Nat.le_refl _)).1
  have HSP := hid (fun w' h => spans_any p w' h)
  have x0 := alloc_new w (.cells #[.int .u64 (W p 0), .int .u64 (W p 1), .int .u64 (W p 2), .int .u64 (W p 3)] 24)
  have hB0 := (Below.refl w.heap.size w).alloc (Nat.le_refl _) (.cells #[.int .u64 (W p 0), .int .u64 (W p 1), .int .u64 (W p 2), .int .u64 (W p 3)] 24)
  have hw0 := hT.1
  have hT0 := hid hT
  have hnl : (spansOf (memI p 256)).length ≤ 256 := Nat.le_trans (spansOf_len _) (by rw [memI_len]; exact mem_len_le p 256)
  clear hs h hT
  revert HSP hcov hln hnl
  generalize spansOf (memI p 256) = l
  intro hln hcov HSP hnl
  go_enter Tryd.func41, Tryd.ntmps41
  go_wp2_with (first | (go_at_call 23; (with_reducible refine Calls.mono (full_any p _) ?_); rintro e w1 ⟨rfl, hb1⟩; have x1 := keep hb1 x0; have hB1 := hB0.trans (hb1.mono hB0.size); have hcx1 := block_cell x1))
  have hs1 := hB1.size
  have hI0 := (Lib.IsBuilderF.of (Lib.fresh_isBuilder 66 5 w1) : Lib.IsBuilderF 66 5 w1.heap.size w1.heap.size (Lib.byteCells []) _)
  go_wp2_with (go_at_call 45; refine (writeString_any w1.heap.size w1.heap.size _ ⟨#[91]⟩ _ hI0 (by decide) (by simp)).mono ?_)
  rintro e w2 ⟨rfl, hA2, hb2, hk2⟩
  have x2 := hk2 w.heap.size _ (alloc_old x1) (fun e => by have := block_lt x1; have := Option.some.inj e; omega) (fun c fz e => by injection e with _ e; exact absurd e (by decide))
  have hB2 : Below w.heap.size w w2 := (hB1.alloc hs1 _).trans (hb2.mono hs1)
  have hs2 := hB2.size
  have hT2 : TabOk w2 := hT0.out.below hB2 hw0
  have hcx2 := block_cell x2
  have hle2 : w1.heap.size ≤ w2.heap.size := Nat.le_trans (by simp) hb2.size
  go_wp2_with (go_at_call 10; refine (HSP.out _ hT2).mono ?_)
  rintro e w3 ⟨v, rfl, hrow, hb3⟩
  have hrc := row_cells hrow rfl
  obtain ⟨ao, cap, rfl⟩ : ∃ ao cap, v = .slice ao l.length cap := by
    rcases hrow.2 with ⟨rfl, h0⟩ | ⟨g, cap, _, rfl, _⟩
    · exact ⟨none, 0, by rw [h0]⟩
    · exact ⟨_, _, rfl⟩
  have hnil : 0 < l.length → ∃ g, ao = some ⟨g, 0, none⟩ := by
    intro h0
    rcases hrow.2 with ⟨_, e⟩ | ⟨g, cap', _, e, _⟩
    · omega
    · injection e with e; exact ⟨g, e⟩
  have hst : ShSt w w1.heap.size l (.slice ao l.length cap) [91] w3 := ⟨isB_below (.inr hA2) hb3, hrc, hB2.trans (hb3.mono hs2), hs1, Nat.le_trans hle2 hb3.size⟩
  go_wp2
  go_loopw [12] (fun i wr => ∃ k : Nat, k ≤ l.length ∧ i = .int .i64 k ∧ ShSt w w1.heap.size l (.slice ao l.length cap) ([91] ++ showL (l.take k)) wr) (fun i _ => l.length - (intOf i).toNat)
  case atStart => exact ⟨0, Nat.zero_le _, rfl, by simpa [showL] using hst⟩
  case round =>
    clear hst hrc hrow hA2 hk2 hI0 x2 x1 x0 hcx1 hcx2
    obtain ⟨k, hk, rfl, hst⟩ := hrel
    by_cases hlt : k < l.length
    · have hx := hcov l[k] (List.getElem_mem hlt)
      obtain ⟨g, rfl⟩ := hnil (by omega)
      obtain ⟨cur, hgc, hgj⟩ := hst.2.1 g 0 _ _ rfl
      obtain ⟨a1, a2⟩ := spCells_at hlt
      have c1 : wr.cell? ⟨g, k * 2, none⟩ = some (.int .i64 l[k].1) := (block_cell hgc _).trans ((by have h := hgj (k * 2) (by omega); rwa [Nat.zero_add] at h : cur[k * 2]? = (spCells l)[k * 2]?).trans a1)
      have c2 : wr.cell? ⟨g, k * 2 + 1, none⟩ = some (.int .i64 l[k].2) := (block_cell hgc _).trans ((by have h := hgj (k * 2 + 1) (by omega); rwa [Nat.zero_add] at h : cur[k * 2 + 1]? = (spCells l)[k * 2 + 1]?).trans a2)
      obtain ⟨x, hxx⟩ : ∃ x : Nat, l[k].1 = (x : Int) := ⟨l[k].1.toNat, by have := hx.1; omega⟩
      obtain ⟨y, hyy⟩ : ∃ y : Nat, l[k].2 = (y : Int) := ⟨l[k].2.toNat, by have := hx.1; have := hx.2.1; omega⟩
      have hxy : x ≤ y := by have := hx.2.1; omega
      have hy2 : y < 256 := by have := hx.2.2; omega
      have hsp : spanL l[k] = itemL x ++ (if x + 1 < y then [45] else []) ++ (if x < y then itemL y else []) := by
        unfold spanL
        rw [hxx, hyy]
        simp only [Int.toNat_natCast]
        congr 1
        · congr 1; by_cases e : x + 1 < y <;> simp [e] <;> omega
        · by_cases e : x < y <;> simp [e] <;> omega
      have htk : showL (l.take (k + 1)) = showL (l.take k) ++ spanL l[k] := by rw [List.take_succ_eq_append_getElem hlt, showL, List.flatMap_append]; simp [showL]
      have hll : ([91] ++ showL (l.take k)).length + (spanL l[k]).length ≤ 2306 := by
        have : showL l = showL (l.take (k + 1)) ++ showL (l.drop (k + 1)) := by simp only [showL, ← List.flatMap_append, List.take_append_drop]
        rw [this, htk] at hln
        simp only [List.length_append] at hln ⊢
        omega
      rw [hxx] at c1
      rw [hyy] at c2
      have HTK := hid htk
      rw [hsp] at hll
      have HSPN := hid hsp
      have w63 : IntKind.i64.wrap ((x : Int) + 1) = (x : Int) + 1 := by rw [IntKind.wrap_i64]; omega
      clear htk hsp hxx hyy hx hgj a1 a2 hcov HSP
      generalize hacc : [91] ++ showL (l.take k) = acc at *
      have ht5 := alloc_new wr (.cells #[.int .i64 (x : Int), .int .i64 (y : Int)] 33)
      have hst1 := hst.alloc (.cells #[.int .i64 (x : Int), .int .i64 (y : Int)] 33)
      have hBr := hst.2.2.2.2
      have hrl := hst.2.2.2.1
      have hbne : wr.heap.size ≠ w1.heap.size := by
        intro e
        have hi := hst.1
        rcases hi with hi | hi <;> (have := hi.lt; omega)
      skip
      go_wp2_with (fail)
      by_cases hc1 : x + 1 < y
      · rw [if_pos hc1, if_pos (by omega)] at hll
        have hd1 : decide ((x : Int) + 1 < (y : Int)) = true := decide_eq_true (by omega)
        have hd2 : decide ((x : Int) < (y : Int)) = true := decide_eq_true (by omega)
        have hd3 : decide (x < y) = true := decide_eq_true (by omega)
        have ht5' := ht5
        refine (shown_any x (by omega) _).mono ?_
        rintro e wi1 ⟨rfl, hbi1⟩
        have hst2 := hst1.below hbi1
        have ht6 := keep hbi1 ht5
        have hct6 := block_cell ht6
        go_wp2_with (fail)
        refine (writeString_any _ _ _ ⟨(itemL x).toArray⟩ _ hst2.1 (by rw [byteCells_len]; rw [(show (ByteArray.mk (itemL x).toArray).size = (itemL x).length from by simp [ByteArray.size])]; simp only [List.length_append, List.length_cons, List.length_nil] at hll ⊢; omega) hst2.2.2.2.2).mono ?_
        rintro e wi2 ⟨rfl, hA2, hbi2, hk2⟩
        have hst3 := hst2.wrote hA2 hbi2 hk2
        have ht7 := hk2 wr.heap.size _ ht6 (fun e => hbne (Option.some.inj e)) (fun c fz e => by injection e with _ e; exact absurd e (by decide))
        have hct7 := block_cell ht7
        go_wp2_with (fail)
        refine (writeString_any _ _ _ ⟨([45]).toArray⟩ _ hst3.1 (by rw [byteCells_len]; rw [(show (ByteArray.mk ([45] : List UInt8).toArray).size = ([45] : List UInt8).length from by simp [ByteArray.size])]; simp only [List.length_append, List.length_cons, List.length_nil] at hll ⊢; omega) hst3.2.2.2.2).mono ?_
        rintro e wi3 ⟨rfl, hA3, hbi3, hk3⟩
        have hst4 := hst3.wrote hA3 hbi3 hk3
        have ht8 := hk3 wr.heap.size _ ht7 (fun e => hbne (Option.some.inj e)) (fun c fz e => by injection e with _ e; exact absurd e (by decide))
        have hct8 := block_cell ht8
        go_wp2_with (fail)
        refine (shown_any y (by omega) _).mono ?_
        rintro e wi4 ⟨rfl, hbi4⟩
        have hst5 := hst4.below hbi4
        have ht9 := keep hbi4 ht8
        have hct9 := block_cell ht9
        go_wp2_with (fail)
        refine (writeString_any _ _ _ ⟨(itemL y).toArray⟩ _ hst5.1 (by rw [byteCells_len]; rw [(show (ByteArray.mk (itemL y).toArray).size = (itemL y).length from by simp [ByteArray.size])]; simp only [List.length_append, List.length_cons, List.length_nil] at hll ⊢; omega) hst5.2.2.2.2).mono ?_
        rintro e wi5 ⟨rfl, hA5, hbi5, hk5⟩
        have hst6 := hst5.wrote hA5 hbi5 hk5
        have ht10 := hk5 wr.heap.size _ ht9 (fun e => hbne (Option.some.inj e)) (fun c fz e => by injection e with _ e; exact absurd e (by decide))
        have hct10 := block_cell ht10
        go_wp2_with (fail)
        go_roundw
        case rel => exact ⟨k + 1, by omega, by go_num, by rw [HTK.out, HSPN.out, ← List.append_assoc, hacc, if_pos hc1, if_pos (show x < y by omega)]; simpa [List.append_assoc] using hst6⟩
        case measure => simp [intOf]; omega
      · by_cases hc2 : x < y
        · rw [if_neg hc1, if_pos hc2] at hll
          have hd1 : decide ((x : Int) + 1 < (y : Int)) = false := decide_eq_false (by omega)
          have hd2 : decide ((x : Int) < (y : Int)) = true := decide_eq_true (by omega)
          have hd3 : decide (x < y) = true := decide_eq_true (by omega)
          have ht5' := ht5
          refine (shown_any x (by omega) _).mono ?_
          rintro e wi1 ⟨rfl, hbi1⟩
          have hst2 := hst1.below hbi1
          have ht6 := keep hbi1 ht5
          have hct6 := block_cell ht6
          go_wp2_with (fail)
          refine (writeString_any _ _ _ ⟨(itemL x).toArray⟩ _ hst2.1 (by rw [byteCells_len]; rw [(show (ByteArray.mk (itemL x).toArray).size = (itemL x).length from by simp [ByteArray.size])]; simp only [List.length_append, List.length_cons, List.length_nil] at hll ⊢; omega) hst2.2.2.2.2).mono ?_
          rintro e wi2 ⟨rfl, hA2, hbi2, hk2⟩
          have hst3 := hst2.wrote hA2 hbi2 hk2
          have ht7 := hk2 wr.heap.size _ ht6 (fun e => hbne (Option.some.inj e)) (fun c fz e => by injection e with _ e; exact absurd e (by decide))
          have hct7 := block_cell ht7
          go_wp2_with (fail)
          refine (shown_any y (by omega) _).mono ?_
          rintro e wi3 ⟨rfl, hbi3⟩
          have hst4 := hst3.below hbi3
          have ht8 := keep hbi3 ht7
          have hct8 := block_cell ht8
          go_wp2_with (fail)
          refine (writeString_any _ _ _ ⟨(itemL y).toArray⟩ _ hst4.1 (by rw [byteCells_len]; rw [(show (ByteArray.mk (itemL y).toArray).size = (itemL y).length from by simp [ByteArray.size])]; simp only [List.length_append, List.length_cons, List.length_nil] at hll ⊢; omega) hst4.2.2.2.2).mono ?_
          rintro e wi4 ⟨rfl, hA4, hbi4, hk4⟩
          have hst5 := hst4.wrote hA4 hbi4 hk4
          have ht9 := hk4 wr.heap.size _ ht8 (fun e => hbne (Option.some.inj e)) (fun c fz e => by injection e with _ e; exact absurd e (by decide))
          have hct9 := block_cell ht9
          go_wp2_with (fail)
          go_roundw
          case rel => exact ⟨k + 1, by omega, by go_num, by rw [HTK.out, HSPN.out, ← List.append_assoc, hacc, if_neg hc1, if_pos hc2]; simpa [List.append_assoc] using hst5⟩
          case measure => simp [intOf]; omega
        · rw [if_neg hc1, if_neg hc2] at hll
          have hd1 : decide ((x : Int) + 1 < (y : Int)) = false := decide_eq_false (by omega)
          have hd2 : decide ((x : Int) < (y : Int)) = false := decide_eq_false (by omega)
          have hd3 : decide (x < y) = false := decide_eq_false (by omega)
          have ht5' := ht5
          refine (shown_any x (by omega) _).mono ?_
          rintro e wi1 ⟨rfl, hbi1⟩
          have hst2 := hst1.below hbi1
          have ht6 := keep hbi1 ht5
          have hct6 := block_cell ht6
          go_wp2_with (fail)
          refine (writeString_any _ _ _ ⟨(itemL x).toArray⟩ _ hst2.1 (by rw [byteCells_len]; rw [(show (ByteArray.mk (itemL x).toArray).size = (itemL x).length from by simp [ByteArray.size])]; simp only [List.length_append, List.length_cons, List.length_nil] at hll ⊢; omega) hst2.2.2.2.2).mono ?_
          rintro e wi2 ⟨rfl, hA2, hbi2, hk2⟩
          have hst3 := hst2.wrote hA2 hbi2 hk2
          have ht7 := hk2 wr.heap.size _ ht6 (fun e => hbne (Option.some.inj e)) (fun c fz e => by injection e with _ e; exact absurd e (by decide))
          have hct7 := block_cell ht7
          go_wp2_with (fail)
          go_roundw
          case rel => exact ⟨k + 1, by omega, by go_num, by rw [HTK.out, HSPN.out, ← List.append_assoc, hacc, if_neg hc1, if_neg hc2]; simpa [List.append_assoc] using hst3⟩
          case measure => simp [intOf]; omega
    · have hke : k = l.length := by omega
      subst hke
      rw [List.take_length] at hst
      have hrl := hst.2.2.2.1
      have hln2 : ([91] ++ showL l).length ≤ 2305 := by simp only [List.length_append, List.length_cons, List.length_nil] at hln ⊢; omega
      clear hcov HSP
      generalize hacc : [91] ++ showL l = acc at *
      go_wp2_with (fail)
      refine (writeString_any _ _ _ ⟨#[93]⟩ _ hst.1 (by rw [byteCells_len]; show _ + 1 ≤ _; omega) hst.2.2.2.2).mono ?_
      rintro e wa ⟨rfl, hA, hba, hka⟩
      have hsa := hst.wrote (m := [93]) hA hba hka
      go_wp2_with (fail)
      refine (Tryd.Builder_String_any_k _ _ (acc ++ [93]) _ hsa.1 hsa.2.2.2.2).mono ?_
      rintro e wb ⟨rfl, -, hbb, -⟩
      go_wp2_with (fail)
      go_ret
      exact ⟨by simp [← hacc], hsa.2.2.1.trans (hbb.mono hrl)⟩
theorem show_any (p : Nat → Bool) (w : World) (hT : TabOk w) :
    Calls Tryd.prog 41 #[.agg #[.int .u64 (W p 0), .int .u64 (W p 1), .int .u64 (W p 2), .int .u64 (W p 3)]] w fun e w' => e = .returned (.string ⟨(showS p).toArray⟩) ∧ Below w.heap.size w w' := by
  by_cases h : cnt p 256 = 256
  · exact show_full p h w
  · exact show_part p h w hT

end Go.Proofs.YtjbdamedofgdgaaDoor
