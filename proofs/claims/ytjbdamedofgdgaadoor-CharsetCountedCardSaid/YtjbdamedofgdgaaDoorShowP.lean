/-
  Plain facts on class texts: what an item, a member, a whole class text is read as; what a set is shown as; what is shown is read back. No program here.
-/
import Derived.Test.YtjbdamedofgdgaaDoorSpans
import Derived.Test.YtjbdamedofgdgaaDoorClassP
namespace Go.Proofs.YtjbdamedofgdgaaDoor
set_option linter.unusedVariables false
set_option linter.unusedSimpArgs false
/-- The byte at a place; -1: there is none. -/
def pk (s : ByteArray) (i : Nat) : Int := if h : i < s.size then (s[i].toNat : Int) else -1
theorem pk_in {s : ByteArray} {i : Nat} (h : i < s.size) : pk s i = (s[i].toNat : Int) := by simp [pk, h]
theorem pk_out {s : ByteArray} {i : Nat} (h : ¬ i < s.size) : pk s i = -1 := by simp [pk, h]
theorem pk_range (s : ByteArray) (i : Nat) : -1 ≤ pk s i ∧ pk s i < 256 := by
  unfold pk
  split
  · have := s[i].toNat_lt; omega
  · omega
theorem pk_lt {s : ByteArray} {i : Nat} (h : 0 ≤ pk s i) : i < s.size := by
  by_cases g : i < s.size
  · exact g
  · rw [pk_out g] at h; omega
/-- The worth of a digit; -1: it is none. -/
def hexd (c : Int) : Int := if 48 ≤ c ∧ c ≤ 57 then c - 48 else if 97 ≤ c ∧ c ≤ 102 then c - 87 else -1
theorem hexd_range (c : Int) : -1 ≤ hexd c ∧ hexd c < 16 := by
  unfold hexd; split
  · omega
  · split <;> omega
theorem hexd_none : hexd (-1) = -1 := by decide
/-- Does a byte stand behind a backslash in a class? -/
def spec (c : Int) : Bool := c == 92 || c == 93 || c == 91 || c == 94 || c == 45 || c == 37
/-- What an item behind a backslash is read as; the place behind it; whether it is one. -/
def escR (s : ByteArray) (i : Nat) : Int × Nat × Bool :=
  if pk s (i + 1) = 110 then (10, i + 2, true) else if pk s (i + 1) = 114 then (13, i + 2, true) else if pk s (i + 1) = 116 then (9, i + 2, true)
  else if spec (pk s (i + 1)) = true then (pk s (i + 1), i + 2, true)
  else if pk s (i + 1) = 120 ∧ i + 3 < s.size ∧ 0 ≤ hexd (pk s (i + 2)) ∧ 0 ≤ hexd (pk s (i + 3)) then (16 * hexd (pk s (i + 2)) + hexd (pk s (i + 3)), i + 4, true)
  else (0, i + 2, false)
/-- Bytes that begin no item. -/
def noItem (z : Int) : Bool := decide (z < 32) || decide (126 < z) || z == 93 || z == 45 || z == 37
/-- What an item is read as. -/
def itemR (s : ByteArray) (i : Nat) : Int × Nat × Bool :=
  if pk s i = 92 then escR s i else if noItem (pk s i) = true then (0, i, false) else (pk s i, i + 1, true)
theorem spec_cases {c : Int} (h : spec c = true) : c = 92 ∨ c = 93 ∨ c = 91 ∨ c = 94 ∨ c = 45 ∨ c = 37 := by
  simp only [spec, Bool.or_eq_true, beq_iff_eq] at h; omega
theorem escR_ok {s : ByteArray} {i : Nat} (h : (escR s i).2.2 = true) : 0 ≤ (escR s i).1 ∧ (escR s i).1 < 256 ∧ i < (escR s i).2.1 ∧ (escR s i).2.1 ≤ s.size := by
  unfold escR at h ⊢
  split
  · rename_i g; have := pk_lt (s := s) (i := i + 1) (by omega); simp; omega
  · split
    · rename_i g; have := pk_lt (s := s) (i := i + 1) (by omega); simp; omega
    · split
      · rename_i g; have := pk_lt (s := s) (i := i + 1) (by omega); simp; omega
      · split
        · rename_i g; have g2 := spec_cases g; have := pk_lt (s := s) (i := i + 1) (by omega); simp; omega
        · split
          · rename_i g
            have h1 := hexd_range (pk s (i + 2)); have h2 := hexd_range (pk s (i + 3))
            obtain ⟨_, g2, g3, g4⟩ := g
            simp; omega
          · rename_i g1 g2 g3 g4 g5; rw [if_neg g1, if_neg g2, if_neg g3, if_neg g4, if_neg g5] at h; cases h
theorem escR_no {s : ByteArray} {i : Nat} (h : (escR s i).2.2 = false) : (escR s i).1 = 0 ∧ (escR s i).2.1 = i + 2 := by
  unfold escR at h ⊢
  by_cases g1 : pk s (i + 1) = 110
  · rw [if_pos g1] at h; cases h
  · by_cases g2 : pk s (i + 1) = 114
    · rw [if_neg g1, if_pos g2] at h; cases h
    · by_cases g3 : pk s (i + 1) = 116
      · rw [if_neg g1, if_neg g2, if_pos g3] at h; cases h
      · by_cases g4 : spec (pk s (i + 1)) = true
        · rw [if_neg g1, if_neg g2, if_neg g3, if_pos g4] at h; cases h
        · rw [if_neg g1, if_neg g2, if_neg g3, if_neg g4] at h ⊢
          split at h
          · cases h
          · rename_i g5; rw [if_neg g5]; exact ⟨rfl, rfl⟩

theorem itemR_ok {s : ByteArray} {i : Nat} (h : (itemR s i).2.2 = true) : 0 ≤ (itemR s i).1 ∧ (itemR s i).1 < 256 ∧ i < (itemR s i).2.1 ∧ (itemR s i).2.1 ≤ s.size := by
  unfold itemR at h ⊢
  by_cases h1 : pk s i = 92
  · rw [if_pos h1] at h ⊢; exact escR_ok h
  · rw [if_neg h1] at h ⊢
    by_cases h2 : noItem (pk s i) = true
    · rw [if_pos h2] at h; cases h
    · rw [if_neg h2]
      simp only [noItem, Bool.or_eq_true, decide_eq_true_eq, not_or] at h2
      have := pk_range s i
      have := pk_lt (s := s) (i := i) (by omega)
      refine ⟨?_, ?_, ?_, ?_⟩ <;> simp only <;> omega
/-- What a member is read as: its bytes and the place behind it; or the place of what is wrong, and the error. -/
def memR (s : ByteArray) (i : Nat) : Except (Nat × Int) ((Nat → Bool) × Nat) :=
  if pk s i = 37 then
    if 0 ≤ pk s (i + 1) ∧ classE (pk s (i + 1)).toNat = 0 then .ok (classP (pk s (i + 1)).toNat, i + 2) else .error (i, 10)
  else if (itemR s i).2.2 = false then .error (i, 6)
  else if pk s (itemR s i).2.1 = 45 then
    if (itemR s ((itemR s i).2.1 + 1)).2.2 = false then .error ((itemR s i).2.1 + 1, 6)
    else if (itemR s ((itemR s i).2.1 + 1)).1 < (itemR s i).1 then .error (i, 1)
    else .ok (rngP (itemR s i).1.toNat ((itemR s ((itemR s i).2.1 + 1)).1.toNat + 1), (itemR s ((itemR s i).2.1 + 1)).2.1)
  else .ok (rngP (itemR s i).1.toNat ((itemR s i).1.toNat + 1), (itemR s i).2.1)
theorem memR_next {s : ByteArray} {i : Nat} {q : Nat → Bool} {n : Nat} (h : memR s i = .ok (q, n)) : i < n ∧ n ≤ s.size := by
  unfold memR at h
  by_cases h1 : pk s i = 37
  · rw [if_pos h1] at h
    split at h
    · rename_i g; cases h; have := pk_lt g.1; omega
    · cases h
  · rw [if_neg h1] at h
    by_cases h2 : (itemR s i).2.2 = false
    · rw [if_pos h2] at h; cases h
    · rw [if_neg h2] at h
      have k := itemR_ok (s := s) (i := i) (by simpa using h2)
      split at h
      · split at h
        · cases h
        · rename_i g
          have k2 := itemR_ok (s := s) (i := (itemR s i).2.1 + 1) (by simpa using g)
          split at h
          · cases h
          · cases h; omega
      · cases h; omega
/-- All members from a place on, put to what there is. -/
def rdAll (s : ByteArray) : Nat → Nat → (Nat → Bool) → Except (Nat × Int) ((Nat → Bool) × Nat)
  | 0, i, acc => .error (i, 6)
  | f + 1, i, acc => if pk s i = 93 then .ok (acc, i) else match memR s i with
    | .error e => .error e
    | .ok (q, n) => rdAll s f n (uni acc q)
def startP (z : Int) (i : Nat) : Nat := if z = 94 then i + 2 else i + 1
def turnP (z : Int) (q : Nat → Bool) : Nat → Bool := if z = 94 then neg q else q
/-- What is read of a class text from a place on. -/
def readR (s : ByteArray) (i : Nat) : Except (Nat × Int) ((Nat → Bool) × Nat) :=
  if pk s i = 91 then
    match rdAll s (s.size + 1) (startP (pk s (i + 1)) i) emp with
    | .error e => .error e
    | .ok (q, n) => .ok (turnP (pk s (i + 1)) q, n + 1)
  else .error (i, 6)

/-! ### What is shown -/
def hexc (n : Nat) : UInt8 := if n < 10 then UInt8.ofNat (48 + n) else UInt8.ofNat (87 + n)
/-- A byte as a class text has it. -/
def itemL (b : Nat) : List UInt8 :=
  if b = 10 then [92, 110] else if b = 13 then [92, 114] else if b = 9 then [92, 116] else if spec b = true then [92, UInt8.ofNat b]
  else if 32 ≤ b ∧ b ≤ 126 then [UInt8.ofNat b] else [92, 120, hexc (b / 16), hexc (b % 16)]
def spanL (x : Int × Int) : List UInt8 := itemL x.1.toNat ++ (if x.1 + 1 < x.2 then [45] else []) ++ (if x.1 < x.2 then itemL x.2.toNat else [])
def showL (l : Sps) : List UInt8 := l.flatMap spanL
theorem itemL_len (b : Nat) : 1 ≤ (itemL b).length ∧ (itemL b).length ≤ 4 := by
  unfold itemL
  split
  · decide
  · split
    · decide
    · split
      · decide
      · split
        · simp
        · split <;> simp
theorem itemL_head : ∀ b, b < 256 → (itemL b).head? ≠ some 45 ∧ (itemL b).head? ≠ some 93 ∧ (itemL b).head? ≠ some 37 ∧ (itemL b).head? ≠ some 94 := by decide +kernel
/-- The text from a place on begins with these bytes. -/
def here (s : ByteArray) (i : Nat) (l : List UInt8) : Prop := ∀ j (h : j < l.length), pk s (i + j) = (l[j].toNat : Int)
theorem here_append {s : ByteArray} {i : Nat} {l m : List UInt8} : here s i (l ++ m) ↔ here s i l ∧ here s (i + l.length) m := by
  constructor
  · intro h
    refine ⟨fun j hj => ?_, fun j hj => ?_⟩
    · have := h j (by simp; omega); rwa [List.getElem_append_left hj] at this
    · have := h (l.length + j) (by simp; omega)
      rw [List.getElem_append_right (by omega)] at this
      simpa [Nat.add_assoc, show l.length + j - l.length = j by omega] using this
  · rintro ⟨h1, h2⟩ j hj
    by_cases g : j < l.length
    · rw [List.getElem_append_left g]; exact h1 j g
    · rw [List.getElem_append_right (by omega)]
      have := h2 (j - l.length) (by simp at hj; omega)
      rwa [show i + l.length + (j - l.length) = i + j by omega] at this
theorem here_cons {s : ByteArray} {i : Nat} {c : UInt8} {l : List UInt8} : here s i (c :: l) ↔ pk s i = (c.toNat : Int) ∧ here s (i + 1) l := by
  rw [show c :: l = [c] ++ l from rfl, here_append]
  constructor
  · rintro ⟨h, k⟩; exact ⟨h 0 (by simp), k⟩
  · rintro ⟨h, k⟩; exact ⟨fun j hj => by simp at hj; subst hj; exact h, k⟩
theorem hexc_hexd : ∀ n, n < 16 → hexd ((hexc n).toNat : Int) = (n : Int) := by decide +kernel
theorem item_back {s : ByteArray} {i b : Nat} (hb : b < 256) (h : here s i (itemL b)) : itemR s i = ((b : Int), i + (itemL b).length, true) := by
  have hu : ∀ n, n < 256 → ((UInt8.ofNat n).toNat : Int) = (n : Int) := fun n hn => by
    rw [show (UInt8.ofNat n).toNat = n % 256 from rfl, Nat.mod_eq_of_lt hn]
  unfold itemL at h ⊢
  by_cases h1 : b = 10
  · rw [if_pos h1] at h ⊢; rw [here_cons, here_cons] at h
    have a1 : pk s i = 92 := h.1
    have a2 : pk s (i + 1) = 110 := h.2.1
    simp only [itemR, escR, a1, a2, if_true, h1, List.length_cons, List.length_nil]; rfl
  · rw [if_neg h1] at h ⊢
    by_cases h2 : b = 13
    · rw [if_pos h2] at h ⊢; rw [here_cons, here_cons] at h
      have a1 : pk s i = 92 := h.1
      have a2 : pk s (i + 1) = 114 := h.2.1
      simp [itemR, escR, a1, a2, h2]
    · rw [if_neg h2] at h ⊢
      by_cases h3 : b = 9
      · rw [if_pos h3] at h ⊢; rw [here_cons, here_cons] at h
        have a1 : pk s i = 92 := h.1
        have a2 : pk s (i + 1) = 116 := h.2.1
        simp [itemR, escR, a1, a2, h3]
      · rw [if_neg h3] at h ⊢
        by_cases h4 : spec (b : Int) = true
        · rw [if_pos h4] at h ⊢; rw [here_cons, here_cons] at h
          have a1 : pk s i = 92 := h.1
          have a2 : pk s (i + 1) = (b : Int) := h.2.1.trans (hu b hb)
          have c := spec_cases h4
          have n1 : ¬ (b : Int) = 110 := by omega
          have n2 : ¬ (b : Int) = 114 := by omega
          have n3 : ¬ (b : Int) = 116 := by omega
          simp only [itemR, escR, a1, a2, if_true, if_neg n1, if_neg n2, if_neg n3, h4, List.length_cons, List.length_nil]
        · rw [if_neg h4] at h ⊢
          by_cases h5 : 32 ≤ b ∧ b ≤ 126
          · rw [if_pos h5] at h ⊢; rw [here_cons] at h
            have a1 : pk s i = (b : Int) := h.1.trans (hu b hb)
            simp only [spec, Bool.or_eq_true, beq_iff_eq, not_or] at h4
            have n1 : ¬ (b : Int) = 92 := by omega
            have n2 : ¬ noItem (b : Int) = true := by
              simp only [noItem, Bool.or_eq_true, decide_eq_true_eq, beq_iff_eq, not_or]; omega
            simp only [itemR, a1, if_neg n1, if_neg n2, List.length_cons, List.length_nil]
          · rw [if_neg h5] at h ⊢; rw [here_cons, here_cons, here_cons, here_cons] at h
            have a1 : pk s i = 92 := h.1
            have a2 : pk s (i + 1) = 120 := h.2.1
            have a3 : pk s (i + 2) = _ := h.2.2.1
            have a4 : pk s (i + 3) = _ := h.2.2.2.1
            have b1 := hexc_hexd (b / 16) (by omega)
            have b2 := hexc_hexd (b % 16) (by omega)
            have hl : i + 3 < s.size := pk_lt (by rw [a4]; omega)
            have c1 : hexd (pk s (i + 2)) = ((b / 16 : Nat) : Int) := by rw [a3]; exact b1
            have c2 : hexd (pk s (i + 3)) = ((b % 16 : Nat) : Int) := by rw [a4]; exact b2
            have n0 : spec 120 = false := by decide
            simp only [itemR, escR, a1, a2, if_true, n0, c1, c2, hl, List.length_cons, List.length_nil]
            rw [if_neg (by omega), if_neg (by omega), if_neg (by omega), if_neg (by simp), if_pos ⟨trivial, trivial, by omega, by omega⟩]
            refine Prod.ext ?_ rfl
            show 16 * ((b / 16 : Nat) : Int) + ((b % 16 : Nat) : Int) = (b : Int)
            omega
theorem item_head {s : ByteArray} {i b : Nat} (hb : b < 256) (h : here s i (itemL b)) : pk s i ≠ 45 ∧ pk s i ≠ 93 ∧ pk s i ≠ 37 ∧ pk s i ≠ 94 := by
  have h1 := itemL_head b hb
  have h2 := (itemL_len b).1
  cases hl : itemL b with
  | nil => rw [hl] at h2; simp at h2
  | cons c l =>
    rw [hl, here_cons] at h
    rw [hl] at h1
    simp only [List.head?_cons, ne_eq, Option.some.injEq] at h1
    have hc : ∀ d : UInt8, (c.toNat : Int) = (d.toNat : Int) → c = d := fun d e => UInt8.toNat_inj.1 (by omega)
    rw [h.1]
    exact ⟨fun e => h1.1 (hc 45 e), fun e => h1.2.1 (hc 93 e), fun e => h1.2.2.1 (hc 37 e), fun e => h1.2.2.2 (hc 94 e)⟩
/-- Spans of bytes, each whole. -/
def okSp (x : Int × Int) : Prop := 0 ≤ x.1 ∧ x.1 ≤ x.2 ∧ x.2 < 256
def inSps (l : Sps) (i : Nat) : Bool := l.any fun x => decide (x.1 ≤ (i : Int)) && decide ((i : Int) ≤ x.2)
theorem mem_one {s : ByteArray} {i b : Nat} (hb : b < 256) (h : here s i (itemL b)) (hn : pk s (i + (itemL b).length) ≠ 45) : memR s i = .ok (rngP b (b + 1), i + (itemL b).length) := by
  have h1 := item_back hb h
  have h2 := item_head hb h
  unfold memR
  rw [if_neg h2.2.2.1, h1, if_neg (by simp), if_neg hn]
  simp
theorem mem_two {s : ByteArray} {i b c : Nat} (hb : b < 256) (hc : c < 256) (hbc : b ≤ c) (h : here s i (itemL b ++ [45] ++ itemL c)) : memR s i = .ok (rngP b (c + 1), i + (itemL b ++ [45] ++ itemL c).length) := by
  rw [here_append, here_append, here_cons] at h
  have h1 := item_back hb h.1.1
  have h2 := item_head hb h.1.1
  have h3 := item_back hc h.2
  unfold memR
  have e : i + (itemL b ++ [45]).length = i + (itemL b).length + 1 := by simp; omega
  rw [e] at h3
  have h4 : pk s (i + (itemL b).length) = 45 := h.1.2.1
  rw [if_neg h2.2.2.1, h1, if_neg (by simp), if_pos h4, h3, if_neg (by simp), if_neg (by simp only; omega)]
  simp only [Int.toNat_natCast]
  congr 2
  simp; omega
theorem rngP_at (lo k i : Nat) : rngP lo k i = (decide (lo ≤ i) && decide (i < k)) := rfl
theorem showL_cons (x : Int × Int) (l : Sps) : showL (x :: l) = spanL x ++ showL l := rfl
/-- The first byte behind an item is no sign of a span. -/
theorem after_head {s : ByteArray} {l : Sps} {i : Nat} (hl : ∀ x ∈ l, okSp x) (h : here s i (showL l ++ [93])) : pk s i ≠ 45 ∧ (pk s i = 93 ↔ l = []) ∧ pk s i ≠ 94 := by
  cases l with
  | nil =>
    have : pk s i = 93 := by have := h 0 (by simp [showL]); simpa [showL] using this
    rw [this]; decide
  | cons x l =>
    have hx := hl x (by simp)
    rw [showL_cons, spanL, here_append, here_append, here_append, here_append] at h
    have := item_head (b := x.1.toNat) (by have := hx.1; have := hx.2.1; have := hx.2.2; omega) h.1.1.1.1
    exact ⟨this.1, ⟨fun e => absurd e this.2.1, fun e => by cases e⟩, this.2.2.2⟩
theorem read_spans {s : ByteArray} : ∀ (l : Sps) (i f : Nat) (acc : Nat → Bool), (∀ x ∈ l, okSp x) → here s i (showL l ++ [93]) → s.size < f + i →
    ∃ q, rdAll s f i acc = .ok (q, i + (showL l).length) ∧ ∀ k, q k = (acc k || inSps l k) := by
  intro l
  induction l with
  | nil =>
    intro i f acc _ h hf
    have hp : pk s i = 93 := by have := h 0 (by simp [showL]); simpa [showL] using this
    have := pk_lt (s := s) (i := i) (by omega)
    obtain ⟨f, rfl⟩ : ∃ g, f = g + 1 := ⟨f - 1, by omega⟩
    exact ⟨acc, by rw [rdAll, if_pos hp]; rfl, fun k => by simp [inSps]⟩
  | cons x l ih =>
    intro i f acc hl h hf
    have hx := hl x (by simp)
    have hl' : ∀ y ∈ l, okSp y := fun y hy => hl y (by simp [hy])
    obtain ⟨a, ha⟩ : ∃ a : Nat, x.1 = (a : Int) := ⟨x.1.toNat, by have := hx.1; omega⟩
    obtain ⟨b, hb⟩ : ∃ b : Nat, x.2 = (b : Int) := ⟨x.2.toNat, by have := hx.1; have := hx.2.1; omega⟩
    have ha2 : a < 256 := by have := hx.2.1; have := hx.2.2; omega
    have hb2 : b < 256 := by have := hx.2.2; omega
    have hab : a ≤ b := by have := hx.2.1; omega
    have hnot : ∀ {j : Nat} {m : List UInt8}, here s i (itemL a ++ m) → pk s i ≠ 93 := fun hh => (item_head ha2 (here_append.1 hh).1).2.1
    rw [showL_cons, List.append_assoc, here_append] at h
    obtain ⟨h1, h2⟩ := h
    have hafter := after_head hl' h2
    have hin : ∀ k, inSps (x :: l) k = ((decide (a ≤ k) && decide (k < b + 1)) || inSps l k) := fun k => by
      simp only [inSps, List.any_cons, ha, hb]
      congr 1
      congr 1 <;> exact decide_eq_decide.2 (by omega)
    rw [showL_cons]
    simp only [spanL, ha, hb, Int.toNat_natCast] at h1 h2 hafter ⊢
    by_cases c1 : a + 1 < b
    · have e1 : ((a : Int) + 1 < (b : Int)) := by omega
      have e2 : ((a : Int) < (b : Int)) := by omega
      rw [if_pos e1, if_pos e2] at h1 h2 hafter ⊢
      have hm := mem_two ha2 hb2 hab h1
      have hne := hnot (j := 0) (by rw [List.append_assoc] at h1; exact h1)
      have hn := memR_next hm
      obtain ⟨f, rfl⟩ : ∃ g, f = g + 1 := ⟨f - 1, by omega⟩
      obtain ⟨q, hq, hq2⟩ := ih (i + (itemL a ++ [45] ++ itemL b).length) f (uni acc (rngP a (b + 1))) hl' h2 (by omega)
      refine ⟨q, by rw [rdAll, if_neg hne, hm]; simp only; rw [hq]; simp only [List.length_append]; congr 2; omega, fun k => ?_⟩
      rw [hq2, hin, uni, rngP_at, Bool.or_assoc]
    · rw [if_neg (by omega)] at h1 h2 hafter ⊢
      simp only [List.append_nil] at h1 h2 hafter ⊢
      by_cases c2 : a < b
      · have hb1 : b = a + 1 := by omega
        rw [if_pos (by omega)] at h1 h2 hafter ⊢
        rw [here_append] at h1
        have hm := mem_one ha2 h1.1 (item_head hb2 h1.2).1
        have hn := memR_next hm
        have hne := (item_head ha2 h1.1).2.1
        have hm2 := mem_one hb2 h1.2 (by have := hafter.1; rwa [List.length_append, ← Nat.add_assoc] at this)
        have hn2 := memR_next hm2
        have hne2 := (item_head hb2 h1.2).2.1
        obtain ⟨f, rfl⟩ : ∃ g, f = g + 2 := ⟨f - 2, by omega⟩
        obtain ⟨q, hq, hq2⟩ := ih (i + (itemL a ++ itemL b).length) f (uni (uni acc (rngP a (a + 1))) (rngP b (b + 1))) hl' h2 (by simp only [List.length_append]; omega)
        refine ⟨q, ?_, fun k => ?_⟩
        · rw [rdAll, if_neg hne, hm]; simp only; rw [rdAll, if_neg hne2, hm2]; simp only
          rw [show i + (itemL a).length + (itemL b).length = i + (itemL a ++ itemL b).length by simp; omega, hq]
          simp only [List.length_append]; congr 2; omega
        · rw [hq2, hin, uni, uni, rngP_at, rngP_at, Bool.or_assoc, Bool.or_assoc, ← Bool.or_assoc (decide (a ≤ k) && _)]
          congr 2
          rw [Bool.eq_iff_iff]; simp; omega
      · have hb1 : b = a := by omega
        rw [if_neg (by omega)] at h1 h2 hafter ⊢
        simp only [List.append_nil] at h1 h2 hafter ⊢
        have hm := mem_one ha2 h1 hafter.1
        have hn := memR_next hm
        have hne := (item_head ha2 h1).2.1
        obtain ⟨f, rfl⟩ : ∃ g, f = g + 1 := ⟨f - 1, by omega⟩
        obtain ⟨q, hq, hq2⟩ := ih (i + (itemL a).length) f (uni acc (rngP a (a + 1))) hl' h2 (by omega)
        refine ⟨q, by rw [rdAll, if_neg hne, hm]; simp only; rw [hq]; simp only [List.length_append]; congr 2; omega, fun k => ?_⟩
        rw [hq2, hin, uni, rngP_at, hb1, Bool.or_assoc]

/-- What a set is shown as. -/
def showS (p : Nat → Bool) : List UInt8 := if cnt p 256 = 256 then [91, 94, 93] else [91] ++ showL (spansOf (memI p 256)) ++ [93]
theorem inSps_append (l m : Sps) (i : Nat) : inSps (l ++ m) i = (inSps l i || inSps m i) := by simp [inSps]
theorem spans_cover (p : Nat → Bool) : ∀ k, k ≤ 256 → (∀ x ∈ spansOf (memI p k), okSp x) ∧ ∀ i, inSps (spansOf (memI p k)) i = (decide (i < k) && p i) := by
  intro k
  induction k with
  | zero => intro _; exact ⟨fun x hx => by simp [memI, mem_zero, spansOf] at hx, fun i => by simp [memI, mem_zero, spansOf, inSps]⟩
  | succ k ih =>
    intro hk
    obtain ⟨h1, h2⟩ := ih (by omega)
    cases hp : p k with
    | false =>
      rw [memI_no hp]
      refine ⟨h1, fun i => ?_⟩
      rw [h2]
      by_cases e : i = k
      · subst e; simp [hp]
      · congr 1; exact decide_eq_decide.2 (by omega)
    | true =>
      rw [memI_yes hp, spansOf_snoc]
      revert h1 h2
      generalize spansOf (memI p k) = l
      intro h1 h2
      have hset : ∀ i, (decide (i < k) && p i || decide (i = k)) = (decide (i < k + 1) && p i) := fun i => by
        by_cases e : i = k
        · subst e; simp [hp]
        · rw [decide_eq_false e, Bool.or_false]; congr 1; exact decide_eq_decide.2 (by omega)
      rcases List.eq_nil_or_concat l with rfl | ⟨l, x, rfl⟩
      · rw [spStep_nil]
        refine ⟨fun x hx => by simp at hx; subst hx; simp only [okSp]; omega, fun i => ?_⟩
        rw [← hset, ← h2]
        simp only [inSps, List.any_cons, List.any_nil, Bool.or_false, Bool.false_or]
        rw [Bool.eq_iff_iff]; simp; omega
      · simp only [List.concat_eq_append] at h1 h2 ⊢
        have hx := h1 x (by simp)
        by_cases hy : x.2 = (k : Int) - 1
        · rw [spStep_more hy]
          refine ⟨fun y hy2 => ?_, fun i => ?_⟩
          · simp only [List.mem_append, List.mem_singleton] at hy2
            rcases hy2 with hy2 | rfl
            · exact h1 y (by simp [hy2])
            · have := hx.1; have := hx.2.1; simp only [okSp]; omega
          · rw [← hset, ← h2, inSps_append, inSps_append, Bool.or_assoc]
            congr 1
            simp only [inSps, List.any_cons, List.any_nil, Bool.or_false]
            have := hx.2.1
            rw [Bool.eq_iff_iff]; simp; omega
        · rw [spStep_new hy]
          refine ⟨fun y hy2 => ?_, fun i => ?_⟩
          · simp only [List.mem_append, List.mem_singleton] at hy2
            rcases hy2 with hy2 | rfl
            · exact h1 y (by simpa using hy2)
            · simp only [okSp]; omega
          · rw [← hset, ← h2, inSps_append]
            congr 1
            simp only [inSps, List.any_cons, List.any_nil, Bool.or_false]
            rw [Bool.eq_iff_iff]; simp; omega
theorem pk_of_list {s : ByteArray} {l : List UInt8} (h : s.data.toList = l) (j : Nat) (hj : j < l.length) : pk s j = (l[j].toNat : Int) := by
  subst h
  have hs : j < s.size := by simpa using hj
  rw [pk_in hs]
  rfl
theorem here_of_list {s : ByteArray} {l : List UInt8} (h : s.data.toList = l) : here s 0 l := fun j hj => by rw [Nat.zero_add]; exact pk_of_list h j hj
theorem size_of_list' {s : ByteArray} {l : List UInt8} (h : s.data.toList = l) : s.size = l.length := by subst h; simp
/-- What is shown is read as what it was shown of. -/
theorem read_show {p : Nat → Bool} {s : ByteArray} (h : s.data.toList = showS p) : ∃ q, readR s 0 = .ok (q, s.size) ∧ ∀ i, i < 256 → q i = p i := by
  have hh := here_of_list h
  have hz := size_of_list' h
  unfold showS at hh hz
  by_cases hf : cnt p 256 = 256
  · rw [if_pos hf] at hh hz
    rw [here_cons, here_cons, here_cons] at hh
    have a0 : pk s 0 = 91 := hh.1
    have a1 : pk s (0 + 1) = 94 := hh.2.1
    have a2 : pk s 2 = 93 := hh.2.2.1
    have hz2 : s.size = 3 := hz
    refine ⟨neg emp, ?_, fun i hi => by rw [cnt_full hf i hi]; rfl⟩
    unfold readR
    rw [if_pos a0, show startP (pk s (0 + 1)) 0 = 2 from if_pos a1, hz2, rdAll, if_pos a2]
    simp only
    rw [show turnP (pk s (0 + 1)) emp = neg emp from if_pos a1]
  · rw [if_neg hf] at hh hz
    rw [List.append_assoc, here_append, here_cons] at hh
    have a0 : pk s 0 = 91 := hh.1.1
    have hc := spans_cover p 256 (Nat.le_refl _)
    have haf := after_head hc.1 hh.2
    have a1 : ¬ pk s (0 + 1) = 94 := haf.2.2
    obtain ⟨q, hq, hq2⟩ := read_spans (spansOf (memI p 256)) 1 (s.size + 1) emp hc.1 hh.2 (by omega)
    refine ⟨q, ?_, fun i hi => by rw [hq2, hc.2]; simp [emp, hi]⟩
    unfold readR
    rw [if_pos a0, show startP (pk s (0 + 1)) 0 = 1 from if_neg a1, hq]
    simp only
    rw [show turnP (pk s (0 + 1)) q = q from if_neg a1, hz]
    congr 2; simp; omega
theorem showL_len (l : Sps) : (showL l).length ≤ 9 * l.length := by
  induction l with
  | nil => simp [showL]
  | cons x l ih =>
    rw [showL_cons, List.length_append, List.length_cons]
    have h1 := (itemL_len x.1.toNat).2
    have h2 := (itemL_len x.2.toNat).2
    have : (spanL x).length ≤ 9 := by
      unfold spanL
      simp only [List.length_append]
      have a : (if x.1 + 1 < x.2 then ([45] : List UInt8) else []).length ≤ 1 := by split <;> simp
      have b : (if x.1 < x.2 then itemL x.2.toNat else []).length ≤ 4 := by split <;> simp [h2]
      omega
    omega
theorem showS_len (p : Nat → Bool) : (showS p).length ≤ 2306 := by
  unfold showS
  split
  · simp
  · have h1 := showL_len (spansOf (memI p 256))
    have h2 := spansOf_len (memI p 256)
    have h3 := mem_len_le p 256
    rw [memI_len] at h2
    simp; omega
theorem memR_bad {s : ByteArray} {i a : Nat} {c : Int} (hi : i ≤ s.size) (h : memR s i = .error (a, c)) : a ≤ s.size ∧ (c = 10 ∨ c = 6 ∨ c = 1) := by
  unfold memR at h
  split at h
  · split at h
    · cases h
    · cases h; exact ⟨hi, .inl rfl⟩
  · split at h
    · cases h; exact ⟨hi, .inr (.inl rfl)⟩
    · split at h
      · rename_i g
        split at h
        · cases h; have := pk_lt (s := s) (i := (itemR s i).2.1) (by omega); exact ⟨by omega, .inr (.inl rfl)⟩
        · split at h
          · cases h; exact ⟨hi, .inr (.inr rfl)⟩
          · cases h
      · cases h
theorem rdAll_bad {s : ByteArray} : ∀ (f i : Nat) (acc : Nat → Bool) (a : Nat) (c : Int), i ≤ s.size → rdAll s f i acc = .error (a, c) → a ≤ s.size ∧ (c = 10 ∨ c = 6 ∨ c = 1) := by
  intro f
  induction f with
  | zero => intro i acc a c hi h; rw [rdAll] at h; cases h; exact ⟨hi, .inr (.inl rfl)⟩
  | succ f ih =>
    intro i acc a c hi h
    rw [rdAll] at h
    split at h
    · cases h
    · cases hm : memR s i with
      | error e => rw [hm] at h; cases h; exact memR_bad hi hm
      | ok x => rw [hm] at h; exact ih x.2 _ a c (memR_next (q := x.1) (n := x.2) hm).2 h
theorem readR_bad {s : ByteArray} {i a : Nat} {c : Int} (hi : i ≤ s.size) (h : readR s i = .error (a, c)) : a ≤ s.size ∧ (c = 10 ∨ c = 6 ∨ c = 1) := by
  unfold readR at h
  by_cases h0 : pk s i = 91
  · have h1 := pk_lt (s := s) (i := i) (by omega)
    rw [if_pos h0] at h
    split at h
    · rename_i e he
      cases h
      refine rdAll_bad _ _ _ _ _ ?_ he
      unfold startP
      split
      · rename_i g; have := pk_lt (s := s) (i := i + 1) (by omega); omega
      · omega
    · cases h
  · rw [if_neg h0] at h; cases h; exact ⟨hi, .inr (.inl rfl)⟩
end Go.Proofs.YtjbdamedofgdgaaDoor
