/-
  Rows of Cap: harrowbook's Same, Lend, Kept and Spoil of them.
-/
import Derived.Test.YtebebognifiinaaProg
import Derived.Test.YtebebognifiinaaReads
import Derived.WalkSpells
import Derived.WalkLawsBesides
import Derived.BigQuiet
import Derived.Deep.QuietTactic
namespace Go.Proofs.Ytebebognifiinaa
open Go.RowKit
set_option linter.unusedVariables false
set_option linter.unusedSimpArgs false
structure Cap where
  kind : Int
  frm : Int
  to : Int
  kids : Int
  n : Int
  text : ByteArray
def capsC (x : Cap) : List Value := [.int .i64 x.kind, .int .i64 x.frm, .int .i64 x.to, .int .i64 x.kids, .int .i64 x.n, .string x.text]
def capsCA (x : Cap) : Value := .agg #[.int .i64 x.kind, .int .i64 x.frm, .int .i64 x.to, .int .i64 x.kids, .int .i64 x.n, .string x.text]
theorem capsC_len (x : Cap) : (capsC x).length = 6 := rfl
theorem capsC_one (l : List Cap) : ∀ u ∈ l.flatMap capsC, u.oneCell' = true := by
  intro u hu
  simp only [List.mem_flatMap, capsC, List.mem_cons, List.not_mem_nil, or_false] at hu
  obtain ⟨x, -, h⟩ := hu
  rcases h with rfl | rfl | rfl | rfl | rfl | rfl <;> rfl
theorem info_caps : (Try.prog.info? 39).map (fun i => (i.zero, i.size, i.bytes)) = some (some (.agg #[.int .i64 0, .int .i64 0, .int .i64 0, .int .i64 0, .int .i64 0, .string { data := #[] }]), 6, 56) := by kernel_rfl
set_option maxHeartbeats 1000000 in
theorem eq_caps (x0 : Int) (x1 : Int) (x2 : Int) (x3 : Int) (x4 : Int) (x5 : ByteArray) (w : World) : Sem.run Try.prog (Op.equalIn 10000 39 (.agg #[.int .i64 x0, .int .i64 x1, .int .i64 x2, .int .i64 x3, .int .i64 x4, .string x5]) (.agg #[.int .i64 x0, .int .i64 x1, .int .i64 x2, .int .i64 x3, .int .i64 x4, .string x5])) w = .ok true w := by
  have h1 := Try.underlying3
  have h2 := Try.underlying9
  have hu := Try.underlying39
  have hp : Try.prog.stoodInHeld 39 = false := by kernel_rfl
  rw [show (10000 : Nat) = 9998 + 1 + 1 from rfl, run_equalIn_struct w _ _ _ _ (by rw [fieldsOf_of hu]; exact hu) hp, fieldsOf_of hu]
  simp only [Op.eqFields]
  simp [go_sem, run_equalIn_int, run_equalIn_string, h1, h2]

set_option maxRecDepth 100000 in
set_option maxHeartbeats 4000000 in
theorem sameCaps_yes (l : List Cap) (hl : l.length ≤ 4611686018427387904) (a b : Value) (w : World) (ha : RowIs w a 6 l.length (l.flatMap capsC)) (hb : RowIs w b 6 l.length (l.flatMap capsC)) :
    Calls Try.prog 10 #[a, b] w fun e w' => e = .returned (.bool true) ∧ Below w.heap.size w w' := by
  obtain ⟨-, ao, ac, rfl, ha⟩ := ha
  obtain ⟨-, bo, bc, rfl, hb⟩ := hb
  have heq := fun (x0 : Int) (x1 : Int) (x2 : Int) (x3 : Int) (x4 : Int) (x5 : ByteArray) w => eq_caps x0 x1 x2 x3 x4 x5 w
  go_enter Try.func10, Try.ntmps10
  go_wp2
  go_loopw [5] (fun i wr => ∃ k : Nat, k ≤ l.length ∧ i = .int .i64 k ∧ ∃ m, wr = w.drewN m) (fun i _ => l.length - (intOf i).toNat)
  case atStart => exact ⟨0, Nat.zero_le _, rfl, 0, rfl⟩
  case round =>
    obtain ⟨k, hk, rfl, m, rfl⟩ := hrel
    by_cases hlt : k < l.length
    · obtain ⟨ag, ao, rfl, hca⟩ := ha (by omega)
      obtain ⟨bg, bo, rfl, hcb⟩ := hb (by omega)
      have p0 : w.cell? ⟨ag, ao + k * 6, none⟩ = some (.int .i64 l[k].kind) := row_cell0 capsC_len hca hlt (by decide)
      have p1 : w.cell? ⟨ag, ao + k * 6 + 1, none⟩ = some (.int .i64 l[k].frm) := row_cell capsC_len hca hlt (j := 1) (by decide)
      have p2 : w.cell? ⟨ag, ao + k * 6 + 2, none⟩ = some (.int .i64 l[k].to) := row_cell capsC_len hca hlt (j := 2) (by decide)
      have p3 : w.cell? ⟨ag, ao + k * 6 + 3, none⟩ = some (.int .i64 l[k].kids) := row_cell capsC_len hca hlt (j := 3) (by decide)
      have p4 : w.cell? ⟨ag, ao + k * 6 + 4, none⟩ = some (.int .i64 l[k].n) := row_cell capsC_len hca hlt (j := 4) (by decide)
      have p5 : w.cell? ⟨ag, ao + k * 6 + 5, none⟩ = some (.string l[k].text) := row_cell capsC_len hca hlt (j := 5) (by decide)
      have q0 : w.cell? ⟨bg, bo + k * 6, none⟩ = some (.int .i64 l[k].kind) := row_cell0 capsC_len hcb hlt (by decide)
      have q1 : w.cell? ⟨bg, bo + k * 6 + 1, none⟩ = some (.int .i64 l[k].frm) := row_cell capsC_len hcb hlt (j := 1) (by decide)
      have q2 : w.cell? ⟨bg, bo + k * 6 + 2, none⟩ = some (.int .i64 l[k].to) := row_cell capsC_len hcb hlt (j := 2) (by decide)
      have q3 : w.cell? ⟨bg, bo + k * 6 + 3, none⟩ = some (.int .i64 l[k].kids) := row_cell capsC_len hcb hlt (j := 3) (by decide)
      have q4 : w.cell? ⟨bg, bo + k * 6 + 4, none⟩ = some (.int .i64 l[k].n) := row_cell capsC_len hcb hlt (j := 4) (by decide)
      have q5 : w.cell? ⟨bg, bo + k * 6 + 5, none⟩ = some (.string l[k].text) := row_cell capsC_len hcb hlt (j := 5) (by decide)
      clear hca hcb ha hb
      generalize l[k].kind = x0 at *
      generalize l[k].frm = x1 at *
      generalize l[k].to = x2 at *
      generalize l[k].kids = x3 at *
      generalize l[k].n = x4 at *
      generalize l[k].text = x5 at *
      have hw1 : IntKind.i64.wrap ((k : Int) + 1) = (k : Int) + 1 := IntWalk.i64_in _ (by omega)
      go_wp2
      go_quiet (fail)
      go_wp2
      go_roundw
      case rel => exact ⟨k + 1, by omega, by go_num, _, rfl⟩
      case measure => simp [intOf]; omega
    · have hk2 : k = l.length := by omega
      subst hk2
      go_wp2
      go_ret
      exact ⟨rfl, below_drewN (Below.refl _ _) _⟩

def markCaps : List Value := [.int .i64 (-77), .int .i64 0, .int .i64 0, .int .i64 0, .int .i64 0, .string { data := #[] }]


set_option maxRecDepth 100000 in
set_option maxHeartbeats 4000000 in
theorem spoilCaps_any (n : Nat) (hn : (n + 1) * 56 ≤ 140737488355328) (base : Nat) (v : Value) (xs : List Value) (m : Int) (w : World) (hv : w.ownsRow base 39 6 v n xs) (hbase : base ≤ w.heap.size) :
    Calls Try.prog 11 #[v, .int .i64 m] w fun e w' => e = .returned (.tuple #[]) ∧ w.grownBy w' v.ownBlock := by
  obtain ⟨i0, hi, hz0, hz1, hz2⟩ := info_parts info_caps
  obtain ⟨ao, cap, rfl⟩ := (RowIs.of_owns hv).form
  go_enter Try.func11, Try.ntmps11
  go_wp2
  go_loopw [4] (fun i wr => ∃ (k : Nat) (ys : List Value), k ≤ n ∧ i = .int .i64 k ∧ wr.ownsRow base 39 6 (.slice ao n cap) n ys ∧ w.grownBy wr (Value.slice ao n cap).ownBlock) (fun i _ => n - (intOf i).toNat)
  case atStart => exact ⟨0, xs, Nat.zero_le _, rfl, hv, grown_refl _ _⟩
  case round =>
    obtain ⟨k, ys, hk, rfl, hown, hg⟩ := hrel
    by_cases hlt : k < n
    · obtain ⟨g, o, rfl, hcx⟩ := (RowIs.of_owns hown).at (by omega)
      obtain rfl := owns_off hown
      have hlen := hown.1
      obtain ⟨u0, hu0⟩ : ∃ u, ys[k * 6]? = some u := ⟨_, List.getElem?_eq_getElem (by rw [hlen]; omega)⟩
      have hc0 := (hown.cellAt (k * 6) (by omega)).trans hu0; have hf0 := hown.frozenAt (k * 6)
      obtain ⟨u1, hu1⟩ : ∃ u, ys[k * 6 + 1]? = some u := ⟨_, List.getElem?_eq_getElem (by rw [hlen]; omega)⟩
      have hc1 := (hown.cellAt (k * 6 + 1) (by omega)).trans hu1; have hf1 := hown.frozenAt (k * 6 + 1)
      obtain ⟨u2, hu2⟩ : ∃ u, ys[k * 6 + 2]? = some u := ⟨_, List.getElem?_eq_getElem (by rw [hlen]; omega)⟩
      have hc2 := (hown.cellAt (k * 6 + 2) (by omega)).trans hu2; have hf2 := hown.frozenAt (k * 6 + 2)
      obtain ⟨u3, hu3⟩ : ∃ u, ys[k * 6 + 3]? = some u := ⟨_, List.getElem?_eq_getElem (by rw [hlen]; omega)⟩
      have hc3 := (hown.cellAt (k * 6 + 3) (by omega)).trans hu3; have hf3 := hown.frozenAt (k * 6 + 3)
      obtain ⟨u4, hu4⟩ : ∃ u, ys[k * 6 + 4]? = some u := ⟨_, List.getElem?_eq_getElem (by rw [hlen]; omega)⟩
      have hc4 := (hown.cellAt (k * 6 + 4) (by omega)).trans hu4; have hf4 := hown.frozenAt (k * 6 + 4)
      obtain ⟨u5, hu5⟩ : ∃ u, ys[k * 6 + 5]? = some u := ⟨_, List.getElem?_eq_getElem (by rw [hlen]; omega)⟩
      have hc5 := (hown.cellAt (k * 6 + 5) (by omega)).trans hu5; have hf5 := hown.frozenAt (k * 6 + 5)
      obtain ⟨hs0, hb0⟩ := hown.stored (k * 6) (.int .i64 m)
      obtain ⟨hs1, hb1⟩ := hs0.stored (k * 6 + 1) (.int .i64 0)
      obtain ⟨hs2, hb2⟩ := hs1.stored (k * 6 + 2) (.int .i64 0)
      obtain ⟨hs3, hb3⟩ := hs2.stored (k * 6 + 3) (.int .i64 0)
      obtain ⟨hs4, hb4⟩ := hs3.stored (k * 6 + 4) (.int .i64 0)
      obtain ⟨hs5, hb5⟩ := hs4.stored (k * 6 + 5) (.string { data := #[] })
      have hw2 : IntKind.i64.wrap ((k : Int) + 1) = (k : Int) + 1 := IntWalk.i64_in _ (by omega)
      clear hcx
      go_wp2
      go_roundw
      case rel => exact ⟨k + 1, _, by omega, by go_num, hs5, grown_trans (grown_trans (grown_trans (grown_trans (grown_trans (grown_trans hg hb0) hb1) hb2) hb3) hb4) hb5⟩
      case measure => simp [intOf]; omega
    · have hk2 : k = n := by omega
      subst hk2
      have hrw := row_new wr 39 #[.int .i64 m, .int .i64 0, .int .i64 0, .int .i64 0, .int .i64 0, .string { data := #[] }] 6 rfl
      have hbs := Nat.le_trans hbase hg.size
      go_wp2_with (at_builtin; refine wpList_append_row rfl _ _ 24 rfl base 39 i0 _ 6 56 Try.underlying24 hi hz0 hz1 hz2 rfl (by decide) (.slice ao k cap) _ _ rfl (hown.alloc _) (.slice (some ⟨wr.heap.size, 0, none⟩) 1 1) 1 (#[.int .i64 m, .int .i64 0, .int .i64 0, .int .i64 0, .int .i64 0, .string { data := #[] }] : Array Value).toList rfl hrw ?c6 ?c3 ?c4 ?c5 ?_)
      case c6 => simp [Value.oneCell']
      case c3 => unfold maxLen; omega
      try case c4 => omega
      case c5 => first | omega | (simp; omega)
      intro v2 w2 hown2 hg2 hb2
      have hgf := grown_trans (grown_trans hg (grown_alloc wr _ _)) hg2
      clear hown2 hown hrw hb2 hg2 hg
      go_wp2
      go_end0
      exact ⟨rfl, hgf⟩

end Go.Proofs.Ytebebognifiinaa
