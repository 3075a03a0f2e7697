/-
  From a row as the printed contracts tell it to a row of flat cells, and back. No program here.
-/
import Derived.Test.YthjlpcecfkboiabDoorReads
import Derived.Test.YthjlpcecfkboiabDoorWWords
namespace Go.Proofs.YthjlpcecfkboiabDoor
open Go.RowKit Go.Proofs.YthjlpcecfkboiabDoorW.PrintWords
set_option linter.unusedVariables false
set_option linter.unusedSimpArgs false
theorem addr_plain {w : World} {ad : Addr} {u : Value} (h : w.cell? (ad.add 0) = some u) : ad = ⟨ad.block, ad.off, none⟩ := by
  obtain ⟨b, o, s⟩ := ad
  cases s with
  | none => rfl
  | some x =>
    rw [show (⟨b, o, some x⟩ : Addr).add 0 = ⟨b, o, some x⟩ from rfl, World.cell?] at h
    split at h
    · simp at h
    · cases h
theorem rowIs_of_C {α : Type} {d : Kd α} {enc : α → List Value} (henc : ∀ w x cs, d.K w x cs → cs = enc x) (hlen : ∀ x, (enc x).length = d.sz) (hpos : 0 < d.sz) {w : World} {A : Option Addr} {c : Nat} {xs : List α} (h : Kd.C d w A xs.length xs) :
    RowIs w (.slice A xs.length c) d.sz xs.length (xs.flatMap enc) := by
  refine ⟨flat_len hlen xs, A, c, rfl, fun hn => ?_⟩
  obtain ⟨ad, rfl, hc⟩ := h.2.2 hn
  have hp : ad = ⟨ad.block, ad.off, none⟩ := by
    obtain ⟨cs, h1, h2, h3⟩ := hc 0 _ (List.getElem?_eq_getElem hn)
    have := h3 0 _ (List.getElem?_eq_getElem (by omega))
    rw [Nat.zero_mul] at this
    exact addr_plain this
  refine ⟨ad.block, ad.off, by rw [← hp], fun j hj => ?_⟩
  have hq : j / d.sz < xs.length := Nat.div_lt_of_lt_mul (by rw [Nat.mul_comm]; exact hj)
  have hr : j % d.sz < d.sz := Nat.mod_lt _ hpos
  obtain ⟨cs, h1, h2, h3⟩ := hc (j / d.sz) _ (List.getElem?_eq_getElem hq)
  obtain rfl := henc _ _ _ h2
  have h4 := h3 (j % d.sz) _ (List.getElem?_eq_getElem (by omega))
  have hj' : j / d.sz * d.sz + j % d.sz = j := by rw [Nat.mul_comm]; exact Nat.div_add_mod _ _
  rw [hj'] at h4
  have h5 : (xs.flatMap enc)[j]? = (enc xs[j / d.sz])[j % d.sz]? := by
    have := flat_at (f := enc) hlen hq hr
    rwa [hj'] at this
  rw [h5, List.getElem?_eq_getElem (by omega), ← h4]
  congr 1
  rw [hp]
  exact (add_plain _ _ _).symm
theorem C_of_rowIs {α : Type} {d : Kd α} {enc : α → List Value} (hmk : ∀ w x, d.K w x (enc x)) (hlen : ∀ x, (enc x).length = d.sz) {w : World} {A : Option Addr} {c n : Nat} {xs : List α} (hn : n = xs.length) (h : RowIs w (.slice A n c) d.sz xs.length (xs.flatMap enc)) (hl : xs.length ≤ 9223372036854775807) :
    Kd.C d w A xs.length xs := by
  subst hn
  refine ⟨rfl, hl, fun hp => ?_⟩
  obtain ⟨g, o, rfl, hc⟩ := h.at hp
  refine ⟨_, rfl, fun j p hj => ⟨enc p, hlen p, hmk w p, fun i u hu => ?_⟩⟩
  obtain ⟨hlt, rfl⟩ := List.getElem?_eq_some_iff.1 hj
  have hi : i < d.sz := by have := (List.getElem?_eq_some_iff.1 hu).1; rw [hlen] at this; exact this
  have hm : (j + 1) * d.sz ≤ xs.length * d.sz := Nat.mul_le_mul_right _ hlt
  rw [Nat.succ_mul] at hm
  rw [add_plain, hc (j * d.sz + i) (by omega), flat_at hlen hlt hi]
  exact hu
end Go.Proofs.YthjlpcecfkboiabDoor
