import Derived.Test.YthjlpcecfkboiaaDoorZx0
import Derived.Test.YthjlpcecfkboiaaDoorZx8
-- PRINTED by print.py (a twelfth state) out of the translation. Not trusted: Lean checks it.
namespace Go.Proofs.YthjlpcecfkboiaaDoor.Z
open Go.RowKit Go.Proofs.YthjlpcecfkboiaaDoorW.PrintWords Go.Proofs.YthjlpcecfkboiaaDoorW.PrintLast Go.Proofs.YthjlpcecfkboiaaDoorW.PrintMore
attribute [local go_sem] eqset_a eqset_b max2_int min2_int max_two min_two max_three min_three max_four min_four   -- for this text's walks alone
set_option linter.unusedVariables false
set_option linter.unusedSimpArgs false

/-! ### harrowref16_has: function 73 -/
def harrowref16_has.f (a0 : Int) (a1 : Int) : Option (Bool) := if a1 = 0 then (none) else (some ((Int.tmod (wrap64 (Int.tdiv a0 a1)) 2) == 1))
/-! ### harrowref04_Name: function 94 -/
mutual
def harrowref04_Name.j0 : Nat → ByteArray → Bool → Option (Bool)
 | 0, _, _ => none
 | k + 1, x0, x22 => if x22 = true then (some false) else (harrowref04_Name.l0 k x0 0)
def harrowref04_Name.l0 : Nat → ByteArray → Int → Option (Bool)
 | 0, _, _ => none
 | k + 1, x0, x3 => if x3 < (x0.size : Int) then (if 0 ≤ x3 then (if (bt x0 x3) ≥ 97 then (if (bt x0 x3) ≤ 122 then (harrowref04_Name.l0 k x0 (wrap64 (x3 + 1))) else (if (bt x0 x3) ≥ 65 then (if (bt x0 x3) ≤ 90 then (harrowref04_Name.l0 k x0 (wrap64 (x3 + 1))) else (if (bt x0 x3) ≥ 48 then (if (bt x0 x3) ≤ 57 then (harrowref04_Name.l0 k x0 (wrap64 (x3 + 1))) else (if ((bt x0 x3) = 95) then (harrowref04_Name.l0 k x0 (wrap64 (x3 + 1))) else (some false))) else (if ((bt x0 x3) = 95) then (harrowref04_Name.l0 k x0 (wrap64 (x3 + 1))) else (some false)))) else (if (bt x0 x3) ≥ 48 then (if (bt x0 x3) ≤ 57 then (harrowref04_Name.l0 k x0 (wrap64 (x3 + 1))) else (if ((bt x0 x3) = 95) then (harrowref04_Name.l0 k x0 (wrap64 (x3 + 1))) else (some false))) else (if ((bt x0 x3) = 95) then (harrowref04_Name.l0 k x0 (wrap64 (x3 + 1))) else (some false))))) else (if (bt x0 x3) ≥ 65 then (if (bt x0 x3) ≤ 90 then (harrowref04_Name.l0 k x0 (wrap64 (x3 + 1))) else (if (bt x0 x3) ≥ 48 then (if (bt x0 x3) ≤ 57 then (harrowref04_Name.l0 k x0 (wrap64 (x3 + 1))) else (if ((bt x0 x3) = 95) then (harrowref04_Name.l0 k x0 (wrap64 (x3 + 1))) else (some false))) else (if ((bt x0 x3) = 95) then (harrowref04_Name.l0 k x0 (wrap64 (x3 + 1))) else (some false)))) else (if (bt x0 x3) ≥ 48 then (if (bt x0 x3) ≤ 57 then (harrowref04_Name.l0 k x0 (wrap64 (x3 + 1))) else (if ((bt x0 x3) = 95) then (harrowref04_Name.l0 k x0 (wrap64 (x3 + 1))) else (some false))) else (if ((bt x0 x3) = 95) then (harrowref04_Name.l0 k x0 (wrap64 (x3 + 1))) else (some false))))) else (none)) else (some true)
end
def harrowref04_Name.f (k : Nat) (a0 : ByteArray) : Option (Bool) := if (a0.size : Int) < 1 then (harrowref04_Name.j0 k a0 true) else (if (a0.size : Int) > 32 then (harrowref04_Name.j0 k a0 true) else (if 0 < (a0.size : Int) then (if (bt a0 0) ≥ 48 then (harrowref04_Name.j0 k a0 (decide ((bt a0 0) ≤ 57))) else (harrowref04_Name.j0 k a0 false)) else (none)))
end Go.Proofs.YthjlpcecfkboiaaDoor.Z

-- PRINTED by print.py (a twelfth state) out of the translation. Not trusted: Lean checks it.
namespace Go.Proofs.YthjlpcecfkboiaaDoor.Z
open Go.RowKit Go.Proofs.YthjlpcecfkboiaaDoorW.PrintWords Go.Proofs.YthjlpcecfkboiaaDoorW.PrintLast Go.Proofs.YthjlpcecfkboiaaDoorW.PrintMore
attribute [local go_sem] eqset_a eqset_b max2_int min2_int max_two min_two max_three min_three max_four min_four   -- for this text's walks alone
set_option linter.unusedVariables false
set_option linter.unusedSimpArgs false

/-! ### harrowref04_Template: function 95 -/
def harrowref04_Template.l0 : Nat → ByteArray → Int → Option (Bool)
 | 0, _, _ => none
 | k + 1, x0, x3 => if x3 < (x0.size : Int) then (if 0 ≤ x3 then (if (bt x0 x3) = 37 then (if (wrap64 (x3 + 1)) = (x0.size : Int) then (some false) else (if 0 ≤ (wrap64 (x3 + 1)) then (if (wrap64 (x3 + 1)) < (x0.size : Int) then (if (bt x0 (wrap64 (x3 + 1))) = 37 then (harrowref04_Template.l0 k x0 (wrap64 ((wrap64 (x3 + 1)) + 1))) else (if (bt x0 (wrap64 (x3 + 1))) < 48 then (some false) else (if (bt x0 (wrap64 (x3 + 1))) > 57 then (some false) else (harrowref04_Template.l0 k x0 (wrap64 ((wrap64 (x3 + 1)) + 1)))))) else (none)) else (none))) else (harrowref04_Template.l0 k x0 (wrap64 (x3 + 1)))) else (none)) else (some true)
def harrowref04_Template.f (k : Nat) (a0 : ByteArray) : Option (Bool) := if (a0.size : Int) > 255 then (some false) else (harrowref04_Template.l0 k a0 0)
/-! ### harrowref16_catches: function 74 -/
mutual
def harrowref16_catches.j0 : Nat → Int → Int → Int → Int → Int → ByteArray → Int → Int → Int → Int → Option (Bool)
 | 0, _, _, _, _, _, _, _, _, _, _ => none
 | k + 1, x3, x179000, x179001, x179002, x179003, x179004, x179005, x179006, x179007, x179008 => if x179002 < x3 then (harrowref16_catches.j1 k true x179000 x179001 x179002 x179003 x179004 x179005 x179006 x179007 x179008) else (if x179002 > 7 then (harrowref16_catches.j1 k true x179000 x179001 x179002 x179003 x179004 x179005 x179006 x179007 x179008) else (if x179003 < 0 then (harrowref16_catches.j1 k true x179000 x179001 x179002 x179003 x179004 x179005 x179006 x179007 x179008) else (if x179003 > 50 then (harrowref16_catches.j1 k true x179000 x179001 x179002 x179003 x179004 x179005 x179006 x179007 x179008) else (if x179002 = 7 then (harrowref16_catches.j1 k false x179000 x179001 x179002 x179003 x179004 x179005 x179006 x179007 x179008) else (harrowref16_catches.j1 k (x179003 != 0) x179000 x179001 x179002 x179003 x179004 x179005 x179006 x179007 x179008)))))
def harrowref16_catches.j1 : Nat → Bool → Int → Int → Int → Int → ByteArray → Int → Int → Int → Int → Option (Bool)
 | 0, _, _, _, _, _, _, _, _, _, _ => none
 | k + 1, x35, x179000, x179001, x179002, x179003, x179004, x179005, x179006, x179007, x179008 => if x35 = true then (some false) else (if x179002 = 3 then (if x179004.toList = ([] : List UInt8) then (some true) else ((harrowref04_Name.f k x179004).bind fun t179 => (some t179))) else (if x179002 = 6 then ((harrowref04_Template.f k x179004).bind fun t180 => (some t180)) else (some (x179004.toList == ([] : List UInt8)))))
end
def harrowref16_catches.f (k : Nat) (a0_0 : Int) (a0_1 : Int) (a0_2 : Int) (a0_3 : Int) (a0_4 : ByteArray) (a0_5 : Int) (a0_6 : Int) (a0_7 : Int) (a0_8 : Int) : Option (Bool) := if a0_0 = 18 then (harrowref16_catches.j0 k 2 a0_0 a0_1 a0_2 a0_3 a0_4 a0_5 a0_6 a0_7 a0_8) else (harrowref16_catches.j0 k 1 a0_0 a0_1 a0_2 a0_3 a0_4 a0_5 a0_6 a0_7 a0_8)
end Go.Proofs.YthjlpcecfkboiaaDoor.Z

-- PRINTED by print.py (a twelfth state) out of the translation. Not trusted: Lean checks it.
namespace Go.Proofs.YthjlpcecfkboiaaDoor.Z
open Go.RowKit Go.Proofs.YthjlpcecfkboiaaDoorW.PrintWords Go.Proofs.YthjlpcecfkboiaaDoorW.PrintLast Go.Proofs.YthjlpcecfkboiaaDoorW.PrintMore
attribute [local go_sem] eqset_a eqset_b max2_int min2_int max_two min_two max_three min_three max_four min_four   -- for this text's walks alone
set_option linter.unusedVariables false
set_option linter.unusedSimpArgs false

/-! ### harrowref16_Args: function 47 -/
mutual
def harrowref16_Args.j0 : Nat → Int → Bool → Int → Int → Int → Int → ByteArray → Int → Int → Int → Int → Option (Bool)
 | 0, _, _, _, _, _, _, _, _, _, _, _ => none
 | k + 1, x3, x38, x182000, x182001, x182002, x182003, x182004, x182005, x182006, x182007, x182008 => if x38 = true then (some false) else ((harrowref16_has.f x3 2).bind fun t191 => (if t191 = true then (if x182001 < 0 then (harrowref16_Args.j1 k x3 true x182000 x182001 x182002 x182003 x182004 x182005 x182006 x182007 x182008) else (if x182001 > 255 then (harrowref16_Args.j1 k x3 true x182000 x182001 x182002 x182003 x182004 x182005 x182006 x182007 x182008) else (if x182002 = 1 then (harrowref16_Args.j1 k x3 (x182001 != 0) x182000 x182001 x182002 x182003 x182004 x182005 x182006 x182007 x182008) else (harrowref16_Args.j1 k x3 false x182000 x182001 x182002 x182003 x182004 x182005 x182006 x182007 x182008)))) else (harrowref16_Args.j1 k x3 false x182000 x182001 x182002 x182003 x182004 x182005 x182006 x182007 x182008)))
def harrowref16_Args.j1 : Nat → Int → Bool → Int → Int → Int → Int → ByteArray → Int → Int → Int → Int → Option (Bool)
 | 0, _, _, _, _, _, _, _, _, _, _, _ => none
 | k + 1, x3, x60, x182000, x182001, x182002, x182003, x182004, x182005, x182006, x182007, x182008 => if x60 = true then (some false) else ((harrowref16_has.f x3 8).bind fun t192 => (if t192 = true then ((harrowref16_catches.f k x182000 x182001 x182002 x182003 x182004 x182005 x182006 x182007 x182008).bind fun t193 => (some t193)) else (if x182003 = 0 then (if x182004.toList = ([] : List UInt8) then ((harrowref16_has.f x3 4).bind fun t194 => (if t194 = true then (if x182002 ≥ 0 then (if x182002 ≤ 255 then (some true) else (some (x182002 == 0))) else (some (x182002 == 0))) else (some (x182002 == 0)))) else (some false)) else (some false))))
end
def harrowref16_Args.f (k : Nat) (a0_0 : Int) (a0_1 : Int) (a0_2 : Int) (a0_3 : Int) (a0_4 : ByteArray) (a0_5 : Int) (a0_6 : Int) (a0_7 : Int) (a0_8 : Int) : Option (Bool) := (harrowref16_Uses.f a0_0).bind fun bt182 => ((harrowref16_has.f bt182.1 16).bind fun t186 => (if t186 = true then ((harrowref16_has.f bt182.1 1).bind fun t187 => (if t187 = true then (harrowref16_Args.j0 k bt182.1 false a0_0 a0_1 a0_2 a0_3 a0_4 a0_5 a0_6 a0_7 a0_8) else ((harrowref16_has.f bt182.1 2).bind fun t188 => (if t188 = true then (harrowref16_Args.j0 k bt182.1 false a0_0 a0_1 a0_2 a0_3 a0_4 a0_5 a0_6 a0_7 a0_8) else (harrowref16_Args.j0 k bt182.1 (a0_1 != 0) a0_0 a0_1 a0_2 a0_3 a0_4 a0_5 a0_6 a0_7 a0_8))))) else (if a0_5 = 0 then (if a0_6 = 0 then (if a0_7 = 0 then (if a0_8 = 0 then ((harrowref16_has.f bt182.1 1).bind fun t189 => (if t189 = true then (harrowref16_Args.j0 k bt182.1 false a0_0 a0_1 a0_2 a0_3 a0_4 a0_5 a0_6 a0_7 a0_8) else ((harrowref16_has.f bt182.1 2).bind fun t190 => (if t190 = true then (harrowref16_Args.j0 k bt182.1 false a0_0 a0_1 a0_2 a0_3 a0_4 a0_5 a0_6 a0_7 a0_8) else (harrowref16_Args.j0 k bt182.1 (a0_1 != 0) a0_0 a0_1 a0_2 a0_3 a0_4 a0_5 a0_6 a0_7 a0_8))))) else (harrowref16_Args.j0 k bt182.1 true a0_0 a0_1 a0_2 a0_3 a0_4 a0_5 a0_6 a0_7 a0_8)) else (harrowref16_Args.j0 k bt182.1 true a0_0 a0_1 a0_2 a0_3 a0_4 a0_5 a0_6 a0_7 a0_8)) else (harrowref16_Args.j0 k bt182.1 true a0_0 a0_1 a0_2 a0_3 a0_4 a0_5 a0_6 a0_7 a0_8)) else (harrowref16_Args.j0 k bt182.1 true a0_0 a0_1 a0_2 a0_3 a0_4 a0_5 a0_6 a0_7 a0_8))))
end Go.Proofs.YthjlpcecfkboiaaDoor.Z

-- PRINTED by print.py (a twelfth state) out of the translation. Not trusted: Lean checks it.
namespace Go.Proofs.YthjlpcecfkboiaaDoor.Z
open Go.RowKit Go.Proofs.YthjlpcecfkboiaaDoorW.PrintWords Go.Proofs.YthjlpcecfkboiaaDoorW.PrintLast Go.Proofs.YthjlpcecfkboiaaDoorW.PrintMore
attribute [local go_sem] eqset_a eqset_b max2_int min2_int max_two min_two max_three min_three max_four min_four   -- for this text's walks alone
set_option linter.unusedVariables false
set_option linter.unusedSimpArgs false

/-! ### harrowref16_Targets: function 48 -/
def harrowref16_Targets.f (a0 : Int) : Option (Bool) := (harrowref16_Uses.f a0).bind fun bt195 => ((harrowref16_has.f bt195.1 1).bind fun t198 => (some t198))
/-! ### harrowref16_Check: function 38 -/
def harrowref16_Check.l0 : Nat → List (S52) → Int → Option (Int × Int)
 | 0, _, _ => none
 | k + 1, x0, x4 => if x4 < (x0.length : Int) then (if 0 ≤ x4 then ((harrowref16_Uses.f ((rd_T52 x0 x4).f0)).bind fun bt204 => (if bt204.2.1.toList = ([] : List UInt8) then (some (x4, 160)) else ((harrowref16_Args.f k ((rd_T52 x0 x4).f0) ((rd_T52 x0 x4).f1) ((rd_T52 x0 x4).f2) ((rd_T52 x0 x4).f3) ((rd_T52 x0 x4).f4) ((rd_T52 x0 x4).f5.f0) ((rd_T52 x0 x4).f5.f1) ((rd_T52 x0 x4).f5.f2) ((rd_T52 x0 x4).f5.f3)).bind fun t208 => (if t208 = true then ((harrowref16_Targets.f ((rd_T52 x0 x4).f0)).bind fun t210 => (if t210 = true then (if ((rd_T52 x0 x4).f1) < (wrap64 (-x4)) then (some (x4, 162)) else (if ((rd_T52 x0 x4).f1) ≥ (wrap64 ((x0.length : Int) - x4)) then (some (x4, 162)) else (harrowref16_Check.l0 k x0 (wrap64 (x4 + 1))))) else (harrowref16_Check.l0 k x0 (wrap64 (x4 + 1))))) else (some (x4, 161)))))) else (none)) else (if 0 ≤ (wrap64 ((x0.length : Int) - 1)) then (if (wrap64 ((x0.length : Int) - 1)) < (x0.length : Int) then ((harrowref16_Uses.f ((rd_T52 x0 (wrap64 ((x0.length : Int) - 1))).f0)).bind fun bt200 => (if bt200.2.2 = true then (some (wrap64 ((x0.length : Int) - 1), 163)) else (some (0, 0)))) else (none)) else (none))
/-! ### steps_mayNote: function 39 -/
def steps_mayNote.j0 : Nat → Bool → Int → Int → Int → Int → Int → ByteArray → Option (Bool)
 | 0, _, _, _, _, _, _, _ => none
 | k + 1, x30, x217000, x217001, x217002, x217003, x217004, x217005 => if x30 = true then (some false) else (if x217000 < 18 then (some false) else (if x217000 > 20 then (some false) else ((instr_Check.f k (([(⟨x217000, x217003, x217001, x217004, x217005, (⟨0, 0, 0, 0⟩ : S50)⟩ : S52), (⟨17, 0, 0, 0, (⟨#[]⟩ : ByteArray), (⟨0, 0, 0, 0⟩ : S50)⟩ : S52)] : List (S52)))).bind fun bt221 => (some (bt221.2 == 0)))))
def steps_mayNote.f (k : Nat) (a0_0 : Int) (a0_1 : Int) (a0_2 : Int) (a0_3 : Int) (a0_4 : Int) (a0_5 : ByteArray) (a1 : Int) : Option (Bool) := if a0_2 < 0 then (steps_mayNote.j0 k true a0_0 a0_1 a0_2 a0_3 a0_4 a0_5) else (if a0_2 > a1 then (steps_mayNote.j0 k true a0_0 a0_1 a0_2 a0_3 a0_4 a0_5) else (if a0_3 < 0 then (steps_mayNote.j0 k true a0_0 a0_1 a0_2 a0_3 a0_4 a0_5) else (steps_mayNote.j0 k (decide (a0_3 > (wrap64 (a1 - a0_2)))) a0_0 a0_1 a0_2 a0_3 a0_4 a0_5)))
set_option maxHeartbeats 8000000 in
set_option maxRecDepth 100000 in
theorem steps_mayNote.calls (k : Nat) (a0_0 : Int) (a0_1 : Int) (a0_2 : Int) (a0_3 : Int) (a0_4 : Int) (a0_5 : ByteArray) (a1 : Int) (r : Bool) (w : World) (h : steps_mayNote.f k a0_0 a0_1 a0_2 a0_3 a0_4 a0_5 a1 = some r) (hU : UsesOk w) :
  Calls Tryd.prog 39 #[.agg #[.int .i64 a0_0, .int .i64 a0_1, .int .i64 a0_2, .int .i64 a0_3, .int .i64 a0_4, .string a0_5], .int .i64 a1] w fun e w' => e = .returned (.bool r) ∧ Below w.heap.size w w' := by
 have hu57 := Tryd.underlying57
 have hu52 := Tryd.underlying52
 have HB := Aside0.mk (Below.refl w.heap.size w)
 have H : (if a0_2 < 0 then (steps_mayNote.j0 k true a0_0 a0_1 a0_2 a0_3 a0_4 a0_5) else (if a0_2 > a1 then (steps_mayNote.j0 k true a0_0 a0_1 a0_2 a0_3 a0_4 a0_5) else (if a0_3 < 0 then (steps_mayNote.j0 k true a0_0 a0_1 a0_2 a0_3 a0_4 a0_5) else (steps_mayNote.j0 k (decide (a0_3 > (wrap64 (a1 - a0_2)))) a0_0 a0_1 a0_2 a0_3 a0_4 a0_5)))) = some r := h
 clear h
 have HC3 := Aside0.mk H
 clear H
 go_enter Tryd.func39, Tryd.ntmps39
 go_upto_region 1 with (first | ((with_reducible refine gate_dst (N := 2) rfl ?_); refine box_event ?hg (N := 2) ?hd (cs := #[.int .i64 a0_0, .int .i64 a0_1, .int .i64 a0_2, .int .i64 a0_3, .int .i64 a0_4, .string a0_5]) (t := 57) ?hr ?_; (case hd => rfl); (case hg => rfl); (case hr => first | (go_simp; done) | (go_simp; rfl)); intro gb216 hg w4 hbox hb; have n0_ := Aside0.mk (below_step (by repeat (first | (with_reducible first | exact HB.out | apply below_alloc | apply pw_below_drewN | apply below_drew1) | exact HB.out)) hb); have n1_ := Aside0.mk (hbox); have n2_ := Aside0.mk ((by rw [hg]; exact (below_size (by repeat (first | (with_reducible first | exact HB.out | apply below_alloc | apply pw_below_drewN | apply below_drew1) | exact HB.out))) : w.heap.size ≤ gb216)); have n3_ := Aside0.mk ((by rw [hg]; exact (below_size (by repeat (first | (with_reducible first | exact HB.out | apply below_alloc | apply pw_below_drewN | apply below_drew1) | exact HB.out))) : w.heap.size ≤ gb216)); clear HB; have HB := n0_; have BK216 := n1_; have GW216 := n2_; have GE216 := n3_; clear n0_ n1_ n2_ n3_; clear hb hbox hg))
 (try simp only [Act.put, List.setIfInBounds_toArray, List.set_cons_zero, List.set_cons_succ])
 go_cut [30] (fun v30 wc => ∃ (kq : Nat) (x30_2 : Bool), v30 = .bool x30_2 ∧ Aside0 (steps_mayNote.j0 kq x30_2 a0_0 a0_1 a0_2 a0_3 a0_4 a0_5 = some r) ∧ Aside0 (kq ≤ k) ∧ Aside0 (wc.heap[gb216]? = some (.cells #[.int .i64 a0_0, .int .i64 a0_1, .int .i64 a0_2, .int .i64 a0_3, .int .i64 a0_4, .string a0_5] 57 (0, 0))) ∧ Aside0 (Below w.heap.size w wc))
 case first =>
  have H := HC3.out
  clear HC3
  by_cases c5 : a0_2 < 0
  ·rw [if_pos c5] at H
   have c5b0 : decide (a0_2 < 0) = true := decide_eq_true c5
   clear c5
   (first | rw [c5b0] | (simp only [i64_w, i32_w]; rw [c5b0]) | skip)
   have H' := Aside0.mk H
   clear H
   have hcz6_0 : w4.cell? ⟨gb216, 0, none⟩ = some (.int .i64 a0_0) := (blk_cell BK216.out 0).trans rfl
   have hcz6_1 : w4.cell? ⟨gb216, 1, none⟩ = some (.int .i64 a0_1) := (blk_cell BK216.out 1).trans rfl
   have hcz6_2 : w4.cell? ⟨gb216, 2, none⟩ = some (.int .i64 a0_2) := (blk_cell BK216.out 2).trans rfl
   have hcz6_3 : w4.cell? ⟨gb216, 3, none⟩ = some (.int .i64 a0_3) := (blk_cell BK216.out 3).trans rfl
   have hcz6_4 : w4.cell? ⟨gb216, 4, none⟩ = some (.int .i64 a0_4) := (blk_cell BK216.out 4).trans rfl
   have hcz6_5 : w4.cell? ⟨gb216, 5, none⟩ = some (.string a0_5) := (blk_cell BK216.out 5).trans rfl
   have hfz6_0 := blk_frozen BK216.out 0
   have hfz6_1 := blk_frozen BK216.out 1
   have hfz6_2 := blk_frozen BK216.out 2
   have hfz6_3 := blk_frozen BK216.out 3
   have hfz6_4 := blk_frozen BK216.out 4
   have hfz6_5 := blk_frozen BK216.out 5
   go_wp2
   go_meet
   case rel => exact ⟨_, (true), (by first | rfl | (simp; done) | (simp [*]; done)), H', ⟨by first | omega | exact Nat.le_refl _⟩, ⟨by (with_reducible repeat (first | refine blk_drewN ?_ _ | refine blk_drew ?_ | refine blk_alloc ?_ _)); exact BK216.out⟩, ⟨by repeat (first | (with_reducible first | exact HB.out | apply below_alloc | apply pw_below_drewN | apply below_drew1 | refine below_set ?_ GE216.out) | exact HB.out)⟩⟩
  ·rw [if_neg c5] at H
   have c5b0 : decide (a0_2 < 0) = false := decide_eq_false c5
   clear c5
   (first | rw [c5b0] | (simp only [i64_w, i32_w]; rw [c5b0]) | skip)
   by_cases c7 : a0_2 > a1
   ·rw [if_pos c7] at H
    have c7b0 : decide (a1 < a0_2) = true := decide_eq_true c7
    clear c7
    have H' := Aside0.mk H
    clear H
    have hcz8_0 : w4.cell? ⟨gb216, 0, none⟩ = some (.int .i64 a0_0) := (blk_cell BK216.out 0).trans rfl
    have hcz8_1 : w4.cell? ⟨gb216, 1, none⟩ = some (.int .i64 a0_1) := (blk_cell BK216.out 1).trans rfl
    have hcz8_2 : w4.cell? ⟨gb216, 2, none⟩ = some (.int .i64 a0_2) := (blk_cell BK216.out 2).trans rfl
    have hcz8_3 : w4.cell? ⟨gb216, 3, none⟩ = some (.int .i64 a0_3) := (blk_cell BK216.out 3).trans rfl
    have hcz8_4 : w4.cell? ⟨gb216, 4, none⟩ = some (.int .i64 a0_4) := (blk_cell BK216.out 4).trans rfl
    have hcz8_5 : w4.cell? ⟨gb216, 5, none⟩ = some (.string a0_5) := (blk_cell BK216.out 5).trans rfl
    have hfz8_0 := blk_frozen BK216.out 0
    have hfz8_1 := blk_frozen BK216.out 1
    have hfz8_2 := blk_frozen BK216.out 2
    have hfz8_3 := blk_frozen BK216.out 3
    have hfz8_4 := blk_frozen BK216.out 4
    have hfz8_5 := blk_frozen BK216.out 5
    go_wp2
    go_meet
    case rel => exact ⟨_, (true), (by first | rfl | (simp; done) | (simp [*]; done)), H', ⟨by first | omega | exact Nat.le_refl _⟩, ⟨by (with_reducible repeat (first | refine blk_drewN ?_ _ | refine blk_drew ?_ | refine blk_alloc ?_ _)); exact BK216.out⟩, ⟨by repeat (first | (with_reducible first | exact HB.out | apply below_alloc | apply pw_below_drewN | apply below_drew1 | refine below_set ?_ GE216.out) | exact HB.out)⟩⟩
   ·rw [if_neg c7] at H
    have c7b0 : decide (a1 < a0_2) = false := decide_eq_false c7
    clear c7
    by_cases c9 : a0_3 < 0
    ·rw [if_pos c9] at H
     have c9b0 : decide (a0_3 < 0) = true := decide_eq_true c9
     clear c9
     have H' := Aside0.mk H
     clear H
     have hcz10_0 : w4.cell? ⟨gb216, 0, none⟩ = some (.int .i64 a0_0) := (blk_cell BK216.out 0).trans rfl
     have hcz10_1 : w4.cell? ⟨gb216, 1, none⟩ = some (.int .i64 a0_1) := (blk_cell BK216.out 1).trans rfl
     have hcz10_2 : w4.cell? ⟨gb216, 2, none⟩ = some (.int .i64 a0_2) := (blk_cell BK216.out 2).trans rfl
     have hcz10_3 : w4.cell? ⟨gb216, 3, none⟩ = some (.int .i64 a0_3) := (blk_cell BK216.out 3).trans rfl
     have hcz10_4 : w4.cell? ⟨gb216, 4, none⟩ = some (.int .i64 a0_4) := (blk_cell BK216.out 4).trans rfl
     have hcz10_5 : w4.cell? ⟨gb216, 5, none⟩ = some (.string a0_5) := (blk_cell BK216.out 5).trans rfl
     have hfz10_0 := blk_frozen BK216.out 0
     have hfz10_1 := blk_frozen BK216.out 1
     have hfz10_2 := blk_frozen BK216.out 2
     have hfz10_3 := blk_frozen BK216.out 3
     have hfz10_4 := blk_frozen BK216.out 4
     have hfz10_5 := blk_frozen BK216.out 5
     go_wp2
     go_meet
     case rel => exact ⟨_, (true), (by first | rfl | (simp; done) | (simp [*]; done)), H', ⟨by first | omega | exact Nat.le_refl _⟩, ⟨by (with_reducible repeat (first | refine blk_drewN ?_ _ | refine blk_drew ?_ | refine blk_alloc ?_ _)); exact BK216.out⟩, ⟨by repeat (first | (with_reducible first | exact HB.out | apply below_alloc | apply pw_below_drewN | apply below_drew1 | refine below_set ?_ GE216.out) | exact HB.out)⟩⟩
    ·rw [if_neg c9] at H
     have c9b0 : decide (a0_3 < 0) = false := decide_eq_false c9
     clear c9
     have H' := Aside0.mk H
     clear H
     have hcz11_0 : w4.cell? ⟨gb216, 0, none⟩ = some (.int .i64 a0_0) := (blk_cell BK216.out 0).trans rfl
     have hcz11_1 : w4.cell? ⟨gb216, 1, none⟩ = some (.int .i64 a0_1) := (blk_cell BK216.out 1).trans rfl
     have hcz11_2 : w4.cell? ⟨gb216, 2, none⟩ = some (.int .i64 a0_2) := (blk_cell BK216.out 2).trans rfl
     have hcz11_3 : w4.cell? ⟨gb216, 3, none⟩ = some (.int .i64 a0_3) := (blk_cell BK216.out 3).trans rfl
     have hcz11_4 : w4.cell? ⟨gb216, 4, none⟩ = some (.int .i64 a0_4) := (blk_cell BK216.out 4).trans rfl
     have hcz11_5 : w4.cell? ⟨gb216, 5, none⟩ = some (.string a0_5) := (blk_cell BK216.out 5).trans rfl
     have hfz11_0 := blk_frozen BK216.out 0
     have hfz11_1 := blk_frozen BK216.out 1
     have hfz11_2 := blk_frozen BK216.out 2
     have hfz11_3 := blk_frozen BK216.out 3
     have hfz11_4 := blk_frozen BK216.out 4
     have hfz11_5 := blk_frozen BK216.out 5
     go_wp2
     go_meet
     case rel => exact ⟨_, (decide (a0_3 > (wrap64 (a1 - a0_2)))), (by first | rfl | (simp; done) | (simp [*]; done)), H', ⟨by first | omega | exact Nat.le_refl _⟩, ⟨by (with_reducible repeat (first | refine blk_drewN ?_ _ | refine blk_drew ?_ | refine blk_alloc ?_ _)); exact BK216.out⟩, ⟨by repeat (first | (with_reducible first | exact HB.out | apply below_alloc | apply pw_below_drewN | apply below_drew1 | refine below_set ?_ GE216.out) | exact HB.out)⟩⟩
 case rest =>
  clear HC3
  try clear p2
  try clear c3
  try clear c5
  try clear c5b0
  try clear p6
  try clear c7
  try clear c7b0
  try clear c9
  try clear c9b0
  try clear hcz10_0
  try clear hcz10_1
  try clear hcz10_2
  try clear hcz10_3
  try clear hcz10_4
  try clear hcz10_5
  try clear hcz11_0
  try clear hcz11_1
  try clear hcz11_2
  try clear hcz11_3
  try clear hcz11_4
  try clear hcz11_5
  try clear hcz6_0
  try clear hcz6_1
  try clear hcz6_2
  try clear hcz6_3
  try clear hcz6_4
  try clear hcz6_5
  try clear hcz8_0
  try clear hcz8_1
  try clear hcz8_2
  try clear hcz8_3
  try clear hcz8_4
  try clear hcz8_5
  try clear hfz10_0
  try clear hfz10_1
  try clear hfz10_2
  try clear hfz10_3
  try clear hfz10_4
  try clear hfz10_5
  try clear hfz11_0
  try clear hfz11_1
  try clear hfz11_2
  try clear hfz11_3
  try clear hfz11_4
  try clear hfz11_5
  try clear hfz6_0
  try clear hfz6_1
  try clear hfz6_2
  try clear hfz6_3
  try clear hfz6_4
  try clear hfz6_5
  try clear hfz8_0
  try clear hfz8_1
  try clear hfz8_2
  try clear hfz8_3
  try clear hfz8_4
  try clear hfz8_5
  obtain ⟨kq, x30_2, rfl, HA, HJ2, BK216, HB⟩ := hcut
  cases kq with
  | zero => exact absurd HA.out (by simp [steps_mayNote.j0])
  | succ kj2 =>
   have H := HA.out
   clear HA
   simp only [steps_mayNote.j0] at H
   by_cases c12 : x30_2 = true
   ·subst c12
    have H1 : (some false) = some r := by rw [if_pos rfl] at H; exact H
    clear H
    have H := H1
    clear H1
    obtain rfl := Option.some.inj H
    go_wp2
    go_ret
    exact ⟨by first | rfl | (simp [errW_none, errW_some] <;> rfl) | (simp [*, errW_none, errW_some] <;> rfl), by repeat (first | (with_reducible first | exact HB.out | apply below_alloc | apply pw_below_drewN | apply below_drew1 | refine below_set ?_ GE216.out) | exact HB.out)⟩
   ·replace c12 := Bool.eq_false_iff.mpr c12
    subst c12
    have H1 : (if a0_0 < 18 then (some false) else (if a0_0 > 20 then (some false) else ((instr_Check.f kj2 (([(⟨a0_0, a0_3, a0_1, a0_4, a0_5, (⟨0, 0, 0, 0⟩ : S50)⟩ : S52), (⟨17, 0, 0, 0, (⟨#[]⟩ : ByteArray), (⟨0, 0, 0, 0⟩ : S50)⟩ : S52)] : List (S52)))).bind fun bt221 => (some (bt221.2 == 0))))) = some r := by rw [if_neg (show ¬ (false = true) by decide)] at H; exact H
    clear H
    have H := H1
    clear H1
    by_cases c13 : a0_0 < 18
    ·rw [if_pos c13] at H
     have c13b0 : decide (a0_0 < 18) = true := decide_eq_true c13
     clear c13
     obtain rfl := Option.some.inj H
     have hcz14_0 : wc.cell? ⟨gb216, 0, none⟩ = some (.int .i64 a0_0) := (blk_cell BK216.out 0).trans rfl
     have hcz14_1 : wc.cell? ⟨gb216, 1, none⟩ = some (.int .i64 a0_1) := (blk_cell BK216.out 1).trans rfl
     have hcz14_2 : wc.cell? ⟨gb216, 2, none⟩ = some (.int .i64 a0_2) := (blk_cell BK216.out 2).trans rfl
     have hcz14_3 : wc.cell? ⟨gb216, 3, none⟩ = some (.int .i64 a0_3) := (blk_cell BK216.out 3).trans rfl
     have hcz14_4 : wc.cell? ⟨gb216, 4, none⟩ = some (.int .i64 a0_4) := (blk_cell BK216.out 4).trans rfl
     have hcz14_5 : wc.cell? ⟨gb216, 5, none⟩ = some (.string a0_5) := (blk_cell BK216.out 5).trans rfl
     have hfz14_0 := blk_frozen BK216.out 0
     have hfz14_1 := blk_frozen BK216.out 1
     have hfz14_2 := blk_frozen BK216.out 2
     have hfz14_3 := blk_frozen BK216.out 3
     have hfz14_4 := blk_frozen BK216.out 4
     have hfz14_5 := blk_frozen BK216.out 5
     go_wp2_with (first | ((with_reducible refine gate_dst (N := 5) rfl ?_); refine box_event ?hg (N := 5) ?hd (cs := #[.int .i64 0, .int .i64 0, .int .i64 0, .int .i64 0, .string (⟨#[]⟩ : ByteArray), .int .u64 0, .int .u64 0, .int .u64 0, .int .u64 0]) (t := 52) ?hr ?_; (case hd => rfl); (case hg => rfl); (case hr => first | (go_simp; done) | (go_simp; rfl)); intro gb217 hg w15 hbox hb; have n0_ := Aside0.mk (blk_below (g := gb216) (o := .cells #[.int .i64 a0_0, .int .i64 a0_1, .int .i64 a0_2, .int .i64 a0_3, .int .i64 a0_4, .string a0_5] 57 (0, 0)) (by (with_reducible repeat (first | refine blk_drewN ?_ _ | refine blk_drew ?_ | refine blk_alloc ?_ _)); exact BK216.out) hb); have n1_ := Aside0.mk (below_step (by repeat (first | (with_reducible first | exact HB.out | apply below_alloc | apply pw_below_drewN | apply below_drew1 | refine below_set ?_ GE216.out) | exact HB.out)) hb); have n2_ := Aside0.mk (hbox); have n3_ := Aside0.mk ((by rw [hg]; exact (below_size (by repeat (first | (with_reducible first | exact HB.out | apply below_alloc | apply pw_below_drewN | apply below_drew1 | refine below_set ?_ GE216.out) | exact HB.out))) : w.heap.size ≤ gb217)); have n4_ := Aside0.mk ((by rw [hg]; exact (below_size (by repeat (first | (with_reducible first | exact HB.out | apply below_alloc | apply pw_below_drewN | apply below_drew1 | refine below_set ?_ GE216.out) | exact HB.out))) : w.heap.size ≤ gb217)); have n5_ := Aside0.mk ((by rw [hg]; exact Nat.ne_of_lt (blk_lt (g := gb216) (o := .cells #[.int .i64 a0_0, .int .i64 a0_1, .int .i64 a0_2, .int .i64 a0_3, .int .i64 a0_4, .string a0_5] 57 (0, 0)) (by (with_reducible repeat (first | refine blk_drewN ?_ _ | refine blk_drew ?_ | refine blk_alloc ?_ _)); exact BK216.out)) : gb216 ≠ gb217)); have n6_ := Aside0.mk ((by rw [hg]; exact Nat.ne_of_gt (blk_lt (g := gb216) (o := .cells #[.int .i64 a0_0, .int .i64 a0_1, .int .i64 a0_2, .int .i64 a0_3, .int .i64 a0_4, .string a0_5] 57 (0, 0)) (by (with_reducible repeat (first | refine blk_drewN ?_ _ | refine blk_drew ?_ | refine blk_alloc ?_ _)); exact BK216.out)) : gb217 ≠ gb216)); clear BK216; clear HB; have BK216 := n0_; have HB := n1_; have BK217 := n2_; have GW217 := n3_; have GE217 := n4_; have NB216_217 := n5_; have NB217_216 := n6_; clear n0_ n1_ n2_ n3_ n4_ n5_ n6_; clear hb hbox hg; have hnb16 := NB217_216.out; have hnc16 := NB216_217.out; have hcz17_0 : w15.cell? ⟨gb217, 0, none⟩ = some (.int .i64 0) := (blk_cell BK217.out 0).trans rfl; have hcz17_1 : w15.cell? ⟨gb217, 1, none⟩ = some (.int .i64 0) := (blk_cell BK217.out 1).trans rfl; have hcz17_2 : w15.cell? ⟨gb217, 2, none⟩ = some (.int .i64 0) := (blk_cell BK217.out 2).trans rfl; have hcz17_3 : w15.cell? ⟨gb217, 3, none⟩ = some (.int .i64 0) := (blk_cell BK217.out 3).trans rfl; have hcz17_4 : w15.cell? ⟨gb217, 4, none⟩ = some (.string (⟨#[]⟩ : ByteArray)) := (blk_cell BK217.out 4).trans rfl; have hcz17_5 : w15.cell? ⟨gb217, 5, none⟩ = some (.int .u64 0) := (blk_cell BK217.out 5).trans rfl; have hcz17_6 : w15.cell? ⟨gb217, 6, none⟩ = some (.int .u64 0) := (blk_cell BK217.out 6).trans rfl; have hcz17_7 : w15.cell? ⟨gb217, 7, none⟩ = some (.int .u64 0) := (blk_cell BK217.out 7).trans rfl; have hcz17_8 : w15.cell? ⟨gb217, 8, none⟩ = some (.int .u64 0) := (blk_cell BK217.out 8).trans rfl; have hfz17_0 := blk_frozen BK217.out 0; have hfz17_1 := blk_frozen BK217.out 1; have hfz17_2 := blk_frozen BK217.out 2; have hfz17_3 := blk_frozen BK217.out 3; have hfz17_4 := blk_frozen BK217.out 4; have hfz17_5 := blk_frozen BK217.out 5; have hfz17_6 := blk_frozen BK217.out 6; have hfz17_7 := blk_frozen BK217.out 7; have hfz17_8 := blk_frozen BK217.out 8; have hcz18_0 : w15.cell? ⟨gb216, 0, none⟩ = some (.int .i64 a0_0) := (blk_cell BK216.out 0).trans rfl; have hcz18_1 : w15.cell? ⟨gb216, 1, none⟩ = some (.int .i64 a0_1) := (blk_cell BK216.out 1).trans rfl; have hcz18_2 : w15.cell? ⟨gb216, 2, none⟩ = some (.int .i64 a0_2) := (blk_cell BK216.out 2).trans rfl; have hcz18_3 : w15.cell? ⟨gb216, 3, none⟩ = some (.int .i64 a0_3) := (blk_cell BK216.out 3).trans rfl; have hcz18_4 : w15.cell? ⟨gb216, 4, none⟩ = some (.int .i64 a0_4) := (blk_cell BK216.out 4).trans rfl; have hcz18_5 : w15.cell? ⟨gb216, 5, none⟩ = some (.string a0_5) := (blk_cell BK216.out 5).trans rfl; have hfz18_0 := blk_frozen BK216.out 0; have hfz18_1 := blk_frozen BK216.out 1; have hfz18_2 := blk_frozen BK216.out 2; have hfz18_3 := blk_frozen BK216.out 3; have hfz18_4 := blk_frozen BK216.out 4; have hfz18_5 := blk_frozen BK216.out 5))
     go_ret
     exact ⟨by first | rfl | (simp [errW_none, errW_some] <;> rfl) | (simp [*, errW_none, errW_some] <;> rfl), by repeat (first | (with_reducible first | exact HB.out | apply below_alloc | apply pw_below_drewN | apply below_drew1 | refine below_set ?_ GE216.out | refine below_set ?_ GE217.out) | exact HB.out)⟩
    ·rw [if_neg c13] at H
     have c13b0 : decide (a0_0 < 18) = false := decide_eq_false c13
     clear c13
     by_cases c19 : a0_0 > 20
     ·rw [if_pos c19] at H
      have c19b0 : decide (20 < a0_0) = true := decide_eq_true c19
      clear c19
      obtain rfl := Option.some.inj H
      have hcz20_0 : wc.cell? ⟨gb216, 0, none⟩ = some (.int .i64 a0_0) := (blk_cell BK216.out 0).trans rfl
      have hcz20_1 : wc.cell? ⟨gb216, 1, none⟩ = some (.int .i64 a0_1) := (blk_cell BK216.out 1).trans rfl
      have hcz20_2 : wc.cell? ⟨gb216, 2, none⟩ = some (.int .i64 a0_2) := (blk_cell BK216.out 2).trans rfl
      have hcz20_3 : wc.cell? ⟨gb216, 3, none⟩ = some (.int .i64 a0_3) := (blk_cell BK216.out 3).trans rfl
      have hcz20_4 : wc.cell? ⟨gb216, 4, none⟩ = some (.int .i64 a0_4) := (blk_cell BK216.out 4).trans rfl
      have hcz20_5 : wc.cell? ⟨gb216, 5, none⟩ = some (.string a0_5) := (blk_cell BK216.out 5).trans rfl
      have hfz20_0 := blk_frozen BK216.out 0
      have hfz20_1 := blk_frozen BK216.out 1
      have hfz20_2 := blk_frozen BK216.out 2
      have hfz20_3 := blk_frozen BK216.out 3
      have hfz20_4 := blk_frozen BK216.out 4
      have hfz20_5 := blk_frozen BK216.out 5
      go_wp2_with (first | ((with_reducible refine gate_dst (N := 5) rfl ?_); refine box_event ?hg (N := 5) ?hd (cs := #[.int .i64 0, .int .i64 0, .int .i64 0, .int .i64 0, .string (⟨#[]⟩ : ByteArray), .int .u64 0, .int .u64 0, .int .u64 0, .int .u64 0]) (t := 52) ?hr ?_; (case hd => rfl); (case hg => rfl); (case hr => first | (go_simp; done) | (go_simp; rfl)); intro gb217 hg w21 hbox hb; have n0_ := Aside0.mk (blk_below (g := gb216) (o := .cells #[.int .i64 a0_0, .int .i64 a0_1, .int .i64 a0_2, .int .i64 a0_3, .int .i64 a0_4, .string a0_5] 57 (0, 0)) (by (with_reducible repeat (first | refine blk_drewN ?_ _ | refine blk_drew ?_ | refine blk_alloc ?_ _)); exact BK216.out) hb); have n1_ := Aside0.mk (below_step (by repeat (first | (with_reducible first | exact HB.out | apply below_alloc | apply pw_below_drewN | apply below_drew1 | refine below_set ?_ GE216.out) | exact HB.out)) hb); have n2_ := Aside0.mk (hbox); have n3_ := Aside0.mk ((by rw [hg]; exact (below_size (by repeat (first | (with_reducible first | exact HB.out | apply below_alloc | apply pw_below_drewN | apply below_drew1 | refine below_set ?_ GE216.out) | exact HB.out))) : w.heap.size ≤ gb217)); have n4_ := Aside0.mk ((by rw [hg]; exact (below_size (by repeat (first | (with_reducible first | exact HB.out | apply below_alloc | apply pw_below_drewN | apply below_drew1 | refine below_set ?_ GE216.out) | exact HB.out))) : w.heap.size ≤ gb217)); have n5_ := Aside0.mk ((by rw [hg]; exact Nat.ne_of_lt (blk_lt (g := gb216) (o := .cells #[.int .i64 a0_0, .int .i64 a0_1, .int .i64 a0_2, .int .i64 a0_3, .int .i64 a0_4, .string a0_5] 57 (0, 0)) (by (with_reducible repeat (first | refine blk_drewN ?_ _ | refine blk_drew ?_ | refine blk_alloc ?_ _)); exact BK216.out)) : gb216 ≠ gb217)); have n6_ := Aside0.mk ((by rw [hg]; exact Nat.ne_of_gt (blk_lt (g := gb216) (o := .cells #[.int .i64 a0_0, .int .i64 a0_1, .int .i64 a0_2, .int .i64 a0_3, .int .i64 a0_4, .string a0_5] 57 (0, 0)) (by (with_reducible repeat (first | refine blk_drewN ?_ _ | refine blk_drew ?_ | refine blk_alloc ?_ _)); exact BK216.out)) : gb217 ≠ gb216)); clear BK216; clear HB; have BK216 := n0_; have HB := n1_; have BK217 := n2_; have GW217 := n3_; have GE217 := n4_; have NB216_217 := n5_; have NB217_216 := n6_; clear n0_ n1_ n2_ n3_ n4_ n5_ n6_; clear hb hbox hg; have hnb22 := NB217_216.out; have hnc22 := NB216_217.out; have hcz23_0 : w21.cell? ⟨gb217, 0, none⟩ = some (.int .i64 0) := (blk_cell BK217.out 0).trans rfl; have hcz23_1 : w21.cell? ⟨gb217, 1, none⟩ = some (.int .i64 0) := (blk_cell BK217.out 1).trans rfl; have hcz23_2 : w21.cell? ⟨gb217, 2, none⟩ = some (.int .i64 0) := (blk_cell BK217.out 2).trans rfl; have hcz23_3 : w21.cell? ⟨gb217, 3, none⟩ = some (.int .i64 0) := (blk_cell BK217.out 3).trans rfl; have hcz23_4 : w21.cell? ⟨gb217, 4, none⟩ = some (.string (⟨#[]⟩ : ByteArray)) := (blk_cell BK217.out 4).trans rfl; have hcz23_5 : w21.cell? ⟨gb217, 5, none⟩ = some (.int .u64 0) := (blk_cell BK217.out 5).trans rfl; have hcz23_6 : w21.cell? ⟨gb217, 6, none⟩ = some (.int .u64 0) := (blk_cell BK217.out 6).trans rfl; have hcz23_7 : w21.cell? ⟨gb217, 7, none⟩ = some (.int .u64 0) := (blk_cell BK217.out 7).trans rfl; have hcz23_8 : w21.cell? ⟨gb217, 8, none⟩ = some (.int .u64 0) := (blk_cell BK217.out 8).trans rfl; have hfz23_0 := blk_frozen BK217.out 0; have hfz23_1 := blk_frozen BK217.out 1; have hfz23_2 := blk_frozen BK217.out 2; have hfz23_3 := blk_frozen BK217.out 3; have hfz23_4 := blk_frozen BK217.out 4; have hfz23_5 := blk_frozen BK217.out 5; have hfz23_6 := blk_frozen BK217.out 6; have hfz23_7 := blk_frozen BK217.out 7; have hfz23_8 := blk_frozen BK217.out 8; have hcz24_0 : w21.cell? ⟨gb216, 0, none⟩ = some (.int .i64 a0_0) := (blk_cell BK216.out 0).trans rfl; have hcz24_1 : w21.cell? ⟨gb216, 1, none⟩ = some (.int .i64 a0_1) := (blk_cell BK216.out 1).trans rfl; have hcz24_2 : w21.cell? ⟨gb216, 2, none⟩ = some (.int .i64 a0_2) := (blk_cell BK216.out 2).trans rfl; have hcz24_3 : w21.cell? ⟨gb216, 3, none⟩ = some (.int .i64 a0_3) := (blk_cell BK216.out 3).trans rfl; have hcz24_4 : w21.cell? ⟨gb216, 4, none⟩ = some (.int .i64 a0_4) := (blk_cell BK216.out 4).trans rfl; have hcz24_5 : w21.cell? ⟨gb216, 5, none⟩ = some (.string a0_5) := (blk_cell BK216.out 5).trans rfl; have hfz24_0 := blk_frozen BK216.out 0; have hfz24_1 := blk_frozen BK216.out 1; have hfz24_2 := blk_frozen BK216.out 2; have hfz24_3 := blk_frozen BK216.out 3; have hfz24_4 := blk_frozen BK216.out 4; have hfz24_5 := blk_frozen BK216.out 5))
      go_ret
      exact ⟨by first | rfl | (simp [errW_none, errW_some] <;> rfl) | (simp [*, errW_none, errW_some] <;> rfl), by repeat (first | (with_reducible first | exact HB.out | apply below_alloc | apply pw_below_drewN | apply below_drew1 | refine below_set ?_ GE216.out | refine below_set ?_ GE217.out) | exact HB.out)⟩
     ·rw [if_neg c19] at H
      have c19b0 : decide (20 < a0_0) = false := decide_eq_false c19
      clear c19
      obtain ⟨y218, hy218⟩ : ∃ y_ : List (S52), y_ = (([(⟨a0_0, a0_3, a0_1, a0_4, a0_5, (⟨0, 0, 0, 0⟩ : S50)⟩ : S52), (⟨17, 0, 0, 0, (⟨#[]⟩ : ByteArray), (⟨0, 0, 0, 0⟩ : S50)⟩ : S52)] : List (S52))) := ⟨_, rfl⟩
      replace H : ((instr_Check.f kj2 y218).bind fun bt221 => (some (bt221.2 == 0))) = some r := by first | (rw [hy218]; with_reducible exact H) | (have H2_ := (Option.bind_some _ _).symm.trans H; rw [hy218]; with_reducible exact H2_) | (have H2_ := (Option.bind_some _ _).symm.trans H; with_reducible exact H2_) | with_reducible exact H | (rw [hy218]; exact H) | exact H
      have Ny218 := Aside0.mk hy218
      clear hy218
      replace H := Option.bind_eq_some_iff.mp H
      obtain ⟨⟨t221, t222⟩, A250, H⟩ := H
      replace H : (some (t222 == 0)) = some r := H
      have A25 := Aside0.mk A250
      clear A250
      obtain rfl := Option.some.inj H
      have hcz26_0 : wc.cell? ⟨gb216, 0, none⟩ = some (.int .i64 a0_0) := (blk_cell BK216.out 0).trans rfl
      have hcz26_1 : wc.cell? ⟨gb216, 1, none⟩ = some (.int .i64 a0_1) := (blk_cell BK216.out 1).trans rfl
      have hcz26_2 : wc.cell? ⟨gb216, 2, none⟩ = some (.int .i64 a0_2) := (blk_cell BK216.out 2).trans rfl
      have hcz26_3 : wc.cell? ⟨gb216, 3, none⟩ = some (.int .i64 a0_3) := (blk_cell BK216.out 3).trans rfl
      have hcz26_4 : wc.cell? ⟨gb216, 4, none⟩ = some (.int .i64 a0_4) := (blk_cell BK216.out 4).trans rfl
      have hcz26_5 : wc.cell? ⟨gb216, 5, none⟩ = some (.string a0_5) := (blk_cell BK216.out 5).trans rfl
      have hfz26_0 := blk_frozen BK216.out 0
      have hfz26_1 := blk_frozen BK216.out 1
      have hfz26_2 := blk_frozen BK216.out 2
      have hfz26_3 := blk_frozen BK216.out 3
      have hfz26_4 := blk_frozen BK216.out 4
      have hfz26_5 := blk_frozen BK216.out 5
      go_wp2_with (first | ((with_reducible refine gate_dst (N := 5) rfl ?_); refine box_event ?hg (N := 5) ?hd (cs := #[.int .i64 0, .int .i64 0, .int .i64 0, .int .i64 0, .string (⟨#[]⟩ : ByteArray), .int .u64 0, .int .u64 0, .int .u64 0, .int .u64 0]) (t := 52) ?hr ?_; (case hd => rfl); (case hg => rfl); (case hr => first | (go_simp; done) | (go_simp; rfl)); intro gb217 hg w27 hbox hb; have n0_ := Aside0.mk (blk_below (g := gb216) (o := .cells #[.int .i64 a0_0, .int .i64 a0_1, .int .i64 a0_2, .int .i64 a0_3, .int .i64 a0_4, .string a0_5] 57 (0, 0)) (by (with_reducible repeat (first | refine blk_drewN ?_ _ | refine blk_drew ?_ | refine blk_alloc ?_ _)); exact BK216.out) hb); have n1_ := Aside0.mk (below_step (by repeat (first | (with_reducible first | exact HB.out | apply below_alloc | apply pw_below_drewN | apply below_drew1 | refine below_set ?_ GE216.out) | exact HB.out)) hb); have n2_ := Aside0.mk (hbox); have n3_ := Aside0.mk ((by rw [hg]; exact (below_size (by repeat (first | (with_reducible first | exact HB.out | apply below_alloc | apply pw_below_drewN | apply below_drew1 | refine below_set ?_ GE216.out) | exact HB.out))) : w.heap.size ≤ gb217)); have n4_ := Aside0.mk ((by rw [hg]; exact (below_size (by repeat (first | (with_reducible first | exact HB.out | apply below_alloc | apply pw_below_drewN | apply below_drew1 | refine below_set ?_ GE216.out) | exact HB.out))) : w.heap.size ≤ gb217)); have n5_ := Aside0.mk ((by rw [hg]; exact Nat.ne_of_lt (blk_lt (g := gb216) (o := .cells #[.int .i64 a0_0, .int .i64 a0_1, .int .i64 a0_2, .int .i64 a0_3, .int .i64 a0_4, .string a0_5] 57 (0, 0)) (by (with_reducible repeat (first | refine blk_drewN ?_ _ | refine blk_drew ?_ | refine blk_alloc ?_ _)); exact BK216.out)) : gb216 ≠ gb217)); have n6_ := Aside0.mk ((by rw [hg]; exact Nat.ne_of_gt (blk_lt (g := gb216) (o := .cells #[.int .i64 a0_0, .int .i64 a0_1, .int .i64 a0_2, .int .i64 a0_3, .int .i64 a0_4, .string a0_5] 57 (0, 0)) (by (with_reducible repeat (first | refine blk_drewN ?_ _ | refine blk_drew ?_ | refine blk_alloc ?_ _)); exact BK216.out)) : gb217 ≠ gb216)); clear BK216; clear HB; have BK216 := n0_; have HB := n1_; have BK217 := n2_; have GW217 := n3_; have GE217 := n4_; have NB216_217 := n5_; have NB217_216 := n6_; clear n0_ n1_ n2_ n3_ n4_ n5_ n6_; clear hb hbox hg; have hnb28 := NB217_216.out; have hnc28 := NB216_217.out; have hcz29_0 : w27.cell? ⟨gb217, 0, none⟩ = some (.int .i64 0) := (blk_cell BK217.out 0).trans rfl; have hcz29_1 : w27.cell? ⟨gb217, 1, none⟩ = some (.int .i64 0) := (blk_cell BK217.out 1).trans rfl; have hcz29_2 : w27.cell? ⟨gb217, 2, none⟩ = some (.int .i64 0) := (blk_cell BK217.out 2).trans rfl; have hcz29_3 : w27.cell? ⟨gb217, 3, none⟩ = some (.int .i64 0) := (blk_cell BK217.out 3).trans rfl; have hcz29_4 : w27.cell? ⟨gb217, 4, none⟩ = some (.string (⟨#[]⟩ : ByteArray)) := (blk_cell BK217.out 4).trans rfl; have hcz29_5 : w27.cell? ⟨gb217, 5, none⟩ = some (.int .u64 0) := (blk_cell BK217.out 5).trans rfl; have hcz29_6 : w27.cell? ⟨gb217, 6, none⟩ = some (.int .u64 0) := (blk_cell BK217.out 6).trans rfl; have hcz29_7 : w27.cell? ⟨gb217, 7, none⟩ = some (.int .u64 0) := (blk_cell BK217.out 7).trans rfl; have hcz29_8 : w27.cell? ⟨gb217, 8, none⟩ = some (.int .u64 0) := (blk_cell BK217.out 8).trans rfl; have hfz29_0 := blk_frozen BK217.out 0; have hfz29_1 := blk_frozen BK217.out 1; have hfz29_2 := blk_frozen BK217.out 2; have hfz29_3 := blk_frozen BK217.out 3; have hfz29_4 := blk_frozen BK217.out 4; have hfz29_5 := blk_frozen BK217.out 5; have hfz29_6 := blk_frozen BK217.out 6; have hfz29_7 := blk_frozen BK217.out 7; have hfz29_8 := blk_frozen BK217.out 8; have hcz30_0 : w27.cell? ⟨gb216, 0, none⟩ = some (.int .i64 a0_0) := (blk_cell BK216.out 0).trans rfl; have hcz30_1 : w27.cell? ⟨gb216, 1, none⟩ = some (.int .i64 a0_1) := (blk_cell BK216.out 1).trans rfl; have hcz30_2 : w27.cell? ⟨gb216, 2, none⟩ = some (.int .i64 a0_2) := (blk_cell BK216.out 2).trans rfl; have hcz30_3 : w27.cell? ⟨gb216, 3, none⟩ = some (.int .i64 a0_3) := (blk_cell BK216.out 3).trans rfl; have hcz30_4 : w27.cell? ⟨gb216, 4, none⟩ = some (.int .i64 a0_4) := (blk_cell BK216.out 4).trans rfl; have hcz30_5 : w27.cell? ⟨gb216, 5, none⟩ = some (.string a0_5) := (blk_cell BK216.out 5).trans rfl; have hfz30_0 := blk_frozen BK216.out 0; have hfz30_1 := blk_frozen BK216.out 1; have hfz30_2 := blk_frozen BK216.out 2; have hfz30_3 := blk_frozen BK216.out 3; have hfz30_4 := blk_frozen BK216.out 4; have hfz30_5 := blk_frozen BK216.out 5) | ((with_reducible refine gate_dst (N := 53) rfl ?_); refine Kd.R_lit k52 _ 52 ?hg (N := 53) ?hd (xs := ([(⟨a0_0, a0_3, a0_1, a0_4, a0_5, (⟨0, 0, 0, 0⟩ : S50)⟩ : S52), (⟨17, 0, 0, 0, (⟨#[]⟩ : ByteArray), (⟨0, 0, 0, 0⟩ : S50)⟩ : S52)] : List (S52))) (inner := [.int .i64 a0_0, .int .i64 a0_3, .int .i64 a0_1, .int .i64 a0_4, .string a0_5, .int .u64 0, .int .u64 0, .int .u64 0, .int .u64 0, .int .i64 17, .int .i64 0, .int .i64 0, .int .i64 0, .string (⟨#[]⟩ : ByteArray), .int .u64 0, .int .u64 0, .int .u64 0, .int .u64 0]) (ok := fun _ => True) (okp := fun _ => True) ?hr ?hp (fun _ hk => hk) trivial (Below.refl _ _) (Nat.le_refl _) (by simp) ?_; (case hd => rfl); (case hg => rfl); (case hr => first | (go_simp; done) | (go_simp; rfl)); (case hp => exact (Reps.c9 (show Kd.M k52 _ _ _ (⟨a0_0, a0_3, a0_1, a0_4, a0_5, (⟨0, 0, 0, 0⟩ : S50)⟩ : S52) [.int .i64 a0_0, .int .i64 a0_3, .int .i64 a0_1, .int .i64 a0_4, .string a0_5, .int .u64 0, .int .u64 0, .int .u64 0, .int .u64 0] from (k52_mkM _ _ _ (⟨a0_0, a0_3, a0_1, a0_4, a0_5, (⟨0, 0, 0, 0⟩ : S50)⟩ : S52) )) (Reps.c9 (show Kd.M k52 _ _ _ (⟨17, 0, 0, 0, (⟨#[]⟩ : ByteArray), (⟨0, 0, 0, 0⟩ : S50)⟩ : S52) [.int .i64 17, .int .i64 0, .int .i64 0, .int .i64 0, .string (⟨#[]⟩ : ByteArray), .int .u64 0, .int .u64 0, .int .u64 0, .int .u64 0] from (k52_mkM _ _ _ (⟨17, 0, 0, 0, (⟨#[]⟩ : ByteArray), (⟨0, 0, 0, 0⟩ : S50)⟩ : S52) )) (Reps.none _ _)))); intro v219 w31 ho32 hb hg_ hnew_; clear hg_ hnew_; (first | rw [← Ny218.out] at ho32 | (simp only [Int.reduceToNat] at ho32; rw [← Ny218.out] at ho32)); have n0_ := Aside0.mk (Kd.R_lower (Kd.R_newB ho32 (g := gb217) (o := .cells #[.int .i64 a0_0, .int .i64 a0_3, .int .i64 a0_1, .int .i64 a0_4, .string a0_5, .int .u64 0, .int .u64 0, .int .u64 0, .int .u64 0] 52 (0, 0)) (by (with_reducible repeat (first | refine blk_drewN ?_ _ | refine blk_drew ?_ | refine blk_alloc ?_ _)); refine blk_put (cs := #[.int .i64 a0_0, .int .i64 a0_3, .int .i64 a0_1, .int .i64 a0_4, .string a0_5, .int .u64 0, .int .u64 0, .int .u64 0, .int .u64 0]) ?_ 8 _ rfl; (with_reducible repeat (first | refine blk_drewN ?_ _ | refine blk_drew ?_ | refine blk_alloc ?_ _)); refine blk_put (cs := #[.int .i64 a0_0, .int .i64 a0_3, .int .i64 a0_1, .int .i64 a0_4, .string a0_5, .int .u64 0, .int .u64 0, .int .u64 0, .int .u64 0]) ?_ 7 _ rfl; (with_reducible repeat (first | refine blk_drewN ?_ _ | refine blk_drew ?_ | refine blk_alloc ?_ _)); refine blk_put (cs := #[.int .i64 a0_0, .int .i64 a0_3, .int .i64 a0_1, .int .i64 a0_4, .string a0_5, .int .u64 0, .int .u64 0, .int .u64 0, .int .u64 0]) ?_ 6 _ rfl; (with_reducible repeat (first | refine blk_drewN ?_ _ | refine blk_drew ?_ | refine blk_alloc ?_ _)); refine blk_put (cs := #[.int .i64 a0_0, .int .i64 a0_3, .int .i64 a0_1, .int .i64 a0_4, .string a0_5, .int .u64 0, .int .u64 0, .int .u64 0, .int .u64 0]) ?_ 5 _ rfl; (with_reducible repeat (first | refine blk_drewN ?_ _ | refine blk_drew ?_ | refine blk_alloc ?_ _)); refine blk_put (cs := #[.int .i64 a0_0, .int .i64 a0_3, .int .i64 a0_1, .int .i64 a0_4, .string (⟨#[]⟩ : ByteArray), .int .u64 0, .int .u64 0, .int .u64 0, .int .u64 0]) ?_ 4 _ rfl; (with_reducible repeat (first | refine blk_drewN ?_ _ | refine blk_drew ?_ | refine blk_alloc ?_ _)); refine blk_put (cs := #[.int .i64 a0_0, .int .i64 a0_3, .int .i64 a0_1, .int .i64 0, .string (⟨#[]⟩ : ByteArray), .int .u64 0, .int .u64 0, .int .u64 0, .int .u64 0]) ?_ 3 _ rfl; (with_reducible repeat (first | refine blk_drewN ?_ _ | refine blk_drew ?_ | refine blk_alloc ?_ _)); refine blk_put (cs := #[.int .i64 a0_0, .int .i64 a0_3, .int .i64 0, .int .i64 0, .string (⟨#[]⟩ : ByteArray), .int .u64 0, .int .u64 0, .int .u64 0, .int .u64 0]) ?_ 2 _ rfl; (with_reducible repeat (first | refine blk_drewN ?_ _ | refine blk_drew ?_ | refine blk_alloc ?_ _)); refine blk_put (cs := #[.int .i64 a0_0, .int .i64 0, .int .i64 0, .int .i64 0, .string (⟨#[]⟩ : ByteArray), .int .u64 0, .int .u64 0, .int .u64 0, .int .u64 0]) ?_ 1 _ rfl; (with_reducible repeat (first | refine blk_drewN ?_ _ | refine blk_drew ?_ | refine blk_alloc ?_ _)); refine blk_put (cs := #[.int .i64 0, .int .i64 0, .int .i64 0, .int .i64 0, .string (⟨#[]⟩ : ByteArray), .int .u64 0, .int .u64 0, .int .u64 0, .int .u64 0]) ?_ 0 _ rfl; (with_reducible repeat (first | refine blk_drewN ?_ _ | refine blk_drew ?_ | refine blk_alloc ?_ _)); exact BK217.out)) (below_size (by repeat (first | (with_reducible first | exact HB.out | apply below_alloc | apply pw_below_drewN | apply below_drew1 | refine below_set ?_ GE216.out | refine below_set ?_ GE217.out) | exact HB.out)))); have n1_ := Aside0.mk (blk_below (g := gb216) (o := .cells #[.int .i64 a0_0, .int .i64 a0_1, .int .i64 a0_2, .int .i64 a0_3, .int .i64 a0_4, .string a0_5] 57 (0, 0)) (by (with_reducible repeat (first | refine blk_drewN ?_ _ | refine blk_drew ?_ | refine blk_alloc ?_ _)); refine blk_far ?_ NB216_217.out _; (with_reducible repeat (first | refine blk_drewN ?_ _ | refine blk_drew ?_ | refine blk_alloc ?_ _)); refine blk_far ?_ NB216_217.out _; (with_reducible repeat (first | refine blk_drewN ?_ _ | refine blk_drew ?_ | refine blk_alloc ?_ _)); refine blk_far ?_ NB216_217.out _; (with_reducible repeat (first | refine blk_drewN ?_ _ | refine blk_drew ?_ | refine blk_alloc ?_ _)); refine blk_far ?_ NB216_217.out _; (with_reducible repeat (first | refine blk_drewN ?_ _ | refine blk_drew ?_ | refine blk_alloc ?_ _)); refine blk_far ?_ NB216_217.out _; (with_reducible repeat (first | refine blk_drewN ?_ _ | refine blk_drew ?_ | refine blk_alloc ?_ _)); refine blk_far ?_ NB216_217.out _; (with_reducible repeat (first | refine blk_drewN ?_ _ | refine blk_drew ?_ | refine blk_alloc ?_ _)); refine blk_far ?_ NB216_217.out _; (with_reducible repeat (first | refine blk_drewN ?_ _ | refine blk_drew ?_ | refine blk_alloc ?_ _)); refine blk_far ?_ NB216_217.out _; (with_reducible repeat (first | refine blk_drewN ?_ _ | refine blk_drew ?_ | refine blk_alloc ?_ _)); refine blk_far ?_ NB216_217.out _; (with_reducible repeat (first | refine blk_drewN ?_ _ | refine blk_drew ?_ | refine blk_alloc ?_ _)); exact BK216.out) hb); have n2_ := Aside0.mk (blk_below (g := gb217) (o := .cells #[.int .i64 a0_0, .int .i64 a0_3, .int .i64 a0_1, .int .i64 a0_4, .string a0_5, .int .u64 0, .int .u64 0, .int .u64 0, .int .u64 0] 52 (0, 0)) (by (with_reducible repeat (first | refine blk_drewN ?_ _ | refine blk_drew ?_ | refine blk_alloc ?_ _)); refine blk_put (cs := #[.int .i64 a0_0, .int .i64 a0_3, .int .i64 a0_1, .int .i64 a0_4, .string a0_5, .int .u64 0, .int .u64 0, .int .u64 0, .int .u64 0]) ?_ 8 _ rfl; (with_reducible repeat (first | refine blk_drewN ?_ _ | refine blk_drew ?_ | refine blk_alloc ?_ _)); refine blk_put (cs := #[.int .i64 a0_0, .int .i64 a0_3, .int .i64 a0_1, .int .i64 a0_4, .string a0_5, .int .u64 0, .int .u64 0, .int .u64 0, .int .u64 0]) ?_ 7 _ rfl; (with_reducible repeat (first | refine blk_drewN ?_ _ | refine blk_drew ?_ | refine blk_alloc ?_ _)); refine blk_put (cs := #[.int .i64 a0_0, .int .i64 a0_3, .int .i64 a0_1, .int .i64 a0_4, .string a0_5, .int .u64 0, .int .u64 0, .int .u64 0, .int .u64 0]) ?_ 6 _ rfl; (with_reducible repeat (first | refine blk_drewN ?_ _ | refine blk_drew ?_ | refine blk_alloc ?_ _)); refine blk_put (cs := #[.int .i64 a0_0, .int .i64 a0_3, .int .i64 a0_1, .int .i64 a0_4, .string a0_5, .int .u64 0, .int .u64 0, .int .u64 0, .int .u64 0]) ?_ 5 _ rfl; (with_reducible repeat (first | refine blk_drewN ?_ _ | refine blk_drew ?_ | refine blk_alloc ?_ _)); refine blk_put (cs := #[.int .i64 a0_0, .int .i64 a0_3, .int .i64 a0_1, .int .i64 a0_4, .string (⟨#[]⟩ : ByteArray), .int .u64 0, .int .u64 0, .int .u64 0, .int .u64 0]) ?_ 4 _ rfl; (with_reducible repeat (first | refine blk_drewN ?_ _ | refine blk_drew ?_ | refine blk_alloc ?_ _)); refine blk_put (cs := #[.int .i64 a0_0, .int .i64 a0_3, .int .i64 a0_1, .int .i64 0, .string (⟨#[]⟩ : ByteArray), .int .u64 0, .int .u64 0, .int .u64 0, .int .u64 0]) ?_ 3 _ rfl; (with_reducible repeat (first | refine blk_drewN ?_ _ | refine blk_drew ?_ | refine blk_alloc ?_ _)); refine blk_put (cs := #[.int .i64 a0_0, .int .i64 a0_3, .int .i64 0, .int .i64 0, .string (⟨#[]⟩ : ByteArray), .int .u64 0, .int .u64 0, .int .u64 0, .int .u64 0]) ?_ 2 _ rfl; (with_reducible repeat (first | refine blk_drewN ?_ _ | refine blk_drew ?_ | refine blk_alloc ?_ _)); refine blk_put (cs := #[.int .i64 a0_0, .int .i64 0, .int .i64 0, .int .i64 0, .string (⟨#[]⟩ : ByteArray), .int .u64 0, .int .u64 0, .int .u64 0, .int .u64 0]) ?_ 1 _ rfl; (with_reducible repeat (first | refine blk_drewN ?_ _ | refine blk_drew ?_ | refine blk_alloc ?_ _)); refine blk_put (cs := #[.int .i64 0, .int .i64 0, .int .i64 0, .int .i64 0, .string (⟨#[]⟩ : ByteArray), .int .u64 0, .int .u64 0, .int .u64 0, .int .u64 0]) ?_ 0 _ rfl; (with_reducible repeat (first | refine blk_drewN ?_ _ | refine blk_drew ?_ | refine blk_alloc ?_ _)); exact BK217.out) hb); have n3_ := Aside0.mk (below_step (by repeat (first | (with_reducible first | exact HB.out | apply below_alloc | apply pw_below_drewN | apply below_drew1 | refine below_set ?_ GE216.out | refine below_set ?_ GE217.out) | exact HB.out)) hb); clear BK216; clear BK217; clear HB; have HO220 := n0_; have BK216 := n1_; have BK217 := n2_; have HB := n3_; clear n0_ n1_ n2_ n3_; clear hb ho32; obtain ⟨Ao33, co33, eo33⟩ := Kd.R_slice HO220.out; subst eo33) | ((with_reducible refine gate_callee (f := 44) rfl ?_); refine goesL_ (some 54) rfl rfl Tryd.func44 (by kernel_rfl) rfl #[.slice Ao33 y218.length co33] rfl (by (try simp only [List.map_toArray, List.map_cons, List.map_nil]); first | done | rfl | (simp only [List.length_drop, List.length_take]; rfl)) ?_; (with_reducible refine (instr_Check.calls kj2 _ _ y218 t221 t222 _ ?side1 ?side2 A25.out (UsesOk.below hU (by repeat (first | (with_reducible first | exact HB.out | apply below_alloc | apply pw_below_drewN | apply below_drew1 | refine below_set ?_ GE216.out | refine below_set ?_ GE217.out) | exact HB.out)))).mono ?_); (case side1 => repeat (first | exact (Kd.R_reads' HO220.out).2.2 | (with_reducible refine Kd.C_alloc ?_ _) | (with_reducible refine Kd.C_drewN ?_ _) | (with_reducible refine Kd.C_drew ?_))); (case side2 => exact (Kd.R_reads' HO220.out).2.1); rintro e w34 ⟨rfl, hb⟩; refine ⟨_, rfl, ?_⟩; have n0_ := Aside0.mk (Kd.R_below (by (with_reducible repeat (first | apply Kd.R_alloc | apply Kd.R_drewN | apply Kd.R_drew)); exact HO220.out) hb); have n1_ := Aside0.mk (blk_below (g := gb216) (o := .cells #[.int .i64 a0_0, .int .i64 a0_1, .int .i64 a0_2, .int .i64 a0_3, .int .i64 a0_4, .string a0_5] 57 (0, 0)) (by (with_reducible repeat (first | refine blk_drewN ?_ _ | refine blk_drew ?_ | refine blk_alloc ?_ _)); exact BK216.out) hb); have n2_ := Aside0.mk (blk_below (g := gb217) (o := .cells #[.int .i64 a0_0, .int .i64 a0_3, .int .i64 a0_1, .int .i64 a0_4, .string a0_5, .int .u64 0, .int .u64 0, .int .u64 0, .int .u64 0] 52 (0, 0)) (by (with_reducible repeat (first | refine blk_drewN ?_ _ | refine blk_drew ?_ | refine blk_alloc ?_ _)); exact BK217.out) hb); have n3_ := Aside0.mk (below_step (by repeat (first | (with_reducible first | exact HB.out | apply below_alloc | apply pw_below_drewN | apply below_drew1 | refine below_set ?_ GE216.out | refine below_set ?_ GE217.out) | exact HB.out)) hb); clear HO220; clear BK216; clear BK217; clear HB; have HO220 := n0_; have BK216 := n1_; have BK217 := n2_; have HB := n3_; clear n0_ n1_ n2_ n3_; (try clear hb); (try clear hb2); (try clear hk); (try clear hi)))
      go_ret
      exact ⟨by first | rfl | (simp [errW_none, errW_some] <;> rfl) | (simp [*, errW_none, errW_some] <;> rfl), by repeat (first | (with_reducible first | exact HB.out | apply below_alloc | apply pw_below_drewN | apply below_drew1 | refine below_set ?_ GE216.out | refine below_set ?_ GE217.out) | exact HB.out)⟩

end Go.Proofs.YthjlpcecfkboiaaDoor.Z

-- PRINTED by print.py (a twelfth state) out of the translation. Not trusted: Lean checks it.
namespace Go.Proofs.YthjlpcecfkboiaaDoor.Z
open Go.RowKit Go.Proofs.YthjlpcecfkboiaaDoorW.PrintWords Go.Proofs.YthjlpcecfkboiaaDoorW.PrintLast Go.Proofs.YthjlpcecfkboiaaDoorW.PrintMore
attribute [local go_sem] eqset_a eqset_b max2_int min2_int max_two min_two max_three min_three max_four min_four   -- for this text's walks alone
set_option linter.unusedVariables false
set_option linter.unusedSimpArgs false

/-! ### steps_mayStack: function 40 -/
mutual
def steps_mayStack.l0 : Nat → Int → Int → Int → Int → List (S55) → Int → Int → Option (Bool)
 | 0, _, _, _, _, _, _, _ => none
 | k + 1, x1, x2, x3, x9, x12, x13, x14 => if x14 < x13 then (if 0 ≤ x14 then (if x14 < (x12.length : Int) then (if ((rd_T55 x12 x14).f1) < 0 then (steps_mayStack.j1 k x1 x2 x3 x9 x12 x13 x14 true ((rd_T55 x12 x14).f0) ((rd_T55 x12 x14).f1) ((rd_T55 x12 x14).f2) ((rd_T55 x12 x14).f3)) else (steps_mayStack.j1 k x1 x2 x3 x9 x12 x13 x14 (decide (((rd_T55 x12 x14).f1) ≥ x1)) ((rd_T55 x12 x14).f0) ((rd_T55 x12 x14).f1) ((rd_T55 x12 x14).f2) ((rd_T55 x12 x14).f3))) else (none)) else (none)) else (some true)
def steps_mayStack.j1 : Nat → Int → Int → Int → Int → List (S55) → Int → Int → Bool → Bool → Int → Int → Int → Option (Bool)
 | 0, _, _, _, _, _, _, _, _, _, _, _, _ => none
 | k + 1, x1, x2, x3, x9, x12, x13, x14, x26, x225000, x225001, x225002, x225003 => if x26 = true then (some false) else (if x225000 = true then (if x225002 = 0 then (steps_mayStack.j2 k x1 x2 x3 x9 x12 x13 x14 (x225003 != 0)) else (steps_mayStack.j2 k x1 x2 x3 x9 x12 x13 x14 true)) else (if x225002 < 0 then (some false) else (if x225002 > x2 then (some false) else (if x225003 < x9 then (some false) else (if x225003 > x3 then (some false) else (steps_mayStack.l0 k x1 x2 x3 x225003 x12 x13 (wrap64 (x14 + 1))))))))
def steps_mayStack.j2 : Nat → Int → Int → Int → Int → List (S55) → Int → Int → Bool → Option (Bool)
 | 0, _, _, _, _, _, _, _, _ => none
 | k + 1, x1, x2, x3, x9, x12, x13, x14, x36 => if x36 = true then (some false) else (steps_mayStack.l0 k x1 x2 x3 x9 x12 x13 (wrap64 (x14 + 1)))
end
def steps_mayStack.f (k : Nat) (l0 : List (S55)) (a1 : Int) (a2 : Int) (a3 : Int) : Option (Bool) := steps_mayStack.l0 k a1 a2 a3 0 l0 (l0.length : Int) 0
set_option maxHeartbeats 8000000 in
set_option maxRecDepth 100000 in
theorem steps_mayStack.calls (k : Nat) (A0 : Option Addr) (c0 : Nat) (l0 : List (S55)) (a1 : Int) (a2 : Int) (a3 : Int) (r : Bool) (w : World) (hr0 : Kd.C k55 w A0 l0.length l0) (hc0 : l0.length ≤ c0) (h : steps_mayStack.f k l0 a1 a2 a3 = some r) :
  Calls Tryd.prog 40 #[.slice A0 l0.length c0, .int .i64 a1, .int .i64 a2, .int .i64 a3] w fun e w' => e = .returned (.bool r) ∧ Below w.heap.size w w' := by
 have hu55 := Tryd.underlying55
 have HR0 := Aside0.mk hr0
 have HC0 := Aside0.mk hc0
 clear hr0 hc0
 have HB := Aside0.mk (Below.refl w.heap.size w)
 have H : (steps_mayStack.l0 k a1 a2 a3 0 l0 (l0.length : Int) 0) = some r := h
 clear h
 have H' := Aside0.mk H
 clear H
 go_enter Tryd.func40, Tryd.ntmps40
 go_wp2
 go_loopg [9, 14] k (fun kq v9 v14 w' => ∃ (x9_1 : Int) (x14_1 : Int), v9 = .int .i64 x9_1 ∧ v14 = .int .i64 x14_1 ∧ Aside0 (steps_mayStack.l0 kq a1 a2 a3 x9_1 l0 (l0.length : Int) x14_1 = some r) ∧ Aside0 (kq ≤ k) ∧ Aside0 (Below w.heap.size w w'))
 case atStart => exact ⟨(0), (0), (by first | rfl | (simp; done) | (simp [*]; done)), (by first | rfl | (simp; done) | (simp [*]; done)), H', ⟨Nat.le_refl _⟩, ⟨by repeat (first | (with_reducible first | exact HB.out | apply below_alloc | apply pw_below_drewN | apply below_drew1) | exact HB.out)⟩⟩
 case round =>
  clear H'
  try clear p2
  try clear c4
  obtain ⟨x9_1, x14_1, rfl, rfl, HA, HK1, HB⟩ := hrel
  cases gk with
  | zero => exact absurd HA.out (by simp [steps_mayStack.l0])
  | succ k1 =>
   have H := HA.out
   clear HA
   simp only [steps_mayStack.l0] at H
   by_cases c5 : x14_1 < (l0.length : Int)
   ·rw [if_pos c5] at H
    have c5b0 : decide (x14_1 < (l0.length : Int)) = true := decide_eq_true c5
    clear c5
    by_cases c6 : 0 ≤ x14_1
    ·rw [if_pos c6] at H
     have c6b0 : decide (0 ≤ x14_1) = true := decide_eq_true c6
     clear c6
     by_cases c7 : x14_1 < (l0.length : Int)
     ·rw [if_pos c7] at H
      have c7b0 : decide (x14_1 < (l0.length : Int)) = true := decide_eq_true c7
      clear c7
      have HC8 := Aside0.mk H
      clear H
      have p223 : 0 ≤ (x14_1 : Int) := of_decide_eq_true (by first | (with_reducible assumption) | assumption)
      have q223 : x14_1 < (l0.length : Int) := of_decide_eq_true (by first | (with_reducible assumption) | assumption)
      obtain ⟨ad223, e223, hx223_0, hx223_1, hx223_2, hx223_3⟩ := at_T55 HR0.out x14_1 p223 q223
      cases e223
      replace hx223_0 := (HB.out.cell (World.block_lt_of_cell? w _ hx223_0)).trans hx223_0
      replace hx223_1 := (HB.out.cell (World.block_lt_of_cell? w _ hx223_1)).trans hx223_1
      replace hx223_2 := (HB.out.cell (World.block_lt_of_cell? w _ hx223_2)).trans hx223_2
      replace hx223_3 := (HB.out.cell (World.block_lt_of_cell? w _ hx223_3)).trans hx223_3
      replace p223 := eq_true p223
      replace q223 := eq_true q223
      go_upto_region 5 with (first | ((with_reducible refine gate_dst (N := 11) rfl ?_); refine box_event ?hg (N := 11) ?hd (cs := #[.bool false, .int .i64 0, .int .i64 0, .int .i64 0]) (t := 55) ?hr ?_; (case hd => rfl); (case hg => rfl); (case hr => first | (go_simp; done) | (go_simp; rfl)); intro gb224 hg w9 hbox hb; have n0_ := Aside0.mk (below_step (by repeat (first | (with_reducible first | exact HB.out | apply below_alloc | apply pw_below_drewN | apply below_drew1) | exact HB.out)) hb); have n1_ := Aside0.mk (hbox); have n2_ := Aside0.mk ((by rw [hg]; exact (below_size (by repeat (first | (with_reducible first | exact HB.out | apply below_alloc | apply pw_below_drewN | apply below_drew1) | exact HB.out))) : w.heap.size ≤ gb224)); have n3_ := Aside0.mk ((by rw [hg]; exact (below_size (by repeat (first | (with_reducible first | exact HB.out | apply below_alloc | apply pw_below_drewN | apply below_drew1) | exact HB.out))) : w.heap.size ≤ gb224)); clear HB; have HB := n0_; have BK224 := n1_; have GW224 := n2_; have GE224 := n3_; clear n0_ n1_ n2_ n3_; clear hb hbox hg; have hcz10_0 : w9.cell? ⟨gb224, 0, none⟩ = some (.bool false) := (blk_cell BK224.out 0).trans rfl; have hcz10_1 : w9.cell? ⟨gb224, 1, none⟩ = some (.int .i64 0) := (blk_cell BK224.out 1).trans rfl; have hcz10_2 : w9.cell? ⟨gb224, 2, none⟩ = some (.int .i64 0) := (blk_cell BK224.out 2).trans rfl; have hcz10_3 : w9.cell? ⟨gb224, 3, none⟩ = some (.int .i64 0) := (blk_cell BK224.out 3).trans rfl; have hfz10_0 := blk_frozen BK224.out 0; have hfz10_1 := blk_frozen BK224.out 1; have hfz10_2 := blk_frozen BK224.out 2; have hfz10_3 := blk_frozen BK224.out 3))
      (try simp only [Act.put, List.setIfInBounds_toArray, List.set_cons_zero, List.set_cons_succ])
      go_cut [26] (fun v26 wc => ∃ (kq : Nat) (x26_7 : Bool), v26 = .bool x26_7 ∧ Aside0 (steps_mayStack.j1 kq a1 a2 a3 x9_1 l0 (l0.length : Int) x14_1 x26_7 ((rd_T55 l0 x14_1).f0) ((rd_T55 l0 x14_1).f1) ((rd_T55 l0 x14_1).f2) ((rd_T55 l0 x14_1).f3) = some r) ∧ Aside0 (kq ≤ k1) ∧ Aside0 (wc.heap[gb224]? = some (.cells #[.bool ((rd_T55 l0 x14_1).f0), .int .i64 ((rd_T55 l0 x14_1).f1), .int .i64 ((rd_T55 l0 x14_1).f2), .int .i64 ((rd_T55 l0 x14_1).f3)] 55 (0, 0))) ∧ Aside0 (Below w.heap.size w wc))
      case first =>
       have H := HC8.out
       clear HC8
       by_cases c11 : ((rd_T55 l0 x14_1).f1) < 0
       ·rw [if_pos c11] at H
        have c11b0 : decide (((rd_T55 l0 x14_1).f1) < 0) = true := decide_eq_true c11
        clear c11
        (first | rw [c11b0] | (simp only [i64_w, i32_w]; rw [c11b0]) | skip)
        have H' := Aside0.mk H
        clear H
        have hcz12_0 : w9.cell? ⟨gb224, 0, none⟩ = some (.bool false) := (blk_cell BK224.out 0).trans rfl
        have hcz12_1 : w9.cell? ⟨gb224, 1, none⟩ = some (.int .i64 0) := (blk_cell BK224.out 1).trans rfl
        have hcz12_2 : w9.cell? ⟨gb224, 2, none⟩ = some (.int .i64 0) := (blk_cell BK224.out 2).trans rfl
        have hcz12_3 : w9.cell? ⟨gb224, 3, none⟩ = some (.int .i64 0) := (blk_cell BK224.out 3).trans rfl
        have hfz12_0 := blk_frozen BK224.out 0
        have hfz12_1 := blk_frozen BK224.out 1
        have hfz12_2 := blk_frozen BK224.out 2
        have hfz12_3 := blk_frozen BK224.out 3
        go_wp2
        go_meet
        case rel => exact ⟨_, (true), (by first | rfl | (simp; done) | (simp [*]; done)), H', ⟨by have := HK1.out; first | omega | exact Nat.le_refl _⟩, ⟨by (with_reducible repeat (first | refine blk_drewN ?_ _ | refine blk_drew ?_ | refine blk_alloc ?_ _)); refine blk_put (cs := #[.bool ((rd_T55 l0 x14_1).f0), .int .i64 ((rd_T55 l0 x14_1).f1), .int .i64 ((rd_T55 l0 x14_1).f2), .int .i64 0]) ?_ 3 _ rfl; (with_reducible repeat (first | refine blk_drewN ?_ _ | refine blk_drew ?_ | refine blk_alloc ?_ _)); refine blk_put (cs := #[.bool ((rd_T55 l0 x14_1).f0), .int .i64 ((rd_T55 l0 x14_1).f1), .int .i64 0, .int .i64 0]) ?_ 2 _ rfl; (with_reducible repeat (first | refine blk_drewN ?_ _ | refine blk_drew ?_ | refine blk_alloc ?_ _)); refine blk_put (cs := #[.bool ((rd_T55 l0 x14_1).f0), .int .i64 0, .int .i64 0, .int .i64 0]) ?_ 1 _ rfl; (with_reducible repeat (first | refine blk_drewN ?_ _ | refine blk_drew ?_ | refine blk_alloc ?_ _)); refine blk_put (cs := #[.bool false, .int .i64 0, .int .i64 0, .int .i64 0]) ?_ 0 _ rfl; (with_reducible repeat (first | refine blk_drewN ?_ _ | refine blk_drew ?_ | refine blk_alloc ?_ _)); exact BK224.out⟩, ⟨by repeat (first | (with_reducible first | exact HB.out | apply below_alloc | apply pw_below_drewN | apply below_drew1 | refine below_set ?_ GE224.out) | exact HB.out)⟩⟩
       ·rw [if_neg c11] at H
        have c11b0 : decide (((rd_T55 l0 x14_1).f1) < 0) = false := decide_eq_false c11
        clear c11
        (first | rw [c11b0] | (simp only [i64_w, i32_w]; rw [c11b0]) | skip)
        have H' := Aside0.mk H
        clear H
        have hcz13_0 : w9.cell? ⟨gb224, 0, none⟩ = some (.bool false) := (blk_cell BK224.out 0).trans rfl
        have hcz13_1 : w9.cell? ⟨gb224, 1, none⟩ = some (.int .i64 0) := (blk_cell BK224.out 1).trans rfl
        have hcz13_2 : w9.cell? ⟨gb224, 2, none⟩ = some (.int .i64 0) := (blk_cell BK224.out 2).trans rfl
        have hcz13_3 : w9.cell? ⟨gb224, 3, none⟩ = some (.int .i64 0) := (blk_cell BK224.out 3).trans rfl
        have hfz13_0 := blk_frozen BK224.out 0
        have hfz13_1 := blk_frozen BK224.out 1
        have hfz13_2 := blk_frozen BK224.out 2
        have hfz13_3 := blk_frozen BK224.out 3
        go_wp2
        go_meet
        case rel => exact ⟨_, (decide (((rd_T55 l0 x14_1).f1) ≥ a1)), (by first | rfl | (simp; done) | (simp [*]; done)), H', ⟨by have := HK1.out; first | omega | exact Nat.le_refl _⟩, ⟨by (with_reducible repeat (first | refine blk_drewN ?_ _ | refine blk_drew ?_ | refine blk_alloc ?_ _)); refine blk_put (cs := #[.bool ((rd_T55 l0 x14_1).f0), .int .i64 ((rd_T55 l0 x14_1).f1), .int .i64 ((rd_T55 l0 x14_1).f2), .int .i64 0]) ?_ 3 _ rfl; (with_reducible repeat (first | refine blk_drewN ?_ _ | refine blk_drew ?_ | refine blk_alloc ?_ _)); refine blk_put (cs := #[.bool ((rd_T55 l0 x14_1).f0), .int .i64 ((rd_T55 l0 x14_1).f1), .int .i64 0, .int .i64 0]) ?_ 2 _ rfl; (with_reducible repeat (first | refine blk_drewN ?_ _ | refine blk_drew ?_ | refine blk_alloc ?_ _)); refine blk_put (cs := #[.bool ((rd_T55 l0 x14_1).f0), .int .i64 0, .int .i64 0, .int .i64 0]) ?_ 1 _ rfl; (with_reducible repeat (first | refine blk_drewN ?_ _ | refine blk_drew ?_ | refine blk_alloc ?_ _)); refine blk_put (cs := #[.bool false, .int .i64 0, .int .i64 0, .int .i64 0]) ?_ 0 _ rfl; (with_reducible repeat (first | refine blk_drewN ?_ _ | refine blk_drew ?_ | refine blk_alloc ?_ _)); exact BK224.out⟩, ⟨by repeat (first | (with_reducible first | exact HB.out | apply below_alloc | apply pw_below_drewN | apply below_drew1 | refine below_set ?_ GE224.out) | exact HB.out)⟩⟩
      case rest =>
       clear HC8
       try clear c1
       try clear p2
       try clear q2
       try clear hx2
       try clear c4
       try clear c5
       try clear c5b0
       try clear c6
       try clear c6b0
       try clear c7
       try clear c7b0
       try clear c11
       try clear c11b0
       try clear hcz10_0
       try clear hcz10_1
       try clear hcz10_2
       try clear hcz10_3
       try clear hcz12_0
       try clear hcz12_1
       try clear hcz12_2
       try clear hcz12_3
       try clear hcz13_0
       try clear hcz13_1
       try clear hcz13_2
       try clear hcz13_3
       try clear hfz10_0
       try clear hfz10_1
       try clear hfz10_2
       try clear hfz10_3
       try clear hfz12_0
       try clear hfz12_1
       try clear hfz12_2
       try clear hfz12_3
       try clear hfz13_0
       try clear hfz13_1
       try clear hfz13_2
       try clear hfz13_3
       try clear hx223_0
       try clear hx223_1
       try clear hx223_2
       try clear hx223_3
       try clear p2
       try clear p223
       try clear q223
       obtain ⟨kq, x26_7, rfl, HA, HJ7, BK224, HB⟩ := hcut
       cases kq with
       | zero => exact absurd HA.out (by simp [steps_mayStack.j1])
       | succ kj7 =>
        have H := HA.out
        clear HA
        simp only [steps_mayStack.j1] at H
        by_cases c14 : x26_7 = true
        ·subst c14
         have H1 : (some false) = some r := by rw [if_pos rfl] at H; exact H
         clear H
         have H := H1
         clear H1
         obtain rfl := Option.some.inj H
         go_wp2
         go_ret
         exact ⟨by first | rfl | (simp [errW_none, errW_some] <;> rfl) | (simp [*, errW_none, errW_some] <;> rfl), by repeat (first | (with_reducible first | exact HB.out | apply below_alloc | apply pw_below_drewN | apply below_drew1 | refine below_set ?_ GE224.out) | exact HB.out)⟩
        ·replace c14 := Bool.eq_false_iff.mpr c14
         subst c14
         have H1 : (if ((rd_T55 l0 x14_1).f0) = true then (if ((rd_T55 l0 x14_1).f2) = 0 then (steps_mayStack.j2 kj7 a1 a2 a3 x9_1 l0 (l0.length : Int) x14_1 (((rd_T55 l0 x14_1).f3) != 0)) else (steps_mayStack.j2 kj7 a1 a2 a3 x9_1 l0 (l0.length : Int) x14_1 true)) else (if ((rd_T55 l0 x14_1).f2) < 0 then (some false) else (if ((rd_T55 l0 x14_1).f2) > a2 then (some false) else (if ((rd_T55 l0 x14_1).f3) < x9_1 then (some false) else (if ((rd_T55 l0 x14_1).f3) > a3 then (some false) else (steps_mayStack.l0 kj7 a1 a2 a3 ((rd_T55 l0 x14_1).f3) l0 (l0.length : Int) (wrap64 (x14_1 + 1)))))))) = some r := by rw [if_neg (show ¬ (false = true) by decide)] at H; exact H
         clear H
         have H := H1
         clear H1
         by_cases c15 : ((rd_T55 l0 x14_1).f0) = true
         ·rw [if_pos c15] at H
          have c15b0 : ((rd_T55 l0 x14_1).f0) = true := c15
          clear c15
          have HC16 := Aside0.mk H
          clear H
          have hcz17_0 : wc.cell? ⟨gb224, 0, none⟩ = some (.bool ((rd_T55 l0 x14_1).f0)) := (blk_cell BK224.out 0).trans rfl
          have hcz17_1 : wc.cell? ⟨gb224, 1, none⟩ = some (.int .i64 ((rd_T55 l0 x14_1).f1)) := (blk_cell BK224.out 1).trans rfl
          have hcz17_2 : wc.cell? ⟨gb224, 2, none⟩ = some (.int .i64 ((rd_T55 l0 x14_1).f2)) := (blk_cell BK224.out 2).trans rfl
          have hcz17_3 : wc.cell? ⟨gb224, 3, none⟩ = some (.int .i64 ((rd_T55 l0 x14_1).f3)) := (blk_cell BK224.out 3).trans rfl
          have hfz17_0 := blk_frozen BK224.out 0
          have hfz17_1 := blk_frozen BK224.out 1
          have hfz17_2 := blk_frozen BK224.out 2
          have hfz17_3 := blk_frozen BK224.out 3
          go_upto_region 8 with (fail)
          go_cut [36] (fun v36 wc => ∃ (kq : Nat) (x36_15 : Bool), v36 = .bool x36_15 ∧ Aside0 (steps_mayStack.j2 kq a1 a2 a3 x9_1 l0 (l0.length : Int) x14_1 x36_15 = some r) ∧ Aside0 (kq ≤ kj7) ∧ Aside0 (wc.heap[gb224]? = some (.cells #[.bool ((rd_T55 l0 x14_1).f0), .int .i64 ((rd_T55 l0 x14_1).f1), .int .i64 ((rd_T55 l0 x14_1).f2), .int .i64 ((rd_T55 l0 x14_1).f3)] 55 (0, 0))) ∧ Aside0 (Below w.heap.size w wc))
          case first =>
           have H := HC16.out
           clear HC16
           by_cases c18 : ((rd_T55 l0 x14_1).f2) = 0
           ·rw [if_pos c18] at H
            have c18b0 : (((rd_T55 l0 x14_1).f2) == 0) = true := beq_iff_eq.mpr c18
            have c18b1 : (((rd_T55 l0 x14_1).f2) != 0) = false := bne_eq_false_iff_eq.mpr c18
            clear c18
            (first | rw [c18b0] | (simp only [i64_w, i32_w]; rw [c18b0]) | skip)
            have H' := Aside0.mk H
            clear H
            have hcz19_0 : wc.cell? ⟨gb224, 0, none⟩ = some (.bool ((rd_T55 l0 x14_1).f0)) := (blk_cell BK224.out 0).trans rfl
            have hcz19_1 : wc.cell? ⟨gb224, 1, none⟩ = some (.int .i64 ((rd_T55 l0 x14_1).f1)) := (blk_cell BK224.out 1).trans rfl
            have hcz19_2 : wc.cell? ⟨gb224, 2, none⟩ = some (.int .i64 ((rd_T55 l0 x14_1).f2)) := (blk_cell BK224.out 2).trans rfl
            have hcz19_3 : wc.cell? ⟨gb224, 3, none⟩ = some (.int .i64 ((rd_T55 l0 x14_1).f3)) := (blk_cell BK224.out 3).trans rfl
            have hfz19_0 := blk_frozen BK224.out 0
            have hfz19_1 := blk_frozen BK224.out 1
            have hfz19_2 := blk_frozen BK224.out 2
            have hfz19_3 := blk_frozen BK224.out 3
            go_wp2
            go_meet
            case rel => exact ⟨_, ((((rd_T55 l0 x14_1).f3) != 0)), (by first | rfl | (simp; done) | (simp [*]; done)), H', ⟨by have := HK1.out; have := HJ7.out; first | omega | exact Nat.le_refl _⟩, ⟨by (with_reducible repeat (first | refine blk_drewN ?_ _ | refine blk_drew ?_ | refine blk_alloc ?_ _)); exact BK224.out⟩, ⟨by repeat (first | (with_reducible first | exact HB.out | apply below_alloc | apply pw_below_drewN | apply below_drew1 | refine below_set ?_ GE224.out) | exact HB.out)⟩⟩
           ·rw [if_neg c18] at H
            have c18b0 : (((rd_T55 l0 x14_1).f2) == 0) = false := beq_eq_false_iff_ne.mpr c18
            have c18b1 : (((rd_T55 l0 x14_1).f2) != 0) = true := bne_iff_ne.mpr c18
            (first | rw [c18b0] | (simp only [i64_w, i32_w]; rw [c18b0]) | skip)
            have H' := Aside0.mk H
            clear H
            have hcz20_0 : wc.cell? ⟨gb224, 0, none⟩ = some (.bool ((rd_T55 l0 x14_1).f0)) := (blk_cell BK224.out 0).trans rfl
            have hcz20_1 : wc.cell? ⟨gb224, 1, none⟩ = some (.int .i64 ((rd_T55 l0 x14_1).f1)) := (blk_cell BK224.out 1).trans rfl
            have hcz20_2 : wc.cell? ⟨gb224, 2, none⟩ = some (.int .i64 ((rd_T55 l0 x14_1).f2)) := (blk_cell BK224.out 2).trans rfl
            have hcz20_3 : wc.cell? ⟨gb224, 3, none⟩ = some (.int .i64 ((rd_T55 l0 x14_1).f3)) := (blk_cell BK224.out 3).trans rfl
            have hfz20_0 := blk_frozen BK224.out 0
            have hfz20_1 := blk_frozen BK224.out 1
            have hfz20_2 := blk_frozen BK224.out 2
            have hfz20_3 := blk_frozen BK224.out 3
            go_wp2
            go_meet
            case rel => exact ⟨_, (true), (by first | rfl | (simp; done) | (simp [*]; done)), H', ⟨by have := HK1.out; have := HJ7.out; first | omega | exact Nat.le_refl _⟩, ⟨by (with_reducible repeat (first | refine blk_drewN ?_ _ | refine blk_drew ?_ | refine blk_alloc ?_ _)); exact BK224.out⟩, ⟨by repeat (first | (with_reducible first | exact HB.out | apply below_alloc | apply pw_below_drewN | apply below_drew1 | refine below_set ?_ GE224.out) | exact HB.out)⟩⟩
          case rest =>
           clear HC16
           try clear c1
           try clear p2
           try clear q2
           try clear hx2
           try clear c4
           try clear c5
           try clear c5b0
           try clear c6
           try clear c6b0
           try clear p6
           try clear c7
           try clear c7b0
           try clear c11
           try clear c11b0
           try clear c14
           try clear c15
           try clear c15b0
           try clear c18
           try clear c18b0
           try clear c18b1
           try clear hcz10_0
           try clear hcz10_1
           try clear hcz10_2
           try clear hcz10_3
           try clear hcz12_0
           try clear hcz12_1
           try clear hcz12_2
           try clear hcz12_3
           try clear hcz13_0
           try clear hcz13_1
           try clear hcz13_2
           try clear hcz13_3
           try clear hcz17_0
           try clear hcz17_1
           try clear hcz17_2
           try clear hcz17_3
           try clear hcz19_0
           try clear hcz19_1
           try clear hcz19_2
           try clear hcz19_3
           try clear hcz20_0
           try clear hcz20_1
           try clear hcz20_2
           try clear hcz20_3
           try clear hfz10_0
           try clear hfz10_1
           try clear hfz10_2
           try clear hfz10_3
           try clear hfz12_0
           try clear hfz12_1
           try clear hfz12_2
           try clear hfz12_3
           try clear hfz13_0
           try clear hfz13_1
           try clear hfz13_2
           try clear hfz13_3
           try clear hfz17_0
           try clear hfz17_1
           try clear hfz17_2
           try clear hfz17_3
           try clear hfz19_0
           try clear hfz19_1
           try clear hfz19_2
           try clear hfz19_3
           try clear hfz20_0
           try clear hfz20_1
           try clear hfz20_2
           try clear hfz20_3
           try clear hx223_0
           try clear hx223_1
           try clear hx223_2
           try clear hx223_3
           try clear p2
           try clear p223
           try clear q2
           try clear q223
           obtain ⟨kq, x36_15, rfl, HA, HJ15, BK224, HB⟩ := hcut
           cases kq with
           | zero => exact absurd HA.out (by simp [steps_mayStack.j2])
           | succ kj15 =>
            have H := HA.out
            clear HA
            simp only [steps_mayStack.j2] at H
            by_cases c21 : x36_15 = true
            ·subst c21
             have H1 : (some false) = some r := by rw [if_pos rfl] at H; exact H
             clear H
             have H := H1
             clear H1
             obtain rfl := Option.some.inj H
             go_wp2
             go_ret
             exact ⟨by first | rfl | (simp [errW_none, errW_some] <;> rfl) | (simp [*, errW_none, errW_some] <;> rfl), by repeat (first | (with_reducible first | exact HB.out | apply below_alloc | apply pw_below_drewN | apply below_drew1 | refine below_set ?_ GE224.out) | exact HB.out)⟩
            ·replace c21 := Bool.eq_false_iff.mpr c21
             subst c21
             have H1 : (steps_mayStack.l0 kj15 a1 a2 a3 x9_1 l0 (l0.length : Int) (wrap64 (x14_1 + 1))) = some r := by rw [if_neg (show ¬ (false = true) by decide)] at H; exact H
             clear H
             have H := H1
             clear H1
             have H' := Aside0.mk H
             clear H
             go_wp2
             go_roundg kj15
             case measure => have := HK1.out; have := HJ7.out; have := HJ15.out; omega
             case rel => exact ⟨(x9_1), (wrap64 (x14_1 + 1)), (by first | rfl | (simp; done) | (simp [*]; done)), (by first | rfl | (simp; done) | (simp [*]; done)), H', ⟨by have := HK1.out; have := HJ7.out; have := HJ15.out; omega⟩, ⟨by repeat (first | (with_reducible first | exact HB.out | apply below_alloc | apply pw_below_drewN | apply below_drew1 | refine below_set ?_ GE224.out) | exact HB.out)⟩⟩
         ·rw [if_neg c15] at H
          have c15b0 : ((rd_T55 l0 x14_1).f0) = false := by simpa using c15
          clear c15
          by_cases c22 : ((rd_T55 l0 x14_1).f2) < 0
          ·rw [if_pos c22] at H
           have c22b0 : decide (((rd_T55 l0 x14_1).f2) < 0) = true := decide_eq_true c22
           clear c22
           obtain rfl := Option.some.inj H
           have hcz23_0 : wc.cell? ⟨gb224, 0, none⟩ = some (.bool ((rd_T55 l0 x14_1).f0)) := (blk_cell BK224.out 0).trans rfl
           have hcz23_1 : wc.cell? ⟨gb224, 1, none⟩ = some (.int .i64 ((rd_T55 l0 x14_1).f1)) := (blk_cell BK224.out 1).trans rfl
           have hcz23_2 : wc.cell? ⟨gb224, 2, none⟩ = some (.int .i64 ((rd_T55 l0 x14_1).f2)) := (blk_cell BK224.out 2).trans rfl
           have hcz23_3 : wc.cell? ⟨gb224, 3, none⟩ = some (.int .i64 ((rd_T55 l0 x14_1).f3)) := (blk_cell BK224.out 3).trans rfl
           have hfz23_0 := blk_frozen BK224.out 0
           have hfz23_1 := blk_frozen BK224.out 1
           have hfz23_2 := blk_frozen BK224.out 2
           have hfz23_3 := blk_frozen BK224.out 3
           go_wp2
           go_ret
           exact ⟨by first | rfl | (simp [errW_none, errW_some] <;> rfl) | (simp [*, errW_none, errW_some] <;> rfl), by repeat (first | (with_reducible first | exact HB.out | apply below_alloc | apply pw_below_drewN | apply below_drew1 | refine below_set ?_ GE224.out) | exact HB.out)⟩
          ·rw [if_neg c22] at H
           have c22b0 : decide (((rd_T55 l0 x14_1).f2) < 0) = false := decide_eq_false c22
           clear c22
           by_cases c24 : ((rd_T55 l0 x14_1).f2) > a2
           ·rw [if_pos c24] at H
            have c24b0 : decide (a2 < ((rd_T55 l0 x14_1).f2)) = true := decide_eq_true c24
            clear c24
            obtain rfl := Option.some.inj H
            have hcz25_0 : wc.cell? ⟨gb224, 0, none⟩ = some (.bool ((rd_T55 l0 x14_1).f0)) := (blk_cell BK224.out 0).trans rfl
            have hcz25_1 : wc.cell? ⟨gb224, 1, none⟩ = some (.int .i64 ((rd_T55 l0 x14_1).f1)) := (blk_cell BK224.out 1).trans rfl
            have hcz25_2 : wc.cell? ⟨gb224, 2, none⟩ = some (.int .i64 ((rd_T55 l0 x14_1).f2)) := (blk_cell BK224.out 2).trans rfl
            have hcz25_3 : wc.cell? ⟨gb224, 3, none⟩ = some (.int .i64 ((rd_T55 l0 x14_1).f3)) := (blk_cell BK224.out 3).trans rfl
            have hfz25_0 := blk_frozen BK224.out 0
            have hfz25_1 := blk_frozen BK224.out 1
            have hfz25_2 := blk_frozen BK224.out 2
            have hfz25_3 := blk_frozen BK224.out 3
            go_wp2
            go_ret
            exact ⟨by first | rfl | (simp [errW_none, errW_some] <;> rfl) | (simp [*, errW_none, errW_some] <;> rfl), by repeat (first | (with_reducible first | exact HB.out | apply below_alloc | apply pw_below_drewN | apply below_drew1 | refine below_set ?_ GE224.out) | exact HB.out)⟩
           ·rw [if_neg c24] at H
            have c24b0 : decide (a2 < ((rd_T55 l0 x14_1).f2)) = false := decide_eq_false c24
            clear c24
            by_cases c26 : ((rd_T55 l0 x14_1).f3) < x9_1
            ·rw [if_pos c26] at H
             have c26b0 : decide (((rd_T55 l0 x14_1).f3) < x9_1) = true := decide_eq_true c26
             clear c26
             obtain rfl := Option.some.inj H
             have hcz27_0 : wc.cell? ⟨gb224, 0, none⟩ = some (.bool ((rd_T55 l0 x14_1).f0)) := (blk_cell BK224.out 0).trans rfl
             have hcz27_1 : wc.cell? ⟨gb224, 1, none⟩ = some (.int .i64 ((rd_T55 l0 x14_1).f1)) := (blk_cell BK224.out 1).trans rfl
             have hcz27_2 : wc.cell? ⟨gb224, 2, none⟩ = some (.int .i64 ((rd_T55 l0 x14_1).f2)) := (blk_cell BK224.out 2).trans rfl
             have hcz27_3 : wc.cell? ⟨gb224, 3, none⟩ = some (.int .i64 ((rd_T55 l0 x14_1).f3)) := (blk_cell BK224.out 3).trans rfl
             have hfz27_0 := blk_frozen BK224.out 0
             have hfz27_1 := blk_frozen BK224.out 1
             have hfz27_2 := blk_frozen BK224.out 2
             have hfz27_3 := blk_frozen BK224.out 3
             go_wp2
             go_ret
             exact ⟨by first | rfl | (simp [errW_none, errW_some] <;> rfl) | (simp [*, errW_none, errW_some] <;> rfl), by repeat (first | (with_reducible first | exact HB.out | apply below_alloc | apply pw_below_drewN | apply below_drew1 | refine below_set ?_ GE224.out) | exact HB.out)⟩
            ·rw [if_neg c26] at H
             have c26b0 : decide (((rd_T55 l0 x14_1).f3) < x9_1) = false := decide_eq_false c26
             clear c26
             by_cases c28 : ((rd_T55 l0 x14_1).f3) > a3
             ·rw [if_pos c28] at H
              have c28b0 : decide (a3 < ((rd_T55 l0 x14_1).f3)) = true := decide_eq_true c28
              clear c28
              obtain rfl := Option.some.inj H
              have hcz29_0 : wc.cell? ⟨gb224, 0, none⟩ = some (.bool ((rd_T55 l0 x14_1).f0)) := (blk_cell BK224.out 0).trans rfl
              have hcz29_1 : wc.cell? ⟨gb224, 1, none⟩ = some (.int .i64 ((rd_T55 l0 x14_1).f1)) := (blk_cell BK224.out 1).trans rfl
              have hcz29_2 : wc.cell? ⟨gb224, 2, none⟩ = some (.int .i64 ((rd_T55 l0 x14_1).f2)) := (blk_cell BK224.out 2).trans rfl
              have hcz29_3 : wc.cell? ⟨gb224, 3, none⟩ = some (.int .i64 ((rd_T55 l0 x14_1).f3)) := (blk_cell BK224.out 3).trans rfl
              have hfz29_0 := blk_frozen BK224.out 0
              have hfz29_1 := blk_frozen BK224.out 1
              have hfz29_2 := blk_frozen BK224.out 2
              have hfz29_3 := blk_frozen BK224.out 3
              go_wp2
              go_ret
              exact ⟨by first | rfl | (simp [errW_none, errW_some] <;> rfl) | (simp [*, errW_none, errW_some] <;> rfl), by repeat (first | (with_reducible first | exact HB.out | apply below_alloc | apply pw_below_drewN | apply below_drew1 | refine below_set ?_ GE224.out) | exact HB.out)⟩
             ·rw [if_neg c28] at H
              have c28b0 : decide (a3 < ((rd_T55 l0 x14_1).f3)) = false := decide_eq_false c28
              clear c28
              have H' := Aside0.mk H
              clear H
              have hcz30_0 : wc.cell? ⟨gb224, 0, none⟩ = some (.bool ((rd_T55 l0 x14_1).f0)) := (blk_cell BK224.out 0).trans rfl
              have hcz30_1 : wc.cell? ⟨gb224, 1, none⟩ = some (.int .i64 ((rd_T55 l0 x14_1).f1)) := (blk_cell BK224.out 1).trans rfl
              have hcz30_2 : wc.cell? ⟨gb224, 2, none⟩ = some (.int .i64 ((rd_T55 l0 x14_1).f2)) := (blk_cell BK224.out 2).trans rfl
              have hcz30_3 : wc.cell? ⟨gb224, 3, none⟩ = some (.int .i64 ((rd_T55 l0 x14_1).f3)) := (blk_cell BK224.out 3).trans rfl
              have hfz30_0 := blk_frozen BK224.out 0
              have hfz30_1 := blk_frozen BK224.out 1
              have hfz30_2 := blk_frozen BK224.out 2
              have hfz30_3 := blk_frozen BK224.out 3
              go_wp2
              go_roundg kj7
              case measure => have := HK1.out; have := HJ7.out; omega
              case rel => exact ⟨(((rd_T55 l0 x14_1).f3)), (wrap64 (x14_1 + 1)), (by first | rfl | (simp; done) | (simp [*]; done)), (by first | rfl | (simp; done) | (simp [*]; done)), H', ⟨by have := HK1.out; have := HJ7.out; omega⟩, ⟨by repeat (first | (with_reducible first | exact HB.out | apply below_alloc | apply pw_below_drewN | apply below_drew1 | refine below_set ?_ GE224.out) | exact HB.out)⟩⟩
     ·rw [if_neg c7] at H
      exact absurd H (by simp)
    ·rw [if_neg c6] at H
     exact absurd H (by simp)
   ·rw [if_neg c5] at H
    have c5b0 : decide (x14_1 < (l0.length : Int)) = false := decide_eq_false c5
    clear c5
    obtain rfl := Option.some.inj H
    go_wp2
    go_ret
    exact ⟨by first | rfl | (simp [errW_none, errW_some] <;> rfl) | (simp [*, errW_none, errW_some] <;> rfl), by repeat (first | (with_reducible first | exact HB.out | apply below_alloc | apply pw_below_drewN | apply below_drew1) | exact HB.out)⟩

end Go.Proofs.YthjlpcecfkboiaaDoor.Z
