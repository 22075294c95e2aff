/-
  Parts of a proof, joined: CIsEmptyExpr. No condition.
-/
import Derived.Test.YtjlmdhoajfdkbaaGreatDoorTie
import Derived.Test.YtjlmdhoajfdkbaaGreatDoorCards
import Derived.Test.YtjlmdhoajfdkbaaGreatDoorPk33
import Derived.Test.YtjlmdhoajfdkbaaGreatDoorPk36
namespace Go.Proofs.YtjlmdhoajfdkbaaGreatDoor
set_option linter.unusedVariables false
set_option linter.unusedSimpArgs false
open Go Go.ChangeShapes Go.Deep Go.WideShapes Go.ChangeAt Go.RowKit
set_option maxRecDepth 100000 in
theorem fnExactIsEmptyExpr_closed : joinedFacts Tryz.prog 8 Tryz.f8 Rows.fnExactIsEmptyExprSpec Rows.fnExactIsEmptyExprRow = true := by
 unfold joinedFacts
 exact (band (band (band (band (band (band (band (band (band (band (band (band (band (band (band (band (band (band (band (band (band (band (band (band (band (band (band (band (band (band (band fnExactIsEmptyExpr_k0 fnExactIsEmptyExpr_k1) fnExactIsEmptyExpr_k2) fnExactIsEmptyExpr_k3) fnExactIsEmptyExpr_k4) fnExactIsEmptyExpr_k5) fnExactIsEmptyExpr_k6) fnExactIsEmptyExpr_k7) fnExactIsEmptyExpr_k8) fnExactIsEmptyExpr_k9) fnExactIsEmptyExpr_k10) fnExactIsEmptyExpr_k11) fnExactIsEmptyExpr_k12) fnExactIsEmptyExpr_k13) fnExactIsEmptyExpr_k14) fnExactIsEmptyExpr_k15) fnExactIsEmptyExpr_k16) fnExactIsEmptyExpr_k17) fnExactIsEmptyExpr_k18) fnExactIsEmptyExpr_k19) fnExactIsEmptyExpr_k20) fnExactIsEmptyExpr_k21) fnExactIsEmptyExpr_k22) fnExactIsEmptyExpr_k23) fnExactIsEmptyExpr_k24) fnExactIsEmptyExpr_k25) fnExactIsEmptyExpr_k26) fnExactIsEmptyExpr_k27) fnExactIsEmptyExpr_k28) fnExactIsEmptyExpr_k29) fnExactIsEmptyExpr_k30) fnExactIsEmptyExpr_k31)
theorem door_met (os : Os) (args : Array Value) : laidMetH Tryz.prog [("math/bits.deBruijn32tab", Rows.laid_math_bits_deBruijn32tab), ("math/bits.deBruijn64tab", Rows.laid_math_bits_deBruijn64tab), ("internal/strconv.uint64pow10", Rows.laid_internal_strconv_uint64pow10)] ((World.doorLaid Tryz.prog 24 os).forCall (fun _ _ => 0) ⟨#[], args, []⟩).memory :=
 laidMetH_of_parts3 (fuel := 8) (laidMet_of_run' 8 (by kernel_rfl) (by kernel_rfl)) (by kernel_rfl) (by kernel_rfl)
set_option maxRecDepth 100000 in
theorem fnExactIsEmptyExpr_lifted (os : Os) (started : os.Started) (H : Type) (enc : TypeId × Value → H) :
  ReturnsInHanded {} Tryz.checked os 8 .any (fun w args => (Rows.fnExactIsEmptyExprSpec.pre enc Tryz.prog Tryz.f8 [] false w args ∧ laidMetH Tryz.prog [("math/bits.deBruijn32tab", Rows.laid_math_bits_deBruijn32tab), ("math/bits.deBruijn64tab", Rows.laid_math_bits_deBruijn64tab), ("internal/strconv.uint64pow10", Rows.laid_internal_strconv_uint64pow10)] w) ∧ sizedMet enc Tryz.prog Tryz.f8 (OpenSpec.ofChange Rows.fnExactIsEmptyExprSpec) false w args)
   (Rows.fnExactIsEmptyExprSpec.post enc Tryz.prog Tryz.f8 false true false false) :=
 laid_lifted (C := Tryz.checked) own laid (by kernel_rfl) rfl (by kernel_rfl) Tryz.underlying4 Tryz.func8 (by kernel_rfl)
  (fun H ds h => by
   rw [Tryz.params8] at h
   match ds, h with | [d0, d1], _ => rfl) os started H enc
  (ChangeSpec.witness_shaped (enc := enc) (C := Tryz.checked) (os := os) (X := fun w _ => laidMetH Tryz.prog [("math/bits.deBruijn32tab", Rows.laid_math_bits_deBruijn32tab), ("math/bits.deBruijn64tab", Rows.laid_math_bits_deBruijn64tab), ("internal/strconv.uint64pow10", Rows.laid_internal_strconv_uint64pow10)] w) false (World.doorLaid Tryz.prog 24 os) #[.agg #[.int .i64 0, .int .i64 0], .agg #[.int .i64 0, .int .i64 0, .slice none 0 0]] 8 rfl (World.shaped_of_RefB (by kernel_rfl) (by kernel_rfl)) (by kernel_rfl) (by kernel_rfl) (by kernel_rfl) (door_met os _))
  (fun W args ds ps hA hval _ => law_IsEmptyExpr_of W args ds ps hA hval)
theorem fnExactIsEmptyExpr_over : Rows.FnExactIsEmptyExprSaid :=
 OpenClaim.holds_of_wide 8 Tryz.f8 rfl rfl rfl rfl rfl rfl rfl ⟨rfl, rfl, rfl, rfl, rfl⟩ rfl rfl rfl rfl rfl (by kernel_rfl) Tryz.func8 fnExactIsEmptyExpr_closed
  (of_decide_eq_true (by kernel_rfl)) (by unfold Func.isWrapper; rw [if_neg (of_decide_eq_false (by kernel_rfl))]; exact ⟨rfl, rfl⟩)
  (fun os started H enc _ => fnExactIsEmptyExpr_lifted os started H enc)
theorem fnExactIsEmptyExprCard_proved : Rows.FnExactIsEmptyExprCardSaid :=
 Claim7.holds_tied_plain_at .later [] [.data, .data, .data] true Rows.fnExactIsEmptyExprCard.stood.harness false
  fnExactIsEmptyExpr_over (fun _ h => by cases h) (by kernel_rfl) (fun _ h => by cases h) fnExactIsEmptyExpr_row_tie rfl ⟨rfl, rfl⟩ (by kernel_rfl) rfl
  (fun f fn hf hfn => by
   obtain rfl : f = 8 := Option.some.inj ((show Tryz.prog.funcNamed "loop.example/g01101/laws.FnExactIsEmptyExpr" = some 8 by kernel_rfl).symm.trans hf) |>.symm
   obtain rfl : fn = Tryz.f8 := (Option.some.inj (Tryz.func8.symm.trans hfn)).symm
   exact ⟨by kernel_rfl, fun j t ht => by
    have hall : (Tryz.f8.params.toList.all fun u => !Tryz.prog.wantsStandIn u) = true := by kernel_rfl
    have hm : t ∈ Tryz.f8.params.toList := by simpa using Array.mem_of_getElem? ht
    exact (show Tryz.prog.wantsStandIn t = false by simpa using List.all_eq_true.1 hall t hm)⟩)
  (by kernel_rfl)
#print axioms fnExactIsEmptyExprCard_proved
end Go.Proofs.YtjlmdhoajfdkbaaGreatDoor
