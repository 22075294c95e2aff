/-
  Parts of a proof, joined: CEqualExprs. No condition.
-/
import Derived.Test.YtfopdcdbelaapaaGreatDoorPk1
import Derived.Test.YtfopdcdbelaapaaGreatDoorPk32
namespace Go.Proofs.YtfopdcdbelaapaaGreatDoor
set_option linter.unusedVariables false
set_option linter.unusedSimpArgs false
open Go Go.ChangeShapes Go.Deep Go.WideShapes Go.ChangeAt Go.RowKit
set_option maxRecDepth 100000 in
theorem fnExactEqualExprs_closed : joinedFacts Tryz.prog 4 Tryz.f4 Rows.fnExactEqualExprsSpec Rows.fnExactEqualExprsRow = true := by
 unfold joinedFacts
 exact (band (band (band (band (band (band (band (band (band (band (band (band (band (band (band (band (band (band (band (band (band (band (band (band (band (band (band (band (band (band (band fnExactEqualExprs_k0 fnExactEqualExprs_k1) fnExactEqualExprs_k2) fnExactEqualExprs_k3) fnExactEqualExprs_k4) fnExactEqualExprs_k5) fnExactEqualExprs_k6) fnExactEqualExprs_k7) fnExactEqualExprs_k8) fnExactEqualExprs_k9) fnExactEqualExprs_k10) fnExactEqualExprs_k11) fnExactEqualExprs_k12) fnExactEqualExprs_k13) fnExactEqualExprs_k14) fnExactEqualExprs_k15) fnExactEqualExprs_k16) fnExactEqualExprs_k17) fnExactEqualExprs_k18) fnExactEqualExprs_k19) fnExactEqualExprs_k20) fnExactEqualExprs_k21) fnExactEqualExprs_k22) fnExactEqualExprs_k23) fnExactEqualExprs_k24) fnExactEqualExprs_k25) fnExactEqualExprs_k26) fnExactEqualExprs_k27) fnExactEqualExprs_k28) fnExactEqualExprs_k29) fnExactEqualExprs_k30) fnExactEqualExprs_k31)
theorem door_met (os : Os) (args : Array Value) : laidMetH Tryz.prog [("math/bits.deBruijn32tab", Rows.laid_math_bits_deBruijn32tab), ("math/bits.deBruijn64tab", Rows.laid_math_bits_deBruijn64tab), ("internal/strconv.uint64pow10", Rows.laid_internal_strconv_uint64pow10)] ((World.doorLaid Tryz.prog 24 os).forCall (fun _ _ => 0) ⟨#[], args, []⟩).memory :=
 laidMetH_of_parts3 (fuel := 8) (laidMet_of_run' 8 (by kernel_rfl) (by kernel_rfl)) (by kernel_rfl) (by kernel_rfl)
set_option maxRecDepth 100000 in
theorem fnExactEqualExprs_lifted (os : Os) (started : os.Started) (H : Type) (enc : TypeId × Value → H) :
  ReturnsInHanded {} Tryz.checked os 4 .any (fun w args => (Rows.fnExactEqualExprsSpec.pre enc Tryz.prog Tryz.f4 [] false w args ∧ laidMetH Tryz.prog [("math/bits.deBruijn32tab", Rows.laid_math_bits_deBruijn32tab), ("math/bits.deBruijn64tab", Rows.laid_math_bits_deBruijn64tab), ("internal/strconv.uint64pow10", Rows.laid_internal_strconv_uint64pow10)] w) ∧ sizedMet enc Tryz.prog Tryz.f4 (OpenSpec.ofChange Rows.fnExactEqualExprsSpec) false w args)
   (Rows.fnExactEqualExprsSpec.post enc Tryz.prog Tryz.f4 false true false false) :=
 laid_lifted (C := Tryz.checked) own laid (by kernel_rfl) rfl (by kernel_rfl) Tryz.underlying4 Tryz.func4 (by kernel_rfl)
  (fun H ds h => by
   rw [Tryz.params4] at h
   match ds, h with | [d0, d1, d2], _ => rfl) os started H enc
  (ChangeSpec.witness_shaped (enc := enc) (C := Tryz.checked) (os := os) (X := fun w _ => laidMetH Tryz.prog [("math/bits.deBruijn32tab", Rows.laid_math_bits_deBruijn32tab), ("math/bits.deBruijn64tab", Rows.laid_math_bits_deBruijn64tab), ("internal/strconv.uint64pow10", Rows.laid_internal_strconv_uint64pow10)] w) false (World.doorLaid Tryz.prog 24 os) #[.agg #[.int .i64 0, .int .i64 0], .agg #[.int .i64 0, .int .i64 0, .slice none 0 0], .agg #[.int .i64 0, .int .i64 0, .slice none 0 0]] 8 rfl (World.shaped_of_RefB (by kernel_rfl) (by kernel_rfl)) (by kernel_rfl) (by kernel_rfl) (by kernel_rfl) (door_met os _))
  (fun W args ds ps hA hval _ => law_EqualExprs_of W args ds ps hA hval)
theorem fnExactEqualExprs_over : Rows.FnExactEqualExprsSaid :=
 OpenClaim.holds_of_wide 4 Tryz.f4 rfl rfl rfl rfl rfl rfl rfl ⟨rfl, rfl, rfl, rfl, rfl⟩ rfl rfl rfl rfl rfl (by kernel_rfl) Tryz.func4 fnExactEqualExprs_closed
  (of_decide_eq_true (by kernel_rfl)) (by unfold Func.isWrapper; rw [if_neg (of_decide_eq_false (by kernel_rfl))]; exact ⟨rfl, rfl⟩)
  (fun os started H enc _ => fnExactEqualExprs_lifted os started H enc)
theorem fnExactEqualExprsCard_proved : Rows.FnExactEqualExprsCardSaid :=
 Claim7.holds_tied_plain_at .later [] [.data, .data, .data] true Rows.fnExactEqualExprsCard.stood.harness false
  fnExactEqualExprs_over (fun _ h => by cases h) (by kernel_rfl) (fun _ h => by cases h) fnExactEqualExprs_row_tie rfl ⟨rfl, rfl⟩ fnExactEqualExprs_main rfl
  (fun f fn hf hfn => by
   obtain rfl : f = 4 := Option.some.inj ((show Tryz.prog.funcNamed "loop.example/g01101/laws.FnExactEqualExprs" = some 4 by kernel_rfl).symm.trans hf) |>.symm
   obtain rfl : fn = Tryz.f4 := (Option.some.inj (Tryz.func4.symm.trans hfn)).symm
   exact ⟨fnExactEqualExprs_looks, fun j t ht => by
    have hall : (Tryz.f4.params.toList.all fun u => !Tryz.prog.wantsStandIn u) = true := by kernel_rfl
    have hm : t ∈ Tryz.f4.params.toList := by simpa using Array.mem_of_getElem? ht
    exact (show Tryz.prog.wantsStandIn t = false by simpa using List.all_eq_true.1 hall t hm)⟩)
  fnExactEqualExprs_goes
#print axioms fnExactEqualExprsCard_proved
end Go.Proofs.YtfopdcdbelaapaaGreatDoor
