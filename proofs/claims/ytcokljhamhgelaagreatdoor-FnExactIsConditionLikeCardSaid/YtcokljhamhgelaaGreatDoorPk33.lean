/-
  Parts of a proof, joined: CIsConditionLike. No condition.
-/
import Derived.Test.YtcokljhamhgelaaGreatDoorPk1
import Derived.Test.YtcokljhamhgelaaGreatDoorPk32
namespace Go.Proofs.YtcokljhamhgelaaGreatDoor
set_option linter.unusedVariables false
set_option linter.unusedSimpArgs false
open Go Go.ChangeShapes Go.Deep Go.WideShapes Go.ChangeAt Go.RowKit
set_option maxRecDepth 100000 in
theorem fnExactIsConditionLike_closed : joinedFacts Tryz.prog 3 Tryz.f3 Rows.fnExactIsConditionLikeSpec Rows.fnExactIsConditionLikeRow = true := by
 unfold joinedFacts
 exact (band (band (band (band (band (band (band (band (band (band (band (band (band (band (band (band (band (band (band (band (band (band (band (band (band (band (band (band (band (band (band fnExactIsConditionLike_k0 fnExactIsConditionLike_k1) fnExactIsConditionLike_k2) fnExactIsConditionLike_k3) fnExactIsConditionLike_k4) fnExactIsConditionLike_k5) fnExactIsConditionLike_k6) fnExactIsConditionLike_k7) fnExactIsConditionLike_k8) fnExactIsConditionLike_k9) fnExactIsConditionLike_k10) fnExactIsConditionLike_k11) fnExactIsConditionLike_k12) fnExactIsConditionLike_k13) fnExactIsConditionLike_k14) fnExactIsConditionLike_k15) fnExactIsConditionLike_k16) fnExactIsConditionLike_k17) fnExactIsConditionLike_k18) fnExactIsConditionLike_k19) fnExactIsConditionLike_k20) fnExactIsConditionLike_k21) fnExactIsConditionLike_k22) fnExactIsConditionLike_k23) fnExactIsConditionLike_k24) fnExactIsConditionLike_k25) fnExactIsConditionLike_k26) fnExactIsConditionLike_k27) fnExactIsConditionLike_k28) fnExactIsConditionLike_k29) fnExactIsConditionLike_k30) fnExactIsConditionLike_k31)
theorem door_met (os : Os) (args : Array Value) : laidMetH Tryz.prog [("math/bits.deBruijn32tab", Rows.laid_math_bits_deBruijn32tab), ("math/bits.deBruijn64tab", Rows.laid_math_bits_deBruijn64tab), ("internal/strconv.uint64pow10", Rows.laid_internal_strconv_uint64pow10)] ((World.doorLaid Tryz.prog 24 os).forCall (fun _ _ => 0) ⟨#[], args, []⟩).memory :=
 laidMetH_of_parts3 (fuel := 8) (laidMet_of_run' 8 (by kernel_rfl) (by kernel_rfl)) (by kernel_rfl) (by kernel_rfl)
set_option maxRecDepth 100000 in
theorem fnExactIsConditionLike_lifted (os : Os) (started : os.Started) (H : Type) (enc : TypeId × Value → H) :
  ReturnsInHanded {} Tryz.checked os 3 .any (fun w args => (Rows.fnExactIsConditionLikeSpec.pre enc Tryz.prog Tryz.f3 [] false w args ∧ laidMetH Tryz.prog [("math/bits.deBruijn32tab", Rows.laid_math_bits_deBruijn32tab), ("math/bits.deBruijn64tab", Rows.laid_math_bits_deBruijn64tab), ("internal/strconv.uint64pow10", Rows.laid_internal_strconv_uint64pow10)] w) ∧ sizedMet enc Tryz.prog Tryz.f3 (OpenSpec.ofChange Rows.fnExactIsConditionLikeSpec) false w args)
   (Rows.fnExactIsConditionLikeSpec.post enc Tryz.prog Tryz.f3 false true false false) :=
 laid_lifted (C := Tryz.checked) own laid (by kernel_rfl) rfl (by kernel_rfl) Tryz.underlying4 Tryz.func3 (by kernel_rfl)
  (fun H ds h => by
   rw [Tryz.params3] at h
   match ds, h with | [d0, d1], _ => rfl) os started H enc
  (ChangeSpec.witness_shaped (enc := enc) (C := Tryz.checked) (os := os) (X := fun w _ => laidMetH Tryz.prog [("math/bits.deBruijn32tab", Rows.laid_math_bits_deBruijn32tab), ("math/bits.deBruijn64tab", Rows.laid_math_bits_deBruijn64tab), ("internal/strconv.uint64pow10", Rows.laid_internal_strconv_uint64pow10)] w) false (World.doorLaid Tryz.prog 24 os) #[.agg #[.int .i64 0, .int .i64 0], .agg #[.int .i64 0, .int .i64 0, .slice none 0 0]] 8 rfl (World.shaped_of_RefB (by kernel_rfl) (by kernel_rfl)) (by kernel_rfl) (by kernel_rfl) (by kernel_rfl) (door_met os _))
  (fun W args ds ps hA hval _ => law_IsConditionLike_of W args ds ps hA hval)
theorem fnExactIsConditionLike_over : Rows.FnExactIsConditionLikeSaid :=
 OpenClaim.holds_of_wide 3 Tryz.f3 rfl rfl rfl rfl rfl rfl rfl ⟨rfl, rfl, rfl, rfl, rfl⟩ rfl rfl rfl rfl rfl (by kernel_rfl) Tryz.func3 fnExactIsConditionLike_closed
  (of_decide_eq_true (by kernel_rfl)) (by unfold Func.isWrapper; rw [if_neg (of_decide_eq_false (by kernel_rfl))]; exact ⟨rfl, rfl⟩)
  (fun os started H enc _ => fnExactIsConditionLike_lifted os started H enc)
theorem fnExactIsConditionLikeCard_proved : Rows.FnExactIsConditionLikeCardSaid :=
 Claim7.holds_tied_plain_at .later [] [.data, .data, .data] true Rows.fnExactIsConditionLikeCard.stood.harness false
  fnExactIsConditionLike_over (fun _ h => by cases h) (by kernel_rfl) (fun _ h => by cases h) fnExactIsConditionLike_row_tie rfl ⟨rfl, rfl⟩ fnExactIsConditionLike_main rfl
  (fun f fn hf hfn => by
   obtain rfl : f = 3 := Option.some.inj ((show Tryz.prog.funcNamed "loop.example/g01101/laws.FnExactIsConditionLike" = some 3 by kernel_rfl).symm.trans hf) |>.symm
   obtain rfl : fn = Tryz.f3 := (Option.some.inj (Tryz.func3.symm.trans hfn)).symm
   exact ⟨fnExactIsConditionLike_looks, fun j t ht => by
    have hall : (Tryz.f3.params.toList.all fun u => !Tryz.prog.wantsStandIn u) = true := by kernel_rfl
    have hm : t ∈ Tryz.f3.params.toList := by simpa using Array.mem_of_getElem? ht
    exact (show Tryz.prog.wantsStandIn t = false by simpa using List.all_eq_true.1 hall t hm)⟩)
  fnExactIsConditionLike_goes
#print axioms fnExactIsConditionLikeCard_proved
end Go.Proofs.YtcokljhamhgelaaGreatDoor
