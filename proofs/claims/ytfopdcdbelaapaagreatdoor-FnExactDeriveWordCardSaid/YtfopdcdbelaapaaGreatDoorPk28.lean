/-
  Parts of a proof, joined: CDeriveWord. No condition.
-/
import Derived.Test.YtfopdcdbelaapaaGreatDoorPk1
import Derived.Test.YtfopdcdbelaapaaGreatDoorPk27
namespace Go.Proofs.YtfopdcdbelaapaaGreatDoor
set_option linter.unusedVariables false
set_option linter.unusedSimpArgs false
open Go Go.ChangeShapes Go.Deep Go.WideShapes Go.ChangeAt Go.RowKit
set_option maxRecDepth 100000 in
theorem fnExactDeriveWord_closed : joinedFacts Tryz.prog 3 Tryz.f3 Rows.fnExactDeriveWordSpec Rows.fnExactDeriveWordRow = true := by
 unfold joinedFacts
 exact (band (band (band (band (band (band (band (band (band (band (band (band (band (band (band (band (band (band (band (band (band (band (band (band (band (band (band (band (band (band (band fnExactDeriveWord_k0 fnExactDeriveWord_k1) fnExactDeriveWord_k2) fnExactDeriveWord_k3) fnExactDeriveWord_k4) fnExactDeriveWord_k5) fnExactDeriveWord_k6) fnExactDeriveWord_k7) fnExactDeriveWord_k8) fnExactDeriveWord_k9) fnExactDeriveWord_k10) fnExactDeriveWord_k11) fnExactDeriveWord_k12) fnExactDeriveWord_k13) fnExactDeriveWord_k14) fnExactDeriveWord_k15) fnExactDeriveWord_k16) fnExactDeriveWord_k17) fnExactDeriveWord_k18) fnExactDeriveWord_k19) fnExactDeriveWord_k20) fnExactDeriveWord_k21) fnExactDeriveWord_k22) fnExactDeriveWord_k23) fnExactDeriveWord_k24) fnExactDeriveWord_k25) fnExactDeriveWord_k26) fnExactDeriveWord_k27) fnExactDeriveWord_k28) fnExactDeriveWord_k29) fnExactDeriveWord_k30) fnExactDeriveWord_k31)
theorem door_met (os : Os) (args : Array Value) : laidMetH Tryz.prog [("math/bits.deBruijn32tab", Rows.laid_math_bits_deBruijn32tab), ("math/bits.deBruijn64tab", Rows.laid_math_bits_deBruijn64tab), ("internal/strconv.uint64pow10", Rows.laid_internal_strconv_uint64pow10)] ((World.doorLaid Tryz.prog 24 os).forCall (fun _ _ => 0) ⟨#[], args, []⟩).memory :=
 laidMetH_of_parts3 (fuel := 8) (laidMet_of_run' 8 (by kernel_rfl) (by kernel_rfl)) (by kernel_rfl) (by kernel_rfl)
set_option maxRecDepth 100000 in
theorem fnExactDeriveWord_lifted (os : Os) (started : os.Started) (H : Type) (enc : TypeId × Value → H) :
  ReturnsInHanded {} Tryz.checked os 3 .any (fun w args => (Rows.fnExactDeriveWordSpec.pre enc Tryz.prog Tryz.f3 [] false w args ∧ laidMetH Tryz.prog [("math/bits.deBruijn32tab", Rows.laid_math_bits_deBruijn32tab), ("math/bits.deBruijn64tab", Rows.laid_math_bits_deBruijn64tab), ("internal/strconv.uint64pow10", Rows.laid_internal_strconv_uint64pow10)] w) ∧ sizedMet enc Tryz.prog Tryz.f3 (OpenSpec.ofChange Rows.fnExactDeriveWordSpec) false w args)
   (Rows.fnExactDeriveWordSpec.post enc Tryz.prog Tryz.f3 false true false false) :=
 laid_lifted (C := Tryz.checked) own laid (by kernel_rfl) rfl (by kernel_rfl) Tryz.underlying4 Tryz.func3 (by kernel_rfl)
  (fun H ds h => by
   rw [Tryz.params3] at h
   match ds, h with | [d0, d1, d2], _ => rfl) os started H enc
  (ChangeSpec.witness_shaped (enc := enc) (C := Tryz.checked) (os := os) (X := fun w _ => laidMetH Tryz.prog [("math/bits.deBruijn32tab", Rows.laid_math_bits_deBruijn32tab), ("math/bits.deBruijn64tab", Rows.laid_math_bits_deBruijn64tab), ("internal/strconv.uint64pow10", Rows.laid_internal_strconv_uint64pow10)] w) false (World.doorLaid Tryz.prog 24 os) #[.agg #[.int .i64 0, .int .i64 0], .agg #[.int .i64 0, .int .i64 0, .slice none 0 0], .agg #[.slice none 0 0, .slice none 0 0]] 8 rfl (World.shaped_of_RefB (by kernel_rfl) (by kernel_rfl)) (by kernel_rfl) (by kernel_rfl) (by kernel_rfl) (door_met os _))
  (fun W args ds ps hA hval _ => law_DeriveWord_of W args ds ps hA hval)
theorem fnExactDeriveWord_over : Rows.FnExactDeriveWordSaid :=
 OpenClaim.holds_of_wide 3 Tryz.f3 rfl rfl rfl rfl rfl rfl rfl ⟨rfl, rfl, rfl, rfl, rfl⟩ rfl rfl rfl rfl rfl (by kernel_rfl) Tryz.func3 fnExactDeriveWord_closed
  (of_decide_eq_true (by kernel_rfl)) (by unfold Func.isWrapper; rw [if_neg (of_decide_eq_false (by kernel_rfl))]; exact ⟨rfl, rfl⟩)
  (fun os started H enc _ => fnExactDeriveWord_lifted os started H enc)
theorem fnExactDeriveWordCard_proved : Rows.FnExactDeriveWordCardSaid :=
 Claim7.holds_tied_plain_at .later [] [.data, .data, .data] true Rows.fnExactDeriveWordCard.stood.harness false
  fnExactDeriveWord_over (fun _ h => by cases h) (by kernel_rfl) (fun _ h => by cases h) fnExactDeriveWord_row_tie rfl ⟨rfl, rfl⟩ fnExactDeriveWord_main rfl
  (fun f fn hf hfn => by
   obtain rfl : f = 3 := Option.some.inj ((show Tryz.prog.funcNamed "loop.example/g01101/laws.FnExactDeriveWord" = some 3 by kernel_rfl).symm.trans hf) |>.symm
   obtain rfl : fn = Tryz.f3 := (Option.some.inj (Tryz.func3.symm.trans hfn)).symm
   exact ⟨fnExactDeriveWord_looks, fun j t ht => by
    have hall : (Tryz.f3.params.toList.all fun u => !Tryz.prog.wantsStandIn u) = true := by kernel_rfl
    have hm : t ∈ Tryz.f3.params.toList := by simpa using Array.mem_of_getElem? ht
    exact (show Tryz.prog.wantsStandIn t = false by simpa using List.all_eq_true.1 hall t hm)⟩)
  fnExactDeriveWord_goes
#print axioms fnExactDeriveWordCard_proved
end Go.Proofs.YtfopdcdbelaapaaGreatDoor
