/-
  Parts of a proof, joined: CLengthsOf. No condition.
-/
import Derived.Test.YtjlmdhoajfdkbaaGreatDoorTie
import Derived.Test.YtjlmdhoajfdkbaaGreatDoorCards
import Derived.Test.YtjlmdhoajfdkbaaGreatDoorPk35
import Derived.Test.YtjlmdhoajfdkbaaGreatDoorPk39
namespace Go.Proofs.YtjlmdhoajfdkbaaGreatDoor
set_option linter.unusedVariables false
set_option linter.unusedSimpArgs false
open Go Go.ChangeShapes Go.Deep Go.WideShapes Go.ChangeAt Go.RowKit
set_option maxRecDepth 100000 in
theorem fnExactLengthsOf_closed : joinedFacts Tryz.prog 10 Tryz.f10 Rows.fnExactLengthsOfSpec Rows.fnExactLengthsOfRow = true := by
 unfold joinedFacts
 exact (band (band (band (band (band (band (band (band (band (band (band (band (band (band (band (band (band (band (band (band (band (band (band (band (band (band (band (band (band (band (band fnExactLengthsOf_k0 fnExactLengthsOf_k1) fnExactLengthsOf_k2) fnExactLengthsOf_k3) fnExactLengthsOf_k4) fnExactLengthsOf_k5) fnExactLengthsOf_k6) fnExactLengthsOf_k7) fnExactLengthsOf_k8) fnExactLengthsOf_k9) fnExactLengthsOf_k10) fnExactLengthsOf_k11) fnExactLengthsOf_k12) fnExactLengthsOf_k13) fnExactLengthsOf_k14) fnExactLengthsOf_k15) fnExactLengthsOf_k16) fnExactLengthsOf_k17) fnExactLengthsOf_k18) fnExactLengthsOf_k19) fnExactLengthsOf_k20) fnExactLengthsOf_k21) fnExactLengthsOf_k22) fnExactLengthsOf_k23) fnExactLengthsOf_k24) fnExactLengthsOf_k25) fnExactLengthsOf_k26) fnExactLengthsOf_k27) fnExactLengthsOf_k28) fnExactLengthsOf_k29) fnExactLengthsOf_k30) fnExactLengthsOf_k31)
theorem door_met (os : Os) (args : Array Value) : laidMetH Tryz.prog [("math/bits.deBruijn32tab", Rows.laid_math_bits_deBruijn32tab), ("math/bits.deBruijn64tab", Rows.laid_math_bits_deBruijn64tab), ("internal/strconv.uint64pow10", Rows.laid_internal_strconv_uint64pow10)] ((World.doorLaid Tryz.prog 24 os).forCall (fun _ _ => 0) ⟨#[], args, []⟩).memory :=
 laidMetH_of_parts3 (fuel := 8) (laidMet_of_run' 8 (by kernel_rfl) (by kernel_rfl)) (by kernel_rfl) (by kernel_rfl)
set_option maxRecDepth 100000 in
theorem fnExactLengthsOf_lifted (os : Os) (started : os.Started) (H : Type) (enc : TypeId × Value → H) :
  ReturnsInHanded {} Tryz.checked os 10 .any (fun w args => (Rows.fnExactLengthsOfSpec.pre enc Tryz.prog Tryz.f10 [] false w args ∧ laidMetH Tryz.prog [("math/bits.deBruijn32tab", Rows.laid_math_bits_deBruijn32tab), ("math/bits.deBruijn64tab", Rows.laid_math_bits_deBruijn64tab), ("internal/strconv.uint64pow10", Rows.laid_internal_strconv_uint64pow10)] w) ∧ sizedMet enc Tryz.prog Tryz.f10 (OpenSpec.ofChange Rows.fnExactLengthsOfSpec) false w args)
   (Rows.fnExactLengthsOfSpec.post enc Tryz.prog Tryz.f10 false true false false) :=
 laid_lifted (C := Tryz.checked) own laid (by kernel_rfl) rfl (by kernel_rfl) Tryz.underlying4 Tryz.func10 (by kernel_rfl)
  (fun H ds h => by
   rw [Tryz.params10] at h
   match ds, h with | [d0, d1], _ => rfl) os started H enc
  (ChangeSpec.witness_shaped (enc := enc) (C := Tryz.checked) (os := os) (X := fun w _ => laidMetH Tryz.prog [("math/bits.deBruijn32tab", Rows.laid_math_bits_deBruijn32tab), ("math/bits.deBruijn64tab", Rows.laid_math_bits_deBruijn64tab), ("internal/strconv.uint64pow10", Rows.laid_internal_strconv_uint64pow10)] w) false (World.doorLaid Tryz.prog 24 os) #[.agg #[.int .i64 0, .int .i64 0], .agg #[.int .i64 0, .int .i64 0, .slice none 0 0]] 8 rfl (World.shaped_of_RefB (by kernel_rfl) (by kernel_rfl)) (by kernel_rfl) (by kernel_rfl) (by kernel_rfl) (door_met os _))
  (fun W args ds ps hA hval _ => law_LengthsOf_of W args ds ps hA hval)
theorem fnExactLengthsOf_over : Rows.FnExactLengthsOfSaid :=
 OpenClaim.holds_of_wide 10 Tryz.f10 rfl rfl rfl rfl rfl rfl rfl ⟨rfl, rfl, rfl, rfl, rfl⟩ rfl rfl rfl rfl rfl (by kernel_rfl) Tryz.func10 fnExactLengthsOf_closed
  (of_decide_eq_true (by kernel_rfl)) (by unfold Func.isWrapper; rw [if_neg (of_decide_eq_false (by kernel_rfl))]; exact ⟨rfl, rfl⟩)
  (fun os started H enc _ => fnExactLengthsOf_lifted os started H enc)
theorem fnExactLengthsOfCard_proved : Rows.FnExactLengthsOfCardSaid :=
 Claim7.holds_tied_plain_at .later [] [.data, .data, .data] true Rows.fnExactLengthsOfCard.stood.harness false
  fnExactLengthsOf_over (fun _ h => by cases h) (by kernel_rfl) (fun _ h => by cases h) fnExactLengthsOf_row_tie rfl ⟨rfl, rfl⟩ (by kernel_rfl) rfl
  (fun f fn hf hfn => by
   obtain rfl : f = 10 := Option.some.inj ((show Tryz.prog.funcNamed "loop.example/g01101/laws.FnExactLengthsOf" = some 10 by kernel_rfl).symm.trans hf) |>.symm
   obtain rfl : fn = Tryz.f10 := (Option.some.inj (Tryz.func10.symm.trans hfn)).symm
   exact ⟨by kernel_rfl, fun j t ht => by
    have hall : (Tryz.f10.params.toList.all fun u => !Tryz.prog.wantsStandIn u) = true := by kernel_rfl
    have hm : t ∈ Tryz.f10.params.toList := by simpa using Array.mem_of_getElem? ht
    exact (show Tryz.prog.wantsStandIn t = false by simpa using List.all_eq_true.1 hall t hm)⟩)
  (by kernel_rfl)
#print axioms fnExactLengthsOfCard_proved
end Go.Proofs.YtjlmdhoajfdkbaaGreatDoor
