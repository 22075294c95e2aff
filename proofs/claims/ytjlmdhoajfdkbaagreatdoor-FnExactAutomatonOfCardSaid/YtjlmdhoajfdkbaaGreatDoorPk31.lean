/-
  Parts of a proof, joined: CAutomatonOf. No condition.
-/
import Derived.Test.YtjlmdhoajfdkbaaGreatDoorTie
import Derived.Test.YtjlmdhoajfdkbaaGreatDoorCards
import Derived.Test.YtjlmdhoajfdkbaaGreatDoorPk1
import Derived.Test.YtjlmdhoajfdkbaaGreatDoorPk30
namespace Go.Proofs.YtjlmdhoajfdkbaaGreatDoor
set_option linter.unusedVariables false
set_option linter.unusedSimpArgs false
open Go Go.ChangeShapes Go.Deep Go.WideShapes Go.ChangeAt Go.RowKit
set_option maxRecDepth 100000 in
theorem fnExactAutomatonOf_closed : joinedFacts Tryz.prog 12 Tryz.f12 Rows.fnExactAutomatonOfSpec Rows.fnExactAutomatonOfRow = true := by
 unfold joinedFacts
 exact (band (band (band (band (band (band (band (band (band (band (band (band (band (band (band (band (band (band (band (band (band (band (band (band (band (band (band (band (band (band (band fnExactAutomatonOf_k0 fnExactAutomatonOf_k1) fnExactAutomatonOf_k2) fnExactAutomatonOf_k3) fnExactAutomatonOf_k4) fnExactAutomatonOf_k5) fnExactAutomatonOf_k6) fnExactAutomatonOf_k7) fnExactAutomatonOf_k8) fnExactAutomatonOf_k9) fnExactAutomatonOf_k10) fnExactAutomatonOf_k11) fnExactAutomatonOf_k12) fnExactAutomatonOf_k13) fnExactAutomatonOf_k14) fnExactAutomatonOf_k15) fnExactAutomatonOf_k16) fnExactAutomatonOf_k17) fnExactAutomatonOf_k18) fnExactAutomatonOf_k19) fnExactAutomatonOf_k20) fnExactAutomatonOf_k21) fnExactAutomatonOf_k22) fnExactAutomatonOf_k23) fnExactAutomatonOf_k24) fnExactAutomatonOf_k25) fnExactAutomatonOf_k26) fnExactAutomatonOf_k27) fnExactAutomatonOf_k28) fnExactAutomatonOf_k29) fnExactAutomatonOf_k30) fnExactAutomatonOf_k31)
theorem door_met (os : Os) (args : Array Value) : laidMetH Tryz.prog [("math/bits.deBruijn32tab", Rows.laid_math_bits_deBruijn32tab), ("math/bits.deBruijn64tab", Rows.laid_math_bits_deBruijn64tab), ("internal/strconv.uint64pow10", Rows.laid_internal_strconv_uint64pow10)] ((World.doorLaid Tryz.prog 24 os).forCall (fun _ _ => 0) ⟨#[], args, []⟩).memory :=
 laidMetH_of_parts3 (fuel := 8) (laidMet_of_run' 8 (by kernel_rfl) (by kernel_rfl)) (by kernel_rfl) (by kernel_rfl)
set_option maxRecDepth 100000 in
theorem fnExactAutomatonOf_lifted (os : Os) (started : os.Started) (H : Type) (enc : TypeId × Value → H) :
  ReturnsInHanded {} Tryz.checked os 12 .any (fun w args => (Rows.fnExactAutomatonOfSpec.pre enc Tryz.prog Tryz.f12 [] false w args ∧ laidMetH Tryz.prog [("math/bits.deBruijn32tab", Rows.laid_math_bits_deBruijn32tab), ("math/bits.deBruijn64tab", Rows.laid_math_bits_deBruijn64tab), ("internal/strconv.uint64pow10", Rows.laid_internal_strconv_uint64pow10)] w) ∧ sizedMet enc Tryz.prog Tryz.f12 (OpenSpec.ofChange Rows.fnExactAutomatonOfSpec) false w args)
   (Rows.fnExactAutomatonOfSpec.post enc Tryz.prog Tryz.f12 false true false false) :=
 laid_lifted (C := Tryz.checked) own laid (by kernel_rfl) rfl (by kernel_rfl) Tryz.underlying4 Tryz.func12 (by kernel_rfl)
  (fun H ds h => by
   rw [Tryz.params12] at h
   match ds, h with | [d0, d1], _ => rfl) os started H enc
  (ChangeSpec.witness_shaped (enc := enc) (C := Tryz.checked) (os := os) (X := fun w _ => laidMetH Tryz.prog [("math/bits.deBruijn32tab", Rows.laid_math_bits_deBruijn32tab), ("math/bits.deBruijn64tab", Rows.laid_math_bits_deBruijn64tab), ("internal/strconv.uint64pow10", Rows.laid_internal_strconv_uint64pow10)] w) false (World.doorLaid Tryz.prog 24 os) #[.agg #[.int .i64 0, .int .i64 0], .agg #[.int .i64 0, .int .i64 0, .slice none 0 0]] 8 rfl (World.shaped_of_RefB (by kernel_rfl) (by kernel_rfl)) (by kernel_rfl) (by kernel_rfl) (by kernel_rfl) (door_met os _))
  (fun W args ds ps hA hval _ => law_AutomatonOf_of W args ds ps hA hval)
theorem fnExactAutomatonOf_over : Rows.FnExactAutomatonOfSaid :=
 OpenClaim.holds_of_wide 12 Tryz.f12 rfl rfl rfl rfl rfl rfl rfl ⟨rfl, rfl, rfl, rfl, rfl⟩ rfl rfl rfl rfl rfl (by kernel_rfl) Tryz.func12 fnExactAutomatonOf_closed
  (of_decide_eq_true (by kernel_rfl)) (by unfold Func.isWrapper; rw [if_neg (of_decide_eq_false (by kernel_rfl))]; exact ⟨rfl, rfl⟩)
  (fun os started H enc _ => fnExactAutomatonOf_lifted os started H enc)
theorem fnExactAutomatonOfCard_proved : Rows.FnExactAutomatonOfCardSaid :=
 Claim7.holds_tied_plain_at .later [] [.data, .data, .data] true Rows.fnExactAutomatonOfCard.stood.harness false
  fnExactAutomatonOf_over (fun _ h => by cases h) (by kernel_rfl) (fun _ h => by cases h) fnExactAutomatonOf_row_tie rfl ⟨rfl, rfl⟩ (by kernel_rfl) rfl
  (fun f fn hf hfn => by
   obtain rfl : f = 12 := Option.some.inj ((show Tryz.prog.funcNamed "loop.example/g01101/laws.FnExactAutomatonOf" = some 12 by kernel_rfl).symm.trans hf) |>.symm
   obtain rfl : fn = Tryz.f12 := (Option.some.inj (Tryz.func12.symm.trans hfn)).symm
   exact ⟨by kernel_rfl, fun j t ht => by
    have hall : (Tryz.f12.params.toList.all fun u => !Tryz.prog.wantsStandIn u) = true := by kernel_rfl
    have hm : t ∈ Tryz.f12.params.toList := by simpa using Array.mem_of_getElem? ht
    exact (show Tryz.prog.wantsStandIn t = false by simpa using List.all_eq_true.1 hall t hm)⟩)
  (by kernel_rfl)
#print axioms fnExactAutomatonOfCard_proved
end Go.Proofs.YtjlmdhoajfdkbaaGreatDoor
