/-
  Parts of a proof, joined: CCheckBisim. No condition.
-/
import Derived.Test.YtcokljhamhgelaaGreatDoorPk1
import Derived.Test.YtcokljhamhgelaaGreatDoorPk25
namespace Go.Proofs.YtcokljhamhgelaaGreatDoor
set_option linter.unusedVariables false
set_option linter.unusedSimpArgs false
open Go Go.ChangeShapes Go.Deep Go.WideShapes Go.ChangeAt Go.RowKit
set_option maxRecDepth 100000 in
theorem fnExactCheckBisim_closed : joinedFacts Tryz.prog 4 Tryz.f4 Rows.fnExactCheckBisimSpec Rows.fnExactCheckBisimRow = true := by
 unfold joinedFacts
 exact (band (band (band (band (band (band (band (band (band (band (band (band (band (band (band (band (band (band (band (band (band (band (band (band (band (band (band (band (band (band (band fnExactCheckBisim_k0 fnExactCheckBisim_k1) fnExactCheckBisim_k2) fnExactCheckBisim_k3) fnExactCheckBisim_k4) fnExactCheckBisim_k5) fnExactCheckBisim_k6) fnExactCheckBisim_k7) fnExactCheckBisim_k8) fnExactCheckBisim_k9) fnExactCheckBisim_k10) fnExactCheckBisim_k11) fnExactCheckBisim_k12) fnExactCheckBisim_k13) fnExactCheckBisim_k14) fnExactCheckBisim_k15) fnExactCheckBisim_k16) fnExactCheckBisim_k17) fnExactCheckBisim_k18) fnExactCheckBisim_k19) fnExactCheckBisim_k20) fnExactCheckBisim_k21) fnExactCheckBisim_k22) fnExactCheckBisim_k23) fnExactCheckBisim_k24) fnExactCheckBisim_k25) fnExactCheckBisim_k26) fnExactCheckBisim_k27) fnExactCheckBisim_k28) fnExactCheckBisim_k29) fnExactCheckBisim_k30) fnExactCheckBisim_k31)
theorem door_met (os : Os) (args : Array Value) : laidMetH Tryz.prog [("math/bits.deBruijn32tab", Rows.laid_math_bits_deBruijn32tab), ("math/bits.deBruijn64tab", Rows.laid_math_bits_deBruijn64tab), ("internal/strconv.uint64pow10", Rows.laid_internal_strconv_uint64pow10)] ((World.doorLaid Tryz.prog 24 os).forCall (fun _ _ => 0) ⟨#[], args, []⟩).memory :=
 laidMetH_of_parts3 (fuel := 8) (laidMet_of_run' 8 (by kernel_rfl) (by kernel_rfl)) (by kernel_rfl) (by kernel_rfl)
set_option maxRecDepth 100000 in
theorem fnExactCheckBisim_lifted (os : Os) (started : os.Started) (H : Type) (enc : TypeId × Value → H) :
  ReturnsInHanded {} Tryz.checked os 4 .any (fun w args => (Rows.fnExactCheckBisimSpec.pre enc Tryz.prog Tryz.f4 [] false w args ∧ laidMetH Tryz.prog [("math/bits.deBruijn32tab", Rows.laid_math_bits_deBruijn32tab), ("math/bits.deBruijn64tab", Rows.laid_math_bits_deBruijn64tab), ("internal/strconv.uint64pow10", Rows.laid_internal_strconv_uint64pow10)] w) ∧ sizedMet enc Tryz.prog Tryz.f4 (OpenSpec.ofChange Rows.fnExactCheckBisimSpec) false w args)
   (Rows.fnExactCheckBisimSpec.post enc Tryz.prog Tryz.f4 false true false false) :=
 laid_lifted (C := Tryz.checked) own laid (by kernel_rfl) rfl (by kernel_rfl) Tryz.underlying4 Tryz.func4 (by kernel_rfl)
  (fun H ds h => by
   rw [Tryz.params4] at h
   match ds, h with | [d0, d1, d2, d3], _ => rfl) os started H enc
  (ChangeSpec.witness_shaped (enc := enc) (C := Tryz.checked) (os := os) (X := fun w _ => laidMetH Tryz.prog [("math/bits.deBruijn32tab", Rows.laid_math_bits_deBruijn32tab), ("math/bits.deBruijn64tab", Rows.laid_math_bits_deBruijn64tab), ("internal/strconv.uint64pow10", Rows.laid_internal_strconv_uint64pow10)] w) false (World.doorLaid Tryz.prog 24 os) #[.agg #[.int .i64 0, .int .i64 0], .agg #[.int .i64 0, .int .i64 0, .slice none 0 0], .agg #[.int .i64 0, .int .i64 0, .slice none 0 0], .slice none 0 0] 8 rfl (World.shaped_of_RefB (by kernel_rfl) (by kernel_rfl)) (by kernel_rfl) (by kernel_rfl) (by kernel_rfl) (door_met os _))
  (fun W args ds ps hA hval _ => law_CheckBisim_of W args ds ps hA hval)
theorem fnExactCheckBisim_over : Rows.FnExactCheckBisimSaid :=
 OpenClaim.holds_of_wide 4 Tryz.f4 rfl rfl rfl rfl rfl rfl rfl ⟨rfl, rfl, rfl, rfl, rfl⟩ rfl rfl rfl rfl rfl (by kernel_rfl) Tryz.func4 fnExactCheckBisim_closed
  (of_decide_eq_true (by kernel_rfl)) (by unfold Func.isWrapper; rw [if_neg (of_decide_eq_false (by kernel_rfl))]; exact ⟨rfl, rfl⟩)
  (fun os started H enc _ => fnExactCheckBisim_lifted os started H enc)
theorem fnExactCheckBisimCard_proved : Rows.FnExactCheckBisimCardSaid :=
 Claim7.holds_tied_plain_at .later [] [.data, .data, .data] true Rows.fnExactCheckBisimCard.stood.harness false
  fnExactCheckBisim_over (fun _ h => by cases h) (by kernel_rfl) (fun _ h => by cases h) fnExactCheckBisim_row_tie rfl ⟨rfl, rfl⟩ fnExactCheckBisim_main rfl
  (fun f fn hf hfn => by
   obtain rfl : f = 4 := Option.some.inj ((show Tryz.prog.funcNamed "loop.example/g01101/laws.FnExactCheckBisim" = some 4 by kernel_rfl).symm.trans hf) |>.symm
   obtain rfl : fn = Tryz.f4 := (Option.some.inj (Tryz.func4.symm.trans hfn)).symm
   exact ⟨fnExactCheckBisim_looks, fun j t ht => by
    have hall : (Tryz.f4.params.toList.all fun u => !Tryz.prog.wantsStandIn u) = true := by kernel_rfl
    have hm : t ∈ Tryz.f4.params.toList := by simpa using Array.mem_of_getElem? ht
    exact (show Tryz.prog.wantsStandIn t = false by simpa using List.all_eq_true.1 hall t hm)⟩)
  fnExactCheckBisim_goes
#print axioms fnExactCheckBisimCard_proved
end Go.Proofs.YtcokljhamhgelaaGreatDoor
