/-
  Parts of a proof, joined: CInduction. No condition.
-/
import Derived.Test.YtfopdcdbelaapaaGreatDoorPk32
import Derived.Test.YtfopdcdbelaapaaGreatDoorPk34
namespace Go.Proofs.YtfopdcdbelaapaaGreatDoor
set_option linter.unusedVariables false
set_option linter.unusedSimpArgs false
open Go Go.ChangeShapes Go.Deep Go.WideShapes Go.ChangeAt Go.RowKit
set_option maxRecDepth 100000 in
theorem fnInduction_closed:joinedFacts Tryz.prog 11 Tryz.f11 Rows.fnInductionSpec Rows.fnInductionRow=true:=by
 unfold joinedFacts;exact (band (band (band (band (band (band (band (band (band (band (band (band (band (band (band (band (band (band (band (band (band (band (band (band (band (band (band (band (band (band (band fnInduction_k0 fnInduction_k1) fnInduction_k2) fnInduction_k3) fnInduction_k4) fnInduction_k5) fnInduction_k6) fnInduction_k7) fnInduction_k8) fnInduction_k9) fnInduction_k10) fnInduction_k11) fnInduction_k12) fnInduction_k13) fnInduction_k14) fnInduction_k15) fnInduction_k16) fnInduction_k17) fnInduction_k18) fnInduction_k19) fnInduction_k20) fnInduction_k21) fnInduction_k22) fnInduction_k23) fnInduction_k24) fnInduction_k25) fnInduction_k26) fnInduction_k27) fnInduction_k28) fnInduction_k29) fnInduction_k30) fnInduction_k31)
theorem door_met (os : Os) (args : Array Value) : laidMetH Tryz.prog [("math/bits.deBruijn32tab", Rows.laid_math_bits_deBruijn32tab), ("math/bits.deBruijn64tab", Rows.laid_math_bits_deBruijn64tab), ("internal/strconv.uint64pow10", Rows.laid_internal_strconv_uint64pow10)] ((World.doorLaid Tryz.prog 24 os).forCall (fun _ _ => 0) ⟨#[], args, []⟩).memory :=
 laidMetH_of_parts3 (fuel:=8) (laidMet_of_run' 8 (by kernel_rfl) (by kernel_rfl)) (by kernel_rfl) (by kernel_rfl)
set_option maxRecDepth 100000 in
theorem fnInduction_lifted (os:Os) (started:os.Started) (H:Type) (enc:TypeId × Value→H):
  ReturnsInHanded {} Tryz.checked os 11 .any (fun w args => (Rows.fnInductionSpec.pre enc Tryz.prog Tryz.f11 [] false w args ∧ laidMetH Tryz.prog [("math/bits.deBruijn32tab", Rows.laid_math_bits_deBruijn32tab), ("math/bits.deBruijn64tab", Rows.laid_math_bits_deBruijn64tab), ("internal/strconv.uint64pow10", Rows.laid_internal_strconv_uint64pow10)] w) ∧ sizedMet enc Tryz.prog Tryz.f11 (OpenSpec.ofChange Rows.fnInductionSpec) false w args)
   (Rows.fnInductionSpec.post enc Tryz.prog Tryz.f11 false true false false):=
 laid_lifted (C:=Tryz.checked) own laid (by kernel_rfl) rfl (by kernel_rfl) Tryz.underlying4 Tryz.func11 (by kernel_rfl)
  (fun H ds h=>by
   rw [Tryz.params11] at h
   match ds,h with|[d0,d1],_=>rfl) os started H enc
  (ChangeSpec.witness_shaped (enc := enc) (C := Tryz.checked) (os := os) (X := fun w _ => laidMetH Tryz.prog [("math/bits.deBruijn32tab", Rows.laid_math_bits_deBruijn32tab), ("math/bits.deBruijn64tab", Rows.laid_math_bits_deBruijn64tab), ("internal/strconv.uint64pow10", Rows.laid_internal_strconv_uint64pow10)] w) false (World.doorLaid Tryz.prog 24 os) #[.slice none 0 0, .slice none 0 0] 8 rfl (World.shaped_of_RefB (by kernel_rfl) (by kernel_rfl)) (by kernel_rfl) (by kernel_rfl) (by kernel_rfl) (door_met os _))
  (fun W args ds ps hA hval _=>law_Induction_of W args ds ps hA hval)
theorem fnInduction_over:Rows.FnInductionSaid:=
 OpenClaim.holds_of_wide 11 Tryz.f11 rfl rfl rfl rfl rfl rfl rfl ⟨rfl,rfl,rfl,rfl,rfl⟩ rfl rfl rfl rfl rfl (by kernel_rfl) Tryz.func11 fnInduction_closed
  (of_decide_eq_true (by kernel_rfl)) (by unfold Func.isWrapper; rw [if_neg (of_decide_eq_false (by kernel_rfl))]; exact ⟨rfl,rfl⟩)
  (fun os started H enc _=>fnInduction_lifted os started H enc)
theorem fnInductionCard_proved:Rows.FnInductionCardSaid:=
 Claim7.holds_tied_plain_at .later [] [.data, .data, .data] true Rows.fnInductionCard.stood.harness false
  fnInduction_over (fun _ h=>by cases h) (by kernel_rfl) (fun _ h=>by cases h) fnInduction_row_tie rfl ⟨rfl,rfl⟩ fnInduction_main rfl
  (fun f fn hf hfn=>by
   obtain rfl : f = 11 := Option.some.inj ((show Tryz.prog.funcNamed "loop.example/g01101/laws.FnInduction" = some 11 by kernel_rfl).symm.trans hf) |>.symm;obtain rfl:fn=Tryz.f11:=(Option.some.inj (Tryz.func11.symm.trans hfn)).symm
   exact ⟨fnInduction_looks,fun j t ht=>by
    have hall:(Tryz.f11.params.toList.all fun u=> !Tryz.prog.wantsStandIn u)=true:=by kernel_rfl
    have hm:t∈Tryz.f11.params.toList:=by simpa using Array.mem_of_getElem? ht
    exact (show Tryz.prog.wantsStandIn t=false by simpa using List.all_eq_true.1 hall t hm)⟩)
  fnInduction_goes
#print axioms fnInductionCard_proved
end Go.Proofs.YtfopdcdbelaapaaGreatDoor
