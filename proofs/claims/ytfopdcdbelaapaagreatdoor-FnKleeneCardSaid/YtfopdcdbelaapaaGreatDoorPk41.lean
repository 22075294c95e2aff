/-
  Parts of a proof, joined: CKleene. No condition.
-/
import Derived.Test.YtfopdcdbelaapaaGreatDoorPk36
import Derived.Test.YtfopdcdbelaapaaGreatDoorPk40
namespace Go.Proofs.YtfopdcdbelaapaaGreatDoor
set_option linter.unusedVariables false
set_option linter.unusedSimpArgs false
open Go Go.ChangeShapes Go.Deep Go.WideShapes Go.ChangeAt Go.RowKit
set_option maxRecDepth 100000 in
theorem fnKleene_closed:joinedFacts Tryz.prog 12 Tryz.f12 Rows.fnKleeneSpec Rows.fnKleeneRow=true:=by
 unfold joinedFacts;exact (band (band (band (band (band (band (band (band (band (band (band (band (band (band (band (band (band (band (band (band (band (band (band (band (band (band (band (band (band (band (band fnKleene_k0 fnKleene_k1) fnKleene_k2) fnKleene_k3) fnKleene_k4) fnKleene_k5) fnKleene_k6) fnKleene_k7) fnKleene_k8) fnKleene_k9) fnKleene_k10) fnKleene_k11) fnKleene_k12) fnKleene_k13) fnKleene_k14) fnKleene_k15) fnKleene_k16) fnKleene_k17) fnKleene_k18) fnKleene_k19) fnKleene_k20) fnKleene_k21) fnKleene_k22) fnKleene_k23) fnKleene_k24) fnKleene_k25) fnKleene_k26) fnKleene_k27) fnKleene_k28) fnKleene_k29) fnKleene_k30) fnKleene_k31)
theorem door_met (os : Os) (args : Array Value) : laidMetH Tryz.prog [("math/bits.deBruijn32tab", Rows.laid_math_bits_deBruijn32tab), ("math/bits.deBruijn64tab", Rows.laid_math_bits_deBruijn64tab), ("internal/strconv.uint64pow10", Rows.laid_internal_strconv_uint64pow10)] ((World.doorLaid Tryz.prog 24 os).forCall (fun _ _ => 0) ⟨#[], args, []⟩).memory :=
 laidMetH_of_parts3 (fuel:=8) (laidMet_of_run' 8 (by kernel_rfl) (by kernel_rfl)) (by kernel_rfl) (by kernel_rfl)
set_option maxRecDepth 100000 in
theorem fnKleene_lifted (os:Os) (started:os.Started) (H:Type) (enc:TypeId × Value→H):
  ReturnsInHanded {} Tryz.checked os 12 .any (fun w args => (Rows.fnKleeneSpec.pre enc Tryz.prog Tryz.f12 [] false w args ∧ laidMetH Tryz.prog [("math/bits.deBruijn32tab", Rows.laid_math_bits_deBruijn32tab), ("math/bits.deBruijn64tab", Rows.laid_math_bits_deBruijn64tab), ("internal/strconv.uint64pow10", Rows.laid_internal_strconv_uint64pow10)] w) ∧ sizedMet enc Tryz.prog Tryz.f12 (OpenSpec.ofChange Rows.fnKleeneSpec) false w args)
   (Rows.fnKleeneSpec.post enc Tryz.prog Tryz.f12 false true false false):=
 laid_lifted (C:=Tryz.checked) own laid (by kernel_rfl) rfl (by kernel_rfl) Tryz.underlying4 Tryz.func12 (by kernel_rfl)
  (fun H ds h=>by
   rw [Tryz.params12] at h
   match ds,h with|[d0,d1],_=>rfl) os started H enc
  (ChangeSpec.witness_shaped (enc := enc) (C := Tryz.checked) (os := os) (X := fun w _ => laidMetH Tryz.prog [("math/bits.deBruijn32tab", Rows.laid_math_bits_deBruijn32tab), ("math/bits.deBruijn64tab", Rows.laid_math_bits_deBruijn64tab), ("internal/strconv.uint64pow10", Rows.laid_internal_strconv_uint64pow10)] w) false (World.doorLaid Tryz.prog 24 os) #[.slice none 0 0, .slice none 0 0] 8 rfl (World.shaped_of_RefB (by kernel_rfl) (by kernel_rfl)) (by kernel_rfl) (by kernel_rfl) (by kernel_rfl) (door_met os _))
  (fun W args ds ps hA hval _=>law_Kleene_of W args ds ps hA hval)
theorem fnKleene_over:Rows.FnKleeneSaid:=
 OpenClaim.holds_of_wide 12 Tryz.f12 rfl rfl rfl rfl rfl rfl rfl ⟨rfl,rfl,rfl,rfl,rfl⟩ rfl rfl rfl rfl rfl (by kernel_rfl) Tryz.func12 fnKleene_closed
  (of_decide_eq_true (by kernel_rfl)) (by unfold Func.isWrapper; rw [if_neg (of_decide_eq_false (by kernel_rfl))]; exact ⟨rfl,rfl⟩)
  (fun os started H enc _=>fnKleene_lifted os started H enc)
theorem fnKleeneCard_proved:Rows.FnKleeneCardSaid:=
 Claim7.holds_tied_plain_at .later [] [.data, .data, .data] true Rows.fnKleeneCard.stood.harness false
  fnKleene_over (fun _ h=>by cases h) (by kernel_rfl) (fun _ h=>by cases h) fnKleene_row_tie rfl ⟨rfl,rfl⟩ fnKleene_main rfl
  (fun f fn hf hfn=>by
   obtain rfl : f = 12 := Option.some.inj ((show Tryz.prog.funcNamed "loop.example/g01101/laws.FnKleene" = some 12 by kernel_rfl).symm.trans hf) |>.symm;obtain rfl:fn=Tryz.f12:=(Option.some.inj (Tryz.func12.symm.trans hfn)).symm
   exact ⟨fnKleene_looks,fun j t ht=>by
    have hall:(Tryz.f12.params.toList.all fun u=> !Tryz.prog.wantsStandIn u)=true:=by kernel_rfl
    have hm:t∈Tryz.f12.params.toList:=by simpa using Array.mem_of_getElem? ht
    exact (show Tryz.prog.wantsStandIn t=false by simpa using List.all_eq_true.1 hall t hm)⟩)
  fnKleene_goes
#print axioms fnKleeneCard_proved
end Go.Proofs.YtfopdcdbelaapaaGreatDoor
