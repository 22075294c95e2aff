/-
  Parts of a proof, joined: COrder. No condition.
-/
import Derived.Test.YtfopdcdbelaapaaGreatDoorPk42
import Derived.Test.YtfopdcdbelaapaaGreatDoorPk46
namespace Go.Proofs.YtfopdcdbelaapaaGreatDoor
set_option linter.unusedVariables false
set_option linter.unusedSimpArgs false
open Go Go.ChangeShapes Go.Deep Go.WideShapes Go.ChangeAt Go.RowKit
set_option maxRecDepth 100000 in
theorem fnOrder_closed:joinedFacts Tryz.prog 13 Tryz.f13 Rows.fnOrderSpec Rows.fnOrderRow=true:=by
 unfold joinedFacts;exact (band (band (band (band (band (band (band (band (band (band (band (band (band (band (band (band (band (band (band (band (band (band (band (band (band (band (band (band (band (band (band fnOrder_k0 fnOrder_k1) fnOrder_k2) fnOrder_k3) fnOrder_k4) fnOrder_k5) fnOrder_k6) fnOrder_k7) fnOrder_k8) fnOrder_k9) fnOrder_k10) fnOrder_k11) fnOrder_k12) fnOrder_k13) fnOrder_k14) fnOrder_k15) fnOrder_k16) fnOrder_k17) fnOrder_k18) fnOrder_k19) fnOrder_k20) fnOrder_k21) fnOrder_k22) fnOrder_k23) fnOrder_k24) fnOrder_k25) fnOrder_k26) fnOrder_k27) fnOrder_k28) fnOrder_k29) fnOrder_k30) fnOrder_k31)
theorem door_met (os : Os) (args : Array Value) : laidMetH Tryz.prog [("math/bits.deBruijn32tab", Rows.laid_math_bits_deBruijn32tab), ("math/bits.deBruijn64tab", Rows.laid_math_bits_deBruijn64tab), ("internal/strconv.uint64pow10", Rows.laid_internal_strconv_uint64pow10)] ((World.doorLaid Tryz.prog 24 os).forCall (fun _ _ => 0) ⟨#[], args, []⟩).memory :=
 laidMetH_of_parts3 (fuel:=8) (laidMet_of_run' 8 (by kernel_rfl) (by kernel_rfl)) (by kernel_rfl) (by kernel_rfl)
set_option maxRecDepth 100000 in
theorem fnOrder_lifted (os:Os) (started:os.Started) (H:Type) (enc:TypeId × Value→H):
  ReturnsInHanded {} Tryz.checked os 13 .any (fun w args => (Rows.fnOrderSpec.pre enc Tryz.prog Tryz.f13 [] false w args ∧ laidMetH Tryz.prog [("math/bits.deBruijn32tab", Rows.laid_math_bits_deBruijn32tab), ("math/bits.deBruijn64tab", Rows.laid_math_bits_deBruijn64tab), ("internal/strconv.uint64pow10", Rows.laid_internal_strconv_uint64pow10)] w) ∧ sizedMet enc Tryz.prog Tryz.f13 (OpenSpec.ofChange Rows.fnOrderSpec) false w args)
   (Rows.fnOrderSpec.post enc Tryz.prog Tryz.f13 false true false false):=
 laid_lifted (C:=Tryz.checked) own laid (by kernel_rfl) rfl (by kernel_rfl) Tryz.underlying4 Tryz.func13 (by kernel_rfl)
  (fun H ds h=>by
   rw [Tryz.params13] at h
   match ds,h with|[d0,d1],_=>rfl) os started H enc
  (ChangeSpec.witness_shaped (enc := enc) (C := Tryz.checked) (os := os) (X := fun w _ => laidMetH Tryz.prog [("math/bits.deBruijn32tab", Rows.laid_math_bits_deBruijn32tab), ("math/bits.deBruijn64tab", Rows.laid_math_bits_deBruijn64tab), ("internal/strconv.uint64pow10", Rows.laid_internal_strconv_uint64pow10)] w) false (World.doorLaid Tryz.prog 24 os) #[.slice none 0 0, .slice none 0 0] 8 rfl (World.shaped_of_RefB (by kernel_rfl) (by kernel_rfl)) (by kernel_rfl) (by kernel_rfl) (by kernel_rfl) (door_met os _))
  (fun W args ds ps hA hval _=>law_Order_of W args ds ps hA hval)
theorem fnOrder_over:Rows.FnOrderSaid:=
 OpenClaim.holds_of_wide 13 Tryz.f13 rfl rfl rfl rfl rfl rfl rfl ⟨rfl,rfl,rfl,rfl,rfl⟩ rfl rfl rfl rfl rfl (by kernel_rfl) Tryz.func13 fnOrder_closed
  (of_decide_eq_true (by kernel_rfl)) (by unfold Func.isWrapper; rw [if_neg (of_decide_eq_false (by kernel_rfl))]; exact ⟨rfl,rfl⟩)
  (fun os started H enc _=>fnOrder_lifted os started H enc)
theorem fnOrderCard_proved:Rows.FnOrderCardSaid:=
 Claim7.holds_tied_plain_at .later [] [.data, .data, .data] true Rows.fnOrderCard.stood.harness false
  fnOrder_over (fun _ h=>by cases h) (by kernel_rfl) (fun _ h=>by cases h) fnOrder_row_tie rfl ⟨rfl,rfl⟩ fnOrder_main rfl
  (fun f fn hf hfn=>by
   obtain rfl : f = 13 := Option.some.inj ((show Tryz.prog.funcNamed "loop.example/g01101/laws.FnOrder" = some 13 by kernel_rfl).symm.trans hf) |>.symm;obtain rfl:fn=Tryz.f13:=(Option.some.inj (Tryz.func13.symm.trans hfn)).symm
   exact ⟨fnOrder_looks,fun j t ht=>by
    have hall:(Tryz.f13.params.toList.all fun u=> !Tryz.prog.wantsStandIn u)=true:=by kernel_rfl
    have hm:t∈Tryz.f13.params.toList:=by simpa using Array.mem_of_getElem? ht
    exact (show Tryz.prog.wantsStandIn t=false by simpa using List.all_eq_true.1 hall t hm)⟩)
  fnOrder_goes
#print axioms fnOrderCard_proved
end Go.Proofs.YtfopdcdbelaapaaGreatDoor
