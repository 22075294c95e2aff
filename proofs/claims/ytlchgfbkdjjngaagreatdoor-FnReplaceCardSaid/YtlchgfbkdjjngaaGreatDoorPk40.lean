/-
  Parts of a proof, joined: CReplace. No condition.
-/
import Derived.Test.YtlchgfbkdjjngaaGreatDoorPk1
import Derived.Test.YtlchgfbkdjjngaaGreatDoorPk39
set_option linter.unusedVariables false
set_option linter.unusedSimpArgs false
namespace Go.Proofs.YtlchgfbkdjjngaaGreatDoor
open Go Go.ChangeShapes Go.Deep Go.WideShapes Go.ChangeAt Go.RowKit
set_option maxRecDepth 100000 in
theorem fnReplace_closed:joinedFacts Tryz.prog 3 Tryz.f3 Rows.fnReplaceSpec Rows.fnReplaceRow=true:=by
 unfold joinedFacts;exact (Cs (Cs (Cs (Cs (Cs (Cs (Cs (Cs (Cs (Cs (Cs (Cs (Cs (Cs (Cs (Cs (Cs (Cs (Cs (Cs (Cs (Cs (Cs (Cs (Cs (Cs (Cs (Cs (Cs (Cs (Cs fnReplace_k0 fnReplace_k1) fnReplace_k2) fnReplace_k3) fnReplace_k4) fnReplace_k5) fnReplace_k6) fnReplace_k7) fnReplace_k8) fnReplace_k9) fnReplace_k10) fnReplace_k11) fnReplace_k12) fnReplace_k13) fnReplace_k14) fnReplace_k15) fnReplace_k16) fnReplace_k17) fnReplace_k18) fnReplace_k19) fnReplace_k20) fnReplace_k21) fnReplace_k22) fnReplace_k23) fnReplace_k24) fnReplace_k25) fnReplace_k26) fnReplace_k27) fnReplace_k28) fnReplace_k29) fnReplace_k30) fnReplace_k31)
theorem Xv (os : Os) (args : Array Value) : laidMetH Tryz.prog [("math/bits.deBruijn32tab", Rows.laid_math_bits_deBruijn32tab), ("math/bits.deBruijn64tab", Rows.laid_math_bits_deBruijn64tab), ("internal/strconv.uint64pow10", Rows.laid_internal_strconv_uint64pow10)] ((World.doorLaid Tryz.prog 24 os).forCall (fun _ _ => 0) ⟨#[], args, []⟩).memory :=
 laidMetH_of_parts3 (fuel:=8) (laidMet_of_run' 8 (by kernel_rfl) (by kernel_rfl)) (by kernel_rfl) (by kernel_rfl)
set_option maxRecDepth 100000 in
theorem fnReplace_lifted (os:Os) (started:os.Started) (H:Type) (enc:TypeId × Value→H):
  ReturnsInHanded {} Tryz.checked os 3 .any (fun w args => (Rows.fnReplaceSpec.pre enc Tryz.prog Tryz.f3 [] false w args ∧ laidMetH Tryz.prog [("math/bits.deBruijn32tab", Rows.laid_math_bits_deBruijn32tab), ("math/bits.deBruijn64tab", Rows.laid_math_bits_deBruijn64tab), ("internal/strconv.uint64pow10", Rows.laid_internal_strconv_uint64pow10)] w) ∧ sizedMet enc Tryz.prog Tryz.f3 (OpenSpec.ofChange Rows.fnReplaceSpec) false w args)
   (Rows.fnReplaceSpec.post enc Tryz.prog Tryz.f3 false true false false):=
 Sr (C:=Tryz.checked) own laid (by kernel_rfl) rfl (by kernel_rfl) Tryz.underlying4 Tryz.func3 (by kernel_rfl)
  (fun H ds h=>by
   rw [Tryz.params3] at h
   match ds,h with|[d0,d1],_=>rfl) os started H enc
  (ChangeSpec.witness_shaped (enc := enc) (C := Tryz.checked) (os := os) (X := fun w _ => laidMetH Tryz.prog [("math/bits.deBruijn32tab", Rows.laid_math_bits_deBruijn32tab), ("math/bits.deBruijn64tab", Rows.laid_math_bits_deBruijn64tab), ("internal/strconv.uint64pow10", Rows.laid_internal_strconv_uint64pow10)] w) false (World.doorLaid Tryz.prog 24 os) #[.slice none 0 0, .slice none 0 0] 8 rfl (World.shaped_of_RefB (by kernel_rfl) (by kernel_rfl)) (by kernel_rfl) (by kernel_rfl) (by kernel_rfl) (Xv os _))
  (fun W args ds ps hA hval _=>N7 W args ds ps hA hval)
theorem fnReplace_over:Rows.FnReplaceSaid:=
 OpenClaim.holds_of_wide 3 Tryz.f3 rfl rfl rfl rfl rfl rfl rfl ⟨rfl,rfl,rfl,rfl,rfl⟩ rfl rfl rfl rfl rfl (by kernel_rfl) Tryz.func3 fnReplace_closed
  (of_decide_eq_true (by kernel_rfl)) (by unfold Func.isWrapper; rw [if_neg (of_decide_eq_false (by kernel_rfl))]; exact ⟨rfl,rfl⟩)
  (fun os started H enc _=>fnReplace_lifted os started H enc)
theorem fnReplaceCard_proved:Rows.FnReplaceCardSaid:=
 Claim7.holds_tied_plain_at .later [] [.data,.data,.data] true Rows.fnReplaceCard.stood.harness false
  fnReplace_over (fun _ h=>by cases h) (by kernel_rfl) (fun _ h=>by cases h) fnReplace_row_tie rfl ⟨rfl,rfl⟩ fnReplace_main rfl
  (fun f fn hf hfn=>by
   obtain rfl : f = 3 := Option.some.inj ((show Tryz.prog.funcNamed "loop.example/g01101/laws.FnReplace" = some 3 by kernel_rfl).symm.trans hf) |>.symm;obtain rfl:fn=Tryz.f3:=(Option.some.inj (Tryz.func3.symm.trans hfn)).symm
   exact ⟨fnReplace_looks,fun j t ht=>by
    have hall:(Tryz.f3.params.toList.all fun u=> !Tryz.prog.wantsStandIn u)=true:=by kernel_rfl
    have hm:t∈Tryz.f3.params.toList:=by simpa using Array.mem_of_getElem? ht
    exact (show Tryz.prog.wantsStandIn t=false by simpa using List.all_eq_true.1 hall t hm)⟩)
  fnReplace_goes
#print axioms fnReplaceCard_proved
end Go.Proofs.YtlchgfbkdjjngaaGreatDoor
