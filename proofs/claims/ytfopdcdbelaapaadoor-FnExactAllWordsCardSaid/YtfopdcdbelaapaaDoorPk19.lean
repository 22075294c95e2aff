/-
  Parts of a proof, joined: CAllWords. No condition.
-/
import Derived.Test.YtfopdcdbelaapaaDoorPk1
import Derived.Test.YtfopdcdbelaapaaDoorPk18
namespace Go.Proofs.YtfopdcdbelaapaaDoor
set_option linter.unusedVariables false
set_option linter.unusedSimpArgs false
open Go Go.ChangeShapes Go.Deep Go.WideShapes Go.ChangeAt Go.RowKit
set_option maxRecDepth 100000 in
theorem fnExactAllWords_closed:joinedFacts Tryd.prog 3 Tryd.f3 Rows.fnExactAllWordsSpec Rows.fnExactAllWordsRow=true:=by
 unfold joinedFacts;exact (band (band (band (band (band (band (band (band (band (band (band (band (band (band (band (band (band (band (band (band (band (band (band (band (band (band (band (band (band (band (band fnExactAllWords_k0 fnExactAllWords_k1) fnExactAllWords_k2) fnExactAllWords_k3) fnExactAllWords_k4) fnExactAllWords_k5) fnExactAllWords_k6) fnExactAllWords_k7) fnExactAllWords_k8) fnExactAllWords_k9) fnExactAllWords_k10) fnExactAllWords_k11) fnExactAllWords_k12) fnExactAllWords_k13) fnExactAllWords_k14) fnExactAllWords_k15) fnExactAllWords_k16) fnExactAllWords_k17) fnExactAllWords_k18) fnExactAllWords_k19) fnExactAllWords_k20) fnExactAllWords_k21) fnExactAllWords_k22) fnExactAllWords_k23) fnExactAllWords_k24) fnExactAllWords_k25) fnExactAllWords_k26) fnExactAllWords_k27) fnExactAllWords_k28) fnExactAllWords_k29) fnExactAllWords_k30) fnExactAllWords_k31)
theorem door_met (os : Os) (args : Array Value) : laidMetH Tryd.prog [("math/bits.deBruijn32tab", Rows.laid_math_bits_deBruijn32tab), ("math/bits.deBruijn64tab", Rows.laid_math_bits_deBruijn64tab), ("internal/strconv.uint64pow10", Rows.laid_internal_strconv_uint64pow10)] ((World.doorLaid Tryd.prog 24 os).forCall (fun _ _ => 0) ⟨#[], args, []⟩).memory :=
 laidMetH_of_parts3 (fuel:=8) (laidMet_of_run' 8 (by kernel_rfl) (by kernel_rfl)) (by kernel_rfl) (by kernel_rfl)
set_option maxRecDepth 100000 in
theorem fnExactAllWords_lifted (os:Os) (started:os.Started) (H:Type) (enc:TypeId × Value→H):
  ReturnsInHanded {} Tryd.checked os 3 .any (fun w args => (Rows.fnExactAllWordsSpec.pre enc Tryd.prog Tryd.f3 [] false w args ∧ laidMetH Tryd.prog [("math/bits.deBruijn32tab", Rows.laid_math_bits_deBruijn32tab), ("math/bits.deBruijn64tab", Rows.laid_math_bits_deBruijn64tab), ("internal/strconv.uint64pow10", Rows.laid_internal_strconv_uint64pow10)] w) ∧ sizedMet enc Tryd.prog Tryd.f3 (OpenSpec.ofChange Rows.fnExactAllWordsSpec) false w args)
   (Rows.fnExactAllWordsSpec.post enc Tryd.prog Tryd.f3 false true false false):=
 laid_lifted (C:=Tryd.checked) own laid (by kernel_rfl) rfl (by kernel_rfl) Tryd.underlying4 Tryd.func3 (by kernel_rfl)
  (fun H ds h=>by
   rw [Tryd.params3] at h
   match ds,h with|[d0],_=>rfl) os started H enc
  (ChangeSpec.witness_shaped (enc := enc) (C := Tryd.checked) (os := os) (X := fun w _ => laidMetH Tryd.prog [("math/bits.deBruijn32tab", Rows.laid_math_bits_deBruijn32tab), ("math/bits.deBruijn64tab", Rows.laid_math_bits_deBruijn64tab), ("internal/strconv.uint64pow10", Rows.laid_internal_strconv_uint64pow10)] w) false (World.doorLaid Tryd.prog 24 os) #[.agg #[.int .i64 0, .int .i64 0]] 8 rfl (World.shaped_of_RefB (by kernel_rfl) (by kernel_rfl)) (by kernel_rfl) (by kernel_rfl) (by kernel_rfl) (door_met os _))
  (fun W args ds ps hA hval _=>law_AllWords_of W args ds ps hA hval)
theorem fnExactAllWords_over:Rows.FnExactAllWordsSaid:=
 OpenClaim.holds_of_wide 3 Tryd.f3 rfl rfl rfl rfl rfl rfl rfl ⟨rfl,rfl,rfl,rfl,rfl⟩ rfl rfl rfl rfl rfl (by kernel_rfl) Tryd.func3 fnExactAllWords_closed
  (of_decide_eq_true (by kernel_rfl)) (by unfold Func.isWrapper; rw [if_neg (of_decide_eq_false (by kernel_rfl))]; exact ⟨rfl,rfl⟩)
  (fun os started H enc _=>fnExactAllWords_lifted os started H enc)
theorem fnExactAllWordsCard_proved:Rows.FnExactAllWordsCardSaid:=
 Claim7.holds_tied_plain_at .later [] [.data, .data, .data] true Rows.fnExactAllWordsCard.stood.harness false
  fnExactAllWords_over (fun _ h=>by cases h) (by kernel_rfl) (fun _ h=>by cases h) fnExactAllWords_row_tie rfl ⟨rfl,rfl⟩ fnExactAllWords_main rfl
  (fun f fn hf hfn=>by
   obtain rfl : f = 3 := Option.some.inj ((show Tryd.prog.funcNamed "loop.example/g01101/laws.FnExactAllWords" = some 3 by kernel_rfl).symm.trans hf) |>.symm;obtain rfl:fn=Tryd.f3:=(Option.some.inj (Tryd.func3.symm.trans hfn)).symm
   exact ⟨fnExactAllWords_looks,fun j t ht=>by
    have hall:(Tryd.f3.params.toList.all fun u=> !Tryd.prog.wantsStandIn u)=true:=by kernel_rfl
    have hm:t∈Tryd.f3.params.toList:=by simpa using Array.mem_of_getElem? ht
    exact (show Tryd.prog.wantsStandIn t=false by simpa using List.all_eq_true.1 hall t hm)⟩)
  fnExactAllWords_goes
#print axioms fnExactAllWordsCard_proved
end Go.Proofs.YtfopdcdbelaapaaDoor
