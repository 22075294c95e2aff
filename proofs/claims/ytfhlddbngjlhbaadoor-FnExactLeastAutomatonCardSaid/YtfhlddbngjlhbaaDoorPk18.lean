/-
  Parts of a proof, joined: CLeastAutomaton. No condition.
-/
import Derived.Test.YtfhlddbngjlhbaaDoorPk1
import Derived.Test.YtfhlddbngjlhbaaDoorPk17
namespace Go.Proofs.YtfhlddbngjlhbaaDoor
set_option linter.unusedVariables false
set_option linter.unusedSimpArgs false
open Go Go.ChangeShapes Go.Deep Go.WideShapes Go.ChangeAt Go.RowKit
set_option maxRecDepth 100000 in
theorem fnExactLeastAutomaton_closed : joinedFacts Tryd.prog 3 Tryd.f3 Rows.fnExactLeastAutomatonSpec Rows.fnExactLeastAutomatonRow = true := by
 unfold joinedFacts
 exact (band (band (band (band (band (band (band (band (band (band (band (band (band (band (band (band (band (band (band (band (band (band (band (band (band (band (band (band (band (band (band fnExactLeastAutomaton_k0 fnExactLeastAutomaton_k1) fnExactLeastAutomaton_k2) fnExactLeastAutomaton_k3) fnExactLeastAutomaton_k4) fnExactLeastAutomaton_k5) fnExactLeastAutomaton_k6) fnExactLeastAutomaton_k7) fnExactLeastAutomaton_k8) fnExactLeastAutomaton_k9) fnExactLeastAutomaton_k10) fnExactLeastAutomaton_k11) fnExactLeastAutomaton_k12) fnExactLeastAutomaton_k13) fnExactLeastAutomaton_k14) fnExactLeastAutomaton_k15) fnExactLeastAutomaton_k16) fnExactLeastAutomaton_k17) fnExactLeastAutomaton_k18) fnExactLeastAutomaton_k19) fnExactLeastAutomaton_k20) fnExactLeastAutomaton_k21) fnExactLeastAutomaton_k22) fnExactLeastAutomaton_k23) fnExactLeastAutomaton_k24) fnExactLeastAutomaton_k25) fnExactLeastAutomaton_k26) fnExactLeastAutomaton_k27) fnExactLeastAutomaton_k28) fnExactLeastAutomaton_k29) fnExactLeastAutomaton_k30) fnExactLeastAutomaton_k31)
theorem door_met (os : Os) (args : Array Value) : laidMetH Tryd.prog [("math/bits.deBruijn32tab", Rows.laid_math_bits_deBruijn32tab), ("math/bits.deBruijn64tab", Rows.laid_math_bits_deBruijn64tab), ("internal/strconv.uint64pow10", Rows.laid_internal_strconv_uint64pow10)] ((World.doorLaid Tryd.prog 24 os).forCall (fun _ _ => 0) ⟨#[], args, []⟩).memory :=
 laidMetH_of_parts3 (fuel := 8) (laidMet_of_run' 8 (by kernel_rfl) (by kernel_rfl)) (by kernel_rfl) (by kernel_rfl)
set_option maxRecDepth 100000 in
theorem fnExactLeastAutomaton_lifted (os : Os) (started : os.Started) (H : Type) (enc : TypeId × Value → H) :
  ReturnsInHanded {} Tryd.checked os 3 .any (fun w args => (Rows.fnExactLeastAutomatonSpec.pre enc Tryd.prog Tryd.f3 [] false w args ∧ laidMetH Tryd.prog [("math/bits.deBruijn32tab", Rows.laid_math_bits_deBruijn32tab), ("math/bits.deBruijn64tab", Rows.laid_math_bits_deBruijn64tab), ("internal/strconv.uint64pow10", Rows.laid_internal_strconv_uint64pow10)] w) ∧ sizedMet enc Tryd.prog Tryd.f3 (OpenSpec.ofChange Rows.fnExactLeastAutomatonSpec) false w args)
   (Rows.fnExactLeastAutomatonSpec.post enc Tryd.prog Tryd.f3 false true false false) :=
 laid_lifted (C := Tryd.checked) own laid (by kernel_rfl) rfl (by kernel_rfl) Tryd.underlying4 Tryd.func3 (by kernel_rfl)
  (fun H ds h => by
   rw [Tryd.params3] at h
   match ds, h with | [d0], _ => rfl) os started H enc
  (ChangeSpec.witness_shaped (enc := enc) (C := Tryd.checked) (os := os) (X := fun w _ => laidMetH Tryd.prog [("math/bits.deBruijn32tab", Rows.laid_math_bits_deBruijn32tab), ("math/bits.deBruijn64tab", Rows.laid_math_bits_deBruijn64tab), ("internal/strconv.uint64pow10", Rows.laid_internal_strconv_uint64pow10)] w) false (World.doorLaid Tryd.prog 24 os) #[.agg #[.int .i64 0, .int .i64 0, .slice none 0 0, .slice none 0 0]] 8 rfl (World.shaped_of_RefB (by kernel_rfl) (by kernel_rfl)) (by kernel_rfl) (by kernel_rfl) (by kernel_rfl) (door_met os _))
  (fun W args ds ps hA hval _ => law_LeastAutomaton_of W args ds ps hA hval)
theorem fnExactLeastAutomaton_over : Rows.FnExactLeastAutomatonSaid :=
 OpenClaim.holds_of_wide 3 Tryd.f3 rfl rfl rfl rfl rfl rfl rfl ⟨rfl, rfl, rfl, rfl, rfl⟩ rfl rfl rfl rfl rfl (by kernel_rfl) Tryd.func3 fnExactLeastAutomaton_closed
  (of_decide_eq_true (by kernel_rfl)) (by unfold Func.isWrapper; rw [if_neg (of_decide_eq_false (by kernel_rfl))]; exact ⟨rfl, rfl⟩)
  (fun os started H enc _ => fnExactLeastAutomaton_lifted os started H enc)
theorem fnExactLeastAutomatonCard_proved : Rows.FnExactLeastAutomatonCardSaid :=
 Claim7.holds_tied_plain_at .later [] [.data, .data, .data] true Rows.fnExactLeastAutomatonCard.stood.harness false
  fnExactLeastAutomaton_over (fun _ h => by cases h) (by kernel_rfl) (fun _ h => by cases h) fnExactLeastAutomaton_row_tie rfl ⟨rfl, rfl⟩ fnExactLeastAutomaton_main rfl
  (fun f fn hf hfn => by
   obtain rfl : f = 3 := Option.some.inj ((show Tryd.prog.funcNamed "loop.example/g01101/laws.FnExactLeastAutomaton" = some 3 by kernel_rfl).symm.trans hf) |>.symm
   obtain rfl : fn = Tryd.f3 := (Option.some.inj (Tryd.func3.symm.trans hfn)).symm
   exact ⟨fnExactLeastAutomaton_looks, fun j t ht => by
    have hall : (Tryd.f3.params.toList.all fun u => !Tryd.prog.wantsStandIn u) = true := by kernel_rfl
    have hm : t ∈ Tryd.f3.params.toList := by simpa using Array.mem_of_getElem? ht
    exact (show Tryd.prog.wantsStandIn t = false by simpa using List.all_eq_true.1 hall t hm)⟩)
  fnExactLeastAutomaton_goes
#print axioms fnExactLeastAutomatonCard_proved
end Go.Proofs.YtfhlddbngjlhbaaDoor
