/-
  Parts of a proof, joined: CTidyExpr. No condition.
-/
import Derived.Test.YtjlmdhoajfdkbaaDoorTie
import Derived.Test.YtjlmdhoajfdkbaaDoorCards
import Derived.Test.YtjlmdhoajfdkbaaDoorPk1
import Derived.Test.YtjlmdhoajfdkbaaDoorPk21
namespace Go.Proofs.YtjlmdhoajfdkbaaDoor
set_option linter.unusedVariables false
set_option linter.unusedSimpArgs false
open Go Go.ChangeShapes Go.Deep Go.WideShapes Go.ChangeAt Go.RowKit
set_option maxRecDepth 100000 in
theorem fnExactTidyExpr_closed : joinedFacts Tryd.prog 3 Tryd.f3 Rows.fnExactTidyExprSpec Rows.fnExactTidyExprRow = true := by
 unfold joinedFacts
 exact (band (band (band (band (band (band (band (band (band (band (band (band (band (band (band (band (band (band (band (band (band (band (band (band (band (band (band (band (band (band (band fnExactTidyExpr_k0 fnExactTidyExpr_k1) fnExactTidyExpr_k2) fnExactTidyExpr_k3) fnExactTidyExpr_k4) fnExactTidyExpr_k5) fnExactTidyExpr_k6) fnExactTidyExpr_k7) fnExactTidyExpr_k8) fnExactTidyExpr_k9) fnExactTidyExpr_k10) fnExactTidyExpr_k11) fnExactTidyExpr_k12) fnExactTidyExpr_k13) fnExactTidyExpr_k14) fnExactTidyExpr_k15) fnExactTidyExpr_k16) fnExactTidyExpr_k17) fnExactTidyExpr_k18) fnExactTidyExpr_k19) fnExactTidyExpr_k20) fnExactTidyExpr_k21) fnExactTidyExpr_k22) fnExactTidyExpr_k23) fnExactTidyExpr_k24) fnExactTidyExpr_k25) fnExactTidyExpr_k26) fnExactTidyExpr_k27) fnExactTidyExpr_k28) fnExactTidyExpr_k29) fnExactTidyExpr_k30) fnExactTidyExpr_k31)
theorem door_met (os : Os) (args : Array Value) : laidMetH Tryd.prog [("math/bits.deBruijn32tab", Rows.laid_math_bits_deBruijn32tab), ("math/bits.deBruijn64tab", Rows.laid_math_bits_deBruijn64tab), ("internal/strconv.uint64pow10", Rows.laid_internal_strconv_uint64pow10)] ((World.doorLaid Tryd.prog 24 os).forCall (fun _ _ => 0) ⟨#[], args, []⟩).memory :=
 laidMetH_of_parts3 (fuel := 8) (laidMet_of_run' 8 (by kernel_rfl) (by kernel_rfl)) (by kernel_rfl) (by kernel_rfl)
set_option maxRecDepth 100000 in
theorem fnExactTidyExpr_lifted (os : Os) (started : os.Started) (H : Type) (enc : TypeId × Value → H) :
  ReturnsInHanded {} Tryd.checked os 3 .any (fun w args => (Rows.fnExactTidyExprSpec.pre enc Tryd.prog Tryd.f3 [] false w args ∧ laidMetH Tryd.prog [("math/bits.deBruijn32tab", Rows.laid_math_bits_deBruijn32tab), ("math/bits.deBruijn64tab", Rows.laid_math_bits_deBruijn64tab), ("internal/strconv.uint64pow10", Rows.laid_internal_strconv_uint64pow10)] w) ∧ sizedMet enc Tryd.prog Tryd.f3 (OpenSpec.ofChange Rows.fnExactTidyExprSpec) false w args)
   (Rows.fnExactTidyExprSpec.post enc Tryd.prog Tryd.f3 false true false false) :=
 laid_lifted (C := Tryd.checked) own laid (by kernel_rfl) rfl (by kernel_rfl) Tryd.underlying4 Tryd.func3 (by kernel_rfl)
  (fun H ds h => by
   rw [Tryd.params3] at h
   match ds, h with | [d0, d1], _ => rfl) os started H enc
  (ChangeSpec.witness_shaped (enc := enc) (C := Tryd.checked) (os := os) (X := fun w _ => laidMetH Tryd.prog [("math/bits.deBruijn32tab", Rows.laid_math_bits_deBruijn32tab), ("math/bits.deBruijn64tab", Rows.laid_math_bits_deBruijn64tab), ("internal/strconv.uint64pow10", Rows.laid_internal_strconv_uint64pow10)] w) false (World.doorLaid Tryd.prog 24 os) #[.agg #[.int .i64 0, .int .i64 0], .agg #[.int .i64 0, .int .i64 0, .slice none 0 0]] 8 rfl (World.shaped_of_RefB (by kernel_rfl) (by kernel_rfl)) (by kernel_rfl) (by kernel_rfl) (by kernel_rfl) (door_met os _))
  (fun W args ds ps hA hval _ => law_TidyExpr_of W args ds ps hA hval)
theorem fnExactTidyExpr_over : Rows.FnExactTidyExprSaid :=
 OpenClaim.holds_of_wide 3 Tryd.f3 rfl rfl rfl rfl rfl rfl rfl ⟨rfl, rfl, rfl, rfl, rfl⟩ rfl rfl rfl rfl rfl (by kernel_rfl) Tryd.func3 fnExactTidyExpr_closed
  (of_decide_eq_true (by kernel_rfl)) (by unfold Func.isWrapper; rw [if_neg (of_decide_eq_false (by kernel_rfl))]; exact ⟨rfl, rfl⟩)
  (fun os started H enc _ => fnExactTidyExpr_lifted os started H enc)
theorem fnExactTidyExprCard_proved : Rows.FnExactTidyExprCardSaid :=
 Claim7.holds_tied_plain_at .later [] [.data, .data, .data] true Rows.fnExactTidyExprCard.stood.harness false
  fnExactTidyExpr_over (fun _ h => by cases h) (by kernel_rfl) (fun _ h => by cases h) fnExactTidyExpr_row_tie rfl ⟨rfl, rfl⟩ (by kernel_rfl) rfl
  (fun f fn hf hfn => by
   obtain rfl : f = 3 := Option.some.inj ((show Tryd.prog.funcNamed "loop.example/g01101/laws.FnExactTidyExpr" = some 3 by kernel_rfl).symm.trans hf) |>.symm
   obtain rfl : fn = Tryd.f3 := (Option.some.inj (Tryd.func3.symm.trans hfn)).symm
   exact ⟨by kernel_rfl, fun j t ht => by
    have hall : (Tryd.f3.params.toList.all fun u => !Tryd.prog.wantsStandIn u) = true := by kernel_rfl
    have hm : t ∈ Tryd.f3.params.toList := by simpa using Array.mem_of_getElem? ht
    exact (show Tryd.prog.wantsStandIn t = false by simpa using List.all_eq_true.1 hall t hm)⟩)
  (by kernel_rfl)
#print axioms fnExactTidyExprCard_proved
end Go.Proofs.YtjlmdhoajfdkbaaDoor
