/-
  Parts of a proof, joined: CAtMost. No condition.
-/
import Derived.Test.YtjlmdhoajfdkbaaGreatDoorTie
import Derived.Test.YtjlmdhoajfdkbaaGreatDoorCards
import Derived.Test.YtjlmdhoajfdkbaaGreatDoorPk42
import Derived.Test.YtjlmdhoajfdkbaaGreatDoorPk46
namespace Go.Proofs.YtjlmdhoajfdkbaaGreatDoor
set_option linter.unusedVariables false
set_option linter.unusedSimpArgs false
open Go Go.ChangeShapes Go.Deep Go.WideShapes Go.ChangeAt Go.RowKit
set_option maxRecDepth 100000 in
theorem fnExactAtMost_closed : joinedFacts Tryz.prog 9 Tryz.f9 Rows.fnExactAtMostSpec Rows.fnExactAtMostRow = true := by
 unfold joinedFacts
 exact (band (band (band (band (band (band (band (band (band (band (band (band (band (band (band (band (band (band (band (band (band (band (band (band (band (band (band (band (band (band (band fnExactAtMost_k0 fnExactAtMost_k1) fnExactAtMost_k2) fnExactAtMost_k3) fnExactAtMost_k4) fnExactAtMost_k5) fnExactAtMost_k6) fnExactAtMost_k7) fnExactAtMost_k8) fnExactAtMost_k9) fnExactAtMost_k10) fnExactAtMost_k11) fnExactAtMost_k12) fnExactAtMost_k13) fnExactAtMost_k14) fnExactAtMost_k15) fnExactAtMost_k16) fnExactAtMost_k17) fnExactAtMost_k18) fnExactAtMost_k19) fnExactAtMost_k20) fnExactAtMost_k21) fnExactAtMost_k22) fnExactAtMost_k23) fnExactAtMost_k24) fnExactAtMost_k25) fnExactAtMost_k26) fnExactAtMost_k27) fnExactAtMost_k28) fnExactAtMost_k29) fnExactAtMost_k30) fnExactAtMost_k31)
theorem door_met (os : Os) (args : Array Value) : laidMetH Tryz.prog [("math/bits.deBruijn32tab", Rows.laid_math_bits_deBruijn32tab), ("math/bits.deBruijn64tab", Rows.laid_math_bits_deBruijn64tab), ("internal/strconv.uint64pow10", Rows.laid_internal_strconv_uint64pow10)] ((World.doorLaid Tryz.prog 24 os).forCall (fun _ _ => 0) ⟨#[], args, []⟩).memory :=
 laidMetH_of_parts3 (fuel := 8) (laidMet_of_run' 8 (by kernel_rfl) (by kernel_rfl)) (by kernel_rfl) (by kernel_rfl)
set_option maxRecDepth 100000 in
theorem fnExactAtMost_lifted (os : Os) (started : os.Started) (H : Type) (enc : TypeId × Value → H) :
  ReturnsInHanded {} Tryz.checked os 9 .any (fun w args => (Rows.fnExactAtMostSpec.pre enc Tryz.prog Tryz.f9 [] false w args ∧ laidMetH Tryz.prog [("math/bits.deBruijn32tab", Rows.laid_math_bits_deBruijn32tab), ("math/bits.deBruijn64tab", Rows.laid_math_bits_deBruijn64tab), ("internal/strconv.uint64pow10", Rows.laid_internal_strconv_uint64pow10)] w) ∧ sizedMet enc Tryz.prog Tryz.f9 (OpenSpec.ofChange Rows.fnExactAtMostSpec) false w args)
   (Rows.fnExactAtMostSpec.post enc Tryz.prog Tryz.f9 false true false false) :=
 laid_lifted (C := Tryz.checked) own laid (by kernel_rfl) rfl (by kernel_rfl) Tryz.underlying4 Tryz.func9 (by kernel_rfl)
  (fun H ds h => by
   rw [Tryz.params9] at h
   match ds, h with | [d0, d1, d2], _ => rfl) os started H enc
  (ChangeSpec.witness_shaped (enc := enc) (C := Tryz.checked) (os := os) (X := fun w _ => laidMetH Tryz.prog [("math/bits.deBruijn32tab", Rows.laid_math_bits_deBruijn32tab), ("math/bits.deBruijn64tab", Rows.laid_math_bits_deBruijn64tab), ("internal/strconv.uint64pow10", Rows.laid_internal_strconv_uint64pow10)] w) false (World.doorLaid Tryz.prog 24 os) #[.agg #[.int .i64 0, .int .i64 0], .agg #[.int .i64 0, .int .i64 0, .slice none 0 0], .agg #[.int .i64 0, .int .i64 0, .slice none 0 0]] 8 rfl (World.shaped_of_RefB (by kernel_rfl) (by kernel_rfl)) (by kernel_rfl) (by kernel_rfl) (by kernel_rfl) (door_met os _))
  (fun W args ds ps hA hval _ => law_AtMost_of W args ds ps hA hval)
theorem fnExactAtMost_over : Rows.FnExactAtMostSaid :=
 OpenClaim.holds_of_wide 9 Tryz.f9 rfl rfl rfl rfl rfl rfl rfl ⟨rfl, rfl, rfl, rfl, rfl⟩ rfl rfl rfl rfl rfl (by kernel_rfl) Tryz.func9 fnExactAtMost_closed
  (of_decide_eq_true (by kernel_rfl)) (by unfold Func.isWrapper; rw [if_neg (of_decide_eq_false (by kernel_rfl))]; exact ⟨rfl, rfl⟩)
  (fun os started H enc _ => fnExactAtMost_lifted os started H enc)
theorem fnExactAtMostCard_proved : Rows.FnExactAtMostCardSaid :=
 Claim7.holds_tied_plain_at .later [] [.data, .data, .data] true Rows.fnExactAtMostCard.stood.harness false
  fnExactAtMost_over (fun _ h => by cases h) (by kernel_rfl) (fun _ h => by cases h) fnExactAtMost_row_tie rfl ⟨rfl, rfl⟩ (by kernel_rfl) rfl
  (fun f fn hf hfn => by
   obtain rfl : f = 9 := Option.some.inj ((show Tryz.prog.funcNamed "loop.example/g01101/laws.FnExactAtMost" = some 9 by kernel_rfl).symm.trans hf) |>.symm
   obtain rfl : fn = Tryz.f9 := (Option.some.inj (Tryz.func9.symm.trans hfn)).symm
   exact ⟨by kernel_rfl, fun j t ht => by
    have hall : (Tryz.f9.params.toList.all fun u => !Tryz.prog.wantsStandIn u) = true := by kernel_rfl
    have hm : t ∈ Tryz.f9.params.toList := by simpa using Array.mem_of_getElem? ht
    exact (show Tryz.prog.wantsStandIn t = false by simpa using List.all_eq_true.1 hall t hm)⟩)
  (by kernel_rfl)
#print axioms fnExactAtMostCard_proved
end Go.Proofs.YtjlmdhoajfdkbaaGreatDoor
