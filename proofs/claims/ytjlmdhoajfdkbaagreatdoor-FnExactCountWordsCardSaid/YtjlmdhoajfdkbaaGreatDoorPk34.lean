/-
  Parts of a proof, joined: CCountWords. No condition.
-/
import Derived.Test.YtjlmdhoajfdkbaaGreatDoorTie
import Derived.Test.YtjlmdhoajfdkbaaGreatDoorCards
import Derived.Test.YtjlmdhoajfdkbaaGreatDoorPk31
import Derived.Test.YtjlmdhoajfdkbaaGreatDoorPk33
namespace Go.Proofs.YtjlmdhoajfdkbaaGreatDoor
set_option linter.unusedVariables false
set_option linter.unusedSimpArgs false
open Go Go.ChangeShapes Go.Deep Go.WideShapes Go.ChangeAt Go.RowKit
set_option maxRecDepth 100000 in
theorem fnExactCountWords_closed : joinedFacts Tryz.prog 7 Tryz.f7 Rows.fnExactCountWordsSpec Rows.fnExactCountWordsRow = true := by
 unfold joinedFacts
 exact (band (band (band (band (band (band (band (band (band (band (band (band (band (band (band (band (band (band (band (band (band (band (band (band (band (band (band (band (band (band (band fnExactCountWords_k0 fnExactCountWords_k1) fnExactCountWords_k2) fnExactCountWords_k3) fnExactCountWords_k4) fnExactCountWords_k5) fnExactCountWords_k6) fnExactCountWords_k7) fnExactCountWords_k8) fnExactCountWords_k9) fnExactCountWords_k10) fnExactCountWords_k11) fnExactCountWords_k12) fnExactCountWords_k13) fnExactCountWords_k14) fnExactCountWords_k15) fnExactCountWords_k16) fnExactCountWords_k17) fnExactCountWords_k18) fnExactCountWords_k19) fnExactCountWords_k20) fnExactCountWords_k21) fnExactCountWords_k22) fnExactCountWords_k23) fnExactCountWords_k24) fnExactCountWords_k25) fnExactCountWords_k26) fnExactCountWords_k27) fnExactCountWords_k28) fnExactCountWords_k29) fnExactCountWords_k30) fnExactCountWords_k31)
theorem door_met (os : Os) (args : Array Value) : laidMetH Tryz.prog [("math/bits.deBruijn32tab", Rows.laid_math_bits_deBruijn32tab), ("math/bits.deBruijn64tab", Rows.laid_math_bits_deBruijn64tab), ("internal/strconv.uint64pow10", Rows.laid_internal_strconv_uint64pow10)] ((World.doorLaid Tryz.prog 24 os).forCall (fun _ _ => 0) ⟨#[], args, []⟩).memory :=
 laidMetH_of_parts3 (fuel := 8) (laidMet_of_run' 8 (by kernel_rfl) (by kernel_rfl)) (by kernel_rfl) (by kernel_rfl)
set_option maxRecDepth 100000 in
theorem fnExactCountWords_lifted (os : Os) (started : os.Started) (H : Type) (enc : TypeId × Value → H) :
  ReturnsInHanded {} Tryz.checked os 7 .any (fun w args => (Rows.fnExactCountWordsSpec.pre enc Tryz.prog Tryz.f7 [] false w args ∧ laidMetH Tryz.prog [("math/bits.deBruijn32tab", Rows.laid_math_bits_deBruijn32tab), ("math/bits.deBruijn64tab", Rows.laid_math_bits_deBruijn64tab), ("internal/strconv.uint64pow10", Rows.laid_internal_strconv_uint64pow10)] w) ∧ sizedMet enc Tryz.prog Tryz.f7 (OpenSpec.ofChange Rows.fnExactCountWordsSpec) false w args)
   (Rows.fnExactCountWordsSpec.post enc Tryz.prog Tryz.f7 false true false false) :=
 laid_lifted (C := Tryz.checked) own laid (by kernel_rfl) rfl (by kernel_rfl) Tryz.underlying4 Tryz.func7 (by kernel_rfl)
  (fun H ds h => by
   rw [Tryz.params7] at h
   match ds, h with | [d0, d1, d2], _ => rfl) os started H enc
  (ChangeSpec.witness_shaped (enc := enc) (C := Tryz.checked) (os := os) (X := fun w _ => laidMetH Tryz.prog [("math/bits.deBruijn32tab", Rows.laid_math_bits_deBruijn32tab), ("math/bits.deBruijn64tab", Rows.laid_math_bits_deBruijn64tab), ("internal/strconv.uint64pow10", Rows.laid_internal_strconv_uint64pow10)] w) false (World.doorLaid Tryz.prog 24 os) #[.agg #[.int .i64 0, .int .i64 0], .agg #[.int .i64 0, .int .i64 0, .slice none 0 0], .int .i64 0] 8 rfl (World.shaped_of_RefB (by kernel_rfl) (by kernel_rfl)) (by kernel_rfl) (by kernel_rfl) (by kernel_rfl) (door_met os _))
  (fun W args ds ps hA hval _ => law_CountWords_of W args ds ps hA hval)
theorem fnExactCountWords_over : Rows.FnExactCountWordsSaid :=
 OpenClaim.holds_of_wide 7 Tryz.f7 rfl rfl rfl rfl rfl rfl rfl ⟨rfl, rfl, rfl, rfl, rfl⟩ rfl rfl rfl rfl rfl (by kernel_rfl) Tryz.func7 fnExactCountWords_closed
  (of_decide_eq_true (by kernel_rfl)) (by unfold Func.isWrapper; rw [if_neg (of_decide_eq_false (by kernel_rfl))]; exact ⟨rfl, rfl⟩)
  (fun os started H enc _ => fnExactCountWords_lifted os started H enc)
theorem fnExactCountWordsCard_proved : Rows.FnExactCountWordsCardSaid :=
 Claim7.holds_tied_plain_at .later [] [.data, .data, .data] true Rows.fnExactCountWordsCard.stood.harness false
  fnExactCountWords_over (fun _ h => by cases h) (by kernel_rfl) (fun _ h => by cases h) fnExactCountWords_row_tie rfl ⟨rfl, rfl⟩ (by kernel_rfl) rfl
  (fun f fn hf hfn => by
   obtain rfl : f = 7 := Option.some.inj ((show Tryz.prog.funcNamed "loop.example/g01101/laws.FnExactCountWords" = some 7 by kernel_rfl).symm.trans hf) |>.symm
   obtain rfl : fn = Tryz.f7 := (Option.some.inj (Tryz.func7.symm.trans hfn)).symm
   exact ⟨by kernel_rfl, fun j t ht => by
    have hall : (Tryz.f7.params.toList.all fun u => !Tryz.prog.wantsStandIn u) = true := by kernel_rfl
    have hm : t ∈ Tryz.f7.params.toList := by simpa using Array.mem_of_getElem? ht
    exact (show Tryz.prog.wantsStandIn t = false by simpa using List.all_eq_true.1 hall t hm)⟩)
  (by kernel_rfl)
#print axioms fnExactCountWordsCard_proved
end Go.Proofs.YtjlmdhoajfdkbaaGreatDoor
