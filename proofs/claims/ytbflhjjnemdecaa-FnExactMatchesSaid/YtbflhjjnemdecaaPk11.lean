/-
  Parts of a proof, joined: CMatches. No condition.
-/
import Derived.Test.YtbflhjjnemdecaaRows
import Derived.Test.YtbflhjjnemdecaaPk10
namespace Go.Proofs.Ytbflhjjnemdecaa
set_option linter.unusedVariables false
set_option linter.unusedSimpArgs false
open Go.ChangeShapes Go.WideShapes Go.ChangeAt Go.RowKit
set_option maxRecDepth 100000 in
theorem fnExactMatches_lifted (os : Os) (started : os.Started) (H : Type) (enc : TypeId × Value → H) :
  ReturnsInHanded {} Try.checked os 3 .any (Rows.fnExactMatchesSpec.pre6 enc Try.prog Try.f3 Rows.fnExactMatchesRow.domain false) (Rows.fnExactMatchesSpec.post enc Try.prog Try.f3 false true false false) :=
 law_lifted (C := Try.checked) own laid (by kernel_rfl) rfl (by kernel_rfl) Try.underlying4 Try.func3 (by kernel_rfl)
  (fun H ds h => by
   rw [Try.params3] at h
   match ds, h with | [d0, d1, d2], _ => rfl
   ) os started H enc
  (ChangeSpec.witness6 (enc := enc) (C := Try.checked) false ⟨#[], #[.agg #[.int .i64 0, .int .i64 0], .agg #[.int .i64 0, .int .i64 0, .slice none 0 0], .agg #[.slice none 0 0, .slice none 0 0]], []⟩ 8 (by kernel_rfl) (by kernel_rfl) (by kernel_rfl) (by kernel_rfl))
  (fun W args ds ps hA hval _ => law_Matches_of W args ds ps hA hval)
theorem fnExactMatches_over : Rows.fnExactMatchesRow.holds Try.pinned (OpenSpec.ofChange Rows.fnExactMatchesSpec) :=
 OpenClaim.holds_of_wide 3 Try.f3 rfl rfl rfl rfl rfl rfl rfl ⟨rfl, rfl, rfl, rfl, rfl⟩ rfl rfl rfl rfl rfl (by kernel_rfl) Try.func3 (by kernel_rfl)
  (of_decide_eq_true (by kernel_rfl)) (by unfold Func.isWrapper; rw [if_neg (of_decide_eq_false (by kernel_rfl))]; exact ⟨rfl, rfl⟩)
  (fun os started H enc _ => fnExactMatches_lifted os started H enc)
theorem fnExactMatches_proved : Rows.FnExactMatchesSaid := fnExactMatches_over
#print axioms fnExactMatches_proved
end Go.Proofs.Ytbflhjjnemdecaa
