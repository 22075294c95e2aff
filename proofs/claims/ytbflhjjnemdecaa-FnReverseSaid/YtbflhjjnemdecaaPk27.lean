/-
  Parts of a proof, joined: CReverse. No condition.
-/
import Derived.Test.YtbflhjjnemdecaaRows
import Derived.Test.YtbflhjjnemdecaaPk26
namespace Go.Proofs.Ytbflhjjnemdecaa
set_option linter.unusedVariables false
set_option linter.unusedSimpArgs false
open Go.ChangeShapes Go.WideShapes Go.ChangeAt Go.RowKit
set_option maxRecDepth 100000 in
theorem fnReverse_lifted (os : Os) (started : os.Started) (H : Type) (enc : TypeId × Value → H) :
  ReturnsInHanded {} Try.checked os 8 .any (Rows.fnReverseSpec.pre6 enc Try.prog Try.f8 Rows.fnReverseRow.domain false) (Rows.fnReverseSpec.post enc Try.prog Try.f8 false true false false) :=
 law_lifted (C := Try.checked) own laid (by kernel_rfl) rfl (by kernel_rfl) Try.underlying4 Try.func8 (by kernel_rfl)
  (fun H ds h => by
   rw [Try.params8] at h
   match ds, h with | [d0, d1], _ => rfl
   ) os started H enc
  (ChangeSpec.witness6 (enc := enc) (C := Try.checked) false ⟨#[], #[.slice none 0 0, .slice none 0 0], []⟩ 8 (by kernel_rfl) (by kernel_rfl) (by kernel_rfl) (by kernel_rfl))
  (fun W args ds ps hA hval _ => law_Reverse_of W args ds ps hA hval)
theorem fnReverse_over : Rows.fnReverseRow.holds Try.pinned (OpenSpec.ofChange Rows.fnReverseSpec) :=
 OpenClaim.holds_of_wide 8 Try.f8 rfl rfl rfl rfl rfl rfl rfl ⟨rfl, rfl, rfl, rfl, rfl⟩ rfl rfl rfl rfl rfl (by kernel_rfl) Try.func8 (by kernel_rfl)
  (of_decide_eq_true (by kernel_rfl)) (by unfold Func.isWrapper; rw [if_neg (of_decide_eq_false (by kernel_rfl))]; exact ⟨rfl, rfl⟩)
  (fun os started H enc _ => fnReverse_lifted os started H enc)
theorem fnReverse_proved : Rows.FnReverseSaid := fnReverse_over
#print axioms fnReverse_proved
end Go.Proofs.Ytbflhjjnemdecaa
