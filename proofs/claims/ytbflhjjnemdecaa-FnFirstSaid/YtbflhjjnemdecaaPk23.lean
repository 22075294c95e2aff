/-
  Parts of a proof, joined: CFirst. No condition.
-/
import Derived.Test.YtbflhjjnemdecaaRows
import Derived.Test.YtbflhjjnemdecaaPk22
namespace Go.Proofs.Ytbflhjjnemdecaa
set_option linter.unusedVariables false
set_option linter.unusedSimpArgs false
open Go.ChangeShapes Go.WideShapes Go.ChangeAt Go.RowKit
set_option maxRecDepth 100000 in
theorem fnFirst_lifted (os : Os) (started : os.Started) (H : Type) (enc : TypeId × Value → H) :
  ReturnsInHanded {} Try.checked os 9 .any (Rows.fnFirstSpec.pre6 enc Try.prog Try.f9 Rows.fnFirstRow.domain false) (Rows.fnFirstSpec.post enc Try.prog Try.f9 false true false false) :=
 law_lifted (C := Try.checked) own laid (by kernel_rfl) rfl (by kernel_rfl) Try.underlying4 Try.func9 (by kernel_rfl)
  (fun H ds h => by
   rw [Try.params9] at h
   match ds, h with | [d0, d1], _ => rfl
   ) os started H enc
  (ChangeSpec.witness6 (enc := enc) (C := Try.checked) false ⟨#[], #[.slice none 0 0, .slice none 0 0], []⟩ 8 (by kernel_rfl) (by kernel_rfl) (by kernel_rfl) (by kernel_rfl))
  (fun W args ds ps hA hval _ => law_First_of W args ds ps hA hval)
theorem fnFirst_over : Rows.fnFirstRow.holds Try.pinned (OpenSpec.ofChange Rows.fnFirstSpec) :=
 OpenClaim.holds_of_wide 9 Try.f9 rfl rfl rfl rfl rfl rfl rfl ⟨rfl, rfl, rfl, rfl, rfl⟩ rfl rfl rfl rfl rfl (by kernel_rfl) Try.func9 (by kernel_rfl)
  (of_decide_eq_true (by kernel_rfl)) (by unfold Func.isWrapper; rw [if_neg (of_decide_eq_false (by kernel_rfl))]; exact ⟨rfl, rfl⟩)
  (fun os started H enc _ => fnFirst_lifted os started H enc)
theorem fnFirst_proved : Rows.FnFirstSaid := fnFirst_over
#print axioms fnFirst_proved
end Go.Proofs.Ytbflhjjnemdecaa
