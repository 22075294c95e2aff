/-
  Parts of a proof, joined: CMix. No condition.
-/
import Derived.Test.YtfhlddbngjlhbaaRows
import Derived.Test.YtfhlddbngjlhbaaPk23
namespace Go.Proofs.Ytfhlddbngjlhbaa
set_option linter.unusedVariables false
set_option linter.unusedSimpArgs false
open Go.ChangeShapes Go.WideShapes Go.ChangeAt Go.RowKit
set_option maxRecDepth 100000 in
theorem fnMix_lifted (os : Os) (started : os.Started) (H : Type) (enc : TypeId × Value → H) :
  ReturnsInHanded {} Try.checked os 4 .any (Rows.fnMixSpec.pre6 enc Try.prog Try.f4 Rows.fnMixRow.domain false) (Rows.fnMixSpec.post enc Try.prog Try.f4 false true false false) :=
 law_lifted (C := Try.checked) own laid (by kernel_rfl) rfl (by kernel_rfl) Try.underlying4 Try.func4 (by kernel_rfl)
  (fun H ds h => by
   rw [Try.params4] at h
   match ds, h with | [d0, d1], _ => rfl
   ) os started H enc
  (ChangeSpec.witness6 (enc := enc) (C := Try.checked) false ⟨#[], #[.slice none 0 0, .slice none 0 0], []⟩ 8 (by kernel_rfl) (by kernel_rfl) (by kernel_rfl) (by kernel_rfl))
  (fun W args ds ps hA hval _ => law_Mix_of W args ds ps hA hval)
theorem fnMix_over : Rows.fnMixRow.holds Try.pinned (OpenSpec.ofChange Rows.fnMixSpec) :=
 OpenClaim.holds_of_wide 4 Try.f4 rfl rfl rfl rfl rfl rfl rfl ⟨rfl, rfl, rfl, rfl, rfl⟩ rfl rfl rfl rfl rfl (by kernel_rfl) Try.func4 (by kernel_rfl)
  (of_decide_eq_true (by kernel_rfl)) (by unfold Func.isWrapper; rw [if_neg (of_decide_eq_false (by kernel_rfl))]; exact ⟨rfl, rfl⟩)
  (fun os started H enc _ => fnMix_lifted os started H enc)
theorem fnMix_proved : Rows.FnMixSaid := fnMix_over
#print axioms fnMix_proved
end Go.Proofs.Ytfhlddbngjlhbaa
