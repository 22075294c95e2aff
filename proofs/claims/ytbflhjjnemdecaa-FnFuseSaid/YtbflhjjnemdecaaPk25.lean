/-
  Parts of a proof, joined: CFuse. No condition.
-/
import Derived.Test.YtbflhjjnemdecaaRows
import Derived.Test.YtbflhjjnemdecaaPk24
namespace Go.Proofs.Ytbflhjjnemdecaa
set_option linter.unusedVariables false
set_option linter.unusedSimpArgs false
open Go.ChangeShapes Go.WideShapes Go.ChangeAt Go.RowKit
set_option maxRecDepth 100000 in
theorem fnFuse_lifted (os : Os) (started : os.Started) (H : Type) (enc : TypeId × Value → H) :
  ReturnsInHanded {} Try.checked os 7 .any (Rows.fnFuseSpec.pre6 enc Try.prog Try.f7 Rows.fnFuseRow.domain false) (Rows.fnFuseSpec.post enc Try.prog Try.f7 false true false false) :=
 law_lifted (C := Try.checked) own laid (by kernel_rfl) rfl (by kernel_rfl) Try.underlying4 Try.func7 (by kernel_rfl)
  (fun H ds h => by
   rw [Try.params7] at h
   match ds, h with | [d0, d1], _ => rfl
   ) os started H enc
  (ChangeSpec.witness6 (enc := enc) (C := Try.checked) false ⟨#[], #[.slice none 0 0, .slice none 0 0], []⟩ 8 (by kernel_rfl) (by kernel_rfl) (by kernel_rfl) (by kernel_rfl))
  (fun W args ds ps hA hval _ => law_Fuse_of W args ds ps hA hval)
theorem fnFuse_over : Rows.fnFuseRow.holds Try.pinned (OpenSpec.ofChange Rows.fnFuseSpec) :=
 OpenClaim.holds_of_wide 7 Try.f7 rfl rfl rfl rfl rfl rfl rfl ⟨rfl, rfl, rfl, rfl, rfl⟩ rfl rfl rfl rfl rfl (by kernel_rfl) Try.func7 (by kernel_rfl)
  (of_decide_eq_true (by kernel_rfl)) (by unfold Func.isWrapper; rw [if_neg (of_decide_eq_false (by kernel_rfl))]; exact ⟨rfl, rfl⟩)
  (fun os started H enc _ => fnFuse_lifted os started H enc)
theorem fnFuse_proved : Rows.FnFuseSaid := fnFuse_over
#print axioms fnFuse_proved
end Go.Proofs.Ytbflhjjnemdecaa
