/-
  FnExactReplaceActions: the program's ReplaceActions returns what the reference's returns, for all arguments. No condition.
-/
import Derived.Test.YtlnojmmjpgpjdaaRows
import Derived.Test.YtlnojmmjpgpjdaaLawReplaceActions
namespace Go.Proofs.Ytlnojmmjpgpjdaa
open Go.ChangeShapes Go.WideShapes Go.ChangeAt Go.RowKit

set_option maxRecDepth 100000 in
theorem fnExactReplaceActions_lifted (os : Os) (started : os.Started) (H : Type) (enc : TypeId × Value → H) :
    ReturnsInHanded {} Try.checked os 6 .any (Rows.fnExactReplaceActionsSpec.pre6 enc Try.prog Try.f6 Rows.fnExactReplaceActionsRow.domain false) (Rows.fnExactReplaceActionsSpec.post enc Try.prog Try.f6 false true false false) :=
  law_lifted (C := Try.checked) own laid (by kernel_rfl) rfl (by kernel_rfl) Try.underlying4 Try.func6 (by kernel_rfl)
    (fun H ds h => by
      rw [Try.params6] at h
      match ds, h with | [d0, d1, d2], _ => rfl
      ) os started H enc
    (ChangeSpec.witness6 (enc := enc) (C := Try.checked) false ⟨#[], #[.agg #[.int .i64 0, .int .i64 0], .agg #[.int .i64 0, .int .i64 0, .slice none 0 0], .slice none 0 0], []⟩ 8 (by kernel_rfl) (by kernel_rfl) (by kernel_rfl) (by kernel_rfl))
    (fun W args ds ps hA hval _ => law_ReplaceActions_of W args ds ps hA hval)

theorem fnExactReplaceActions_over : Rows.fnExactReplaceActionsRow.holds Try.pinned (OpenSpec.ofChange Rows.fnExactReplaceActionsSpec) :=
  OpenClaim.holds_of_wide 6 Try.f6 rfl rfl rfl rfl rfl rfl rfl ⟨rfl, rfl, rfl, rfl, rfl⟩ rfl rfl rfl rfl rfl (by kernel_rfl) Try.func6 (by kernel_rfl)
    (of_decide_eq_true (by kernel_rfl)) (by unfold Func.isWrapper; rw [if_neg (of_decide_eq_false (by kernel_rfl))]; exact ⟨rfl, rfl⟩)
    (fun os started H enc _ => fnExactReplaceActions_lifted os started H enc)

/-- The statement. -/
theorem fnExactReplaceActions_proved : Rows.FnExactReplaceActionsSaid := fnExactReplaceActions_over
#print axioms fnExactReplaceActions_proved
end Go.Proofs.Ytlnojmmjpgpjdaa
