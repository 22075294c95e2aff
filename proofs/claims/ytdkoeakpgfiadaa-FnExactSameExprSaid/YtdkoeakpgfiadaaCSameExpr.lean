/-
  FnExactSameExpr: the program's SameExpr returns what the reference's returns, for all arguments. No condition.
-/
import Derived.Test.YtdkoeakpgfiadaaRows
import Derived.Test.YtdkoeakpgfiadaaLawSameExpr
namespace Go.Proofs.Ytdkoeakpgfiadaa
open Go.ChangeShapes Go.WideShapes Go.ChangeAt Go.RowKit

set_option maxRecDepth 100000 in
theorem fnExactSameExpr_lifted (os : Os) (started : os.Started) (H : Type) (enc : TypeId × Value → H) :
    ReturnsInHanded {} Try.checked os 9 .any (Rows.fnExactSameExprSpec.pre6 enc Try.prog Try.f9 Rows.fnExactSameExprRow.domain false) (Rows.fnExactSameExprSpec.post enc Try.prog Try.f9 false true false false) :=
  law_lifted (C := Try.checked) own laid (by kernel_rfl) rfl (by kernel_rfl) Try.underlying4 Try.func9 (by kernel_rfl)
    (fun H ds h => by
      rw [Try.params9] at h
      match ds, h with | [d0, d1], _ => rfl
      ) os started H enc
    (ChangeSpec.witness6 (enc := enc) (C := Try.checked) false ⟨#[], #[.agg #[.int .i64 0, .int .i64 0, .slice none 0 0], .agg #[.int .i64 0, .int .i64 0, .slice none 0 0]], []⟩ 8 (by kernel_rfl) (by kernel_rfl) (by kernel_rfl) (by kernel_rfl))
    (fun W args ds ps hA hval _ => law_SameExpr_of W args ds ps hA hval)

theorem fnExactSameExpr_over : Rows.fnExactSameExprRow.holds Try.pinned (OpenSpec.ofChange Rows.fnExactSameExprSpec) :=
  OpenClaim.holds_of_wide 9 Try.f9 rfl rfl rfl rfl rfl rfl rfl ⟨rfl, rfl, rfl, rfl, rfl⟩ rfl rfl rfl rfl rfl (by kernel_rfl) Try.func9 (by kernel_rfl)
    (of_decide_eq_true (by kernel_rfl)) (by unfold Func.isWrapper; rw [if_neg (of_decide_eq_false (by kernel_rfl))]; exact ⟨rfl, rfl⟩)
    (fun os started H enc _ => fnExactSameExpr_lifted os started H enc)

/-- The statement. -/
theorem fnExactSameExpr_proved : Rows.FnExactSameExprSaid := fnExactSameExpr_over
#print axioms fnExactSameExpr_proved
end Go.Proofs.Ytdkoeakpgfiadaa
