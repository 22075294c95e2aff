/-
  FnExactValidExpr: the program's ValidExpr returns what the reference's returns, for all arguments. No condition.
-/
import Derived.Test.YtdkoeakpgfiadaaRows
import Derived.Test.YtdkoeakpgfiadaaLawValidExpr
namespace Go.Proofs.Ytdkoeakpgfiadaa
open Go.ChangeShapes Go.WideShapes Go.ChangeAt Go.RowKit

set_option maxRecDepth 100000 in
theorem fnExactValidExpr_lifted (os : Os) (started : os.Started) (H : Type) (enc : TypeId × Value → H) :
    ReturnsInHanded {} Try.checked os 13 .any (Rows.fnExactValidExprSpec.pre6 enc Try.prog Try.f13 Rows.fnExactValidExprRow.domain false) (Rows.fnExactValidExprSpec.post enc Try.prog Try.f13 false true false false) :=
  law_lifted (C := Try.checked) own laid (by kernel_rfl) rfl (by kernel_rfl) Try.underlying4 Try.func13 (by kernel_rfl)
    (fun H ds h => by
      rw [Try.params13] at h
      match ds, h with | [d0, d1], _ => rfl
      ) os started H enc
    (ChangeSpec.witness6 (enc := enc) (C := Try.checked) false ⟨#[], #[.agg #[.int .i64 0, .int .i64 0], .agg #[.int .i64 0, .int .i64 0, .slice none 0 0]], []⟩ 8 (by kernel_rfl) (by kernel_rfl) (by kernel_rfl) (by kernel_rfl))
    (fun W args ds ps hA hval _ => law_ValidExpr_of W args ds ps hA hval)

theorem fnExactValidExpr_over : Rows.fnExactValidExprRow.holds Try.pinned (OpenSpec.ofChange Rows.fnExactValidExprSpec) :=
  OpenClaim.holds_of_wide 13 Try.f13 rfl rfl rfl rfl rfl rfl rfl ⟨rfl, rfl, rfl, rfl, rfl⟩ rfl rfl rfl rfl rfl (by kernel_rfl) Try.func13 (by kernel_rfl)
    (of_decide_eq_true (by kernel_rfl)) (by unfold Func.isWrapper; rw [if_neg (of_decide_eq_false (by kernel_rfl))]; exact ⟨rfl, rfl⟩)
    (fun os started H enc _ => fnExactValidExpr_lifted os started H enc)

/-- The statement. -/
theorem fnExactValidExpr_proved : Rows.FnExactValidExprSaid := fnExactValidExpr_over
#print axioms fnExactValidExpr_proved
end Go.Proofs.Ytdkoeakpgfiadaa
