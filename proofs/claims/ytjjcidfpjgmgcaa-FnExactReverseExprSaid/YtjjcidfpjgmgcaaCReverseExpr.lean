/-
  FnExactReverseExpr: the program's ReverseExpr returns what the reference's returns, for all arguments. No condition.
-/
import Derived.Test.YtjjcidfpjgmgcaaRows
import Derived.Test.YtjjcidfpjgmgcaaLawReverseExpr
namespace Go.Proofs.Ytjjcidfpjgmgcaa
open Go.ChangeShapes Go.WideShapes Go.ChangeAt Go.RowKit

set_option maxRecDepth 100000 in
theorem fnExactReverseExpr_lifted (os : Os) (started : os.Started) (H : Type) (enc : TypeId × Value → H) :
    ReturnsInHanded {} Try.checked os 6 .any (Rows.fnExactReverseExprSpec.pre6 enc Try.prog Try.f6 Rows.fnExactReverseExprRow.domain false) (Rows.fnExactReverseExprSpec.post enc Try.prog Try.f6 false true false false) :=
  law_lifted (C := Try.checked) own laid (by kernel_rfl) rfl (by kernel_rfl) Try.underlying4 Try.func6 (by kernel_rfl)
    (fun H ds h => by
      rw [Try.params6] at h
      match ds, h with | [d0, d1], _ => rfl
      ) os started H enc
    (ChangeSpec.witness6 (enc := enc) (C := Try.checked) false ⟨#[], #[.agg #[.int .i64 0, .int .i64 0], .agg #[.int .i64 0, .int .i64 0, .slice none 0 0]], []⟩ 8 (by kernel_rfl) (by kernel_rfl) (by kernel_rfl) (by kernel_rfl))
    (fun W args ds ps hA hval _ => law_ReverseExpr_of W args ds ps hA hval)

theorem fnExactReverseExpr_over : Rows.fnExactReverseExprRow.holds Try.pinned (OpenSpec.ofChange Rows.fnExactReverseExprSpec) :=
  OpenClaim.holds_of_wide 6 Try.f6 rfl rfl rfl rfl rfl rfl rfl ⟨rfl, rfl, rfl, rfl, rfl⟩ rfl rfl rfl rfl rfl (by kernel_rfl) Try.func6 (by kernel_rfl)
    (of_decide_eq_true (by kernel_rfl)) (by unfold Func.isWrapper; rw [if_neg (of_decide_eq_false (by kernel_rfl))]; exact ⟨rfl, rfl⟩)
    (fun os started H enc _ => fnExactReverseExpr_lifted os started H enc)

/-- The statement. -/
theorem fnExactReverseExpr_proved : Rows.FnExactReverseExprSaid := fnExactReverseExpr_over
#print axioms fnExactReverseExpr_proved
end Go.Proofs.Ytjjcidfpjgmgcaa
