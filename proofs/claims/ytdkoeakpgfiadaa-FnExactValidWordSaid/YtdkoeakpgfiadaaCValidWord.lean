/-
  FnExactValidWord: the program's ValidWord returns what the reference's returns, for all arguments. No condition.
-/
import Derived.Test.YtdkoeakpgfiadaaRows
import Derived.Test.YtdkoeakpgfiadaaLawValidWord
namespace Go.Proofs.Ytdkoeakpgfiadaa
open Go.ChangeShapes Go.WideShapes Go.ChangeAt Go.RowKit

set_option maxRecDepth 100000 in
theorem fnExactValidWord_lifted (os : Os) (started : os.Started) (H : Type) (enc : TypeId × Value → H) :
    ReturnsInHanded {} Try.checked os 10 .any (Rows.fnExactValidWordSpec.pre6 enc Try.prog Try.f10 Rows.fnExactValidWordRow.domain false) (Rows.fnExactValidWordSpec.post enc Try.prog Try.f10 false true false false) :=
  law_lifted (C := Try.checked) own laid (by kernel_rfl) rfl (by kernel_rfl) Try.underlying4 Try.func10 (by kernel_rfl)
    (fun H ds h => by
      rw [Try.params10] at h
      match ds, h with | [d0, d1], _ => rfl
      ) os started H enc
    (ChangeSpec.witness6 (enc := enc) (C := Try.checked) false ⟨#[], #[.agg #[.int .i64 0, .int .i64 0], .agg #[.slice none 0 0, .slice none 0 0]], []⟩ 8 (by kernel_rfl) (by kernel_rfl) (by kernel_rfl) (by kernel_rfl))
    (fun W args ds ps hA hval _ => law_ValidWord_of W args ds ps hA hval)

theorem fnExactValidWord_over : Rows.fnExactValidWordRow.holds Try.pinned (OpenSpec.ofChange Rows.fnExactValidWordSpec) :=
  OpenClaim.holds_of_wide 10 Try.f10 rfl rfl rfl rfl rfl rfl rfl ⟨rfl, rfl, rfl, rfl, rfl⟩ rfl rfl rfl rfl rfl (by kernel_rfl) Try.func10 (by kernel_rfl)
    (of_decide_eq_true (by kernel_rfl)) (by unfold Func.isWrapper; rw [if_neg (of_decide_eq_false (by kernel_rfl))]; exact ⟨rfl, rfl⟩)
    (fun os started H enc _ => fnExactValidWord_lifted os started H enc)

/-- The statement. -/
theorem fnExactValidWord_proved : Rows.FnExactValidWordSaid := fnExactValidWord_over
#print axioms fnExactValidWord_proved
end Go.Proofs.Ytdkoeakpgfiadaa
