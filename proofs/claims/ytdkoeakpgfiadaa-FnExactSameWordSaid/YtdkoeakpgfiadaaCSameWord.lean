/-
  FnExactSameWord: the program's SameWord returns what the reference's returns, for all arguments. No condition.
-/
import Derived.Test.YtdkoeakpgfiadaaRows
import Derived.Test.YtdkoeakpgfiadaaLawSameWord
namespace Go.Proofs.Ytdkoeakpgfiadaa
open Go.ChangeShapes Go.WideShapes Go.ChangeAt Go.RowKit

set_option maxRecDepth 100000 in
theorem fnExactSameWord_lifted (os : Os) (started : os.Started) (H : Type) (enc : TypeId × Value → H) :
    ReturnsInHanded {} Try.checked os 7 .any (Rows.fnExactSameWordSpec.pre6 enc Try.prog Try.f7 Rows.fnExactSameWordRow.domain false) (Rows.fnExactSameWordSpec.post enc Try.prog Try.f7 false true false false) :=
  law_lifted (C := Try.checked) own laid (by kernel_rfl) rfl (by kernel_rfl) Try.underlying4 Try.func7 (by kernel_rfl)
    (fun H ds h => by
      rw [Try.params7] at h
      match ds, h with | [d0, d1], _ => rfl
      ) os started H enc
    (ChangeSpec.witness6 (enc := enc) (C := Try.checked) false ⟨#[], #[.agg #[.slice none 0 0, .slice none 0 0], .agg #[.slice none 0 0, .slice none 0 0]], []⟩ 8 (by kernel_rfl) (by kernel_rfl) (by kernel_rfl) (by kernel_rfl))
    (fun W args ds ps hA hval _ => law_SameWord_of W args ds ps hA hval)

theorem fnExactSameWord_over : Rows.fnExactSameWordRow.holds Try.pinned (OpenSpec.ofChange Rows.fnExactSameWordSpec) :=
  OpenClaim.holds_of_wide 7 Try.f7 rfl rfl rfl rfl rfl rfl rfl ⟨rfl, rfl, rfl, rfl, rfl⟩ rfl rfl rfl rfl rfl (by kernel_rfl) Try.func7 (by kernel_rfl)
    (of_decide_eq_true (by kernel_rfl)) (by unfold Func.isWrapper; rw [if_neg (of_decide_eq_false (by kernel_rfl))]; exact ⟨rfl, rfl⟩)
    (fun os started H enc _ => fnExactSameWord_lifted os started H enc)

/-- The statement. -/
theorem fnExactSameWord_proved : Rows.FnExactSameWordSaid := fnExactSameWord_over
#print axioms fnExactSameWord_proved
end Go.Proofs.Ytdkoeakpgfiadaa
