/-
  FnExactReverseWord: the program's ReverseWord returns what the reference's returns, for all arguments. No condition.
-/
import Derived.Test.YtdkoeakpgfiadaaRows
import Derived.Test.YtdkoeakpgfiadaaLawReverseWord
namespace Go.Proofs.Ytdkoeakpgfiadaa
open Go.ChangeShapes Go.WideShapes Go.ChangeAt Go.RowKit

set_option maxRecDepth 100000 in
theorem fnExactReverseWord_lifted (os : Os) (started : os.Started) (H : Type) (enc : TypeId × Value → H) :
    ReturnsInHanded {} Try.checked os 11 .any (Rows.fnExactReverseWordSpec.pre6 enc Try.prog Try.f11 Rows.fnExactReverseWordRow.domain false) (Rows.fnExactReverseWordSpec.post enc Try.prog Try.f11 false true false false) :=
  law_lifted (C := Try.checked) own laid (by kernel_rfl) rfl (by kernel_rfl) Try.underlying4 Try.func11 (by kernel_rfl)
    (fun H ds h => by
      rw [Try.params11] at h
      match ds, h with | [d0, d1], _ => rfl
      ) os started H enc
    (ChangeSpec.witness6 (enc := enc) (C := Try.checked) false ⟨#[], #[.agg #[.int .i64 0, .int .i64 0], .agg #[.slice none 0 0, .slice none 0 0]], []⟩ 8 (by kernel_rfl) (by kernel_rfl) (by kernel_rfl) (by kernel_rfl))
    (fun W args ds ps hA hval _ => law_ReverseWord_of W args ds ps hA hval)

theorem fnExactReverseWord_over : Rows.fnExactReverseWordRow.holds Try.pinned (OpenSpec.ofChange Rows.fnExactReverseWordSpec) :=
  OpenClaim.holds_of_wide 11 Try.f11 rfl rfl rfl rfl rfl rfl rfl ⟨rfl, rfl, rfl, rfl, rfl⟩ rfl rfl rfl rfl rfl (by kernel_rfl) Try.func11 (by kernel_rfl)
    (of_decide_eq_true (by kernel_rfl)) (by unfold Func.isWrapper; rw [if_neg (of_decide_eq_false (by kernel_rfl))]; exact ⟨rfl, rfl⟩)
    (fun os started H enc _ => fnExactReverseWord_lifted os started H enc)

/-- The statement. -/
theorem fnExactReverseWord_proved : Rows.FnExactReverseWordSaid := fnExactReverseWord_over
#print axioms fnExactReverseWord_proved
end Go.Proofs.Ytdkoeakpgfiadaa
