/-
  FnExactFuseWords: the program's FuseWords returns what the reference's returns, for all arguments. No condition.
-/
import Derived.Test.YtjjcidfpjgmgcaaRows
import Derived.Test.YtjjcidfpjgmgcaaLawFuseWords
namespace Go.Proofs.Ytjjcidfpjgmgcaa
open Go.ChangeShapes Go.WideShapes Go.ChangeAt Go.RowKit

set_option maxRecDepth 100000 in
theorem fnExactFuseWords_lifted (os : Os) (started : os.Started) (H : Type) (enc : TypeId × Value → H) :
    ReturnsInHanded {} Try.checked os 3 .any (Rows.fnExactFuseWordsSpec.pre6 enc Try.prog Try.f3 Rows.fnExactFuseWordsRow.domain false) (Rows.fnExactFuseWordsSpec.post enc Try.prog Try.f3 false true false false) :=
  law_lifted (C := Try.checked) own laid (by kernel_rfl) rfl (by kernel_rfl) Try.underlying4 Try.func3 (by kernel_rfl)
    (fun H ds h => by
      rw [Try.params3] at h
      match ds, h with | [d0, d1, d2], _ => rfl
      ) os started H enc
    (ChangeSpec.witness6 (enc := enc) (C := Try.checked) false ⟨#[], #[.agg #[.int .i64 0, .int .i64 0], .agg #[.slice none 0 0, .slice none 0 0], .agg #[.slice none 0 0, .slice none 0 0]], []⟩ 8 (by kernel_rfl) (by kernel_rfl) (by kernel_rfl) (by kernel_rfl))
    (fun W args ds ps hA hval _ => law_FuseWords_of W args ds ps hA hval)

theorem fnExactFuseWords_over : Rows.fnExactFuseWordsRow.holds Try.pinned (OpenSpec.ofChange Rows.fnExactFuseWordsSpec) :=
  OpenClaim.holds_of_wide 3 Try.f3 rfl rfl rfl rfl rfl rfl rfl ⟨rfl, rfl, rfl, rfl, rfl⟩ rfl rfl rfl rfl rfl (by kernel_rfl) Try.func3 (by kernel_rfl)
    (of_decide_eq_true (by kernel_rfl)) (by unfold Func.isWrapper; rw [if_neg (of_decide_eq_false (by kernel_rfl))]; exact ⟨rfl, rfl⟩)
    (fun os started H enc _ => fnExactFuseWords_lifted os started H enc)

/-- The statement. -/
theorem fnExactFuseWords_proved : Rows.FnExactFuseWordsSaid := fnExactFuseWords_over
#print axioms fnExactFuseWords_proved
end Go.Proofs.Ytjjcidfpjgmgcaa
