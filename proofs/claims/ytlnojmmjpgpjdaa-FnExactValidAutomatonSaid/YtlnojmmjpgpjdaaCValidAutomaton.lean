/-
  FnExactValidAutomaton: the program's ValidAutomaton returns what the reference's returns, for all arguments. No condition.
-/
import Derived.Test.YtlnojmmjpgpjdaaRows
import Derived.Test.YtlnojmmjpgpjdaaLawValidAutomaton
namespace Go.Proofs.Ytlnojmmjpgpjdaa
open Go.ChangeShapes Go.WideShapes Go.ChangeAt Go.RowKit

set_option maxRecDepth 100000 in
theorem fnExactValidAutomaton_lifted (os : Os) (started : os.Started) (H : Type) (enc : TypeId × Value → H) :
    ReturnsInHanded {} Try.checked os 3 .any (Rows.fnExactValidAutomatonSpec.pre6 enc Try.prog Try.f3 Rows.fnExactValidAutomatonRow.domain false) (Rows.fnExactValidAutomatonSpec.post enc Try.prog Try.f3 false true false false) :=
  law_lifted (C := Try.checked) own laid (by kernel_rfl) rfl (by kernel_rfl) Try.underlying4 Try.func3 (by kernel_rfl)
    (fun H ds h => by
      rw [Try.params3] at h
      match ds, h with | [d0], _ => rfl
      ) os started H enc
    (ChangeSpec.witness6 (enc := enc) (C := Try.checked) false ⟨#[], #[.agg #[.int .i64 0, .int .i64 0, .slice none 0 0, .slice none 0 0]], []⟩ 8 (by kernel_rfl) (by kernel_rfl) (by kernel_rfl) (by kernel_rfl))
    (fun W args ds ps hA hval _ => law_ValidAutomaton_of W args ds ps hA hval)

theorem fnExactValidAutomaton_over : Rows.fnExactValidAutomatonRow.holds Try.pinned (OpenSpec.ofChange Rows.fnExactValidAutomatonSpec) :=
  OpenClaim.holds_of_wide 3 Try.f3 rfl rfl rfl rfl rfl rfl rfl ⟨rfl, rfl, rfl, rfl, rfl⟩ rfl rfl rfl rfl rfl (by kernel_rfl) Try.func3 (by kernel_rfl)
    (of_decide_eq_true (by kernel_rfl)) (by unfold Func.isWrapper; rw [if_neg (of_decide_eq_false (by kernel_rfl))]; exact ⟨rfl, rfl⟩)
    (fun os started H enc _ => fnExactValidAutomaton_lifted os started H enc)

/-- The statement. -/
theorem fnExactValidAutomaton_proved : Rows.FnExactValidAutomatonSaid := fnExactValidAutomaton_over
#print axioms fnExactValidAutomaton_proved
end Go.Proofs.Ytlnojmmjpgpjdaa
