/-
  FnExactSameAutomaton: the program's SameAutomaton returns what the reference's returns, for all arguments. No condition.
-/
import Derived.Test.YtlnojmmjpgpjdaaRows
import Derived.Test.YtlnojmmjpgpjdaaLawSameAutomaton
namespace Go.Proofs.Ytlnojmmjpgpjdaa
open Go.ChangeShapes Go.WideShapes Go.ChangeAt Go.RowKit

set_option maxRecDepth 100000 in
theorem fnExactSameAutomaton_lifted (os : Os) (started : os.Started) (H : Type) (enc : TypeId × Value → H) :
    ReturnsInHanded {} Try.checked os 4 .any (Rows.fnExactSameAutomatonSpec.pre6 enc Try.prog Try.f4 Rows.fnExactSameAutomatonRow.domain false) (Rows.fnExactSameAutomatonSpec.post enc Try.prog Try.f4 false true false false) :=
  law_lifted (C := Try.checked) own laid (by kernel_rfl) rfl (by kernel_rfl) Try.underlying4 Try.func4 (by kernel_rfl)
    (fun H ds h => by
      rw [Try.params4] at h
      match ds, h with | [d0, d1], _ => rfl
      ) os started H enc
    (ChangeSpec.witness6 (enc := enc) (C := Try.checked) false ⟨#[], #[.agg #[.int .i64 0, .int .i64 0, .slice none 0 0, .slice none 0 0], .agg #[.int .i64 0, .int .i64 0, .slice none 0 0, .slice none 0 0]], []⟩ 8 (by kernel_rfl) (by kernel_rfl) (by kernel_rfl) (by kernel_rfl))
    (fun W args ds ps hA hval _ => law_SameAutomaton_of W args ds ps hA hval)

theorem fnExactSameAutomaton_over : Rows.fnExactSameAutomatonRow.holds Try.pinned (OpenSpec.ofChange Rows.fnExactSameAutomatonSpec) :=
  OpenClaim.holds_of_wide 4 Try.f4 rfl rfl rfl rfl rfl rfl rfl ⟨rfl, rfl, rfl, rfl, rfl⟩ rfl rfl rfl rfl rfl (by kernel_rfl) Try.func4 (by kernel_rfl)
    (of_decide_eq_true (by kernel_rfl)) (by unfold Func.isWrapper; rw [if_neg (of_decide_eq_false (by kernel_rfl))]; exact ⟨rfl, rfl⟩)
    (fun os started H enc _ => fnExactSameAutomaton_lifted os started H enc)

/-- The statement. -/
theorem fnExactSameAutomaton_proved : Rows.FnExactSameAutomatonSaid := fnExactSameAutomaton_over
#print axioms fnExactSameAutomaton_proved
end Go.Proofs.Ytlnojmmjpgpjdaa
