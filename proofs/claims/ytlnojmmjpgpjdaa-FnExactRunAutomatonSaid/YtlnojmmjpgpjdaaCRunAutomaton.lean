/-
  FnExactRunAutomaton: the program's RunAutomaton returns what the reference's returns, for all arguments. No condition.
-/
import Derived.Test.YtlnojmmjpgpjdaaRows
import Derived.Test.YtlnojmmjpgpjdaaLawRunAutomaton
namespace Go.Proofs.Ytlnojmmjpgpjdaa
open Go.ChangeShapes Go.WideShapes Go.ChangeAt Go.RowKit

set_option maxRecDepth 100000 in
theorem fnExactRunAutomaton_lifted (os : Os) (started : os.Started) (H : Type) (enc : TypeId × Value → H) :
    ReturnsInHanded {} Try.checked os 7 .any (Rows.fnExactRunAutomatonSpec.pre6 enc Try.prog Try.f7 Rows.fnExactRunAutomatonRow.domain false) (Rows.fnExactRunAutomatonSpec.post enc Try.prog Try.f7 false true false false) :=
  law_lifted (C := Try.checked) own laid (by kernel_rfl) rfl (by kernel_rfl) Try.underlying4 Try.func7 (by kernel_rfl)
    (fun H ds h => by
      rw [Try.params7] at h
      match ds, h with | [d0, d1], _ => rfl
      ) os started H enc
    (ChangeSpec.witness6 (enc := enc) (C := Try.checked) false ⟨#[], #[.agg #[.int .i64 0, .int .i64 0, .slice none 0 0, .slice none 0 0], .agg #[.slice none 0 0, .slice none 0 0]], []⟩ 8 (by kernel_rfl) (by kernel_rfl) (by kernel_rfl) (by kernel_rfl))
    (fun W args ds ps hA hval _ => law_RunAutomaton_of W args ds ps hA hval)

theorem fnExactRunAutomaton_over : Rows.fnExactRunAutomatonRow.holds Try.pinned (OpenSpec.ofChange Rows.fnExactRunAutomatonSpec) :=
  OpenClaim.holds_of_wide 7 Try.f7 rfl rfl rfl rfl rfl rfl rfl ⟨rfl, rfl, rfl, rfl, rfl⟩ rfl rfl rfl rfl rfl (by kernel_rfl) Try.func7 (by kernel_rfl)
    (of_decide_eq_true (by kernel_rfl)) (by unfold Func.isWrapper; rw [if_neg (of_decide_eq_false (by kernel_rfl))]; exact ⟨rfl, rfl⟩)
    (fun os started H enc _ => fnExactRunAutomaton_lifted os started H enc)

/-- The statement. -/
theorem fnExactRunAutomaton_proved : Rows.FnExactRunAutomatonSaid := fnExactRunAutomaton_over
#print axioms fnExactRunAutomaton_proved
end Go.Proofs.Ytlnojmmjpgpjdaa
