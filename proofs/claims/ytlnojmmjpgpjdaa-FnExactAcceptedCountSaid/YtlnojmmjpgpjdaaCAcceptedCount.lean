/-
  FnExactAcceptedCount: the program's AcceptedCount returns what the reference's returns, for all arguments. No condition.
-/
import Derived.Test.YtlnojmmjpgpjdaaRows
import Derived.Test.YtlnojmmjpgpjdaaLawAcceptedCount
namespace Go.Proofs.Ytlnojmmjpgpjdaa
open Go.ChangeShapes Go.WideShapes Go.ChangeAt Go.RowKit

set_option maxRecDepth 100000 in
theorem fnExactAcceptedCount_lifted (os : Os) (started : os.Started) (H : Type) (enc : TypeId × Value → H) :
    ReturnsInHanded {} Try.checked os 5 .any (Rows.fnExactAcceptedCountSpec.pre6 enc Try.prog Try.f5 Rows.fnExactAcceptedCountRow.domain false) (Rows.fnExactAcceptedCountSpec.post enc Try.prog Try.f5 false true false false) :=
  law_lifted (C := Try.checked) own laid (by kernel_rfl) rfl (by kernel_rfl) Try.underlying4 Try.func5 (by kernel_rfl)
    (fun H ds h => by
      rw [Try.params5] at h
      match ds, h with | [d0, d1], _ => rfl
      ) os started H enc
    (ChangeSpec.witness6 (enc := enc) (C := Try.checked) false ⟨#[], #[.agg #[.int .i64 0, .int .i64 0, .slice none 0 0, .slice none 0 0], .int .i64 0], []⟩ 8 (by kernel_rfl) (by kernel_rfl) (by kernel_rfl) (by kernel_rfl))
    (fun W args ds ps hA hval _ => law_AcceptedCount_of W args ds ps hA hval)

theorem fnExactAcceptedCount_over : Rows.fnExactAcceptedCountRow.holds Try.pinned (OpenSpec.ofChange Rows.fnExactAcceptedCountSpec) :=
  OpenClaim.holds_of_wide 5 Try.f5 rfl rfl rfl rfl rfl rfl rfl ⟨rfl, rfl, rfl, rfl, rfl⟩ rfl rfl rfl rfl rfl (by kernel_rfl) Try.func5 (by kernel_rfl)
    (of_decide_eq_true (by kernel_rfl)) (by unfold Func.isWrapper; rw [if_neg (of_decide_eq_false (by kernel_rfl))]; exact ⟨rfl, rfl⟩)
    (fun os started H enc _ => fnExactAcceptedCount_lifted os started H enc)

/-- The statement. -/
theorem fnExactAcceptedCount_proved : Rows.FnExactAcceptedCountSaid := fnExactAcceptedCount_over
#print axioms fnExactAcceptedCount_proved
end Go.Proofs.Ytlnojmmjpgpjdaa
