/-
  Parts of a proof, joined: CFirstAccepted. No condition.
-/
import Derived.Test.YtbflhjjnemdecaaRows
import Derived.Test.YtbflhjjnemdecaaPk11
set_option linter.unusedVariables false
set_option linter.unusedSimpArgs false
namespace Go.Proofs.Ytbflhjjnemdecaa
open Go.ChangeShapes Go.WideShapes Go.ChangeAt Go.RowKit
set_option maxRecDepth 100000 in
theorem fnExactFirstAccepted_lifted (os:Os) (started:os.Started) (H:Type) (enc:TypeId × Value→H):
  ReturnsInHanded {} Try.checked os 5 .any (Rows.fnExactFirstAcceptedSpec.pre6 enc Try.prog Try.f5 Rows.fnExactFirstAcceptedRow.domain false) (Rows.fnExactFirstAcceptedSpec.post enc Try.prog Try.f5 false true false false):=
 law_lifted (C:=Try.checked) own laid (by kernel_rfl) rfl (by kernel_rfl) Try.underlying4 Try.func5 (by kernel_rfl)
  (fun H ds h=>by
   rw [Try.params5] at h
   match ds,h with|[d0],_=>rfl
   ) os started H enc
  (ChangeSpec.witness6 (enc:=enc) (C:=Try.checked) false ⟨#[], #[.agg #[.int .i64 0,.int .i64 0,.slice none 0 0,.slice none 0 0]],[]⟩ 8 (by kernel_rfl) (by kernel_rfl) (by kernel_rfl) (by kernel_rfl))
  (fun W args ds ps hA hval _=>law_FirstAccepted_of W args ds ps hA hval)
theorem fnExactFirstAccepted_over:Rows.fnExactFirstAcceptedRow.holds Try.pinned (OpenSpec.ofChange Rows.fnExactFirstAcceptedSpec):=
 OpenClaim.holds_of_wide 5 Try.f5 rfl rfl rfl rfl rfl rfl rfl ⟨rfl,rfl,rfl,rfl,rfl⟩ rfl rfl rfl rfl rfl (by kernel_rfl) Try.func5 (by kernel_rfl)
  (of_decide_eq_true (by kernel_rfl)) (by unfold Func.isWrapper; rw [if_neg (of_decide_eq_false (by kernel_rfl))]; exact ⟨rfl,rfl⟩)
  (fun os started H enc _=>fnExactFirstAccepted_lifted os started H enc)
theorem fnExactFirstAccepted_proved:Rows.FnExactFirstAcceptedSaid:=fnExactFirstAccepted_over
#print axioms fnExactFirstAccepted_proved
end Go.Proofs.Ytbflhjjnemdecaa
