/-
  Parts of a proof, joined: CMixAutomata. No condition.
-/
import Derived.Test.YtfhlddbngjlhbaaRows
import Derived.Test.YtfhlddbngjlhbaaPk14
namespace Go.Proofs.Ytfhlddbngjlhbaa
set_option linter.unusedVariables false
set_option linter.unusedSimpArgs false
open Go.ChangeShapes Go.WideShapes Go.ChangeAt Go.RowKit
set_option maxRecDepth 100000 in
theorem fnExactMixAutomata_lifted (os : Os) (started : os.Started) (H : Type) (enc : TypeId × Value → H) :
  ReturnsInHanded {} Try.checked os 3 .any (Rows.fnExactMixAutomataSpec.pre6 enc Try.prog Try.f3 Rows.fnExactMixAutomataRow.domain false) (Rows.fnExactMixAutomataSpec.post enc Try.prog Try.f3 false true false false) :=
 law_lifted (C := Try.checked) own laid (by kernel_rfl) rfl (by kernel_rfl) Try.underlying4 Try.func3 (by kernel_rfl)
  (fun H ds h => by
   rw [Try.params3] at h
   match ds, h with | [d0, d1, d2], _ => rfl
   ) os started H enc
  (ChangeSpec.witness6 (enc := enc) (C := Try.checked) false ⟨#[], #[.agg #[.int .i64 0, .int .i64 0, .slice none 0 0, .slice none 0 0], .agg #[.int .i64 0, .int .i64 0, .slice none 0 0, .slice none 0 0], .int .i64 0], []⟩ 8 (by kernel_rfl) (by kernel_rfl) (by kernel_rfl) (by kernel_rfl))
  (fun W args ds ps hA hval _ => law_MixAutomata_of W args ds ps hA hval)
theorem fnExactMixAutomata_over : Rows.fnExactMixAutomataRow.holds Try.pinned (OpenSpec.ofChange Rows.fnExactMixAutomataSpec) :=
 OpenClaim.holds_of_wide 3 Try.f3 rfl rfl rfl rfl rfl rfl rfl ⟨rfl, rfl, rfl, rfl, rfl⟩ rfl rfl rfl rfl rfl (by kernel_rfl) Try.func3 (by kernel_rfl)
  (of_decide_eq_true (by kernel_rfl)) (by unfold Func.isWrapper; rw [if_neg (of_decide_eq_false (by kernel_rfl))]; exact ⟨rfl, rfl⟩)
  (fun os started H enc _ => fnExactMixAutomata_lifted os started H enc)
theorem fnExactMixAutomata_proved : Rows.FnExactMixAutomataSaid := fnExactMixAutomata_over
#print axioms fnExactMixAutomata_proved
end Go.Proofs.Ytfhlddbngjlhbaa
