/-
  Parts of a proof, joined: KLeastAutomaton. No condition.
-/
import Derived.Test.YtfhlddbngjlhbaaDoorTie
import Derived.Test.YtfhlddbngjlhbaaDoorCards
import Derived.JoinedOf
import Derived.WalkKit
import Derived.Handed
import Derived.LaidLaws
import Derived.LaidMore
import Derived.Stop.Joined
import Derived.ProofKit
import Derived.OpenShut
import Derived.ChangeSame
import Derived.Carry
import Derived.Deep.Slices
import Derived.Deep.LoopGhost
import Derived.Deep.DeepFit
import Derived.Deep.DeepMust
import Derived.Deep.RegionWith
import Derived.Deep.RegionHeld3
import Derived.Deep.QuietTactic
import Derived.BigQuiet
import Derived.WalkSpells
import Derived.WalkLawsBesides
import Derived.WalkSmall
import Derived.Lib.Hide
import Derived.Lib.QuietBelow
import Derived.Deep.CutRange
namespace Go.Proofs.YtfhlddbngjlhbaaDoor
set_option linter.unusedVariables false
set_option linter.unusedSimpArgs false
open Go Go.ChangeShapes Go.Deep Go.WideShapes Go.ChangeAt Go.RowKit
theorem band {a b : Bool} (h : a = true) (k : b = true) : (a && b) = true := by rw [h, k]; rfl
theorem fnExactLeastAutomaton_k0 : (Rows.fnExactLeastAutomatonRow.wf (OpenSpec.ofChange Rows.fnExactLeastAutomatonSpec)) = true := by kernel_rfl
theorem fnExactLeastAutomaton_k1 : (laidOutB Tryd.prog) = true := by kernel_rfl
theorem fnExactLeastAutomaton_k2 : (mapsRowed Tryd.prog) = true := by kernel_rfl
theorem fnExactLeastAutomaton_k3 : (Tryd.f3.params.all (Tryd.prog.readableRec ·)) = true := by kernel_rfl
theorem fnExactLeastAutomaton_k4 : (namedTie Tryd.prog Rows.fnExactLeastAutomatonRow.named Rows.fnExactLeastAutomatonSpec.vars) = true := by kernel_rfl
theorem fnExactLeastAutomaton_k5 : ((Rows.fnExactLeastAutomatonRow.stops == [])) = true := by kernel_rfl
theorem fnExactLeastAutomaton_k6 : ((Tryd.prog.stops == [])) = true := by kernel_rfl
theorem fnExactLeastAutomaton_k7 : ((Rows.fnExactLeastAutomatonRow.knobs == [])) = true := by kernel_rfl
theorem fnExactLeastAutomaton_k8 : ((Tryd.prog.stopKnobs == [])) = true := by kernel_rfl
theorem fnExactLeastAutomaton_k9 : ((Rows.fnExactLeastAutomatonRow.inPlace == Tryd.prog.inPlace 3)) = true := by kernel_rfl
theorem fnExactLeastAutomaton_k10 : ((Rows.fnExactLeastAutomatonRow.unfollowed == Tryd.prog.unfollowed 3)) = true := by kernel_rfl
theorem fnExactLeastAutomaton_k11 : ((Rows.fnExactLeastAutomatonRow.recurses == Tryd.prog.recurses 3)) = true := by kernel_rfl
theorem fnExactLeastAutomaton_k12 : ((Rows.fnExactLeastAutomatonRow.named == Tryd.prog.varsNamed 3)) = true := by kernel_rfl
theorem fnExactLeastAutomaton_k13 : ((Rows.fnExactLeastAutomatonRow.maps == (Tryd.f3.params.toList ++ Rows.fnExactLeastAutomatonSpec.plain.varTypes Tryd.prog).any (Tryd.prog.mapsRec ·))) = true := by kernel_rfl
theorem fnExactLeastAutomaton_k14 : ((Rows.fnExactLeastAutomatonRow.ifaces == (Tryd.f3.params.toList ++ Rows.fnExactLeastAutomatonSpec.plain.varTypes Tryd.prog).any (Tryd.prog.ifacesRec ·))) = true := by kernel_rfl
theorem fnExactLeastAutomaton_k15 : ((Rows.fnExactLeastAutomatonRow.mapsOut == Tryd.prog.mapsAmong Tryd.f3.resultTypes.toList)) = true := by kernel_rfl
theorem fnExactLeastAutomaton_k16 : ((Rows.fnExactLeastAutomatonRow.loops == (Tryd.f3.params.toList ++ Rows.fnExactLeastAutomatonSpec.plain.varTypes Tryd.prog).any (Tryd.prog.loopsFrom ·))) = true := by kernel_rfl
theorem fnExactLeastAutomaton_k17 : ((Rows.fnExactLeastAutomatonRow.wideKeys == (Tryd.f3.params.toList ++ Rows.fnExactLeastAutomatonSpec.plain.varTypes Tryd.prog ++ Tryd.f3.resultTypes.toList).any (Tryd.prog.wideKeysFrom ·))) = true := by kernel_rfl
theorem fnExactLeastAutomaton_k18 : (Rows.fnExactLeastAutomatonSpec.vars.all (Tryd.prog.varReadable ·)) = true := by kernel_rfl
theorem fnExactLeastAutomaton_k19 : (Tryd.f3.resultTypes.all (fun t => Tryd.prog.readableRec t && decide (t < Tryd.prog.types.size))) = true := by kernel_rfl
theorem fnExactLeastAutomaton_k20 : ((Rows.fnExactLeastAutomatonRow.ifacesOut == Tryd.f3.resultTypes.toList.any (Tryd.prog.ifacesRec ·))) = true := by kernel_rfl
theorem fnExactLeastAutomaton_k21 : ((Rows.fnExactLeastAutomatonRow.loopsOut == Tryd.f3.resultTypes.toList.any (Tryd.prog.loopsFrom ·))) = true := by kernel_rfl
theorem fnExactLeastAutomaton_k22 : ((Rows.fnExactLeastAutomatonRow.plainKeys == Tryd.prog.plainKeys)) = true := by kernel_rfl
theorem fnExactLeastAutomaton_k23 : (Rows.fnExactLeastAutomatonRow.shortTexts.isNone) = true := by kernel_rfl
theorem fnExactLeastAutomaton_k24 : (Tryd.prog.stopsHeard) = true := by kernel_rfl
theorem fnExactLeastAutomaton_k25 : (Tryd.prog.mayEnter) = true := by kernel_rfl
theorem fnExactLeastAutomaton_k26 : ((Rows.fnExactLeastAutomatonRow.lifted == Tryd.prog.liftsFinal)) = true := by kernel_rfl
theorem fnExactLeastAutomaton_k27 : ((Tryd.prog.make == some Rows.fnExactLeastAutomatonRow.make)) = true := by kernel_rfl
theorem fnExactLeastAutomaton_k28 : ((Rows.fnExactLeastAutomatonRow.kinds == (if Rows.fnExactLeastAutomatonRow.domain.isEmpty then [] else Tryd.f3.params.toList.map fun t => match Tryd.prog.underlying t with | some (.int k) => some k | _ => none))) = true := by kernel_rfl
theorem fnExactLeastAutomaton_k29 : ((Rows.fnExactLeastAutomatonRow.pinned == Rows.fnExactLeastAutomatonRow.pinnedBy)) = true := by kernel_rfl
theorem fnExactLeastAutomaton_k30 : ((Rows.fnExactLeastAutomatonRow.veiled == (Tryd.f3.params.toList ++ Rows.fnExactLeastAutomatonSpec.plain.varTypes Tryd.prog ++ Tryd.f3.resultTypes.toList).any (Tryd.prog.veiledRec ·))) = true := by kernel_rfl
theorem fnExactLeastAutomaton_k31 : (Rows.fnExactLeastAutomatonRow.veiledFits Tryd.prog Tryd.f3.params.toList (Tryd.f3.params.toList ++ Rows.fnExactLeastAutomatonSpec.plain.varTypes Tryd.prog ++ Tryd.f3.resultTypes.toList)) = true := by kernel_rfl
theorem fnExactLeastAutomaton_main : Tryd.prog.mainIs = some (Rows.fnExactLeastAutomatonCard.stood.harness.1, Rows.fnExactLeastAutomatonCard.stood.harness.2.toList) := by kernel_rfl
theorem fnExactLeastAutomaton_looks : false = Tryd.prog.looks [] := by kernel_rfl
theorem fnExactLeastAutomaton_goes : false = Rows.fnExactLeastAutomatonRow.goesBy Tryd.prog := by kernel_rfl
end Go.Proofs.YtfhlddbngjlhbaaDoor
