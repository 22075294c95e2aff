/-
  Parts of a proof, joined: KEqualExprs. No condition.
-/
import Derived.Test.YtfopdcdbelaapaaGreatDoorTie
import Derived.Test.YtfopdcdbelaapaaGreatDoorCards
import Derived.JoinedOf
import Derived.WalkKit
import Derived.Handed
import Derived.LaidLaws
import Derived.LaidMore
import Derived.Stop.Joined
import Derived.ProofKit
import Derived.OpenShut
import Derived.ChangeSame
import Derived.Carry
import Derived.Deep.Slices
import Derived.Deep.LoopGhost
import Derived.Deep.DeepFit
import Derived.Deep.DeepMust
import Derived.Deep.RegionWith
import Derived.Deep.RegionHeld3
import Derived.Deep.QuietTactic
import Derived.BigQuiet
import Derived.WalkSpells
import Derived.WalkLawsBesides
import Derived.WalkSmall
import Derived.Lib.Hide
import Derived.Lib.QuietBelow
import Derived.Deep.CutRange
namespace Go.Proofs.YtfopdcdbelaapaaGreatDoor
set_option linter.unusedVariables false
set_option linter.unusedSimpArgs false
open Go Go.ChangeShapes Go.Deep Go.WideShapes Go.ChangeAt Go.RowKit
theorem band {a b : Bool} (h : a = true) (k : b = true) : (a && b) = true := by rw [h, k]; rfl
theorem fnExactEqualExprs_k0 : (Rows.fnExactEqualExprsRow.wf (OpenSpec.ofChange Rows.fnExactEqualExprsSpec)) = true := by kernel_rfl
theorem fnExactEqualExprs_k1 : (laidOutB Tryz.prog) = true := by kernel_rfl
theorem fnExactEqualExprs_k2 : (mapsRowed Tryz.prog) = true := by kernel_rfl
theorem fnExactEqualExprs_k3 : (Tryz.f4.params.all (Tryz.prog.readableRec ·)) = true := by kernel_rfl
theorem fnExactEqualExprs_k4 : (namedTie Tryz.prog Rows.fnExactEqualExprsRow.named Rows.fnExactEqualExprsSpec.vars) = true := by kernel_rfl
theorem fnExactEqualExprs_k5 : ((Rows.fnExactEqualExprsRow.stops == [])) = true := by kernel_rfl
theorem fnExactEqualExprs_k6 : ((Tryz.prog.stops == [])) = true := by kernel_rfl
theorem fnExactEqualExprs_k7 : ((Rows.fnExactEqualExprsRow.knobs == [])) = true := by kernel_rfl
theorem fnExactEqualExprs_k8 : ((Tryz.prog.stopKnobs == [])) = true := by kernel_rfl
theorem fnExactEqualExprs_k9 : ((Rows.fnExactEqualExprsRow.inPlace == Tryz.prog.inPlace 4)) = true := by kernel_rfl
theorem fnExactEqualExprs_k10 : ((Rows.fnExactEqualExprsRow.unfollowed == Tryz.prog.unfollowed 4)) = true := by kernel_rfl
theorem fnExactEqualExprs_k11 : ((Rows.fnExactEqualExprsRow.recurses == Tryz.prog.recurses 4)) = true := by kernel_rfl
theorem fnExactEqualExprs_k12 : ((Rows.fnExactEqualExprsRow.named == Tryz.prog.varsNamed 4)) = true := by kernel_rfl
theorem fnExactEqualExprs_k13 : ((Rows.fnExactEqualExprsRow.maps == (Tryz.f4.params.toList ++ Rows.fnExactEqualExprsSpec.plain.varTypes Tryz.prog).any (Tryz.prog.mapsRec ·))) = true := by kernel_rfl
theorem fnExactEqualExprs_k14 : ((Rows.fnExactEqualExprsRow.ifaces == (Tryz.f4.params.toList ++ Rows.fnExactEqualExprsSpec.plain.varTypes Tryz.prog).any (Tryz.prog.ifacesRec ·))) = true := by kernel_rfl
theorem fnExactEqualExprs_k15 : ((Rows.fnExactEqualExprsRow.mapsOut == Tryz.prog.mapsAmong Tryz.f4.resultTypes.toList)) = true := by kernel_rfl
theorem fnExactEqualExprs_k16 : ((Rows.fnExactEqualExprsRow.loops == (Tryz.f4.params.toList ++ Rows.fnExactEqualExprsSpec.plain.varTypes Tryz.prog).any (Tryz.prog.loopsFrom ·))) = true := by kernel_rfl
theorem fnExactEqualExprs_k17 : ((Rows.fnExactEqualExprsRow.wideKeys == (Tryz.f4.params.toList ++ Rows.fnExactEqualExprsSpec.plain.varTypes Tryz.prog ++ Tryz.f4.resultTypes.toList).any (Tryz.prog.wideKeysFrom ·))) = true := by kernel_rfl
theorem fnExactEqualExprs_k18 : (Rows.fnExactEqualExprsSpec.vars.all (Tryz.prog.varReadable ·)) = true := by kernel_rfl
theorem fnExactEqualExprs_k19 : (Tryz.f4.resultTypes.all (fun t => Tryz.prog.readableRec t && decide (t < Tryz.prog.types.size))) = true := by kernel_rfl
theorem fnExactEqualExprs_k20 : ((Rows.fnExactEqualExprsRow.ifacesOut == Tryz.f4.resultTypes.toList.any (Tryz.prog.ifacesRec ·))) = true := by kernel_rfl
theorem fnExactEqualExprs_k21 : ((Rows.fnExactEqualExprsRow.loopsOut == Tryz.f4.resultTypes.toList.any (Tryz.prog.loopsFrom ·))) = true := by kernel_rfl
theorem fnExactEqualExprs_k22 : ((Rows.fnExactEqualExprsRow.plainKeys == Tryz.prog.plainKeys)) = true := by kernel_rfl
theorem fnExactEqualExprs_k23 : (Rows.fnExactEqualExprsRow.shortTexts.isNone) = true := by kernel_rfl
theorem fnExactEqualExprs_k24 : (Tryz.prog.stopsHeard) = true := by kernel_rfl
theorem fnExactEqualExprs_k25 : (Tryz.prog.mayEnter) = true := by kernel_rfl
theorem fnExactEqualExprs_k26 : ((Rows.fnExactEqualExprsRow.lifted == Tryz.prog.liftsFinal)) = true := by kernel_rfl
theorem fnExactEqualExprs_k27 : ((Tryz.prog.make == some Rows.fnExactEqualExprsRow.make)) = true := by kernel_rfl
theorem fnExactEqualExprs_k28 : ((Rows.fnExactEqualExprsRow.kinds == (if Rows.fnExactEqualExprsRow.domain.isEmpty then [] else Tryz.f4.params.toList.map fun t => match Tryz.prog.underlying t with | some (.int k) => some k | _ => none))) = true := by kernel_rfl
theorem fnExactEqualExprs_k29 : ((Rows.fnExactEqualExprsRow.pinned == Rows.fnExactEqualExprsRow.pinnedBy)) = true := by kernel_rfl
theorem fnExactEqualExprs_k30 : ((Rows.fnExactEqualExprsRow.veiled == (Tryz.f4.params.toList ++ Rows.fnExactEqualExprsSpec.plain.varTypes Tryz.prog ++ Tryz.f4.resultTypes.toList).any (Tryz.prog.veiledRec ·))) = true := by kernel_rfl
theorem fnExactEqualExprs_k31 : (Rows.fnExactEqualExprsRow.veiledFits Tryz.prog Tryz.f4.params.toList (Tryz.f4.params.toList ++ Rows.fnExactEqualExprsSpec.plain.varTypes Tryz.prog ++ Tryz.f4.resultTypes.toList)) = true := by kernel_rfl
theorem fnExactEqualExprs_main : Tryz.prog.mainIs = some (Rows.fnExactEqualExprsCard.stood.harness.1, Rows.fnExactEqualExprsCard.stood.harness.2.toList) := by kernel_rfl
theorem fnExactEqualExprs_looks : false = Tryz.prog.looks [] := by kernel_rfl
theorem fnExactEqualExprs_goes : false = Rows.fnExactEqualExprsRow.goesBy Tryz.prog := by kernel_rfl
end Go.Proofs.YtfopdcdbelaapaaGreatDoor
