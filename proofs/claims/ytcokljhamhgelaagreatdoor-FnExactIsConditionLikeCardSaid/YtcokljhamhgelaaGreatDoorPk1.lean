/-
  Parts of a proof, joined: KIsConditionLike. No condition.
-/
import Derived.Test.YtcokljhamhgelaaGreatDoorTie
import Derived.Test.YtcokljhamhgelaaGreatDoorCards
import Derived.JoinedOf
import Derived.WalkKit
import Derived.Handed
import Derived.LaidLaws
import Derived.LaidMore
import Derived.Stop.Joined
import Derived.ProofKit
import Derived.OpenShut
import Derived.ChangeSame
import Derived.Carry
import Derived.Deep.Slices
import Derived.Deep.LoopGhost
import Derived.Deep.DeepFit
import Derived.Deep.DeepMust
import Derived.Deep.RegionWith
import Derived.Deep.RegionHeld3
import Derived.Deep.QuietTactic
import Derived.BigQuiet
import Derived.WalkSpells
import Derived.WalkLawsBesides
import Derived.WalkSmall
import Derived.Lib.Hide
import Derived.Lib.QuietBelow
import Derived.Deep.CutRange
namespace Go.Proofs.YtcokljhamhgelaaGreatDoor
set_option linter.unusedVariables false
set_option linter.unusedSimpArgs false
open Go Go.ChangeShapes Go.Deep Go.WideShapes Go.ChangeAt Go.RowKit
theorem band {a b : Bool} (h : a = true) (k : b = true) : (a && b) = true := by rw [h, k]; rfl
theorem fnExactIsConditionLike_k0 : (Rows.fnExactIsConditionLikeRow.wf (OpenSpec.ofChange Rows.fnExactIsConditionLikeSpec)) = true := by kernel_rfl
theorem fnExactIsConditionLike_k1 : (laidOutB Tryz.prog) = true := by kernel_rfl
theorem fnExactIsConditionLike_k2 : (mapsRowed Tryz.prog) = true := by kernel_rfl
theorem fnExactIsConditionLike_k3 : (Tryz.f3.params.all (Tryz.prog.readableRec ·)) = true := by kernel_rfl
theorem fnExactIsConditionLike_k4 : (namedTie Tryz.prog Rows.fnExactIsConditionLikeRow.named Rows.fnExactIsConditionLikeSpec.vars) = true := by kernel_rfl
theorem fnExactIsConditionLike_k5 : ((Rows.fnExactIsConditionLikeRow.stops == [])) = true := by kernel_rfl
theorem fnExactIsConditionLike_k6 : ((Tryz.prog.stops == [])) = true := by kernel_rfl
theorem fnExactIsConditionLike_k7 : ((Rows.fnExactIsConditionLikeRow.knobs == [])) = true := by kernel_rfl
theorem fnExactIsConditionLike_k8 : ((Tryz.prog.stopKnobs == [])) = true := by kernel_rfl
theorem fnExactIsConditionLike_k9 : ((Rows.fnExactIsConditionLikeRow.inPlace == Tryz.prog.inPlace 3)) = true := by kernel_rfl
theorem fnExactIsConditionLike_k10 : ((Rows.fnExactIsConditionLikeRow.unfollowed == Tryz.prog.unfollowed 3)) = true := by kernel_rfl
theorem fnExactIsConditionLike_k11 : ((Rows.fnExactIsConditionLikeRow.recurses == Tryz.prog.recurses 3)) = true := by kernel_rfl
theorem fnExactIsConditionLike_k12 : ((Rows.fnExactIsConditionLikeRow.named == Tryz.prog.varsNamed 3)) = true := by kernel_rfl
theorem fnExactIsConditionLike_k13 : ((Rows.fnExactIsConditionLikeRow.maps == (Tryz.f3.params.toList ++ Rows.fnExactIsConditionLikeSpec.plain.varTypes Tryz.prog).any (Tryz.prog.mapsRec ·))) = true := by kernel_rfl
theorem fnExactIsConditionLike_k14 : ((Rows.fnExactIsConditionLikeRow.ifaces == (Tryz.f3.params.toList ++ Rows.fnExactIsConditionLikeSpec.plain.varTypes Tryz.prog).any (Tryz.prog.ifacesRec ·))) = true := by kernel_rfl
theorem fnExactIsConditionLike_k15 : ((Rows.fnExactIsConditionLikeRow.mapsOut == Tryz.prog.mapsAmong Tryz.f3.resultTypes.toList)) = true := by kernel_rfl
theorem fnExactIsConditionLike_k16 : ((Rows.fnExactIsConditionLikeRow.loops == (Tryz.f3.params.toList ++ Rows.fnExactIsConditionLikeSpec.plain.varTypes Tryz.prog).any (Tryz.prog.loopsFrom ·))) = true := by kernel_rfl
theorem fnExactIsConditionLike_k17 : ((Rows.fnExactIsConditionLikeRow.wideKeys == (Tryz.f3.params.toList ++ Rows.fnExactIsConditionLikeSpec.plain.varTypes Tryz.prog ++ Tryz.f3.resultTypes.toList).any (Tryz.prog.wideKeysFrom ·))) = true := by kernel_rfl
theorem fnExactIsConditionLike_k18 : (Rows.fnExactIsConditionLikeSpec.vars.all (Tryz.prog.varReadable ·)) = true := by kernel_rfl
theorem fnExactIsConditionLike_k19 : (Tryz.f3.resultTypes.all (fun t => Tryz.prog.readableRec t && decide (t < Tryz.prog.types.size))) = true := by kernel_rfl
theorem fnExactIsConditionLike_k20 : ((Rows.fnExactIsConditionLikeRow.ifacesOut == Tryz.f3.resultTypes.toList.any (Tryz.prog.ifacesRec ·))) = true := by kernel_rfl
theorem fnExactIsConditionLike_k21 : ((Rows.fnExactIsConditionLikeRow.loopsOut == Tryz.f3.resultTypes.toList.any (Tryz.prog.loopsFrom ·))) = true := by kernel_rfl
theorem fnExactIsConditionLike_k22 : ((Rows.fnExactIsConditionLikeRow.plainKeys == Tryz.prog.plainKeys)) = true := by kernel_rfl
theorem fnExactIsConditionLike_k23 : (Rows.fnExactIsConditionLikeRow.shortTexts.isNone) = true := by kernel_rfl
theorem fnExactIsConditionLike_k24 : (Tryz.prog.stopsHeard) = true := by kernel_rfl
theorem fnExactIsConditionLike_k25 : (Tryz.prog.mayEnter) = true := by kernel_rfl
theorem fnExactIsConditionLike_k26 : ((Rows.fnExactIsConditionLikeRow.lifted == Tryz.prog.liftsFinal)) = true := by kernel_rfl
theorem fnExactIsConditionLike_k27 : ((Tryz.prog.make == some Rows.fnExactIsConditionLikeRow.make)) = true := by kernel_rfl
theorem fnExactIsConditionLike_k28 : ((Rows.fnExactIsConditionLikeRow.kinds == (if Rows.fnExactIsConditionLikeRow.domain.isEmpty then [] else Tryz.f3.params.toList.map fun t => match Tryz.prog.underlying t with | some (.int k) => some k | _ => none))) = true := by kernel_rfl
theorem fnExactIsConditionLike_k29 : ((Rows.fnExactIsConditionLikeRow.pinned == Rows.fnExactIsConditionLikeRow.pinnedBy)) = true := by kernel_rfl
theorem fnExactIsConditionLike_k30 : ((Rows.fnExactIsConditionLikeRow.veiled == (Tryz.f3.params.toList ++ Rows.fnExactIsConditionLikeSpec.plain.varTypes Tryz.prog ++ Tryz.f3.resultTypes.toList).any (Tryz.prog.veiledRec ·))) = true := by kernel_rfl
theorem fnExactIsConditionLike_k31 : (Rows.fnExactIsConditionLikeRow.veiledFits Tryz.prog Tryz.f3.params.toList (Tryz.f3.params.toList ++ Rows.fnExactIsConditionLikeSpec.plain.varTypes Tryz.prog ++ Tryz.f3.resultTypes.toList)) = true := by kernel_rfl
theorem fnExactIsConditionLike_main : Tryz.prog.mainIs = some (Rows.fnExactIsConditionLikeCard.stood.harness.1, Rows.fnExactIsConditionLikeCard.stood.harness.2.toList) := by kernel_rfl
theorem fnExactIsConditionLike_looks : false = Tryz.prog.looks [] := by kernel_rfl
theorem fnExactIsConditionLike_goes : false = Rows.fnExactIsConditionLikeRow.goesBy Tryz.prog := by kernel_rfl
end Go.Proofs.YtcokljhamhgelaaGreatDoor
