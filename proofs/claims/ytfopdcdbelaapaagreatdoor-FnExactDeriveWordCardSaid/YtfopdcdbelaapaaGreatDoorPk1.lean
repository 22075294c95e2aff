/-
  Parts of a proof, joined: KDeriveWord. No condition.
-/
import Derived.Test.YtfopdcdbelaapaaGreatDoorTie
import Derived.Test.YtfopdcdbelaapaaGreatDoorCards
import Derived.JoinedOf
import Derived.WalkKit
import Derived.Handed
import Derived.LaidLaws
import Derived.LaidMore
import Derived.Stop.Joined
import Derived.ProofKit
import Derived.OpenShut
import Derived.ChangeSame
import Derived.Carry
import Derived.Deep.Slices
import Derived.Deep.LoopGhost
import Derived.Deep.DeepFit
import Derived.Deep.DeepMust
import Derived.Deep.RegionWith
import Derived.Deep.RegionHeld3
import Derived.Deep.QuietTactic
import Derived.BigQuiet
import Derived.WalkSpells
import Derived.WalkLawsBesides
import Derived.WalkSmall
import Derived.Lib.Hide
import Derived.Lib.QuietBelow
import Derived.Deep.CutRange
namespace Go.Proofs.YtfopdcdbelaapaaGreatDoor
set_option linter.unusedVariables false
set_option linter.unusedSimpArgs false
open Go Go.ChangeShapes Go.Deep Go.WideShapes Go.ChangeAt Go.RowKit
theorem band {a b : Bool} (h : a = true) (k : b = true) : (a && b) = true := by rw [h, k]; rfl
theorem fnExactDeriveWord_k0 : (Rows.fnExactDeriveWordRow.wf (OpenSpec.ofChange Rows.fnExactDeriveWordSpec)) = true := by kernel_rfl
theorem fnExactDeriveWord_k1 : (laidOutB Tryz.prog) = true := by kernel_rfl
theorem fnExactDeriveWord_k2 : (mapsRowed Tryz.prog) = true := by kernel_rfl
theorem fnExactDeriveWord_k3 : (Tryz.f3.params.all (Tryz.prog.readableRec ·)) = true := by kernel_rfl
theorem fnExactDeriveWord_k4 : (namedTie Tryz.prog Rows.fnExactDeriveWordRow.named Rows.fnExactDeriveWordSpec.vars) = true := by kernel_rfl
theorem fnExactDeriveWord_k5 : ((Rows.fnExactDeriveWordRow.stops == [])) = true := by kernel_rfl
theorem fnExactDeriveWord_k6 : ((Tryz.prog.stops == [])) = true := by kernel_rfl
theorem fnExactDeriveWord_k7 : ((Rows.fnExactDeriveWordRow.knobs == [])) = true := by kernel_rfl
theorem fnExactDeriveWord_k8 : ((Tryz.prog.stopKnobs == [])) = true := by kernel_rfl
theorem fnExactDeriveWord_k9 : ((Rows.fnExactDeriveWordRow.inPlace == Tryz.prog.inPlace 3)) = true := by kernel_rfl
theorem fnExactDeriveWord_k10 : ((Rows.fnExactDeriveWordRow.unfollowed == Tryz.prog.unfollowed 3)) = true := by kernel_rfl
theorem fnExactDeriveWord_k11 : ((Rows.fnExactDeriveWordRow.recurses == Tryz.prog.recurses 3)) = true := by kernel_rfl
theorem fnExactDeriveWord_k12 : ((Rows.fnExactDeriveWordRow.named == Tryz.prog.varsNamed 3)) = true := by kernel_rfl
theorem fnExactDeriveWord_k13 : ((Rows.fnExactDeriveWordRow.maps == (Tryz.f3.params.toList ++ Rows.fnExactDeriveWordSpec.plain.varTypes Tryz.prog).any (Tryz.prog.mapsRec ·))) = true := by kernel_rfl
theorem fnExactDeriveWord_k14 : ((Rows.fnExactDeriveWordRow.ifaces == (Tryz.f3.params.toList ++ Rows.fnExactDeriveWordSpec.plain.varTypes Tryz.prog).any (Tryz.prog.ifacesRec ·))) = true := by kernel_rfl
theorem fnExactDeriveWord_k15 : ((Rows.fnExactDeriveWordRow.mapsOut == Tryz.prog.mapsAmong Tryz.f3.resultTypes.toList)) = true := by kernel_rfl
theorem fnExactDeriveWord_k16 : ((Rows.fnExactDeriveWordRow.loops == (Tryz.f3.params.toList ++ Rows.fnExactDeriveWordSpec.plain.varTypes Tryz.prog).any (Tryz.prog.loopsFrom ·))) = true := by kernel_rfl
theorem fnExactDeriveWord_k17 : ((Rows.fnExactDeriveWordRow.wideKeys == (Tryz.f3.params.toList ++ Rows.fnExactDeriveWordSpec.plain.varTypes Tryz.prog ++ Tryz.f3.resultTypes.toList).any (Tryz.prog.wideKeysFrom ·))) = true := by kernel_rfl
theorem fnExactDeriveWord_k18 : (Rows.fnExactDeriveWordSpec.vars.all (Tryz.prog.varReadable ·)) = true := by kernel_rfl
theorem fnExactDeriveWord_k19 : (Tryz.f3.resultTypes.all (fun t => Tryz.prog.readableRec t && decide (t < Tryz.prog.types.size))) = true := by kernel_rfl
theorem fnExactDeriveWord_k20 : ((Rows.fnExactDeriveWordRow.ifacesOut == Tryz.f3.resultTypes.toList.any (Tryz.prog.ifacesRec ·))) = true := by kernel_rfl
theorem fnExactDeriveWord_k21 : ((Rows.fnExactDeriveWordRow.loopsOut == Tryz.f3.resultTypes.toList.any (Tryz.prog.loopsFrom ·))) = true := by kernel_rfl
theorem fnExactDeriveWord_k22 : ((Rows.fnExactDeriveWordRow.plainKeys == Tryz.prog.plainKeys)) = true := by kernel_rfl
theorem fnExactDeriveWord_k23 : (Rows.fnExactDeriveWordRow.shortTexts.isNone) = true := by kernel_rfl
theorem fnExactDeriveWord_k24 : (Tryz.prog.stopsHeard) = true := by kernel_rfl
theorem fnExactDeriveWord_k25 : (Tryz.prog.mayEnter) = true := by kernel_rfl
theorem fnExactDeriveWord_k26 : ((Rows.fnExactDeriveWordRow.lifted == Tryz.prog.liftsFinal)) = true := by kernel_rfl
theorem fnExactDeriveWord_k27 : ((Tryz.prog.make == some Rows.fnExactDeriveWordRow.make)) = true := by kernel_rfl
theorem fnExactDeriveWord_k28 : ((Rows.fnExactDeriveWordRow.kinds == (if Rows.fnExactDeriveWordRow.domain.isEmpty then [] else Tryz.f3.params.toList.map fun t => match Tryz.prog.underlying t with | some (.int k) => some k | _ => none))) = true := by kernel_rfl
theorem fnExactDeriveWord_k29 : ((Rows.fnExactDeriveWordRow.pinned == Rows.fnExactDeriveWordRow.pinnedBy)) = true := by kernel_rfl
theorem fnExactDeriveWord_k30 : ((Rows.fnExactDeriveWordRow.veiled == (Tryz.f3.params.toList ++ Rows.fnExactDeriveWordSpec.plain.varTypes Tryz.prog ++ Tryz.f3.resultTypes.toList).any (Tryz.prog.veiledRec ·))) = true := by kernel_rfl
theorem fnExactDeriveWord_k31 : (Rows.fnExactDeriveWordRow.veiledFits Tryz.prog Tryz.f3.params.toList (Tryz.f3.params.toList ++ Rows.fnExactDeriveWordSpec.plain.varTypes Tryz.prog ++ Tryz.f3.resultTypes.toList)) = true := by kernel_rfl
theorem fnExactDeriveWord_main : Tryz.prog.mainIs = some (Rows.fnExactDeriveWordCard.stood.harness.1, Rows.fnExactDeriveWordCard.stood.harness.2.toList) := by kernel_rfl
theorem fnExactDeriveWord_looks : false = Tryz.prog.looks [] := by kernel_rfl
theorem fnExactDeriveWord_goes : false = Rows.fnExactDeriveWordRow.goesBy Tryz.prog := by kernel_rfl
end Go.Proofs.YtfopdcdbelaapaaGreatDoor
