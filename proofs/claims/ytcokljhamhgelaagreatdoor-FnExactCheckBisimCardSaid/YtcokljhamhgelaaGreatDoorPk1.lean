/-
  Parts of a proof, joined: KCheckBisim. No condition.
-/
import Derived.Test.YtcokljhamhgelaaGreatDoorTie
import Derived.Test.YtcokljhamhgelaaGreatDoorCards
import Derived.JoinedOf
import Derived.WalkKit
import Derived.Handed
import Derived.LaidLaws
import Derived.LaidMore
import Derived.Stop.Joined
import Derived.ProofKit
import Derived.OpenShut
import Derived.ChangeSame
import Derived.Carry
import Derived.Deep.Slices
import Derived.Deep.LoopGhost
import Derived.Deep.DeepFit
import Derived.Deep.DeepMust
import Derived.Deep.RegionWith
import Derived.Deep.RegionHeld3
import Derived.Deep.QuietTactic
import Derived.BigQuiet
import Derived.WalkSpells
import Derived.WalkLawsBesides
import Derived.WalkSmall
import Derived.Lib.Hide
import Derived.Lib.QuietBelow
import Derived.Deep.CutRange
namespace Go.Proofs.YtcokljhamhgelaaGreatDoor
set_option linter.unusedVariables false
set_option linter.unusedSimpArgs false
open Go Go.ChangeShapes Go.Deep Go.WideShapes Go.ChangeAt Go.RowKit
theorem band {a b : Bool} (h : a = true) (k : b = true) : (a && b) = true := by rw [h, k]; rfl
theorem fnExactCheckBisim_k0 : (Rows.fnExactCheckBisimRow.wf (OpenSpec.ofChange Rows.fnExactCheckBisimSpec)) = true := by kernel_rfl
theorem fnExactCheckBisim_k1 : (laidOutB Tryz.prog) = true := by kernel_rfl
theorem fnExactCheckBisim_k2 : (mapsRowed Tryz.prog) = true := by kernel_rfl
theorem fnExactCheckBisim_k3 : (Tryz.f4.params.all (Tryz.prog.readableRec ·)) = true := by kernel_rfl
theorem fnExactCheckBisim_k4 : (namedTie Tryz.prog Rows.fnExactCheckBisimRow.named Rows.fnExactCheckBisimSpec.vars) = true := by kernel_rfl
theorem fnExactCheckBisim_k5 : ((Rows.fnExactCheckBisimRow.stops == [])) = true := by kernel_rfl
theorem fnExactCheckBisim_k6 : ((Tryz.prog.stops == [])) = true := by kernel_rfl
theorem fnExactCheckBisim_k7 : ((Rows.fnExactCheckBisimRow.knobs == [])) = true := by kernel_rfl
theorem fnExactCheckBisim_k8 : ((Tryz.prog.stopKnobs == [])) = true := by kernel_rfl
theorem fnExactCheckBisim_k9 : ((Rows.fnExactCheckBisimRow.inPlace == Tryz.prog.inPlace 4)) = true := by kernel_rfl
theorem fnExactCheckBisim_k10 : ((Rows.fnExactCheckBisimRow.unfollowed == Tryz.prog.unfollowed 4)) = true := by kernel_rfl
theorem fnExactCheckBisim_k11 : ((Rows.fnExactCheckBisimRow.recurses == Tryz.prog.recurses 4)) = true := by kernel_rfl
theorem fnExactCheckBisim_k12 : ((Rows.fnExactCheckBisimRow.named == Tryz.prog.varsNamed 4)) = true := by kernel_rfl
theorem fnExactCheckBisim_k13 : ((Rows.fnExactCheckBisimRow.maps == (Tryz.f4.params.toList ++ Rows.fnExactCheckBisimSpec.plain.varTypes Tryz.prog).any (Tryz.prog.mapsRec ·))) = true := by kernel_rfl
theorem fnExactCheckBisim_k14 : ((Rows.fnExactCheckBisimRow.ifaces == (Tryz.f4.params.toList ++ Rows.fnExactCheckBisimSpec.plain.varTypes Tryz.prog).any (Tryz.prog.ifacesRec ·))) = true := by kernel_rfl
theorem fnExactCheckBisim_k15 : ((Rows.fnExactCheckBisimRow.mapsOut == Tryz.prog.mapsAmong Tryz.f4.resultTypes.toList)) = true := by kernel_rfl
theorem fnExactCheckBisim_k16 : ((Rows.fnExactCheckBisimRow.loops == (Tryz.f4.params.toList ++ Rows.fnExactCheckBisimSpec.plain.varTypes Tryz.prog).any (Tryz.prog.loopsFrom ·))) = true := by kernel_rfl
theorem fnExactCheckBisim_k17 : ((Rows.fnExactCheckBisimRow.wideKeys == (Tryz.f4.params.toList ++ Rows.fnExactCheckBisimSpec.plain.varTypes Tryz.prog ++ Tryz.f4.resultTypes.toList).any (Tryz.prog.wideKeysFrom ·))) = true := by kernel_rfl
theorem fnExactCheckBisim_k18 : (Rows.fnExactCheckBisimSpec.vars.all (Tryz.prog.varReadable ·)) = true := by kernel_rfl
theorem fnExactCheckBisim_k19 : (Tryz.f4.resultTypes.all (fun t => Tryz.prog.readableRec t && decide (t < Tryz.prog.types.size))) = true := by kernel_rfl
theorem fnExactCheckBisim_k20 : ((Rows.fnExactCheckBisimRow.ifacesOut == Tryz.f4.resultTypes.toList.any (Tryz.prog.ifacesRec ·))) = true := by kernel_rfl
theorem fnExactCheckBisim_k21 : ((Rows.fnExactCheckBisimRow.loopsOut == Tryz.f4.resultTypes.toList.any (Tryz.prog.loopsFrom ·))) = true := by kernel_rfl
theorem fnExactCheckBisim_k22 : ((Rows.fnExactCheckBisimRow.plainKeys == Tryz.prog.plainKeys)) = true := by kernel_rfl
theorem fnExactCheckBisim_k23 : (Rows.fnExactCheckBisimRow.shortTexts.isNone) = true := by kernel_rfl
theorem fnExactCheckBisim_k24 : (Tryz.prog.stopsHeard) = true := by kernel_rfl
theorem fnExactCheckBisim_k25 : (Tryz.prog.mayEnter) = true := by kernel_rfl
theorem fnExactCheckBisim_k26 : ((Rows.fnExactCheckBisimRow.lifted == Tryz.prog.liftsFinal)) = true := by kernel_rfl
theorem fnExactCheckBisim_k27 : ((Tryz.prog.make == some Rows.fnExactCheckBisimRow.make)) = true := by kernel_rfl
theorem fnExactCheckBisim_k28 : ((Rows.fnExactCheckBisimRow.kinds == (if Rows.fnExactCheckBisimRow.domain.isEmpty then [] else Tryz.f4.params.toList.map fun t => match Tryz.prog.underlying t with | some (.int k) => some k | _ => none))) = true := by kernel_rfl
theorem fnExactCheckBisim_k29 : ((Rows.fnExactCheckBisimRow.pinned == Rows.fnExactCheckBisimRow.pinnedBy)) = true := by kernel_rfl
theorem fnExactCheckBisim_k30 : ((Rows.fnExactCheckBisimRow.veiled == (Tryz.f4.params.toList ++ Rows.fnExactCheckBisimSpec.plain.varTypes Tryz.prog ++ Tryz.f4.resultTypes.toList).any (Tryz.prog.veiledRec ·))) = true := by kernel_rfl
theorem fnExactCheckBisim_k31 : (Rows.fnExactCheckBisimRow.veiledFits Tryz.prog Tryz.f4.params.toList (Tryz.f4.params.toList ++ Rows.fnExactCheckBisimSpec.plain.varTypes Tryz.prog ++ Tryz.f4.resultTypes.toList)) = true := by kernel_rfl
theorem fnExactCheckBisim_main : Tryz.prog.mainIs = some (Rows.fnExactCheckBisimCard.stood.harness.1, Rows.fnExactCheckBisimCard.stood.harness.2.toList) := by kernel_rfl
theorem fnExactCheckBisim_looks : false = Tryz.prog.looks [] := by kernel_rfl
theorem fnExactCheckBisim_goes : false = Rows.fnExactCheckBisimRow.goesBy Tryz.prog := by kernel_rfl
end Go.Proofs.YtcokljhamhgelaaGreatDoor
