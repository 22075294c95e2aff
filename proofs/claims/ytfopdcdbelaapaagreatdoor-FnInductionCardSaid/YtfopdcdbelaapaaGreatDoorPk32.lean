/-
  Parts of a proof, joined: KInduction. No condition.
-/
import Derived.Test.YtfopdcdbelaapaaGreatDoorTie
import Derived.Test.YtfopdcdbelaapaaGreatDoorCards
import Derived.JoinedOf
import Derived.WalkKit
import Derived.Handed
import Derived.LaidLaws
import Derived.LaidMore
import Derived.Stop.Joined
import Derived.ProofKit
import Derived.OpenShut
import Derived.ChangeSame
import Derived.Carry
import Derived.Deep.Slices
import Derived.Deep.LoopGhost
import Derived.Deep.DeepFit
import Derived.Deep.DeepMust
import Derived.Deep.RegionWith
import Derived.Deep.RegionHeld3
import Derived.Deep.QuietTactic
import Derived.BigQuiet
import Derived.WalkSpells
import Derived.WalkLawsBesides
import Derived.WalkSmall
import Derived.Lib.Hide
import Derived.Lib.QuietBelow
import Derived.Deep.CutRange
namespace Go.Proofs.YtfopdcdbelaapaaGreatDoor
set_option linter.unusedVariables false
set_option linter.unusedSimpArgs false
open Go Go.ChangeShapes Go.Deep Go.WideShapes Go.ChangeAt Go.RowKit
theorem band {a b:Bool} (h:a=true) (k:b=true):(a&&b)=true:=by rw [h,k]; rfl
theorem fnInduction_k0:(Rows.fnInductionRow.wf (OpenSpec.ofChange Rows.fnInductionSpec))=true:=by kernel_rfl
theorem fnInduction_k1:(laidOutB Tryz.prog)=true:=by kernel_rfl
theorem fnInduction_k2:(mapsRowed Tryz.prog)=true:=by kernel_rfl
theorem fnInduction_k3:(Tryz.f11.params.all (Tryz.prog.readableRec ·))=true:=by kernel_rfl
theorem fnInduction_k4:(namedTie Tryz.prog Rows.fnInductionRow.named Rows.fnInductionSpec.vars)=true:=by kernel_rfl
theorem fnInduction_k5:((Rows.fnInductionRow.stops==[]))=true:=by kernel_rfl
theorem fnInduction_k6:((Tryz.prog.stops==[]))=true:=by kernel_rfl
theorem fnInduction_k7:((Rows.fnInductionRow.knobs==[]))=true:=by kernel_rfl
theorem fnInduction_k8:((Tryz.prog.stopKnobs==[]))=true:=by kernel_rfl
theorem fnInduction_k9:((Rows.fnInductionRow.inPlace==Tryz.prog.inPlace 11))=true:=by kernel_rfl
theorem fnInduction_k10:((Rows.fnInductionRow.unfollowed==Tryz.prog.unfollowed 11))=true:=by kernel_rfl
theorem fnInduction_k11:((Rows.fnInductionRow.recurses==Tryz.prog.recurses 11))=true:=by kernel_rfl
theorem fnInduction_k12:((Rows.fnInductionRow.named==Tryz.prog.varsNamed 11))=true:=by kernel_rfl
theorem fnInduction_k13:((Rows.fnInductionRow.maps==(Tryz.f11.params.toList++Rows.fnInductionSpec.plain.varTypes Tryz.prog).any (Tryz.prog.mapsRec ·)))=true:=by kernel_rfl
theorem fnInduction_k14:((Rows.fnInductionRow.ifaces==(Tryz.f11.params.toList++Rows.fnInductionSpec.plain.varTypes Tryz.prog).any (Tryz.prog.ifacesRec ·)))=true:=by kernel_rfl
theorem fnInduction_k15:((Rows.fnInductionRow.mapsOut==Tryz.prog.mapsAmong Tryz.f11.resultTypes.toList))=true:=by kernel_rfl
theorem fnInduction_k16:((Rows.fnInductionRow.loops==(Tryz.f11.params.toList++Rows.fnInductionSpec.plain.varTypes Tryz.prog).any (Tryz.prog.loopsFrom ·)))=true:=by kernel_rfl
theorem fnInduction_k17:((Rows.fnInductionRow.wideKeys==(Tryz.f11.params.toList++Rows.fnInductionSpec.plain.varTypes Tryz.prog++Tryz.f11.resultTypes.toList).any (Tryz.prog.wideKeysFrom ·)))=true:=by kernel_rfl
theorem fnInduction_k18:(Rows.fnInductionSpec.vars.all (Tryz.prog.varReadable ·))=true:=by kernel_rfl
theorem fnInduction_k19:(Tryz.f11.resultTypes.all (fun t=>Tryz.prog.readableRec t&&decide (t<Tryz.prog.types.size)))=true:=by kernel_rfl
theorem fnInduction_k20:((Rows.fnInductionRow.ifacesOut==Tryz.f11.resultTypes.toList.any (Tryz.prog.ifacesRec ·)))=true:=by kernel_rfl
theorem fnInduction_k21:((Rows.fnInductionRow.loopsOut==Tryz.f11.resultTypes.toList.any (Tryz.prog.loopsFrom ·)))=true:=by kernel_rfl
theorem fnInduction_k22:((Rows.fnInductionRow.plainKeys==Tryz.prog.plainKeys))=true:=by kernel_rfl
theorem fnInduction_k23:(Rows.fnInductionRow.shortTexts.isNone)=true:=by kernel_rfl
theorem fnInduction_k24:(Tryz.prog.stopsHeard)=true:=by kernel_rfl
theorem fnInduction_k25:(Tryz.prog.mayEnter)=true:=by kernel_rfl
theorem fnInduction_k26:((Rows.fnInductionRow.lifted==Tryz.prog.liftsFinal))=true:=by kernel_rfl
theorem fnInduction_k27:((Tryz.prog.make==some Rows.fnInductionRow.make))=true:=by kernel_rfl
theorem fnInduction_k28:((Rows.fnInductionRow.kinds==(if Rows.fnInductionRow.domain.isEmpty then [] else Tryz.f11.params.toList.map fun t=>match Tryz.prog.underlying t with|some (.int k)=>some k|_=>none)))=true:=by kernel_rfl
theorem fnInduction_k29:((Rows.fnInductionRow.pinned==Rows.fnInductionRow.pinnedBy))=true:=by kernel_rfl
theorem fnInduction_k30:((Rows.fnInductionRow.veiled==(Tryz.f11.params.toList++Rows.fnInductionSpec.plain.varTypes Tryz.prog++Tryz.f11.resultTypes.toList).any (Tryz.prog.veiledRec ·)))=true:=by kernel_rfl
theorem fnInduction_k31:(Rows.fnInductionRow.veiledFits Tryz.prog Tryz.f11.params.toList (Tryz.f11.params.toList++Rows.fnInductionSpec.plain.varTypes Tryz.prog++Tryz.f11.resultTypes.toList))=true:=by kernel_rfl
theorem fnInduction_main:Tryz.prog.mainIs=some (Rows.fnInductionCard.stood.harness.1,Rows.fnInductionCard.stood.harness.2.toList):=by kernel_rfl
theorem fnInduction_looks:false=Tryz.prog.looks []:=by kernel_rfl
theorem fnInduction_goes:false=Rows.fnInductionRow.goesBy Tryz.prog:=by kernel_rfl
end Go.Proofs.YtfopdcdbelaapaaGreatDoor
