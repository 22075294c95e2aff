/-
  Parts of a proof, joined: KKleene. No condition.
-/
import Derived.Test.YtfopdcdbelaapaaGreatDoorTie
import Derived.Test.YtfopdcdbelaapaaGreatDoorCards
import Derived.JoinedOf
import Derived.WalkKit
import Derived.Handed
import Derived.LaidLaws
import Derived.LaidMore
import Derived.Stop.Joined
import Derived.ProofKit
import Derived.OpenShut
import Derived.ChangeSame
import Derived.Carry
import Derived.Deep.Slices
import Derived.Deep.LoopGhost
import Derived.Deep.DeepFit
import Derived.Deep.DeepMust
import Derived.Deep.RegionWith
import Derived.Deep.RegionHeld3
import Derived.Deep.QuietTactic
import Derived.BigQuiet
import Derived.WalkSpells
import Derived.WalkLawsBesides
import Derived.WalkSmall
import Derived.Lib.Hide
import Derived.Lib.QuietBelow
import Derived.Deep.CutRange
namespace Go.Proofs.YtfopdcdbelaapaaGreatDoor
set_option linter.unusedVariables false
set_option linter.unusedSimpArgs false
open Go Go.ChangeShapes Go.Deep Go.WideShapes Go.ChangeAt Go.RowKit
theorem band {a b:Bool} (h:a=true) (k:b=true):(a&&b)=true:=by rw [h,k]; rfl
theorem fnKleene_k0:(Rows.fnKleeneRow.wf (OpenSpec.ofChange Rows.fnKleeneSpec))=true:=by kernel_rfl
theorem fnKleene_k1:(laidOutB Tryz.prog)=true:=by kernel_rfl
theorem fnKleene_k2:(mapsRowed Tryz.prog)=true:=by kernel_rfl
theorem fnKleene_k3:(Tryz.f12.params.all (Tryz.prog.readableRec ·))=true:=by kernel_rfl
theorem fnKleene_k4:(namedTie Tryz.prog Rows.fnKleeneRow.named Rows.fnKleeneSpec.vars)=true:=by kernel_rfl
theorem fnKleene_k5:((Rows.fnKleeneRow.stops==[]))=true:=by kernel_rfl
theorem fnKleene_k6:((Tryz.prog.stops==[]))=true:=by kernel_rfl
theorem fnKleene_k7:((Rows.fnKleeneRow.knobs==[]))=true:=by kernel_rfl
theorem fnKleene_k8:((Tryz.prog.stopKnobs==[]))=true:=by kernel_rfl
theorem fnKleene_k9:((Rows.fnKleeneRow.inPlace==Tryz.prog.inPlace 12))=true:=by kernel_rfl
theorem fnKleene_k10:((Rows.fnKleeneRow.unfollowed==Tryz.prog.unfollowed 12))=true:=by kernel_rfl
theorem fnKleene_k11:((Rows.fnKleeneRow.recurses==Tryz.prog.recurses 12))=true:=by kernel_rfl
theorem fnKleene_k12:((Rows.fnKleeneRow.named==Tryz.prog.varsNamed 12))=true:=by kernel_rfl
theorem fnKleene_k13:((Rows.fnKleeneRow.maps==(Tryz.f12.params.toList++Rows.fnKleeneSpec.plain.varTypes Tryz.prog).any (Tryz.prog.mapsRec ·)))=true:=by kernel_rfl
theorem fnKleene_k14:((Rows.fnKleeneRow.ifaces==(Tryz.f12.params.toList++Rows.fnKleeneSpec.plain.varTypes Tryz.prog).any (Tryz.prog.ifacesRec ·)))=true:=by kernel_rfl
theorem fnKleene_k15:((Rows.fnKleeneRow.mapsOut==Tryz.prog.mapsAmong Tryz.f12.resultTypes.toList))=true:=by kernel_rfl
theorem fnKleene_k16:((Rows.fnKleeneRow.loops==(Tryz.f12.params.toList++Rows.fnKleeneSpec.plain.varTypes Tryz.prog).any (Tryz.prog.loopsFrom ·)))=true:=by kernel_rfl
theorem fnKleene_k17:((Rows.fnKleeneRow.wideKeys==(Tryz.f12.params.toList++Rows.fnKleeneSpec.plain.varTypes Tryz.prog++Tryz.f12.resultTypes.toList).any (Tryz.prog.wideKeysFrom ·)))=true:=by kernel_rfl
theorem fnKleene_k18:(Rows.fnKleeneSpec.vars.all (Tryz.prog.varReadable ·))=true:=by kernel_rfl
theorem fnKleene_k19:(Tryz.f12.resultTypes.all (fun t=>Tryz.prog.readableRec t&&decide (t<Tryz.prog.types.size)))=true:=by kernel_rfl
theorem fnKleene_k20:((Rows.fnKleeneRow.ifacesOut==Tryz.f12.resultTypes.toList.any (Tryz.prog.ifacesRec ·)))=true:=by kernel_rfl
theorem fnKleene_k21:((Rows.fnKleeneRow.loopsOut==Tryz.f12.resultTypes.toList.any (Tryz.prog.loopsFrom ·)))=true:=by kernel_rfl
theorem fnKleene_k22:((Rows.fnKleeneRow.plainKeys==Tryz.prog.plainKeys))=true:=by kernel_rfl
theorem fnKleene_k23:(Rows.fnKleeneRow.shortTexts.isNone)=true:=by kernel_rfl
theorem fnKleene_k24:(Tryz.prog.stopsHeard)=true:=by kernel_rfl
theorem fnKleene_k25:(Tryz.prog.mayEnter)=true:=by kernel_rfl
theorem fnKleene_k26:((Rows.fnKleeneRow.lifted==Tryz.prog.liftsFinal))=true:=by kernel_rfl
theorem fnKleene_k27:((Tryz.prog.make==some Rows.fnKleeneRow.make))=true:=by kernel_rfl
theorem fnKleene_k28:((Rows.fnKleeneRow.kinds==(if Rows.fnKleeneRow.domain.isEmpty then [] else Tryz.f12.params.toList.map fun t=>match Tryz.prog.underlying t with|some (.int k)=>some k|_=>none)))=true:=by kernel_rfl
theorem fnKleene_k29:((Rows.fnKleeneRow.pinned==Rows.fnKleeneRow.pinnedBy))=true:=by kernel_rfl
theorem fnKleene_k30:((Rows.fnKleeneRow.veiled==(Tryz.f12.params.toList++Rows.fnKleeneSpec.plain.varTypes Tryz.prog++Tryz.f12.resultTypes.toList).any (Tryz.prog.veiledRec ·)))=true:=by kernel_rfl
theorem fnKleene_k31:(Rows.fnKleeneRow.veiledFits Tryz.prog Tryz.f12.params.toList (Tryz.f12.params.toList++Rows.fnKleeneSpec.plain.varTypes Tryz.prog++Tryz.f12.resultTypes.toList))=true:=by kernel_rfl
theorem fnKleene_main:Tryz.prog.mainIs=some (Rows.fnKleeneCard.stood.harness.1,Rows.fnKleeneCard.stood.harness.2.toList):=by kernel_rfl
theorem fnKleene_looks:false=Tryz.prog.looks []:=by kernel_rfl
theorem fnKleene_goes:false=Rows.fnKleeneRow.goesBy Tryz.prog:=by kernel_rfl
end Go.Proofs.YtfopdcdbelaapaaGreatDoor
