/-
  Parts of a proof, joined: KOrder. No condition.
-/
import Derived.Test.YtfopdcdbelaapaaGreatDoorTie
import Derived.Test.YtfopdcdbelaapaaGreatDoorCards
import Derived.JoinedOf
import Derived.WalkKit
import Derived.Handed
import Derived.LaidLaws
import Derived.LaidMore
import Derived.Stop.Joined
import Derived.ProofKit
import Derived.OpenShut
import Derived.ChangeSame
import Derived.Carry
import Derived.Deep.Slices
import Derived.Deep.LoopGhost
import Derived.Deep.DeepFit
import Derived.Deep.DeepMust
import Derived.Deep.RegionWith
import Derived.Deep.RegionHeld3
import Derived.Deep.QuietTactic
import Derived.BigQuiet
import Derived.WalkSpells
import Derived.WalkLawsBesides
import Derived.WalkSmall
import Derived.Lib.Hide
import Derived.Lib.QuietBelow
import Derived.Deep.CutRange
namespace Go.Proofs.YtfopdcdbelaapaaGreatDoor
set_option linter.unusedVariables false
set_option linter.unusedSimpArgs false
open Go Go.ChangeShapes Go.Deep Go.WideShapes Go.ChangeAt Go.RowKit
theorem band {a b:Bool} (h:a=true) (k:b=true):(a&&b)=true:=by rw [h,k]; rfl
theorem fnOrder_k0:(Rows.fnOrderRow.wf (OpenSpec.ofChange Rows.fnOrderSpec))=true:=by kernel_rfl
theorem fnOrder_k1:(laidOutB Tryz.prog)=true:=by kernel_rfl
theorem fnOrder_k2:(mapsRowed Tryz.prog)=true:=by kernel_rfl
theorem fnOrder_k3:(Tryz.f13.params.all (Tryz.prog.readableRec ·))=true:=by kernel_rfl
theorem fnOrder_k4:(namedTie Tryz.prog Rows.fnOrderRow.named Rows.fnOrderSpec.vars)=true:=by kernel_rfl
theorem fnOrder_k5:((Rows.fnOrderRow.stops==[]))=true:=by kernel_rfl
theorem fnOrder_k6:((Tryz.prog.stops==[]))=true:=by kernel_rfl
theorem fnOrder_k7:((Rows.fnOrderRow.knobs==[]))=true:=by kernel_rfl
theorem fnOrder_k8:((Tryz.prog.stopKnobs==[]))=true:=by kernel_rfl
theorem fnOrder_k9:((Rows.fnOrderRow.inPlace==Tryz.prog.inPlace 13))=true:=by kernel_rfl
theorem fnOrder_k10:((Rows.fnOrderRow.unfollowed==Tryz.prog.unfollowed 13))=true:=by kernel_rfl
theorem fnOrder_k11:((Rows.fnOrderRow.recurses==Tryz.prog.recurses 13))=true:=by kernel_rfl
theorem fnOrder_k12:((Rows.fnOrderRow.named==Tryz.prog.varsNamed 13))=true:=by kernel_rfl
theorem fnOrder_k13:((Rows.fnOrderRow.maps==(Tryz.f13.params.toList++Rows.fnOrderSpec.plain.varTypes Tryz.prog).any (Tryz.prog.mapsRec ·)))=true:=by kernel_rfl
theorem fnOrder_k14:((Rows.fnOrderRow.ifaces==(Tryz.f13.params.toList++Rows.fnOrderSpec.plain.varTypes Tryz.prog).any (Tryz.prog.ifacesRec ·)))=true:=by kernel_rfl
theorem fnOrder_k15:((Rows.fnOrderRow.mapsOut==Tryz.prog.mapsAmong Tryz.f13.resultTypes.toList))=true:=by kernel_rfl
theorem fnOrder_k16:((Rows.fnOrderRow.loops==(Tryz.f13.params.toList++Rows.fnOrderSpec.plain.varTypes Tryz.prog).any (Tryz.prog.loopsFrom ·)))=true:=by kernel_rfl
theorem fnOrder_k17:((Rows.fnOrderRow.wideKeys==(Tryz.f13.params.toList++Rows.fnOrderSpec.plain.varTypes Tryz.prog++Tryz.f13.resultTypes.toList).any (Tryz.prog.wideKeysFrom ·)))=true:=by kernel_rfl
theorem fnOrder_k18:(Rows.fnOrderSpec.vars.all (Tryz.prog.varReadable ·))=true:=by kernel_rfl
theorem fnOrder_k19:(Tryz.f13.resultTypes.all (fun t=>Tryz.prog.readableRec t&&decide (t<Tryz.prog.types.size)))=true:=by kernel_rfl
theorem fnOrder_k20:((Rows.fnOrderRow.ifacesOut==Tryz.f13.resultTypes.toList.any (Tryz.prog.ifacesRec ·)))=true:=by kernel_rfl
theorem fnOrder_k21:((Rows.fnOrderRow.loopsOut==Tryz.f13.resultTypes.toList.any (Tryz.prog.loopsFrom ·)))=true:=by kernel_rfl
theorem fnOrder_k22:((Rows.fnOrderRow.plainKeys==Tryz.prog.plainKeys))=true:=by kernel_rfl
theorem fnOrder_k23:(Rows.fnOrderRow.shortTexts.isNone)=true:=by kernel_rfl
theorem fnOrder_k24:(Tryz.prog.stopsHeard)=true:=by kernel_rfl
theorem fnOrder_k25:(Tryz.prog.mayEnter)=true:=by kernel_rfl
theorem fnOrder_k26:((Rows.fnOrderRow.lifted==Tryz.prog.liftsFinal))=true:=by kernel_rfl
theorem fnOrder_k27:((Tryz.prog.make==some Rows.fnOrderRow.make))=true:=by kernel_rfl
theorem fnOrder_k28:((Rows.fnOrderRow.kinds==(if Rows.fnOrderRow.domain.isEmpty then [] else Tryz.f13.params.toList.map fun t=>match Tryz.prog.underlying t with|some (.int k)=>some k|_=>none)))=true:=by kernel_rfl
theorem fnOrder_k29:((Rows.fnOrderRow.pinned==Rows.fnOrderRow.pinnedBy))=true:=by kernel_rfl
theorem fnOrder_k30:((Rows.fnOrderRow.veiled==(Tryz.f13.params.toList++Rows.fnOrderSpec.plain.varTypes Tryz.prog++Tryz.f13.resultTypes.toList).any (Tryz.prog.veiledRec ·)))=true:=by kernel_rfl
theorem fnOrder_k31:(Rows.fnOrderRow.veiledFits Tryz.prog Tryz.f13.params.toList (Tryz.f13.params.toList++Rows.fnOrderSpec.plain.varTypes Tryz.prog++Tryz.f13.resultTypes.toList))=true:=by kernel_rfl
theorem fnOrder_main:Tryz.prog.mainIs=some (Rows.fnOrderCard.stood.harness.1,Rows.fnOrderCard.stood.harness.2.toList):=by kernel_rfl
theorem fnOrder_looks:false=Tryz.prog.looks []:=by kernel_rfl
theorem fnOrder_goes:false=Rows.fnOrderRow.goesBy Tryz.prog:=by kernel_rfl
end Go.Proofs.YtfopdcdbelaapaaGreatDoor
