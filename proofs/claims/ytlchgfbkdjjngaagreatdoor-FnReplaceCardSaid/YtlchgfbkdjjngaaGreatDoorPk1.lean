/-
  Parts of a proof, joined: KReplace. No condition.
-/
import Derived.Test.YtlchgfbkdjjngaaGreatDoorTie
import Derived.Test.YtlchgfbkdjjngaaGreatDoorCards
import Derived.JoinedOf
import Derived.WalkKit
import Derived.Handed
import Derived.LaidLaws
import Derived.LaidMore
import Derived.Stop.Joined
import Derived.ProofKit
import Derived.OpenShut
import Derived.ChangeSame
import Derived.Carry
import Derived.Deep.Slices
import Derived.Deep.LoopGhost
import Derived.Deep.DeepFit
import Derived.Deep.DeepMust
import Derived.Deep.RegionWith
import Derived.Deep.RegionHeld3
import Derived.Deep.QuietTactic
import Derived.BigQuiet
import Derived.WalkSpells
import Derived.WalkLawsBesides
import Derived.WalkSmall
import Derived.Lib.Hide
import Derived.Lib.QuietBelow
import Derived.Deep.CutRange
set_option linter.unusedVariables false
set_option linter.unusedSimpArgs false
namespace Go.Proofs.YtlchgfbkdjjngaaGreatDoor
open Go Go.ChangeShapes Go.Deep Go.WideShapes Go.ChangeAt Go.RowKit
theorem Cs {a b:Bool} (h:a=true) (k:b=true):(a&&b)=true:=by rw [h,k]; rfl
theorem fnReplace_k0:(Rows.fnReplaceRow.wf (OpenSpec.ofChange Rows.fnReplaceSpec))=true:=by kernel_rfl
theorem fnReplace_k1:(laidOutB Tryz.prog)=true:=by kernel_rfl
theorem fnReplace_k2:(mapsRowed Tryz.prog)=true:=by kernel_rfl
theorem fnReplace_k3:(Tryz.f3.params.all (Tryz.prog.readableRec ·))=true:=by kernel_rfl
theorem fnReplace_k4:(namedTie Tryz.prog Rows.fnReplaceRow.named Rows.fnReplaceSpec.vars)=true:=by kernel_rfl
theorem fnReplace_k5:((Rows.fnReplaceRow.stops==[]))=true:=by kernel_rfl
theorem fnReplace_k6:((Tryz.prog.stops==[]))=true:=by kernel_rfl
theorem fnReplace_k7:((Rows.fnReplaceRow.knobs==[]))=true:=by kernel_rfl
theorem fnReplace_k8:((Tryz.prog.stopKnobs==[]))=true:=by kernel_rfl
theorem fnReplace_k9:((Rows.fnReplaceRow.inPlace==Tryz.prog.inPlace 3))=true:=by kernel_rfl
theorem fnReplace_k10:((Rows.fnReplaceRow.unfollowed==Tryz.prog.unfollowed 3))=true:=by kernel_rfl
theorem fnReplace_k11:((Rows.fnReplaceRow.recurses==Tryz.prog.recurses 3))=true:=by kernel_rfl
theorem fnReplace_k12:((Rows.fnReplaceRow.named==Tryz.prog.varsNamed 3))=true:=by kernel_rfl
theorem fnReplace_k13:((Rows.fnReplaceRow.maps==(Tryz.f3.params.toList++Rows.fnReplaceSpec.plain.varTypes Tryz.prog).any (Tryz.prog.mapsRec ·)))=true:=by kernel_rfl
theorem fnReplace_k14:((Rows.fnReplaceRow.ifaces==(Tryz.f3.params.toList++Rows.fnReplaceSpec.plain.varTypes Tryz.prog).any (Tryz.prog.ifacesRec ·)))=true:=by kernel_rfl
theorem fnReplace_k15:((Rows.fnReplaceRow.mapsOut==Tryz.prog.mapsAmong Tryz.f3.resultTypes.toList))=true:=by kernel_rfl
theorem fnReplace_k16:((Rows.fnReplaceRow.loops==(Tryz.f3.params.toList++Rows.fnReplaceSpec.plain.varTypes Tryz.prog).any (Tryz.prog.loopsFrom ·)))=true:=by kernel_rfl
theorem fnReplace_k17:((Rows.fnReplaceRow.wideKeys==(Tryz.f3.params.toList++Rows.fnReplaceSpec.plain.varTypes Tryz.prog++Tryz.f3.resultTypes.toList).any (Tryz.prog.wideKeysFrom ·)))=true:=by kernel_rfl
theorem fnReplace_k18:(Rows.fnReplaceSpec.vars.all (Tryz.prog.varReadable ·))=true:=by kernel_rfl
theorem fnReplace_k19:(Tryz.f3.resultTypes.all (fun t=>Tryz.prog.readableRec t&&decide (t<Tryz.prog.types.size)))=true:=by kernel_rfl
theorem fnReplace_k20:((Rows.fnReplaceRow.ifacesOut==Tryz.f3.resultTypes.toList.any (Tryz.prog.ifacesRec ·)))=true:=by kernel_rfl
theorem fnReplace_k21:((Rows.fnReplaceRow.loopsOut==Tryz.f3.resultTypes.toList.any (Tryz.prog.loopsFrom ·)))=true:=by kernel_rfl
theorem fnReplace_k22:((Rows.fnReplaceRow.plainKeys==Tryz.prog.plainKeys))=true:=by kernel_rfl
theorem fnReplace_k23:(Rows.fnReplaceRow.shortTexts.isNone)=true:=by kernel_rfl
theorem fnReplace_k24:(Tryz.prog.stopsHeard)=true:=by kernel_rfl
theorem fnReplace_k25:(Tryz.prog.mayEnter)=true:=by kernel_rfl
theorem fnReplace_k26:((Rows.fnReplaceRow.lifted==Tryz.prog.liftsFinal))=true:=by kernel_rfl
theorem fnReplace_k27:((Tryz.prog.make==some Rows.fnReplaceRow.make))=true:=by kernel_rfl
theorem fnReplace_k28:((Rows.fnReplaceRow.kinds==(if Rows.fnReplaceRow.domain.isEmpty then [] else Tryz.f3.params.toList.map fun t=>match Tryz.prog.underlying t with|some (.int k)=>some k|_=>none)))=true:=by kernel_rfl
theorem fnReplace_k29:((Rows.fnReplaceRow.pinned==Rows.fnReplaceRow.pinnedBy))=true:=by kernel_rfl
theorem fnReplace_k30:((Rows.fnReplaceRow.veiled==(Tryz.f3.params.toList++Rows.fnReplaceSpec.plain.varTypes Tryz.prog++Tryz.f3.resultTypes.toList).any (Tryz.prog.veiledRec ·)))=true:=by kernel_rfl
theorem fnReplace_k31:(Rows.fnReplaceRow.veiledFits Tryz.prog Tryz.f3.params.toList (Tryz.f3.params.toList++Rows.fnReplaceSpec.plain.varTypes Tryz.prog++Tryz.f3.resultTypes.toList))=true:=by kernel_rfl
theorem fnReplace_main:Tryz.prog.mainIs=some (Rows.fnReplaceCard.stood.harness.1,Rows.fnReplaceCard.stood.harness.2.toList):=by kernel_rfl
theorem fnReplace_looks:false=Tryz.prog.looks []:=by kernel_rfl
theorem fnReplace_goes:false=Rows.fnReplaceRow.goesBy Tryz.prog:=by kernel_rfl
end Go.Proofs.YtlchgfbkdjjngaaGreatDoor
