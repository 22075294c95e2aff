/-
  Parts of a proof, joined: KAllWords. No condition.
-/
import Derived.Test.YtfopdcdbelaapaaDoorTie
import Derived.Test.YtfopdcdbelaapaaDoorCards
import Derived.JoinedOf
import Derived.WalkKit
import Derived.Handed
import Derived.LaidLaws
import Derived.LaidMore
import Derived.Stop.Joined
import Derived.ProofKit
import Derived.OpenShut
import Derived.ChangeSame
import Derived.Carry
import Derived.Deep.Slices
import Derived.Deep.LoopGhost
import Derived.Deep.DeepFit
import Derived.Deep.DeepMust
import Derived.Deep.RegionWith
import Derived.Deep.RegionHeld3
import Derived.Deep.QuietTactic
import Derived.BigQuiet
import Derived.WalkSpells
import Derived.WalkLawsBesides
import Derived.WalkSmall
import Derived.Lib.Hide
import Derived.Lib.QuietBelow
import Derived.Deep.CutRange
namespace Go.Proofs.YtfopdcdbelaapaaDoor
set_option linter.unusedVariables false
set_option linter.unusedSimpArgs false
open Go Go.ChangeShapes Go.Deep Go.WideShapes Go.ChangeAt Go.RowKit
theorem band {a b:Bool} (h:a=true) (k:b=true):(a&&b)=true:=by rw [h,k]; rfl
theorem fnExactAllWords_k0:(Rows.fnExactAllWordsRow.wf (OpenSpec.ofChange Rows.fnExactAllWordsSpec))=true:=by kernel_rfl
theorem fnExactAllWords_k1:(laidOutB Tryd.prog)=true:=by kernel_rfl
theorem fnExactAllWords_k2:(mapsRowed Tryd.prog)=true:=by kernel_rfl
theorem fnExactAllWords_k3:(Tryd.f3.params.all (Tryd.prog.readableRec ·))=true:=by kernel_rfl
theorem fnExactAllWords_k4:(namedTie Tryd.prog Rows.fnExactAllWordsRow.named Rows.fnExactAllWordsSpec.vars)=true:=by kernel_rfl
theorem fnExactAllWords_k5:((Rows.fnExactAllWordsRow.stops==[]))=true:=by kernel_rfl
theorem fnExactAllWords_k6:((Tryd.prog.stops==[]))=true:=by kernel_rfl
theorem fnExactAllWords_k7:((Rows.fnExactAllWordsRow.knobs==[]))=true:=by kernel_rfl
theorem fnExactAllWords_k8:((Tryd.prog.stopKnobs==[]))=true:=by kernel_rfl
theorem fnExactAllWords_k9:((Rows.fnExactAllWordsRow.inPlace==Tryd.prog.inPlace 3))=true:=by kernel_rfl
theorem fnExactAllWords_k10:((Rows.fnExactAllWordsRow.unfollowed==Tryd.prog.unfollowed 3))=true:=by kernel_rfl
theorem fnExactAllWords_k11:((Rows.fnExactAllWordsRow.recurses==Tryd.prog.recurses 3))=true:=by kernel_rfl
theorem fnExactAllWords_k12:((Rows.fnExactAllWordsRow.named==Tryd.prog.varsNamed 3))=true:=by kernel_rfl
theorem fnExactAllWords_k13:((Rows.fnExactAllWordsRow.maps==(Tryd.f3.params.toList++Rows.fnExactAllWordsSpec.plain.varTypes Tryd.prog).any (Tryd.prog.mapsRec ·)))=true:=by kernel_rfl
theorem fnExactAllWords_k14:((Rows.fnExactAllWordsRow.ifaces==(Tryd.f3.params.toList++Rows.fnExactAllWordsSpec.plain.varTypes Tryd.prog).any (Tryd.prog.ifacesRec ·)))=true:=by kernel_rfl
theorem fnExactAllWords_k15:((Rows.fnExactAllWordsRow.mapsOut==Tryd.prog.mapsAmong Tryd.f3.resultTypes.toList))=true:=by kernel_rfl
theorem fnExactAllWords_k16:((Rows.fnExactAllWordsRow.loops==(Tryd.f3.params.toList++Rows.fnExactAllWordsSpec.plain.varTypes Tryd.prog).any (Tryd.prog.loopsFrom ·)))=true:=by kernel_rfl
theorem fnExactAllWords_k17:((Rows.fnExactAllWordsRow.wideKeys==(Tryd.f3.params.toList++Rows.fnExactAllWordsSpec.plain.varTypes Tryd.prog++Tryd.f3.resultTypes.toList).any (Tryd.prog.wideKeysFrom ·)))=true:=by kernel_rfl
theorem fnExactAllWords_k18:(Rows.fnExactAllWordsSpec.vars.all (Tryd.prog.varReadable ·))=true:=by kernel_rfl
theorem fnExactAllWords_k19:(Tryd.f3.resultTypes.all (fun t=>Tryd.prog.readableRec t&&decide (t<Tryd.prog.types.size)))=true:=by kernel_rfl
theorem fnExactAllWords_k20:((Rows.fnExactAllWordsRow.ifacesOut==Tryd.f3.resultTypes.toList.any (Tryd.prog.ifacesRec ·)))=true:=by kernel_rfl
theorem fnExactAllWords_k21:((Rows.fnExactAllWordsRow.loopsOut==Tryd.f3.resultTypes.toList.any (Tryd.prog.loopsFrom ·)))=true:=by kernel_rfl
theorem fnExactAllWords_k22:((Rows.fnExactAllWordsRow.plainKeys==Tryd.prog.plainKeys))=true:=by kernel_rfl
theorem fnExactAllWords_k23:(Rows.fnExactAllWordsRow.shortTexts.isNone)=true:=by kernel_rfl
theorem fnExactAllWords_k24:(Tryd.prog.stopsHeard)=true:=by kernel_rfl
theorem fnExactAllWords_k25:(Tryd.prog.mayEnter)=true:=by kernel_rfl
theorem fnExactAllWords_k26:((Rows.fnExactAllWordsRow.lifted==Tryd.prog.liftsFinal))=true:=by kernel_rfl
theorem fnExactAllWords_k27:((Tryd.prog.make==some Rows.fnExactAllWordsRow.make))=true:=by kernel_rfl
theorem fnExactAllWords_k28:((Rows.fnExactAllWordsRow.kinds==(if Rows.fnExactAllWordsRow.domain.isEmpty then [] else Tryd.f3.params.toList.map fun t=>match Tryd.prog.underlying t with|some (.int k)=>some k|_=>none)))=true:=by kernel_rfl
theorem fnExactAllWords_k29:((Rows.fnExactAllWordsRow.pinned==Rows.fnExactAllWordsRow.pinnedBy))=true:=by kernel_rfl
theorem fnExactAllWords_k30:((Rows.fnExactAllWordsRow.veiled==(Tryd.f3.params.toList++Rows.fnExactAllWordsSpec.plain.varTypes Tryd.prog++Tryd.f3.resultTypes.toList).any (Tryd.prog.veiledRec ·)))=true:=by kernel_rfl
theorem fnExactAllWords_k31:(Rows.fnExactAllWordsRow.veiledFits Tryd.prog Tryd.f3.params.toList (Tryd.f3.params.toList++Rows.fnExactAllWordsSpec.plain.varTypes Tryd.prog++Tryd.f3.resultTypes.toList))=true:=by kernel_rfl
theorem fnExactAllWords_main:Tryd.prog.mainIs=some (Rows.fnExactAllWordsCard.stood.harness.1,Rows.fnExactAllWordsCard.stood.harness.2.toList):=by kernel_rfl
theorem fnExactAllWords_looks:false=Tryd.prog.looks []:=by kernel_rfl
theorem fnExactAllWords_goes:false=Rows.fnExactAllWordsRow.goesBy Tryd.prog:=by kernel_rfl
end Go.Proofs.YtfopdcdbelaapaaDoor
