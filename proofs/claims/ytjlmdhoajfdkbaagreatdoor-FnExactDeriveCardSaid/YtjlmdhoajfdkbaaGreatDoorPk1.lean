/-
  Parts of a proof, joined: KDerive. No condition.
-/
import Derived.Test.YtjlmdhoajfdkbaaGreatDoorRows
import Derived.JoinedOf
import Derived.WalkKit
import Derived.Test.YtjlmdhoajfdkbaaGreatDoorPk0
namespace Go.Proofs.YtjlmdhoajfdkbaaGreatDoor
set_option linter.unusedVariables false
set_option linter.unusedSimpArgs false
open Go Go.ChangeShapes Go.WideShapes Go.RowKit
theorem band {a b : Bool} (h : a = true) (k : b = true) : (a && b) = true := by rw [h, k]; rfl
theorem fnExactDerive_k0 : (Rows.fnExactDeriveRow.wf (OpenSpec.ofChange Rows.fnExactDeriveSpec)) = true := by kernel_rfl
theorem fnExactDerive_k1 : (laidOutB Tryz.prog) = true := by kernel_rfl
theorem fnExactDerive_k2 : (mapsRowed Tryz.prog) = true := by kernel_rfl
theorem fnExactDerive_k3 : (Tryz.f3.params.all (Tryz.prog.readableRec ·)) = true := by kernel_rfl
theorem fnExactDerive_k4 : (namedTie Tryz.prog Rows.fnExactDeriveRow.named Rows.fnExactDeriveSpec.vars) = true := by kernel_rfl
theorem fnExactDerive_k5 : ((Rows.fnExactDeriveRow.stops == [])) = true := by kernel_rfl
theorem fnExactDerive_k6 : ((Tryz.prog.stops == [])) = true := by kernel_rfl
theorem fnExactDerive_k7 : ((Rows.fnExactDeriveRow.knobs == [])) = true := by kernel_rfl
theorem fnExactDerive_k8 : ((Tryz.prog.stopKnobs == [])) = true := by kernel_rfl
theorem fnExactDerive_k9 : ((Rows.fnExactDeriveRow.inPlace == Tryz.prog.inPlace 3)) = true := by kernel_rfl
theorem fnExactDerive_k10 : ((Rows.fnExactDeriveRow.unfollowed == Tryz.prog.unfollowed 3)) = true := by kernel_rfl
theorem fnExactDerive_k11 : ((Rows.fnExactDeriveRow.recurses == Tryz.prog.recurses 3)) = true := by kernel_rfl
theorem fnExactDerive_k12 : ((Rows.fnExactDeriveRow.named == Tryz.prog.varsNamed 3)) = true := by kernel_rfl
theorem fnExactDerive_k13 : ((Rows.fnExactDeriveRow.maps == (Tryz.f3.params.toList ++ Rows.fnExactDeriveSpec.plain.varTypes Tryz.prog).any (Tryz.prog.mapsRec ·))) = true := by kernel_rfl
theorem fnExactDerive_k14 : ((Rows.fnExactDeriveRow.ifaces == (Tryz.f3.params.toList ++ Rows.fnExactDeriveSpec.plain.varTypes Tryz.prog).any (Tryz.prog.ifacesRec ·))) = true := by kernel_rfl
theorem fnExactDerive_k15 : ((Rows.fnExactDeriveRow.mapsOut == Tryz.prog.mapsAmong Tryz.f3.resultTypes.toList)) = true := by kernel_rfl
theorem fnExactDerive_k16 : ((Rows.fnExactDeriveRow.loops == (Tryz.f3.params.toList ++ Rows.fnExactDeriveSpec.plain.varTypes Tryz.prog).any (Tryz.prog.loopsFrom ·))) = true := by kernel_rfl
theorem fnExactDerive_k17 : ((Rows.fnExactDeriveRow.wideKeys == (Tryz.f3.params.toList ++ Rows.fnExactDeriveSpec.plain.varTypes Tryz.prog ++ Tryz.f3.resultTypes.toList).any (Tryz.prog.wideKeysFrom ·))) = true := by kernel_rfl
theorem fnExactDerive_k18 : (Rows.fnExactDeriveSpec.vars.all (Tryz.prog.varReadable ·)) = true := by kernel_rfl
theorem fnExactDerive_k19 : (Tryz.f3.resultTypes.all (fun t => Tryz.prog.readableRec t && decide (t < Tryz.prog.types.size))) = true := by kernel_rfl
theorem fnExactDerive_k20 : ((Rows.fnExactDeriveRow.ifacesOut == Tryz.f3.resultTypes.toList.any (Tryz.prog.ifacesRec ·))) = true := by kernel_rfl
theorem fnExactDerive_k21 : ((Rows.fnExactDeriveRow.loopsOut == Tryz.f3.resultTypes.toList.any (Tryz.prog.loopsFrom ·))) = true := by kernel_rfl
theorem fnExactDerive_k22 : ((Rows.fnExactDeriveRow.plainKeys == Tryz.prog.plainKeys)) = true := by kernel_rfl
theorem fnExactDerive_k23 : (Rows.fnExactDeriveRow.shortTexts.isNone) = true := by kernel_rfl
theorem fnExactDerive_k24 : (Tryz.prog.stopsHeard) = true := by kernel_rfl
theorem fnExactDerive_k25 : (Tryz.prog.mayEnter) = true := by kernel_rfl
theorem fnExactDerive_k26 : ((Rows.fnExactDeriveRow.lifted == Tryz.prog.liftsFinal)) = true := by kernel_rfl
theorem fnExactDerive_k27 : ((Tryz.prog.make == some Rows.fnExactDeriveRow.make)) = true := by kernel_rfl
theorem fnExactDerive_k28 : ((Rows.fnExactDeriveRow.kinds == (if Rows.fnExactDeriveRow.domain.isEmpty then [] else Tryz.f3.params.toList.map fun t => match Tryz.prog.underlying t with | some (.int k) => some k | _ => none))) = true := by kernel_rfl
theorem fnExactDerive_k29 : ((Rows.fnExactDeriveRow.pinned == Rows.fnExactDeriveRow.pinnedBy)) = true := by kernel_rfl
theorem fnExactDerive_k30 : ((Rows.fnExactDeriveRow.veiled == (Tryz.f3.params.toList ++ Rows.fnExactDeriveSpec.plain.varTypes Tryz.prog ++ Tryz.f3.resultTypes.toList).any (Tryz.prog.veiledRec ·))) = true := by kernel_rfl
theorem fnExactDerive_k31 : (Rows.fnExactDeriveRow.veiledFits Tryz.prog Tryz.f3.params.toList (Tryz.f3.params.toList ++ Rows.fnExactDeriveSpec.plain.varTypes Tryz.prog ++ Tryz.f3.resultTypes.toList)) = true := by kernel_rfl
end Go.Proofs.YtjlmdhoajfdkbaaGreatDoor
