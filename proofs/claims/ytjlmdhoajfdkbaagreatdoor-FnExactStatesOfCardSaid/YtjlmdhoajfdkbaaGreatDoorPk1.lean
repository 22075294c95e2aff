/-
  Parts of a proof, joined: KStatesOf. No condition.
-/
import Derived.Test.YtjlmdhoajfdkbaaGreatDoorRows
import Derived.JoinedOf
import Derived.WalkKit
import Derived.Test.YtjlmdhoajfdkbaaGreatDoorPk0
namespace Go.Proofs.YtjlmdhoajfdkbaaGreatDoor
set_option linter.unusedVariables false
set_option linter.unusedSimpArgs false
open Go Go.ChangeShapes Go.WideShapes Go.RowKit
theorem band {a b : Bool} (h : a = true) (k : b = true) : (a && b) = true := by rw [h, k]; rfl
theorem fnExactStatesOf_k0 : (Rows.fnExactStatesOfRow.wf (OpenSpec.ofChange Rows.fnExactStatesOfSpec)) = true := by kernel_rfl
theorem fnExactStatesOf_k1 : (laidOutB Tryz.prog) = true := by kernel_rfl
theorem fnExactStatesOf_k2 : (mapsRowed Tryz.prog) = true := by kernel_rfl
theorem fnExactStatesOf_k3 : (Tryz.f4.params.all (Tryz.prog.readableRec ·)) = true := by kernel_rfl
theorem fnExactStatesOf_k4 : (namedTie Tryz.prog Rows.fnExactStatesOfRow.named Rows.fnExactStatesOfSpec.vars) = true := by kernel_rfl
theorem fnExactStatesOf_k5 : ((Rows.fnExactStatesOfRow.stops == [])) = true := by kernel_rfl
theorem fnExactStatesOf_k6 : ((Tryz.prog.stops == [])) = true := by kernel_rfl
theorem fnExactStatesOf_k7 : ((Rows.fnExactStatesOfRow.knobs == [])) = true := by kernel_rfl
theorem fnExactStatesOf_k8 : ((Tryz.prog.stopKnobs == [])) = true := by kernel_rfl
theorem fnExactStatesOf_k9 : ((Rows.fnExactStatesOfRow.inPlace == Tryz.prog.inPlace 4)) = true := by kernel_rfl
theorem fnExactStatesOf_k10 : ((Rows.fnExactStatesOfRow.unfollowed == Tryz.prog.unfollowed 4)) = true := by kernel_rfl
theorem fnExactStatesOf_k11 : ((Rows.fnExactStatesOfRow.recurses == Tryz.prog.recurses 4)) = true := by kernel_rfl
theorem fnExactStatesOf_k12 : ((Rows.fnExactStatesOfRow.named == Tryz.prog.varsNamed 4)) = true := by kernel_rfl
theorem fnExactStatesOf_k13 : ((Rows.fnExactStatesOfRow.maps == (Tryz.f4.params.toList ++ Rows.fnExactStatesOfSpec.plain.varTypes Tryz.prog).any (Tryz.prog.mapsRec ·))) = true := by kernel_rfl
theorem fnExactStatesOf_k14 : ((Rows.fnExactStatesOfRow.ifaces == (Tryz.f4.params.toList ++ Rows.fnExactStatesOfSpec.plain.varTypes Tryz.prog).any (Tryz.prog.ifacesRec ·))) = true := by kernel_rfl
theorem fnExactStatesOf_k15 : ((Rows.fnExactStatesOfRow.mapsOut == Tryz.prog.mapsAmong Tryz.f4.resultTypes.toList)) = true := by kernel_rfl
theorem fnExactStatesOf_k16 : ((Rows.fnExactStatesOfRow.loops == (Tryz.f4.params.toList ++ Rows.fnExactStatesOfSpec.plain.varTypes Tryz.prog).any (Tryz.prog.loopsFrom ·))) = true := by kernel_rfl
theorem fnExactStatesOf_k17 : ((Rows.fnExactStatesOfRow.wideKeys == (Tryz.f4.params.toList ++ Rows.fnExactStatesOfSpec.plain.varTypes Tryz.prog ++ Tryz.f4.resultTypes.toList).any (Tryz.prog.wideKeysFrom ·))) = true := by kernel_rfl
theorem fnExactStatesOf_k18 : (Rows.fnExactStatesOfSpec.vars.all (Tryz.prog.varReadable ·)) = true := by kernel_rfl
theorem fnExactStatesOf_k19 : (Tryz.f4.resultTypes.all (fun t => Tryz.prog.readableRec t && decide (t < Tryz.prog.types.size))) = true := by kernel_rfl
theorem fnExactStatesOf_k20 : ((Rows.fnExactStatesOfRow.ifacesOut == Tryz.f4.resultTypes.toList.any (Tryz.prog.ifacesRec ·))) = true := by kernel_rfl
theorem fnExactStatesOf_k21 : ((Rows.fnExactStatesOfRow.loopsOut == Tryz.f4.resultTypes.toList.any (Tryz.prog.loopsFrom ·))) = true := by kernel_rfl
theorem fnExactStatesOf_k22 : ((Rows.fnExactStatesOfRow.plainKeys == Tryz.prog.plainKeys)) = true := by kernel_rfl
theorem fnExactStatesOf_k23 : (Rows.fnExactStatesOfRow.shortTexts.isNone) = true := by kernel_rfl
theorem fnExactStatesOf_k24 : (Tryz.prog.stopsHeard) = true := by kernel_rfl
theorem fnExactStatesOf_k25 : (Tryz.prog.mayEnter) = true := by kernel_rfl
theorem fnExactStatesOf_k26 : ((Rows.fnExactStatesOfRow.lifted == Tryz.prog.liftsFinal)) = true := by kernel_rfl
theorem fnExactStatesOf_k27 : ((Tryz.prog.make == some Rows.fnExactStatesOfRow.make)) = true := by kernel_rfl
theorem fnExactStatesOf_k28 : ((Rows.fnExactStatesOfRow.kinds == (if Rows.fnExactStatesOfRow.domain.isEmpty then [] else Tryz.f4.params.toList.map fun t => match Tryz.prog.underlying t with | some (.int k) => some k | _ => none))) = true := by kernel_rfl
theorem fnExactStatesOf_k29 : ((Rows.fnExactStatesOfRow.pinned == Rows.fnExactStatesOfRow.pinnedBy)) = true := by kernel_rfl
theorem fnExactStatesOf_k30 : ((Rows.fnExactStatesOfRow.veiled == (Tryz.f4.params.toList ++ Rows.fnExactStatesOfSpec.plain.varTypes Tryz.prog ++ Tryz.f4.resultTypes.toList).any (Tryz.prog.veiledRec ·))) = true := by kernel_rfl
theorem fnExactStatesOf_k31 : (Rows.fnExactStatesOfRow.veiledFits Tryz.prog Tryz.f4.params.toList (Tryz.f4.params.toList ++ Rows.fnExactStatesOfSpec.plain.varTypes Tryz.prog ++ Tryz.f4.resultTypes.toList)) = true := by kernel_rfl
end Go.Proofs.YtjlmdhoajfdkbaaGreatDoor
