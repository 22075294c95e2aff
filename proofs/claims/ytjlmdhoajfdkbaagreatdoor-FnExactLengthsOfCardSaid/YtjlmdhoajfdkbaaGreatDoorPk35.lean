/-
  Parts of a proof, joined: KLengthsOf. No condition.
-/
import Derived.Test.YtjlmdhoajfdkbaaGreatDoorRows
import Derived.JoinedOf
import Derived.WalkKit
namespace Go.Proofs.YtjlmdhoajfdkbaaGreatDoor
set_option linter.unusedVariables false
set_option linter.unusedSimpArgs false
open Go Go.ChangeShapes Go.WideShapes Go.RowKit
theorem band {a b : Bool} (h : a = true) (k : b = true) : (a && b) = true := by rw [h, k]; rfl
theorem fnExactLengthsOf_k0 : (Rows.fnExactLengthsOfRow.wf (OpenSpec.ofChange Rows.fnExactLengthsOfSpec)) = true := by kernel_rfl
theorem fnExactLengthsOf_k1 : (laidOutB Tryz.prog) = true := by kernel_rfl
theorem fnExactLengthsOf_k2 : (mapsRowed Tryz.prog) = true := by kernel_rfl
theorem fnExactLengthsOf_k3 : (Tryz.f10.params.all (Tryz.prog.readableRec ·)) = true := by kernel_rfl
theorem fnExactLengthsOf_k4 : (namedTie Tryz.prog Rows.fnExactLengthsOfRow.named Rows.fnExactLengthsOfSpec.vars) = true := by kernel_rfl
theorem fnExactLengthsOf_k5 : ((Rows.fnExactLengthsOfRow.stops == [])) = true := by kernel_rfl
theorem fnExactLengthsOf_k6 : ((Tryz.prog.stops == [])) = true := by kernel_rfl
theorem fnExactLengthsOf_k7 : ((Rows.fnExactLengthsOfRow.knobs == [])) = true := by kernel_rfl
theorem fnExactLengthsOf_k8 : ((Tryz.prog.stopKnobs == [])) = true := by kernel_rfl
theorem fnExactLengthsOf_k9 : ((Rows.fnExactLengthsOfRow.inPlace == Tryz.prog.inPlace 10)) = true := by kernel_rfl
theorem fnExactLengthsOf_k10 : ((Rows.fnExactLengthsOfRow.unfollowed == Tryz.prog.unfollowed 10)) = true := by kernel_rfl
theorem fnExactLengthsOf_k11 : ((Rows.fnExactLengthsOfRow.recurses == Tryz.prog.recurses 10)) = true := by kernel_rfl
theorem fnExactLengthsOf_k12 : ((Rows.fnExactLengthsOfRow.named == Tryz.prog.varsNamed 10)) = true := by kernel_rfl
theorem fnExactLengthsOf_k13 : ((Rows.fnExactLengthsOfRow.maps == (Tryz.f10.params.toList ++ Rows.fnExactLengthsOfSpec.plain.varTypes Tryz.prog).any (Tryz.prog.mapsRec ·))) = true := by kernel_rfl
theorem fnExactLengthsOf_k14 : ((Rows.fnExactLengthsOfRow.ifaces == (Tryz.f10.params.toList ++ Rows.fnExactLengthsOfSpec.plain.varTypes Tryz.prog).any (Tryz.prog.ifacesRec ·))) = true := by kernel_rfl
theorem fnExactLengthsOf_k15 : ((Rows.fnExactLengthsOfRow.mapsOut == Tryz.prog.mapsAmong Tryz.f10.resultTypes.toList)) = true := by kernel_rfl
theorem fnExactLengthsOf_k16 : ((Rows.fnExactLengthsOfRow.loops == (Tryz.f10.params.toList ++ Rows.fnExactLengthsOfSpec.plain.varTypes Tryz.prog).any (Tryz.prog.loopsFrom ·))) = true := by kernel_rfl
theorem fnExactLengthsOf_k17 : ((Rows.fnExactLengthsOfRow.wideKeys == (Tryz.f10.params.toList ++ Rows.fnExactLengthsOfSpec.plain.varTypes Tryz.prog ++ Tryz.f10.resultTypes.toList).any (Tryz.prog.wideKeysFrom ·))) = true := by kernel_rfl
theorem fnExactLengthsOf_k18 : (Rows.fnExactLengthsOfSpec.vars.all (Tryz.prog.varReadable ·)) = true := by kernel_rfl
theorem fnExactLengthsOf_k19 : (Tryz.f10.resultTypes.all (fun t => Tryz.prog.readableRec t && decide (t < Tryz.prog.types.size))) = true := by kernel_rfl
theorem fnExactLengthsOf_k20 : ((Rows.fnExactLengthsOfRow.ifacesOut == Tryz.f10.resultTypes.toList.any (Tryz.prog.ifacesRec ·))) = true := by kernel_rfl
theorem fnExactLengthsOf_k21 : ((Rows.fnExactLengthsOfRow.loopsOut == Tryz.f10.resultTypes.toList.any (Tryz.prog.loopsFrom ·))) = true := by kernel_rfl
theorem fnExactLengthsOf_k22 : ((Rows.fnExactLengthsOfRow.plainKeys == Tryz.prog.plainKeys)) = true := by kernel_rfl
theorem fnExactLengthsOf_k23 : (Rows.fnExactLengthsOfRow.shortTexts.isNone) = true := by kernel_rfl
theorem fnExactLengthsOf_k24 : (Tryz.prog.stopsHeard) = true := by kernel_rfl
theorem fnExactLengthsOf_k25 : (Tryz.prog.mayEnter) = true := by kernel_rfl
theorem fnExactLengthsOf_k26 : ((Rows.fnExactLengthsOfRow.lifted == Tryz.prog.liftsFinal)) = true := by kernel_rfl
theorem fnExactLengthsOf_k27 : ((Tryz.prog.make == some Rows.fnExactLengthsOfRow.make)) = true := by kernel_rfl
theorem fnExactLengthsOf_k28 : ((Rows.fnExactLengthsOfRow.kinds == (if Rows.fnExactLengthsOfRow.domain.isEmpty then [] else Tryz.f10.params.toList.map fun t => match Tryz.prog.underlying t with | some (.int k) => some k | _ => none))) = true := by kernel_rfl
theorem fnExactLengthsOf_k29 : ((Rows.fnExactLengthsOfRow.pinned == Rows.fnExactLengthsOfRow.pinnedBy)) = true := by kernel_rfl
theorem fnExactLengthsOf_k30 : ((Rows.fnExactLengthsOfRow.veiled == (Tryz.f10.params.toList ++ Rows.fnExactLengthsOfSpec.plain.varTypes Tryz.prog ++ Tryz.f10.resultTypes.toList).any (Tryz.prog.veiledRec ·))) = true := by kernel_rfl
theorem fnExactLengthsOf_k31 : (Rows.fnExactLengthsOfRow.veiledFits Tryz.prog Tryz.f10.params.toList (Tryz.f10.params.toList ++ Rows.fnExactLengthsOfSpec.plain.varTypes Tryz.prog ++ Tryz.f10.resultTypes.toList)) = true := by kernel_rfl
end Go.Proofs.YtjlmdhoajfdkbaaGreatDoor
