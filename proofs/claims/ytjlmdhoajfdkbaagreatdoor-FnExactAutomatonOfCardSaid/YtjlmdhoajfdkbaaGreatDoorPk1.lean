/-
  Parts of a proof, joined: KAutomatonOf. No condition.
-/
import Derived.Test.YtjlmdhoajfdkbaaGreatDoorRows
import Derived.JoinedOf
import Derived.WalkKit
namespace Go.Proofs.YtjlmdhoajfdkbaaGreatDoor
set_option linter.unusedVariables false
set_option linter.unusedSimpArgs false
open Go Go.ChangeShapes Go.WideShapes Go.RowKit
theorem band {a b : Bool} (h : a = true) (k : b = true) : (a && b) = true := by rw [h, k]; rfl
theorem fnExactAutomatonOf_k0 : (Rows.fnExactAutomatonOfRow.wf (OpenSpec.ofChange Rows.fnExactAutomatonOfSpec)) = true := by kernel_rfl
theorem fnExactAutomatonOf_k1 : (laidOutB Tryz.prog) = true := by kernel_rfl
theorem fnExactAutomatonOf_k2 : (mapsRowed Tryz.prog) = true := by kernel_rfl
theorem fnExactAutomatonOf_k3 : (Tryz.f12.params.all (Tryz.prog.readableRec ·)) = true := by kernel_rfl
theorem fnExactAutomatonOf_k4 : (namedTie Tryz.prog Rows.fnExactAutomatonOfRow.named Rows.fnExactAutomatonOfSpec.vars) = true := by kernel_rfl
theorem fnExactAutomatonOf_k5 : ((Rows.fnExactAutomatonOfRow.stops == [])) = true := by kernel_rfl
theorem fnExactAutomatonOf_k6 : ((Tryz.prog.stops == [])) = true := by kernel_rfl
theorem fnExactAutomatonOf_k7 : ((Rows.fnExactAutomatonOfRow.knobs == [])) = true := by kernel_rfl
theorem fnExactAutomatonOf_k8 : ((Tryz.prog.stopKnobs == [])) = true := by kernel_rfl
theorem fnExactAutomatonOf_k9 : ((Rows.fnExactAutomatonOfRow.inPlace == Tryz.prog.inPlace 12)) = true := by kernel_rfl
theorem fnExactAutomatonOf_k10 : ((Rows.fnExactAutomatonOfRow.unfollowed == Tryz.prog.unfollowed 12)) = true := by kernel_rfl
theorem fnExactAutomatonOf_k11 : ((Rows.fnExactAutomatonOfRow.recurses == Tryz.prog.recurses 12)) = true := by kernel_rfl
theorem fnExactAutomatonOf_k12 : ((Rows.fnExactAutomatonOfRow.named == Tryz.prog.varsNamed 12)) = true := by kernel_rfl
theorem fnExactAutomatonOf_k13 : ((Rows.fnExactAutomatonOfRow.maps == (Tryz.f12.params.toList ++ Rows.fnExactAutomatonOfSpec.plain.varTypes Tryz.prog).any (Tryz.prog.mapsRec ·))) = true := by kernel_rfl
theorem fnExactAutomatonOf_k14 : ((Rows.fnExactAutomatonOfRow.ifaces == (Tryz.f12.params.toList ++ Rows.fnExactAutomatonOfSpec.plain.varTypes Tryz.prog).any (Tryz.prog.ifacesRec ·))) = true := by kernel_rfl
theorem fnExactAutomatonOf_k15 : ((Rows.fnExactAutomatonOfRow.mapsOut == Tryz.prog.mapsAmong Tryz.f12.resultTypes.toList)) = true := by kernel_rfl
theorem fnExactAutomatonOf_k16 : ((Rows.fnExactAutomatonOfRow.loops == (Tryz.f12.params.toList ++ Rows.fnExactAutomatonOfSpec.plain.varTypes Tryz.prog).any (Tryz.prog.loopsFrom ·))) = true := by kernel_rfl
theorem fnExactAutomatonOf_k17 : ((Rows.fnExactAutomatonOfRow.wideKeys == (Tryz.f12.params.toList ++ Rows.fnExactAutomatonOfSpec.plain.varTypes Tryz.prog ++ Tryz.f12.resultTypes.toList).any (Tryz.prog.wideKeysFrom ·))) = true := by kernel_rfl
theorem fnExactAutomatonOf_k18 : (Rows.fnExactAutomatonOfSpec.vars.all (Tryz.prog.varReadable ·)) = true := by kernel_rfl
theorem fnExactAutomatonOf_k19 : (Tryz.f12.resultTypes.all (fun t => Tryz.prog.readableRec t && decide (t < Tryz.prog.types.size))) = true := by kernel_rfl
theorem fnExactAutomatonOf_k20 : ((Rows.fnExactAutomatonOfRow.ifacesOut == Tryz.f12.resultTypes.toList.any (Tryz.prog.ifacesRec ·))) = true := by kernel_rfl
theorem fnExactAutomatonOf_k21 : ((Rows.fnExactAutomatonOfRow.loopsOut == Tryz.f12.resultTypes.toList.any (Tryz.prog.loopsFrom ·))) = true := by kernel_rfl
theorem fnExactAutomatonOf_k22 : ((Rows.fnExactAutomatonOfRow.plainKeys == Tryz.prog.plainKeys)) = true := by kernel_rfl
theorem fnExactAutomatonOf_k23 : (Rows.fnExactAutomatonOfRow.shortTexts.isNone) = true := by kernel_rfl
theorem fnExactAutomatonOf_k24 : (Tryz.prog.stopsHeard) = true := by kernel_rfl
theorem fnExactAutomatonOf_k25 : (Tryz.prog.mayEnter) = true := by kernel_rfl
theorem fnExactAutomatonOf_k26 : ((Rows.fnExactAutomatonOfRow.lifted == Tryz.prog.liftsFinal)) = true := by kernel_rfl
theorem fnExactAutomatonOf_k27 : ((Tryz.prog.make == some Rows.fnExactAutomatonOfRow.make)) = true := by kernel_rfl
theorem fnExactAutomatonOf_k28 : ((Rows.fnExactAutomatonOfRow.kinds == (if Rows.fnExactAutomatonOfRow.domain.isEmpty then [] else Tryz.f12.params.toList.map fun t => match Tryz.prog.underlying t with | some (.int k) => some k | _ => none))) = true := by kernel_rfl
theorem fnExactAutomatonOf_k29 : ((Rows.fnExactAutomatonOfRow.pinned == Rows.fnExactAutomatonOfRow.pinnedBy)) = true := by kernel_rfl
theorem fnExactAutomatonOf_k30 : ((Rows.fnExactAutomatonOfRow.veiled == (Tryz.f12.params.toList ++ Rows.fnExactAutomatonOfSpec.plain.varTypes Tryz.prog ++ Tryz.f12.resultTypes.toList).any (Tryz.prog.veiledRec ·))) = true := by kernel_rfl
theorem fnExactAutomatonOf_k31 : (Rows.fnExactAutomatonOfRow.veiledFits Tryz.prog Tryz.f12.params.toList (Tryz.f12.params.toList ++ Rows.fnExactAutomatonOfSpec.plain.varTypes Tryz.prog ++ Tryz.f12.resultTypes.toList)) = true := by kernel_rfl
end Go.Proofs.YtjlmdhoajfdkbaaGreatDoor
