/-
  Parts of a proof, joined: KIsEmptyExpr. No condition.
-/
import Derived.Test.YtjlmdhoajfdkbaaGreatDoorRows
import Derived.JoinedOf
import Derived.WalkKit
namespace Go.Proofs.YtjlmdhoajfdkbaaGreatDoor
set_option linter.unusedVariables false
set_option linter.unusedSimpArgs false
open Go Go.ChangeShapes Go.WideShapes Go.RowKit
theorem band {a b : Bool} (h : a = true) (k : b = true) : (a && b) = true := by rw [h, k]; rfl
theorem fnExactIsEmptyExpr_k0 : (Rows.fnExactIsEmptyExprRow.wf (OpenSpec.ofChange Rows.fnExactIsEmptyExprSpec)) = true := by kernel_rfl
theorem fnExactIsEmptyExpr_k1 : (laidOutB Tryz.prog) = true := by kernel_rfl
theorem fnExactIsEmptyExpr_k2 : (mapsRowed Tryz.prog) = true := by kernel_rfl
theorem fnExactIsEmptyExpr_k3 : (Tryz.f8.params.all (Tryz.prog.readableRec ·)) = true := by kernel_rfl
theorem fnExactIsEmptyExpr_k4 : (namedTie Tryz.prog Rows.fnExactIsEmptyExprRow.named Rows.fnExactIsEmptyExprSpec.vars) = true := by kernel_rfl
theorem fnExactIsEmptyExpr_k5 : ((Rows.fnExactIsEmptyExprRow.stops == [])) = true := by kernel_rfl
theorem fnExactIsEmptyExpr_k6 : ((Tryz.prog.stops == [])) = true := by kernel_rfl
theorem fnExactIsEmptyExpr_k7 : ((Rows.fnExactIsEmptyExprRow.knobs == [])) = true := by kernel_rfl
theorem fnExactIsEmptyExpr_k8 : ((Tryz.prog.stopKnobs == [])) = true := by kernel_rfl
theorem fnExactIsEmptyExpr_k9 : ((Rows.fnExactIsEmptyExprRow.inPlace == Tryz.prog.inPlace 8)) = true := by kernel_rfl
theorem fnExactIsEmptyExpr_k10 : ((Rows.fnExactIsEmptyExprRow.unfollowed == Tryz.prog.unfollowed 8)) = true := by kernel_rfl
theorem fnExactIsEmptyExpr_k11 : ((Rows.fnExactIsEmptyExprRow.recurses == Tryz.prog.recurses 8)) = true := by kernel_rfl
theorem fnExactIsEmptyExpr_k12 : ((Rows.fnExactIsEmptyExprRow.named == Tryz.prog.varsNamed 8)) = true := by kernel_rfl
theorem fnExactIsEmptyExpr_k13 : ((Rows.fnExactIsEmptyExprRow.maps == (Tryz.f8.params.toList ++ Rows.fnExactIsEmptyExprSpec.plain.varTypes Tryz.prog).any (Tryz.prog.mapsRec ·))) = true := by kernel_rfl
theorem fnExactIsEmptyExpr_k14 : ((Rows.fnExactIsEmptyExprRow.ifaces == (Tryz.f8.params.toList ++ Rows.fnExactIsEmptyExprSpec.plain.varTypes Tryz.prog).any (Tryz.prog.ifacesRec ·))) = true := by kernel_rfl
theorem fnExactIsEmptyExpr_k15 : ((Rows.fnExactIsEmptyExprRow.mapsOut == Tryz.prog.mapsAmong Tryz.f8.resultTypes.toList)) = true := by kernel_rfl
theorem fnExactIsEmptyExpr_k16 : ((Rows.fnExactIsEmptyExprRow.loops == (Tryz.f8.params.toList ++ Rows.fnExactIsEmptyExprSpec.plain.varTypes Tryz.prog).any (Tryz.prog.loopsFrom ·))) = true := by kernel_rfl
theorem fnExactIsEmptyExpr_k17 : ((Rows.fnExactIsEmptyExprRow.wideKeys == (Tryz.f8.params.toList ++ Rows.fnExactIsEmptyExprSpec.plain.varTypes Tryz.prog ++ Tryz.f8.resultTypes.toList).any (Tryz.prog.wideKeysFrom ·))) = true := by kernel_rfl
theorem fnExactIsEmptyExpr_k18 : (Rows.fnExactIsEmptyExprSpec.vars.all (Tryz.prog.varReadable ·)) = true := by kernel_rfl
theorem fnExactIsEmptyExpr_k19 : (Tryz.f8.resultTypes.all (fun t => Tryz.prog.readableRec t && decide (t < Tryz.prog.types.size))) = true := by kernel_rfl
theorem fnExactIsEmptyExpr_k20 : ((Rows.fnExactIsEmptyExprRow.ifacesOut == Tryz.f8.resultTypes.toList.any (Tryz.prog.ifacesRec ·))) = true := by kernel_rfl
theorem fnExactIsEmptyExpr_k21 : ((Rows.fnExactIsEmptyExprRow.loopsOut == Tryz.f8.resultTypes.toList.any (Tryz.prog.loopsFrom ·))) = true := by kernel_rfl
theorem fnExactIsEmptyExpr_k22 : ((Rows.fnExactIsEmptyExprRow.plainKeys == Tryz.prog.plainKeys)) = true := by kernel_rfl
theorem fnExactIsEmptyExpr_k23 : (Rows.fnExactIsEmptyExprRow.shortTexts.isNone) = true := by kernel_rfl
theorem fnExactIsEmptyExpr_k24 : (Tryz.prog.stopsHeard) = true := by kernel_rfl
theorem fnExactIsEmptyExpr_k25 : (Tryz.prog.mayEnter) = true := by kernel_rfl
theorem fnExactIsEmptyExpr_k26 : ((Rows.fnExactIsEmptyExprRow.lifted == Tryz.prog.liftsFinal)) = true := by kernel_rfl
theorem fnExactIsEmptyExpr_k27 : ((Tryz.prog.make == some Rows.fnExactIsEmptyExprRow.make)) = true := by kernel_rfl
theorem fnExactIsEmptyExpr_k28 : ((Rows.fnExactIsEmptyExprRow.kinds == (if Rows.fnExactIsEmptyExprRow.domain.isEmpty then [] else Tryz.f8.params.toList.map fun t => match Tryz.prog.underlying t with | some (.int k) => some k | _ => none))) = true := by kernel_rfl
theorem fnExactIsEmptyExpr_k29 : ((Rows.fnExactIsEmptyExprRow.pinned == Rows.fnExactIsEmptyExprRow.pinnedBy)) = true := by kernel_rfl
theorem fnExactIsEmptyExpr_k30 : ((Rows.fnExactIsEmptyExprRow.veiled == (Tryz.f8.params.toList ++ Rows.fnExactIsEmptyExprSpec.plain.varTypes Tryz.prog ++ Tryz.f8.resultTypes.toList).any (Tryz.prog.veiledRec ·))) = true := by kernel_rfl
theorem fnExactIsEmptyExpr_k31 : (Rows.fnExactIsEmptyExprRow.veiledFits Tryz.prog Tryz.f8.params.toList (Tryz.f8.params.toList ++ Rows.fnExactIsEmptyExprSpec.plain.varTypes Tryz.prog ++ Tryz.f8.resultTypes.toList)) = true := by kernel_rfl
end Go.Proofs.YtjlmdhoajfdkbaaGreatDoor
