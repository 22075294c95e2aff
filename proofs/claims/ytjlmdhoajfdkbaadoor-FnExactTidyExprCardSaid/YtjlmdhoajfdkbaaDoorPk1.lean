/-
  Parts of a proof, joined: KTidyExpr. No condition.
-/
import Derived.Test.YtjlmdhoajfdkbaaDoorRows
import Derived.JoinedOf
import Derived.WalkKit
namespace Go.Proofs.YtjlmdhoajfdkbaaDoor
set_option linter.unusedVariables false
set_option linter.unusedSimpArgs false
open Go Go.ChangeShapes Go.WideShapes Go.RowKit
theorem band {a b : Bool} (h : a = true) (k : b = true) : (a && b) = true := by rw [h, k]; rfl
theorem fnExactTidyExpr_k0 : (Rows.fnExactTidyExprRow.wf (OpenSpec.ofChange Rows.fnExactTidyExprSpec)) = true := by kernel_rfl
theorem fnExactTidyExpr_k1 : (laidOutB Tryd.prog) = true := by kernel_rfl
theorem fnExactTidyExpr_k2 : (mapsRowed Tryd.prog) = true := by kernel_rfl
theorem fnExactTidyExpr_k3 : (Tryd.f3.params.all (Tryd.prog.readableRec ·)) = true := by kernel_rfl
theorem fnExactTidyExpr_k4 : (namedTie Tryd.prog Rows.fnExactTidyExprRow.named Rows.fnExactTidyExprSpec.vars) = true := by kernel_rfl
theorem fnExactTidyExpr_k5 : ((Rows.fnExactTidyExprRow.stops == [])) = true := by kernel_rfl
theorem fnExactTidyExpr_k6 : ((Tryd.prog.stops == [])) = true := by kernel_rfl
theorem fnExactTidyExpr_k7 : ((Rows.fnExactTidyExprRow.knobs == [])) = true := by kernel_rfl
theorem fnExactTidyExpr_k8 : ((Tryd.prog.stopKnobs == [])) = true := by kernel_rfl
theorem fnExactTidyExpr_k9 : ((Rows.fnExactTidyExprRow.inPlace == Tryd.prog.inPlace 3)) = true := by kernel_rfl
theorem fnExactTidyExpr_k10 : ((Rows.fnExactTidyExprRow.unfollowed == Tryd.prog.unfollowed 3)) = true := by kernel_rfl
theorem fnExactTidyExpr_k11 : ((Rows.fnExactTidyExprRow.recurses == Tryd.prog.recurses 3)) = true := by kernel_rfl
theorem fnExactTidyExpr_k12 : ((Rows.fnExactTidyExprRow.named == Tryd.prog.varsNamed 3)) = true := by kernel_rfl
theorem fnExactTidyExpr_k13 : ((Rows.fnExactTidyExprRow.maps == (Tryd.f3.params.toList ++ Rows.fnExactTidyExprSpec.plain.varTypes Tryd.prog).any (Tryd.prog.mapsRec ·))) = true := by kernel_rfl
theorem fnExactTidyExpr_k14 : ((Rows.fnExactTidyExprRow.ifaces == (Tryd.f3.params.toList ++ Rows.fnExactTidyExprSpec.plain.varTypes Tryd.prog).any (Tryd.prog.ifacesRec ·))) = true := by kernel_rfl
theorem fnExactTidyExpr_k15 : ((Rows.fnExactTidyExprRow.mapsOut == Tryd.prog.mapsAmong Tryd.f3.resultTypes.toList)) = true := by kernel_rfl
theorem fnExactTidyExpr_k16 : ((Rows.fnExactTidyExprRow.loops == (Tryd.f3.params.toList ++ Rows.fnExactTidyExprSpec.plain.varTypes Tryd.prog).any (Tryd.prog.loopsFrom ·))) = true := by kernel_rfl
theorem fnExactTidyExpr_k17 : ((Rows.fnExactTidyExprRow.wideKeys == (Tryd.f3.params.toList ++ Rows.fnExactTidyExprSpec.plain.varTypes Tryd.prog ++ Tryd.f3.resultTypes.toList).any (Tryd.prog.wideKeysFrom ·))) = true := by kernel_rfl
theorem fnExactTidyExpr_k18 : (Rows.fnExactTidyExprSpec.vars.all (Tryd.prog.varReadable ·)) = true := by kernel_rfl
theorem fnExactTidyExpr_k19 : (Tryd.f3.resultTypes.all (fun t => Tryd.prog.readableRec t && decide (t < Tryd.prog.types.size))) = true := by kernel_rfl
theorem fnExactTidyExpr_k20 : ((Rows.fnExactTidyExprRow.ifacesOut == Tryd.f3.resultTypes.toList.any (Tryd.prog.ifacesRec ·))) = true := by kernel_rfl
theorem fnExactTidyExpr_k21 : ((Rows.fnExactTidyExprRow.loopsOut == Tryd.f3.resultTypes.toList.any (Tryd.prog.loopsFrom ·))) = true := by kernel_rfl
theorem fnExactTidyExpr_k22 : ((Rows.fnExactTidyExprRow.plainKeys == Tryd.prog.plainKeys)) = true := by kernel_rfl
theorem fnExactTidyExpr_k23 : (Rows.fnExactTidyExprRow.shortTexts.isNone) = true := by kernel_rfl
theorem fnExactTidyExpr_k24 : (Tryd.prog.stopsHeard) = true := by kernel_rfl
theorem fnExactTidyExpr_k25 : (Tryd.prog.mayEnter) = true := by kernel_rfl
theorem fnExactTidyExpr_k26 : ((Rows.fnExactTidyExprRow.lifted == Tryd.prog.liftsFinal)) = true := by kernel_rfl
theorem fnExactTidyExpr_k27 : ((Tryd.prog.make == some Rows.fnExactTidyExprRow.make)) = true := by kernel_rfl
theorem fnExactTidyExpr_k28 : ((Rows.fnExactTidyExprRow.kinds == (if Rows.fnExactTidyExprRow.domain.isEmpty then [] else Tryd.f3.params.toList.map fun t => match Tryd.prog.underlying t with | some (.int k) => some k | _ => none))) = true := by kernel_rfl
theorem fnExactTidyExpr_k29 : ((Rows.fnExactTidyExprRow.pinned == Rows.fnExactTidyExprRow.pinnedBy)) = true := by kernel_rfl
theorem fnExactTidyExpr_k30 : ((Rows.fnExactTidyExprRow.veiled == (Tryd.f3.params.toList ++ Rows.fnExactTidyExprSpec.plain.varTypes Tryd.prog ++ Tryd.f3.resultTypes.toList).any (Tryd.prog.veiledRec ·))) = true := by kernel_rfl
theorem fnExactTidyExpr_k31 : (Rows.fnExactTidyExprRow.veiledFits Tryd.prog Tryd.f3.params.toList (Tryd.f3.params.toList ++ Rows.fnExactTidyExprSpec.plain.varTypes Tryd.prog ++ Tryd.f3.resultTypes.toList)) = true := by kernel_rfl
end Go.Proofs.YtjlmdhoajfdkbaaDoor
