/-
  Parts of a proof, joined: KAtMost. No condition.
-/
import Derived.Test.YtjlmdhoajfdkbaaGreatDoorRows
import Derived.JoinedOf
import Derived.WalkKit
namespace Go.Proofs.YtjlmdhoajfdkbaaGreatDoor
set_option linter.unusedVariables false
set_option linter.unusedSimpArgs false
open Go Go.ChangeShapes Go.WideShapes Go.RowKit
theorem band {a b : Bool} (h : a = true) (k : b = true) : (a && b) = true := by rw [h, k]; rfl
theorem fnExactAtMost_k0 : (Rows.fnExactAtMostRow.wf (OpenSpec.ofChange Rows.fnExactAtMostSpec)) = true := by kernel_rfl
theorem fnExactAtMost_k1 : (laidOutB Tryz.prog) = true := by kernel_rfl
theorem fnExactAtMost_k2 : (mapsRowed Tryz.prog) = true := by kernel_rfl
theorem fnExactAtMost_k3 : (Tryz.f9.params.all (Tryz.prog.readableRec ·)) = true := by kernel_rfl
theorem fnExactAtMost_k4 : (namedTie Tryz.prog Rows.fnExactAtMostRow.named Rows.fnExactAtMostSpec.vars) = true := by kernel_rfl
theorem fnExactAtMost_k5 : ((Rows.fnExactAtMostRow.stops == [])) = true := by kernel_rfl
theorem fnExactAtMost_k6 : ((Tryz.prog.stops == [])) = true := by kernel_rfl
theorem fnExactAtMost_k7 : ((Rows.fnExactAtMostRow.knobs == [])) = true := by kernel_rfl
theorem fnExactAtMost_k8 : ((Tryz.prog.stopKnobs == [])) = true := by kernel_rfl
theorem fnExactAtMost_k9 : ((Rows.fnExactAtMostRow.inPlace == Tryz.prog.inPlace 9)) = true := by kernel_rfl
theorem fnExactAtMost_k10 : ((Rows.fnExactAtMostRow.unfollowed == Tryz.prog.unfollowed 9)) = true := by kernel_rfl
theorem fnExactAtMost_k11 : ((Rows.fnExactAtMostRow.recurses == Tryz.prog.recurses 9)) = true := by kernel_rfl
theorem fnExactAtMost_k12 : ((Rows.fnExactAtMostRow.named == Tryz.prog.varsNamed 9)) = true := by kernel_rfl
theorem fnExactAtMost_k13 : ((Rows.fnExactAtMostRow.maps == (Tryz.f9.params.toList ++ Rows.fnExactAtMostSpec.plain.varTypes Tryz.prog).any (Tryz.prog.mapsRec ·))) = true := by kernel_rfl
theorem fnExactAtMost_k14 : ((Rows.fnExactAtMostRow.ifaces == (Tryz.f9.params.toList ++ Rows.fnExactAtMostSpec.plain.varTypes Tryz.prog).any (Tryz.prog.ifacesRec ·))) = true := by kernel_rfl
theorem fnExactAtMost_k15 : ((Rows.fnExactAtMostRow.mapsOut == Tryz.prog.mapsAmong Tryz.f9.resultTypes.toList)) = true := by kernel_rfl
theorem fnExactAtMost_k16 : ((Rows.fnExactAtMostRow.loops == (Tryz.f9.params.toList ++ Rows.fnExactAtMostSpec.plain.varTypes Tryz.prog).any (Tryz.prog.loopsFrom ·))) = true := by kernel_rfl
theorem fnExactAtMost_k17 : ((Rows.fnExactAtMostRow.wideKeys == (Tryz.f9.params.toList ++ Rows.fnExactAtMostSpec.plain.varTypes Tryz.prog ++ Tryz.f9.resultTypes.toList).any (Tryz.prog.wideKeysFrom ·))) = true := by kernel_rfl
theorem fnExactAtMost_k18 : (Rows.fnExactAtMostSpec.vars.all (Tryz.prog.varReadable ·)) = true := by kernel_rfl
theorem fnExactAtMost_k19 : (Tryz.f9.resultTypes.all (fun t => Tryz.prog.readableRec t && decide (t < Tryz.prog.types.size))) = true := by kernel_rfl
theorem fnExactAtMost_k20 : ((Rows.fnExactAtMostRow.ifacesOut == Tryz.f9.resultTypes.toList.any (Tryz.prog.ifacesRec ·))) = true := by kernel_rfl
theorem fnExactAtMost_k21 : ((Rows.fnExactAtMostRow.loopsOut == Tryz.f9.resultTypes.toList.any (Tryz.prog.loopsFrom ·))) = true := by kernel_rfl
theorem fnExactAtMost_k22 : ((Rows.fnExactAtMostRow.plainKeys == Tryz.prog.plainKeys)) = true := by kernel_rfl
theorem fnExactAtMost_k23 : (Rows.fnExactAtMostRow.shortTexts.isNone) = true := by kernel_rfl
theorem fnExactAtMost_k24 : (Tryz.prog.stopsHeard) = true := by kernel_rfl
theorem fnExactAtMost_k25 : (Tryz.prog.mayEnter) = true := by kernel_rfl
theorem fnExactAtMost_k26 : ((Rows.fnExactAtMostRow.lifted == Tryz.prog.liftsFinal)) = true := by kernel_rfl
theorem fnExactAtMost_k27 : ((Tryz.prog.make == some Rows.fnExactAtMostRow.make)) = true := by kernel_rfl
theorem fnExactAtMost_k28 : ((Rows.fnExactAtMostRow.kinds == (if Rows.fnExactAtMostRow.domain.isEmpty then [] else Tryz.f9.params.toList.map fun t => match Tryz.prog.underlying t with | some (.int k) => some k | _ => none))) = true := by kernel_rfl
theorem fnExactAtMost_k29 : ((Rows.fnExactAtMostRow.pinned == Rows.fnExactAtMostRow.pinnedBy)) = true := by kernel_rfl
theorem fnExactAtMost_k30 : ((Rows.fnExactAtMostRow.veiled == (Tryz.f9.params.toList ++ Rows.fnExactAtMostSpec.plain.varTypes Tryz.prog ++ Tryz.f9.resultTypes.toList).any (Tryz.prog.veiledRec ·))) = true := by kernel_rfl
theorem fnExactAtMost_k31 : (Rows.fnExactAtMostRow.veiledFits Tryz.prog Tryz.f9.params.toList (Tryz.f9.params.toList ++ Rows.fnExactAtMostSpec.plain.varTypes Tryz.prog ++ Tryz.f9.resultTypes.toList)) = true := by kernel_rfl
end Go.Proofs.YtjlmdhoajfdkbaaGreatDoor
