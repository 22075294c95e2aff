/-
  Parts of a proof, joined: KCountWords. No condition.
-/
import Derived.Test.YtjlmdhoajfdkbaaGreatDoorRows
import Derived.JoinedOf
import Derived.WalkKit
namespace Go.Proofs.YtjlmdhoajfdkbaaGreatDoor
set_option linter.unusedVariables false
set_option linter.unusedSimpArgs false
open Go Go.ChangeShapes Go.WideShapes Go.RowKit
theorem band {a b : Bool} (h : a = true) (k : b = true) : (a && b) = true := by rw [h, k]; rfl
theorem fnExactCountWords_k0 : (Rows.fnExactCountWordsRow.wf (OpenSpec.ofChange Rows.fnExactCountWordsSpec)) = true := by kernel_rfl
theorem fnExactCountWords_k1 : (laidOutB Tryz.prog) = true := by kernel_rfl
theorem fnExactCountWords_k2 : (mapsRowed Tryz.prog) = true := by kernel_rfl
theorem fnExactCountWords_k3 : (Tryz.f7.params.all (Tryz.prog.readableRec ·)) = true := by kernel_rfl
theorem fnExactCountWords_k4 : (namedTie Tryz.prog Rows.fnExactCountWordsRow.named Rows.fnExactCountWordsSpec.vars) = true := by kernel_rfl
theorem fnExactCountWords_k5 : ((Rows.fnExactCountWordsRow.stops == [])) = true := by kernel_rfl
theorem fnExactCountWords_k6 : ((Tryz.prog.stops == [])) = true := by kernel_rfl
theorem fnExactCountWords_k7 : ((Rows.fnExactCountWordsRow.knobs == [])) = true := by kernel_rfl
theorem fnExactCountWords_k8 : ((Tryz.prog.stopKnobs == [])) = true := by kernel_rfl
theorem fnExactCountWords_k9 : ((Rows.fnExactCountWordsRow.inPlace == Tryz.prog.inPlace 7)) = true := by kernel_rfl
theorem fnExactCountWords_k10 : ((Rows.fnExactCountWordsRow.unfollowed == Tryz.prog.unfollowed 7)) = true := by kernel_rfl
theorem fnExactCountWords_k11 : ((Rows.fnExactCountWordsRow.recurses == Tryz.prog.recurses 7)) = true := by kernel_rfl
theorem fnExactCountWords_k12 : ((Rows.fnExactCountWordsRow.named == Tryz.prog.varsNamed 7)) = true := by kernel_rfl
theorem fnExactCountWords_k13 : ((Rows.fnExactCountWordsRow.maps == (Tryz.f7.params.toList ++ Rows.fnExactCountWordsSpec.plain.varTypes Tryz.prog).any (Tryz.prog.mapsRec ·))) = true := by kernel_rfl
theorem fnExactCountWords_k14 : ((Rows.fnExactCountWordsRow.ifaces == (Tryz.f7.params.toList ++ Rows.fnExactCountWordsSpec.plain.varTypes Tryz.prog).any (Tryz.prog.ifacesRec ·))) = true := by kernel_rfl
theorem fnExactCountWords_k15 : ((Rows.fnExactCountWordsRow.mapsOut == Tryz.prog.mapsAmong Tryz.f7.resultTypes.toList)) = true := by kernel_rfl
theorem fnExactCountWords_k16 : ((Rows.fnExactCountWordsRow.loops == (Tryz.f7.params.toList ++ Rows.fnExactCountWordsSpec.plain.varTypes Tryz.prog).any (Tryz.prog.loopsFrom ·))) = true := by kernel_rfl
theorem fnExactCountWords_k17 : ((Rows.fnExactCountWordsRow.wideKeys == (Tryz.f7.params.toList ++ Rows.fnExactCountWordsSpec.plain.varTypes Tryz.prog ++ Tryz.f7.resultTypes.toList).any (Tryz.prog.wideKeysFrom ·))) = true := by kernel_rfl
theorem fnExactCountWords_k18 : (Rows.fnExactCountWordsSpec.vars.all (Tryz.prog.varReadable ·)) = true := by kernel_rfl
theorem fnExactCountWords_k19 : (Tryz.f7.resultTypes.all (fun t => Tryz.prog.readableRec t && decide (t < Tryz.prog.types.size))) = true := by kernel_rfl
theorem fnExactCountWords_k20 : ((Rows.fnExactCountWordsRow.ifacesOut == Tryz.f7.resultTypes.toList.any (Tryz.prog.ifacesRec ·))) = true := by kernel_rfl
theorem fnExactCountWords_k21 : ((Rows.fnExactCountWordsRow.loopsOut == Tryz.f7.resultTypes.toList.any (Tryz.prog.loopsFrom ·))) = true := by kernel_rfl
theorem fnExactCountWords_k22 : ((Rows.fnExactCountWordsRow.plainKeys == Tryz.prog.plainKeys)) = true := by kernel_rfl
theorem fnExactCountWords_k23 : (Rows.fnExactCountWordsRow.shortTexts.isNone) = true := by kernel_rfl
theorem fnExactCountWords_k24 : (Tryz.prog.stopsHeard) = true := by kernel_rfl
theorem fnExactCountWords_k25 : (Tryz.prog.mayEnter) = true := by kernel_rfl
theorem fnExactCountWords_k26 : ((Rows.fnExactCountWordsRow.lifted == Tryz.prog.liftsFinal)) = true := by kernel_rfl
theorem fnExactCountWords_k27 : ((Tryz.prog.make == some Rows.fnExactCountWordsRow.make)) = true := by kernel_rfl
theorem fnExactCountWords_k28 : ((Rows.fnExactCountWordsRow.kinds == (if Rows.fnExactCountWordsRow.domain.isEmpty then [] else Tryz.f7.params.toList.map fun t => match Tryz.prog.underlying t with | some (.int k) => some k | _ => none))) = true := by kernel_rfl
theorem fnExactCountWords_k29 : ((Rows.fnExactCountWordsRow.pinned == Rows.fnExactCountWordsRow.pinnedBy)) = true := by kernel_rfl
theorem fnExactCountWords_k30 : ((Rows.fnExactCountWordsRow.veiled == (Tryz.f7.params.toList ++ Rows.fnExactCountWordsSpec.plain.varTypes Tryz.prog ++ Tryz.f7.resultTypes.toList).any (Tryz.prog.veiledRec ·))) = true := by kernel_rfl
theorem fnExactCountWords_k31 : (Rows.fnExactCountWordsRow.veiledFits Tryz.prog Tryz.f7.params.toList (Tryz.f7.params.toList ++ Rows.fnExactCountWordsSpec.plain.varTypes Tryz.prog ++ Tryz.f7.resultTypes.toList)) = true := by kernel_rfl
end Go.Proofs.YtjlmdhoajfdkbaaGreatDoor
