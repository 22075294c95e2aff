/-
  Closed facts of the program.
-/
import Derived.Test.YtlnojmmjpgpjdaaDoorProg
import Derived.Test.YtlnojmmjpgpjdaaDoorExpr
namespace Go.Proofs.YtlnojmmjpgpjdaaDoor
open Go.ChangeShapes Go.WideShapes Go.ChangeAt Go.RowKit

theorem own : ownKnob Tryd.prog.godebug = none := by kernel_rfl
theorem laid : laidOutB Tryd.prog = true := by kernel_rfl
theorem cells_int64 : Tryd.prog.cellsOf 2 = 1 := by kernel_rfl
theorem cells_Sig : Tryd.prog.cellsOf 23 = 2 := by kernel_rfl
theorem cells_laws_Expr : Tryd.prog.cellsOf 40 = 3 := by kernel_rfl
theorem cells_laws_Exprs : Tryd.prog.cellsOf 38 = 1 := by kernel_rfl
theorem cells_int64s : Tryd.prog.cellsOf 80 = 1 := by kernel_rfl
section
variable {H : Type} {enc : TypeId × Value → H} {W : World} {base : Nat} {sp : Nat → Bool} {hd : Bool} {v : Value} {d : DataW H} {ps : List MemPlace}

/-- A value that reads as a laws.Expr. -/
theorem open_lawsExpr (h : DataW.Trod enc Tryd.prog W base sp hd 40 v d ps) :
    ∃ k n ks s cap, v = .agg #[.int .i64 k, .int .i64 n, .slice s ks.length cap] ∧ Rd W (kidsD ks) (.slice s ks.length cap) := by
  obtain ⟨fuel, hf⟩ := h
  obtain ⟨e, hr⟩ := open_expr Tryd.underlying40 Tryd.underlying38 Tryd.underlying2 rfl rfl rfl rfl rfl rfl cells_int64 cells_laws_Exprs cells_laws_Expr fuel _ _ hf
  rw [Ex.cells_eq] at hr
  simp only [Rds, Rd] at hr
  obtain ⟨x0, r0, e0, rfl, x1, r1, rfl, rfl, x2, r2, rfl, hx2, rfl⟩ := hr
  obtain ⟨s, cap, rfl, _⟩ := Rd.slice hx2
  exact ⟨_, _, e.kids, s, cap, cells_three e0, hx2⟩

set_option maxRecDepth 100000 in
/-- A value that reads as a laws.Sig. -/
theorem open_lawsSig (h : DataW.Trod enc Tryd.prog W base sp hd 23 v d ps) : ∃ t a, v = .agg #[.int .i64 t, .int .i64 a] := by
  obtain ⟨fuel, hf⟩ := h
  obtain ⟨y0, y1, n, _, hl, g0, g1⟩ := trod_struct2 Tryd.underlying23 hf
  rw [cells_Sig] at hl
  generalize hcs : v.cells.toList = cs at *
  match cs, hl with
  | [v0, v1], _ =>
    simp [cells_int64] at g0 g1
    obtain ⟨a, e0, _⟩ := DataW.trod_int Tryd.underlying2 g0
    obtain ⟨b, e1, _⟩ := DataW.trod_int Tryd.underlying2 g1
    simp only [List.cons.injEq, and_true] at e0 e1
    subst e0 e1
    exact ⟨a, b, cells_two hcs⟩

end
end Go.Proofs.YtlnojmmjpgpjdaaDoor
