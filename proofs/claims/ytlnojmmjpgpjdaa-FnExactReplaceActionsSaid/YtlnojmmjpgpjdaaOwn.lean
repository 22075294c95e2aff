/-
  Closed facts of the program.
-/
import Derived.Test.YtlnojmmjpgpjdaaProg
import Derived.Test.YtlnojmmjpgpjdaaExpr
namespace Go.Proofs.Ytlnojmmjpgpjdaa
open Go.ChangeShapes Go.WideShapes Go.ChangeAt Go.RowKit

theorem own : ownKnob Try.prog.godebug = none := by kernel_rfl
theorem laid : laidOutB Try.prog = true := by kernel_rfl
theorem cells_int64 : Try.prog.cellsOf 2 = 1 := by kernel_rfl
theorem cells_Sig : Try.prog.cellsOf 23 = 2 := by kernel_rfl
theorem cells_laws_Expr : Try.prog.cellsOf 42 = 3 := by kernel_rfl
theorem cells_laws_Exprs : Try.prog.cellsOf 40 = 1 := by kernel_rfl
theorem cells_int64s : Try.prog.cellsOf 58 = 1 := by kernel_rfl
theorem cells_laws_Word : Try.prog.cellsOf 60 = 2 := by kernel_rfl

set_option maxRecDepth 10000
section
variable {H : Type} {enc : TypeId × Value → H} {W : World} {base : Nat} {sp : Nat → Bool} {hd : Bool} {v : Value} {d : DataW H} {ps : List MemPlace}

/-- A value that reads as a laws.Expr. -/
theorem open_lawsExpr (h : DataW.Trod enc Try.prog W base sp hd 42 v d ps) :
    ∃ k n ks s cap, v = .agg #[.int .i64 k, .int .i64 n, .slice s ks.length cap] ∧ Rd W (kidsD ks) (.slice s ks.length cap) := by
  obtain ⟨fuel, hf⟩ := h
  obtain ⟨e, hr⟩ := open_expr Try.underlying42 Try.underlying40 Try.underlying2 rfl rfl rfl rfl rfl rfl cells_int64 cells_laws_Exprs cells_laws_Expr fuel _ _ hf
  rw [Ex.cells_eq] at hr
  simp only [Rds, Rd] at hr
  obtain ⟨x0, r0, e0, rfl, x1, r1, rfl, rfl, x2, r2, rfl, hx2, rfl⟩ := hr
  obtain ⟨s, cap, rfl, _⟩ := Rd.slice hx2
  exact ⟨_, _, e.kids, s, cap, cells_three e0, hx2⟩

/-- A value that reads as a laws.Sig. -/
theorem open_lawsSig (h : DataW.Trod enc Try.prog W base sp hd 23 v d ps) : ∃ t a, v = .agg #[.int .i64 t, .int .i64 a] := by
  obtain ⟨fuel, hf⟩ := h
  obtain ⟨y0, y1, n, _, hl, g0, g1⟩ := trod_struct2 Try.underlying23 hf
  rw [cells_Sig] at hl
  generalize hcs : v.cells.toList = cs at *
  match cs, hl with
  | [v0, v1], _ =>
    simp [cells_int64] at g0 g1
    obtain ⟨a, e0, _⟩ := DataW.trod_int Try.underlying2 g0
    obtain ⟨b, e1, _⟩ := DataW.trod_int Try.underlying2 g1
    simp only [List.cons.injEq, and_true] at e0 e1
    subst e0 e1
    exact ⟨a, b, cells_two hcs⟩

/-- A value that reads as a laws.Word. -/
theorem open_lawsWord (h : DataW.Trod enc Try.prog W base sp hd 60 v d ps) :
    ∃ xs ys s c t d, v = .agg #[.slice s xs.length c, .slice t ys.length d] ∧ Rd W (intsD xs) (.slice s xs.length c) ∧ Rd W (intsD ys) (.slice t ys.length d) := by
  obtain ⟨fuel, hf⟩ := h
  obtain ⟨y0, y1, n, _, hl, g0, g1⟩ := trod_struct2 Try.underlying60 hf
  rw [cells_laws_Word] at hl
  generalize hcs : v.cells.toList = cs at *
  match cs, hl with
  | [v0, v1], _ =>
    simp [cells_int64s] at g0 g1
    obtain ⟨u0, xs, e0, r0⟩ := open_ints64 Try.underlying58 Try.underlying2 cells_int64 g0
    obtain ⟨u1, ys, e1, r1⟩ := open_ints64 Try.underlying58 Try.underlying2 cells_int64 g1
    simp only [List.cons.injEq, and_true] at e0 e1
    subst e0 e1
    obtain ⟨s, c, rfl, _⟩ := Rd.slice r0
    obtain ⟨t, d, rfl, _⟩ := Rd.slice r1
    exact ⟨xs, ys, s, c, t, d, cells_two hcs, r0, r1⟩
end
end Go.Proofs.Ytlnojmmjpgpjdaa
