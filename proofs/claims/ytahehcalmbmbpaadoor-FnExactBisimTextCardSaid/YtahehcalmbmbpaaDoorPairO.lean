/-
  A value that reads as a list of pairs of expressions.
-/
import Derived.Test.YtahehcalmbmbpaaDoorPair
namespace Go.Proofs.YtahehcalmbmbpaaDoor
open Go.ChangeShapes Go.WideShapes Go.ChangeAt Go.RowKit

theorem cells_laws_Pair : Tryd.prog.cellsOf 94 = 6 := by kernel_rfl
theorem rows_pairs : ∀ rows : List (List D), (∀ r ∈ rows, ∃ p : Ex × Ex, r = p.1.cells ++ p.2.cells) → ∃ ps : List (Ex × Ex), rows.length = ps.length ∧ rows.flatten = Ex.cellsL (flatP ps)
  | [], _ => ⟨[], rfl, rfl⟩
  | r :: rs, h => by
    obtain ⟨p, rfl⟩ := h r (List.mem_cons_self ..)
    obtain ⟨ps, h1, h2⟩ := rows_pairs rs fun x hx => h x (List.mem_cons_of_mem _ hx)
    exact ⟨p :: ps, by simp [h1], by simp [flatP, Ex.cellsL, h2]⟩
set_option maxRecDepth 10000
section
variable {H : Type} {enc : TypeId × Value → H} {W : World} {base : Nat} {sp : Nat → Bool} {hd : Bool} {v : Value} {d : DataW H} {ps : List MemPlace}
theorem open_lawsPairS {r : Reach} {b0 : Nat} (hval : Value.okWide Tryd.prog W r b0 57 v) (h : DataW.Trod enc Tryd.prog W base sp hd 57 v d ps) :
    ∃ qs s cap, v = .slice s (List.length qs) cap ∧ Rd W (prD qs) (.slice s qs.length cap) := by
  obtain ⟨a, len, cap, rfl⟩ := okWide_slice Tryd.underlying57 hval
  obtain ⟨fuel, hf⟩ := h
  obtain ⟨v', rows, e2, hrows, hr⟩ := open_sl (size := 6) (Q := fun r => ∃ p : Ex × Ex, r = p.1.cells ++ p.2.cells) Tryd.underlying57 cells_laws_Pair (by omega) (fun m _ cs x hx => by
    obtain ⟨y0, y1, n, _, hl, g0, g1⟩ := trod_struct2 Tryd.underlying94 hx
    rw [cells_laws_Pair] at hl
    match cs, hl with
    | [v0, v1, v2, v3, v4, v5], _ =>
      simp [cells_laws_Expr] at g0 g1
      obtain ⟨e, h0⟩ := open_expr Tryd.underlying37 Tryd.underlying35 Tryd.underlying2 rfl rfl rfl rfl rfl rfl cells_int64 cells_laws_Exprs cells_laws_Expr _ _ _ g0
      obtain ⟨f, h1⟩ := open_expr Tryd.underlying37 Tryd.underlying35 Tryd.underlying2 rfl rfl rfl rfl rfl rfl cells_int64 cells_laws_Exprs cells_laws_Expr _ _ _ g1
      exact ⟨e.cells ++ f.cells, ⟨(e, f), rfl⟩, by simp [Ex.cells_length], Rds.append h0 h1⟩) hf
  have e3 : v' = .slice a len cap := by simpa [Value.cells] using e2.symm
  subst e3
  obtain ⟨qs, k1, k2⟩ := rows_pairs rows hrows
  rw [k1, k2] at hr
  obtain ⟨rfl, _⟩ := hr.sl_at
  exact ⟨qs, a, cap, rfl, hr⟩
end
end Go.Proofs.YtahehcalmbmbpaaDoor
