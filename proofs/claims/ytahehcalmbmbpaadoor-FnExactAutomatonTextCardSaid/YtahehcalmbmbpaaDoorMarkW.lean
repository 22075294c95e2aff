/-
  markInt64S, heldInt64S, markWord, heldWord.
-/
import Derived.Test.YtahehcalmbmbpaaDoorMark
import Derived.Test.YtahehcalmbmbpaaDoorTrace
namespace Go.Proofs.YtahehcalmbmbpaaDoor
open Go.ChangeShapes Go.WideShapes Go.ChangeAt Go.RowKit Go.Sort

theorem Ows.two {w : World} {d e : D} {u v : Value} {F : List Nat} (h : Ows w [d, e] [u, v] F) : ∃ G K, F = G ++ K ∧ Ow w d u G ∧ Ow w e v K := by
  simp only [Ows] at h
  obtain ⟨x, r, G, K, e1, rfl, h1, y, q, A, B, e2, rfl, h2, e3, rfl⟩ := h
  simp only [List.cons.injEq] at e1
  obtain ⟨rfl, rfl⟩ := e1
  simp only [List.cons.injEq] at e2
  obtain ⟨rfl, _⟩ := e2
  exact ⟨G, A, by simp, h1, h2⟩
theorem Ows.mk2 {w : World} {d e : D} {u v : Value} {G K : List Nat} (h : Ow w d u G) (k : Ow w e v K) : Ows w [d, e] [u, v] (G ++ K) := by
  have := Ows.cons h (Ows.cons k Ows.nil)
  simpa using this
/-- Two lists of numbers, as the fields of a word. -/
def wordD (xs ys : List Int) : List D := [intsD xs, intsD ys]

end Go.Proofs.YtahehcalmbmbpaaDoor
