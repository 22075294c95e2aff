/-
  Words anew and backwards: impl.copyWord, slices.Reverse, ReverseWord of both.
-/
import Derived.Test.YtjjcidfpjgmgcaaClone
import Derived.Test.YtjjcidfpjgmgcaaSwap
namespace Go.Proofs.Ytjjcidfpjgmgcaa
open Go.ChangeShapes Go.WideShapes Go.ChangeAt Go.RowKit Go.Sort

theorem fresh_nil2 (w w' : World) : Freshs w w' (wordD [] []) [.slice none 0 0, .slice none 0 0] := by
  have h : Ow w' (intsD []) (.slice none 0 0) [] := by
    simp only [intsD, Ow]
    exact ⟨none, 0, rfl, by simp, by simp [maxLen], by simp, by simp, Or.inl (by simp)⟩
  exact ⟨_, Ows.mk2 h h, by simp, by simp⟩

/-- A word backwards. -/
def revX (t a : Int) (xs ys : List Int) : List Int := if wordB t a xs ys = true then xs.reverse else []
def revY (t a : Int) (xs ys : List Int) : List Int := if wordB t a xs ys = true then ys.reverse else []
theorem revX_len (t a : Int) (xs ys : List Int) : (revX t a xs ys).length ≤ xs.length := by unfold revX; split <;> simp
theorem revY_len (t a : Int) (xs ys : List Int) : (revY t a xs ys).length ≤ ys.length := by unfold revY; split <;> simp
def revC (t a : Int) (xs ys : List Int) : Int := if wordB t a xs ys = true then 0 else 1

end Go.Proofs.Ytjjcidfpjgmgcaa
