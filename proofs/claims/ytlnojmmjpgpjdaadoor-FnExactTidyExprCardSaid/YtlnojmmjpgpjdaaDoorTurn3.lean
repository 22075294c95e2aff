/-
  ReverseExpr of both.
-/
import Derived.Test.YtlnojmmjpgpjdaaDoorTurn2
namespace Go.Proofs.YtlnojmmjpgpjdaaDoor
open Go.ChangeShapes Go.WideShapes Go.ChangeAt Go.RowKit Go.Deep Go.Sort

mutual
theorem Ex.rev_size : ∀ e : Ex, e.rev.size = e.size
  | .mk k n ks => by
    simp only [Ex.rev, Ex.size]
    split
    · rw [Ex.sizeL_reverse, Ex.revL_size ks]
    · rw [Ex.revL_size ks]
theorem Ex.revL_size : ∀ ks : List Ex, Ex.sizeL (Ex.revL ks) = Ex.sizeL ks
  | [] => rfl
  | e :: r => by simp only [Ex.revL, Ex.sizeL, Ex.rev_size e, Ex.revL_size r]
theorem Ex.sizeL_reverse : ∀ ks : List Ex, Ex.sizeL ks.reverse = Ex.sizeL ks
  | [] => rfl
  | e :: r => by simp only [List.reverse_cons, Ex.sizeL_append, Ex.sizeL_reverse r, Ex.sizeL]; omega
end
def Ex.zero : Ex := .mk 0 0 []
def revE (t a k n : Int) (ks : List Ex) : Ex := if okB t a (.mk k n ks) = true then Ex.rev (.mk k n ks) else Ex.zero
def revEK (t a k n : Int) (ks : List Ex) : Int := if okB t a (.mk k n ks) = true then 0 else 1
theorem revE_size (t a k n : Int) (ks : List Ex) : Ex.sizeL (revE t a k n ks).kids ≤ Ex.sizeL ks := by
  unfold revE
  split
  · have h1 := Ex.rev_size (.mk k n ks)
    have h2 := Ex.size_eq (Ex.rev (.mk k n ks))
    have h3 : (Ex.mk k n ks).size = 1 + Ex.sizeL ks := by simp only [Ex.size]
    omega
  · simp [Ex.zero, Ex.kids, Ex.sizeL]
theorem fresh_nil1 (w w' : World) : Freshs w w' [kidsD []] [.slice none 0 0] :=
  Freshs.one ⟨[], by simp only [kidsD, Ow]; exact ⟨none, 0, rfl, by simp, by simp [maxLen], by simp [Ex.cellsL], by simp, Or.inl (by simp)⟩, by simp, by simp⟩

end Go.Proofs.YtlnojmmjpgpjdaaDoor
