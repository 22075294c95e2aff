/-
  The word of length 0: l02Empty, emptyAt, EmptyAt of both.
-/
import Derived.Test.YtlnojmmjpgpjdaaDoorTruth
namespace Go.Proofs.YtlnojmmjpgpjdaaDoor
open Go.ChangeShapes Go.WideShapes Go.ChangeAt Go.RowKit Go.Sort

theorem kind_cases {k : Int} {n : Nat} (h : kidsN k = (n : Int)) : k = 1 ∨ k = 2 ∨ k = 3 ∨ k = 4 ∨ k = 5 ∨ k = 6 ∨ k = 7 ∨ k = 8 := by
  by_cases hk : k = 1 ∨ k = 2 ∨ k = 3 ∨ k = 4 ∨ k = 5 ∨ k = 6 ∨ k = 7 ∨ k = 8
  · exact hk
  · exfalso
    unfold kidsN at h
    rw [if_neg (by omega), if_neg (by omega), if_neg (by omega)] at h
    omega

theorem kidsN_none {k : Int} {ks : List Ex} (h : kidsN k = (ks.length : Int)) (hk : k = 1 ∨ k = 2 ∨ k = 3 ∨ k = 4) : ks = [] := by
  unfold kidsN at h; rw [if_pos hk] at h; exact List.eq_nil_of_length_eq_zero (by omega)
def empR (t a k n : Int) (ks : List Ex) (x : Int) : Bool := okB t a (.mk k n ks) && (atomB t x && Ex.emp x (.mk k n ks))
def empK (t a k n : Int) (ks : List Ex) (x : Int) : Int := if okB t a (.mk k n ks) = true then (if atomB t x = true then 0 else 2) else 1

end Go.Proofs.YtlnojmmjpgpjdaaDoor
