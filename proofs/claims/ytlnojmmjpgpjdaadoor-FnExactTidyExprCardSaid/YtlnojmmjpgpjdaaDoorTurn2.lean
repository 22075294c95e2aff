/-
  l01Turn, ReverseExpr of both.
-/
import Derived.Test.YtlnojmmjpgpjdaaDoorTurn
namespace Go.Proofs.YtlnojmmjpgpjdaaDoor
open Go.ChangeShapes Go.WideShapes Go.ChangeAt Go.RowKit Go.Deep Go.Sort

theorem rev_at7 {e x : Ex} {k j : Nat} (h7 : e.kind = 7) (h2 : e.kids.length = 2) (hk : k < e.kids.length) (hj : 1 - k = j) (hx : e.kids[j]? = some x) : e.rev.kids[k]? = some x.rev := by
  rw [Ex.rev_kids, if_pos h7, List.getElem?_reverse (by rw [Ex.revL_length]; exact hk), Ex.revL_length, show e.kids.length - 1 - k = j by omega]
  exact Ex.revL_at hx
theorem rev_at {e x : Ex} {k : Nat} (h7 : ¬ e.kind = 7) (hx : e.kids[k]? = some x) : e.rev.kids[k]? = some x.rev := by
  rw [Ex.rev_kids, if_neg h7]
  exact Ex.revL_at hx
end Go.Proofs.YtlnojmmjpgpjdaaDoor
