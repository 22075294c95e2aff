/-
  Lists of numbers anew: slices.Clone, spec.l00Own, spec.l01Back; impl.copyWord.
-/
import Derived.Test.YtjjcidfpjgmgcaaApp
import Derived.Test.YtjjcidfpjgmgcaaRg
import Derived.Test.YtjjcidfpjgmgcaaTrace
import Derived.Test.YtjjcidfpjgmgcaaMarkW
namespace Go.Proofs.Ytjjcidfpjgmgcaa
open Go.ChangeShapes Go.WideShapes Go.ChangeAt Go.RowKit Go.Sort


theorem own_ints {zs : List Int} {s : Option Addr} {c : Nat} {w : World} (hr : Rd w (intsD zs) (.slice s zs.length c)) (h1 : zs.length ≤ 1000000000) :
    Calls Try.prog 113 #[.slice s zs.length c] w fun e w' => ∃ s' c', e = .returned (.slice s' zs.length c') ∧ App w w' 2 1 zs.length (zs.map D.int) (.slice s' zs.length c') ∧ Below w.heap.size w w' := by
  have h0 := App.empty (W := w) (size := 1) (Blk.made w 2 #[]) (Nat.le_refl _)
  go_enter Try.func113, Try.ntmps113
  go_wp2_with (at_builtin; refine wpList_append_ints (W := w) _ rfl _ _ 24 rfl 2 Try.underlying24 info_int64 (zs := []) (ys := zs) _ rfl h0 (by simp) rfl (hr.alloc _) (by simp; omega) ?_; intro a' cap w1 happ hb1)
  have hB : Below w.heap.size w w1 := (Below.alloc (Below.refl _ _) (Nat.le_refl _) _).trans hb1
  simp only [List.nil_append] at happ ⊢
  go_wp2_with fail
  go_ret
  exact ⟨a', cap, rfl, happ, hB⟩

theorem drop_rev {zs : List Int} {j : Nat} {z : Int} (h : zs[j]? = some z) : (zs.drop j).reverse = (zs.drop (j + 1)).reverse ++ [z] := by
  obtain ⟨hj, rfl⟩ := List.getElem?_eq_some_iff.1 h
  rw [List.drop_eq_getElem_cons hj, List.reverse_cons]

end Go.Proofs.Ytjjcidfpjgmgcaa
