/-
  Lists of numbers anew: slices.Clone, spec.l00Own, spec.l01Back; impl.copyWord.
-/
import Derived.Test.YtdkoeakpgfiadaaApp
import Derived.Test.YtdkoeakpgfiadaaRg
import Derived.Test.YtdkoeakpgfiadaaTrace
import Derived.Test.YtdkoeakpgfiadaaMarkW
namespace Go.Proofs.Ytdkoeakpgfiadaa
open Go.ChangeShapes Go.WideShapes Go.ChangeAt Go.RowKit Go.Sort


theorem clone_ints {zs : List Int} {s : Option Addr} {c : Nat} {w : World} (hr : Rd w (intsD zs) (.slice s zs.length c)) (h1 : zs.length ≤ 1000000000) :
    Calls Try.prog 71 #[.slice s zs.length c] w fun e w' => ∃ s' c', e = .returned (.slice s' zs.length c') ∧ Fresh w w' (intsD zs) (.slice s' zs.length c') ∧ Below w.heap.size w w' := by
  cases s with
  | none =>
    obtain ⟨_, hlen, _, _, hc, _⟩ := hr.sl_at
    obtain rfl : c = 0 := hc rfl
    have h0 : zs.length = 0 := by omega
    obtain rfl : zs = [] := List.eq_nil_of_length_eq_zero h0
    have hn := eql_nil 42 _ none 0 0 (Try.underlying42)
    go_enter Try.func71, Try.ntmps71
    go_wp2_with fail
    go_ret
    exact ⟨none, 0, rfl, (App.nil (W := w) (w := w) (t := 0) (size := 1)).fresh, Below.refl _ _⟩
  | some p =>
    have h0 := App.empty (W := w) (size := 1) (Blk.made w 2 #[]) (Nat.le_refl _)
    have hn := eql_nil 42 _ (some p) zs.length c (Try.underlying42)
    go_enter Try.func71, Try.ntmps71
    go_wp2_with (at_builtin; refine wpList_append_ints (W := w) _ rfl _ _ 42 rfl 2 Try.underlying42 info_int64 (zs := []) (ys := zs) _ rfl h0 (by simp) rfl (hr.alloc _) (by simp; omega) ?_; intro a' cap w1 happ hb1)
    have hB : Below w.heap.size w w1 := (Below.alloc (Below.refl _ _) (Nat.le_refl _) _).trans hb1
    simp only [List.nil_append] at happ ⊢
    go_wp2_with fail
    go_ret
    exact ⟨a', cap, rfl, happ.fresh, hB⟩

theorem own_ints {zs : List Int} {s : Option Addr} {c : Nat} {w : World} (hr : Rd w (intsD zs) (.slice s zs.length c)) (h1 : zs.length ≤ 1000000000) :
    Calls Try.prog 72 #[.slice s zs.length c] w fun e w' => ∃ s' c', e = .returned (.slice s' zs.length c') ∧ App w w' 2 1 zs.length (zs.map D.int) (.slice s' zs.length c') ∧ Below w.heap.size w w' := by
  have h0 := App.empty (W := w) (size := 1) (Blk.made w 2 #[]) (Nat.le_refl _)
  go_enter Try.func72, Try.ntmps72
  go_wp2_with (at_builtin; refine wpList_append_ints (W := w) _ rfl _ _ 42 rfl 2 Try.underlying42 info_int64 (zs := []) (ys := zs) _ rfl h0 (by simp) rfl (hr.alloc _) (by simp; omega) ?_; intro a' cap w1 happ hb1)
  have hB : Below w.heap.size w w1 := (Below.alloc (Below.refl _ _) (Nat.le_refl _) _).trans hb1
  simp only [List.nil_append] at happ ⊢
  go_wp2_with fail
  go_ret
  exact ⟨a', cap, rfl, happ, hB⟩

theorem drop_rev {zs : List Int} {j : Nat} {z : Int} (h : zs[j]? = some z) : (zs.drop j).reverse = (zs.drop (j + 1)).reverse ++ [z] := by
  obtain ⟨hj, rfl⟩ := List.getElem?_eq_some_iff.1 h
  rw [List.drop_eq_getElem_cons hj, List.reverse_cons]

theorem l01Back_i {zs : List Int} {s : Option Addr} {c : Nat} {w : World} (hr : Rd w (intsD zs) (.slice s zs.length c)) (h1 : zs.length ≤ 1000000000) :
    Calls Try.prog 60 #[.slice s zs.length c] w fun e w' => ∃ s' c', e = .returned (.slice s' zs.length c') ∧ Fresh w w' (intsD zs.reverse) (.slice s' zs.length c') ∧ Below w.heap.size w w' := by
  have h0 := App.empty (W := w) (size := 1) (Blk.made w 2 #[]) (Nat.le_refl _)
  go_enter Try.func60, Try.ntmps60
  go_wp2_with fail
  go_loopw [3, 4] (fun v i wr => ∃ j : Nat, j ≤ zs.length ∧ i = .int .i64 ((j : Int) - 1) ∧ App w wr 2 1 (zs.length - j) ((zs.drop j).reverse.map D.int) v ∧ Below w.heap.size w wr) (fun _ i _ => (intOf i + 1).toNat)
  case atStart => exact ⟨zs.length, by omega, rfl, by simpa using h0, by (repeat' (first | exact Below.refl _ _ | assumption | (refine Below.alloc ?_ (by first | omega | (simp; done) | (simp; omega)) _) | (refine Below.drew ?_) | (refine Below.setCell ?_ (by first | omega | (simp; done) | (simp; omega)) _)))⟩
  case round =>
    obtain ⟨j, hj, rfl, happ, hB⟩ := hrel
    have hzB := hB.size
    cases j with
    | zero =>
      obtain ⟨a', cap, rfl, _⟩ := happ.shape
      go_wp2_with fail
      go_ret
      refine ⟨a', cap, rfl, ?_, hB⟩
      have := happ.fresh
      simpa [intsD] using this
    | succ j =>
      have e : ((j + 1 : Nat) : Int) - 1 = (j : Int) := by omega
      rw [e]
      obtain ⟨z, hz⟩ : ∃ e, zs[j]? = some e := ⟨_, List.getElem?_eq_getElem (by omega)⟩
      obtain ⟨b, o, rfl⟩ := int_some hr (by omega)
      obtain ⟨-, g0⟩ := int_in (hr.below hB) hz
      have Hst : Hid ((zs.drop j).reverse = (zs.drop (j + 1)).reverse ++ [z]) := drop_rev hz
      go_wp2_with (at_builtin; refine wpList_append_app _ rfl _ _ 42 rfl 2 (.int .i64 0) 1 8 Try.underlying42 info_int64 rfl (by decide) _ rfl happ (Below.alloc (Below.refl _ _) (Nat.le_refl _) _) hzB ⟨wr.heap.size, 0, none⟩ 1 1 [.int .i64 z] rfl (one_news (Blk.new1 _ _ _).c0) (Freshs.int z) rfl (by simp [Value.oneCell']) (by omega) (by omega) (by unfold maxLen; omega) ?_; intro g cap w1 happ1 hb1)
      have hB1 : Below w.heap.size w w1 := (hB.alloc hzB _).trans hb1
      have Hn : Hid (zs.length - (j + 1) + 1 = zs.length - j) := by show _ = _; omega
      go_wp2_with fail
      go_roundw
      case rel =>
        refine ⟨j, by omega, by go_num, ?_, hB1⟩
        have := happ1
        rw [Hst.out, List.map_append]
        rw [Hn.out] at this ⊢
        exact this
      case measure => simp [intOf]
end Go.Proofs.Ytdkoeakpgfiadaa
