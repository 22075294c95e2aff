/-
  Lists of numbers: the law's helpers toInt64S, szInt64S, eqInt64S; spec.l00Same; slices.Equal.
-/
import Derived.Test.YtlnojmmjpgpjdaaDoorOwn
namespace Go.Proofs.YtlnojmmjpgpjdaaDoor
open Go.ChangeShapes Go.WideShapes Go.ChangeAt Go.RowKit

theorem info_int64 : (Tryd.prog.info? 2).map (fun i => (i.zero, i.size, i.bytes)) = some (some (.int .i64 0), 1, 8) := by kernel_rfl

theorem szInt64S_any (zs : List Int) (s : Option Addr) (cap : Nat) (left : Int) (w : World) (hr : Rd w (intsD zs) (.slice s zs.length cap)) (h0 : 0 ≤ left) (h1 : left ≤ 1048576) :
    Calls Tryd.prog 77 #[.slice s zs.length cap, .int .i64 left] w fun e w' => (∃ r : Int, e = .returned (.int .i64 r) ∧ r ≤ left ∧ -1 ≤ r ∧ (0 ≤ r → (zs.length : Int) + r ≤ left)) ∧ w = w' := by
  obtain ⟨-, hlen, hcap, -⟩ := hr.sl_at
  unfold maxLen at hcap
  by_cases hneg : left - (zs.length : Int) < 0
  · go_enter Tryd.func77, Tryd.ntmps77
    go_wp2_with fail
    go_ret
    exact ⟨⟨-1, rfl, by omega, by omega, by omega⟩, rfl⟩
  · have hd : decide (left - (zs.length : Int) < 0) = false := by simpa using hneg
    go_enter Tryd.func77, Tryd.ntmps77
    go_wp2_with fail
    go_ret
    exact ⟨⟨_, rfl, by omega, by omega, by omega⟩, rfl⟩

theorem toInt64S_any (zs : List Int) (s : Option Addr) (cap : Nat) (w : World) (hr : Rd w (intsD zs) (.slice s zs.length cap)) (h1 : zs.length ≤ 1048576) :
    Calls Tryd.prog 80 #[.slice s zs.length cap] w fun e w' => ∃ s' c', e = .returned (.slice s' zs.length c') ∧ Fresh w w' (intsD zs) (.slice s' zs.length c') ∧ Below w.heap.size w w' := by
  obtain ⟨-, hlen, hcap, -⟩ := hr.sl_at
  unfold maxLen at hcap
  obtain ⟨i0, hi, hz0, hz1, hz2⟩ := info_parts info_int64
  go_enter Tryd.func80, Tryd.ntmps80
  go_wp2_with (at_make; refine wpList_make_full _ rfl _ _ 80 rfl w.heap.size 2 i0 (.int .i64 0) 1 Tryd.underlying80 hi hz0 hz1 .i64 .i64 _ _ zs.length rfl rfl rfl rfl (by rw [hz2]; omega) (by unfold maxLen; omega) (Nat.le_refl _) ?_; intro w0 hown hgrow)
  have hp := Part.start hown
  have hB0 : Below w.heap.size w w0 := Below.grown (Below.refl _ _) hgrow (Nat.le_refl _) (by simp)
  have hz0' := hp.lt
  clear hown hgrow
  go_loopw [4] (fun i wr => ∃ k : Nat, k ≤ zs.length ∧ i = .int .i64 k ∧ Part wr w.heap.size 2 ((zs.take k).map D.int) (zs.length * 1) ∧ Below w.heap.size w wr) (fun i _ => zs.length - (intOf i).toNat)
  case atStart => exact ⟨0, by omega, rfl, by simpa using hp, hB0⟩
  case round =>
    clear hp hB0 hz0'
    obtain ⟨k, hk, rfl, hp, hB⟩ := hrel
    by_cases hlt : k < zs.length
    · obtain ⟨z, hz⟩ : ∃ z, zs[k]? = some z := ⟨_, List.getElem?_eq_getElem hlt⟩
      obtain ⟨b, o, rfl⟩ := int_some hr (by omega)
      obtain ⟨_, g0⟩ := int_in (hr.below hB) hz
      obtain ⟨y0, d0⟩ := hp.cell k (by omega)
      have z0 := hp.frozen k
      have Hst := Lib.hid (hp.int hz (by omega))
      have hlt2 := hp.lt
      go_wp2_with fail
      go_roundw
      case rel => exact ⟨k + 1, by omega, by go_num, Hst.out, by (repeat' (first | exact Below.refl _ _ | assumption | (refine Below.alloc ?_ (by first | omega | (simp; done) | (simp; omega)) _) | (refine Below.drew ?_) | (refine Below.setCell ?_ (by first | omega | (simp; done) | (simp; omega)) _)))⟩
      case measure => simp [intOf]; omega
    · obtain rfl : k = zs.length := by omega
      rw [List.take_length] at hp
      go_wp2_with fail
      go_ret
      exact ⟨_, _, rfl, hp.done (Nat.le_refl _) (by simp) (Nat.le_refl _) (by unfold maxLen; omega), hB⟩

theorem eqInt64S_any (xs ys : List Int) (s t : Option Addr) (c d : Nat) (w : World) (hr : Rd w (intsD xs) (.slice s xs.length c)) (hr' : Rd w (intsD ys) (.slice t ys.length d)) :
    Calls Tryd.prog 85 #[.slice s xs.length c, .slice t ys.length d] w fun e w' => e = .returned (.bool (eqb xs ys)) ∧ Below w.heap.size w w' := by
  obtain ⟨-, hlen, hcap, -⟩ := hr.sl_at
  obtain ⟨-, hlen', hcap', -⟩ := hr'.sl_at
  unfold maxLen at hcap hcap'
  by_cases hl : xs.length = ys.length
  · have b1 : ((xs.length : Int) != (ys.length : Int)) = false := by simp [hl]
    have Hl := Lib.hid hl
    clear hl
    go_enter Tryd.func85, Tryd.ntmps85
    go_wp2_with fail
    go_loopw [5] (fun i wr => ∃ k : Nat, k ≤ xs.length ∧ i = .int .i64 k ∧ xs.take k = ys.take k ∧ Below w.heap.size w wr) (fun i _ => xs.length - (intOf i).toNat)
    case atStart => exact ⟨0, by omega, rfl, by simp, Below.refl _ _⟩
    case round =>
      obtain ⟨k, hk, rfl, hpre, hB⟩ := hrel
      have Hpre := Lib.hid hpre
      clear hpre
      by_cases hlt : k < xs.length
      · have hlt' : k < ys.length := by have := Hl.out; omega
        obtain ⟨x, hx⟩ : ∃ e, xs[k]? = some e := ⟨_, List.getElem?_eq_getElem hlt⟩
        obtain ⟨y, hy⟩ : ∃ e, ys[k]? = some e := ⟨_, List.getElem?_eq_getElem hlt'⟩
        obtain ⟨b, o, rfl⟩ := int_some hr (by omega)
        obtain ⟨b', o', rfl⟩ := int_some hr' (by omega)
        obtain ⟨-, g0⟩ := int_in (hr.below hB) hx
        obtain ⟨-, g1⟩ := int_in (hr'.below hB) hy
        have ha := Int.natCast_nonneg k
        have hb : (k : Int) < (xs.length : Int) := by omega
        have hb' : (k : Int) < (ys.length : Int) := by omega
        by_cases hxy : x = y
        · have Hst : Hid (xs.take (k + 1) = ys.take (k + 1)) := by
            have h1 := (List.getElem?_eq_some_iff.1 hx).2
            have h2 := (List.getElem?_eq_some_iff.1 hy).2
            show _ = _
            rw [List.take_succ_eq_append_getElem hlt, List.take_succ_eq_append_getElem hlt', Hpre.out, h1, h2, hxy]
          subst hxy
          have b2 : (x != x) = false := by simp
          go_wp2_with fail
          go_quiet (fail)
          go_wp2_with fail
          go_roundw
          case rel => exact ⟨k + 1, by omega, by go_num, Hst.out, hB.trans (below_draws _ _ _)⟩
          case measure => simp [intOf]; omega
        · have b2 : (x != y) = true := by simp [hxy]
          have c2 : eqb xs ys = false := eqb_false (by
            intro h
            rw [h] at hx
            exact hxy (Option.some.inj (hx.symm.trans hy)))
          go_wp2_with fail
          go_quiet (fail)
          go_wp2_with fail
          go_ret
          exact ⟨by first | rfl | (rw [c2]; rfl), hB.trans (below_draws _ _ _)⟩
      · obtain rfl : k = xs.length := by omega
        have c2 : eqb xs ys = true := eqb_true (by
          have := Hpre.out
          rwa [List.take_length, Hl.out, List.take_length] at this)
        go_wp2_with fail
        go_ret
        exact ⟨by first | rfl | (rw [c2]; rfl), hB⟩
  · have b1 : ((xs.length : Int) != (ys.length : Int)) = true := by simp; omega
    have c2 : eqb xs ys = false := eqb_false (by intro h; rw [h] at hl; exact hl rfl)
    rw [c2]
    go_enter Tryd.func85, Tryd.ntmps85
    go_wp2_with fail
    go_ret
    exact ⟨rfl, Below.refl _ _⟩

end Go.Proofs.YtlnojmmjpgpjdaaDoor
