/-
  Automata: the law's helpers.
-/
import Derived.Test.YtahehcalmbmbpaaDoorNest
import Derived.Test.YtahehcalmbmbpaaDoorWord
import Derived.Test.YtahehcalmbmbpaaDoorMarkW
import Derived.Test.YtahehcalmbmbpaaDoorAps
namespace Go.Proofs.YtahehcalmbmbpaaDoor
open Go.ChangeShapes Go.WideShapes Go.ChangeAt Go.RowKit Go.Sort

theorem info_bool : (Tryd.prog.info? 4).map (fun i => (i.zero, i.size, i.bytes)) = some (some (.bool false), 1, 1) := by kernel_rfl
theorem info_bools : (Tryd.prog.info? 84).map (fun i => (i.zero, i.size, i.bytes)) = some (some (.slice none 0 0), 1, 24) := by kernel_rfl
theorem info_int64s : (Tryd.prog.info? 24).map (fun i => (i.zero, i.size, i.bytes)) = some (some (.slice none 0 0), 1, 24) := by kernel_rfl
theorem info_int64ss : (Tryd.prog.info? 85).map (fun i => (i.zero, i.size, i.bytes)) = some (some (.slice none 0 0), 1, 24) := by kernel_rfl

theorem szBoolS_any (zs : List Bool) (s : Option Addr) (cap : Nat) (left : Int) (w : World) (hr : Rd w (boolsD zs) (.slice s zs.length cap)) (h0 : 0 ≤ left) (h1 : left ≤ 1048576) :
    Calls Tryd.prog 70 #[.slice s zs.length cap, .int .i64 left] w fun e w' => SzR zs.length left e ∧ w = w' := by
  obtain ⟨hlen, hcap⟩ := nest_bd hr
  unfold maxLen at hcap
  by_cases hneg : left - (zs.length : Int) < 0
  · go_enter Tryd.func70, Tryd.ntmps70
    go_wp2_with fail
    go_ret
    exact ⟨⟨-1, rfl, by omega, by omega, by omega⟩, rfl⟩
  · have hd : decide (left - (zs.length : Int) < 0) = false := by simpa using hneg
    go_enter Tryd.func70, Tryd.ntmps70
    go_wp2_with fail
    go_ret
    exact ⟨⟨_, rfl, by omega, by omega, by omega⟩, rfl⟩
theorem szInt64S_r (zs : List Int) (s : Option Addr) (cap : Nat) (left : Int) (w : World) (hr : Rd w (nestD D.int zs) (.slice s zs.length cap)) (h0 : 0 ≤ left) (h1 : left ≤ 1048576) :
    Calls Tryd.prog 28 #[.slice s zs.length cap, .int .i64 left] w fun e w' => SzR zs.length left e ∧ w = w' := szInt64S_any zs s cap left w hr h0 h1
theorem szBoolSS_any (xs : List (List Bool)) (s : Option Addr) (cap : Nat) (left : Int) (w : World) (hr : Rd w (bbD xs) (.slice s xs.length cap)) (h0 : 0 ≤ left) (h1 : left ≤ 1048576) :
    Calls Tryd.prog 42 #[.slice s xs.length cap, .int .i64 left] w fun e w' => SzR (xs.length + accL List.length xs) left e ∧ w = w' := by
  obtain ⟨hlen, hcap⟩ := nest_bd hr
  unfold maxLen at hcap
  by_cases hneg : left - (xs.length : Int) < 0
  · go_enter Tryd.func42, Tryd.ntmps42
    go_wp2_with fail
    go_ret
    exact ⟨⟨-1, rfl, by omega, by omega, by omega⟩, rfl⟩
  · have hd : decide (left - (xs.length : Int) < 0) = false := by simpa using hneg
    go_enter Tryd.func42, Tryd.ntmps42
    go_wp2_with fail
    go_loop [1, 5] (fun l i => ∃ (k : Nat) (r : Int), k ≤ xs.length ∧ i = .int .i64 k ∧ l = .int .i64 r ∧ 0 ≤ r ∧ (xs.length : Int) + (accL List.length (xs.take k) : Int) + r ≤ left ∧ r ≤ left) (fun _ i => xs.length - (intOf i).toNat)
    case atStart => exact ⟨0, _, by omega, rfl, rfl, by omega, by simp [accL]; omega, by omega⟩
    case round =>
      obtain ⟨k, r, hk, rfl, rfl, hr0, hr1, hr2⟩ := hrel
      by_cases hlt : k < xs.length
      · obtain ⟨x, hx⟩ : ∃ e, xs[k]? = some e := ⟨_, List.getElem?_eq_getElem hlt⟩
        obtain ⟨b, o, rfl⟩ := nest_some hr (by omega)
        obtain ⟨hbl, s', c', g0, gr⟩ := nest_sl (g := D.bool) hr hx
        have Htk := Lib.hid (accL_take_succ (c := List.length) hx)
        go_wp2_with fail
        refine (szBoolS_any x s' c' r _ gr hr0 (by omega)).mono ?_
        rintro e1 w1 ⟨⟨r', rfl, r1, r2, r3⟩, rfl⟩
        by_cases hr' : r' < 0
        · go_wp2_with fail
          go_ret
          exact ⟨⟨-1, rfl, by omega, by omega, by omega⟩, rfl⟩
        · have hd' : decide (r' < 0) = false := by simpa using hr'
          have r4 := r3 (by omega)
          clear r3
          go_wp2_with fail
          go_round
          case rel =>
            have := Htk.out
            have hc : List.length x = x.length := rfl
            exact ⟨k + 1, r', by omega, by go_num, rfl, by omega, by omega, by omega⟩
          case measure => simp [intOf]; omega
      · obtain rfl : k = xs.length := by omega
        have H := Lib.hid (show accL List.length (xs.take xs.length) = accL List.length xs by rw [List.take_length])
        go_wp2_with fail
        go_ret
        have := H.out
        exact ⟨⟨r, rfl, by omega, by omega, by omega⟩, rfl⟩
theorem szInt64SS_any (xs : List (List Int)) (s : Option Addr) (cap : Nat) (left : Int) (w : World) (hr : Rd w (iiD xs) (.slice s xs.length cap)) (h0 : 0 ≤ left) (h1 : left ≤ 1048576) :
    Calls Tryd.prog 71 #[.slice s xs.length cap, .int .i64 left] w fun e w' => SzR (xs.length + accL List.length xs) left e ∧ w = w' := by
  obtain ⟨hlen, hcap⟩ := nest_bd hr
  unfold maxLen at hcap
  by_cases hneg : left - (xs.length : Int) < 0
  · go_enter Tryd.func71, Tryd.ntmps71
    go_wp2_with fail
    go_ret
    exact ⟨⟨-1, rfl, by omega, by omega, by omega⟩, rfl⟩
  · have hd : decide (left - (xs.length : Int) < 0) = false := by simpa using hneg
    go_enter Tryd.func71, Tryd.ntmps71
    go_wp2_with fail
    go_loop [1, 5] (fun l i => ∃ (k : Nat) (r : Int), k ≤ xs.length ∧ i = .int .i64 k ∧ l = .int .i64 r ∧ 0 ≤ r ∧ (xs.length : Int) + (accL List.length (xs.take k) : Int) + r ≤ left ∧ r ≤ left) (fun _ i => xs.length - (intOf i).toNat)
    case atStart => exact ⟨0, _, by omega, rfl, rfl, by omega, by simp [accL]; omega, by omega⟩
    case round =>
      obtain ⟨k, r, hk, rfl, rfl, hr0, hr1, hr2⟩ := hrel
      by_cases hlt : k < xs.length
      · obtain ⟨x, hx⟩ : ∃ e, xs[k]? = some e := ⟨_, List.getElem?_eq_getElem hlt⟩
        obtain ⟨b, o, rfl⟩ := nest_some hr (by omega)
        obtain ⟨hbl, s', c', g0, gr⟩ := nest_sl (g := D.int) hr hx
        have Htk := Lib.hid (accL_take_succ (c := List.length) hx)
        go_wp2_with fail
        refine (szInt64S_r x s' c' r _ gr hr0 (by omega)).mono ?_
        rintro e1 w1 ⟨⟨r', rfl, r1, r2, r3⟩, rfl⟩
        by_cases hr' : r' < 0
        · go_wp2_with fail
          go_ret
          exact ⟨⟨-1, rfl, by omega, by omega, by omega⟩, rfl⟩
        · have hd' : decide (r' < 0) = false := by simpa using hr'
          have r4 := r3 (by omega)
          clear r3
          go_wp2_with fail
          go_round
          case rel =>
            have := Htk.out
            have hc : List.length x = x.length := rfl
            exact ⟨k + 1, r', by omega, by go_num, rfl, by omega, by omega, by omega⟩
          case measure => simp [intOf]; omega
      · obtain rfl : k = xs.length := by omega
        have H := Lib.hid (show accL List.length (xs.take xs.length) = accL List.length xs by rw [List.take_length])
        go_wp2_with fail
        go_ret
        have := H.out
        exact ⟨⟨r, rfl, by omega, by omega, by omega⟩, rfl⟩
def cntII (x : List (List Int)) : Nat := x.length + accL List.length x
theorem szInt64SSS_any (xs : List (List (List Int))) (s : Option Addr) (cap : Nat) (left : Int) (w : World) (hr : Rd w (iiiD xs) (.slice s xs.length cap)) (h0 : 0 ≤ left) (h1 : left ≤ 1048576) :
    Calls Tryd.prog 43 #[.slice s xs.length cap, .int .i64 left] w fun e w' => SzR (xs.length + accL cntII xs) left e ∧ w = w' := by
  obtain ⟨hlen, hcap⟩ := nest_bd hr
  unfold maxLen at hcap
  by_cases hneg : left - (xs.length : Int) < 0
  · go_enter Tryd.func43, Tryd.ntmps43
    go_wp2_with fail
    go_ret
    exact ⟨⟨-1, rfl, by omega, by omega, by omega⟩, rfl⟩
  · have hd : decide (left - (xs.length : Int) < 0) = false := by simpa using hneg
    go_enter Tryd.func43, Tryd.ntmps43
    go_wp2_with fail
    go_loop [1, 5] (fun l i => ∃ (k : Nat) (r : Int), k ≤ xs.length ∧ i = .int .i64 k ∧ l = .int .i64 r ∧ 0 ≤ r ∧ (xs.length : Int) + (accL cntII (xs.take k) : Int) + r ≤ left ∧ r ≤ left) (fun _ i => xs.length - (intOf i).toNat)
    case atStart => exact ⟨0, _, by omega, rfl, rfl, by omega, by simp [accL]; omega, by omega⟩
    case round =>
      obtain ⟨k, r, hk, rfl, rfl, hr0, hr1, hr2⟩ := hrel
      by_cases hlt : k < xs.length
      · obtain ⟨x, hx⟩ : ∃ e, xs[k]? = some e := ⟨_, List.getElem?_eq_getElem hlt⟩
        obtain ⟨b, o, rfl⟩ := nest_some hr (by omega)
        obtain ⟨hbl, s', c', g0, gr⟩ := nest_sl (g := intsD) hr hx
        have Htk := Lib.hid (accL_take_succ (c := cntII) hx)
        go_wp2_with fail
        refine (szInt64SS_any x s' c' r _ gr hr0 (by omega)).mono ?_
        rintro e1 w1 ⟨⟨r', rfl, r1, r2, r3⟩, rfl⟩
        by_cases hr' : r' < 0
        · go_wp2_with fail
          go_ret
          exact ⟨⟨-1, rfl, by omega, by omega, by omega⟩, rfl⟩
        · have hd' : decide (r' < 0) = false := by simpa using hr'
          have r4 := r3 (by omega)
          clear r3
          go_wp2_with fail
          go_round
          case rel =>
            have := Htk.out
            have hc : cntII x = x.length + accL List.length x := rfl
            exact ⟨k + 1, r', by omega, by go_num, rfl, by omega, by omega, by omega⟩
          case measure => simp [intOf]; omega
      · obtain rfl : k = xs.length := by omega
        have H := Lib.hid (show accL cntII (xs.take xs.length) = accL cntII xs by rw [List.take_length])
        go_wp2_with fail
        go_ret
        have := H.out
        exact ⟨⟨r, rfl, by omega, by omega, by omega⟩, rfl⟩

theorem toBoolS_any (zs : List Bool) (s : Option Addr) (cap : Nat) (w : World) (hr : Rd w (boolsD zs) (.slice s zs.length cap)) (h1 : zs.length ≤ 1048576) :
    Calls Tryd.prog 72 #[.slice s zs.length cap] w fun e w' => ∃ s' c', e = .returned (.slice s' zs.length c') ∧ Fresh w w' (boolsD zs) (.slice s' zs.length c') ∧ Below w.heap.size w w' := by
  obtain ⟨hlen, hcap⟩ := nest_bd hr
  unfold maxLen at hcap
  obtain ⟨i0, hi, hz0, hz1, hz2⟩ := info_parts info_bool
  go_enter Tryd.func72, Tryd.ntmps72
  go_wp2_with (at_make; refine wpList_make_full _ rfl _ _ 84 rfl w.heap.size 4 i0 (.bool false) 1 Tryd.underlying84 hi hz0 hz1 .i64 .i64 _ _ zs.length rfl rfl rfl rfl (by rw [hz2]; omega) (by unfold maxLen; omega) (Nat.le_refl _) ?_; intro w0 hown hgrow)
  have hp := Part.start hown
  have hB0 : Below w.heap.size w w0 := Below.grown (Below.refl _ _) hgrow (Nat.le_refl _) (by simp)
  have hz0' := hp.lt
  clear hown hgrow
  go_loopw [4] (fun i wr => ∃ k : Nat, k ≤ zs.length ∧ i = .int .i64 k ∧ Part wr w.heap.size 4 ((zs.take k).map D.bool) (zs.length * 1) ∧ Below w.heap.size w wr) (fun i _ => zs.length - (intOf i).toNat)
  case atStart => exact ⟨0, by omega, rfl, by simpa using hp, hB0⟩
  case round =>
    clear hp hB0 hz0'
    obtain ⟨k, hk, rfl, hp, hB⟩ := hrel
    by_cases hlt : k < zs.length
    · obtain ⟨z, hz⟩ : ∃ z, zs[k]? = some z := ⟨_, List.getElem?_eq_getElem hlt⟩
      obtain ⟨b, o, rfl⟩ := nest_some hr (by omega)
      obtain ⟨_, g0⟩ := bool_in (hr.below hB) hz
      obtain ⟨y0, d0⟩ := hp.cell k (by omega)
      have z0 := hp.frozen k
      have Hst := Lib.hid (hp.bool hz (by omega))
      have hlt2 := hp.lt
      go_wp2_with fail
      go_roundw
      case rel => exact ⟨k + 1, by omega, by go_num, Hst.out, by (repeat' (first | exact Below.refl _ _ | assumption | (refine Below.alloc ?_ (by first | omega | (simp; done) | (simp; omega)) _) | (refine Below.drew ?_) | (refine Below.setCell ?_ (by first | omega | (simp; done) | (simp; omega)) _)))⟩
      case measure => simp [intOf]; omega
    · obtain rfl : k = zs.length := by omega
      rw [List.take_length] at hp
      go_wp2_with fail
      go_ret
      exact ⟨_, _, rfl, hp.done (Nat.le_refl _) (by simp) (Nat.le_refl _) (by unfold maxLen; omega), hB⟩
theorem toBoolSS_any (xs : List (List Bool)) (s : Option Addr) (cap : Nat) (w : World) (hr : Rd w (bbD xs) (.slice s xs.length cap)) (h1 : xs.length + accL List.length xs ≤ 1048576) :
    Calls Tryd.prog 45 #[.slice s xs.length cap] w fun e w' => ∃ s' c', e = .returned (.slice s' xs.length c') ∧ Fresh w w' (bbD xs) (.slice s' xs.length c') ∧ Below w.heap.size w w' := by
  obtain ⟨hlen, hcap⟩ := nest_bd hr
  unfold maxLen at hcap
  obtain ⟨i0, hi, hz0, hz1, hz2⟩ := info_parts info_bools
  go_enter Tryd.func45, Tryd.ntmps45
  go_wp2_with (at_make; refine wpList_make_full _ rfl _ _ 46 rfl w.heap.size 84 i0 (.slice none 0 0) 1 Tryd.underlying46 hi hz0 hz1 .i64 .i64 _ _ xs.length rfl rfl rfl rfl (by rw [hz2]; omega) (by unfold maxLen; omega) (Nat.le_refl _) ?_; intro w0 hown hgrow)
  have hp := Part.start hown
  have hB0 : Below w.heap.size w w0 := Below.grown (Below.refl _ _) hgrow (Nat.le_refl _) (by simp)
  have hz0' := hp.lt
  clear hown hgrow
  go_loopw [4] (fun i wr => ∃ k : Nat, k ≤ xs.length ∧ i = .int .i64 k ∧ Part wr w.heap.size 84 ((xs.take k).map boolsD) (xs.length * 1) ∧ Below w.heap.size w wr) (fun i _ => xs.length - (intOf i).toNat)
  case atStart => exact ⟨0, by omega, rfl, by simpa using hp, hB0⟩
  case round =>
    clear hp hB0 hz0'
    obtain ⟨k, hk, rfl, hp, hB⟩ := hrel
    by_cases hlt : k < xs.length
    · obtain ⟨x, hx⟩ : ∃ z, xs[k]? = some z := ⟨_, List.getElem?_eq_getElem hlt⟩
      obtain ⟨b, o, rfl⟩ := nest_some hr (by omega)
      obtain ⟨_, s', c', g0, gr⟩ := nest_sl (g := D.bool) (hr.below hB) hx
      have hcx := accL_mem (c := List.length) hx
      go_wp2_with fail
      refine (toBoolS_any x s' c' _ gr (by have hc : List.length x = x.length := rfl; omega)).mono ?_
      rintro e w1 ⟨s2, c2, rfl, hf, hb⟩
      have hp1 := hp.below hb
      obtain ⟨y0, d0⟩ := hp1.cell k (by omega)
      have z0 := hp1.frozen k
      have Hst := Lib.hid (hp.nest hx hf hb (by omega))
      have hlt2 := hp1.lt
      have hB1 : Below w.heap.size w w1 := Below.on hB hb hB.size
      clear hp hf hb hcx g0
      go_wp2_with fail
      go_roundw
      case rel => exact ⟨k + 1, by omega, by go_num, Hst.out, by (repeat' (first | exact Below.refl _ _ | assumption | (refine Below.alloc ?_ (by first | omega | (simp; done) | (simp; omega)) _) | (refine Below.drew ?_) | (refine Below.setCell ?_ (by first | omega | (simp; done) | (simp; omega)) _)))⟩
      case measure => simp [intOf]; omega
    · obtain rfl : k = xs.length := by omega
      rw [List.take_length] at hp
      go_wp2_with fail
      go_ret
      exact ⟨_, _, rfl, hp.done (Nat.le_refl _) (by simp) (Nat.le_refl _) (by unfold maxLen; omega), hB⟩
theorem toInt64SS_any (xs : List (List Int)) (s : Option Addr) (cap : Nat) (w : World) (hr : Rd w (iiD xs) (.slice s xs.length cap)) (h1 : xs.length + accL List.length xs ≤ 1048576) :
    Calls Tryd.prog 73 #[.slice s xs.length cap] w fun e w' => ∃ s' c', e = .returned (.slice s' xs.length c') ∧ Fresh w w' (iiD xs) (.slice s' xs.length c') ∧ Below w.heap.size w w' := by
  obtain ⟨hlen, hcap⟩ := nest_bd hr
  unfold maxLen at hcap
  obtain ⟨i0, hi, hz0, hz1, hz2⟩ := info_parts info_int64s
  go_enter Tryd.func73, Tryd.ntmps73
  go_wp2_with (at_make; refine wpList_make_full _ rfl _ _ 85 rfl w.heap.size 24 i0 (.slice none 0 0) 1 Tryd.underlying85 hi hz0 hz1 .i64 .i64 _ _ xs.length rfl rfl rfl rfl (by rw [hz2]; omega) (by unfold maxLen; omega) (Nat.le_refl _) ?_; intro w0 hown hgrow)
  have hp := Part.start hown
  have hB0 : Below w.heap.size w w0 := Below.grown (Below.refl _ _) hgrow (Nat.le_refl _) (by simp)
  have hz0' := hp.lt
  clear hown hgrow
  go_loopw [4] (fun i wr => ∃ k : Nat, k ≤ xs.length ∧ i = .int .i64 k ∧ Part wr w.heap.size 24 ((xs.take k).map intsD) (xs.length * 1) ∧ Below w.heap.size w wr) (fun i _ => xs.length - (intOf i).toNat)
  case atStart => exact ⟨0, by omega, rfl, by simpa using hp, hB0⟩
  case round =>
    clear hp hB0 hz0'
    obtain ⟨k, hk, rfl, hp, hB⟩ := hrel
    by_cases hlt : k < xs.length
    · obtain ⟨x, hx⟩ : ∃ z, xs[k]? = some z := ⟨_, List.getElem?_eq_getElem hlt⟩
      obtain ⟨b, o, rfl⟩ := nest_some hr (by omega)
      obtain ⟨_, s', c', g0, gr⟩ := nest_sl (g := D.int) (hr.below hB) hx
      have hcx := accL_mem (c := List.length) hx
      go_wp2_with fail
      refine (toInt64S_any x s' c' _ gr (by have hc : List.length x = x.length := rfl; omega)).mono ?_
      rintro e w1 ⟨s2, c2, rfl, hf, hb⟩
      have hp1 := hp.below hb
      obtain ⟨y0, d0⟩ := hp1.cell k (by omega)
      have z0 := hp1.frozen k
      have Hst := Lib.hid (hp.nest hx hf hb (by omega))
      have hlt2 := hp1.lt
      have hB1 : Below w.heap.size w w1 := Below.on hB hb hB.size
      clear hp hf hb hcx g0
      go_wp2_with fail
      go_roundw
      case rel => exact ⟨k + 1, by omega, by go_num, Hst.out, by (repeat' (first | exact Below.refl _ _ | assumption | (refine Below.alloc ?_ (by first | omega | (simp; done) | (simp; omega)) _) | (refine Below.drew ?_) | (refine Below.setCell ?_ (by first | omega | (simp; done) | (simp; omega)) _)))⟩
      case measure => simp [intOf]; omega
    · obtain rfl : k = xs.length := by omega
      rw [List.take_length] at hp
      go_wp2_with fail
      go_ret
      exact ⟨_, _, rfl, hp.done (Nat.le_refl _) (by simp) (Nat.le_refl _) (by unfold maxLen; omega), hB⟩
theorem toInt64SSS_any (xs : List (List (List Int))) (s : Option Addr) (cap : Nat) (w : World) (hr : Rd w (iiiD xs) (.slice s xs.length cap)) (h1 : xs.length + accL cntII xs ≤ 1048576) :
    Calls Tryd.prog 46 #[.slice s xs.length cap] w fun e w' => ∃ s' c', e = .returned (.slice s' xs.length c') ∧ Fresh w w' (iiiD xs) (.slice s' xs.length c') ∧ Below w.heap.size w w' := by
  obtain ⟨hlen, hcap⟩ := nest_bd hr
  unfold maxLen at hcap
  obtain ⟨i0, hi, hz0, hz1, hz2⟩ := info_parts info_int64ss
  go_enter Tryd.func46, Tryd.ntmps46
  go_wp2_with (at_make; refine wpList_make_full _ rfl _ _ 47 rfl w.heap.size 85 i0 (.slice none 0 0) 1 Tryd.underlying47 hi hz0 hz1 .i64 .i64 _ _ xs.length rfl rfl rfl rfl (by rw [hz2]; omega) (by unfold maxLen; omega) (Nat.le_refl _) ?_; intro w0 hown hgrow)
  have hp := Part.start hown
  have hB0 : Below w.heap.size w w0 := Below.grown (Below.refl _ _) hgrow (Nat.le_refl _) (by simp)
  have hz0' := hp.lt
  clear hown hgrow
  go_loopw [4] (fun i wr => ∃ k : Nat, k ≤ xs.length ∧ i = .int .i64 k ∧ Part wr w.heap.size 85 ((xs.take k).map iiD) (xs.length * 1) ∧ Below w.heap.size w wr) (fun i _ => xs.length - (intOf i).toNat)
  case atStart => exact ⟨0, by omega, rfl, by simpa using hp, hB0⟩
  case round =>
    clear hp hB0 hz0'
    obtain ⟨k, hk, rfl, hp, hB⟩ := hrel
    by_cases hlt : k < xs.length
    · obtain ⟨x, hx⟩ : ∃ z, xs[k]? = some z := ⟨_, List.getElem?_eq_getElem hlt⟩
      obtain ⟨b, o, rfl⟩ := nest_some hr (by omega)
      obtain ⟨_, s', c', g0, gr⟩ := nest_sl (g := intsD) (hr.below hB) hx
      have hcx := accL_mem (c := cntII) hx
      go_wp2_with fail
      refine (toInt64SS_any x s' c' _ gr (by have hc : cntII x = x.length + accL List.length x := rfl; omega)).mono ?_
      rintro e w1 ⟨s2, c2, rfl, hf, hb⟩
      have hp1 := hp.below hb
      obtain ⟨y0, d0⟩ := hp1.cell k (by omega)
      have z0 := hp1.frozen k
      have Hst := Lib.hid (hp.nest hx hf hb (by omega))
      have hlt2 := hp1.lt
      have hB1 : Below w.heap.size w w1 := Below.on hB hb hB.size
      clear hp hf hb hcx g0
      go_wp2_with fail
      go_roundw
      case rel => exact ⟨k + 1, by omega, by go_num, Hst.out, by (repeat' (first | exact Below.refl _ _ | assumption | (refine Below.alloc ?_ (by first | omega | (simp; done) | (simp; omega)) _) | (refine Below.drew ?_) | (refine Below.setCell ?_ (by first | omega | (simp; done) | (simp; omega)) _)))⟩
      case measure => simp [intOf]; omega
    · obtain rfl : k = xs.length := by omega
      rw [List.take_length] at hp
      go_wp2_with fail
      go_ret
      exact ⟨_, _, rfl, hp.done (Nat.le_refl _) (by simp) (Nat.le_refl _) (by unfold maxLen; omega), hB⟩

end Go.Proofs.YtahehcalmbmbpaaDoor
