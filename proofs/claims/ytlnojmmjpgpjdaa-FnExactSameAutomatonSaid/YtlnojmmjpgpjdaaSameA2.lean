/-
  Automata that are the same: SameAutomaton of both.
-/
import Derived.Test.YtlnojmmjpgpjdaaSameA
namespace Go.Proofs.Ytlnojmmjpgpjdaa
open Go.ChangeShapes Go.WideShapes Go.ChangeAt Go.RowKit Go.Sort

noncomputable def sameA (t a t' a' : Int) (ac ac' : List (List Bool)) (nx nx' : List (List (List Int))) : Bool := (t == t' && a == a') && (eqb ac ac' && eqb nx nx')
theorem sameA_sig {t a t' a' : Int} {ac ac' : List (List Bool)} {nx nx' : List (List (List Int))} (h : ¬ (t = t' ∧ a = a')) : sameA t a t' a' ac ac' nx nx' = false := by
  unfold sameA
  by_cases h1 : t = t'
  · have h2 : ¬ a = a' := fun q => h ⟨h1, q⟩
    simp [h2]
  · simp [h1]
theorem sameA_ac {t a t' a' : Int} {ac ac' : List (List Bool)} {nx nx' : List (List (List Int))} (h : ac ≠ ac') : sameA t a t' a' ac ac' nx nx' = false := by simp [sameA, eqb_false h]
theorem sameA_nx {t a t' a' : Int} {ac ac' : List (List Bool)} {nx nx' : List (List (List Int))} (h : nx ≠ nx') : sameA t a t' a' ac ac' nx nx' = false := by simp [sameA, eqb_false h]
theorem sameA_yes {t a : Int} {ac ac' : List (List Bool)} {nx nx' : List (List (List Int))} (h : ac = ac') (h' : nx = nx') : sameA t a t a ac ac' nx nx' = true := by simp [sameA, eqb_true h, eqb_true h']
theorem ne_at {α : Type} {xs ys : List α} {k : Nat} {x y : α} (h1 : xs[k]? = some x) (h2 : ys[k]? = some y) (h : x ≠ y) : xs ≠ ys := fun e => h (Option.some.inj (h1.symm.trans (e ▸ h2)))
theorem eq_of_take {α : Type} {xs ys : List α} (hl : xs.length = ys.length) (h : xs.take xs.length = ys.take xs.length) : xs = ys := by rwa [List.take_length, hl, List.take_length] at h

set_option maxRecDepth 100000 in
set_option maxHeartbeats 16000000 in
theorem specSameAutomaton_i {t a t' a' : Int} {ac ac' : List (List Bool)} {nx nx' : List (List (List Int))} {s u s' u' : Option Addr} {c d c' d' : Nat} {w : World} (hr : Rd w (bbD ac) (.slice s ac.length c)) (hq : Rd w (iiiD nx) (.slice u nx.length d))
    (hr' : Rd w (bbD ac') (.slice s' ac'.length c')) (hq' : Rd w (iiiD nx') (.slice u' nx'.length d')) :
    Calls Try.prog 16 #[.agg #[.int .i64 t, .int .i64 a, .slice s ac.length c, .slice u nx.length d], .agg #[.int .i64 t', .int .i64 a', .slice s' ac'.length c', .slice u' nx'.length d']] w
      fun e w' => e = .returned (.bool (sameA t a t' a' ac ac' nx nx')) ∧ Below w.heap.size w w' := by
  obtain ⟨hlen1, hcap1⟩ := nest_bd hr
  obtain ⟨hlen2, hcap2⟩ := nest_bd hq
  obtain ⟨hlen3, hcap3⟩ := nest_bd hr'
  obtain ⟨hlen4, hcap4⟩ := nest_bd hq'
  unfold maxLen at hcap1 hcap2 hcap3 hcap4
  by_cases hsig : t = t' ∧ a = a'
  rotate_left
  · have C1 := Lib.hid (sameA_sig (ac := ac) (ac' := ac') (nx := nx) (nx' := nx') hsig)
    by_cases h1 : t = t'
    · have h2 : ¬ a = a' := fun q => hsig ⟨h1, q⟩
      have hs : (t == t' && a == a') = false := by simp [h2]
      clear hsig
      go_enter Try.func16, Try.ntmps16
      go_wp2_with fail
      go_ret
      exact ⟨ret_bool (by rw [C1.out]), by (repeat' (first | exact Below.refl _ _ | assumption | (refine Below.alloc ?_ (by first | omega | (simp; done) | (simp; omega)) _) | (refine Below.drew ?_) | (refine Below.setCell ?_ (by first | omega | (simp; done) | (simp; omega)) _)))⟩
    · have hs : (t == t' && a == a') = false := by simp [h1]
      clear hsig
      go_enter Try.func16, Try.ntmps16
      go_wp2_with fail
      go_ret
      exact ⟨ret_bool (by rw [C1.out]), by (repeat' (first | exact Below.refl _ _ | assumption | (refine Below.alloc ?_ (by first | omega | (simp; done) | (simp; omega)) _) | (refine Below.drew ?_) | (refine Below.setCell ?_ (by first | omega | (simp; done) | (simp; omega)) _)))⟩
  obtain ⟨rfl, rfl⟩ := hsig
  by_cases hl1 : ac.length = ac'.length
  rotate_left
  · have C1 := Lib.hid (sameA_ac (t := t) (a := a) (t' := t) (a' := a) (nx := nx) (nx' := nx') (fun e => hl1 (congrArg List.length e) : ac ≠ ac'))
    have bl : ((ac.length : Int) != (ac'.length : Int)) = true := by simp; omega
    go_enter Try.func16, Try.ntmps16
    go_wp2_with fail
    go_ret
    exact ⟨ret_bool (by rw [C1.out]), by (repeat' (first | exact Below.refl _ _ | assumption | (refine Below.alloc ?_ (by first | omega | (simp; done) | (simp; omega)) _) | (refine Below.drew ?_) | (refine Below.setCell ?_ (by first | omega | (simp; done) | (simp; omega)) _)))⟩
  by_cases hl2 : nx.length = nx'.length
  rotate_left
  · have C1 := Lib.hid (sameA_nx (t := t) (a := a) (t' := t) (a' := a) (ac := ac) (ac' := ac') (fun e => hl2 (congrArg List.length e) : nx ≠ nx'))
    have bl : ((ac.length : Int) != (ac'.length : Int)) = false := by simp; omega
    have bm : ((nx.length : Int) != (nx'.length : Int)) = true := by simp; omega
    go_enter Try.func16, Try.ntmps16
    go_wp2_with fail
    go_ret
    exact ⟨ret_bool (by rw [C1.out]), by (repeat' (first | exact Below.refl _ _ | assumption | (refine Below.alloc ?_ (by first | omega | (simp; done) | (simp; omega)) _) | (refine Below.drew ?_) | (refine Below.setCell ?_ (by first | omega | (simp; done) | (simp; omega)) _)))⟩
  have bl : ((ac.length : Int) != (ac'.length : Int)) = false := by simp; omega
  have bm : ((nx.length : Int) != (nx'.length : Int)) = false := by simp; omega
  have Hl1 := Lib.hid hl1
  have Hl2 := Lib.hid hl2
  clear hl1 hl2
  go_enter Try.func16, Try.ntmps16
  go_wp2_with fail
  have h := (AutAt.box (t := t) (a := a) hr hq 32).below (Below.alloc (Below.refl _ _) (Nat.le_refl _) (.cells #[.int .i64 t, .int .i64 a, .slice s' ac'.length c', .slice u' nx'.length d'] 32))
  have k := AutAt.box (t := t) (a := a) (hr'.alloc (.cells #[.int .i64 t, .int .i64 a, .slice s ac.length c, .slice u nx.length d] 32)) (hq'.alloc _) 32
  rw [show (w.alloc (.cells #[.int .i64 t, .int .i64 a, .slice s ac.length c, .slice u nx.length d] 32)).heap.size = w.heap.size + 1 by simp] at k
  have hB0 : Below w.heap.size w ((w.alloc (.cells #[.int .i64 t, .int .i64 a, .slice s ac.length c, .slice u nx.length d] 32)).alloc (.cells #[.int .i64 t, .int .i64 a, .slice s' ac'.length c', .slice u' nx'.length d'] 32)) := by (repeat' (first | exact Below.refl _ _ | assumption | (refine Below.alloc ?_ (by first | omega | (simp; done) | (simp; omega)) _) | (refine Below.drew ?_) | (refine Below.setCell ?_ (by first | omega | (simp; done) | (simp; omega)) _)))
  have hz : w.heap.size ≤ ((w.alloc (.cells #[.int .i64 t, .int .i64 a, .slice s ac.length c, .slice u nx.length d] 32)).alloc (.cells #[.int .i64 t, .int .i64 a, .slice s' ac'.length c', .slice u' nx'.length d'] 32)).heap.size := by simp <;> omega
  generalize ((w.alloc (.cells #[.int .i64 t, .int .i64 a, .slice s ac.length c, .slice u nx.length d] 32)).alloc (.cells #[.int .i64 t, .int .i64 a, .slice s' ac'.length c', .slice u' nx'.length d'] 32)) = w0 at h k hB0 hz ⊢
  have f2 := h.2.2.2.2.1
  have f3 := h.2.2.2.2.2
  have k2 := k.2.2.2.2.1
  have k3 := k.2.2.2.2.2
  have hbl := h.lt
  have hbk := k.lt
  have Hh := Lib.hid h
  have Hk := Lib.hid k
  have HB0 := Lib.hid hB0
  have HZ := Lib.hid hz
  have HB := Lib.hid (Below.refl w0.heap.size w0)
  clear hr hq hr' hq' hB0 hz h k
  clear bl bm
  go_loopw [5] (fun i wr => ∃ k : Nat, k ≤ ac.length ∧ i = .int .i64 k ∧ ac.take k = ac'.take k ∧ Below w0.heap.size w0 wr) (fun i _ => ac.length - (intOf i).toNat)
  case atStart => exact ⟨0, by omega, rfl, by simp, HB.out⟩
  case round =>
    clear HB
    obtain ⟨k, hk, rfl, hpre, hB⟩ := hrel
    have szB := hB.size
    have Hpre := Lib.hid hpre
    have HB := Lib.hid hB
    clear hpre hB
    have hkz := Int.natCast_nonneg k
    by_cases hlt : k < ac.length
    · have hlt' : k < ac'.length := by have := Hl1.out; omega
      obtain ⟨x, hx⟩ : ∃ e, ac[k]? = some e := ⟨_, List.getElem?_eq_getElem hlt⟩
      obtain ⟨y, hy⟩ : ∃ e, ac'[k]? = some e := ⟨_, List.getElem?_eq_getElem hlt'⟩
      obtain ⟨b, o, rfl⟩ := nest_some f2 (by omega)
      obtain ⟨b', o', rfl⟩ := nest_some k2 (by omega)
      obtain ⟨hbl1, s1, c1, g0, gr⟩ := nest_sl (g := D.bool) (f2.below HB.out) hx
      obtain ⟨hbl2, t1, d1, k0, kr⟩ := nest_sl (g := D.bool) (k2.below HB.out) hy
      have hb : (k : Int) < (ac.length : Int) := by omega
      have hb' : (k : Int) < (ac'.length : Int) := by omega
      have Hx := Lib.hid hx
      have Hy := Lib.hid hy
      have gg0 := fun d os => cell_regrown g0 d os
      have gk0 := fun d os => cell_regrown k0 d os
      clear hx hy
      obtain ⟨c0, c1', c2', c3', -, -⟩ := Hh.out.below HB.out
      obtain ⟨d0, d1', d2', d3', -, -⟩ := Hk.out.below HB.out
      simp only [Nat.zero_add] at c1' c2' c3' d1' d2' d3'
      have gc2 := fun d os => cell_regrown c2' d os
      have gc3 := fun d os => cell_regrown c3' d os
      have gd2 := fun d os => cell_regrown d2' d os
      have gd3 := fun d os => cell_regrown d3' d os
      go_wp2_with fail
      refine Go.wp_region_quiet_below (by kernel_rfl) (by kernel_rfl) ?_
      repeat (first | go_big_quiet_step ((exact Calls.regrown_of (l02SameRow_any x y _ _ _ _ _ (gr.below (below_regrown _ _ _)) (kr.below (below_regrown _ _ _))))) | quiet_step ((exact Calls.regrown_of (l02SameRow_any x y _ _ _ _ _ (gr.below (below_regrown _ _ _)) (kr.below (below_regrown _ _ _))))))
      refine wpQuiet_nil ?_; intro _ hw'; obtain ⟨⟨dq, osq⟩, hw''⟩ := hw'; subst hw''; have hq := below_regrown wr dq osq; revert hq; generalize grow (redrawn wr dq) osq = w2; intro hq
      have HB2 := Lib.hid (show Below w0.heap.size w0 w2 from Below.on HB.out hq HB.out.size)
      have hBw := Lib.hid (HB0.out.trans (HB2.out.mono HZ.out))
      clear hq c0 c1' c2' c3' d0 d1' d2' d3' gc2 gc3 gd2 gd3
      clear g0 k0 gg0 gk0 gr kr
      by_cases hxy : x = y
      · subst hxy
        have b2 : eqb x x = true := eqb_true rfl
        have Hst : Hid (ac.take (k + 1) = ac'.take (k + 1)) := take_same Hx.out Hy.out Hpre.out
        rw [b2]
        clear b2
        go_wp2_with fail
        go_roundw
        case rel => exact ⟨k + 1, by omega, by go_num, Hst.out, HB2.out⟩
        case measure => simp [intOf]; omega
      · have b2 : eqb x y = false := eqb_false hxy
        have C1 := Lib.hid (sameA_ac (t := t) (a := a) (t' := t) (a' := a) (nx := nx) (nx' := nx') (ne_at Hx.out Hy.out hxy))
        rw [b2]
        clear b2 hxy
        go_wp2_with fail
        go_ret
        exact ⟨ret_bool (by rw [C1.out]), hBw.out⟩
    obtain rfl : k = ac.length := by omega
    have He1 := Lib.hid (eq_of_take Hl1.out Hpre.out)
    clear Hpre hlt hk hkz
    obtain ⟨c0, c1', c2', c3', -, -⟩ := Hh.out.below HB.out
    obtain ⟨d0, d1', d2', d3', -, -⟩ := Hk.out.below HB.out
    simp only [Nat.zero_add] at c1' c2' c3' d1' d2' d3'
    go_wp2_with fail
    clear c0 c1' c2' c3' d0 d1' d2' d3'
    go_loopw [6] (fun i wr => ∃ k : Nat, k ≤ nx.length ∧ i = .int .i64 k ∧ nx.take k = nx'.take k ∧ Below w0.heap.size w0 wr) (fun i _ => nx.length - (intOf i).toNat)
    case atStart => exact ⟨0, by omega, rfl, by simp, HB.out⟩
    case round =>
      clear HB
      obtain ⟨k, hk, rfl, hpre, hB⟩ := hrel
      have szB := hB.size
      have Hpre := Lib.hid hpre
      have HB := Lib.hid hB
      clear hpre hB
      have hkz := Int.natCast_nonneg k
      by_cases hlt : k < nx.length
      rotate_left
      · obtain rfl : k = nx.length := by omega
        have C1 := Lib.hid (sameA_yes (t := t) (a := a) He1.out (eq_of_take Hl2.out Hpre.out))
        have hBw := Lib.hid (HB0.out.trans (HB.out.mono HZ.out))
        obtain ⟨c0, c1', c2', c3', -, -⟩ := Hh.out.below HB.out
        obtain ⟨d0, d1', d2', d3', -, -⟩ := Hk.out.below HB.out
        simp only [Nat.zero_add] at c1' c2' c3' d1' d2' d3'
        go_wp2_with fail
        go_ret
        exact ⟨ret_bool (by rw [C1.out]), hBw.out⟩
      have hlt' : k < nx'.length := by have := Hl2.out; omega
      obtain ⟨x, hx⟩ : ∃ e, nx[k]? = some e := ⟨_, List.getElem?_eq_getElem hlt⟩
      obtain ⟨y, hy⟩ : ∃ e, nx'[k]? = some e := ⟨_, List.getElem?_eq_getElem hlt'⟩
      obtain ⟨b, o, rfl⟩ := nest_some f3 (by omega)
      obtain ⟨b', o', rfl⟩ := nest_some k3 (by omega)
      obtain ⟨hbl1, s1, c1, g0, gr⟩ := nest_sl (g := intsD) f3 hx
      obtain ⟨hbl2, t1, d1, k0, kr⟩ := nest_sl (g := intsD) k3 hy
      obtain ⟨x1, x2⟩ := nest_bd gr
      obtain ⟨y1, y2⟩ := nest_bd kr
      unfold maxLen at x2 y2
      have hb : (k : Int) < (nx.length : Int) := by omega
      have hb' : (k : Int) < (nx'.length : Int) := by omega
      have Hx := Lib.hid hx
      have Hy := Lib.hid hy
      have G0 := Lib.hid g0
      have K0 := Lib.hid k0
      clear hx hy g0 k0
      by_cases hl : x.length = y.length
      rotate_left
      · have C1 := Lib.hid (sameA_nx (t := t) (a := a) (t' := t) (a' := a) (ac := ac) (ac' := ac') (ne_at Hx.out Hy.out (fun e => hl (congrArg List.length e))))
        have bx : ((x.length : Int) != (y.length : Int)) = true := by simp; omega
        clear hl
        have g0 := (HB.out.cell (p := ⟨b, o + k, none⟩) hbl1).trans G0.out
        have k0 := (HB.out.cell (p := ⟨b', o' + k, none⟩) hbl2).trans K0.out
        have gg0 := fun d os => cell_regrown g0 d os
        have gk0 := fun d os => cell_regrown k0 d os
        obtain ⟨c0, c1', c2', c3', -, -⟩ := Hh.out.below HB.out
        obtain ⟨d0, d1', d2', d3', -, -⟩ := Hk.out.below HB.out
        simp only [Nat.zero_add] at c1' c2' c3' d1' d2' d3'
        have gc2 := fun d os => cell_regrown c2' d os
        have gc3 := fun d os => cell_regrown c3' d os
        have gd2 := fun d os => cell_regrown d2' d os
        have gd3 := fun d os => cell_regrown d3' d os
        go_wp2_with fail
        refine Go.wp_region_quiet_below (by kernel_rfl) (by kernel_rfl) ?_
        repeat (first | go_big_quiet_step ((fail)) | quiet_step ((fail)))
        refine wpQuiet_nil ?_; intro _ hw'; obtain ⟨⟨dq, osq⟩, hw''⟩ := hw'; subst hw''; have hq := below_regrown wr dq osq; revert hq; generalize grow (redrawn wr dq) osq = w2; intro hq
        have HB2 := Lib.hid (show Below w0.heap.size w0 w2 from Below.on HB.out hq HB.out.size)
        have hBw := Lib.hid (HB0.out.trans (HB2.out.mono HZ.out))
        clear hq c0 c1' c2' c3' d0 d1' d2' d3' gc2 gc3 gd2 gd3
        clear g0 k0 gg0 gk0
        go_wp2_with fail
        go_ret
        exact ⟨ret_bool (by rw [C1.out]), hBw.out⟩
      have bx : ((x.length : Int) != (y.length : Int)) = false := by simp [hl]
      have Hl := Lib.hid hl
      clear hl
      have g0 := (HB.out.cell (p := ⟨b, o + k, none⟩) hbl1).trans G0.out
      have k0 := (HB.out.cell (p := ⟨b', o' + k, none⟩) hbl2).trans K0.out
      have gg0 := fun d os => cell_regrown g0 d os
      have gk0 := fun d os => cell_regrown k0 d os
      obtain ⟨c0, c1', c2', c3', -, -⟩ := Hh.out.below HB.out
      obtain ⟨d0, d1', d2', d3', -, -⟩ := Hk.out.below HB.out
      simp only [Nat.zero_add] at c1' c2' c3' d1' d2' d3'
      have gc2 := fun d os => cell_regrown c2' d os
      have gc3 := fun d os => cell_regrown c3' d os
      have gd2 := fun d os => cell_regrown d2' d os
      have gd3 := fun d os => cell_regrown d3' d os
      go_wp2_with fail
      refine Go.wp_region_quiet_below (by kernel_rfl) (by kernel_rfl) ?_
      repeat (first | go_big_quiet_step ((fail)) | quiet_step ((fail)))
      refine wpQuiet_nil ?_; intro _ hw'; obtain ⟨⟨dq, osq⟩, hw''⟩ := hw'; subst hw''; have hq := below_regrown wr dq osq; revert hq; generalize grow (redrawn wr dq) osq = w2; intro hq
      have HB2 := Lib.hid (show Below w0.heap.size w0 w2 from Below.on HB.out hq HB.out.size)
      have hBw := Lib.hid (HB0.out.trans (HB2.out.mono HZ.out))
      clear hq c0 c1' c2' c3' d0 d1' d2' d3' gc2 gc3 gd2 gd3
      clear g0 k0 gg0 gk0
      go_wp2_with fail
      clear bx hBw HB
      have HB := HB2
      clear HB2
      go_loopw [7] (fun i wr => ∃ j : Nat, j ≤ x.length ∧ i = .int .i64 j ∧ x.take j = y.take j ∧ Below w0.heap.size w0 wr) (fun i _ => x.length - (intOf i).toNat)
      case atStart => exact ⟨0, by omega, rfl, by simp, HB.out⟩
      case round =>
        clear HB
        obtain ⟨j, hj, rfl, hpre, hB⟩ := hrel
        have szB := hB.size
        have Hpre2 := Lib.hid hpre
        have HB := Lib.hid hB
        clear hpre hB
        have hjz := Int.natCast_nonneg j
        have g0 := (HB.out.cell (p := ⟨b, o + k, none⟩) hbl1).trans G0.out
        have k0 := (HB.out.cell (p := ⟨b', o' + k, none⟩) hbl2).trans K0.out
        by_cases hjl : j < x.length
        rotate_left
        · obtain rfl : j = x.length := by omega
          have hxy := eq_of_take Hl.out Hpre2.out
          have Hst : Hid (nx.take (k + 1) = nx'.take (k + 1)) := by subst hxy; exact take_same Hx.out Hy.out Hpre.out
          clear hxy
          obtain ⟨c0, c1', c2', c3', -, -⟩ := Hh.out.below HB.out
          obtain ⟨d0, d1', d2', d3', -, -⟩ := Hk.out.below HB.out
          simp only [Nat.zero_add] at c1' c2' c3' d1' d2' d3'
          go_wp2_with fail
          go_roundw
          case rel => exact ⟨k + 1, by omega, by go_num, Hst.out, HB.out⟩
          case measure => simp [intOf]; omega
        have hjl' : j < y.length := by have := Hl.out; omega
        obtain ⟨p, hp⟩ : ∃ e, x[j]? = some e := ⟨_, List.getElem?_eq_getElem hjl⟩
        obtain ⟨r, hr⟩ : ∃ e, y[j]? = some e := ⟨_, List.getElem?_eq_getElem hjl'⟩
        obtain ⟨b2, o2, rfl⟩ := nest_some gr (by omega)
        obtain ⟨b3, o3, rfl⟩ := nest_some kr (by omega)
        obtain ⟨hbl3, s2, c2, p0, pr⟩ := nest_sl (g := D.int) (gr.below HB.out) hp
        obtain ⟨hbl4, t2, d2, r0, rr⟩ := nest_sl (g := D.int) (kr.below HB.out) hr
        have hjb : (j : Int) < (x.length : Int) := by omega
        have hjb' : (j : Int) < (y.length : Int) := by omega
        have Hp := Lib.hid hp
        have Hr := Lib.hid hr
        have gg0 := fun d os => cell_regrown g0 d os
        have gk0 := fun d os => cell_regrown k0 d os
        have gp0 := fun d os => cell_regrown p0 d os
        have gr0 := fun d os => cell_regrown r0 d os
        clear hp hr
        obtain ⟨c0, c1', c2', c3', -, -⟩ := Hh.out.below HB.out
        obtain ⟨d0, d1', d2', d3', -, -⟩ := Hk.out.below HB.out
        simp only [Nat.zero_add] at c1' c2' c3' d1' d2' d3'
        have gc2 := fun d os => cell_regrown c2' d os
        have gc3 := fun d os => cell_regrown c3' d os
        have gd2 := fun d os => cell_regrown d2' d os
        have gd3 := fun d os => cell_regrown d3' d os
        go_wp2_with fail
        refine Go.wp_region_quiet_below (by kernel_rfl) (by kernel_rfl) ?_
        repeat (first | go_big_quiet_step ((exact Calls.regrown_of (l00Same_r p r _ _ _ _ _ (pr.below (below_regrown _ _ _)) (rr.below (below_regrown _ _ _))))) | quiet_step ((exact Calls.regrown_of (l00Same_r p r _ _ _ _ _ (pr.below (below_regrown _ _ _)) (rr.below (below_regrown _ _ _))))))
        refine wpQuiet_nil ?_; intro _ hw'; obtain ⟨⟨dq, osq⟩, hw''⟩ := hw'; subst hw''; have hq := below_regrown wr dq osq; revert hq; generalize grow (redrawn wr dq) osq = w2; intro hq
        have HB2 := Lib.hid (show Below w0.heap.size w0 w2 from Below.on HB.out hq HB.out.size)
        have hBw := Lib.hid (HB0.out.trans (HB2.out.mono HZ.out))
        clear hq c0 c1' c2' c3' d0 d1' d2' d3' gc2 gc3 gd2 gd3
        clear g0 k0 gg0 gk0 p0 r0 gp0 gr0 pr rr
        by_cases hxy : p = r
        · subst hxy
          have b2 : eqb p p = true := eqb_true rfl
          have Hst : Hid (x.take (j + 1) = y.take (j + 1)) := take_same Hp.out Hr.out Hpre2.out
          rw [b2]
          clear b2
          go_wp2_with fail
          go_roundw
          case rel => exact ⟨j + 1, by omega, by go_num, Hst.out, HB2.out⟩
          case measure => simp [intOf]; omega
        · have b2 : eqb p r = false := eqb_false hxy
          have C1 := Lib.hid (sameA_nx (t := t) (a := a) (t' := t) (a' := a) (ac := ac) (ac' := ac') (ne_at Hx.out Hy.out (ne_at Hp.out Hr.out hxy)))
          rw [b2]
          clear b2 hxy
          go_wp2_with fail
          go_ret
          exact ⟨ret_bool (by rw [C1.out]), hBw.out⟩

theorem implSameAutomaton_i {t a t' a' : Int} {ac ac' : List (List Bool)} {nx nx' : List (List (List Int))} {s u s' u' : Option Addr} {c d c' d' : Nat} {w : World} (hr : Rd w (bbD ac) (.slice s ac.length c)) (hq : Rd w (iiiD nx) (.slice u nx.length d))
    (hr' : Rd w (bbD ac') (.slice s' ac'.length c')) (hq' : Rd w (iiiD nx') (.slice u' nx'.length d')) :
    Calls Try.prog 17 #[.agg #[.int .i64 t, .int .i64 a, .slice s ac.length c, .slice u nx.length d], .agg #[.int .i64 t', .int .i64 a', .slice s' ac'.length c', .slice u' nx'.length d']] w
      fun e w' => e = .returned (.bool (sameA t a t' a' ac ac' nx nx')) ∧ Below w.heap.size w w' := by
  by_cases hsig : t = t' ∧ a = a'
  rotate_left
  · have C1 := Lib.hid (sameA_sig (ac := ac) (ac' := ac') (nx := nx) (nx' := nx') hsig)
    by_cases h1 : t = t'
    · have h2 : ¬ a = a' := fun q => hsig ⟨h1, q⟩
      have hs : (t == t' && a == a') = false := by simp [h2]
      clear hsig
      go_enter Try.func17, Try.ntmps17
      go_wp2_with fail
      go_ret
      exact ⟨ret_bool (by rw [C1.out]), by (repeat' (first | exact Below.refl _ _ | assumption | (refine Below.alloc ?_ (by first | omega | (simp; done) | (simp; omega)) _) | (refine Below.drew ?_) | (refine Below.setCell ?_ (by first | omega | (simp; done) | (simp; omega)) _)))⟩
    · have hs : (t == t' && a == a') = false := by simp [h1]
      clear hsig
      go_enter Try.func17, Try.ntmps17
      go_wp2_with fail
      go_ret
      exact ⟨ret_bool (by rw [C1.out]), by (repeat' (first | exact Below.refl _ _ | assumption | (refine Below.alloc ?_ (by first | omega | (simp; done) | (simp; omega)) _) | (refine Below.drew ?_) | (refine Below.setCell ?_ (by first | omega | (simp; done) | (simp; omega)) _)))⟩
  obtain ⟨rfl, rfl⟩ := hsig
  go_enter Try.func17, Try.ntmps17
  go_wp2_with fail
  refine (sameRowsB_any ac ac' _ _ _ _ _ ((hr.alloc _).alloc _) ((hr'.alloc _).alloc _)).mono ?_
  rintro e w1 ⟨rfl, hb⟩
  have h := (AutAt.box (t := t) (a := a) hr hq 32).below (Below.alloc (Below.refl _ _) (Nat.le_refl _) (.cells #[.int .i64 t, .int .i64 a, .slice s' ac'.length c', .slice u' nx'.length d'] 32))
  have k := AutAt.box (t := t) (a := a) (hr'.alloc (.cells #[.int .i64 t, .int .i64 a, .slice s ac.length c, .slice u nx.length d] 32)) (hq'.alloc _) 32
  rw [show (w.alloc (.cells #[.int .i64 t, .int .i64 a, .slice s ac.length c, .slice u nx.length d] 32)).heap.size = w.heap.size + 1 by simp] at k
  have hB0 : Below w.heap.size w ((w.alloc (.cells #[.int .i64 t, .int .i64 a, .slice s ac.length c, .slice u nx.length d] 32)).alloc (.cells #[.int .i64 t, .int .i64 a, .slice s' ac'.length c', .slice u' nx'.length d'] 32)) := by (repeat' (first | exact Below.refl _ _ | assumption | (refine Below.alloc ?_ (by first | omega | (simp; done) | (simp; omega)) _) | (refine Below.drew ?_) | (refine Below.setCell ?_ (by first | omega | (simp; done) | (simp; omega)) _)))
  have hz : w.heap.size ≤ ((w.alloc (.cells #[.int .i64 t, .int .i64 a, .slice s ac.length c, .slice u nx.length d] 32)).alloc (.cells #[.int .i64 t, .int .i64 a, .slice s' ac'.length c', .slice u' nx'.length d'] 32)).heap.size := by simp <;> omega
  generalize ((w.alloc (.cells #[.int .i64 t, .int .i64 a, .slice s ac.length c, .slice u nx.length d] 32)).alloc (.cells #[.int .i64 t, .int .i64 a, .slice s' ac'.length c', .slice u' nx'.length d'] 32)) = w0 at h k hB0 hz hb
  have f3 := h.2.2.2.2.2
  have k3 := k.2.2.2.2.2
  have Hh := Lib.hid h
  have Hk := Lib.hid k
  have HB0 := Lib.hid hB0
  have HZ := Lib.hid hz
  have HB := Lib.hid hb
  clear hr hq hr' hq' hB0 hz h k hb
  have hBw := Lib.hid (HB0.out.trans (HB.out.mono HZ.out))
  by_cases hac : ac = ac'
  rotate_left
  · have C1 := Lib.hid (sameA_ac (t := t) (a := a) (t' := t) (a' := a) (nx := nx) (nx' := nx') hac)
    have b1 : eqb ac ac' = false := eqb_false hac
    clear hac
    rw [b1]
    go_wp2_with fail
    go_ret
    exact ⟨ret_bool (by rw [C1.out]), hBw.out⟩
  have b1 : eqb ac ac' = true := eqb_true hac
  have Hac := Lib.hid hac
  clear hac
  rw [b1]
  clear b1
  obtain ⟨c0, c1', c2', c3', -, -⟩ := Hh.out.below HB.out
  obtain ⟨d0, d1', d2', d3', -, -⟩ := Hk.out.below HB.out
  simp only [Nat.zero_add] at c1' c2' c3' d1' d2' d3'
  go_wp2_with fail
  refine (equalFuncIII_any nx nx' _ _ _ _ _ (f3.below HB.out) (k3.below HB.out)).mono ?_
  rintro e w2 ⟨rfl, hb⟩
  have hBw2 := Lib.hid (hBw.out.trans (hb.mono hBw.out.size))
  clear hb c0 c1' c2' c3' d0 d1' d2' d3'
  by_cases hnx : nx = nx'
  · have C1 := Lib.hid (sameA_yes (t := t) (a := a) Hac.out hnx)
    have b1 : eqb nx nx' = true := eqb_true hnx
    clear hnx
    rw [b1]
    go_wp2_with fail
    go_ret
    exact ⟨ret_bool (by rw [C1.out]), hBw2.out⟩
  · have C1 := Lib.hid (sameA_nx (t := t) (a := a) (t' := t) (a' := a) (ac := ac) (ac' := ac') hnx)
    have b1 : eqb nx nx' = false := eqb_false hnx
    clear hnx
    rw [b1]
    go_wp2_with fail
    go_ret
    exact ⟨ret_bool (by rw [C1.out]), hBw2.out⟩
end Go.Proofs.Ytlnojmmjpgpjdaa
