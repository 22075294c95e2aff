/-
  Words that an automaton accepts: l02Runs, RunAutomaton of both.
-/
import Derived.Test.YtlnojmmjpgpjdaaValidI
namespace Go.Proofs.Ytlnojmmjpgpjdaa
open Go.ChangeShapes Go.WideShapes Go.ChangeAt Go.RowKit Go.Sort

/-- Where a step leads. -/
def stepN (nx : List (List (List Int))) (s x y : Nat) : Int := ((nx.getD s []).getD x []).getD y (-1)
theorem AutOk.next {t a : Int} {ac : List (List Bool)} {nx : List (List (List Int))} (h : AutOk t a ac nx) {s x y : Nat} (hs : s < ac.length) (hx : (x : Int) < atomsN t) (hy : (y : Int) < a) :
    ∃ nr row z, nx[s]? = some nr ∧ nr[x]? = some row ∧ row[y]? = some z ∧ -1 ≤ z ∧ z ≤ (ac.length : Int) - 1 ∧ stepN nx s x y = z := by
  obtain ⟨ar, har⟩ : ∃ e, ac[s]? = some e := ⟨_, List.getElem?_eq_getElem hs⟩
  obtain ⟨nr, hnr⟩ : ∃ e, nx[s]? = some e := ⟨_, List.getElem?_eq_getElem (by rw [h.len]; exact hs)⟩
  obtain ⟨_, h2, h3⟩ := h.st s ar nr har hnr
  obtain ⟨row, hrow⟩ : ∃ e, nr[x]? = some e := ⟨_, List.getElem?_eq_getElem (by omega)⟩
  obtain ⟨h4, h5⟩ := h3 x row hrow
  obtain ⟨z, hz⟩ : ∃ e, row[y]? = some e := ⟨_, List.getElem?_eq_getElem (by omega)⟩
  obtain ⟨h6, h7⟩ := h5 y z hz
  refine ⟨nr, row, z, hnr, hrow, hz, h6, h7, ?_⟩
  unfold stepN
  rw [List.getD_eq_getElem?_getD, List.getD_eq_getElem?_getD, List.getD_eq_getElem?_getD, hnr]
  simp [hrow, hz]
theorem AutOk.acc {t a : Int} {ac : List (List Bool)} {nx : List (List (List Int))} (h : AutOk t a ac nx) {s x : Nat} (hs : s < ac.length) (hx : (x : Int) < atomsN t) :
    ∃ ar z, ac[s]? = some ar ∧ ar[x]? = some z ∧ (ac.getD s []).getD x false = z := by
  obtain ⟨ar, har⟩ : ∃ e, ac[s]? = some e := ⟨_, List.getElem?_eq_getElem hs⟩
  obtain ⟨nr, hnr⟩ : ∃ e, nx[s]? = some e := ⟨_, List.getElem?_eq_getElem (by rw [h.len]; exact hs)⟩
  obtain ⟨h1, _, _⟩ := h.st s ar nr har hnr
  obtain ⟨z, hz⟩ : ∃ e, ar[x]? = some e := ⟨_, List.getElem?_eq_getElem (by omega)⟩
  refine ⟨ar, z, har, hz, ?_⟩
  rw [List.getD_eq_getElem?_getD, List.getD_eq_getElem?_getD, har]
  simp [hz]
theorem allIn_at {zs : List Int} {n : Int} {i : Nat} {z : Int} (h : allIn zs n = true) (hz : zs[i]? = some z) : ∃ m : Nat, z = (m : Int) ∧ (m : Int) < n := by
  unfold allIn at h
  rw [List.all_eq_true] at h
  have := h z (List.mem_of_getElem? hz)
  simp only [inB, Bool.and_eq_true, decide_eq_true_eq] at this
  exact ⟨z.toNat, by omega, by omega⟩
theorem wordB_parts {t a : Int} {xs ys : List Int} (h : wordB t a xs ys = true) : ys.length ≤ 10 ∧ xs.length = ys.length + 1 ∧ allIn xs (atomsN t) = true ∧ allIn ys a = true := by
  simp only [wordB, Bool.and_eq_true, decide_eq_true_eq] at h
  exact ⟨h.1.1.1.2, h.1.1.2, h.1.2, h.2⟩
/-- The state behind so many steps. -/
def runN (nx : List (List (List Int))) (xs ys : List Int) : Nat → Int
  | 0 => 0
  | k + 1 => stepN nx (runN nx xs ys k).toNat (xs.getD k 0).toNat (ys.getD k 0).toNat
theorem runN_succ {nx : List (List (List Int))} {xs ys : List Int} {k s x y : Nat} (h : runN nx xs ys k = (s : Int)) (hx : xs[k]? = some (x : Int)) (hy : ys[k]? = some (y : Int)) : runN nx xs ys (k + 1) = stepN nx s x y := by
  show stepN nx (runN nx xs ys k).toNat (xs.getD k 0).toNat (ys.getD k 0).toNat = _
  rw [h, List.getD_eq_getElem?_getD, List.getD_eq_getElem?_getD, hx, hy]
  simp
noncomputable def runsB (ac : List (List Bool)) (nx : List (List (List Int))) (xs ys : List Int) : Bool :=
  @decide (∀ k, k ≤ ys.length → 0 ≤ runN nx xs ys k) (Classical.propDecidable _) && (ac.getD (runN nx xs ys ys.length).toNat []).getD (xs.getD ys.length 0).toNat false
theorem runsB_no {ac : List (List Bool)} {nx : List (List (List Int))} {xs ys : List Int} {k : Nat} (hk : k ≤ ys.length) (h : runN nx xs ys k < 0) : runsB ac nx xs ys = false := by
  have : @decide (∀ k, k ≤ ys.length → 0 ≤ runN nx xs ys k) (Classical.propDecidable _) = false := by
    apply @decide_eq_false _ (Classical.propDecidable _)
    intro q
    have := q k hk
    omega
  unfold runsB
  rw [this, Bool.false_and]
theorem runsB_end {ac : List (List Bool)} {nx : List (List (List Int))} {xs ys : List Int} {s x : Nat} (h : ∀ k, k ≤ ys.length → 0 ≤ runN nx xs ys k) (hs : runN nx xs ys ys.length = (s : Int)) (hx : xs[ys.length]? = some (x : Int)) : runsB ac nx xs ys = (ac.getD s []).getD x false := by
  have : @decide (∀ k, k ≤ ys.length → 0 ≤ runN nx xs ys k) (Classical.propDecidable _) = true := @decide_eq_true _ (Classical.propDecidable _) h
  unfold runsB
  rw [this, Bool.true_and, hs, List.getD_eq_getElem?_getD (l := xs), hx]
  simp

set_option maxRecDepth 100000 in
set_option maxHeartbeats 16000000 in
theorem l02Runs_i {t a : Int} {ac : List (List Bool)} {nx : List (List (List Int))} {xs ys : List Int} {s u : Option Addr} {c d b o b' o' : Nat} {w0 : World} (h : AutAt w0 b o t a ac nx s u c d) (hw : WdAt w0 b' o' xs ys) (hok : AutOk t a ac nx) (hwd : wordB t a xs ys = true) :
    Calls Try.prog 75 #[.pointer (some ⟨b, o, none⟩), .pointer (some ⟨b', o', none⟩)] w0 fun e w' => e = .returned (.bool (runsB ac nx xs ys)) ∧ Below w0.heap.size w0 w' := by
  have g4 := h.2.2.2.2.1
  have g5 := h.2.2.2.2.2
  obtain ⟨hlen, hcap⟩ := nest_bd g4
  obtain ⟨hlen', hcap'⟩ := nest_bd g5
  obtain ⟨p0, q0, p1, q1, e0, e1, hr, hr'⟩ := hw
  obtain ⟨-, hlen2, hcap2, -⟩ := hr.sl_at
  obtain ⟨-, hlen3, hcap3, -⟩ := hr'.sl_at
  unfold maxLen at hcap hcap' hcap2 hcap3
  obtain ⟨hn10, hxl, hxs, hys⟩ := wordB_parts hwd
  have hn1 := hok.lo
  have hn2 := hok.hi
  have hnl := hok.len
  have Hok := Lib.hid hok
  have Hxs := Lib.hid hxs
  have Hys := Lib.hid hys
  have Hh := Lib.hid h
  have hel : b' < w0.heap.size := World.block_lt_of_cell? w0 _ e0
  have E0 := Lib.hid e0
  have E1 := Lib.hid e1
  clear hxs hys hwd hok h e0 e1
  go_enter Try.func75, Try.ntmps75
  go_wp2_with fail
  go_loopw [5, 6] (fun q i wr => ∃ k s0 : Nat, k ≤ ys.length ∧ i = .int .i64 k ∧ q = .int .i64 s0 ∧ s0 < ac.length ∧ runN nx xs ys k = s0 ∧ (∀ j, j ≤ k → 0 ≤ runN nx xs ys j) ∧ Below w0.heap.size w0 wr) (fun _ i _ => ys.length - (intOf i).toNat)
  case atStart => exact ⟨0, 0, by omega, rfl, rfl, by omega, rfl, fun j hj => (by rw [show j = 0 by omega]; exact Int.le_refl 0), Below.refl _ _⟩
  case round =>
    obtain ⟨k, s0, hk, rfl, rfl, hsn, hrun, hge, hB⟩ := hrel
    have szB := hB.size
    have Hrun := Lib.hid hrun
    have Hge := Lib.hid hge
    have HB := Lib.hid hB
    clear hrun hge hB
    have hkz := Int.natCast_nonneg k
    obtain ⟨c0, c1', c2', c3', -, -⟩ := Hh.out.below HB.out
    have e0 := (HB.out.cell (p := ⟨b', o', none⟩) hel).trans E0.out
    have e1' := (HB.out.cell (p := ⟨b', o' + 1, none⟩) hel).trans E1.out
    by_cases hlt : k < ys.length
    · skip
      obtain ⟨xz, hxz⟩ : ∃ e, xs[k]? = some e := ⟨_, List.getElem?_eq_getElem (by omega)⟩
      obtain ⟨yz, hyz⟩ : ∃ e, ys[k]? = some e := ⟨_, List.getElem?_eq_getElem hlt⟩
      obtain ⟨x, rfl, hxb⟩ := allIn_at Hxs.out hxz
      obtain ⟨y, rfl, hyb⟩ := allIn_at Hys.out hyz
      obtain ⟨nr, row, z, hnr, hrow, hz, hz1, hz2, hstep⟩ := Hok.out.next hsn hxb hyb
      obtain ⟨ub, uo, rfl⟩ := nest_some (f := iiD) g5 (by omega)
      obtain ⟨-, sn, cn, b0, rb⟩ := nest_sl (g := intsD) (g5.below HB.out) hnr
      obtain ⟨vb, vo, rfl⟩ := nest_some (f := intsD) rb (by have := (List.getElem?_eq_some_iff.1 hrow).1; omega)
      obtain ⟨-, sr, cr, r0, rr⟩ := nest_sl (g := D.int) rb hrow
      obtain ⟨tb, to', rfl⟩ := nest_some (f := D.int) rr (by have := (List.getElem?_eq_some_iff.1 hz).1; omega)
      obtain ⟨-, z0⟩ := int_in rr hz
      obtain ⟨xb, xo, rfl⟩ := int_some hr (by omega)
      obtain ⟨yb, yo, rfl⟩ := int_some hr' (by omega)
      obtain ⟨-, x0⟩ := int_in (hr.below HB.out) hxz
      obtain ⟨-, y0⟩ := int_in (hr'.below HB.out) hyz
      obtain ⟨rb1, rb2⟩ := nest_bd rb
      obtain ⟨rr1, rr2⟩ := nest_bd rr
      unfold maxLen at rb2 rr2
      have hsz := Int.natCast_nonneg s0
      have hsb : (s0 : Int) < (nx.length : Int) := by have := (List.getElem?_eq_some_iff.1 hnr).1; omega
      have hxz' := Int.natCast_nonneg x
      have hxb' : (x : Int) < (nr.length : Int) := by have := (List.getElem?_eq_some_iff.1 hrow).1; omega
      have hyz' := Int.natCast_nonneg y
      have hyb' : (y : Int) < (row.length : Int) := by have := (List.getElem?_eq_some_iff.1 hz).1; omega
      have hkx : (k : Int) < (xs.length : Int) := by omega
      have hky : (k : Int) < (ys.length : Int) := by omega
      have Hnext : Hid (runN nx xs ys (k + 1) = z) := (runN_succ Hrun.out hxz hyz).trans hstep
      clear hxz hyz hnr hrow hz hstep hxb hyb rb rr
      have gc3 := fun d os => cell_regrown c3' d os
      have ge0 := fun d os => cell_regrown e0 d os
      have ge1 := fun d os => cell_regrown e1' d os
      have gb0 := fun d os => cell_regrown b0 d os
      have gr0 := fun d os => cell_regrown r0 d os
      have gz0 := fun d os => cell_regrown z0 d os
      have gx0 := fun d os => cell_regrown x0 d os
      have gy0 := fun d os => cell_regrown y0 d os
      go_wp2_with fail
      refine Go.wp_region_quiet_below (by kernel_rfl) (by kernel_rfl) ?_
      repeat (first | go_big_quiet_step ((fail)) | quiet_step ((fail)))
      refine wpQuiet_nil ?_; intro _ hw'; obtain ⟨⟨dq, osq⟩, hw''⟩ := hw'; subst hw''; have hq := below_regrown wr dq osq; revert hq; generalize grow (redrawn wr dq) osq = w2; intro hq
      have HB2 := Lib.hid (show Below w0.heap.size w0 w2 from Below.on HB.out hq HB.out.size)
      clear hq c0 c1' c2' c3' e0 e1' b0 r0 z0 x0 y0 gc3 ge0 ge1 gb0 gr0 gz0 gx0 gy0
      by_cases hneg : z < 0
      · have C1 := Lib.hid (runsB_no (ac := ac) hlt (by rw [Hnext.out]; exact hneg))
        go_wp2_with fail
        go_ret
        exact ⟨ret_bool (by rw [C1.out]), HB2.out⟩
      · obtain ⟨z', rfl⟩ : ∃ m : Nat, z = (m : Int) := ⟨z.toNat, by omega⟩
        have Hge2 : Hid (∀ j, j ≤ k + 1 → 0 ≤ runN nx xs ys j) := by
          intro j hj
          by_cases hjk : j ≤ k
          · exact Hge.out j hjk
          · obtain rfl : j = k + 1 := by omega
            rw [Hnext.out]
            omega
        go_wp2_with fail
        go_roundw
        case rel => exact ⟨k + 1, z', by omega, by go_num, rfl, by omega, Hnext.out, Hge2.out, HB2.out⟩
        case measure => simp [intOf]; omega
    · skip
      obtain rfl : k = ys.length := by omega
      obtain ⟨xz, hxz⟩ : ∃ e, xs[ys.length]? = some e := ⟨_, List.getElem?_eq_getElem (by omega)⟩
      obtain ⟨x, rfl, hxb⟩ := allIn_at Hxs.out hxz
      obtain ⟨ar, z, har, hz, hacc⟩ := Hok.out.acc hsn hxb
      obtain ⟨sb, so, rfl⟩ := nest_some (f := boolsD) g4 (by omega)
      obtain ⟨-, sa, ca, a0, ra⟩ := nest_sl (g := D.bool) (g4.below HB.out) har
      obtain ⟨ab, ao, rfl⟩ := nest_some (f := D.bool) ra (by have := (List.getElem?_eq_some_iff.1 hz).1; omega)
      obtain ⟨-, z0⟩ := bool_in ra hz
      obtain ⟨xb, xo, rfl⟩ := int_some hr (by omega)
      obtain ⟨-, x0⟩ := int_in (hr.below HB.out) hxz
      obtain ⟨ra1, ra2⟩ := nest_bd ra
      unfold maxLen at ra2
      have hsz := Int.natCast_nonneg s0
      have hsb : (s0 : Int) < (ac.length : Int) := by omega
      have hxz' := Int.natCast_nonneg x
      have hxb' : (x : Int) < (ar.length : Int) := by have := (List.getElem?_eq_some_iff.1 hz).1; omega
      have hkx : (ys.length : Int) < (xs.length : Int) := by omega
      have C1 : Hid (runsB ac nx xs ys = z) := (runsB_end Hge.out Hrun.out hxz).trans hacc
      clear hxz har hz hacc hxb ra
      have gc2 := fun d os => cell_regrown c2' d os
      have ge0 := fun d os => cell_regrown e0 d os
      have ge1 := fun d os => cell_regrown e1' d os
      have ga0 := fun d os => cell_regrown a0 d os
      have gz0 := fun d os => cell_regrown z0 d os
      have gx0 := fun d os => cell_regrown x0 d os
      go_wp2_with fail
      refine Go.wp_region_quiet_below (by kernel_rfl) (by kernel_rfl) ?_
      repeat (first | go_big_quiet_step ((fail)) | quiet_step ((fail)))
      refine wpQuiet_nil ?_; intro _ hw'; obtain ⟨⟨dq, osq⟩, hw''⟩ := hw'; subst hw''; have hq := below_regrown wr dq osq; revert hq; generalize grow (redrawn wr dq) osq = w2; intro hq
      have HB2 := Lib.hid (show Below w0.heap.size w0 w2 from Below.on HB.out hq HB.out.size)
      clear hq c0 c1' c2' c3' e0 e1' a0 z0 x0 gc2 ge0 ge1 ga0 gz0 gx0
      go_wp2_with fail
      go_ret
      exact ⟨ret_bool (by rw [C1.out]), HB2.out⟩

theorem Blk.autAt {w : World} {g T : Nat} {t a : Int} {ac : List (List Bool)} {nx : List (List (List Int))} {s u : Option Addr} {c d : Nat} (L : Blk w g T [.int .i64 t, .int .i64 a, .slice s ac.length c, .slice u nx.length d]) (hr : Rd w (bbD ac) (.slice s ac.length c)) (hq : Rd w (iiiD nx) (.slice u nx.length d)) : AutAt w g 0 t a ac nx s u c d :=
  ⟨L.c0, L.c1, L.c2, L.c3, hr, hq⟩
theorem Blk.wdAt {w : World} {g T : Nat} {xs ys : List Int} {s u : Option Addr} {c d : Nat} (L : Blk w g T [.slice s xs.length c, .slice u ys.length d]) (hr : Rd w (intsD xs) (.slice s xs.length c)) (hq : Rd w (intsD ys) (.slice u ys.length d)) : WdAt w g 0 xs ys :=
  ⟨_, _, _, _, L.c0, L.c1, hr, hq⟩
noncomputable def runR (t a : Int) (ac : List (List Bool)) (nx : List (List (List Int))) (xs ys : List Int) : Bool := autB t a ac nx && wordB t a xs ys && runsB ac nx xs ys
noncomputable def runK (t a : Int) (ac : List (List Bool)) (nx : List (List (List Int))) (xs ys : List Int) : Int := if autB t a ac nx && wordB t a xs ys then 0 else 1
set_option maxHeartbeats 2000000 in
theorem specRunAutomaton_i {t a : Int} {ac : List (List Bool)} {nx : List (List (List Int))} {xs ys : List Int} {s u p q : Option Addr} {c d pc qc : Nat} {w : World} (hr : Rd w (bbD ac) (.slice s ac.length c)) (hq : Rd w (iiiD nx) (.slice u nx.length d)) (hx : Rd w (intsD xs) (.slice p xs.length pc)) (hy : Rd w (intsD ys) (.slice q ys.length qc)) :
    Calls Try.prog 33 #[.agg #[.int .i64 t, .int .i64 a, .slice s ac.length c, .slice u nx.length d], .agg #[.slice p xs.length pc, .slice q ys.length qc]] w
      fun e w' => e = .returned (.tuple #[.bool (runR t a ac nx xs ys), .int .i64 (runK t a ac nx xs ys)]) ∧ Below w.heap.size w w' := by
  go_enter Try.func33, Try.ntmps33
  go_wp2_with fail
  have L := (Blk.new4 w 32 (.int .i64 t) (.int .i64 a) (.slice s ac.length c) (.slice u nx.length d)).alloc (.cells #[.slice p xs.length pc, .slice q ys.length qc] 64)
  have M := Blk.new2 (w.alloc (.cells #[.int .i64 t, .int .i64 a, .slice s ac.length c, .slice u nx.length d] 32)) 64 (.slice p xs.length pc) (.slice q ys.length qc)
  simp at M
  have hB : Below w.heap.size w ((w.alloc (.cells #[.int .i64 t, .int .i64 a, .slice s ac.length c, .slice u nx.length d] 32)).alloc (.cells #[.slice p xs.length pc, .slice q ys.length qc] 64)) := by (repeat' (first | exact Below.refl _ _ | assumption | (refine Below.alloc ?_ (by first | omega | (simp; done) | (simp; omega)) _) | (refine Below.drew ?_) | (refine Below.setCell ?_ (by first | omega | (simp; done) | (simp; omega)) _)))
  have hB0 := hB
  generalize ((w.alloc (.cells #[.int .i64 t, .int .i64 a, .slice s ac.length c, .slice u nx.length d] 32)).alloc (.cells #[.slice p xs.length pc, .slice q ys.length qc] 64)) = v0 at L M hB hB0 ⊢
  have l0 := L.c0
  have l1 := L.c1
  have l2 := L.c2
  have l3 := L.c3
  have m0 := M.c0
  have m1 := M.c1
  have ltL := L.lt
  have ltM := M.lt
  go_wp2_with fail
  refine (l02Ok_i (L.autAt (hr.below hB) (hq.below hB))).mono ?_
  rintro x w1 ⟨rfl, hb⟩
  clear l0 l1 l2 l3 m0 m1 ltL ltM
  replace hB := Below.on hB hb hB.size
  replace L := L.below hb
  replace M := M.below hb
  clear hb
  have szW1 := hB.size
  cases hs1 : autB t a ac nx
  · have l0 := L.c0
    have l1 := L.c1
    have l2 := L.c2
    have l3 := L.c3
    have ltL := L.lt
    have m0 := M.c0
    have m1 := M.c1
    have ltM := M.lt
    go_wp2_with fail
    go_ret2
    exact ⟨ret_bi (by simp [runR, hs1]) (by simp [runK, hs1]), hB⟩
  have Hs1 := Lib.hid hs1
  clear hs1
  have l0 := L.c0
  have l1 := L.c1
  have l2 := L.c2
  have l3 := L.c3
  have m0 := M.c0
  have m1 := M.c1
  have ltL := L.lt
  have ltM := M.lt
  go_wp2_with fail
  refine (l01Word_i (M.wdAt (hx.below hB) (hy.below hB))).mono ?_
  rintro x w2 ⟨rfl, hb⟩
  clear l0 l1 l2 l3 m0 m1 ltL ltM
  replace hB := Below.on hB hb hB.size
  replace L := L.below hb
  replace M := M.below hb
  clear hb
  have szW2 := hB.size
  cases hs2 : wordB t a xs ys
  · have l0 := L.c0
    have l1 := L.c1
    have l2 := L.c2
    have l3 := L.c3
    have ltL := L.lt
    have m0 := M.c0
    have m1 := M.c1
    have ltM := M.lt
    go_wp2_with fail
    go_ret2
    exact ⟨ret_bi (by simp [runR, hs2]) (by simp [runK, hs2]), hB⟩
  have Hs2 := Lib.hid hs2
  clear hs2
  have l0 := L.c0
  have l1 := L.c1
  have l2 := L.c2
  have l3 := L.c3
  have m0 := M.c0
  have m1 := M.c1
  have ltL := L.lt
  have ltM := M.lt
  go_wp2_with fail
  refine (l02Runs_i (L.autAt (hr.below hB) (hq.below hB)) (M.wdAt (hx.below hB) (hy.below hB)) (autB_true.1 Hs1.out) Hs2.out).mono ?_
  rintro x w3 ⟨rfl, hb⟩
  clear l0 l1 l2 l3 m0 m1 ltL ltM
  replace hB := Below.on hB hb hB.size
  replace L := L.below hb
  replace M := M.below hb
  clear hb
  have szW3 := hB.size
  have l0 := L.c0
  have l1 := L.c1
  have l2 := L.c2
  have l3 := L.c3
  have m0 := M.c0
  have m1 := M.c1
  have ltL := L.lt
  have ltM := M.lt
  go_wp2_with fail
  go_ret2
  exact ⟨ret_bi (by simp [runR, Hs1.out, Hs2.out]) (by simp [runK, Hs1.out, Hs2.out]), hB⟩

set_option maxRecDepth 100000 in
set_option maxHeartbeats 16000000 in
theorem implRunAutomaton_i {t a : Int} {ac : List (List Bool)} {nx : List (List (List Int))} {xs ys : List Int} {s u p q : Option Addr} {c d pc qc : Nat} {w : World} (hr : Rd w (bbD ac) (.slice s ac.length c)) (hq : Rd w (iiiD nx) (.slice u nx.length d)) (hx : Rd w (intsD xs) (.slice p xs.length pc)) (hy : Rd w (intsD ys) (.slice q ys.length qc)) :
    Calls Try.prog 35 #[.agg #[.int .i64 t, .int .i64 a, .slice s ac.length c, .slice u nx.length d], .agg #[.slice p xs.length pc, .slice q ys.length qc]] w
      fun e w' => e = .returned (.tuple #[.bool (runR t a ac nx xs ys), .int .i64 (runK t a ac nx xs ys)]) ∧ Below w.heap.size w w' := by
  obtain ⟨hlen, hcap⟩ := nest_bd hr
  obtain ⟨hlen', hcap'⟩ := nest_bd hq
  obtain ⟨-, hlen2, hcap2, -⟩ := hx.sl_at
  obtain ⟨-, hlen3, hcap3, -⟩ := hy.sl_at
  unfold maxLen at hcap hcap' hcap2 hcap3
  go_enter Try.func35, Try.ntmps35
  go_wp2_with fail
  have L := (Blk.new4 w 32 (.int .i64 t) (.int .i64 a) (.slice s ac.length c) (.slice u nx.length d)).alloc (.cells #[.slice p xs.length pc, .slice q ys.length qc] 64)
  have M := Blk.new2 (w.alloc (.cells #[.int .i64 t, .int .i64 a, .slice s ac.length c, .slice u nx.length d] 32)) 64 (.slice p xs.length pc) (.slice q ys.length qc)
  simp at M
  have hB : Below w.heap.size w ((w.alloc (.cells #[.int .i64 t, .int .i64 a, .slice s ac.length c, .slice u nx.length d] 32)).alloc (.cells #[.slice p xs.length pc, .slice q ys.length qc] 64)) := by (repeat' (first | exact Below.refl _ _ | assumption | (refine Below.alloc ?_ (by first | omega | (simp; done) | (simp; omega)) _) | (refine Below.drew ?_) | (refine Below.setCell ?_ (by first | omega | (simp; done) | (simp; omega)) _)))
  have hB0 := hB
  generalize ((w.alloc (.cells #[.int .i64 t, .int .i64 a, .slice s ac.length c, .slice u nx.length d] 32)).alloc (.cells #[.slice p xs.length pc, .slice q ys.length qc] 64)) = v0 at L M hB hB0 ⊢
  have l0 := L.c0
  have l1 := L.c1
  have l2 := L.c2
  have l3 := L.c3
  have m0 := M.c0
  have m1 := M.c1
  have ltL := L.lt
  have ltM := M.lt
  go_wp2_with fail
  refine (implValidAutomaton_i (hr.below hB) (hq.below hB)).mono ?_
  rintro x w1 ⟨rfl, hb⟩
  clear l0 l1 l2 l3 m0 m1 ltL ltM
  replace hB := Below.on hB hb hB.size
  replace L := L.below hb
  replace M := M.below hb
  clear hb
  have szW1 := hB.size
  cases hs1 : autB t a ac nx
  · have l0 := L.c0
    have l1 := L.c1
    have l2 := L.c2
    have l3 := L.c3
    have ltL := L.lt
    have m0 := M.c0
    have m1 := M.c1
    have ltM := M.lt
    go_wp2_with fail
    go_ret2
    exact ⟨ret_bi (by simp [runR, hs1]) (by simp [runK, hs1]), hB⟩
  have Hs1 := Lib.hid hs1
  clear hs1
  have l0 := L.c0
  have l1 := L.c1
  have l2 := L.c2
  have l3 := L.c3
  have m0 := M.c0
  have m1 := M.c1
  have ltL := L.lt
  have ltM := M.lt
  go_wp2_with fail
  refine (isWord_i (hx.below hB) (hy.below hB) (autB_true.1 Hs1.out).sig).mono ?_
  rintro x w2 ⟨rfl, hb⟩
  clear l0 l1 l2 l3 m0 m1 ltL ltM
  replace hB := Below.on hB hb hB.size
  replace L := L.below hb
  replace M := M.below hb
  clear hb
  have szW2 := hB.size
  cases hs2 : wordB t a xs ys
  · have l0 := L.c0
    have l1 := L.c1
    have l2 := L.c2
    have l3 := L.c3
    have ltL := L.lt
    have m0 := M.c0
    have m1 := M.c1
    have ltM := M.lt
    go_wp2_with fail
    go_ret2
    exact ⟨ret_bi (by simp [runR, hs2]) (by simp [runK, hs2]), hB⟩
  have Hs2 := Lib.hid hs2
  clear hs2
  have l0 := L.c0
  have l1 := L.c1
  have l2 := L.c2
  have l3 := L.c3
  have m0 := M.c0
  have m1 := M.c1
  have ltL := L.lt
  have ltM := M.lt
  go_wp2_with fail
  have hok := autB_true.1 Hs1.out
  obtain ⟨hn10, hxl, hxs, hys⟩ := wordB_parts Hs2.out
  have hn1 := hok.lo
  have hn2 := hok.hi
  have hnl := hok.len
  have h := L.autAt (hr.below hB) (hq.below hB)
  have g4 := hr.below hB
  have g5 := hq.below hB
  have hx2 := hx.below hB
  have hy2 := hy.below hB
  have Hok := Lib.hid hok
  have Hxs := Lib.hid hxs
  have Hys := Lib.hid hys
  have Hh := Lib.hid h
  have E0 := Lib.hid M.c0
  have E1 := Lib.hid M.c1
  have hel := M.lt
  have HZ := Lib.hid hB.size
  have HB0 := Lib.hid hB
  have HR : Hid (runR t a ac nx xs ys = runsB ac nx xs ys) := by show _ = _; simp [runR, Hs1.out, Hs2.out]
  have HK : Hid (runK t a ac nx xs ys = 0) := by show _ = _; simp [runK, Hs1.out, Hs2.out]
  clear l0 l1 l2 l3 m0 m1 hr hq hx hy hok hxs hys h hB
  have hr := hx2
  have hr' := hy2
  clear hx2 hy2
  obtain ⟨w0, hw0⟩ : ∃ v, v = w2 := ⟨_, rfl⟩
  subst hw0
  go_loopw [6, 22] (fun q i wr => ∃ k s0 : Nat, k ≤ ys.length ∧ i = .int .i64 k ∧ q = .int .i64 s0 ∧ s0 < ac.length ∧ runN nx xs ys k = s0 ∧ (∀ j, j ≤ k → 0 ≤ runN nx xs ys j) ∧ Below w0.heap.size w0 wr) (fun _ i _ => ys.length - (intOf i).toNat)
  case atStart => exact ⟨0, 0, by omega, rfl, rfl, by omega, rfl, fun j hj => (by rw [show j = 0 by omega]; exact Int.le_refl 0), Below.refl _ _⟩
  case round =>
    obtain ⟨k, s0, hk, rfl, rfl, hsn, hrun, hge, hB⟩ := hrel
    have szB := hB.size
    have Hrun := Lib.hid hrun
    have Hge := Lib.hid hge
    have HB := Lib.hid hB
    clear hrun hge hB
    have hkz := Int.natCast_nonneg k
    obtain ⟨c0, c1', c2', c3', -, -⟩ := Hh.out.below HB.out
    simp only [Nat.zero_add] at c1' c2' c3'
    have e0 := (HB.out.cell (p := ⟨w.heap.size + 1, 0, none⟩) hel).trans E0.out
    have e1' := (HB.out.cell (p := ⟨w.heap.size + 1, 1, none⟩) hel).trans E1.out
    by_cases hlt : k < ys.length
    · skip
      obtain ⟨xz, hxz⟩ : ∃ e, xs[k]? = some e := ⟨_, List.getElem?_eq_getElem (by omega)⟩
      obtain ⟨yz, hyz⟩ : ∃ e, ys[k]? = some e := ⟨_, List.getElem?_eq_getElem hlt⟩
      obtain ⟨x, rfl, hxb⟩ := allIn_at Hxs.out hxz
      obtain ⟨y, rfl, hyb⟩ := allIn_at Hys.out hyz
      obtain ⟨nr, row, z, hnr, hrow, hz, hz1, hz2, hstep⟩ := Hok.out.next hsn hxb hyb
      obtain ⟨ub, uo, rfl⟩ := nest_some (f := iiD) g5 (by omega)
      obtain ⟨-, sn, cn, b0, rb⟩ := nest_sl (g := intsD) (g5.below HB.out) hnr
      obtain ⟨vb, vo, rfl⟩ := nest_some (f := intsD) rb (by have := (List.getElem?_eq_some_iff.1 hrow).1; omega)
      obtain ⟨-, sr, cr, r0, rr⟩ := nest_sl (g := D.int) rb hrow
      obtain ⟨tb, to', rfl⟩ := nest_some (f := D.int) rr (by have := (List.getElem?_eq_some_iff.1 hz).1; omega)
      obtain ⟨-, z0⟩ := int_in rr hz
      obtain ⟨xb, xo, rfl⟩ := int_some hr (by omega)
      obtain ⟨yb, yo, rfl⟩ := int_some hr' (by omega)
      obtain ⟨-, x0⟩ := int_in (hr.below HB.out) hxz
      obtain ⟨-, y0⟩ := int_in (hr'.below HB.out) hyz
      obtain ⟨rb1, rb2⟩ := nest_bd rb
      obtain ⟨rr1, rr2⟩ := nest_bd rr
      unfold maxLen at rb2 rr2
      have hsz := Int.natCast_nonneg s0
      have hsb : (s0 : Int) < (nx.length : Int) := by have := (List.getElem?_eq_some_iff.1 hnr).1; omega
      have hxz' := Int.natCast_nonneg x
      have hxb' : (x : Int) < (nr.length : Int) := by have := (List.getElem?_eq_some_iff.1 hrow).1; omega
      have hyz' := Int.natCast_nonneg y
      have hyb' : (y : Int) < (row.length : Int) := by have := (List.getElem?_eq_some_iff.1 hz).1; omega
      have hkx : (k : Int) < (xs.length : Int) := by omega
      have hky : (k : Int) < (ys.length : Int) := by omega
      have Hnext : Hid (runN nx xs ys (k + 1) = z) := (runN_succ Hrun.out hxz hyz).trans hstep
      clear hxz hyz hnr hrow hz hstep hxb hyb rb rr
      have gc3 := fun d os => cell_regrown c3' d os
      have ge0 := fun d os => cell_regrown e0 d os
      have ge1 := fun d os => cell_regrown e1' d os
      have gb0 := fun d os => cell_regrown b0 d os
      have gr0 := fun d os => cell_regrown r0 d os
      have gz0 := fun d os => cell_regrown z0 d os
      have gx0 := fun d os => cell_regrown x0 d os
      have gy0 := fun d os => cell_regrown y0 d os
      go_wp2_with fail
      refine Go.wp_region_quiet_below (by kernel_rfl) (by kernel_rfl) ?_
      repeat (first | go_big_quiet_step ((fail)) | quiet_step ((fail)))
      refine wpQuiet_nil ?_; intro _ hw'; obtain ⟨⟨dq, osq⟩, hw''⟩ := hw'; subst hw''; have hq := below_regrown wr dq osq; revert hq; generalize grow (redrawn wr dq) osq = w2; intro hq
      have HB2 := Lib.hid (show Below w0.heap.size w0 w2 from Below.on HB.out hq HB.out.size)
      clear hq c0 c1' c2' c3' e0 e1' b0 r0 z0 x0 y0 gc3 ge0 ge1 gb0 gr0 gz0 gx0 gy0
      by_cases hneg : z < 0
      · have C1 := Lib.hid (runsB_no (ac := ac) hlt (by rw [Hnext.out]; exact hneg))
        go_wp2_with fail
        go_ret2
        exact ⟨ret_bi (by rw [HR.out, C1.out]) (by rw [HK.out]), HB0.out.trans (HB2.out.mono HZ.out)⟩
      · obtain ⟨z', rfl⟩ : ∃ m : Nat, z = (m : Int) := ⟨z.toNat, by omega⟩
        have Hge2 : Hid (∀ j, j ≤ k + 1 → 0 ≤ runN nx xs ys j) := by
          intro j hj
          by_cases hjk : j ≤ k
          · exact Hge.out j hjk
          · obtain rfl : j = k + 1 := by omega
            rw [Hnext.out]
            omega
        go_wp2_with fail
        go_roundw
        case rel => exact ⟨k + 1, z', by omega, by go_num, rfl, by omega, Hnext.out, Hge2.out, HB2.out⟩
        case measure => simp [intOf]; omega
    · skip
      obtain rfl : k = ys.length := by omega
      obtain ⟨xz, hxz⟩ : ∃ e, xs[ys.length]? = some e := ⟨_, List.getElem?_eq_getElem (by omega)⟩
      obtain ⟨x, rfl, hxb⟩ := allIn_at Hxs.out hxz
      obtain ⟨ar, z, har, hz, hacc⟩ := Hok.out.acc hsn hxb
      obtain ⟨sb, so, rfl⟩ := nest_some (f := boolsD) g4 (by omega)
      obtain ⟨-, sa, ca, a0, ra⟩ := nest_sl (g := D.bool) (g4.below HB.out) har
      obtain ⟨ab, ao, rfl⟩ := nest_some (f := D.bool) ra (by have := (List.getElem?_eq_some_iff.1 hz).1; omega)
      obtain ⟨-, z0⟩ := bool_in ra hz
      obtain ⟨xb, xo, rfl⟩ := int_some hr (by omega)
      obtain ⟨-, x0⟩ := int_in (hr.below HB.out) hxz
      obtain ⟨ra1, ra2⟩ := nest_bd ra
      unfold maxLen at ra2
      have hsz := Int.natCast_nonneg s0
      have hsb : (s0 : Int) < (ac.length : Int) := by omega
      have hxz' := Int.natCast_nonneg x
      have hxb' : (x : Int) < (ar.length : Int) := by have := (List.getElem?_eq_some_iff.1 hz).1; omega
      have hkx : (ys.length : Int) < (xs.length : Int) := by omega
      have C1 : Hid (runsB ac nx xs ys = z) := (runsB_end Hge.out Hrun.out hxz).trans hacc
      clear hxz har hz hacc hxb ra
      have gc2 := fun d os => cell_regrown c2' d os
      have ge0 := fun d os => cell_regrown e0 d os
      have ge1 := fun d os => cell_regrown e1' d os
      have ga0 := fun d os => cell_regrown a0 d os
      have gz0 := fun d os => cell_regrown z0 d os
      have gx0 := fun d os => cell_regrown x0 d os
      go_wp2_with fail
      refine Go.wp_region_quiet_below (by kernel_rfl) (by kernel_rfl) ?_
      repeat (first | go_big_quiet_step ((fail)) | quiet_step ((fail)))
      refine wpQuiet_nil ?_; intro _ hw'; obtain ⟨⟨dq, osq⟩, hw''⟩ := hw'; subst hw''; have hq := below_regrown wr dq osq; revert hq; generalize grow (redrawn wr dq) osq = w2; intro hq
      have HB2 := Lib.hid (show Below w0.heap.size w0 w2 from Below.on HB.out hq HB.out.size)
      clear hq c0 c1' c2' c3' e0 e1' a0 z0 x0 gc2 ge0 ge1 ga0 gz0 gx0
      go_wp2_with fail
      go_ret2
      exact ⟨ret_bi (by rw [HR.out, C1.out]) (by rw [HK.out]), HB0.out.trans (HB2.out.mono HZ.out)⟩
end Go.Proofs.Ytlnojmmjpgpjdaa
