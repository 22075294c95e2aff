/-
  Parts of a proof, joined: Run, PrP, PrS, PrL, LangA, Mat, LwW. No condition.
-/
import Derived.BigRegion
import Derived.Maps.AppendAt
import Derived.Lib.AppendZeros
import Derived.Test.YtfhlddbngjlhbaaPk17
namespace Go.Proofs.Ytfhlddbngjlhbaa
set_option linter.unusedVariables false
set_option linter.unusedSimpArgs false
open Go.ChangeShapes Go.WideShapes Go.ChangeAt Go.RowKit Go.Sort
def stepN (nx : List (List (List Int))) (s x y : Nat) : Int := ((nx.getD s []).getD x []).getD y (-1)
theorem AutOk.next {t a : Int} {ac : List (List Bool)} {nx : List (List (List Int))} (h : AutOk t a ac nx) {s x y : Nat} (hs : s < ac.length) (hx : (x : Int) < atomsN t) (hy : (y : Int) < a) :
  ∃ nr row z, nx[s]? = some nr ∧ nr[x]? = some row ∧ row[y]? = some z ∧ -1 ≤ z ∧ z ≤ (ac.length : Int) - 1 ∧ stepN nx s x y = z := by
 obtain ⟨ar, har⟩ : ∃ e, ac[s]? = some e := ⟨_, List.getElem?_eq_getElem hs⟩
 obtain ⟨nr, hnr⟩ : ∃ e, nx[s]? = some e := ⟨_, List.getElem?_eq_getElem (by rw [h.len]; exact hs)⟩
 obtain ⟨_, h2, h3⟩ := h.st s ar nr har hnr
 obtain ⟨row, hrow⟩ : ∃ e, nr[x]? = some e := ⟨_, List.getElem?_eq_getElem (by omega)⟩
 obtain ⟨h4, h5⟩ := h3 x row hrow
 obtain ⟨z, hz⟩ : ∃ e, row[y]? = some e := ⟨_, List.getElem?_eq_getElem (by omega)⟩
 obtain ⟨h6, h7⟩ := h5 y z hz
 refine ⟨nr, row, z, hnr, hrow, hz, h6, h7, ?_⟩
 unfold stepN
 rw [List.getD_eq_getElem?_getD, List.getD_eq_getElem?_getD, List.getD_eq_getElem?_getD, hnr]
 simp [hrow, hz]
theorem AutOk.acc {t a : Int} {ac : List (List Bool)} {nx : List (List (List Int))} (h : AutOk t a ac nx) {s x : Nat} (hs : s < ac.length) (hx : (x : Int) < atomsN t) :
  ∃ ar z, ac[s]? = some ar ∧ ar[x]? = some z ∧ (ac.getD s []).getD x false = z := by
 obtain ⟨ar, har⟩ : ∃ e, ac[s]? = some e := ⟨_, List.getElem?_eq_getElem hs⟩
 obtain ⟨nr, hnr⟩ : ∃ e, nx[s]? = some e := ⟨_, List.getElem?_eq_getElem (by rw [h.len]; exact hs)⟩
 obtain ⟨h1, _, _⟩ := h.st s ar nr har hnr
 obtain ⟨z, hz⟩ : ∃ e, ar[x]? = some e := ⟨_, List.getElem?_eq_getElem (by omega)⟩
 refine ⟨ar, z, har, hz, ?_⟩
 rw [List.getD_eq_getElem?_getD, List.getD_eq_getElem?_getD, har]
 simp [hz]
theorem allIn_at {zs : List Int} {n : Int} {i : Nat} {z : Int} (h : allIn zs n = true) (hz : zs[i]? = some z) : ∃ m : Nat, z = (m : Int) ∧ (m : Int) < n := by
 unfold allIn at h
 rw [List.all_eq_true] at h
 have := h z (List.mem_of_getElem? hz)
 simp only [inB, Bool.and_eq_true, decide_eq_true_eq] at this
 exact ⟨z.toNat, by omega, by omega⟩
theorem wordB_parts {t a : Int} {xs ys : List Int} (h : wordB t a xs ys = true) : ys.length ≤ 10 ∧ xs.length = ys.length + 1 ∧ allIn xs (atomsN t) = true ∧ allIn ys a = true := by
 simp only [wordB, Bool.and_eq_true, decide_eq_true_eq] at h
 exact ⟨h.1.1.1.2, h.1.1.2, h.1.2, h.2⟩
def runN (nx : List (List (List Int))) (xs ys : List Int) : Nat → Int
 | 0 => 0
 | k + 1 => stepN nx (runN nx xs ys k).toNat (xs.getD k 0).toNat (ys.getD k 0).toNat
theorem runN_succ {nx : List (List (List Int))} {xs ys : List Int} {k s x y : Nat} (h : runN nx xs ys k = (s : Int)) (hx : xs[k]? = some (x : Int)) (hy : ys[k]? = some (y : Int)) : runN nx xs ys (k + 1) = stepN nx s x y := by
 show stepN nx (runN nx xs ys k).toNat (xs.getD k 0).toNat (ys.getD k 0).toNat = _
 rw [h, List.getD_eq_getElem?_getD, List.getD_eq_getElem?_getD, hx, hy]
 simp
noncomputable def runsB (ac : List (List Bool)) (nx : List (List (List Int))) (xs ys : List Int) : Bool :=
 @decide (∀ k, k ≤ ys.length → 0 ≤ runN nx xs ys k) (Classical.propDecidable _) && (ac.getD (runN nx xs ys ys.length).toNat []).getD (xs.getD ys.length 0).toNat false
theorem runsB_no {ac : List (List Bool)} {nx : List (List (List Int))} {xs ys : List Int} {k : Nat} (hk : k ≤ ys.length) (h : runN nx xs ys k < 0) : runsB ac nx xs ys = false := by
 have : @decide (∀ k, k ≤ ys.length → 0 ≤ runN nx xs ys k) (Classical.propDecidable _) = false := by
  apply @decide_eq_false _ (Classical.propDecidable _)
  intro q
  have := q k hk
  omega
 unfold runsB
 rw [this, Bool.false_and]
theorem runsB_end {ac : List (List Bool)} {nx : List (List (List Int))} {xs ys : List Int} {s x : Nat} (h : ∀ k, k ≤ ys.length → 0 ≤ runN nx xs ys k) (hs : runN nx xs ys ys.length = (s : Int)) (hx : xs[ys.length]? = some (x : Int)) : runsB ac nx xs ys = (ac.getD s []).getD x false := by
 have : @decide (∀ k, k ≤ ys.length → 0 ≤ runN nx xs ys k) (Classical.propDecidable _) = true := @decide_eq_true _ (Classical.propDecidable _) h
 unfold runsB
 rw [this, Bool.true_and, hs, List.getD_eq_getElem?_getD (l := xs), hx]
 simp
set_option maxRecDepth 100000 in
set_option maxHeartbeats 16000000 in
theorem l02Runs_i {t a : Int} {ac : List (List Bool)} {nx : List (List (List Int))} {xs ys : List Int} {s u : Option Addr} {c d b o b' o' : Nat} {w0 : World} (h : AutAt w0 b o t a ac nx s u c d) (hw : WdAt w0 b' o' xs ys) (hok : AutOk t a ac nx) (hwd : wordB t a xs ys = true) :
  Calls Try.prog 46 #[.pointer (some ⟨b, o, none⟩), .pointer (some ⟨b', o', none⟩)] w0 fun e w' => e = .returned (.bool (runsB ac nx xs ys)) ∧ Below w0.heap.size w0 w' := by
 have g4 := h.2.2.2.2.1
 have g5 := h.2.2.2.2.2
 obtain ⟨hlen, hcap⟩ := nest_bd g4
 obtain ⟨hlen', hcap'⟩ := nest_bd g5
 obtain ⟨p0, q0, p1, q1, e0, e1, hr, hr'⟩ := hw
 obtain ⟨-, hlen2, hcap2, -⟩ := hr.sl_at
 obtain ⟨-, hlen3, hcap3, -⟩ := hr'.sl_at
 unfold maxLen at hcap hcap' hcap2 hcap3
 obtain ⟨hn10, hxl, hxs, hys⟩ := wordB_parts hwd
 have hn1 := hok.lo
 have hn2 := hok.hi
 have hnl := hok.len
 have Hok := Lib.hid hok
 have Hxs := Lib.hid hxs
 have Hys := Lib.hid hys
 have Hh := Lib.hid h
 have hel : b' < w0.heap.size := World.block_lt_of_cell? w0 _ e0
 have E0 := Lib.hid e0
 have E1 := Lib.hid e1
 clear hxs hys hwd hok h e0 e1
 go_enter Try.func46, Try.ntmps46
 go_wp2_with fail
 go_loopw [5, 6] (fun q i wr => ∃ k s0 : Nat, k ≤ ys.length ∧ i = .int .i64 k ∧ q = .int .i64 s0 ∧ s0 < ac.length ∧ runN nx xs ys k = s0 ∧ (∀ j, j ≤ k → 0 ≤ runN nx xs ys j) ∧ Below w0.heap.size w0 wr) (fun _ i _ => ys.length - (intOf i).toNat)
 case atStart => exact ⟨0, 0, by omega, rfl, rfl, by omega, rfl, fun j hj => (by rw [show j = 0 by omega]; exact Int.le_refl 0), Below.refl _ _⟩
 case round =>
  obtain ⟨k, s0, hk, rfl, rfl, hsn, hrun, hge, hB⟩ := hrel
  have szB := hB.size
  have Hrun := Lib.hid hrun
  have Hge := Lib.hid hge
  have HB := Lib.hid hB
  clear hrun hge hB
  have hkz := Int.natCast_nonneg k
  obtain ⟨c0, c1', c2', c3', -, -⟩ := Hh.out.below HB.out
  have e0 := (HB.out.cell (p := ⟨b', o', none⟩) hel).trans E0.out
  have e1' := (HB.out.cell (p := ⟨b', o' + 1, none⟩) hel).trans E1.out
  by_cases hlt : k < ys.length
  ·
   skip
   obtain ⟨xz, hxz⟩ : ∃ e, xs[k]? = some e := ⟨_, List.getElem?_eq_getElem (by omega)⟩
   obtain ⟨yz, hyz⟩ : ∃ e, ys[k]? = some e := ⟨_, List.getElem?_eq_getElem hlt⟩
   obtain ⟨x, rfl, hxb⟩ := allIn_at Hxs.out hxz
   obtain ⟨y, rfl, hyb⟩ := allIn_at Hys.out hyz
   obtain ⟨nr, row, z, hnr, hrow, hz, hz1, hz2, hstep⟩ := Hok.out.next hsn hxb hyb
   obtain ⟨ub, uo, rfl⟩ := nest_some (f := iiD) g5 (by omega)
   obtain ⟨-, sn, cn, b0, rb⟩ := nest_sl (g := intsD) (g5.below HB.out) hnr
   obtain ⟨vb, vo, rfl⟩ := nest_some (f := intsD) rb (by have := (List.getElem?_eq_some_iff.1 hrow).1; omega)
   obtain ⟨-, sr, cr, r0, rr⟩ := nest_sl (g := D.int) rb hrow
   obtain ⟨tb, to', rfl⟩ := nest_some (f := D.int) rr (by have := (List.getElem?_eq_some_iff.1 hz).1; omega)
   obtain ⟨-, z0⟩ := int_in rr hz
   obtain ⟨xb, xo, rfl⟩ := int_some hr (by omega)
   obtain ⟨yb, yo, rfl⟩ := int_some hr' (by omega)
   obtain ⟨-, x0⟩ := int_in (hr.below HB.out) hxz
   obtain ⟨-, y0⟩ := int_in (hr'.below HB.out) hyz
   obtain ⟨rb1, rb2⟩ := nest_bd rb
   obtain ⟨rr1, rr2⟩ := nest_bd rr
   unfold maxLen at rb2 rr2
   have hsz := Int.natCast_nonneg s0
   have hsb : (s0 : Int) < (nx.length : Int) := by have := (List.getElem?_eq_some_iff.1 hnr).1; omega
   have hxz' := Int.natCast_nonneg x
   have hxb' : (x : Int) < (nr.length : Int) := by have := (List.getElem?_eq_some_iff.1 hrow).1; omega
   have hyz' := Int.natCast_nonneg y
   have hyb' : (y : Int) < (row.length : Int) := by have := (List.getElem?_eq_some_iff.1 hz).1; omega
   have hkx : (k : Int) < (xs.length : Int) := by omega
   have hky : (k : Int) < (ys.length : Int) := by omega
   have Hnext : Hid (runN nx xs ys (k + 1) = z) := (runN_succ Hrun.out hxz hyz).trans hstep
   clear hxz hyz hnr hrow hz hstep hxb hyb rb rr
   have gc3 := fun d os => cell_regrown c3' d os
   have ge0 := fun d os => cell_regrown e0 d os
   have ge1 := fun d os => cell_regrown e1' d os
   have gb0 := fun d os => cell_regrown b0 d os
   have gr0 := fun d os => cell_regrown r0 d os
   have gz0 := fun d os => cell_regrown z0 d os
   have gx0 := fun d os => cell_regrown x0 d os
   have gy0 := fun d os => cell_regrown y0 d os
   go_wp2_with fail
   refine Go.wp_region_quiet_below (by kernel_rfl) (by kernel_rfl) ?_
   repeat (first | go_big_quiet_step ((fail)) | quiet_step ((fail)))
   refine wpQuiet_nil ?_; intro _ hw'; obtain ⟨⟨dq, osq⟩, hw''⟩ := hw'; subst hw''; have hq := below_regrown wr dq osq; revert hq; generalize grow (redrawn wr dq) osq = w2; intro hq
   have HB2 := Lib.hid (show Below w0.heap.size w0 w2 from Below.on HB.out hq HB.out.size)
   clear hq c0 c1' c2' c3' e0 e1' b0 r0 z0 x0 y0 gc3 ge0 ge1 gb0 gr0 gz0 gx0 gy0
   by_cases hneg : z < 0
   ·
    have C1 := Lib.hid (runsB_no (ac := ac) hlt (by rw [Hnext.out]; exact hneg))
    go_wp2_with fail
    go_ret
    exact ⟨ret_bool (by rw [C1.out]), HB2.out⟩
   ·
    obtain ⟨z', rfl⟩ : ∃ m : Nat, z = (m : Int) := ⟨z.toNat, by omega⟩
    have Hge2 : Hid (∀ j, j ≤ k + 1 → 0 ≤ runN nx xs ys j) := by
     intro j hj
     by_cases hjk : j ≤ k
     ·
      exact Hge.out j hjk
     ·
      obtain rfl : j = k + 1 := by omega
      rw [Hnext.out]
      omega
    go_wp2_with fail
    go_roundw
    case rel => exact ⟨k + 1, z', by omega, by go_num, rfl, by omega, Hnext.out, Hge2.out, HB2.out⟩
    case measure => simp [intOf]; omega
  ·
   skip
   obtain rfl : k = ys.length := by omega
   obtain ⟨xz, hxz⟩ : ∃ e, xs[ys.length]? = some e := ⟨_, List.getElem?_eq_getElem (by omega)⟩
   obtain ⟨x, rfl, hxb⟩ := allIn_at Hxs.out hxz
   obtain ⟨ar, z, har, hz, hacc⟩ := Hok.out.acc hsn hxb
   obtain ⟨sb, so, rfl⟩ := nest_some (f := boolsD) g4 (by omega)
   obtain ⟨-, sa, ca, a0, ra⟩ := nest_sl (g := D.bool) (g4.below HB.out) har
   obtain ⟨ab, ao, rfl⟩ := nest_some (f := D.bool) ra (by have := (List.getElem?_eq_some_iff.1 hz).1; omega)
   obtain ⟨-, z0⟩ := bool_in ra hz
   obtain ⟨xb, xo, rfl⟩ := int_some hr (by omega)
   obtain ⟨-, x0⟩ := int_in (hr.below HB.out) hxz
   obtain ⟨ra1, ra2⟩ := nest_bd ra
   unfold maxLen at ra2
   have hsz := Int.natCast_nonneg s0
   have hsb : (s0 : Int) < (ac.length : Int) := by omega
   have hxz' := Int.natCast_nonneg x
   have hxb' : (x : Int) < (ar.length : Int) := by have := (List.getElem?_eq_some_iff.1 hz).1; omega
   have hkx : (ys.length : Int) < (xs.length : Int) := by omega
   have C1 : Hid (runsB ac nx xs ys = z) := (runsB_end Hge.out Hrun.out hxz).trans hacc
   clear hxz har hz hacc hxb ra
   have gc2 := fun d os => cell_regrown c2' d os
   have ge0 := fun d os => cell_regrown e0 d os
   have ge1 := fun d os => cell_regrown e1' d os
   have ga0 := fun d os => cell_regrown a0 d os
   have gz0 := fun d os => cell_regrown z0 d os
   have gx0 := fun d os => cell_regrown x0 d os
   go_wp2_with fail
   refine Go.wp_region_quiet_below (by kernel_rfl) (by kernel_rfl) ?_
   repeat (first | go_big_quiet_step ((fail)) | quiet_step ((fail)))
   refine wpQuiet_nil ?_; intro _ hw'; obtain ⟨⟨dq, osq⟩, hw''⟩ := hw'; subst hw''; have hq := below_regrown wr dq osq; revert hq; generalize grow (redrawn wr dq) osq = w2; intro hq
   have HB2 := Lib.hid (show Below w0.heap.size w0 w2 from Below.on HB.out hq HB.out.size)
   clear hq c0 c1' c2' c3' e0 e1' a0 z0 x0 gc2 ge0 ge1 ga0 gz0 gx0
   go_wp2_with fail
   go_ret
   exact ⟨ret_bool (by rw [C1.out]), HB2.out⟩
theorem Blk.autAt {w : World} {g T : Nat} {t a : Int} {ac : List (List Bool)} {nx : List (List (List Int))} {s u : Option Addr} {c d : Nat} (L : Blk w g T [.int .i64 t, .int .i64 a, .slice s ac.length c, .slice u nx.length d]) (hr : Rd w (bbD ac) (.slice s ac.length c)) (hq : Rd w (iiiD nx) (.slice u nx.length d)) : AutAt w g 0 t a ac nx s u c d :=
 ⟨L.c0, L.c1, L.c2, L.c3, hr, hq⟩
theorem Blk.wdAt {w : World} {g T : Nat} {xs ys : List Int} {s u : Option Addr} {c d : Nat} (L : Blk w g T [.slice s xs.length c, .slice u ys.length d]) (hr : Rd w (intsD xs) (.slice s xs.length c)) (hq : Rd w (intsD ys) (.slice u ys.length d)) : WdAt w g 0 xs ys :=
 ⟨_, _, _, _, L.c0, L.c1, hr, hq⟩
noncomputable def runR (t a : Int) (ac : List (List Bool)) (nx : List (List (List Int))) (xs ys : List Int) : Bool := autB t a ac nx && wordB t a xs ys && runsB ac nx xs ys
noncomputable def runK (t a : Int) (ac : List (List Bool)) (nx : List (List (List Int))) (xs ys : List Int) : Int := if autB t a ac nx && wordB t a xs ys then 0 else 1
set_option maxHeartbeats 2000000 in
theorem specRunAutomaton_i {t a : Int} {ac : List (List Bool)} {nx : List (List (List Int))} {xs ys : List Int} {s u p q : Option Addr} {c d pc qc : Nat} {w : World} (hr : Rd w (bbD ac) (.slice s ac.length c)) (hq : Rd w (iiiD nx) (.slice u nx.length d)) (hx : Rd w (intsD xs) (.slice p xs.length pc)) (hy : Rd w (intsD ys) (.slice q ys.length qc)) :
  Calls Try.prog 19 #[.agg #[.int .i64 t, .int .i64 a, .slice s ac.length c, .slice u nx.length d], .agg #[.slice p xs.length pc, .slice q ys.length qc]] w
   fun e w' => e = .returned (.tuple #[.bool (runR t a ac nx xs ys), .int .i64 (runK t a ac nx xs ys)]) ∧ Below w.heap.size w w' := by
 go_enter Try.func19, Try.ntmps19
 go_wp2_with fail
 have L := (Blk.new4 w 31 (.int .i64 t) (.int .i64 a) (.slice s ac.length c) (.slice u nx.length d)).alloc (.cells #[.slice p xs.length pc, .slice q ys.length qc] 44)
 have M := Blk.new2 (w.alloc (.cells #[.int .i64 t, .int .i64 a, .slice s ac.length c, .slice u nx.length d] 31)) 44 (.slice p xs.length pc) (.slice q ys.length qc)
 simp at M
 have hB : Below w.heap.size w ((w.alloc (.cells #[.int .i64 t, .int .i64 a, .slice s ac.length c, .slice u nx.length d] 31)).alloc (.cells #[.slice p xs.length pc, .slice q ys.length qc] 44)) := by (repeat' first | exact Below.refl _ _ | assumption | apply Below.alloc | apply Below.drew | apply Below.setCell | omega | (simp; done) | (simp; omega))
 have hB0 := hB
 generalize ((w.alloc (.cells #[.int .i64 t, .int .i64 a, .slice s ac.length c, .slice u nx.length d] 31)).alloc (.cells #[.slice p xs.length pc, .slice q ys.length qc] 44)) = v0 at L M hB hB0 ⊢
 have l0 := L.c0
 have l1 := L.c1
 have l2 := L.c2
 have l3 := L.c3
 have m0 := M.c0
 have m1 := M.c1
 have ltL := L.lt
 have ltM := M.lt
 go_wp2_with fail
 refine (l02Ok_i (L.autAt (hr.below hB) (hq.below hB))).mono ?_
 rintro x w1 ⟨rfl, hb⟩
 clear l0 l1 l2 l3 m0 m1 ltL ltM
 replace hB := Below.on hB hb hB.size
 replace L := L.below hb
 replace M := M.below hb
 clear hb
 have szW1 := hB.size
 cases hs1 : autB t a ac nx
 ·
  have l0 := L.c0
  have l1 := L.c1
  have l2 := L.c2
  have l3 := L.c3
  have ltL := L.lt
  have m0 := M.c0
  have m1 := M.c1
  have ltM := M.lt
  go_wp2_with fail
  go_ret2
  exact ⟨ret_bi (by simp [runR, hs1]) (by simp [runK, hs1]), hB⟩
 have Hs1 := Lib.hid hs1
 clear hs1
 have l0 := L.c0
 have l1 := L.c1
 have l2 := L.c2
 have l3 := L.c3
 have m0 := M.c0
 have m1 := M.c1
 have ltL := L.lt
 have ltM := M.lt
 go_wp2_with fail
 refine (l01Word_i (M.wdAt (hx.below hB) (hy.below hB))).mono ?_
 rintro x w2 ⟨rfl, hb⟩
 clear l0 l1 l2 l3 m0 m1 ltL ltM
 replace hB := Below.on hB hb hB.size
 replace L := L.below hb
 replace M := M.below hb
 clear hb
 have szW2 := hB.size
 cases hs2 : wordB t a xs ys
 ·
  have l0 := L.c0
  have l1 := L.c1
  have l2 := L.c2
  have l3 := L.c3
  have ltL := L.lt
  have m0 := M.c0
  have m1 := M.c1
  have ltM := M.lt
  go_wp2_with fail
  go_ret2
  exact ⟨ret_bi (by simp [runR, hs2]) (by simp [runK, hs2]), hB⟩
 have Hs2 := Lib.hid hs2
 clear hs2
 have l0 := L.c0
 have l1 := L.c1
 have l2 := L.c2
 have l3 := L.c3
 have m0 := M.c0
 have m1 := M.c1
 have ltL := L.lt
 have ltM := M.lt
 go_wp2_with fail
 refine (l02Runs_i (L.autAt (hr.below hB) (hq.below hB)) (M.wdAt (hx.below hB) (hy.below hB)) (autB_true.1 Hs1.out) Hs2.out).mono ?_
 rintro x w3 ⟨rfl, hb⟩
 clear l0 l1 l2 l3 m0 m1 ltL ltM
 replace hB := Below.on hB hb hB.size
 replace L := L.below hb
 replace M := M.below hb
 clear hb
 have szW3 := hB.size
 have l0 := L.c0
 have l1 := L.c1
 have l2 := L.c2
 have l3 := L.c3
 have m0 := M.c0
 have m1 := M.c1
 have ltL := L.lt
 have ltM := M.lt
 go_wp2_with fail
 go_ret2
 exact ⟨ret_bi (by simp [runR, Hs1.out, Hs2.out]) (by simp [runK, Hs1.out, Hs2.out]), hB⟩
set_option maxRecDepth 100000 in
set_option maxHeartbeats 16000000 in
theorem implRunAutomaton_i {t a : Int} {ac : List (List Bool)} {nx : List (List (List Int))} {xs ys : List Int} {s u p q : Option Addr} {c d pc qc : Nat} {w : World} (hr : Rd w (bbD ac) (.slice s ac.length c)) (hq : Rd w (iiiD nx) (.slice u nx.length d)) (hx : Rd w (intsD xs) (.slice p xs.length pc)) (hy : Rd w (intsD ys) (.slice q ys.length qc)) :
  Calls Try.prog 15 #[.agg #[.int .i64 t, .int .i64 a, .slice s ac.length c, .slice u nx.length d], .agg #[.slice p xs.length pc, .slice q ys.length qc]] w
   fun e w' => e = .returned (.tuple #[.bool (runR t a ac nx xs ys), .int .i64 (runK t a ac nx xs ys)]) ∧ Below w.heap.size w w' := by
 obtain ⟨hlen, hcap⟩ := nest_bd hr
 obtain ⟨hlen', hcap'⟩ := nest_bd hq
 obtain ⟨-, hlen2, hcap2, -⟩ := hx.sl_at
 obtain ⟨-, hlen3, hcap3, -⟩ := hy.sl_at
 unfold maxLen at hcap hcap' hcap2 hcap3
 go_enter Try.func15, Try.ntmps15
 go_wp2_with fail
 have L := (Blk.new4 w 31 (.int .i64 t) (.int .i64 a) (.slice s ac.length c) (.slice u nx.length d)).alloc (.cells #[.slice p xs.length pc, .slice q ys.length qc] 44)
 have M := Blk.new2 (w.alloc (.cells #[.int .i64 t, .int .i64 a, .slice s ac.length c, .slice u nx.length d] 31)) 44 (.slice p xs.length pc) (.slice q ys.length qc)
 simp at M
 have hB : Below w.heap.size w ((w.alloc (.cells #[.int .i64 t, .int .i64 a, .slice s ac.length c, .slice u nx.length d] 31)).alloc (.cells #[.slice p xs.length pc, .slice q ys.length qc] 44)) := by (repeat' first | exact Below.refl _ _ | assumption | apply Below.alloc | apply Below.drew | apply Below.setCell | omega | (simp; done) | (simp; omega))
 have hB0 := hB
 generalize ((w.alloc (.cells #[.int .i64 t, .int .i64 a, .slice s ac.length c, .slice u nx.length d] 31)).alloc (.cells #[.slice p xs.length pc, .slice q ys.length qc] 44)) = v0 at L M hB hB0 ⊢
 have l0 := L.c0
 have l1 := L.c1
 have l2 := L.c2
 have l3 := L.c3
 have m0 := M.c0
 have m1 := M.c1
 have ltL := L.lt
 have ltM := M.lt
 go_wp2_with fail
 refine (implValidAutomaton_i (hr.below hB) (hq.below hB)).mono ?_
 rintro x w1 ⟨rfl, hb⟩
 clear l0 l1 l2 l3 m0 m1 ltL ltM
 replace hB := Below.on hB hb hB.size
 replace L := L.below hb
 replace M := M.below hb
 clear hb
 have szW1 := hB.size
 cases hs1 : autB t a ac nx
 ·
  have l0 := L.c0
  have l1 := L.c1
  have l2 := L.c2
  have l3 := L.c3
  have ltL := L.lt
  have m0 := M.c0
  have m1 := M.c1
  have ltM := M.lt
  go_wp2_with fail
  go_ret2
  exact ⟨ret_bi (by simp [runR, hs1]) (by simp [runK, hs1]), hB⟩
 have Hs1 := Lib.hid hs1
 clear hs1
 have l0 := L.c0
 have l1 := L.c1
 have l2 := L.c2
 have l3 := L.c3
 have m0 := M.c0
 have m1 := M.c1
 have ltL := L.lt
 have ltM := M.lt
 go_wp2_with fail
 refine (isWord_i (hx.below hB) (hy.below hB) (autB_true.1 Hs1.out).sig).mono ?_
 rintro x w2 ⟨rfl, hb⟩
 clear l0 l1 l2 l3 m0 m1 ltL ltM
 replace hB := Below.on hB hb hB.size
 replace L := L.below hb
 replace M := M.below hb
 clear hb
 have szW2 := hB.size
 cases hs2 : wordB t a xs ys
 ·
  have l0 := L.c0
  have l1 := L.c1
  have l2 := L.c2
  have l3 := L.c3
  have ltL := L.lt
  have m0 := M.c0
  have m1 := M.c1
  have ltM := M.lt
  go_wp2_with fail
  go_ret2
  exact ⟨ret_bi (by simp [runR, hs2]) (by simp [runK, hs2]), hB⟩
 have Hs2 := Lib.hid hs2
 clear hs2
 have l0 := L.c0
 have l1 := L.c1
 have l2 := L.c2
 have l3 := L.c3
 have m0 := M.c0
 have m1 := M.c1
 have ltL := L.lt
 have ltM := M.lt
 go_wp2_with fail
 have hok := autB_true.1 Hs1.out
 obtain ⟨hn10, hxl, hxs, hys⟩ := wordB_parts Hs2.out
 have hn1 := hok.lo
 have hn2 := hok.hi
 have hnl := hok.len
 have h := L.autAt (hr.below hB) (hq.below hB)
 have g4 := hr.below hB
 have g5 := hq.below hB
 have hx2 := hx.below hB
 have hy2 := hy.below hB
 have Hok := Lib.hid hok
 have Hxs := Lib.hid hxs
 have Hys := Lib.hid hys
 have Hh := Lib.hid h
 have E0 := Lib.hid M.c0
 have E1 := Lib.hid M.c1
 have hel := M.lt
 have HZ := Lib.hid hB.size
 have HB0 := Lib.hid hB
 have HR : Hid (runR t a ac nx xs ys = runsB ac nx xs ys) := by show _ = _; simp [runR, Hs1.out, Hs2.out]
 have HK : Hid (runK t a ac nx xs ys = 0) := by show _ = _; simp [runK, Hs1.out, Hs2.out]
 clear l0 l1 l2 l3 m0 m1 hr hq hx hy hok hxs hys h hB
 have hr := hx2
 have hr' := hy2
 clear hx2 hy2
 obtain ⟨w0, hw0⟩ : ∃ v, v = w2 := ⟨_, rfl⟩
 subst hw0
 go_loopw [6, 22] (fun q i wr => ∃ k s0 : Nat, k ≤ ys.length ∧ i = .int .i64 k ∧ q = .int .i64 s0 ∧ s0 < ac.length ∧ runN nx xs ys k = s0 ∧ (∀ j, j ≤ k → 0 ≤ runN nx xs ys j) ∧ Below w0.heap.size w0 wr) (fun _ i _ => ys.length - (intOf i).toNat)
 case atStart => exact ⟨0, 0, by omega, rfl, rfl, by omega, rfl, fun j hj => (by rw [show j = 0 by omega]; exact Int.le_refl 0), Below.refl _ _⟩
 case round =>
  obtain ⟨k, s0, hk, rfl, rfl, hsn, hrun, hge, hB⟩ := hrel
  have szB := hB.size
  have Hrun := Lib.hid hrun
  have Hge := Lib.hid hge
  have HB := Lib.hid hB
  clear hrun hge hB
  have hkz := Int.natCast_nonneg k
  obtain ⟨c0, c1', c2', c3', -, -⟩ := Hh.out.below HB.out
  simp only [Nat.zero_add] at c1' c2' c3'
  have e0 := (HB.out.cell (p := ⟨w.heap.size + 1, 0, none⟩) hel).trans E0.out
  have e1' := (HB.out.cell (p := ⟨w.heap.size + 1, 1, none⟩) hel).trans E1.out
  by_cases hlt : k < ys.length
  ·
   skip
   obtain ⟨xz, hxz⟩ : ∃ e, xs[k]? = some e := ⟨_, List.getElem?_eq_getElem (by omega)⟩
   obtain ⟨yz, hyz⟩ : ∃ e, ys[k]? = some e := ⟨_, List.getElem?_eq_getElem hlt⟩
   obtain ⟨x, rfl, hxb⟩ := allIn_at Hxs.out hxz
   obtain ⟨y, rfl, hyb⟩ := allIn_at Hys.out hyz
   obtain ⟨nr, row, z, hnr, hrow, hz, hz1, hz2, hstep⟩ := Hok.out.next hsn hxb hyb
   obtain ⟨ub, uo, rfl⟩ := nest_some (f := iiD) g5 (by omega)
   obtain ⟨-, sn, cn, b0, rb⟩ := nest_sl (g := intsD) (g5.below HB.out) hnr
   obtain ⟨vb, vo, rfl⟩ := nest_some (f := intsD) rb (by have := (List.getElem?_eq_some_iff.1 hrow).1; omega)
   obtain ⟨-, sr, cr, r0, rr⟩ := nest_sl (g := D.int) rb hrow
   obtain ⟨tb, to', rfl⟩ := nest_some (f := D.int) rr (by have := (List.getElem?_eq_some_iff.1 hz).1; omega)
   obtain ⟨-, z0⟩ := int_in rr hz
   obtain ⟨xb, xo, rfl⟩ := int_some hr (by omega)
   obtain ⟨yb, yo, rfl⟩ := int_some hr' (by omega)
   obtain ⟨-, x0⟩ := int_in (hr.below HB.out) hxz
   obtain ⟨-, y0⟩ := int_in (hr'.below HB.out) hyz
   obtain ⟨rb1, rb2⟩ := nest_bd rb
   obtain ⟨rr1, rr2⟩ := nest_bd rr
   unfold maxLen at rb2 rr2
   have hsz := Int.natCast_nonneg s0
   have hsb : (s0 : Int) < (nx.length : Int) := by have := (List.getElem?_eq_some_iff.1 hnr).1; omega
   have hxz' := Int.natCast_nonneg x
   have hxb' : (x : Int) < (nr.length : Int) := by have := (List.getElem?_eq_some_iff.1 hrow).1; omega
   have hyz' := Int.natCast_nonneg y
   have hyb' : (y : Int) < (row.length : Int) := by have := (List.getElem?_eq_some_iff.1 hz).1; omega
   have hkx : (k : Int) < (xs.length : Int) := by omega
   have hky : (k : Int) < (ys.length : Int) := by omega
   have Hnext : Hid (runN nx xs ys (k + 1) = z) := (runN_succ Hrun.out hxz hyz).trans hstep
   clear hxz hyz hnr hrow hz hstep hxb hyb rb rr
   have gc3 := fun d os => cell_regrown c3' d os
   have ge0 := fun d os => cell_regrown e0 d os
   have ge1 := fun d os => cell_regrown e1' d os
   have gb0 := fun d os => cell_regrown b0 d os
   have gr0 := fun d os => cell_regrown r0 d os
   have gz0 := fun d os => cell_regrown z0 d os
   have gx0 := fun d os => cell_regrown x0 d os
   have gy0 := fun d os => cell_regrown y0 d os
   go_wp2_with fail
   refine Go.wp_region_quiet_below (by kernel_rfl) (by kernel_rfl) ?_
   repeat (first | go_big_quiet_step ((fail)) | quiet_step ((fail)))
   refine wpQuiet_nil ?_; intro _ hw'; obtain ⟨⟨dq, osq⟩, hw''⟩ := hw'; subst hw''; have hq := below_regrown wr dq osq; revert hq; generalize grow (redrawn wr dq) osq = w2; intro hq
   have HB2 := Lib.hid (show Below w0.heap.size w0 w2 from Below.on HB.out hq HB.out.size)
   clear hq c0 c1' c2' c3' e0 e1' b0 r0 z0 x0 y0 gc3 ge0 ge1 gb0 gr0 gz0 gx0 gy0
   by_cases hneg : z < 0
   ·
    have C1 := Lib.hid (runsB_no (ac := ac) hlt (by rw [Hnext.out]; exact hneg))
    go_wp2_with fail
    go_ret2
    exact ⟨ret_bi (by rw [HR.out, C1.out]) (by rw [HK.out]), HB0.out.trans (HB2.out.mono HZ.out)⟩
   ·
    obtain ⟨z', rfl⟩ : ∃ m : Nat, z = (m : Int) := ⟨z.toNat, by omega⟩
    have Hge2 : Hid (∀ j, j ≤ k + 1 → 0 ≤ runN nx xs ys j) := by
     intro j hj
     by_cases hjk : j ≤ k
     ·
      exact Hge.out j hjk
     ·
      obtain rfl : j = k + 1 := by omega
      rw [Hnext.out]
      omega
    go_wp2_with fail
    go_roundw
    case rel => exact ⟨k + 1, z', by omega, by go_num, rfl, by omega, Hnext.out, Hge2.out, HB2.out⟩
    case measure => simp [intOf]; omega
  ·
   skip
   obtain rfl : k = ys.length := by omega
   obtain ⟨xz, hxz⟩ : ∃ e, xs[ys.length]? = some e := ⟨_, List.getElem?_eq_getElem (by omega)⟩
   obtain ⟨x, rfl, hxb⟩ := allIn_at Hxs.out hxz
   obtain ⟨ar, z, har, hz, hacc⟩ := Hok.out.acc hsn hxb
   obtain ⟨sb, so, rfl⟩ := nest_some (f := boolsD) g4 (by omega)
   obtain ⟨-, sa, ca, a0, ra⟩ := nest_sl (g := D.bool) (g4.below HB.out) har
   obtain ⟨ab, ao, rfl⟩ := nest_some (f := D.bool) ra (by have := (List.getElem?_eq_some_iff.1 hz).1; omega)
   obtain ⟨-, z0⟩ := bool_in ra hz
   obtain ⟨xb, xo, rfl⟩ := int_some hr (by omega)
   obtain ⟨-, x0⟩ := int_in (hr.below HB.out) hxz
   obtain ⟨ra1, ra2⟩ := nest_bd ra
   unfold maxLen at ra2
   have hsz := Int.natCast_nonneg s0
   have hsb : (s0 : Int) < (ac.length : Int) := by omega
   have hxz' := Int.natCast_nonneg x
   have hxb' : (x : Int) < (ar.length : Int) := by have := (List.getElem?_eq_some_iff.1 hz).1; omega
   have hkx : (ys.length : Int) < (xs.length : Int) := by omega
   have C1 : Hid (runsB ac nx xs ys = z) := (runsB_end Hge.out Hrun.out hxz).trans hacc
   clear hxz har hz hacc hxb ra
   have gc2 := fun d os => cell_regrown c2' d os
   have ge0 := fun d os => cell_regrown e0 d os
   have ge1 := fun d os => cell_regrown e1' d os
   have ga0 := fun d os => cell_regrown a0 d os
   have gz0 := fun d os => cell_regrown z0 d os
   have gx0 := fun d os => cell_regrown x0 d os
   go_wp2_with fail
   refine Go.wp_region_quiet_below (by kernel_rfl) (by kernel_rfl) ?_
   repeat (first | go_big_quiet_step ((fail)) | quiet_step ((fail)))
   refine wpQuiet_nil ?_; intro _ hw'; obtain ⟨⟨dq, osq⟩, hw''⟩ := hw'; subst hw''; have hq := below_regrown wr dq osq; revert hq; generalize grow (redrawn wr dq) osq = w2; intro hq
   have HB2 := Lib.hid (show Below w0.heap.size w0 w2 from Below.on HB.out hq HB.out.size)
   clear hq c0 c1' c2' c3' e0 e1' a0 z0 x0 gc2 ge0 ge1 ga0 gz0 gx0
   go_wp2_with fail
   go_ret2
   exact ⟨ret_bi (by rw [HR.out, C1.out]) (by rw [HK.out]), HB0.out.trans (HB2.out.mono HZ.out)⟩
end Go.Proofs.Ytfhlddbngjlhbaa

namespace Go.Proofs.Ytfhlddbngjlhbaa
set_option linter.unusedVariables false
set_option linter.unusedSimpArgs false
open Go.ChangeShapes Go.WideShapes Go.ChangeAt Go.RowKit Go.Deep
def goN (nx : List (List (List Int))) (s : Int) (m k : Nat) : Int := if s < 0 then -1 else stepN nx s.toNat m k
def hasN (ac : List (List Bool)) (s : Int) (m : Nat) : Bool := decide (0 ≤ s) && (ac.getD s.toNat []).getD m false
def nxtP (nx ny : List (List (List Int))) (m k : Nat) (p : Int × Int) : Option (Int × Int) := if goN nx p.1 m k < 0 ∧ goN ny p.2 m k < 0 then none else some (goN nx p.1 m k, goN ny p.2 m k)
def prL (nx ny : List (List (List Int))) (A a i : Nat) : List (Int × Int) := expl ((0 : Int), (0 : Int)) (fun y => grid (fun m k => nxtP nx ny m k y) A a) i
def prC (nx ny : List (List (List Int))) (A a i : Nat) (x : Int × Int) (m k : Nat) : List (Int × Int) := curG ((0 : Int), (0 : Int)) (nxtP nx ny) A a i x m k
section
variable {nx ny : List (List (List Int))} {A a i : Nat} {x : Int × Int} {m k : Nat}
theorem prC_zero : prC nx ny A a i x 0 0 = prL nx ny A a i := curG_zero
theorem prC_line : prC nx ny A a i x m a = prC nx ny A a i x (m + 1) 0 := curG_line
theorem prC_cell (hm : m < A) (hk : k < a) : prC nx ny A a i x m (k + 1) = grow1 (prC nx ny A a i x m k) (nxtP nx ny m k x) := curG_cell hm hk
theorem prC_all (h : (prL nx ny A a i)[i]? = some x) : prC nx ny A a i x A 0 = prL nx ny A a (i + 1) := curG_all h
theorem prC_old : prL nx ny A a i <+: prC nx ny A a i x m k := curG_old
theorem prL_at (h : (prL nx ny A a i)[i]? = some x) : (prC nx ny A a i x m k)[i]? = some x := prefix_get prC_old h
theorem prL_stop {n : Nat} (h : (prL nx ny A a i).length ≤ i) (hn : i ≤ n) : prL nx ny A a n = prL nx ny A a i := expl_stop h n hn
theorem prC_prefix (h : (prL nx ny A a i)[i]? = some x) : prC nx ny A a i x m k <+: prL nx ny A a (i + 1) := curG_prefix h
end
def PairOk (N M : Nat) (p : Int × Int) : Prop := -1 ≤ p.1 ∧ p.1 < N ∧ -1 ≤ p.2 ∧ p.2 < M
theorem goN_bd {t a : Int} {ac : List (List Bool)} {nx : List (List (List Int))} (h : AutOk t a ac nx) {s : Int} {m k : Nat} (h1 : s < ac.length) (hm : (m : Int) < atomsN t) (hk : (k : Int) < a) : -1 ≤ goN nx s m k ∧ goN nx s m k < ac.length := by
 unfold goN
 split
 ·
  exact ⟨by omega, by have := h.lo; omega⟩
 ·
  obtain ⟨nr, row, z, -, -, -, h3, h4, h5⟩ := h.next (s := s.toNat) (x := m) (y := k) (by omega) hm hk
  rw [h5]
  exact ⟨h3, by omega⟩
section
variable {t a : Int} {ac bc : List (List Bool)} {nx ny : List (List (List Int))}
theorem nxtP_ok (h : AutOk t a ac nx) (h' : AutOk t a bc ny) {m k : Nat} (hm : m < (atomsN t).toNat) (hk : k < a.toNat) {p z : Int × Int} (hp : PairOk ac.length bc.length p) (hz : nxtP nx ny m k p = some z) : PairOk ac.length bc.length z := by
 unfold nxtP at hz
 split at hz
 ·
  cases hz
 ·
  obtain rfl := Option.some.inj hz
  have h1 := goN_bd h (s := p.1) (m := m) (k := k) hp.2.1 (by omega) (by omega)
  have h2 := goN_bd h' (s := p.2) (m := m) (k := k) hp.2.2.2 (by omega) (by omega)
  exact ⟨h1.1, h1.2, h2.1, h2.2⟩
theorem prL_ok (h : AutOk t a ac nx) (h' : AutOk t a bc ny) (i : Nat) : ∀ p ∈ prL nx ny (atomsN t).toNat a.toNat i, PairOk ac.length bc.length p := by
 refine expl_all ?_ ?_ i
 ·
  have := h.lo
  have := h'.lo
  exact ⟨by simp, by simp; omega, by simp, by simp; omega⟩
 ·
  intro y hy m k hm hk z hz
  exact nxtP_ok h h' hm hk hy hz
theorem pair_many {N M : Nat} (hN : N ≤ 60) (hM : M ≤ 60) {L : List (Int × Int)} (hd : L.Nodup) (h : ∀ p ∈ L, PairOk N M p) : L.length ≤ 3721 := by
 have := pigeon 3721 (L.map fun p => ((p.1 + 1) * 61 + (p.2 + 1)).toNat) ?_ ?_
 ·
  simpa using this
 ·
  rw [List.nodup_iff_pairwise_ne, List.pairwise_map]
  refine List.Pairwise.imp_of_mem ?_ (List.nodup_iff_pairwise_ne.1 hd)
  intro p q hp hq hne e
  obtain ⟨a1, a2, a3, a4⟩ := h p hp
  obtain ⟨b1, b2, b3, b4⟩ := h q hq
  apply hne
  apply Prod.ext <;> omega
 ·
  intro x hx
  obtain ⟨p, hp, rfl⟩ := List.mem_map.1 hx
  obtain ⟨a1, a2, a3, a4⟩ := h p hp
  omega
theorem prL_many (h : AutOk t a ac nx) (h' : AutOk t a bc ny) (i : Nat) : (prL nx ny (atomsN t).toNat a.toNat i).length ≤ 3721 := pair_many h.hi h'.hi (expl_nodup _ _ _) (prL_ok h h' i)
theorem prC_ok (h : AutOk t a ac nx) (h' : AutOk t a bc ny) {i : Nat} {x : Int × Int} {m k : Nat} (hx : (prL nx ny (atomsN t).toNat a.toNat i)[i]? = some x) : (∀ p ∈ prC nx ny (atomsN t).toNat a.toNat i x m k, PairOk ac.length bc.length p) ∧ (prC nx ny (atomsN t).toNat a.toNat i x m k).length ≤ 3721 := by
 have hp := prC_prefix (m := m) (k := k) hx
 exact ⟨fun p hm => prL_ok h h' (i + 1) p (hp.subset hm), Nat.le_trans (prefix_length hp) (prL_many h h' (i + 1))⟩
theorem prL_all (h : AutOk t a ac nx) (h' : AutOk t a bc ny) {i : Nat} (hd : (prL nx ny (atomsN t).toNat a.toNat i).length ≤ i) : prL nx ny (atomsN t).toNat a.toNat i = prL nx ny (atomsN t).toNat a.toNat 3721 := by
 by_cases hi : i ≤ 3721
 ·
  exact (prL_stop hd hi).symm
 ·
  exact prL_stop (i := 3721) (prL_many h h' 3721) (by omega)
end
def prF (nx ny : List (List (List Int))) (A a : Nat) : List (Int × Int) := prL nx ny A a 3721
end Go.Proofs.Ytfhlddbngjlhbaa

namespace Go.Proofs.Ytfhlddbngjlhbaa
set_option linter.unusedVariables false
set_option linter.unusedSimpArgs false
open Go.ChangeShapes Go.WideShapes Go.ChangeAt Go.RowKit Go.Deep
theorem goN_neg {nx : List (List (List Int))} {s : Int} {m k : Nat} (h : s < 0) : goN nx s m k = -1 := if_pos h
theorem goN_pos {nx : List (List (List Int))} {s m k : Nat} : goN nx (s : Int) m k = stepN nx s m k := by
 unfold goN
 rw [if_neg (by omega), Int.toNat_natCast]
theorem hasN_neg {ac : List (List Bool)} {s : Int} {m : Nat} (h : s < 0) : hasN ac s m = false := by unfold hasN; rw [decide_eq_false (by omega : ¬ 0 ≤ s)]; rfl
theorem hasN_pos {ac : List (List Bool)} {s m : Nat} : hasN ac (s : Int) m = (ac.getD s []).getD m false := by unfold hasN; simp
set_option maxHeartbeats 4000000 in
theorem l02Go_i {t a s : Int} {m k b o : Nat} {ac : List (List Bool)} {nx : List (List (List Int))} {sa u : Option Addr} {c d : Nat} {w : World} (h : AutAt w b o t a ac nx sa u c d) (hok : AutOk t a ac nx) (hs : s < ac.length) (hm : (m : Int) < atomsN t) (hk : (k : Int) < a) :
  Calls Try.prog 53 #[.pointer (some ⟨b, o, none⟩), .int .i64 s, .int .i64 m, .int .i64 k] w fun e w' => e = .returned (.int .i64 (goN nx s m k)) ∧ w' = w := by
 by_cases h0 : s < 0
 ·
  rw [goN_neg h0]
  clear h hok
  go_enter Try.func53, Try.ntmps53
  go_wp2_with fail
  go_ret
  exact ⟨rfl, rfl⟩
 ·
  obtain ⟨s, rfl⟩ : ∃ n : Nat, s = (n : Int) := ⟨s.toNat, by omega⟩
  obtain ⟨nr, row, z, hnr, hrow, hz, -, -, e1⟩ := hok.next (s := s) (x := m) (y := k) (by omega) hm hk
  have HE : Hid (goN nx (s : Int) m k = z) := by show _ = _; rw [goN_pos, e1]
  rw [HE.out]
  obtain ⟨c0, c1', c2', c3', hr, hq⟩ := h
  clear e1 HE
  have hs0 := Int.natCast_nonneg s
  have hm0 := Int.natCast_nonneg m
  have hlen := hok.len
  obtain ⟨ub, uo, rfl⟩ := nest_some (f := iiD) hq (by omega)
  obtain ⟨hcap1, hcap2⟩ := nest_bd hq
  unfold maxLen at hcap2
  obtain ⟨hul, sn, cn, b0, rb⟩ := nest_sl (g := intsD) hq hnr
  have hml := (List.getElem?_eq_some_iff.1 hrow).1
  have hkl := (List.getElem?_eq_some_iff.1 hz).1
  obtain ⟨vb, vo, rfl⟩ := nest_some (f := intsD) rb (by omega)
  obtain ⟨hcap3, hcap4⟩ := nest_bd rb
  unfold maxLen at hcap4
  obtain ⟨hvl, sr, cr, r0, rr⟩ := nest_sl (g := D.int) rb hrow
  obtain ⟨tb, to', rfl⟩ := nest_some (f := D.int) rr (by omega)
  obtain ⟨hcap5, hcap6⟩ := nest_bd rr
  unfold maxLen at hcap6
  obtain ⟨htl, q0⟩ := int_in rr hz
  have hk0 := Int.natCast_nonneg k
  have i1 : (s : Int) < (nx.length : Int) := by omega
  have i2 : (m : Int) < (nr.length : Int) := by omega
  have i3 : (k : Int) < (row.length : Int) := by omega
  clear hnr hrow hz rb rr
  clear hr hq hok
  go_enter Try.func53, Try.ntmps53
  go_wp2_with fail
  go_ret
  exact ⟨rfl, rfl⟩
set_option maxHeartbeats 4000000 in
theorem nextOf_i {t a s : Int} {m k : Nat} {ac : List (List Bool)} {nx : List (List (List Int))} {sa u : Option Addr} {c d : Nat} {w : World} (hr : Rd w (bbD ac) (.slice sa ac.length c)) (hq : Rd w (iiiD nx) (.slice u nx.length d)) (hok : AutOk t a ac nx) (hs : s < ac.length) (hm : (m : Int) < atomsN t) (hk : (k : Int) < a) :
  Calls Try.prog 59 #[.agg #[.int .i64 t, .int .i64 a, .slice sa ac.length c, .slice u nx.length d], .int .i64 s, .int .i64 m, .int .i64 k] w fun e w' => e = .returned (.int .i64 (goN nx s m k)) ∧ Below w.heap.size w w' := by
 by_cases h0 : s < 0
 ·
  rw [goN_neg h0]
  clear hr hq hok
  go_enter Try.func59, Try.ntmps59
  go_wp2_with fail
  go_ret
  exact ⟨rfl, by (repeat' first | exact Below.refl _ _ | assumption | apply Below.alloc | apply Below.drew | apply Below.setCell | omega | (simp; done) | (simp; omega))⟩
 ·
  obtain ⟨s, rfl⟩ : ∃ n : Nat, s = (n : Int) := ⟨s.toNat, by omega⟩
  obtain ⟨nr, row, z, hnr, hrow, hz, -, -, e1⟩ := hok.next (s := s) (x := m) (y := k) (by omega) hm hk
  have HE : Hid (goN nx (s : Int) m k = z) := by show _ = _; rw [goN_pos, e1]
  rw [HE.out]
  clear e1 HE
  have hs0 := Int.natCast_nonneg s
  have hm0 := Int.natCast_nonneg m
  have hlen := hok.len
  obtain ⟨ub, uo, rfl⟩ := nest_some (f := iiD) hq (by omega)
  obtain ⟨hcap1, hcap2⟩ := nest_bd hq
  unfold maxLen at hcap2
  obtain ⟨hul, sn, cn, b0, rb⟩ := nest_sl (g := intsD) hq hnr
  have hml := (List.getElem?_eq_some_iff.1 hrow).1
  have hkl := (List.getElem?_eq_some_iff.1 hz).1
  obtain ⟨vb, vo, rfl⟩ := nest_some (f := intsD) rb (by omega)
  obtain ⟨hcap3, hcap4⟩ := nest_bd rb
  unfold maxLen at hcap4
  obtain ⟨hvl, sr, cr, r0, rr⟩ := nest_sl (g := D.int) rb hrow
  obtain ⟨tb, to', rfl⟩ := nest_some (f := D.int) rr (by omega)
  obtain ⟨hcap5, hcap6⟩ := nest_bd rr
  unfold maxLen at hcap6
  obtain ⟨htl, q0⟩ := int_in rr hz
  have hk0 := Int.natCast_nonneg k
  have i1 : (s : Int) < (nx.length : Int) := by omega
  have i2 : (m : Int) < (nr.length : Int) := by omega
  have i3 : (k : Int) < (row.length : Int) := by omega
  clear hnr hrow hz rb rr
  clear hr hq hok
  go_enter Try.func59, Try.ntmps59
  go_wp2_with fail
  go_ret
  exact ⟨rfl, by (repeat' first | exact Below.refl _ _ | assumption | apply Below.alloc | apply Below.drew | apply Below.setCell | omega | (simp; done) | (simp; omega))⟩
end Go.Proofs.Ytfhlddbngjlhbaa

namespace Go.Proofs.Ytfhlddbngjlhbaa
set_option linter.unusedVariables false
set_option linter.unusedSimpArgs false
open Go.ChangeShapes Go.WideShapes Go.ChangeAt Go.RowKit Go.Deep
theorem nxtP_none {nx ny : List (List (List Int))} {m k : Nat} {p : Int × Int} {X Y : Int} (h1 : goN nx p.1 m k = X) (h2 : goN ny p.2 m k = Y) (hx : X < 0) (hy : Y < 0) : nxtP nx ny m k p = none := by unfold nxtP; rw [h1, h2, if_pos ⟨hx, hy⟩]
theorem nxtP_some {nx ny : List (List (List Int))} {m k : Nat} {p : Int × Int} {X Y : Int} (h1 : goN nx p.1 m k = X) (h2 : goN ny p.2 m k = Y) (h : ¬ (X < 0 ∧ Y < 0)) : nxtP nx ny m k p = some (X, Y) := by unfold nxtP; rw [h1, h2, if_neg h]
theorem prC_none {nx ny : List (List (List Int))} {A a i : Nat} {x : Int × Int} {m k : Nat} (hm : m < A) (hk : k < a) (h : nxtP nx ny m k x = none) : prC nx ny A a i x m (k + 1) = prC nx ny A a i x m k := by rw [prC_cell hm hk, h]; rfl
theorem prC_was {nx ny : List (List (List Int))} {A a i : Nat} {x z : Int × Int} {m k : Nat} (hm : m < A) (hk : k < a) (h : nxtP nx ny m k x = some z) (hz : z ∈ prC nx ny A a i x m k) : prC nx ny A a i x m (k + 1) = prC nx ny A a i x m k := by rw [prC_cell hm hk, h, grow1_old hz]
theorem prC_new {nx ny : List (List (List Int))} {A a i : Nat} {x z : Int × Int} {m k : Nat} (hm : m < A) (hk : k < a) (h : nxtP nx ny m k x = some z) (hz : z ∉ prC nx ny A a i x m k) : prC nx ny A a i x m (k + 1) = prC nx ny A a i x m k ++ [z] := by rw [prC_cell hm hk, h, grow1_new hz]
end Go.Proofs.Ytfhlddbngjlhbaa

namespace Go.Proofs.Ytfhlddbngjlhbaa
set_option linter.unusedVariables false
set_option linter.unusedSimpArgs false
def okW (A a : Nat) (ws : List (Nat × Nat)) (m : Nat) : Prop := (∀ q ∈ ws, q.1 < A ∧ q.2 < a) ∧ m < A
theorem okW.tail {A a : Nat} {q : Nat × Nat} {ws : List (Nat × Nat)} {m : Nat} (h : okW A a (q :: ws) m) : q.1 < A ∧ q.2 < a ∧ okW A a ws m :=
 ⟨(h.1 q (by simp)).1, (h.1 q (by simp)).2, fun p hp => h.1 p (by simp [hp]), h.2⟩
def accN (ac : List (List Bool)) (nx : List (List (List Int))) : Int → List (Nat × Nat) → Nat → Bool
 | s, [], m => hasN ac s m
 | s, q :: ws, m => accN ac nx (goN nx s q.1 q.2) ws m
def goW (nx : List (List (List Int))) : Int → List (Nat × Nat) → Int
 | s, [] => s
 | s, q :: ws => goW nx (goN nx s q.1 q.2) ws
theorem accN_append (ac : List (List Bool)) (nx : List (List (List Int))) : ∀ (us ws : List (Nat × Nat)) (s : Int) (m : Nat), accN ac nx s (us ++ ws) m = accN ac nx (goW nx s us) ws m
 | [], _, _, _ => rfl
 | q :: us, ws, s, m => accN_append ac nx us ws (goN nx s q.1 q.2) m
theorem goW_append (nx : List (List (List Int))) : ∀ (us ws : List (Nat × Nat)) (s : Int), goW nx s (us ++ ws) = goW nx (goW nx s us) ws
 | [], _, _ => rfl
 | q :: us, ws, s => goW_append nx us ws (goN nx s q.1 q.2)
theorem accN_goW (ac : List (List Bool)) (nx : List (List (List Int))) (us : List (Nat × Nat)) (s : Int) (m : Nat) : accN ac nx s us m = hasN ac (goW nx s us) m := by
 have := accN_append ac nx us [] s m
 rw [List.append_nil] at this
 rw [this]
 rfl
theorem accN_neg (ac : List (List Bool)) (nx : List (List (List Int))) : ∀ (ws : List (Nat × Nat)) (s : Int) (m : Nat), s < 0 → accN ac nx s ws m = false
 | [], s, m, h => by
  show hasN ac s m = false
  unfold hasN
  rw [decide_eq_false (by omega), Bool.false_and]
 | q :: ws, s, m, h => by
  show accN ac nx (goN nx s q.1 q.2) ws m = false
  refine accN_neg ac nx ws _ m ?_
  unfold goN
  rw [if_pos h]
  omega
section
variable {α : Type} [DecidableEq α]
theorem growL_has : ∀ (ss : List (Option α)) (L : List α) {y : α}, some y ∈ ss → y ∈ growL L ss
 | o :: r, L, y, h => by
  show y ∈ growL (grow1 L o) r
  rcases List.mem_cons.1 h with h | h
  ·
   subst h
   exact (growL_prefix r _).subset grow1_mem
  ·
   exact growL_has r _ h
theorem expl_closed {s : α} {succ : α → List (Option α)} {k : Nat} (h : (expl s succ k).length ≤ k) {x y : α} (hx : x ∈ expl s succ k) (hy : some y ∈ succ x) : y ∈ expl s succ k := by
 obtain ⟨i, hi⟩ := List.mem_iff_getElem?.1 hx
 have hlt := (List.getElem?_eq_some_iff.1 hi).1
 have hik : i < k := by omega
 have hpos : i < (expl s succ i).length := by
  rcases Nat.lt_or_ge i (expl s succ i).length with q | q
  ·
   exact q
  ·
   rw [expl_stop q k (by omega)] at hlt
   omega
 have hii : (expl s succ i)[i]? = some x := by
  have h1 : (expl s succ i)[i]? = some (expl s succ i)[i] := List.getElem?_eq_getElem hpos
  have h2 := prefix_get (expl_prefix s succ (show i ≤ k by omega)) h1
  rw [hi] at h2
  rw [h1, ← h2]
 refine (expl_prefix s succ (show i + 1 ≤ k by omega)).subset ?_
 rw [expl_succ hii]
 exact growL_has _ _ hy
theorem expl_first (s : α) (succ : α → List (Option α)) (k : Nat) : (expl s succ k)[0]? = some s := prefix_get (expl_prefix s succ (Nat.zero_le k)) (by simp [expl])
theorem grid_has {β : Type} {f : Nat → Nat → β} {A a m k : Nat} (hm : m < A) (hk : k < a) : f m k ∈ grid f A a := List.mem_of_getElem? (grid_at f hk hm)
end
section
variable {t a : Int} {ac bc : List (List Bool)} {nx ny : List (List (List Int))}
theorem prF_closed (h : AutOk t a ac nx) (h' : AutOk t a bc ny) {m k : Nat} (hm : m < (atomsN t).toNat) (hk : k < a.toNat) {p z : Int × Int} (hp : p ∈ prF nx ny (atomsN t).toNat a.toNat) (hz : nxtP nx ny m k p = some z) : z ∈ prF nx ny (atomsN t).toNat a.toNat :=
 expl_closed (prL_many h h' 3721) hp (by rw [← hz]; exact grid_has (f := fun m k => nxtP nx ny m k p) hm hk)
end
end Go.Proofs.Ytfhlddbngjlhbaa

namespace Go.Proofs.Ytfhlddbngjlhbaa
set_option linter.unusedVariables false
set_option linter.unusedSimpArgs false
def segW (xs ys : List Int) (i k : Nat) : List (Nat × Nat) := (List.range (k - i)).map fun j => ((xs.getD (i + j) 0).toNat, (ys.getD (i + j) 0).toNat)
def atW (xs : List Int) (i : Nat) : Nat := (xs.getD i 0).toNat
section
variable (xs ys : List Int)
theorem segW_self (i : Nat) : segW xs ys i i = [] := by simp [segW]
theorem segW_succ {i k : Nat} (h : i ≤ k) : segW xs ys i (k + 1) = segW xs ys i k ++ [(atW xs k, (ys.getD k 0).toNat)] := by
 unfold segW atW
 rw [show k + 1 - i = (k - i) + 1 by omega, List.range_succ, List.map_append, List.map_cons, List.map_nil, show i + (k - i) = k by omega]
theorem segW_append {i j : Nat} (hij : i ≤ j) : ∀ {k : Nat}, j ≤ k → segW xs ys i k = segW xs ys i j ++ segW xs ys j k := by
 intro k
 induction k with
 | zero =>
  intro h
  obtain rfl : j = 0 := by omega
  rw [segW_self, List.append_nil]
 | succ k ih =>
  intro h
  by_cases hk : j = k + 1
  ·
   subst hk; rw [segW_self, List.append_nil]
  ·
   rw [segW_succ xs ys (by omega), segW_succ xs ys (by omega), ih (by omega), List.append_assoc]
variable {xs ys}
end
section
variable {xs ys : List Int} {i k : Nat}
end
end Go.Proofs.Ytfhlddbngjlhbaa

namespace Go.Proofs.Ytfhlddbngjlhbaa
set_option linter.unusedVariables false
set_option linter.unusedSimpArgs false
open Go.ChangeShapes Go.WideShapes Go.ChangeAt Go.RowKit Go.Deep Go.Sort
theorem word_rds {w : World} {ps qs : List Int} {v1 v2 : Value} (h : Rds w (wordD ps qs) [v1, v2]) : Rd w (intsD ps) v1 ∧ Rd w (intsD qs) v2 := by
 simp only [wordD, Rds] at h
 obtain ⟨x1, q1, e1, r1, x2, q2, e2, r2, e3⟩ := h
 simp only [List.cons.injEq] at e1 e2
 obtain ⟨rfl, rfl⟩ := e1
 simp only [List.cons.injEq] at e2
 obtain ⟨rfl, -⟩ := e2
 exact ⟨r1, r2⟩
theorem a2Word_l {xs : List Int} {s : Option Addr} {c : Nat} {t a : Int} {e : Ex} {se : Option Addr} {ce : Nat} {w : World} (hr : Rd w (bytesD xs) (.slice s xs.length c)) (hx : ∀ x ∈ xs, 0 ≤ x ∧ x ≤ 255) (he : Rd w (kidsD e.kids) (.slice se e.kids.length ce)) (hok : okB t a e = true) :
  Calls Try.prog 14 #[.slice s xs.length c, .agg #[.int .i64 t, .int .i64 a], .agg #[.int .i64 e.kind, .int .i64 e.num, .slice se e.kids.length ce]] w fun z w' => ∃ (ps qs : List Int) (s' : Option Addr) (c' : Nat) (u' : Option Addr) (d' : Nat), z = .returned (.agg #[.slice s' ps.length c', .slice u' qs.length d']) ∧ wordB t a ps qs = true ∧
   Rd w' (intsD ps) (.slice s' ps.length c') ∧ Rd w' (intsD qs) (.slice u' qs.length d') ∧ Below w.heap.size w w' :=
 (a2Word_i hr hx he hok).mono fun _ _ ⟨ps, qs, s', c', u', d', h1, h2, h3, h4⟩ => ⟨ps, qs, s', c', u', d', h1, h3, (word_rds h2).1, (word_rds h2).2, h4⟩
end Go.Proofs.Ytfhlddbngjlhbaa
