/-
  Parts of a proof, joined: Run, PrP, LangA, Mat, LwW, Rnd, AccC. No condition.
-/
import Derived.BigRegion
import Derived.Maps.AppendAt
import Derived.Lib.AppendZeros
import Derived.Test.YtbflhjjnemdecaaPk16
import Derived.Test.YtbflhjjnemdecaaPk19
namespace Go.Proofs.Ytbflhjjnemdecaa
set_option linter.unusedVariables false
set_option linter.unusedSimpArgs false
open Go.ChangeShapes Go.WideShapes Go.ChangeAt Go.RowKit Go.Sort
def stepN (nx : List (List (List Int))) (s x y : Nat) : Int := ((nx.getD s []).getD x []).getD y (-1)
theorem AutOk.next {t a : Int} {ac : List (List Bool)} {nx : List (List (List Int))} (h : AutOk t a ac nx) {s x y : Nat} (hs : s < ac.length) (hx : (x : Int) < atomsN t) (hy : (y : Int) < a) :
  ∃ nr row z, nx[s]? = some nr ∧ nr[x]? = some row ∧ row[y]? = some z ∧ -1 ≤ z ∧ z ≤ (ac.length : Int) - 1 ∧ stepN nx s x y = z := by
 obtain ⟨ar, har⟩ : ∃ e, ac[s]? = some e := ⟨_, List.getElem?_eq_getElem hs⟩
 obtain ⟨nr, hnr⟩ : ∃ e, nx[s]? = some e := ⟨_, List.getElem?_eq_getElem (by rw [h.len]; exact hs)⟩
 obtain ⟨_, h2, h3⟩ := h.st s ar nr har hnr
 obtain ⟨row, hrow⟩ : ∃ e, nr[x]? = some e := ⟨_, List.getElem?_eq_getElem (by omega)⟩
 obtain ⟨h4, h5⟩ := h3 x row hrow
 obtain ⟨z, hz⟩ : ∃ e, row[y]? = some e := ⟨_, List.getElem?_eq_getElem (by omega)⟩
 obtain ⟨h6, h7⟩ := h5 y z hz
 refine ⟨nr, row, z, hnr, hrow, hz, h6, h7, ?_⟩
 unfold stepN
 rw [List.getD_eq_getElem?_getD, List.getD_eq_getElem?_getD, List.getD_eq_getElem?_getD, hnr]
 simp [hrow, hz]
theorem AutOk.acc {t a : Int} {ac : List (List Bool)} {nx : List (List (List Int))} (h : AutOk t a ac nx) {s x : Nat} (hs : s < ac.length) (hx : (x : Int) < atomsN t) :
  ∃ ar z, ac[s]? = some ar ∧ ar[x]? = some z ∧ (ac.getD s []).getD x false = z := by
 obtain ⟨ar, har⟩ : ∃ e, ac[s]? = some e := ⟨_, List.getElem?_eq_getElem hs⟩
 obtain ⟨nr, hnr⟩ : ∃ e, nx[s]? = some e := ⟨_, List.getElem?_eq_getElem (by rw [h.len]; exact hs)⟩
 obtain ⟨h1, _, _⟩ := h.st s ar nr har hnr
 obtain ⟨z, hz⟩ : ∃ e, ar[x]? = some e := ⟨_, List.getElem?_eq_getElem (by omega)⟩
 refine ⟨ar, z, har, hz, ?_⟩
 rw [List.getD_eq_getElem?_getD, List.getD_eq_getElem?_getD, har]
 simp [hz]
theorem allIn_at {zs : List Int} {n : Int} {i : Nat} {z : Int} (h : allIn zs n = true) (hz : zs[i]? = some z) : ∃ m : Nat, z = (m : Int) ∧ (m : Int) < n := by
 unfold allIn at h
 rw [List.all_eq_true] at h
 have := h z (List.mem_of_getElem? hz)
 simp only [inB, Bool.and_eq_true, decide_eq_true_eq] at this
 exact ⟨z.toNat, by omega, by omega⟩
theorem wordB_parts {t a : Int} {xs ys : List Int} (h : wordB t a xs ys = true) : ys.length ≤ 10 ∧ xs.length = ys.length + 1 ∧ allIn xs (atomsN t) = true ∧ allIn ys a = true := by
 simp only [wordB, Bool.and_eq_true, decide_eq_true_eq] at h
 exact ⟨h.1.1.1.2, h.1.1.2, h.1.2, h.2⟩
def runN (nx : List (List (List Int))) (xs ys : List Int) : Nat → Int
 | 0 => 0
 | k + 1 => stepN nx (runN nx xs ys k).toNat (xs.getD k 0).toNat (ys.getD k 0).toNat
theorem runN_succ {nx : List (List (List Int))} {xs ys : List Int} {k s x y : Nat} (h : runN nx xs ys k = (s : Int)) (hx : xs[k]? = some (x : Int)) (hy : ys[k]? = some (y : Int)) : runN nx xs ys (k + 1) = stepN nx s x y := by
 show stepN nx (runN nx xs ys k).toNat (xs.getD k 0).toNat (ys.getD k 0).toNat = _
 rw [h, List.getD_eq_getElem?_getD, List.getD_eq_getElem?_getD, hx, hy]
 simp
noncomputable def runsB (ac : List (List Bool)) (nx : List (List (List Int))) (xs ys : List Int) : Bool :=
 @decide (∀ k, k ≤ ys.length → 0 ≤ runN nx xs ys k) (Classical.propDecidable _) && (ac.getD (runN nx xs ys ys.length).toNat []).getD (xs.getD ys.length 0).toNat false
theorem runsB_no {ac : List (List Bool)} {nx : List (List (List Int))} {xs ys : List Int} {k : Nat} (hk : k ≤ ys.length) (h : runN nx xs ys k < 0) : runsB ac nx xs ys = false := by
 have : @decide (∀ k, k ≤ ys.length → 0 ≤ runN nx xs ys k) (Classical.propDecidable _) = false := by
  apply @decide_eq_false _ (Classical.propDecidable _)
  intro q
  have := q k hk
  omega
 unfold runsB
 rw [this, Bool.false_and]
theorem runsB_end {ac : List (List Bool)} {nx : List (List (List Int))} {xs ys : List Int} {s x : Nat} (h : ∀ k, k ≤ ys.length → 0 ≤ runN nx xs ys k) (hs : runN nx xs ys ys.length = (s : Int)) (hx : xs[ys.length]? = some (x : Int)) : runsB ac nx xs ys = (ac.getD s []).getD x false := by
 have : @decide (∀ k, k ≤ ys.length → 0 ≤ runN nx xs ys k) (Classical.propDecidable _) = true := @decide_eq_true _ (Classical.propDecidable _) h
 unfold runsB
 rw [this, Bool.true_and, hs, List.getD_eq_getElem?_getD (l := xs), hx]
 simp
theorem Blk.autAt {w : World} {g T : Nat} {t a : Int} {ac : List (List Bool)} {nx : List (List (List Int))} {s u : Option Addr} {c d : Nat} (L : Blk w g T [.int .i64 t, .int .i64 a, .slice s ac.length c, .slice u nx.length d]) (hr : Rd w (bbD ac) (.slice s ac.length c)) (hq : Rd w (iiiD nx) (.slice u nx.length d)) : AutAt w g 0 t a ac nx s u c d :=
 ⟨L.c0, L.c1, L.c2, L.c3, hr, hq⟩
noncomputable def runR (t a : Int) (ac : List (List Bool)) (nx : List (List (List Int))) (xs ys : List Int) : Bool := autB t a ac nx && wordB t a xs ys && runsB ac nx xs ys
noncomputable def runK (t a : Int) (ac : List (List Bool)) (nx : List (List (List Int))) (xs ys : List Int) : Int := if autB t a ac nx && wordB t a xs ys then 0 else 1
set_option maxRecDepth 100000 in
set_option maxHeartbeats 16000000 in
theorem implRunAutomaton_i {t a : Int} {ac : List (List Bool)} {nx : List (List (List Int))} {xs ys : List Int} {s u p q : Option Addr} {c d pc qc : Nat} {w : World} (hr : Rd w (bbD ac) (.slice s ac.length c)) (hq : Rd w (iiiD nx) (.slice u nx.length d)) (hx : Rd w (intsD xs) (.slice p xs.length pc)) (hy : Rd w (intsD ys) (.slice q ys.length qc)) :
  Calls Try.prog 33 #[.agg #[.int .i64 t, .int .i64 a, .slice s ac.length c, .slice u nx.length d], .agg #[.slice p xs.length pc, .slice q ys.length qc]] w
   fun e w' => e = .returned (.tuple #[.bool (runR t a ac nx xs ys), .int .i64 (runK t a ac nx xs ys)]) ∧ Below w.heap.size w w' := by
 obtain ⟨hlen, hcap⟩ := nest_bd hr
 obtain ⟨hlen', hcap'⟩ := nest_bd hq
 obtain ⟨-, hlen2, hcap2, -⟩ := hx.sl_at
 obtain ⟨-, hlen3, hcap3, -⟩ := hy.sl_at
 unfold maxLen at hcap hcap' hcap2 hcap3
 go_enter Try.func33, Try.ntmps33
 go_wp2_with fail
 have L := (Blk.new4 w 51 (.int .i64 t) (.int .i64 a) (.slice s ac.length c) (.slice u nx.length d)).alloc (.cells #[.slice p xs.length pc, .slice q ys.length qc] 40)
 have M := Blk.new2 (w.alloc (.cells #[.int .i64 t, .int .i64 a, .slice s ac.length c, .slice u nx.length d] 51)) 40 (.slice p xs.length pc) (.slice q ys.length qc)
 simp at M
 have hB : Below w.heap.size w ((w.alloc (.cells #[.int .i64 t, .int .i64 a, .slice s ac.length c, .slice u nx.length d] 51)).alloc (.cells #[.slice p xs.length pc, .slice q ys.length qc] 40)) := by (repeat' first | exact Below.refl _ _ | assumption | apply Below.alloc | apply Below.drew | apply Below.setCell | omega | (simp; done) | (simp; omega))
 have hB0 := hB
 generalize ((w.alloc (.cells #[.int .i64 t, .int .i64 a, .slice s ac.length c, .slice u nx.length d] 51)).alloc (.cells #[.slice p xs.length pc, .slice q ys.length qc] 40)) = v0 at L M hB hB0 ⊢
 have l0 := L.c0
 have l1 := L.c1
 have l2 := L.c2
 have l3 := L.c3
 have m0 := M.c0
 have m1 := M.c1
 have ltL := L.lt
 have ltM := M.lt
 go_wp2_with fail
 refine (implValidAutomaton_i (hr.below hB) (hq.below hB)).mono ?_
 rintro x w1 ⟨rfl, hb⟩
 clear l0 l1 l2 l3 m0 m1 ltL ltM
 replace hB := Below.on hB hb hB.size
 replace L := L.below hb
 replace M := M.below hb
 clear hb
 have szW1 := hB.size
 cases hs1 : autB t a ac nx
 ·
  have l0 := L.c0
  have l1 := L.c1
  have l2 := L.c2
  have l3 := L.c3
  have ltL := L.lt
  have m0 := M.c0
  have m1 := M.c1
  have ltM := M.lt
  go_wp2_with fail
  go_ret2
  exact ⟨ret_bi (by simp [runR, hs1]) (by simp [runK, hs1]), hB⟩
 have Hs1 := Lib.hid hs1
 clear hs1
 have l0 := L.c0
 have l1 := L.c1
 have l2 := L.c2
 have l3 := L.c3
 have m0 := M.c0
 have m1 := M.c1
 have ltL := L.lt
 have ltM := M.lt
 go_wp2_with fail
 refine (isWord_i (hx.below hB) (hy.below hB) (autB_true.1 Hs1.out).sig).mono ?_
 rintro x w2 ⟨rfl, hb⟩
 clear l0 l1 l2 l3 m0 m1 ltL ltM
 replace hB := Below.on hB hb hB.size
 replace L := L.below hb
 replace M := M.below hb
 clear hb
 have szW2 := hB.size
 cases hs2 : wordB t a xs ys
 ·
  have l0 := L.c0
  have l1 := L.c1
  have l2 := L.c2
  have l3 := L.c3
  have ltL := L.lt
  have m0 := M.c0
  have m1 := M.c1
  have ltM := M.lt
  go_wp2_with fail
  go_ret2
  exact ⟨ret_bi (by simp [runR, hs2]) (by simp [runK, hs2]), hB⟩
 have Hs2 := Lib.hid hs2
 clear hs2
 have l0 := L.c0
 have l1 := L.c1
 have l2 := L.c2
 have l3 := L.c3
 have m0 := M.c0
 have m1 := M.c1
 have ltL := L.lt
 have ltM := M.lt
 go_wp2_with fail
 have hok := autB_true.1 Hs1.out
 obtain ⟨hn10, hxl, hxs, hys⟩ := wordB_parts Hs2.out
 have hn1 := hok.lo
 have hn2 := hok.hi
 have hnl := hok.len
 have h := L.autAt (hr.below hB) (hq.below hB)
 have g4 := hr.below hB
 have g5 := hq.below hB
 have hx2 := hx.below hB
 have hy2 := hy.below hB
 have Hok := Lib.hid hok
 have Hxs := Lib.hid hxs
 have Hys := Lib.hid hys
 have Hh := Lib.hid h
 have E0 := Lib.hid M.c0
 have E1 := Lib.hid M.c1
 have hel := M.lt
 have HZ := Lib.hid hB.size
 have HB0 := Lib.hid hB
 have HR : Hid (runR t a ac nx xs ys = runsB ac nx xs ys) := by show _ = _; simp [runR, Hs1.out, Hs2.out]
 have HK : Hid (runK t a ac nx xs ys = 0) := by show _ = _; simp [runK, Hs1.out, Hs2.out]
 clear l0 l1 l2 l3 m0 m1 hr hq hx hy hok hxs hys h hB
 have hr := hx2
 have hr' := hy2
 clear hx2 hy2
 obtain ⟨w0, hw0⟩ : ∃ v, v = w2 := ⟨_, rfl⟩
 subst hw0
 go_loopw [6, 22] (fun q i wr => ∃ k s0 : Nat, k ≤ ys.length ∧ i = .int .i64 k ∧ q = .int .i64 s0 ∧ s0 < ac.length ∧ runN nx xs ys k = s0 ∧ (∀ j, j ≤ k → 0 ≤ runN nx xs ys j) ∧ Below w0.heap.size w0 wr) (fun _ i _ => ys.length - (intOf i).toNat)
 case atStart => exact ⟨0, 0, by omega, rfl, rfl, by omega, rfl, fun j hj => (by rw [show j = 0 by omega]; exact Int.le_refl 0), Below.refl _ _⟩
 case round =>
  obtain ⟨k, s0, hk, rfl, rfl, hsn, hrun, hge, hB⟩ := hrel
  have szB := hB.size
  have Hrun := Lib.hid hrun
  have Hge := Lib.hid hge
  have HB := Lib.hid hB
  clear hrun hge hB
  have hkz := Int.natCast_nonneg k
  obtain ⟨c0, c1', c2', c3', -, -⟩ := Hh.out.below HB.out
  simp only [Nat.zero_add] at c1' c2' c3'
  have e0 := (HB.out.cell (p := ⟨w.heap.size + 1, 0, none⟩) hel).trans E0.out
  have e1' := (HB.out.cell (p := ⟨w.heap.size + 1, 1, none⟩) hel).trans E1.out
  by_cases hlt : k < ys.length
  ·
   skip
   obtain ⟨xz, hxz⟩ : ∃ e, xs[k]? = some e := ⟨_, List.getElem?_eq_getElem (by omega)⟩
   obtain ⟨yz, hyz⟩ : ∃ e, ys[k]? = some e := ⟨_, List.getElem?_eq_getElem hlt⟩
   obtain ⟨x, rfl, hxb⟩ := allIn_at Hxs.out hxz
   obtain ⟨y, rfl, hyb⟩ := allIn_at Hys.out hyz
   obtain ⟨nr, row, z, hnr, hrow, hz, hz1, hz2, hstep⟩ := Hok.out.next hsn hxb hyb
   obtain ⟨ub, uo, rfl⟩ := nest_some (f := iiD) g5 (by omega)
   obtain ⟨-, sn, cn, b0, rb⟩ := nest_sl (g := intsD) (g5.below HB.out) hnr
   obtain ⟨vb, vo, rfl⟩ := nest_some (f := intsD) rb (by have := (List.getElem?_eq_some_iff.1 hrow).1; omega)
   obtain ⟨-, sr, cr, r0, rr⟩ := nest_sl (g := D.int) rb hrow
   obtain ⟨tb, to', rfl⟩ := nest_some (f := D.int) rr (by have := (List.getElem?_eq_some_iff.1 hz).1; omega)
   obtain ⟨-, z0⟩ := int_in rr hz
   obtain ⟨xb, xo, rfl⟩ := int_some hr (by omega)
   obtain ⟨yb, yo, rfl⟩ := int_some hr' (by omega)
   obtain ⟨-, x0⟩ := int_in (hr.below HB.out) hxz
   obtain ⟨-, y0⟩ := int_in (hr'.below HB.out) hyz
   obtain ⟨rb1, rb2⟩ := nest_bd rb
   obtain ⟨rr1, rr2⟩ := nest_bd rr
   unfold maxLen at rb2 rr2
   have hsz := Int.natCast_nonneg s0
   have hsb : (s0 : Int) < (nx.length : Int) := by have := (List.getElem?_eq_some_iff.1 hnr).1; omega
   have hxz' := Int.natCast_nonneg x
   have hxb' : (x : Int) < (nr.length : Int) := by have := (List.getElem?_eq_some_iff.1 hrow).1; omega
   have hyz' := Int.natCast_nonneg y
   have hyb' : (y : Int) < (row.length : Int) := by have := (List.getElem?_eq_some_iff.1 hz).1; omega
   have hkx : (k : Int) < (xs.length : Int) := by omega
   have hky : (k : Int) < (ys.length : Int) := by omega
   have Hnext : Hid (runN nx xs ys (k + 1) = z) := (runN_succ Hrun.out hxz hyz).trans hstep
   clear hxz hyz hnr hrow hz hstep hxb hyb rb rr
   have gc3 := fun d os => cell_regrown c3' d os
   have ge0 := fun d os => cell_regrown e0 d os
   have ge1 := fun d os => cell_regrown e1' d os
   have gb0 := fun d os => cell_regrown b0 d os
   have gr0 := fun d os => cell_regrown r0 d os
   have gz0 := fun d os => cell_regrown z0 d os
   have gx0 := fun d os => cell_regrown x0 d os
   have gy0 := fun d os => cell_regrown y0 d os
   go_wp2_with fail
   refine Go.wp_region_quiet_below (by kernel_rfl) (by kernel_rfl) ?_
   repeat (first | go_big_quiet_step ((fail)) | quiet_step ((fail)))
   refine wpQuiet_nil ?_; intro _ hw'; obtain ⟨⟨dq, osq⟩, hw''⟩ := hw'; subst hw''; have hq := below_regrown wr dq osq; revert hq; generalize grow (redrawn wr dq) osq = w2; intro hq
   have HB2 := Lib.hid (show Below w0.heap.size w0 w2 from Below.on HB.out hq HB.out.size)
   clear hq c0 c1' c2' c3' e0 e1' b0 r0 z0 x0 y0 gc3 ge0 ge1 gb0 gr0 gz0 gx0 gy0
   by_cases hneg : z < 0
   ·
    have C1 := Lib.hid (runsB_no (ac := ac) hlt (by rw [Hnext.out]; exact hneg))
    go_wp2_with fail
    go_ret2
    exact ⟨ret_bi (by rw [HR.out, C1.out]) (by rw [HK.out]), HB0.out.trans (HB2.out.mono HZ.out)⟩
   ·
    obtain ⟨z', rfl⟩ : ∃ m : Nat, z = (m : Int) := ⟨z.toNat, by omega⟩
    have Hge2 : Hid (∀ j, j ≤ k + 1 → 0 ≤ runN nx xs ys j) := by
     intro j hj
     by_cases hjk : j ≤ k
     ·
      exact Hge.out j hjk
     ·
      obtain rfl : j = k + 1 := by omega
      rw [Hnext.out]
      omega
    go_wp2_with fail
    go_roundw
    case rel => exact ⟨k + 1, z', by omega, by go_num, rfl, by omega, Hnext.out, Hge2.out, HB2.out⟩
    case measure => simp [intOf]; omega
  ·
   skip
   obtain rfl : k = ys.length := by omega
   obtain ⟨xz, hxz⟩ : ∃ e, xs[ys.length]? = some e := ⟨_, List.getElem?_eq_getElem (by omega)⟩
   obtain ⟨x, rfl, hxb⟩ := allIn_at Hxs.out hxz
   obtain ⟨ar, z, har, hz, hacc⟩ := Hok.out.acc hsn hxb
   obtain ⟨sb, so, rfl⟩ := nest_some (f := boolsD) g4 (by omega)
   obtain ⟨-, sa, ca, a0, ra⟩ := nest_sl (g := D.bool) (g4.below HB.out) har
   obtain ⟨ab, ao, rfl⟩ := nest_some (f := D.bool) ra (by have := (List.getElem?_eq_some_iff.1 hz).1; omega)
   obtain ⟨-, z0⟩ := bool_in ra hz
   obtain ⟨xb, xo, rfl⟩ := int_some hr (by omega)
   obtain ⟨-, x0⟩ := int_in (hr.below HB.out) hxz
   obtain ⟨ra1, ra2⟩ := nest_bd ra
   unfold maxLen at ra2
   have hsz := Int.natCast_nonneg s0
   have hsb : (s0 : Int) < (ac.length : Int) := by omega
   have hxz' := Int.natCast_nonneg x
   have hxb' : (x : Int) < (ar.length : Int) := by have := (List.getElem?_eq_some_iff.1 hz).1; omega
   have hkx : (ys.length : Int) < (xs.length : Int) := by omega
   have C1 : Hid (runsB ac nx xs ys = z) := (runsB_end Hge.out Hrun.out hxz).trans hacc
   clear hxz har hz hacc hxb ra
   have gc2 := fun d os => cell_regrown c2' d os
   have ge0 := fun d os => cell_regrown e0 d os
   have ge1 := fun d os => cell_regrown e1' d os
   have ga0 := fun d os => cell_regrown a0 d os
   have gz0 := fun d os => cell_regrown z0 d os
   have gx0 := fun d os => cell_regrown x0 d os
   go_wp2_with fail
   refine Go.wp_region_quiet_below (by kernel_rfl) (by kernel_rfl) ?_
   repeat (first | go_big_quiet_step ((fail)) | quiet_step ((fail)))
   refine wpQuiet_nil ?_; intro _ hw'; obtain ⟨⟨dq, osq⟩, hw''⟩ := hw'; subst hw''; have hq := below_regrown wr dq osq; revert hq; generalize grow (redrawn wr dq) osq = w2; intro hq
   have HB2 := Lib.hid (show Below w0.heap.size w0 w2 from Below.on HB.out hq HB.out.size)
   clear hq c0 c1' c2' c3' e0 e1' a0 z0 x0 gc2 ge0 ge1 ga0 gz0 gx0
   go_wp2_with fail
   go_ret2
   exact ⟨ret_bi (by rw [HR.out, C1.out]) (by rw [HK.out]), HB0.out.trans (HB2.out.mono HZ.out)⟩
end Go.Proofs.Ytbflhjjnemdecaa

namespace Go.Proofs.Ytbflhjjnemdecaa
set_option linter.unusedVariables false
set_option linter.unusedSimpArgs false
open Go.ChangeShapes Go.WideShapes Go.ChangeAt Go.RowKit Go.Deep
def goN (nx : List (List (List Int))) (s : Int) (m k : Nat) : Int := if s < 0 then -1 else stepN nx s.toNat m k
def hasN (ac : List (List Bool)) (s : Int) (m : Nat) : Bool := decide (0 ≤ s) && (ac.getD s.toNat []).getD m false
section
variable {nx ny : List (List (List Int))} {A a i : Nat} {x : Int × Int} {m k : Nat}
end
section
variable {t a : Int} {ac bc : List (List Bool)} {nx ny : List (List (List Int))}
end
end Go.Proofs.Ytbflhjjnemdecaa

namespace Go.Proofs.Ytbflhjjnemdecaa
set_option linter.unusedVariables false
set_option linter.unusedSimpArgs false
def okW (A a : Nat) (ws : List (Nat × Nat)) (m : Nat) : Prop := (∀ q ∈ ws, q.1 < A ∧ q.2 < a) ∧ m < A
theorem okW.tail {A a : Nat} {q : Nat × Nat} {ws : List (Nat × Nat)} {m : Nat} (h : okW A a (q :: ws) m) : q.1 < A ∧ q.2 < a ∧ okW A a ws m :=
 ⟨(h.1 q (by simp)).1, (h.1 q (by simp)).2, fun p hp => h.1 p (by simp [hp]), h.2⟩
def accN (ac : List (List Bool)) (nx : List (List (List Int))) : Int → List (Nat × Nat) → Nat → Bool
 | s, [], m => hasN ac s m
 | s, q :: ws, m => accN ac nx (goN nx s q.1 q.2) ws m
def goW (nx : List (List (List Int))) : Int → List (Nat × Nat) → Int
 | s, [] => s
 | s, q :: ws => goW nx (goN nx s q.1 q.2) ws
theorem accN_append (ac : List (List Bool)) (nx : List (List (List Int))) : ∀ (us ws : List (Nat × Nat)) (s : Int) (m : Nat), accN ac nx s (us ++ ws) m = accN ac nx (goW nx s us) ws m
 | [], _, _, _ => rfl
 | q :: us, ws, s, m => accN_append ac nx us ws (goN nx s q.1 q.2) m
theorem goW_append (nx : List (List (List Int))) : ∀ (us ws : List (Nat × Nat)) (s : Int), goW nx s (us ++ ws) = goW nx (goW nx s us) ws
 | [], _, _ => rfl
 | q :: us, ws, s => goW_append nx us ws (goN nx s q.1 q.2)
theorem accN_goW (ac : List (List Bool)) (nx : List (List (List Int))) (us : List (Nat × Nat)) (s : Int) (m : Nat) : accN ac nx s us m = hasN ac (goW nx s us) m := by
 have := accN_append ac nx us [] s m
 rw [List.append_nil] at this
 rw [this]
 rfl
theorem accN_neg (ac : List (List Bool)) (nx : List (List (List Int))) : ∀ (ws : List (Nat × Nat)) (s : Int) (m : Nat), s < 0 → accN ac nx s ws m = false
 | [], s, m, h => by
  show hasN ac s m = false
  unfold hasN
  rw [decide_eq_false (by omega), Bool.false_and]
 | q :: ws, s, m, h => by
  show accN ac nx (goN nx s q.1 q.2) ws m = false
  refine accN_neg ac nx ws _ m ?_
  unfold goN
  rw [if_pos h]
  omega
section
variable {α : Type} [DecidableEq α]
end
section
variable {t a : Int} {ac bc : List (List Bool)} {nx ny : List (List (List Int))}
end
end Go.Proofs.Ytbflhjjnemdecaa

namespace Go.Proofs.Ytbflhjjnemdecaa
set_option linter.unusedVariables false
set_option linter.unusedSimpArgs false
def segW (xs ys : List Int) (i k : Nat) : List (Nat × Nat) := (List.range (k - i)).map fun j => ((xs.getD (i + j) 0).toNat, (ys.getD (i + j) 0).toNat)
def atW (xs : List Int) (i : Nat) : Nat := (xs.getD i 0).toNat
section
variable (xs ys : List Int)
theorem segW_self (i : Nat) : segW xs ys i i = [] := by simp [segW]
theorem segW_length (i k : Nat) : (segW xs ys i k).length = k - i := by simp [segW]
theorem segW_succ {i k : Nat} (h : i ≤ k) : segW xs ys i (k + 1) = segW xs ys i k ++ [(atW xs k, (ys.getD k 0).toNat)] := by
 unfold segW atW
 rw [show k + 1 - i = (k - i) + 1 by omega, List.range_succ, List.map_append, List.map_cons, List.map_nil, show i + (k - i) = k by omega]
theorem segW_append {i j : Nat} (hij : i ≤ j) : ∀ {k : Nat}, j ≤ k → segW xs ys i k = segW xs ys i j ++ segW xs ys j k := by
 intro k
 induction k with
 | zero =>
  intro h
  obtain rfl : j = 0 := by omega
  rw [segW_self, List.append_nil]
 | succ k ih =>
  intro h
  by_cases hk : j = k + 1
  ·
   subst hk; rw [segW_self, List.append_nil]
  ·
   rw [segW_succ xs ys (by omega), segW_succ xs ys (by omega), ih (by omega), List.append_assoc]
theorem segW_one (i : Nat) : segW xs ys i (i + 1) = [(atW xs i, (ys.getD i 0).toNat)] := by rw [segW_succ xs ys (Nat.le_refl i), segW_self]; rfl
variable {xs ys}
end
section
variable {xs ys : List Int} {i k : Nat}
end
end Go.Proofs.Ytbflhjjnemdecaa

namespace Go.Proofs.Ytbflhjjnemdecaa
set_option linter.unusedVariables false
set_option linter.unusedSimpArgs false
open Go.ChangeShapes Go.WideShapes Go.ChangeAt Go.RowKit Go.Deep Go.Sort
theorem word_rds {w : World} {ps qs : List Int} {v1 v2 : Value} (h : Rds w (wordD ps qs) [v1, v2]) : Rd w (intsD ps) v1 ∧ Rd w (intsD qs) v2 := by
 simp only [wordD, Rds] at h
 obtain ⟨x1, q1, e1, r1, x2, q2, e2, r2, e3⟩ := h
 simp only [List.cons.injEq] at e1 e2
 obtain ⟨rfl, rfl⟩ := e1
 simp only [List.cons.injEq] at e2
 obtain ⟨rfl, -⟩ := e2
 exact ⟨r1, r2⟩
theorem a2Word_l {xs : List Int} {s : Option Addr} {c : Nat} {t a : Int} {e : Ex} {se : Option Addr} {ce : Nat} {w : World} (hr : Rd w (bytesD xs) (.slice s xs.length c)) (hx : ∀ x ∈ xs, 0 ≤ x ∧ x ≤ 255) (he : Rd w (kidsD e.kids) (.slice se e.kids.length ce)) (hok : okB t a e = true) :
  Calls Try.prog 32 #[.slice s xs.length c, .agg #[.int .i64 t, .int .i64 a], .agg #[.int .i64 e.kind, .int .i64 e.num, .slice se e.kids.length ce]] w fun z w' => ∃ (ps qs : List Int) (s' : Option Addr) (c' : Nat) (u' : Option Addr) (d' : Nat), z = .returned (.agg #[.slice s' ps.length c', .slice u' qs.length d']) ∧ wordB t a ps qs = true ∧
   Rd w' (intsD ps) (.slice s' ps.length c') ∧ Rd w' (intsD qs) (.slice u' qs.length d') ∧ Below w.heap.size w w' :=
 (a2Word_i hr hx he hok).mono fun _ _ ⟨ps, qs, s', c', u', d', h1, h2, h3, h4⟩ => ⟨ps, qs, s', c', u', d', h1, h3, (word_rds h2).1, (word_rds h2).2, h4⟩
end Go.Proofs.Ytbflhjjnemdecaa

namespace Go.Proofs.Ytbflhjjnemdecaa
set_option linter.unusedVariables false
set_option linter.unusedSimpArgs false
open Go.ChangeShapes Go.WideShapes Go.ChangeAt Go.RowKit Go.Deep Go.Sort
theorem rn_bl : (Try.prog.info? 4).map (fun i => (i.zero, i.size, i.bytes)) = some (some (.bool false), 1, 1) := by kernel_rfl
theorem rn_bls : (Try.prog.info? 114).map (fun i => (i.zero, i.size, i.bytes)) = some (some (.slice none 0 0), 1, 24) := by kernel_rfl
theorem rn_none {w : World} {v : Int} : OwS (fun _ => False) w [D.int v] [.int .i64 v] := ⟨[], Ows.cons (F := []) (by simp [Ow]) Ows.nil, by simp, by simp⟩
theorem rn_noneb {w : World} {v : Bool} : OwS (fun _ => False) w [D.bool v] [.bool v] := ⟨[], Ows.cons (F := []) (by simp [Ow]) Ows.nil, by simp, by simp⟩
def RnRow (n : Int) (row : List Int) : Prop := ∀ z ∈ row, -1 ≤ z ∧ z ≤ n - 1
def RnRows (a n : Int) (nr : List (List Int)) : Prop := ∀ row ∈ nr, RowOk a n row
def RnSt (t a n : Int) (ac : List (List Bool)) (nx : List (List (List Int))) : Prop := ∀ (i : Nat) (ar : List Bool) (nr : List (List Int)), ac[i]? = some ar → nx[i]? = some nr → StOk t a n ar nr
theorem RnRow.nil {n : Int} : RnRow n [] := by intro z hz; cases hz
theorem RnRow.snoc {n z : Int} {row : List Int} (h : RnRow n row) (h1 : -1 ≤ z) (h2 : z ≤ n - 1) : RnRow n (row ++ [z]) := by
 intro y hy
 rcases List.mem_append.1 hy with q | q
 ·
  exact h y q
 ·
  rw [List.mem_singleton.1 q]
  exact ⟨h1, h2⟩
theorem RnRow.ok {a n : Int} {row : List Int} (h : RnRow n row) (hl : (row.length : Int) = a) : RowOk a n row := ⟨hl, fun l z hz => h z (List.mem_of_getElem? hz)⟩
theorem RnRows.nil {a n : Int} : RnRows a n [] := by intro z hz; cases hz
theorem RnRows.snoc {a n : Int} {nr : List (List Int)} {row : List Int} (h : RnRows a n nr) (k : RowOk a n row) : RnRows a n (nr ++ [row]) := by
 intro y hy
 rcases List.mem_append.1 hy with q | q
 ·
  exact h y q
 ·
  rw [List.mem_singleton.1 q]
  exact k
theorem RnRows.ok {t a n : Int} {nr : List (List Int)} {ar : List Bool} (h : RnRows a n nr) (h1 : (ar.length : Int) = atomsN t) (h2 : (nr.length : Int) = atomsN t) : StOk t a n ar nr := ⟨h1, h2, fun j row hj => h row (List.mem_of_getElem? hj)⟩
theorem RnSt.nil {t a n : Int} : RnSt t a n [] [] := by intro i ar nr h; simp at h
theorem RnSt.snoc {t a n : Int} {ac : List (List Bool)} {nx : List (List (List Int))} {ar : List Bool} {nr : List (List Int)} (h : RnSt t a n ac nx) (hl : ac.length = nx.length) (k : StOk t a n ar nr) : RnSt t a n (ac ++ [ar]) (nx ++ [nr]) := by
 intro i ar' nr' h1 h2
 by_cases hi : i < ac.length
 ·
  rw [List.getElem?_append_left hi] at h1
  rw [List.getElem?_append_left (by omega)] at h2
  exact h i ar' nr' h1 h2
 ·
  have hi2 := (List.getElem?_eq_some_iff.1 h1).1
  simp at hi2
  obtain rfl : i = ac.length := by omega
  simp at h1
  rw [hl] at h2
  simp at h2
  subst h1 h2
  exact k
structure RnA (t a n : Int) (k : Nat) where
 ac : List (List Bool)
 nx : List (List (List Int))
 va : Option Addr
 ca : Nat
 vx : Option Addr
 cx : Nat
 l1 : ac.length = k
 l2 : nx.length = k
 st : RnSt t a n ac nx
def RnW (B b N g : Nat) (t a n : Int) (w0 wr : World) (k : Nat) (u : RnA t a n k) (more : List Item) : Prop :=
 Bun w0.heap.size wr ([.box g 51 [.int .i64 t, .int .i64 a, .slice u.va k u.ca, .slice u.vx k u.cx], .app 114 1 k (u.ac.map boolsD) (.slice u.va k u.ca), .app 113 1 k (u.nx.map iiD) (.slice u.vx k u.cx)] ++ more) ∧ Drew B b N w0 wr
theorem Bun.drew {B0 B b N : Nat} {w w' : World} {items : List Item} (h : Bun B0 w items) (k : Drew B b N w w') (hb : b < B0) : Bun B0 w' items := h.keep k.size fun i h1 h2 => k.2.block i h2 (by omega)
theorem Drew.grow {B b N : Nat} {w w1 w2 : World} (h : Drew B b N w w1) (k : Below w.heap.size w1 w2) (hB : B ≤ w.heap.size) (hb : b < w.heap.size) : Drew B b N w w2 := by
 have hz := h.size
 exact ⟨h.1.keep (k.mono hB) (k.block _ hb), k.os.trans h.2.os, k.tape.trans h.2.tape, k.output.trans h.2.output, Nat.le_trans hz k.size, fun i hi hn => (k.block i hi).trans (h.2.block i hi hn)⟩
theorem Drew.alloc {B b N : Nat} {w w1 : World} (h : Drew B b N w w1) (o : Obj) : Drew B b N w (w1.alloc o) := h.on (Below.alloc (Below.refl _ _) (Nat.le_refl _) o)
theorem Drew.cell {B b N : Nat} {w w1 : World} (h : Drew B b N w w1) (hB : B ≤ w.heap.size) (hb : b < w.heap.size) {g : Nat} (hg : w.heap.size ≤ g) (i : Nat) (v : Value) : Drew B b N w (w1.setCell ⟨g, i, none⟩ v) := h.grow (Below.setCell (p := ⟨g, i, none⟩) (Below.refl _ _) hg v) hB hb
theorem rn_new (u : World) (s T : Nat) (v : Value) (h : u.heap.size = s := by simp) : Blk (u.alloc (.cells #[v] T)) s T [v] := by subst h; exact Blk.new1 u T v
set_option maxRecDepth 100000 in
set_option maxHeartbeats 16000000 in
theorem l02Random_i {B b N : Nat} {t a mo : Int} {w : World} (h : SrcW B b N w) (hN : N ≤ 1000000) (hB : B ≤ w.heap.size) (hsig : sigB t a = true) (hm : 1 ≤ mo) (hm5 : mo ≤ 5) :
  Calls Try.prog 83 #[.pointer (some ⟨b, 0, none⟩), .agg #[.int .i64 t, .int .i64 a], .int .i64 mo] w fun f w' => ∃ ac nx s c s' c', f = .returned (.agg #[.int .i64 t, .int .i64 a, .slice s ac.length c, .slice s' nx.length c']) ∧ AutOk t a ac nx ∧ ac.length ≤ 5 ∧
   Freshs w w' (autD ac nx) [.slice s ac.length c, .slice s' nx.length c'] ∧ Drew B b (N + 1000) w w' := by
 obtain ⟨ht0, ht3, ha0, ha4⟩ := sigB_bd hsig
 obtain ⟨hat1, hat8⟩ := atomsN_bd t
 have Hsig := Lib.hid hsig
 obtain ⟨A, hA⟩ : ∃ A : Nat, atomsN t = (A : Int) := ⟨(atomsN t).toNat, by omega⟩
 have HA := Lib.hid hA
 have hA8 : A ≤ 8 := by omega
 have hbw := h.lt
 clear hsig hA hat1 hat8
 go_enter Try.func83, Try.ntmps83
 go_wp2_with fail
 obtain ⟨w1, e1, G, hb1, hz1⟩ := box2 w 34 (.int .i64 t) (.int .i64 a)
 rw [e1]
 clear e1
 obtain ⟨w0, e0, R, hb2, hz2⟩ := box4 w1 51 (.int .i64 0) (.int .i64 0) (.slice none 0 0) (.slice none 0 0)
 rw [e0]
 clear e0
 rw [hz1] at R
 have D0 := (h.drew.on hb1).on hb2
 replace G := G.below hb2
 clear hb1 hb2
 have hz0 : w0.heap.size = w.heap.size + 2 := by omega
 clear hz1 hz2
 refine (pick_i D0.1 (by omega) (by omega)).mono ?_
 rintro f w2 ⟨z, rfl, hz, hz5, D1⟩
 replace G := D1.blk G (by omega)
 replace R := D1.blk R (by omega)
 have D2 := D0.trans D1
 have hz2 := D1.size
 obtain ⟨n, hn⟩ : ∃ n : Int, 1 + z = n := ⟨_, rfl⟩
 have hn1 : 1 ≤ n := by omega
 have hn5 : n ≤ 5 := by omega
 obtain ⟨g0, g1, ltG⟩ := G.all2
 clear D0 D1
 go_wp2_with fail
 try rw [hn]
 clear hn g0 g1 ltG
 have hB2 := (((Bun.nil (B := w2.heap.size) (w := w2)).push_box (by omega) 51 #[.int .i64 t, .int .i64 a, .slice none 0 0, .slice none 0 0]).push_nil 114 1).push_nil 113 1
 obtain ⟨w3, e3, -, hb3, hz3⟩ := box4 w2 51 (.int .i64 t) (.int .i64 a) (.slice none 0 0) (.slice none 0 0)
 rw [e3] at hB2 ⊢
 obtain ⟨g, hg⟩ : ∃ g, w2.heap.size = g := ⟨_, rfl⟩
 have HG := Lib.hid G
 have HR := Lib.hid R
 have HD2 := Lib.hid D2
 have hst : Hid (∃ u : RnA t a n 0, RnW B b (N + 1) g t a n w2 w3 0 u []) := ⟨⟨[], [], none, 0, none, 0, rfl, rfl, RnSt.nil⟩, by rw [← hg]; simpa using hB2, D2.1.drew.on hb3⟩
 rw [hg]
 have hgb : w2.heap.size ≤ g := by omega
 have hgb2 : g ≤ w2.heap.size := by omega
 have hBw2 : B ≤ w2.heap.size := by omega
 have hbw2 : b < w2.heap.size := by omega
 clear e3 hb3 hB2 G R D2 hg h
 go_loopw [9] (fun i wr => ∃ k : Nat, i = .int .i64 k ∧ (k : Int) ≤ n ∧ ∃ u : RnA t a n k, RnW B b (N + 1 + k * 100) g t a n w2 wr k u []) (fun i _ => 6 - (intOf i).toNat)
 case atStart => exact ⟨0, rfl, by omega, hst.out⟩
 case round =>
  clear hst
  obtain ⟨k, rfl, hk, u, hbun, hD⟩ := hrel
  obtain ⟨wo, rfl⟩ : ∃ v, v = wr := ⟨_, rfl⟩
  have hk0 := Int.natCast_nonneg k
  have hzo := hD.size
  by_cases hlt : (k : Int) < n
  rotate_left
  ·
   obtain rfl : (k : Int) = n := by omega
   obtain ⟨x0, x1, x2, x3, -, -, -, -, ltx⟩ := (hbun.box 0 rfl).1.all4
   have R5 := hD.blk HR.out (by omega)
   obtain ⟨r0, r1, r2, r3, z0, z1, z2, z3, ltR⟩ := R5.all4
   have HF := Lib.hid (hbun.fresh2 (W := w2) (Nat.le_refl _) 1 2 (by decide) rfl rfl)
   have HD := Lib.hid (HD2.out.trans hD)
   clear hbun hD
   go_wp2_with fail
   obtain ⟨w5, e5, T2, hs5⟩ := set4 R5 (.int .i64 t) (.int .i64 a) (.slice u.va k u.ca) (.slice u.vx k u.cx)
   rw [e5]
   clear e5 r0 r1 r2 r3 z0 z1 z2 z3 ltR
   obtain ⟨t0, t1, t2, t3, -, -, -, -, -⟩ := T2.all4
   refine bodyPost_ret (v := .agg #[.int .i64 t, .int .i64 a, .slice u.va k u.ca, .slice u.vx k u.cx]) (by simp [results, Try.results83, go_sem, t0, t1, t2, t3]) rfl ?_
   refine ⟨u.ac, u.nx, u.va, u.ca, u.vx, u.cx, by rw [u.l1, u.l2], ⟨Hsig.out, by rw [u.l1]; omega, by rw [u.l1]; omega, by rw [u.l1, u.l2], by rw [u.l1]; exact u.st⟩, by rw [u.l1]; omega, ?_, (HD.out.set hs5 (by omega) hB (by omega)).more (by omega)⟩
   have e1 : autD u.ac u.nx = [D.sl 1 k (u.ac.map boolsD), D.sl 1 k (u.nx.map iiD)] := by unfold autD bbD iiiD nestD; rw [u.l1, u.l2]
   rw [e1, u.l1, u.l2]
   exact (HF.out.keep fun y h1 h2 => hs5.block y h2 (fun e => by subst e; omega)).from (by omega)
  ·
   have HB := Lib.hid hbun
   have HDo := Lib.hid hD
   clear hbun hD
   go_wp2_with fail
   have hB3 := (HB.out.push_empty hzo 4 1).push_empty (by simp; omega) 27 1
   rw [show (wo.alloc (.cells #[] 4)).heap.size = wo.heap.size + 1 by simp] at hB3
   have hD3 := (HDo.out.on (Below.alloc (Below.refl _ _) (Nat.le_refl _) (.cells #[] 4))).on (Below.alloc (Below.refl _ _) (Nat.le_refl _) (.cells #[] 27))
   have hst : Hid (RnW B b (N + 1 + k * 100) g t a n w2 ((wo.alloc (.cells #[] 4)).alloc (.cells #[] 27)) k u [.app 4 1 0 [] (.slice (some ⟨wo.heap.size, 0, none⟩) 0 0), .app 27 1 0 [] (.slice (some ⟨wo.heap.size + 1, 0, none⟩) 0 0)]) := ⟨by simpa using hB3, hD3⟩
   clear hB3 hD3
   go_loopw [10, 11, 12] (fun v3 v4 i wr => ∃ m : Nat, i = .int .i64 m ∧ m ≤ A ∧ ∃ (ar : List Bool) (nr : List (List Int)), ar.length = m ∧ nr.length = m ∧ RnRows a n nr ∧ RnW B b (N + 1 + k * 100 + m * 10) g t a n w2 wr k u [.app 4 1 m (ar.map D.bool) v3, .app 27 1 m (nr.map intsD) v4]) (fun _ _ i _ => A - (intOf i).toNat)
   case atStart => exact ⟨0, rfl, by omega, [], [], rfl, rfl, RnRows.nil, hst.out⟩
   case round =>
    clear hst
    obtain ⟨m, rfl, hmA, ar, nr, la, ln, hrows, hbun, hD⟩ := hrel
    obtain ⟨wm, rfl⟩ : ∃ v, v = wr := ⟨_, rfl⟩
    obtain ⟨a3, c3, rfl, hc3, hc3'⟩ := hbun.shape 3 rfl
    obtain ⟨a4, c4, rfl, hc4, hc4'⟩ := hbun.shape 4 rfl
    unfold maxLen at hc3' hc4'
    have Hrows := Lib.hid hrows
    have hm0 := Int.natCast_nonneg m
    have hzm := hD.size
    have G4 := hD.blk HG.out (by omega)
    obtain ⟨g0, g1, ltG⟩ := G4.all2
    have HB4 := Lib.hid hbun
    have HD4 := Lib.hid hD
    clear hbun hD G4 hrows
    go_wp2_with fail
    clear g0 g1 ltG
    refine (l01Atoms_i ht0 ht3).mono ?_
    rintro f w5 ⟨rfl, hb5⟩
    rw [HA.out]
    have HB5 := Lib.hid (HB4.out.below hb5)
    have HD5 := Lib.hid (HD4.out.on hb5)
    have hz5 := hb5.size
    clear hb5 HB4 HD4
    by_cases hmlt : m < A
    rotate_left
    ·
     obtain rfl : A = m := by omega
     obtain ⟨x0, x1, x2, x3, z0, z1, z2, z3, ltx⟩ := (HB5.out.box 0 rfl).1.all4
     have hBu := HB5.out.alloc (.cells #[.slice a3 A c3] 114)
     have hNb := Blk.new1 w5 114 (.slice a3 A c3)
     have hk5 : k + 1 ≤ 5 := by omega
     obtain ⟨-, -, -, q1, q2⟩ : True ∧ True ∧ True ∧ k ≤ u.ca ∧ u.ca ≤ maxLen := by
      obtain ⟨_, _, q9, hd3, hd4⟩ := HB5.out.shape 1 rfl
      simp only [Value.slice.injEq, true_and] at q9
      obtain ⟨_, rfl⟩ := q9
      exact ⟨trivial, trivial, trivial, hd3, hd4⟩
     obtain ⟨-, -, -, q3, q4⟩ : True ∧ True ∧ True ∧ k ≤ u.cx ∧ u.cx ≤ maxLen := by
      obtain ⟨_, _, q9, hd3, hd4⟩ := HB5.out.shape 2 rfl
      simp only [Value.slice.injEq, true_and] at q9
      obtain ⟨_, rfl⟩ := q9
      exact ⟨trivial, trivial, trivial, hd3, hd4⟩
     unfold maxLen at q2 q4
     go_wp2_with (first
      | (at_builtin; (refine wpList_append_bun_own _ rfl _ _ 45 rfl 114 24 Try.underlying45 rn_bls hBu (by simp; omega) 1 _ rfl rfl 3 (by decide) _ rfl ⟨w5.heap.size, 0, none⟩ rfl (news_blk hNb) (by omega) (by unfold maxLen; omega) ?_); intro g6 cap6 w6 hbun6 hb6; obtain ⟨y0, y1, y2, y3, f0, f1, f2, f3, lty⟩ := (hbun6.box 0 rfl).1.all4; have hz6 : w5.heap.size + 1 ≤ w6.heap.size := (by have q := hb6.size; simpa using q); have hBu2 := (hbun6.store 0 rfl 2 (.slice (some ⟨g6, 0, none⟩) (k + 1) cap6)).alloc (.cells #[.slice a4 A c4] 113); have hNb2 := rn_new (w6.setCell ⟨g, 2, none⟩ (.slice (some ⟨g6, 0, none⟩) (k + 1) cap6)) w6.heap.size 113 (.slice a4 A c4); have hD6 := Lib.hid ((((HD5.out.alloc (.cells #[.slice a3 A c3] 114)).grow hb6 hBw2 hbw2).cell hBw2 hbw2 hgb 2 (.slice (some ⟨g6, 0, none⟩) (k + 1) cap6)).alloc (.cells #[.slice a4 A c4] 113)); clear hbun6 hb6)
      | (at_builtin; go_must (refine wpList_append_bun_own _ rfl _ _ 46 rfl 113 24 Try.underlying46 info_i64ss hBu2 (by simp; omega) 2 _ rfl rfl 4 (by decide) _ rfl ⟨w6.heap.size, 0, none⟩ rfl (news_blk hNb2) (by omega) (by unfold maxLen; omega) ?_); intro g7 cap7 w7 hbun7 hb7; obtain ⟨y0, y1, y2, y3, f0, f1, f2, f3, lty⟩ := (hbun7.box 0 rfl).1.all4))
     have Hfin := Lib.hid (And.intro ((hbun7.take 3).store 0 rfl 3 (.slice (some ⟨g7, 0, none⟩) (k + 1) cap7)) ((hD6.out.grow hb7 hBw2 hbw2).cell hBw2 hbw2 hgb 3 (.slice (some ⟨g7, 0, none⟩) (k + 1) cap7)))
     clear hbun7 hb7 hBu hNb hBu2 hNb2 x0 x1 x2 x3 z0 z1 z2 z3 ltx y0 y1 y2 y3
     go_wp2_with fail
     go_roundw
     case rel =>
      refine ⟨k + 1, by go_num, by omega, ⟨u.ac ++ [ar], u.nx ++ [nr], some ⟨g6, 0, none⟩, cap6, some ⟨g7, 0, none⟩, cap7, by simp [u.l1], by simp [u.l2], u.st.snoc (by rw [u.l1, u.l2]) (Hrows.out.ok (by rw [HA.out, la]) (by rw [HA.out, ln]))⟩, ?_, Hfin.out.2.more (by omega)⟩
      have e1 : (u.ac ++ [ar]).map boolsD = u.ac.map boolsD ++ [D.sl 1 A (ar.map D.bool)] := by rw [List.map_append, ← la]; rfl
      have e2 : (u.nx ++ [nr]).map iiD = u.nx.map iiD ++ [D.sl 1 A (nr.map intsD)] := by rw [List.map_append, ← ln]; rfl
      have h := Hfin.out.1
      show Bun _ _ [_, .app _ _ _ ((u.ac ++ [ar]).map boolsD) _, .app _ _ _ ((u.nx ++ [nr]).map iiD) _]
      rw [e1, e2]
      exact h
     case measure => simp [intOf]; omega
    ·
     have hm1 : (m : Int) < (A : Int) := by omega
     go_wp2_with fail
     refine (one_i HD5.out.1 (by omega) (by omega)).mono ?_
     rintro f w6 ⟨v, rfl, D6⟩
     have HB6 := Lib.hid (HB5.out.drew D6 (by omega))
     have HD6 := Lib.hid (HD5.out.trans D6)
     have hz6 := D6.size
     have hBu := HB6.out.alloc (.cells #[.bool v] 4)
     have hNb := Blk.new1 w6 4 (.bool v)
     clear D6
     go_wp2_with (at_builtin; go_must (refine wpList_append_bun _ rfl _ _ 114 rfl 4 (.bool false) 1 1 Try.underlying114 rn_bl rfl (by decide) hBu (by simp <;> omega) 3 _ rfl rfl ⟨w6.heap.size, 0, none⟩ 1 1 [.bool v] rfl (news_blk hNb) rn_noneb rfl (by simp [Value.oneCell']) (by omega) (by omega) (by unfold maxLen; omega) ?_); intro g7 cap7 w7 hbun7 hb7; have hz7 : w6.heap.size + 1 ≤ w7.heap.size := (by have q := hb7.size; simpa using q))
     have hB8 := hbun7.push_empty (by omega) 2 1
     have hD8 := ((HD6.out.alloc (.cells #[.bool v] 4)).grow hb7 hBw2 hbw2).alloc (.cells #[] 2)
     have hst : Hid (RnW B b (N + 1 + k * 100 + m * 10 + 1) g t a n w2 (w7.alloc (.cells #[] 2)) k u [.app 4 1 (m + 1) ((ar ++ [v]).map D.bool) (.slice (some ⟨g7, 0, none⟩) (m + 1) cap7), .app 27 1 m (nr.map intsD) (.slice a4 m c4), .app 2 1 0 [] (.slice (some ⟨w7.heap.size, 0, none⟩) 0 0)]) := ⟨by simpa using hB8, hD8⟩
     clear hB8 hD8 hbun7 hb7 hBu hNb
     go_wp2_with fail
     go_loopw [13, 14] (fun v5 i wr => ∃ q : Nat, i = .int .i64 q ∧ (q : Int) ≤ a ∧ ∃ row : List Int, row.length = q ∧ RnRow n row ∧ RnW B b (N + 1 + k * 100 + m * 10 + 1 + q) g t a n w2 wr k u [.app 4 1 (m + 1) ((ar ++ [v]).map D.bool) (.slice (some ⟨g7, 0, none⟩) (m + 1) cap7), .app 27 1 m (nr.map intsD) (.slice a4 m c4), .app 2 1 q (row.map D.int) v5]) (fun _ i _ => 5 - (intOf i).toNat)
     case atStart => exact ⟨0, rfl, by omega, [], rfl, RnRow.nil, hst.out⟩
     case round =>
      clear hst
      obtain ⟨q, rfl, hqa, row, lr, hrow, hbun, hD⟩ := hrel
      obtain ⟨wq, rfl⟩ : ∃ v, v = wr := ⟨_, rfl⟩
      obtain ⟨a5, c5, rfl, hc5, hc5'⟩ := hbun.shape 5 rfl
      unfold maxLen at hc5'
      have Hrow := Lib.hid hrow
      have hq0 := Int.natCast_nonneg q
      have hzq := hD.size
      have G4 := hD.blk HG.out (by omega)
      obtain ⟨g0, g1, ltG⟩ := G4.all2
      clear G4 hrow
      by_cases hqlt : (q : Int) < a
      rotate_left
      ·
       have hqe : (q : Int) = a := by omega
       have Hqe := Lib.hid hqe
       have Hr1 : Hid (RowOk a n row) := Hrow.out.ok (by rw [lr]; exact hqe)
       have hBu := hbun.alloc (.cells #[.slice a5 q c5] 27)
       have hNb := Blk.new1 wq 27 (.slice a5 q c5)
       have hnq : ¬ (q : Int) < a := by omega
       have HD := Lib.hid hD
       clear hqe hbun hD hqlt
       go_wp2_with (at_builtin; go_must (refine wpList_append_bun_own _ rfl _ _ 113 rfl 27 24 Try.underlying113 info_i64s hBu (by simp; omega) 4 _ rfl rfl 5 (by decide) _ rfl ⟨wq.heap.size, 0, none⟩ rfl (news_blk hNb) (by omega) (by unfold maxLen; omega) ?_); intro g8 cap8 w8 hbun8 hb8)
       have Hfin := Lib.hid (And.intro (hbun8.take 5) ((HD.out.alloc (.cells #[.slice a5 q c5] 27)).grow hb8 hBw2 hbw2))
       clear hbun8 hb8 hBu hNb g0 g1 ltG
       go_wp2_with fail
       go_roundw
       case rel =>
        refine ⟨m + 1, by go_num, by omega, ar ++ [v], nr ++ [row], by simp [la], by simp [ln], Hrows.out.snoc Hr1.out, ?_, Hfin.out.2.more (by omega)⟩
        have e2 : (nr ++ [row]).map intsD = nr.map intsD ++ [D.sl 1 q (row.map D.int)] := by rw [List.map_append, ← lr]; rfl
        have h := Hfin.out.1
        rw [e2]
        exact h
       case measure => simp [intOf]; omega
      ·
       have HB := Lib.hid hbun
       have HD := Lib.hid hD
       clear hbun hD
       go_wp2_with fail
       clear g0 g1 ltG
       refine (pick_i HD.out.1 (by omega) (by omega)).mono ?_
       rintro f w6 ⟨y, rfl, y0, y1, D6⟩
       have hBu := (HB.out.drew D6 (by omega)).alloc (.cells #[.int .i64 (y - 1)] 2)
       have HD6 := Lib.hid (HD.out.trans D6)
       have hz6 := D6.size
       have hNb := Blk.new1 w6 2 (.int .i64 (y - 1))
       clear D6
       go_wp2_with (at_builtin; go_must (refine wpList_append_bun _ rfl _ _ 27 rfl 2 (.int .i64 0) 1 8 Try.underlying27 info_int64 rfl (by decide) hBu (by simp <;> omega) 5 _ rfl rfl ⟨w6.heap.size, 0, none⟩ 1 1 [.int .i64 (y - 1)] rfl (news_blk hNb) rn_none rfl (by simp [Value.oneCell']) (by omega) (by omega) (by unfold maxLen; omega) ?_); intro g8 cap8 w8 hbun8 hb8)
       have Hfin := Lib.hid (And.intro hbun8 ((HD6.out.alloc (.cells #[.int .i64 (y - 1)] 2)).grow hb8 hBw2 hbw2))
       clear hbun8 hb8 hBu hNb
       go_wp2_with fail
       go_roundw
       case rel =>
        refine ⟨q + 1, by go_num, by omega, row ++ [y - 1], by simp [lr], Hrow.out.snoc (by omega) (by omega), ?_, Hfin.out.2.more (by omega)⟩
        have h := Hfin.out.1
        have e2 : (row ++ [y - 1]).map D.int = row.map D.int ++ [D.int (y - 1)] := by rw [List.map_append]; rfl
        rw [e2]
        exact h
       case measure => simp [intOf]; omega
set_option maxRecDepth 100000 in
set_option maxHeartbeats 8000000 in
theorem a2Automata_i {xs : List Int} {s : Option Addr} {c : Nat} {w : World} (hr : Rd w (bytesD xs) (.slice s xs.length c)) (hx : ∀ x ∈ xs, 0 ≤ x ∧ x ≤ 255) :
  Calls Try.prog 31 #[.slice s xs.length c] w fun f w' => ∃ (t a : Int) (ac bc : List (List Bool)) (nx ny : List (List (List Int))) (s1 s2 s3 s4 : Option Addr) (c1 c2 c3 c4 : Nat), f = .returned (.tuple #[.agg #[.int .i64 t, .int .i64 a, .slice s1 ac.length c1, .slice s2 nx.length c2], .agg #[.int .i64 t, .int .i64 a, .slice s3 bc.length c3, .slice s4 ny.length c4]]) ∧
   (AutOk t a ac nx ∧ AutOk t a bc ny ∧ ac.length ≤ 5 ∧ bc.length ≤ 5) ∧ Rds w' (autD ac nx) [.slice s1 ac.length c1, .slice s2 nx.length c2] ∧ Rds w' (autD bc ny) [.slice s3 bc.length c3, .slice s4 ny.length c4] ∧ Below w.heap.size w w' := by
 go_enter Try.func31, Try.ntmps31
 go_wp2_with fail
 obtain ⟨w1, e1, R, hb1, hz1⟩ := box4 w 51 (.int .i64 0) (.int .i64 0) (.slice none 0 0) (.slice none 0 0)
 rw [e1]
 obtain ⟨w2, e2, Q, hb2, hz2⟩ := box4 w1 51 (.int .i64 0) (.int .i64 0) (.slice none 0 0) (.slice none 0 0)
 rw [e2]
 rw [hz1] at Q
 replace R := R.below hb2
 have hB := hb1.trans (hb2.mono (by omega))
 clear e1 e2 hb1 hb2
 refine (from_i (hr.below hB) hx).mono ?_
 rintro f w5 ⟨sb, rfl, S, hb⟩
 have hsl := S.lt
 have hs0 := S.1
 replace R := R.below hb
 replace Q := Q.below hb
 have HB := Lib.hid (Below.on hB hb hB.size)
 have hz5 := hb.size
 clear hb hB hr hx
 go_wp2_with fail
 refine (pick_i S (by omega) (by omega)).mono ?_
 rintro f w6 ⟨t, rfl, t0, t1, D1⟩
 replace R := D1.blk R (by omega)
 replace Q := D1.blk Q (by omega)
 have hz6 := D1.size
 go_wp2_with fail
 refine (pick_i D1.1 (by omega) (by omega)).mono ?_
 rintro f w7 ⟨y, rfl, y0, y1, D2⟩
 replace R := D2.blk R (by omega)
 replace Q := D2.blk Q (by omega)
 have hz7 := D2.size
 have hsig : sigB t (1 + y) = true := by simp only [sigB, inB, Bool.and_eq_true, decide_eq_true_eq]; omega
 obtain ⟨a, ha⟩ : ∃ a, 1 + y = a := ⟨_, rfl⟩
 rw [ha] at hsig
 replace HB := Lib.hid (HB.out.trans (((D1.trans D2).below (by omega)).mono (by omega)))
 have D12 := D1.trans D2
 clear D1 S
 go_wp2_with fail
 try rw [ha]
 clear ha y0 y1
 obtain ⟨w8, e8, G, hb8, hz8⟩ := box2 w7 34 (.int .i64 t) (.int .i64 a)
 rw [e8]
 replace R := R.below hb8
 replace Q := Q.below hb8
 replace HB := Lib.hid (HB.out.trans (hb8.mono (by omega)))
 have S8 := D2.1.below hb8
 clear e8 hb8 D2 D12
 obtain ⟨g0, g1, ltG⟩ := G.all2
 go_wp2_with fail
 clear g0 g1 ltG
 refine (l02Random_i S8 (by omega) (by omega) hsig (by omega) (by omega)).mono ?_
 rintro f w9 ⟨ac, nx, s1, c1, s2, c2, rfl, hok1, hl1, hf1, D3⟩
 replace R := D3.blk R (by omega)
 replace Q := D3.blk Q (by omega)
 replace G := D3.blk G (by omega)
 have hz9 := D3.size
 replace HB := Lib.hid (HB.out.trans ((D3.below (by omega)).mono (by omega)))
 obtain ⟨w10, e10, X, hb10, hz10⟩ := box4 w9 51 (.int .i64 t) (.int .i64 a) (.slice s1 ac.length c1) (.slice s2 nx.length c2)
 replace R := R.below hb10
 replace Q := Q.below hb10
 replace G := G.below hb10
 have S10 := D3.1.below hb10
 have HF1 := Lib.hid (hf1.keep (w'' := w10) fun b h1 h2 => hb10.block b h2)
 replace HB := Lib.hid (HB.out.trans (hb10.mono (by omega)))
 have Hok1 := Lib.hid hok1
 obtain ⟨g0, g1, ltG⟩ := G.all2
 clear D3 hok1 hf1 S8 hb10
 go_wp2_with fail
 clear e10 g0 g1 ltG
 refine (l02Random_i S10 (by omega) (by omega) hsig (by omega) (by omega)).mono ?_
 rintro f w11 ⟨bc, ny, s3, c3, s4, c4, rfl, hok2, hl2, hf2, D4⟩
 replace R := D4.blk R (by omega)
 replace Q := D4.blk Q (by omega)
 replace X := D4.blk X (by omega)
 have hz11 := D4.size
 replace HB := Lib.hid (HB.out.trans ((D4.below (by omega)).mono (by omega)))
 replace HF1 := Lib.hid (HF1.out.keep fun b h1 h2 => D4.2.block b h2 (by omega))
 obtain ⟨w12, e12, Y, hb12, hz12⟩ := box4 w11 51 (.int .i64 t) (.int .i64 a) (.slice s3 bc.length c3) (.slice s4 ny.length c4)
 replace R := R.below hb12
 replace Q := Q.below hb12
 replace X := X.below hb12
 have hB := HB.out.trans (hb12.mono (by omega))
 replace HF1 := Lib.hid (HF1.out.keep fun b h1 h2 => hb12.block b h2)
 have HF2 := Lib.hid (hf2.keep (w'' := w12) fun b h1 h2 => hb12.block b h2)
 have Hok2 := Lib.hid hok2
 clear D4 hok2 hf2 S10 hb12 HB G
 obtain ⟨r0, r1, r2, r3, z0, z1, z2, z3, ltR⟩ := R.all4
 obtain ⟨p0, p1, p2, p3, y0, y1, y2, y3, ltQ⟩ := Q.all4
 obtain ⟨x0, x1, x2, x3, -, -, -, -, ltX⟩ := X.all4
 obtain ⟨v0, v1, v2, v3, -, -, -, -, ltY⟩ := Y.all4
 go_wp2_with fail
 go_region
 obtain ⟨w15, e15, T1, hs5⟩ := set4 R (.int .i64 t) (.int .i64 a) (.slice s1 ac.length c1) (.slice s2 nx.length c2)
 rw [e15]
 have Q5 := Q.keep (hs5.block _ Q.lt (by simp))
 obtain ⟨wz, e16, T2, hs6⟩ := set4 Q5 (.int .i64 t) (.int .i64 a) (.slice s3 bc.length c3) (.slice s4 ny.length c4)
 rw [e16]
 have T3 := (T1.keep (hs6.block _ T1.lt (by simp))).drew
 have T4 := T2.drew
 clear e15 e16 T1 T2
 obtain ⟨t0', t1', t2, t3, -, -, -, -, -⟩ := T3.all4
 obtain ⟨ss0, ss1, ss2, ss3, -, -, -, -, -⟩ := T4.all4
 have hzB5 := hB.size
 have hz15 := hs5.size
 have hB4 := (hB.trans (hs5.below (B := w.heap.size) (by omega) (fun y hy => by omega))).trans (hs6.below (B := w.heap.size) (by omega) (fun y hy => by omega))
 have hB5 : Below w.heap.size w wz.drew := hB4.drew
 have hkk : ∀ b, w8.heap.size ≤ b → b < w12.heap.size → wz.drew.heap[b]? = w12.heap[b]? := fun b h1 h2 => (hs6.block b (by omega) (by omega)).trans (hs5.block b h2 (by omega))
 go_wp2_with fail
 refine bodyPost_ret (v := .tuple #[.agg #[.int .i64 t, .int .i64 a, .slice s1 ac.length c1, .slice s2 nx.length c2], .agg #[.int .i64 t, .int .i64 a, .slice s3 bc.length c3, .slice s4 ny.length c4]]) (by simp [results, Try.results31, go_sem, t0', t1', t2, t3, ss0, ss1, ss2, ss3]) rfl ?_
 exact ⟨t, a, ac, bc, nx, ny, s1, s2, s3, s4, c1, c2, c3, c4, rfl, ⟨Hok1.out, Hok2.out, hl1, hl2⟩, (HF1.out.keep fun b h1 h2 => hkk b (by omega) h2).rds, (HF2.out.keep fun b h1 h2 => hkk b (by omega) h2).rds, hB5⟩
end Go.Proofs.Ytbflhjjnemdecaa

namespace Go.Proofs.Ytbflhjjnemdecaa
set_option linter.unusedVariables false
set_option linter.unusedSimpArgs false
open Go.ChangeShapes Go.WideShapes Go.ChangeAt Go.RowKit Go.Sort
noncomputable def accR (t a : Int) (ac : List (List Bool)) (nx : List (List (List Int))) (x : Int) : Int := if autB t a ac nx && inB x 0 10 then (cntN ac nx x.toNat).getD 0 0 else 0
noncomputable def accK (t a : Int) (ac : List (List Bool)) (nx : List (List (List Int))) (x : Int) : Int := if autB t a ac nx then (if inB x 0 10 then 0 else 2) else 1
theorem inB_nat {x : Int} {m : Nat} (h : inB x 0 m = true) : ∃ n : Nat, x = (n : Int) ∧ n ≤ m := by
 simp only [inB, Bool.and_eq_true, decide_eq_true_eq] at h
 exact ⟨x.toNat, by omega, by omega⟩
theorem cntN_first {t a : Int} {ac : List (List Bool)} {nx : List (List (List Int))} (h : AutOk t a ac nx) (n : Nat) : ∃ v, (cntN ac nx n)[0]? = some v ∧ (cntN ac nx n).getD 0 0 = v := by
 obtain ⟨v, hv⟩ : ∃ v, (cntN ac nx n)[0]? = some v := ⟨_, List.getElem?_eq_getElem (by rw [cntN_length h]; exact h.lo)⟩
 exact ⟨v, hv, by rw [List.getD_eq_getElem?_getD, hv]; rfl⟩
set_option maxHeartbeats 4000000 in
theorem specAcceptedCount_i {t a x : Int} {ac : List (List Bool)} {nx : List (List (List Int))} {s u : Option Addr} {c d : Nat} {w : World} (hr : Rd w (bbD ac) (.slice s ac.length c)) (hq : Rd w (iiiD nx) (.slice u nx.length d)) :
  Calls Try.prog 36 #[.agg #[.int .i64 t, .int .i64 a, .slice s ac.length c, .slice u nx.length d], .int .i64 x] w
   fun e w' => e = .returned (.tuple #[.int .i64 (accR t a ac nx x), .int .i64 (accK t a ac nx x)]) ∧ Below w.heap.size w w' := by
 go_enter Try.func36, Try.ntmps36
 go_wp2_with fail
 have L := Blk.new4 w 51 (.int .i64 t) (.int .i64 a) (.slice s ac.length c) (.slice u nx.length d)
 have hB : Below w.heap.size w (w.alloc (.cells #[.int .i64 t, .int .i64 a, .slice s ac.length c, .slice u nx.length d] 51)) := by (repeat' first | exact Below.refl _ _ | assumption | apply Below.alloc | apply Below.drew | apply Below.setCell | omega | (simp; done) | (simp; omega))
 have hB0 := hB
 generalize (w.alloc (.cells #[.int .i64 t, .int .i64 a, .slice s ac.length c, .slice u nx.length d] 51)) = v0 at L hB hB0 ⊢
 have l0 := L.c0
 have l1 := L.c1
 have l2 := L.c2
 have l3 := L.c3
 have ltL := L.lt
 go_wp2_with fail
 refine (l02Ok_i (L.autAt' (hr.below hB) (hq.below hB))).mono ?_
 rintro x w1 ⟨rfl, hb⟩
 clear l0 l1 l2 l3 ltL
 replace hB := Below.on hB hb hB.size
 replace L := L.below hb
 clear hb
 have szW1 := hB.size
 cases hs1 : autB t a ac nx
 ·
  have l0 := L.c0
  have l1 := L.c1
  have l2 := L.c2
  have l3 := L.c3
  have ltL := L.lt
  go_wp2_with fail
  go_ret2
  exact ⟨ret_ii (by simp [accR, hs1]) (by simp [accK, hs1]), hB⟩
 have Hs1 := Lib.hid hs1
 clear hs1
 have l0 := L.c0
 have l1 := L.c1
 have l2 := L.c2
 have l3 := L.c3
 have ltL := L.lt
 go_wp2_with fail
 refine (in_any x 0 10 _).mono ?_
 rintro x w2 ⟨rfl, rfl⟩
 clear l0 l1 l2 l3 ltL
 cases hs2 : inB x 0 10
 ·
  have l0 := L.c0
  have l1 := L.c1
  have l2 := L.c2
  have l3 := L.c3
  have ltL := L.lt
  go_wp2_with fail
  go_ret2
  exact ⟨ret_ii (by simp [accR, hs2]) (by simp [accK, Hs1.out, hs2]), hB⟩
 have Hs2 := Lib.hid hs2
 clear hs2
 have l0 := L.c0
 have l1 := L.c1
 have l2 := L.c2
 have l3 := L.c3
 have ltL := L.lt
 go_wp2_with fail
 have HR : Hid (accR t a ac nx x = (cntN ac nx x.toNat).getD 0 0) := by show _ = _; simp [accR, Hs1.out, Hs2.out]
 have HK : Hid (accK t a ac nx x = 0) := by show _ = _; simp [accK, Hs1.out, Hs2.out]
 obtain ⟨m, rfl, hm⟩ := inB_nat (m := 10) Hs2.out
 have hok := autB_true.1 Hs1.out
 refine (l02Counts_i (L.autAt' (hr.below hB) (hq.below hB)) hok hm).mono ?_
 rintro e w2 ⟨s', c', rfl, hf, hb⟩
 replace hB := Below.on hB hb hB.size
 have hrd := hf.rd
 obtain ⟨b1, b2⟩ := nest_bd hrd
 unfold maxLen at b2
 rw [cntsL_length] at b1
 obtain ⟨pb, po, rfl⟩ := nest_some hrd (by rw [cntsL_length]; omega)
 obtain ⟨-, sp, cp, p0, rp⟩ := nest_sl (g := D.int) hrd (cntsL_at (ac := ac) (nx := nx) (show m < m + 1 by omega))
 obtain ⟨v, hv, hv2⟩ := cntN_first hok m
 have hpl := cntN_length hok m
 have hlo := hok.lo
 obtain ⟨qb, qo, rfl⟩ := nest_some (f := D.int) rp (by omega)
 obtain ⟨-, q0⟩ := int_in rp hv
 simp only [Nat.add_zero] at q0
 obtain ⟨b3, b4⟩ := nest_bd rp
 unfold maxLen at b4
 have b5 : (1 : Nat) ≤ (cntN ac nx m).length := by omega
 have HV : Hid (accR t a ac nx m = v) := by show _ = _; rw [HR.out, Int.toNat_natCast, hv2]
 have hmz := Int.natCast_nonneg m
 clear hb hf hrd rp hv hv2 hok hr hq hpl HR l0 l1 l2 l3
 go_wp2_with fail
 go_ret2
 exact ⟨ret_ii HV.out.symm HK.out.symm, hB⟩
set_option maxHeartbeats 4000000 in
theorem implAcceptedCount_i {t a x : Int} {ac : List (List Bool)} {nx : List (List (List Int))} {s u : Option Addr} {c d : Nat} {w : World} (hr : Rd w (bbD ac) (.slice s ac.length c)) (hq : Rd w (iiiD nx) (.slice u nx.length d)) :
  Calls Try.prog 35 #[.agg #[.int .i64 t, .int .i64 a, .slice s ac.length c, .slice u nx.length d], .int .i64 x] w
   fun e w' => e = .returned (.tuple #[.int .i64 (accR t a ac nx x), .int .i64 (accK t a ac nx x)]) ∧ Below w.heap.size w w' := by
 go_enter Try.func35, Try.ntmps35
 go_wp2_with fail
 have L := Blk.new4 w 51 (.int .i64 t) (.int .i64 a) (.slice s ac.length c) (.slice u nx.length d)
 have hB : Below w.heap.size w (w.alloc (.cells #[.int .i64 t, .int .i64 a, .slice s ac.length c, .slice u nx.length d] 51)) := by (repeat' first | exact Below.refl _ _ | assumption | apply Below.alloc | apply Below.drew | apply Below.setCell | omega | (simp; done) | (simp; omega))
 have hB0 := hB
 generalize (w.alloc (.cells #[.int .i64 t, .int .i64 a, .slice s ac.length c, .slice u nx.length d] 51)) = v0 at L hB hB0 ⊢
 have l0 := L.c0
 have l1 := L.c1
 have l2 := L.c2
 have l3 := L.c3
 have ltL := L.lt
 go_wp2_with fail
 refine (implValidAutomaton_i (hr.below hB) (hq.below hB)).mono ?_
 rintro x w1 ⟨rfl, hb⟩
 clear l0 l1 l2 l3 ltL
 replace hB := Below.on hB hb hB.size
 replace L := L.below hb
 clear hb
 have szW1 := hB.size
 cases hs1 : autB t a ac nx
 ·
  have l0 := L.c0
  have l1 := L.c1
  have l2 := L.c2
  have l3 := L.c3
  have ltL := L.lt
  go_wp2_with fail
  go_ret2
  exact ⟨ret_ii (by simp [accR, hs1]) (by simp [accK, hs1]), hB⟩
 have Hs1 := Lib.hid hs1
 clear hs1
 have l0 := L.c0
 have l1 := L.c1
 have l2 := L.c2
 have l3 := L.c3
 have ltL := L.lt
 go_wp2_with fail
 refine (within_any x 0 10 _).mono ?_
 rintro x w2 ⟨rfl, rfl⟩
 clear l0 l1 l2 l3 ltL
 cases hs2 : inB x 0 10
 ·
  have l0 := L.c0
  have l1 := L.c1
  have l2 := L.c2
  have l3 := L.c3
  have ltL := L.lt
  go_wp2_with fail
  go_ret2
  exact ⟨ret_ii (by simp [accR, hs2]) (by simp [accK, Hs1.out, hs2]), hB⟩
 have Hs2 := Lib.hid hs2
 clear hs2
 have l0 := L.c0
 have l1 := L.c1
 have l2 := L.c2
 have l3 := L.c3
 have ltL := L.lt
 go_wp2_with fail
 have HR : Hid (accR t a ac nx x = (cntN ac nx x.toNat).getD 0 0) := by show _ = _; simp [accR, Hs1.out, Hs2.out]
 have HK : Hid (accK t a ac nx x = 0) := by show _ = _; simp [accK, Hs1.out, Hs2.out]
 obtain ⟨m, rfl, hm⟩ := inB_nat (m := 10) Hs2.out
 have hok := autB_true.1 Hs1.out
 refine (countFrom_i (hr.below hB) (hq.below hB) hok hm).mono ?_
 rintro e w2 ⟨g, rfl, hf, hb⟩
 replace hB := Below.on hB hb hB.size
 obtain ⟨v, hv, hv2⟩ := cntN_first hok m
 obtain ⟨-, q0⟩ := int_in hf.rd hv
 simp only [Nat.add_zero] at q0
 have hlo := hok.lo
 have hhi := hok.hi
 have HV : Hid (accR t a ac nx m = v) := by show _ = _; rw [HR.out, Int.toNat_natCast, hv2]
 clear hb hf hv hv2 hok hr hq HR l0 l1 l2 l3
 go_wp2_with fail
 go_ret2
 exact ⟨ret_ii HV.out.symm HK.out.symm, hB⟩
end Go.Proofs.Ytbflhjjnemdecaa
