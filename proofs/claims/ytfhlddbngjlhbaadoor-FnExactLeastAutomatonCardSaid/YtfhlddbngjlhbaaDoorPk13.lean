/-
  Parts of a proof, joined: LeS, LeS2, LeC. No condition.
-/
import Derived.Test.YtfhlddbngjlhbaaDoorPk12
namespace Go.Proofs.YtfhlddbngjlhbaaDoor
set_option linter.unusedVariables false
set_option linter.unusedSimpArgs false
open Go.ChangeShapes Go.WideShapes Go.ChangeAt Go.RowKit Go.Sort Go.Deep
theorem l02Class_i {C : List Int} {s : Option Addr} {c : Nat} {z : Int} {w : World} (hr : Rd w (intsD C) (.slice s C.length c)) (hz : z < C.length) :
  Calls Tryd.prog 33 #[.slice s C.length c, .int .i64 z] w fun e w' => e = .returned (.int .i64 (clL C z)) ∧ w' = w := by
 by_cases h0 : z < 0
 ·
  rw [clL_neg h0]
  go_enter Tryd.func33, Tryd.ntmps33
  go_wp2_with fail
  go_ret
  exact ⟨rfl, rfl⟩
 ·
  obtain ⟨n, rfl⟩ : ∃ n : Nat, z = (n : Int) := ⟨z.toNat, by omega⟩
  obtain ⟨v, hv⟩ : ∃ e, C[n]? = some e := ⟨_, List.getElem?_eq_getElem (by omega)⟩
  obtain ⟨b, o, rfl⟩ := nest_some (f := D.int) hr (by omega)
  obtain ⟨-, q0⟩ := int_in hr hv
  obtain ⟨hcap1, hcap2⟩ := nest_bd (f := D.int) hr
  unfold maxLen at hcap2
  rw [clL_at hv]
  have hn0 := Int.natCast_nonneg n
  have hd : decide ((n : Int) < 0) = false := by apply decide_eq_false; omega
  clear hv hr
  go_enter Tryd.func33, Tryd.ntmps33
  go_wp2_with fail
  go_ret
  exact ⟨rfl, rfl⟩
theorem l02Class_n {C : List Int} {s : Option Addr} {c n : Nat} {z : Int} {w : World} (hr : Rd w (intsD C) (.slice s n c)) (hn : C.length = n) (hz : z < n) :
  Calls Tryd.prog 33 #[.slice s n c, .int .i64 z] w fun e w' => e = .returned (.int .i64 (clL C z)) ∧ w' = w := by
 subst hn
 exact l02Class_i hr hz
theorem l02Class_b {C : List Int} {s : Option Addr} {c n : Nat} {z : Int} {w : World} (hr : Rd w (intsD C) (.slice s n c)) (hn : C.length = n) (hz : z < n) :
  Calls Tryd.prog 33 #[.slice s n c, .int .i64 z] w fun e w' => e = .returned (.int .i64 (clL C z)) ∧ Below w.heap.size w w' :=
 (l02Class_n hr hn hz).mono fun e w' ⟨h1, h2⟩ => ⟨h1, by rw [h2]; exact Below.refl _ _⟩
set_option maxHeartbeats 4000000 in
theorem l02Index_i {L : List Int} {s : Option Addr} {c : Nat} {n : Int} {w : World} (hr : Rd w (intsD L) (.slice s L.length c)) :
  Calls Tryd.prog 34 #[.slice s L.length c, .int .i64 n] w fun e w' => e = .returned (.int .i64 (idxI L n)) ∧ w' = w := by
 obtain ⟨hcap1, hcap2⟩ := nest_bd (f := D.int) hr
 unfold maxLen at hcap2
 go_enter Tryd.func34, Tryd.ntmps34
 go_wp2_with fail
 go_loop [5] (fun i => ∃ k : Nat, k ≤ L.length ∧ i = .int .i64 k ∧ Hid (∀ j, j < k → L[j]? ≠ some n)) (fun i => L.length - (intOf i).toNat)
 case atStart => exact ⟨0, by omega, rfl, fun j hj => by omega⟩
 case round =>
  obtain ⟨k, hk, rfl, Hno⟩ := hrel
  have hk0 := Int.natCast_nonneg k
  by_cases hlt : k < L.length
  ·
   obtain ⟨x, hx⟩ : ∃ x, L[k]? = some x := ⟨_, List.getElem?_eq_getElem hlt⟩
   obtain ⟨kb, ko, rfl⟩ := nest_some (f := D.int) hr (by omega)
   obtain ⟨-, q0⟩ := int_in hr hx
   have hk1 : (k : Int) < (L.length : Int) := by omega
   have Hx := Lib.hid hx
   clear hx
   cases he : (x == n)
   ·
    have Hno2 : Hid (∀ j, j < k + 1 → L[j]? ≠ some n) := fun j hj => by
     by_cases hjk : j = k
     ·
      subst hjk
      rw [Hx.out]
      intro h
      rw [Option.some.inj h, beq_self_eq_true] at he
      cases he
     ·
      exact Hno.out j (by omega)
    clear Hno
    go_wp2_with fail
    go_round
    case rel => exact ⟨k + 1, by omega, by go_num, Hno2⟩
    case measure => simp [intOf]; omega
   ·
    have E1 : Hid (idxI L n = (k : Int)) := idxI_yes (by rw [Hx.out, eq_of_beq he]) Hno.out
    clear Hno
    go_wp2_with fail
    go_ret
    exact ⟨ret_int E1.out.symm, rfl⟩
  ·
   obtain rfl : k = L.length := by omega
   have E1 : Hid (idxI L n = -1) := idxI_no Hno.out
   clear Hno
   go_wp2_with fail
   go_ret
   exact ⟨ret_int E1.out.symm, rfl⟩
set_option maxRecDepth 100000 in
set_option maxHeartbeats 16000000 in
theorem l02Alike_i {t a : Int} {ac : List (List Bool)} {nx : List (List (List Int))} {s u : Option Addr} {c d b o x y : Nat} {C : List Int} {sc : Option Addr} {cc : Nat} {w : World} (h : AutAt w b o t a ac nx s u c d) (hok : AutOk t a ac nx) (hC : Rd w (intsD C) (.slice sc ac.length cc)) (hCl : C.length = ac.length) (hx : x < ac.length) (hy : y < ac.length) :
  Calls Tryd.prog 59 #[.pointer (some ⟨b, o, none⟩), .slice sc ac.length cc, .int .i64 x, .int .i64 y] w fun e w' => e = .returned (.bool (alkB ac nx C x y)) ∧ Below w.heap.size w w' := by
 obtain ⟨hdm1, hdm2, hdm3, hdm4⟩ := hok.dims
 obtain ⟨ar, har⟩ : ∃ e, ac[x]? = some e := ⟨_, List.getElem?_eq_getElem hx⟩
 obtain ⟨ar', har'⟩ : ∃ e, ac[y]? = some e := ⟨_, List.getElem?_eq_getElem hy⟩
 obtain ⟨nr, hnr⟩ : ∃ e, nx[x]? = some e := ⟨_, List.getElem?_eq_getElem (by rw [hok.len]; exact hx)⟩
 obtain ⟨nr', hnr'⟩ : ∃ e, nx[y]? = some e := ⟨_, List.getElem?_eq_getElem (by rw [hok.len]; exact hy)⟩
 have Halk := Lib.hid (show alkB ac nx C x y = (eqb ar ar' && eqb (rowsC C nr) (rowsC C nr')) by unfold alkB; rw [getD_of har, getD_of har', getD_of hnr, getD_of hnr'])
 obtain ⟨l1, l2⟩ := hok.row hnr
 obtain ⟨l1', l2'⟩ := hok.row hnr'
 have hnl := hok.len
 have g4 := h.2.2.2.2.1
 have g5 := h.2.2.2.2.2
 obtain ⟨hlen, hcap⟩ := nest_bd g4
 obtain ⟨hlen', hcap'⟩ := nest_bd g5
 unfold maxLen at hcap hcap'
 obtain ⟨sb, so, rfl⟩ := nest_some (f := boolsD) g4 (by omega)
 obtain ⟨ub, uo, rfl⟩ := nest_some (f := iiD) g5 (by omega)
 have hx0 := Int.natCast_nonneg x
 have hy0 := Int.natCast_nonneg y
 have hxb : (x : Int) < (ac.length : Int) := by omega
 have hyb : (y : Int) < (ac.length : Int) := by omega
 have hxc : (x : Int) < (nx.length : Int) := by omega
 have hyc : (y : Int) < (nx.length : Int) := by omega
 have Hh := Lib.hid h
 have HC := Lib.hid hC
 have HCl := Lib.hid hCl
 have Hl2 := Lib.hid l2
 have Hl2' := Lib.hid l2'
 have Hnr := Lib.hid hnr
 have Hnr' := Lib.hid hnr'
 have hll : nr.length = nr'.length := by omega
 have hn8 : nr.length ≤ 8 := by omega
 obtain ⟨-, s1, c1, a0, r1⟩ := nest_sl (g := D.bool) g4 har
 obtain ⟨-, s2, c2, b0, r2⟩ := nest_sl (g := D.bool) g4 har'
 obtain ⟨-, -, c2', -, -, -⟩ := h
 have gc2 := fun d os => cell_regrown c2' d os
 have ga0 := fun d os => cell_regrown a0 d os
 have gb0 := fun d os => cell_regrown b0 d os
 clear hok g4 g5 hC hCl l2 l2' hnr hnr' har har' hnl
 go_enter Tryd.func59, Tryd.ntmps59
 go_wp2_with fail
 refine Go.wp_region_quiet_below (by kernel_rfl) (by kernel_rfl) ?_
 repeat (first | go_big_quiet_step ((exact Calls.regrown_of (l02SameRow_any ar ar' _ _ _ _ _ (r1.below (below_regrown _ _ _)) (r2.below (below_regrown _ _ _))))) | quiet_step ((exact Calls.regrown_of (l02SameRow_any ar ar' _ _ _ _ _ (r1.below (below_regrown _ _ _)) (r2.below (below_regrown _ _ _))))))
 refine wpQuiet_nil ?_; intro _ hw'; obtain ⟨⟨dq, osq⟩, hw''⟩ := hw'; subst hw''; have hq := below_regrown w dq osq; revert hq; generalize grow (redrawn w dq) osq = w1; intro hq
 clear c2' gc2 ga0 gb0 a0 b0 r1 r2
 by_cases har : ar = ar'
 rotate_left
 ·
  have e1 : eqb ar ar' = false := eqb_false har
  have E : Hid (alkB ac nx C x y = false) := by show _ = _; rw [Halk.out, e1]; rfl
  rw [e1]
  clear e1 har
  go_wp2_with fail
  go_ret
  exact ⟨ret_bool E.out.symm, hq⟩
 have e1 : eqb ar ar' = true := eqb_true har
 have Halk2 : Hid (alkB ac nx C x y = eqb (rowsC C nr) (rowsC C nr')) := by show _ = _; rw [Halk.out, e1, Bool.true_and]
 rw [e1]
 have HQ := Lib.hid hq
 clear e1 har Halk hq
 go_wp2_with fail
 go_loopw [9] (fun i wr => ∃ m : Nat, m ≤ nr.length ∧ i = .int .i64 m ∧ Hid ((nr.take m).map (rowC C) = (nr'.take m).map (rowC C)) ∧ Below w.heap.size w wr) (fun i _ => nr.length - (intOf i).toNat)
 case atStart => exact ⟨0, by omega, rfl, by show _ = _; simp, HQ.out⟩
 case round =>
  clear HQ
  obtain ⟨m, hm, rfl, Hpre, hB⟩ := hrel
  obtain ⟨wm, rfl⟩ : ∃ v, v = wr := ⟨_, rfl⟩
  have hm0 := Int.natCast_nonneg m
  have HB := Lib.hid hB
  clear hB
  obtain ⟨-, -, c2', c3', g4, g5⟩ := Hh.out.below (HB.out)
  obtain ⟨-, sn, cn, a1, r1⟩ := nest_sl (g := intsD) g5 Hnr.out
  clear g4 g5 r1 c2'
  by_cases hml : m < nr.length
  rotate_left
  ·
   obtain rfl : m = nr.length := by omega
   have E : Hid (alkB ac nx C x y = true) := by
    show _ = _
    rw [Halk2.out]
    have h := Hpre.out
    rw [List.take_length, hll, List.take_length] at h
    exact eqb_true h
   clear Hpre
   go_wp2_with fail
   go_ret
   exact ⟨ret_bool E.out.symm, HB.out⟩
  have hmb : (m : Int) < (nr.length : Int) := by omega
  have hmc : (m : Int) < (nr'.length : Int) := by omega
  obtain ⟨row, hrow⟩ : ∃ e, nr[m]? = some e := ⟨_, List.getElem?_eq_getElem (by omega)⟩
  obtain ⟨row', hrow'⟩ : ∃ e, nr'[m]? = some e := ⟨_, List.getElem?_eq_getElem (by omega)⟩
  obtain ⟨q1, q2⟩ := Hl2.out _ _ hrow
  obtain ⟨q1', q2'⟩ := Hl2'.out _ _ hrow'
  have Hq2 := Lib.hid q2
  have Hq2' := Lib.hid q2'
  have Hrow := Lib.hid hrow
  have Hrow' := Lib.hid hrow'
  have hrl : row.length = row'.length := by omega
  have hr4 : row.length ≤ 4 := by omega
  clear hrow hrow' q1 q1' q2 q2'
  go_wp2_with fail
  clear c3' a1
  go_loopw [10] (fun i wr => ∃ k : Nat, k ≤ row.length ∧ i = .int .i64 k ∧ Hid ((row.take k).map (clL C) = (row'.take k).map (clL C)) ∧ Below w.heap.size w wr) (fun i _ => row.length - (intOf i).toNat)
  case atStart => exact ⟨0, by omega, rfl, by show _ = _; simp, HB.out⟩
  case round =>
   clear HB
   obtain ⟨k, hk, rfl, Hpr2, hB⟩ := hrel
   obtain ⟨wk, rfl⟩ : ∃ v, v = wr := ⟨_, rfl⟩
   have hk0 := Int.natCast_nonneg k
   have HB := Lib.hid hB
   clear hB
   obtain ⟨-, -, c2', c3', g4, g5⟩ := Hh.out.below (HB.out)
   obtain ⟨-, sn, cn, a1, r1⟩ := nest_sl (g := intsD) g5 Hnr.out
   obtain ⟨-, sm, cm, a2, r2⟩ := nest_sl (g := intsD) g5 Hnr'.out
   have gc3 := fun d os => cell_regrown c3' d os
   have ga1 := fun d os => cell_regrown a1 d os
   have ga2 := fun d os => cell_regrown a2 d os
   obtain ⟨nb, no, rfl⟩ := nest_some (f := intsD) r1 (by omega)
   obtain ⟨mb, mo, rfl⟩ := nest_some (f := intsD) r2 (by omega)
   obtain ⟨n1, n2⟩ := nest_bd r1
   obtain ⟨n3, n4⟩ := nest_bd r2
   obtain ⟨-, sr, cr, p1, t1⟩ := nest_sl (g := D.int) r1 Hrow.out
   obtain ⟨-, sq, cq, p2, t2⟩ := nest_sl (g := D.int) r2 Hrow'.out
   unfold maxLen at n2 n4
   clear g4 g5 r1 r2 c2'
   by_cases hkl : k < row.length
   rotate_left
   ·
    obtain rfl : k = row.length := by omega
    have Hnx : Hid ((nr.take (m + 1)).map (rowC C) = (nr'.take (m + 1)).map (rowC C)) := by
     refine take_step Hrow.out Hrow'.out Hpre.out ?_
     have h := Hpr2.out
     rw [List.take_length, hrl, List.take_length] at h
     exact h
    clear Hpre Hpr2
    go_wp2_with fail
    go_roundw
    case rel => exact ⟨m + 1, by omega, by go_num, Hnx, HB.out⟩
    case measure => simp [intOf]; omega
   obtain ⟨z, hz⟩ : ∃ e, row[k]? = some e := ⟨_, List.getElem?_eq_getElem hkl⟩
   obtain ⟨z', hz'⟩ : ∃ e, row'[k]? = some e := ⟨_, List.getElem?_eq_getElem (by omega)⟩
   obtain ⟨rb, ro, rfl⟩ := nest_some (f := D.int) t1 (by omega)
   obtain ⟨qb, qo, rfl⟩ := nest_some (f := D.int) t2 (by omega)
   obtain ⟨-, v1⟩ := int_in t1 hz
   obtain ⟨-, v2⟩ := int_in t2 hz'
   obtain ⟨n5, n6⟩ := nest_bd (f := D.int) t1
   obtain ⟨n7, n8⟩ := nest_bd (f := D.int) t2
   unfold maxLen at n6 n8
   have hzb := Hq2.out k z hz
   have hzb' := Hq2'.out k z' hz'
   have Hz := Lib.hid hz
   have Hz' := Lib.hid hz'
   have hkb : (k : Int) < (row.length : Int) := by omega
   have hkc : (k : Int) < (row'.length : Int) := by omega
   have gp1 := fun d os => cell_regrown p1 d os
   have gp2 := fun d os => cell_regrown p2 d os
   have gv1 := fun d os => cell_regrown v1 d os
   have gv2 := fun d os => cell_regrown v2 d os
   have hCr := HC.out.below HB.out
   have hk1 := fun (ws : World) (v : Int) (hv : v < ac.length) (hb : Below wk.heap.size wk ws) => l02Class_b (z := v) (hCr.below hb) HCl.out hv
   clear t1 t2 hz hz'
   go_wp2_with fail
   refine Go.wp_region_quiet_below (by kernel_rfl) (by kernel_rfl) ?_
   repeat (first | go_big_quiet_step ((exact Calls.regrown_of (hk1 _ _ (by omega) (below_regrown _ _ _)))) | quiet_step ((exact Calls.regrown_of (hk1 _ _ (by omega) (below_regrown _ _ _)))))
   refine wpQuiet_nil ?_; intro _ hw'; obtain ⟨⟨dq, osq⟩, hw''⟩ := hw'; subst hw''; have hq := below_regrown wk dq osq; revert hq; generalize grow (redrawn wk dq) osq = w2; intro hq
   have hB2 : Below w.heap.size w w2 := Below.on HB.out hq HB.out.size
   clear hq c3' gc3 a1 a2 ga1 ga2 p1 p2 gp1 gp2 v1 v2 gv1 gv2 hCr hk1
   by_cases hzz : clL C z = clL C z'
   ·
    have Hnx : Hid ((row.take (k + 1)).map (clL C) = (row'.take (k + 1)).map (clL C)) := take_step Hz.out Hz'.out Hpr2.out hzz
    have e2 : (clL C z != clL C z') = false := by simp [hzz]
    rw [e2]
    clear e2 hzz Hpr2
    go_wp2_with fail
    go_roundw
    case rel => exact ⟨k + 1, by omega, by go_num, Hnx, hB2⟩
    case measure => simp [intOf]; omega
   ·
    have E : Hid (alkB ac nx C x y = false) := by
     show _ = _
     rw [Halk2.out]
     exact eqb_false (map_differ (f := rowC C) Hrow.out Hrow'.out (map_differ (f := clL C) Hz.out Hz'.out hzz))
    have e2 : (clL C z != clL C z') = true := by simp [hzz]
    rw [e2]
    clear e2 hzz Hpr2
    go_wp2_with fail
    go_ret
    exact ⟨ret_bool E.out.symm, hB2⟩
end Go.Proofs.YtfhlddbngjlhbaaDoor

namespace Go.Proofs.YtfhlddbngjlhbaaDoor
set_option linter.unusedVariables false
set_option linter.unusedSimpArgs false
open Go.ChangeShapes Go.WideShapes Go.ChangeAt Go.RowKit Go.Sort Go.Deep
set_option maxRecDepth 100000 in
set_option maxHeartbeats 16000000 in
theorem l02Split_i {t a : Int} {ac : List (List Bool)} {nx : List (List (List Int))} {s u : Option Addr} {c d b o : Nat} {C : List Int} {sc : Option Addr} {cc : Nat} {w : World} (h : AutAt w b o t a ac nx s u c d) (hok : AutOk t a ac nx) (hC : Rd w (intsD C) (.slice sc ac.length cc)) (hCl : C.length = ac.length) :
  Calls Tryd.prog 50 #[.pointer (some ⟨b, o, none⟩), .slice sc ac.length cc] w fun e w' => ∃ s' c', e = .returned (.tuple #[.slice s' ac.length c', .int .i64 ((keyL (kyC ac nx (atomsN t).toNat a.toNat C) (stB ac.length)).length : Nat)]) ∧
   Fresh w w' (intsD (spO (kyC ac nx (atomsN t).toNat a.toNat C) ac.length ac.length)) (.slice s' ac.length c') ∧ Below w.heap.size w w' := by
 have hky := fun (x y : Nat) (hx : x < ac.length) (hy : y < ac.length) => ky_iff (C := C) hok hx hy
 obtain ⟨f, hf⟩ : ∃ f, kyC ac nx (atomsN t).toNat a.toNat C = f := ⟨_, rfl⟩
 rw [hf] at hky ⊢
 have hn1 := hok.lo
 have hn2 := hok.hi
 have Hky := Lib.hid hky
 have Hok := Lib.hid hok
 have Hh := Lib.hid h
 obtain ⟨N, hN⟩ : ∃ N, ac.length = N := ⟨_, rfl⟩
 rw [hN] at hn1 hn2 hCl hC ⊢
 have HC := Lib.hid hC
 have HCl := Lib.hid hCl
 have HN := Lib.hid hN
 obtain ⟨kb, ko, rfl⟩ := nest_some (f := D.int) hC (by omega)
 obtain ⟨m1, m2⟩ := nest_bd (f := D.int) hC
 unfold maxLen at m2
 have h0 := App.empty (W := w) (size := 1) (Blk.made w 2 #[]) (Nat.le_refl _)
 clear hf hky hok h hC hN hCl
 go_enter Tryd.func50, Tryd.ntmps50
 go_wp2_with fail
 go_loopw [6, 7, 8] (fun v n i wr => ∃ k : Nat, k ≤ N ∧ i = .int .i64 k ∧ n = .int .i64 ((keyL f (stB k)).length : Nat) ∧ App w wr 2 1 k ((spO f N k).map D.int) v ∧ Below w.heap.size w wr) (fun _ _ i _ => N - (intOf i).toNat)
 case atStart => exact ⟨0, by omega, rfl, rfl, by simpa [spO, stB] using h0, by (repeat' first | exact Below.refl _ _ | assumption | apply Below.alloc | apply Below.drew | apply Below.setCell | omega | (simp; done) | (simp; omega))⟩
 case round =>
  clear h0
  obtain ⟨k, hk, rfl, rfl, happ, hB⟩ := hrel
  obtain ⟨wo, rfl⟩ : ∃ v, v = wr := ⟨_, rfl⟩
  obtain ⟨av, capv, rfl, hcap1, hcap2⟩ := happ.shape
  unfold maxLen at hcap2
  have hk0 := Int.natCast_nonneg k
  have szB := hB.size
  have HA := Lib.hid happ
  have HB := Lib.hid hB
  have hkn := keyL_stB f k
  obtain ⟨q, hq⟩ : ∃ q, (keyL f (stB k)).length = q := ⟨_, rfl⟩
  have Hq := Lib.hid hq
  rw [hq] at hkn ⊢
  clear happ hB hq
  by_cases hlt : k < N
  rotate_left
  ·
   obtain rfl : k = N := by omega
   have hf := HA.out.freshN (spO_len f k k)
   go_wp2_with fail
   go_ret2
   exact ⟨av, capv, by rw [Hq.out]; rfl, hf, HB.out⟩
  have hk1 : (k : Int) < (N : Int) := by omega
  obtain ⟨x, hx⟩ : ∃ x, C[k]? = some x := ⟨_, List.getElem?_eq_getElem (by have := HCl.out; omega)⟩
  have Hx := Lib.hid hx
  clear hx
  go_wp2_with fail
  go_loopw [9, 10] (fun y j wr => ∃ l : Nat, l ≤ k ∧ j = .int .i64 l ∧ ((y = .int .i64 (-1) ∧ Hid (∀ j', j' < l → f (k : Int) ≠ f (j' : Int))) ∨ ∃ v : Int, y = .int .i64 v ∧ 0 ≤ v ∧ Hid (∃ j' : Nat, j' < k ∧ f (k : Int) = f (j' : Int) ∧ v = numK f (stB N) (j' : Int))) ∧ Below wo.heap.size wo wr) (fun _ j _ => k - (intOf j).toNat)
  case atStart => exact ⟨0, by omega, rfl, Or.inl ⟨rfl, fun j hj => by omega⟩, Below.refl _ _⟩
  case round =>
   obtain ⟨l, hl, rfl, hcase, hBl⟩ := hrel
   obtain ⟨wl, rfl⟩ : ∃ v, v = wr := ⟨_, rfl⟩
   have hl0 := Int.natCast_nonneg l
   have szl := hBl.size
   have HBl := Lib.hid hBl
   clear hBl
   rcases hcase with ⟨rfl, Hno⟩ | ⟨v, rfl, hv0, HJ⟩
   rotate_left
   ·
    obtain ⟨j', hj', he, hv⟩ := HJ.out
    obtain ⟨s1, s2⟩ := sp_old (N := N) hj' he
    have hds : Hid ((spO f N (k + 1)).map D.int = (spO f N k).map D.int ++ [D.int v]) := by show _ = _; rw [spO_succ, List.map_append, s1, hv]; rfl
    have hct : Hid ((keyL f (stB (k + 1))).length = q) := by show _ = _; rw [s2, Hq.out]
    have hvd : decide (v < 0) = false := by apply decide_eq_false; omega
    have happ := HA.out
    clear hj' he hv s1 s2 HJ
    by_cases hlk : l < k
    all_goals
     go_wp2_with (at_builtin; go_must (refine wpList_append_app _ rfl _ _ 58 rfl 2 (.int .i64 0) 1 8 Tryd.underlying58 info_int64 rfl (by decide) _ rfl happ (HBl.out.alloc szl _) szB ⟨wl.heap.size, 0, none⟩ 1 1 [.int .i64 v] rfl (news_blk (Blk.made _ _ _)) (Freshs.int v) rfl (by simp [Value.oneCell']) (by omega) (by omega) (by unfold maxLen; omega) ?_); intro g3 cap3 w3 happ3 hb3)
     have hB3 : Below w.heap.size w w3 := ((HB.out.trans (HBl.out.mono szB)).alloc (by omega) _).trans hb3
     have Hfin := Lib.hid (And.intro happ3 hB3)
     clear happ3 hb3 hB3 happ
     go_wp2_with fail
     go_roundw
     case rel =>
      refine ⟨k + 1, by omega, by go_num, by rw [hct.out], ?_, Hfin.out.2⟩
      rw [hds.out]
      exact Hfin.out.1
     case measure => simp [intOf]; omega
   by_cases hlk : l < k
   rotate_left
   ·
    obtain rfl : l = k := by omega
    obtain ⟨s1, s2⟩ := sp_new hlt Hno.out
    have hds : Hid ((spO f N (l + 1)).map D.int = (spO f N l).map D.int ++ [D.int (q : Int)]) := by show _ = _; rw [spO_succ, List.map_append, s1, Hq.out]; rfl
    have hct : Hid ((keyL f (stB (l + 1))).length = q + 1) := by show _ = _; rw [s2, Hq.out]
    have happ := HA.out
    have hq0 := Int.natCast_nonneg q
    clear s1 s2 Hno
    go_wp2_with (at_builtin; go_must (refine wpList_append_app _ rfl _ _ 58 rfl 2 (.int .i64 0) 1 8 Tryd.underlying58 info_int64 rfl (by decide) _ rfl happ (HBl.out.alloc szl _) szB ⟨wl.heap.size, 0, none⟩ 1 1 [.int .i64 (q : Int)] rfl (news_blk (Blk.made _ _ _)) (Freshs.int _) rfl (by simp [Value.oneCell']) (by omega) (by omega) (by unfold maxLen; omega) ?_); intro g3 cap3 w3 happ3 hb3)
    have hB3 : Below w.heap.size w w3 := ((HB.out.trans (HBl.out.mono szB)).alloc (by omega) _).trans hb3
    have Hfin := Lib.hid (And.intro happ3 hB3)
    clear happ3 hb3 hB3 happ
    go_wp2_with fail
    go_roundw
    case rel =>
     refine ⟨l + 1, by omega, by go_num, by rw [hct.out]; go_num, ?_, Hfin.out.2⟩
     rw [hds.out]
     exact Hfin.out.1
    case measure => simp [intOf]; omega
   obtain ⟨y, hy⟩ : ∃ y, C[l]? = some y := ⟨_, List.getElem?_eq_getElem (by have := HCl.out; omega)⟩
   have hl1 : (l : Int) < (N : Int) := by omega
   have hl2 : (l : Int) < (k : Int) := by omega
   have hBw := HB.out.trans (HBl.out.mono szB)
   have hCr := HC.out.below hBw
   obtain ⟨-, x0⟩ := int_in hCr Hx.out
   obtain ⟨-, y0⟩ := int_in hCr hy
   have gx0 := fun d os => cell_regrown x0 d os
   have gy0 := fun d os => cell_regrown y0 d os
   have Hiff := Lib.hid (Hky.out k l (by rw [HN.out]; exact hlt) (by rw [HN.out]; omega))
   rw [clL_at Hx.out, clL_at hy] at Hiff
   have hla : l < N := by omega
   have hnk := (numK_bd (f := f) (stB_mem.2 ⟨hl0, by omega⟩ : (l : Int) ∈ stB N)).1
   have hat := Hh.out.below hBw
   clear hy
   cases heq : (x == y)
   ·
    have Hno2 : Hid (∀ j', j' < l + 1 → f (k : Int) ≠ f (j' : Int)) := fun j' hj' e => by
     by_cases hjl : j' = l
     ·
      subst hjl
      have h := (Hiff.out.1 e).1
      rw [h, beq_self_eq_true] at heq
      cases heq
     ·
      exact Hno.out j' (by omega) e
    clear Hno Hiff hat
    go_wp2_with fail
    refine Go.wp_region_quiet_below (by kernel_rfl) (by kernel_rfl) ?_
    repeat (first | go_big_quiet_step ((fail)) | quiet_step ((fail)))
    refine wpQuiet_nil ?_; intro _ hw'; obtain ⟨⟨dq, osq⟩, hw''⟩ := hw'; subst hw''; have hq := below_regrown wl dq osq; revert hq; generalize grow (redrawn wl dq) osq = w2; intro hq
    have hB2 := HBl.out.trans (hq.mono szl)
    clear hq x0 y0 gx0 gy0 hCr hBw
    go_wp2_with fail
    go_roundw
    case rel => exact ⟨l + 1, by omega, by go_num, Or.inl ⟨rfl, Hno2⟩, hB2⟩
    case measure => simp [intOf]; omega
   ·
    obtain ⟨al, hal⟩ : ∃ v, alkB ac nx C k l = v := ⟨_, rfl⟩
    have Hal := Lib.hid hal
    have halk := fun (ws : World) (hb : Below wl.heap.size wl ws) => l02Alike_i (x := k) (y := l) (hat.below hb) Hok.out (by rw [HN.out]; exact hCr.below hb) (by rw [HN.out]; exact HCl.out) (by rw [HN.out]; exact hlt) (by rw [HN.out]; exact hla)
    rw [hal, HN.out] at halk
    clear hal hat
    go_wp2_with fail
    refine Go.wp_region_quiet_below (by kernel_rfl) (by kernel_rfl) ?_
    repeat (first | go_big_quiet_step ((exact Calls.regrown_of (halk _ (below_regrown _ _ _)))) | quiet_step ((exact Calls.regrown_of (halk _ (below_regrown _ _ _)))))
    refine wpQuiet_nil ?_; intro _ hw'; obtain ⟨⟨dq, osq⟩, hw''⟩ := hw'; subst hw''; have hq := below_regrown wl dq osq; revert hq; generalize grow (redrawn wl dq) osq = w2; intro hq
    have hB2 := HBl.out.trans (hq.mono szl)
    have sz2 := hB2.size
    clear hq x0 y0 gx0 gy0 hCr hBw halk
    cases al
    ·
     have Hno2 : Hid (∀ j', j' < l + 1 → f (k : Int) ≠ f (j' : Int)) := fun j' hj' e => by
      by_cases hjl : j' = l
      ·
       subst hjl
       have h := (Hiff.out.1 e).2
       rw [Hal.out] at h
       cases h
      ·
       exact Hno.out j' (by omega) e
     clear Hno Hiff
     go_wp2_with fail
     go_roundw
     case rel => exact ⟨l + 1, by omega, by go_num, Or.inl ⟨rfl, Hno2⟩, hB2⟩
     case measure => simp [intOf]; omega
    ·
     have HJ : Hid (∃ j' : Nat, j' < k ∧ f (k : Int) = f (j' : Int) ∧ numK f (stB N) (l : Int) = numK f (stB N) (j' : Int)) := ⟨l, hlk, Hiff.out.2 ⟨eq_of_beq heq, Hal.out⟩, rfl⟩
     have hR := HA.out.rd.below hB2
     obtain ⟨ab, ao, rfl⟩ := nest_some (f := D.int) (xs := spO f N k) (by simpa [nestD, spO_len] using hR) (by rw [spO_len]; omega)
     obtain ⟨-, v0⟩ := int_in (zs := spO f N k) (by simpa [intsD, spO_len] using hR) (spO_at (N := N) hlk)
     obtain ⟨vv, hvv⟩ : ∃ v, numK f (stB N) (l : Int) = v := ⟨_, rfl⟩
     rw [hvv] at v0 HJ hnk
     clear Hno Hiff hR hvv
     go_wp2_with fail
     go_roundw
     case rel => exact ⟨l + 1, by omega, by go_num, Or.inr ⟨vv, rfl, hnk, HJ⟩, hB2⟩
     case measure => simp [intOf]; omega
end Go.Proofs.YtfhlddbngjlhbaaDoor

namespace Go.Proofs.YtfhlddbngjlhbaaDoor
set_option linter.unusedVariables false
set_option linter.unusedSimpArgs false
open Go.ChangeShapes Go.WideShapes Go.ChangeAt Go.RowKit Go.Deep
theorem le_none {w : World} {v : Int} : OwS (fun _ => False) w [D.int v] [.int .i64 v] := ⟨[], Ows.cons (F := []) (by simp [Ow]) Ows.nil, by simp, by simp⟩
theorem le_rows {w : World} {xss : List (List (List Int))} {n : Nat} {v : Value} (h : Rd w (.sl 1 n (xss.map iiD)) v) (hn : xss.length = n) : Rd w (iiiD xss) v := by
 subst hn
 exact h
theorem fresh_set {W w : World} {L : List Int} {b o n c : Nat} (h : Fresh W w (intsD L) (.slice (some ⟨b, o, none⟩) n c)) {j : Nat} {x : Int} (hj : L[j]? = some x) (v : Int) :
  w.cell? ⟨b, o + j, none⟩ = some (.int .i64 x) ∧ w.frozen? ⟨b, o + j, none⟩ = false ∧ W.heap.size ≤ b ∧ b < w.heap.size ∧ Fresh W (w.setCell ⟨b, o + j, none⟩ (.int .i64 v)) (intsD (L.set j v)) (.slice (some ⟨b, o, none⟩) n c) := by
 obtain ⟨F, h1, h2, h3⟩ := h
 obtain ⟨x', G, k1, k2, k3, k4, -, -, -, k8, -, -⟩ := h1.cell h2 (ints_at hj)
 obtain ⟨p1, p2, p3, p4⟩ := h1.int_cell h2 (ints_at hj)
 refine ⟨p1, p2, h3 b k3, p3, F, ?_, h2, h3⟩
 have q := (p4 v).1
 unfold intsD
 rw [List.map_set, List.length_set]
 exact q
def LcW (B g : Nat) (t a : Int) (s : Option Addr) (n c : Nat) (w1 wr : World) (k : Nat) (MX : List (List (List Int))) (vX : Value) (more : List Item) : Prop :=
 Bun B wr ([.box g 31 [.int .i64 t, .int .i64 a, .slice s n c, vX], .app 54 1 k (MX.map iiD) vX] ++ more) ∧ Below B w1 wr
noncomputable def cutR (ac : List (List Bool)) (nx : List (List (List Int))) (nr : List (List Int)) : List (List Int) := nr.map fun row => row.map (cutZ ac nx)
theorem cutR_len {ac : List (List Bool)} {nx : List (List (List Int))} {nr : List (List Int)} : (cutR ac nx nr).length = nr.length := by unfold cutR; rw [List.length_map]
theorem cutX_take {ac : List (List Bool)} {nx : List (List (List Int))} {k : Nat} {nr : List (List Int)} (h : nx[k]? = some nr) : (cutX ac nx).take (k + 1) = (cutX ac nx).take k ++ [cutR ac nx nr] := map_take_succ h
theorem cutR_take {ac : List (List Bool)} {nx : List (List (List Int))} {k : Nat} {nr : List (List Int)} {row : List Int} (h : nr[k]? = some row) : (cutR ac nx nr).take (k + 1) = (cutR ac nx nr).take k ++ [row.map (cutZ ac nx)] := map_take_succ h
theorem cutX_len {ac : List (List Bool)} {nx : List (List (List Int))} : (cutX ac nx).length = nx.length := by unfold cutX; rw [List.length_map]
theorem fin_rows {α β : Type} {f : β → D} {L : List β} {R : List α} {g : α → D} {n : Nat} {ls : List β} {x : β} (h : ls = L ++ [x]) (hf : f x = nestD g R) (hR : R.length = n) : ls.map f = L.map f ++ [D.sl 1 n (R.map g)] := by
 rw [h, List.map_append, List.map_cons, List.map_nil, hf]
 unfold nestD
 rw [hR]
set_option maxRecDepth 100000 in
set_option maxHeartbeats 16000000 in
theorem l02Classes_i {t a : Int} {ac : List (List Bool)} {nx : List (List (List Int))} {s u : Option Addr} {c d b o : Nat} {w : World} (h : AutAt w b o t a ac nx s u c d) (hok : AutOk t a ac nx) :
  Calls Tryd.prog 32 #[.pointer (some ⟨b, o, none⟩)] w fun e w' => ∃ r s' c', e = .returned (.slice s' ac.length c') ∧ cntC ac nx (atomsN t).toNat a.toNat (r + 1) = cntC ac nx (atomsN t).toNat a.toNat r ∧ Fresh w w' (intsD (clsE ac nx (atomsN t).toNat a.toNat r)) (.slice s' ac.length c') ∧ Below w.heap.size w w' := by
 obtain ⟨hdm1, hdm2, hdm3, hdm4⟩ := hok.dims
 have g4 := h.2.2.2.2.1
 have g5 := h.2.2.2.2.2
 obtain ⟨hlen, hcap⟩ := nest_bd g4
 obtain ⟨hlen', hcap'⟩ := nest_bd g5
 unfold maxLen at hcap hcap'
 have hn1 := hok.lo
 have hn2 := hok.hi
 have hnl1 : nx.length ≤ ac.length := by rw [hok.len]; exact Nat.le_refl _
 have hnl2 : ac.length ≤ nx.length := by rw [hok.len]; exact Nat.le_refl _
 have hrow := fun (i : Nat) (nr : List (List Int)) (h : nx[i]? = some nr) => hok.row h
 have Hrow := Lib.hid hrow
 have Hok := Lib.hid hok
 have Hh := Lib.hid h
 have hlv := l02Live_i h hok
 clear hrow g4 g5 hok
 go_enter Tryd.func32, Tryd.ntmps32
 go_wp2_with fail
 refine hlv.mono ?_
 rintro e w1 ⟨gl, rfl, hfl, hb1⟩
 have hz1 := hb1.size
 have hrl := hfl.rd
 have Hrl := Lib.hid hrl
 obtain ⟨c0, c1', c2', c3', -, -⟩ := h.below hb1
 have hW0 : Below w1.heap.size w1 (w1.alloc (.cells #[.int .i64 0, .int .i64 0, .slice none 0 0, .slice none 0 0] 31)) := Below.alloc (Below.refl _ _) (Nat.le_refl _) _
 obtain ⟨d0, d1', d2', d3', -, -⟩ := (h.below hb1).below hW0
 have R0 := Blk.new4 w1 31 (.int .i64 0) (.int .i64 0) (.slice none 0 0) (.slice none 0 0)
 obtain ⟨r0, r1, r2, r3, z0, z1, z2, z3, ltR⟩ := R0.all4
 clear h hlv hfl hrl
 go_wp2_with fail
 go_region
 clear d0 d1' d2' d3' hW0 R0 r0 r1 r2 r3 z0 z1 z2 z3 ltR
 go_wp2_with fail
 have hB1 := ((Bun.nil (B := w1.heap.size) (w := w1)).push_box (Nat.le_refl _) 31 #[.int .i64 t, .int .i64 a, .slice s ac.length c, .slice none 0 0]).push_nil 54 1
 obtain ⟨w2, e2, R, hb2, hz2⟩ := box4 w1 31 (.int .i64 t) (.int .i64 a) (.slice s ac.length c) (.slice none 0 0)
 rw [e2] at hB1 ⊢
 have hst : Hid (LcW w1.heap.size w1.heap.size t a s ac.length c w1 w2.drew 0 ((cutX ac nx).take 0) (.slice none 0 0) []) := ⟨by simpa using hB1.below (Below.refl w2.heap.size w2).drew, hb2.drew⟩
 clear hB1 e2 R hb2 c0 c1' c2' c3'
 generalize w2.drew = w2d at hst ⊢
 clear hz2
 obtain ⟨g, hg⟩ : ∃ g, w1.heap.size = g := ⟨_, rfl⟩
 rw [hg] at hst ⊢
 have hgw : w.heap.size ≤ g := by omega
 have Hg := Lib.hid hg
 go_loopw [5] (fun i wr => ∃ (k : Nat) (vX : Value), i = .int .i64 k ∧ k ≤ nx.length ∧ LcW g g t a s ac.length c w1 wr k ((cutX ac nx).take k) vX []) (fun i _ => nx.length - (intOf i).toNat)
 case atStart => exact ⟨0, _, rfl, by omega, hst.out⟩
 case round =>
  clear hst
  obtain ⟨k, vX, rfl, hk, hW⟩ := hrel
  obtain ⟨wo, rfl⟩ : ∃ v, v = wr := ⟨_, rfl⟩
  obtain ⟨aX, cX, rfl, q1, q2⟩ := hW.1.shape 1 rfl
  unfold maxLen at q2
  have hk0 := Int.natCast_nonneg k
  have hwo : Below w.heap.size w wo := hb1.trans (hW.2.mono (by omega))
  have hzo := hW.2.size
  have HW := Lib.hid hW
  obtain ⟨c0, c1', c2', c3', g4, g5⟩ := Hh.out.below hwo
  by_cases hlt : k < nx.length
  rotate_left
  ·
   -- dev(
   obtain rfl : k = nx.length := by omega
   have hokc := cut_ok Hok.out
   have hsp := fun r => sp_cls Hok.out r
   have hmono := fun r => cntC_mono (nx := nx) Hok.out.lo (A := (atomsN t).toNat) (a := a.toNat) r
   have hle := fun r => cntC_le (nx := nx) (A := (atomsN t).toNat) (a := a.toNat) Hok.out.lo r
   have hlenC := fun r => clsC_len (ac := ac) (nx := nx) (A := (atomsN t).toNat) (a := a.toNat) (r := r)
   have hzero := clsC_zero (ac := ac) (nx := nx) (A := (atomsN t).toNat) (a := a.toNat)
   obtain ⟨x0, x1, x2, x3, -, -, -, -, ltx⟩ := (hW.1.box 0 rfl).1.all4
   have hXr := le_rows (hW.1.rd 1 rfl) (by rw [List.length_take, cutX_len]; omega)
   rw [List.take_of_length_le (by rw [cutX_len]; exact Nat.le_refl _)] at hXr
   have hat : AutAt wo g 0 t a ac (cutX ac nx) s aX c cX := ⟨x0, x1, x2, by rw [cutX_len]; exact x3, g4, by rw [cutX_len]; exact hXr⟩
   obtain ⟨i0, hi, hz0, hz1', hz2⟩ := info_parts info_int64
   have HBo := Lib.hid hW.2
   have Hwo := Lib.hid hwo
   have Hat := Lib.hid hat
   have Hokc := Lib.hid hokc
   have Hsp := Lib.hid hsp
   have HlenC := Lib.hid hlenC
   clear hW HW g4 g5 x0 x1 x2 x3 ltx hXr hat hokc hsp hlenC hwo
   go_wp2_with (at_make; refine wpList_make_full _ rfl _ _ 58 rfl wo.heap.size 2 i0 (.int .i64 0) 1 Tryd.underlying58 hi hz0 hz1' .i64 .i64 _ _ ac.length rfl rfl rfl rfl (by rw [hz2]; omega) (by unfold maxLen; omega) (by simp) ?_; intro w3 hown hgrow)
   have hB3 : Below wo.heap.size wo w3 := Below.grown (Below.refl _ _) hgrow (by simp) (by simp)
   obtain ⟨hb0, -⟩ := made_blk (z := .int .i64 0) rfl hown
   have hb3 : Blk w3 wo.heap.size 2 ((List.replicate ac.length (0 : Int)).map (Value.int .i64)) := by simpa using hb0
   have hf3 : Fresh wo w3 (intsD (clsC ac nx (atomsN t).toNat a.toNat 0)) (.slice (some ⟨wo.heap.size, 0, none⟩) ac.length ac.length) := by
    rw [hzero]
    exact arr_fresh (fd := D.int) (W := wo) hb3 (Nat.le_refl _) (fun x => Ow.int x) (by simp) (by unfold maxLen; omega)
   have Hst := Lib.hid (And.intro hf3 hB3)
   clear hown hgrow hb0 hb3 hB3 hf3 hzero c0 c1' c2' c3' hi hz0 hz1' hz2
   go_loopw [11, 12] (fun v n wr => ∃ (r : Nat) (a' : Option Addr) (c' : Nat), v = .slice a' ac.length c' ∧ n = .int .i64 ((cntC ac nx (atomsN t).toNat a.toNat r : Nat) : Int) ∧ Fresh wo wr (intsD (clsC ac nx (atomsN t).toNat a.toNat r)) (.slice a' ac.length c') ∧ Below wo.heap.size wo wr) (fun _ n _ => ac.length + 1 - (intOf n).toNat)
   case atStart => exact ⟨0, _, _, rfl, rfl, Hst.out.1, Hst.out.2⟩
   case round =>
    clear Hst
    obtain ⟨r, a', c', rfl, rfl, hf, hB⟩ := hrel
    obtain ⟨wr', rfl⟩ : ∃ v, v = wr := ⟨_, rfl⟩
    have szr := hB.size
    have hrd := hf.rd
    have hcl := HlenC.out r
    have hspl := l02Split_i (Hat.out.below hB) Hokc.out (C := clsC ac nx (atomsN t).toNat a.toNat r) (sc := a') (cc := c') hrd hcl
    rw [(Hsp.out r).1, (Hsp.out r).2] at hspl
    have hm1 := hmono r
    have hl1 := hle (r + 1)
    obtain ⟨n0, hn0⟩ : ∃ n0, cntC ac nx (atomsN t).toNat a.toNat r = n0 := ⟨_, rfl⟩
    obtain ⟨n1, hn1'⟩ : ∃ n1, cntC ac nx (atomsN t).toNat a.toNat (r + 1) = n1 := ⟨_, rfl⟩
    rw [hn0, hn1'] at hm1
    rw [hn1'] at hl1 hspl
    rw [hn0]
    have Hn0 := Lib.hid hn0
    have Hn1 := Lib.hid hn1'
    have HB := Lib.hid hB
    have HF := Lib.hid hf
    clear hrd hcl hn0 hn1' hB hf
    go_wp2_with fail
    refine hspl.mono ?_
    rintro e w5 ⟨s', c5, rfl, hf5, hb5⟩
    have hz5 := hb5.size
    have hB5 : Below wo.heap.size wo w5 := Below.on HB.out hb5 szr
    clear hspl
    by_cases heq : n1 = n0
    ·
     have e1 : ((n1 : Int) == (n0 : Int)) = true := beq_iff_eq.2 (by omega)
     have HC : Hid (cntC ac nx (atomsN t).toNat a.toNat (r + 1) = cntC ac nx (atomsN t).toNat a.toNat r) := by show _ = _; rw [Hn0.out, Hn1.out, heq]
     have hf6 := HF.out.on hb5
     rw [← clsM_zero] at hf6
     obtain ⟨b', o', rfl⟩ := nest_some (f := D.int) hf6.rd (by rw [clsM_len]; omega)
     have Hst := Lib.hid (And.intro hf6 hB5)
     have HMlen := Lib.hid (fun i => clsM_len (ac := ac) (nx := nx) (A := (atomsN t).toNat) (a := a.toNat) (r := r) (i := i))
     clear hf5 hf6 hB5 hb5 HF HB heq
     go_wp2_with fail
     go_loopw [15] (fun i wr => ∃ k : Nat, k ≤ ac.length ∧ i = .int .i64 k ∧ Fresh wo wr (intsD (clsM ac nx (atomsN t).toNat a.toNat r k)) (.slice (some ⟨b', o', none⟩) ac.length c') ∧ Below wo.heap.size wo wr) (fun i _ => ac.length - (intOf i).toNat)
     case atStart => exact ⟨0, by omega, rfl, Hst.out.1, Hst.out.2⟩
     case round =>
      clear Hst
      obtain ⟨j, hj, rfl, hf, hB⟩ := hrel
      obtain ⟨wj, rfl⟩ : ∃ v, v = wr := ⟨_, rfl⟩
      have hj0 := Int.natCast_nonneg j
      by_cases hjl : j < ac.length
      rotate_left
      ·
       obtain rfl : j = ac.length := by omega
       rw [clsM_all] at hf
       have hBw := Hwo.out.trans (hB.mono (by omega))
       go_wp2_with fail
       go_ret
       exact ⟨r, _, _, rfl, HC.out, hf.from (by omega), hBw⟩
      have hjb : (j : Int) < (ac.length : Int) := by omega
      have hlr := Hrl.out.below (by rw [Hg.out]; exact HBo.out.trans (hB.mono (by omega)))
      obtain ⟨-, l0⟩ := bool_in hlr (liveL_at (nx := nx) hjl)
      rw [Nat.zero_add] at l0
      cases hlv : liveB ac nx j
      ·
       rw [hlv] at l0
       obtain ⟨p1, p2, p3, p4, p5⟩ := fresh_set hf (clsM_at (nx := nx) (A := (atomsN t).toNat) (a := a.toNat) (r := r) hjl) (-1)
       rw [← clsM_no hjl hlv] at p5
       have Hfin := Lib.hid (And.intro p5 (Below.setCell (p := ⟨b', o' + j, none⟩) hB p3 (.int .i64 (-1))))
       clear hf hB p3 p5 hlv hlr
       go_wp2_with fail
       go_roundw
       case rel => exact ⟨j + 1, by omega, by go_num, Hfin.out.1, Hfin.out.2⟩
       case measure => simp [intOf]; omega
      ·
       rw [hlv] at l0
       rw [← clsM_yes hjl hlv] at hf
       have Hfin := Lib.hid (And.intro hf hB)
       clear hf hB hlv hlr
       go_wp2_with fail
       go_roundw
       case rel => exact ⟨j + 1, by omega, by go_num, Hfin.out.1, Hfin.out.2⟩
       case measure => simp [intOf]; omega
    ·
     have e1 : ((n1 : Int) == (n0 : Int)) = false := beq_eq_false_iff_ne.2 (by omega)
     have Hfin := Lib.hid (And.intro (hf5.from (w0 := wo) szr) hB5)
     clear hf5 hB5 hb5 HF HB
     go_wp2_with fail
     go_roundw
     case rel => exact ⟨r + 1, _, _, rfl, by rw [Hn1.out], Hfin.out.1, Hfin.out.2⟩
     case measure => simp [intOf]; omega
   -- dev)
  ·
   obtain ⟨nr, hnr⟩ : ∃ e, nx[k]? = some e := ⟨_, List.getElem?_eq_getElem hlt⟩
   obtain ⟨ub, uo, rfl⟩ := nest_some (f := iiD) g5 (by omega)
   obtain ⟨l1, l2⟩ := Hrow.out k nr hnr
   have hn8 : nr.length ≤ 8 := by omega
   clear l1
   have Hl2 := Lib.hid l2
   have HXt := Lib.hid (cutX_take (ac := ac) hnr)
   have Hnr := Lib.hid hnr
   have hkb : (k : Int) < (nx.length : Int) := by omega
   obtain ⟨AX, hAX⟩ : ∃ AX, (cutX ac nx).take k = AX := ⟨_, rfl⟩
   rw [hAX] at HXt HW
   obtain ⟨RW, hRW⟩ : ∃ RW, cutR ac nx nr = RW := ⟨_, rfl⟩
   have HRl : Hid (RW.length = nr.length) := by show _ = _; rw [← hRW, cutR_len]
   have HRt := Lib.hid (fun (m : Nat) (row : List Int) (h : nr[m]? = some row) => by rw [← hRW]; exact cutR_take (ac := ac) (nx := nx) h : ∀ m row, nr[m]? = some row → RW.take (m + 1) = RW.take m ++ [row.map (cutZ ac nx)])
   rw [hRW] at HXt
   clear hW g4 g5 l2 hwo hnr hAX hRW
   go_wp2_with fail
   have hB3 := HW.out.1.push_empty (by omega) 58 1
   have hbe3 := HW.out.2.alloc (by omega) (.cells #[] 58)
   have hst : Hid (LcW g g t a s ac.length c w1 (wo.alloc (.cells #[] 58)) k AX (.slice aX k cX) [.app 58 1 0 ((RW.take 0).map intsD) (.slice (some ⟨wo.heap.size, 0, none⟩) 0 0)]) := ⟨by simpa using hB3, hbe3⟩
   clear hB3 hbe3 HW c0 c1' c2' c3' q1
   go_loopw [6, 7] (fun v j wr => ∃ m : Nat, j = .int .i64 m ∧ m ≤ nr.length ∧ LcW g g t a s ac.length c w1 wr k AX (.slice aX k cX) [.app 58 1 m ((RW.take m).map intsD) v]) (fun _ j _ => nr.length - (intOf j).toNat)
   case atStart => exact ⟨0, rfl, by omega, hst.out⟩
   case round =>
    clear hst
    obtain ⟨m, rfl, hm, hW⟩ := hrel
    obtain ⟨wm, rfl⟩ : ∃ v, v = wr := ⟨_, rfl⟩
    obtain ⟨a6, c6, rfl, q3, q4⟩ := hW.1.shape 2 rfl
    unfold maxLen at q4
    have hm0 := Int.natCast_nonneg m
    have hwm : Below w.heap.size w wm := hb1.trans (hW.2.mono (by omega))
    have hzm := hW.2.size
    have HW := Lib.hid hW
    obtain ⟨c0, c1', c2', c3', g4, g5⟩ := Hh.out.below hwm
    obtain ⟨-, sn, cn, b0, rb⟩ := nest_sl (g := intsD) g5 Hnr.out
    obtain ⟨rb1, rb2⟩ := nest_bd rb
    unfold maxLen at rb2
    by_cases hml : m < nr.length
    rotate_left
    ·
     -- dev(
     obtain rfl : m = nr.length := by omega
     have HEX : Hid (((cutX ac nx).take (k + 1)).map iiD = AX.map iiD ++ [D.sl 1 nr.length ((RW.take nr.length).map intsD)]) := by
      show _ = _
      rw [List.take_of_length_le (l := RW) (by rw [HRl.out]; exact Nat.le_refl _)]
      exact fin_rows HXt.out rfl HRl.out
     have hBu := HW.out.1.alloc (.cells #[.slice a6 nr.length c6] 54)
     have hNb := Blk.new1 wm 54 (.slice a6 nr.length c6)
     obtain ⟨x0, x1, x2, x3, z0, z1, z2, z3, ltx⟩ := (HW.out.1.box 0 rfl).1.all4
     have hgb := (HW.out.1.box 0 rfl).2
     clear hW hwm g4 g5 rb
     go_wp2_with (at_builtin; go_must (refine wpList_append_bun_own _ rfl _ _ 25 rfl 54 24 Tryd.underlying25 info_i64ss hBu (by simp; omega) 1 _ rfl rfl 2 (by decide) _ rfl ⟨wm.heap.size, 0, none⟩ rfl (news_blk hNb) (by omega) (by unfold maxLen; omega) ?_); intro g7 cap7 w7 hbun7 hb7; obtain ⟨y0, y1, y2, y3, f0, f1, f2, f3, lty⟩ := (hbun7.box 0 rfl).1.all4)
     have Hfin := Lib.hid (And.intro ((hbun7.take 2).store 0 rfl 3 (.slice (some ⟨g7, 0, none⟩) (k + 1) cap7)) (Below.setCell (p := ⟨g, 3, none⟩) ((HW.out.2.alloc (by omega) (.cells #[.slice a6 nr.length c6] 54)).trans hb7) hgb (.slice (some ⟨g7, 0, none⟩) (k + 1) cap7)))
     clear hbun7 hb7 hBu hNb x0 x1 x2 x3 z0 z1 z2 z3 ltx y0 y1 y2 y3 f0 f1 f2 f3 lty
     go_wp2_with fail
     go_roundw
     case rel =>
      refine ⟨k + 1, .slice (some ⟨g7, 0, none⟩) (k + 1) cap7, by go_num, by omega, ?_⟩
      have h := Hfin.out
      unfold LcW
      rw [HEX.out]
      exact h
     case measure => simp [intOf]; omega
     -- dev)
    obtain ⟨row, hrow⟩ : ∃ e, nr[m]? = some e := ⟨_, List.getElem?_eq_getElem hml⟩
    obtain ⟨nb, no, rfl⟩ := nest_some (f := intsD) rb (by omega)
    obtain ⟨r1, r2⟩ := Hl2.out m row hrow
    have hr4 : row.length ≤ 4 := by omega
    clear r1
    have Hr2 := Lib.hid r2
    have HRm := Lib.hid (HRt.out m row hrow)
    have Hro := Lib.hid hrow
    have hmb : (m : Int) < (nr.length : Int) := by omega
    obtain ⟨AR, hAR⟩ : ∃ AR, RW.take m = AR := ⟨_, rfl⟩
    rw [hAR] at HRm HW
    have HRs0 := Lib.hid (fun (q : Nat) (z : Int) (h : row[q]? = some z) => map_take_succ (f := cutZ ac nx) h)
    obtain ⟨RR, hRR⟩ : ∃ RR, row.map (cutZ ac nx) = RR := ⟨_, rfl⟩
    have HRRl : Hid (RR.length = row.length) := by show _ = _; rw [← hRR, List.length_map]
    rw [hRR] at HRs0 HRm
    clear hW g4 g5 r2 rb hwm hrow hAR hRR HRt
    go_wp2_with fail
    have hB4 := HW.out.1.push_empty (by omega) 2 1
    have hbe4 := HW.out.2.alloc (by omega) (.cells #[] 2)
    have hst : Hid (LcW g g t a s ac.length c w1 (wm.alloc (.cells #[] 2)) k AX (.slice aX k cX) [.app 58 1 m (AR.map intsD) (.slice a6 m c6), .app 2 1 0 ((RR.take 0).map D.int) (.slice (some ⟨wm.heap.size, 0, none⟩) 0 0)]) := ⟨by simpa using hB4, hbe4⟩
    clear hB4 hbe4 HW c0 c1' c2' c3' b0 q3
    go_loopw [8, 9] (fun v j wr => ∃ q : Nat, j = .int .i64 q ∧ q ≤ row.length ∧ LcW g g t a s ac.length c w1 wr k AX (.slice aX k cX) [.app 58 1 m (AR.map intsD) (.slice a6 m c6), .app 2 1 q ((RR.take q).map D.int) v]) (fun _ j _ => row.length - (intOf j).toNat)
    case atStart => exact ⟨0, rfl, by omega, hst.out⟩
    case round =>
     clear hst
     obtain ⟨q, rfl, hq, hW⟩ := hrel
     obtain ⟨wq, rfl⟩ : ∃ v, v = wr := ⟨_, rfl⟩
     obtain ⟨a8, c8, rfl, q5, q6⟩ := hW.1.shape 3 rfl
     unfold maxLen at q6
     have hq0 := Int.natCast_nonneg q
     have hwq : Below w.heap.size w wq := hb1.trans (hW.2.mono (by omega))
     have hzq := hW.2.size
     have HW := Lib.hid hW
     obtain ⟨c0, c1', c2', c3', g4, g5⟩ := Hh.out.below hwq
     obtain ⟨-, sn', cn', b0, rb⟩ := nest_sl (g := intsD) g5 Hnr.out
     obtain ⟨nb', no', rfl⟩ := nest_some (f := intsD) rb (by omega)
     obtain ⟨rb3, rb4⟩ := nest_bd rb
     unfold maxLen at rb4
     obtain ⟨-, sr, cr, p0, rr⟩ := nest_sl (g := D.int) rb Hro.out
     obtain ⟨rb5, rb6⟩ := nest_bd (f := D.int) rr
     unfold maxLen at rb6
     by_cases hql : q < row.length
     rotate_left
     ·
      -- dev(
      obtain rfl : q = row.length := by omega
      have HEX : Hid ((RW.take (m + 1)).map intsD = AR.map intsD ++ [D.sl 1 row.length ((RR.take row.length).map D.int)]) := by
       show _ = _
       rw [List.take_of_length_le (l := RR) (by rw [HRRl.out]; exact Nat.le_refl _)]
       exact fin_rows HRm.out rfl HRRl.out
      have hBu := HW.out.1.alloc (.cells #[.slice a8 row.length c8] 58)
      have hNb := Blk.new1 wq 58 (.slice a8 row.length c8)
      clear hW hwq g4 g5 rb rr
      go_wp2_with (at_builtin; go_must (refine wpList_append_bun_own _ rfl _ _ 54 rfl 58 24 Tryd.underlying54 info_i64s hBu (by simp; omega) 2 _ rfl rfl 3 (by decide) _ rfl ⟨wq.heap.size, 0, none⟩ rfl (news_blk hNb) (by omega) (by unfold maxLen; omega) ?_); intro g8 cap8 w8 hbun8 hb8)
      have Hfin := Lib.hid (And.intro (hbun8.take 3) ((HW.out.2.alloc (by omega) (.cells #[.slice a8 row.length c8] 58)).trans hb8))
      clear hbun8 hb8 hBu hNb
      go_wp2_with fail
      go_roundw
      case rel =>
       refine ⟨m + 1, by go_num, by omega, ?_⟩
       have h := Hfin.out
       unfold LcW
       rw [HEX.out]
       exact h
      case measure => simp [intOf]; omega
      -- dev)
     obtain ⟨z, hz⟩ : ∃ e, row[q]? = some e := ⟨_, List.getElem?_eq_getElem hql⟩
     obtain ⟨tb, to', rfl⟩ := nest_some (f := D.int) rr (by omega)
     obtain ⟨-, v0⟩ := int_in rr hz
     have hzb := Hr2.out q z hz
     have hqb : (q : Int) < (row.length : Int) := by omega
     have HRs := Lib.hid (HRs0.out q z hz)
     have hlr := Hrl.out.below (by rw [Hg.out]; exact hW.2)
     clear hW g4 g5 rb rr hwq hz
     by_cases h0 : z < 0
     ·
      have hd0 : decide (0 ≤ z) = false := by apply decide_eq_false; omega
      have ez : cutZ ac nx z = z := by unfold cutZ; rw [if_neg (by omega)]
      rw [ez] at HRs
      clear ez hlr
      have hBu := HW.out.1.alloc (.cells #[.int .i64 (z)] 2)
      have hNb := Blk.new1 wq 2 (.int .i64 (z))
      go_wp2_with (at_builtin; go_must (refine wpList_append_bun _ rfl _ _ 58 rfl 2 (.int .i64 0) 1 8 Tryd.underlying58 info_int64 rfl (by decide) hBu (by simp <;> omega) 3 _ rfl rfl ⟨wq.heap.size, 0, none⟩ 1 1 [.int .i64 (z)] rfl (news_blk hNb) le_none rfl (by simp [Value.oneCell']) (by omega) (by omega) (by unfold maxLen; omega) ?_); intro g8 cap8 w8 hbun8 hb8)
      have Hfin := Lib.hid (And.intro hbun8 ((HW.out.2.alloc (by omega) (.cells #[.int .i64 (z)] 2)).trans hb8))
      clear hbun8 hb8 hBu hNb
      go_wp2_with fail
      go_roundw
      case rel =>
       refine ⟨q + 1, by go_num, by omega, ?_, Hfin.out.2⟩
       have h := Hfin.out.1
       (try rw [← List.map_take])
       rw [HRs.out, List.map_append]
       exact h
      case measure => simp [intOf]; omega
     ·
      have hd0 : decide (0 ≤ z) = true := by apply decide_eq_true; omega
      obtain ⟨zn, rfl⟩ : ∃ zn : Nat, z = (zn : Int) := ⟨z.toNat, by omega⟩
      obtain ⟨-, l0⟩ := bool_in hlr (liveL_at (nx := nx) (s := zn) (by omega))
      rw [Nat.zero_add] at l0
      have hzl : (zn : Int) < (ac.length : Int) := by omega
      cases hlv : liveB ac nx zn
      ·
       have ez : cutZ ac nx (zn : Int) = -1 := by unfold cutZ; rw [if_pos ⟨by omega, by rw [Int.toNat_natCast]; exact hlv⟩]
       rw [hlv] at l0
       rw [ez] at HRs
       clear ez hlr hlv
       have hBu := HW.out.1.alloc (.cells #[.int .i64 (-1)] 2)
       have hNb := Blk.new1 wq 2 (.int .i64 (-1))
       go_wp2_with (at_builtin; go_must (refine wpList_append_bun _ rfl _ _ 58 rfl 2 (.int .i64 0) 1 8 Tryd.underlying58 info_int64 rfl (by decide) hBu (by simp <;> omega) 3 _ rfl rfl ⟨wq.heap.size, 0, none⟩ 1 1 [.int .i64 (-1)] rfl (news_blk hNb) le_none rfl (by simp [Value.oneCell']) (by omega) (by omega) (by unfold maxLen; omega) ?_); intro g8 cap8 w8 hbun8 hb8)
       have Hfin := Lib.hid (And.intro hbun8 ((HW.out.2.alloc (by omega) (.cells #[.int .i64 (-1)] 2)).trans hb8))
       clear hbun8 hb8 hBu hNb
       go_wp2_with fail
       go_roundw
       case rel =>
        refine ⟨q + 1, by go_num, by omega, ?_, Hfin.out.2⟩
        have h := Hfin.out.1
        (try rw [← List.map_take])
        rw [HRs.out, List.map_append]
        exact h
       case measure => simp [intOf]; omega
      ·
       have ez : cutZ ac nx (zn : Int) = zn := by unfold cutZ; rw [if_neg (by rw [Int.toNat_natCast, hlv]; simp)]
       rw [hlv] at l0
       rw [ez] at HRs
       clear ez hlr hlv
       have hBu := HW.out.1.alloc (.cells #[.int .i64 ((zn : Int))] 2)
       have hNb := Blk.new1 wq 2 (.int .i64 ((zn : Int)))
       go_wp2_with (at_builtin; go_must (refine wpList_append_bun _ rfl _ _ 58 rfl 2 (.int .i64 0) 1 8 Tryd.underlying58 info_int64 rfl (by decide) hBu (by simp <;> omega) 3 _ rfl rfl ⟨wq.heap.size, 0, none⟩ 1 1 [.int .i64 ((zn : Int))] rfl (news_blk hNb) le_none rfl (by simp [Value.oneCell']) (by omega) (by omega) (by unfold maxLen; omega) ?_); intro g8 cap8 w8 hbun8 hb8)
       have Hfin := Lib.hid (And.intro hbun8 ((HW.out.2.alloc (by omega) (.cells #[.int .i64 ((zn : Int))] 2)).trans hb8))
       clear hbun8 hb8 hBu hNb
       go_wp2_with fail
       go_roundw
       case rel =>
        refine ⟨q + 1, by go_num, by omega, ?_, Hfin.out.2⟩
        have h := Hfin.out.1
        (try rw [← List.map_take])
        rw [HRs.out, List.map_append]
        exact h
       case measure => simp [intOf]; omega
end Go.Proofs.YtfhlddbngjlhbaaDoor
