/-
  Parts of a proof, joined: LeC. No condition.
-/
import Derived.Test.YtcokljhamhgelaaGreatDoorPk29
namespace Go.Proofs.YtcokljhamhgelaaGreatDoor
set_option linter.unusedVariables false
set_option linter.unusedSimpArgs false
open Go.ChangeShapes Go.WideShapes Go.ChangeAt Go.RowKit Go.Deep
theorem le_none {w : World} {v : Int} : OwS (fun _ => False) w [D.int v] [.int .i64 v] := ⟨[], Ows.cons (F := []) (by simp [Ow]) Ows.nil, by simp, by simp⟩
theorem le_rows {w : World} {xss : List (List (List Int))} {n : Nat} {v : Value} (h : Rd w (.sl 1 n (xss.map iiD)) v) (hn : xss.length = n) : Rd w (iiiD xss) v := by
 subst hn
 exact h
theorem fresh_set {W w : World} {L : List Int} {b o n c : Nat} (h : Fresh W w (intsD L) (.slice (some ⟨b, o, none⟩) n c)) {j : Nat} {x : Int} (hj : L[j]? = some x) (v : Int) :
  w.cell? ⟨b, o + j, none⟩ = some (.int .i64 x) ∧ w.frozen? ⟨b, o + j, none⟩ = false ∧ W.heap.size ≤ b ∧ b < w.heap.size ∧ Fresh W (w.setCell ⟨b, o + j, none⟩ (.int .i64 v)) (intsD (L.set j v)) (.slice (some ⟨b, o, none⟩) n c) := by
 obtain ⟨F, h1, h2, h3⟩ := h
 obtain ⟨x', G, k1, k2, k3, k4, -, -, -, k8, -, -⟩ := h1.cell h2 (ints_at hj)
 obtain ⟨p1, p2, p3, p4⟩ := h1.int_cell h2 (ints_at hj)
 refine ⟨p1, p2, h3 b k3, p3, F, ?_, h2, h3⟩
 have q := (p4 v).1
 unfold intsD
 rw [List.map_set, List.length_set]
 exact q
def LcW (B g : Nat) (t a : Int) (s : Option Addr) (n c : Nat) (w1 wr : World) (k : Nat) (MX : List (List (List Int))) (vX : Value) (more : List Item) : Prop :=
 Bun B wr ([.box g 49 [.int .i64 t, .int .i64 a, .slice s n c, vX], .app 55 1 k (MX.map iiD) vX] ++ more) ∧ Below B w1 wr
noncomputable def cutR (ac : List (List Bool)) (nx : List (List (List Int))) (nr : List (List Int)) : List (List Int) := nr.map fun row => row.map (cutZ ac nx)
theorem cutR_len {ac : List (List Bool)} {nx : List (List (List Int))} {nr : List (List Int)} : (cutR ac nx nr).length = nr.length := by unfold cutR; rw [List.length_map]
theorem cutX_take {ac : List (List Bool)} {nx : List (List (List Int))} {k : Nat} {nr : List (List Int)} (h : nx[k]? = some nr) : (cutX ac nx).take (k + 1) = (cutX ac nx).take k ++ [cutR ac nx nr] := map_take_succ h
theorem cutR_take {ac : List (List Bool)} {nx : List (List (List Int))} {k : Nat} {nr : List (List Int)} {row : List Int} (h : nr[k]? = some row) : (cutR ac nx nr).take (k + 1) = (cutR ac nx nr).take k ++ [row.map (cutZ ac nx)] := map_take_succ h
theorem cutX_len {ac : List (List Bool)} {nx : List (List (List Int))} : (cutX ac nx).length = nx.length := by unfold cutX; rw [List.length_map]
theorem fin_rows {α β : Type} {f : β → D} {L : List β} {R : List α} {g : α → D} {n : Nat} {ls : List β} {x : β} (h : ls = L ++ [x]) (hf : f x = nestD g R) (hR : R.length = n) : ls.map f = L.map f ++ [D.sl 1 n (R.map g)] := by
 rw [h, List.map_append, List.map_cons, List.map_nil, hf]
 unfold nestD
 rw [hR]
set_option maxRecDepth 100000 in
set_option maxHeartbeats 16000000 in
theorem l02Classes_i {t a : Int} {ac : List (List Bool)} {nx : List (List (List Int))} {s u : Option Addr} {c d b o : Nat} {w : World} (h : AutAt w b o t a ac nx s u c d) (hok : AutOk t a ac nx) :
  Calls Tryz.prog 39 #[.pointer (some ⟨b, o, none⟩)] w fun e w' => ∃ r s' c', e = .returned (.slice s' ac.length c') ∧ cntC ac nx (atomsN t).toNat a.toNat (r + 1) = cntC ac nx (atomsN t).toNat a.toNat r ∧ Fresh w w' (intsD (clsE ac nx (atomsN t).toNat a.toNat r)) (.slice s' ac.length c') ∧ Below w.heap.size w w' := by
 obtain ⟨hdm1, hdm2, hdm3, hdm4⟩ := hok.dims
 have g4 := h.2.2.2.2.1
 have g5 := h.2.2.2.2.2
 obtain ⟨hlen, hcap⟩ := nest_bd g4
 obtain ⟨hlen', hcap'⟩ := nest_bd g5
 unfold maxLen at hcap hcap'
 have hn1 := hok.lo
 have hn2 := hok.hi
 have hnl1 : nx.length ≤ ac.length := by rw [hok.len]; exact Nat.le_refl _
 have hnl2 : ac.length ≤ nx.length := by rw [hok.len]; exact Nat.le_refl _
 have hrow := fun (i : Nat) (nr : List (List Int)) (h : nx[i]? = some nr) => hok.row h
 have Hrow := Lib.hid hrow
 have Hok := Lib.hid hok
 have Hh := Lib.hid h
 have hlv := l02Live_i h hok
 clear hrow g4 g5 hok
 go_enter Tryz.func39, Tryz.ntmps39
 go_wp2_with fail
 refine hlv.mono ?_
 rintro e w1 ⟨gl, rfl, hfl, hb1⟩
 have hz1 := hb1.size
 have hrl := hfl.rd
 have Hrl := Lib.hid hrl
 obtain ⟨c0, c1', c2', c3', -, -⟩ := h.below hb1
 have hW0 : Below w1.heap.size w1 (w1.alloc (.cells #[.int .i64 0, .int .i64 0, .slice none 0 0, .slice none 0 0] 49)) := Below.alloc (Below.refl _ _) (Nat.le_refl _) _
 obtain ⟨d0, d1', d2', d3', -, -⟩ := (h.below hb1).below hW0
 have R0 := Blk.new4 w1 49 (.int .i64 0) (.int .i64 0) (.slice none 0 0) (.slice none 0 0)
 obtain ⟨r0, r1, r2, r3, z0, z1, z2, z3, ltR⟩ := R0.all4
 clear h hlv hfl hrl
 go_wp2_with fail
 go_region
 clear d0 d1' d2' d3' hW0 R0 r0 r1 r2 r3 z0 z1 z2 z3 ltR
 go_wp2_with fail
 have hB1 := ((Bun.nil (B := w1.heap.size) (w := w1)).push_box (Nat.le_refl _) 49 #[.int .i64 t, .int .i64 a, .slice s ac.length c, .slice none 0 0]).push_nil 55 1
 obtain ⟨w2, e2, R, hb2, hz2⟩ := box4 w1 49 (.int .i64 t) (.int .i64 a) (.slice s ac.length c) (.slice none 0 0)
 rw [e2] at hB1 ⊢
 have hst : Hid (LcW w1.heap.size w1.heap.size t a s ac.length c w1 w2.drew 0 ((cutX ac nx).take 0) (.slice none 0 0) []) := ⟨by simpa using hB1.below (Below.refl w2.heap.size w2).drew, hb2.drew⟩
 clear hB1 e2 R hb2 c0 c1' c2' c3'
 generalize w2.drew = w2d at hst ⊢
 clear hz2
 obtain ⟨g, hg⟩ : ∃ g, w1.heap.size = g := ⟨_, rfl⟩
 rw [hg] at hst ⊢
 have hgw : w.heap.size ≤ g := by omega
 have Hg := Lib.hid hg
 go_loopw [5] (fun i wr => ∃ (k : Nat) (vX : Value), i = .int .i64 k ∧ k ≤ nx.length ∧ LcW g g t a s ac.length c w1 wr k ((cutX ac nx).take k) vX []) (fun i _ => nx.length - (intOf i).toNat)
 case atStart => exact ⟨0, _, rfl, by omega, hst.out⟩
 case round =>
  clear hst
  obtain ⟨k, vX, rfl, hk, hW⟩ := hrel
  obtain ⟨wo, rfl⟩ : ∃ v, v = wr := ⟨_, rfl⟩
  obtain ⟨aX, cX, rfl, q1, q2⟩ := hW.1.shape 1 rfl
  unfold maxLen at q2
  have hk0 := Int.natCast_nonneg k
  have hwo : Below w.heap.size w wo := hb1.trans (hW.2.mono (by omega))
  have hzo := hW.2.size
  have HW := Lib.hid hW
  obtain ⟨c0, c1', c2', c3', g4, g5⟩ := Hh.out.below hwo
  by_cases hlt : k < nx.length
  rotate_left
  ·
   -- dev(
   obtain rfl : k = nx.length := by omega
   have hokc := cut_ok Hok.out
   have hsp := fun r => sp_cls Hok.out r
   have hmono := fun r => cntC_mono (nx := nx) Hok.out.lo (A := (atomsN t).toNat) (a := a.toNat) r
   have hle := fun r => cntC_le (nx := nx) (A := (atomsN t).toNat) (a := a.toNat) Hok.out.lo r
   have hlenC := fun r => clsC_len (ac := ac) (nx := nx) (A := (atomsN t).toNat) (a := a.toNat) (r := r)
   have hzero := clsC_zero (ac := ac) (nx := nx) (A := (atomsN t).toNat) (a := a.toNat)
   obtain ⟨x0, x1, x2, x3, -, -, -, -, ltx⟩ := (hW.1.box 0 rfl).1.all4
   have hXr := le_rows (hW.1.rd 1 rfl) (by rw [List.length_take, cutX_len]; omega)
   rw [List.take_of_length_le (by rw [cutX_len]; exact Nat.le_refl _)] at hXr
   have hat : AutAt wo g 0 t a ac (cutX ac nx) s aX c cX := ⟨x0, x1, x2, by rw [cutX_len]; exact x3, g4, by rw [cutX_len]; exact hXr⟩
   obtain ⟨i0, hi, hz0, hz1', hz2⟩ := info_parts info_int64
   have HBo := Lib.hid hW.2
   have Hwo := Lib.hid hwo
   have Hat := Lib.hid hat
   have Hokc := Lib.hid hokc
   have Hsp := Lib.hid hsp
   have HlenC := Lib.hid hlenC
   clear hW HW g4 g5 x0 x1 x2 x3 ltx hXr hat hokc hsp hlenC hwo
   go_wp2_with (at_make; refine wpList_make_full _ rfl _ _ 56 rfl wo.heap.size 2 i0 (.int .i64 0) 1 Tryz.underlying56 hi hz0 hz1' .i64 .i64 _ _ ac.length rfl rfl rfl rfl (by rw [hz2]; omega) (by unfold maxLen; omega) (by simp) ?_; intro w3 hown hgrow)
   have hB3 : Below wo.heap.size wo w3 := Below.grown (Below.refl _ _) hgrow (by simp) (by simp)
   obtain ⟨hb0, -⟩ := made_blk (z := .int .i64 0) rfl hown
   have hb3 : Blk w3 wo.heap.size 2 ((List.replicate ac.length (0 : Int)).map (Value.int .i64)) := by simpa using hb0
   have hf3 : Fresh wo w3 (intsD (clsC ac nx (atomsN t).toNat a.toNat 0)) (.slice (some ⟨wo.heap.size, 0, none⟩) ac.length ac.length) := by
    rw [hzero]
    exact arr_fresh (fd := D.int) (W := wo) hb3 (Nat.le_refl _) (fun x => Ow.int x) (by simp) (by unfold maxLen; omega)
   have Hst := Lib.hid (And.intro hf3 hB3)
   clear hown hgrow hb0 hb3 hB3 hf3 hzero c0 c1' c2' c3' hi hz0 hz1' hz2
   go_loopw [11, 12] (fun v n wr => ∃ (r : Nat) (a' : Option Addr) (c' : Nat), v = .slice a' ac.length c' ∧ n = .int .i64 ((cntC ac nx (atomsN t).toNat a.toNat r : Nat) : Int) ∧ Fresh wo wr (intsD (clsC ac nx (atomsN t).toNat a.toNat r)) (.slice a' ac.length c') ∧ Below wo.heap.size wo wr) (fun _ n _ => ac.length + 1 - (intOf n).toNat)
   case atStart => exact ⟨0, _, _, rfl, rfl, Hst.out.1, Hst.out.2⟩
   case round =>
    clear Hst
    obtain ⟨r, a', c', rfl, rfl, hf, hB⟩ := hrel
    obtain ⟨wr', rfl⟩ : ∃ v, v = wr := ⟨_, rfl⟩
    have szr := hB.size
    have hrd := hf.rd
    have hcl := HlenC.out r
    have hspl := l02Split_i (Hat.out.below hB) Hokc.out (C := clsC ac nx (atomsN t).toNat a.toNat r) (sc := a') (cc := c') hrd hcl
    rw [(Hsp.out r).1, (Hsp.out r).2] at hspl
    have hm1 := hmono r
    have hl1 := hle (r + 1)
    obtain ⟨n0, hn0⟩ : ∃ n0, cntC ac nx (atomsN t).toNat a.toNat r = n0 := ⟨_, rfl⟩
    obtain ⟨n1, hn1'⟩ : ∃ n1, cntC ac nx (atomsN t).toNat a.toNat (r + 1) = n1 := ⟨_, rfl⟩
    rw [hn0, hn1'] at hm1
    rw [hn1'] at hl1 hspl
    rw [hn0]
    have Hn0 := Lib.hid hn0
    have Hn1 := Lib.hid hn1'
    have HB := Lib.hid hB
    have HF := Lib.hid hf
    clear hrd hcl hn0 hn1' hB hf
    go_wp2_with fail
    refine hspl.mono ?_
    rintro e w5 ⟨s', c5, rfl, hf5, hb5⟩
    have hz5 := hb5.size
    have hB5 : Below wo.heap.size wo w5 := Below.on HB.out hb5 szr
    clear hspl
    by_cases heq : n1 = n0
    ·
     have e1 : ((n1 : Int) == (n0 : Int)) = true := beq_iff_eq.2 (by omega)
     have HC : Hid (cntC ac nx (atomsN t).toNat a.toNat (r + 1) = cntC ac nx (atomsN t).toNat a.toNat r) := by show _ = _; rw [Hn0.out, Hn1.out, heq]
     have hf6 := HF.out.on hb5
     rw [← clsM_zero] at hf6
     obtain ⟨b', o', rfl⟩ := nest_some (f := D.int) hf6.rd (by rw [clsM_len]; omega)
     have Hst := Lib.hid (And.intro hf6 hB5)
     have HMlen := Lib.hid (fun i => clsM_len (ac := ac) (nx := nx) (A := (atomsN t).toNat) (a := a.toNat) (r := r) (i := i))
     clear hf5 hf6 hB5 hb5 HF HB heq
     go_wp2_with fail
     go_loopw [15] (fun i wr => ∃ k : Nat, k ≤ ac.length ∧ i = .int .i64 k ∧ Fresh wo wr (intsD (clsM ac nx (atomsN t).toNat a.toNat r k)) (.slice (some ⟨b', o', none⟩) ac.length c') ∧ Below wo.heap.size wo wr) (fun i _ => ac.length - (intOf i).toNat)
     case atStart => exact ⟨0, by omega, rfl, Hst.out.1, Hst.out.2⟩
     case round =>
      clear Hst
      obtain ⟨j, hj, rfl, hf, hB⟩ := hrel
      obtain ⟨wj, rfl⟩ : ∃ v, v = wr := ⟨_, rfl⟩
      have hj0 := Int.natCast_nonneg j
      by_cases hjl : j < ac.length
      rotate_left
      ·
       obtain rfl : j = ac.length := by omega
       rw [clsM_all] at hf
       have hBw := Hwo.out.trans (hB.mono (by omega))
       go_wp2_with fail
       go_ret
       exact ⟨r, _, _, rfl, HC.out, hf.from (by omega), hBw⟩
      have hjb : (j : Int) < (ac.length : Int) := by omega
      have hlr := Hrl.out.below (by rw [Hg.out]; exact HBo.out.trans (hB.mono (by omega)))
      obtain ⟨-, l0⟩ := bool_in hlr (liveL_at (nx := nx) hjl)
      rw [Nat.zero_add] at l0
      cases hlv : liveB ac nx j
      ·
       rw [hlv] at l0
       obtain ⟨p1, p2, p3, p4, p5⟩ := fresh_set hf (clsM_at (nx := nx) (A := (atomsN t).toNat) (a := a.toNat) (r := r) hjl) (-1)
       rw [← clsM_no hjl hlv] at p5
       have Hfin := Lib.hid (And.intro p5 (Below.setCell (p := ⟨b', o' + j, none⟩) hB p3 (.int .i64 (-1))))
       clear hf hB p3 p5 hlv hlr
       go_wp2_with fail
       go_roundw
       case rel => exact ⟨j + 1, by omega, by go_num, Hfin.out.1, Hfin.out.2⟩
       case measure => simp [intOf]; omega
      ·
       rw [hlv] at l0
       rw [← clsM_yes hjl hlv] at hf
       have Hfin := Lib.hid (And.intro hf hB)
       clear hf hB hlv hlr
       go_wp2_with fail
       go_roundw
       case rel => exact ⟨j + 1, by omega, by go_num, Hfin.out.1, Hfin.out.2⟩
       case measure => simp [intOf]; omega
    ·
     have e1 : ((n1 : Int) == (n0 : Int)) = false := beq_eq_false_iff_ne.2 (by omega)
     have Hfin := Lib.hid (And.intro (hf5.from (w0 := wo) szr) hB5)
     clear hf5 hB5 hb5 HF HB
     go_wp2_with fail
     go_roundw
     case rel => exact ⟨r + 1, _, _, rfl, by rw [Hn1.out], Hfin.out.1, Hfin.out.2⟩
     case measure => simp [intOf]; omega
   -- dev)
  ·
   obtain ⟨nr, hnr⟩ : ∃ e, nx[k]? = some e := ⟨_, List.getElem?_eq_getElem hlt⟩
   obtain ⟨ub, uo, rfl⟩ := nest_some (f := iiD) g5 (by omega)
   obtain ⟨l1, l2⟩ := Hrow.out k nr hnr
   have hn8 : nr.length ≤ 8 := by omega
   clear l1
   have Hl2 := Lib.hid l2
   have HXt := Lib.hid (cutX_take (ac := ac) hnr)
   have Hnr := Lib.hid hnr
   have hkb : (k : Int) < (nx.length : Int) := by omega
   obtain ⟨AX, hAX⟩ : ∃ AX, (cutX ac nx).take k = AX := ⟨_, rfl⟩
   rw [hAX] at HXt HW
   obtain ⟨RW, hRW⟩ : ∃ RW, cutR ac nx nr = RW := ⟨_, rfl⟩
   have HRl : Hid (RW.length = nr.length) := by show _ = _; rw [← hRW, cutR_len]
   have HRt := Lib.hid (fun (m : Nat) (row : List Int) (h : nr[m]? = some row) => by rw [← hRW]; exact cutR_take (ac := ac) (nx := nx) h : ∀ m row, nr[m]? = some row → RW.take (m + 1) = RW.take m ++ [row.map (cutZ ac nx)])
   rw [hRW] at HXt
   clear hW g4 g5 l2 hwo hnr hAX hRW
   go_wp2_with fail
   have hB3 := HW.out.1.push_empty (by omega) 56 1
   have hbe3 := HW.out.2.alloc (by omega) (.cells #[] 56)
   have hst : Hid (LcW g g t a s ac.length c w1 (wo.alloc (.cells #[] 56)) k AX (.slice aX k cX) [.app 56 1 0 ((RW.take 0).map intsD) (.slice (some ⟨wo.heap.size, 0, none⟩) 0 0)]) := ⟨by simpa using hB3, hbe3⟩
   clear hB3 hbe3 HW c0 c1' c2' c3' q1
   go_loopw [6, 7] (fun v j wr => ∃ m : Nat, j = .int .i64 m ∧ m ≤ nr.length ∧ LcW g g t a s ac.length c w1 wr k AX (.slice aX k cX) [.app 56 1 m ((RW.take m).map intsD) v]) (fun _ j _ => nr.length - (intOf j).toNat)
   case atStart => exact ⟨0, rfl, by omega, hst.out⟩
   case round =>
    clear hst
    obtain ⟨m, rfl, hm, hW⟩ := hrel
    obtain ⟨wm, rfl⟩ : ∃ v, v = wr := ⟨_, rfl⟩
    obtain ⟨a6, c6, rfl, q3, q4⟩ := hW.1.shape 2 rfl
    unfold maxLen at q4
    have hm0 := Int.natCast_nonneg m
    have hwm : Below w.heap.size w wm := hb1.trans (hW.2.mono (by omega))
    have hzm := hW.2.size
    have HW := Lib.hid hW
    obtain ⟨c0, c1', c2', c3', g4, g5⟩ := Hh.out.below hwm
    obtain ⟨-, sn, cn, b0, rb⟩ := nest_sl (g := intsD) g5 Hnr.out
    obtain ⟨rb1, rb2⟩ := nest_bd rb
    unfold maxLen at rb2
    by_cases hml : m < nr.length
    rotate_left
    ·
     -- dev(
     obtain rfl : m = nr.length := by omega
     have HEX : Hid (((cutX ac nx).take (k + 1)).map iiD = AX.map iiD ++ [D.sl 1 nr.length ((RW.take nr.length).map intsD)]) := by
      show _ = _
      rw [List.take_of_length_le (l := RW) (by rw [HRl.out]; exact Nat.le_refl _)]
      exact fin_rows HXt.out rfl HRl.out
     have hBu := HW.out.1.alloc (.cells #[.slice a6 nr.length c6] 55)
     have hNb := Blk.new1 wm 55 (.slice a6 nr.length c6)
     obtain ⟨x0, x1, x2, x3, z0, z1, z2, z3, ltx⟩ := (HW.out.1.box 0 rfl).1.all4
     have hgb := (HW.out.1.box 0 rfl).2
     clear hW hwm g4 g5 rb
     go_wp2_with (at_builtin; go_must (refine wpList_append_bun_own _ rfl _ _ 47 rfl 55 24 Tryz.underlying47 info_i64ss hBu (by simp; omega) 1 _ rfl rfl 2 (by decide) _ rfl ⟨wm.heap.size, 0, none⟩ rfl (news_blk hNb) (by omega) (by unfold maxLen; omega) ?_); intro g7 cap7 w7 hbun7 hb7; obtain ⟨y0, y1, y2, y3, f0, f1, f2, f3, lty⟩ := (hbun7.box 0 rfl).1.all4)
     have Hfin := Lib.hid (And.intro ((hbun7.take 2).store 0 rfl 3 (.slice (some ⟨g7, 0, none⟩) (k + 1) cap7)) (Below.setCell (p := ⟨g, 3, none⟩) ((HW.out.2.alloc (by omega) (.cells #[.slice a6 nr.length c6] 55)).trans hb7) hgb (.slice (some ⟨g7, 0, none⟩) (k + 1) cap7)))
     clear hbun7 hb7 hBu hNb x0 x1 x2 x3 z0 z1 z2 z3 ltx y0 y1 y2 y3 f0 f1 f2 f3 lty
     go_wp2_with fail
     go_roundw
     case rel =>
      refine ⟨k + 1, .slice (some ⟨g7, 0, none⟩) (k + 1) cap7, by go_num, by omega, ?_⟩
      have h := Hfin.out
      unfold LcW
      rw [HEX.out]
      exact h
     case measure => simp [intOf]; omega
     -- dev)
    obtain ⟨row, hrow⟩ : ∃ e, nr[m]? = some e := ⟨_, List.getElem?_eq_getElem hml⟩
    obtain ⟨nb, no, rfl⟩ := nest_some (f := intsD) rb (by omega)
    obtain ⟨r1, r2⟩ := Hl2.out m row hrow
    have hr4 : row.length ≤ 4 := by omega
    clear r1
    have Hr2 := Lib.hid r2
    have HRm := Lib.hid (HRt.out m row hrow)
    have Hro := Lib.hid hrow
    have hmb : (m : Int) < (nr.length : Int) := by omega
    obtain ⟨AR, hAR⟩ : ∃ AR, RW.take m = AR := ⟨_, rfl⟩
    rw [hAR] at HRm HW
    have HRs0 := Lib.hid (fun (q : Nat) (z : Int) (h : row[q]? = some z) => map_take_succ (f := cutZ ac nx) h)
    obtain ⟨RR, hRR⟩ : ∃ RR, row.map (cutZ ac nx) = RR := ⟨_, rfl⟩
    have HRRl : Hid (RR.length = row.length) := by show _ = _; rw [← hRR, List.length_map]
    rw [hRR] at HRs0 HRm
    clear hW g4 g5 r2 rb hwm hrow hAR hRR HRt
    go_wp2_with fail
    have hB4 := HW.out.1.push_empty (by omega) 2 1
    have hbe4 := HW.out.2.alloc (by omega) (.cells #[] 2)
    have hst : Hid (LcW g g t a s ac.length c w1 (wm.alloc (.cells #[] 2)) k AX (.slice aX k cX) [.app 56 1 m (AR.map intsD) (.slice a6 m c6), .app 2 1 0 ((RR.take 0).map D.int) (.slice (some ⟨wm.heap.size, 0, none⟩) 0 0)]) := ⟨by simpa using hB4, hbe4⟩
    clear hB4 hbe4 HW c0 c1' c2' c3' b0 q3
    go_loopw [8, 9] (fun v j wr => ∃ q : Nat, j = .int .i64 q ∧ q ≤ row.length ∧ LcW g g t a s ac.length c w1 wr k AX (.slice aX k cX) [.app 56 1 m (AR.map intsD) (.slice a6 m c6), .app 2 1 q ((RR.take q).map D.int) v]) (fun _ j _ => row.length - (intOf j).toNat)
    case atStart => exact ⟨0, rfl, by omega, hst.out⟩
    case round =>
     clear hst
     obtain ⟨q, rfl, hq, hW⟩ := hrel
     obtain ⟨wq, rfl⟩ : ∃ v, v = wr := ⟨_, rfl⟩
     obtain ⟨a8, c8, rfl, q5, q6⟩ := hW.1.shape 3 rfl
     unfold maxLen at q6
     have hq0 := Int.natCast_nonneg q
     have hwq : Below w.heap.size w wq := hb1.trans (hW.2.mono (by omega))
     have hzq := hW.2.size
     have HW := Lib.hid hW
     obtain ⟨c0, c1', c2', c3', g4, g5⟩ := Hh.out.below hwq
     obtain ⟨-, sn', cn', b0, rb⟩ := nest_sl (g := intsD) g5 Hnr.out
     obtain ⟨nb', no', rfl⟩ := nest_some (f := intsD) rb (by omega)
     obtain ⟨rb3, rb4⟩ := nest_bd rb
     unfold maxLen at rb4
     obtain ⟨-, sr, cr, p0, rr⟩ := nest_sl (g := D.int) rb Hro.out
     obtain ⟨rb5, rb6⟩ := nest_bd (f := D.int) rr
     unfold maxLen at rb6
     by_cases hql : q < row.length
     rotate_left
     ·
      -- dev(
      obtain rfl : q = row.length := by omega
      have HEX : Hid ((RW.take (m + 1)).map intsD = AR.map intsD ++ [D.sl 1 row.length ((RR.take row.length).map D.int)]) := by
       show _ = _
       rw [List.take_of_length_le (l := RR) (by rw [HRRl.out]; exact Nat.le_refl _)]
       exact fin_rows HRm.out rfl HRRl.out
      have hBu := HW.out.1.alloc (.cells #[.slice a8 row.length c8] 56)
      have hNb := Blk.new1 wq 56 (.slice a8 row.length c8)
      clear hW hwq g4 g5 rb rr
      go_wp2_with (at_builtin; go_must (refine wpList_append_bun_own _ rfl _ _ 55 rfl 56 24 Tryz.underlying55 info_i64s hBu (by simp; omega) 2 _ rfl rfl 3 (by decide) _ rfl ⟨wq.heap.size, 0, none⟩ rfl (news_blk hNb) (by omega) (by unfold maxLen; omega) ?_); intro g8 cap8 w8 hbun8 hb8)
      have Hfin := Lib.hid (And.intro (hbun8.take 3) ((HW.out.2.alloc (by omega) (.cells #[.slice a8 row.length c8] 56)).trans hb8))
      clear hbun8 hb8 hBu hNb
      go_wp2_with fail
      go_roundw
      case rel =>
       refine ⟨m + 1, by go_num, by omega, ?_⟩
       have h := Hfin.out
       unfold LcW
       rw [HEX.out]
       exact h
      case measure => simp [intOf]; omega
      -- dev)
     obtain ⟨z, hz⟩ : ∃ e, row[q]? = some e := ⟨_, List.getElem?_eq_getElem hql⟩
     obtain ⟨tb, to', rfl⟩ := nest_some (f := D.int) rr (by omega)
     obtain ⟨-, v0⟩ := int_in rr hz
     have hzb := Hr2.out q z hz
     have hqb : (q : Int) < (row.length : Int) := by omega
     have HRs := Lib.hid (HRs0.out q z hz)
     have hlr := Hrl.out.below (by rw [Hg.out]; exact hW.2)
     clear hW g4 g5 rb rr hwq hz
     by_cases h0 : z < 0
     ·
      have hd0 : decide (0 ≤ z) = false := by apply decide_eq_false; omega
      have ez : cutZ ac nx z = z := by unfold cutZ; rw [if_neg (by omega)]
      rw [ez] at HRs
      clear ez hlr
      have hBu := HW.out.1.alloc (.cells #[.int .i64 (z)] 2)
      have hNb := Blk.new1 wq 2 (.int .i64 (z))
      go_wp2_with (at_builtin; go_must (refine wpList_append_bun _ rfl _ _ 56 rfl 2 (.int .i64 0) 1 8 Tryz.underlying56 info_int64 rfl (by decide) hBu (by simp <;> omega) 3 _ rfl rfl ⟨wq.heap.size, 0, none⟩ 1 1 [.int .i64 (z)] rfl (news_blk hNb) le_none rfl (by simp [Value.oneCell']) (by omega) (by omega) (by unfold maxLen; omega) ?_); intro g8 cap8 w8 hbun8 hb8)
      have Hfin := Lib.hid (And.intro hbun8 ((HW.out.2.alloc (by omega) (.cells #[.int .i64 (z)] 2)).trans hb8))
      clear hbun8 hb8 hBu hNb
      go_wp2_with fail
      go_roundw
      case rel =>
       refine ⟨q + 1, by go_num, by omega, ?_, Hfin.out.2⟩
       have h := Hfin.out.1
       (try rw [← List.map_take])
       rw [HRs.out, List.map_append]
       exact h
      case measure => simp [intOf]; omega
     ·
      have hd0 : decide (0 ≤ z) = true := by apply decide_eq_true; omega
      obtain ⟨zn, rfl⟩ : ∃ zn : Nat, z = (zn : Int) := ⟨z.toNat, by omega⟩
      obtain ⟨-, l0⟩ := bool_in hlr (liveL_at (nx := nx) (s := zn) (by omega))
      rw [Nat.zero_add] at l0
      have hzl : (zn : Int) < (ac.length : Int) := by omega
      cases hlv : liveB ac nx zn
      ·
       have ez : cutZ ac nx (zn : Int) = -1 := by unfold cutZ; rw [if_pos ⟨by omega, by rw [Int.toNat_natCast]; exact hlv⟩]
       rw [hlv] at l0
       rw [ez] at HRs
       clear ez hlr hlv
       have hBu := HW.out.1.alloc (.cells #[.int .i64 (-1)] 2)
       have hNb := Blk.new1 wq 2 (.int .i64 (-1))
       go_wp2_with (at_builtin; go_must (refine wpList_append_bun _ rfl _ _ 56 rfl 2 (.int .i64 0) 1 8 Tryz.underlying56 info_int64 rfl (by decide) hBu (by simp <;> omega) 3 _ rfl rfl ⟨wq.heap.size, 0, none⟩ 1 1 [.int .i64 (-1)] rfl (news_blk hNb) le_none rfl (by simp [Value.oneCell']) (by omega) (by omega) (by unfold maxLen; omega) ?_); intro g8 cap8 w8 hbun8 hb8)
       have Hfin := Lib.hid (And.intro hbun8 ((HW.out.2.alloc (by omega) (.cells #[.int .i64 (-1)] 2)).trans hb8))
       clear hbun8 hb8 hBu hNb
       go_wp2_with fail
       go_roundw
       case rel =>
        refine ⟨q + 1, by go_num, by omega, ?_, Hfin.out.2⟩
        have h := Hfin.out.1
        (try rw [← List.map_take])
        rw [HRs.out, List.map_append]
        exact h
       case measure => simp [intOf]; omega
      ·
       have ez : cutZ ac nx (zn : Int) = zn := by unfold cutZ; rw [if_neg (by rw [Int.toNat_natCast, hlv]; simp)]
       rw [hlv] at l0
       rw [ez] at HRs
       clear ez hlr hlv
       have hBu := HW.out.1.alloc (.cells #[.int .i64 ((zn : Int))] 2)
       have hNb := Blk.new1 wq 2 (.int .i64 ((zn : Int)))
       go_wp2_with (at_builtin; go_must (refine wpList_append_bun _ rfl _ _ 56 rfl 2 (.int .i64 0) 1 8 Tryz.underlying56 info_int64 rfl (by decide) hBu (by simp <;> omega) 3 _ rfl rfl ⟨wq.heap.size, 0, none⟩ 1 1 [.int .i64 ((zn : Int))] rfl (news_blk hNb) le_none rfl (by simp [Value.oneCell']) (by omega) (by omega) (by unfold maxLen; omega) ?_); intro g8 cap8 w8 hbun8 hb8)
       have Hfin := Lib.hid (And.intro hbun8 ((HW.out.2.alloc (by omega) (.cells #[.int .i64 ((zn : Int))] 2)).trans hb8))
       clear hbun8 hb8 hBu hNb
       go_wp2_with fail
       go_roundw
       case rel =>
        refine ⟨q + 1, by go_num, by omega, ?_, Hfin.out.2⟩
        have h := Hfin.out.1
        (try rw [← List.map_take])
        rw [HRs.out, List.map_append]
        exact h
       case measure => simp [intOf]; omega
end Go.Proofs.YtcokljhamhgelaaGreatDoor
