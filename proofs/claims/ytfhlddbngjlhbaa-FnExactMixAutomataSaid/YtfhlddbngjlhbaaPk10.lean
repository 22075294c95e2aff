/-
  Parts of a proof, joined: MixS, KeyP, MixI0. No condition.
-/
import Derived.WideKeyPair
import Derived.Test.YtfhlddbngjlhbaaPk9
namespace Go.Proofs.Ytfhlddbngjlhbaa
set_option linter.unusedVariables false
set_option linter.unusedSimpArgs false
open Go.ChangeShapes Go.WideShapes Go.ChangeAt Go.RowKit Go.Deep
set_option maxRecDepth 100000 in
set_option maxHeartbeats 16000000 in
theorem l02Mix_i {t a mix : Int} {ac bc : List (List Bool)} {nx ny : List (List (List Int))} {s u s' u' : Option Addr} {c d c' d' b o b' o' : Nat} {w : World} (h : AutAt w b o t a ac nx s u c d) (h' : AutAt w b' o' t a bc ny s' u' c' d') (hok : AutOk t a ac nx) (hok' : AutOk t a bc ny) :
  Calls Try.prog 24 #[.pointer (some ⟨b, o, none⟩), .pointer (some ⟨b', o', none⟩), .int .i64 mix] w fun e w' => ∃ s1 c1 s2 c2, e = .returned (.tuple #[.agg #[.int .i64 (mxT nx ny (atomsN t).toNat a.toNat t), .int .i64 (mxT nx ny (atomsN t).toNat a.toNat a), .slice s1 (mxA mix ac bc nx ny (atomsN t).toNat a.toNat).length c1, .slice s2 (mxX nx ny (atomsN t).toNat a.toNat).length c2], .int .i64 (mxC nx ny (atomsN t).toNat a.toNat)]) ∧
   Freshs w w' (autD (mxA mix ac bc nx ny (atomsN t).toNat a.toNat) (mxX nx ny (atomsN t).toNat a.toNat)) [.slice s1 (mxA mix ac bc nx ny (atomsN t).toNat a.toNat).length c1, .slice s2 (mxX nx ny (atomsN t).toNat a.toNat).length c2] ∧ Below w.heap.size w w' := by
 obtain ⟨ht0, ht3, ha0, ha4⟩ := sigB_bd hok.sig
 obtain ⟨hat1, hat8⟩ := atomsN_bd t
 have hM : mxOk nx ny (atomsN t).toNat a.toNat ↔ (prF nx ny (atomsN t).toNat a.toNat).length ≤ 60 := Iff.rfl
 have hY : mxOk nx ny (atomsN t).toNat a.toNat → mxT nx ny (atomsN t).toNat a.toNat t = t ∧ mxT nx ny (atomsN t).toNat a.toNat a = a ∧ mxA mix ac bc nx ny (atomsN t).toNat a.toNat = (prF nx ny (atomsN t).toNat a.toNat).map (accM mix ac bc (atomsN t).toNat) ∧ mxX nx ny (atomsN t).toNat a.toNat = (prF nx ny (atomsN t).toNat a.toNat).map (rowsM nx ny (prF nx ny (atomsN t).toNat a.toNat) (atomsN t).toNat a.toNat) ∧ mxC nx ny (atomsN t).toNat a.toNat = 0 := fun hg =>
  have q := mx_yes (k := mix) (ac := ac) (bc := bc) hg
  ⟨q.1 t, q.1 a, q.2⟩
 have hN : ¬ mxOk nx ny (atomsN t).toNat a.toNat → mxT nx ny (atomsN t).toNat a.toNat t = 0 ∧ mxT nx ny (atomsN t).toNat a.toNat a = 0 ∧ mxA mix ac bc nx ny (atomsN t).toNat a.toNat = [] ∧ mxX nx ny (atomsN t).toNat a.toNat = [] ∧ mxC nx ny (atomsN t).toNat a.toNat = 3 := fun hg =>
  have q := mx_no (k := mix) (ac := ac) (bc := bc) hg
  ⟨q.1 t, q.1 a, q.2⟩
 have hF : ∀ i, (prL nx ny (atomsN t).toNat a.toNat i).length ≤ i → prF nx ny (atomsN t).toNat a.toNat = prL nx ny (atomsN t).toNat a.toNat i := fun i hi => by unfold prF; rw [← prL_all hok hok' hi]
 have hP2 := fun (i : Nat) (x : Int × Int) (m k : Nat) (hx : (prL nx ny (atomsN t).toNat a.toNat i)[i]? = some x) => prC_ok (m := m) (k := k) hok hok' hx
 have hP3 := fun (i : Nat) => prL_many hok hok' i
 have hP4 := fun (i : Nat) (x : Int × Int) (hx : (prL nx ny (atomsN t).toNat a.toNat i)[i]? = some x) => mx_at hok hok' hx
 have hP5 := fun (i m k j : Nat) (x z : Int × Int) (hx : (prL nx ny (atomsN t).toNat a.toNat i)[i]? = some x) (o : Option (Int × Int)) (ho : o = some z) (hj : (prC nx ny (atomsN t).toNat a.toNat i x m k)[j]? = some z) => mx_num hok hok' hx ho hj
 have hP6 := fun (hg : mxOk nx ny (atomsN t).toNat a.toNat) (i : Nat) => (mx_ok_le hok hok' hg).1 i
 obtain ⟨n, hn⟩ : ∃ n : Nat, a = (n : Int) := ⟨a.toNat, by omega⟩
 obtain ⟨A, hA⟩ : ∃ A : Nat, atomsN t = (A : Int) := ⟨(atomsN t).toNat, by omega⟩
 rw [show (atomsN t).toNat = A by omega, show a.toNat = n by omega] at *
 generalize mxT nx ny A n t = T1 at *
 generalize mxT nx ny A n a = T2 at *
 generalize mxA mix ac bc nx ny A n = RA at *
 generalize mxX nx ny A n = RX at *
 generalize mxC nx ny A n = RC at *
 generalize mxOk nx ny A n = OK at *
 generalize prF nx ny A n = PF at *
 have hFA := fun (k : Nat) (x : Int × Int) (h : PF[k]? = some x) => map_take_succ (f := accM mix ac bc A) h
 have hFX := fun (k : Nat) (x : Int × Int) (h : PF[k]? = some x) => map_take_succ (f := rowsM nx ny PF A n) h
 obtain ⟨FA, hFAe⟩ : ∃ FA, PF.map (accM mix ac bc A) = FA := ⟨_, rfl⟩
 obtain ⟨FX, hFXe⟩ : ∃ FX, PF.map (rowsM nx ny PF A n) = FX := ⟨_, rfl⟩
 rw [hFAe, hFXe] at hY
 rw [hFAe] at hFA
 rw [hFXe] at hFX
 have hlA : FA.length = PF.length := by rw [← hFAe, List.length_map]
 have hlX : FX.length = PF.length := by rw [← hFXe, List.length_map]
 have HA := Lib.hid hA
 have Hn := Lib.hid hn
 have HM := Lib.hid hM
 have HY := Lib.hid hY
 have HN := Lib.hid hN
 have HF := Lib.hid hF
 have HP2 := Lib.hid hP2
 have HP3 := Lib.hid hP3
 have HP4 := Lib.hid hP4
 have HP5 := Lib.hid hP5
 have HP6 := Lib.hid hP6
 have HFA := Lib.hid hFA
 have HFX := Lib.hid hFX
 have HLA := Lib.hid hlA
 have HLX := Lib.hid hlX
 have Hok := Lib.hid hok
 have Hok' := Lib.hid hok'
 have Hh := Lib.hid h
 have Hh' := Lib.hid h'
 have hA8 : A ≤ 8 := by omega
 have hn4 : n ≤ 4 := by omega
 obtain ⟨g0, g1, -, -, -, -⟩ := h
 clear hM hY hN hF hP2 hP3 hP4 hP5 hP6 hFA hFX hlA hlX hFAe hFXe hok hok' h' hA hat1 hat8 hn
 have hbl := World.block_lt_of_cell? w _ g0
 have hw3 := (((Below.refl w.heap.size w).alloc (Nat.le_refl _) (.cells #[.int .i64 0, .int .i64 0, .slice none 0 0, .slice none 0 0] 31)).alloc (by simp) (.cells #[.int .i64 0] 2)).alloc (by simp; omega) (.cells #[.int .i64 0] 2)
 have q0 := (hw3.cell (p := ⟨b, o, none⟩) hbl).trans g0
 have q1 := (hw3.cell (p := ⟨b, o + 1, none⟩) hbl).trans g1
 clear hw3
 go_enter Try.func24, Try.ntmps24
 go_wp2_with fail
 clear g0 g1 q0 q1
 obtain ⟨w0, e0, R, hb0, hz0⟩ := box4 w 31 (.int .i64 0) (.int .i64 0) (.slice none 0 0) (.slice none 0 0)
 rw [e0]
 have hB1 := bun_zero (Bun.nil (B := w0.heap.size) (w := w0)) (Nat.le_refl _) (t := 2) (v := 0)
 have hB2 := bun_zero hB1 (by simp) (t := 2) (v := 0)
 have hB3 := (((hB2.push_box (by simp; omega) 31 #[.int .i64 t, .int .i64 a, .slice none 0 0, .slice none 0 0])).push_nil 77 1).push_nil 76 1
 have hbe := (((Below.refl w0.heap.size w0).alloc (Nat.le_refl _) (.cells #[.int .i64 0] 2)).alloc (by simp) (.cells #[.int .i64 0] 2)).alloc (by simp; omega) (.cells #[.int .i64 t, .int .i64 a, .slice none 0 0, .slice none 0 0] 31)
 rw [show ((w0.alloc (.cells #[.int .i64 0] 2)).alloc (.cells #[.int .i64 0] 2)).heap.size = w.heap.size + 1 + 1 + 1 by simp; omega, show (w0.alloc (.cells #[.int .i64 0] 2)).heap.size = w.heap.size + 1 + 1 by simp; omega] at hB3
 obtain ⟨g, hg⟩ : ∃ g, w.heap.size + 1 + 1 + 1 = g := ⟨_, rfl⟩
 rw [hg] at hB3 ⊢
 have hgw : w0.heap.size ≤ g := by omega
 have Hst : Hid (MxW w0.heap.size g t a w0 _ [((0 : Int), (0 : Int))] 0 [] [] (.slice (some ⟨w0.heap.size, 0, none⟩) 1 1) (.slice (some ⟨w.heap.size + 1 + 1, 0, none⟩) 1 1) (.slice none 0 0) (.slice none 0 0) []) := ⟨by simpa using hB3, hbe⟩
 rw [show w0.heap.size = w.heap.size + 1 by omega] at Hst
 have hB0 := hb0
 have HR := Lib.hid R
 clear hb0 e0 hB1 hB2 hB3 hbe hg R
 go_loopw [8, 9, 11] (fun v0 v1 i wr => ∃ (k : Nat) (vA vX : Value), i = .int .i64 k ∧ k ≤ (prL nx ny A n k).length ∧ (prL nx ny A n k).length ≤ 60 ∧ MxW (w.heap.size + 1) g t a w0 wr (prL nx ny A n k) k (FA.take k) (FX.take k) v0 v1 vA vX []) (fun _ _ i _ => 61 - (intOf i).toNat)
 case atStart => exact ⟨0, _, _, rfl, by omega, by show ([_] : List (Int × Int)).length ≤ 60; simp, Hst.out⟩
 case round =>
  clear Hst
  obtain ⟨i, vA, vX, rfl, hil, hl60, hbun, hbe⟩ := hrel
  obtain ⟨wo, rfl⟩ : ∃ v, v = wr := ⟨_, rfl⟩
  obtain ⟨L, hL⟩ : ∃ L, prL nx ny A n i = L := ⟨_, rfl⟩
  rw [hL] at hbun hil hl60
  obtain ⟨a0, c0, rfl, q1, q2⟩ := hbun.shape 0 rfl
  obtain ⟨a1, c1, rfl, q3, q4⟩ := hbun.shape 1 rfl
  obtain ⟨aA, cA, rfl, q5, q6⟩ := hbun.shape 3 rfl
  obtain ⟨aX, cX, rfl, q7, q8⟩ := hbun.shape 4 rfl
  unfold maxLen at q2 q4 q6 q8
  have HL := Lib.hid hL
  have HB := Lib.hid hbun
  have HBe := Lib.hid hbe
  have hi0 := Int.natCast_nonneg i
  have hzo := hbe.size
  by_cases hlt : i < L.length
  rotate_left
  ·
   -- dev(
   obtain ⟨y1, y2, y3, y4, y5⟩ : T1 = t ∧ T2 = a ∧ RA = FA ∧ RX = FX ∧ RC = 0 := HY.out (HM.out.2 (by rw [HF.out i (by rw [hL]; omega), hL]; exact hl60))
   have hPL : PF.length = i := by rw [HF.out i (by rw [hL]; omega), hL]; omega
   have HFr := Lib.hid (hbun.fresh2 (W := w0) (by omega) 3 4 (by decide) rfl rfl)
   rw [List.take_of_length_le (by rw [HLA.out]; omega), List.take_of_length_le (by rw [HLX.out]; omega)] at HFr
   have HPL := Lib.hid hPL
   have HYY := Lib.hid (And.intro y1 (And.intro y2 (And.intro y3 (And.intro y4 y5))))
   obtain ⟨x0, x1, x2, x3, -, -, -, -, ltx⟩ := (hbun.box 2 rfl).1.all4
   have R := HR.out.keep (hbe.block _ (by omega))
   have hB : Below w.heap.size w wo := hB0.trans (hbe.mono (by omega))
   clear hbun hbe hL hPL y1 y2 y3 y4 y5
   obtain ⟨r0, r1, r2, r3, z0, z1, z2, z3, ltR⟩ := R.all4
   go_wp2_with fail
   obtain ⟨w5, e5, T2, hs5⟩ := set4 R (.int .i64 t) (.int .i64 a) (.slice aA i cA) (.slice aX i cX)
   rw [e5]
   clear e5 r0 r1 r2 r3 z0 z1 z2 z3 ltR
   obtain ⟨t0, t1, t2, t3, -, -, -, -, -⟩ := T2.all4
   have hzB5 := hB.size
   have hB5 := hB.trans (hs5.below (B := w.heap.size) (by omega) (fun y hy => by omega))
   refine bodyPost_ret (v := .tuple #[.agg #[.int .i64 t, .int .i64 a, .slice aA i cA, .slice aX i cX], .int .i64 0]) (by simp [results, Try.results24, go_sem, t0, t1, t2, t3]) rfl ?_
   obtain ⟨y1, y2, y3, y4, y5⟩ := HYY.out
   have hf := (HFr.out.keep fun b hb1 hb2 => hs5.block b hb2 (fun hy => by omega)).from (w0 := w) (by omega)
   rw [y1, y2, y3, y4, y5, HLA.out, HLX.out, HPL.out]
   refine ⟨aA, cA, aX, cX, rfl, ?_, hB5⟩
   show Freshs _ _ [.sl 1 FA.length _, .sl 1 FX.length _] _
   rw [HLA.out, HLX.out, HPL.out]
   exact hf
   -- dev)
  ·
   obtain ⟨x, hx⟩ : ∃ x, L[i]? = some x := ⟨_, List.getElem?_eq_getElem hlt⟩
   have hX : (prL nx ny A n i)[i]? = some x := by rw [HL.out]; exact hx
   have HX := Lib.hid hX
   have hxok := (HP2.out i x 0 0 hX).1 x (List.mem_of_getElem? (prL_at hX))
   have HFAs := Lib.hid (HFA.out i x (HP4.out i x hX))
   have HFXs := Lib.hid (HFX.out i x (HP4.out i x hX))
   obtain ⟨AC, hAC⟩ : ∃ AC, accM mix ac bc A x = AC := ⟨_, rfl⟩
   obtain ⟨RW, hRW⟩ : ∃ RW, rowsM nx ny PF A n x = RW := ⟨_, rfl⟩
   have hAl : AC.length = A := by rw [← hAC, accM_len]
   have hRl : RW.length = A := by rw [← hRW, rowsM_len]
   have hAs : ∀ m, m < A → AC.take (m + 1) = AC.take m ++ [mixB mix (hasN ac x.1 m) (hasN bc x.2 m)] := fun m hm => by rw [← hAC]; exact accM_take hm
   have hRs : ∀ m, m < A → RW.take (m + 1) = RW.take m ++ [rowM nx ny PF n m x] := fun m hm => by rw [← hRW]; exact rowsM_take hm
   rw [hAC] at HFAs
   rw [hRW] at HFXs
   have HAl := Lib.hid hAl
   have HRl := Lib.hid hRl
   have HAs := Lib.hid hAs
   have HRs := Lib.hid hRs
   have hil2 : (i : Int) < (L.length : Int) := by omega
   clear hbun hbe hL hx hX hAC hRW hAl hRl hAs hRs
   go_wp2_with fail
   have hB3 := (HB.out.push_empty (by omega) 4 1).push_empty (by simp; omega) 42 1
   rw [show (wo.alloc (.cells #[] 4)).heap.size = wo.heap.size + 1 by simp] at hB3
   have hbe3 := (HBe.out.alloc (by omega) (.cells #[] 4)).alloc (by simp; omega) (.cells #[] 42)
   have hst : Hid (MxW (w.heap.size + 1) g t a w0 ((wo.alloc (.cells #[] 4)).alloc (.cells #[] 42)) (prC nx ny A n i x 0 0) i (FA.take i) (FX.take i) (.slice a0 L.length c0) (.slice a1 L.length c1) (.slice aA i cA) (.slice aX i cX) [.app 4 1 0 [] (.slice (some ⟨wo.heap.size, 0, none⟩) 0 0), .app 42 1 0 [] (.slice (some ⟨wo.heap.size + 1, 0, none⟩) 0 0)]) := by
    show MxW ..
    rw [prC_zero, HL.out]
    exact ⟨by simpa using hB3, hbe3⟩
   clear hB3 hbe3 HB HBe q1 q2 q3 q4
   go_loopw [8, 9, 12, 13, 14] (fun v0 v1 v5 v6 j wr => ∃ m : Nat, j = .int .i64 m ∧ m ≤ A ∧ MxW (w.heap.size + 1) g t a w0 wr (prC nx ny A n i x m 0) i (FA.take i) (FX.take i) v0 v1 (.slice aA i cA) (.slice aX i cX) [.app 4 1 m ((AC.take m).map D.bool) v5, .app 42 1 m ((RW.take m).map intsD) v6]) (fun _ _ _ _ j _ => A - (intOf j).toNat)
   case atStart => exact ⟨0, rfl, by omega, hst.out⟩
   case round =>
    clear hst
    obtain ⟨m, rfl, hmA, hW⟩ := hrel
    obtain ⟨wm, rfl⟩ : ∃ v, v = wr := ⟨_, rfl⟩
    have hmany := (HP2.out i x m 0 HX.out).2
    have hat := prL_at (m := m) (k := 0) HX.out
    obtain ⟨Lm, hLm⟩ : ∃ Lm, prC nx ny A n i x m 0 = Lm := ⟨_, rfl⟩
    rw [hLm] at hW hmany hat
    obtain ⟨am, cm, rfl, -, -⟩ := hW.1.shape 0 rfl
    obtain ⟨an, cn, rfl, -, -⟩ := hW.1.shape 1 rfl
    obtain ⟨a5, c5, rfl, q1, q2⟩ := hW.1.shape 5 rfl
    obtain ⟨a6, c6, rfl, q3, q4⟩ := hW.1.shape 6 rfl
    unfold maxLen at q2 q4
    have HLm := Lib.hid hLm
    have hm0 := Int.natCast_nonneg m
    have hwm : Below w.heap.size w wm := hB0.trans (hW.2.mono (by omega))
    obtain ⟨g0, g1, g2, g3, -, -⟩ := Hh.out.below hwm
    have HW := Lib.hid hW
    have hzm := hW.2.size
    have hilm := (List.getElem?_eq_some_iff.1 hat).1
    have Hat := Lib.hid hat
    clear hW hLm hwm hat
    go_wp2_with fail
    clear g0 g1 g2 g3
    refine (l01Atoms_i ht0 ht3).mono ?_
    rintro f w5 ⟨rfl, hb5⟩
    rw [HA.out]
    have HW5 : Hid (MxW (w.heap.size + 1) g t a w0 w5 Lm i (FA.take i) (FX.take i) (.slice am Lm.length cm) (.slice an Lm.length cn) (.slice aA i cA) (.slice aX i cX) [.app 4 1 m ((AC.take m).map D.bool) (.slice a5 m c5), .app 42 1 m ((RW.take m).map intsD) (.slice a6 m c6)]) := ⟨HW.out.1.below hb5, HW.out.2.trans (hb5.mono (by omega))⟩
    have hz5 := hb5.size
    clear hb5 HW
    by_cases hmlt : m < A
    rotate_left
    ·
     -- dev(
     obtain rfl : A = m := by omega
     have hz5' : w.heap.size + 1 ≤ w5.heap.size := by omega
     have HEL : Hid (prL nx ny A n (i + 1) = Lm) := by show _ = _; rw [← prC_all HX.out, HLm.out]
     have HEA : Hid ((FA.take (i + 1)).map boolsD = (FA.take i).map boolsD ++ [D.sl 1 A ((AC.take A).map D.bool)]) := by
      show _ = _
      rw [HFAs.out, List.map_append, List.take_of_length_le (l := AC) (by rw [HAl.out]; omega)]
      show _ ++ [nestD D.bool AC] = _
      unfold nestD
      rw [HAl.out]
     have HEX : Hid ((FX.take (i + 1)).map iiD = (FX.take i).map iiD ++ [D.sl 1 A ((RW.take A).map intsD)]) := by
      show _ = _
      rw [HFXs.out, List.map_append, List.take_of_length_le (l := RW) (by rw [HRl.out]; omega)]
      show _ ++ [nestD intsD RW] = _
      unfold nestD
      rw [HRl.out]
     have hi1 : i + 1 ≤ Lm.length := by omega
     by_cases h60 : Lm.length ≤ 60
     ·
      have hd60 : decide ((60 : Int) < (Lm.length : Int)) = false := by apply decide_eq_false; omega
      have hBu := HW5.out.1.alloc (.cells #[.slice a5 A c5] 77)
      have hNb := Blk.new1 w5 77 (.slice a5 A c5)
      obtain ⟨x0, x1, x2, x3, z0, z1, z2, z3, ltx⟩ := (HW5.out.1.box 2 rfl).1.all4
      have hgb := (HW5.out.1.box 2 rfl).2
      go_wp2_with (first
       | (at_builtin; (refine wpList_append_bun_own _ rfl _ _ 24 rfl 77 24 Try.underlying24 rn_bls hBu (by simp; omega) 3 _ rfl rfl 5 (by decide) _ rfl ⟨w5.heap.size, 0, none⟩ rfl (news_blk hNb) (by omega) (by unfold maxLen; omega) ?_); intro g6 cap6 w6 hbun6 hb6; obtain ⟨y0, y1, y2, y3, f0, f1, f2, f3, lty⟩ := (hbun6.box 2 rfl).1.all4; have hz6 : w5.heap.size + 1 ≤ w6.heap.size := (by have q := hb6.size; simpa using q); have hBu2 := (hbun6.store 2 rfl 2 (.slice (some ⟨g6, 0, none⟩) (i + 1) cap6)).alloc (.cells #[.slice a6 A c6] 76); have hNb2 := rn_new (w6.setCell ⟨g, 2, none⟩ (.slice (some ⟨g6, 0, none⟩) (i + 1) cap6)) w6.heap.size 76 (.slice a6 A c6); have Hbe6 := Lib.hid (((Below.setCell (p := ⟨g, 2, none⟩) ((HW5.out.2.alloc hz5' (.cells #[.slice a5 A c5] 77)).trans hb6) hgb (.slice (some ⟨g6, 0, none⟩) (i + 1) cap6))).alloc (by simp; omega) (.cells #[.slice a6 A c6] 76)); clear hbun6 hb6)
       | (at_builtin; go_must (refine wpList_append_bun_own _ rfl _ _ 25 rfl 76 24 Try.underlying25 info_i64ss hBu2 (by simp; omega) 4 _ rfl rfl 6 (by decide) _ rfl ⟨w6.heap.size, 0, none⟩ rfl (news_blk hNb2) (by omega) (by unfold maxLen; omega) ?_); intro g7 cap7 w7 hbun7 hb7; obtain ⟨y0, y1, y2, y3, f0, f1, f2, f3, lty⟩ := (hbun7.box 2 rfl).1.all4; obtain ⟨r0, r1, r2, r3, rf0, rf1, rf2, rf3, ltR⟩ := (HR.out.keep ((Hbe6.out.trans hb7).block _ (by omega))).all4))
      have Hfin := Lib.hid (And.intro ((hbun7.take 5).store 2 rfl 3 (.slice (some ⟨g7, 0, none⟩) (i + 1) cap7)) (Below.setCell (p := ⟨g, 3, none⟩) (Hbe6.out.trans hb7) hgb (.slice (some ⟨g7, 0, none⟩) (i + 1) cap7)))
      clear hbun7 hb7 hBu hNb hBu2 hNb2 x0 x1 x2 x3 z0 z1 z2 z3 ltx Hbe6 r0 r1 r2 r3 rf0 rf1 rf2 rf3 ltR
      go_wp2_with fail
      go_roundw
      case rel =>
       refine ⟨i + 1, .slice (some ⟨g6, 0, none⟩) (i + 1) cap6, .slice (some ⟨g7, 0, none⟩) (i + 1) cap7, by go_num, by rw [HEL.out]; exact hi1, by rw [HEL.out]; exact h60, ?_⟩
       have h := Hfin.out
       unfold MxW
       rw [HEL.out, HEA.out, HEX.out]
       exact h
      case measure => simp [intOf]; omega
     ·
      have hd60 : decide ((60 : Int) < (Lm.length : Int)) = true := by apply decide_eq_true; omega
      obtain ⟨y1, y2, y3, y4, y5⟩ := HN.out (fun hg => h60 (by have := HP6.out hg (i + 1); rw [HEL.out] at this; exact this))
      have HYY := Lib.hid (And.intro y1 (And.intro y2 (And.intro y3 (And.intro y4 y5))))
      clear y1 y2 y3 y4 y5
      have hBu := HW5.out.1.alloc (.cells #[.slice a5 A c5] 77)
      have hNb := Blk.new1 w5 77 (.slice a5 A c5)
      obtain ⟨x0, x1, x2, x3, z0, z1, z2, z3, ltx⟩ := (HW5.out.1.box 2 rfl).1.all4
      have hgb := (HW5.out.1.box 2 rfl).2
      go_wp2_with (first
       | (at_builtin; (refine wpList_append_bun_own _ rfl _ _ 24 rfl 77 24 Try.underlying24 rn_bls hBu (by simp; omega) 3 _ rfl rfl 5 (by decide) _ rfl ⟨w5.heap.size, 0, none⟩ rfl (news_blk hNb) (by omega) (by unfold maxLen; omega) ?_); intro g6 cap6 w6 hbun6 hb6; obtain ⟨y0, y1, y2, y3, f0, f1, f2, f3, lty⟩ := (hbun6.box 2 rfl).1.all4; have hz6 : w5.heap.size + 1 ≤ w6.heap.size := (by have q := hb6.size; simpa using q); have hBu2 := (hbun6.store 2 rfl 2 (.slice (some ⟨g6, 0, none⟩) (i + 1) cap6)).alloc (.cells #[.slice a6 A c6] 76); have hNb2 := rn_new (w6.setCell ⟨g, 2, none⟩ (.slice (some ⟨g6, 0, none⟩) (i + 1) cap6)) w6.heap.size 76 (.slice a6 A c6); have Hbe6 := Lib.hid (((Below.setCell (p := ⟨g, 2, none⟩) ((HW5.out.2.alloc hz5' (.cells #[.slice a5 A c5] 77)).trans hb6) hgb (.slice (some ⟨g6, 0, none⟩) (i + 1) cap6))).alloc (by simp; omega) (.cells #[.slice a6 A c6] 76)); clear hbun6 hb6)
       | (at_builtin; go_must (refine wpList_append_bun_own _ rfl _ _ 25 rfl 76 24 Try.underlying25 info_i64ss hBu2 (by simp; omega) 4 _ rfl rfl 6 (by decide) _ rfl ⟨w6.heap.size, 0, none⟩ rfl (news_blk hNb2) (by omega) (by unfold maxLen; omega) ?_); intro g7 cap7 w7 hbun7 hb7; obtain ⟨y0, y1, y2, y3, f0, f1, f2, f3, lty⟩ := (hbun7.box 2 rfl).1.all4; obtain ⟨r0, r1, r2, r3, rf0, rf1, rf2, rf3, ltR⟩ := (HR.out.keep ((Hbe6.out.trans hb7).block _ (by omega))).all4))
      have Hfin := Lib.hid (And.intro ((hbun7.take 5).store 2 rfl 3 (.slice (some ⟨g7, 0, none⟩) (i + 1) cap7)) (Below.setCell (p := ⟨g, 3, none⟩) (Hbe6.out.trans hb7) hgb (.slice (some ⟨g7, 0, none⟩) (i + 1) cap7)))
      clear hbun7 hb7 hBu hNb hBu2 hNb2 x0 x1 x2 x3 z0 z1 z2 z3 ltx Hbe6 r0 r1 r2 r3 rf0 rf1 rf2 rf3 ltR
      have hB8 := hB0.trans (Hfin.out.2.mono (by omega))
      have R8 := HR.out.keep (Hfin.out.2.block _ (by omega))
      clear Hfin y0 y1 y2 y3 f0 f1 f2 f3 lty
      generalize w7.setCell ⟨g, 3, none⟩ (.slice (some ⟨g7, 0, none⟩) (i + 1) cap7) = w8 at hB8 R8 ⊢
      have hz8 := hB8.size
      obtain ⟨w9, e9, T3, hs5⟩ := set4 R8 (.int .i64 0) (.int .i64 0) (.slice none 0 0) (.slice none 0 0)
      rw [e9]
      obtain ⟨t0, t1, t2, t3, -, -, -, -, -⟩ := T3.all4
      refine bodyPost_ret (v := .tuple #[.agg #[.int .i64 0, .int .i64 0, .slice none 0 0, .slice none 0 0], .int .i64 3]) (by simp [results, Try.results24, go_sem, t0, t1, t2, t3]) rfl ?_
      obtain ⟨y1, y2, y3, y4, y5⟩ := HYY.out
      rw [y1, y2, y3, y4, y5]
      exact ⟨none, 0, none, 0, rfl, nil_au, hB8.trans (hs5.below (by omega) (fun y hy => by omega))⟩
     -- dev)
    ·
     clear HM HY HN HF HP3 HP4 HP6 HFA HFX HLA HLX HFAs HFXs HAl HRl HR HL
     have hm1 : (m : Int) < (A : Int) := by omega
     have hmat : (m : Int) < atomsN t := by rw [HA.out]; exact hm1
     obtain ⟨b2, o2, rfl⟩ := nest_some (f := D.int) (rd_part (HW5.out.1.rd 0 rfl)) (by simp; omega)
     obtain ⟨b3, o3, rfl⟩ := nest_some (f := D.int) (rd_part (HW5.out.1.rd 1 rfl)) (by simp; omega)
     go_upto_region 12 with fail
     refine mixS12_i Hh.out Hh'.out Hok.out Hok'.out hB0 (by omega) (by omega) hmat (by omega) hxok.2.1 hxok.2.2.2 Hat.out HW5.out ?_
     intro g18 cap18 wx u45 u46 u47 u48 u49 u50 u51 u52 u53 u54 u55 u56 u57 u58 u59 u60 u61 u62 u63 hWc
     have HACs : Hid (((AC.take (m + 1)).map D.bool) = (AC.take m).map D.bool ++ [D.bool (mixB mix (hasN ac x.1 m) (hasN bc x.2 m))]) := by show _ = _; rw [HAs.out m hmlt, List.map_append]; rfl
     rw [← HACs.out] at hWc
     have HW6 := Lib.hid hWc
     have hzx := HW6.out.2.size
     clear hWc HACs HW5
     obtain ⟨RR, hRR⟩ : ∃ RR, rowM nx ny PF n m x = RR := ⟨_, rfl⟩
     have hRRl : RR.length = n := by rw [← hRR, rowM_len]
     have HRRl := Lib.hid hRRl
     have HRRs := Lib.hid (fun (q : Nat) (hq : q < n) => by rw [← hRR]; exact rowM_take (nx := nx) (ny := ny) (L := PF) (m := m) (p := x) hq : ∀ q, q < n → RR.take (q + 1) = RR.take q ++ [numO PF (nxtP nx ny m q x)])
     have HRWs : Hid (RW.take (m + 1) = RW.take m ++ [RR]) := by show _ = _; rw [HRs.out m hmlt, hRR]
     clear hRR hRRl HAs HRs hil hl60 hil2
     go_wp2_with fail
     have hB7 := HW6.out.1.push_empty (by omega) 2 1
     have hbe7 := HW6.out.2.alloc (by omega) (.cells #[] 2)
     have hst : Hid (MxW (w.heap.size + 1) g t a w0 (wx.alloc (.cells #[] 2)) Lm i (FA.take i) (FX.take i) (.slice (some ⟨b2, o2, none⟩) Lm.length cm) (.slice (some ⟨b3, o3, none⟩) Lm.length cn) (.slice aA i cA) (.slice aX i cX) [.app 4 1 (m + 1) ((AC.take (m + 1)).map D.bool) (.slice (some ⟨g18, 0, none⟩) (m + 1) cap18), .app 42 1 m ((RW.take m).map intsD) (.slice a6 m c6), .app 2 1 0 [] (.slice (some ⟨wx.heap.size, 0, none⟩) 0 0)]) := ⟨by simpa using hB7, hbe7⟩
     clear hB7 hbe7 HW6
     go_loopw [8, 9, 15, 16] (fun v0 v1 v7 j wr => ∃ q : Nat, j = .int .i64 q ∧ q ≤ n ∧ MxW (w.heap.size + 1) g t a w0 wr (prC nx ny A n i x m q) i (FA.take i) (FX.take i) v0 v1 (.slice aA i cA) (.slice aX i cX) [.app 4 1 (m + 1) ((AC.take (m + 1)).map D.bool) (.slice (some ⟨g18, 0, none⟩) (m + 1) cap18), .app 42 1 m ((RW.take m).map intsD) (.slice a6 m c6), .app 2 1 q ((RR.take q).map D.int) v7]) (fun _ _ _ j _ => n - (intOf j).toNat)
     case atStart => exact ⟨0, rfl, by omega, by rw [HLm.out]; exact hst.out⟩
     case round =>
      clear hst HLm hmany hilm Hat
      obtain ⟨q, rfl, hqn, hW⟩ := hrel
      obtain ⟨wq, rfl⟩ : ∃ v, v = wr := ⟨_, rfl⟩
      obtain ⟨hall, hmany2⟩ := HP2.out i x m q HX.out
      have hat := prL_at (m := m) (k := q) HX.out
      have hlive := prC_live (m := m) (k := q) HX.out
      obtain ⟨Lc, hLc⟩ : ∃ Lc, prC nx ny A n i x m q = Lc := ⟨_, rfl⟩
      rw [hLc] at hW hall hmany2 hat hlive
      obtain ⟨ap, cp, rfl, q5', q6'⟩ := hW.1.shape 0 rfl
      obtain ⟨ar, cr, rfl, q7', q8'⟩ := hW.1.shape 1 rfl
      obtain ⟨a7, c7, rfl, q9, q10⟩ := hW.1.shape 7 rfl
      unfold maxLen at q6' q8' q10
      have HLc := Lib.hid hLc
      have Hlive := Lib.hid hlive
      have HWq := Lib.hid hW
      have hq0 := Int.natCast_nonneg q
      have hzq := hW.2.size
      have hwq : Below w.heap.size w wq := hB0.trans (hW.2.mono (by omega))
      obtain ⟨g0, g1, g2, g3, -, -⟩ := Hh.out.below hwq
      rw [Hn.out] at g1
      have hilc := (List.getElem?_eq_some_iff.1 hat).1
      have hz5' : w.heap.size + 1 ≤ wq.heap.size := by omega
      by_cases hqlt : q < n
      rotate_left
      ·
       obtain rfl : n = q := by omega
       have HEL : Hid (prC nx ny A n i x (m + 1) 0 = Lc) := by show _ = _; rw [← prC_line, HLc.out]
       have HEX : Hid ((RW.take (m + 1)).map intsD = (RW.take m).map intsD ++ [D.sl 1 n ((RR.take n).map D.int)]) := by
        show _ = _
        rw [HRWs.out, List.map_append, List.take_of_length_le (l := RR) (by rw [HRRl.out]; omega)]
        show _ ++ [nestD D.int RR] = _
        unfold nestD
        rw [HRRl.out]
       have hBu := HWq.out.1.alloc (.cells #[.slice a7 n c7] 42)
       have hNb := Blk.new1 wq 42 (.slice a7 n c7)
       clear hW hLc hwq hat hlive hall
       go_wp2_with (at_builtin; go_must (refine wpList_append_bun_own _ rfl _ _ 76 rfl 42 24 Try.underlying76 info_i64s hBu (by simp; omega) 6 _ rfl rfl 7 (by decide) _ rfl ⟨wq.heap.size, 0, none⟩ rfl (news_blk hNb) (by omega) (by unfold maxLen; omega) ?_); intro g8 cap8 w8 hbun8 hb8)
       have Hfin := Lib.hid (And.intro (hbun8.take 7) ((HWq.out.2.alloc hz5' (.cells #[.slice a7 n c7] 42)).trans hb8))
       clear hbun8 hb8 hBu hNb g0 g1 g2 g3
       go_wp2_with fail
       go_roundw
       case rel =>
        refine ⟨m + 1, by go_num, by omega, ?_⟩
        have h := Hfin.out
        unfold MxW
        rw [HEL.out, HEX.out]
        exact h
       case measure => simp [intOf]; omega
      have hq1 : (q : Int) < (n : Int) := by omega
      have hqa : (q : Int) < a := by rw [Hn.out]; exact hq1
      have HRR := Lib.hid (HRRs.out q hqlt)
      have r1 := rd_part (hW.1.rd 0 rfl)
      have r2 := rd_part (hW.1.rd 1 rfl)
      obtain ⟨b4, o4, rfl⟩ := nest_some (f := D.int) r1 (by simp; omega)
      obtain ⟨b5, o5, rfl⟩ := nest_some (f := D.int) r2 (by simp; omega)
      obtain ⟨-, x0⟩ := int_in r1 (part_at (f := Prod.fst) hat)
      obtain ⟨-, x1⟩ := int_in r2 (part_at (f := Prod.snd) hat)
      have hil4 : (i : Int) < (Lc.length : Int) := by omega
      have Hr1 := Lib.hid r1
      have Hr2 := Lib.hid r2
      have HAt := Lib.hid (Hh.out.below hwq)
      have HAt' := Lib.hid (Hh'.out.below hwq)
      clear hW hwq hLc r1 r2 hat hall hlive Hh Hh' HRRs HRRl HRWs HP2 hB0 Hn
      go_wp2_with fail
      refine (l02Go_i HAt.out Hok.out hxok.2.1 hmat hqa).mono ?_
      rintro e w6 ⟨rfl, rfl⟩
      obtain ⟨X, hXe⟩ : ∃ X, goN nx x.1 m q = X := ⟨_, rfl⟩
      rw [hXe]
      have HXe := Lib.hid hXe
      clear hXe
      go_wp2_with fail
      refine (l02Go_i HAt'.out Hok'.out hxok.2.2.2 hmat hqa).mono ?_
      rintro e w7 ⟨rfl, rfl⟩
      obtain ⟨Y, hYe⟩ : ∃ Y, goN ny x.2 m q = Y := ⟨_, rfl⟩
      rw [hYe]
      have HYe := Lib.hid hYe
      clear hYe x0 x1 g0 g1 g2 g3
      go_wp2_with fail
      go_loop [19, 20] (fun v j => ∃ kk : Nat, kk ≤ Lc.length ∧ j = .int .i64 kk ∧ ((v = .int .i64 (-1) ∧ Hid (seenB Lc (X, Y) kk = false)) ∨ ∃ v0 : Int, v = .int .i64 v0 ∧ 0 ≤ v0 ∧ Hid (∃ j0 : Nat, v0 = (j0 : Int) ∧ Lc[j0]? = some (X, Y)))) (fun _ j => Lc.length - (intOf j).toNat)
      case atStart => exact ⟨0, by omega, rfl, Or.inl ⟨rfl, seen_zero⟩⟩
      case round =>
       obtain ⟨kk, hkk, rfl, hcase⟩ := hrel
       have hkk0 := Int.natCast_nonneg kk
       rcases hcase with ⟨rfl, HS⟩ | ⟨v0, rfl, hv0, HJ0⟩
       rotate_left
       ·
        -- dev(
        obtain ⟨j0, hj0, hJ⟩ := HJ0.out
        have HJ := Lib.hid hJ
        have hvd : decide (v0 < 0) = false := by apply decide_eq_false; omega
        have hjl := (List.getElem?_eq_some_iff.1 HJ.out).1
        have hneg : ¬ (X < 0 ∧ Y < 0) := Hlive.out (X, Y) (List.mem_of_getElem? HJ.out)
        have hnx := nxtP_some HXe.out HYe.out hneg
        have HEL : Hid (prC nx ny A n i x m (q + 1) = Lc) := by show _ = _; rw [prC_was hmlt hqlt hnx (by rw [HLc.out]; exact List.mem_of_getElem? HJ.out), HLc.out]
        have HNU : Hid (numO PF (nxtP nx ny m q x) = v0) := by show _ = _; rw [hj0]; exact HP5.out i m q j0 x (X, Y) HX.out _ hnx (by rw [HLc.out]; exact HJ.out)
        clear hnx hneg hj0 hjl hJ
        by_cases hkl : kk < Lc.length
        all_goals
         have hBu := HWq.out.1.alloc (.cells #[.int .i64 (v0)] 2)
         have hNb := Blk.new1 w7 2 (.int .i64 (v0))
         go_wp2_with (at_builtin; go_must (refine wpList_append_bun _ rfl _ _ 42 rfl 2 (.int .i64 0) 1 8 Try.underlying42 info_int64 rfl (by decide) hBu (by simp <;> omega) 7 _ rfl rfl ⟨w7.heap.size, 0, none⟩ 1 1 [.int .i64 (v0)] rfl (news_blk hNb) rn_none rfl (by simp [Value.oneCell']) (by omega) (by omega) (by unfold maxLen; omega) ?_); intro g8 cap8 w8 hbun8 hb8)
         have Hfin := Lib.hid (And.intro hbun8 ((HWq.out.2.alloc hz5' (.cells #[.int .i64 (v0)] 2)).trans hb8))
         clear hbun8 hb8 hBu hNb
         go_wp2_with fail
         go_roundw
         case rel =>
          refine ⟨q + 1, by go_num, by omega, ?_, Hfin.out.2⟩
          have h := Hfin.out.1
          rw [HEL.out, HRR.out, HNU.out, List.map_append]
          exact h
         case measure => simp [intOf]; omega
        -- dev)
       ·
        by_cases hkl : kk < Lc.length
        ·
         obtain ⟨p, hp⟩ : ∃ p, Lc[kk]? = some p := ⟨_, List.getElem?_eq_getElem hkl⟩
         obtain ⟨-, y0⟩ := int_in Hr1.out (part_at (f := Prod.fst) hp)
         obtain ⟨-, y1⟩ := int_in Hr2.out (part_at (f := Prod.snd) hp)
         have hs2 := seen_succ (z := (X, Y)) hp HS.out
         have hkl2 : (kk : Int) < (Lc.length : Int) := by omega
         obtain ⟨p1, p2⟩ := p
         simp only at y0 y1 hs2
         have Hp := Lib.hid hp
         clear hp
         cases heq1 : (p1 == X)
         ·
          have HS3 : Hid (seenB Lc (X, Y) (kk + 1) = false) := by show _ = _; rw [hs2]; show (p1 == X && p2 == Y) = false; rw [heq1]; rfl
          clear hs2 HS
          go_wp2_with fail
          go_round
          case rel => exact ⟨kk + 1, by omega, by go_num, Or.inl ⟨rfl, HS3⟩⟩
          case measure => simp [intOf]; omega
         ·
          cases heq2 : (p2 == Y)
          ·
           have HS3 : Hid (seenB Lc (X, Y) (kk + 1) = false) := by show _ = _; rw [hs2]; show (p1 == X && p2 == Y) = false; rw [heq2, Bool.and_false]
           clear hs2 HS
           go_wp2_with fail
           go_round
           case rel => exact ⟨kk + 1, by omega, by go_num, Or.inl ⟨rfl, HS3⟩⟩
           case measure => simp [intOf]; omega
          ·
           have HJ : Hid (Lc[kk]? = some (X, Y)) := by
            show _ = _
            rw [Hp.out, eq_of_beq heq1, eq_of_beq heq2]
           clear hs2 HS
           go_wp2_with fail
           go_round
           case rel => exact ⟨kk + 1, by omega, by go_num, Or.inr ⟨(kk : Int), rfl, hkk0, Lib.hid ⟨kk, rfl, HJ.out⟩⟩⟩
           case measure => simp [intOf]; omega
        ·
         -- dev(
         obtain rfl : kk = Lc.length := by omega
         by_cases hneg : X < 0 ∧ Y < 0
         ·
          have hnx := nxtP_none HXe.out HYe.out hneg.1 hneg.2
          have HEL : Hid (prC nx ny A n i x m (q + 1) = Lc) := by show _ = _; rw [prC_none hmlt hqlt hnx, HLc.out]
          have HNU : Hid (numO PF (nxtP nx ny m q x) = -1) := by show _ = _; rw [hnx]; rfl
          have hge1 : decide (0 ≤ X) = false := by apply decide_eq_false; omega
          have hge2 : decide (0 ≤ Y) = false := by apply decide_eq_false; omega
          clear hnx hneg
          have hBu := HWq.out.1.alloc (.cells #[.int .i64 (-1)] 2)
          have hNb := Blk.new1 w7 2 (.int .i64 (-1))
          go_wp2_with (at_builtin; go_must (refine wpList_append_bun _ rfl _ _ 42 rfl 2 (.int .i64 0) 1 8 Try.underlying42 info_int64 rfl (by decide) hBu (by simp <;> omega) 7 _ rfl rfl ⟨w7.heap.size, 0, none⟩ 1 1 [.int .i64 (-1)] rfl (news_blk hNb) rn_none rfl (by simp [Value.oneCell']) (by omega) (by omega) (by unfold maxLen; omega) ?_); intro g8 cap8 w8 hbun8 hb8)
          have Hfin := Lib.hid (And.intro hbun8 ((HWq.out.2.alloc hz5' (.cells #[.int .i64 (-1)] 2)).trans hb8))
          clear hbun8 hb8 hBu hNb
          go_wp2_with fail
          go_roundw
          case rel =>
           refine ⟨q + 1, by go_num, by omega, ?_, Hfin.out.2⟩
           have h := Hfin.out.1
           rw [HEL.out, HRR.out, HNU.out, List.map_append]
           exact h
          case measure => simp [intOf]; omega
         ·
          have hnx := nxtP_some HXe.out HYe.out hneg
          have HEL : Hid (prC nx ny A n i x m (q + 1) = Lc ++ [(X, Y)]) := by show _ = _; rw [prC_new hmlt hqlt hnx (by rw [HLc.out]; exact seen_no HS.out.symm), HLc.out]
          have HNU : Hid (numO PF (nxtP nx ny m q x) = (Lc.length : Int)) := HP5.out i m (q + 1) Lc.length x (X, Y) HX.out _ hnx (by rw [HEL.out]; simp)
          have hsp : (decide (0 ≤ X) = false ∧ decide (0 ≤ Y) = true) ∨ decide (0 ≤ X) = true := by
           by_cases h0 : 0 ≤ X
           ·
            exact Or.inr (decide_eq_true h0)
           ·
            exact Or.inl ⟨decide_eq_false h0, decide_eq_true (by omega)⟩
          clear hneg hnx
          have hBl := HWq.out.1.alloc (.cells #[.int .i64 X] 2)
          have hNl := Blk.new1 w7 2 (.int .i64 X)
          rcases hsp with ⟨hX0, hY0⟩ | hX0
          all_goals
           go_wp2_with (first
            | (at_builtin; (refine wpList_append_bun _ rfl _ _ 42 rfl 2 (.int .i64 0) 1 8 Try.underlying42 info_int64 rfl (by decide) hBl (by simp <;> omega) 0 _ rfl rfl ⟨w7.heap.size, 0, none⟩ 1 1 [.int .i64 X] rfl (news_blk hNl) rn_none rfl (by simp [Value.oneCell']) (by omega) (by omega) (by unfold maxLen; omega) ?_); intro g5 cap5 w8 hbun5 hb5; have hz8 : w7.heap.size + 1 ≤ w8.heap.size := (by have q := hb5.size; simpa using q); have hBu := hbun5.alloc (.cells #[.int .i64 Y] 2); have hNb := Blk.new1 w8 2 (.int .i64 Y); have Hb5 := Lib.hid ((HWq.out.2.alloc hz5' (.cells #[.int .i64 X] 2)).trans hb5); clear hbun5 hb5)
            | (at_builtin; (refine wpList_append_bun _ rfl _ _ 42 rfl 2 (.int .i64 0) 1 8 Try.underlying42 info_int64 rfl (by decide) hBu (by simp <;> omega) 1 _ rfl rfl ⟨w8.heap.size, 0, none⟩ 1 1 [.int .i64 Y] rfl (news_blk hNb) rn_none rfl (by simp [Value.oneCell']) (by omega) (by omega) (by unfold maxLen; omega) ?_); intro g6 cap6 w9 hbun6 hb6; have hz9 : w8.heap.size + 1 ≤ w9.heap.size := (by have q := hb6.size; simpa using q); have hBr := hbun6.alloc (.cells #[.int .i64 (Lc.length : Int)] 2); have hNr := Blk.new1 w9 2 (.int .i64 (Lc.length : Int)); have Hb6 := Lib.hid ((Hb5.out.alloc (by omega) (.cells #[.int .i64 Y] 2)).trans hb6); clear hbun6 hb6)
            | (at_builtin; go_must (refine wpList_append_bun _ rfl _ _ 42 rfl 2 (.int .i64 0) 1 8 Try.underlying42 info_int64 rfl (by decide) hBr (by simp <;> omega) 7 _ rfl rfl ⟨w9.heap.size, 0, none⟩ 1 1 [.int .i64 (Lc.length : Int)] rfl (news_blk hNr) rn_none rfl (by simp [Value.oneCell']) (by omega) (by omega) (by unfold maxLen; omega) ?_); intro g8 cap8 w10 hbun8 hb8))
           have Hfin := Lib.hid (And.intro hbun8 ((Hb6.out.alloc (by omega) (.cells #[.int .i64 (Lc.length : Int)] 2)).trans hb8))
           clear hbun8 hb8 hBu hNb hBl hNl hBr hNr
           go_wp2_with fail
           go_roundw
           case rel =>
            refine ⟨q + 1, by go_num, by omega, ?_, Hfin.out.2⟩
            have h := Hfin.out.1
            rw [HEL.out, HRR.out, HNU.out, List.map_append]
            simp only [List.map_append, List.length_append]
            exact h
           case measure => simp [intOf]; omega
         -- dev)
end Go.Proofs.Ytfhlddbngjlhbaa

namespace Go.Proofs.Ytfhlddbngjlhbaa
set_option linter.unusedVariables false
set_option linter.unusedSimpArgs false
open Go.ChangeShapes Go.WideShapes Go.ChangeAt Go.RowKit Go.Deep Go.ChangeMaps Go.MapKept Go.WideMaps
open Go.Maps (Keyed)
def kfP (p : Int × Int) : Value := .agg #[.int .i64 p.1, .int .i64 p.2]
theorem kfP_inj (x y : Int × Int) (h : kfP x = kfP y) : x = y := by
 simp only [kfP, Value.agg.injEq] at h
 simp at h
 exact Prod.ext h.1 h.2
theorem small_wf {x : Int} (h1 : -1 ≤ x) (h2 : x ≤ 1000) : (Lit.int .i64 x).wf = true := by
 have hm : IntKind.i64.min = -9223372036854775808 := rfl
 simp [Lit.wf, hm]
 omega
theorem prog_types : ∃ m, Try.prog.types.size = m + 1 := ⟨Try.prog.types.size - 1, by have h : 0 < Try.prog.types.size := of_decide_eq_true (by kernel_rfl); omega⟩
end Go.Proofs.Ytfhlddbngjlhbaa

namespace Go.Proofs.Ytfhlddbngjlhbaa
set_option linter.unusedVariables false
set_option linter.unusedSimpArgs false
open Go.ChangeShapes Go.WideShapes Go.ChangeAt Go.RowKit Go.Deep Go.ChangeMaps Go.MapKept Go.WideMaps
open Go.Maps (Keyed)
theorem mixed_b {k : Int} {x y v : Bool} {w : World} (hv : mixB k x y = v) : Calls Try.prog 58 #[.bool x, .bool y, .int .i64 k] w fun f w' => f = .returned (.bool v) ∧ Below w.heap.size w w' := by
 rw [← hv]
 clear hv
 by_cases h1 : k = 1
 ·
  subst h1
  cases x <;> cases y
  all_goals
   go_enter Try.func58, Try.ntmps58
   go_wp2_with fail
   go_ret
   exact ⟨rfl, Below.refl _ _⟩
 by_cases h2 : k = 2
 ·
  subst h2
  cases x <;> cases y
  all_goals
   go_enter Try.func58, Try.ntmps58
   go_wp2_with fail
   go_ret
   exact ⟨rfl, Below.refl _ _⟩
 have e : mixB k x y = (x && !y) := by unfold mixB; rw [if_neg h1, if_neg h2]
 rw [e]
 clear e
 cases x <;> cases y
 all_goals
  go_enter Try.func58, Try.ntmps58
  go_wp2_with fail
  go_ret
  exact ⟨rfl, Below.refl _ _⟩
theorem arrM : ArrKey Try.prog 91 2 2 := ⟨Try.underlying91, by kernel_rfl, by kernel_rfl, by kernel_rfl⟩
theorem keyM {p : Int × Int} (h1 : -1 ≤ p.1 ∧ p.1 ≤ 1000) (h2 : -1 ≤ p.2 ∧ p.2 ≤ 1000) : ∃ l, keyOf Try.prog 91 (kfP p) = some l :=
 ⟨_, keyOf_pair arrM Try.underlying2 prog_types (small_wf h1.1 h1.2) (small_wf h2.1 h2.2)⟩
theorem lawM : Keyed Try.prog 91 := Keyed.of_law arrM.law
theorem zeroNm (w : World) : (zeroValue 2).run Try.prog w = .ok (.int .i64 0) w := by kernel_rfl
theorem info_pq : (Try.prog.info? 91).map (fun i => (i.zero, i.size, i.bytes)) = some (some (.agg #[.int .i64 0, .int .i64 0]), 2, 16) := by kernel_rfl
def pqD (L : List (Int × Int)) : List D := L.flatMap fun p => [.int p.1, .int p.2]
theorem pqD_snoc (L : List (Int × Int)) (p : Int × Int) : pqD (L ++ [p]) = pqD L ++ [.int p.1, .int p.2] := by simp [pqD]
theorem pqD_at : ∀ (L : List (Int × Int)) (i : Nat) (p : Int × Int), L[i]? = some p → (pqD L)[i * 2]? = some (.int p.1) ∧ (pqD L)[i * 2 + 1]? = some (.int p.2)
 | [], i, p, h => by simp at h
 | x :: L, 0, p, h => by
  simp at h
  subst h
  simp [pqD]
 | x :: L, i + 1, p, h => by
  have := pqD_at L i p (by simpa using h)
  rw [show (i + 1) * 2 = i * 2 + 1 + 1 by omega]
  simpa [pqD] using this
theorem pq_in {w : World} {L : List (Int × Int)} {b o n cap : Nat} (h : Rd w (.sl 2 L.length (pqD L)) (.slice (some ⟨b, o, none⟩) n cap)) {i : Nat} {p : Int × Int} (hp : L[i]? = some p) :
  b < w.heap.size ∧ w.cell? ⟨b, o + i * 2, none⟩ = some (.int .i64 p.1) ∧ w.cell? ⟨b, o + i * 2 + 1, none⟩ = some (.int .i64 p.2) := by
 obtain ⟨_, _, _, _, _, h4⟩ := h.sl_at
 have hi := (List.getElem?_eq_some_iff.1 hp).1
 rcases h4 with h4 | ⟨b', o', e1, h4⟩
 ·
  omega
 ·
  simp only [Option.some.injEq, Addr.mk.injEq, and_true] at e1
  obtain ⟨rfl, rfl⟩ := e1
  obtain ⟨q0, q1⟩ := pqD_at L i p hp
  obtain ⟨x, h5, h6⟩ := h4 _ _ q0
  obtain ⟨y, h7, h8⟩ := h4 _ _ q1
  simp only [Rd] at h6 h8
  subst h6 h8
  exact ⟨World.block_lt_of_cell? w _ h5, h5, by rw [← h7]; congr 2⟩
theorem none_own2 {w : World} (p : Int × Int) : OwS (fun _ => False) w [.int p.1, .int p.2] [.int .i64 p.1, .int .i64 p.2] :=
 ⟨[], Ows.cons (F := []) (by simp [Ow]) (Ows.cons (F := []) (by simp [Ow]) Ows.nil), by simp, by simp⟩
theorem bun_pq {B : Nat} {w : World} {items : List Item} (h : Bun B w items) (hB : B ≤ w.heap.size) {t : Nat} (p : Int × Int) : Bun B (w.alloc (.cells #[.int .i64 p.1, .int .i64 p.2] t)) (items ++ [.app t 2 1 (pqD [p]) (.slice (some ⟨w.heap.size, 0, none⟩) 1 1)]) := by
 refine h.push (Below.alloc (Below.refl _ _) (Nat.le_refl _) _) ?_
 refine AppS.more (AppS.made (t := t) (size := 2) (m := 1) (S := fun _ => False) (none_own2 (w := w) p) (fun b h => h.elim) rfl (by unfold maxLen; omega)) fun b _ hc => ?_
 have hz : (w.alloc (.cells #[.int .i64 p.1, .int .i64 p.2] t)).heap.size = w.heap.size + 1 := by simp
 rcases hc with hc | hc
 ·
  exact hc.elim
 ·
  omega
theorem numO_new {α : Type} [DecidableEq α] {L : List α} {z : α} (h : z ∉ L) : numO (L ++ [z]) (some z) = (L.length : Int) := by simp only [numO]; rw [idxOf_new h]
theorem numO_pre {α : Type} [DecidableEq α] {L : List α} {y z : α} (h : y ∈ L) : numO (L ++ [z]) (some y) = numO L (some y) := by simp only [numO]; rw [idxOf_prefix (List.prefix_append L [z]) h]
def numF (L : List (Int × Int)) (q : Int × Int) : Option Int := if q = (-1, -1) then some (-1) else if q ∈ L then some (numO L (some q)) else none
def NumP (g : Nat) (L : List (Int × Int)) (w : World) : Prop := ∃ M, MapAt Try.prog 91 kfP (Value.int .i64) w g M ∧ ∀ q, findM M q = numF L q
theorem NumP.hold {g : Nat} {L : List (Int × Int)} {w : World} (h : NumP g L w) : ∀ w1 : World, w1.heap[g]? = w.heap[g]? → NumP g L w1 := fun w1 h1 => by
 obtain ⟨M, hm, hf⟩ := h
 exact ⟨M, hm.keep h1, hf⟩
theorem num_put {L : List (Int × Int)} {M : List ((Int × Int) × Int)} {z : Int × Int} (hf : ∀ q, findM M q = numF L q) (hz : z ∉ L) (hn : z ≠ (-1, -1)) : ∀ q, findM (putM M z (L.length : Int)) q = numF (L ++ [z]) q := by
 intro q
 rw [findM_putM, hf]
 unfold numF
 by_cases h : z = q
 ·
  subst h
  rw [if_pos rfl, if_neg hn, if_pos (by simp), numO_new hz]
 ·
  rw [if_neg h]
  have h' : ¬ q = z := fun e => h e.symm
  by_cases h1 : q = (-1, -1)
  ·
   rw [if_pos h1, if_pos h1]
  ·
   rw [if_neg h1, if_neg h1]
   by_cases h2 : q ∈ L
   ·
    rw [if_pos h2, if_pos (List.mem_append_left _ h2), numO_pre h2]
   ·
    rw [if_neg h2, if_neg (by simp [h2, h'])]
theorem num_start : ∀ q : Int × Int, findM (putM (putM ([] : List ((Int × Int) × Int)) (0, 0) 0) (-1, -1) (-1)) q = numF [((0 : Int), (0 : Int))] q := by
 intro q
 rw [findM_putM, findM_putM]
 unfold numF
 by_cases h1 : q = (-1, -1)
 ·
  subst h1; simp
 ·
  have h1' : ¬ (-1, -1) = q := fun e => h1 e.symm
  rw [if_neg h1', if_neg h1]
  by_cases h2 : q = (0, 0)
  ·
   subst h2; simp [numO]
  ·
   have h2' : ¬ (0, 0) = q := fun e => h2 e.symm
   rw [if_neg h2', if_neg (by simp [h2])]
   rfl
theorem num_start' : ∀ q : Int × Int, findM (putM (putM ([] : List ((Int × Int) × Int)) (-1, -1) (-1)) (0, 0) 0) q = numF [((0 : Int), (0 : Int))] q := by
 intro q
 rw [findM_putM, findM_putM]
 unfold numF
 by_cases h2 : q = (0, 0)
 ·
  subst h2; simp [numO]
 ·
  have h2' : ¬ (0, 0) = q := fun e => h2 e.symm
  rw [if_neg h2']
  by_cases h1 : q = (-1, -1)
  ·
   subst h1; simp
  ·
   have h1' : ¬ (-1, -1) = q := fun e => h1 e.symm
   rw [if_neg h1', if_neg h1, if_neg (by simp [h2])]
   rfl
theorem Ows.cut {w : World} : ∀ {cs es : List D} {xs : List Value} {F : List Nat}, Ows w (cs ++ es) xs F → ∃ a b G K, xs = a ++ b ∧ F = G ++ K ∧ Ows w cs a G ∧ Ows w es b K
 | [], es, xs, F, h => ⟨[], xs, [], F, rfl, rfl, Ows.nil, h⟩
 | c :: cs, es, xs, F, h => by
  have h' : Ows w (c :: (cs ++ es)) xs F := h
  simp only [Ows] at h'
  obtain ⟨x, r, G, K, rfl, rfl, h1, h2⟩ := h'
  obtain ⟨a, b, G', K', rfl, rfl, h3, h4⟩ := Ows.cut h2
  exact ⟨x :: a, b, G ++ G', K', rfl, by simp, Ows.cons h1 h3, h4⟩
theorem AppS.own_last {S T : Nat → Prop} {w : World} {t n : Nat} {ds : List D} {u v : Value} {t' size' n' : Nat} {ds' : List D} (h : AppS S w t 1 n (ds ++ [.raw u]) v) (h' : AppS T w t' size' n' ds' u) (hST : ∀ b, S b → T b → False) :
  AppS (fun b => S b ∨ T b) w t 1 n (ds ++ [.sl size' n' ds']) v := by
 obtain ⟨xs, F, h1, h2, h3, h4, h5⟩ := h
 obtain ⟨G, g1, g2, g3⟩ := h'.foot
 obtain ⟨a, b, A, K, rfl, rfl, k1, k2⟩ := Ows.cut h2
 simp only [Ows, Ow] at k2
 obtain ⟨x, r, G', K', rfl, rfl, ⟨⟨rfl, -⟩, rfl⟩, rfl, rfl⟩ := k2
 refine ⟨a ++ [x], A ++ (G ++ []), h1, Ows.append k1 (Ows.cons g1 Ows.nil), ?_, ?_, fun b hb => Or.inl (h5 b hb)⟩
 ·
  simp only [List.append_nil] at h3 ⊢
  rw [List.nodup_append]
  refine ⟨h3, g2, fun p hp q hq hpq => ?_⟩
  subst hpq
  exact hST p (h4 p (by simp [hp])).1 (g3 p hq)
 ·
  intro b hb
  rw [List.append_nil] at hb
  rcases List.mem_append.1 hb with hb | hb
  ·
   have := h4 b (by simp [hb])
   exact ⟨Or.inl this.1, this.2⟩
  ·
   exact ⟨Or.inr (g3 b hb), fun e => hST b (h5 b e) (g3 b hb)⟩
theorem bun_make {B : Nat} {w : World} {items : List Item} (S : Nat → Nat → Prop) (h : ∀ (i : Nat) (it : Item), items[i]? = some it → it.on (fun b => B ≤ b ∧ b < w.heap.size ∧ S i b) w) (hd : ∀ i j b, S i b → S j b → i = j) : Bun B w items := by
 classical
 refine ⟨fun b => if q : ∃ i, S i b then Classical.choose q else 0, fun i it hi => Item.more (h i it hi) fun b _ hb => ⟨hb.1, hb.2.1, ?_⟩⟩
 have q : ∃ i, S i b := ⟨i, hb.2.2⟩
 dsimp only
 rw [dif_pos q]
 exact hd _ _ b (Classical.choose_spec q) hb.2.2
theorem raw_own1 (w : World) {u : Value} (h : u.oneCell' = true) : OwS (fun _ => False) w [.raw u] [u] := ⟨[], Ows.cons (Ow.raw h) Ows.nil, by simp, by simp⟩
theorem bun_last {B : Nat} {w w' : World} {own : Nat → Nat} {i0 i1 : Item} {gA T : Nat} {cur cur' : List Value} {t3 n3 k3 t4 n4 k4 : Nat} {d3 d4 e3 e4 : List D} {v3 v4 y3 y4 u5 u6 : Value} {t5 z5 n5 t6 z6 n6 : Nat} {d5 d6 : List D} {F3 F4 : Nat → Prop}
  (h : ∀ (i : Nat) (it : Item), ([i0, i1, .box gA T cur, .app t3 1 k3 e3 y3, .app t4 1 k4 e4 y4, .app t5 z5 n5 d5 u5, .app t6 z6 n6 d6 u6] : List Item)[i]? = some it → it.on (fun b => B ≤ b ∧ b < w.heap.size ∧ own b = i) w) (hB : B ≤ w.heap.size) (hz : w.heap.size ≤ w'.heap.size)
  (hk : ∀ b, b < w.heap.size → own b ≠ 3 → own b ≠ 4 → own b ≠ 2 → w'.heap[b]? = w.heap[b]?)
  (f3 : AppS F3 w' t3 1 n3 (d3 ++ [.raw u5]) v3) (f4 : AppS F4 w' t4 1 n4 (d4 ++ [.raw u6]) v4) (s3 : ∀ b, F3 b → (B ≤ b ∧ b < w.heap.size ∧ own b = 3) ∨ w.heap.size ≤ b) (s4 : ∀ b, F4 b → (B ≤ b ∧ b < w.heap.size ∧ own b = 4) ∨ w.heap.size ≤ b)
  (hd : ∀ b, F3 b → F4 b → False) (hb : Blk w' gA T cur') : Bun B w' [i0, i1, .box gA T cur', .app t3 1 n3 (d3 ++ [.sl z5 n5 d5]) v3, .app t4 1 n4 (d4 ++ [.sl z6 n6 d6]) v4] := by
 have h2 := h 2 _ rfl
 have a5 := AppS.keep (h 5 _ rfl) (w' := w') fun b hb hs => hk b hb (by omega) (by omega) (by omega)
 have a6 := AppS.keep (h 6 _ rfl) (w' := w') fun b hb hs => hk b hb (by omega) (by omega) (by omega)
 have b3 := f3.own_last a5 fun b p q => by have := s3 b p; omega
 have b4 := f4.own_last a6 fun b p q => by have := s4 b p; omega
 refine bun_make (fun k b => (w.heap.size ≤ b ∧ ((k = 3 ∧ F3 b) ∨ (k = 4 ∧ F4 b))) ∨ (b < w.heap.size ∧ ((own b = 5 ∧ k = 3) ∨ (own b = 6 ∧ k = 4) ∨ (own b = k ∧ k ≤ 4)))) (fun k it hi => ?_) (fun i j b p q => ?_)
 ·
  match k, hi with
  | 0, hi =>
   obtain rfl := Option.some.inj hi
   exact Item.more (Item.keep hz (h 0 _ rfl) fun b hb hs => hk b hb (by omega) (by omega) (by omega)) fun b _ hs => ⟨hs.1, by omega, Or.inr ⟨hs.2.1, Or.inr (Or.inr ⟨hs.2.2, by omega⟩)⟩⟩
  | 1, hi =>
   obtain rfl := Option.some.inj hi
   exact Item.more (Item.keep hz (h 1 _ rfl) fun b hb hs => hk b hb (by omega) (by omega) (by omega)) fun b _ hs => ⟨hs.1, by omega, Or.inr ⟨hs.2.1, Or.inr (Or.inr ⟨hs.2.2, by omega⟩)⟩⟩
  | 2, hi =>
   obtain rfl := Option.some.inj hi
   exact ⟨⟨h2.1.1, by have := h2.1.2.1; omega, Or.inr ⟨h2.1.2.1, Or.inr (Or.inr ⟨h2.1.2.2, by omega⟩)⟩⟩, hb⟩
  | 3, hi =>
   obtain rfl := Option.some.inj hi
   refine AppS.more b3 fun b hlt hs => ?_
   rcases hs with hs | hs
   ·
    rcases s3 b hs with q | q
    ·
     exact ⟨q.1, hlt, Or.inr ⟨q.2.1, Or.inr (Or.inr ⟨q.2.2, by omega⟩)⟩⟩
    ·
     exact ⟨by omega, hlt, Or.inl ⟨q, Or.inl ⟨rfl, hs⟩⟩⟩
   ·
    exact ⟨hs.1, hlt, Or.inr ⟨hs.2.1, Or.inl ⟨hs.2.2, rfl⟩⟩⟩
  | 4, hi =>
   obtain rfl := Option.some.inj hi
   refine AppS.more b4 fun b hlt hs => ?_
   rcases hs with hs | hs
   ·
    rcases s4 b hs with q | q
    ·
     exact ⟨q.1, hlt, Or.inr ⟨q.2.1, Or.inr (Or.inr ⟨q.2.2, by omega⟩)⟩⟩
    ·
     exact ⟨by omega, hlt, Or.inl ⟨q, Or.inr ⟨rfl, hs⟩⟩⟩
   ·
    exact ⟨hs.1, hlt, Or.inr ⟨hs.2.1, Or.inr (Or.inl ⟨hs.2.2, rfl⟩)⟩⟩
  | k + 5, hi => simp at hi
 ·
  rcases p with ⟨p1, p⟩ | ⟨p1, p⟩ <;> rcases q with ⟨q1, q⟩ | ⟨q1, q⟩
  ·
   rcases p with ⟨p2, p3⟩ | ⟨p2, p3⟩ <;> rcases q with ⟨q2, q3⟩ | ⟨q2, q3⟩
   ·
    omega
   ·
    exact (hd b p3 q3).elim
   ·
    exact (hd b q3 p3).elim
   ·
    omega
  ·
   omega
  ·
   omega
  ·
   omega
def MiW (B g gA : Nat) (t a : Int) (w0 wr : World) (L : List (Int × Int)) (k : Nat) (MA : List (List Bool)) (MX : List (List (List Int))) (v0 vA vX : Value) (more : List Item) : Prop :=
 Bun B wr ([.app 91 2 L.length (pqD L) v0, .one g (NumP g L), .box gA 31 [.int .i64 t, .int .i64 a, vA, vX], .app 77 1 k (MA.map boolsD) vA, .app 76 1 k (MX.map iiD) vX] ++ more) ∧ Below B w0 wr
theorem MiW.below {B g gA : Nat} {t a : Int} {w0 wr w2 : World} {L : List (Int × Int)} {k : Nat} {MA : List (List Bool)} {MX : List (List (List Int))} {v0 vA vX : Value} {more : List Item} (h : MiW B g gA t a w0 wr L k MA MX v0 vA vX more) (hB : B ≤ wr.heap.size) (hb : Below wr.heap.size wr w2) : MiW B g gA t a w0 w2 L k MA MX v0 vA vX more :=
 ⟨h.1.below hb, h.2.trans (hb.mono hB)⟩
end Go.Proofs.Ytfhlddbngjlhbaa
