/-
  Parts of a proof, joined: MixI. No condition.
-/
import Derived.Test.YtfhlddbngjlhbaaPk21
namespace Go.Proofs.Ytfhlddbngjlhbaa
set_option linter.unusedVariables false
set_option linter.unusedSimpArgs false
open Go.ChangeShapes Go.WideShapes Go.ChangeAt Go.RowKit Go.Deep Go.ChangeMaps Go.MapKept Go.WideMaps
open Go.Maps (Keyed)
set_option maxRecDepth 100000 in
set_option maxHeartbeats 16000000 in
theorem mixAutomata_i {t a mix : Int} {ac bc : List (List Bool)} {nx ny : List (List (List Int))} {s u s' u' : Option Addr} {c d c' d' : Nat} {w : World} (hr : Rds w (autD ac nx) [.slice s ac.length c, .slice u nx.length d]) (hr' : Rds w (autD bc ny) [.slice s' bc.length c', .slice u' ny.length d']) (hok : AutOk t a ac nx) (hok' : AutOk t a bc ny) :
  Calls Try.prog 30 #[.agg #[.int .i64 t, .int .i64 a, .slice s ac.length c, .slice u nx.length d], .agg #[.int .i64 t, .int .i64 a, .slice s' bc.length c', .slice u' ny.length d'], .int .i64 mix] w fun e w' => ∃ s1 c1 s2 c2, e = .returned (.tuple #[.agg #[.int .i64 (mxT nx ny (atomsN t).toNat a.toNat t), .int .i64 (mxT nx ny (atomsN t).toNat a.toNat a), .slice s1 (mxA mix ac bc nx ny (atomsN t).toNat a.toNat).length c1, .slice s2 (mxX nx ny (atomsN t).toNat a.toNat).length c2], .int .i64 (mxC nx ny (atomsN t).toNat a.toNat)]) ∧
   Freshs w w' (autD (mxA mix ac bc nx ny (atomsN t).toNat a.toNat) (mxX nx ny (atomsN t).toNat a.toNat)) [.slice s1 (mxA mix ac bc nx ny (atomsN t).toNat a.toNat).length c1, .slice s2 (mxX nx ny (atomsN t).toNat a.toNat).length c2] ∧ Below w.heap.size w w' := by
 obtain ⟨ht0, ht3, ha0, ha4⟩ := sigB_bd hok.sig
 obtain ⟨hat1, hat8⟩ := atomsN_bd t
 have hM : mxOk nx ny (atomsN t).toNat a.toNat ↔ (prF nx ny (atomsN t).toNat a.toNat).length ≤ 60 := Iff.rfl
 have hY : mxOk nx ny (atomsN t).toNat a.toNat → mxT nx ny (atomsN t).toNat a.toNat t = t ∧ mxT nx ny (atomsN t).toNat a.toNat a = a ∧ mxA mix ac bc nx ny (atomsN t).toNat a.toNat = (prF nx ny (atomsN t).toNat a.toNat).map (accM mix ac bc (atomsN t).toNat) ∧ mxX nx ny (atomsN t).toNat a.toNat = (prF nx ny (atomsN t).toNat a.toNat).map (rowsM nx ny (prF nx ny (atomsN t).toNat a.toNat) (atomsN t).toNat a.toNat) ∧ mxC nx ny (atomsN t).toNat a.toNat = 0 := fun hg =>
  have q := mx_yes (k := mix) (ac := ac) (bc := bc) hg
  ⟨q.1 t, q.1 a, q.2⟩
 have hN : ¬ mxOk nx ny (atomsN t).toNat a.toNat → mxT nx ny (atomsN t).toNat a.toNat t = 0 ∧ mxT nx ny (atomsN t).toNat a.toNat a = 0 ∧ mxA mix ac bc nx ny (atomsN t).toNat a.toNat = [] ∧ mxX nx ny (atomsN t).toNat a.toNat = [] ∧ mxC nx ny (atomsN t).toNat a.toNat = 3 := fun hg =>
  have q := mx_no (k := mix) (ac := ac) (bc := bc) hg
  ⟨q.1 t, q.1 a, q.2⟩
 have hF : ∀ ri, (prL nx ny (atomsN t).toNat a.toNat ri).length ≤ ri → prF nx ny (atomsN t).toNat a.toNat = prL nx ny (atomsN t).toNat a.toNat ri := fun ri hi => by unfold prF; rw [← prL_all hok hok' hi]
 have hP2 := fun (ri : Nat) (x : Int × Int) (m k : Nat) (hx : (prL nx ny (atomsN t).toNat a.toNat ri)[ri]? = some x) => prC_ok (m := m) (k := k) hok hok' hx
 have hP4 := fun (ri : Nat) (x : Int × Int) (hx : (prL nx ny (atomsN t).toNat a.toNat ri)[ri]? = some x) => mx_at hok hok' hx
 have hP5 := fun (ri m k j : Nat) (x z : Int × Int) (hx : (prL nx ny (atomsN t).toNat a.toNat ri)[ri]? = some x) (o : Option (Int × Int)) (ho : o = some z) (hj : (prC nx ny (atomsN t).toNat a.toNat ri x m k)[j]? = some z) => mx_num hok hok' hx ho hj
 have hP6 := fun (hg : mxOk nx ny (atomsN t).toNat a.toNat) (ri : Nat) (x : Int × Int) (m k : Nat) (hx : (prL nx ny (atomsN t).toNat a.toNat ri)[ri]? = some x) => (mx_ok_le hok hok' hg).2 ri x m k hx
 obtain ⟨ub1, uo1, rfl⟩ := nest_some (f := boolsD) hr.two.1 (by have := hok.lo; omega)
 obtain ⟨ub2, uo2, rfl⟩ := nest_some (f := boolsD) hr'.two.1 (by have := hok'.lo; omega)
 obtain ⟨hcx1, hcy1⟩ := nest_bd hr.two.1
 obtain ⟨hcx2, hcy2⟩ := nest_bd hr'.two.1
 unfold maxLen at hcy1 hcy2
 obtain ⟨n, hn⟩ : ∃ n : Nat, a = (n : Int) := ⟨a.toNat, by omega⟩
 obtain ⟨A, hA⟩ : ∃ A : Nat, atomsN t = (A : Int) := ⟨(atomsN t).toNat, by omega⟩
 rw [show (atomsN t).toNat = A by omega, show a.toNat = n by omega] at *
 generalize mxT nx ny A n t = T1 at *
 generalize mxT nx ny A n a = T2 at *
 generalize mxA mix ac bc nx ny A n = RA at *
 generalize mxX nx ny A n = RX at *
 generalize mxC nx ny A n = RC at *
 generalize mxOk nx ny A n = OK at *
 generalize prF nx ny A n = PF at *
 have hFA := fun (k : Nat) (x : Int × Int) (h : PF[k]? = some x) => map_take_succ (f := accM mix ac bc A) h
 have hFX := fun (k : Nat) (x : Int × Int) (h : PF[k]? = some x) => map_take_succ (f := rowsM nx ny PF A n) h
 obtain ⟨FA, hFAe⟩ : ∃ FA, PF.map (accM mix ac bc A) = FA := ⟨_, rfl⟩
 obtain ⟨FX, hFXe⟩ : ∃ FX, PF.map (rowsM nx ny PF A n) = FX := ⟨_, rfl⟩
 rw [hFAe, hFXe] at hY
 rw [hFAe] at hFA
 rw [hFXe] at hFX
 have hlA : FA.length = PF.length := by rw [← hFAe, List.length_map]
 have hlX : FX.length = PF.length := by rw [← hFXe, List.length_map]
 have HA := Lib.hid hA
 have Hn := Lib.hid hn
 have HM := Lib.hid hM
 have HY := Lib.hid hY
 have HN := Lib.hid hN
 have HF := Lib.hid hF
 have HP2 := Lib.hid hP2
 have HP4 := Lib.hid hP4
 have HP5 := Lib.hid hP5
 have HP6 := Lib.hid hP6
 have HFA := Lib.hid hFA
 have HFX := Lib.hid hFX
 have HLA := Lib.hid hlA
 have HLX := Lib.hid hlX
 have Hok := Lib.hid hok
 have Hok' := Lib.hid hok'
 have Hr := Lib.hid hr
 have Hr' := Lib.hid hr'
 have hA8 : A ≤ 8 := by omega
 have hn4 : n ≤ 4 := by omega
 have hhi1 := hok.hi
 have hhi2 := hok'.hi
 have hn1 : a ≤ (n : Int) := by omega
 have hn2 : (n : Int) ≤ a := by omega
 clear hM hY hN hF hP2 hP4 hP5 hP6 hFA hFX hlA hlX hFAe hFXe hok hok' hr hr' hA hat1 hat8 hn
 have hmm := @run_makeMap Try.prog
 go_enter Try.func30, Try.ntmps30
 go_upto_region 2 with fail
 obtain ⟨w1, e1, X, hb1, hz1⟩ := box4 w 31 (.int .i64 t) (.int .i64 a) (.slice (some ⟨ub1, uo1, none⟩) ac.length c) (.slice u nx.length d)
 rw [e1]
 obtain ⟨w2, e2, Y, hb2, hz2⟩ := box4 w1 31 (.int .i64 t) (.int .i64 a) (.slice (some ⟨ub2, uo2, none⟩) bc.length c') (.slice u' ny.length d')
 rw [e2]
 obtain ⟨w3, e3, R, hb3, hz3⟩ := box4 w2 31 (.int .i64 0) (.int .i64 0) (.slice none 0 0) (.slice none 0 0)
 rw [e3]
 rw [hz1] at Y
 rw [hz2, hz1] at R
 have hB3 : Below w.heap.size w w3 := (hb1.trans (hb2.mono (by omega))).trans (hb3.mono (by omega))
 replace X := (X.below hb2).below hb3
 replace Y := Y.below hb3
 have hBun := bun_pq (Bun.nil (B := w3.heap.size) (w := w3)) (Nat.le_refl _) (t := 91) (0, 0)
 obtain ⟨w4, e4⟩ : ∃ w4, w3.alloc (.cells #[.int .i64 0, .int .i64 0] 91) = w4 := ⟨_, rfl⟩
 have hb4 : Below w3.heap.size w3 w4 := by rw [← e4]; exact Below.alloc (Below.refl _ _) (Nat.le_refl _) _
 have hz4 : w4.heap.size = w3.heap.size + 1 := by rw [← e4]; simp
 have ha3 : w3.heap.size = w.heap.size + 1 + 1 + 1 := by omega
 have hBun2 : Bun w3.heap.size w4 [.app 91 2 1 (pqD [(0, 0)]) (.slice (some ⟨w.heap.size + 1 + 1 + 1, 0, none⟩) 1 1)] := by rw [← e4, ← ha3]; exact hBun
 rw [e4]
 clear e1 e2 e3 e4 hb1 hb2 hb3 hBun ha3
 have hM0 : MapAt Try.prog 91 kfP (Value.int .i64) (w4.alloc (.map #[] 0)) w4.heap.size ([] : List ((Int × Int) × Int)) := MapAt.made w4
 have hM : MapAt Try.prog 91 kfP (Value.int .i64) (w4.alloc (.map #[] 0)).drew (w.heap.size + 1 + 1 + 1 + 1) ([] : List ((Int × Int) × Int)) := by
  rw [show w.heap.size + 1 + 1 + 1 + 1 = w4.heap.size by omega]
  exact hM0.keep rfl
 have k0 : ∃ l, keyOf Try.prog 91 (kfP (0, 0)) = some l := keyM (by simp) (by simp)
 have k1 : ∃ l, keyOf Try.prog 91 (kfP (-1, -1)) = some l := keyM (by simp) (by simp)
 obtain ⟨wA, rA, mA, oA⟩ := hM.update lawM kfP_inj Try.underlying93 k0 (0 : Int)
 obtain ⟨wB, rB, mB, oB⟩ := mA.update lawM kfP_inj Try.underlying93 k1 (-1 : Int)
 obtain ⟨wC, rC, mC, oC⟩ := hM.update lawM kfP_inj Try.underlying93 k1 (-1 : Int)
 obtain ⟨wD, rD, mD, oD⟩ := mC.update lawM kfP_inj Try.underlying93 k0 (0 : Int)
 simp only [kfP] at rA rB rC rD
 have MB := Lib.hid mB
 have OB := Lib.hid (oA.trans oB)
 have MD := Lib.hid mD
 have OD := Lib.hid (oC.trans oD)
 have hBun3 := hBun2.push_one (P := fun _ => True) (by omega) (Below.alloc (Below.refl _ _) (Nat.le_refl _) (.map #[] 0)) (by simp) (fun _ _ => trivial)
 rw [show w4.heap.size = w.heap.size + 1 + 1 + 1 + 1 by omega] at hBun3
 have hBun4 := Bun.keep (w' := (w4.alloc (.map #[] 0)).drew) hBun3 (Nat.le_refl _) (fun _ _ _ => rfl)
 have hbe4 : Below w3.heap.size w3 (w4.alloc (.map #[] 0)).drew := (hb4.alloc hb4.size _).drew
 have hgl : w3.heap.size ≤ w.heap.size + 1 + 1 + 1 + 1 := by omega
 have hgl2 : w3.heap.size ≤ (w4.alloc (.map #[] 0)).drew.heap.size := hbe4.size
 have HB : Hid (Bun w3.heap.size wB [.app 91 2 1 (pqD [(0, 0)]) (.slice (some ⟨w.heap.size + 1 + 1 + 1, 0, none⟩) 1 1), .one (w.heap.size + 1 + 1 + 1 + 1) (NumP (w.heap.size + 1 + 1 + 1 + 1) [((0 : Int), (0 : Int))])] ∧ Below w3.heap.size w3 wB) :=
  ⟨hBun4.turn_one 1 rfl OB.out (NumP.hold ⟨_, MB.out, num_start⟩), hbe4.trans (OB.out.below hgl2 (fun b hb => by simp at hb; omega))⟩
 have HD : Hid (Bun w3.heap.size wD [.app 91 2 1 (pqD [(0, 0)]) (.slice (some ⟨w.heap.size + 1 + 1 + 1, 0, none⟩) 1 1), .one (w.heap.size + 1 + 1 + 1 + 1) (NumP (w.heap.size + 1 + 1 + 1 + 1) [((0 : Int), (0 : Int))])] ∧ Below w3.heap.size w3 wD) :=
  ⟨hBun4.turn_one 1 rfl OD.out (NumP.hold ⟨_, MD.out, num_start'⟩), hbe4.trans (OD.out.below hgl2 (fun b hb => by simp at hb; omega))⟩
 clear hM hM0 mA mB mC mD oA oB oC oD k0 k1 MB MD OB OD hBun2 hBun3 hBun4 hbe4 hgl2
 have HXb := Lib.hid X
 have HYb := Lib.hid Y
 have HR := Lib.hid R
 clear X Y R
 go_cut [9] from 24 to 27 (fun v9 wx => v9 = .map (some (w.heap.size + 1 + 1 + 1 + 1)) ∧ Bun w3.heap.size wx [.app 91 2 1 (pqD [(0, 0)]) (.slice (some ⟨w.heap.size + 1 + 1 + 1, 0, none⟩) 1 1), .one (w.heap.size + 1 + 1 + 1 + 1) (NumP (w.heap.size + 1 + 1 + 1 + 1) [((0 : Int), (0 : Int))])] ∧ Below w3.heap.size w3 wx)
 case first =>
  go_wp2_with fail
  go_region
  all_goals
   go_wp2_with fail
   go_meet
   case rel => first | exact ⟨rfl, HB.out⟩ | exact ⟨rfl, HD.out⟩
 case rest =>
  obtain ⟨rfl, hBw, hBe⟩ := hcut
  obtain ⟨wz, rfl⟩ : ∃ v, v = wc := ⟨_, rfl⟩
  clear rA rB rC rD HB HD hmm
  obtain ⟨g, hg⟩ : ∃ g, w.heap.size + 1 + 1 + 1 + 1 = g := ⟨_, rfl⟩
  rw [hg] at hBw ⊢
  have hgB : w3.heap.size ≤ g := by omega
  clear hg hb4 hz4 hgl
  obtain ⟨g0, g1, -, -, -, -, -, -, ltX⟩ := (HXb.out.below hBe).all4
  have hzz := hBe.size
  obtain ⟨gA, hgA⟩ : ∃ gA, wz.heap.size = gA := ⟨_, rfl⟩
  have hst : Hid (MiW w3.heap.size g gA t a w3 (wz.alloc (.cells #[.int .i64 t, .int .i64 a, .slice none 0 0, .slice none 0 0] 31)) [((0 : Int), (0 : Int))] 0 [] [] (.slice (some ⟨w.heap.size + 1 + 1 + 1, 0, none⟩) 1 1) (.slice none 0 0) (.slice none 0 0) []) := by
   have h := ((hBw.push_box hzz 31 #[.int .i64 t, .int .i64 a, .slice none 0 0, .slice none 0 0]).push_nil 77 1).push_nil 76 1
   rw [hgA] at h
   exact ⟨by simpa using h, hBe.alloc hzz _⟩
  have hgAB : w3.heap.size ≤ gA := by omega
  have hBw' := Lib.hid hBe
  clear hBw hBe
  go_wp2_with fail
  try rw [hgA]
  clear g0 g1 ltX hzz hgA hBw'
  go_loopw [8, 11] (fun v0 ri wr => ∃ (k : Nat) (vA vX : Value), ri = .int .i64 k ∧ k ≤ (prL nx ny A n k).length ∧ (prL nx ny A n k).length ≤ 60 ∧ MiW w3.heap.size g gA t a w3 wr (prL nx ny A n k) k (FA.take k) (FX.take k) v0 vA vX []) (fun _ ri _ => 61 - (intOf ri).toNat)
  case atStart => exact ⟨0, _, _, rfl, by omega, by show ([_] : List (Int × Int)).length ≤ 60; simp, hst.out⟩
  case round =>
   clear hst
   obtain ⟨ri, vA, vX, rfl, hil, hl60, hbun, hbe⟩ := hrel
   obtain ⟨wo, rfl⟩ : ∃ v, v = wr := ⟨_, rfl⟩
   obtain ⟨L, hL⟩ : ∃ L, prL nx ny A n ri = L := ⟨_, rfl⟩
   rw [hL] at hbun hil hl60
   obtain ⟨a0, c0, rfl, q1, q2⟩ := hbun.shape 0 rfl
   obtain ⟨aA, cA, rfl, q5, q6⟩ := hbun.shape 3 rfl
   obtain ⟨aX, cX, rfl, q7, q8⟩ := hbun.shape 4 rfl
   unfold maxLen at q2 q6 q8
   have HL := Lib.hid hL
   have HB := Lib.hid hbun
   have HBe := Lib.hid hbe
   have hi0 := Int.natCast_nonneg ri
   have hzo := hbe.size
   by_cases hlt : ri < L.length
   rotate_left
   ·
    -- dev(
    obtain ⟨y1, y2, y3, y4, y5⟩ : T1 = t ∧ T2 = a ∧ RA = FA ∧ RX = FX ∧ RC = 0 := HY.out (HM.out.2 (by rw [HF.out ri (by rw [hL]; omega), hL]; exact hl60))
    have hPL : PF.length = ri := by rw [HF.out ri (by rw [hL]; omega), hL]; omega
    have HFr := Lib.hid (hbun.fresh2 (W := w3) (by omega) 3 4 (by decide) rfl rfl)
    rw [List.take_of_length_le (by rw [HLA.out]; omega), List.take_of_length_le (by rw [HLX.out]; omega)] at HFr
    have HPL := Lib.hid hPL
    have HYY := Lib.hid (And.intro y1 (And.intro y2 (And.intro y3 (And.intro y4 y5))))
    obtain ⟨x0, x1, x2, x3, -, -, -, -, ltx⟩ := (hbun.box 2 rfl).1.all4
    have R := HR.out.below hbe
    have hB : Below w.heap.size w wo := hB3.trans (hbe.mono hB3.size)
    clear hbun hbe hL hPL y1 y2 y3 y4 y5
    obtain ⟨r0, r1, r2, r3, z0, z1, z2, z3, ltR⟩ := R.all4
    go_wp2_with fail
    obtain ⟨w5, e5, T2, hs5⟩ := set4 R (.int .i64 t) (.int .i64 a) (.slice aA ri cA) (.slice aX ri cX)
    rw [e5]
    clear e5 r0 r1 r2 r3 z0 z1 z2 z3 ltR
    obtain ⟨t0, t1, t2, t3, -, -, -, -, -⟩ := T2.all4
    have hzB5 := hB.size
    have hB5 := hB.trans (hs5.below (B := w.heap.size) (by omega) (fun y hy => by omega))
    refine bodyPost_ret (v := .tuple #[.agg #[.int .i64 t, .int .i64 a, .slice aA ri cA, .slice aX ri cX], .int .i64 0]) (by simp [results, Try.results30, go_sem, t0, t1, t2, t3]) rfl ?_
    obtain ⟨y1, y2, y3, y4, y5⟩ := HYY.out
    have hf := (HFr.out.keep fun b hb1 hb2 => hs5.block b hb2 (fun hy => by omega)).from (w0 := w) (by omega)
    rw [y1, y2, y3, y4, y5, HLA.out, HLX.out, HPL.out]
    refine ⟨aA, cA, aX, cX, rfl, ?_, hB5⟩
    show Freshs _ _ [.sl 1 FA.length _, .sl 1 FX.length _] _
    rw [HLA.out, HLX.out, HPL.out]
    exact hf
    -- dev)
   obtain ⟨⟨x1, x2⟩, hx⟩ : ∃ x, L[ri]? = some x := ⟨_, List.getElem?_eq_getElem hlt⟩
   have hX : (prL nx ny A n ri)[ri]? = some (x1, x2) := by rw [HL.out]; exact hx
   have HXi := Lib.hid hX
   have hxok := (HP2.out ri (x1, x2) 0 0 hX).1 (x1, x2) (List.mem_of_getElem? (prL_at hX))
   have hx1 : -1 ≤ x1 := hxok.1
   have hx2 : x1 < (ac.length : Int) := hxok.2.1
   have hx3 : -1 ≤ x2 := hxok.2.2.1
   have hx4 : x2 < (bc.length : Int) := hxok.2.2.2
   have hlive : ¬ (x1 < 0 ∧ x2 < 0) := prL_live ri (x1, x2) (List.mem_of_getElem? hX)
   have HFAs := Lib.hid (HFA.out ri (x1, x2) (HP4.out ri (x1, x2) hX))
   have HFXs := Lib.hid (HFX.out ri (x1, x2) (HP4.out ri (x1, x2) hX))
   obtain ⟨AC, hAC⟩ : ∃ AC, accM mix ac bc A (x1, x2) = AC := ⟨_, rfl⟩
   obtain ⟨RW, hRW⟩ : ∃ RW, rowsM nx ny PF A n (x1, x2) = RW := ⟨_, rfl⟩
   have hAl : AC.length = A := by rw [← hAC, accM_len]
   have hRl : RW.length = A := by rw [← hRW, rowsM_len]
   have hAs : ∀ m, m < A → AC.take (m + 1) = AC.take m ++ [mixB mix (hasN ac x1 m) (hasN bc x2 m)] := fun m hm => by rw [← hAC]; exact accM_take hm
   have hRs : ∀ m, m < A → RW.take (m + 1) = RW.take m ++ [rowM nx ny PF n m (x1, x2)] := fun m hm => by rw [← hRW]; exact rowsM_take hm
   rw [hAC] at HFAs
   rw [hRW] at HFXs
   have HAl := Lib.hid hAl
   have HRl := Lib.hid hRl
   have HAs := Lib.hid hAs
   have HRs := Lib.hid hRs
   have hil2 : (ri : Int) < (L.length : Int) := by omega
   obtain ⟨b0, o0, rfl⟩ : ∃ b0 o0, a0 = some ⟨b0, o0, none⟩ := by
    obtain ⟨_, _, _, _, _, h4⟩ := (hbun.rd 0 rfl).sl_at
    rcases h4 with h4 | ⟨b, o, e, _⟩
    ·
     omega
    ·
     exact ⟨b, o, e⟩
   obtain ⟨hbl, y0, y1⟩ := pq_in (hbun.rd 0 rfl) hx
   simp only at y0 y1
   obtain ⟨g0, g1, -, -, -, -, -, -, ltX⟩ := (HXb.out.below hbe).all4
   clear hbun hbe hL hx hX hAC hRW hAl hRl hAs hRs hxok
   go_wp2_with fail
   go_quiet (fail)
   clear y0 y1 g0 g1 ltX
   generalize hwv : World.drewN wo _ = wv
   have hbv : Below wo.heap.size wo wv := by rw [← hwv]; exact below_draws _ _ _
   have HBv := Lib.hid (And.intro (HB.out.below hbv) (HBe.out.trans (hbv.mono hzo)))
   have hzv := HBv.out.2.size
   clear hwv hbv HB HBe hbl
   obtain ⟨g0, g1, -, -, -, -, -, -, ltX⟩ := (HXb.out.below HBv.out.2).all4
   have hst : Hid (MiW w3.heap.size g gA t a w3 ((wv.alloc (.cells #[] 4)).alloc (.cells #[] 42)) (prC nx ny A n ri (x1, x2) 0 0) ri (FA.take ri) (FX.take ri) (.slice (some ⟨b0, o0, none⟩) L.length c0) (.slice aA ri cA) (.slice aX ri cX) [.app 4 1 0 [] (.slice (some ⟨wv.heap.size, 0, none⟩) 0 0), .app 42 1 0 [] (.slice (some ⟨wv.heap.size + 1, 0, none⟩) 0 0)]) := by
    have h := (HBv.out.1.push_empty hzv 4 1).push_empty (by simp; omega) 42 1
    rw [show (wv.alloc (.cells #[] 4)).heap.size = wv.heap.size + 1 by simp] at h
    show MiW ..
    rw [prC_zero, HL.out]
    exact ⟨by simpa using h, (HBv.out.2.alloc hzv (.cells #[] 4)).alloc (by simp; omega) (.cells #[] 42)⟩
   go_wp2_with fail
   clear g0 g1 ltX HBv
   refine (atomsIn_i ht0 ht3).mono ?_
   rintro f w5 ⟨rfl, hb5⟩
   rw [HA.out]
   have HW5 := Lib.hid (hst.out.below (by simp; omega) hb5)
   clear hst hb5 q1 q2 hzv
   have hl60' := Lib.hid hl60
   have hil' := Lib.hid hil
   clear hl60 hil hzo hlt
   go_wp2_with fail
   go_loopw [8, 14, 15, 52] (fun v0 v5 v6 j wr => ∃ m : Nat, j = .int .i64 m ∧ m ≤ A ∧ (prC nx ny A n ri (x1, x2) m 0).length ≤ 60 ∧ MiW w3.heap.size g gA t a w3 wr (prC nx ny A n ri (x1, x2) m 0) ri (FA.take ri) (FX.take ri) v0 (.slice aA ri cA) (.slice aX ri cX) [.app 4 1 m ((AC.take m).map D.bool) v5, .app 42 1 m ((RW.take m).map intsD) v6]) (fun _ _ _ j _ => A - (intOf j).toNat)
   case atStart => exact ⟨0, rfl, by omega, by rw [prC_zero, HL.out]; exact hl60'.out, HW5.out⟩
   case round =>
    clear HW5
    obtain ⟨m, rfl, hmA, hlm, hW⟩ := hrel
    obtain ⟨wm, rfl⟩ : ∃ v, v = wr := ⟨_, rfl⟩
    have hat := prL_at (m := m) (k := 0) HXi.out
    obtain ⟨Lm, hLm⟩ : ∃ Lm, prC nx ny A n ri (x1, x2) m 0 = Lm := ⟨_, rfl⟩
    rw [hLm] at hW hlm hat
    obtain ⟨am, cm, rfl, -, -⟩ := hW.1.shape 0 rfl
    obtain ⟨a5, c5, rfl, q1, q2⟩ := hW.1.shape 5 rfl
    obtain ⟨a6, c6, rfl, q3, q4⟩ := hW.1.shape 6 rfl
    unfold maxLen at q2 q4
    have HLm := Lib.hid hLm
    have hm0 := Int.natCast_nonneg m
    have HW := Lib.hid hW
    have hzm := hW.2.size
    have hilm := (List.getElem?_eq_some_iff.1 hat).1
    clear hW hLm hat
    by_cases hmlt : m < A
    rotate_left
    ·
     -- dev(
     obtain rfl : A = m := by omega
     have HEL : Hid (prL nx ny A n (ri + 1) = Lm) := by show _ = _; rw [← prC_all HXi.out, HLm.out]
     have HEA : Hid ((FA.take (ri + 1)).map boolsD = (FA.take ri).map boolsD ++ [D.sl 1 A ((AC.take A).map D.bool)]) := by
      show _ = _
      rw [HFAs.out, List.map_append, List.take_of_length_le (l := AC) (by rw [HAl.out]; omega)]
      show _ ++ [nestD D.bool AC] = _
      unfold nestD
      rw [HAl.out]
     have HEX : Hid ((FX.take (ri + 1)).map iiD = (FX.take ri).map iiD ++ [D.sl 1 A ((RW.take A).map intsD)]) := by
      show _ = _
      rw [HFXs.out, List.map_append, List.take_of_length_le (l := RW) (by rw [HRl.out]; omega)]
      show _ ++ [nestD intsD RW] = _
      unfold nestD
      rw [HRl.out]
     have hi1 : ri + 1 ≤ Lm.length := by omega
     have hi60 : ri ≤ 60 := by omega
     obtain ⟨own, hown⟩ := HW.out.1
     have V0 := hown 3 _ rfl
     have V1 := hown 4 _ rfl
     have K2 := (hown 2 _ rfl).2
     have hgo : own gA = 2 := (hown 2 _ rfl).1.2.2
     have V0f := fun (b : Nat) (h : w3.heap.size ≤ b ∧ b < wm.heap.size ∧ own b = 3) => And.intro h.1 h.2.1
     have V1f := fun (b : Nat) (h : w3.heap.size ≤ b ∧ b < wm.heap.size ∧ own b = 4) => And.intro h.1 h.2.1
     have Hown := Lib.hid hown
     have Hlm := Lib.hid hlm
     clear hown HFAs HFXs HAl HRl HAs HRs HM HY HN HF HP2 HP4 HP5 HP6 HFA HFX HLA HLX hl60' hil' HL HLm HXi Hok Hok' Hr Hr' HXb HYb HR hlm hlive
     go_wp2_with fail
     have hGb : ∀ m b, (fun m b => (m = 0 ∧ (w3.heap.size ≤ b ∧ b < wm.heap.size ∧ own b = 3)) ∨ (m = 1 ∧ (w3.heap.size ≤ b ∧ b < wm.heap.size ∧ own b = 4)) ∨ (m = 2 ∧ b = gA)) m b → (w3.heap.size) ≤ b ∧ b < (wm).heap.size := by
      intro m b hg
      rcases hg with ⟨rfl, hg⟩ | ⟨rfl, hg⟩ | ⟨rfl, hg⟩
      ·
       have q := V0f b hg
       omega
      ·
       have q := V1f b hg
       omega
      ·
       subst hg
       have q := K2.lt
       omega
     have hGd : ∀ m m' b, (fun m b => (m = 0 ∧ (w3.heap.size ≤ b ∧ b < wm.heap.size ∧ own b = 3)) ∨ (m = 1 ∧ (w3.heap.size ≤ b ∧ b < wm.heap.size ∧ own b = 4)) ∨ (m = 2 ∧ b = gA)) m b → (fun m b => (m = 0 ∧ (w3.heap.size ≤ b ∧ b < wm.heap.size ∧ own b = 3)) ∨ (m = 1 ∧ (w3.heap.size ≤ b ∧ b < wm.heap.size ∧ own b = 4)) ∨ (m = 2 ∧ b = gA)) m' b → m = m' := by
      intro m1 m2 b h h'
      rcases h with ⟨rfl, h⟩ | ⟨rfl, h⟩ | ⟨rfl, h⟩ <;> rcases h' with ⟨rfl, h'⟩ | ⟨rfl, h'⟩ | ⟨rfl, h'⟩ <;> first
       | rfl
       | (exfalso; have q1 := h.2.2; have q2 := h'.2.2; omega)
       | (exfalso; rw [h] at h'; have q1 := h'.2.2; omega)
       | (exfalso; rw [h'] at h; have q1 := h.2.2; omega)
     refine region_rs [(13, 11)] [(4, 0), (9, 1), (11, 2)] (fun m b => (m = 0 ∧ (w3.heap.size ≤ b ∧ b < wm.heap.size ∧ own b = 3)) ∨ (m = 1 ∧ (w3.heap.size ≤ b ∧ b < wm.heap.size ∧ own b = 4)) ∨ (m = 2 ∧ b = gA)) (w3.heap.size) (fun i iv vs wx => match i with
      | 0 => vs 0 = .pointer (some ⟨gA, 2, none⟩)
      | 1 => vs 1 = .slice aA ri cA
      | 2 => vs 2 = .slice a5 A c5
      | 3 => vs 3 = .slice (some ⟨(iv 3).1, 0, none⟩) 1 1 ∧ (iv 3).2 = (iv 3).1 + 1 ∧ Blk wx (iv 3).1 77 [.slice a5 A c5]
      | 4 => ∃ g cap, vs 4 = .slice (some ⟨g, 0, none⟩) (ri + 1) cap ∧ AppS (foot [(13, 11)] [(4, 0), (9, 1), (11, 2)] (fun m b => (m = 0 ∧ (w3.heap.size ≤ b ∧ b < wm.heap.size ∧ own b = 3)) ∨ (m = 1 ∧ (w3.heap.size ≤ b ∧ b < wm.heap.size ∧ own b = 4)) ∨ (m = 2 ∧ b = gA)) 14 4 iv) wx 77 1 (ri + 1) ((FA.take ri).map boolsD ++ [.raw (.slice a5 A c5)]) (.slice (some ⟨g, 0, none⟩) (ri + 1) cap)
      | 5 => vs 5 = .pointer (some ⟨gA, 3, none⟩)
      | 6 => vs 6 = .slice aX ri cX
      | 7 => vs 7 = .slice a6 A c6
      | 8 => vs 8 = .slice (some ⟨(iv 8).1, 0, none⟩) 1 1 ∧ (iv 8).2 = (iv 8).1 + 1 ∧ Blk wx (iv 8).1 76 [.slice a6 A c6]
      | 9 => ∃ g cap, vs 9 = .slice (some ⟨g, 0, none⟩) (ri + 1) cap ∧ AppS (foot [(13, 11)] [(4, 0), (9, 1), (11, 2)] (fun m b => (m = 0 ∧ (w3.heap.size ≤ b ∧ b < wm.heap.size ∧ own b = 3)) ∨ (m = 1 ∧ (w3.heap.size ≤ b ∧ b < wm.heap.size ∧ own b = 4)) ∨ (m = 2 ∧ b = gA)) 14 9 iv) wx 76 1 (ri + 1) ((FX.take ri).map iiD ++ [.raw (.slice a6 A c6)]) (.slice (some ⟨g, 0, none⟩) (ri + 1) cap)
      | 10 => vs 10 = .pointer (some ⟨gA, 2, none⟩)
      | 11 => Blk wx (gA) 31 [.int .i64 t, .int .i64 a, vs 4, .slice aX ri cX]
      | 12 => vs 12 = .pointer (some ⟨gA, 3, none⟩)
      | 13 => Blk wx (gA) 31 [.int .i64 t, .int .i64 a, vs 4, vs 9]
      | _ => True) (fun i iv vs => match i with
      | 0 => vs 0 = .pointer (some ⟨gA, 2, none⟩)
      | 1 => vs 1 = .slice aA ri cA
      | 2 => vs 2 = .slice a5 A c5
      | 3 => vs 3 = .slice (some ⟨(iv 3).1, 0, none⟩) 1 1 ∧ (iv 3).2 = (iv 3).1 + 1
      | 4 => ∃ g cap, vs 4 = .slice (some ⟨g, 0, none⟩) (ri + 1) cap
      | 5 => vs 5 = .pointer (some ⟨gA, 3, none⟩)
      | 6 => vs 6 = .slice aX ri cX
      | 7 => vs 7 = .slice a6 A c6
      | 8 => vs 8 = .slice (some ⟨(iv 8).1, 0, none⟩) 1 1 ∧ (iv 8).2 = (iv 8).1 + 1
      | 9 => ∃ g cap, vs 9 = .slice (some ⟨g, 0, none⟩) (ri + 1) cap
      | 10 => vs 10 = .pointer (some ⟨gA, 2, none⟩)
      | 11 => True
      | 12 => vs 12 = .pointer (some ⟨gA, 3, none⟩)
      | 13 => True
      | _ => True) (by kernel_rfl) (by kernel_rfl) [0, 1, 2, 3, 4, 5, 6, 7, 8, 9, 10, 11, 12, 13] (by kernel_rfl) ?hbase ?hGb ?hG ?hJ ?hE ?hEE ?hstep ?hQ
     case hbase => first | exact Nat.le_refl _ | omega | (simp; omega)
     case hGb =>
      exact hGb
     case hG =>
      exact hGd
     case hJ =>
      intro i hi iv iv' vs vs' wx wx' ha hv hz hk hj
      simp only [List.mem_cons, List.not_mem_nil, or_false] at hi
      rcases hi with rfl | rfl | rfl | rfl | rfl | rfl | rfl | rfl | rfl | rfl | rfl | rfl | rfl | rfl
      ·
       exact (hv.out 0 (mem_of (by kernel_rfl))).symm.trans hj
      ·
       exact (hv.out 1 (mem_of (by kernel_rfl))).symm.trans hj
      ·
       exact (hv.out 2 (mem_of (by kernel_rfl))).symm.trans hj
      ·
       have e3 := hv.out 3 (mem_of (by kernel_rfl))
       have g3 := ha.out 3 (mem_of (by kernel_rfl))
       obtain ⟨q1, q3, q2⟩ := hj
       show vs' 3 = .slice (some ⟨(iv' 3).1, 0, none⟩) 1 1 ∧ (iv' 3).2 = (iv' 3).1 + 1 ∧ Blk wx' (iv' 3).1 77 [.slice a5 A c5]
       rw [← e3, ← g3]
       exact ⟨q1, q3, q2.keep (hk.out _ q2.lt (foot_own (Nat.le_refl _) (by omega)))⟩
      ·
       have e4 := hv.out 4 (mem_of (by kernel_rfl))
       obtain ⟨g, cap, q1, q2⟩ := hj
       exact ⟨g, cap, e4 ▸ q1, (q2.keep (fun b hb h1 => hk.out b hb h1)).more (fun b hb h1 => foot_agree (l := ancs _ 14 4) (by exact of_decide_eq_true (by kernel_rfl)) ha.out h1)⟩
      ·
       exact (hv.out 5 (mem_of (by kernel_rfl))).symm.trans hj
      ·
       exact (hv.out 6 (mem_of (by kernel_rfl))).symm.trans hj
      ·
       exact (hv.out 7 (mem_of (by kernel_rfl))).symm.trans hj
      ·
       have e8 := hv.out 8 (mem_of (by kernel_rfl))
       have g8 := ha.out 8 (mem_of (by kernel_rfl))
       obtain ⟨q1, q3, q2⟩ := hj
       show vs' 8 = .slice (some ⟨(iv' 8).1, 0, none⟩) 1 1 ∧ (iv' 8).2 = (iv' 8).1 + 1 ∧ Blk wx' (iv' 8).1 76 [.slice a6 A c6]
       rw [← e8, ← g8]
       exact ⟨q1, q3, q2.keep (hk.out _ q2.lt (foot_own (Nat.le_refl _) (by omega)))⟩
      ·
       have e9 := hv.out 9 (mem_of (by kernel_rfl))
       obtain ⟨g, cap, q1, q2⟩ := hj
       exact ⟨g, cap, e9 ▸ q1, (q2.keep (fun b hb h1 => hk.out b hb h1)).more (fun b hb h1 => foot_agree (l := ancs _ 14 9) (by exact of_decide_eq_true (by kernel_rfl)) ha.out h1)⟩
      ·
       exact (hv.out 10 (mem_of (by kernel_rfl))).symm.trans hj
      ·
       have e4 := hv.out 4 (mem_of (by kernel_rfl))
       have hj' : Blk wx (gA) 31 [.int .i64 t, .int .i64 a, vs 4, .slice aX ri cX] := hj
       show Blk wx' (gA) 31 [.int .i64 t, .int .i64 a, vs' 4, .slice aX ri cX]
       rw [← e4]
       exact hj'.keep (hk.out _ hj'.lt (foot_given 2 (by decide) (Or.inr (Or.inr ⟨rfl, rfl⟩))))
      ·
       exact (hv.out 12 (mem_of (by kernel_rfl))).symm.trans hj
      ·
       have e4 := hv.out 4 (mem_of (by kernel_rfl))
       have e9 := hv.out 9 (mem_of (by kernel_rfl))
       have hj' : Blk wx (gA) 31 [.int .i64 t, .int .i64 a, vs 4, vs 9] := hj
       show Blk wx' (gA) 31 [.int .i64 t, .int .i64 a, vs' 4, vs' 9]
       rw [← e4, ← e9]
       exact hj'.keep (hk.out _ hj'.lt ⟨11, mem_of (by kernel_rfl), Or.inr ⟨2, by decide, (Or.inr (Or.inr ⟨rfl, rfl⟩))⟩⟩)
     case hE =>
      intro i hi iv vs wx hj
      simp only [List.mem_cons, List.not_mem_nil, or_false] at hi
      rcases hi with rfl | rfl | rfl | rfl | rfl | rfl | rfl | rfl | rfl | rfl | rfl | rfl | rfl | rfl
      ·
       exact hj
      ·
       exact hj
      ·
       exact hj
      ·
       exact ⟨hj.1, hj.2.1⟩
      ·
       obtain ⟨g, cap, q1, -⟩ := hj
       exact ⟨g, cap, q1⟩
      ·
       exact hj
      ·
       exact hj
      ·
       exact hj
      ·
       exact ⟨hj.1, hj.2.1⟩
      ·
       obtain ⟨g, cap, q1, -⟩ := hj
       exact ⟨g, cap, q1⟩
      ·
       exact hj
      ·
       trivial
      ·
       exact hj
      ·
       trivial
     case hEE =>
      intro i hi iv iv' vs vs' ha hv hj
      simp only [List.mem_cons, List.not_mem_nil, or_false] at hi
      rcases hi with rfl | rfl | rfl | rfl | rfl | rfl | rfl | rfl | rfl | rfl | rfl | rfl | rfl | rfl
      ·
       exact (hv.out 0 (mem_of (by kernel_rfl))).symm.trans hj
      ·
       exact (hv.out 1 (mem_of (by kernel_rfl))).symm.trans hj
      ·
       exact (hv.out 2 (mem_of (by kernel_rfl))).symm.trans hj
      ·
       have e3 := hv.out 3 (mem_of (by kernel_rfl))
       have g3 := ha.out 3 (mem_of (by kernel_rfl))
       have hj' : vs 3 = .slice (some ⟨(iv 3).1, 0, none⟩) 1 1 ∧ (iv 3).2 = (iv 3).1 + 1 := hj
       show vs' 3 = .slice (some ⟨(iv' 3).1, 0, none⟩) 1 1 ∧ (iv' 3).2 = (iv' 3).1 + 1
       rw [← e3, ← g3]
       exact hj'
      ·
       have e4 := hv.out 4 (mem_of (by kernel_rfl))
       have hj' : ∃ g cap, vs 4 = .slice (some ⟨g, 0, none⟩) (ri + 1) cap := hj
       show ∃ g cap, vs' 4 = .slice (some ⟨g, 0, none⟩) (ri + 1) cap
       rw [← e4]
       exact hj'
      ·
       exact (hv.out 5 (mem_of (by kernel_rfl))).symm.trans hj
      ·
       exact (hv.out 6 (mem_of (by kernel_rfl))).symm.trans hj
      ·
       exact (hv.out 7 (mem_of (by kernel_rfl))).symm.trans hj
      ·
       have e8 := hv.out 8 (mem_of (by kernel_rfl))
       have g8 := ha.out 8 (mem_of (by kernel_rfl))
       have hj' : vs 8 = .slice (some ⟨(iv 8).1, 0, none⟩) 1 1 ∧ (iv 8).2 = (iv 8).1 + 1 := hj
       show vs' 8 = .slice (some ⟨(iv' 8).1, 0, none⟩) 1 1 ∧ (iv' 8).2 = (iv' 8).1 + 1
       rw [← e8, ← g8]
       exact hj'
      ·
       have e9 := hv.out 9 (mem_of (by kernel_rfl))
       have hj' : ∃ g cap, vs 9 = .slice (some ⟨g, 0, none⟩) (ri + 1) cap := hj
       show ∃ g cap, vs' 9 = .slice (some ⟨g, 0, none⟩) (ri + 1) cap
       rw [← e9]
       exact hj'
      ·
       exact (hv.out 10 (mem_of (by kernel_rfl))).symm.trans hj
      ·
       trivial
      ·
       exact (hv.out 12 (mem_of (by kernel_rfl))).symm.trans hj
      ·
       trivial
     case hstep =>
      intro i hi opr ho iv vs w1 hB hS hSo hd he hbd hsep hun K hK
      simp only [List.mem_cons, List.not_mem_nil, or_false] at hi
      have hzB := hB.size
      have HGb := Lib.hid hGb
      clear hGb hGd
      generalize hA : putFrom _ 0 vs _ = A at hK ⊢
      simp only [putFrom, puts] at hA
      rcases hi with rfl | rfl | rfl | rfl | rfl | rfl | rfl | rfl | rfl | rfl | rfl | rfl | rfl | rfl
      all_goals
       simp at ho
       subst ho
       subst hA
      ·
       go_wp2_with fail
       exact Onward.mk (hK (.pointer (some ⟨gA, 2, none⟩)) _ _ (fun h => by cases h) (by first | rfl | (simp only [puts])) (Spares.refl _) (fun iv' _ _ => rfl))
      ·
       have h0 : vs 0 = .pointer (some ⟨gA, 2, none⟩) := hd.out 0 (mem_of (by kernel_rfl)) (by decide) (by kernel_rfl)
       have K21 := K2.keep (hS.out 2 _ (by kernel_rfl) (Or.inr (Or.inr ⟨rfl, rfl⟩)))
       have k2c0 := K21.c0
       have k2z0 := K21.frozen 0
       have k2c1 := K21.c1
       have k2z1 := K21.frozen 1
       have k2c2 := K21.c2
       have k2z2 := K21.frozen 2
       have k2c3 := K21.c3
       have k2z3 := K21.frozen 3
       have k2lt := K21.lt
       go_wp2_with fail
       exact Onward.mk (hK (.slice aA ri cA) _ _ (fun h => by cases h) (by first | rfl | (simp only [puts, h0])) (Spares.refl _) (fun iv' _ _ => rfl))
      ·
       go_wp2_with fail
       exact Onward.mk (hK (.slice a5 A c5) _ _ (fun h => by cases h) (by first | rfl | (simp only [puts])) (Spares.refl _) (fun iv' _ _ => rfl))
      ·
       have h2 : vs 2 = .slice a5 A c5 := hd.out 2 (mem_of (by kernel_rfl)) (by decide) (by kernel_rfl)
       go_wp2_with fail
       exact Onward.mk (hK (.slice (some ⟨w1.heap.size, 0, none⟩) 1 1) _ _ (fun h => by cases h) (by first | rfl | (simp only [puts, h2])) (Spares.of_below (Below.alloc (Below.refl _ _) (Nat.le_refl _) _)) (fun iv' _ hi => by
        show Value.slice (some ⟨w1.heap.size, 0, none⟩) 1 1 = .slice (some ⟨(iv' 3).1, 0, none⟩) 1 1 ∧ (iv' 3).2 = (iv' 3).1 + 1 ∧ Blk _ (iv' 3).1 77 [.slice a5 A c5]
        rw [hi]
        exact ⟨rfl, by simp, Blk.new1 _ _ _⟩))
      ·
       have h1 : vs 1 = .slice aA ri cA := hd.out 1 (mem_of (by kernel_rfl)) (by decide) (by kernel_rfl)
       obtain ⟨h3, q3, f3⟩ := hd.out 3 (mem_of (by kernel_rfl)) (by decide) (by kernel_rfl)
       have V01 := V0.keep (fun b _ hb => hS.out 0 b (by kernel_rfl) (Or.inl ⟨rfl, hb⟩))
       simp only [h1, h3]
       have f3' : Blk w1 (iv 3).1 77 [.slice a5 A c5] := by first | exact f3 | (rw [h3] at f3; exact f3)
       refine wpList_append_s w1 (by rfl) _ _ 24 (by rfl) 77 ((.slice none 0 0)) 1 24 Try.underlying24 rn_bls rfl (by decide) (S := (fun b => (w3.heap.size ≤ b ∧ b < wm.heap.size ∧ own b = 3))) (T := (fun _ => False)) _ (by rfl) V01 ⟨(iv 3).1, 0, none⟩ 1 1 [.slice a5 A c5] (by rfl) (news_blk f3') (raw_own1 w1 rfl) (fun _ _ _ h => h) (by simp) (by simp [Value.oneCell']) (by omega) (by omega) (by unfold maxLen; omega) ?_
       intro g cap w2 hap ht
       go_wp2_with fail
       exact Onward.mk (hK (.slice (some ⟨g, 0, none⟩) (ri + 1) cap) _ _ (fun h => by cases h) (by first | rfl | (simp only [puts, h1, h3])) (ht.more (fun b h => Or.inl ⟨0, by decide, (Or.inl ⟨rfl, h⟩)⟩)) (fun iv' ag hi => ⟨g, cap, rfl, hap.more (fun b _ h => by rcases h with h | h | h; exact foot_given 0 (by decide) (Or.inl ⟨rfl, h⟩); exact h.elim; exact foot_new hi h.1 h.2)⟩))
      ·
       go_wp2_with fail
       exact Onward.mk (hK (.pointer (some ⟨gA, 3, none⟩)) _ _ (fun h => by cases h) (by first | rfl | (simp only [puts])) (Spares.refl _) (fun iv' _ _ => rfl))
      ·
       have h5 : vs 5 = .pointer (some ⟨gA, 3, none⟩) := hd.out 5 (mem_of (by kernel_rfl)) (by decide) (by kernel_rfl)
       have K21 := K2.keep (hS.out 2 _ (by kernel_rfl) (Or.inr (Or.inr ⟨rfl, rfl⟩)))
       have k2c0 := K21.c0
       have k2z0 := K21.frozen 0
       have k2c1 := K21.c1
       have k2z1 := K21.frozen 1
       have k2c2 := K21.c2
       have k2z2 := K21.frozen 2
       have k2c3 := K21.c3
       have k2z3 := K21.frozen 3
       have k2lt := K21.lt
       go_wp2_with fail
       exact Onward.mk (hK (.slice aX ri cX) _ _ (fun h => by cases h) (by first | rfl | (simp only [puts, h5])) (Spares.refl _) (fun iv' _ _ => rfl))
      ·
       go_wp2_with fail
       exact Onward.mk (hK (.slice a6 A c6) _ _ (fun h => by cases h) (by first | rfl | (simp only [puts])) (Spares.refl _) (fun iv' _ _ => rfl))
      ·
       have h7 : vs 7 = .slice a6 A c6 := hd.out 7 (mem_of (by kernel_rfl)) (by decide) (by kernel_rfl)
       go_wp2_with fail
       exact Onward.mk (hK (.slice (some ⟨w1.heap.size, 0, none⟩) 1 1) _ _ (fun h => by cases h) (by first | rfl | (simp only [puts, h7])) (Spares.of_below (Below.alloc (Below.refl _ _) (Nat.le_refl _) _)) (fun iv' _ hi => by
        show Value.slice (some ⟨w1.heap.size, 0, none⟩) 1 1 = .slice (some ⟨(iv' 8).1, 0, none⟩) 1 1 ∧ (iv' 8).2 = (iv' 8).1 + 1 ∧ Blk _ (iv' 8).1 76 [.slice a6 A c6]
        rw [hi]
        exact ⟨rfl, by simp, Blk.new1 _ _ _⟩))
      ·
       have h6 : vs 6 = .slice aX ri cX := hd.out 6 (mem_of (by kernel_rfl)) (by decide) (by kernel_rfl)
       obtain ⟨h8, q8, f8⟩ := hd.out 8 (mem_of (by kernel_rfl)) (by decide) (by kernel_rfl)
       have V11 := V1.keep (fun b _ hb => hS.out 1 b (by kernel_rfl) (Or.inr (Or.inl ⟨rfl, hb⟩)))
       simp only [h6, h8]
       have f8' : Blk w1 (iv 8).1 76 [.slice a6 A c6] := by first | exact f8 | (rw [h8] at f8; exact f8)
       refine wpList_append_s w1 (by rfl) _ _ 25 (by rfl) 76 ((.slice none 0 0)) 1 24 Try.underlying25 info_i64ss rfl (by decide) (S := (fun b => (w3.heap.size ≤ b ∧ b < wm.heap.size ∧ own b = 4))) (T := (fun _ => False)) _ (by rfl) V11 ⟨(iv 8).1, 0, none⟩ 1 1 [.slice a6 A c6] (by rfl) (news_blk f8') (raw_own1 w1 rfl) (fun _ _ _ h => h) (by simp) (by simp [Value.oneCell']) (by omega) (by omega) (by unfold maxLen; omega) ?_
       intro g cap w2 hap ht
       go_wp2_with fail
       exact Onward.mk (hK (.slice (some ⟨g, 0, none⟩) (ri + 1) cap) _ _ (fun h => by cases h) (by first | rfl | (simp only [puts, h6, h8])) (ht.more (fun b h => Or.inl ⟨1, by decide, (Or.inr (Or.inl ⟨rfl, h⟩))⟩)) (fun iv' ag hi => ⟨g, cap, rfl, hap.more (fun b _ h => by rcases h with h | h | h; exact foot_given 1 (by decide) (Or.inr (Or.inl ⟨rfl, h⟩)); exact h.elim; exact foot_new hi h.1 h.2)⟩))
      ·
       go_wp2_with fail
       exact Onward.mk (hK (.pointer (some ⟨gA, 2, none⟩)) _ _ (fun h => by cases h) (by first | rfl | (simp only [puts])) (Spares.refl _) (fun iv' _ _ => rfl))
      ·
       have h10 : vs 10 = .pointer (some ⟨gA, 2, none⟩) := hd.out 10 (mem_of (by kernel_rfl)) (by decide) (by kernel_rfl)
       obtain ⟨g4, cap4, h4, f4⟩ := hd.out 4 (mem_of (by kernel_rfl)) (by decide) (by kernel_rfl)
       have K21 := K2.keep (hS.out 2 _ (by kernel_rfl) (Or.inr (Or.inr ⟨rfl, rfl⟩)))
       have k2c0 := K21.c0
       have k2z0 := K21.frozen 0
       have k2c1 := K21.c1
       have k2z1 := K21.frozen 1
       have k2c2 := K21.c2
       have k2z2 := K21.frozen 2
       have k2c3 := K21.c3
       have k2z3 := K21.frozen 3
       have k2lt := K21.lt
       go_wp2_with fail
       exact Onward.mk (hK undef _ _ (fun _ => rfl) (by simp only [puts, h10, h4]) ((spares_sets (b0 := gA) (by repeat (first | exact Spares.refl _ | apply Spares.set))).more (fun b h => Or.inl ⟨2, by decide, (Or.inr (Or.inr ⟨rfl, h⟩))⟩)) (fun iv' ag hi => by
        show Blk _ (gA) 31 [.int .i64 t, .int .i64 a, vs 4, .slice aX ri cX]
        rw [h4]
        exact (K21.set 2 _)))
      ·
       go_wp2_with fail
       exact Onward.mk (hK (.pointer (some ⟨gA, 3, none⟩)) _ _ (fun h => by cases h) (by first | rfl | (simp only [puts])) (Spares.refl _) (fun iv' _ _ => rfl))
      ·
       have h12 : vs 12 = .pointer (some ⟨gA, 3, none⟩) := hd.out 12 (mem_of (by kernel_rfl)) (by decide) (by kernel_rfl)
       obtain ⟨g9, cap9, h9, f9⟩ := hd.out 9 (mem_of (by kernel_rfl)) (by decide) (by kernel_rfl)
       have f11 : Blk _ (gA) 31 [.int .i64 t, .int .i64 a, vs 4, .slice aX ri cX] := hd.out 11 (mem_of (by kernel_rfl)) (by decide) (by kernel_rfl)
       have bc0 := f11.c0
       have bz0 := f11.frozen 0
       have bc1 := f11.c1
       have bz1 := f11.frozen 1
       have bc2 := f11.c2
       have bz2 := f11.frozen 2
       have bc3 := f11.c3
       have bz3 := f11.frozen 3
       have blt := f11.lt
       go_wp2_with fail
       exact Onward.mk (hK undef _ _ (fun _ => rfl) (by simp only [puts, h12, h9]) ((spares_sets (b0 := gA) (by repeat (first | exact Spares.refl _ | apply Spares.set))).more (fun b h => Or.inr ⟨11, by decide, foot_given 2 (by decide) (Or.inr (Or.inr ⟨rfl, h⟩))⟩)) (fun iv' ag hi => by
        show Blk _ (gA) 31 [.int .i64 t, .int .i64 a, vs 4, vs 9]
        rw [h9]
        exact (f11.set 3 _)))
     case hQ =>
      intro iv vs wx hB hSp hd he hbd hsep
      have hzB := hB.size
      have h0 : vs 0 = .pointer (some ⟨gA, 2, none⟩) := hd.out 0 (mem_of (by kernel_rfl)) (not_eaten (by kernel_rfl))
      have h1 : vs 1 = .slice aA ri cA := hd.out 1 (mem_of (by kernel_rfl)) (not_eaten (by kernel_rfl))
      have h2 : vs 2 = .slice a5 A c5 := hd.out 2 (mem_of (by kernel_rfl)) (not_eaten (by kernel_rfl))
      obtain ⟨h3, q3, f3⟩ := hd.out 3 (mem_of (by kernel_rfl)) (not_eaten (by kernel_rfl))
      obtain ⟨g4, cap4, h4, f4⟩ := hd.out 4 (mem_of (by kernel_rfl)) (not_eaten (by kernel_rfl))
      have h5 : vs 5 = .pointer (some ⟨gA, 3, none⟩) := hd.out 5 (mem_of (by kernel_rfl)) (not_eaten (by kernel_rfl))
      have h6 : vs 6 = .slice aX ri cX := hd.out 6 (mem_of (by kernel_rfl)) (not_eaten (by kernel_rfl))
      have h7 : vs 7 = .slice a6 A c6 := hd.out 7 (mem_of (by kernel_rfl)) (not_eaten (by kernel_rfl))
      obtain ⟨h8, q8, f8⟩ := hd.out 8 (mem_of (by kernel_rfl)) (not_eaten (by kernel_rfl))
      obtain ⟨g9, cap9, h9, f9⟩ := hd.out 9 (mem_of (by kernel_rfl)) (not_eaten (by kernel_rfl))
      have h10 : vs 10 = .pointer (some ⟨gA, 2, none⟩) := hd.out 10 (mem_of (by kernel_rfl)) (not_eaten (by kernel_rfl))
      skip
      have h12 : vs 12 = .pointer (some ⟨gA, 3, none⟩) := hd.out 12 (mem_of (by kernel_rfl)) (not_eaten (by kernel_rfl))
      have f13 : Blk _ (gA) 31 [.int .i64 t, .int .i64 a, vs 4, vs 9] := hd.out 13 (mem_of (by kernel_rfl)) (not_eaten (by kernel_rfl))
      have lo4 : ∀ b, foot [(13, 11)] [(4, 0), (9, 1), (11, 2)] (fun m b => (m = 0 ∧ (w3.heap.size ≤ b ∧ b < wm.heap.size ∧ own b = 3)) ∨ (m = 1 ∧ (w3.heap.size ≤ b ∧ b < wm.heap.size ∧ own b = 4)) ∨ (m = 2 ∧ b = gA)) 14 4 iv b → (w3.heap.size) ≤ b := by
       rintro b ⟨j, hj, hh⟩
       have hj' := of_decide_eq_true (List.all_eq_true.1 (show ((chainOf [(13, 11)] 14 4).all fun j => decide (j ∈ [4])) = true from by kernel_rfl) j hj)
       simp only [List.mem_cons, List.not_mem_nil, or_false] at hj'
       rcases hj' with rfl
       ·
        have q := (hbd.out 4 (mem_of (by kernel_rfl))).1
        rcases hh with hh | ⟨m, hm, hg⟩
        ·
         omega
        ·
         simp at hm
         subst hm
         simp at hg
         have q' := V0f b hg
         omega
      have lo9 : ∀ b, foot [(13, 11)] [(4, 0), (9, 1), (11, 2)] (fun m b => (m = 0 ∧ (w3.heap.size ≤ b ∧ b < wm.heap.size ∧ own b = 3)) ∨ (m = 1 ∧ (w3.heap.size ≤ b ∧ b < wm.heap.size ∧ own b = 4)) ∨ (m = 2 ∧ b = gA)) 14 9 iv b → (w3.heap.size) ≤ b := by
       rintro b ⟨j, hj, hh⟩
       have hj' := of_decide_eq_true (List.all_eq_true.1 (show ((chainOf [(13, 11)] 14 9).all fun j => decide (j ∈ [9])) = true from by kernel_rfl) j hj)
       simp only [List.mem_cons, List.not_mem_nil, or_false] at hj'
       rcases hj' with rfl
       ·
        have q := (hbd.out 9 (mem_of (by kernel_rfl))).1
        rcases hh with hh | ⟨m, hm, hg⟩
        ·
         omega
        ·
         simp at hm
         subst hm
         simp at hg
         have q' := V1f b hg
         omega
      simp only [putFrom, puts]
      have so4 : ∀ b, (foot [(13, 11)] [(4, 0), (9, 1), (11, 2)] (fun m b => (m = 0 ∧ (w3.heap.size ≤ b ∧ b < wm.heap.size ∧ own b = 3)) ∨ (m = 1 ∧ (w3.heap.size ≤ b ∧ b < wm.heap.size ∧ own b = 4)) ∨ (m = 2 ∧ b = gA)) 14 4 iv) b → (w3.heap.size ≤ b ∧ b < wm.heap.size ∧ own b = 3) ∨ (wm).heap.size ≤ b := by
       rintro b ⟨j, hj, hh⟩
       have hj' := of_decide_eq_true (List.all_eq_true.1 (show ((chainOf [(13, 11)] 14 4).all fun j => decide (j ∈ [4])) = true from by kernel_rfl) j hj)
       simp only [List.mem_cons, List.not_mem_nil, or_false] at hj'
       rcases hj' with rfl
       ·
        have q := (hbd.out 4 (mem_of (by kernel_rfl))).1
        rcases hh with hh | ⟨m, hm, hg⟩
        ·
         exact Or.inr (by omega)
        ·
         simp at hm; subst hm; simp at hg; exact Or.inl hg
      have so9 : ∀ b, (foot [(13, 11)] [(4, 0), (9, 1), (11, 2)] (fun m b => (m = 0 ∧ (w3.heap.size ≤ b ∧ b < wm.heap.size ∧ own b = 3)) ∨ (m = 1 ∧ (w3.heap.size ≤ b ∧ b < wm.heap.size ∧ own b = 4)) ∨ (m = 2 ∧ b = gA)) 14 9 iv) b → (w3.heap.size ≤ b ∧ b < wm.heap.size ∧ own b = 4) ∨ (wm).heap.size ≤ b := by
       rintro b ⟨j, hj, hh⟩
       have hj' := of_decide_eq_true (List.all_eq_true.1 (show ((chainOf [(13, 11)] 14 9).all fun j => decide (j ∈ [9])) = true from by kernel_rfl) j hj)
       simp only [List.mem_cons, List.not_mem_nil, or_false] at hj'
       rcases hj' with rfl
       ·
        have q := (hbd.out 9 (mem_of (by kernel_rfl))).1
        rcases hh with hh | ⟨m, hm, hg⟩
        ·
         exact Or.inr (by omega)
        ·
         simp at hm; subst hm; simp at hg; exact Or.inl hg
      have hdis := hsep.out 4 (mem_of (by kernel_rfl)) 9 (mem_of (by kernel_rfl)) (by decide)
      have hd4 := hbd.out 4 (mem_of (by kernel_rfl))
      have hd9 := hbd.out 9 (mem_of (by kernel_rfl))
      rw [h4, h9] at f13
      have hBu := bun_last Hown.out hzm hSp.out.size (fun b hb h1 h2 h3 => hSp.out.block b hb (fun ⟨m, hm⟩ => by
        rcases hm with ⟨_, h⟩ | ⟨_, h⟩ | ⟨_, h⟩
        ·
         exact h1 h.2.2
        ·
         exact h2 h.2.2
        ·
         exact h3 (by rw [h]; exact hgo))) f4 f9 so4 so9 (fun b p1 p2 => by
       obtain ⟨j1, u1, v1⟩ := p1
       obtain ⟨j2, u2, v2⟩ := p2
       have u1' := of_decide_eq_true (List.all_eq_true.1 (show ((chainOf [(13, 11)] 14 4).all fun j => decide (j ∈ [4])) = true from by kernel_rfl) j1 u1)
       have u2' := of_decide_eq_true (List.all_eq_true.1 (show ((chainOf [(13, 11)] 14 9).all fun j => decide (j ∈ [9])) = true from by kernel_rfl) j2 u2)
       simp only [List.mem_cons, List.not_mem_nil, or_false] at u1' u2'
       subst u1' u2'
       have hS := hdis
       unfold Sep at hS
       rcases v1 with v1 | ⟨m1, x1, y1⟩ <;> rcases v2 with v2 | ⟨m2, x2, y2⟩
       ·
        omega
       ·
        simp at x2; subst x2; simp at y2; omega
       ·
        simp at x1; subst x1; simp at y1; omega
       ·
        simp at x1 x2; subst x1 x2; simp at y1 y2; omega) f13
      have HW2 : Hid (MiW w3.heap.size g gA t a w3 wx (prL nx ny A n (ri + 1)) (ri + 1) (FA.take (ri + 1)) (FX.take (ri + 1)) (.slice am Lm.length cm) (.slice (some ⟨g4, 0, none⟩) (ri + 1) cap4) (.slice (some ⟨g9, 0, none⟩) (ri + 1) cap9) []) := by
       show MiW ..
       unfold MiW
       rw [HEL.out, HEA.out, HEX.out]
       exact ⟨hBu, HW.out.2.trans hB⟩
      clear hd he hbd hsep h0 h1 h2 h3 h5 h6 h7 h8 h10 h12 so4 lo4 f4 so9 lo9 f9 f13 f3 f8 q3 q8 hgo V0 V1 V0f V1f K2 hB hSp hdis h4 h9 hBu hd4 hd9
      go_wp2_with fail
      go_roundw
      case rel => exact ⟨ri + 1, _, _, by go_num, by rw [HEL.out]; exact hi1, by rw [HEL.out]; exact Hlm.out, HW2.out⟩
      case measure => simp [intOf]; omega
     -- dev)
    have hm1 : (m : Int) < (A : Int) := by omega
    have hmat : (m : Int) < atomsN t := by rw [HA.out]; exact hm1
    go_upto_region 12 with fail
    refine mix12_i hB3 HXb.out HYb.out Hr.out.two.1 Hr'.out.two.1 Hok.out Hok'.out hmat (by omega) hx2 hx4 hlive HW.out ?_
    intro g8 cap8 wx u55 u56 u57 u58 u59 u60 u61 u62 u63 u64 u65 u66 u67 u68 u69 u70 u71 u72 u73 u74 u75 u76 u77 u78 u79 u80 u81 u82 u83 hWc
    have HACs : Hid (((AC.take (m + 1)).map D.bool) = (AC.take m).map D.bool ++ [D.bool (mixB mix (hasN ac x1 m) (hasN bc x2 m))]) := by show _ = _; rw [HAs.out m hmlt, List.map_append]; rfl
    rw [← HACs.out] at hWc
    have HW6 := Lib.hid hWc
    have hzx := HW6.out.2.size
    obtain ⟨RR, hRR⟩ : ∃ RR, rowM nx ny PF n m (x1, x2) = RR := ⟨_, rfl⟩
    have hRRl : RR.length = n := by rw [← hRR, rowM_len]
    have HRRl := Lib.hid hRRl
    have HRRs := Lib.hid (fun (q : Nat) (hq : q < n) => by rw [← hRR]; exact rowM_take (nx := nx) (ny := ny) (L := PF) (m := m) (p := (x1, x2)) hq : ∀ q, q < n → RR.take (q + 1) = RR.take q ++ [numO PF (nxtP nx ny m q (x1, x2))])
    have HRWs : Hid (RW.take (m + 1) = RW.take m ++ [RR]) := by show _ = _; rw [HRs.out m hmlt, hRR]
    obtain ⟨g0, g1, -, -, -, -, -, -, ltX⟩ := (HXb.out.below hWc.2).all4
    have hst : Hid (MiW w3.heap.size g gA t a w3 (wx.alloc (.cells #[] 2)) (prC nx ny A n ri (x1, x2) m 0) ri (FA.take ri) (FX.take ri) (.slice am Lm.length cm) (.slice aA ri cA) (.slice aX ri cX) [.app 4 1 (m + 1) ((AC.take (m + 1)).map D.bool) (.slice (some ⟨g8, 0, none⟩) (m + 1) cap8), .app 42 1 m ((RW.take m).map intsD) (.slice a6 m c6), .app 2 1 0 [] (.slice (some ⟨wx.heap.size, 0, none⟩) 0 0)]) := by
     have h := hWc.1.push_empty hzx 2 1
     show MiW ..
     rw [HLm.out]
     exact ⟨by simpa using h, hWc.2.alloc hzx (.cells #[] 2)⟩
    clear hWc hRR hRRl HW HACs HAs HRs HFAs HFXs HAl HRl
    go_wp2_with fail
    clear g0 g1 ltX
    go_loopw [8, 17, 88] (fun v0 v7 j wr => ∃ q : Nat, j = .int .i64 q ∧ q ≤ n ∧ (prC nx ny A n ri (x1, x2) m q).length ≤ 60 ∧ MiW w3.heap.size g gA t a w3 wr (prC nx ny A n ri (x1, x2) m q) ri (FA.take ri) (FX.take ri) v0 (.slice aA ri cA) (.slice aX ri cX) [.app 4 1 (m + 1) ((AC.take (m + 1)).map D.bool) (.slice (some ⟨g8, 0, none⟩) (m + 1) cap8), .app 42 1 m ((RW.take m).map intsD) (.slice a6 m c6), .app 2 1 q ((RR.take q).map D.int) v7]) (fun _ _ j _ => n - (intOf j).toNat)
    case atStart => exact ⟨0, rfl, by omega, by rw [HLm.out]; exact hlm, hst.out⟩
    case round =>
     clear hst
     obtain ⟨q, rfl, hqn, hlq, hW⟩ := hrel
     obtain ⟨wq, rfl⟩ : ∃ v, v = wr := ⟨_, rfl⟩
     have hat := prL_at (m := m) (k := q) HXi.out
     obtain ⟨Lc, hLc⟩ : ∃ Lc, prC nx ny A n ri (x1, x2) m q = Lc := ⟨_, rfl⟩
     rw [hLc] at hW hlq hat
     obtain ⟨ap, cp, rfl, q5', q6'⟩ := hW.1.shape 0 rfl
     obtain ⟨a7, c7, rfl, q9, q10⟩ := hW.1.shape 7 rfl
     unfold maxLen at q6' q10
     have HLc := Lib.hid hLc
     have HWq := Lib.hid hW
     have hq0 := Int.natCast_nonneg q
     have hzq := hW.2.size
     have hgb := (hW.1.one 1 rfl).2
     have hilc := (List.getElem?_eq_some_iff.1 hat).1
     clear hat
     by_cases hqlt : q < n
     rotate_left
     ·
      -- dev(
      obtain rfl : n = q := by omega
      have HEL : Hid (prC nx ny A n ri (x1, x2) (m + 1) 0 = Lc) := by show _ = _; rw [← prC_line, HLc.out]
      have HEX : Hid ((RW.take (m + 1)).map intsD = (RW.take m).map intsD ++ [D.sl 1 n ((RR.take n).map D.int)]) := by
       show _ = _
       rw [HRWs.out, List.map_append, List.take_of_length_le (l := RR) (by rw [HRRl.out]; omega)]
       show _ ++ [nestD D.int RR] = _
       unfold nestD
       rw [HRRl.out]
      have hBu := HWq.out.1.alloc (.cells #[.slice a7 n c7] 42)
      have hNb := Blk.new1 wq 42 (.slice a7 n c7)
      clear hW hLc
      go_wp2_with (at_builtin; go_must (refine wpList_append_bun_own _ rfl _ _ 76 rfl 42 24 Try.underlying76 info_i64s hBu (by simp; omega) 6 _ rfl rfl 7 (by decide) _ rfl ⟨wq.heap.size, 0, none⟩ rfl (news_blk hNb) (by omega) (by unfold maxLen; omega) ?_); intro g8 cap8 w8 hbun8 hb8)
      have Hfin := Lib.hid (And.intro (hbun8.take 7) ((HWq.out.2.alloc hzq (.cells #[.slice a7 n c7] 42)).trans hb8))
      clear hbun8 hb8 hBu hNb
      go_wp2_with fail
      go_roundw
      case rel =>
       refine ⟨m + 1, by go_num, by omega, by rw [HEL.out]; exact hlq, ?_⟩
       have h := Hfin.out
       unfold MiW
       rw [HEL.out, HEX.out]
       exact h
      case measure => simp [intOf]; omega
      -- dev)
     have hqa : (q : Int) < a := by omega
     obtain ⟨hall, -⟩ := HP2.out ri (x1, x2) m q HXi.out
     have hlive2 := prC_live (m := m) (k := q) HXi.out
     rw [hLc] at hall hlive2
     have Hlive := Lib.hid hlive2
     have HRq := Lib.hid (HRRs.out q hqlt)
     clear hW hLc hall hlive2 HRRs HRRl HRWs HP2 HP4 hlive
     go_wp2_with fail
     refine region_rg 12 [] [0, 1, 2, 3, 4, 5, 6, 7, 8, 9, 10, 11] (fun i iv vs wx => match i with
      | 0 => vs 0 = .agg #[.int .i64 t, .int .i64 a, .slice (some ⟨ub1, uo1, none⟩) ac.length c, .slice u nx.length d]
      | 1 => vs 1 = .int .i64 x1
      | 2 => vs 2 = .int .i64 m
      | 3 => vs 3 = .int .i64 q
      | 4 => vs 4 = .int .i64 (goN nx x1 m q)
      | 5 => vs 5 = .agg #[.int .i64 t, .int .i64 a, .slice (some ⟨ub2, uo2, none⟩) bc.length c', .slice u' ny.length d']
      | 6 => vs 6 = .int .i64 x2
      | 7 => vs 7 = .int .i64 m
      | 8 => vs 8 = .int .i64 q
      | 9 => vs 9 = .int .i64 (goN ny x2 m q)
      | 10 => vs 10 = .agg #[vs 4, vs 9]
      | 11 => vs 11 = .pointer (some ⟨(iv 11).1, 0, none⟩) ∧ (iv 11).2 = (iv 11).1 + 1 ∧ Blk wx (iv 11).1 91 [.int .i64 0, .int .i64 0]
      | _ => True) (fun vs wx => ∃ p, vs 11 = .pointer (some ⟨p, 0, none⟩) ∧ wq.heap.size ≤ p ∧ Blk wx p 91 [.int .i64 (goN nx x1 m q), .int .i64 (goN ny x2 m q)] ∧ Below wq.heap.size wq wx)
      (by kernel_rfl) (by kernel_rfl) (by kernel_rfl) (by kernel_rfl) ?hJ ?hX ?hF ?hstep ?hstore ?hQ (by kernel_rfl)
     case hX =>
      intro i o t k hi ho hop iv vs w hj
      simp at hi
     case hF =>
      intro vs vs' wx h hf
      have e11 := h 11 (mem_of (by kernel_rfl))
      show ∃ p, vs' 11 = .pointer (some ⟨p, 0, none⟩) ∧ wq.heap.size ≤ p ∧ Blk wx p 91 [.int .i64 (goN nx x1 m q), .int .i64 (goN ny x2 m q)] ∧ Below wq.heap.size wq wx
      rw [← e11]
      exact hf
     case hJ =>
      intro i hi iv iv' vs vs' wx wx' ha hv hb hj
      simp only [List.mem_cons, List.not_mem_nil, or_false] at hi
      rcases hi with rfl | rfl | rfl | rfl | rfl | rfl | rfl | rfl | rfl | rfl | rfl | rfl
      ·
       have e0 := hv.out 0 (mem_of (by kernel_rfl))
       have hj' : vs 0 = .agg #[.int .i64 t, .int .i64 a, .slice (some ⟨ub1, uo1, none⟩) ac.length c, .slice u nx.length d] := hj
       show vs' 0 = .agg #[.int .i64 t, .int .i64 a, .slice (some ⟨ub1, uo1, none⟩) ac.length c, .slice u nx.length d]
       rw [← e0]
       exact hj'
      ·
       have e1 := hv.out 1 (mem_of (by kernel_rfl))
       have hj' : vs 1 = .int .i64 x1 := hj
       show vs' 1 = .int .i64 x1
       rw [← e1]
       exact hj'
      ·
       have e2 := hv.out 2 (mem_of (by kernel_rfl))
       have hj' : vs 2 = .int .i64 m := hj
       show vs' 2 = .int .i64 m
       rw [← e2]
       exact hj'
      ·
       have e3 := hv.out 3 (mem_of (by kernel_rfl))
       have hj' : vs 3 = .int .i64 q := hj
       show vs' 3 = .int .i64 q
       rw [← e3]
       exact hj'
      ·
       have e4 := hv.out 4 (mem_of (by kernel_rfl))
       have hj' : vs 4 = .int .i64 (goN nx x1 m q) := hj
       show vs' 4 = .int .i64 (goN nx x1 m q)
       rw [← e4]
       exact hj'
      ·
       have e5 := hv.out 5 (mem_of (by kernel_rfl))
       have hj' : vs 5 = .agg #[.int .i64 t, .int .i64 a, .slice (some ⟨ub2, uo2, none⟩) bc.length c', .slice u' ny.length d'] := hj
       show vs' 5 = .agg #[.int .i64 t, .int .i64 a, .slice (some ⟨ub2, uo2, none⟩) bc.length c', .slice u' ny.length d']
       rw [← e5]
       exact hj'
      ·
       have e6 := hv.out 6 (mem_of (by kernel_rfl))
       have hj' : vs 6 = .int .i64 x2 := hj
       show vs' 6 = .int .i64 x2
       rw [← e6]
       exact hj'
      ·
       have e7 := hv.out 7 (mem_of (by kernel_rfl))
       have hj' : vs 7 = .int .i64 m := hj
       show vs' 7 = .int .i64 m
       rw [← e7]
       exact hj'
      ·
       have e8 := hv.out 8 (mem_of (by kernel_rfl))
       have hj' : vs 8 = .int .i64 q := hj
       show vs' 8 = .int .i64 q
       rw [← e8]
       exact hj'
      ·
       have e9 := hv.out 9 (mem_of (by kernel_rfl))
       have hj' : vs 9 = .int .i64 (goN ny x2 m q) := hj
       show vs' 9 = .int .i64 (goN ny x2 m q)
       rw [← e9]
       exact hj'
      ·
       have e10 := hv.out 10 (mem_of (by kernel_rfl))
       have e4 := hv.out 4 (mem_of (by kernel_rfl))
       have e9 := hv.out 9 (mem_of (by kernel_rfl))
       have hj' : vs 10 = .agg #[vs 4, vs 9] := hj
       show vs' 10 = .agg #[vs' 4, vs' 9]
       rw [← e4, ← e9, ← e10]
       exact hj'
      ·
       have e11 := hv.out 11 (mem_of (by kernel_rfl))
       have g11 := ha.out 11 (mem_of (by kernel_rfl))
       obtain ⟨q1, q3, q2⟩ := hj
       show vs' 11 = .pointer (some ⟨(iv' 11).1, 0, none⟩) ∧ (iv' 11).2 = (iv' 11).1 + 1 ∧ Blk wx' (iv' 11).1 91 [.int .i64 0, .int .i64 0]
       rw [← e11, ← g11]
       exact ⟨q1, q3, q2.below hb⟩
     case hstep =>
      intro i hi o ho iv vs w1 hB hd hbd hsep K hK
      simp only [List.mem_cons, List.not_mem_nil, or_false] at hi
      have hbw := HWq.out.2.trans (hB.mono hzq)
      have hrA := Hr.out.below (hB3.trans (hbw.mono hB3.size))
      have hrB := Hr'.out.below (hB3.trans (hbw.mono hB3.size))
      obtain ⟨xa0, xa1, xa2, xa3, -, -, -, -, ltA⟩ := (HXb.out.below hbw).all4
      obtain ⟨ya0, ya1, ya2, ya3, -, -, -, -, ltB⟩ := (HYb.out.below hbw).all4
      rcases hi with rfl | rfl | rfl | rfl | rfl | rfl | rfl | rfl | rfl | rfl | rfl | rfl
      all_goals
       simp at ho
       subst ho
       simp only [putFrom, puts]
      ·
       go_wp2_with fail
       exact Onward.mk (hK (.agg #[.int .i64 t, .int .i64 a, .slice (some ⟨ub1, uo1, none⟩) ac.length c, .slice u nx.length d]) _ _ (by simp only [putFrom, puts]) (Below.refl _ _) (fun iv' _ _ => rfl))
      ·
       go_wp2_with fail
       exact Onward.mk (hK (.int .i64 x1) _ _ (by simp only [putFrom, puts]) (Below.refl _ _) (fun iv' _ _ => rfl))
      ·
       go_wp2_with fail
       exact Onward.mk (hK (.int .i64 m) _ _ (by simp only [putFrom, puts]) (Below.refl _ _) (fun iv' _ _ => rfl))
      ·
       go_wp2_with fail
       exact Onward.mk (hK (.int .i64 q) _ _ (by simp only [putFrom, puts]) (Below.refl _ _) (fun iv' _ _ => rfl))
      ·
       have h0 : vs 0 = .agg #[.int .i64 t, .int .i64 a, .slice (some ⟨ub1, uo1, none⟩) ac.length c, .slice u nx.length d] := hd.out 0 (mem_of (by kernel_rfl)) (by decide)
       have h1 : vs 1 = .int .i64 x1 := hd.out 1 (mem_of (by kernel_rfl)) (by decide)
       have h2 : vs 2 = .int .i64 m := hd.out 2 (mem_of (by kernel_rfl)) (by decide)
       have h3 : vs 3 = .int .i64 q := hd.out 3 (mem_of (by kernel_rfl)) (by decide)
       go_wp2_with fail
       refine (nextOf_i (Rds.two hrA).1 (Rds.two hrA).2 Hok.out hx2 hmat hqa).mono ?_
       rintro e w2 ⟨rfl, hb⟩
       go_wp2_with fail
       exact Onward.mk (hK (.int .i64 (goN nx x1 m q)) _ _ (by simp only [putFrom, puts, h0, h1, h2, h3]) hb (fun iv' _ _ => rfl))
      ·
       go_wp2_with fail
       exact Onward.mk (hK (.agg #[.int .i64 t, .int .i64 a, .slice (some ⟨ub2, uo2, none⟩) bc.length c', .slice u' ny.length d']) _ _ (by simp only [putFrom, puts]) (Below.refl _ _) (fun iv' _ _ => rfl))
      ·
       go_wp2_with fail
       exact Onward.mk (hK (.int .i64 x2) _ _ (by simp only [putFrom, puts]) (Below.refl _ _) (fun iv' _ _ => rfl))
      ·
       go_wp2_with fail
       exact Onward.mk (hK (.int .i64 m) _ _ (by simp only [putFrom, puts]) (Below.refl _ _) (fun iv' _ _ => rfl))
      ·
       go_wp2_with fail
       exact Onward.mk (hK (.int .i64 q) _ _ (by simp only [putFrom, puts]) (Below.refl _ _) (fun iv' _ _ => rfl))
      ·
       have h5 : vs 5 = .agg #[.int .i64 t, .int .i64 a, .slice (some ⟨ub2, uo2, none⟩) bc.length c', .slice u' ny.length d'] := hd.out 5 (mem_of (by kernel_rfl)) (by decide)
       have h6 : vs 6 = .int .i64 x2 := hd.out 6 (mem_of (by kernel_rfl)) (by decide)
       have h7 : vs 7 = .int .i64 m := hd.out 7 (mem_of (by kernel_rfl)) (by decide)
       have h8 : vs 8 = .int .i64 q := hd.out 8 (mem_of (by kernel_rfl)) (by decide)
       go_wp2_with fail
       refine (nextOf_i (Rds.two hrB).1 (Rds.two hrB).2 Hok'.out hx4 hmat hqa).mono ?_
       rintro e w2 ⟨rfl, hb⟩
       go_wp2_with fail
       exact Onward.mk (hK (.int .i64 (goN ny x2 m q)) _ _ (by simp only [putFrom, puts, h5, h6, h7, h8]) hb (fun iv' _ _ => rfl))
      ·
       have h4 : vs 4 = .int .i64 (goN nx x1 m q) := hd.out 4 (mem_of (by kernel_rfl)) (by decide)
       have h9 : vs 9 = .int .i64 (goN ny x2 m q) := hd.out 9 (mem_of (by kernel_rfl)) (by decide)
       go_wp2_with fail
       exact Onward.mk (hK (.agg #[.int .i64 (goN nx x1 m q), .int .i64 (goN ny x2 m q)]) _ _ (by simp only [putFrom, puts, h4, h9]) (Below.refl _ _) (fun iv' _ _ => by
        show (.agg #[.int .i64 (goN nx x1 m q), .int .i64 (goN ny x2 m q)] : Value) = .agg #[vs 4, vs 9]
        simp only [h4, h9]))
      ·
       go_wp2_with fail
       exact Onward.mk (hK (.pointer (some ⟨w1.heap.size, 0, none⟩)) _ _ (by simp only [putFrom, puts]) (Below.alloc (Below.refl _ _) (Nat.le_refl _) _) (fun iv' _ hi => by
        show Value.pointer (some ⟨w1.heap.size, 0, none⟩) = .pointer (some ⟨(iv' 11).1, 0, none⟩) ∧ (iv' 11).2 = (iv' 11).1 + 1 ∧ Blk _ (iv' 11).1 91 [.int .i64 0, .int .i64 0]
        rw [hi]
        exact ⟨rfl, by simp, Blk.new2 _ _ _ _⟩))
     case hstore =>
      intro o ho iv vs w1 hB hd hsep K hK
      simp at ho
      subst ho
      simp only [putFrom, puts]
      have h0 : vs 0 = .agg #[.int .i64 t, .int .i64 a, .slice (some ⟨ub1, uo1, none⟩) ac.length c, .slice u nx.length d] := (hd.out 0 (mem_of (by kernel_rfl))).1
      have h1 : vs 1 = .int .i64 x1 := (hd.out 1 (mem_of (by kernel_rfl))).1
      have h2 : vs 2 = .int .i64 m := (hd.out 2 (mem_of (by kernel_rfl))).1
      have h3 : vs 3 = .int .i64 q := (hd.out 3 (mem_of (by kernel_rfl))).1
      have h4 : vs 4 = .int .i64 (goN nx x1 m q) := (hd.out 4 (mem_of (by kernel_rfl))).1
      have h5 : vs 5 = .agg #[.int .i64 t, .int .i64 a, .slice (some ⟨ub2, uo2, none⟩) bc.length c', .slice u' ny.length d'] := (hd.out 5 (mem_of (by kernel_rfl))).1
      have h6 : vs 6 = .int .i64 x2 := (hd.out 6 (mem_of (by kernel_rfl))).1
      have h7 : vs 7 = .int .i64 m := (hd.out 7 (mem_of (by kernel_rfl))).1
      have h8 : vs 8 = .int .i64 q := (hd.out 8 (mem_of (by kernel_rfl))).1
      have h9 : vs 9 = .int .i64 (goN ny x2 m q) := (hd.out 9 (mem_of (by kernel_rfl))).1
      have h10 : vs 10 = .agg #[vs 4, vs 9] := (hd.out 10 (mem_of (by kernel_rfl))).1
      obtain ⟨⟨h11, q11, f11⟩, b11, -, u11⟩ := hd.out 11 (mem_of (by kernel_rfl))
      have k10 : vs 10 = .agg #[.int .i64 (goN nx x1 m q), .int .i64 (goN ny x2 m q)] := by rw [h10, h4, h9]
      obtain ⟨p, hp⟩ : ∃ p, (iv 11).1 = p := ⟨_, rfl⟩
      rw [hp] at h11 f11 b11
      have r0 := f11.c0
      have r1 := f11.c1
      have z0 := f11.frozen 0
      have z1 := f11.frozen 1
      have ltF := f11.lt
      clear h0 h1 h2 h3 h4 h5 h6 h7 h8 h9 h10
      go_wp2_with fail
      refine Onward.mk (hK _ _ (by simp only [putFrom, puts, h11, k10]) ⟨p, h11, b11, (f11.set 0 _).set 1 _, ?_⟩)
      exact Below.setCell (Below.setCell hB (by simp; omega) _) (by simp; omega) _
     case hQ =>
      rintro zs wn hE ⟨p, h8, lp, hP, hb⟩
      simp only [putFrom, puts, h8]
      clear h8 hE
      obtain ⟨X0, hXe⟩ : ∃ X0, goN nx x1 m q = X0 := ⟨_, rfl⟩
      obtain ⟨Y0, hYe⟩ : ∃ Y0, goN ny x2 m q = Y0 := ⟨_, rfl⟩
      have hXb := goN_bd Hok.out (s := x1) (m := m) (k := q) hx2 hmat hqa
      have hYb := goN_bd Hok'.out (s := x2) (m := m) (k := q) hx4 hmat hqa
      rw [hXe] at hP hXb
      rw [hYe] at hP hYb
      have HXe : Hid (goN nx ((x1, x2) : Int × Int).1 m q = X0) := hXe
      have HYe : Hid (goN ny ((x1, x2) : Int × Int).2 m q = Y0) := hYe
      have Hkey := Lib.hid (keyM (p := (X0, Y0)) ⟨hXb.1, by omega⟩ ⟨hYb.1, by omega⟩)
      have HB3 := Lib.hid (HWq.out.below hzq hb)
      have hz3 := hb.size
      have n0 := hP.c0
      have n1 := hP.c1
      have ltN := hP.lt
      have HN2 := Lib.hid hP
      have HP3 := Lib.hid (HWq.out.1.push hb (it := .box p 91 [.int .i64 X0, .int .i64 Y0]) ⟨⟨by omega, hP.lt, lp⟩, hP⟩)
      obtain ⟨M, hM, hfd⟩ := (HB3.out.1.one 1 rfl).1
      have Hfd := Lib.hid hfd
      have hzn := HB3.out.2.size
      clear hXe hYe hb hP hfd HWq
      by_cases hneg : X0 < 0 ∧ Y0 < 0
      ·
       -- dev(
       have hxy : (X0, Y0) = ((-1 : Int), (-1 : Int)) := Prod.ext (show X0 = -1 by omega) (show Y0 = -1 by omega)
       have hnx := nxtP_none HXe.out HYe.out hneg.1 hneg.2
       have HEL : Hid (prC nx ny A n ri (x1, x2) m (q + 1) = Lc) := by show _ = _; rw [prC_none hmlt hqlt hnx, HLc.out]
       have HNU : Hid (numO PF (nxtP nx ny m q (x1, x2)) = -1) := by show _ = _; rw [hnx]; rfl
       have Hfind : Hid (findM M (X0, Y0) = some (-1)) := by show _ = _; rw [Hfd.out]; unfold numF; rw [if_pos hxy]
       clear hneg hnx hxy
       have hBu := HB3.out.1.alloc (.cells #[.int .i64 (-1)] 2)
       have hNb := Blk.new1 wn 2 (.int .i64 (-1))
       go_wp2_with (first
        | (at_lookup; refine wpList_lookup_at _ rfl _ _ 93 true rfl 91 2 lawM Try.underlying93 (.int .i64 0) (zeroNm _) kfP_inj g hM (X0, Y0) Hkey.out rfl rfl (some (-1)) Hfind.out ?_; simp only [lookV])
        | (at_lookup; refine wpList_lookup_at _ rfl _ _ 93 false rfl 91 2 lawM Try.underlying93 (.int .i64 0) (zeroNm _) kfP_inj g hM (X0, Y0) Hkey.out rfl rfl (some (-1)) Hfind.out ?_; simp only [lookV, Bool.false_eq_true, if_false])
        | (at_builtin; go_must (refine wpList_append_bun _ rfl _ _ 42 rfl 2 (.int .i64 0) 1 8 Try.underlying42 info_int64 rfl (by decide) hBu (by simp <;> omega) 7 _ rfl rfl ⟨wn.heap.size, 0, none⟩ 1 1 [.int .i64 (-1)] rfl (news_blk hNb) rn_none rfl (by simp [Value.oneCell']) (by omega) (by omega) (by unfold maxLen; omega) ?_); intro g8 cap8 w8 hbun8 hb8))
       have Hfin := Lib.hid (And.intro hbun8 ((HB3.out.2.alloc hzn (.cells #[.int .i64 (-1)] 2)).trans hb8))
       clear hbun8 hb8 hBu hNb
       go_wp2_with fail
       go_roundw
       case rel =>
        refine ⟨q + 1, by go_num, by omega, by rw [HEL.out]; exact hlq, ?_, Hfin.out.2⟩
        have h := Hfin.out.1
        rw [HEL.out, HRq.out, HNU.out, List.map_append]
        exact h
       case measure => simp [intOf]; omega
       -- dev)
      have hnx := nxtP_some HXe.out HYe.out hneg
      have hxy : (X0, Y0) ≠ ((-1 : Int), (-1 : Int)) := fun e => by
       simp only [Prod.mk.injEq] at e
       omega
      by_cases hin : (X0, Y0) ∈ Lc
      ·
       -- dev(
       have HEL : Hid (prC nx ny A n ri (x1, x2) m (q + 1) = Lc) := by show _ = _; rw [prC_was hmlt hqlt hnx (by rw [HLc.out]; exact hin), HLc.out]
       obtain ⟨j0, hj1, hj2⟩ := at_num hin
       obtain ⟨V, hV⟩ : ∃ V : Int, (j0 : Int) = V := ⟨_, rfl⟩
       have HNU : Hid (numO PF (nxtP nx ny m q (x1, x2)) = V) := by show _ = _; rw [← hV]; exact HP5.out ri m q j0 (x1, x2) (X0, Y0) HXi.out _ hnx (by rw [HLc.out]; exact hj2)
       have Hfind : Hid (findM M (X0, Y0) = some V) := by show _ = _; rw [Hfd.out]; unfold numF; rw [if_neg hxy, if_pos hin, hj1, hV]
       clear hneg hnx hxy hin hj1 hj2 hV
       have hBu := HB3.out.1.alloc (.cells #[.int .i64 (V)] 2)
       have hNb := Blk.new1 wn 2 (.int .i64 (V))
       go_wp2_with (first
        | (at_lookup; refine wpList_lookup_at _ rfl _ _ 93 true rfl 91 2 lawM Try.underlying93 (.int .i64 0) (zeroNm _) kfP_inj g hM (X0, Y0) Hkey.out rfl rfl (some (V)) Hfind.out ?_; simp only [lookV])
        | (at_lookup; refine wpList_lookup_at _ rfl _ _ 93 false rfl 91 2 lawM Try.underlying93 (.int .i64 0) (zeroNm _) kfP_inj g hM (X0, Y0) Hkey.out rfl rfl (some (V)) Hfind.out ?_; simp only [lookV, Bool.false_eq_true, if_false])
        | (at_builtin; go_must (refine wpList_append_bun _ rfl _ _ 42 rfl 2 (.int .i64 0) 1 8 Try.underlying42 info_int64 rfl (by decide) hBu (by simp <;> omega) 7 _ rfl rfl ⟨wn.heap.size, 0, none⟩ 1 1 [.int .i64 (V)] rfl (news_blk hNb) rn_none rfl (by simp [Value.oneCell']) (by omega) (by omega) (by unfold maxLen; omega) ?_); intro g8 cap8 w8 hbun8 hb8))
       have Hfin := Lib.hid (And.intro hbun8 ((HB3.out.2.alloc hzn (.cells #[.int .i64 (V)] 2)).trans hb8))
       clear hbun8 hb8 hBu hNb
       go_wp2_with fail
       go_roundw
       case rel =>
        refine ⟨q + 1, by go_num, by omega, by rw [HEL.out]; exact hlq, ?_, Hfin.out.2⟩
        have h := Hfin.out.1
        rw [HEL.out, HRq.out, HNU.out, List.map_append]
        exact h
       case measure => simp [intOf]; omega
       -- dev)
      have HEL : Hid (prC nx ny A n ri (x1, x2) m (q + 1) = Lc ++ [(X0, Y0)]) := by show _ = _; rw [prC_new hmlt hqlt hnx (by rw [HLc.out]; exact hin), HLc.out]
      have HNU : Hid (numO PF (nxtP nx ny m q (x1, x2)) = (Lc.length : Int)) := HP5.out ri m (q + 1) Lc.length (x1, x2) (X0, Y0) HXi.out _ hnx (by rw [HEL.out]; simp)
      have Hfind : Hid (findM M (X0, Y0) = none) := by show _ = _; rw [Hfd.out]; unfold numF; rw [if_neg hxy, if_neg hin]
      have Hin := Lib.hid hin
      have Hxy := Lib.hid hxy
      clear hneg hnx hin hxy
      by_cases h60 : Lc.length = 60
      ·
       -- dev(
       have c60 : ((Lc.length : Int) == 60) = true := by simp [h60]
       obtain ⟨y1, y2, y3, y4, y5⟩ := HN.out (fun hg => by have := HP6.out hg ri (x1, x2) m (q + 1) HXi.out; rw [HEL.out, List.length_append] at this; simp at this; omega)
       have HYY := Lib.hid (And.intro y1 (And.intro y2 (And.intro y3 (And.intro y4 y5))))
       have R := HR.out.below HB3.out.2
       obtain ⟨r0, r1, r2, r3, z0, z1, z2, z3, ltR⟩ := R.all4
       clear y1 y2 y3 y4 y5 h60
       go_wp2_with (at_lookup; refine wpList_lookup_at _ rfl _ _ 93 true rfl 91 2 lawM Try.underlying93 (.int .i64 0) (zeroNm _) kfP_inj g hM (X0, Y0) Hkey.out rfl rfl none Hfind.out ?_; simp only [lookV])
       obtain ⟨w9, e9, T3, hs5⟩ := set4 R (.int .i64 0) (.int .i64 0) (.slice none 0 0) (.slice none 0 0)
       rw [e9]
       obtain ⟨t0, t1, t2, t3, -, -, -, -, -⟩ := T3.all4
       refine bodyPost_ret (v := .tuple #[.agg #[.int .i64 0, .int .i64 0, .slice none 0 0, .slice none 0 0], .int .i64 3]) (by simp [results, Try.results30, go_sem, t0, t1, t2, t3]) rfl ?_
       obtain ⟨y1, y2, y3, y4, y5⟩ := HYY.out
       rw [y1, y2, y3, y4, y5]
       exact ⟨none, 0, none, 0, rfl, nil_au, (hB3.trans (HB3.out.2.mono hB3.size)).trans (hs5.below (by have := hB3.size; omega) (fun y hy => by omega))⟩
       -- dev)
      -- dev(
      have c60 : ((Lc.length : Int) == 60) = false := beq_eq_false_iff_ne.2 (by omega)
      have hl59 : Lc.length ≤ 59 := by omega
      clear h60
      go_wp2_with (first
       | (at_lookup; refine wpList_lookup_at _ rfl _ _ 93 true rfl 91 2 lawM Try.underlying93 (.int .i64 0) (zeroNm _) kfP_inj g hM (X0, Y0) Hkey.out rfl rfl none Hfind.out ?_; simp only [lookV])
       | (at_mapUpdate; go_must (refine wpList_mapUpdate_at _ rfl _ _ _ 93 rfl 91 2 lawM Try.underlying93 kfP_inj g hM (X0, Y0) Hkey.out (Lc.length : Int) rfl rfl rfl ?_); intro w10 hM10 ho10; have hz10 := ho10.size; have N3 := HN2.out.keep (ho10.block _ HN2.out.lt (by simp; omega)); have n0 := N3.c0; have n1 := N3.c1; have ltN := N3.lt; have hBl := (HP3.out.turn_one (Q := NumP g (Lc ++ [(X0, Y0)])) 1 rfl ho10 (NumP.hold ⟨_, hM10, num_put Hfd.out Hin.out Hxy.out⟩)).alloc (.cells #[.int .i64 X0, .int .i64 Y0] 91); have hNl := Blk.made w10 91 #[.int .i64 X0, .int .i64 Y0]; have Hbe10 := Lib.hid (HB3.out.2.trans (ho10.below (by omega) (fun b hb => by simp at hb; omega))); have hzB := Hbe10.out.size; clear hM10 ho10 N3)
       | (at_builtin; (refine wpList_append_bun _ rfl _ _ 92 rfl 91 (.agg #[.int .i64 0, .int .i64 0]) 2 16 Try.underlying92 info_pq rfl (by decide) hBl (by simp; omega) 0 _ rfl rfl ⟨w10.heap.size, 0, none⟩ 1 1 [.int .i64 X0, .int .i64 Y0] rfl (news_blk hNl) (none_own2 (X0, Y0)) rfl (by simp [Value.oneCell']) (by omega) (by omega) (by unfold maxLen; omega) ?_); intro g7 cap7 w7 hbun7 hb7; have N4 := (hbun7.box 8 rfl).1; have n0 := N4.c0; have n1 := N4.c1; have ltN := N4.lt; have hz7 : w10.heap.size + 1 ≤ w7.heap.size := (by have q := hb7.size; simpa using q); obtain ⟨M7, hM7, hfd7⟩ := (hbun7.one 1 rfl).1; have Hfind7 : Hid (findM M7 (X0, Y0) = some (Lc.length : Int)) := (by show _ = _; rw [hfd7]; unfold numF; rw [if_neg Hxy.out, if_pos (by simp), numO_new Hin.out]); have hBu := hbun7.alloc (.cells #[.int .i64 (Lc.length : Int)] 2); have hNb := Blk.new1 w7 2 (.int .i64 (Lc.length : Int)); have Hbe7 := Lib.hid ((Hbe10.out.alloc (by omega) (.cells #[.int .i64 X0, .int .i64 Y0] 91)).trans hb7); clear hbun7 hb7 N4 hfd7)
       | (at_lookup; refine wpList_lookup_at _ rfl _ _ 93 false rfl 91 2 lawM Try.underlying93 (.int .i64 0) (zeroNm _) kfP_inj g hM7 (X0, Y0) Hkey.out rfl rfl (some (Lc.length : Int)) Hfind7.out ?_; simp only [lookV, Bool.false_eq_true, if_false])
       | (at_builtin; go_must (refine wpList_append_bun _ rfl _ _ 42 rfl 2 (.int .i64 0) 1 8 Try.underlying42 info_int64 rfl (by decide) hBu (by simp <;> omega) 7 _ rfl rfl ⟨w7.heap.size, 0, none⟩ 1 1 [.int .i64 (Lc.length : Int)] rfl (news_blk hNb) rn_none rfl (by simp [Value.oneCell']) (by omega) (by omega) (by unfold maxLen; omega) ?_); intro g8 cap8 w8 hbun8 hb8))
      have Hfin := Lib.hid (And.intro (hbun8.take 8) ((Hbe7.out.alloc (by omega) (.cells #[.int .i64 (Lc.length : Int)] 2)).trans hb8))
      clear hbun8 hb8 hBu hNb hBl hNl hM hM7
      go_wp2_with fail
      go_roundw
      case rel =>
       refine ⟨q + 1, by go_num, by omega, by rw [HEL.out]; simp; omega, ?_, Hfin.out.2⟩
       have h := Hfin.out.1
       rw [HEL.out, HRq.out, HNU.out, List.map_append, List.length_append, pqD_snoc]
       exact h
      case measure => simp [intOf]; omega
      -- dev)
end Go.Proofs.Ytfhlddbngjlhbaa
