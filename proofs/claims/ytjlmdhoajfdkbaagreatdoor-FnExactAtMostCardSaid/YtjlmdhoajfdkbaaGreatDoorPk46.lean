/-
  Parts of a proof, joined: AtI, LawAtMost. No condition.
-/
import Derived.Test.YtjlmdhoajfdkbaaGreatDoorPk24
import Derived.Test.YtjlmdhoajfdkbaaGreatDoorPk45
namespace Go.Proofs.YtjlmdhoajfdkbaaGreatDoor
set_option linter.unusedVariables false
set_option linter.unusedSimpArgs false
open Go.ChangeShapes Go.WideShapes Go.ChangeAt Go.RowKit Go.Deep
theorem box5 (w : World) (t : TypeId) (a b c d e : Value) : ∃ w', w.alloc (.cells #[a, b, c, d, e] t) = w' ∧ Blk w' w.heap.size t [a, b, c, d, e] ∧ Below w.heap.size w w' ∧ w'.heap.size = w.heap.size + 1 :=
 ⟨_, rfl, Blk.made w t _, Below.alloc (Below.refl _ _) (Nat.le_refl _) _, by simp⟩
set_option maxRecDepth 100000 in
set_option maxHeartbeats 8000000 in
theorem implAtMost_i {t a k n k' n' : Int} {ks ks' : List Ex} {s s' : Option Addr} {c c' : Nat} {w : World} (hr : Rd w (kidsD ks) (.slice s ks.length c)) (hr' : Rd w (kidsD ks') (.slice s' ks'.length c')) (h1 : Ex.sizeL ks ≤ 1048576) (h2 : Ex.sizeL ks' ≤ 1048576) :
  Calls Tryz.prog 43 #[.agg #[.int .i64 t, .int .i64 a], .agg #[.int .i64 k, .int .i64 n, .slice s ks.length c], .agg #[.int .i64 k', .int .i64 n', .slice s' ks'.length c']] w fun e w' => e = .returned (.tuple #[.bool (atR t a (.mk k n ks) (.mk k' n' ks')), .int .i64 (bothC t a (.mk k n ks) (.mk k' n' ks'))]) ∧ Below w.heap.size w w' := by
 have Hsz : Hid (Ex.size (.mk k n ks) ≤ 1073741824) := by show _ ≤ _; rw [Ex.size_eq]; simp only [Ex.kids]; omega
 have Hsz' : Hid (Ex.size (.mk k' n' ks') ≤ 1073741824) := by show _ ≤ _; rw [Ex.size_eq]; simp only [Ex.kids]; omega
 obtain ⟨e, he⟩ : ∃ e, Ex.mk k n ks = e := ⟨_, rfl⟩
 obtain ⟨f, hf⟩ : ∃ f, Ex.mk k' n' ks' = f := ⟨_, rfl⟩
 rw [he] at Hsz ⊢
 rw [hf] at Hsz' ⊢
 have He := Lib.hid he
 have Hf := Lib.hid hf
 clear he hf h1 h2
 cases hcb : (bothC t a e f != 0)
 rotate_left
 ·
  have HE : Hid (atR t a e f = false) := by show _ = _; unfold atR; rw [if_neg (by simpa using hcb)]
  go_enter Tryz.func43, Tryz.ntmps43
  go_wp2_with fail
  obtain ⟨w1, e1, G, hb1, hz1⟩ := box2 w 33 (.int .i64 t) (.int .i64 a)
  rw [e1]
  obtain ⟨w2, e2, X, hb2, hz2⟩ := box3 w1 30 (.int .i64 k) (.int .i64 n) (.slice s ks.length c)
  rw [e2]
  obtain ⟨w0, e0, Y, hb3, hz3⟩ := box3 w2 30 (.int .i64 k') (.int .i64 n') (.slice s' ks'.length c')
  rw [e0]
  have hB : Below w.heap.size w w0 := (hb1.trans (hb2.mono (by omega))).trans (hb3.mono (by omega))
  rw [hz1] at X
  rw [show w2.heap.size = w.heap.size + 1 + 1 by omega] at Y
  replace X := X.below hb3
  replace G := (G.below hb2).below hb3
  clear e1 e2 e0 hb1 hb2 hb3 hz1 hz2 hz3
  refine (bothAutomata_i (e := .mk k n ks) (f := .mk k' n' ks') (hr.below hB) (hr'.below hB)).mono ?_
  intro g w3 hpost
  rw [He.out, Hf.out] at hpost
  obtain ⟨v1, v2, rfl, ⟨t1, a1, s1, u1, l1, c1, m1, d1, rfl⟩, ⟨t2, a2, s2, u2, l2, c2, m2, d2, rfl⟩, hb, -⟩ := hpost
  replace hB := Below.on hB hb hB.size
  have hzB := hB.size
  clear hb
  go_wp2_with fail
  go_ret2
  exact ⟨ret_bi HE.out.symm rfl, by (repeat' first | exact Below.refl _ _ | assumption | apply Below.alloc | apply Below.drew | apply Below.setCell | omega | (simp; done) | (simp; omega))⟩
 ·
  skip
  have hc : bothC t a e f = 0 := by simpa using hcb
  obtain ⟨hce, hcf⟩ := both_ok hc
  obtain ⟨-, -, -, hoke⟩ := au_ok hce
  obtain ⟨-, -, -, hokf⟩ := au_ok hcf
  have Hoke := Lib.hid hoke
  have Hokf := Lib.hid hokf
  have Hc := Lib.hid hc
  clear hcb hc hce hcf hoke hokf
  have HE : Hid (atR t a e f = atB t a e f) := by show _ = _; unfold atR; rw [if_pos Hc.out]
  have hmany := prL_many Hoke.out Hokf.out 3721
  have hall := fun p hp => prL_ok Hoke.out Hokf.out 3721 p hp
  obtain ⟨ht0, ht3, ha0, ha4⟩ := sigB_bd Hoke.out.sig
  obtain ⟨hat1, hat8⟩ := atomsN_bd t
  obtain ⟨A, hA⟩ : ∃ A : Nat, atomsN t = (A : Int) := ⟨(atomsN t).toNat, by omega⟩
  have hA' : (atomsN t).toNat = A := by omega
  go_enter Tryz.func43, Tryz.ntmps43
  go_wp2_with fail
  obtain ⟨w1, e1, G, hb1, hz1⟩ := box2 w 33 (.int .i64 t) (.int .i64 a)
  rw [e1]
  obtain ⟨w2, e2, X, hb2, hz2⟩ := box3 w1 30 (.int .i64 k) (.int .i64 n) (.slice s ks.length c)
  rw [e2]
  obtain ⟨w0, e0, Y, hb3, hz3⟩ := box3 w2 30 (.int .i64 k') (.int .i64 n') (.slice s' ks'.length c')
  rw [e0]
  have hB : Below w.heap.size w w0 := (hb1.trans (hb2.mono (by omega))).trans (hb3.mono (by omega))
  rw [hz1] at X
  rw [show w2.heap.size = w.heap.size + 1 + 1 by omega] at Y
  replace X := X.below hb3
  replace G := (G.below hb2).below hb3
  clear e1 e2 e0 hb1 hb2 hb3 hz1 hz2 hz3
  refine (bothAutomata_i (e := .mk k n ks) (f := .mk k' n' ks') (hr.below hB) (hr'.below hB)).mono ?_
  intro g w3 hpost
  rw [He.out, Hf.out] at hpost
  obtain ⟨v1, v2, rfl, -, -, hb, hgot⟩ := hpost
  obtain ⟨s1, c1, u1, d1, s2, c2, u2, d2, rfl, rfl, hd1, hd2⟩ := hgot Hc.out
  rw [Hc.out]
  replace hB := Below.on hB hb hB.size
  replace G := G.below hb
  clear hb hgot X Y
  go_wp2_with fail
  obtain ⟨w4, e4, A1, hb4, hz4⟩ := box4 w3 75 (.int .i64 t) (.int .i64 a) (.slice s1 (auA t a e).length c1) (.slice u1 (auX t a e).length d1)
  rw [e4]
  obtain ⟨w5, e5, A2, hb5, hz5⟩ := box4 w4 75 (.int .i64 t) (.int .i64 a) (.slice s2 (auA t a f).length c2) (.slice u2 (auX t a f).length d2)
  rw [e5]
  replace hB := (hB.trans (hb4.mono hB.size)).trans (hb5.mono (by have := hB.size; omega))
  rw [hz4] at A2
  replace A1 := A1.below hb5
  replace G := (G.below hb4).below hb5
  have Hd1 := Lib.hid ((hd1.below hb4).below hb5)
  have Hd2 := Lib.hid ((hd2.below hb4).below hb5)
  clear e4 e5 hb4 hb5 hd1 hd2 hz5
  refine (reach_i Hd1.out Hd2.out Hoke.out Hokf.out).mono ?_
  rintro g w6 ⟨R, sa, ca, rfl, hrd, hRm, -, hb6⟩
  have hF : atB t a e f = (prF (auX t a e) (auX t a f) (atomsN t).toNat a.toNat).all (inAtB (auA t a e) (auA t a f) (atomsN t).toNat) := rfl
  have hall' : ∀ p ∈ prF (auX t a e) (auX t a f) (atomsN t).toNat a.toNat, PairOk (auA t a e).length (auA t a f).length p := hall
  have hmany' : (prF (auX t a e) (auX t a f) (atomsN t).toNat a.toNat).length ≤ 3721 := hmany
  rw [← hRm, hA'] at hF
  rw [← hRm] at hall' hmany'
  rw [List.length_map] at hmany'
  have HF := Lib.hid hF
  have HA := Lib.hid hA
  have Hall := Lib.hid hall'
  have Hrd := Lib.hid hrd
  have HB6 := Lib.hid (hB.trans (hb6.mono hB.size))
  replace G := G.below hb6
  replace A1 := A1.below hb6
  replace A2 := A2.below hb6
  have HG := Lib.hid G
  have HA1 := Lib.hid A1
  have HA2 := Lib.hid A2
  have Hd1' := Lib.hid (Hd1.out.below hb6)
  have Hd2' := Lib.hid (Hd2.out.below hb6)
  have hz6 := HB6.out.size
  have Hc2 := Lib.hid Hc.out
  obtain ⟨ga, gb, hga, hgb⟩ : ∃ ga gb, ga = w3.heap.size ∧ gb = w3.heap.size + 1 := ⟨_, _, rfl, rfl⟩
  clear hF hA hA' hall hall' hmany hRm hrd hb6 G A1 A2 hB Hd1 Hd2 hat1 hga hgb ga gb
  go_wp2_with fail
  go_loopw [29] (fun i wr => ∃ k : Nat, i = .int .i64 k ∧ k ≤ R.length ∧ Hid (WithinTo (auA t a e) (auA t a f) A (R.map Rch.p) k) ∧ Below w6.heap.size w6 wr) (fun i _ => R.length - (intOf i).toNat)
  case atStart => exact ⟨0, rfl, by omega, fun i p hi => by omega, Below.refl _ _⟩
  case round =>
   obtain ⟨i, rfl, hi, HW, hbe⟩ := hrel
   obtain ⟨wo, rfl⟩ : ∃ v, v = wr := ⟨_, rfl⟩
   have hi0 := Int.natCast_nonneg i
   have hzo := hbe.size
   have HBe := Lib.hid hbe
   by_cases hlt : i < R.length
   rotate_left
   ·
    obtain rfl : i = R.length := by omega
    have HR : Hid (atR t a e f = true) := by show _ = _; rw [HE.out, HF.out]; exact all_yes fun j p hj hp => HW.out j p (by rw [List.length_map] at hj; exact hj) hp
    clear hbe
    go_wp2_with fail
    go_ret2
    exact ⟨ret_bi HR.out.symm Hc2.out.symm, HB6.out.trans (HBe.out.mono hz6)⟩
   obtain ⟨r, hr0⟩ : ∃ r, R[i]? = some r := ⟨_, List.getElem?_eq_getElem hlt⟩
   obtain ⟨x, hxe⟩ : ∃ x, r.p = x := ⟨_, rfl⟩
   have hx : (R.map Rch.p)[i]? = some x := by rw [List.getElem?_map, hr0, ← hxe]; rfl
   have hxok := Hall.out x (List.mem_of_getElem? hx)
   have Hx := Lib.hid hx
   have hrd := Hrd.out.below hbe
   obtain ⟨b0, o0, rfl⟩ : ∃ b0 o0, sa = some ⟨b0, o0, none⟩ := by
    obtain ⟨_, _, _, _, _, h4⟩ := hrd.sl_at
    rcases h4 with h4 | ⟨b, o, e, _⟩
    ·
     omega
    ·
     exact ⟨b, o, e⟩
   obtain ⟨-, k2, k3, -⟩ := hrd.sl_at
   unfold maxLen at k3
   obtain ⟨hbl, y0, y1, y2, y3, y4⟩ := rch_in hrd hr0
   rw [hxe] at y0 y1
   have hil : (i : Int) < (R.length : Int) := by omega
   obtain ⟨g0, g1, ltG⟩ := (HG.out.below hbe).all2
   clear hr0 hxe hx hrd hbe
   go_wp2_with fail
   clear y0 y1 y2 y3 y4 g0 g1 ltG
   obtain ⟨w7, e7, N, hb7, hz7⟩ := box5 wo 138 (.int .i64 x.1) (.int .i64 x.2) (.int .i64 r.f) (.int .i64 r.m) (.int .i64 r.k)
   rw [e7]
   have HBe7 := Lib.hid (HBe.out.trans (hb7.mono hzo))
   have HN := Lib.hid N
   obtain ⟨nb, hnb⟩ : ∃ nb, wo.heap.size = nb := ⟨_, rfl⟩
   rw [hnb] at HN ⊢
   have hz7' : w6.heap.size ≤ w7.heap.size := by omega
   clear e7 hb7 N hnb
   refine (atomsIn_i ht0 ht3).mono ?_
   rintro g w8 ⟨rfl, hb8⟩
   rw [HA.out]
   have HBe8 := Lib.hid (HBe7.out.trans (hb8.mono hz7'))
   have HN8 := Lib.hid (HN.out.below hb8)
   clear hb8
   go_wp2_with fail
   go_loopw [35] (fun j wr => ∃ m : Nat, j = .int .i64 m ∧ m ≤ A ∧ Hid (InTo (auA t a e) (auA t a f) x m) ∧ Below w8.heap.size w8 wr) (fun j _ => A - (intOf j).toNat)
   case atStart => exact ⟨0, rfl, by omega, fun m hm => by omega, Below.refl _ _⟩
   case round =>
    obtain ⟨m, rfl, hmA, HI, hbe⟩ := hrel
    obtain ⟨wm, rfl⟩ : ∃ v, v = wr := ⟨_, rfl⟩
    have hm0 := Int.natCast_nonneg m
    have hz8 := HBe8.out.size
    have hbe8 := HBe8.out.trans (hbe.mono hz8)
    have HBe9 := Lib.hid hbe8
    by_cases hmlt : m < A
    rotate_left
    ·
     obtain rfl : A = m := by omega
     have HW2 := Lib.hid (HW.out.succ Hx.out (inAt_yes HI.out))
     clear hbe hbe8
     go_wp2_with fail
     go_roundw
     case rel => exact ⟨i + 1, by go_num, by omega, HW2.out, HBe9.out⟩
     case measure => simp [intOf]; omega
    have hm1 : (m : Int) < (A : Int) := by omega
    have hmat : (m : Int) < atomsN t := by rw [HA.out]; exact hm1
    obtain ⟨x0, x1, x2, x3, -, -, -, -, ltX⟩ := (HA1.out.below hbe8).all4
    have N9 := HN8.out.below hbe
    have n0 := N9.c0
    have n1 := N9.c1
    have ltN := N9.lt
    have hz9 := hbe.size
    have HBm := Lib.hid hbe
    have HD1 := Lib.hid (Hd1'.out.below hbe8)
    clear hbe hbe8 N9
    go_wp2_with fail
    refine (accepts_i (Rds.two HD1.out).1 (Rds.two HD1.out).2 Hoke.out hxok.2.1 hmat).mono ?_
    rintro g w9 ⟨rfl, hb9⟩
    have HBe10 := Lib.hid (HBe9.out.trans (hb9.mono (by omega)))
    have HBm10 := Lib.hid (HBm.out.trans (hb9.mono hz9))
    clear x0 x1 x2 x3 ltX n0 n1 ltN hb9
    cases h1 : hasN (auA t a e) x.1 m
    ·
     have HI2 := Lib.hid (HI.out.succ (by rw [h1]; rfl))
     clear h1
     go_wp2_with fail
     go_roundw
     case rel => exact ⟨m + 1, by go_num, by omega, HI2.out, HBm10.out⟩
     case measure => simp [intOf]; omega
    ·
     have H1 := Lib.hid h1
     obtain ⟨x0, x1, x2, x3, -, -, -, -, ltX⟩ := (HA2.out.below HBe10.out).all4
     have N10 := HN8.out.below HBm10.out
     have n0 := N10.c0
     have n1 := N10.c1
     have ltN := N10.lt
     have HD2 := Lib.hid (Hd2'.out.below HBe10.out)
     clear h1 N10
     go_wp2_with fail
     refine (accepts_i (Rds.two HD2.out).1 (Rds.two HD2.out).2 Hokf.out hxok.2.2.2 hmat).mono ?_
     rintro g w10 ⟨rfl, hb10⟩
     have HBe11 := Lib.hid (HBe10.out.trans (hb10.mono (by have := HBe10.out.size; omega)))
     have HBm11 := Lib.hid (HBm10.out.trans (hb10.mono HBm10.out.size))
     clear x0 x1 x2 x3 ltX n0 n1 ltN hb10
     cases h2 : hasN (auA t a f) x.2 m
     ·
      have HR : Hid (atR t a e f = false) := by show _ = _; rw [HE.out, HF.out]; exact all_no (List.mem_of_getElem? Hx.out) (inAt_no hmlt H1.out h2)
      clear h2
      go_wp2_with fail
      go_ret2
      exact ⟨ret_bi HR.out.symm Hc2.out.symm, HB6.out.trans (HBe11.out.mono hz6)⟩
     ·
      have HI2 := Lib.hid (HI.out.succ (by rw [H1.out, h2]; rfl))
      clear h2
      go_wp2_with fail
      go_roundw
      case rel => exact ⟨m + 1, by go_num, by omega, HI2.out, HBm11.out⟩
      case measure => simp [intOf]; omega
end Go.Proofs.YtjlmdhoajfdkbaaGreatDoor

namespace Go.Proofs.YtjlmdhoajfdkbaaGreatDoor
set_option linter.unusedVariables false
set_option linter.unusedSimpArgs false
open Go.ChangeShapes Go.WideShapes Go.ChangeAt Go.RowKit
set_option maxRecDepth 100000 in
set_option maxHeartbeats 4000000 in
theorem law_AtMost (t0 a0 : Int) (k1 n1 : Int) (ks1 : List Ex) (s1 : Option Addr) (c1 : Nat) (k2 n2 : Int) (ks2 : List Ex) (s2 : Option Addr) (c2 : Nat) (w : World) (hr1 : Rd w (kidsD ks1) (.slice s1 ks1.length c1)) (hr2 : Rd w (kidsD ks2) (.slice s2 ks2.length c2)) :
  Calls Tryz.prog 9 #[.agg #[.int .i64 t0, .int .i64 a0], .agg #[.int .i64 k1, .int .i64 n1, .slice s1 ks1.length c1], .agg #[.int .i64 k2, .int .i64 n2, .slice s2 ks2.length c2]] w fun e w' => e = .returned (.bool true) ∧ Below w.heap.size w w' := by
 have ef1 : eqb (Ex.mk k1 n1 ks1) (Ex.mk k1 n1 ks1) = true := by simp [eqb_true]
 have ef2 : eqb (Ex.mk k2 n2 ks2) (Ex.mk k2 n2 ks2) = true := by simp [eqb_true]
 go_enter Tryz.func9, Tryz.ntmps9
 go_wp2_with fail
 have L0 := ((Blk.new2 w 23 (.int .i64 t0) (.int .i64 a0)).alloc (.cells #[.int .i64 k1, .int .i64 n1, .slice s1 ks1.length c1] 26)).alloc (.cells #[.int .i64 k2, .int .i64 n2, .slice s2 ks2.length c2] 26)
 have L1 := (Blk.new3 (w.alloc (.cells #[.int .i64 t0, .int .i64 a0] 23)) 26 (.int .i64 k1) (.int .i64 n1) (.slice s1 ks1.length c1)).alloc (.cells #[.int .i64 k2, .int .i64 n2, .slice s2 ks2.length c2] 26)
 simp at L1
 have L2 := Blk.new3 ((w.alloc (.cells #[.int .i64 t0, .int .i64 a0] 23)).alloc (.cells #[.int .i64 k1, .int .i64 n1, .slice s1 ks1.length c1] 26)) 26 (.int .i64 k2) (.int .i64 n2) (.slice s2 ks2.length c2)
 simp at L2
 refine (szExpr_i (by repeat (first | exact hr1 | apply Rd.alloc)) (by omega) (by omega)).mono ?_
 rintro e w1 ⟨⟨r1, rfl, ra1, rb1, rc1⟩, hb⟩
 replace L0 := L0.below hb
 replace L1 := L1.below hb
 replace L2 := L2.below hb
 have hB : Below w.heap.size w w1 := Below.on (by (repeat' first | exact Below.refl _ _ | assumption | apply Below.alloc | apply Below.drew | apply Below.setCell | omega | (simp; done) | (simp; omega))) hb (by simp <;> omega)
 have l0c0 := L0.c0
 have l0c1 := L0.c1
 have ltL0 := L0.lt
 have l1c0 := L1.c0
 have l1c1 := L1.c1
 have l1c2 := L1.c2
 have ltL1 := L1.lt
 have l2c0 := L2.c0
 have l2c1 := L2.c1
 have l2c2 := L2.c2
 have ltL2 := L2.lt
 clear hb
 by_cases hneg1 : r1 < 0
 ·
  go_wp2_with fail
  go_ret
  exact ⟨rfl, hB⟩
 have hd1 : decide (r1 < 0) = false := by simpa using hneg1
 have rd1 := rc1 (by omega)
 clear rc1
 go_wp2_with fail
 refine (szExpr_i (hr2.below hB) (by omega) (by omega)).mono ?_
 rintro e w2 ⟨⟨r2, rfl, ra2, rb2, rc2⟩, hb⟩
 clear l0c0 l0c1 ltL0 l1c0 l1c1 l1c2 ltL1 l2c0 l2c1 l2c2 ltL2
 replace L0 := L0.below hb
 replace L1 := L1.below hb
 replace L2 := L2.below hb
 replace hB := Below.on hB hb hB.size
 have l0c0 := L0.c0
 have l0c1 := L0.c1
 have ltL0 := L0.lt
 have l1c0 := L1.c0
 have l1c1 := L1.c1
 have l1c2 := L1.c2
 have ltL1 := L1.lt
 have l2c0 := L2.c0
 have l2c1 := L2.c1
 have l2c2 := L2.c2
 have ltL2 := L2.lt
 clear hb
 by_cases hneg2 : r2 < 0
 ·
  go_wp2_with fail
  go_ret
  exact ⟨rfl, hB⟩
 have hd2 : decide (r2 < 0) = false := by simpa using hneg2
 have rd2 := rc2 (by omega)
 clear rc2
 have hsz1 : Ex.sizeL ks1 ≤ 1048576 := by omega
 have hsz2 : Ex.sizeL ks2 ≤ 1048576 := by omega
 -- wa
 go_wp2_with fail
 go_region_held3 (fun w' => (∀ b o, b < w2.heap.size → w'.cell? ⟨b, o, none⟩ = w2.cell? ⟨b, o, none⟩) ∧ Below w2.heap.size w2 w')
  (first | exact kp_drew w2 | exact kp_on ‹_› hb)
  (first
   | (go_at_call 16; ((with_reducible refine (toSig_any t0 a0 _).mono ?_); rintro e wa0 ⟨rfl, hb⟩))
   | (go_at_call 17; have hK := ‹(∀ b o, b < w2.heap.size → _) ∧ Below w2.heap.size w2 _›; ((with_reducible refine (toExpr_i (hr1.below (Below.on hB hK.2 hB.size)) hsz1).mono ?_); rintro e wa1 ⟨sxwa1, cxwa1, rfl, hfwa1, hb⟩))
   | (go_at_call 17; have hK := ‹(∀ b o, b < w2.heap.size → _) ∧ Below w2.heap.size w2 _›; ((with_reducible refine (toExpr_i (hr2.below (Below.on hB hK.2 hB.size)) hsz2).mono ?_); rintro e wa2 ⟨sxwa2, cxwa2, rfl, hfwa2, hb⟩; replace hfwa1 := hfwa1.on hb))
   | (go_at_call 42; have hK := ‹(∀ b o, b < w2.heap.size → _) ∧ Below w2.heap.size w2 _›; ((with_reducible refine (specAtMost_i (hfwa1.rds.one) (hfwa2.rds.one) hsz1 hsz2).mono ?_); rintro e waz ⟨rfl, hb⟩)))
 have hK := ‹(∀ b o, b < w2.heap.size → _) ∧ Below w2.heap.size w2 _›
 clear l0c0 l0c1 ltL0 l1c0 l1c1 l1c2 ltL1 l2c0 l2c1 l2c2 ltL2
 replace L0 := L0.below hK.2
 replace L1 := L1.below hK.2
 replace L2 := L2.below hK.2
 replace hB := Below.on hB hK.2 hB.size
 have l0c0 := L0.c0
 have l0c1 := L0.c1
 have ltL0 := L0.lt
 have l1c0 := L1.c0
 have l1c1 := L1.c1
 have l1c2 := L1.c2
 have ltL1 := L1.lt
 have l2c0 := L2.c0
 have l2c1 := L2.c1
 have l2c2 := L2.c2
 have ltL2 := L2.lt
 clear hK
 go_wp2_with fail
 refine (toExpr_i (hr1.below hB) hsz1).mono ?_
 rintro e wx1 ⟨sxx1, cxx1, rfl, hfx1, hb⟩
 clear l0c0 l0c1 ltL0 l1c0 l1c1 l1c2 ltL1 l2c0 l2c1 l2c2 ltL2
 replace L0 := L0.below hb
 replace L1 := L1.below hb
 replace L2 := L2.below hb
 replace hB := Below.on hB hb hB.size
 have l0c0 := L0.c0
 have l0c1 := L0.c1
 have ltL0 := L0.lt
 have l1c0 := L1.c0
 have l1c1 := L1.c1
 have l1c2 := L1.c2
 have ltL1 := L1.lt
 have l2c0 := L2.c0
 have l2c1 := L2.c1
 have l2c2 := L2.c2
 have ltL2 := L2.lt
 clear hb
 go_wp2_with fail
 have X1 := Blk.new3 wx1 30 (.int .i64 k1) (.int .i64 n1) (.slice sxx1 ks1.length cxx1)
 clear l0c0 l0c1 ltL0 l1c0 l1c1 l1c2 ltL1 l2c0 l2c1 l2c2 ltL2
 replace L0 := L0.alloc (.cells #[.int .i64 k1, .int .i64 n1, .slice sxx1 ks1.length cxx1] 30)
 replace L1 := L1.alloc (.cells #[.int .i64 k1, .int .i64 n1, .slice sxx1 ks1.length cxx1] 30)
 replace L2 := L2.alloc (.cells #[.int .i64 k1, .int .i64 n1, .slice sxx1 ks1.length cxx1] 30)
 replace hfx1 := hfx1.on (Below.alloc (Below.refl _ _) (Nat.le_refl _) (.cells #[.int .i64 k1, .int .i64 n1, .slice sxx1 ks1.length cxx1] 30))
 replace hB := hB.alloc hB.size (.cells #[.int .i64 k1, .int .i64 n1, .slice sxx1 ks1.length cxx1] 30)
 generalize wx1.alloc (.cells #[.int .i64 k1, .int .i64 n1, .slice sxx1 ks1.length cxx1] 30) = wb1 at L0 L1 L2 hfx1 X1 hB ⊢
 have l0c0 := L0.c0
 have l0c1 := L0.c1
 have ltL0 := L0.lt
 have l1c0 := L1.c0
 have l1c1 := L1.c1
 have l1c2 := L1.c2
 have ltL1 := L1.lt
 have l2c0 := L2.c0
 have l2c1 := L2.c1
 have l2c2 := L2.c2
 have ltL2 := L2.lt
 have x1c0 := X1.c0
 have x1c1 := X1.c1
 have x1c2 := X1.c2
 have ltX1 := X1.lt
 go_wp2_with fail
 refine (toExpr_i (hr2.below hB) hsz2).mono ?_
 rintro e wx2 ⟨sxx2, cxx2, rfl, hfx2, hb⟩
 clear l0c0 l0c1 ltL0 l1c0 l1c1 l1c2 ltL1 l2c0 l2c1 l2c2 ltL2 x1c0 x1c1 x1c2 ltX1
 replace L0 := L0.below hb
 replace L1 := L1.below hb
 replace L2 := L2.below hb
 replace hfx1 := hfx1.on hb
 replace X1 := X1.below hb
 replace hB := Below.on hB hb hB.size
 have l0c0 := L0.c0
 have l0c1 := L0.c1
 have ltL0 := L0.lt
 have l1c0 := L1.c0
 have l1c1 := L1.c1
 have l1c2 := L1.c2
 have ltL1 := L1.lt
 have l2c0 := L2.c0
 have l2c1 := L2.c1
 have l2c2 := L2.c2
 have ltL2 := L2.lt
 have x1c0 := X1.c0
 have x1c1 := X1.c1
 have x1c2 := X1.c2
 have ltX1 := X1.lt
 clear hb
 go_wp2_with fail
 have X2 := Blk.new3 wx2 30 (.int .i64 k2) (.int .i64 n2) (.slice sxx2 ks2.length cxx2)
 clear l0c0 l0c1 ltL0 l1c0 l1c1 l1c2 ltL1 l2c0 l2c1 l2c2 ltL2 x1c0 x1c1 x1c2 ltX1
 replace L0 := L0.alloc (.cells #[.int .i64 k2, .int .i64 n2, .slice sxx2 ks2.length cxx2] 30)
 replace L1 := L1.alloc (.cells #[.int .i64 k2, .int .i64 n2, .slice sxx2 ks2.length cxx2] 30)
 replace L2 := L2.alloc (.cells #[.int .i64 k2, .int .i64 n2, .slice sxx2 ks2.length cxx2] 30)
 replace hfx1 := hfx1.on (Below.alloc (Below.refl _ _) (Nat.le_refl _) (.cells #[.int .i64 k2, .int .i64 n2, .slice sxx2 ks2.length cxx2] 30))
 replace X1 := X1.alloc (.cells #[.int .i64 k2, .int .i64 n2, .slice sxx2 ks2.length cxx2] 30)
 replace hfx2 := hfx2.on (Below.alloc (Below.refl _ _) (Nat.le_refl _) (.cells #[.int .i64 k2, .int .i64 n2, .slice sxx2 ks2.length cxx2] 30))
 replace hB := hB.alloc hB.size (.cells #[.int .i64 k2, .int .i64 n2, .slice sxx2 ks2.length cxx2] 30)
 generalize wx2.alloc (.cells #[.int .i64 k2, .int .i64 n2, .slice sxx2 ks2.length cxx2] 30) = wb2 at L0 L1 L2 hfx1 X1 hfx2 X2 hB ⊢
 have l0c0 := L0.c0
 have l0c1 := L0.c1
 have ltL0 := L0.lt
 have l1c0 := L1.c0
 have l1c1 := L1.c1
 have l1c2 := L1.c2
 have ltL1 := L1.lt
 have l2c0 := L2.c0
 have l2c1 := L2.c1
 have l2c2 := L2.c2
 have ltL2 := L2.lt
 have x1c0 := X1.c0
 have x1c1 := X1.c1
 have x1c2 := X1.c2
 have ltX1 := X1.lt
 have x2c0 := X2.c0
 have x2c1 := X2.c1
 have x2c2 := X2.c2
 have ltX2 := X2.lt
 -- wi
 go_wp2_with fail
 go_region_held3 (fun w' => (∀ b o, b < wb2.heap.size → w'.cell? ⟨b, o, none⟩ = wb2.cell? ⟨b, o, none⟩) ∧ Below wb2.heap.size wb2 w')
  (first | exact kp_drew wb2 | exact kp_on ‹_› hb)
  (first
   | (go_at_call 16; ((with_reducible refine (toSig_any t0 a0 _).mono ?_); rintro e wi0 ⟨rfl, hb⟩))
   | (go_at_call 43; have hK := ‹(∀ b o, b < wb2.heap.size → _) ∧ Below wb2.heap.size wb2 _›; ((with_reducible refine (implAtMost_i (hfx1.rds.one.below hK.2) (hfx2.rds.one.below hK.2) hsz1 hsz2).mono ?_); rintro e wiz ⟨rfl, hb⟩)))
 have hK := ‹(∀ b o, b < wb2.heap.size → _) ∧ Below wb2.heap.size wb2 _›
 clear l0c0 l0c1 ltL0 l1c0 l1c1 l1c2 ltL1 l2c0 l2c1 l2c2 ltL2 x1c0 x1c1 x1c2 ltX1 x2c0 x2c1 x2c2 ltX2
 replace L0 := L0.below hK.2
 replace L1 := L1.below hK.2
 replace L2 := L2.below hK.2
 replace hfx1 := hfx1.on hK.2
 replace X1 := X1.below hK.2
 replace hfx2 := hfx2.on hK.2
 replace X2 := X2.below hK.2
 replace hB := Below.on hB hK.2 hB.size
 have l0c0 := L0.c0
 have l0c1 := L0.c1
 have ltL0 := L0.lt
 have l1c0 := L1.c0
 have l1c1 := L1.c1
 have l1c2 := L1.c2
 have ltL1 := L1.lt
 have l2c0 := L2.c0
 have l2c1 := L2.c1
 have l2c2 := L2.c2
 have ltL2 := L2.lt
 have x1c0 := X1.c0
 have x1c1 := X1.c1
 have x1c2 := X1.c2
 have ltX1 := X1.lt
 have x2c0 := X2.c0
 have x2c1 := X2.c1
 have x2c2 := X2.c2
 have ltX2 := X2.lt
 clear hK
 go_wp2_with fail
 -- is the copy 1 as it was?
 go_region_held3 (fun w' => (∀ b o, b < wiz.heap.size → w'.cell? ⟨b, o, none⟩ = wiz.cell? ⟨b, o, none⟩) ∧ Below wiz.heap.size wiz w')
  (first | exact kp_drew wiz | exact kp_on ‹_› hb)
  (first
   | (go_at_call 17; have hK := ‹(∀ b o, b < wiz.heap.size → _) ∧ Below wiz.heap.size wiz _›; ((with_reducible refine (toExpr_i (hr1.below (Below.on hB hK.2 hB.size)) hsz1).mono ?_); rintro e wy1 ⟨sxy1, cxy1, rfl, hfy1, hb⟩))
   | (go_at_call 19; have hK := ‹(∀ b o, b < wiz.heap.size → _) ∧ Below wiz.heap.size wiz _›; ((with_reducible refine (eqExpr_i ((hfx1.rds.one).below hK.2) (hfy1.rds.one)).mono ?_); rintro e wz1 ⟨rfl, hb⟩)))
 have hK := ‹(∀ b o, b < wiz.heap.size → _) ∧ Below wiz.heap.size wiz _›
 clear l0c0 l0c1 ltL0 l1c0 l1c1 l1c2 ltL1 l2c0 l2c1 l2c2 ltL2 x1c0 x1c1 x1c2 ltX1 x2c0 x2c1 x2c2 ltX2
 replace L0 := L0.below hK.2
 replace L1 := L1.below hK.2
 replace L2 := L2.below hK.2
 replace hfx1 := hfx1.on hK.2
 replace X1 := X1.below hK.2
 replace hfx2 := hfx2.on hK.2
 replace X2 := X2.below hK.2
 replace hB := Below.on hB hK.2 hB.size
 have l0c0 := L0.c0
 have l0c1 := L0.c1
 have ltL0 := L0.lt
 have l1c0 := L1.c0
 have l1c1 := L1.c1
 have l1c2 := L1.c2
 have ltL1 := L1.lt
 have l2c0 := L2.c0
 have l2c1 := L2.c1
 have l2c2 := L2.c2
 have ltL2 := L2.lt
 have x1c0 := X1.c0
 have x1c1 := X1.c1
 have x1c2 := X1.c2
 have ltX1 := X1.lt
 have x2c0 := X2.c0
 have x2c1 := X2.c1
 have x2c2 := X2.c2
 have ltX2 := X2.lt
 clear hK
 try simp only [ef1, Bool.not_true]
 go_wp2_with fail
 -- is the copy 2 as it was?
 go_region_held3 (fun w' => (∀ b o, b < wz1.heap.size → w'.cell? ⟨b, o, none⟩ = wz1.cell? ⟨b, o, none⟩) ∧ Below wz1.heap.size wz1 w')
  (first | exact kp_drew wz1 | exact kp_on ‹_› hb)
  (first
   | (go_at_call 17; have hK := ‹(∀ b o, b < wz1.heap.size → _) ∧ Below wz1.heap.size wz1 _›; ((with_reducible refine (toExpr_i (hr2.below (Below.on hB hK.2 hB.size)) hsz2).mono ?_); rintro e wy2 ⟨sxy2, cxy2, rfl, hfy2, hb⟩))
   | (go_at_call 19; have hK := ‹(∀ b o, b < wz1.heap.size → _) ∧ Below wz1.heap.size wz1 _›; ((with_reducible refine (eqExpr_i ((hfx2.rds.one).below hK.2) (hfy2.rds.one)).mono ?_); rintro e wz2 ⟨rfl, hb⟩)))
 have hK := ‹(∀ b o, b < wz1.heap.size → _) ∧ Below wz1.heap.size wz1 _›
 clear l0c0 l0c1 ltL0 l1c0 l1c1 l1c2 ltL1 l2c0 l2c1 l2c2 ltL2 x1c0 x1c1 x1c2 ltX1 x2c0 x2c1 x2c2 ltX2
 replace L0 := L0.below hK.2
 replace L1 := L1.below hK.2
 replace L2 := L2.below hK.2
 replace hfx1 := hfx1.on hK.2
 replace X1 := X1.below hK.2
 replace hfx2 := hfx2.on hK.2
 replace X2 := X2.below hK.2
 replace hB := Below.on hB hK.2 hB.size
 have l0c0 := L0.c0
 have l0c1 := L0.c1
 have ltL0 := L0.lt
 have l1c0 := L1.c0
 have l1c1 := L1.c1
 have l1c2 := L1.c2
 have ltL1 := L1.lt
 have l2c0 := L2.c0
 have l2c1 := L2.c1
 have l2c2 := L2.c2
 have ltL2 := L2.lt
 have x1c0 := X1.c0
 have x1c1 := X1.c1
 have x1c2 := X1.c2
 have ltX1 := X1.lt
 have x2c0 := X2.c0
 have x2c1 := X2.c1
 have x2c2 := X2.c2
 have ltX2 := X2.lt
 clear hK
 try simp only [ef2, Bool.not_true]
 go_wp2_with fail
 go_ret
 exact ⟨rfl, hB⟩
set_option maxRecDepth 100000 in
theorem law_AtMost_of {H : Type} {enc : TypeId × Value → H} (W : World) (args : Array Value) (ds : List (DataW H)) (ps : List MemPlace) (hA : DataW.TrodAll enc Tryz.prog W 0 (fun _ => true) true Tryz.f9.params.toList args.toList ds ps)
  (hval : ∀ (j : Nat) t v, Tryz.f9.params[j]? = some t → args[j]? = some v → ∃ base, Value.okWide Tryz.prog W .any base t v) :
  Calls Tryz.prog 9 args W fun e W' => e = .returned (.bool true) ∧ Below W.heap.size W W' := by
 rw [Tryz.params9] at hA hval
 obtain ⟨v0, vs0, d0', ds0, p0, q0, hargs, rfl, rfl, h0, ra0⟩ := trodAll_cons hA
 obtain ⟨v1, vs1, d1', ds1, p1, q1, rfl, rfl, rfl, h1, ra1⟩ := trodAll_cons ra0
 obtain ⟨v2, vs2, d2', ds2, p2, q2, rfl, rfl, rfl, h2, ra2⟩ := trodAll_cons ra1
 obtain ⟨rfl, rfl, rfl⟩ := trodAll_nil ra2
 obtain rfl : args = #[v0, v1, v2] := Array.toList_inj.1 hargs
 obtain ⟨t0, a0, rfl⟩ := open_lawsSig h0
 obtain ⟨k1, n1, ks1, s1, c1, rfl, hr1⟩ := open_lawsExpr h1
 obtain ⟨k2, n2, ks2, s2, c2, rfl, hr2⟩ := open_lawsExpr h2
 exact law_AtMost t0 a0 k1 n1 ks1 s1 c1 k2 n2 ks2 s2 c2 W hr1 hr2
end Go.Proofs.YtjlmdhoajfdkbaaGreatDoor
