/-
  Parts of a proof, joined: LawCheckBisim. No condition.
-/
import Derived.Test.YtcokljhamhgelaaGreatDoorPk24
namespace Go.Proofs.YtcokljhamhgelaaGreatDoor
set_option linter.unusedVariables false
set_option linter.unusedSimpArgs false
open Go.ChangeShapes Go.WideShapes Go.ChangeAt Go.RowKit
set_option maxRecDepth 100000 in
set_option maxHeartbeats 4000000 in
theorem law_CheckBisim (t0 a0 : Int) (k1 n1 : Int) (ks1 : List Ex) (s1 : Option Addr) (c1 : Nat) (k2 n2 : Int) (ks2 : List Ex) (s2 : Option Addr) (c2 : Nat) (ps3 : List (Ex × Ex)) (s3 : Option Addr) (c3 : Nat) (w : World) (hr1 : Rd w (kidsD ks1) (.slice s1 ks1.length c1)) (hr2 : Rd w (kidsD ks2) (.slice s2 ks2.length c2)) (hr3 : Rd w (prD ps3) (.slice s3 ps3.length c3)) :
  Calls Tryz.prog 4 #[.agg #[.int .i64 t0, .int .i64 a0], .agg #[.int .i64 k1, .int .i64 n1, .slice s1 ks1.length c1], .agg #[.int .i64 k2, .int .i64 n2, .slice s2 ks2.length c2], .slice s3 ps3.length c3] w fun e w' => e = .returned (.bool true) ∧ Below w.heap.size w w' := by
 have ef1 : eqb (Ex.mk k1 n1 ks1) (Ex.mk k1 n1 ks1) = true := by simp [eqb_true]
 have ef2 : eqb (Ex.mk k2 n2 ks2) (Ex.mk k2 n2 ks2) = true := by simp [eqb_true]
 have ef3 : eqb ps3 ps3 = true := by simp [eqb_true]
 go_enter Tryz.func4, Tryz.ntmps4
 go_wp2_with fail
 have L0 := ((Blk.new2 w 23 (.int .i64 t0) (.int .i64 a0)).alloc (.cells #[.int .i64 k1, .int .i64 n1, .slice s1 ks1.length c1] 26)).alloc (.cells #[.int .i64 k2, .int .i64 n2, .slice s2 ks2.length c2] 26)
 have L1 := (Blk.new3 (w.alloc (.cells #[.int .i64 t0, .int .i64 a0] 23)) 26 (.int .i64 k1) (.int .i64 n1) (.slice s1 ks1.length c1)).alloc (.cells #[.int .i64 k2, .int .i64 n2, .slice s2 ks2.length c2] 26)
 simp at L1
 have L2 := Blk.new3 ((w.alloc (.cells #[.int .i64 t0, .int .i64 a0] 23)).alloc (.cells #[.int .i64 k1, .int .i64 n1, .slice s1 ks1.length c1] 26)) 26 (.int .i64 k2) (.int .i64 n2) (.slice s2 ks2.length c2)
 simp at L2
 refine (szExpr_i (by repeat (first | exact hr1 | apply Rd.alloc)) (by omega) (by omega)).mono ?_
 rintro e w1 ⟨⟨r1, rfl, ra1, rb1, rc1⟩, hb⟩
 replace L0 := L0.below hb
 replace L1 := L1.below hb
 replace L2 := L2.below hb
 have hB : Below w.heap.size w w1 := Below.on (by (repeat' first | exact Below.refl _ _ | assumption | apply Below.alloc | apply Below.drew | apply Below.setCell | omega | (simp; done) | (simp; omega))) hb (by simp <;> omega)
 have l0c0 := L0.c0
 have l0c1 := L0.c1
 have ltL0 := L0.lt
 have l1c0 := L1.c0
 have l1c1 := L1.c1
 have l1c2 := L1.c2
 have ltL1 := L1.lt
 have l2c0 := L2.c0
 have l2c1 := L2.c1
 have l2c2 := L2.c2
 have ltL2 := L2.lt
 clear hb
 by_cases hneg1 : r1 < 0
 ·
  go_wp2_with fail
  go_ret
  exact ⟨rfl, hB⟩
 have hd1 : decide (r1 < 0) = false := by simpa using hneg1
 have rd1 := rc1 (by omega)
 clear rc1
 go_wp2_with fail
 refine (szExpr_i (hr2.below hB) (by omega) (by omega)).mono ?_
 rintro e w2 ⟨⟨r2, rfl, ra2, rb2, rc2⟩, hb⟩
 clear l0c0 l0c1 ltL0 l1c0 l1c1 l1c2 ltL1 l2c0 l2c1 l2c2 ltL2
 replace L0 := L0.below hb
 replace L1 := L1.below hb
 replace L2 := L2.below hb
 replace hB := Below.on hB hb hB.size
 have l0c0 := L0.c0
 have l0c1 := L0.c1
 have ltL0 := L0.lt
 have l1c0 := L1.c0
 have l1c1 := L1.c1
 have l1c2 := L1.c2
 have ltL1 := L1.lt
 have l2c0 := L2.c0
 have l2c1 := L2.c1
 have l2c2 := L2.c2
 have ltL2 := L2.lt
 clear hb
 by_cases hneg2 : r2 < 0
 ·
  go_wp2_with fail
  go_ret
  exact ⟨rfl, hB⟩
 have hd2 : decide (r2 < 0) = false := by simpa using hneg2
 have rd2 := rc2 (by omega)
 clear rc2
 go_wp2_with fail
 refine (szPairS_i (hr3.below hB) (by omega) (by omega)).mono ?_
 rintro e w3 ⟨⟨r3, rfl, ra3, rb3, rc3⟩, hb⟩
 clear l0c0 l0c1 ltL0 l1c0 l1c1 l1c2 ltL1 l2c0 l2c1 l2c2 ltL2
 replace L0 := L0.below hb
 replace L1 := L1.below hb
 replace L2 := L2.below hb
 replace hB := Below.on hB hb hB.size
 have l0c0 := L0.c0
 have l0c1 := L0.c1
 have ltL0 := L0.lt
 have l1c0 := L1.c0
 have l1c1 := L1.c1
 have l1c2 := L1.c2
 have ltL1 := L1.lt
 have l2c0 := L2.c0
 have l2c1 := L2.c1
 have l2c2 := L2.c2
 have ltL2 := L2.lt
 clear hb
 by_cases hneg3 : r3 < 0
 ·
  go_wp2_with fail
  go_ret
  exact ⟨rfl, hB⟩
 have hd3 : decide (r3 < 0) = false := by simpa using hneg3
 have rd3 := rc3 (by omega)
 clear rc3
 have hsz1 : Ex.sizeL ks1 ≤ 1048576 := by omega
 have hsz2 : Ex.sizeL ks2 ≤ 1048576 := by omega
 have hsz3 : cntP ps3 ≤ 1048576 := by omega
 -- wa
 go_wp2_with fail
 go_region_held3 (fun w' => (∀ b o, b < w3.heap.size → w'.cell? ⟨b, o, none⟩ = w3.cell? ⟨b, o, none⟩) ∧ Below w3.heap.size w3 w')
  (first | exact kp_drew w3 | exact kp_on ‹_› hb)
  (first
   | (go_at_call 7; ((with_reducible refine (toSig_any t0 a0 _).mono ?_); rintro e wa0 ⟨rfl, hb⟩))
   | (go_at_call 8; have hK := ‹(∀ b o, b < w3.heap.size → _) ∧ Below w3.heap.size w3 _›; ((with_reducible refine (toExpr_i (hr1.below (Below.on hB hK.2 hB.size)) hsz1).mono ?_); rintro e wa1 ⟨sxwa1, cxwa1, rfl, hfwa1, hb⟩))
   | (go_at_call 8; have hK := ‹(∀ b o, b < w3.heap.size → _) ∧ Below w3.heap.size w3 _›; ((with_reducible refine (toExpr_i (hr2.below (Below.on hB hK.2 hB.size)) hsz2).mono ?_); rintro e wa2 ⟨sxwa2, cxwa2, rfl, hfwa2, hb⟩; replace hfwa1 := hfwa1.on hb))
   | (go_at_call 13; have hK := ‹(∀ b o, b < w3.heap.size → _) ∧ Below w3.heap.size w3 _›; ((with_reducible refine (toPairS_i (hr3.below (Below.on hB hK.2 hB.size)) hsz3).mono ?_); rintro e wa3 ⟨sxwa3, cxwa3, rfl, hfwa3, hb⟩; replace hfwa1 := hfwa1.on hb; replace hfwa2 := hfwa2.on hb))
   | (go_at_call 12; have hK := ‹(∀ b o, b < w3.heap.size → _) ∧ Below w3.heap.size w3 _›; ((with_reducible refine (specCheckBisim_i (hfwa1.rds.one) (hfwa2.rds.one) (hfwa3.rds.one) hsz1 hsz2).mono ?_); rintro e waz ⟨rfl, hb⟩)))
 have hK := ‹(∀ b o, b < w3.heap.size → _) ∧ Below w3.heap.size w3 _›
 clear l0c0 l0c1 ltL0 l1c0 l1c1 l1c2 ltL1 l2c0 l2c1 l2c2 ltL2
 replace L0 := L0.below hK.2
 replace L1 := L1.below hK.2
 replace L2 := L2.below hK.2
 replace hB := Below.on hB hK.2 hB.size
 have l0c0 := L0.c0
 have l0c1 := L0.c1
 have ltL0 := L0.lt
 have l1c0 := L1.c0
 have l1c1 := L1.c1
 have l1c2 := L1.c2
 have ltL1 := L1.lt
 have l2c0 := L2.c0
 have l2c1 := L2.c1
 have l2c2 := L2.c2
 have ltL2 := L2.lt
 clear hK
 go_wp2_with fail
 refine (toExpr_i (hr1.below hB) hsz1).mono ?_
 rintro e wx1 ⟨sxx1, cxx1, rfl, hfx1, hb⟩
 clear l0c0 l0c1 ltL0 l1c0 l1c1 l1c2 ltL1 l2c0 l2c1 l2c2 ltL2
 replace L0 := L0.below hb
 replace L1 := L1.below hb
 replace L2 := L2.below hb
 replace hB := Below.on hB hb hB.size
 have l0c0 := L0.c0
 have l0c1 := L0.c1
 have ltL0 := L0.lt
 have l1c0 := L1.c0
 have l1c1 := L1.c1
 have l1c2 := L1.c2
 have ltL1 := L1.lt
 have l2c0 := L2.c0
 have l2c1 := L2.c1
 have l2c2 := L2.c2
 have ltL2 := L2.lt
 clear hb
 go_wp2_with fail
 have X1 := Blk.new3 wx1 34 (.int .i64 k1) (.int .i64 n1) (.slice sxx1 ks1.length cxx1)
 clear l0c0 l0c1 ltL0 l1c0 l1c1 l1c2 ltL1 l2c0 l2c1 l2c2 ltL2
 replace L0 := L0.alloc (.cells #[.int .i64 k1, .int .i64 n1, .slice sxx1 ks1.length cxx1] 34)
 replace L1 := L1.alloc (.cells #[.int .i64 k1, .int .i64 n1, .slice sxx1 ks1.length cxx1] 34)
 replace L2 := L2.alloc (.cells #[.int .i64 k1, .int .i64 n1, .slice sxx1 ks1.length cxx1] 34)
 replace hfx1 := hfx1.on (Below.alloc (Below.refl _ _) (Nat.le_refl _) (.cells #[.int .i64 k1, .int .i64 n1, .slice sxx1 ks1.length cxx1] 34))
 replace hB := hB.alloc hB.size (.cells #[.int .i64 k1, .int .i64 n1, .slice sxx1 ks1.length cxx1] 34)
 generalize wx1.alloc (.cells #[.int .i64 k1, .int .i64 n1, .slice sxx1 ks1.length cxx1] 34) = wb1 at L0 L1 L2 hfx1 X1 hB ⊢
 have l0c0 := L0.c0
 have l0c1 := L0.c1
 have ltL0 := L0.lt
 have l1c0 := L1.c0
 have l1c1 := L1.c1
 have l1c2 := L1.c2
 have ltL1 := L1.lt
 have l2c0 := L2.c0
 have l2c1 := L2.c1
 have l2c2 := L2.c2
 have ltL2 := L2.lt
 have x1c0 := X1.c0
 have x1c1 := X1.c1
 have x1c2 := X1.c2
 have ltX1 := X1.lt
 go_wp2_with fail
 refine (toExpr_i (hr2.below hB) hsz2).mono ?_
 rintro e wx2 ⟨sxx2, cxx2, rfl, hfx2, hb⟩
 clear l0c0 l0c1 ltL0 l1c0 l1c1 l1c2 ltL1 l2c0 l2c1 l2c2 ltL2 x1c0 x1c1 x1c2 ltX1
 replace L0 := L0.below hb
 replace L1 := L1.below hb
 replace L2 := L2.below hb
 replace hfx1 := hfx1.on hb
 replace X1 := X1.below hb
 replace hB := Below.on hB hb hB.size
 have l0c0 := L0.c0
 have l0c1 := L0.c1
 have ltL0 := L0.lt
 have l1c0 := L1.c0
 have l1c1 := L1.c1
 have l1c2 := L1.c2
 have ltL1 := L1.lt
 have l2c0 := L2.c0
 have l2c1 := L2.c1
 have l2c2 := L2.c2
 have ltL2 := L2.lt
 have x1c0 := X1.c0
 have x1c1 := X1.c1
 have x1c2 := X1.c2
 have ltX1 := X1.lt
 clear hb
 go_wp2_with fail
 have X2 := Blk.new3 wx2 34 (.int .i64 k2) (.int .i64 n2) (.slice sxx2 ks2.length cxx2)
 clear l0c0 l0c1 ltL0 l1c0 l1c1 l1c2 ltL1 l2c0 l2c1 l2c2 ltL2 x1c0 x1c1 x1c2 ltX1
 replace L0 := L0.alloc (.cells #[.int .i64 k2, .int .i64 n2, .slice sxx2 ks2.length cxx2] 34)
 replace L1 := L1.alloc (.cells #[.int .i64 k2, .int .i64 n2, .slice sxx2 ks2.length cxx2] 34)
 replace L2 := L2.alloc (.cells #[.int .i64 k2, .int .i64 n2, .slice sxx2 ks2.length cxx2] 34)
 replace hfx1 := hfx1.on (Below.alloc (Below.refl _ _) (Nat.le_refl _) (.cells #[.int .i64 k2, .int .i64 n2, .slice sxx2 ks2.length cxx2] 34))
 replace X1 := X1.alloc (.cells #[.int .i64 k2, .int .i64 n2, .slice sxx2 ks2.length cxx2] 34)
 replace hfx2 := hfx2.on (Below.alloc (Below.refl _ _) (Nat.le_refl _) (.cells #[.int .i64 k2, .int .i64 n2, .slice sxx2 ks2.length cxx2] 34))
 replace hB := hB.alloc hB.size (.cells #[.int .i64 k2, .int .i64 n2, .slice sxx2 ks2.length cxx2] 34)
 generalize wx2.alloc (.cells #[.int .i64 k2, .int .i64 n2, .slice sxx2 ks2.length cxx2] 34) = wb2 at L0 L1 L2 hfx1 X1 hfx2 X2 hB ⊢
 have l0c0 := L0.c0
 have l0c1 := L0.c1
 have ltL0 := L0.lt
 have l1c0 := L1.c0
 have l1c1 := L1.c1
 have l1c2 := L1.c2
 have ltL1 := L1.lt
 have l2c0 := L2.c0
 have l2c1 := L2.c1
 have l2c2 := L2.c2
 have ltL2 := L2.lt
 have x1c0 := X1.c0
 have x1c1 := X1.c1
 have x1c2 := X1.c2
 have ltX1 := X1.lt
 have x2c0 := X2.c0
 have x2c1 := X2.c1
 have x2c2 := X2.c2
 have ltX2 := X2.lt
 go_wp2_with fail
 refine (toPairS_i (hr3.below hB) hsz3).mono ?_
 rintro e wx3 ⟨sxx3, cxx3, rfl, hfx3, hb⟩
 clear l0c0 l0c1 ltL0 l1c0 l1c1 l1c2 ltL1 l2c0 l2c1 l2c2 ltL2 x1c0 x1c1 x1c2 ltX1 x2c0 x2c1 x2c2 ltX2
 replace L0 := L0.below hb
 replace L1 := L1.below hb
 replace L2 := L2.below hb
 replace hfx1 := hfx1.on hb
 replace X1 := X1.below hb
 replace hfx2 := hfx2.on hb
 replace X2 := X2.below hb
 replace hB := Below.on hB hb hB.size
 have l0c0 := L0.c0
 have l0c1 := L0.c1
 have ltL0 := L0.lt
 have l1c0 := L1.c0
 have l1c1 := L1.c1
 have l1c2 := L1.c2
 have ltL1 := L1.lt
 have l2c0 := L2.c0
 have l2c1 := L2.c1
 have l2c2 := L2.c2
 have ltL2 := L2.lt
 have x1c0 := X1.c0
 have x1c1 := X1.c1
 have x1c2 := X1.c2
 have ltX1 := X1.lt
 have x2c0 := X2.c0
 have x2c1 := X2.c1
 have x2c2 := X2.c2
 have ltX2 := X2.lt
 clear hb
 -- wi
 go_wp2_with fail
 go_region_held3 (fun w' => (∀ b o, b < wx3.heap.size → w'.cell? ⟨b, o, none⟩ = wx3.cell? ⟨b, o, none⟩) ∧ Below wx3.heap.size wx3 w')
  (first | exact kp_drew wx3 | exact kp_on ‹_› hb)
  (first
   | (go_at_call 7; ((with_reducible refine (toSig_any t0 a0 _).mono ?_); rintro e wi0 ⟨rfl, hb⟩))
   | (go_at_call 14; have hK := ‹(∀ b o, b < wx3.heap.size → _) ∧ Below wx3.heap.size wx3 _›; ((with_reducible refine (implCheckBisim_i (hfx1.rds.one.below hK.2) (hfx2.rds.one.below hK.2) (hfx3.rds.one.below hK.2)).mono ?_); rintro e wiz ⟨rfl, hb⟩)))
 have hK := ‹(∀ b o, b < wx3.heap.size → _) ∧ Below wx3.heap.size wx3 _›
 clear l0c0 l0c1 ltL0 l1c0 l1c1 l1c2 ltL1 l2c0 l2c1 l2c2 ltL2 x1c0 x1c1 x1c2 ltX1 x2c0 x2c1 x2c2 ltX2
 replace L0 := L0.below hK.2
 replace L1 := L1.below hK.2
 replace L2 := L2.below hK.2
 replace hfx1 := hfx1.on hK.2
 replace X1 := X1.below hK.2
 replace hfx2 := hfx2.on hK.2
 replace X2 := X2.below hK.2
 replace hfx3 := hfx3.on hK.2
 replace hB := Below.on hB hK.2 hB.size
 have l0c0 := L0.c0
 have l0c1 := L0.c1
 have ltL0 := L0.lt
 have l1c0 := L1.c0
 have l1c1 := L1.c1
 have l1c2 := L1.c2
 have ltL1 := L1.lt
 have l2c0 := L2.c0
 have l2c1 := L2.c1
 have l2c2 := L2.c2
 have ltL2 := L2.lt
 have x1c0 := X1.c0
 have x1c1 := X1.c1
 have x1c2 := X1.c2
 have ltX1 := X1.lt
 have x2c0 := X2.c0
 have x2c1 := X2.c1
 have x2c2 := X2.c2
 have ltX2 := X2.lt
 clear hK
 go_wp2_with fail
 -- is the copy 1 as it was?
 go_region_held3 (fun w' => (∀ b o, b < wiz.heap.size → w'.cell? ⟨b, o, none⟩ = wiz.cell? ⟨b, o, none⟩) ∧ Below wiz.heap.size wiz w')
  (first | exact kp_drew wiz | exact kp_on ‹_› hb)
  (first
   | (go_at_call 8; have hK := ‹(∀ b o, b < wiz.heap.size → _) ∧ Below wiz.heap.size wiz _›; ((with_reducible refine (toExpr_i (hr1.below (Below.on hB hK.2 hB.size)) hsz1).mono ?_); rintro e wy1 ⟨sxy1, cxy1, rfl, hfy1, hb⟩))
   | (go_at_call 10; have hK := ‹(∀ b o, b < wiz.heap.size → _) ∧ Below wiz.heap.size wiz _›; ((with_reducible refine (eqExpr_i ((hfx1.rds.one).below hK.2) (hfy1.rds.one)).mono ?_); rintro e wz1 ⟨rfl, hb⟩)))
 have hK := ‹(∀ b o, b < wiz.heap.size → _) ∧ Below wiz.heap.size wiz _›
 clear l0c0 l0c1 ltL0 l1c0 l1c1 l1c2 ltL1 l2c0 l2c1 l2c2 ltL2 x1c0 x1c1 x1c2 ltX1 x2c0 x2c1 x2c2 ltX2
 replace L0 := L0.below hK.2
 replace L1 := L1.below hK.2
 replace L2 := L2.below hK.2
 replace hfx1 := hfx1.on hK.2
 replace X1 := X1.below hK.2
 replace hfx2 := hfx2.on hK.2
 replace X2 := X2.below hK.2
 replace hfx3 := hfx3.on hK.2
 replace hB := Below.on hB hK.2 hB.size
 have l0c0 := L0.c0
 have l0c1 := L0.c1
 have ltL0 := L0.lt
 have l1c0 := L1.c0
 have l1c1 := L1.c1
 have l1c2 := L1.c2
 have ltL1 := L1.lt
 have l2c0 := L2.c0
 have l2c1 := L2.c1
 have l2c2 := L2.c2
 have ltL2 := L2.lt
 have x1c0 := X1.c0
 have x1c1 := X1.c1
 have x1c2 := X1.c2
 have ltX1 := X1.lt
 have x2c0 := X2.c0
 have x2c1 := X2.c1
 have x2c2 := X2.c2
 have ltX2 := X2.lt
 clear hK
 try simp only [ef1, Bool.not_true]
 go_wp2_with fail
 -- is the copy 2 as it was?
 go_region_held3 (fun w' => (∀ b o, b < wz1.heap.size → w'.cell? ⟨b, o, none⟩ = wz1.cell? ⟨b, o, none⟩) ∧ Below wz1.heap.size wz1 w')
  (first | exact kp_drew wz1 | exact kp_on ‹_› hb)
  (first
   | (go_at_call 8; have hK := ‹(∀ b o, b < wz1.heap.size → _) ∧ Below wz1.heap.size wz1 _›; ((with_reducible refine (toExpr_i (hr2.below (Below.on hB hK.2 hB.size)) hsz2).mono ?_); rintro e wy2 ⟨sxy2, cxy2, rfl, hfy2, hb⟩))
   | (go_at_call 10; have hK := ‹(∀ b o, b < wz1.heap.size → _) ∧ Below wz1.heap.size wz1 _›; ((with_reducible refine (eqExpr_i ((hfx2.rds.one).below hK.2) (hfy2.rds.one)).mono ?_); rintro e wz2 ⟨rfl, hb⟩)))
 have hK := ‹(∀ b o, b < wz1.heap.size → _) ∧ Below wz1.heap.size wz1 _›
 clear l0c0 l0c1 ltL0 l1c0 l1c1 l1c2 ltL1 l2c0 l2c1 l2c2 ltL2 x1c0 x1c1 x1c2 ltX1 x2c0 x2c1 x2c2 ltX2
 replace L0 := L0.below hK.2
 replace L1 := L1.below hK.2
 replace L2 := L2.below hK.2
 replace hfx1 := hfx1.on hK.2
 replace X1 := X1.below hK.2
 replace hfx2 := hfx2.on hK.2
 replace X2 := X2.below hK.2
 replace hfx3 := hfx3.on hK.2
 replace hB := Below.on hB hK.2 hB.size
 have l0c0 := L0.c0
 have l0c1 := L0.c1
 have ltL0 := L0.lt
 have l1c0 := L1.c0
 have l1c1 := L1.c1
 have l1c2 := L1.c2
 have ltL1 := L1.lt
 have l2c0 := L2.c0
 have l2c1 := L2.c1
 have l2c2 := L2.c2
 have ltL2 := L2.lt
 have x1c0 := X1.c0
 have x1c1 := X1.c1
 have x1c2 := X1.c2
 have ltX1 := X1.lt
 have x2c0 := X2.c0
 have x2c1 := X2.c1
 have x2c2 := X2.c2
 have ltX2 := X2.lt
 clear hK
 try simp only [ef2, Bool.not_true]
 go_wp2_with fail
 -- is the copy 3 as it was?
 refine (toPairS_i (hr3.below hB) hsz3).mono ?_
 rintro e wy3 ⟨sxy3, cxy3, rfl, hfy3, hb⟩
 clear l0c0 l0c1 ltL0 l1c0 l1c1 l1c2 ltL1 l2c0 l2c1 l2c2 ltL2 x1c0 x1c1 x1c2 ltX1 x2c0 x2c1 x2c2 ltX2
 replace L0 := L0.below hb
 replace L1 := L1.below hb
 replace L2 := L2.below hb
 replace hfx1 := hfx1.on hb
 replace X1 := X1.below hb
 replace hfx2 := hfx2.on hb
 replace X2 := X2.below hb
 replace hfx3 := hfx3.on hb
 replace hB := Below.on hB hb hB.size
 have l0c0 := L0.c0
 have l0c1 := L0.c1
 have ltL0 := L0.lt
 have l1c0 := L1.c0
 have l1c1 := L1.c1
 have l1c2 := L1.c2
 have ltL1 := L1.lt
 have l2c0 := L2.c0
 have l2c1 := L2.c1
 have l2c2 := L2.c2
 have ltL2 := L2.lt
 have x1c0 := X1.c0
 have x1c1 := X1.c1
 have x1c2 := X1.c2
 have ltX1 := X1.lt
 have x2c0 := X2.c0
 have x2c1 := X2.c1
 have x2c2 := X2.c2
 have ltX2 := X2.lt
 clear hb
 go_wp2_with fail
 refine (eqPairS_i (hfx3.rds.one) (hfy3.rds.one)).mono ?_
 rintro e wz3 ⟨rfl, hb⟩
 clear l0c0 l0c1 ltL0 l1c0 l1c1 l1c2 ltL1 l2c0 l2c1 l2c2 ltL2 x1c0 x1c1 x1c2 ltX1 x2c0 x2c1 x2c2 ltX2
 replace L0 := L0.below hb
 replace L1 := L1.below hb
 replace L2 := L2.below hb
 replace hfx1 := hfx1.on hb
 replace X1 := X1.below hb
 replace hfx2 := hfx2.on hb
 replace X2 := X2.below hb
 replace hfx3 := hfx3.on hb
 replace hB := Below.on hB hb hB.size
 have l0c0 := L0.c0
 have l0c1 := L0.c1
 have ltL0 := L0.lt
 have l1c0 := L1.c0
 have l1c1 := L1.c1
 have l1c2 := L1.c2
 have ltL1 := L1.lt
 have l2c0 := L2.c0
 have l2c1 := L2.c1
 have l2c2 := L2.c2
 have ltL2 := L2.lt
 have x1c0 := X1.c0
 have x1c1 := X1.c1
 have x1c2 := X1.c2
 have ltX1 := X1.lt
 have x2c0 := X2.c0
 have x2c1 := X2.c1
 have x2c2 := X2.c2
 have ltX2 := X2.lt
 clear hb
 try simp only [ef3, Bool.not_true]
 go_wp2_with fail
 go_ret
 exact ⟨rfl, hB⟩
set_option maxRecDepth 100000 in
theorem law_CheckBisim_of {H : Type} {enc : TypeId × Value → H} (W : World) (args : Array Value) (ds : List (DataW H)) (ps : List MemPlace) (hA : DataW.TrodAll enc Tryz.prog W 0 (fun _ => true) true Tryz.f4.params.toList args.toList ds ps)
  (hval : ∀ (j : Nat) t v, Tryz.f4.params[j]? = some t → args[j]? = some v → ∃ base, Value.okWide Tryz.prog W .any base t v) :
  Calls Tryz.prog 4 args W fun e W' => e = .returned (.bool true) ∧ Below W.heap.size W W' := by
 rw [Tryz.params4] at hA hval
 obtain ⟨v0, vs0, d0', ds0, p0, q0, hargs, rfl, rfl, h0, ra0⟩ := trodAll_cons hA
 obtain ⟨v1, vs1, d1', ds1, p1, q1, rfl, rfl, rfl, h1, ra1⟩ := trodAll_cons ra0
 obtain ⟨v2, vs2, d2', ds2, p2, q2, rfl, rfl, rfl, h2, ra2⟩ := trodAll_cons ra1
 obtain ⟨v3, vs3, d3', ds3, p3, q3, rfl, rfl, rfl, h3, ra3⟩ := trodAll_cons ra2
 obtain ⟨rfl, rfl, rfl⟩ := trodAll_nil ra3
 obtain rfl : args = #[v0, v1, v2, v3] := Array.toList_inj.1 hargs
 obtain ⟨t0, a0, rfl⟩ := open_lawsSig h0
 obtain ⟨k1, n1, ks1, s1, c1, rfl, hr1⟩ := open_lawsExpr h1
 obtain ⟨k2, n2, ks2, s2, c2, rfl, hr2⟩ := open_lawsExpr h2
 obtain ⟨base3, hv3⟩ := hval 3 38 v3 rfl rfl
 obtain ⟨ps3, s3, c3, rfl, hr3⟩ := open_lawsPairS hv3 h3
 exact law_CheckBisim t0 a0 k1 n1 ks1 s1 c1 k2 n2 ks2 s2 c2 ps3 s3 c3 W hr1 hr2 hr3
end Go.Proofs.YtcokljhamhgelaaGreatDoor
