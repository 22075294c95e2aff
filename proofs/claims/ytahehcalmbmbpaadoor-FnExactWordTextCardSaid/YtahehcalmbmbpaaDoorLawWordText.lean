/-
  FnExactWordText: the walk of the law. No condition.
-/
import Derived.Test.YtahehcalmbmbpaaDoorTextW
import Derived.Test.YtahehcalmbmbpaaDoorWord
namespace Go.Proofs.YtahehcalmbmbpaaDoor
open Go.ChangeShapes Go.WideShapes Go.ChangeAt Go.RowKit

set_option maxRecDepth 100000 in
set_option maxHeartbeats 4000000 in
theorem law_WordText (t0 a0 : Int) (xs1 ys1 : List Int) (s1 : Option Addr) (c1 : Nat) (t1 : Option Addr) (d1 : Nat) (w : World) (hr1 : Rd w (intsD xs1) (.slice s1 xs1.length c1)) (hq1 : Rd w (intsD ys1) (.slice t1 ys1.length d1)) :
    Calls Tryd.prog 3 #[.agg #[.int .i64 t0, .int .i64 a0], .agg #[.slice s1 xs1.length c1, .slice t1 ys1.length d1]] w fun e w' => e = .returned (.bool true) ∧ Below w.heap.size w w' := by
  have ef1 : (eqb xs1 xs1 && eqb ys1 ys1) = true := by simp [eqb_true]
  go_enter Tryd.func3, Tryd.ntmps3
  go_wp2_with fail
  have L0 := (Blk.new2 w 23 (.int .i64 t0) (.int .i64 a0)).alloc (.cells #[.slice s1 xs1.length c1, .slice t1 ys1.length d1] 26)
  have L1 := Blk.new2 (w.alloc (.cells #[.int .i64 t0, .int .i64 a0] 23)) 26 (.slice s1 xs1.length c1) (.slice t1 ys1.length d1)
  simp at L1
  refine (szWord_i (by repeat (first | exact hr1 | apply Rd.alloc)) (by repeat (first | exact hq1 | apply Rd.alloc)) (by omega) (by omega)).mono ?_
  rintro e w1 ⟨⟨r1, rfl, ra1, rb1, rc1⟩, hb⟩
  replace L0 := L0.below hb
  replace L1 := L1.below hb
  have hB : Below w.heap.size w w1 := Below.on (by (repeat' (first | exact Below.refl _ _ | assumption | (refine Below.alloc ?_ (by first | omega | (simp; done) | (simp; omega)) _) | (refine Below.drew ?_) | (refine Below.setCell ?_ (by first | omega | (simp; done) | (simp; omega)) _)))) hb (by simp <;> omega)
  have l0c0 := L0.c0
  have l0c1 := L0.c1
  have ltL0 := L0.lt
  have l1c0 := L1.c0
  have l1c1 := L1.c1
  have ltL1 := L1.lt
  clear hb
  by_cases hneg1 : r1 < 0
  · go_wp2_with fail
    go_ret
    exact ⟨rfl, hB⟩
  have hd1 : decide (r1 < 0) = false := by simpa using hneg1
  have rd1 := rc1 (by omega)
  clear rc1
  have hsz1 : xs1.length + ys1.length ≤ 1048576 := by omega
  -- wa
  go_wp2_with fail
  go_region_held3 (fun w' => (∀ b o, b < w1.heap.size → w'.cell? ⟨b, o, none⟩ = w1.cell? ⟨b, o, none⟩) ∧ Below w1.heap.size w1 w')
    (first | exact kp_drew w1 | exact kp_on ‹_› hb)
    (first
      | (go_at_call 9; ((with_reducible refine (toSig_any t0 a0 _).mono ?_); rintro e wa0 ⟨rfl, hb⟩))
      | (go_at_call 10; have hK := ‹(∀ b o, b < w1.heap.size → _) ∧ Below w1.heap.size w1 _›; ((with_reducible refine (toWord_i (hr1.below (Below.on hB hK.2 hB.size)) (hq1.below (Below.on hB hK.2 hB.size)) hsz1).mono ?_); rintro e wa1 ⟨sxwa1, cxwa1, txwa1, dxwa1, rfl, hfwa1, hb⟩))
      | (go_at_call 8; have hK := ‹(∀ b o, b < w1.heap.size → _) ∧ Below w1.heap.size w1 _›; ((with_reducible refine (specWordText_i (hfwa1.rds.two.1) (hfwa1.rds.two.2)).mono ?_); rintro e waz ⟨rfl, hb⟩)))
  have hK := ‹(∀ b o, b < w1.heap.size → _) ∧ Below w1.heap.size w1 _›
  clear l0c0 l0c1 ltL0 l1c0 l1c1 ltL1
  replace L0 := L0.below hK.2
  replace L1 := L1.below hK.2
  replace hB := Below.on hB hK.2 hB.size
  have l0c0 := L0.c0
  have l0c1 := L0.c1
  have ltL0 := L0.lt
  have l1c0 := L1.c0
  have l1c1 := L1.c1
  have ltL1 := L1.lt
  clear hK
  go_wp2_with fail
  refine (toWord_i (hr1.below hB) (hq1.below hB) hsz1).mono ?_
  rintro e wx1 ⟨sxx1, cxx1, txx1, dxx1, rfl, hfx1, hb⟩
  clear l0c0 l0c1 ltL0 l1c0 l1c1 ltL1
  replace L0 := L0.below hb
  replace L1 := L1.below hb
  replace hB := Below.on hB hb hB.size
  have l0c0 := L0.c0
  have l0c1 := L0.c1
  have ltL0 := L0.lt
  have l1c0 := L1.c0
  have l1c1 := L1.c1
  have ltL1 := L1.lt
  clear hb
  go_wp2_with fail
  have X1 := Blk.new2 wx1 31 (.slice sxx1 xs1.length cxx1) (.slice txx1 ys1.length dxx1)
  clear l0c0 l0c1 ltL0 l1c0 l1c1 ltL1
  replace L0 := L0.alloc (.cells #[.slice sxx1 xs1.length cxx1, .slice txx1 ys1.length dxx1] 31)
  replace L1 := L1.alloc (.cells #[.slice sxx1 xs1.length cxx1, .slice txx1 ys1.length dxx1] 31)
  replace hfx1 := hfx1.on (Below.alloc (Below.refl _ _) (Nat.le_refl _) (.cells #[.slice sxx1 xs1.length cxx1, .slice txx1 ys1.length dxx1] 31))
  replace hB := hB.alloc hB.size (.cells #[.slice sxx1 xs1.length cxx1, .slice txx1 ys1.length dxx1] 31)
  generalize wx1.alloc (.cells #[.slice sxx1 xs1.length cxx1, .slice txx1 ys1.length dxx1] 31) = wb1 at L0 L1 hfx1 X1 hB ⊢
  have l0c0 := L0.c0
  have l0c1 := L0.c1
  have ltL0 := L0.lt
  have l1c0 := L1.c0
  have l1c1 := L1.c1
  have ltL1 := L1.lt
  have x1c0 := X1.c0
  have x1c1 := X1.c1
  have ltX1 := X1.lt
  -- wi
  go_wp2_with fail
  go_region_held3 (fun w' => (∀ b o, b < wb1.heap.size → w'.cell? ⟨b, o, none⟩ = wb1.cell? ⟨b, o, none⟩) ∧ Below wb1.heap.size wb1 w')
    (first | exact kp_drew wb1 | exact kp_on ‹_› hb)
    (first
      | (go_at_call 9; ((with_reducible refine (toSig_any t0 a0 _).mono ?_); rintro e wi0 ⟨rfl, hb⟩))
      | (go_at_call 11; have hK := ‹(∀ b o, b < wb1.heap.size → _) ∧ Below wb1.heap.size wb1 _›; ((with_reducible refine (implWordText_i (hfx1.rds.two.1.below hK.2) (hfx1.rds.two.2.below hK.2)).mono ?_); rintro e wiz ⟨rfl, hb⟩)))
  have hK := ‹(∀ b o, b < wb1.heap.size → _) ∧ Below wb1.heap.size wb1 _›
  clear l0c0 l0c1 ltL0 l1c0 l1c1 ltL1 x1c0 x1c1 ltX1
  replace L0 := L0.below hK.2
  replace L1 := L1.below hK.2
  replace hfx1 := hfx1.on hK.2
  replace X1 := X1.below hK.2
  replace hB := Below.on hB hK.2 hB.size
  have l0c0 := L0.c0
  have l0c1 := L0.c1
  have ltL0 := L0.lt
  have l1c0 := L1.c0
  have l1c1 := L1.c1
  have ltL1 := L1.lt
  have x1c0 := X1.c0
  have x1c1 := X1.c1
  have ltX1 := X1.lt
  clear hK
  go_wp2_with fail
  -- is the copy 1 as it was?
  go_region_held3 (fun w' => (∀ b o, b < wiz.heap.size → w'.cell? ⟨b, o, none⟩ = wiz.cell? ⟨b, o, none⟩) ∧ Below wiz.heap.size wiz w')
    (first | exact kp_drew wiz | exact kp_on ‹_› hb)
    (first
      | (go_at_call 10; have hK := ‹(∀ b o, b < wiz.heap.size → _) ∧ Below wiz.heap.size wiz _›; ((with_reducible refine (toWord_i (hr1.below (Below.on hB hK.2 hB.size)) (hq1.below (Below.on hB hK.2 hB.size)) hsz1).mono ?_); rintro e wy1 ⟨sxy1, cxy1, txy1, dxy1, rfl, hfy1, hb⟩))
      | (go_at_call 12; have hK := ‹(∀ b o, b < wiz.heap.size → _) ∧ Below wiz.heap.size wiz _›; ((with_reducible refine (eqWord_i ((hfx1.rds.two.1).below hK.2) ((hfx1.rds.two.2).below hK.2) (hfy1.rds.two.1) (hfy1.rds.two.2)).mono ?_); rintro e wz1 ⟨rfl, hb⟩)))
  have hK := ‹(∀ b o, b < wiz.heap.size → _) ∧ Below wiz.heap.size wiz _›
  clear l0c0 l0c1 ltL0 l1c0 l1c1 ltL1 x1c0 x1c1 ltX1
  replace L0 := L0.below hK.2
  replace L1 := L1.below hK.2
  replace hfx1 := hfx1.on hK.2
  replace X1 := X1.below hK.2
  replace hB := Below.on hB hK.2 hB.size
  have l0c0 := L0.c0
  have l0c1 := L0.c1
  have ltL0 := L0.lt
  have l1c0 := L1.c0
  have l1c1 := L1.c1
  have ltL1 := L1.lt
  have x1c0 := X1.c0
  have x1c1 := X1.c1
  have ltX1 := X1.lt
  clear hK
  try simp only [ef1, Bool.not_true]
  go_wp2_with fail
  go_ret
  exact ⟨rfl, hB⟩

set_option maxRecDepth 100000 in
theorem law_WordText_of {H : Type} {enc : TypeId × Value → H} (W : World) (args : Array Value) (ds : List (DataW H)) (ps : List MemPlace) (hA : DataW.TrodAll enc Tryd.prog W 0 (fun _ => true) true Tryd.f3.params.toList args.toList ds ps)
    (hval : ∀ (j : Nat) t v, Tryd.f3.params[j]? = some t → args[j]? = some v → ∃ base, Value.okWide Tryd.prog W .any base t v) :
    Calls Tryd.prog 3 args W fun e W' => e = .returned (.bool true) ∧ Below W.heap.size W W' := by
  rw [Tryd.params3] at hA hval
  obtain ⟨v0, vs0, d0', ds0, p0, q0, hargs, rfl, rfl, h0, ra0⟩ := trodAll_cons hA
  obtain ⟨v1, vs1, d1', ds1, p1, q1, rfl, rfl, rfl, h1, ra1⟩ := trodAll_cons ra0
  obtain ⟨rfl, rfl, rfl⟩ := trodAll_nil ra1
  obtain rfl : args = #[v0, v1] := Array.toList_inj.1 hargs
  obtain ⟨t0, a0, rfl⟩ := open_lawsSig h0
  obtain ⟨xs1, ys1, s1, c1, t1, d1, rfl, hr1, hq1⟩ := open_lawsWord h1
  exact law_WordText t0 a0 xs1 ys1 s1 c1 t1 d1 W hr1 hq1
end Go.Proofs.YtahehcalmbmbpaaDoor
