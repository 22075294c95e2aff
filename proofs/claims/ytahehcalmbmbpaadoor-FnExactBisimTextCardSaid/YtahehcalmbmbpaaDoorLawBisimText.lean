/-
  FnExactBisimText: the walk of the law. No condition.
-/
import Derived.Test.YtahehcalmbmbpaaDoorBisU
namespace Go.Proofs.YtahehcalmbmbpaaDoor
open Go.ChangeShapes Go.WideShapes Go.ChangeAt Go.RowKit

set_option maxRecDepth 100000 in
set_option maxHeartbeats 4000000 in
theorem law_BisimText (t0 a0 : Int) (ps1 : List (Ex × Ex)) (s1 : Option Addr) (c1 : Nat) (w : World) (hr1 : Rd w (prD ps1) (.slice s1 ps1.length c1)) :
    Calls Tryd.prog 6 #[.agg #[.int .i64 t0, .int .i64 a0], .slice s1 ps1.length c1] w fun e w' => e = .returned (.bool true) ∧ Below w.heap.size w w' := by
  have ef1 : eqb ps1 ps1 = true := by simp [eqb_true]
  go_enter Tryd.func6, Tryd.ntmps6
  go_wp2_with fail
  have L0 := Blk.new2 w 23 (.int .i64 t0) (.int .i64 a0)
  refine (szPairS_i (by repeat (first | exact hr1 | apply Rd.alloc)) (by omega) (by omega)).mono ?_
  rintro e w1 ⟨⟨r1, rfl, ra1, rb1, rc1⟩, hb⟩
  replace L0 := L0.below hb
  have hB : Below w.heap.size w w1 := Below.on (by (repeat' (first | exact Below.refl _ _ | assumption | (refine Below.alloc ?_ (by first | omega | (simp; done) | (simp; omega)) _) | (refine Below.drew ?_) | (refine Below.setCell ?_ (by first | omega | (simp; done) | (simp; omega)) _)))) hb (by simp <;> omega)
  have l0c0 := L0.c0
  have l0c1 := L0.c1
  have ltL0 := L0.lt
  clear hb
  by_cases hneg1 : r1 < 0
  · go_wp2_with fail
    go_ret
    exact ⟨rfl, hB⟩
  have hd1 : decide (r1 < 0) = false := by simpa using hneg1
  have rd1 := rc1 (by omega)
  clear rc1
  have hsz1 : cntP ps1 ≤ 1048576 := by omega
  -- wa
  go_wp2_with fail
  refine (toSig_any t0 a0 _).mono ?_
  rintro e wa0 ⟨rfl, hb⟩
  clear l0c0 l0c1 ltL0
  replace L0 := L0.below hb
  replace hB := Below.on hB hb hB.size
  have l0c0 := L0.c0
  have l0c1 := L0.c1
  have ltL0 := L0.lt
  clear hb
  go_wp2_with fail
  refine (toPairS_i (hr1.below hB) hsz1).mono ?_
  rintro e wa1 ⟨sxwa1, cxwa1, rfl, hfwa1, hb⟩
  clear l0c0 l0c1 ltL0
  replace L0 := L0.below hb
  replace hB := Below.on hB hb hB.size
  have l0c0 := L0.c0
  have l0c1 := L0.c1
  have ltL0 := L0.lt
  clear hb
  go_wp2_with fail
  refine (specBisimText_i rfl rfl (hfwa1.rds.one) hsz1).mono ?_
  rintro e waz ⟨rfl, hb⟩
  clear l0c0 l0c1 ltL0
  replace L0 := L0.below hb
  replace hB := Below.on hB hb hB.size
  have l0c0 := L0.c0
  have l0c1 := L0.c1
  have ltL0 := L0.lt
  clear hb
  go_wp2_with fail
  refine (toPairS_i (hr1.below hB) hsz1).mono ?_
  rintro e wx1 ⟨sxx1, cxx1, rfl, hfx1, hb⟩
  clear l0c0 l0c1 ltL0
  replace L0 := L0.below hb
  replace hB := Below.on hB hb hB.size
  have l0c0 := L0.c0
  have l0c1 := L0.c1
  have ltL0 := L0.lt
  clear hb
  -- wi
  go_wp2_with fail
  refine (toSig_any t0 a0 _).mono ?_
  rintro e wi0 ⟨rfl, hb⟩
  clear l0c0 l0c1 ltL0
  replace L0 := L0.below hb
  replace hfx1 := hfx1.on hb
  replace hB := Below.on hB hb hB.size
  have l0c0 := L0.c0
  have l0c1 := L0.c1
  have ltL0 := L0.lt
  clear hb
  go_wp2_with fail
  refine (implBisimText_i rfl rfl (hfx1.rds.one) hsz1).mono ?_
  rintro e wiz ⟨rfl, hb⟩
  clear l0c0 l0c1 ltL0
  replace L0 := L0.below hb
  replace hfx1 := hfx1.on hb
  replace hB := Below.on hB hb hB.size
  have l0c0 := L0.c0
  have l0c1 := L0.c1
  have ltL0 := L0.lt
  clear hb
  go_wp2_with fail
  -- is the copy 1 as it was?
  refine (toPairS_i (hr1.below hB) hsz1).mono ?_
  rintro e wy1 ⟨sxy1, cxy1, rfl, hfy1, hb⟩
  clear l0c0 l0c1 ltL0
  replace L0 := L0.below hb
  replace hfx1 := hfx1.on hb
  replace hB := Below.on hB hb hB.size
  have l0c0 := L0.c0
  have l0c1 := L0.c1
  have ltL0 := L0.lt
  clear hb
  go_wp2_with fail
  refine (eqPairS_i (hfx1.rds.one) (hfy1.rds.one)).mono ?_
  rintro e wz1 ⟨rfl, hb⟩
  clear l0c0 l0c1 ltL0
  replace L0 := L0.below hb
  replace hfx1 := hfx1.on hb
  replace hB := Below.on hB hb hB.size
  have l0c0 := L0.c0
  have l0c1 := L0.c1
  have ltL0 := L0.lt
  clear hb
  try simp only [ef1, Bool.not_true]
  go_wp2_with fail
  go_ret
  exact ⟨rfl, hB⟩

set_option maxRecDepth 100000 in
theorem law_BisimText_of {H : Type} {enc : TypeId × Value → H} (W : World) (args : Array Value) (ds : List (DataW H)) (ps : List MemPlace) (hA : DataW.TrodAll enc Tryd.prog W 0 (fun _ => true) true Tryd.f6.params.toList args.toList ds ps)
    (hval : ∀ (j : Nat) t v, Tryd.f6.params[j]? = some t → args[j]? = some v → ∃ base, Value.okWide Tryd.prog W .any base t v) :
    Calls Tryd.prog 6 args W fun e W' => e = .returned (.bool true) ∧ Below W.heap.size W W' := by
  rw [Tryd.params6] at hA hval
  obtain ⟨v0, vs0, d0', ds0, p0, q0, hargs, rfl, rfl, h0, ra0⟩ := trodAll_cons hA
  obtain ⟨v1, vs1, d1', ds1, p1, q1, rfl, rfl, rfl, h1, ra1⟩ := trodAll_cons ra0
  obtain ⟨rfl, rfl, rfl⟩ := trodAll_nil ra1
  obtain rfl : args = #[v0, v1] := Array.toList_inj.1 hargs
  obtain ⟨t0, a0, rfl⟩ := open_lawsSig h0
  obtain ⟨base1, hv1⟩ := hval 1 57 v1 rfl rfl
  obtain ⟨ps1, s1, c1, rfl, hr1⟩ := open_lawsPairS hv1 h1
  exact law_BisimText t0 a0 ps1 s1 c1 W hr1
end Go.Proofs.YtahehcalmbmbpaaDoor
