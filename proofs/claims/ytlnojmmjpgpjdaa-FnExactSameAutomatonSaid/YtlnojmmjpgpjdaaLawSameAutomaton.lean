/-
  FnExactSameAutomaton: the walk of the law. No condition.
-/
import Derived.Test.YtlnojmmjpgpjdaaSameA2
namespace Go.Proofs.Ytlnojmmjpgpjdaa
open Go.ChangeShapes Go.WideShapes Go.ChangeAt Go.RowKit

set_option maxRecDepth 100000 in
set_option maxHeartbeats 4000000 in
theorem law_SameAutomaton (t0 a0 : Int) (ac0 : List (List Bool)) (nx0 : List (List (List Int))) (s0 : Option Addr) (c0 : Nat) (u0 : Option Addr) (d0 : Nat) (t1 a1 : Int) (ac1 : List (List Bool)) (nx1 : List (List (List Int))) (s1 : Option Addr) (c1 : Nat) (u1 : Option Addr) (d1 : Nat) (w : World) (hr0 : Rd w (bbD ac0) (.slice s0 ac0.length c0)) (hq0 : Rd w (iiiD nx0) (.slice u0 nx0.length d0)) (hr1 : Rd w (bbD ac1) (.slice s1 ac1.length c1)) (hq1 : Rd w (iiiD nx1) (.slice u1 nx1.length d1)) :
    Calls Try.prog 4 #[.agg #[.int .i64 t0, .int .i64 a0, .slice s0 ac0.length c0, .slice u0 nx0.length d0], .agg #[.int .i64 t1, .int .i64 a1, .slice s1 ac1.length c1, .slice u1 nx1.length d1]] w fun e w' => e = .returned (.bool true) ∧ Below w.heap.size w w' := by
  have ef0 : eqb ac0 ac0 = true ∧ eqb nx0 nx0 = true := by simp [eqb_true]
  have ef1 : eqb ac1 ac1 = true ∧ eqb nx1 nx1 = true := by simp [eqb_true]
  go_enter Try.func4, Try.ntmps4
  go_wp2_with fail
  have L0 := (Blk.new4 w 27 (.int .i64 t0) (.int .i64 a0) (.slice s0 ac0.length c0) (.slice u0 nx0.length d0)).alloc (.cells #[.int .i64 t1, .int .i64 a1, .slice s1 ac1.length c1, .slice u1 nx1.length d1] 27)
  have L1 := Blk.new4 (w.alloc (.cells #[.int .i64 t0, .int .i64 a0, .slice s0 ac0.length c0, .slice u0 nx0.length d0] 27)) 27 (.int .i64 t1) (.int .i64 a1) (.slice s1 ac1.length c1) (.slice u1 nx1.length d1)
  simp at L1
  refine (szAutomaton_i (by repeat (first | exact hr0 | apply Rd.alloc)) (by repeat (first | exact hq0 | apply Rd.alloc)) (by omega) (by omega)).mono ?_
  rintro e w1 ⟨⟨r1, rfl, ra1, rb1, rc1⟩, hb⟩
  replace L0 := L0.below hb
  replace L1 := L1.below hb
  have hB : Below w.heap.size w w1 := Below.on (by (repeat' (first | exact Below.refl _ _ | assumption | (refine Below.alloc ?_ (by first | omega | (simp; done) | (simp; omega)) _) | (refine Below.drew ?_) | (refine Below.setCell ?_ (by first | omega | (simp; done) | (simp; omega)) _)))) hb (by simp <;> omega)
  have l0c0 := L0.c0
  have l0c1 := L0.c1
  have l0c2 := L0.c2
  have l0c3 := L0.c3
  have ltL0 := L0.lt
  have l1c0 := L1.c0
  have l1c1 := L1.c1
  have l1c2 := L1.c2
  have l1c3 := L1.c3
  have ltL1 := L1.lt
  clear hb
  by_cases hneg1 : r1 < 0
  · go_wp2_with fail
    go_ret
    exact ⟨rfl, hB⟩
  have hd1 : decide (r1 < 0) = false := by simpa using hneg1
  have rd1 := rc1 (by omega)
  clear rc1
  go_wp2_with fail
  refine (szAutomaton_i (hr1.below hB) (hq1.below hB) (by omega) (by omega)).mono ?_
  rintro e w2 ⟨⟨r2, rfl, ra2, rb2, rc2⟩, hb⟩
  clear l0c0 l0c1 l0c2 l0c3 ltL0 l1c0 l1c1 l1c2 l1c3 ltL1
  replace L0 := L0.below hb
  replace L1 := L1.below hb
  replace hB := Below.on hB hb hB.size
  have l0c0 := L0.c0
  have l0c1 := L0.c1
  have l0c2 := L0.c2
  have l0c3 := L0.c3
  have ltL0 := L0.lt
  have l1c0 := L1.c0
  have l1c1 := L1.c1
  have l1c2 := L1.c2
  have l1c3 := L1.c3
  have ltL1 := L1.lt
  clear hb
  by_cases hneg2 : r2 < 0
  · go_wp2_with fail
    go_ret
    exact ⟨rfl, hB⟩
  have hd2 : decide (r2 < 0) = false := by simpa using hneg2
  have rd2 := rc2 (by omega)
  clear rc2
  have hsz0 : cntA ac0 nx0 ≤ 1048576 := by omega
  have hsz1 : cntA ac1 nx1 ≤ 1048576 := by omega
  -- wa
  go_wp2_with fail
  go_region_held3 (fun w' => (∀ b o, b < w2.heap.size → w'.cell? ⟨b, o, none⟩ = w2.cell? ⟨b, o, none⟩) ∧ Below w2.heap.size w2 w')
    (first | exact kp_drew w2 | exact kp_on ‹_› hb)
    (first
      | (go_at_call 13; have hK := ‹(∀ b o, b < w2.heap.size → _) ∧ Below w2.heap.size w2 _›; ((with_reducible refine (toAutomaton_i (hr0.below (Below.on hB hK.2 hB.size)) (hq0.below (Below.on hB hK.2 hB.size)) hsz0).mono ?_); rintro e wa0 ⟨sxwa0, cxwa0, uxwa0, dxwa0, rfl, hfwa0, hb⟩))
      | (go_at_call 13; have hK := ‹(∀ b o, b < w2.heap.size → _) ∧ Below w2.heap.size w2 _›; ((with_reducible refine (toAutomaton_i (hr1.below (Below.on hB hK.2 hB.size)) (hq1.below (Below.on hB hK.2 hB.size)) hsz1).mono ?_); rintro e wa1 ⟨sxwa1, cxwa1, uxwa1, dxwa1, rfl, hfwa1, hb⟩; replace hfwa0 := hfwa0.on hb))
      | (go_at_call 16; have hK := ‹(∀ b o, b < w2.heap.size → _) ∧ Below w2.heap.size w2 _›; ((with_reducible refine (specSameAutomaton_i (hfwa0.rds.two.1) (hfwa0.rds.two.2) (hfwa1.rds.two.1) (hfwa1.rds.two.2)).mono ?_); rintro e waz ⟨rfl, hb⟩)))
  have hK := ‹(∀ b o, b < w2.heap.size → _) ∧ Below w2.heap.size w2 _›
  clear l0c0 l0c1 l0c2 l0c3 ltL0 l1c0 l1c1 l1c2 l1c3 ltL1
  replace L0 := L0.below hK.2
  replace L1 := L1.below hK.2
  replace hB := Below.on hB hK.2 hB.size
  have l0c0 := L0.c0
  have l0c1 := L0.c1
  have l0c2 := L0.c2
  have l0c3 := L0.c3
  have ltL0 := L0.lt
  have l1c0 := L1.c0
  have l1c1 := L1.c1
  have l1c2 := L1.c2
  have l1c3 := L1.c3
  have ltL1 := L1.lt
  clear hK
  go_wp2_with fail
  refine (toAutomaton_i (hr0.below hB) (hq0.below hB) hsz0).mono ?_
  rintro e wx0 ⟨sxx0, cxx0, uxx0, dxx0, rfl, hfx0, hb⟩
  clear l0c0 l0c1 l0c2 l0c3 ltL0 l1c0 l1c1 l1c2 l1c3 ltL1
  replace L0 := L0.below hb
  replace L1 := L1.below hb
  replace hB := Below.on hB hb hB.size
  have l0c0 := L0.c0
  have l0c1 := L0.c1
  have l0c2 := L0.c2
  have l0c3 := L0.c3
  have ltL0 := L0.lt
  have l1c0 := L1.c0
  have l1c1 := L1.c1
  have l1c2 := L1.c2
  have l1c3 := L1.c3
  have ltL1 := L1.lt
  clear hb
  go_wp2_with fail
  have X0 := Blk.new4 wx0 32 (.int .i64 t0) (.int .i64 a0) (.slice sxx0 ac0.length cxx0) (.slice uxx0 nx0.length dxx0)
  clear l0c0 l0c1 l0c2 l0c3 ltL0 l1c0 l1c1 l1c2 l1c3 ltL1
  replace L0 := L0.alloc (.cells #[.int .i64 t0, .int .i64 a0, .slice sxx0 ac0.length cxx0, .slice uxx0 nx0.length dxx0] 32)
  replace L1 := L1.alloc (.cells #[.int .i64 t0, .int .i64 a0, .slice sxx0 ac0.length cxx0, .slice uxx0 nx0.length dxx0] 32)
  replace hfx0 := hfx0.on (Below.alloc (Below.refl _ _) (Nat.le_refl _) (.cells #[.int .i64 t0, .int .i64 a0, .slice sxx0 ac0.length cxx0, .slice uxx0 nx0.length dxx0] 32))
  replace hB := hB.alloc hB.size (.cells #[.int .i64 t0, .int .i64 a0, .slice sxx0 ac0.length cxx0, .slice uxx0 nx0.length dxx0] 32)
  generalize wx0.alloc (.cells #[.int .i64 t0, .int .i64 a0, .slice sxx0 ac0.length cxx0, .slice uxx0 nx0.length dxx0] 32) = wb0 at L0 L1 hfx0 X0 hB ⊢
  have l0c0 := L0.c0
  have l0c1 := L0.c1
  have l0c2 := L0.c2
  have l0c3 := L0.c3
  have ltL0 := L0.lt
  have l1c0 := L1.c0
  have l1c1 := L1.c1
  have l1c2 := L1.c2
  have l1c3 := L1.c3
  have ltL1 := L1.lt
  have x0c0 := X0.c0
  have x0c1 := X0.c1
  have x0c2 := X0.c2
  have x0c3 := X0.c3
  have ltX0 := X0.lt
  go_wp2_with fail
  refine (toAutomaton_i (hr1.below hB) (hq1.below hB) hsz1).mono ?_
  rintro e wx1 ⟨sxx1, cxx1, uxx1, dxx1, rfl, hfx1, hb⟩
  clear l0c0 l0c1 l0c2 l0c3 ltL0 l1c0 l1c1 l1c2 l1c3 ltL1 x0c0 x0c1 x0c2 x0c3 ltX0
  replace L0 := L0.below hb
  replace L1 := L1.below hb
  replace hfx0 := hfx0.on hb
  replace X0 := X0.below hb
  replace hB := Below.on hB hb hB.size
  have l0c0 := L0.c0
  have l0c1 := L0.c1
  have l0c2 := L0.c2
  have l0c3 := L0.c3
  have ltL0 := L0.lt
  have l1c0 := L1.c0
  have l1c1 := L1.c1
  have l1c2 := L1.c2
  have l1c3 := L1.c3
  have ltL1 := L1.lt
  have x0c0 := X0.c0
  have x0c1 := X0.c1
  have x0c2 := X0.c2
  have x0c3 := X0.c3
  have ltX0 := X0.lt
  clear hb
  go_wp2_with fail
  have X1 := Blk.new4 wx1 32 (.int .i64 t1) (.int .i64 a1) (.slice sxx1 ac1.length cxx1) (.slice uxx1 nx1.length dxx1)
  clear l0c0 l0c1 l0c2 l0c3 ltL0 l1c0 l1c1 l1c2 l1c3 ltL1 x0c0 x0c1 x0c2 x0c3 ltX0
  replace L0 := L0.alloc (.cells #[.int .i64 t1, .int .i64 a1, .slice sxx1 ac1.length cxx1, .slice uxx1 nx1.length dxx1] 32)
  replace L1 := L1.alloc (.cells #[.int .i64 t1, .int .i64 a1, .slice sxx1 ac1.length cxx1, .slice uxx1 nx1.length dxx1] 32)
  replace hfx0 := hfx0.on (Below.alloc (Below.refl _ _) (Nat.le_refl _) (.cells #[.int .i64 t1, .int .i64 a1, .slice sxx1 ac1.length cxx1, .slice uxx1 nx1.length dxx1] 32))
  replace X0 := X0.alloc (.cells #[.int .i64 t1, .int .i64 a1, .slice sxx1 ac1.length cxx1, .slice uxx1 nx1.length dxx1] 32)
  replace hfx1 := hfx1.on (Below.alloc (Below.refl _ _) (Nat.le_refl _) (.cells #[.int .i64 t1, .int .i64 a1, .slice sxx1 ac1.length cxx1, .slice uxx1 nx1.length dxx1] 32))
  replace hB := hB.alloc hB.size (.cells #[.int .i64 t1, .int .i64 a1, .slice sxx1 ac1.length cxx1, .slice uxx1 nx1.length dxx1] 32)
  generalize wx1.alloc (.cells #[.int .i64 t1, .int .i64 a1, .slice sxx1 ac1.length cxx1, .slice uxx1 nx1.length dxx1] 32) = wb1 at L0 L1 hfx0 X0 hfx1 X1 hB ⊢
  have l0c0 := L0.c0
  have l0c1 := L0.c1
  have l0c2 := L0.c2
  have l0c3 := L0.c3
  have ltL0 := L0.lt
  have l1c0 := L1.c0
  have l1c1 := L1.c1
  have l1c2 := L1.c2
  have l1c3 := L1.c3
  have ltL1 := L1.lt
  have x0c0 := X0.c0
  have x0c1 := X0.c1
  have x0c2 := X0.c2
  have x0c3 := X0.c3
  have ltX0 := X0.lt
  have x1c0 := X1.c0
  have x1c1 := X1.c1
  have x1c2 := X1.c2
  have x1c3 := X1.c3
  have ltX1 := X1.lt
  -- wi
  go_wp2_with fail
  refine (implSameAutomaton_i (hfx0.rds.two.1) (hfx0.rds.two.2) (hfx1.rds.two.1) (hfx1.rds.two.2)).mono ?_
  rintro e wiz ⟨rfl, hb⟩
  clear l0c0 l0c1 l0c2 l0c3 ltL0 l1c0 l1c1 l1c2 l1c3 ltL1 x0c0 x0c1 x0c2 x0c3 ltX0 x1c0 x1c1 x1c2 x1c3 ltX1
  replace L0 := L0.below hb
  replace L1 := L1.below hb
  replace hfx0 := hfx0.on hb
  replace X0 := X0.below hb
  replace hfx1 := hfx1.on hb
  replace X1 := X1.below hb
  replace hB := Below.on hB hb hB.size
  have l0c0 := L0.c0
  have l0c1 := L0.c1
  have l0c2 := L0.c2
  have l0c3 := L0.c3
  have ltL0 := L0.lt
  have l1c0 := L1.c0
  have l1c1 := L1.c1
  have l1c2 := L1.c2
  have l1c3 := L1.c3
  have ltL1 := L1.lt
  have x0c0 := X0.c0
  have x0c1 := X0.c1
  have x0c2 := X0.c2
  have x0c3 := X0.c3
  have ltX0 := X0.lt
  have x1c0 := X1.c0
  have x1c1 := X1.c1
  have x1c2 := X1.c2
  have x1c3 := X1.c3
  have ltX1 := X1.lt
  clear hb
  go_wp2_with fail
  -- is the copy 0 as it was?
  go_region_held3 (fun w' => (∀ b o, b < wiz.heap.size → w'.cell? ⟨b, o, none⟩ = wiz.cell? ⟨b, o, none⟩) ∧ Below wiz.heap.size wiz w')
    (first | exact kp_drew wiz | exact kp_on ‹_› hb)
    (first
      | (go_at_call 13; have hK := ‹(∀ b o, b < wiz.heap.size → _) ∧ Below wiz.heap.size wiz _›; ((with_reducible refine (toAutomaton_i (hr0.below (Below.on hB hK.2 hB.size)) (hq0.below (Below.on hB hK.2 hB.size)) hsz0).mono ?_); rintro e wy0 ⟨sxy0, cxy0, uxy0, dxy0, rfl, hfy0, hb⟩))
      | (go_at_call 15; have hK := ‹(∀ b o, b < wiz.heap.size → _) ∧ Below wiz.heap.size wiz _›; ((with_reducible refine (eqAutomaton_i ((hfx0.rds.two.1).below hK.2) ((hfx0.rds.two.2).below hK.2) (hfy0.rds.two.1) (hfy0.rds.two.2)).mono ?_); rintro e wz0 ⟨rfl, hb⟩)))
  have hK := ‹(∀ b o, b < wiz.heap.size → _) ∧ Below wiz.heap.size wiz _›
  clear l0c0 l0c1 l0c2 l0c3 ltL0 l1c0 l1c1 l1c2 l1c3 ltL1 x0c0 x0c1 x0c2 x0c3 ltX0 x1c0 x1c1 x1c2 x1c3 ltX1
  replace L0 := L0.below hK.2
  replace L1 := L1.below hK.2
  replace hfx0 := hfx0.on hK.2
  replace X0 := X0.below hK.2
  replace hfx1 := hfx1.on hK.2
  replace X1 := X1.below hK.2
  replace hB := Below.on hB hK.2 hB.size
  have l0c0 := L0.c0
  have l0c1 := L0.c1
  have l0c2 := L0.c2
  have l0c3 := L0.c3
  have ltL0 := L0.lt
  have l1c0 := L1.c0
  have l1c1 := L1.c1
  have l1c2 := L1.c2
  have l1c3 := L1.c3
  have ltL1 := L1.lt
  have x0c0 := X0.c0
  have x0c1 := X0.c1
  have x0c2 := X0.c2
  have x0c3 := X0.c3
  have ltX0 := X0.lt
  have x1c0 := X1.c0
  have x1c1 := X1.c1
  have x1c2 := X1.c2
  have x1c3 := X1.c3
  have ltX1 := X1.lt
  clear hK
  try simp only [ef0, Bool.not_true, Bool.and_self, Bool.or_self, BEq.rfl]
  go_wp2_with fail
  -- is the copy 1 as it was?
  go_region_held3 (fun w' => (∀ b o, b < wz0.heap.size → w'.cell? ⟨b, o, none⟩ = wz0.cell? ⟨b, o, none⟩) ∧ Below wz0.heap.size wz0 w')
    (first | exact kp_drew wz0 | exact kp_on ‹_› hb)
    (first
      | (go_at_call 13; have hK := ‹(∀ b o, b < wz0.heap.size → _) ∧ Below wz0.heap.size wz0 _›; ((with_reducible refine (toAutomaton_i (hr1.below (Below.on hB hK.2 hB.size)) (hq1.below (Below.on hB hK.2 hB.size)) hsz1).mono ?_); rintro e wy1 ⟨sxy1, cxy1, uxy1, dxy1, rfl, hfy1, hb⟩))
      | (go_at_call 15; have hK := ‹(∀ b o, b < wz0.heap.size → _) ∧ Below wz0.heap.size wz0 _›; ((with_reducible refine (eqAutomaton_i ((hfx1.rds.two.1).below hK.2) ((hfx1.rds.two.2).below hK.2) (hfy1.rds.two.1) (hfy1.rds.two.2)).mono ?_); rintro e wz1 ⟨rfl, hb⟩)))
  have hK := ‹(∀ b o, b < wz0.heap.size → _) ∧ Below wz0.heap.size wz0 _›
  clear l0c0 l0c1 l0c2 l0c3 ltL0 l1c0 l1c1 l1c2 l1c3 ltL1 x0c0 x0c1 x0c2 x0c3 ltX0 x1c0 x1c1 x1c2 x1c3 ltX1
  replace L0 := L0.below hK.2
  replace L1 := L1.below hK.2
  replace hfx0 := hfx0.on hK.2
  replace X0 := X0.below hK.2
  replace hfx1 := hfx1.on hK.2
  replace X1 := X1.below hK.2
  replace hB := Below.on hB hK.2 hB.size
  have l0c0 := L0.c0
  have l0c1 := L0.c1
  have l0c2 := L0.c2
  have l0c3 := L0.c3
  have ltL0 := L0.lt
  have l1c0 := L1.c0
  have l1c1 := L1.c1
  have l1c2 := L1.c2
  have l1c3 := L1.c3
  have ltL1 := L1.lt
  have x0c0 := X0.c0
  have x0c1 := X0.c1
  have x0c2 := X0.c2
  have x0c3 := X0.c3
  have ltX0 := X0.lt
  have x1c0 := X1.c0
  have x1c1 := X1.c1
  have x1c2 := X1.c2
  have x1c3 := X1.c3
  have ltX1 := X1.lt
  clear hK
  try simp only [ef1, Bool.not_true, Bool.and_self, Bool.or_self, BEq.rfl]
  go_wp2_with fail
  go_ret
  exact ⟨rfl, hB⟩

set_option maxRecDepth 100000 in
theorem law_SameAutomaton_of {H : Type} {enc : TypeId × Value → H} (W : World) (args : Array Value) (ds : List (DataW H)) (ps : List MemPlace) (hA : DataW.TrodAll enc Try.prog W 0 (fun _ => true) true Try.f4.params.toList args.toList ds ps)
    (hval : ∀ (j : Nat) t v, Try.f4.params[j]? = some t → args[j]? = some v → ∃ base, Value.okWide Try.prog W .any base t v) :
    Calls Try.prog 4 args W fun e W' => e = .returned (.bool true) ∧ Below W.heap.size W W' := by
  rw [Try.params4] at hA hval
  obtain ⟨v0, vs0, d0', ds0, p0, q0, hargs, rfl, rfl, h0, ra0⟩ := trodAll_cons hA
  obtain ⟨v1, vs1, d1', ds1, p1, q1, rfl, rfl, rfl, h1, ra1⟩ := trodAll_cons ra0
  obtain ⟨rfl, rfl, rfl⟩ := trodAll_nil ra1
  obtain rfl : args = #[v0, v1] := Array.toList_inj.1 hargs
  obtain ⟨t0, a0, ac0, nx0, s0, c0, u0, d0, rfl, hr0, hq0⟩ := open_lawsAutomaton h0
  obtain ⟨t1, a1, ac1, nx1, s1, c1, u1, d1, rfl, hr1, hq1⟩ := open_lawsAutomaton h1
  exact law_SameAutomaton t0 a0 ac0 nx0 s0 c0 u0 d0 t1 a1 ac1 nx1 s1 c1 u1 d1 W hr0 hq0 hr1 hq1
end Go.Proofs.Ytlnojmmjpgpjdaa
