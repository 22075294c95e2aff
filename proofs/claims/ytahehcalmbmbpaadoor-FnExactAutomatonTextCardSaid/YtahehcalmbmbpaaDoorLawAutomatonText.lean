/-
  FnExactAutomatonText: the walk of the law. No condition.
-/
import Derived.Test.YtahehcalmbmbpaaDoorTextB
namespace Go.Proofs.YtahehcalmbmbpaaDoor
open Go.ChangeShapes Go.WideShapes Go.ChangeAt Go.RowKit

set_option maxRecDepth 100000 in
set_option maxHeartbeats 4000000 in
theorem law_AutomatonText (t0 a0 : Int) (ac0 : List (List Bool)) (nx0 : List (List (List Int))) (s0 : Option Addr) (c0 : Nat) (u0 : Option Addr) (d0 : Nat) (w : World) (hr0 : Rd w (bbD ac0) (.slice s0 ac0.length c0)) (hq0 : Rd w (iiiD nx0) (.slice u0 nx0.length d0)) :
    Calls Tryd.prog 5 #[.agg #[.int .i64 t0, .int .i64 a0, .slice s0 ac0.length c0, .slice u0 nx0.length d0]] w fun e w' => e = .returned (.bool true) ∧ Below w.heap.size w w' := by
  have ef0 : eqb ac0 ac0 = true ∧ eqb nx0 nx0 = true := by simp [eqb_true]
  go_enter Tryd.func5, Tryd.ntmps5
  go_wp2_with fail
  have L0 := Blk.new4 w 49 (.int .i64 t0) (.int .i64 a0) (.slice s0 ac0.length c0) (.slice u0 nx0.length d0)
  refine (szAutomaton_i (by repeat (first | exact hr0 | apply Rd.alloc)) (by repeat (first | exact hq0 | apply Rd.alloc)) (by omega) (by omega)).mono ?_
  rintro e w1 ⟨⟨r1, rfl, ra1, rb1, rc1⟩, hb⟩
  replace L0 := L0.below hb
  have hB : Below w.heap.size w w1 := Below.on (by (repeat' (first | exact Below.refl _ _ | assumption | (refine Below.alloc ?_ (by first | omega | (simp; done) | (simp; omega)) _) | (refine Below.drew ?_) | (refine Below.setCell ?_ (by first | omega | (simp; done) | (simp; omega)) _)))) hb (by simp <;> omega)
  have l0c0 := L0.c0
  have l0c1 := L0.c1
  have l0c2 := L0.c2
  have l0c3 := L0.c3
  have ltL0 := L0.lt
  clear hb
  by_cases hneg1 : r1 < 0
  · go_wp2_with fail
    go_ret
    exact ⟨rfl, hB⟩
  have hd1 : decide (r1 < 0) = false := by simpa using hneg1
  have rd1 := rc1 (by omega)
  clear rc1
  have hsz0 : cntA ac0 nx0 ≤ 1048576 := by omega
  -- wa
  go_wp2_with fail
  refine (toAutomaton_i (hr0.below hB) (hq0.below hB) hsz0).mono ?_
  rintro e wa0 ⟨sxwa0, cxwa0, uxwa0, dxwa0, rfl, hfwa0, hb⟩
  clear l0c0 l0c1 l0c2 l0c3 ltL0
  replace L0 := L0.below hb
  replace hB := Below.on hB hb hB.size
  have l0c0 := L0.c0
  have l0c1 := L0.c1
  have l0c2 := L0.c2
  have l0c3 := L0.c3
  have ltL0 := L0.lt
  clear hb
  go_wp2_with fail
  refine (specAutomatonText_i (hfwa0.rds.two.1) (hfwa0.rds.two.2)).mono ?_
  rintro e waz ⟨rfl, hb⟩
  clear l0c0 l0c1 l0c2 l0c3 ltL0
  replace L0 := L0.below hb
  replace hB := Below.on hB hb hB.size
  have l0c0 := L0.c0
  have l0c1 := L0.c1
  have l0c2 := L0.c2
  have l0c3 := L0.c3
  have ltL0 := L0.lt
  clear hb
  go_wp2_with fail
  refine (toAutomaton_i (hr0.below hB) (hq0.below hB) hsz0).mono ?_
  rintro e wx0 ⟨sxx0, cxx0, uxx0, dxx0, rfl, hfx0, hb⟩
  clear l0c0 l0c1 l0c2 l0c3 ltL0
  replace L0 := L0.below hb
  replace hB := Below.on hB hb hB.size
  have l0c0 := L0.c0
  have l0c1 := L0.c1
  have l0c2 := L0.c2
  have l0c3 := L0.c3
  have ltL0 := L0.lt
  clear hb
  go_wp2_with fail
  have X0 := Blk.new4 wx0 53 (.int .i64 t0) (.int .i64 a0) (.slice sxx0 ac0.length cxx0) (.slice uxx0 nx0.length dxx0)
  clear l0c0 l0c1 l0c2 l0c3 ltL0
  replace L0 := L0.alloc (.cells #[.int .i64 t0, .int .i64 a0, .slice sxx0 ac0.length cxx0, .slice uxx0 nx0.length dxx0] 53)
  replace hfx0 := hfx0.on (Below.alloc (Below.refl _ _) (Nat.le_refl _) (.cells #[.int .i64 t0, .int .i64 a0, .slice sxx0 ac0.length cxx0, .slice uxx0 nx0.length dxx0] 53))
  replace hB := hB.alloc hB.size (.cells #[.int .i64 t0, .int .i64 a0, .slice sxx0 ac0.length cxx0, .slice uxx0 nx0.length dxx0] 53)
  generalize wx0.alloc (.cells #[.int .i64 t0, .int .i64 a0, .slice sxx0 ac0.length cxx0, .slice uxx0 nx0.length dxx0] 53) = wb0 at L0 hfx0 X0 hB ⊢
  have l0c0 := L0.c0
  have l0c1 := L0.c1
  have l0c2 := L0.c2
  have l0c3 := L0.c3
  have ltL0 := L0.lt
  have x0c0 := X0.c0
  have x0c1 := X0.c1
  have x0c2 := X0.c2
  have x0c3 := X0.c3
  have ltX0 := X0.lt
  -- wi
  go_wp2_with fail
  refine (implAutomatonText_i (hfx0.rds.two.1) (hfx0.rds.two.2)).mono ?_
  rintro e wiz ⟨rfl, hb⟩
  clear l0c0 l0c1 l0c2 l0c3 ltL0 x0c0 x0c1 x0c2 x0c3 ltX0
  replace L0 := L0.below hb
  replace hfx0 := hfx0.on hb
  replace X0 := X0.below hb
  replace hB := Below.on hB hb hB.size
  have l0c0 := L0.c0
  have l0c1 := L0.c1
  have l0c2 := L0.c2
  have l0c3 := L0.c3
  have ltL0 := L0.lt
  have x0c0 := X0.c0
  have x0c1 := X0.c1
  have x0c2 := X0.c2
  have x0c3 := X0.c3
  have ltX0 := X0.lt
  clear hb
  go_wp2_with fail
  -- is the copy 0 as it was?
  go_region_held3 (fun w' => (∀ b o, b < wiz.heap.size → w'.cell? ⟨b, o, none⟩ = wiz.cell? ⟨b, o, none⟩) ∧ Below wiz.heap.size wiz w')
    (first | exact kp_drew wiz | exact kp_on ‹_› hb)
    (first
      | (go_at_call 20; have hK := ‹(∀ b o, b < wiz.heap.size → _) ∧ Below wiz.heap.size wiz _›; ((with_reducible refine (toAutomaton_i (hr0.below (Below.on hB hK.2 hB.size)) (hq0.below (Below.on hB hK.2 hB.size)) hsz0).mono ?_); rintro e wy0 ⟨sxy0, cxy0, uxy0, dxy0, rfl, hfy0, hb⟩))
      | (go_at_call 22; have hK := ‹(∀ b o, b < wiz.heap.size → _) ∧ Below wiz.heap.size wiz _›; ((with_reducible refine (eqAutomaton_i ((hfx0.rds.two.1).below hK.2) ((hfx0.rds.two.2).below hK.2) (hfy0.rds.two.1) (hfy0.rds.two.2)).mono ?_); rintro e wz0 ⟨rfl, hb⟩)))
  have hK := ‹(∀ b o, b < wiz.heap.size → _) ∧ Below wiz.heap.size wiz _›
  clear l0c0 l0c1 l0c2 l0c3 ltL0 x0c0 x0c1 x0c2 x0c3 ltX0
  replace L0 := L0.below hK.2
  replace hfx0 := hfx0.on hK.2
  replace X0 := X0.below hK.2
  replace hB := Below.on hB hK.2 hB.size
  have l0c0 := L0.c0
  have l0c1 := L0.c1
  have l0c2 := L0.c2
  have l0c3 := L0.c3
  have ltL0 := L0.lt
  have x0c0 := X0.c0
  have x0c1 := X0.c1
  have x0c2 := X0.c2
  have x0c3 := X0.c3
  have ltX0 := X0.lt
  clear hK
  try simp only [ef0, Bool.not_true, Bool.and_self, Bool.or_self, BEq.rfl]
  go_wp2_with fail
  go_ret
  exact ⟨rfl, hB⟩

set_option maxRecDepth 100000 in
theorem law_AutomatonText_of {H : Type} {enc : TypeId × Value → H} (W : World) (args : Array Value) (ds : List (DataW H)) (ps : List MemPlace) (hA : DataW.TrodAll enc Tryd.prog W 0 (fun _ => true) true Tryd.f5.params.toList args.toList ds ps)
    (hval : ∀ (j : Nat) t v, Tryd.f5.params[j]? = some t → args[j]? = some v → ∃ base, Value.okWide Tryd.prog W .any base t v) :
    Calls Tryd.prog 5 args W fun e W' => e = .returned (.bool true) ∧ Below W.heap.size W W' := by
  rw [Tryd.params5] at hA hval
  obtain ⟨v0, vs0, d0', ds0, p0, q0, hargs, rfl, rfl, h0, ra0⟩ := trodAll_cons hA
  obtain ⟨rfl, rfl, rfl⟩ := trodAll_nil ra0
  obtain rfl : args = #[v0] := Array.toList_inj.1 hargs
  obtain ⟨t0, a0, ac0, nx0, s0, c0, u0, d0, rfl, hr0, hq0⟩ := open_lawsAutomaton h0
  exact law_AutomatonText t0 a0 ac0 nx0 s0 c0 u0 d0 W hr0 hq0
end Go.Proofs.YtahehcalmbmbpaaDoor
