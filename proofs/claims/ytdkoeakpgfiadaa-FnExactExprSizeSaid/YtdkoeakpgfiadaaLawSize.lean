/-
  FnExactExprSize: the walk.
-/
import Derived.Test.YtdkoeakpgfiadaaSize
import Derived.Test.YtdkoeakpgfiadaaSz
import Derived.Test.YtdkoeakpgfiadaaTo
import Derived.Test.YtdkoeakpgfiadaaEq
namespace Go.Proofs.Ytdkoeakpgfiadaa
open Go.ChangeShapes Go.WideShapes Go.ChangeAt Go.RowKit

set_option maxHeartbeats 1000000 in
theorem law_exprSize (k n : Int) (ks : List Ex) (s : Option Addr) (cap : Nat) (w : World) (hr : Rd w (kidsD ks) (.slice s ks.length cap)) :
    Calls Try.prog 6 #[.agg #[.int .i64 k, .int .i64 n, .slice s ks.length cap]] w fun e w' => e = .returned (.bool true) ∧ Below w.heap.size w w' := by
  have hE : eqb (Ex.mk k n ks) (Ex.mk k n ks) = true := eqb_true rfl
  go_enter Try.func6, Try.ntmps6
  go_wp2_with fail
  have L := Blk.new3 w 33 (.int .i64 k) (.int .i64 n) (.slice s ks.length cap)
  refine (szExpr_any _ _ _ _ _ _ _ (hr.alloc _) (by omega) (by omega)).mono ?_
  rintro e w1 ⟨⟨r, rfl, r1, r2, r3⟩, hb⟩
  replace L := L.below hb
  have hB : Below w.heap.size w w1 := Below.on (by (repeat' (first | exact Below.refl _ _ | assumption | (refine Below.alloc ?_ (by first | omega | (simp; done) | (simp; omega)) _) | (refine Below.drew ?_) | (refine Below.setCell ?_ (by first | omega | (simp; done) | (simp; omega)) _)))) hb (by simp)
  clear hb
  by_cases hneg : r < 0
  · go_wp2_with fail
    go_ret
    exact ⟨rfl, hB⟩
  have hd : decide (r < 0) = false := by simpa using hneg
  have hsz : Ex.sizeL ks ≤ 1048576 := by have := r3 (by omega); omega
  clear r3
  have l0 := L.c0
  have l1 := L.c1
  have l2 := L.c2
  go_wp2_with fail
  refine (toExpr_any _ _ _ _ _ _ (hr.below hB) hsz).mono ?_
  rintro e w2 ⟨s2, c2, rfl, hfr2, hb⟩
  replace L := L.below hb
  replace hB := Below.on hB hb hB.size
  clear hb l0 l1 l2
  go_wp2_with fail
  refine (specExprSize_any _ _ _ _ _ _ hfr2.rd hsz).mono ?_
  rintro e w3 ⟨rfl, hb⟩
  replace L := L.below hb
  replace hB := Below.on hB hb hB.size
  clear hb hfr2
  have l0 := L.c0
  have l1 := L.c1
  have l2 := L.c2
  go_wp2_with fail
  refine (toExpr_any _ _ _ _ _ _ (hr.below hB) hsz).mono ?_
  rintro e w4 ⟨s4, c4, rfl, hfr4, hb⟩
  replace L := L.below hb
  replace hB := Below.on hB hb hB.size
  clear hb l0 l1 l2
  go_wp2_with fail
  have hx := hfr4.rd.alloc (.cells #[.int .i64 k, .int .i64 n, .slice s4 ks.length c4] 38)
  have M := Blk.new3 w4 38 (.int .i64 k) (.int .i64 n) (.slice s4 ks.length c4)
  refine (implExprSize_all _ _ _ _ _ _ _ (Nat.le_refl _) hx (by omega)).mono ?_
  rintro e w5 ⟨rfl, hb⟩
  replace L := (L.alloc _).below hb
  replace M := M.below hb
  replace hx := hx.below hb
  replace hB : Below w.heap.size w w5 := Below.on (hB.alloc hB.size _) hb (by have := hB.size; simp; omega)
  clear hb hfr4
  go_wp2_with fail
  have l0 := L.c0
  have l1 := L.c1
  have l2 := L.c2
  have m0 := M.c0
  have m1 := M.c1
  have m2 := M.c2
  go_region_with (first
    | (go_at_call 21; ((with_reducible refine (toExpr_any _ _ _ _ _ _ (hr.below hB).drew hsz).mono ?_); rintro e w6 ⟨s6, c6, rfl, hfr6, hb⟩; have L6 := L.drew.below hb; have M6 := M.drew.below hb; have hx6 := hx.drew.below hb; have hB6 := Below.on hB.drew hb hB.size; have l06 := L6.c0; have l16 := L6.c1; have l26 := L6.c2; have m06 := M6.c0; have m16 := M6.c1; have m26 := M6.c2; clear hb))
    | (go_at_call 23; ((with_reducible refine (eqExpr_any _ _ _ _ _ _ _ _ _ _ _ hx6 hfr6.rd).mono ?_); rintro e w7 ⟨rfl, hb⟩; have hB7 := Below.on hB6 hb hB6.size; clear hb)))
  all_goals
    go_wp2
    go_ret
    exact ⟨rfl, hB7⟩

/-- The argument opened. -/
theorem law_exprSize_of {H : Type} {enc : TypeId × Value → H} (W : World) (args : Array Value) (ds : List (DataW H)) (ps : List MemPlace) (hA : DataW.TrodAll enc Try.prog W 0 (fun _ => true) true Try.f6.params.toList args.toList ds ps)
    (hval : ∀ (j : Nat) t v, Try.f6.params[j]? = some t → args[j]? = some v → ∃ base, Value.okWide Try.prog W .any base t v) :
    Calls Try.prog 6 args W fun e W' => e = .returned (.bool true) ∧ Below W.heap.size W W' := by
  rw [Try.params6] at hA hval
  obtain ⟨v0, vs0, d0, ds0, p0, q0, hargs, rfl, rfl, h0, r0⟩ := trodAll_cons hA
  obtain ⟨rfl, rfl, rfl⟩ := trodAll_nil r0
  obtain rfl : args = #[v0] := by cases args; simp_all
  obtain ⟨k, n, ks, s, cap, rfl, hr⟩ := open_lawsExpr h0
  exact law_exprSize k n ks s cap W hr

end Go.Proofs.Ytdkoeakpgfiadaa
