/-
  The law's own comparison of expressions: eqExpr.
-/
import Derived.Test.YtlnojmmjpgpjdaaDoorExpr
import Derived.Test.YtlnojmmjpgpjdaaDoorOwn
namespace Go.Proofs.YtlnojmmjpgpjdaaDoor
open Go.ChangeShapes Go.WideShapes Go.ChangeAt Go.RowKit Go.Sort

def EqS (N : Nat) : Prop := ∀ (ks js : List Ex) (s t : Option Addr) (cap cap' : Nat) (w : World), Ex.sizeL ks ≤ N → Rd w (kidsD ks) (.slice s ks.length cap) → Rd w (kidsD js) (.slice t js.length cap') →
    Calls Tryd.prog 42 #[.slice s ks.length cap, .slice t js.length cap'] w fun e w' => e = .returned (.bool (eqb ks js)) ∧ Below w.heap.size w w'

theorem Ex.ext_iff' {k n k' n' : Int} {ks js : List Ex} : Ex.mk k n ks = Ex.mk k' n' js ↔ k = k' ∧ n = n' ∧ ks = js := by simp

theorem eqExpr_of {N : Nat} (hS : EqS N) (k n k' n' : Int) (ks js : List Ex) (s t : Option Addr) (cap cap' : Nat) (w : World) (hN : Ex.sizeL ks ≤ N) (hr : Rd w (kidsD ks) (.slice s ks.length cap)) (hr' : Rd w (kidsD js) (.slice t js.length cap')) :
    Calls Tryd.prog 17 #[.agg #[.int .i64 k, .int .i64 n, .slice s ks.length cap], .agg #[.int .i64 k', .int .i64 n', .slice t js.length cap']] w fun e w' => e = .returned (.bool (eqb (Ex.mk k n ks) (Ex.mk k' n' js))) ∧ Below w.heap.size w w' := by
  by_cases h1 : k = k'
  · subst h1
    by_cases h2 : n = n'
    · subst h2
      have b1 : (k != k) = false := by simp
      have b2 : (n != n) = false := by simp
      have e1 : eqb (Ex.mk k n ks) (Ex.mk k n js) = eqb ks js := by
        by_cases h : ks = js
        · rw [eqb_true h, eqb_true (by rw [h])]
        · rw [eqb_false h, eqb_false (by simp [h])]
      rw [e1]
      clear e1
      go_enter Tryd.func17, Tryd.ntmps17
      go_wp2_with fail
      refine (hS ks js s t cap cap' _ hN (by repeat (first | exact hr | apply Rd.alloc)) (by repeat (first | exact hr' | apply Rd.alloc))).mono ?_
      rintro e w1 ⟨rfl, hb⟩
      have hB : Below w.heap.size w w1 := Below.on (by (repeat' (first | exact Below.refl _ _ | assumption | (refine Below.alloc ?_ (by first | omega | (simp; done) | (simp; omega)) _) | (refine Below.drew ?_) | (refine Below.setCell ?_ (by first | omega | (simp; done) | (simp; omega)) _)))) hb (by simp; omega)
      clear hb
      go_wp2
      all_goals go_ret
      all_goals exact ⟨by simp_all, hB⟩
    · have b1 : (k != k) = false := by simp
      have b2 : (n != n') = true := by simp [h2]
      have e1 : eqb (Ex.mk k n ks) (Ex.mk k n' js) = false := eqb_false (by simp [h2])
      rw [e1]
      go_enter Tryd.func17, Tryd.ntmps17
      go_wp2_with fail
      go_ret
      exact ⟨rfl, by (repeat' (first | exact Below.refl _ _ | assumption | (refine Below.alloc ?_ (by first | omega | (simp; done) | (simp; omega)) _) | (refine Below.drew ?_) | (refine Below.setCell ?_ (by first | omega | (simp; done) | (simp; omega)) _)))⟩
  · have b1 : (k != k') = true := by simp [h1]
    have e1 : eqb (Ex.mk k n ks) (Ex.mk k' n' js) = false := eqb_false (by simp [h1])
    rw [e1]
    go_enter Tryd.func17, Tryd.ntmps17
    go_wp2_with fail
    go_ret
    exact ⟨rfl, by (repeat' (first | exact Below.refl _ _ | assumption | (refine Below.alloc ?_ (by first | omega | (simp; done) | (simp; omega)) _) | (refine Below.drew ?_) | (refine Below.setCell ?_ (by first | omega | (simp; done) | (simp; omega)) _)))⟩

theorem eqExprS_all (N : Nat) : EqS N := by
  induction N using Nat.strongRecOn with
  | _ N ih =>
  intro ks js s t cap cap' w hN hr hr'
  obtain ⟨-, hlen, hcap, -, -⟩ := kid_at hr
  obtain ⟨-, hlen', hcap', -, -⟩ := kid_at hr'
  unfold maxLen at hcap hcap'
  by_cases hl : ks.length = js.length
  · have b1 : ((ks.length : Int) != (js.length : Int)) = false := by simp [hl]
    have Hl := Lib.hid hl
    clear hl
    go_enter Tryd.func42, Tryd.ntmps42
    go_wp2_with fail
    go_loopw [5] (fun i wr => ∃ k : Nat, k ≤ ks.length ∧ i = .int .i64 k ∧ ks.take k = js.take k ∧ Below w.heap.size w wr) (fun i _ => ks.length - (intOf i).toNat)
    case atStart => exact ⟨0, by omega, rfl, by simp, Below.refl _ _⟩
    case round =>
      obtain ⟨k, hk, rfl, hpre, hB⟩ := hrel
      have Hpre := Lib.hid hpre
      clear hpre
      by_cases hlt : k < ks.length
      · have hlt' : k < js.length := by have := Hl.out; omega
        obtain ⟨e, he⟩ : ∃ e, ks[k]? = some e := ⟨_, List.getElem?_eq_getElem hlt⟩
        obtain ⟨f, hf⟩ : ∃ e, js[k]? = some e := ⟨_, List.getElem?_eq_getElem hlt'⟩
        obtain ⟨b, o, rfl⟩ := kid_some hr (by intro h; simp [h] at hlt)
        obtain ⟨c, p, rfl⟩ := kid_some hr' (by intro h; simp [h] at hlt')
        obtain ⟨-, s', c', g0, g1, g2, gr⟩ := kid_in (hr.below hB) he
        obtain ⟨-, t', d', k0, k1, k2, kr⟩ := kid_in (hr'.below hB) hf
        have hltN : Ex.sizeL e.kids < N := by
          have := Ex.size_eq e
          have := Ex.sizeL_mem (List.mem_of_getElem? he)
          omega
        have ha := Int.natCast_nonneg k
        have hb : (k : Int) < (ks.length : Int) := by omega
        have hb' : (k : Int) < (js.length : Int) := by omega
        have i0 := fun d os => cell_regrown g0 d os
        have i1 := fun d os => cell_regrown g1 d os
        have i2 := fun d os => cell_regrown g2 d os
        have j0 := fun d os => cell_regrown k0 d os
        have j1 := fun d os => cell_regrown k1 d os
        have j2 := fun d os => cell_regrown k2 d os
        clear g0 g1 g2 k0 k1 k2
        go_wp2_with fail
        refine Go.wp_region_quiet_below (by kernel_rfl) (by kernel_rfl) ?_
        repeat (quiet_step (exact Calls.regrown_of (eqExpr_of (ih _ hltN) _ _ _ _ _ _ _ _ _ _ _ (Nat.le_refl _) (gr.below (below_regrown _ _ _)) (kr.below (below_regrown _ _ _)))))
        refine wpQuiet_nil ?_; intro _ hw'; obtain ⟨⟨dq, osq⟩, hw''⟩ := hw'; subst hw''; have hq := below_regrown wr dq osq; revert hq; generalize grow (redrawn wr dq) osq = w1; intro hq
        have hB1 : Below w.heap.size w w1 := Below.on hB hq hB.size
        clear hq i0 i1 i2 j0 j1 j2
        by_cases hef : e = f
        · have c1 : eqb (Ex.mk e.kind e.num e.kids) (Ex.mk f.kind f.num f.kids) = true := eqb_true (by rw [hef])
          have Hst : Hid (ks.take (k + 1) = js.take (k + 1)) := by
            have h1 := List.getElem?_eq_some_iff.1 he
            have h2 := List.getElem?_eq_some_iff.1 hf
            show _ = _
            rw [List.take_succ_eq_append_getElem hlt, List.take_succ_eq_append_getElem hlt', Hpre.out, h1.2, h2.2, hef]
          clear hef
          simp only [c1, Bool.not_true]
          go_wp2_with fail
          go_roundw
          case rel => exact ⟨k + 1, by omega, by go_num, Hst.out, hB1⟩
          case measure => simp [intOf]; omega
        · have c1 : eqb (Ex.mk e.kind e.num e.kids) (Ex.mk f.kind f.num f.kids) = false := eqb_false (by rw [← Ex.eta, ← Ex.eta]; exact hef)
          have c2 : eqb ks js = false := eqb_false (by
            intro h
            rw [h] at he
            exact hef (Option.some.inj (he.symm.trans hf)))
          simp only [c1, Bool.not_false]
          go_wp2_with fail
          go_ret
          exact ⟨by first | rfl | (rw [c2]; rfl), hB1⟩
      · obtain rfl : k = ks.length := by omega
        have c2 : eqb ks js = true := eqb_true (by
          have := Hpre.out
          rwa [List.take_length, Hl.out, List.take_length] at this)
        go_wp2_with fail
        go_ret
        exact ⟨by first | rfl | (rw [c2]; rfl), hB⟩
  · have b1 : ((ks.length : Int) != (js.length : Int)) = true := by simp; omega
    have c2 : eqb ks js = false := eqb_false (by intro h; rw [h] at hl; exact hl rfl)
    go_enter Tryd.func42, Tryd.ntmps42
    go_wp2_with fail
    go_ret
    exact ⟨by first | rfl | (rw [c2]; rfl), Below.refl _ _⟩

theorem eqExpr_i {k n k' n' : Int} {ks js : List Ex} {s t : Option Addr} {cap cap' : Nat} {w : World} (hr : Rd w (kidsD ks) (.slice s ks.length cap)) (hr' : Rd w (kidsD js) (.slice t js.length cap')) :
    Calls Tryd.prog 17 #[.agg #[.int .i64 k, .int .i64 n, .slice s ks.length cap], .agg #[.int .i64 k', .int .i64 n', .slice t js.length cap']] w fun e w' => e = .returned (.bool (eqb (Ex.mk k n ks) (Ex.mk k' n' js))) ∧ Below w.heap.size w w' :=
  eqExpr_of (eqExprS_all _) k n k' n' ks js s t cap cap' w (Nat.le_refl _) hr hr'
end Go.Proofs.YtlnojmmjpgpjdaaDoor
