/-
  Equality of expressions: spec.l01Same, slices.EqualFunc, impl.SameExpr.
-/
import Derived.Test.YtlnojmmjpgpjdaaDoorOwn
namespace Go.Proofs.YtlnojmmjpgpjdaaDoor
open Go.ChangeShapes Go.WideShapes Go.ChangeAt Go.RowKit Go.Sort

theorem l01Same_all (N : Nat) : ∀ (e f : Ex) (b o b' o' : Nat) (w : World), e.size ≤ N → ExAt w b o e → ExAt w b' o' f →
    Calls Tryd.prog 108 #[.pointer (some ⟨b, o, none⟩), .pointer (some ⟨b', o', none⟩)] w fun x w' => x = .returned (.bool (eqb e f)) ∧ Below w.heap.size w w' := by
  induction N using Nat.strongRecOn with
  | _ N ih =>
  intro e f b o b' o' w hN hr hr'
  have hE := hr
  have hE' := hr'
  obtain ⟨g0, g1, s, c, g2, g3⟩ := hr
  obtain ⟨k0, k1, t, d, k2, k3⟩ := hr'
  obtain ⟨-, hlen, hcap, -, -⟩ := kid_at g3
  obtain ⟨-, hlen', hcap', -, -⟩ := kid_at k3
  unfold maxLen at hcap hcap'
  have hse := Ex.size_eq e
  have hks : Ex.sizeL e.kids < N := by omega
  clear hse
  by_cases h1 : e.kind = f.kind
  · by_cases h2 : e.num = f.num
    · by_cases h3 : e.kids.length = f.kids.length
      · have b1 : (e.kind != f.kind) = false := by simp [h1]
        have b2 : (e.num != f.num) = false := by simp [h2]
        have b3 : ((e.kids.length : Int) != (f.kids.length : Int)) = false := by simp [h3]
        have Hl := Lib.hid h3
        have Hef : Hid (eqb e f = eqb e.kids f.kids) := by
          show _ = _
          by_cases h : e.kids = f.kids
          · rw [eqb_true h, eqb_true (by rw [Ex.eta e, Ex.eta f, h1, h2, h])]
          · rw [eqb_false h, eqb_false (by intro h'; rw [h'] at h; exact h rfl)]
        clear h1 h2 h3
        go_enter Tryd.func108, Tryd.ntmps108
        go_wp2_with fail
        go_quiet (fail)
        have hB0 : Below w.heap.size w (w.drewN nq) := below_draws _ _ _
        generalize w.drewN nq = wq at hB0 ⊢
        go_wp2_with fail
        clear b1 b2 b3
        go_loopw [5] (fun i wr => ∃ k : Nat, k ≤ e.kids.length ∧ i = .int .i64 k ∧ e.kids.take k = f.kids.take k ∧ Below w.heap.size w wr) (fun i _ => e.kids.length - (intOf i).toNat)
        case atStart => exact ⟨0, by omega, rfl, by simp, hB0⟩
        case round =>
          clear hB0 g0 g1 g2 k0 k1 k2
          obtain ⟨k, hk, rfl, hpre, hB⟩ := hrel
          have Hpre := Lib.hid hpre
          clear hpre
          obtain ⟨-, -, s1, c1, g2, g3'⟩ := hE.below hB
          obtain ⟨-, -, t1, d1, k2, k3'⟩ := hE'.below hB
          by_cases hlt : k < e.kids.length
          · have hlt' : k < f.kids.length := by have := Hl.out; omega
            obtain ⟨x, hx⟩ : ∃ z, e.kids[k]? = some z := ⟨_, List.getElem?_eq_getElem hlt⟩
            obtain ⟨y, hy⟩ : ∃ z, f.kids[k]? = some z := ⟨_, List.getElem?_eq_getElem hlt'⟩
            obtain ⟨p, q, rfl⟩ := kid_some g3' (by intro h; simp [h] at hlt)
            obtain ⟨p', q', rfl⟩ := kid_some k3' (by intro h; simp [h] at hlt')
            have hat := kid_exAt g3' hx
            have hat' := kid_exAt k3' hy
            have hltN : x.size < N := by
              have := Ex.sizeL_mem (List.mem_of_getElem? hx)
              omega
            have ha := Int.natCast_nonneg k
            have hb : (k : Int) < (e.kids.length : Int) := by omega
            have hb' : (k : Int) < (f.kids.length : Int) := by omega
            have i2 := fun d os => cell_regrown g2 d os
            have j2 := fun d os => cell_regrown k2 d os
            go_wp2_with fail
            refine Go.wp_region_quiet_below (by kernel_rfl) (by kernel_rfl) ?_
            repeat (quiet_step (exact Calls.regrown_of (ih _ hltN x y _ _ _ _ _ (Nat.le_refl _) (hat.below (below_regrown _ _ _)) (hat'.below (below_regrown _ _ _)))))
            refine wpQuiet_nil ?_; intro _ hw'; obtain ⟨⟨dq, osq⟩, hw''⟩ := hw'; subst hw''; have hq := below_regrown wr dq osq; revert hq; generalize grow (redrawn wr dq) osq = w1; intro hq
            have hB1 : Below w.heap.size w w1 := Below.on hB hq hB.size
            clear hq i2 j2 g2 k2 g3 k3
            by_cases hxy : x = y
            · have c1 : eqb x y = true := eqb_true hxy
              have Hst : Hid (e.kids.take (k + 1) = f.kids.take (k + 1)) := by
                have h1 := List.getElem?_eq_some_iff.1 hx
                have h2 := List.getElem?_eq_some_iff.1 hy
                show _ = _
                rw [List.take_succ_eq_append_getElem hlt, List.take_succ_eq_append_getElem hlt', Hpre.out, h1.2, h2.2, hxy]
              clear hxy
              simp only [c1, Bool.not_true]
              go_wp2_with fail
              go_roundw
              case rel => exact ⟨k + 1, by omega, by go_num, Hst.out, hB1⟩
              case measure => simp [intOf]; omega
            · have c1 : eqb x y = false := eqb_false hxy
              have c2 : eqb e f = false := by
                rw [Hef.out]
                exact eqb_false (by
                  intro h
                  rw [h] at hx
                  exact hxy (Option.some.inj (hx.symm.trans hy)))
              simp only [c1, Bool.not_false]
              go_wp2_with fail
              go_ret
              exact ⟨by first | rfl | (rw [c2]; rfl), hB1⟩
          · obtain rfl : k = e.kids.length := by omega
            have c2 : eqb e f = true := by
              rw [Hef.out]
              exact eqb_true (by
                have := Hpre.out
                rwa [List.take_length, Hl.out, List.take_length] at this)
            go_wp2_with fail
            go_ret
            exact ⟨by first | rfl | (rw [c2]; rfl), hB⟩
      · have b1 : (e.kind != f.kind) = false := by simp [h1]
        have b2 : (e.num != f.num) = false := by simp [h2]
        have b3 : ((e.kids.length : Int) != (f.kids.length : Int)) = true := by simp; omega
        have c2 : eqb e f = false := eqb_false (by intro h; rw [h] at h3; exact h3 rfl)
        rw [c2]
        clear h1 h2 h3
        go_enter Tryd.func108, Tryd.ntmps108
        go_wp2_with fail
        go_quiet (fail)
        go_wp2_with fail
        go_ret
        exact ⟨rfl, below_draws _ _ _⟩
    · have b1 : (e.kind != f.kind) = false := by simp [h1]
      have b2 : (e.num != f.num) = true := by simp [h2]
      have c2 : eqb e f = false := eqb_false (by intro h; rw [h] at h2; exact h2 rfl)
      rw [c2]
      clear h1 h2
      go_enter Tryd.func108, Tryd.ntmps108
      go_wp2_with fail
      go_quiet (fail)
      go_wp2_with fail
      go_ret
      exact ⟨rfl, below_draws _ _ _⟩
  · have b1 : (e.kind != f.kind) = true := by simp [h1]
    have c2 : eqb e f = false := eqb_false (by intro h; rw [h] at h1; exact h1 rfl)
    rw [c2]
    clear h1
    go_enter Tryd.func108, Tryd.ntmps108
    go_wp2_with fail
    go_quiet (fail)
    go_wp2_with fail
    go_ret
    exact ⟨rfl, below_draws _ _ _⟩

end Go.Proofs.YtlnojmmjpgpjdaaDoor
