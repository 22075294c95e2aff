/-
  Parts of a proof, joined: To, Eq. No condition.
-/
import Derived.Test.YtjlmdhoajfdkbaaGreatDoorPk2
namespace Go.Proofs.YtjlmdhoajfdkbaaGreatDoor
set_option linter.unusedVariables false
set_option linter.unusedSimpArgs false
open Go.ChangeShapes Go.WideShapes Go.ChangeAt Go.RowKit
theorem info_implExpr : (Tryz.prog.info? 30).map (fun i => (i.zero, i.size, i.bytes)) = some (some (.agg #[.int .i64 0, .int .i64 0, .slice none 0 0]), 3, 40) := by kernel_rfl
def ToS (N : Nat) : Prop := ∀ (ks : List Ex) (s : Option Addr) (cap : Nat) (w : World), Ex.sizeL ks ≤ N → Rd w (kidsD ks) (.slice s ks.length cap) → Ex.sizeL ks ≤ 1048576 →
  Calls Tryz.prog 66 #[.slice s ks.length cap] w fun e w' => ∃ s' c', e = .returned (.slice s' ks.length c') ∧ Fresh w w' (kidsD ks) (.slice s' ks.length c') ∧ Below w.heap.size w w'
theorem toExpr_of {N : Nat} (hS : ToS N) (k n : Int) (ks : List Ex) (s : Option Addr) (cap : Nat) (w : World) (hN : Ex.sizeL ks ≤ N) (hr : Rd w (kidsD ks) (.slice s ks.length cap)) (h1 : Ex.sizeL ks ≤ 1048576) :
  Calls Tryz.prog 17 #[.agg #[.int .i64 k, .int .i64 n, .slice s ks.length cap]] w fun e w' => ∃ s' c', e = .returned (.agg #[.int .i64 k, .int .i64 n, .slice s' ks.length c']) ∧ Fresh w w' (kidsD ks) (.slice s' ks.length c') ∧ Below w.heap.size w w' := by
 go_enter Tryz.func17, Tryz.ntmps17
 go_wp2_with fail
 refine (hS ks s cap _ hN (by repeat (first | exact hr | apply Rd.alloc)) h1).mono ?_
 rintro e w1 ⟨s', c', rfl, hfr, hb⟩
 obtain ⟨hc, hf, hz⟩ := bcell hb
 simp at hz
 have q0 : w.heap.size < w1.heap.size := by omega
 have q1 : w.heap.size + 1 < w1.heap.size := by omega
 have q2 : w.heap.size + 1 + 1 < w1.heap.size := by omega
 have hB : Below w.heap.size w w1 := Below.on (by (repeat' first | exact Below.refl _ _ | assumption | apply Below.alloc | apply Below.drew | apply Below.setCell | omega | (simp; done) | (simp; omega))) hb (by simp; omega)
 clear hb
 go_wp2
 refine bodyPost_ret (v := .agg #[.int .i64 k, .int .i64 n, .slice s' ks.length c']) (by simp [results, Tryz.results17, go_sem, hc]) rfl ⟨s', c', rfl, ?_, by (repeat' first | exact Below.refl _ _ | assumption | apply Below.alloc | apply Below.drew | apply Below.setCell | omega | (simp; done) | (simp; omega))⟩
 refine Fresh.from (hfr.keep fun b h1 _ => ?_) (by simp; omega)
 simp at h1
 rw [Below.heap_setCell _ _ _ _ (by simp; omega), Below.heap_setCell _ _ _ _ (by simp; omega), Below.heap_setCell _ _ _ _ (by simp; omega), Below.heap_setCell _ _ _ _ (by simp; omega)]
theorem toExprS_all (N : Nat) : ToS N := by
 induction N using Nat.strongRecOn with
 | _ N ih =>
 intro ks s cap w hN hr h1
 obtain ⟨-, hlen, hcap, -, -⟩ := kid_at hr
 unfold maxLen at hcap
 have hsz := Ex.length_le_sizeL ks
 obtain ⟨i0, hi, hz0, hz1, hz2⟩ := info_parts info_implExpr
 go_enter Tryz.func66, Tryz.ntmps66
 go_wp2_with (at_make; refine wpList_make_full _ rfl _ _ 28 rfl w.heap.size 30 i0 (.agg #[.int .i64 0, .int .i64 0, .slice none 0 0]) 3 Tryz.underlying28 hi hz0 hz1 .i64 .i64 _ _ ks.length rfl rfl rfl rfl (by rw [hz2]; omega) (by unfold maxLen; omega) (Nat.le_refl _) ?_; intro w0 hown hgrow)
 have hp := Part.start hown
 have hB0 : Below w.heap.size w w0 := Below.grown (Below.refl _ _) hgrow (Nat.le_refl _) (by simp)
 have hz0' := hp.lt
 clear hown hgrow
 go_loopw [4] (fun i wr => ∃ k : Nat, k ≤ ks.length ∧ i = .int .i64 k ∧ Part wr w.heap.size 30 (Ex.cellsL (ks.take k)) (ks.length * 3) ∧ Below w.heap.size w wr) (fun i _ => ks.length - (intOf i).toNat)
 case atStart => exact ⟨0, by omega, rfl, by simpa [Ex.cellsL] using hp, hB0⟩
 case round =>
  clear hp hB0 hz0'
  obtain ⟨k, hk, rfl, hp, hB⟩ := hrel
  by_cases hlt : k < ks.length
  ·
   obtain ⟨e, he⟩ : ∃ e, ks[k]? = some e := ⟨_, List.getElem?_eq_getElem hlt⟩
   obtain ⟨b, o, rfl⟩ := kid_some hr (by intro h; simp [h] at hlt)
   obtain ⟨hbl, s', c', g0, g1, g2, gr⟩ := kid_in (hr.below hB) he
   have hlt' : Ex.sizeL e.kids < N := by
    have := Ex.size_eq e
    have := Ex.sizeL_mem (List.mem_of_getElem? he)
    omega
   have hle : Ex.sizeL e.kids ≤ 1048576 := by
    have := Ex.size_eq e
    have := Ex.sizeL_mem (List.mem_of_getElem? he)
    omega
   go_wp2_with fail
   refine (toExpr_of (ih _ hlt') _ _ _ _ _ _ (Nat.le_refl _) gr hle).mono ?_
   rintro e1 w1 ⟨s2, c2, rfl, ⟨G, hG1, hG2, hG3⟩, hb⟩
   have hlt2 := hp.lt
   have hz := hb.size
   obtain ⟨y0, d0⟩ := (hp.below hb).cell (k * 3) (by omega)
   obtain ⟨y1, d1⟩ := (hp.below hb).cell (k * 3 + 1) (by omega)
   obtain ⟨y2, d2⟩ := (hp.below hb).cell (k * 3 + 2) (by omega)
   have z0 := (hp.below hb).frozen (k * 3)
   have z1 := (hp.below hb).frozen (k * 3 + 1)
   have z2 := (hp.below hb).frozen (k * 3 + 2)
   have hst := hp.step hb (Ows.three (k := e.kind) (n := e.num) hG1) hG2 hG3 (o := k * 3) (by rw [Ex.cellsL_length, List.length_take, Nat.min_eq_left hk]) (by simp; omega)
   rw [← Ex.cellsL_take_succ he] at hst
   have Hst : Hid (Part (((w1.setCell ⟨w.heap.size, k * 3, none⟩ (.int .i64 e.kind)).setCell ⟨w.heap.size, k * 3 + 1, none⟩ (.int .i64 e.num)).setCell ⟨w.heap.size, k * 3 + 2, none⟩ (.slice s2 e.kids.length c2)) w.heap.size 30 (Ex.cellsL (ks.take (k + 1))) (ks.length * 3)) := hst
   have hB1 : Below w.heap.size w w1 := Below.on hB hb (by omega)
   clear hst
   go_wp2_with fail
   go_roundw
   case rel => exact ⟨k + 1, by omega, by go_num, Hst.out, by (repeat' first | exact Below.refl _ _ | assumption | apply Below.alloc | apply Below.drew | apply Below.setCell | omega | (simp; done) | (simp; omega))⟩
   case measure => simp [intOf]; omega
  ·
   obtain rfl : k = ks.length := by omega
   rw [List.take_length] at hp
   go_wp2_with fail
   go_ret
   exact ⟨_, _, rfl, hp.done (Nat.le_refl _) (Ex.cellsL_length ks) (Nat.le_refl _) (by unfold maxLen; omega), hB⟩
theorem toExpr_any (k n : Int) (ks : List Ex) (s : Option Addr) (cap : Nat) (w : World) (hr : Rd w (kidsD ks) (.slice s ks.length cap)) (h1 : Ex.sizeL ks ≤ 1048576) :
  Calls Tryz.prog 17 #[.agg #[.int .i64 k, .int .i64 n, .slice s ks.length cap]] w fun e w' => ∃ s' c', e = .returned (.agg #[.int .i64 k, .int .i64 n, .slice s' ks.length c']) ∧ Fresh w w' (kidsD ks) (.slice s' ks.length c') ∧ Below w.heap.size w w' :=
 toExpr_of (toExprS_all _) k n ks s cap w (Nat.le_refl _) hr h1
theorem toExpr_i {k n : Int} {ks : List Ex} {s : Option Addr} {cap : Nat} {w : World} (hr : Rd w (kidsD ks) (.slice s ks.length cap)) (h1 : Ex.sizeL ks ≤ 1048576) :
  Calls Tryz.prog 17 #[.agg #[.int .i64 k, .int .i64 n, .slice s ks.length cap]] w fun e w' => ∃ s' c', e = .returned (.agg #[.int .i64 k, .int .i64 n, .slice s' ks.length c']) ∧ Freshs w w' [kidsD ks] [.slice s' ks.length c'] ∧ Below w.heap.size w w' :=
 (toExpr_any k n ks s cap w hr h1).mono fun _ _ ⟨s', c', he, hf, hb⟩ => ⟨s', c', he, Freshs.one hf, hb⟩
end Go.Proofs.YtjlmdhoajfdkbaaGreatDoor

namespace Go.Proofs.YtjlmdhoajfdkbaaGreatDoor
set_option linter.unusedVariables false
set_option linter.unusedSimpArgs false
open Go.ChangeShapes Go.WideShapes Go.ChangeAt Go.RowKit Go.Sort
def EqS (N : Nat) : Prop := ∀ (ks js : List Ex) (s t : Option Addr) (cap cap' : Nat) (w : World), Ex.sizeL ks ≤ N → Rd w (kidsD ks) (.slice s ks.length cap) → Rd w (kidsD js) (.slice t js.length cap') →
  Calls Tryz.prog 24 #[.slice s ks.length cap, .slice t js.length cap'] w fun e w' => e = .returned (.bool (eqb ks js)) ∧ Below w.heap.size w w'
theorem eqExpr_of {N : Nat} (hS : EqS N) (k n k' n' : Int) (ks js : List Ex) (s t : Option Addr) (cap cap' : Nat) (w : World) (hN : Ex.sizeL ks ≤ N) (hr : Rd w (kidsD ks) (.slice s ks.length cap)) (hr' : Rd w (kidsD js) (.slice t js.length cap')) :
  Calls Tryz.prog 19 #[.agg #[.int .i64 k, .int .i64 n, .slice s ks.length cap], .agg #[.int .i64 k', .int .i64 n', .slice t js.length cap']] w fun e w' => e = .returned (.bool (eqb (Ex.mk k n ks) (Ex.mk k' n' js))) ∧ Below w.heap.size w w' := by
 by_cases h1 : k = k'
 ·
  subst h1
  by_cases h2 : n = n'
  ·
   subst h2
   have b1 : (k != k) = false := by simp
   have b2 : (n != n) = false := by simp
   have e1 : eqb (Ex.mk k n ks) (Ex.mk k n js) = eqb ks js := by
    by_cases h : ks = js
    ·
     rw [eqb_true h, eqb_true (by rw [h])]
    ·
     rw [eqb_false h, eqb_false (by simp [h])]
   rw [e1]
   clear e1
   go_enter Tryz.func19, Tryz.ntmps19
   go_wp2_with fail
   refine (hS ks js s t cap cap' _ hN (by repeat (first | exact hr | apply Rd.alloc)) (by repeat (first | exact hr' | apply Rd.alloc))).mono ?_
   rintro e w1 ⟨rfl, hb⟩
   have hB : Below w.heap.size w w1 := Below.on (by (repeat' first | exact Below.refl _ _ | assumption | apply Below.alloc | apply Below.drew | apply Below.setCell | omega | (simp; done) | (simp; omega))) hb (by simp; omega)
   clear hb
   go_wp2
   all_goals go_ret
   all_goals exact ⟨by simp_all, hB⟩
  ·
   have b1 : (k != k) = false := by simp
   have b2 : (n != n') = true := by simp [h2]
   have e1 : eqb (Ex.mk k n ks) (Ex.mk k n' js) = false := eqb_false (by simp [h2])
   rw [e1]
   go_enter Tryz.func19, Tryz.ntmps19
   go_wp2_with fail
   go_ret
   exact ⟨rfl, by (repeat' first | exact Below.refl _ _ | assumption | apply Below.alloc | apply Below.drew | apply Below.setCell | omega | (simp; done) | (simp; omega))⟩
 ·
  have b1 : (k != k') = true := by simp [h1]
  have e1 : eqb (Ex.mk k n ks) (Ex.mk k' n' js) = false := eqb_false (by simp [h1])
  rw [e1]
  go_enter Tryz.func19, Tryz.ntmps19
  go_wp2_with fail
  go_ret
  exact ⟨rfl, by (repeat' first | exact Below.refl _ _ | assumption | apply Below.alloc | apply Below.drew | apply Below.setCell | omega | (simp; done) | (simp; omega))⟩
theorem eqExprS_all (N : Nat) : EqS N := by
 induction N using Nat.strongRecOn with
 | _ N ih =>
 intro ks js s t cap cap' w hN hr hr'
 obtain ⟨-, hlen, hcap, -, -⟩ := kid_at hr
 obtain ⟨-, hlen', hcap', -, -⟩ := kid_at hr'
 unfold maxLen at hcap hcap'
 by_cases hl : ks.length = js.length
 ·
  have b1 : ((ks.length : Int) != (js.length : Int)) = false := by simp [hl]
  have Hl := Lib.hid hl
  clear hl
  go_enter Tryz.func24, Tryz.ntmps24
  go_wp2_with fail
  go_loopw [5] (fun i wr => ∃ k : Nat, k ≤ ks.length ∧ i = .int .i64 k ∧ ks.take k = js.take k ∧ Below w.heap.size w wr) (fun i _ => ks.length - (intOf i).toNat)
  case atStart => exact ⟨0, by omega, rfl, by simp, Below.refl _ _⟩
  case round =>
   obtain ⟨k, hk, rfl, hpre, hB⟩ := hrel
   have Hpre := Lib.hid hpre
   clear hpre
   by_cases hlt : k < ks.length
   ·
    have hlt' : k < js.length := by have := Hl.out; omega
    obtain ⟨e, he⟩ : ∃ e, ks[k]? = some e := ⟨_, List.getElem?_eq_getElem hlt⟩
    obtain ⟨f, hf⟩ : ∃ e, js[k]? = some e := ⟨_, List.getElem?_eq_getElem hlt'⟩
    obtain ⟨b, o, rfl⟩ := kid_some hr (by intro h; simp [h] at hlt)
    obtain ⟨c, p, rfl⟩ := kid_some hr' (by intro h; simp [h] at hlt')
    obtain ⟨-, s', c', g0, g1, g2, gr⟩ := kid_in (hr.below hB) he
    obtain ⟨-, t', d', k0, k1, k2, kr⟩ := kid_in (hr'.below hB) hf
    have hltN : Ex.sizeL e.kids < N := by
     have := Ex.size_eq e
     have := Ex.sizeL_mem (List.mem_of_getElem? he)
     omega
    have ha := Int.natCast_nonneg k
    have hb : (k : Int) < (ks.length : Int) := by omega
    have hb' : (k : Int) < (js.length : Int) := by omega
    have i0 := fun d os => cell_regrown g0 d os
    have i1 := fun d os => cell_regrown g1 d os
    have i2 := fun d os => cell_regrown g2 d os
    have j0 := fun d os => cell_regrown k0 d os
    have j1 := fun d os => cell_regrown k1 d os
    have j2 := fun d os => cell_regrown k2 d os
    clear g0 g1 g2 k0 k1 k2
    go_wp2_with fail
    refine Go.wp_region_quiet_below (by kernel_rfl) (by kernel_rfl) ?_
    repeat (quiet_step (exact Calls.regrown_of (eqExpr_of (ih _ hltN) _ _ _ _ _ _ _ _ _ _ _ (Nat.le_refl _) (gr.below (below_regrown _ _ _)) (kr.below (below_regrown _ _ _)))))
    refine wpQuiet_nil ?_; intro _ hw'; obtain ⟨⟨dq, osq⟩, hw''⟩ := hw'; subst hw''; have hq := below_regrown wr dq osq; revert hq; generalize grow (redrawn wr dq) osq = w1; intro hq
    have hB1 : Below w.heap.size w w1 := Below.on hB hq hB.size
    clear hq i0 i1 i2 j0 j1 j2
    by_cases hef : e = f
    ·
     have c1 : eqb (Ex.mk e.kind e.num e.kids) (Ex.mk f.kind f.num f.kids) = true := eqb_true (by rw [hef])
     have Hst : Hid (ks.take (k + 1) = js.take (k + 1)) := by
      have h1 := List.getElem?_eq_some_iff.1 he
      have h2 := List.getElem?_eq_some_iff.1 hf
      show _ = _
      rw [List.take_succ_eq_append_getElem hlt, List.take_succ_eq_append_getElem hlt', Hpre.out, h1.2, h2.2, hef]
     clear hef
     simp only [c1, Bool.not_true]
     go_wp2_with fail
     go_roundw
     case rel => exact ⟨k + 1, by omega, by go_num, Hst.out, hB1⟩
     case measure => simp [intOf]; omega
    ·
     have c1 : eqb (Ex.mk e.kind e.num e.kids) (Ex.mk f.kind f.num f.kids) = false := eqb_false (by rw [← Ex.eta, ← Ex.eta]; exact hef)
     have c2 : eqb ks js = false := eqb_false (by
      intro h
      rw [h] at he
      exact hef (Option.some.inj (he.symm.trans hf)))
     simp only [c1, Bool.not_false]
     go_wp2_with fail
     go_ret
     exact ⟨by first | rfl | (rw [c2]; rfl), hB1⟩
   ·
    obtain rfl : k = ks.length := by omega
    have c2 : eqb ks js = true := eqb_true (by
     have := Hpre.out
     rwa [List.take_length, Hl.out, List.take_length] at this)
    go_wp2_with fail
    go_ret
    exact ⟨by first | rfl | (rw [c2]; rfl), hB⟩
 ·
  have b1 : ((ks.length : Int) != (js.length : Int)) = true := by simp; omega
  have c2 : eqb ks js = false := eqb_false (by intro h; rw [h] at hl; exact hl rfl)
  go_enter Tryz.func24, Tryz.ntmps24
  go_wp2_with fail
  go_ret
  exact ⟨by first | rfl | (rw [c2]; rfl), Below.refl _ _⟩
theorem eqExpr_i {k n k' n' : Int} {ks js : List Ex} {s t : Option Addr} {cap cap' : Nat} {w : World} (hr : Rd w (kidsD ks) (.slice s ks.length cap)) (hr' : Rd w (kidsD js) (.slice t js.length cap')) :
  Calls Tryz.prog 19 #[.agg #[.int .i64 k, .int .i64 n, .slice s ks.length cap], .agg #[.int .i64 k', .int .i64 n', .slice t js.length cap']] w fun e w' => e = .returned (.bool (eqb (Ex.mk k n ks) (Ex.mk k' n' js))) ∧ Below w.heap.size w w' :=
 eqExpr_of (eqExprS_all _) k n k' n' ks js s t cap cap' w (Nat.le_refl _) hr hr'
end Go.Proofs.YtjlmdhoajfdkbaaGreatDoor
