/-
  spec.ReplaceActions; what the answer is.
-/
import Derived.Test.YtlnojmmjpgpjdaaPutI
namespace Go.Proofs.Ytlnojmmjpgpjdaa
open Go.ChangeShapes Go.WideShapes Go.ChangeAt Go.RowKit Go.Deep Go.Sort

def repV (t a : Int) (e : Ex) (bs : List Ex) : Bool := okB t a e && bs.all (okB t a)
def repE (t a : Int) (e : Ex) (bs : List Ex) : Ex := if repV t a e bs = true then (if (bs.length : Int) = a then (if okB t a (e.put bs) = true then e.put bs else Ex.zero) else Ex.zero) else Ex.zero
def repC (t a : Int) (e : Ex) (bs : List Ex) : Int := if repV t a e bs = true then (if (bs.length : Int) = a then (if okB t a (e.put bs) = true then 0 else 3) else 2) else 1
theorem okB_size {t a : Int} {e : Ex} (h : okB t a e = true) : e.size ≤ 200 := by
  unfold okB at h
  simp only [Bool.and_eq_true, decide_eq_true_eq] at h
  exact h.2.1.1

set_option maxRecDepth 100000 in
set_option maxHeartbeats 8000000 in
theorem specReplaceActions_i {t a k n : Int} {ks bs : List Ex} {s s2 : Option Addr} {c c2 : Nat} {w : World} (hr : Rd w (kidsD ks) (.slice s ks.length c)) (hy : Rd w (kidsD bs) (.slice s2 bs.length c2)) (h1 : Ex.sizeL ks ≤ 1048576) (h2 : Ex.sizeL bs ≤ 1048576) :
    Calls Try.prog 22 #[.agg #[.int .i64 t, .int .i64 a], .agg #[.int .i64 k, .int .i64 n, .slice s ks.length c], .slice s2 bs.length c2] w fun f w' => ∃ s' c', f = .returned (.tuple #[.agg #[.int .i64 (repE t a (.mk k n ks) bs).kind, .int .i64 (repE t a (.mk k n ks) bs).num, .slice s' (repE t a (.mk k n ks) bs).kids.length c'], .int .i64 (repC t a (.mk k n ks) bs)]) ∧
      Freshs w w' [kidsD (repE t a (.mk k n ks) bs).kids] [.slice s' (repE t a (.mk k n ks) bs).kids.length c'] ∧ Below w.heap.size w w' := by
  have Hsz : Hid (Ex.size (.mk k n ks) ≤ 1073741824) := by show _ ≤ _; rw [Ex.size_eq]; simp only [Ex.kids]; omega
  have Hbz : Hid (∀ x ∈ bs, x.size ≤ 1073741824) := fun x hx => by have := Ex.sizeL_mem hx; omega
  obtain ⟨-, hlen, hcap, -, -⟩ := kid_at hy
  unfold maxLen at hcap
  have hbl := Ex.length_le_sizeL bs
  go_enter Try.func22, Try.ntmps22
  go_wp2_with fail
  have L := ((Blk.new2 w 30 (.int .i64 t) (.int .i64 a)).alloc (.cells #[.int .i64 k, .int .i64 n, .slice s ks.length c] 47)).alloc (.cells #[.int .i64 0, .int .i64 0, .slice none 0 0] 47)
  have M := (Blk.new3 (w.alloc (.cells #[.int .i64 t, .int .i64 a] 30)) 47 (.int .i64 k) (.int .i64 n) (.slice s ks.length c)).alloc (.cells #[.int .i64 0, .int .i64 0, .slice none 0 0] 47)
  have R := Blk.new3 ((w.alloc (.cells #[.int .i64 t, .int .i64 a] 30)).alloc (.cells #[.int .i64 k, .int .i64 n, .slice s ks.length c] 47)) 47 (.int .i64 0) (.int .i64 0) (.slice none 0 0)
  have hB0 : Below w.heap.size w (((w.alloc (.cells #[.int .i64 t, .int .i64 a] 30)).alloc (.cells #[.int .i64 k, .int .i64 n, .slice s ks.length c] 47)).alloc (.cells #[.int .i64 0, .int .i64 0, .slice none 0 0] 47)) := by (repeat' (first | exact Below.refl _ _ | assumption | (refine Below.alloc ?_ (by first | omega | (simp; done) | (simp; omega)) _) | (refine Below.drew ?_) | (refine Below.setCell ?_ (by first | omega | (simp; done) | (simp; omega)) _)))
  have hz0 : (((w.alloc (.cells #[.int .i64 t, .int .i64 a] 30)).alloc (.cells #[.int .i64 k, .int .i64 n, .slice s ks.length c] 47)).alloc (.cells #[.int .i64 0, .int .i64 0, .slice none 0 0] 47)).heap.size = w.heap.size + 3 := by simp
  simp at M R
  generalize ((w.alloc (.cells #[.int .i64 t, .int .i64 a] 30)).alloc (.cells #[.int .i64 k, .int .i64 n, .slice s ks.length c] 47)).alloc (.cells #[.int .i64 0, .int .i64 0, .slice none 0 0] 47) = w1 at L M R hB0 hz0 ⊢
  refine (l01Ok_i (e := .mk k n ks) (M.exAt (hr.below hB0)) Hsz.out).mono ?_
  rintro f w2 ⟨rfl, hb⟩
  have hB := Below.on hB0 hb hB0.size
  replace L := L.below hb
  replace M := M.below hb
  replace R := R.below hb
  clear hb hB0
  cases he : okB t a (.mk k n ks)
  · have E1 : Hid (repE t a (.mk k n ks) bs = Ex.zero) := by show _ = _; simp [repE, repV, he]
    have E2 : Hid (repC t a (.mk k n ks) bs = 1) := by show _ = _; simp [repC, repV, he]
    -- the answer is the zero expression and a code; the world is V
    have r0 := R.c0
    have r1 := R.c1
    have r2 := R.c2
    have z0 := R.frozen 0
    have z1 := R.frozen 1
    have z2 := R.frozen 2
    have ltR := R.lt
    go_wp2_with fail
    have T2 := ((R.set 0 (.int .i64 0)).set 1 (.int .i64 0)).set 2 (.slice none 0 0)
    have hs5 : Spares (fun y => y = w.heap.size + 1 + 1) w2 (((w2.setCell ⟨w.heap.size + 1 + 1, 0, none⟩ (.int .i64 0)).setCell ⟨w.heap.size + 1 + 1, 1, none⟩ (.int .i64 0)).setCell ⟨w.heap.size + 1 + 1, 2, none⟩ (.slice none 0 0)) := Spares.set (Spares.set (Spares.set (Spares.refl w2)))
    generalize (((w2.setCell ⟨w.heap.size + 1 + 1, 0, none⟩ (.int .i64 0)).setCell ⟨w.heap.size + 1 + 1, 1, none⟩ (.int .i64 0)).setCell ⟨w.heap.size + 1 + 1, 2, none⟩ (.slice none 0 0)) = w5 at T2 hs5 ⊢
    have t0 := T2.c0
    have t1 := T2.c1
    have t2 := T2.c2
    have hB5 := hB.trans (hs5.below (B := w.heap.size) (by omega) (fun y hy => by omega))
    refine bodyPost_ret (v := .tuple #[.agg #[.int .i64 0, .int .i64 0, .slice none 0 0], .int .i64 1]) (by simp [results, Try.results22, go_sem, t0, t1, t2]) rfl ?_
    rw [E1.out, E2.out]
    exact ⟨none, 0, rfl, zero_freshs, hB5⟩
  have He := Lib.hid he
  clear he
  go_wp2_with fail
  go_loopw [8] (fun i wr => ∃ j : Nat, j ≤ bs.length ∧ i = .int .i64 j ∧ Hid (∀ (m : Nat) (x : Ex), m < j → bs[m]? = some x → okB t a x = true) ∧ Blk wr w.heap.size 30 [.int .i64 t, .int .i64 a] ∧ Blk wr (w.heap.size + 1) 47 [.int .i64 k, .int .i64 n, .slice s ks.length c] ∧
      Blk wr (w.heap.size + 1 + 1) 47 [.int .i64 0, .int .i64 0, .slice none 0 0] ∧ Below w.heap.size w wr) (fun i _ => bs.length - (intOf i).toNat)
  case atStart => exact ⟨0, by omega, rfl, fun m x hm => by omega, L, M, R, hB⟩
  case round =>
    clear L M R hB
    obtain ⟨j, hj, rfl, Hpre, L, M, R, hB⟩ := hrel
    by_cases hlt : j < bs.length
    · obtain ⟨x, hx⟩ : ∃ e, bs[j]? = some e := ⟨_, List.getElem?_eq_getElem hlt⟩
      obtain ⟨b, o, rfl⟩ := kid_some hy (by intro h; simp [h] at hlt)
      have hxat := (kid_exAt hy hx).below hB
      have hxz := Hbz.out x (List.mem_of_getElem? hx)
      have ha := Int.natCast_nonneg j
      have hb0 : (j : Int) < (bs.length : Int) := by omega
      have gl0 := fun d os => cell_regrown L.c0 d os
      have gl1 := fun d os => cell_regrown L.c1 d os
      have Hx := Lib.hid hx
      clear hx
      go_wp2_with fail
      refine Go.wp_region_quiet_below (by kernel_rfl) (by kernel_rfl) ?_
      repeat (first | go_big_quiet_step ((exact Calls.regrown_of (l01Ok_i (hxat.below (below_regrown _ _ _)) hxz))) | quiet_step ((exact Calls.regrown_of (l01Ok_i (hxat.below (below_regrown _ _ _)) hxz))))
      refine wpQuiet_nil ?_; intro _ hw'; obtain ⟨⟨dq, osq⟩, hw''⟩ := hw'; subst hw''; have hq := below_regrown wr dq osq; revert hq; generalize grow (redrawn wr dq) osq = w3; intro hq
      have hB3 := Below.on hB hq hB.size
      have L3 := L.below hq
      have M3 := M.below hq
      have R3 := R.below hq
      clear hq gl0 gl1 L M R hB
      cases h3 : okB t a x
      · have hall : bs.all (okB t a) = false := by
          rw [List.all_eq_false]
          exact ⟨x, List.mem_of_getElem? Hx.out, by simp [h3]⟩
        have E1 : Hid (repE t a (.mk k n ks) bs = Ex.zero) := by show _ = _; simp [repE, repV, hall]
        have E2 : Hid (repC t a (.mk k n ks) bs = 1) := by show _ = _; simp [repC, repV, hall]
        have R := R3
        have hB := hB3
        clear hall R3 hB3
        -- the answer is the zero expression and a code; the world is V
        have r0 := R.c0
        have r1 := R.c1
        have r2 := R.c2
        have z0 := R.frozen 0
        have z1 := R.frozen 1
        have z2 := R.frozen 2
        have ltR := R.lt
        go_wp2_with fail
        have T2 := ((R.set 0 (.int .i64 0)).set 1 (.int .i64 0)).set 2 (.slice none 0 0)
        have hs5 : Spares (fun y => y = w.heap.size + 1 + 1) w3 (((w3.setCell ⟨w.heap.size + 1 + 1, 0, none⟩ (.int .i64 0)).setCell ⟨w.heap.size + 1 + 1, 1, none⟩ (.int .i64 0)).setCell ⟨w.heap.size + 1 + 1, 2, none⟩ (.slice none 0 0)) := Spares.set (Spares.set (Spares.set (Spares.refl w3)))
        generalize (((w3.setCell ⟨w.heap.size + 1 + 1, 0, none⟩ (.int .i64 0)).setCell ⟨w.heap.size + 1 + 1, 1, none⟩ (.int .i64 0)).setCell ⟨w.heap.size + 1 + 1, 2, none⟩ (.slice none 0 0)) = w5 at T2 hs5 ⊢
        have t0 := T2.c0
        have t1 := T2.c1
        have t2 := T2.c2
        have hB5 := hB.trans (hs5.below (B := w.heap.size) (by omega) (fun y hy => by omega))
        refine bodyPost_ret (v := .tuple #[.agg #[.int .i64 0, .int .i64 0, .slice none 0 0], .int .i64 1]) (by simp [results, Try.results22, go_sem, t0, t1, t2]) rfl ?_
        rw [E1.out, E2.out]
        exact ⟨none, 0, rfl, zero_freshs, hB5⟩
      have Hpre2 : Hid (∀ (m : Nat) (x : Ex), m < j + 1 → bs[m]? = some x → okB t a x = true) := by
        show ∀ (m : Nat) (x : Ex), _
        intro m y hm hy2
        by_cases hmj : m = j
        · subst hmj
          have := Hx.out
          rw [hy2] at this
          cases this
          exact h3
        · exact Hpre.out m y (by omega) hy2
      clear Hpre
      go_wp2_with fail
      go_roundw
      case rel => exact ⟨j + 1, by omega, by go_num, Hpre2, L3, M3, R3, hB3⟩
      case measure => simp [intOf]; omega
    obtain rfl : j = bs.length := by omega
    have Hall : Hid (bs.all (okB t a) = true) := by
      show _ = _
      rw [List.all_eq_true]
      intro x hx
      obtain ⟨m, hm⟩ := List.mem_iff_getElem?.1 hx
      exact Hpre.out m x (List.getElem?_eq_some_iff.1 hm).1 hm
    have l1 := L.c1
    by_cases hla : (bs.length : Int) = a
    rotate_left
    · have d2 : ((bs.length : Int) != a) = true := by simp [hla]
      have E1 : Hid (repE t a (.mk k n ks) bs = Ex.zero) := by show _ = _; simp [repE, hla]
      have E2 : Hid (repC t a (.mk k n ks) bs = 2) := by show _ = _; simp [repC, repV, hla, Hall.out, He.out]
      clear hla
      -- the answer is the zero expression and a code; the world is V
      have r0 := R.c0
      have r1 := R.c1
      have r2 := R.c2
      have z0 := R.frozen 0
      have z1 := R.frozen 1
      have z2 := R.frozen 2
      have ltR := R.lt
      go_wp2_with fail
      have T2 := ((R.set 0 (.int .i64 0)).set 1 (.int .i64 0)).set 2 (.slice none 0 0)
      have hs5 : Spares (fun y => y = w.heap.size + 1 + 1) wr (((wr.setCell ⟨w.heap.size + 1 + 1, 0, none⟩ (.int .i64 0)).setCell ⟨w.heap.size + 1 + 1, 1, none⟩ (.int .i64 0)).setCell ⟨w.heap.size + 1 + 1, 2, none⟩ (.slice none 0 0)) := Spares.set (Spares.set (Spares.set (Spares.refl wr)))
      generalize (((wr.setCell ⟨w.heap.size + 1 + 1, 0, none⟩ (.int .i64 0)).setCell ⟨w.heap.size + 1 + 1, 1, none⟩ (.int .i64 0)).setCell ⟨w.heap.size + 1 + 1, 2, none⟩ (.slice none 0 0)) = w5 at T2 hs5 ⊢
      have t0 := T2.c0
      have t1 := T2.c1
      have t2 := T2.c2
      have hB5 := hB.trans (hs5.below (B := w.heap.size) (by omega) (fun y hy => by omega))
      refine bodyPost_ret (v := .tuple #[.agg #[.int .i64 0, .int .i64 0, .slice none 0 0], .int .i64 2]) (by simp [results, Try.results22, go_sem, t0, t1, t2]) rfl ?_
      rw [E1.out, E2.out]
      exact ⟨none, 0, rfl, zero_freshs, hB5⟩
    have d2 : ((bs.length : Int) != a) = false := by simp [hla]
    have Hla := Lib.hid hla
    clear hla
    go_wp2_with fail
    have LB := Blk.new1 wr 2 (.int .i64 200)
    have hBa : Below wr.heap.size wr (wr.alloc (.cells #[.int .i64 200] 2)) := Below.alloc (Below.refl _ _) (Nat.le_refl _) _
    have hza : (wr.alloc (.cells #[.int .i64 200] 2)).heap.size = wr.heap.size + 1 := by simp
    have L1 := L.below hBa
    have R1 := R.below hBa
    have ltRr := R.lt
    generalize wr.alloc (.cells #[.int .i64 200] 2) = w4 at LB hBa hza L1 R1 ⊢
    have hszr := hB.size
    have hbs2 : ∀ x ∈ bs, x.size ≤ 200 := fun x hx => okB_size (List.all_eq_true.1 Hall.out x hx)
    have hesz := okB_size He.out
    refine (l01Put_all wr bs s2 c2 wr.heap.size (t - 1) (a - 1) (hy.below hB) (by have := Hla.out; omega) hbs2 (Nat.le_refl _) _ (.mk k n ks) _ _ _ 200 (Nat.le_refl _) (M.exAt (hr.below hB)) (by omega) (okB_tree He.out) hBa LB (by omega) (by omega)).mono ?_
    have HP := Lib.hid (Ex.putG_spec bs (.mk k n ks) 200 (by omega))
    obtain ⟨y, l, hyl⟩ : ∃ y l, Ex.putG bs (.mk k n ks) 200 = (y, l) := ⟨_, _, rfl⟩
    have Hyl := Lib.hid hyl
    rw [hyl]
    clear hyl hbs2 hesz l1
    rintro f w5 ⟨s', c', rfl, hf, hsp, LB5⟩
    simp only at hf LB5 ⊢
    have sz5 := hsp.size
    have L5 := L1.keep (hsp.block _ L1.lt (by omega))
    have R5 := R1.keep (hsp.block _ R1.lt (by omega))
    have hB5 := hB.trans ((hBa.mono (by omega)).trans (hsp.below (B := w.heap.size) (by omega) (fun y hy => by omega)))
    clear L M R hB L1 R1 hBa LB hsp
    have lb0 := LB5.c0
    have ltB := LB5.lt
    have ra0 := R5.c0
    have ra1 := R5.c1
    have ra2 := R5.c2
    have rz0 := R5.frozen 0
    have rz1 := R5.frozen 1
    have rz2 := R5.frozen 2
    have ltR5 := R5.lt
    have la0 := L5.c0
    have la1 := L5.c1
    have ltL5 := L5.lt
    have Y := Blk.new3 w5 47 (.int .i64 y.kind) (.int .i64 y.num) (.slice s' y.kids.length c')
    have hBy : Below w5.heap.size w5 (w5.alloc (.cells #[.int .i64 y.kind, .int .i64 y.num, .slice s' y.kids.length c'] 47)) := Below.alloc (Below.refl _ _) (Nat.le_refl _) _
    have hzy : (w5.alloc (.cells #[.int .i64 y.kind, .int .i64 y.num, .slice s' y.kids.length c'] 47)).heap.size = w5.heap.size + 1 := by simp
    have szB5 := hB5.size
    by_cases hl : l < 0
    · have hd3 : decide (l < 0) = true := by simpa using hl
      have hno : okB t a (Ex.put bs (.mk k n ks)) = false := by
        cases hq : okB t a (Ex.put bs (.mk k n ks)) with
        | false => rfl
        | true =>
          have h5 := okB_size hq
          have h6 := HP.out.1 (by omega)
          rw [Hyl.out] at h6
          simp only [Prod.mk.injEq] at h6
          omega
      have E1 : Hid (repE t a (.mk k n ks) bs = Ex.zero) := by show _ = _; simp [repE, hno]
      have E2 : Hid (repC t a (.mk k n ks) bs = 3) := by show _ = _; simp [repC, repV, hno, Hall.out, He.out, Hla.out]
      clear hno hl
      go_wp2_with fail
      have T2 := ((R5.set 0 (.int .i64 0)).set 1 (.int .i64 0)).set 2 (.slice none 0 0)
      have hs5 : Spares (fun y => y = w.heap.size + 1 + 1) w5 (((w5.setCell ⟨w.heap.size + 1 + 1, 0, none⟩ (.int .i64 0)).setCell ⟨w.heap.size + 1 + 1, 1, none⟩ (.int .i64 0)).setCell ⟨w.heap.size + 1 + 1, 2, none⟩ (.slice none 0 0)) := Spares.set (Spares.set (Spares.set (Spares.refl w5)))
      generalize (((w5.setCell ⟨w.heap.size + 1 + 1, 0, none⟩ (.int .i64 0)).setCell ⟨w.heap.size + 1 + 1, 1, none⟩ (.int .i64 0)).setCell ⟨w.heap.size + 1 + 1, 2, none⟩ (.slice none 0 0)) = w6 at T2 hs5 ⊢
      have T3 := T2.alloc (.cells #[.int .i64 y.kind, .int .i64 y.num, .slice s' y.kids.length c'] 47)
      have t0 := T3.c0
      have t1 := T3.c1
      have t2 := T3.c2
      have hB6 := hB5.trans (hs5.below (B := w.heap.size) (by omega) (fun y hy => by omega))
      refine bodyPost_ret (v := .tuple #[.agg #[.int .i64 0, .int .i64 0, .slice none 0 0], .int .i64 3]) (by simp [results, Try.results22, go_sem, t0, t1, t2]) rfl ?_
      rw [E1.out, E2.out]
      exact ⟨none, 0, rfl, zero_freshs, hB6.alloc hB6.size _⟩
    have hd3 : decide (l < 0) = false := by simpa using hl
    have hyy : y = Ex.put bs (.mk k n ks) ∧ (Ex.put bs (.mk k n ks)).size ≤ 200 := by
      by_cases hq : ((Ex.put bs (.mk k n ks)).size : Int) ≤ 200
      · have h6 := HP.out.1 hq
        rw [Hyl.out] at h6
        simp only [Prod.mk.injEq] at h6
        exact ⟨h6.1, by omega⟩
      · have h6 := HP.out.2 (by omega)
        rw [Hyl.out] at h6
        exact absurd h6 hl
    obtain ⟨rfl, hysz⟩ := hyy
    clear hl
    go_wp2_with fail
    clear lb0 ra0 ra1 ra2 rz0 rz1 rz2 la0 la1 ltR5 ltL5
    have L6 := L5.below hBy
    have R6 := R5.below hBy
    have hf6 := hf.on hBy
    have hB6 := hB5.trans (hBy.mono (by omega))
    generalize w5.alloc (.cells #[.int .i64 (Ex.put bs (.mk k n ks)).kind, .int .i64 (Ex.put bs (.mk k n ks)).num, .slice s' (Ex.put bs (.mk k n ks)).kids.length c'] 47) = w6 at Y L6 R6 hf6 hB6 hzy ⊢
    refine (l01Ok_i (e := Ex.put bs (.mk k n ks)) ⟨Y.c0, Y.c1, s', c', Y.c2, hf6.rds.one⟩ (by omega)).mono ?_
    rintro f w7 ⟨rfl, hb⟩
    have sz7 := hb.size
    have hf7 := hf6.on hb
    have R7 := R6.below hb
    have Y7 := Y.below hb
    have hB7 := hB6.trans (hb.mono (by omega))
    clear hb hf hf6 R5 R6 L5 L6 Y hBy hB5 hB6
    cases hq : okB t a (Ex.put bs (.mk k n ks))
    · have E1 : Hid (repE t a (.mk k n ks) bs = Ex.zero) := by show _ = _; simp [repE, hq]
      have E2 : Hid (repC t a (.mk k n ks) bs = 3) := by show _ = _; simp [repC, repV, hq, Hall.out, He.out, Hla.out]
      have R := R7
      have hB := hB7
      clear R7 hB7
      -- the answer is the zero expression and a code; the world is V
      have r0 := R.c0
      have r1 := R.c1
      have r2 := R.c2
      have z0 := R.frozen 0
      have z1 := R.frozen 1
      have z2 := R.frozen 2
      have ltR := R.lt
      go_wp2_with fail
      have T2 := ((R.set 0 (.int .i64 0)).set 1 (.int .i64 0)).set 2 (.slice none 0 0)
      have hs5 : Spares (fun y => y = w.heap.size + 1 + 1) w7 (((w7.setCell ⟨w.heap.size + 1 + 1, 0, none⟩ (.int .i64 0)).setCell ⟨w.heap.size + 1 + 1, 1, none⟩ (.int .i64 0)).setCell ⟨w.heap.size + 1 + 1, 2, none⟩ (.slice none 0 0)) := Spares.set (Spares.set (Spares.set (Spares.refl w7)))
      generalize (((w7.setCell ⟨w.heap.size + 1 + 1, 0, none⟩ (.int .i64 0)).setCell ⟨w.heap.size + 1 + 1, 1, none⟩ (.int .i64 0)).setCell ⟨w.heap.size + 1 + 1, 2, none⟩ (.slice none 0 0)) = w5 at T2 hs5 ⊢
      have t0 := T2.c0
      have t1 := T2.c1
      have t2 := T2.c2
      have hB5 := hB.trans (hs5.below (B := w.heap.size) (by omega) (fun y hy => by omega))
      refine bodyPost_ret (v := .tuple #[.agg #[.int .i64 0, .int .i64 0, .slice none 0 0], .int .i64 3]) (by simp [results, Try.results22, go_sem, t0, t1, t2]) rfl ?_
      rw [E1.out, E2.out]
      exact ⟨none, 0, rfl, zero_freshs, hB5⟩
    have E1 : Hid (repE t a (.mk k n ks) bs = Ex.put bs (.mk k n ks)) := by show _ = _; simp [repE, repV, hq, Hall.out, He.out, Hla.out]
    have E2 : Hid (repC t a (.mk k n ks) bs = 0) := by show _ = _; simp [repC, repV, hq, Hall.out, He.out, Hla.out]
    have y0 := Y7.c0
    have y1 := Y7.c1
    have y2 := Y7.c2
    have r0 := R7.c0
    have r1 := R7.c1
    have r2 := R7.c2
    have z0 := R7.frozen 0
    have z1 := R7.frozen 1
    have z2 := R7.frozen 2
    have ltR := R7.lt
    have ltY := Y7.lt
    go_wp2_with fail
    obtain ⟨P, hP⟩ : ∃ P, Ex.put bs (.mk k n ks) = P := ⟨_, rfl⟩
    rw [hP] at E1 hf7 ⊢
    have T2 := ((R7.set 0 (.int .i64 P.kind)).set 1 (.int .i64 P.num)).set 2 (.slice s' P.kids.length c')
    have hs5 : Spares (fun y => y = w.heap.size + 1 + 1) w7 (((w7.setCell ⟨w.heap.size + 1 + 1, 0, none⟩ (.int .i64 P.kind)).setCell ⟨w.heap.size + 1 + 1, 1, none⟩ (.int .i64 P.num)).setCell ⟨w.heap.size + 1 + 1, 2, none⟩ (.slice s' P.kids.length c')) := Spares.set (Spares.set (Spares.set (Spares.refl w7)))
    generalize (((w7.setCell ⟨w.heap.size + 1 + 1, 0, none⟩ (.int .i64 P.kind)).setCell ⟨w.heap.size + 1 + 1, 1, none⟩ (.int .i64 P.num)).setCell ⟨w.heap.size + 1 + 1, 2, none⟩ (.slice s' P.kids.length c')) = w8 at T2 hs5 ⊢
    have t0 := T2.c0
    have t1 := T2.c1
    have t2 := T2.c2
    have hB8 := hB7.trans (hs5.below (B := w.heap.size) (by omega) (fun y hy => by omega))
    refine bodyPost_ret (v := .tuple #[.agg #[.int .i64 P.kind, .int .i64 P.num, .slice s' P.kids.length c'], .int .i64 0]) (by simp [results, Try.results22, go_sem, t0, t1, t2]) rfl ?_
    rw [E1.out, E2.out]
    obtain ⟨F, F1, F2, F3⟩ := hf7
    exact ⟨s', c', rfl, ⟨F, F1.keep fun q hq2 => hs5.block q (F1.lt q hq2) (by have := F3 q hq2; omega), F2, fun q hq2 => by have := F3 q hq2; omega⟩, hB8⟩
end Go.Proofs.Ytlnojmmjpgpjdaa
