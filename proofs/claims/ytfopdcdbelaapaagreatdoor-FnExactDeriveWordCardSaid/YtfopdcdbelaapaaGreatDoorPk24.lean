/-
  Parts of a proof, joined: DwS. No condition.
-/
import Derived.Test.YtfopdcdbelaapaaGreatDoorPk23
namespace Go.Proofs.YtfopdcdbelaapaaGreatDoor
set_option linter.unusedVariables false
set_option linter.unusedSimpArgs false
open Go.ChangeShapes Go.WideShapes Go.ChangeAt Go.RowKit Go.Deep Go.Sort
theorem set3 {w : World} {g t : Nat} {a b c : Value} (h : Blk w g t [a, b, c]) (x y z : Value) : ∃ w', ((w.setCell ⟨g, 0, none⟩ x).setCell ⟨g, 1, none⟩ y).setCell ⟨g, 2, none⟩ z = w' ∧ Blk w' g t [x, y, z] ∧ Spares (fun i => i = g) w w' :=
 ⟨_, rfl, ((h.set 0 x).set 1 y).set 2 z, Spares.set (Spares.set (Spares.set (Spares.refl w)))⟩
noncomputable def dwS (ys : List Int) (e : Ex) : Ex := if ys.length = 0 then e.tidy else e
theorem dwS_spec {t a : Int} {e : Ex} (ys : List Int) (h : okB t a e = true) : (dwS ys e).tree (t - 1) (a - 1) = true ∧ (dwS ys e).size ≤ 200 := by
 obtain ⟨-, -, hs, htr⟩ := okB_bd3 h
 unfold dwS
 split
 ·
  have h2 := tidy_spec _ _ _ e (Nat.le_refl _) htr
  exact ⟨h2.1, by omega⟩
 ·
  exact ⟨htr, hs⟩
theorem dw_fin {t a : Int} {xs ys : List Int} {e d : Ex} (h : (okB t a e && wordB t a xs ys) = true) {k : Nat} (hk : k = ys.length) (hd : dwO (dwS ys e) xs ys k = some d) : dwE t a xs ys e = d ∧ dwC t a xs ys e = 0 := by
 subst hk
 by_cases hy : ys.length = 0
 ·
  obtain ⟨h1, h2⟩ := dw_empty h hy
  unfold dwS at hd
  rw [if_pos hy, hy] at hd
  simp only [dwO, Option.some.injEq] at hd
  rw [h1, h2, hd]
  exact ⟨rfl, rfl⟩
 ·
  unfold dwS at hd
  rw [if_neg hy] at hd
  exact dw_some h hy hd
theorem dw_nofin {t a : Int} {xs ys : List Int} {e : Ex} (h : (okB t a e && wordB t a xs ys) = true) {k : Nat} (hk : k < ys.length) (hd : dwO (dwS ys e) xs ys (k + 1) = none) : dwE t a xs ys e = .mk 0 0 [] ∧ dwC t a xs ys e = 3 := by
 have hy : ¬ ys.length = 0 := by omega
 unfold dwS at hd
 rw [if_neg hy] at hd
 exact dw_none h hy (by omega) hd
theorem outE_size {P : Program} {n : Nat} {vs : Array Value} {w : World} {e : Ex} (h : Calls P n vs w (OutE w e)) : Calls P n vs w fun f w' => OutE w e f w' ∧ w.heap.size ≤ w'.heap.size :=
 h.mono fun _ _ ⟨s, c, h1, h2, h3⟩ => ⟨⟨s, c, h1, h2, h3⟩, h3.size⟩
set_option maxRecDepth 100000 in
set_option maxHeartbeats 8000000 in
theorem specDeriveWord_i {t a k n : Int} {ks : List Ex} {s : Option Addr} {c : Nat} {xs ys : List Int} {sx sy : Option Addr} {cx cy : Nat} {w : World} (hr : Rd w (kidsD ks) (.slice s ks.length c)) (h1 : Ex.sizeL ks ≤ 1048576) (hx : Rd w (intsD xs) (.slice sx xs.length cx)) (hy : Rd w (intsD ys) (.slice sy ys.length cy)) :
  Calls Tryz.prog 16 #[.agg #[.int .i64 t, .int .i64 a], .agg #[.int .i64 k, .int .i64 n, .slice s ks.length c], .agg #[.slice sx xs.length cx, .slice sy ys.length cy]] w fun e w' => ∃ s' c', e = .returned (.tuple #[.agg #[.int .i64 (dwE t a xs ys (.mk k n ks)).kind, .int .i64 (dwE t a xs ys (.mk k n ks)).num, .slice s' (dwE t a xs ys (.mk k n ks)).kids.length c'], .int .i64 (dwC t a xs ys (.mk k n ks))]) ∧
   Freshs w w' [kidsD (dwE t a xs ys (.mk k n ks)).kids] [.slice s' (dwE t a xs ys (.mk k n ks)).kids.length c'] ∧ Below w.heap.size w w' := by
 have Hsz : Hid (Ex.size (.mk k n ks) ≤ 1073741824) := by show _ ≤ _; rw [Ex.size_eq]; simp only [Ex.kids]; omega
 have Hx := Lib.hid hx
 have Hy := Lib.hid hy
 obtain ⟨-, hl2, hl3, -⟩ := hx.sl_at
 obtain ⟨-, hl4, hl5, -⟩ := hy.sl_at
 unfold maxLen at hl3 hl5
 obtain ⟨k0, rfl⟩ : ∃ z, z = k := ⟨_, rfl⟩
 go_enter Tryz.func16, Tryz.ntmps16
 go_wp2_with fail
 have L := (((Blk.new2 w 37 (.int .i64 t) (.int .i64 a)).alloc (.cells #[.int .i64 k0, .int .i64 n, .slice s ks.length c] 34)).alloc (.cells #[.slice sx xs.length cx, .slice sy ys.length cy] 40)).alloc (.cells #[.int .i64 0, .int .i64 0, .slice none 0 0] 34)
 have M := ((Blk.new3 (w.alloc (.cells #[.int .i64 t, .int .i64 a] 37)) 34 (.int .i64 k0) (.int .i64 n) (.slice s ks.length c)).alloc (.cells #[.slice sx xs.length cx, .slice sy ys.length cy] 40)).alloc (.cells #[.int .i64 0, .int .i64 0, .slice none 0 0] 34)
 simp at M
 have Z := (Blk.new2 ((w.alloc (.cells #[.int .i64 t, .int .i64 a] 37)).alloc (.cells #[.int .i64 k0, .int .i64 n, .slice s ks.length c] 34)) 40 (.slice sx xs.length cx) (.slice sy ys.length cy)).alloc (.cells #[.int .i64 0, .int .i64 0, .slice none 0 0] 34)
 simp at Z
 have R := Blk.new3 (((w.alloc (.cells #[.int .i64 t, .int .i64 a] 37)).alloc (.cells #[.int .i64 k0, .int .i64 n, .slice s ks.length c] 34)).alloc (.cells #[.slice sx xs.length cx, .slice sy ys.length cy] 40)) 34 (.int .i64 0) (.int .i64 0) (.slice none 0 0)
 simp at R
 have hB : Below w.heap.size w ((((w.alloc (.cells #[.int .i64 t, .int .i64 a] 37)).alloc (.cells #[.int .i64 k0, .int .i64 n, .slice s ks.length c] 34)).alloc (.cells #[.slice sx xs.length cx, .slice sy ys.length cy] 40)).alloc (.cells #[.int .i64 0, .int .i64 0, .slice none 0 0] 34)) := by (repeat' first | exact Below.refl _ _ | assumption | apply Below.alloc | apply Below.drew | apply Below.setCell | omega | (simp; done) | (simp; omega))
 have hB0 := hB
 generalize ((((w.alloc (.cells #[.int .i64 t, .int .i64 a] 37)).alloc (.cells #[.int .i64 k0, .int .i64 n, .slice s ks.length c] 34)).alloc (.cells #[.slice sx xs.length cx, .slice sy ys.length cy] 40)).alloc (.cells #[.int .i64 0, .int .i64 0, .slice none 0 0] 34)) = v0 at L M Z R hB hB0 ⊢
 have l0 := L.c0
 have l1 := L.c1
 have m0 := M.c0
 have m1 := M.c1
 have m2 := M.c2
 have z0 := Z.c0
 have z1 := Z.c1
 have r0 := R.c0
 have r1 := R.c1
 have r2 := R.c2
 have ltL := L.lt
 have ltM := M.lt
 have ltZ := Z.lt
 have ltR := R.lt
 have zz0 := R.frozen 0
 have zz1 := R.frozen 1
 have zz2 := R.frozen 2
 go_wp2_with fail
 refine (l01Ok_i (M.exAt (hr.below hB)) Hsz.out).mono ?_
 rintro x w1 ⟨rfl, hb⟩
 clear l0 l1 m0 m1 m2 z0 z1 r0 r1 r2 ltL ltM ltZ ltR zz0 zz1 zz2
 replace hB := Below.on hB hb hB.size
 replace L := L.below hb
 replace M := M.below hb
 replace Z := Z.below hb
 replace R := R.below hb
 clear hb
 have szW1 := hB.size
 have rlt1 := R.lt
 cases hs1 : okB t a (.mk k0 n ks)
 ·
  have l0 := L.c0
  have l1 := L.c1
  have ltL := L.lt
  have m0 := M.c0
  have m1 := M.c1
  have m2 := M.c2
  have ltM := M.lt
  have z0 := Z.c0
  have z1 := Z.c1
  have ltZ := Z.lt
  have r0 := R.c0
  have zz0 := R.frozen 0
  have r1 := R.c1
  have zz1 := R.frozen 1
  have r2 := R.c2
  have zz2 := R.frozen 2
  have ltR := R.lt
  go_wp2_with fail
  have R' := (((R.set 0 (.int .i64 0)).set 1 (.int .i64 0)).set 2 (.slice none 0 0))
  have c0 := R'.c0
  have c1 := R'.c1
  have c2 := R'.c2
  refine bodyPost_ret (v := .tuple #[.agg #[.int .i64 0, .int .i64 0, .slice none 0 0], .int .i64 1]) (by simp [results, Tryz.results16, go_sem, c0, c1, c2]) rfl ?_
  obtain ⟨e1, e2⟩ := dw_bad (t := t) (a := a) (xs := xs) (ys := ys) (e := .mk k0 n ks) (by simp [hs1])
  rw [e1, e2]
  exact ⟨none, 0, rfl, fresh_nil1 _ _, by (repeat' first | exact Below.refl _ _ | assumption | apply Below.alloc | apply Below.drew | apply Below.setCell | omega | (simp; done) | (simp; omega))⟩
 have Hs1 := Lib.hid hs1
 clear hs1
 have l0 := L.c0
 have l1 := L.c1
 have m0 := M.c0
 have m1 := M.c1
 have m2 := M.c2
 have z0 := Z.c0
 have z1 := Z.c1
 have r0 := R.c0
 have r1 := R.c1
 have r2 := R.c2
 have ltL := L.lt
 have ltM := M.lt
 have ltZ := Z.lt
 have ltR := R.lt
 have zz0 := R.frozen 0
 have zz1 := R.frozen 1
 have zz2 := R.frozen 2
 go_wp2_with fail
 refine (l01Word_i (Z.wdAt (hx.below hB) (hy.below hB))).mono ?_
 rintro x w2 ⟨rfl, hb⟩
 clear l0 l1 m0 m1 m2 z0 z1 r0 r1 r2 ltL ltM ltZ ltR zz0 zz1 zz2
 replace hB := Below.on hB hb hB.size
 replace L := L.below hb
 replace M := M.below hb
 replace Z := Z.below hb
 replace R := R.below hb
 clear hb
 have szW2 := hB.size
 have rlt2 := R.lt
 cases hs2 : wordB t a xs ys
 ·
  have l0 := L.c0
  have l1 := L.c1
  have ltL := L.lt
  have m0 := M.c0
  have m1 := M.c1
  have m2 := M.c2
  have ltM := M.lt
  have z0 := Z.c0
  have z1 := Z.c1
  have ltZ := Z.lt
  have r0 := R.c0
  have zz0 := R.frozen 0
  have r1 := R.c1
  have zz1 := R.frozen 1
  have r2 := R.c2
  have zz2 := R.frozen 2
  have ltR := R.lt
  go_wp2_with fail
  have R' := (((R.set 0 (.int .i64 0)).set 1 (.int .i64 0)).set 2 (.slice none 0 0))
  have c0 := R'.c0
  have c1 := R'.c1
  have c2 := R'.c2
  refine bodyPost_ret (v := .tuple #[.agg #[.int .i64 0, .int .i64 0, .slice none 0 0], .int .i64 1]) (by simp [results, Tryz.results16, go_sem, c0, c1, c2]) rfl ?_
  obtain ⟨e1, e2⟩ := dw_bad (t := t) (a := a) (xs := xs) (ys := ys) (e := .mk k0 n ks) (by simp [hs2])
  rw [e1, e2]
  exact ⟨none, 0, rfl, fresh_nil1 _ _, by (repeat' first | exact Below.refl _ _ | assumption | apply Below.alloc | apply Below.drew | apply Below.setCell | omega | (simp; done) | (simp; omega))⟩
 have Hs2 := Lib.hid hs2
 clear hs2
 have l0 := L.c0
 have l1 := L.c1
 have m0 := M.c0
 have m1 := M.c1
 have m2 := M.c2
 have z0 := Z.c0
 have z1 := Z.c1
 have r0 := R.c0
 have r1 := R.c1
 have r2 := R.c2
 have ltL := L.lt
 have ltM := M.lt
 have ltZ := Z.lt
 have ltR := R.lt
 have zz0 := R.frozen 0
 have zz1 := R.frozen 1
 have zz2 := R.frozen 2
 go_wp2_with fail
 have Hok2 : Hid ((okB t a (.mk k0 n ks) && wordB t a xs ys) = true) := by show _ = _; rw [Hs1.out, Hs2.out]; rfl
 obtain ⟨b1, b2, b3, b4⟩ := okB_bd3 Hs1.out
 have Hb4 := Lib.hid b4
 clear b4
 refine (outE_size (l02Tidy_all (t - 1) (a - 1) (by omega) (by omega) _ (.mk k0 n ks) _ _ _ (Nat.le_refl _) (M.exAt (hr.below hB)) Hb4.out (by omega))).mono ?_
 rintro x w3 ⟨⟨sb, cb, rfl, hf, hb⟩, hz23⟩
 clear l0 l1 m0 m1 m2 z0 z1 r0 r1 r2 ltL ltM ltZ ltR zz0 zz1 zz2
 replace hB := Below.on hB hb hB.size
 replace L := L.below hb
 replace M := M.below hb
 replace Z := Z.below hb
 replace R := R.below hb
 clear hb
 have szW3 := hB.size
 have rlt3 := R.lt
 have l0 := L.c0
 have l1 := L.c1
 have m0 := M.c0
 have m1 := M.c1
 have m2 := M.c2
 have z0 := Z.c0
 have z1 := Z.c1
 have r0 := R.c0
 have r1 := R.c1
 have r2 := R.c2
 have ltL := L.lt
 have ltM := M.lt
 have ltZ := Z.lt
 have ltR := R.lt
 have zz0 := R.frozen 0
 have zz1 := R.frozen 1
 have zz2 := R.frozen 2
 have HB := Lib.hid hB
 have Hf := Lib.hid hf
 have HM := Lib.hid (M.exAt (hr.below hB))
 have HZ := Lib.hid Z
 have HR := Lib.hid R
 clear hB hf M R L l0 l1 m0 m1 m2 r0 r1 r2 zz0 zz1 zz2
 by_cases hys : ys.length = 0
 ·
  go_wp2_with fail
  obtain ⟨w4, e4, hN0, hb4, hz4⟩ := box3 w3 34 (.int .i64 (Ex.mk k0 n ks).tidy.kind) (.int .i64 (Ex.mk k0 n ks).tidy.num) (.slice sb (Ex.mk k0 n ks).tidy.kids.length cb)
  rw [e4]
  clear e4
  have hf0 := Hf.out.on hb4
  have HS0 : Hid (dwO (dwS ys (.mk k0 n ks)) xs ys 0 = some (Ex.mk k0 n ks).tidy) := by show _ = _; simp only [dwO, dwS]; rw [if_pos hys]
  go_loopw [9] (fun i wr => ∃ (k : Nat) (d : Ex) (sd : Option Addr) (cd : Nat), i = .int .i64 k ∧ k ≤ ys.length ∧ Hid (dwO (dwS ys (.mk k0 n ks)) xs ys k = some d) ∧ Blk wr w3.heap.size 34 [.int .i64 d.kind, .int .i64 d.num, .slice sd d.kids.length cd] ∧ Freshs w2 wr [kidsD d.kids] [.slice sd d.kids.length cd] ∧
   Blk wr (w.heap.size + 1 + 1) 40 [.slice sx xs.length cx, .slice sy ys.length cy] ∧ Blk wr (w.heap.size + 1 + 1 + 1) 34 [.int .i64 0, .int .i64 0, .slice none 0 0] ∧ Below w.heap.size w wr) (fun i _ => ys.length - (intOf i).toNat)
  case atStart => exact ⟨0, _, _, _, rfl, by omega, HS0, hN0, hf0, HZ.out.below hb4, HR.out.below hb4, Below.on HB.out hb4 HB.out.size⟩
  case round =>
   clear hN0 hf0 HS0
   obtain ⟨k, d, sd, cd, rfl, hk, hd, N, hf, Z, R, hB⟩ := hrel
   obtain ⟨wo, rfl⟩ : ∃ v, v = wr := ⟨_, rfl⟩
   have hk0 := Int.natCast_nonneg k
   have hzo := hB.size
   have hrd := Rds.one hf.rds
   by_cases hlt : k < ys.length
   rotate_left
   ·
    obtain ⟨e1, e2⟩ := dw_fin Hok2.out (by omega) hd.out
    have E1 := Lib.hid e1
    have E2 := Lib.hid e2
    clear e1 e2
    obtain ⟨n0, n1, n2, -, -, -, ltN⟩ := N.all3
    obtain ⟨g0, g1, ltZ⟩ := Z.all2
    have hf2 := Lib.hid hf
    clear hf hrd
    obtain ⟨r0, r1, r2, z0, z1, z2, ltR⟩ := R.all3
    go_wp2_with fail
    obtain ⟨wf, ef, T2, hs5⟩ := set3 R (.int .i64 d.kind) (.int .i64 d.num) (.slice sd d.kids.length cd)
    rw [ef]
    clear ef r0 r1 r2 z0 z1 z2 ltR
    obtain ⟨t0, t1, t2, -, -, -, -⟩ := T2.all3
    have hzB5 := hB.size
    have hB5 := hB.trans (hs5.below (B := w.heap.size) (by omega) (fun y hy => by omega))
    refine bodyPost_ret (v := .tuple #[.agg #[.int .i64 d.kind, .int .i64 d.num, .slice sd d.kids.length cd], .int .i64 0]) (by simp [results, Tryz.results16, go_sem, t0, t1, t2]) rfl ?_
    rw [E1.out, E2.out]
    exact ⟨sd, cd, rfl, (hf2.out.keep fun y hy _ => hs5.block y (by omega) (by omega)).from szW2, hB5⟩
   ·
    skip
    omega
 ·
  go_wp2_with fail
  obtain ⟨w4, e4, hN0, hb4, hz4⟩ := box3 w3 34 (.int .i64 (Ex.mk k0 n ks).tidy.kind) (.int .i64 (Ex.mk k0 n ks).tidy.num) (.slice sb (Ex.mk k0 n ks).tidy.kids.length cb)
  rw [e4]
  clear e4
  refine (l01Own_e (HM.out.below hb4) Hsz.out).mono ?_
  rintro f w5 ⟨s5, c5, rfl, hf5, hb5⟩
  have hN5 := hN0.below hb5
  have hz5 := hb5.size
  obtain ⟨n0, n1, n2, y0, y1, y2, ltN⟩ := hN5.all3
  have hB5 := HB.out.trans ((hb4.trans (hb5.mono (by omega))).mono HB.out.size)
  have hZ5 := (HZ.out.below hb4).below hb5
  have hR5 := (HR.out.below hb4).below hb5
  clear hb5 hb4 hN0
  go_wp2_with fail
  obtain ⟨w6, e6, hN0, hs6⟩ := set3 hN5 (.int .i64 (Ex.mk k0 n ks).kind) (.int .i64 (Ex.mk k0 n ks).num) (.slice s5 (Ex.mk k0 n ks).kids.length c5)
  rw [e6]
  clear e6 n0 n1 n2 y0 y1 y2 ltN
  have hf0 := (hf5.keep fun y hy _ => hs6.block y (by omega) (by omega)).from (w0 := w2) (by omega)
  have HS0 : Hid (dwO (dwS ys (.mk k0 n ks)) xs ys 0 = some (Ex.mk k0 n ks)) := by show _ = _; simp only [dwO, dwS]; rw [if_neg hys]
  have ltZ := HZ.out.lt
  have ltR := HR.out.lt
  have hZ6 := hZ5.keep (hs6.block _ (by omega) (by omega))
  have hR6 := hR5.keep (hs6.block _ (by omega) (by omega))
  have hB6 := hB5.trans (hs6.below (by omega) (fun b hb => by omega))
  clear hf5 hZ5 hR5 hB5 hN5 hs6
  go_loopw [9] (fun i wr => ∃ (k : Nat) (d : Ex) (sd : Option Addr) (cd : Nat), i = .int .i64 k ∧ k ≤ ys.length ∧ Hid (dwO (dwS ys (.mk k0 n ks)) xs ys k = some d) ∧ Blk wr w3.heap.size 34 [.int .i64 d.kind, .int .i64 d.num, .slice sd d.kids.length cd] ∧ Freshs w2 wr [kidsD d.kids] [.slice sd d.kids.length cd] ∧
   Blk wr (w.heap.size + 1 + 1) 40 [.slice sx xs.length cx, .slice sy ys.length cy] ∧ Blk wr (w.heap.size + 1 + 1 + 1) 34 [.int .i64 0, .int .i64 0, .slice none 0 0] ∧ Below w.heap.size w wr) (fun i _ => ys.length - (intOf i).toNat)
  case atStart => exact ⟨0, _, _, _, rfl, by omega, HS0, hN0, hf0, hZ6, hR6, hB6⟩
  case round =>
   clear hN0 hf0 HS0
   obtain ⟨k, d, sd, cd, rfl, hk, hd, N, hf, Z, R, hB⟩ := hrel
   obtain ⟨wo, rfl⟩ : ∃ v, v = wr := ⟨_, rfl⟩
   have hk0 := Int.natCast_nonneg k
   have hzo := hB.size
   have hrd := Rds.one hf.rds
   by_cases hlt : k < ys.length
   rotate_left
   ·
    obtain ⟨e1, e2⟩ := dw_fin Hok2.out (by omega) hd.out
    have E1 := Lib.hid e1
    have E2 := Lib.hid e2
    clear e1 e2
    obtain ⟨n0, n1, n2, -, -, -, ltN⟩ := N.all3
    obtain ⟨g0, g1, ltZ⟩ := Z.all2
    have hf2 := Lib.hid hf
    clear hf hrd
    obtain ⟨r0, r1, r2, z0, z1, z2, ltR⟩ := R.all3
    go_wp2_with fail
    obtain ⟨wf, ef, T2, hs5⟩ := set3 R (.int .i64 d.kind) (.int .i64 d.num) (.slice sd d.kids.length cd)
    rw [ef]
    clear ef r0 r1 r2 z0 z1 z2 ltR
    obtain ⟨t0, t1, t2, -, -, -, -⟩ := T2.all3
    have hzB5 := hB.size
    have hB5 := hB.trans (hs5.below (B := w.heap.size) (by omega) (fun y hy => by omega))
    refine bodyPost_ret (v := .tuple #[.agg #[.int .i64 d.kind, .int .i64 d.num, .slice sd d.kids.length cd], .int .i64 0]) (by simp [results, Tryz.results16, go_sem, t0, t1, t2]) rfl ?_
    rw [E1.out, E2.out]
    exact ⟨sd, cd, rfl, (hf2.out.keep fun y hy _ => hs5.block y (by omega) (by omega)).from szW2, hB5⟩
   ·
    skip
    obtain ⟨m, x, hmx, hxx, hm7, hxa⟩ := word_at Hs2.out hlt
    have hlx := (List.getElem?_eq_some_iff.1 hmx).1
    have hat := (atomsN_bd t).2
    obtain ⟨hdt, hds⟩ := dwO_spec (dwS_spec ys Hs1.out).1 (dwS_spec ys Hs1.out).2 k d hd.out
    have hrx := Hx.out.below hB
    have hry := Hy.out.below hB
    obtain ⟨xb, xo, rfl⟩ := int_some hrx (by omega)
    obtain ⟨yb, yo, rfl⟩ := int_some hry (by omega)
    have HX := Lib.hid hrx
    have HY := Lib.hid hry
    have HD := Lib.hid (show ExAt wo w3.heap.size 0 d from ⟨N.c0, N.c1, sd, cd, N.c2, hrd⟩)
    have HZ := Lib.hid Z
    have HR := Lib.hid R
    have HN := Lib.hid N
    have HB := Lib.hid hB
    have Hnx := Lib.hid (dwO_succ hd.out hmx hxx)
    have Hmx := Lib.hid hmx
    have Hxx := Lib.hid hxx
    obtain ⟨g0, g1, ltZ⟩ := Z.all2
    have ltN := N.lt
    have ltR := R.lt
    clear hrx hry hrd hf N Z R hB hmx hxx
    cases ho : d.step m x with
    | none =>
     have Ho := Lib.hid ho
     clear ho
     go_wp2_with fail
     clear g0 g1 ltZ
     obtain ⟨x0, hx0⟩ := mkval ?a1_0
     obtain ⟨x1, hx1⟩ := mkval ?a1_1
     obtain ⟨x2, hx2⟩ := mkval ?a1_2
     obtain ⟨x3, hx3⟩ := mkval ?a1_3
     obtain ⟨x4, hx4⟩ := mkval ?a1_4
     obtain ⟨x5, hx5⟩ := mkval ?a1_5
     obtain ⟨x6, hx6⟩ := mkval ?a1_6
     obtain ⟨x7, hx7⟩ := mkval ?a1_7
     obtain ⟨x8, hx8⟩ := mkval ?a1_8
     obtain ⟨x9, hx9⟩ := mkval ?a1_9
     refine region_rs [(15, 14)] [] (fun _ _ => False) (wo.heap.size) (fun i iv vs wx => match i with
      | 0 => vs 0 = x0
      | 1 => vs 1 = x1
      | 2 => vs 2 = x2
      | 3 => vs 3 = x3
      | 4 => vs 4 = x4
      | 5 => vs 5 = x5
      | 6 => vs 6 = x6
      | 7 => vs 7 = x7
      | 8 => vs 8 = x8
      | 9 => vs 9 = x9
      | 10 => ∃ y s2 c2, vs 10 = .tuple #[.agg #[.int .i64 (Ex.kind y), .int .i64 (Ex.num y), .slice s2 (Ex.kids y).length c2], .bool false] ∧ FreshIn (iv 10) wx [] []
      | 11 => vs 11 = vs 10
      | 12 => vs 12 = tupAt (vs 11) 0
      | 13 => vs 13 = tupAt (vs 11) 1
      | 14 => vs 14 = .pointer (some ⟨(iv 14).1, 0, none⟩) ∧ (iv 14).2 = (iv 14).1 + 1 ∧ Blk wx (iv 14).1 34 [.int .i64 0, .int .i64 0, .slice none 0 0]
      | 15 => (iv 14).2 = (iv 14).1 + 1 ∧ Blk wx ((iv 14).1) 34 [aggAt (vs 12) 0, aggAt (vs 12) 1, aggAt (vs 12) 2]
      | 16 => vs 16 = vs 13
      | _ => True) (fun i iv vs => match i with
      | 0 => vs 0 = x0
      | 1 => vs 1 = x1
      | 2 => vs 2 = x2
      | 3 => vs 3 = x3
      | 4 => vs 4 = x4
      | 5 => vs 5 = x5
      | 6 => vs 6 = x6
      | 7 => vs 7 = x7
      | 8 => vs 8 = x8
      | 9 => vs 9 = x9
      | 10 => ∃ y s2 c2, vs 10 = .tuple #[.agg #[.int .i64 (Ex.kind y), .int .i64 (Ex.num y), .slice s2 (Ex.kids y).length c2], .bool false]
      | 11 => vs 11 = vs 10
      | 12 => vs 12 = tupAt (vs 11) 0
      | 13 => vs 13 = tupAt (vs 11) 1
      | 14 => vs 14 = .pointer (some ⟨(iv 14).1, 0, none⟩) ∧ (iv 14).2 = (iv 14).1 + 1
      | 15 => True
      | 16 => vs 16 = vs 13
      | _ => True) (by kernel_rfl) (by kernel_rfl) [0, 1, 2, 3, 4, 5, 6, 7, 8, 9, 10, 11, 12, 13, 14, 15, 16] (by kernel_rfl) ?hbase ?hGb ?hG ?hJ ?hE ?hEE ?hstep ?hQ
     case hbase => first | exact Nat.le_refl _ | omega | (simp; omega)
     case hGb =>
      exact fun _ _ h => h.elim
     case hG =>
      exact fun _ _ _ h => h.elim
     case hJ =>
      intro i hi iv iv' vs vs' wx wx' ha hv hz hk hj
      simp only [List.mem_cons, List.not_mem_nil, or_false] at hi
      rcases hi with rfl | rfl | rfl | rfl | rfl | rfl | rfl | rfl | rfl | rfl | rfl | rfl | rfl | rfl | rfl | rfl | rfl
      ·
       exact (hv.out 0 (mem_of (by kernel_rfl))).symm.trans hj
      ·
       exact (hv.out 1 (mem_of (by kernel_rfl))).symm.trans hj
      ·
       exact (hv.out 2 (mem_of (by kernel_rfl))).symm.trans hj
      ·
       exact (hv.out 3 (mem_of (by kernel_rfl))).symm.trans hj
      ·
       exact (hv.out 4 (mem_of (by kernel_rfl))).symm.trans hj
      ·
       exact (hv.out 5 (mem_of (by kernel_rfl))).symm.trans hj
      ·
       exact (hv.out 6 (mem_of (by kernel_rfl))).symm.trans hj
      ·
       exact (hv.out 7 (mem_of (by kernel_rfl))).symm.trans hj
      ·
       exact (hv.out 8 (mem_of (by kernel_rfl))).symm.trans hj
      ·
       exact (hv.out 9 (mem_of (by kernel_rfl))).symm.trans hj
      ·
       have e10 := hv.out 10 (mem_of (by kernel_rfl))
       have g10 := ha.out 10 (mem_of (by kernel_rfl))
       obtain ⟨y, s2, c2, q1, q2⟩ := hj
       exact ⟨y, s2, c2, e10 ▸ q1, g10 ▸ q2.keep (fun b hb h1 h2 => hk.out b hb (foot_own h1 h2))⟩
      ·
       have e10 := hv.out 10 (mem_of (by kernel_rfl))
       have e11 := hv.out 11 (mem_of (by kernel_rfl))
       have hj' : vs 11 = vs 10 := hj
       show vs' 11 = vs' 10
       rw [← e10, ← e11]
       exact hj'
      ·
       have e11 := hv.out 11 (mem_of (by kernel_rfl))
       have e12 := hv.out 12 (mem_of (by kernel_rfl))
       have hj' : vs 12 = tupAt (vs 11) 0 := hj
       show vs' 12 = tupAt (vs' 11) 0
       rw [← e11, ← e12]
       exact hj'
      ·
       have e11 := hv.out 11 (mem_of (by kernel_rfl))
       have e13 := hv.out 13 (mem_of (by kernel_rfl))
       have hj' : vs 13 = tupAt (vs 11) 1 := hj
       show vs' 13 = tupAt (vs' 11) 1
       rw [← e11, ← e13]
       exact hj'
      ·
       have e14 := hv.out 14 (mem_of (by kernel_rfl))
       have g14 := ha.out 14 (mem_of (by kernel_rfl))
       obtain ⟨q1, q3, q2⟩ := hj
       show vs' 14 = .pointer (some ⟨(iv' 14).1, 0, none⟩) ∧ (iv' 14).2 = (iv' 14).1 + 1 ∧ Blk wx' (iv' 14).1 34 [.int .i64 0, .int .i64 0, .slice none 0 0]
       rw [← e14, ← g14]
       exact ⟨q1, q3, q2.keep (hk.out _ q2.lt (foot_own (Nat.le_refl _) (by omega)))⟩
      ·
       have e12 := hv.out 12 (mem_of (by kernel_rfl))
       have g14 := ha.out 14 (mem_of (by kernel_rfl))
       have hj' : (iv 14).2 = (iv 14).1 + 1 ∧ Blk wx ((iv 14).1) 34 [aggAt (vs 12) 0, aggAt (vs 12) 1, aggAt (vs 12) 2] := hj
       show (iv' 14).2 = (iv' 14).1 + 1 ∧ Blk wx' ((iv' 14).1) 34 [aggAt (vs' 12) 0, aggAt (vs' 12) 1, aggAt (vs' 12) 2]
       rw [← e12, ← g14]
       exact ⟨hj'.1, hj'.2.keep (hk.out _ hj'.2.lt ⟨14, mem_of (by kernel_rfl), Or.inl ⟨Nat.le_refl _, by omega⟩⟩)⟩
      ·
       have e13 := hv.out 13 (mem_of (by kernel_rfl))
       have e16 := hv.out 16 (mem_of (by kernel_rfl))
       have hj' : vs 16 = vs 13 := hj
       show vs' 16 = vs' 13
       rw [← e13, ← e16]
       exact hj'
     case hE =>
      intro i hi iv vs wx hj
      simp only [List.mem_cons, List.not_mem_nil, or_false] at hi
      rcases hi with rfl | rfl | rfl | rfl | rfl | rfl | rfl | rfl | rfl | rfl | rfl | rfl | rfl | rfl | rfl | rfl | rfl
      ·
       exact hj
      ·
       exact hj
      ·
       exact hj
      ·
       exact hj
      ·
       exact hj
      ·
       exact hj
      ·
       exact hj
      ·
       exact hj
      ·
       exact hj
      ·
       exact hj
      ·
       obtain ⟨y, s2, c2, q1, -⟩ := hj
       exact ⟨y, s2, c2, q1⟩
      ·
       exact hj
      ·
       exact hj
      ·
       exact hj
      ·
       exact ⟨hj.1, hj.2.1⟩
      ·
       trivial
      ·
       exact hj
     case hEE =>
      intro i hi iv iv' vs vs' ha hv hj
      simp only [List.mem_cons, List.not_mem_nil, or_false] at hi
      rcases hi with rfl | rfl | rfl | rfl | rfl | rfl | rfl | rfl | rfl | rfl | rfl | rfl | rfl | rfl | rfl | rfl | rfl
      ·
       exact (hv.out 0 (mem_of (by kernel_rfl))).symm.trans hj
      ·
       exact (hv.out 1 (mem_of (by kernel_rfl))).symm.trans hj
      ·
       exact (hv.out 2 (mem_of (by kernel_rfl))).symm.trans hj
      ·
       exact (hv.out 3 (mem_of (by kernel_rfl))).symm.trans hj
      ·
       exact (hv.out 4 (mem_of (by kernel_rfl))).symm.trans hj
      ·
       exact (hv.out 5 (mem_of (by kernel_rfl))).symm.trans hj
      ·
       exact (hv.out 6 (mem_of (by kernel_rfl))).symm.trans hj
      ·
       exact (hv.out 7 (mem_of (by kernel_rfl))).symm.trans hj
      ·
       exact (hv.out 8 (mem_of (by kernel_rfl))).symm.trans hj
      ·
       exact (hv.out 9 (mem_of (by kernel_rfl))).symm.trans hj
      ·
       have e10 := hv.out 10 (mem_of (by kernel_rfl))
       have hj' : ∃ y s2 c2, vs 10 = .tuple #[.agg #[.int .i64 (Ex.kind y), .int .i64 (Ex.num y), .slice s2 (Ex.kids y).length c2], .bool false] := hj
       show ∃ y s2 c2, vs' 10 = .tuple #[.agg #[.int .i64 (Ex.kind y), .int .i64 (Ex.num y), .slice s2 (Ex.kids y).length c2], .bool false]
       rw [← e10]
       exact hj'
      ·
       have e10 := hv.out 10 (mem_of (by kernel_rfl))
       have e11 := hv.out 11 (mem_of (by kernel_rfl))
       have hj' : vs 11 = vs 10 := hj
       show vs' 11 = vs' 10
       rw [← e10, ← e11]
       exact hj'
      ·
       have e11 := hv.out 11 (mem_of (by kernel_rfl))
       have e12 := hv.out 12 (mem_of (by kernel_rfl))
       have hj' : vs 12 = tupAt (vs 11) 0 := hj
       show vs' 12 = tupAt (vs' 11) 0
       rw [← e11, ← e12]
       exact hj'
      ·
       have e11 := hv.out 11 (mem_of (by kernel_rfl))
       have e13 := hv.out 13 (mem_of (by kernel_rfl))
       have hj' : vs 13 = tupAt (vs 11) 1 := hj
       show vs' 13 = tupAt (vs' 11) 1
       rw [← e11, ← e13]
       exact hj'
      ·
       have e14 := hv.out 14 (mem_of (by kernel_rfl))
       have g14 := ha.out 14 (mem_of (by kernel_rfl))
       have hj' : vs 14 = .pointer (some ⟨(iv 14).1, 0, none⟩) ∧ (iv 14).2 = (iv 14).1 + 1 := hj
       show vs' 14 = .pointer (some ⟨(iv' 14).1, 0, none⟩) ∧ (iv' 14).2 = (iv' 14).1 + 1
       rw [← e14, ← g14]
       exact hj'
      ·
       trivial
      ·
       have e13 := hv.out 13 (mem_of (by kernel_rfl))
       have e16 := hv.out 16 (mem_of (by kernel_rfl))
       have hj' : vs 16 = vs 13 := hj
       show vs' 16 = vs' 13
       rw [← e13, ← e16]
       exact hj'
     case hstep =>
      intro i hi opr ho iv vs w1 hB hS hSo hd he hbd hsep hun K hK
      simp only [List.mem_cons, List.not_mem_nil, or_false] at hi
      have hzB := hB.size
      obtain ⟨g0, g1, ltZ⟩ := (HZ.out.below hB).all2
      obtain ⟨gx0, gx1⟩ := int_in (HX.out.below hB) Hmx.out
      obtain ⟨gy0, gy1⟩ := int_in (HY.out.below hB) Hxx.out
      have hex := HD.out.below hB
      generalize hA : putFrom _ 0 vs _ = A at hK ⊢
      simp only [putFrom, puts] at hA
      rcases hi with rfl | rfl | rfl | rfl | rfl | rfl | rfl | rfl | rfl | rfl | rfl | rfl | rfl | rfl | rfl | rfl | rfl
      all_goals
       simp at ho
       subst ho
       subst hA
      ·
       go_wp2_with fail
       refine Onward.mk (hK ?val1_0 _ _ (fun h => by cases h) ?eqA (Spares.refl _) (fun iv' _ _ => ?ja))
       case eqA => first | rfl | (simp only [puts]; rfl)
       case ja => exact hx0.out.symm
      ·
       have h0 := (hd.out 0 (mem_of (by kernel_rfl)) (by decide) (by kernel_rfl)).trans hx0.out
       go_wp2_with fail
       refine Onward.mk (hK ?val1_1 _ _ (fun h => by cases h) ?eqA (Spares.refl _) (fun iv' _ _ => ?ja))
       case eqA => first | rfl | (simp only [puts, h0]; rfl)
       case ja => exact hx1.out.symm
      ·
       go_wp2_with fail
       refine Onward.mk (hK ?val1_2 _ _ (fun h => by cases h) ?eqA (Spares.refl _) (fun iv' _ _ => ?ja))
       case eqA => first | rfl | (simp only [puts]; rfl)
       case ja => exact hx2.out.symm
      ·
       have h1 := (hd.out 1 (mem_of (by kernel_rfl)) (by decide) (by kernel_rfl)).trans hx1.out
       have h2 := (hd.out 2 (mem_of (by kernel_rfl)) (by decide) (by kernel_rfl)).trans hx2.out
       go_wp2_with fail
       refine Onward.mk (hK ?val1_3 _ _ (fun h => by cases h) ?eqA (Spares.refl _) (fun iv' _ _ => ?ja))
       case eqA => first | rfl | (simp only [puts, h1, h2]; rfl)
       case ja => exact hx3.out.symm
      ·
       have h3 := (hd.out 3 (mem_of (by kernel_rfl)) (by decide) (by kernel_rfl)).trans hx3.out
       go_wp2_with fail
       refine Onward.mk (hK ?val1_4 _ _ (fun h => by cases h) ?eqA (Spares.refl _) (fun iv' _ _ => ?ja))
       case eqA => first | rfl | (simp only [puts, h3]; rfl)
       case ja => exact hx4.out.symm
      ·
       go_wp2_with fail
       refine Onward.mk (hK ?val1_5 _ _ (fun h => by cases h) ?eqA (Spares.refl _) (fun iv' _ _ => ?ja))
       case eqA => first | rfl | (simp only [puts]; rfl)
       case ja => exact hx5.out.symm
      ·
       have h5 := (hd.out 5 (mem_of (by kernel_rfl)) (by decide) (by kernel_rfl)).trans hx5.out
       go_wp2_with fail
       refine Onward.mk (hK ?val1_6 _ _ (fun h => by cases h) ?eqA (Spares.refl _) (fun iv' _ _ => ?ja))
       case eqA => first | rfl | (simp only [puts, h5]; rfl)
       case ja => exact hx6.out.symm
      ·
       go_wp2_with fail
       refine Onward.mk (hK ?val1_7 _ _ (fun h => by cases h) ?eqA (Spares.refl _) (fun iv' _ _ => ?ja))
       case eqA => first | rfl | (simp only [puts]; rfl)
       case ja => exact hx7.out.symm
      ·
       have h6 := (hd.out 6 (mem_of (by kernel_rfl)) (by decide) (by kernel_rfl)).trans hx6.out
       have h7 := (hd.out 7 (mem_of (by kernel_rfl)) (by decide) (by kernel_rfl)).trans hx7.out
       go_wp2_with fail
       refine Onward.mk (hK ?val1_8 _ _ (fun h => by cases h) ?eqA (Spares.refl _) (fun iv' _ _ => ?ja))
       case eqA => first | rfl | (simp only [puts, h6, h7]; rfl)
       case ja => exact hx8.out.symm
      ·
       have h8 := (hd.out 8 (mem_of (by kernel_rfl)) (by decide) (by kernel_rfl)).trans hx8.out
       go_wp2_with fail
       refine Onward.mk (hK ?val1_9 _ _ (fun h => by cases h) ?eqA (Spares.refl _) (fun iv' _ _ => ?ja))
       case eqA => first | rfl | (simp only [puts, h8]; rfl)
       case ja => exact hx9.out.symm
      ·
       have h4 := (hd.out 4 (mem_of (by kernel_rfl)) (by decide) (by kernel_rfl)).trans hx4.out
       have h9 := (hd.out 9 (mem_of (by kernel_rfl)) (by decide) (by kernel_rfl)).trans hx9.out
       go_wp2_with fail
       refine (step_none' (by omega) (by omega) (by omega) (by omega) hex hdt (by omega) Ho).mono ?_
       rintro e w2 ⟨y, s2, c2, rfl, hb⟩
       go_wp2_with fail
       exact Onward.mk (hK (.tuple #[.agg #[.int .i64 (Ex.kind y), .int .i64 (Ex.num y), .slice s2 (Ex.kids y).length c2], .bool false]) _ _ (fun h => by cases h) (by first | rfl | (simp only [puts, h4, h9])) (Spares.of_below hb) (fun iv' _ hi => ⟨y, s2, c2, rfl, by rw [hi]; exact Freshs.stretch (Freshs.nil)⟩))
      ·
       obtain ⟨y, s2, c2, h10, f10⟩ := hd.out 10 (mem_of (by kernel_rfl)) (by decide) (by kernel_rfl)
       go_wp2_with fail
       refine Onward.mk (hK ?val1_11 _ _ (fun h => by cases h) ?eqA (Spares.refl _) (fun iv' _ _ => ?ja))
       case eqA => first | rfl | (simp only [puts, h10]; rfl)
       case ja => show _ = vs 10; simp only [h10]; rfl
      ·
       have h11 : vs 11 = vs 10 := hd.out 11 (mem_of (by kernel_rfl)) (by decide) (by kernel_rfl)
       obtain ⟨y, s2, c2, h10, f10⟩ := hd.out 10 (mem_of (by kernel_rfl)) (by decide) (by kernel_rfl)
       go_wp2_with fail
       refine Onward.mk (hK ?val1_12 _ _ (fun h => by cases h) ?eqA (Spares.refl _) (fun iv' _ _ => ?ja))
       case eqA => first | rfl | (simp only [puts, h11, h10]; rfl)
       case ja => show _ = tupAt (vs 11) 0; simp only [h11, h10, tupAt]; rfl
      ·
       have h11 : vs 11 = vs 10 := hd.out 11 (mem_of (by kernel_rfl)) (by decide) (by kernel_rfl)
       obtain ⟨y, s2, c2, h10, f10⟩ := hd.out 10 (mem_of (by kernel_rfl)) (by decide) (by kernel_rfl)
       go_wp2_with fail
       refine Onward.mk (hK ?val1_13 _ _ (fun h => by cases h) ?eqA (Spares.refl _) (fun iv' _ _ => ?ja))
       case eqA => first | rfl | (simp only [puts, h11, h10]; rfl)
       case ja => show _ = tupAt (vs 11) 1; simp only [h11, h10, tupAt]; rfl
      ·
       go_wp2_with fail
       exact Onward.mk (hK (.pointer (some ⟨w1.heap.size, 0, none⟩)) _ _ (fun h => by cases h) (by first | rfl | (simp only [puts])) (Spares.of_below (Below.alloc (Below.refl _ _) (Nat.le_refl _) _)) (fun iv' _ hi => by
        show Value.pointer (some ⟨w1.heap.size, 0, none⟩) = .pointer (some ⟨(iv' 14).1, 0, none⟩) ∧ (iv' 14).2 = (iv' 14).1 + 1 ∧ Blk _ (iv' 14).1 34 [.int .i64 0, .int .i64 0, .slice none 0 0]
        rw [hi]
        exact ⟨rfl, by simp, Blk.new3 _ _ _ _ _⟩))
      ·
       have h12 : vs 12 = tupAt (vs 11) 0 := hd.out 12 (mem_of (by kernel_rfl)) (by decide) (by kernel_rfl)
       obtain ⟨h14, q14, f14⟩ := hd.out 14 (mem_of (by kernel_rfl)) (by decide) (by kernel_rfl)
       have h11 : vs 11 = vs 10 := hd.out 11 (mem_of (by kernel_rfl)) (by decide) (by kernel_rfl)
       obtain ⟨y, s2, c2, h10, f10⟩ := hd.out 10 (mem_of (by kernel_rfl)) (by decide) (by kernel_rfl)
       replace h12 : vs 12 = .agg #[.int .i64 (Ex.kind y), .int .i64 (Ex.num y), .slice s2 (Ex.kids y).length c2] := by rw [h12, h11, h10]; rfl
       have bc0 := f14.c0
       have bz0 := f14.frozen 0
       have bc1 := f14.c1
       have bz1 := f14.frozen 1
       have bc2 := f14.c2
       have bz2 := f14.frozen 2
       have blt := f14.lt
       go_wp2_with fail
       exact Onward.mk (hK undef _ _ (fun _ => rfl) (by simp only [puts, h12, h14, h11, h10]) ((spares_sets (b0 := (iv 14).1) (by repeat (first | exact Spares.refl _ | apply Spares.set))).more (fun b h => Or.inr ⟨14, by decide, foot_own (by omega) (by omega)⟩)) (fun iv' ag hi => by
        show (iv' 14).2 = (iv' 14).1 + 1 ∧ Blk _ ((iv' 14).1) 34 [aggAt (vs 12) 0, aggAt (vs 12) 1, aggAt (vs 12) 2]
        rw [← ag.out 14 (mem_of (by kernel_rfl)), h12]
        exact ⟨q14, (((f14.set 0 _).set 1 _).set 2 _)⟩))
      ·
       have h13 : vs 13 = tupAt (vs 11) 1 := hd.out 13 (mem_of (by kernel_rfl)) (by decide) (by kernel_rfl)
       have h11 : vs 11 = vs 10 := hd.out 11 (mem_of (by kernel_rfl)) (by decide) (by kernel_rfl)
       obtain ⟨y, s2, c2, h10, f10⟩ := hd.out 10 (mem_of (by kernel_rfl)) (by decide) (by kernel_rfl)
       go_wp2_with fail
       refine Onward.mk (hK ?val1_16 _ _ (fun h => by cases h) ?eqA (Spares.refl _) (fun iv' _ _ => ?ja))
       case eqA => first | rfl | (simp only [puts, h13, h11, h10]; rfl)
       case ja => show _ = vs 13; simp only [h13, h11, h10]; rfl
     case hQ =>
      intro iv vs wx hB hSp hd he hbd hsep
      have hzB := hB.size
      have h0 := (hd.out 0 (mem_of (by kernel_rfl)) (not_eaten (by kernel_rfl))).trans hx0.out
      have h1 := (hd.out 1 (mem_of (by kernel_rfl)) (not_eaten (by kernel_rfl))).trans hx1.out
      have h2 := (hd.out 2 (mem_of (by kernel_rfl)) (not_eaten (by kernel_rfl))).trans hx2.out
      have h3 := (hd.out 3 (mem_of (by kernel_rfl)) (not_eaten (by kernel_rfl))).trans hx3.out
      have h4 := (hd.out 4 (mem_of (by kernel_rfl)) (not_eaten (by kernel_rfl))).trans hx4.out
      have h5 := (hd.out 5 (mem_of (by kernel_rfl)) (not_eaten (by kernel_rfl))).trans hx5.out
      have h6 := (hd.out 6 (mem_of (by kernel_rfl)) (not_eaten (by kernel_rfl))).trans hx6.out
      have h7 := (hd.out 7 (mem_of (by kernel_rfl)) (not_eaten (by kernel_rfl))).trans hx7.out
      have h8 := (hd.out 8 (mem_of (by kernel_rfl)) (not_eaten (by kernel_rfl))).trans hx8.out
      have h9 := (hd.out 9 (mem_of (by kernel_rfl)) (not_eaten (by kernel_rfl))).trans hx9.out
      obtain ⟨y, s2, c2, h10, f10⟩ := hd.out 10 (mem_of (by kernel_rfl)) (not_eaten (by kernel_rfl))
      have h11 : vs 11 = vs 10 := hd.out 11 (mem_of (by kernel_rfl)) (not_eaten (by kernel_rfl))
      have h12 : vs 12 = tupAt (vs 11) 0 := hd.out 12 (mem_of (by kernel_rfl)) (not_eaten (by kernel_rfl))
      have h13 : vs 13 = tupAt (vs 11) 1 := hd.out 13 (mem_of (by kernel_rfl)) (not_eaten (by kernel_rfl))
      obtain ⟨h14, q14⟩ := he.out 14 (mem_of (by kernel_rfl))
      obtain ⟨q15, f15⟩ := hd.out 15 (mem_of (by kernel_rfl)) (not_eaten (by kernel_rfl))
      have h16 : vs 16 = vs 13 := hd.out 16 (mem_of (by kernel_rfl)) (not_eaten (by kernel_rfl))
      simp only [putFrom, puts]
      have k16 : vs 16 = .bool false := by rw [h16, h13, h11, h10]; rfl
      have b14 := (hbd.out 14 (mem_of (by kernel_rfl))).1
      obtain ⟨nb, hnb⟩ : ∃ nb, (iv 14).1 = nb := ⟨_, rfl⟩
      rw [hnb] at h14 f15 b14
      simp only [Nat.zero_add, Nat.reduceAdd, h14, k16]
      clear hd he hbd hsep hSp h0 h1 h2 h3 h4 h5 h6 h7 h8 h9 h10 h11 h12 h13 h14 k16 h16 f10
      have R := HR.out.below hB
      have hB1 := Below.on HB.out hB hzo
      obtain ⟨q1, q2⟩ := dw_nofin Hok2.out hlt (Hnx.out.trans Ho.out)
      have E1 := Lib.hid q1
      have E2 := Lib.hid q2
      have hBx := Lib.hid hB
      clear q1 q2 hB
      have hB := hB1
      obtain ⟨r0, r1, r2, z0, z1, z2, ltR⟩ := R.all3
      go_wp2_with fail
      obtain ⟨wf, ef, T2, hs5⟩ := set3 R (.int .i64 0) (.int .i64 0) (.slice none 0 0)
      rw [ef]
      clear ef r0 r1 r2 z0 z1 z2 ltR
      obtain ⟨t0, t1, t2, -, -, -, -⟩ := T2.all3
      have hzB5 := hB.size
      have hB5 := hB.trans (hs5.below (B := w.heap.size) (by omega) (fun y hy => by omega))
      refine bodyPost_ret (v := .tuple #[.agg #[.int .i64 0, .int .i64 0, .slice none 0 0], .int .i64 3]) (by simp [results, Tryz.results16, go_sem, t0, t1, t2]) rfl ?_
      rw [E1.out, E2.out]
      exact ⟨none, 0, rfl, fresh_nil1 _ _, hB5⟩
    | some d2 =>
     have Ho := Lib.hid ho
     clear ho
     go_wp2_with fail
     clear g0 g1 ltZ
     obtain ⟨x0, hx0⟩ := mkval ?a2_0
     obtain ⟨x1, hx1⟩ := mkval ?a2_1
     obtain ⟨x2, hx2⟩ := mkval ?a2_2
     obtain ⟨x3, hx3⟩ := mkval ?a2_3
     obtain ⟨x4, hx4⟩ := mkval ?a2_4
     obtain ⟨x5, hx5⟩ := mkval ?a2_5
     obtain ⟨x6, hx6⟩ := mkval ?a2_6
     obtain ⟨x7, hx7⟩ := mkval ?a2_7
     obtain ⟨x8, hx8⟩ := mkval ?a2_8
     obtain ⟨x9, hx9⟩ := mkval ?a2_9
     refine region_rs [(15, 14)] [] (fun _ _ => False) (wo.heap.size) (fun i iv vs wx => match i with
      | 0 => vs 0 = x0
      | 1 => vs 1 = x1
      | 2 => vs 2 = x2
      | 3 => vs 3 = x3
      | 4 => vs 4 = x4
      | 5 => vs 5 = x5
      | 6 => vs 6 = x6
      | 7 => vs 7 = x7
      | 8 => vs 8 = x8
      | 9 => vs 9 = x9
      | 10 => ∃ s2 c2, vs 10 = .tuple #[.agg #[.int .i64 (Ex.kind d2), .int .i64 (Ex.num d2), .slice s2 (Ex.kids d2).length c2], .bool true] ∧ FreshIn (iv 10) wx [kidsD d2.kids] [.slice s2 d2.kids.length c2]
      | 11 => vs 11 = vs 10
      | 12 => vs 12 = tupAt (vs 11) 0
      | 13 => vs 13 = tupAt (vs 11) 1
      | 14 => vs 14 = .pointer (some ⟨(iv 14).1, 0, none⟩) ∧ (iv 14).2 = (iv 14).1 + 1 ∧ Blk wx (iv 14).1 34 [.int .i64 0, .int .i64 0, .slice none 0 0]
      | 15 => (iv 14).2 = (iv 14).1 + 1 ∧ Blk wx ((iv 14).1) 34 [aggAt (vs 12) 0, aggAt (vs 12) 1, aggAt (vs 12) 2]
      | 16 => vs 16 = vs 13
      | _ => True) (fun i iv vs => match i with
      | 0 => vs 0 = x0
      | 1 => vs 1 = x1
      | 2 => vs 2 = x2
      | 3 => vs 3 = x3
      | 4 => vs 4 = x4
      | 5 => vs 5 = x5
      | 6 => vs 6 = x6
      | 7 => vs 7 = x7
      | 8 => vs 8 = x8
      | 9 => vs 9 = x9
      | 10 => ∃ s2 c2, vs 10 = .tuple #[.agg #[.int .i64 (Ex.kind d2), .int .i64 (Ex.num d2), .slice s2 (Ex.kids d2).length c2], .bool true]
      | 11 => vs 11 = vs 10
      | 12 => vs 12 = tupAt (vs 11) 0
      | 13 => vs 13 = tupAt (vs 11) 1
      | 14 => vs 14 = .pointer (some ⟨(iv 14).1, 0, none⟩) ∧ (iv 14).2 = (iv 14).1 + 1
      | 15 => True
      | 16 => vs 16 = vs 13
      | _ => True) (by kernel_rfl) (by kernel_rfl) [0, 1, 2, 3, 4, 5, 6, 7, 8, 9, 10, 11, 12, 13, 14, 15, 16] (by kernel_rfl) ?hbase ?hGb ?hG ?hJ ?hE ?hEE ?hstep ?hQ
     case hbase => first | exact Nat.le_refl _ | omega | (simp; omega)
     case hGb =>
      exact fun _ _ h => h.elim
     case hG =>
      exact fun _ _ _ h => h.elim
     case hJ =>
      intro i hi iv iv' vs vs' wx wx' ha hv hz hk hj
      simp only [List.mem_cons, List.not_mem_nil, or_false] at hi
      rcases hi with rfl | rfl | rfl | rfl | rfl | rfl | rfl | rfl | rfl | rfl | rfl | rfl | rfl | rfl | rfl | rfl | rfl
      ·
       exact (hv.out 0 (mem_of (by kernel_rfl))).symm.trans hj
      ·
       exact (hv.out 1 (mem_of (by kernel_rfl))).symm.trans hj
      ·
       exact (hv.out 2 (mem_of (by kernel_rfl))).symm.trans hj
      ·
       exact (hv.out 3 (mem_of (by kernel_rfl))).symm.trans hj
      ·
       exact (hv.out 4 (mem_of (by kernel_rfl))).symm.trans hj
      ·
       exact (hv.out 5 (mem_of (by kernel_rfl))).symm.trans hj
      ·
       exact (hv.out 6 (mem_of (by kernel_rfl))).symm.trans hj
      ·
       exact (hv.out 7 (mem_of (by kernel_rfl))).symm.trans hj
      ·
       exact (hv.out 8 (mem_of (by kernel_rfl))).symm.trans hj
      ·
       exact (hv.out 9 (mem_of (by kernel_rfl))).symm.trans hj
      ·
       have e10 := hv.out 10 (mem_of (by kernel_rfl))
       have g10 := ha.out 10 (mem_of (by kernel_rfl))
       obtain ⟨s2, c2, q1, q2⟩ := hj
       exact ⟨s2, c2, e10 ▸ q1, g10 ▸ q2.keep (fun b hb h1 h2 => hk.out b hb (foot_own h1 h2))⟩
      ·
       have e10 := hv.out 10 (mem_of (by kernel_rfl))
       have e11 := hv.out 11 (mem_of (by kernel_rfl))
       have hj' : vs 11 = vs 10 := hj
       show vs' 11 = vs' 10
       rw [← e10, ← e11]
       exact hj'
      ·
       have e11 := hv.out 11 (mem_of (by kernel_rfl))
       have e12 := hv.out 12 (mem_of (by kernel_rfl))
       have hj' : vs 12 = tupAt (vs 11) 0 := hj
       show vs' 12 = tupAt (vs' 11) 0
       rw [← e11, ← e12]
       exact hj'
      ·
       have e11 := hv.out 11 (mem_of (by kernel_rfl))
       have e13 := hv.out 13 (mem_of (by kernel_rfl))
       have hj' : vs 13 = tupAt (vs 11) 1 := hj
       show vs' 13 = tupAt (vs' 11) 1
       rw [← e11, ← e13]
       exact hj'
      ·
       have e14 := hv.out 14 (mem_of (by kernel_rfl))
       have g14 := ha.out 14 (mem_of (by kernel_rfl))
       obtain ⟨q1, q3, q2⟩ := hj
       show vs' 14 = .pointer (some ⟨(iv' 14).1, 0, none⟩) ∧ (iv' 14).2 = (iv' 14).1 + 1 ∧ Blk wx' (iv' 14).1 34 [.int .i64 0, .int .i64 0, .slice none 0 0]
       rw [← e14, ← g14]
       exact ⟨q1, q3, q2.keep (hk.out _ q2.lt (foot_own (Nat.le_refl _) (by omega)))⟩
      ·
       have e12 := hv.out 12 (mem_of (by kernel_rfl))
       have g14 := ha.out 14 (mem_of (by kernel_rfl))
       have hj' : (iv 14).2 = (iv 14).1 + 1 ∧ Blk wx ((iv 14).1) 34 [aggAt (vs 12) 0, aggAt (vs 12) 1, aggAt (vs 12) 2] := hj
       show (iv' 14).2 = (iv' 14).1 + 1 ∧ Blk wx' ((iv' 14).1) 34 [aggAt (vs' 12) 0, aggAt (vs' 12) 1, aggAt (vs' 12) 2]
       rw [← e12, ← g14]
       exact ⟨hj'.1, hj'.2.keep (hk.out _ hj'.2.lt ⟨14, mem_of (by kernel_rfl), Or.inl ⟨Nat.le_refl _, by omega⟩⟩)⟩
      ·
       have e13 := hv.out 13 (mem_of (by kernel_rfl))
       have e16 := hv.out 16 (mem_of (by kernel_rfl))
       have hj' : vs 16 = vs 13 := hj
       show vs' 16 = vs' 13
       rw [← e13, ← e16]
       exact hj'
     case hE =>
      intro i hi iv vs wx hj
      simp only [List.mem_cons, List.not_mem_nil, or_false] at hi
      rcases hi with rfl | rfl | rfl | rfl | rfl | rfl | rfl | rfl | rfl | rfl | rfl | rfl | rfl | rfl | rfl | rfl | rfl
      ·
       exact hj
      ·
       exact hj
      ·
       exact hj
      ·
       exact hj
      ·
       exact hj
      ·
       exact hj
      ·
       exact hj
      ·
       exact hj
      ·
       exact hj
      ·
       exact hj
      ·
       obtain ⟨s2, c2, q1, -⟩ := hj
       exact ⟨s2, c2, q1⟩
      ·
       exact hj
      ·
       exact hj
      ·
       exact hj
      ·
       exact ⟨hj.1, hj.2.1⟩
      ·
       trivial
      ·
       exact hj
     case hEE =>
      intro i hi iv iv' vs vs' ha hv hj
      simp only [List.mem_cons, List.not_mem_nil, or_false] at hi
      rcases hi with rfl | rfl | rfl | rfl | rfl | rfl | rfl | rfl | rfl | rfl | rfl | rfl | rfl | rfl | rfl | rfl | rfl
      ·
       exact (hv.out 0 (mem_of (by kernel_rfl))).symm.trans hj
      ·
       exact (hv.out 1 (mem_of (by kernel_rfl))).symm.trans hj
      ·
       exact (hv.out 2 (mem_of (by kernel_rfl))).symm.trans hj
      ·
       exact (hv.out 3 (mem_of (by kernel_rfl))).symm.trans hj
      ·
       exact (hv.out 4 (mem_of (by kernel_rfl))).symm.trans hj
      ·
       exact (hv.out 5 (mem_of (by kernel_rfl))).symm.trans hj
      ·
       exact (hv.out 6 (mem_of (by kernel_rfl))).symm.trans hj
      ·
       exact (hv.out 7 (mem_of (by kernel_rfl))).symm.trans hj
      ·
       exact (hv.out 8 (mem_of (by kernel_rfl))).symm.trans hj
      ·
       exact (hv.out 9 (mem_of (by kernel_rfl))).symm.trans hj
      ·
       have e10 := hv.out 10 (mem_of (by kernel_rfl))
       have hj' : ∃ s2 c2, vs 10 = .tuple #[.agg #[.int .i64 (Ex.kind d2), .int .i64 (Ex.num d2), .slice s2 (Ex.kids d2).length c2], .bool true] := hj
       show ∃ s2 c2, vs' 10 = .tuple #[.agg #[.int .i64 (Ex.kind d2), .int .i64 (Ex.num d2), .slice s2 (Ex.kids d2).length c2], .bool true]
       rw [← e10]
       exact hj'
      ·
       have e10 := hv.out 10 (mem_of (by kernel_rfl))
       have e11 := hv.out 11 (mem_of (by kernel_rfl))
       have hj' : vs 11 = vs 10 := hj
       show vs' 11 = vs' 10
       rw [← e10, ← e11]
       exact hj'
      ·
       have e11 := hv.out 11 (mem_of (by kernel_rfl))
       have e12 := hv.out 12 (mem_of (by kernel_rfl))
       have hj' : vs 12 = tupAt (vs 11) 0 := hj
       show vs' 12 = tupAt (vs' 11) 0
       rw [← e11, ← e12]
       exact hj'
      ·
       have e11 := hv.out 11 (mem_of (by kernel_rfl))
       have e13 := hv.out 13 (mem_of (by kernel_rfl))
       have hj' : vs 13 = tupAt (vs 11) 1 := hj
       show vs' 13 = tupAt (vs' 11) 1
       rw [← e11, ← e13]
       exact hj'
      ·
       have e14 := hv.out 14 (mem_of (by kernel_rfl))
       have g14 := ha.out 14 (mem_of (by kernel_rfl))
       have hj' : vs 14 = .pointer (some ⟨(iv 14).1, 0, none⟩) ∧ (iv 14).2 = (iv 14).1 + 1 := hj
       show vs' 14 = .pointer (some ⟨(iv' 14).1, 0, none⟩) ∧ (iv' 14).2 = (iv' 14).1 + 1
       rw [← e14, ← g14]
       exact hj'
      ·
       trivial
      ·
       have e13 := hv.out 13 (mem_of (by kernel_rfl))
       have e16 := hv.out 16 (mem_of (by kernel_rfl))
       have hj' : vs 16 = vs 13 := hj
       show vs' 16 = vs' 13
       rw [← e13, ← e16]
       exact hj'
     case hstep =>
      intro i hi opr ho iv vs w1 hB hS hSo hd he hbd hsep hun K hK
      simp only [List.mem_cons, List.not_mem_nil, or_false] at hi
      have hzB := hB.size
      obtain ⟨g0, g1, ltZ⟩ := (HZ.out.below hB).all2
      obtain ⟨gx0, gx1⟩ := int_in (HX.out.below hB) Hmx.out
      obtain ⟨gy0, gy1⟩ := int_in (HY.out.below hB) Hxx.out
      have hex := HD.out.below hB
      generalize hA : putFrom _ 0 vs _ = A at hK ⊢
      simp only [putFrom, puts] at hA
      rcases hi with rfl | rfl | rfl | rfl | rfl | rfl | rfl | rfl | rfl | rfl | rfl | rfl | rfl | rfl | rfl | rfl | rfl
      all_goals
       simp at ho
       subst ho
       subst hA
      ·
       go_wp2_with fail
       refine Onward.mk (hK ?val2_0 _ _ (fun h => by cases h) ?eqA (Spares.refl _) (fun iv' _ _ => ?ja))
       case eqA => first | rfl | (simp only [puts]; rfl)
       case ja => exact hx0.out.symm
      ·
       have h0 := (hd.out 0 (mem_of (by kernel_rfl)) (by decide) (by kernel_rfl)).trans hx0.out
       go_wp2_with fail
       refine Onward.mk (hK ?val2_1 _ _ (fun h => by cases h) ?eqA (Spares.refl _) (fun iv' _ _ => ?ja))
       case eqA => first | rfl | (simp only [puts, h0]; rfl)
       case ja => exact hx1.out.symm
      ·
       go_wp2_with fail
       refine Onward.mk (hK ?val2_2 _ _ (fun h => by cases h) ?eqA (Spares.refl _) (fun iv' _ _ => ?ja))
       case eqA => first | rfl | (simp only [puts]; rfl)
       case ja => exact hx2.out.symm
      ·
       have h1 := (hd.out 1 (mem_of (by kernel_rfl)) (by decide) (by kernel_rfl)).trans hx1.out
       have h2 := (hd.out 2 (mem_of (by kernel_rfl)) (by decide) (by kernel_rfl)).trans hx2.out
       go_wp2_with fail
       refine Onward.mk (hK ?val2_3 _ _ (fun h => by cases h) ?eqA (Spares.refl _) (fun iv' _ _ => ?ja))
       case eqA => first | rfl | (simp only [puts, h1, h2]; rfl)
       case ja => exact hx3.out.symm
      ·
       have h3 := (hd.out 3 (mem_of (by kernel_rfl)) (by decide) (by kernel_rfl)).trans hx3.out
       go_wp2_with fail
       refine Onward.mk (hK ?val2_4 _ _ (fun h => by cases h) ?eqA (Spares.refl _) (fun iv' _ _ => ?ja))
       case eqA => first | rfl | (simp only [puts, h3]; rfl)
       case ja => exact hx4.out.symm
      ·
       go_wp2_with fail
       refine Onward.mk (hK ?val2_5 _ _ (fun h => by cases h) ?eqA (Spares.refl _) (fun iv' _ _ => ?ja))
       case eqA => first | rfl | (simp only [puts]; rfl)
       case ja => exact hx5.out.symm
      ·
       have h5 := (hd.out 5 (mem_of (by kernel_rfl)) (by decide) (by kernel_rfl)).trans hx5.out
       go_wp2_with fail
       refine Onward.mk (hK ?val2_6 _ _ (fun h => by cases h) ?eqA (Spares.refl _) (fun iv' _ _ => ?ja))
       case eqA => first | rfl | (simp only [puts, h5]; rfl)
       case ja => exact hx6.out.symm
      ·
       go_wp2_with fail
       refine Onward.mk (hK ?val2_7 _ _ (fun h => by cases h) ?eqA (Spares.refl _) (fun iv' _ _ => ?ja))
       case eqA => first | rfl | (simp only [puts]; rfl)
       case ja => exact hx7.out.symm
      ·
       have h6 := (hd.out 6 (mem_of (by kernel_rfl)) (by decide) (by kernel_rfl)).trans hx6.out
       have h7 := (hd.out 7 (mem_of (by kernel_rfl)) (by decide) (by kernel_rfl)).trans hx7.out
       go_wp2_with fail
       refine Onward.mk (hK ?val2_8 _ _ (fun h => by cases h) ?eqA (Spares.refl _) (fun iv' _ _ => ?ja))
       case eqA => first | rfl | (simp only [puts, h6, h7]; rfl)
       case ja => exact hx8.out.symm
      ·
       have h8 := (hd.out 8 (mem_of (by kernel_rfl)) (by decide) (by kernel_rfl)).trans hx8.out
       go_wp2_with fail
       refine Onward.mk (hK ?val2_9 _ _ (fun h => by cases h) ?eqA (Spares.refl _) (fun iv' _ _ => ?ja))
       case eqA => first | rfl | (simp only [puts, h8]; rfl)
       case ja => exact hx9.out.symm
      ·
       have h4 := (hd.out 4 (mem_of (by kernel_rfl)) (by decide) (by kernel_rfl)).trans hx4.out
       have h9 := (hd.out 9 (mem_of (by kernel_rfl)) (by decide) (by kernel_rfl)).trans hx9.out
       go_wp2_with fail
       refine (step_some' (by omega) (by omega) (by omega) (by omega) hex hdt (by omega) Ho).mono ?_
       rintro e w2 ⟨s2, c2, rfl, hf, hb⟩
       go_wp2_with fail
       exact Onward.mk (hK (.tuple #[.agg #[.int .i64 (Ex.kind d2), .int .i64 (Ex.num d2), .slice s2 (Ex.kids d2).length c2], .bool true]) _ _ (fun h => by cases h) (by first | rfl | (simp only [puts, h4, h9])) (Spares.of_below hb) (fun iv' _ hi => ⟨s2, c2, rfl, by rw [hi]; exact Freshs.stretch (hf)⟩))
      ·
       obtain ⟨s2, c2, h10, f10⟩ := hd.out 10 (mem_of (by kernel_rfl)) (by decide) (by kernel_rfl)
       go_wp2_with fail
       refine Onward.mk (hK ?val2_11 _ _ (fun h => by cases h) ?eqA (Spares.refl _) (fun iv' _ _ => ?ja))
       case eqA => first | rfl | (simp only [puts, h10]; rfl)
       case ja => show _ = vs 10; simp only [h10]; rfl
      ·
       have h11 : vs 11 = vs 10 := hd.out 11 (mem_of (by kernel_rfl)) (by decide) (by kernel_rfl)
       obtain ⟨s2, c2, h10, f10⟩ := hd.out 10 (mem_of (by kernel_rfl)) (by decide) (by kernel_rfl)
       go_wp2_with fail
       refine Onward.mk (hK ?val2_12 _ _ (fun h => by cases h) ?eqA (Spares.refl _) (fun iv' _ _ => ?ja))
       case eqA => first | rfl | (simp only [puts, h11, h10]; rfl)
       case ja => show _ = tupAt (vs 11) 0; simp only [h11, h10, tupAt]; rfl
      ·
       have h11 : vs 11 = vs 10 := hd.out 11 (mem_of (by kernel_rfl)) (by decide) (by kernel_rfl)
       obtain ⟨s2, c2, h10, f10⟩ := hd.out 10 (mem_of (by kernel_rfl)) (by decide) (by kernel_rfl)
       go_wp2_with fail
       refine Onward.mk (hK ?val2_13 _ _ (fun h => by cases h) ?eqA (Spares.refl _) (fun iv' _ _ => ?ja))
       case eqA => first | rfl | (simp only [puts, h11, h10]; rfl)
       case ja => show _ = tupAt (vs 11) 1; simp only [h11, h10, tupAt]; rfl
      ·
       go_wp2_with fail
       exact Onward.mk (hK (.pointer (some ⟨w1.heap.size, 0, none⟩)) _ _ (fun h => by cases h) (by first | rfl | (simp only [puts])) (Spares.of_below (Below.alloc (Below.refl _ _) (Nat.le_refl _) _)) (fun iv' _ hi => by
        show Value.pointer (some ⟨w1.heap.size, 0, none⟩) = .pointer (some ⟨(iv' 14).1, 0, none⟩) ∧ (iv' 14).2 = (iv' 14).1 + 1 ∧ Blk _ (iv' 14).1 34 [.int .i64 0, .int .i64 0, .slice none 0 0]
        rw [hi]
        exact ⟨rfl, by simp, Blk.new3 _ _ _ _ _⟩))
      ·
       have h12 : vs 12 = tupAt (vs 11) 0 := hd.out 12 (mem_of (by kernel_rfl)) (by decide) (by kernel_rfl)
       obtain ⟨h14, q14, f14⟩ := hd.out 14 (mem_of (by kernel_rfl)) (by decide) (by kernel_rfl)
       have h11 : vs 11 = vs 10 := hd.out 11 (mem_of (by kernel_rfl)) (by decide) (by kernel_rfl)
       obtain ⟨s2, c2, h10, f10⟩ := hd.out 10 (mem_of (by kernel_rfl)) (by decide) (by kernel_rfl)
       replace h12 : vs 12 = .agg #[.int .i64 (Ex.kind d2), .int .i64 (Ex.num d2), .slice s2 (Ex.kids d2).length c2] := by rw [h12, h11, h10]; rfl
       have bc0 := f14.c0
       have bz0 := f14.frozen 0
       have bc1 := f14.c1
       have bz1 := f14.frozen 1
       have bc2 := f14.c2
       have bz2 := f14.frozen 2
       have blt := f14.lt
       go_wp2_with fail
       exact Onward.mk (hK undef _ _ (fun _ => rfl) (by simp only [puts, h12, h14, h11, h10]) ((spares_sets (b0 := (iv 14).1) (by repeat (first | exact Spares.refl _ | apply Spares.set))).more (fun b h => Or.inr ⟨14, by decide, foot_own (by omega) (by omega)⟩)) (fun iv' ag hi => by
        show (iv' 14).2 = (iv' 14).1 + 1 ∧ Blk _ ((iv' 14).1) 34 [aggAt (vs 12) 0, aggAt (vs 12) 1, aggAt (vs 12) 2]
        rw [← ag.out 14 (mem_of (by kernel_rfl)), h12]
        exact ⟨q14, (((f14.set 0 _).set 1 _).set 2 _)⟩))
      ·
       have h13 : vs 13 = tupAt (vs 11) 1 := hd.out 13 (mem_of (by kernel_rfl)) (by decide) (by kernel_rfl)
       have h11 : vs 11 = vs 10 := hd.out 11 (mem_of (by kernel_rfl)) (by decide) (by kernel_rfl)
       obtain ⟨s2, c2, h10, f10⟩ := hd.out 10 (mem_of (by kernel_rfl)) (by decide) (by kernel_rfl)
       go_wp2_with fail
       refine Onward.mk (hK ?val2_16 _ _ (fun h => by cases h) ?eqA (Spares.refl _) (fun iv' _ _ => ?ja))
       case eqA => first | rfl | (simp only [puts, h13, h11, h10]; rfl)
       case ja => show _ = vs 13; simp only [h13, h11, h10]; rfl
     case hQ =>
      intro iv vs wx hB hSp hd he hbd hsep
      have hzB := hB.size
      have h0 := (hd.out 0 (mem_of (by kernel_rfl)) (not_eaten (by kernel_rfl))).trans hx0.out
      have h1 := (hd.out 1 (mem_of (by kernel_rfl)) (not_eaten (by kernel_rfl))).trans hx1.out
      have h2 := (hd.out 2 (mem_of (by kernel_rfl)) (not_eaten (by kernel_rfl))).trans hx2.out
      have h3 := (hd.out 3 (mem_of (by kernel_rfl)) (not_eaten (by kernel_rfl))).trans hx3.out
      have h4 := (hd.out 4 (mem_of (by kernel_rfl)) (not_eaten (by kernel_rfl))).trans hx4.out
      have h5 := (hd.out 5 (mem_of (by kernel_rfl)) (not_eaten (by kernel_rfl))).trans hx5.out
      have h6 := (hd.out 6 (mem_of (by kernel_rfl)) (not_eaten (by kernel_rfl))).trans hx6.out
      have h7 := (hd.out 7 (mem_of (by kernel_rfl)) (not_eaten (by kernel_rfl))).trans hx7.out
      have h8 := (hd.out 8 (mem_of (by kernel_rfl)) (not_eaten (by kernel_rfl))).trans hx8.out
      have h9 := (hd.out 9 (mem_of (by kernel_rfl)) (not_eaten (by kernel_rfl))).trans hx9.out
      obtain ⟨s2, c2, h10, f10⟩ := hd.out 10 (mem_of (by kernel_rfl)) (not_eaten (by kernel_rfl))
      have h11 : vs 11 = vs 10 := hd.out 11 (mem_of (by kernel_rfl)) (not_eaten (by kernel_rfl))
      have h12 : vs 12 = tupAt (vs 11) 0 := hd.out 12 (mem_of (by kernel_rfl)) (not_eaten (by kernel_rfl))
      have h13 : vs 13 = tupAt (vs 11) 1 := hd.out 13 (mem_of (by kernel_rfl)) (not_eaten (by kernel_rfl))
      obtain ⟨h14, q14⟩ := he.out 14 (mem_of (by kernel_rfl))
      obtain ⟨q15, f15⟩ := hd.out 15 (mem_of (by kernel_rfl)) (not_eaten (by kernel_rfl))
      have h16 : vs 16 = vs 13 := hd.out 16 (mem_of (by kernel_rfl)) (not_eaten (by kernel_rfl))
      simp only [putFrom, puts]
      have k16 : vs 16 = .bool true := by rw [h16, h13, h11, h10]; rfl
      have k12 : vs 12 = .agg #[.int .i64 (Ex.kind d2), .int .i64 (Ex.num d2), .slice s2 (Ex.kids d2).length c2] := by rw [h12, h11, h10]; rfl
      have b14 := (hbd.out 14 (mem_of (by kernel_rfl))).1
      have b10 := (hbd.out 10 (mem_of (by kernel_rfl))).1
      obtain ⟨nb, hnb⟩ : ∃ nb, (iv 14).1 = nb := ⟨_, rfl⟩
      rw [hnb] at h14 f15 b14
      rw [k12] at f15
      simp only [aggAt] at f15
      simp only [Nat.zero_add, Nat.reduceAdd, h14, k16]
      clear hd he hbd hsep hSp h0 h1 h2 h3 h4 h5 h6 h7 h8 h9 h10 h11 h12 h13 h14 k16 h16 k12
      have R := HR.out.below hB
      have Z := HZ.out.below hB
      have N := HN.out.below hB
      have hB1 := Below.on HB.out hB hzo
      have hfy : Freshs wo wx [kidsD d2.kids] [.slice s2 d2.kids.length c2] := by
       obtain ⟨F, q1, q2, q3⟩ := f10
       exact ⟨F, q1, q2, fun b hb => by have := q3 b hb; omega⟩
      have hfl : ∀ F, Ows wx [kidsD d2.kids] [.slice s2 d2.kids.length c2] F → True := fun _ _ => trivial
      obtain ⟨n0, n1, n2, y0, y1, y2, ltN⟩ := N.all3
      obtain ⟨p0, p1, p2, -, -, -, ltP⟩ := f15.all3
      have ltZ := Z.lt
      have ltR := R.lt
      clear f10 hB hfl
      go_wp2_with fail
      obtain ⟨wz, ez, hNz, hsz⟩ := set3 N (.int .i64 d2.kind) (.int .i64 d2.num) (.slice s2 d2.kids.length c2)
      rw [ez]
      clear ez n0 n1 n2 y0 y1 y2 p0 p1 p2
      have hfz := hfy.keep fun y hy hy2 => hsz.block y hy2 (by omega)
      have hZz := Z.keep (hsz.block _ (by omega) (by omega))
      have hRz := R.keep (hsz.block _ (by omega) (by omega))
      have hBz := hB1.trans (hsz.below (by omega) (fun b hb => by omega))
      have Hfin := Lib.hid (And.intro hNz (And.intro (hfz.from (w0 := w2) (by omega)) (And.intro hZz (And.intro hRz hBz))))
      clear hNz hfz hZz hRz hBz
      go_wp2_with fail
      go_roundw
      case rel => exact ⟨k + 1, d2, s2, c2, by go_num, by omega, Lib.hid (Hnx.out.trans Ho.out), Hfin.out⟩
      case measure => simp [intOf]; omega
end Go.Proofs.YtfopdcdbelaapaaGreatDoor
