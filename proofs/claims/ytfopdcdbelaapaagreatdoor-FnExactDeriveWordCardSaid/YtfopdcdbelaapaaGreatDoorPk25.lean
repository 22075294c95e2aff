/-
  Parts of a proof, joined: DwT. No condition.
-/
import Derived.Test.YtfopdcdbelaapaaGreatDoorPk24
namespace Go.Proofs.YtfopdcdbelaapaaGreatDoor
set_option linter.unusedVariables false
set_option linter.unusedSimpArgs false
open Go.ChangeShapes Go.WideShapes Go.ChangeAt Go.RowKit Go.Deep Go.Sort
theorem dwO_ne {e : Ex} {xs ys : List Int} (hy : ¬ ys.length = 0) {k : Nat} {o : Option Ex} (h : dwO e xs ys k = o) : dwO (dwS ys e) xs ys k = o := by
 unfold dwS
 rw [if_neg hy]
 exact h
set_option maxRecDepth 100000 in
set_option maxHeartbeats 8000000 in
theorem implDeriveWord_i {t a k n : Int} {ks : List Ex} {s : Option Addr} {c : Nat} {xs ys : List Int} {sx sy : Option Addr} {cx cy : Nat} {w : World} (hr : Rd w (kidsD ks) (.slice s ks.length c)) (h1 : Ex.sizeL ks ≤ 1048576) (hx : Rd w (intsD xs) (.slice sx xs.length cx)) (hy : Rd w (intsD ys) (.slice sy ys.length cy)) :
  Calls Tryz.prog 20 #[.agg #[.int .i64 t, .int .i64 a], .agg #[.int .i64 k, .int .i64 n, .slice s ks.length c], .agg #[.slice sx xs.length cx, .slice sy ys.length cy]] w fun e w' => ∃ s' c', e = .returned (.tuple #[.agg #[.int .i64 (dwE t a xs ys (.mk k n ks)).kind, .int .i64 (dwE t a xs ys (.mk k n ks)).num, .slice s' (dwE t a xs ys (.mk k n ks)).kids.length c'], .int .i64 (dwC t a xs ys (.mk k n ks))]) ∧
   Freshs w w' [kidsD (dwE t a xs ys (.mk k n ks)).kids] [.slice s' (dwE t a xs ys (.mk k n ks)).kids.length c'] ∧ Below w.heap.size w w' := by
 have Hsz : Hid (Ex.size (.mk k n ks) ≤ 1073741824) := by show _ ≤ _; rw [Ex.size_eq]; simp only [Ex.kids]; omega
 have Hx := Lib.hid hx
 have Hy := Lib.hid hy
 obtain ⟨-, hl2, hl3, -⟩ := hx.sl_at
 obtain ⟨-, hl4, hl5, -⟩ := hy.sl_at
 unfold maxLen at hl3 hl5
 obtain ⟨k0, rfl⟩ : ∃ z, z = k := ⟨_, rfl⟩
 go_enter Tryz.func20, Tryz.ntmps20
 go_wp2_with fail
 have L := (((Blk.new2 w 37 (.int .i64 t) (.int .i64 a)).alloc (.cells #[.int .i64 k0, .int .i64 n, .slice s ks.length c] 34)).alloc (.cells #[.slice sx xs.length cx, .slice sy ys.length cy] 40)).alloc (.cells #[.int .i64 0, .int .i64 0, .slice none 0 0] 34)
 have M := ((Blk.new3 (w.alloc (.cells #[.int .i64 t, .int .i64 a] 37)) 34 (.int .i64 k0) (.int .i64 n) (.slice s ks.length c)).alloc (.cells #[.slice sx xs.length cx, .slice sy ys.length cy] 40)).alloc (.cells #[.int .i64 0, .int .i64 0, .slice none 0 0] 34)
 simp at M
 have Z := (Blk.new2 ((w.alloc (.cells #[.int .i64 t, .int .i64 a] 37)).alloc (.cells #[.int .i64 k0, .int .i64 n, .slice s ks.length c] 34)) 40 (.slice sx xs.length cx) (.slice sy ys.length cy)).alloc (.cells #[.int .i64 0, .int .i64 0, .slice none 0 0] 34)
 simp at Z
 have R := Blk.new3 (((w.alloc (.cells #[.int .i64 t, .int .i64 a] 37)).alloc (.cells #[.int .i64 k0, .int .i64 n, .slice s ks.length c] 34)).alloc (.cells #[.slice sx xs.length cx, .slice sy ys.length cy] 40)) 34 (.int .i64 0) (.int .i64 0) (.slice none 0 0)
 simp at R
 have hB : Below w.heap.size w ((((w.alloc (.cells #[.int .i64 t, .int .i64 a] 37)).alloc (.cells #[.int .i64 k0, .int .i64 n, .slice s ks.length c] 34)).alloc (.cells #[.slice sx xs.length cx, .slice sy ys.length cy] 40)).alloc (.cells #[.int .i64 0, .int .i64 0, .slice none 0 0] 34)) := by (repeat' first | exact Below.refl _ _ | assumption | apply Below.alloc | apply Below.drew | apply Below.setCell | omega | (simp; done) | (simp; omega))
 have hB0 := hB
 generalize ((((w.alloc (.cells #[.int .i64 t, .int .i64 a] 37)).alloc (.cells #[.int .i64 k0, .int .i64 n, .slice s ks.length c] 34)).alloc (.cells #[.slice sx xs.length cx, .slice sy ys.length cy] 40)).alloc (.cells #[.int .i64 0, .int .i64 0, .slice none 0 0] 34)) = v0 at L M Z R hB hB0 ⊢
 have l0 := L.c0
 have l1 := L.c1
 have m0 := M.c0
 have m1 := M.c1
 have m2 := M.c2
 have z0 := Z.c0
 have z1 := Z.c1
 have r0 := R.c0
 have r1 := R.c1
 have r2 := R.c2
 have ltL := L.lt
 have ltM := M.lt
 have ltZ := Z.lt
 have ltR := R.lt
 have zz0 := R.frozen 0
 have zz1 := R.frozen 1
 have zz2 := R.frozen 2
 go_wp2_with fail
 refine (implValidExpr_i (hr.below hB)).mono ?_
 rintro x w1 ⟨rfl, hb⟩
 clear l0 l1 m0 m1 m2 z0 z1 r0 r1 r2 ltL ltM ltZ ltR zz0 zz1 zz2
 replace hB := Below.on hB hb hB.size
 replace L := L.below hb
 replace M := M.below hb
 replace Z := Z.below hb
 replace R := R.below hb
 clear hb
 have szW1 := hB.size
 have rlt1 := R.lt
 cases hs1 : okB t a (.mk k0 n ks)
 ·
  have l0 := L.c0
  have l1 := L.c1
  have ltL := L.lt
  have m0 := M.c0
  have m1 := M.c1
  have m2 := M.c2
  have ltM := M.lt
  have z0 := Z.c0
  have z1 := Z.c1
  have ltZ := Z.lt
  have r0 := R.c0
  have zz0 := R.frozen 0
  have r1 := R.c1
  have zz1 := R.frozen 1
  have r2 := R.c2
  have zz2 := R.frozen 2
  have ltR := R.lt
  go_wp2_with fail
  have R' := (((R.set 0 (.int .i64 0)).set 1 (.int .i64 0)).set 2 (.slice none 0 0))
  have c0 := R'.c0
  have c1 := R'.c1
  have c2 := R'.c2
  refine bodyPost_ret (v := .tuple #[.agg #[.int .i64 0, .int .i64 0, .slice none 0 0], .int .i64 1]) (by simp [results, Tryz.results20, go_sem, c0, c1, c2]) rfl ?_
  obtain ⟨e1, e2⟩ := dw_bad (t := t) (a := a) (xs := xs) (ys := ys) (e := .mk k0 n ks) (by simp [hs1])
  rw [e1, e2]
  exact ⟨none, 0, rfl, fresh_nil1 _ _, by (repeat' first | exact Below.refl _ _ | assumption | apply Below.alloc | apply Below.drew | apply Below.setCell | omega | (simp; done) | (simp; omega))⟩
 have Hs1 := Lib.hid hs1
 clear hs1
 have l0 := L.c0
 have l1 := L.c1
 have m0 := M.c0
 have m1 := M.c1
 have m2 := M.c2
 have z0 := Z.c0
 have z1 := Z.c1
 have r0 := R.c0
 have r1 := R.c1
 have r2 := R.c2
 have ltL := L.lt
 have ltM := M.lt
 have ltZ := Z.lt
 have ltR := R.lt
 have zz0 := R.frozen 0
 have zz1 := R.frozen 1
 have zz2 := R.frozen 2
 go_wp2_with fail
 refine (isWord_i (hx.below hB) (hy.below hB) (okB_sig Hs1.out)).mono ?_
 rintro x w2 ⟨rfl, hb⟩
 clear l0 l1 m0 m1 m2 z0 z1 r0 r1 r2 ltL ltM ltZ ltR zz0 zz1 zz2
 replace hB := Below.on hB hb hB.size
 replace L := L.below hb
 replace M := M.below hb
 replace Z := Z.below hb
 replace R := R.below hb
 clear hb
 have szW2 := hB.size
 have rlt2 := R.lt
 cases hs2 : wordB t a xs ys
 ·
  have l0 := L.c0
  have l1 := L.c1
  have ltL := L.lt
  have m0 := M.c0
  have m1 := M.c1
  have m2 := M.c2
  have ltM := M.lt
  have z0 := Z.c0
  have z1 := Z.c1
  have ltZ := Z.lt
  have r0 := R.c0
  have zz0 := R.frozen 0
  have r1 := R.c1
  have zz1 := R.frozen 1
  have r2 := R.c2
  have zz2 := R.frozen 2
  have ltR := R.lt
  go_wp2_with fail
  have R' := (((R.set 0 (.int .i64 0)).set 1 (.int .i64 0)).set 2 (.slice none 0 0))
  have c0 := R'.c0
  have c1 := R'.c1
  have c2 := R'.c2
  refine bodyPost_ret (v := .tuple #[.agg #[.int .i64 0, .int .i64 0, .slice none 0 0], .int .i64 1]) (by simp [results, Tryz.results20, go_sem, c0, c1, c2]) rfl ?_
  obtain ⟨e1, e2⟩ := dw_bad (t := t) (a := a) (xs := xs) (ys := ys) (e := .mk k0 n ks) (by simp [hs2])
  rw [e1, e2]
  exact ⟨none, 0, rfl, fresh_nil1 _ _, by (repeat' first | exact Below.refl _ _ | assumption | apply Below.alloc | apply Below.drew | apply Below.setCell | omega | (simp; done) | (simp; omega))⟩
 have Hs2 := Lib.hid hs2
 clear hs2
 have l0 := L.c0
 have l1 := L.c1
 have m0 := M.c0
 have m1 := M.c1
 have m2 := M.c2
 have z0 := Z.c0
 have z1 := Z.c1
 have r0 := R.c0
 have r1 := R.c1
 have r2 := R.c2
 have ltL := L.lt
 have ltM := M.lt
 have ltZ := Z.lt
 have ltR := R.lt
 have zz0 := R.frozen 0
 have zz1 := R.frozen 1
 have zz2 := R.frozen 2
 have Hok2 : Hid ((okB t a (.mk k0 n ks) && wordB t a xs ys) = true) := by show _ = _; rw [Hs1.out, Hs2.out]; rfl
 obtain ⟨b1, b2, b3, b4⟩ := okB_bd3 Hs1.out
 have Hb4 := Lib.hid b4
 have hr2 := hr.below hB
 clear b4 l0 l1 r0 r1 r2 zz0 zz1 zz2 L
 by_cases hys : ys.length = 0
 ·
  go_wp2_with fail
  refine (tidy_all (t - 1) (a - 1) (by omega) (by omega) _ (.mk k0 n ks) (fun _ => False) _ _ w2 (Nat.le_refl _) (fun _ h => h.elim) (RdX.all hr2) Hb4.out (by omega)).mono ?_
  rintro f w3 ⟨s3, c3, rfl, hd3, hb3⟩
  have hz3 := hb3.size
  go_wp2_with fail
  have hts := (tidy_spec _ _ _ (.mk k0 n ks) (Nat.le_refl _) Hb4.out).2
  refine (copy_k (k := (Ex.mk k0 n ks).tidy.kind) (n := (Ex.mk k0 n ks).tidy.num) hd3.rd (by have h3 := Ex.size_eq (Ex.mk k0 n ks).tidy; omega)).mono ?_
  rintro f w4 ⟨s4, c4, rfl, hf4, hb4⟩
  have hf5 := Lib.hid (hf4.from hz3)
  have hB4 := hB.trans ((hb3.trans (hb4.mono hz3)).mono hB.size)
  replace R := (R.below hb3).below hb4
  have ltR2 := ltR
  obtain ⟨e1, e2⟩ := dw_empty Hok2.out hys
  have E1 := Lib.hid e1
  have E2 := Lib.hid e2
  clear hB e1 e2 hb3 hb4 hd3 hf4 m0 m1 m2 z0 z1
  have hB := hB4
  obtain ⟨r0, r1, r2, z0, z1, z2, ltR⟩ := R.all3
  go_wp2_with fail
  obtain ⟨wf, ef, T2, hs5⟩ := set3 R (.int .i64 (Ex.mk k0 n ks).tidy.kind) (.int .i64 (Ex.mk k0 n ks).tidy.num) (.slice s4 (Ex.mk k0 n ks).tidy.kids.length c4)
  rw [ef]
  clear ef r0 r1 r2 z0 z1 z2 ltR
  obtain ⟨t0, t1, t2, -, -, -, -⟩ := T2.all3
  have hzB5 := hB.size
  have hB5 := hB.trans (hs5.below (B := w.heap.size) (by omega) (fun y hy => by omega))
  refine bodyPost_ret (v := .tuple #[.agg #[.int .i64 (Ex.mk k0 n ks).tidy.kind, .int .i64 (Ex.mk k0 n ks).tidy.num, .slice s4 (Ex.mk k0 n ks).tidy.kids.length c4], .int .i64 0]) (by simp [results, Tryz.results20, go_sem, t0, t1, t2]) rfl ?_
  rw [E1.out, E2.out]
  exact ⟨s4, c4, rfl, (hf5.out.keep fun y hy _ => hs5.block y (by omega) (by omega)).from (by omega), hB5⟩
 ·
  have hyb : ((ys.length : Int) == 0) = false := by rw [beq_eq_false_iff_ne]; omega
  go_wp2_with fail
  clear m0 m1 m2 z0 z1
  go_loopw [32] (fun i wr => ∃ (k : Nat) (d : Ex) (sd : Option Addr) (cd : Nat), i = .int .i64 k ∧ k ≤ ys.length ∧ Hid (dwO (.mk k0 n ks) xs ys k = some d) ∧ Blk wr (w.heap.size + 1) 34 [.int .i64 d.kind, .int .i64 d.num, .slice sd d.kids.length cd] ∧ ExX (fun b => b = w.heap.size + 1) wr d sd cd ∧
   Blk wr (w.heap.size + 1 + 1) 40 [.slice sx xs.length cx, .slice sy ys.length cy] ∧ Blk wr (w.heap.size + 1 + 1 + 1) 34 [.int .i64 0, .int .i64 0, .slice none 0 0] ∧ Below w.heap.size w wr) (fun i _ => ys.length - (intOf i).toNat)
  case atStart => exact ⟨0, .mk k0 n ks, s, c, rfl, by omega, Lib.hid rfl, M, (RdX.of_rd hr (fun b hb => by omega)).below hB, Z, R, hB⟩
  case round =>
   clear hr2 hB M Z R
   obtain ⟨k, d, sd, cd, rfl, hk, hd, M, hdx, Z, R, hB⟩ := hrel
   obtain ⟨wo, rfl⟩ : ∃ v, v = wr := ⟨_, rfl⟩
   have hk0 := Int.natCast_nonneg k
   have hzo := hB.size
   by_cases hlt : k < ys.length
   rotate_left
   ·
    have hds := (dwO_spec (okB_bd3 Hs1.out).2.2.2 (okB_bd3 Hs1.out).2.2.1 k d hd.out).2
    obtain ⟨e1, e2⟩ := dw_fin Hok2.out (by omega) (dwO_ne hys hd.out)
    have E1 := Lib.hid e1
    have E2 := Lib.hid e2
    clear e1 e2
    obtain ⟨m0, m1, m2, -, -, -, ltM⟩ := M.all3
    go_wp2_with fail
    refine (copy_k (k := d.kind) (n := d.num) hdx.rd (by have h3 := Ex.size_eq d; omega)).mono ?_
    rintro f w4 ⟨s4, c4, rfl, hf4, hb4⟩
    have ltR2 := R.lt
    have hf5 := Lib.hid hf4
    have hB4 := Below.on hB hb4 hzo
    replace R := R.below hb4
    clear hB hb4 hf4 m0 m1 m2 M Z
    have hB := hB4
    obtain ⟨r0, r1, r2, z0, z1, z2, ltR⟩ := R.all3
    go_wp2_with fail
    obtain ⟨wf, ef, T2, hs5⟩ := set3 R (.int .i64 d.kind) (.int .i64 d.num) (.slice s4 d.kids.length c4)
    rw [ef]
    clear ef r0 r1 r2 z0 z1 z2 ltR
    obtain ⟨t0, t1, t2, -, -, -, -⟩ := T2.all3
    have hzB5 := hB.size
    have hB5 := hB.trans (hs5.below (B := w.heap.size) (by omega) (fun y hy => by omega))
    refine bodyPost_ret (v := .tuple #[.agg #[.int .i64 d.kind, .int .i64 d.num, .slice s4 d.kids.length c4], .int .i64 0]) (by simp [results, Tryz.results20, go_sem, t0, t1, t2]) rfl ?_
    rw [E1.out, E2.out]
    exact ⟨s4, c4, rfl, (hf5.out.keep fun y hy _ => hs5.block y (by omega) (by omega)).from (by omega), hB5⟩
   ·
    skip
    obtain ⟨m, x, hmx, hxx, hm7, hxa⟩ := word_at Hs2.out hlt
    have hlx := (List.getElem?_eq_some_iff.1 hmx).1
    have hat := (atomsN_bd t).2
    obtain ⟨hdt, hds⟩ := dwO_spec (okB_bd3 Hs1.out).2.2.2 (okB_bd3 Hs1.out).2.2.1 k d hd.out
    have hrx := Hx.out.below hB
    have hry := Hy.out.below hB
    obtain ⟨xb, xo, rfl⟩ := int_some hrx (by omega)
    obtain ⟨yb, yo, rfl⟩ := int_some hry (by omega)
    have HX := Lib.hid ((RdX.of_rd (X := fun b => b = w.heap.size + 1) Hx.out (fun b hb => by omega)).below hB)
    have HZ := Lib.hid Z
    have HR := Lib.hid R
    have HM := Lib.hid M
    have HB := Lib.hid hB
    have hXW : ∀ b, (fun b => b = w.heap.size + 1) b → b < wo.heap.size := fun b hb => by have := M.lt; omega
    have HXW := Lib.hid hXW
    have HDX := Lib.hid hdx
    have Hnx := Lib.hid (dwO_ne hys (dwO_succ hd.out hmx hxx))
    have Hnd := Lib.hid (dwO_succ hd.out hmx hxx)
    have Hmx := Lib.hid hmx
    obtain ⟨gy0, gy1⟩ := int_in hry hxx
    have ltM := M.lt
    have ltR := R.lt
    clear hrx hry Z R M hB hmx hxx hdx hXW
    cases ho : d.step m x with
    | none =>
     have Ho := Lib.hid ho
     clear ho
     go_wp2_with fail
     clear gy1
     have M := HM.out
     have hXW := HXW.out
     obtain ⟨x1, hx1⟩ := mkval ?a1_1
     obtain ⟨x2, hx2⟩ := mkval ?a1_2
     obtain ⟨x3, hx3⟩ := mkval ?a1_3
     obtain ⟨x4, hx4⟩ := mkval ?a1_4
     obtain ⟨x5, hx5⟩ := mkval ?a1_5
     obtain ⟨x6, hx6⟩ := mkval ?a1_6
     have hGb : ∀ m b, (fun m b => (m = 0 ∧ b = w.heap.size + 1)) m b → (w.heap.size + 1) ≤ b ∧ b < (wo).heap.size := by
      intro m b hg
      rcases hg with ⟨rfl, hg⟩
      ·
       subst hg
       have q := M.lt
       omega
     have hGd : ∀ m m' b, (fun m b => (m = 0 ∧ b = w.heap.size + 1)) m b → (fun m b => (m = 0 ∧ b = w.heap.size + 1)) m' b → m = m' := by
      intro m m' b h h'
      rcases h with ⟨rfl, h⟩ <;> rcases h' with ⟨rfl, h'⟩ <;> first
       | rfl
     have hGX : ∀ m b, (fun m b => (m = 0 ∧ b = w.heap.size + 1)) m b → (fun b => b = w.heap.size + 1) b := by
      intro m b hg
      rcases hg with ⟨rfl, rfl⟩ <;> simp
     refine region_rs [] [(11, 0)] (fun m b => (m = 0 ∧ b = w.heap.size + 1)) (w.heap.size + 1) (fun i iv vs wx => match i with
      | 0 => vs 0 = .agg #[.int .i64 d.kind, .int .i64 d.num, .slice sd d.kids.length cd]
      | 1 => vs 1 = x1
      | 2 => vs 2 = x2
      | 3 => vs 3 = x3
      | 4 => vs 4 = x4
      | 5 => vs 5 = x5
      | 6 => vs 6 = x6
      | 7 => ∃ s2 c2, vs 7 = .tuple #[.agg #[.int .i64 0, .int .i64 0, .slice s2 0 c2], .bool false] ∧ FreshIn (iv 7) wx [] []
      | 8 => vs 8 = vs 7
      | 9 => vs 9 = tupAt (vs 8) 0
      | 10 => vs 10 = tupAt (vs 8) 1
      | 11 => Blk wx (w.heap.size + 1) 34 [aggAt (vs 9) 0, aggAt (vs 9) 1, aggAt (vs 9) 2]
      | 12 => vs 12 = vs 10
      | _ => True) (fun i iv vs => match i with
      | 0 => vs 0 = .agg #[.int .i64 d.kind, .int .i64 d.num, .slice sd d.kids.length cd]
      | 1 => vs 1 = x1
      | 2 => vs 2 = x2
      | 3 => vs 3 = x3
      | 4 => vs 4 = x4
      | 5 => vs 5 = x5
      | 6 => vs 6 = x6
      | 7 => ∃ s2 c2, vs 7 = .tuple #[.agg #[.int .i64 0, .int .i64 0, .slice s2 0 c2], .bool false]
      | 8 => vs 8 = vs 7
      | 9 => vs 9 = tupAt (vs 8) 0
      | 10 => vs 10 = tupAt (vs 8) 1
      | 11 => True
      | 12 => vs 12 = vs 10
      | _ => True) (by kernel_rfl) (by kernel_rfl) [0, 1, 2, 3, 4, 5, 6, 7, 8, 9, 10, 11, 12] (by kernel_rfl) ?hbase ?hGb ?hG ?hJ ?hE ?hEE ?hstep ?hQ
     case hbase => first | exact Nat.le_refl _ | omega | (simp; omega)
     case hGb =>
      exact hGb
     case hG =>
      exact hGd
     case hJ =>
      intro i hi iv iv' vs vs' wx wx' ha hv hz hk hj
      simp only [List.mem_cons, List.not_mem_nil, or_false] at hi
      rcases hi with rfl | rfl | rfl | rfl | rfl | rfl | rfl | rfl | rfl | rfl | rfl | rfl | rfl
      ·
       exact (hv.out 0 (mem_of (by kernel_rfl))).symm.trans hj
      ·
       exact (hv.out 1 (mem_of (by kernel_rfl))).symm.trans hj
      ·
       exact (hv.out 2 (mem_of (by kernel_rfl))).symm.trans hj
      ·
       exact (hv.out 3 (mem_of (by kernel_rfl))).symm.trans hj
      ·
       exact (hv.out 4 (mem_of (by kernel_rfl))).symm.trans hj
      ·
       exact (hv.out 5 (mem_of (by kernel_rfl))).symm.trans hj
      ·
       exact (hv.out 6 (mem_of (by kernel_rfl))).symm.trans hj
      ·
       have e7 := hv.out 7 (mem_of (by kernel_rfl))
       have g7 := ha.out 7 (mem_of (by kernel_rfl))
       obtain ⟨s2, c2, q1, q2⟩ := hj
       exact ⟨s2, c2, e7 ▸ q1, g7 ▸ q2.keep (fun b hb h1 h2 => hk.out b hb (foot_own h1 h2))⟩
      ·
       have e7 := hv.out 7 (mem_of (by kernel_rfl))
       have e8 := hv.out 8 (mem_of (by kernel_rfl))
       have hj' : vs 8 = vs 7 := hj
       show vs' 8 = vs' 7
       rw [← e7, ← e8]
       exact hj'
      ·
       have e8 := hv.out 8 (mem_of (by kernel_rfl))
       have e9 := hv.out 9 (mem_of (by kernel_rfl))
       have hj' : vs 9 = tupAt (vs 8) 0 := hj
       show vs' 9 = tupAt (vs' 8) 0
       rw [← e8, ← e9]
       exact hj'
      ·
       have e8 := hv.out 8 (mem_of (by kernel_rfl))
       have e10 := hv.out 10 (mem_of (by kernel_rfl))
       have hj' : vs 10 = tupAt (vs 8) 1 := hj
       show vs' 10 = tupAt (vs' 8) 1
       rw [← e8, ← e10]
       exact hj'
      ·
       have e9 := hv.out 9 (mem_of (by kernel_rfl))
       have hj' : Blk wx (w.heap.size + 1) 34 [aggAt (vs 9) 0, aggAt (vs 9) 1, aggAt (vs 9) 2] := hj
       show Blk wx' (w.heap.size + 1) 34 [aggAt (vs' 9) 0, aggAt (vs' 9) 1, aggAt (vs' 9) 2]
       rw [← e9]
       exact hj'.keep (hk.out _ hj'.lt (foot_given 0 (by decide) ⟨rfl, rfl⟩))
      ·
       have e10 := hv.out 10 (mem_of (by kernel_rfl))
       have e12 := hv.out 12 (mem_of (by kernel_rfl))
       have hj' : vs 12 = vs 10 := hj
       show vs' 12 = vs' 10
       rw [← e10, ← e12]
       exact hj'
     case hE =>
      intro i hi iv vs wx hj
      simp only [List.mem_cons, List.not_mem_nil, or_false] at hi
      rcases hi with rfl | rfl | rfl | rfl | rfl | rfl | rfl | rfl | rfl | rfl | rfl | rfl | rfl
      ·
       exact hj
      ·
       exact hj
      ·
       exact hj
      ·
       exact hj
      ·
       exact hj
      ·
       exact hj
      ·
       exact hj
      ·
       obtain ⟨s2, c2, q1, -⟩ := hj
       exact ⟨s2, c2, q1⟩
      ·
       exact hj
      ·
       exact hj
      ·
       exact hj
      ·
       trivial
      ·
       exact hj
     case hEE =>
      intro i hi iv iv' vs vs' ha hv hj
      simp only [List.mem_cons, List.not_mem_nil, or_false] at hi
      rcases hi with rfl | rfl | rfl | rfl | rfl | rfl | rfl | rfl | rfl | rfl | rfl | rfl | rfl
      ·
       exact (hv.out 0 (mem_of (by kernel_rfl))).symm.trans hj
      ·
       exact (hv.out 1 (mem_of (by kernel_rfl))).symm.trans hj
      ·
       exact (hv.out 2 (mem_of (by kernel_rfl))).symm.trans hj
      ·
       exact (hv.out 3 (mem_of (by kernel_rfl))).symm.trans hj
      ·
       exact (hv.out 4 (mem_of (by kernel_rfl))).symm.trans hj
      ·
       exact (hv.out 5 (mem_of (by kernel_rfl))).symm.trans hj
      ·
       exact (hv.out 6 (mem_of (by kernel_rfl))).symm.trans hj
      ·
       have e7 := hv.out 7 (mem_of (by kernel_rfl))
       have hj' : ∃ s2 c2, vs 7 = .tuple #[.agg #[.int .i64 0, .int .i64 0, .slice s2 0 c2], .bool false] := hj
       show ∃ s2 c2, vs' 7 = .tuple #[.agg #[.int .i64 0, .int .i64 0, .slice s2 0 c2], .bool false]
       rw [← e7]
       exact hj'
      ·
       have e7 := hv.out 7 (mem_of (by kernel_rfl))
       have e8 := hv.out 8 (mem_of (by kernel_rfl))
       have hj' : vs 8 = vs 7 := hj
       show vs' 8 = vs' 7
       rw [← e7, ← e8]
       exact hj'
      ·
       have e8 := hv.out 8 (mem_of (by kernel_rfl))
       have e9 := hv.out 9 (mem_of (by kernel_rfl))
       have hj' : vs 9 = tupAt (vs 8) 0 := hj
       show vs' 9 = tupAt (vs' 8) 0
       rw [← e8, ← e9]
       exact hj'
      ·
       have e8 := hv.out 8 (mem_of (by kernel_rfl))
       have e10 := hv.out 10 (mem_of (by kernel_rfl))
       have hj' : vs 10 = tupAt (vs 8) 1 := hj
       show vs' 10 = tupAt (vs' 8) 1
       rw [← e8, ← e10]
       exact hj'
      ·
       trivial
      ·
       have e10 := hv.out 10 (mem_of (by kernel_rfl))
       have e12 := hv.out 12 (mem_of (by kernel_rfl))
       have hj' : vs 12 = vs 10 := hj
       show vs' 12 = vs' 10
       rw [← e10, ← e12]
       exact hj'
     case hstep =>
      intro i hi opr ho iv vs w1 hB hS hSo hd he hbd hsep hun K hK
      simp only [List.mem_cons, List.not_mem_nil, or_false] at hi
      have hzB := hB.size
      obtain ⟨g0, g1, ltZ⟩ := (HZ.out.keep (hSo.out.block _ HZ.out.lt (fun ⟨_, _, h⟩ => by omega))).all2
      obtain ⟨gx0, gx1⟩ := int_in (HX.out w1 (KeptX.of_spares hSo.out (fun b _ ⟨_, _, h⟩ => h))) Hmx.out
      have hdx := HDX.out
      generalize hA : putFrom _ 0 vs _ = A at hK ⊢
      simp only [putFrom, puts] at hA
      rcases hi with rfl | rfl | rfl | rfl | rfl | rfl | rfl | rfl | rfl | rfl | rfl | rfl | rfl
      all_goals
       simp at ho
       subst ho
       subst hA
      ·
       have M1 := M.keep (hS.out 0 _ (by kernel_rfl) ⟨rfl, rfl⟩)
       have mc0 := M1.c0
       have mz0 := M1.frozen 0
       have mc1 := M1.c1
       have mz1 := M1.frozen 1
       have mc2 := M1.c2
       have mz2 := M1.frozen 2
       have mlt := M1.lt
       go_wp2_with fail
       exact Onward.mk (hK (.agg #[.int .i64 d.kind, .int .i64 d.num, .slice sd d.kids.length cd]) _ _ (fun h => by cases h) (by first | rfl | (simp only [puts])) (Spares.refl _) (fun iv' _ _ => rfl))
      ·
       go_wp2_with fail
       refine Onward.mk (hK ?val1_1 _ _ (fun h => by cases h) ?eqA (Spares.refl _) (fun iv' _ _ => ?ja))
       case eqA => first | rfl | (simp only [puts]; rfl)
       case ja => exact hx1.out.symm
      ·
       have h1 := (hd.out 1 (mem_of (by kernel_rfl)) (by decide) (by kernel_rfl)).trans hx1.out
       go_wp2_with fail
       refine Onward.mk (hK ?val1_2 _ _ (fun h => by cases h) ?eqA (Spares.refl _) (fun iv' _ _ => ?ja))
       case eqA => first | rfl | (simp only [puts, h1]; rfl)
       case ja => exact hx2.out.symm
      ·
       go_wp2_with fail
       refine Onward.mk (hK ?val1_3 _ _ (fun h => by cases h) ?eqA (Spares.refl _) (fun iv' _ _ => ?ja))
       case eqA => first | rfl | (simp only [puts]; rfl)
       case ja => exact hx3.out.symm
      ·
       have h2 := (hd.out 2 (mem_of (by kernel_rfl)) (by decide) (by kernel_rfl)).trans hx2.out
       have h3 := (hd.out 3 (mem_of (by kernel_rfl)) (by decide) (by kernel_rfl)).trans hx3.out
       go_wp2_with fail
       refine Onward.mk (hK ?val1_4 _ _ (fun h => by cases h) ?eqA (Spares.refl _) (fun iv' _ _ => ?ja))
       case eqA => first | rfl | (simp only [puts, h2, h3]; rfl)
       case ja => exact hx4.out.symm
      ·
       have h4 := (hd.out 4 (mem_of (by kernel_rfl)) (by decide) (by kernel_rfl)).trans hx4.out
       go_wp2_with fail
       refine Onward.mk (hK ?val1_5 _ _ (fun h => by cases h) ?eqA (Spares.refl _) (fun iv' _ _ => ?ja))
       case eqA => first | rfl | (simp only [puts, h4]; rfl)
       case ja => exact hx5.out.symm
      ·
       go_wp2_with fail
       refine Onward.mk (hK ?val1_6 _ _ (fun h => by cases h) ?eqA (Spares.refl _) (fun iv' _ _ => ?ja))
       case eqA => first | rfl | (simp only [puts]; rfl)
       case ja => exact hx6.out.symm
      ·
       have h0 : vs 0 = .agg #[.int .i64 d.kind, .int .i64 d.num, .slice sd d.kids.length cd] := hd.out 0 (mem_of (by kernel_rfl)) (by decide) (by kernel_rfl)
       have h5 := (hd.out 5 (mem_of (by kernel_rfl)) (by decide) (by kernel_rfl)).trans hx5.out
       have h6 := (hd.out 6 (mem_of (by kernel_rfl)) (by decide) (by kernel_rfl)).trans hx6.out
       go_wp2_with fail
       refine (derived_none (by omega) (by omega) (by omega) (by omega) (X := fun b => b = w.heap.size + 1) (fun b hb => by omega) (hdx.keep (KeptX.of_spares hSo.out (fun b _ ⟨_, _, h⟩ => h))) hdt (by omega) Ho).mono ?_
       rintro e w2 ⟨s2, c2, rfl, hb⟩
       go_wp2_with fail
       exact Onward.mk (hK (.tuple #[.agg #[.int .i64 0, .int .i64 0, .slice s2 0 c2], .bool false]) _ _ (fun h => by cases h) (by first | rfl | (simp only [puts, h0, h5, h6])) (Spares.of_below hb) (fun iv' _ hi => ⟨s2, c2, rfl, by rw [hi]; exact Freshs.stretch (Freshs.nil)⟩))
      ·
       obtain ⟨s2, c2, h7, f7⟩ := hd.out 7 (mem_of (by kernel_rfl)) (by decide) (by kernel_rfl)
       go_wp2_with fail
       refine Onward.mk (hK ?val1_8 _ _ (fun h => by cases h) ?eqA (Spares.refl _) (fun iv' _ _ => ?ja))
       case eqA => first | rfl | (simp only [puts, h7]; rfl)
       case ja => show _ = vs 7; simp only [h7]; rfl
      ·
       have h8 : vs 8 = vs 7 := hd.out 8 (mem_of (by kernel_rfl)) (by decide) (by kernel_rfl)
       obtain ⟨s2, c2, h7, f7⟩ := hd.out 7 (mem_of (by kernel_rfl)) (by decide) (by kernel_rfl)
       go_wp2_with fail
       refine Onward.mk (hK ?val1_9 _ _ (fun h => by cases h) ?eqA (Spares.refl _) (fun iv' _ _ => ?ja))
       case eqA => first | rfl | (simp only [puts, h8, h7]; rfl)
       case ja => show _ = tupAt (vs 8) 0; simp only [h8, h7, tupAt]; rfl
      ·
       have h8 : vs 8 = vs 7 := hd.out 8 (mem_of (by kernel_rfl)) (by decide) (by kernel_rfl)
       obtain ⟨s2, c2, h7, f7⟩ := hd.out 7 (mem_of (by kernel_rfl)) (by decide) (by kernel_rfl)
       go_wp2_with fail
       refine Onward.mk (hK ?val1_10 _ _ (fun h => by cases h) ?eqA (Spares.refl _) (fun iv' _ _ => ?ja))
       case eqA => first | rfl | (simp only [puts, h8, h7]; rfl)
       case ja => show _ = tupAt (vs 8) 1; simp only [h8, h7, tupAt]; rfl
      ·
       have h9 : vs 9 = tupAt (vs 8) 0 := hd.out 9 (mem_of (by kernel_rfl)) (by decide) (by kernel_rfl)
       have h8 : vs 8 = vs 7 := hd.out 8 (mem_of (by kernel_rfl)) (by decide) (by kernel_rfl)
       obtain ⟨s2, c2, h7, f7⟩ := hd.out 7 (mem_of (by kernel_rfl)) (by decide) (by kernel_rfl)
       have M1 := M.keep (hS.out 0 _ (by kernel_rfl) ⟨rfl, rfl⟩)
       have mc0 := M1.c0
       have mz0 := M1.frozen 0
       have mc1 := M1.c1
       have mz1 := M1.frozen 1
       have mc2 := M1.c2
       have mz2 := M1.frozen 2
       have mlt := M1.lt
       replace h9 : vs 9 = .agg #[.int .i64 0, .int .i64 0, .slice s2 0 c2] := by rw [h9, h8, h7]; rfl
       go_wp2_with fail
       exact Onward.mk (hK undef _ _ (fun _ => rfl) (by simp only [puts, h9, h8, h7]) ((spares_sets (b0 := w.heap.size + 1) (by repeat (first | exact Spares.refl _ | apply Spares.set))).more (fun b h => Or.inl ⟨0, by decide, ⟨rfl, h⟩⟩)) (fun iv' ag hi => by
        show Blk _ (w.heap.size + 1) 34 [aggAt (vs 9) 0, aggAt (vs 9) 1, aggAt (vs 9) 2]
        rw [h9]
        exact (((M1.set 0 _).set 1 _).set 2 _)))
      ·
       have h10 : vs 10 = tupAt (vs 8) 1 := hd.out 10 (mem_of (by kernel_rfl)) (by decide) (by kernel_rfl)
       have h8 : vs 8 = vs 7 := hd.out 8 (mem_of (by kernel_rfl)) (by decide) (by kernel_rfl)
       obtain ⟨s2, c2, h7, f7⟩ := hd.out 7 (mem_of (by kernel_rfl)) (by decide) (by kernel_rfl)
       go_wp2_with fail
       refine Onward.mk (hK ?val1_12 _ _ (fun h => by cases h) ?eqA (Spares.refl _) (fun iv' _ _ => ?ja))
       case eqA => first | rfl | (simp only [puts, h10, h8, h7]; rfl)
       case ja => show _ = vs 10; simp only [h10, h8, h7]; rfl
     case hQ =>
      intro iv vs wx hB hSp hd he hbd hsep
      have hzB := hB.size
      have h0 : vs 0 = .agg #[.int .i64 d.kind, .int .i64 d.num, .slice sd d.kids.length cd] := hd.out 0 (mem_of (by kernel_rfl)) (not_eaten (by kernel_rfl))
      have h1 := (hd.out 1 (mem_of (by kernel_rfl)) (not_eaten (by kernel_rfl))).trans hx1.out
      have h2 := (hd.out 2 (mem_of (by kernel_rfl)) (not_eaten (by kernel_rfl))).trans hx2.out
      have h3 := (hd.out 3 (mem_of (by kernel_rfl)) (not_eaten (by kernel_rfl))).trans hx3.out
      have h4 := (hd.out 4 (mem_of (by kernel_rfl)) (not_eaten (by kernel_rfl))).trans hx4.out
      have h5 := (hd.out 5 (mem_of (by kernel_rfl)) (not_eaten (by kernel_rfl))).trans hx5.out
      have h6 := (hd.out 6 (mem_of (by kernel_rfl)) (not_eaten (by kernel_rfl))).trans hx6.out
      obtain ⟨s2, c2, h7, f7⟩ := hd.out 7 (mem_of (by kernel_rfl)) (not_eaten (by kernel_rfl))
      have h8 : vs 8 = vs 7 := hd.out 8 (mem_of (by kernel_rfl)) (not_eaten (by kernel_rfl))
      have h9 : vs 9 = tupAt (vs 8) 0 := hd.out 9 (mem_of (by kernel_rfl)) (not_eaten (by kernel_rfl))
      have h10 : vs 10 = tupAt (vs 8) 1 := hd.out 10 (mem_of (by kernel_rfl)) (not_eaten (by kernel_rfl))
      have f11 : Blk _ (w.heap.size + 1) 34 [aggAt (vs 9) 0, aggAt (vs 9) 1, aggAt (vs 9) 2] := hd.out 11 (mem_of (by kernel_rfl)) (not_eaten (by kernel_rfl))
      have h12 : vs 12 = vs 10 := hd.out 12 (mem_of (by kernel_rfl)) (not_eaten (by kernel_rfl))
      simp only [putFrom, puts]
      have hOq : KeptX (fun b => b = w.heap.size + 1) wo wx := KeptX.of_spares hSp.out (fun b _ ⟨m, hg⟩ => hGX m b hg)
      have k12 : vs 12 = .bool false := by rw [h12, h10, h8, h7]; rfl
      simp only [Nat.zero_add, Nat.reduceAdd, k12]
      have hXW := HXW.out
      have R := HR.out.keep (hSp.out.block _ HR.out.lt (fun ⟨_, _, h⟩ => by omega))
      have Z := HZ.out.keep (hSp.out.block _ HZ.out.lt (fun ⟨_, _, h⟩ => by omega))
      have hBx := hSp.out.below (B := w.heap.size) (by omega) (fun b ⟨_, _, h⟩ => by omega)
      have hB1 := HB.out.trans hBx
      have hB := hB1
      obtain ⟨q1, q2⟩ := dw_nofin Hok2.out hlt (Hnx.out.trans Ho.out)
      have E1 := Lib.hid q1
      have E2 := Lib.hid q2
      clear hd he hbd hsep hSp h0 h1 h2 h3 h4 h5 h6 h7 h8 h9 h10 h12 k12 f7 f11 q1 q2 hBx hB1 hOq hXW Z M hGb hGd hGX
      obtain ⟨r0, r1, r2, z0, z1, z2, ltR⟩ := R.all3
      go_wp2_with fail
      obtain ⟨wf, ef, T2, hs5⟩ := set3 R (.int .i64 0) (.int .i64 0) (.slice none 0 0)
      rw [ef]
      clear ef r0 r1 r2 z0 z1 z2 ltR
      obtain ⟨t0, t1, t2, -, -, -, -⟩ := T2.all3
      have hzB5 := hB.size
      have hB5 := hB.trans (hs5.below (B := w.heap.size) (by omega) (fun y hy => by omega))
      refine bodyPost_ret (v := .tuple #[.agg #[.int .i64 0, .int .i64 0, .slice none 0 0], .int .i64 3]) (by simp [results, Tryz.results20, go_sem, t0, t1, t2]) rfl ?_
      rw [E1.out, E2.out]
      exact ⟨none, 0, rfl, fresh_nil1 _ _, hB5⟩
    | some d2 =>
     have Ho := Lib.hid ho
     clear ho
     go_wp2_with fail
     clear gy1
     have M := HM.out
     have hXW := HXW.out
     obtain ⟨x1, hx1⟩ := mkval ?a2_1
     obtain ⟨x2, hx2⟩ := mkval ?a2_2
     obtain ⟨x3, hx3⟩ := mkval ?a2_3
     obtain ⟨x4, hx4⟩ := mkval ?a2_4
     obtain ⟨x5, hx5⟩ := mkval ?a2_5
     obtain ⟨x6, hx6⟩ := mkval ?a2_6
     have hGb : ∀ m b, (fun m b => (m = 0 ∧ b = w.heap.size + 1)) m b → (w.heap.size + 1) ≤ b ∧ b < (wo).heap.size := by
      intro m b hg
      rcases hg with ⟨rfl, hg⟩
      ·
       subst hg
       have q := M.lt
       omega
     have hGd : ∀ m m' b, (fun m b => (m = 0 ∧ b = w.heap.size + 1)) m b → (fun m b => (m = 0 ∧ b = w.heap.size + 1)) m' b → m = m' := by
      intro m m' b h h'
      rcases h with ⟨rfl, h⟩ <;> rcases h' with ⟨rfl, h'⟩ <;> first
       | rfl
     have hGX : ∀ m b, (fun m b => (m = 0 ∧ b = w.heap.size + 1)) m b → (fun b => b = w.heap.size + 1) b := by
      intro m b hg
      rcases hg with ⟨rfl, rfl⟩ <;> simp
     refine region_rs [] [(11, 0)] (fun m b => (m = 0 ∧ b = w.heap.size + 1)) (w.heap.size + 1) (fun i iv vs wx => match i with
      | 0 => vs 0 = .agg #[.int .i64 d.kind, .int .i64 d.num, .slice sd d.kids.length cd]
      | 1 => vs 1 = x1
      | 2 => vs 2 = x2
      | 3 => vs 3 = x3
      | 4 => vs 4 = x4
      | 5 => vs 5 = x5
      | 6 => vs 6 = x6
      | 7 => ∃ s2 c2, vs 7 = .tuple #[.agg #[.int .i64 d2.kind, .int .i64 d2.num, .slice s2 d2.kids.length c2], .bool true] ∧ RdO wo (fun b => b = w.heap.size + 1) (foot [] [(11, 0)] (fun m b => (m = 0 ∧ b = w.heap.size + 1)) 13 7 iv) wx (kidsD d2.kids) (.slice s2 d2.kids.length c2)
      | 8 => vs 8 = vs 7
      | 9 => vs 9 = tupAt (vs 8) 0
      | 10 => vs 10 = tupAt (vs 8) 1
      | 11 => Blk wx (w.heap.size + 1) 34 [aggAt (vs 9) 0, aggAt (vs 9) 1, aggAt (vs 9) 2]
      | 12 => vs 12 = vs 10
      | _ => True) (fun i iv vs => match i with
      | 0 => vs 0 = .agg #[.int .i64 d.kind, .int .i64 d.num, .slice sd d.kids.length cd]
      | 1 => vs 1 = x1
      | 2 => vs 2 = x2
      | 3 => vs 3 = x3
      | 4 => vs 4 = x4
      | 5 => vs 5 = x5
      | 6 => vs 6 = x6
      | 7 => ∃ s2 c2, vs 7 = .tuple #[.agg #[.int .i64 d2.kind, .int .i64 d2.num, .slice s2 d2.kids.length c2], .bool true]
      | 8 => vs 8 = vs 7
      | 9 => vs 9 = tupAt (vs 8) 0
      | 10 => vs 10 = tupAt (vs 8) 1
      | 11 => True
      | 12 => vs 12 = vs 10
      | _ => True) (by kernel_rfl) (by kernel_rfl) [0, 1, 2, 3, 4, 5, 6, 7, 8, 9, 10, 11, 12] (by kernel_rfl) ?hbase ?hGb ?hG ?hJ ?hE ?hEE ?hstep ?hQ
     case hbase => first | exact Nat.le_refl _ | omega | (simp; omega)
     case hGb =>
      exact hGb
     case hG =>
      exact hGd
     case hJ =>
      intro i hi iv iv' vs vs' wx wx' ha hv hz hk hj
      simp only [List.mem_cons, List.not_mem_nil, or_false] at hi
      rcases hi with rfl | rfl | rfl | rfl | rfl | rfl | rfl | rfl | rfl | rfl | rfl | rfl | rfl
      ·
       exact (hv.out 0 (mem_of (by kernel_rfl))).symm.trans hj
      ·
       exact (hv.out 1 (mem_of (by kernel_rfl))).symm.trans hj
      ·
       exact (hv.out 2 (mem_of (by kernel_rfl))).symm.trans hj
      ·
       exact (hv.out 3 (mem_of (by kernel_rfl))).symm.trans hj
      ·
       exact (hv.out 4 (mem_of (by kernel_rfl))).symm.trans hj
      ·
       exact (hv.out 5 (mem_of (by kernel_rfl))).symm.trans hj
      ·
       exact (hv.out 6 (mem_of (by kernel_rfl))).symm.trans hj
      ·
       have e7 := hv.out 7 (mem_of (by kernel_rfl))
       obtain ⟨s2, c2, q1, q2⟩ := hj
       exact ⟨s2, c2, e7 ▸ q1, q2.keep hz (fun b hb h1 => hk.out b hb h1) (fun b h1 => foot_agree (l := ancs _ 13 7) (by exact of_decide_eq_true (by kernel_rfl)) ha.out h1)⟩
      ·
       have e7 := hv.out 7 (mem_of (by kernel_rfl))
       have e8 := hv.out 8 (mem_of (by kernel_rfl))
       have hj' : vs 8 = vs 7 := hj
       show vs' 8 = vs' 7
       rw [← e7, ← e8]
       exact hj'
      ·
       have e8 := hv.out 8 (mem_of (by kernel_rfl))
       have e9 := hv.out 9 (mem_of (by kernel_rfl))
       have hj' : vs 9 = tupAt (vs 8) 0 := hj
       show vs' 9 = tupAt (vs' 8) 0
       rw [← e8, ← e9]
       exact hj'
      ·
       have e8 := hv.out 8 (mem_of (by kernel_rfl))
       have e10 := hv.out 10 (mem_of (by kernel_rfl))
       have hj' : vs 10 = tupAt (vs 8) 1 := hj
       show vs' 10 = tupAt (vs' 8) 1
       rw [← e8, ← e10]
       exact hj'
      ·
       have e9 := hv.out 9 (mem_of (by kernel_rfl))
       have hj' : Blk wx (w.heap.size + 1) 34 [aggAt (vs 9) 0, aggAt (vs 9) 1, aggAt (vs 9) 2] := hj
       show Blk wx' (w.heap.size + 1) 34 [aggAt (vs' 9) 0, aggAt (vs' 9) 1, aggAt (vs' 9) 2]
       rw [← e9]
       exact hj'.keep (hk.out _ hj'.lt (foot_given 0 (by decide) ⟨rfl, rfl⟩))
      ·
       have e10 := hv.out 10 (mem_of (by kernel_rfl))
       have e12 := hv.out 12 (mem_of (by kernel_rfl))
       have hj' : vs 12 = vs 10 := hj
       show vs' 12 = vs' 10
       rw [← e10, ← e12]
       exact hj'
     case hE =>
      intro i hi iv vs wx hj
      simp only [List.mem_cons, List.not_mem_nil, or_false] at hi
      rcases hi with rfl | rfl | rfl | rfl | rfl | rfl | rfl | rfl | rfl | rfl | rfl | rfl | rfl
      ·
       exact hj
      ·
       exact hj
      ·
       exact hj
      ·
       exact hj
      ·
       exact hj
      ·
       exact hj
      ·
       exact hj
      ·
       obtain ⟨s2, c2, q1, -⟩ := hj
       exact ⟨s2, c2, q1⟩
      ·
       exact hj
      ·
       exact hj
      ·
       exact hj
      ·
       trivial
      ·
       exact hj
     case hEE =>
      intro i hi iv iv' vs vs' ha hv hj
      simp only [List.mem_cons, List.not_mem_nil, or_false] at hi
      rcases hi with rfl | rfl | rfl | rfl | rfl | rfl | rfl | rfl | rfl | rfl | rfl | rfl | rfl
      ·
       exact (hv.out 0 (mem_of (by kernel_rfl))).symm.trans hj
      ·
       exact (hv.out 1 (mem_of (by kernel_rfl))).symm.trans hj
      ·
       exact (hv.out 2 (mem_of (by kernel_rfl))).symm.trans hj
      ·
       exact (hv.out 3 (mem_of (by kernel_rfl))).symm.trans hj
      ·
       exact (hv.out 4 (mem_of (by kernel_rfl))).symm.trans hj
      ·
       exact (hv.out 5 (mem_of (by kernel_rfl))).symm.trans hj
      ·
       exact (hv.out 6 (mem_of (by kernel_rfl))).symm.trans hj
      ·
       have e7 := hv.out 7 (mem_of (by kernel_rfl))
       have hj' : ∃ s2 c2, vs 7 = .tuple #[.agg #[.int .i64 d2.kind, .int .i64 d2.num, .slice s2 d2.kids.length c2], .bool true] := hj
       show ∃ s2 c2, vs' 7 = .tuple #[.agg #[.int .i64 d2.kind, .int .i64 d2.num, .slice s2 d2.kids.length c2], .bool true]
       rw [← e7]
       exact hj'
      ·
       have e7 := hv.out 7 (mem_of (by kernel_rfl))
       have e8 := hv.out 8 (mem_of (by kernel_rfl))
       have hj' : vs 8 = vs 7 := hj
       show vs' 8 = vs' 7
       rw [← e7, ← e8]
       exact hj'
      ·
       have e8 := hv.out 8 (mem_of (by kernel_rfl))
       have e9 := hv.out 9 (mem_of (by kernel_rfl))
       have hj' : vs 9 = tupAt (vs 8) 0 := hj
       show vs' 9 = tupAt (vs' 8) 0
       rw [← e8, ← e9]
       exact hj'
      ·
       have e8 := hv.out 8 (mem_of (by kernel_rfl))
       have e10 := hv.out 10 (mem_of (by kernel_rfl))
       have hj' : vs 10 = tupAt (vs 8) 1 := hj
       show vs' 10 = tupAt (vs' 8) 1
       rw [← e8, ← e10]
       exact hj'
      ·
       trivial
      ·
       have e10 := hv.out 10 (mem_of (by kernel_rfl))
       have e12 := hv.out 12 (mem_of (by kernel_rfl))
       have hj' : vs 12 = vs 10 := hj
       show vs' 12 = vs' 10
       rw [← e10, ← e12]
       exact hj'
     case hstep =>
      intro i hi opr ho iv vs w1 hB hS hSo hd he hbd hsep hun K hK
      simp only [List.mem_cons, List.not_mem_nil, or_false] at hi
      have hzB := hB.size
      obtain ⟨g0, g1, ltZ⟩ := (HZ.out.keep (hSo.out.block _ HZ.out.lt (fun ⟨_, _, h⟩ => by omega))).all2
      obtain ⟨gx0, gx1⟩ := int_in (HX.out w1 (KeptX.of_spares hSo.out (fun b _ ⟨_, _, h⟩ => h))) Hmx.out
      have hdx := HDX.out
      generalize hA : putFrom _ 0 vs _ = A at hK ⊢
      simp only [putFrom, puts] at hA
      rcases hi with rfl | rfl | rfl | rfl | rfl | rfl | rfl | rfl | rfl | rfl | rfl | rfl | rfl
      all_goals
       simp at ho
       subst ho
       subst hA
      ·
       have M1 := M.keep (hS.out 0 _ (by kernel_rfl) ⟨rfl, rfl⟩)
       have mc0 := M1.c0
       have mz0 := M1.frozen 0
       have mc1 := M1.c1
       have mz1 := M1.frozen 1
       have mc2 := M1.c2
       have mz2 := M1.frozen 2
       have mlt := M1.lt
       go_wp2_with fail
       exact Onward.mk (hK (.agg #[.int .i64 d.kind, .int .i64 d.num, .slice sd d.kids.length cd]) _ _ (fun h => by cases h) (by first | rfl | (simp only [puts])) (Spares.refl _) (fun iv' _ _ => rfl))
      ·
       go_wp2_with fail
       refine Onward.mk (hK ?val2_1 _ _ (fun h => by cases h) ?eqA (Spares.refl _) (fun iv' _ _ => ?ja))
       case eqA => first | rfl | (simp only [puts]; rfl)
       case ja => exact hx1.out.symm
      ·
       have h1 := (hd.out 1 (mem_of (by kernel_rfl)) (by decide) (by kernel_rfl)).trans hx1.out
       go_wp2_with fail
       refine Onward.mk (hK ?val2_2 _ _ (fun h => by cases h) ?eqA (Spares.refl _) (fun iv' _ _ => ?ja))
       case eqA => first | rfl | (simp only [puts, h1]; rfl)
       case ja => exact hx2.out.symm
      ·
       go_wp2_with fail
       refine Onward.mk (hK ?val2_3 _ _ (fun h => by cases h) ?eqA (Spares.refl _) (fun iv' _ _ => ?ja))
       case eqA => first | rfl | (simp only [puts]; rfl)
       case ja => exact hx3.out.symm
      ·
       have h2 := (hd.out 2 (mem_of (by kernel_rfl)) (by decide) (by kernel_rfl)).trans hx2.out
       have h3 := (hd.out 3 (mem_of (by kernel_rfl)) (by decide) (by kernel_rfl)).trans hx3.out
       go_wp2_with fail
       refine Onward.mk (hK ?val2_4 _ _ (fun h => by cases h) ?eqA (Spares.refl _) (fun iv' _ _ => ?ja))
       case eqA => first | rfl | (simp only [puts, h2, h3]; rfl)
       case ja => exact hx4.out.symm
      ·
       have h4 := (hd.out 4 (mem_of (by kernel_rfl)) (by decide) (by kernel_rfl)).trans hx4.out
       go_wp2_with fail
       refine Onward.mk (hK ?val2_5 _ _ (fun h => by cases h) ?eqA (Spares.refl _) (fun iv' _ _ => ?ja))
       case eqA => first | rfl | (simp only [puts, h4]; rfl)
       case ja => exact hx5.out.symm
      ·
       go_wp2_with fail
       refine Onward.mk (hK ?val2_6 _ _ (fun h => by cases h) ?eqA (Spares.refl _) (fun iv' _ _ => ?ja))
       case eqA => first | rfl | (simp only [puts]; rfl)
       case ja => exact hx6.out.symm
      ·
       have h0 : vs 0 = .agg #[.int .i64 d.kind, .int .i64 d.num, .slice sd d.kids.length cd] := hd.out 0 (mem_of (by kernel_rfl)) (by decide) (by kernel_rfl)
       have h5 := (hd.out 5 (mem_of (by kernel_rfl)) (by decide) (by kernel_rfl)).trans hx5.out
       have h6 := (hd.out 6 (mem_of (by kernel_rfl)) (by decide) (by kernel_rfl)).trans hx6.out
       go_wp2_with fail
       have hO : KeptX (fun b => b = w.heap.size + 1) wo w1 := KeptX.of_spares hSo.out (fun b _ ⟨m, hg⟩ => hGX m b hg)
       obtain ⟨XQ, hXQ⟩ : ∃ XQ, XQ = OutX wo (fun b => b = w.heap.size + 1) (fun b => False) w1 := ⟨_, rfl⟩
       have hXl : ∀ b, XQ b → b < w1.heap.size := by rw [hXQ]; exact OutX.lt
       have hOld : ∀ (d : D) (v : Value), RdX (fun b => b = w.heap.size + 1) wo d v → RdX XQ w1 d v := by rw [hXQ]; exact fun d v h => h.toOut hO
       refine (derived_some (by omega) (by omega) (by omega) (by omega) (X := XQ) hXl (hOld _ _ hdx) hdt (by omega) Ho).mono ?_
       rintro e w2 ⟨s2, c2, rfl, hr, hb⟩
       go_wp2_with fail
       rw [hXQ] at hr
       exact Onward.mk (hK (.tuple #[.agg #[.int .i64 d2.kind, .int .i64 d2.num, .slice s2 d2.kids.length c2], .bool true]) _ _ (fun h => by cases h) (by first | rfl | (simp only [puts, h0, h5, h6])) (Spares.of_below hb) (fun iv' ag hi => ⟨s2, c2, rfl, RdO.ofX hr hb hO (fun b h => by exact h.elim) (fun b h1 h2 => foot_new hi h1 h2)⟩))
      ·
       obtain ⟨s2, c2, h7, f7⟩ := hd.out 7 (mem_of (by kernel_rfl)) (by decide) (by kernel_rfl)
       go_wp2_with fail
       refine Onward.mk (hK ?val2_8 _ _ (fun h => by cases h) ?eqA (Spares.refl _) (fun iv' _ _ => ?ja))
       case eqA => first | rfl | (simp only [puts, h7]; rfl)
       case ja => show _ = vs 7; simp only [h7]; rfl
      ·
       have h8 : vs 8 = vs 7 := hd.out 8 (mem_of (by kernel_rfl)) (by decide) (by kernel_rfl)
       obtain ⟨s2, c2, h7, f7⟩ := hd.out 7 (mem_of (by kernel_rfl)) (by decide) (by kernel_rfl)
       go_wp2_with fail
       refine Onward.mk (hK ?val2_9 _ _ (fun h => by cases h) ?eqA (Spares.refl _) (fun iv' _ _ => ?ja))
       case eqA => first | rfl | (simp only [puts, h8, h7]; rfl)
       case ja => show _ = tupAt (vs 8) 0; simp only [h8, h7, tupAt]; rfl
      ·
       have h8 : vs 8 = vs 7 := hd.out 8 (mem_of (by kernel_rfl)) (by decide) (by kernel_rfl)
       obtain ⟨s2, c2, h7, f7⟩ := hd.out 7 (mem_of (by kernel_rfl)) (by decide) (by kernel_rfl)
       go_wp2_with fail
       refine Onward.mk (hK ?val2_10 _ _ (fun h => by cases h) ?eqA (Spares.refl _) (fun iv' _ _ => ?ja))
       case eqA => first | rfl | (simp only [puts, h8, h7]; rfl)
       case ja => show _ = tupAt (vs 8) 1; simp only [h8, h7, tupAt]; rfl
      ·
       have h9 : vs 9 = tupAt (vs 8) 0 := hd.out 9 (mem_of (by kernel_rfl)) (by decide) (by kernel_rfl)
       have h8 : vs 8 = vs 7 := hd.out 8 (mem_of (by kernel_rfl)) (by decide) (by kernel_rfl)
       obtain ⟨s2, c2, h7, f7⟩ := hd.out 7 (mem_of (by kernel_rfl)) (by decide) (by kernel_rfl)
       have M1 := M.keep (hS.out 0 _ (by kernel_rfl) ⟨rfl, rfl⟩)
       have mc0 := M1.c0
       have mz0 := M1.frozen 0
       have mc1 := M1.c1
       have mz1 := M1.frozen 1
       have mc2 := M1.c2
       have mz2 := M1.frozen 2
       have mlt := M1.lt
       replace h9 : vs 9 = .agg #[.int .i64 d2.kind, .int .i64 d2.num, .slice s2 d2.kids.length c2] := by rw [h9, h8, h7]; rfl
       go_wp2_with fail
       exact Onward.mk (hK undef _ _ (fun _ => rfl) (by simp only [puts, h9, h8, h7]) ((spares_sets (b0 := w.heap.size + 1) (by repeat (first | exact Spares.refl _ | apply Spares.set))).more (fun b h => Or.inl ⟨0, by decide, ⟨rfl, h⟩⟩)) (fun iv' ag hi => by
        show Blk _ (w.heap.size + 1) 34 [aggAt (vs 9) 0, aggAt (vs 9) 1, aggAt (vs 9) 2]
        rw [h9]
        exact (((M1.set 0 _).set 1 _).set 2 _)))
      ·
       have h10 : vs 10 = tupAt (vs 8) 1 := hd.out 10 (mem_of (by kernel_rfl)) (by decide) (by kernel_rfl)
       have h8 : vs 8 = vs 7 := hd.out 8 (mem_of (by kernel_rfl)) (by decide) (by kernel_rfl)
       obtain ⟨s2, c2, h7, f7⟩ := hd.out 7 (mem_of (by kernel_rfl)) (by decide) (by kernel_rfl)
       go_wp2_with fail
       refine Onward.mk (hK ?val2_12 _ _ (fun h => by cases h) ?eqA (Spares.refl _) (fun iv' _ _ => ?ja))
       case eqA => first | rfl | (simp only [puts, h10, h8, h7]; rfl)
       case ja => show _ = vs 10; simp only [h10, h8, h7]; rfl
     case hQ =>
      intro iv vs wx hB hSp hd he hbd hsep
      have hzB := hB.size
      have h0 : vs 0 = .agg #[.int .i64 d.kind, .int .i64 d.num, .slice sd d.kids.length cd] := hd.out 0 (mem_of (by kernel_rfl)) (not_eaten (by kernel_rfl))
      have h1 := (hd.out 1 (mem_of (by kernel_rfl)) (not_eaten (by kernel_rfl))).trans hx1.out
      have h2 := (hd.out 2 (mem_of (by kernel_rfl)) (not_eaten (by kernel_rfl))).trans hx2.out
      have h3 := (hd.out 3 (mem_of (by kernel_rfl)) (not_eaten (by kernel_rfl))).trans hx3.out
      have h4 := (hd.out 4 (mem_of (by kernel_rfl)) (not_eaten (by kernel_rfl))).trans hx4.out
      have h5 := (hd.out 5 (mem_of (by kernel_rfl)) (not_eaten (by kernel_rfl))).trans hx5.out
      have h6 := (hd.out 6 (mem_of (by kernel_rfl)) (not_eaten (by kernel_rfl))).trans hx6.out
      obtain ⟨s2, c2, h7, f7⟩ := hd.out 7 (mem_of (by kernel_rfl)) (not_eaten (by kernel_rfl))
      have h8 : vs 8 = vs 7 := hd.out 8 (mem_of (by kernel_rfl)) (not_eaten (by kernel_rfl))
      have h9 : vs 9 = tupAt (vs 8) 0 := hd.out 9 (mem_of (by kernel_rfl)) (not_eaten (by kernel_rfl))
      have h10 : vs 10 = tupAt (vs 8) 1 := hd.out 10 (mem_of (by kernel_rfl)) (not_eaten (by kernel_rfl))
      have f11 : Blk _ (w.heap.size + 1) 34 [aggAt (vs 9) 0, aggAt (vs 9) 1, aggAt (vs 9) 2] := hd.out 11 (mem_of (by kernel_rfl)) (not_eaten (by kernel_rfl))
      have h12 : vs 12 = vs 10 := hd.out 12 (mem_of (by kernel_rfl)) (not_eaten (by kernel_rfl))
      simp only [putFrom, puts]
      have hOq : KeptX (fun b => b = w.heap.size + 1) wo wx := KeptX.of_spares hSp.out (fun b _ ⟨m, hg⟩ => hGX m b hg)
      have r7 : RdX (fun b => b = w.heap.size + 1) wx (kidsD d2.kids) (.slice s2 d2.kids.length c2) := f7.done hOq (fun b hf hx => by have q := foot_no (l := [0, 1, 2, 3, 4, 5, 6, 7, 8, 9, 10, 11, 12]) (by kernel_rfl) (by kernel_rfl) hbd.out hf; have q' := hXW b hx; omega)
      clear f7
      have k12 : vs 12 = .bool true := by rw [h12, h10, h8, h7]; rfl
      have k9 : vs 9 = .agg #[.int .i64 d2.kind, .int .i64 d2.num, .slice s2 d2.kids.length c2] := by rw [h9, h8, h7]; rfl
      rw [k9] at f11
      simp only [aggAt] at f11
      simp only [Nat.zero_add, Nat.reduceAdd, k12]
      have hXW := HXW.out
      have R := HR.out.keep (hSp.out.block _ HR.out.lt (fun ⟨_, _, h⟩ => by omega))
      have Z := HZ.out.keep (hSp.out.block _ HZ.out.lt (fun ⟨_, _, h⟩ => by omega))
      have hBx := hSp.out.below (B := w.heap.size) (by omega) (fun b ⟨_, _, h⟩ => by omega)
      have hB1 := HB.out.trans hBx
      have HF11 := Lib.hid f11
      have Hr7 := Lib.hid r7
      have HZ2 := Lib.hid Z
      have HR2 := Lib.hid R
      have HB2 := Lib.hid hB1
      clear hd he hbd hsep hSp h0 h1 h2 h3 h4 h5 h6 h7 h8 h9 h10 h12 k12 k9 f11 r7 hBx hB1 hOq hXW Z R M hGb hGd hGX hB
      go_wp2_with fail
      go_roundw
      case rel => exact ⟨k + 1, d2, s2, c2, by go_num, by omega, Lib.hid (Hnd.out.trans Ho.out), HF11.out, Hr7.out, HZ2.out, HR2.out, HB2.out⟩
      case measure => simp [intOf]; omega
end Go.Proofs.YtfopdcdbelaapaaGreatDoor
