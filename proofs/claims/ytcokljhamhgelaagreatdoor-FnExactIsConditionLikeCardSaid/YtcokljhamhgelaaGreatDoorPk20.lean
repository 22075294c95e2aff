/-
  Parts of a proof, joined: SpTidy2, New6, Size. No condition.
-/
import Derived.Test.YtcokljhamhgelaaGreatDoorPk18
namespace Go.Proofs.YtcokljhamhgelaaGreatDoor
set_option linter.unusedVariables false
set_option linter.unusedSimpArgs false
open Go.ChangeShapes Go.WideShapes Go.ChangeAt Go.RowKit Go.Deep Go.Sort
set_option maxRecDepth 100000 in
set_option maxHeartbeats 8000000 in
theorem l02Tidy_all (tm am : Int) (ht : tm ≤ 8) (ha : am ≤ 8) (N : Nat) : ∀ (e : Ex) (b o : Nat) (w : World), e.size ≤ N → ExAt w b o e → e.tree tm am = true → e.size ≤ 90000 →
  Calls Tryz.prog 26 #[.pointer (some ⟨b, o, none⟩)] w (OutE w e.tidy) := by
 induction N using Nat.strongRecOn with
 | _ N ih =>
 intro e b o w hN hx hxt hsz1
 have HIH := Lib.hid ih
 clear ih
 have hlt := hx.lt
 obtain ⟨k, n, ks⟩ := e
 obtain ⟨hk, -, -, htl⟩ := tree_parts hxt
 by_cases h6 : k = 6
 ·
  subst h6
  obtain ⟨u, v, rfl⟩ := two_kids hk (by omega)
  have hsz := Ex.size_eq (.mk 6 n [u, v])
  simp only [Ex.sizeL, Ex.kids_mk] at hsz
  have E1 : Hid ((Ex.mk 6 n [u, v]).tidy = sumT u.tidy v.tidy) := by show _ = _; exact Ex.tidy_sum
  have hut : u.tree tm am = true := Ex.treeL_mem htl (by simp)
  have hvt : v.tree tm am = true := Ex.treeL_mem htl (by simp)
  obtain ⟨hu1, hu2⟩ := tidy_spec tm am _ u (Nat.le_refl _) hut
  obtain ⟨hv1, hv2⟩ := tidy_spec tm am _ v (Nat.le_refl _) hvt
  clear htl hk
  obtain ⟨g0, g1, sx, cx, g2, g3⟩ := id hx
  simp only [Ex.kind_mk, Ex.num_mk, Ex.kids_mk] at g0 g1 g2
  obtain ⟨kb, ko, rfl⟩ := kid_some g3 (by simp [Ex.kids])
  have hu : ExAt w kb ko u := by have := kid_exAt g3 (i := 0) (e := u) rfl; simpa using this
  obtain ⟨-, hlen, hcap, -, -⟩ := kid_at g3
  unfold maxLen at hcap
  simp only [Ex.kids_mk, List.length_cons, List.length_nil, Nat.zero_add, Nat.reduceAdd] at g2 hlen hcap
  have Hg0 := Lib.hid g0
  have Hg2 := Lib.hid g2
  have hv : ExAt w kb (ko + 3) v := by have := kid_exAt g3 (i := 1) (e := v) rfl; simpa using this
  go_enter Tryz.func26, Tryz.ntmps26
  go_wp2_with fail
  have R := Blk.new3 w 34 (.int .i64 0) (.int .i64 0) (.slice none 0 0)
  have hB : Below w.heap.size w (w.alloc (.cells #[.int .i64 0, .int .i64 0, .slice none 0 0] 34)) := by (repeat' first | exact Below.refl _ _ | assumption | apply Below.alloc | apply Below.drew | apply Below.setCell | omega | (simp; done) | (simp; omega))
  have hz0 : (w.alloc (.cells #[.int .i64 0, .int .i64 0, .slice none 0 0] 34)).heap.size = w.heap.size + 1 := by simp
  generalize w.alloc (.cells #[.int .i64 0, .int .i64 0, .slice none 0 0] 34) = w1 at R hB hz0 ⊢
  have hx1 := hx.below hB
  clear g0 g1 g2
  refine (HIH.out u.size (by omega) u _ _ _ (Nat.le_refl _) (hu.below hB) hut (by omega)).mono ?_
  rintro f w2 ⟨s2, c2, rfl, hf2, hb2⟩
  have hz2 := hb2.size
  have g2q := (hb2.cell (p := ⟨b, o + 2, none⟩) (by have := hx1.lt; omega)).trans ((hB.cell (p := ⟨b, o + 2, none⟩) hlt).trans Hg2.out)
  have hlt2 : b < w2.heap.size := by have := hx1.lt; omega
  go_wp2_with fail
  clear g2q
  have U := Blk.new3 w2 34 (.int .i64 u.tidy.kind) (.int .i64 u.tidy.num) (.slice s2 u.tidy.kids.length c2)
  have hb3 : Below w1.heap.size w1 (w2.alloc (.cells #[.int .i64 u.tidy.kind, .int .i64 u.tidy.num, .slice s2 u.tidy.kids.length c2] 34)) := hb2.alloc hz2 _
  have hd2 := (Rds.one hf2.rds).alloc (.cells #[.int .i64 u.tidy.kind, .int .i64 u.tidy.num, .slice s2 u.tidy.kids.length c2] 34)
  generalize w2.alloc (.cells #[.int .i64 u.tidy.kind, .int .i64 u.tidy.num, .slice s2 u.tidy.kids.length c2] 34) = w3 at U hb3 hd2 ⊢
  have hua : ExAt w3 w2.heap.size 0 u.tidy := ⟨U.c0, U.c1, s2, c2, U.c2, hd2⟩
  have hz3 := hb3.size
  refine (HIH.out v.size (by omega) v _ _ _ (Nat.le_refl _) ((hv.below hB).below hb3) hvt (by omega)).mono ?_
  rintro f w4 ⟨s4, c4, rfl, hf4, hb4⟩
  have hz4 := hb4.size
  have hb14 := hb3.trans (hb4.mono hz3)
  have g0q := (hb14.cell (p := ⟨b, o, none⟩) (by have := hx1.lt; omega)).trans ((hB.cell (p := ⟨b, o, none⟩) hlt).trans Hg0.out)
  have hlt4 : b < w4.heap.size := by have := hx1.lt; omega
  go_wp2_with fail
  clear g0q
  have V := Blk.new3 w4 34 (.int .i64 v.tidy.kind) (.int .i64 v.tidy.num) (.slice s4 v.tidy.kids.length c4)
  have hb5 : Below w1.heap.size w1 (w4.alloc (.cells #[.int .i64 v.tidy.kind, .int .i64 v.tidy.num, .slice s4 v.tidy.kids.length c4] 34)) := hb14.alloc (by omega) _
  have hd4 := (Rds.one hf4.rds).alloc (.cells #[.int .i64 v.tidy.kind, .int .i64 v.tidy.num, .slice s4 v.tidy.kids.length c4] 34)
  have hua5 := (hua.below hb4).below (Below.alloc (Below.refl w4.heap.size w4) (Nat.le_refl _) (.cells #[.int .i64 v.tidy.kind, .int .i64 v.tidy.num, .slice s4 v.tidy.kids.length c4] 34))
  generalize w4.alloc (.cells #[.int .i64 v.tidy.kind, .int .i64 v.tidy.num, .slice s4 v.tidy.kids.length c4] 34) = v5 at V hb5 hd4 hua5 ⊢
  have hva : ExAt v5 w4.heap.size 0 v.tidy := ⟨V.c0, V.c1, s4, c4, V.c2, hd4⟩
  refine (l02Sum_i ht ha hua5 hva hu1 hv1 (by omega)).mono ?_
  rintro f v6 ⟨s6, c6, rfl, hf6, hb6⟩
  have hz5 := hb5.size
  replace hB := Below.on hB (hb5.trans (hb6.mono hz5)) hB.size
  replace R := R.below (hb5.trans (hb6.mono hz5))
  have hz6 := hb6.size
  -- the function's end: R the result's box, hB; h3 : Freshs W V .. (W below V), E1 : Hid (result = (sumT u.tidy v.tidy))
  -- the result box w.heap.size of world v6 is set to an expression; goal: bodyPost. R : the box; Rests: hs5 : Spares, T2
  have r0 := R.c0
  have r1 := R.c1
  have r2 := R.c2
  have z0 := R.frozen 0
  have z1 := R.frozen 1
  have z2 := R.frozen 2
  have ltR := R.lt
  go_wp2_with fail
  have T2 := ((R.set 0 (.int .i64 (sumT u.tidy v.tidy).kind)).set 1 (.int .i64 (sumT u.tidy v.tidy).num)).set 2 (.slice s6 (sumT u.tidy v.tidy).kids.length c6)
  have hs5 : Spares (fun y => y = w.heap.size) v6 (((v6.setCell ⟨w.heap.size, 0, none⟩ (.int .i64 (sumT u.tidy v.tidy).kind)).setCell ⟨w.heap.size, 1, none⟩ (.int .i64 (sumT u.tidy v.tidy).num)).setCell ⟨w.heap.size, 2, none⟩ (.slice s6 (sumT u.tidy v.tidy).kids.length c6)) := Spares.set (Spares.set (Spares.set (Spares.refl v6)))
  generalize (((v6.setCell ⟨w.heap.size, 0, none⟩ (.int .i64 (sumT u.tidy v.tidy).kind)).setCell ⟨w.heap.size, 1, none⟩ (.int .i64 (sumT u.tidy v.tidy).num)).setCell ⟨w.heap.size, 2, none⟩ (.slice s6 (sumT u.tidy v.tidy).kids.length c6)) = w5 at T2 hs5 ⊢
  have t0 := T2.c0
  have t1 := T2.c1
  have t2 := T2.c2
  have hzB5 := hB.size
  have hB5 := hB.trans (hs5.below (B := w.heap.size) (by omega) (fun y hy => by omega))
  refine bodyPost_ret (v := .agg #[.int .i64 (sumT u.tidy v.tidy).kind, .int .i64 (sumT u.tidy v.tidy).num, .slice s6 (sumT u.tidy v.tidy).kids.length c6]) (by simp [results, Tryz.results26, go_sem, t0, t1, t2]) rfl ?_
  rw [E1.out]
  exact ⟨_, _, rfl, Freshs.from (Freshs.keep hf6 (fun y _ hy2 => hs5.block y hy2 (by omega))) (by omega), hB5⟩
 have c6 : (k == 6) = false := by simp [h6]
 by_cases h7 : k = 7
 ·
  subst h7
  obtain ⟨u, v, rfl⟩ := two_kids hk (by omega)
  have hsz := Ex.size_eq (.mk 7 n [u, v])
  simp only [Ex.sizeL, Ex.kids_mk] at hsz
  have E1 : Hid ((Ex.mk 7 n [u, v]).tidy = Ex.dot u.tidy v.tidy) := by show _ = _; exact Ex.tidy_dot
  have hut : u.tree tm am = true := Ex.treeL_mem htl (by simp)
  have hvt : v.tree tm am = true := Ex.treeL_mem htl (by simp)
  obtain ⟨hu1, hu2⟩ := tidy_spec tm am _ u (Nat.le_refl _) hut
  obtain ⟨hv1, hv2⟩ := tidy_spec tm am _ v (Nat.le_refl _) hvt
  clear htl hk
  obtain ⟨g0, g1, sx, cx, g2, g3⟩ := id hx
  simp only [Ex.kind_mk, Ex.num_mk, Ex.kids_mk] at g0 g1 g2
  obtain ⟨kb, ko, rfl⟩ := kid_some g3 (by simp [Ex.kids])
  have hu : ExAt w kb ko u := by have := kid_exAt g3 (i := 0) (e := u) rfl; simpa using this
  obtain ⟨-, hlen, hcap, -, -⟩ := kid_at g3
  unfold maxLen at hcap
  simp only [Ex.kids_mk, List.length_cons, List.length_nil, Nat.zero_add, Nat.reduceAdd] at g2 hlen hcap
  have Hg0 := Lib.hid g0
  have Hg2 := Lib.hid g2
  have hv : ExAt w kb (ko + 3) v := by have := kid_exAt g3 (i := 1) (e := v) rfl; simpa using this
  go_enter Tryz.func26, Tryz.ntmps26
  go_wp2_with fail
  have R := Blk.new3 w 34 (.int .i64 0) (.int .i64 0) (.slice none 0 0)
  have hB : Below w.heap.size w (w.alloc (.cells #[.int .i64 0, .int .i64 0, .slice none 0 0] 34)) := by (repeat' first | exact Below.refl _ _ | assumption | apply Below.alloc | apply Below.drew | apply Below.setCell | omega | (simp; done) | (simp; omega))
  have hz0 : (w.alloc (.cells #[.int .i64 0, .int .i64 0, .slice none 0 0] 34)).heap.size = w.heap.size + 1 := by simp
  generalize w.alloc (.cells #[.int .i64 0, .int .i64 0, .slice none 0 0] 34) = w1 at R hB hz0 ⊢
  have hx1 := hx.below hB
  clear g0 g1 g2
  refine (HIH.out u.size (by omega) u _ _ _ (Nat.le_refl _) (hu.below hB) hut (by omega)).mono ?_
  rintro f w2 ⟨s2, c2, rfl, hf2, hb2⟩
  have hz2 := hb2.size
  have g2q := (hb2.cell (p := ⟨b, o + 2, none⟩) (by have := hx1.lt; omega)).trans ((hB.cell (p := ⟨b, o + 2, none⟩) hlt).trans Hg2.out)
  have hlt2 : b < w2.heap.size := by have := hx1.lt; omega
  go_wp2_with fail
  clear g2q
  have U := Blk.new3 w2 34 (.int .i64 u.tidy.kind) (.int .i64 u.tidy.num) (.slice s2 u.tidy.kids.length c2)
  have hb3 : Below w1.heap.size w1 (w2.alloc (.cells #[.int .i64 u.tidy.kind, .int .i64 u.tidy.num, .slice s2 u.tidy.kids.length c2] 34)) := hb2.alloc hz2 _
  have hd2 := (Rds.one hf2.rds).alloc (.cells #[.int .i64 u.tidy.kind, .int .i64 u.tidy.num, .slice s2 u.tidy.kids.length c2] 34)
  generalize w2.alloc (.cells #[.int .i64 u.tidy.kind, .int .i64 u.tidy.num, .slice s2 u.tidy.kids.length c2] 34) = w3 at U hb3 hd2 ⊢
  have hua : ExAt w3 w2.heap.size 0 u.tidy := ⟨U.c0, U.c1, s2, c2, U.c2, hd2⟩
  have hz3 := hb3.size
  refine (HIH.out v.size (by omega) v _ _ _ (Nat.le_refl _) ((hv.below hB).below hb3) hvt (by omega)).mono ?_
  rintro f w4 ⟨s4, c4, rfl, hf4, hb4⟩
  have hz4 := hb4.size
  have hb14 := hb3.trans (hb4.mono hz3)
  have g0q := (hb14.cell (p := ⟨b, o, none⟩) (by have := hx1.lt; omega)).trans ((hB.cell (p := ⟨b, o, none⟩) hlt).trans Hg0.out)
  have hlt4 : b < w4.heap.size := by have := hx1.lt; omega
  go_wp2_with fail
  clear g0q
  have V := Blk.new3 w4 34 (.int .i64 v.tidy.kind) (.int .i64 v.tidy.num) (.slice s4 v.tidy.kids.length c4)
  have hb5 : Below w1.heap.size w1 (w4.alloc (.cells #[.int .i64 v.tidy.kind, .int .i64 v.tidy.num, .slice s4 v.tidy.kids.length c4] 34)) := hb14.alloc (by omega) _
  have hd4 := (Rds.one hf4.rds).alloc (.cells #[.int .i64 v.tidy.kind, .int .i64 v.tidy.num, .slice s4 v.tidy.kids.length c4] 34)
  have hua5 := (hua.below hb4).below (Below.alloc (Below.refl w4.heap.size w4) (Nat.le_refl _) (.cells #[.int .i64 v.tidy.kind, .int .i64 v.tidy.num, .slice s4 v.tidy.kids.length c4] 34))
  generalize w4.alloc (.cells #[.int .i64 v.tidy.kind, .int .i64 v.tidy.num, .slice s4 v.tidy.kids.length c4] 34) = v5 at V hb5 hd4 hua5 ⊢
  have hva : ExAt v5 w4.heap.size 0 v.tidy := ⟨V.c0, V.c1, s4, c4, V.c2, hd4⟩
  refine (l02Dot_all tm am _ _ _ _ _ _ _ _ (Nat.le_refl _) hua5 hva hu1 hv1 (by omega)).mono ?_
  rintro f v6 ⟨s6, c6, rfl, hf6, hb6⟩
  have hz5 := hb5.size
  replace hB := Below.on hB (hb5.trans (hb6.mono hz5)) hB.size
  replace R := R.below (hb5.trans (hb6.mono hz5))
  have hz6 := hb6.size
  -- the function's end: R the result's box, hB; h3 : Freshs W V .. (W below V), E1 : Hid (result = (Ex.dot u.tidy v.tidy))
  -- the result box w.heap.size of world v6 is set to an expression; goal: bodyPost. R : the box; Rests: hs5 : Spares, T2
  have r0 := R.c0
  have r1 := R.c1
  have r2 := R.c2
  have z0 := R.frozen 0
  have z1 := R.frozen 1
  have z2 := R.frozen 2
  have ltR := R.lt
  go_wp2_with fail
  have T2 := ((R.set 0 (.int .i64 (Ex.dot u.tidy v.tidy).kind)).set 1 (.int .i64 (Ex.dot u.tidy v.tidy).num)).set 2 (.slice s6 (Ex.dot u.tidy v.tidy).kids.length c6)
  have hs5 : Spares (fun y => y = w.heap.size) v6 (((v6.setCell ⟨w.heap.size, 0, none⟩ (.int .i64 (Ex.dot u.tidy v.tidy).kind)).setCell ⟨w.heap.size, 1, none⟩ (.int .i64 (Ex.dot u.tidy v.tidy).num)).setCell ⟨w.heap.size, 2, none⟩ (.slice s6 (Ex.dot u.tidy v.tidy).kids.length c6)) := Spares.set (Spares.set (Spares.set (Spares.refl v6)))
  generalize (((v6.setCell ⟨w.heap.size, 0, none⟩ (.int .i64 (Ex.dot u.tidy v.tidy).kind)).setCell ⟨w.heap.size, 1, none⟩ (.int .i64 (Ex.dot u.tidy v.tidy).num)).setCell ⟨w.heap.size, 2, none⟩ (.slice s6 (Ex.dot u.tidy v.tidy).kids.length c6)) = w5 at T2 hs5 ⊢
  have t0 := T2.c0
  have t1 := T2.c1
  have t2 := T2.c2
  have hzB5 := hB.size
  have hB5 := hB.trans (hs5.below (B := w.heap.size) (by omega) (fun y hy => by omega))
  refine bodyPost_ret (v := .agg #[.int .i64 (Ex.dot u.tidy v.tidy).kind, .int .i64 (Ex.dot u.tidy v.tidy).num, .slice s6 (Ex.dot u.tidy v.tidy).kids.length c6]) (by simp [results, Tryz.results26, go_sem, t0, t1, t2]) rfl ?_
  rw [E1.out]
  exact ⟨_, _, rfl, Freshs.from (Freshs.keep hf6 (fun y _ hy2 => hs5.block y hy2 (by omega))) (by omega), hB5⟩
 have c7 : (k == 7) = false := by simp [h7]
 by_cases h8 : k = 8
 ·
  subst h8
  obtain ⟨u, rfl⟩ := one_kid hk (by omega)
  have hsz := Ex.size_eq (.mk 8 n [u])
  simp only [Ex.sizeL, Ex.kids_mk] at hsz
  have E1 : Hid ((Ex.mk 8 n [u]).tidy = u.tidy.star) := by show _ = _; exact Ex.tidy_star
  have hut : u.tree tm am = true := Ex.treeL_mem htl (by simp)
  obtain ⟨hu1, hu2⟩ := tidy_spec tm am _ u (Nat.le_refl _) hut
  clear htl hk
  obtain ⟨g0, g1, sx, cx, g2, g3⟩ := id hx
  simp only [Ex.kind_mk, Ex.num_mk, Ex.kids_mk] at g0 g1 g2
  obtain ⟨kb, ko, rfl⟩ := kid_some g3 (by simp [Ex.kids])
  have hu : ExAt w kb ko u := by have := kid_exAt g3 (i := 0) (e := u) rfl; simpa using this
  obtain ⟨-, hlen, hcap, -, -⟩ := kid_at g3
  unfold maxLen at hcap
  simp only [Ex.kids_mk, List.length_cons, List.length_nil, Nat.zero_add, Nat.reduceAdd] at g2 hlen hcap
  have Hg0 := Lib.hid g0
  have Hg2 := Lib.hid g2
  go_enter Tryz.func26, Tryz.ntmps26
  go_wp2_with fail
  have R := Blk.new3 w 34 (.int .i64 0) (.int .i64 0) (.slice none 0 0)
  have hB : Below w.heap.size w (w.alloc (.cells #[.int .i64 0, .int .i64 0, .slice none 0 0] 34)) := by (repeat' first | exact Below.refl _ _ | assumption | apply Below.alloc | apply Below.drew | apply Below.setCell | omega | (simp; done) | (simp; omega))
  have hz0 : (w.alloc (.cells #[.int .i64 0, .int .i64 0, .slice none 0 0] 34)).heap.size = w.heap.size + 1 := by simp
  generalize w.alloc (.cells #[.int .i64 0, .int .i64 0, .slice none 0 0] 34) = w1 at R hB hz0 ⊢
  have hx1 := hx.below hB
  clear g0 g1 g2
  refine (HIH.out u.size (by omega) u _ _ _ (Nat.le_refl _) (hu.below hB) hut (by omega)).mono ?_
  rintro f w2 ⟨s2, c2, rfl, hf2, hb2⟩
  have hz2 := hb2.size
  go_wp2_with fail
  have U := Blk.new3 w2 34 (.int .i64 u.tidy.kind) (.int .i64 u.tidy.num) (.slice s2 u.tidy.kids.length c2)
  have hb3 : Below w1.heap.size w1 (w2.alloc (.cells #[.int .i64 u.tidy.kind, .int .i64 u.tidy.num, .slice s2 u.tidy.kids.length c2] 34)) := hb2.alloc hz2 _
  have hd2 := (Rds.one hf2.rds).alloc (.cells #[.int .i64 u.tidy.kind, .int .i64 u.tidy.num, .slice s2 u.tidy.kids.length c2] 34)
  generalize w2.alloc (.cells #[.int .i64 u.tidy.kind, .int .i64 u.tidy.num, .slice s2 u.tidy.kids.length c2] 34) = w3 at U hb3 hd2 ⊢
  have hua : ExAt w3 w2.heap.size 0 u.tidy := ⟨U.c0, U.c1, s2, c2, U.c2, hd2⟩
  have hz3 := hb3.size
  refine (l02Star_i hua (by omega)).mono ?_
  rintro f w4 ⟨s4, c4, rfl, hf4, hb4⟩
  replace hB := Below.on hB (hb3.trans (hb4.mono hz3)) hB.size
  replace R := R.below (hb3.trans (hb4.mono hz3))
  have hz4 := hb4.size
  -- the function's end: R the result's box, hB; h3 : Freshs W V .. (W below V), E1 : Hid (result = u.tidy.star)
  -- the result box w.heap.size of world w4 is set to an expression; goal: bodyPost. R : the box; Rests: hs5 : Spares, T2
  have r0 := R.c0
  have r1 := R.c1
  have r2 := R.c2
  have z0 := R.frozen 0
  have z1 := R.frozen 1
  have z2 := R.frozen 2
  have ltR := R.lt
  go_wp2_with fail
  have T2 := ((R.set 0 (.int .i64 u.tidy.star.kind)).set 1 (.int .i64 u.tidy.star.num)).set 2 (.slice s4 u.tidy.star.kids.length c4)
  have hs5 : Spares (fun y => y = w.heap.size) w4 (((w4.setCell ⟨w.heap.size, 0, none⟩ (.int .i64 u.tidy.star.kind)).setCell ⟨w.heap.size, 1, none⟩ (.int .i64 u.tidy.star.num)).setCell ⟨w.heap.size, 2, none⟩ (.slice s4 u.tidy.star.kids.length c4)) := Spares.set (Spares.set (Spares.set (Spares.refl w4)))
  generalize (((w4.setCell ⟨w.heap.size, 0, none⟩ (.int .i64 u.tidy.star.kind)).setCell ⟨w.heap.size, 1, none⟩ (.int .i64 u.tidy.star.num)).setCell ⟨w.heap.size, 2, none⟩ (.slice s4 u.tidy.star.kids.length c4)) = w5 at T2 hs5 ⊢
  have t0 := T2.c0
  have t1 := T2.c1
  have t2 := T2.c2
  have hzB5 := hB.size
  have hB5 := hB.trans (hs5.below (B := w.heap.size) (by omega) (fun y hy => by omega))
  refine bodyPost_ret (v := .agg #[.int .i64 u.tidy.star.kind, .int .i64 u.tidy.star.num, .slice s4 u.tidy.star.kids.length c4]) (by simp [results, Tryz.results26, go_sem, t0, t1, t2]) rfl ?_
  rw [E1.out]
  exact ⟨_, _, rfl, Freshs.from (Freshs.keep hf4 (fun y _ hy2 => hs5.block y hy2 (by omega))) (by omega), hB5⟩
 have c8 : (k == 8) = false := by simp [h8]
 have E1 : Hid ((Ex.mk k n ks).tidy = .mk k n ks) := by show _ = _; exact Ex.tidy_else h6 h7 h8
 clear htl hk h6 h7 h8
 obtain ⟨g0, g1, sx, cx, g2, g3⟩ := id hx
 simp only [Ex.kind_mk, Ex.num_mk, Ex.kids_mk] at g0 g1 g2
 skip
 go_enter Tryz.func26, Tryz.ntmps26
 go_wp2_with fail
 have R := Blk.new3 w 34 (.int .i64 0) (.int .i64 0) (.slice none 0 0)
 have hB : Below w.heap.size w (w.alloc (.cells #[.int .i64 0, .int .i64 0, .slice none 0 0] 34)) := by (repeat' first | exact Below.refl _ _ | assumption | apply Below.alloc | apply Below.drew | apply Below.setCell | omega | (simp; done) | (simp; omega))
 have hz0 : (w.alloc (.cells #[.int .i64 0, .int .i64 0, .slice none 0 0] 34)).heap.size = w.heap.size + 1 := by simp
 generalize w.alloc (.cells #[.int .i64 0, .int .i64 0, .slice none 0 0] 34) = w1 at R hB hz0 ⊢
 have hx1 := hx.below hB
 clear g0 g1 g2
 refine (l01Own_e hx1 (by omega)).mono ?_
 rintro f w3 ⟨s3, c3, rfl, hf, hb⟩
 replace hB := Below.on hB hb hB.size
 replace R := R.below hb
 have hz3 := hb.size
 -- the function's end: R the result's box, hB; h3 : Freshs W V .. (W below V), E1 : Hid (result = (Ex.mk k n ks))
 -- the result box w.heap.size of world w3 is set to an expression; goal: bodyPost. R : the box; Rests: hs5 : Spares, T2
 have r0 := R.c0
 have r1 := R.c1
 have r2 := R.c2
 have z0 := R.frozen 0
 have z1 := R.frozen 1
 have z2 := R.frozen 2
 have ltR := R.lt
 go_wp2_with fail
 have T2 := ((R.set 0 (.int .i64 (Ex.mk k n ks).kind)).set 1 (.int .i64 (Ex.mk k n ks).num)).set 2 (.slice s3 (Ex.mk k n ks).kids.length c3)
 have hs5 : Spares (fun y => y = w.heap.size) w3 (((w3.setCell ⟨w.heap.size, 0, none⟩ (.int .i64 (Ex.mk k n ks).kind)).setCell ⟨w.heap.size, 1, none⟩ (.int .i64 (Ex.mk k n ks).num)).setCell ⟨w.heap.size, 2, none⟩ (.slice s3 (Ex.mk k n ks).kids.length c3)) := Spares.set (Spares.set (Spares.set (Spares.refl w3)))
 generalize (((w3.setCell ⟨w.heap.size, 0, none⟩ (.int .i64 (Ex.mk k n ks).kind)).setCell ⟨w.heap.size, 1, none⟩ (.int .i64 (Ex.mk k n ks).num)).setCell ⟨w.heap.size, 2, none⟩ (.slice s3 (Ex.mk k n ks).kids.length c3)) = w5 at T2 hs5 ⊢
 have t0 := T2.c0
 have t1 := T2.c1
 have t2 := T2.c2
 have hzB5 := hB.size
 have hB5 := hB.trans (hs5.below (B := w.heap.size) (by omega) (fun y hy => by omega))
 refine bodyPost_ret (v := .agg #[.int .i64 (Ex.mk k n ks).kind, .int .i64 (Ex.mk k n ks).num, .slice s3 (Ex.mk k n ks).kids.length c3]) (by simp [results, Tryz.results26, go_sem, t0, t1, t2]) rfl ?_
 rw [E1.out]
 exact ⟨_, _, rfl, Freshs.from (Freshs.keep hf (fun y _ hy2 => hs5.block y hy2 (by omega))) (by omega), hB5⟩
end Go.Proofs.YtcokljhamhgelaaGreatDoor

namespace Go.Proofs.YtcokljhamhgelaaGreatDoor
set_option linter.unusedVariables false
set_option linter.unusedSimpArgs false
open Go.ChangeShapes Go.WideShapes Go.ChangeAt Go.RowKit Go.Deep
theorem Blk.new6 (w : World) (t : TypeId) (a b c d e f : Value) : Blk (w.alloc (.cells #[a, b, c, d, e, f] t)) w.heap.size t [a, b, c, d, e, f] := Blk.made _ _ _
end Go.Proofs.YtcokljhamhgelaaGreatDoor

namespace Go.Proofs.YtcokljhamhgelaaGreatDoor
set_option linter.unusedVariables false
set_option linter.unusedSimpArgs false
open Go.ChangeShapes Go.WideShapes Go.ChangeAt Go.RowKit
theorem l01Size_all (N : Nat) : ∀ (e : Ex) (b o : Nat) (w : World), e.size ≤ N → ExAt w b o e → e.size ≤ 1073741824 →
  Calls Tryz.prog 88 #[.pointer (some ⟨b, o, none⟩)] w fun f w' => f = .returned (.int .i64 e.size) ∧ w = w' := by
 induction N using Nat.strongRecOn with
 | _ N ih =>
 intro e b o w hN hr h1
 obtain ⟨_, _, s, c, g2, g3⟩ := hr
 obtain ⟨-, hlen, hcap, -, -⟩ := kid_at g3
 unfold maxLen at hcap
 have hse := Ex.size_eq e
 have Hse := Lib.hid hse
 have hks : Ex.sizeL e.kids < N := by omega
 have hks' : Ex.sizeL e.kids ≤ 1073741824 := by omega
 clear hse
 go_enter Tryz.func88, Tryz.ntmps88
 go_wp2_with fail
 go_loop [3, 4] (fun n i => ∃ k : Nat, k ≤ e.kids.length ∧ i = .int .i64 k ∧ n = .int .i64 (1 + (Ex.sizeL (e.kids.take k) : Nat) : Nat)) (fun _ i => e.kids.length - (intOf i).toNat)
 case atStart => exact ⟨0, by omega, rfl, by simp [Ex.sizeL]⟩
 case round =>
  obtain ⟨k, hk, rfl, rfl⟩ := hrel
  have hle := Ex.sizeL_take_le e.kids k
  by_cases hlt : k < e.kids.length
  ·
   obtain ⟨f, hf⟩ : ∃ f, e.kids[k]? = some f := ⟨_, List.getElem?_eq_getElem hlt⟩
   obtain ⟨b', o', rfl⟩ := kid_some g3 (by intro h; simp [h] at hlt)
   have hat := kid_exAt g3 hf
   have htk := Ex.sizeL_take_succ hf
   have hmem := Ex.sizeL_mem (List.mem_of_getElem? hf)
   have hle' := Ex.sizeL_take_le e.kids (k + 1)
   have hsum : Ex.sizeL (e.kids.take k) + f.size ≤ 1073741824 := by omega
   have Htk := Lib.hid htk
   clear htk
   go_wp2_with fail
   refine (ih _ (by omega) f _ _ _ (Nat.le_refl _) hat (by omega)).mono ?_
   rintro x w' ⟨rfl, rfl⟩
   go_wp2_with fail
   go_round
   case rel => exact ⟨k + 1, by omega, by go_num, by rw [Htk.out]; go_num⟩
   case measure => simp [intOf]; omega
  ·
   obtain rfl : k = e.kids.length := by omega
   go_wp2_with fail
   go_ret
   exact ⟨ret_int (by have := Hse.out; omega), rfl⟩
def SizeS (N : Nat) : Prop := ∀ (k n : Int) (ks : List Ex) (s : Option Addr) (cap : Nat) (w : World), Ex.sizeL ks ≤ N → Rd w (kidsD ks) (.slice s ks.length cap) → Ex.sizeL ks ≤ 1073741824 →
  Calls Tryz.prog 98 #[.agg #[.int .i64 k, .int .i64 n, .slice s ks.length cap]] w fun f w' => f = .returned (.int .i64 (1 + Ex.sizeL ks : Nat)) ∧ Below w.heap.size w w'
theorem implExprSize_all (N : Nat) : SizeS N := by
 induction N using Nat.strongRecOn with
 | _ N ih =>
 intro k0 n0 ks s cap w hN hr h1
 obtain ⟨-, hlen, hcap, -, -⟩ := kid_at hr
 unfold maxLen at hcap
 go_enter Tryz.func98, Tryz.ntmps98
 go_wp2_with fail
 go_loopw [3, 9] (fun n i wr => ∃ k : Nat, k ≤ ks.length ∧ i = .int .i64 k ∧ n = .int .i64 (1 + (Ex.sizeL (ks.take k) : Nat) : Nat) ∧ Below w.heap.size w wr) (fun _ i _ => ks.length - (intOf i).toNat)
 case atStart => exact ⟨0, by omega, rfl, by simp [Ex.sizeL], by (repeat' first | exact Below.refl _ _ | assumption | apply Below.alloc | apply Below.drew | apply Below.setCell | omega | (simp; done) | (simp; omega))⟩
 case round =>
  obtain ⟨k, hk, rfl, rfl, hB⟩ := hrel
  have hzB := hB.size
  have hle := Ex.sizeL_take_le ks k
  by_cases hlt : k < ks.length
  ·
   obtain ⟨f, hf⟩ : ∃ f, ks[k]? = some f := ⟨_, List.getElem?_eq_getElem hlt⟩
   obtain ⟨b', o', rfl⟩ := kid_some hr (by intro h; simp [h] at hlt)
   obtain ⟨-, s', c', g0, g1, g2, gr⟩ := kid_in (hr.below hB) hf
   have htk := Ex.sizeL_take_succ hf
   have hle' := Ex.sizeL_take_le ks (k + 1)
   have hsf := Ex.size_eq f
   have hmem := Ex.sizeL_mem (List.mem_of_getElem? hf)
   have hsum : Ex.sizeL (ks.take k) + (1 + Ex.sizeL f.kids) ≤ 1073741824 := by omega
   have Htk : Hid (Ex.sizeL (ks.take (k + 1)) = Ex.sizeL (ks.take k) + (1 + Ex.sizeL f.kids)) := by show _ = _; omega
   have hN' : Ex.sizeL f.kids < N := by omega
   clear htk hsf
   go_wp2_with fail
   refine (ih _ hN' _ _ _ _ _ _ (Nat.le_refl _) (gr.alloc _) (by omega)).mono ?_
   rintro x w1 ⟨rfl, hb⟩
   have hB1 : Below w.heap.size w w1 := Below.on (by (repeat' first | exact Below.refl _ _ | assumption | apply Below.alloc | apply Below.drew | apply Below.setCell | omega | (simp; done) | (simp; omega))) hb (by simp; omega)
   clear hb
   go_wp2_with fail
   go_roundw
   case rel => exact ⟨k + 1, by omega, by go_num, by rw [Htk.out]; go_num, hB1⟩
   case measure => simp [intOf]; omega
  ·
   obtain rfl : k = ks.length := by omega
   go_wp2_with fail
   go_ret
   exact ⟨ret_int (by simp), hB⟩
theorem implExprSize_i {k n : Int} {ks : List Ex} {s : Option Addr} {cap : Nat} {w : World} (hr : Rd w (kidsD ks) (.slice s ks.length cap)) (h1 : Ex.sizeL ks ≤ 1048576) :
  Calls Tryz.prog 98 #[.agg #[.int .i64 k, .int .i64 n, .slice s ks.length cap]] w fun f w' => f = .returned (.int .i64 (1 + Ex.sizeL ks : Nat)) ∧ Below w.heap.size w w' :=
 implExprSize_all _ k n ks s cap w (Nat.le_refl _) hr (by omega)
end Go.Proofs.YtcokljhamhgelaaGreatDoor
