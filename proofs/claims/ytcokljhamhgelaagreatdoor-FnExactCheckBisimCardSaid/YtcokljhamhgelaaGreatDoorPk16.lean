/-
  Parts of a proof, joined: SpDot, SpDot2, Same. No condition.
-/
import Derived.Test.YtcokljhamhgelaaGreatDoorPk9
import Derived.Test.YtcokljhamhgelaaGreatDoorPk10
namespace Go.Proofs.YtcokljhamhgelaaGreatDoor
set_option linter.unusedVariables false
set_option linter.unusedSimpArgs false
open Go.ChangeShapes Go.WideShapes Go.ChangeAt Go.RowKit Go.Deep Go.Sort
def OutE (w : World) (e : Ex) (f : Ending) (w' : World) : Prop := ∃ s' c', f = .returned (.agg #[.int .i64 e.kind, .int .i64 e.num, .slice s' e.kids.length c']) ∧ Freshs w w' [kidsD e.kids] [.slice s' e.kids.length c'] ∧ Below w.heap.size w w'
theorem Freshs.single {w w' : World} {d : D} {v : Value} (h : Freshs w w' [d] [v]) : Fresh w w' d v := by
 obtain ⟨F, h1, h2, h3⟩ := h
 simp only [Ows] at h1
 obtain ⟨x, r, G, K, e1, rfl, hx, rfl, rfl⟩ := h1
 simp only [List.cons.injEq, and_true] at e1
 subst e1
 rw [List.append_nil] at h2 h3
 exact ⟨G, hx, h2, h3⟩
theorem nil_freshs {w w' : World} : Freshs w w' [kidsD []] [.slice none 0 0] :=
 Freshs.one ⟨[], by simp only [kidsD, Ow]; exact ⟨none, 0, rfl, by simp, by simp [maxLen], by simp [Ex.cellsL], by simp, Or.inl (by simp)⟩, by simp, by simp⟩
theorem ows_two {w : World} {d e : D} {u v : Value} {F : List Nat} (h : Ows w [d, e] [u, v] F) : ∃ G K, F = G ++ K ∧ Ow w d u G ∧ Ow w e v K := by
 simp only [Ows] at h
 obtain ⟨x, r, G, K, e1, rfl, hx, y, r', G', K', e2, rfl, hy, rfl, rfl⟩ := h
 simp only [List.cons.injEq] at e1
 obtain ⟨rfl, rfl⟩ := e1
 simp only [List.cons.injEq] at e2
 obtain ⟨rfl, -⟩ := e2
 exact ⟨G, G', by rw [List.append_nil], hx, hy⟩
theorem one_fresh {W w w' : World} {x : Ex} {sx : Option Addr} {cx g t : Nat} (h : Freshs W w [kidsD x.kids] [.slice sx x.kids.length cx]) (hb : Below w.heap.size w w') (hz : W.heap.size ≤ w.heap.size) (hg : w.heap.size ≤ g)
  (hk : Blk w' g t [.int .i64 x.kind, .int .i64 x.num, .slice sx x.kids.length cx]) : Freshs W w' [kidsD [x]] [.slice (some ⟨g, 0, none⟩) 1 1] := by
 obtain ⟨F, h1, h2, h3⟩ := h.single
 refine Freshs.one ⟨g :: F, ?_, List.nodup_cons.2 ⟨fun hm => ?_, h2⟩, fun b hm => ?_⟩
 ·
  have h1' := h1.keep fun b hm => hb.block b (h1.lt b hm)
  unfold kidsD
  simp only [Ow]
  refine ⟨some ⟨g, 0, none⟩, 1, rfl, Nat.le_refl _, by unfold maxLen; omega, by rw [Ex.cellsL_length], (fun h => by cases h), Or.inr ⟨g, 0, [.int .i64 x.kind, .int .i64 x.num, .slice sx x.kids.length cx], F, rfl, rfl, hk.free, hk.row rfl, ?_⟩⟩
  simp only [Ex.cellsL, List.append_nil]
  rw [Ex.cells_eq]
  exact Ows.three h1'
 ·
  have := h1.lt g hm; omega
 ·
  rcases List.mem_cons.1 hm with rfl | hm
  ·
   omega
  ·
   exact h3 b hm
theorem two_fresh {W w w' : World} {x y : Ex} {sx sy : Option Addr} {cx cy g t : Nat} (h : Freshs W w [kidsD x.kids, kidsD y.kids] [.slice sx x.kids.length cx, .slice sy y.kids.length cy]) (hb : Below w.heap.size w w') (hz : W.heap.size ≤ w.heap.size) (hg : w.heap.size ≤ g)
  (hk : Blk w' g t [.int .i64 x.kind, .int .i64 x.num, .slice sx x.kids.length cx, .int .i64 y.kind, .int .i64 y.num, .slice sy y.kids.length cy]) : Freshs W w' [kidsD [x, y]] [.slice (some ⟨g, 0, none⟩) 2 2] := by
 obtain ⟨F, h1, h2, h3⟩ := h
 refine Freshs.one ⟨g :: F, ?_, List.nodup_cons.2 ⟨fun hm => ?_, h2⟩, fun b hm => ?_⟩
 ·
  obtain ⟨G, K, rfl, hx, hy⟩ := ows_two h1
  have hx' := hx.keep fun b hm => hb.block b (hx.lt b hm)
  have hy' := hy.keep fun b hm => hb.block b (hy.lt b hm)
  unfold kidsD
  simp only [Ow]
  refine ⟨some ⟨g, 0, none⟩, 2, rfl, Nat.le_refl _, by unfold maxLen; omega, by rw [Ex.cellsL_length], (fun h => by cases h), Or.inr ⟨g, 0, [.int .i64 x.kind, .int .i64 x.num, .slice sx x.kids.length cx, .int .i64 y.kind, .int .i64 y.num, .slice sy y.kids.length cy], G ++ K, rfl, rfl, hk.free, hk.row rfl, ?_⟩⟩
  simp only [Ex.cellsL, List.append_nil]
  rw [Ex.cells_eq, Ex.cells_eq]
  exact Ows.append (Ows.three hx') (Ows.three hy')
 ·
  have := h1.lt g hm; omega
 ·
  rcases List.mem_cons.1 hm with rfl | hm
  ·
   omega
  ·
   exact h3 b hm
theorem l02Zero_i {w : World} : Calls Tryz.prog 84 #[] w (OutE w (.leaf 1)) := by
 go_enter Tryz.func84, Tryz.ntmps84
 go_wp2_with fail
 have T := (((Blk.new3 w 34 (.int .i64 0) (.int .i64 0) (.slice none 0 0)).set 0 (.int .i64 1)).set 1 (.int .i64 0)).set 2 (.slice none 0 0)
 have t0 := T.c0
 have t1 := T.c1
 have t2 := T.c2
 exact bodyPost_ret (v := .agg #[.int .i64 1, .int .i64 0, .slice none 0 0]) (by simp [results, Tryz.results84, go_sem, t0, t1, t2]) rfl ⟨none, 0, rfl, nil_freshs, by (repeat' first | exact Below.refl _ _ | assumption | apply Below.alloc | apply Below.drew | apply Below.setCell | omega | (simp; done) | (simp; omega))⟩
theorem l02One_i {w : World} : Calls Tryz.prog 86 #[] w (OutE w (.leaf 2)) := by
 go_enter Tryz.func86, Tryz.ntmps86
 go_wp2_with fail
 have T := (((Blk.new3 w 34 (.int .i64 0) (.int .i64 0) (.slice none 0 0)).set 0 (.int .i64 2)).set 1 (.int .i64 0)).set 2 (.slice none 0 0)
 have t0 := T.c0
 have t1 := T.c1
 have t2 := T.c2
 exact bodyPost_ret (v := .agg #[.int .i64 2, .int .i64 0, .slice none 0 0]) (by simp [results, Tryz.results86, go_sem, t0, t1, t2]) rfl ⟨none, 0, rfl, nil_freshs, by (repeat' first | exact Below.refl _ _ | assumption | apply Below.alloc | apply Below.drew | apply Below.setCell | omega | (simp; done) | (simp; omega))⟩
set_option maxHeartbeats 4000000 in
theorem l02Pair_i {k k1 n1 k2 n2 : Int} {a1 a2 : Option Addr} {l1 c1 l2 c2 : Nat} {w : World} :
  Calls Tryz.prog 85 #[.int .i64 k, .agg #[.int .i64 k1, .int .i64 n1, .slice a1 l1 c1], .agg #[.int .i64 k2, .int .i64 n2, .slice a2 l2 c2]] w fun f w' => ∃ g, f = .returned (.agg #[.int .i64 k, .int .i64 0, .slice (some ⟨g, 0, none⟩) 2 2]) ∧ w.heap.size ≤ g ∧
   Blk w' g 34 [.int .i64 k1, .int .i64 n1, .slice a1 l1 c1, .int .i64 k2, .int .i64 n2, .slice a2 l2 c2] ∧ Below w.heap.size w w' := by
 go_enter Tryz.func85, Tryz.ntmps85
 go_wp2_with fail
 obtain ⟨wa, hwa⟩ : ∃ v, v = ((w.alloc (.cells #[.int .i64 k1, .int .i64 n1, .slice a1 l1 c1] 34)).alloc (.cells #[.int .i64 k2, .int .i64 n2, .slice a2 l2 c2] 34)) := ⟨_, rfl⟩
 have hBa : Below w.heap.size w wa := by rw [hwa]; (repeat' first | exact Below.refl _ _ | assumption | apply Below.alloc | apply Below.drew | apply Below.setCell | omega | (simp; done) | (simp; omega))
 have hza : wa.heap.size = w.heap.size + 1 + 1 := by rw [hwa]; simp
 rw [← hwa]
 have R := Blk.new3 wa 34 (.int .i64 k) (.int .i64 0) (.slice (some ⟨w.heap.size + 1 + 1 + 1, 0, none⟩) 2 2)
 have N := Blk.made (wa.alloc (.cells #[.int .i64 k, .int .i64 0, .slice (some ⟨w.heap.size + 1 + 1 + 1, 0, none⟩) 2 2] 34)) 34 #[.int .i64 k1, .int .i64 n1, .slice a1 l1 c1, .int .i64 k2, .int .i64 n2, .slice a2 l2 c2]
 have hg : (wa.alloc (.cells #[.int .i64 k, .int .i64 0, .slice (some ⟨w.heap.size + 1 + 1 + 1, 0, none⟩) 2 2] 34)).heap.size = w.heap.size + 1 + 1 + 1 := by simp; omega
 rw [hg] at N
 have T := R.alloc (.cells #[.int .i64 k1, .int .i64 n1, .slice a1 l1 c1, .int .i64 k2, .int .i64 n2, .slice a2 l2 c2] 34)
 have hB := (hBa.alloc (by omega) (.cells #[.int .i64 k, .int .i64 0, .slice (some ⟨w.heap.size + 1 + 1 + 1, 0, none⟩) 2 2] 34)).alloc (by omega) (.cells #[.int .i64 k1, .int .i64 n1, .slice a1 l1 c1, .int .i64 k2, .int .i64 n2, .slice a2 l2 c2] 34)
 rw [hza] at T
 generalize (wa.alloc (.cells #[.int .i64 k, .int .i64 0, .slice (some ⟨w.heap.size + 1 + 1 + 1, 0, none⟩) 2 2] 34)).alloc (.cells #[.int .i64 k1, .int .i64 n1, .slice a1 l1 c1, .int .i64 k2, .int .i64 n2, .slice a2 l2 c2] 34) = w4 at N T hB ⊢
 clear R hwa
 have t0 := T.c0
 have t1 := T.c1
 have t2 := T.c2
 refine bodyPost_ret (v := .agg #[.int .i64 k, .int .i64 0, .slice (some ⟨w.heap.size + 1 + 1 + 1, 0, none⟩) 2 2]) (by simp [results, Tryz.results85, go_sem, t0, t1, t2]) rfl ⟨_, rfl, by omega, N, hB⟩
theorem l01Own_e {e : Ex} {b o : Nat} {w : World} (h : ExAt w b o e) (h1 : e.size ≤ 1073741824) : Calls Tryz.prog 54 #[.pointer (some ⟨b, o, none⟩)] w (OutE w e) :=
 l01Own_same _ e b o w (Nat.le_refl _) h h1
set_option maxHeartbeats 4000000 in
theorem l02Star_i {e : Ex} {b o : Nat} {w : World} (h : ExAt w b o e) (h1 : e.size ≤ 1073741824) : Calls Tryz.prog 53 #[.pointer (some ⟨b, o, none⟩)] w (OutE w e.star) := by
 have hlt := h.lt
 go_enter Tryz.func53, Tryz.ntmps53
 go_wp2_with fail
 have R := Blk.new3 w 34 (.int .i64 0) (.int .i64 0) (.slice none 0 0)
 have hB : Below w.heap.size w (w.alloc (.cells #[.int .i64 0, .int .i64 0, .slice none 0 0] 34)) := by (repeat' first | exact Below.refl _ _ | assumption | apply Below.alloc | apply Below.drew | apply Below.setCell | omega | (simp; done) | (simp; omega))
 have hz0 : (w.alloc (.cells #[.int .i64 0, .int .i64 0, .slice none 0 0] 34)).heap.size = w.heap.size + 1 := by simp
 generalize w.alloc (.cells #[.int .i64 0, .int .i64 0, .slice none 0 0] 34) = w1 at R hB hz0 ⊢
 refine (l01Condition_all _ _ _ _ _ (Nat.le_refl _) (h.below hB)).mono ?_
 rintro f w2 ⟨rfl, rfl⟩
 have h' := h.below hB
 obtain ⟨g0, g1, s, c, g2, g3⟩ := h'
 cases hc : e.cond
 ·
  by_cases h8 : e.kind = 8
  ·
   have c8 : (e.kind == 8) = true := by simp [h8]
   have E1 : Hid (e.star = e) := by show _ = _; unfold Ex.star; rw [hc]; simp [h8]
   clear h8
   go_wp2_with fail
   refine (l01Own_e (h.below hB) h1).mono ?_
   rintro f w3 ⟨s3, c3, rfl, hf, hb⟩
   replace hB := Below.on hB hb hB.size
   replace R := R.below hb
   have hz3 := hb.size
   -- the function's end: R the result's box, hB; h3 : Freshs W V .. (W below V), E1 : Hid (result = e)
   -- the result box w.heap.size of world w3 is set to an expression; goal: bodyPost. R : the box; Rests: hs5 : Spares, T2
   have r0 := R.c0
   have r1 := R.c1
   have r2 := R.c2
   have z0 := R.frozen 0
   have z1 := R.frozen 1
   have z2 := R.frozen 2
   have ltR := R.lt
   go_wp2_with fail
   have T2 := ((R.set 0 (.int .i64 e.kind)).set 1 (.int .i64 e.num)).set 2 (.slice s3 e.kids.length c3)
   have hs5 : Spares (fun y => y = w.heap.size) w3 (((w3.setCell ⟨w.heap.size, 0, none⟩ (.int .i64 e.kind)).setCell ⟨w.heap.size, 1, none⟩ (.int .i64 e.num)).setCell ⟨w.heap.size, 2, none⟩ (.slice s3 e.kids.length c3)) := Spares.set (Spares.set (Spares.set (Spares.refl w3)))
   generalize (((w3.setCell ⟨w.heap.size, 0, none⟩ (.int .i64 e.kind)).setCell ⟨w.heap.size, 1, none⟩ (.int .i64 e.num)).setCell ⟨w.heap.size, 2, none⟩ (.slice s3 e.kids.length c3)) = w5 at T2 hs5 ⊢
   have t0 := T2.c0
   have t1 := T2.c1
   have t2 := T2.c2
   have hzB5 := hB.size
   have hB5 := hB.trans (hs5.below (B := w.heap.size) (by omega) (fun y hy => by omega))
   refine bodyPost_ret (v := .agg #[.int .i64 e.kind, .int .i64 e.num, .slice s3 e.kids.length c3]) (by simp [results, Tryz.results53, go_sem, t0, t1, t2]) rfl ?_
   rw [E1.out]
   exact ⟨_, _, rfl, Freshs.from (Freshs.keep hf (fun y _ hy2 => hs5.block y hy2 (by omega))) (by omega), hB5⟩
  ·
   have c8 : (e.kind == 8) = false := by simp [h8]
   have E1 : Hid (e.star = .mk 8 0 [e]) := by show _ = _; unfold Ex.star; rw [hc]; simp [h8]
   clear h8
   go_wp2_with fail
   refine (l01Own_e (h.below hB) h1).mono ?_
   rintro f w3 ⟨s3, c3, rfl, hf, hb⟩
   replace hB := Below.on hB hb hB.size
   replace R := R.below hb
   have hz3 := hb.size
   have r0 := R.c0
   have r1 := R.c1
   have r2 := R.c2
   have z0 := R.frozen 0
   have z1 := R.frozen 1
   have z2 := R.frozen 2
   have ltR := R.lt
   go_wp2_with fail
   have T2 := ((R.set 0 (.int .i64 8)).set 1 (.int .i64 0)).set 2 (.slice (some ⟨w3.heap.size, 0, none⟩) 1 1)
   have hs5 : Spares (fun y => y = w.heap.size) w3 (((w3.setCell ⟨w.heap.size, 0, none⟩ (.int .i64 8)).setCell ⟨w.heap.size, 1, none⟩ (.int .i64 0)).setCell ⟨w.heap.size, 2, none⟩ (.slice (some ⟨w3.heap.size, 0, none⟩) 1 1)) := Spares.set (Spares.set (Spares.set (Spares.refl w3)))
   have hz5 : (((w3.setCell ⟨w.heap.size, 0, none⟩ (.int .i64 8)).setCell ⟨w.heap.size, 1, none⟩ (.int .i64 0)).setCell ⟨w.heap.size, 2, none⟩ (.slice (some ⟨w3.heap.size, 0, none⟩) 1 1)).heap.size = w3.heap.size := by simp [World.setCell]
   generalize (((w3.setCell ⟨w.heap.size, 0, none⟩ (.int .i64 8)).setCell ⟨w.heap.size, 1, none⟩ (.int .i64 0)).setCell ⟨w.heap.size, 2, none⟩ (.slice (some ⟨w3.heap.size, 0, none⟩) 1 1)) = w5 at T2 hs5 hz5 ⊢
   have N := Blk.new3 w5 34 (.int .i64 e.kind) (.int .i64 e.num) (.slice s3 e.kids.length c3)
   have T3 := T2.alloc (.cells #[.int .i64 e.kind, .int .i64 e.num, .slice s3 e.kids.length c3] 34)
   have t0 := T3.c0
   have t1 := T3.c1
   have t2 := T3.c2
   have hf5 := Freshs.keep hf (fun y hy1 hy2 => hs5.block y hy2 (by omega))
   have hf6 := one_fresh hf5 (Below.alloc (Below.refl w5.heap.size w5) (Nat.le_refl _) _) (by omega) (Nat.le_refl _) N
   rw [hz5] at hf6
   have hzB5 := hB.size
   have hB6 := (hB.trans (hs5.below (B := w.heap.size) (by omega) (fun y hy => by omega))).alloc (by omega) (.cells #[.int .i64 e.kind, .int .i64 e.num, .slice s3 e.kids.length c3] 34)
   refine bodyPost_ret (v := .agg #[.int .i64 8, .int .i64 0, .slice (some ⟨w3.heap.size, 0, none⟩) 1 1]) (by simp [results, Tryz.results53, go_sem, t0, t1, t2]) rfl ?_
   rw [E1.out]
   exact ⟨_, _, rfl, hf6.from (by omega), hB6⟩
 ·
  have E1 : Hid (e.star = .leaf 2) := by show _ = _; unfold Ex.star; rw [hc]; simp
  go_wp2_with fail
  refine (l02One_i).mono ?_
  rintro f w3 ⟨s3, c3, rfl, hf, hb⟩
  replace hB := Below.on hB hb hB.size
  replace R := R.below hb
  have hz3 := hb.size
  -- the function's end: R the result's box, hB; h3 : Freshs W V .. (W below V), E1 : Hid (result = (Ex.leaf 2))
  -- the result box w.heap.size of world w3 is set to an expression; goal: bodyPost. R : the box; Rests: hs5 : Spares, T2
  have r0 := R.c0
  have r1 := R.c1
  have r2 := R.c2
  have z0 := R.frozen 0
  have z1 := R.frozen 1
  have z2 := R.frozen 2
  have ltR := R.lt
  go_wp2_with fail
  have T2 := ((R.set 0 (.int .i64 (Ex.leaf 2).kind)).set 1 (.int .i64 (Ex.leaf 2).num)).set 2 (.slice s3 (Ex.leaf 2).kids.length c3)
  have hs5 : Spares (fun y => y = w.heap.size) w3 (((w3.setCell ⟨w.heap.size, 0, none⟩ (.int .i64 (Ex.leaf 2).kind)).setCell ⟨w.heap.size, 1, none⟩ (.int .i64 (Ex.leaf 2).num)).setCell ⟨w.heap.size, 2, none⟩ (.slice s3 (Ex.leaf 2).kids.length c3)) := Spares.set (Spares.set (Spares.set (Spares.refl w3)))
  generalize (((w3.setCell ⟨w.heap.size, 0, none⟩ (.int .i64 (Ex.leaf 2).kind)).setCell ⟨w.heap.size, 1, none⟩ (.int .i64 (Ex.leaf 2).num)).setCell ⟨w.heap.size, 2, none⟩ (.slice s3 (Ex.leaf 2).kids.length c3)) = w5 at T2 hs5 ⊢
  have t0 := T2.c0
  have t1 := T2.c1
  have t2 := T2.c2
  have hzB5 := hB.size
  have hB5 := hB.trans (hs5.below (B := w.heap.size) (by omega) (fun y hy => by omega))
  refine bodyPost_ret (v := .agg #[.int .i64 (Ex.leaf 2).kind, .int .i64 (Ex.leaf 2).num, .slice s3 (Ex.leaf 2).kids.length c3]) (by simp [results, Tryz.results53, go_sem, t0, t1, t2]) rfl ?_
  rw [E1.out]
  exact ⟨_, _, rfl, Freshs.from (Freshs.keep hf (fun y _ hy2 => hs5.block y hy2 (by omega))) (by omega), hB5⟩
end Go.Proofs.YtcokljhamhgelaaGreatDoor

namespace Go.Proofs.YtcokljhamhgelaaGreatDoor
set_option linter.unusedVariables false
set_option linter.unusedSimpArgs false
open Go.ChangeShapes Go.WideShapes Go.ChangeAt Go.RowKit Go.Deep Go.Sort
set_option maxRecDepth 100000 in
set_option maxHeartbeats 8000000 in
theorem l02Dot_all (tm am : Int) (N : Nat) : ∀ (x y : Ex) (b o b' o' : Nat) (w : World), x.size ≤ N → ExAt w b o x → ExAt w b' o' y → x.tree tm am = true → y.tree tm am = true → x.size + y.size ≤ 1000000 →
  Calls Tryz.prog 52 #[.pointer (some ⟨b, o, none⟩), .pointer (some ⟨b', o', none⟩)] w (OutE w (x.dot y)) := by
 induction N using Nat.strongRecOn with
 | _ N ih =>
 intro x y b o b' o' w hN hx hy ht hty hsz1
 have HIH := Lib.hid ih
 clear ih
 have hltx := hx.lt
 have hlty := hy.lt
 obtain ⟨k, n, ks⟩ := x
 obtain ⟨k', n', ks'⟩ := y
 have edef : (Ex.mk k n ks).dot (.mk k' n' ks') = dotC k n ks (Ex.dotL ks) (.mk k' n' ks') := Ex.dot_eq ..
 by_cases h1 : k = 1
 ·
  subst h1
  have E1 : Hid ((Ex.mk 1 n ks).dot (.mk k' n' ks') = .leaf 1) := by show _ = _; rw [edef, dotC, if_pos (Or.inl rfl)]
  clear edef
  obtain ⟨g0, g1, sx, cx, g2, g3⟩ := id hx
  obtain ⟨k0, k1, sy, cy, k2, k3⟩ := id hy
  simp only [Ex.kind_mk, Ex.num_mk, Ex.kids_mk] at g0 g1 g2 k0 k1 k2
  skip
  go_enter Tryz.func52, Tryz.ntmps52
  go_wp2_with fail
  have R := Blk.new3 w 34 (.int .i64 0) (.int .i64 0) (.slice none 0 0)
  have hB : Below w.heap.size w (w.alloc (.cells #[.int .i64 0, .int .i64 0, .slice none 0 0] 34)) := by (repeat' first | exact Below.refl _ _ | assumption | apply Below.alloc | apply Below.drew | apply Below.setCell | omega | (simp; done) | (simp; omega))
  have hz0 : (w.alloc (.cells #[.int .i64 0, .int .i64 0, .slice none 0 0] 34)).heap.size = w.heap.size + 1 := by simp
  generalize w.alloc (.cells #[.int .i64 0, .int .i64 0, .slice none 0 0] 34) = w1 at R hB hz0 ⊢
  have hx1 := hx.below hB
  have hy1 := hy.below hB
  clear g0 g1 g2 k0 k1 k2
  refine (l02Zero_i).mono ?_
  rintro f w3 ⟨s3, c3, rfl, hf, hb⟩
  replace hB := Below.on hB hb hB.size
  replace R := R.below hb
  have hz3 := hb.size
  -- the function's end: R the result's box, hB; h3 : Freshs W V .. (W below V), E1 : Hid (result = (Ex.leaf 1))
  -- the result box w.heap.size of world w3 is set to an expression; goal: bodyPost. R : the box; Rests: hs5 : Spares, T2
  have r0 := R.c0
  have r1 := R.c1
  have r2 := R.c2
  have z0 := R.frozen 0
  have z1 := R.frozen 1
  have z2 := R.frozen 2
  have ltR := R.lt
  go_wp2_with fail
  have T2 := ((R.set 0 (.int .i64 (Ex.leaf 1).kind)).set 1 (.int .i64 (Ex.leaf 1).num)).set 2 (.slice s3 (Ex.leaf 1).kids.length c3)
  have hs5 : Spares (fun y => y = w.heap.size) w3 (((w3.setCell ⟨w.heap.size, 0, none⟩ (.int .i64 (Ex.leaf 1).kind)).setCell ⟨w.heap.size, 1, none⟩ (.int .i64 (Ex.leaf 1).num)).setCell ⟨w.heap.size, 2, none⟩ (.slice s3 (Ex.leaf 1).kids.length c3)) := Spares.set (Spares.set (Spares.set (Spares.refl w3)))
  generalize (((w3.setCell ⟨w.heap.size, 0, none⟩ (.int .i64 (Ex.leaf 1).kind)).setCell ⟨w.heap.size, 1, none⟩ (.int .i64 (Ex.leaf 1).num)).setCell ⟨w.heap.size, 2, none⟩ (.slice s3 (Ex.leaf 1).kids.length c3)) = w5 at T2 hs5 ⊢
  have t0 := T2.c0
  have t1 := T2.c1
  have t2 := T2.c2
  have hzB5 := hB.size
  have hB5 := hB.trans (hs5.below (B := w.heap.size) (by omega) (fun y hy => by omega))
  refine bodyPost_ret (v := .agg #[.int .i64 (Ex.leaf 1).kind, .int .i64 (Ex.leaf 1).num, .slice s3 (Ex.leaf 1).kids.length c3]) (by simp [results, Tryz.results52, go_sem, t0, t1, t2]) rfl ?_
  rw [E1.out]
  exact ⟨_, _, rfl, Freshs.from (Freshs.keep hf (fun y _ hy2 => hs5.block y hy2 (by omega))) (by omega), hB5⟩
 have c1 : (k == 1) = false := by simp [h1]
 by_cases h2 : k' = 1
 ·
  subst h2
  have E1 : Hid ((Ex.mk k n ks).dot (.mk 1 n' ks') = .leaf 1) := by show _ = _; rw [edef, dotC, if_pos (Or.inr (show (Ex.mk 1 n' ks').kind = 1 from rfl))]
  clear edef h1
  obtain ⟨g0, g1, sx, cx, g2, g3⟩ := id hx
  obtain ⟨k0, k1, sy, cy, k2, k3⟩ := id hy
  simp only [Ex.kind_mk, Ex.num_mk, Ex.kids_mk] at g0 g1 g2 k0 k1 k2
  skip
  go_enter Tryz.func52, Tryz.ntmps52
  go_wp2_with fail
  have R := Blk.new3 w 34 (.int .i64 0) (.int .i64 0) (.slice none 0 0)
  have hB : Below w.heap.size w (w.alloc (.cells #[.int .i64 0, .int .i64 0, .slice none 0 0] 34)) := by (repeat' first | exact Below.refl _ _ | assumption | apply Below.alloc | apply Below.drew | apply Below.setCell | omega | (simp; done) | (simp; omega))
  have hz0 : (w.alloc (.cells #[.int .i64 0, .int .i64 0, .slice none 0 0] 34)).heap.size = w.heap.size + 1 := by simp
  generalize w.alloc (.cells #[.int .i64 0, .int .i64 0, .slice none 0 0] 34) = w1 at R hB hz0 ⊢
  have hx1 := hx.below hB
  have hy1 := hy.below hB
  clear g0 g1 g2 k0 k1 k2
  refine (l02Zero_i).mono ?_
  rintro f w3 ⟨s3, c3, rfl, hf, hb⟩
  replace hB := Below.on hB hb hB.size
  replace R := R.below hb
  have hz3 := hb.size
  -- the function's end: R the result's box, hB; h3 : Freshs W V .. (W below V), E1 : Hid (result = (Ex.leaf 1))
  -- the result box w.heap.size of world w3 is set to an expression; goal: bodyPost. R : the box; Rests: hs5 : Spares, T2
  have r0 := R.c0
  have r1 := R.c1
  have r2 := R.c2
  have z0 := R.frozen 0
  have z1 := R.frozen 1
  have z2 := R.frozen 2
  have ltR := R.lt
  go_wp2_with fail
  have T2 := ((R.set 0 (.int .i64 (Ex.leaf 1).kind)).set 1 (.int .i64 (Ex.leaf 1).num)).set 2 (.slice s3 (Ex.leaf 1).kids.length c3)
  have hs5 : Spares (fun y => y = w.heap.size) w3 (((w3.setCell ⟨w.heap.size, 0, none⟩ (.int .i64 (Ex.leaf 1).kind)).setCell ⟨w.heap.size, 1, none⟩ (.int .i64 (Ex.leaf 1).num)).setCell ⟨w.heap.size, 2, none⟩ (.slice s3 (Ex.leaf 1).kids.length c3)) := Spares.set (Spares.set (Spares.set (Spares.refl w3)))
  generalize (((w3.setCell ⟨w.heap.size, 0, none⟩ (.int .i64 (Ex.leaf 1).kind)).setCell ⟨w.heap.size, 1, none⟩ (.int .i64 (Ex.leaf 1).num)).setCell ⟨w.heap.size, 2, none⟩ (.slice s3 (Ex.leaf 1).kids.length c3)) = w5 at T2 hs5 ⊢
  have t0 := T2.c0
  have t1 := T2.c1
  have t2 := T2.c2
  have hzB5 := hB.size
  have hB5 := hB.trans (hs5.below (B := w.heap.size) (by omega) (fun y hy => by omega))
  refine bodyPost_ret (v := .agg #[.int .i64 (Ex.leaf 1).kind, .int .i64 (Ex.leaf 1).num, .slice s3 (Ex.leaf 1).kids.length c3]) (by simp [results, Tryz.results52, go_sem, t0, t1, t2]) rfl ?_
  rw [E1.out]
  exact ⟨_, _, rfl, Freshs.from (Freshs.keep hf (fun y _ hy2 => hs5.block y hy2 (by omega))) (by omega), hB5⟩
 have c2 : (k' == 1) = false := by simp [h2]
 have hor : ¬ (k = 1 ∨ (Ex.mk k' n' ks').kind = 1) := fun q => q.elim h1 h2
 by_cases h3 : k = 2
 ·
  have E1 : Hid ((Ex.mk k n ks).dot (.mk k' n' ks') = .mk k' n' ks') := by show _ = _; rw [edef, dotC, if_neg hor, if_pos h3]
  subst h3
  clear edef h1 h2 hor c1
  obtain ⟨g0, g1, sx, cx, g2, g3⟩ := id hx
  obtain ⟨k0, k1, sy, cy, k2, k3⟩ := id hy
  simp only [Ex.kind_mk, Ex.num_mk, Ex.kids_mk] at g0 g1 g2 k0 k1 k2
  skip
  go_enter Tryz.func52, Tryz.ntmps52
  go_wp2_with fail
  have R := Blk.new3 w 34 (.int .i64 0) (.int .i64 0) (.slice none 0 0)
  have hB : Below w.heap.size w (w.alloc (.cells #[.int .i64 0, .int .i64 0, .slice none 0 0] 34)) := by (repeat' first | exact Below.refl _ _ | assumption | apply Below.alloc | apply Below.drew | apply Below.setCell | omega | (simp; done) | (simp; omega))
  have hz0 : (w.alloc (.cells #[.int .i64 0, .int .i64 0, .slice none 0 0] 34)).heap.size = w.heap.size + 1 := by simp
  generalize w.alloc (.cells #[.int .i64 0, .int .i64 0, .slice none 0 0] 34) = w1 at R hB hz0 ⊢
  have hx1 := hx.below hB
  have hy1 := hy.below hB
  clear g0 g1 g2 k0 k1 k2
  refine (l01Own_e hy1 (by omega)).mono ?_
  rintro f w3 ⟨s3, c3, rfl, hf, hb⟩
  replace hB := Below.on hB hb hB.size
  replace R := R.below hb
  have hz3 := hb.size
  -- the function's end: R the result's box, hB; h3 : Freshs W V .. (W below V), E1 : Hid (result = (Ex.mk k' n' ks'))
  -- the result box w.heap.size of world w3 is set to an expression; goal: bodyPost. R : the box; Rests: hs5 : Spares, T2
  have r0 := R.c0
  have r1 := R.c1
  have r2 := R.c2
  have z0 := R.frozen 0
  have z1 := R.frozen 1
  have z2 := R.frozen 2
  have ltR := R.lt
  go_wp2_with fail
  have T2 := ((R.set 0 (.int .i64 (Ex.mk k' n' ks').kind)).set 1 (.int .i64 (Ex.mk k' n' ks').num)).set 2 (.slice s3 (Ex.mk k' n' ks').kids.length c3)
  have hs5 : Spares (fun y => y = w.heap.size) w3 (((w3.setCell ⟨w.heap.size, 0, none⟩ (.int .i64 (Ex.mk k' n' ks').kind)).setCell ⟨w.heap.size, 1, none⟩ (.int .i64 (Ex.mk k' n' ks').num)).setCell ⟨w.heap.size, 2, none⟩ (.slice s3 (Ex.mk k' n' ks').kids.length c3)) := Spares.set (Spares.set (Spares.set (Spares.refl w3)))
  generalize (((w3.setCell ⟨w.heap.size, 0, none⟩ (.int .i64 (Ex.mk k' n' ks').kind)).setCell ⟨w.heap.size, 1, none⟩ (.int .i64 (Ex.mk k' n' ks').num)).setCell ⟨w.heap.size, 2, none⟩ (.slice s3 (Ex.mk k' n' ks').kids.length c3)) = w5 at T2 hs5 ⊢
  have t0 := T2.c0
  have t1 := T2.c1
  have t2 := T2.c2
  have hzB5 := hB.size
  have hB5 := hB.trans (hs5.below (B := w.heap.size) (by omega) (fun y hy => by omega))
  refine bodyPost_ret (v := .agg #[.int .i64 (Ex.mk k' n' ks').kind, .int .i64 (Ex.mk k' n' ks').num, .slice s3 (Ex.mk k' n' ks').kids.length c3]) (by simp [results, Tryz.results52, go_sem, t0, t1, t2]) rfl ?_
  rw [E1.out]
  exact ⟨_, _, rfl, Freshs.from (Freshs.keep hf (fun y _ hy2 => hs5.block y hy2 (by omega))) (by omega), hB5⟩
 have c3 : (k == 2) = false := by simp [h3]
 by_cases h4 : k' = 2
 ·
  have E1 : Hid ((Ex.mk k n ks).dot (.mk k' n' ks') = .mk k n ks) := by show _ = _; rw [edef, dotC, if_neg hor, if_neg h3, if_pos (show (Ex.mk k' n' ks').kind = 2 from h4)]
  subst h4
  clear edef h1 h2 hor c2 h3
  obtain ⟨g0, g1, sx, cx, g2, g3⟩ := id hx
  obtain ⟨k0, k1, sy, cy, k2, k3⟩ := id hy
  simp only [Ex.kind_mk, Ex.num_mk, Ex.kids_mk] at g0 g1 g2 k0 k1 k2
  skip
  go_enter Tryz.func52, Tryz.ntmps52
  go_wp2_with fail
  have R := Blk.new3 w 34 (.int .i64 0) (.int .i64 0) (.slice none 0 0)
  have hB : Below w.heap.size w (w.alloc (.cells #[.int .i64 0, .int .i64 0, .slice none 0 0] 34)) := by (repeat' first | exact Below.refl _ _ | assumption | apply Below.alloc | apply Below.drew | apply Below.setCell | omega | (simp; done) | (simp; omega))
  have hz0 : (w.alloc (.cells #[.int .i64 0, .int .i64 0, .slice none 0 0] 34)).heap.size = w.heap.size + 1 := by simp
  generalize w.alloc (.cells #[.int .i64 0, .int .i64 0, .slice none 0 0] 34) = w1 at R hB hz0 ⊢
  have hx1 := hx.below hB
  have hy1 := hy.below hB
  clear g0 g1 g2 k0 k1 k2
  refine (l01Own_e hx1 (by omega)).mono ?_
  rintro f w3 ⟨s3, c3, rfl, hf, hb⟩
  replace hB := Below.on hB hb hB.size
  replace R := R.below hb
  have hz3 := hb.size
  -- the function's end: R the result's box, hB; h3 : Freshs W V .. (W below V), E1 : Hid (result = (Ex.mk k n ks))
  -- the result box w.heap.size of world w3 is set to an expression; goal: bodyPost. R : the box; Rests: hs5 : Spares, T2
  have r0 := R.c0
  have r1 := R.c1
  have r2 := R.c2
  have z0 := R.frozen 0
  have z1 := R.frozen 1
  have z2 := R.frozen 2
  have ltR := R.lt
  go_wp2_with fail
  have T2 := ((R.set 0 (.int .i64 (Ex.mk k n ks).kind)).set 1 (.int .i64 (Ex.mk k n ks).num)).set 2 (.slice s3 (Ex.mk k n ks).kids.length c3)
  have hs5 : Spares (fun y => y = w.heap.size) w3 (((w3.setCell ⟨w.heap.size, 0, none⟩ (.int .i64 (Ex.mk k n ks).kind)).setCell ⟨w.heap.size, 1, none⟩ (.int .i64 (Ex.mk k n ks).num)).setCell ⟨w.heap.size, 2, none⟩ (.slice s3 (Ex.mk k n ks).kids.length c3)) := Spares.set (Spares.set (Spares.set (Spares.refl w3)))
  generalize (((w3.setCell ⟨w.heap.size, 0, none⟩ (.int .i64 (Ex.mk k n ks).kind)).setCell ⟨w.heap.size, 1, none⟩ (.int .i64 (Ex.mk k n ks).num)).setCell ⟨w.heap.size, 2, none⟩ (.slice s3 (Ex.mk k n ks).kids.length c3)) = w5 at T2 hs5 ⊢
  have t0 := T2.c0
  have t1 := T2.c1
  have t2 := T2.c2
  have hzB5 := hB.size
  have hB5 := hB.trans (hs5.below (B := w.heap.size) (by omega) (fun y hy => by omega))
  refine bodyPost_ret (v := .agg #[.int .i64 (Ex.mk k n ks).kind, .int .i64 (Ex.mk k n ks).num, .slice s3 (Ex.mk k n ks).kids.length c3]) (by simp [results, Tryz.results52, go_sem, t0, t1, t2]) rfl ?_
  rw [E1.out]
  exact ⟨_, _, rfl, Freshs.from (Freshs.keep hf (fun y _ hy2 => hs5.block y hy2 (by omega))) (by omega), hB5⟩
 have c4 : (k' == 2) = false := by simp [h4]
 by_cases h7 : k = 7
 rotate_left
 ·
  have E1 : Hid ((Ex.mk k n ks).dot (.mk k' n' ks') = .two 7 (.mk k n ks) (.mk k' n' ks')) := by show _ = _; rw [edef, dotC, if_neg hor, if_neg h3, if_neg (show ¬ (Ex.mk k' n' ks').kind = 2 from h4), if_neg h7]
  have c5 : (k == 7) = false := by simp [h7]
  clear edef h1 h2 h3 h4 h7 hor
  obtain ⟨g0, g1, sx, cx, g2, g3⟩ := id hx
  obtain ⟨k0, k1, sy, cy, k2, k3⟩ := id hy
  simp only [Ex.kind_mk, Ex.num_mk, Ex.kids_mk] at g0 g1 g2 k0 k1 k2
  skip
  go_enter Tryz.func52, Tryz.ntmps52
  go_wp2_with fail
  have R := Blk.new3 w 34 (.int .i64 0) (.int .i64 0) (.slice none 0 0)
  have hB : Below w.heap.size w (w.alloc (.cells #[.int .i64 0, .int .i64 0, .slice none 0 0] 34)) := by (repeat' first | exact Below.refl _ _ | assumption | apply Below.alloc | apply Below.drew | apply Below.setCell | omega | (simp; done) | (simp; omega))
  have hz0 : (w.alloc (.cells #[.int .i64 0, .int .i64 0, .slice none 0 0] 34)).heap.size = w.heap.size + 1 := by simp
  generalize w.alloc (.cells #[.int .i64 0, .int .i64 0, .slice none 0 0] 34) = w1 at R hB hz0 ⊢
  have hx1 := hx.below hB
  have hy1 := hy.below hB
  clear g0 g1 g2 k0 k1 k2
  refine (l01Own_e hx1 (by omega)).mono ?_
  rintro f w3 ⟨s3, c3, rfl, hf3, hb⟩
  replace hB := Below.on hB hb hB.size
  replace R := R.below hb
  have hz3 := hb.size
  clear hb
  go_wp2_with fail
  refine (l01Own_e (hy.below hB) (by omega)).mono ?_
  rintro f w4 ⟨s4, c4, rfl, hf4, hb4⟩
  replace hB := Below.on hB hb4 hB.size
  replace R := R.below hb4
  have hz4 := hb4.size
  have hxy := Freshs.cons hf3.single hf4 hb4 hz3
  simp only [Ex.kind_mk, Ex.num_mk, Ex.kids_mk]
  go_wp2_with fail
  refine (l02Pair_i).mono ?_
  rintro f v5 ⟨g, rfl, hg, hG, hb5⟩
  replace hB := Below.on hB hb5 hB.size
  replace R := R.below hb5
  have hz5 := hb5.size
  have hf5 := two_fresh (x := .mk k n ks) (y := .mk k' n' ks') hxy hb5 (by omega) hg hG
  -- the result box w.heap.size of world v5 is set to an expression; goal: bodyPost. R : the box; Rests: hs5 : Spares, T2
  have r0 := R.c0
  have r1 := R.c1
  have r2 := R.c2
  have z0 := R.frozen 0
  have z1 := R.frozen 1
  have z2 := R.frozen 2
  have ltR := R.lt
  go_wp2_with fail
  have T2 := ((R.set 0 (.int .i64 7)).set 1 (.int .i64 0)).set 2 (.slice (some ⟨g, 0, none⟩) 2 2)
  have hs5 : Spares (fun y => y = w.heap.size) v5 (((v5.setCell ⟨w.heap.size, 0, none⟩ (.int .i64 7)).setCell ⟨w.heap.size, 1, none⟩ (.int .i64 0)).setCell ⟨w.heap.size, 2, none⟩ (.slice (some ⟨g, 0, none⟩) 2 2)) := Spares.set (Spares.set (Spares.set (Spares.refl v5)))
  generalize (((v5.setCell ⟨w.heap.size, 0, none⟩ (.int .i64 7)).setCell ⟨w.heap.size, 1, none⟩ (.int .i64 0)).setCell ⟨w.heap.size, 2, none⟩ (.slice (some ⟨g, 0, none⟩) 2 2)) = w5 at T2 hs5 ⊢
  have t0 := T2.c0
  have t1 := T2.c1
  have t2 := T2.c2
  have hzB5 := hB.size
  have hB5 := hB.trans (hs5.below (B := w.heap.size) (by omega) (fun y hy => by omega))
  refine bodyPost_ret (v := .agg #[.int .i64 7, .int .i64 0, .slice (some ⟨g, 0, none⟩) 2 2]) (by simp [results, Tryz.results52, go_sem, t0, t1, t2]) rfl ?_
  rw [E1.out]
  exact ⟨_, _, rfl, Freshs.from (Freshs.keep hf5 (fun y _ hy2 => hs5.block y hy2 (by omega))) (by omega), hB5⟩
 subst h7
 obtain ⟨hk, -, -, htl⟩ := tree_parts ht
 obtain ⟨u, v, rfl⟩ := two_kids hk (by omega)
 have hsz := Ex.size_eq (.mk 7 n [u, v])
 simp only [Ex.sizeL, Ex.kids] at hsz
 have E1 : Hid ((Ex.mk 7 n [u, v]).dot (.mk k' n' ks') = u.dot (v.dot (.mk k' n' ks'))) := by
  show _ = _
  exact Ex.dot_seven h2 h4
 have hut : u.tree tm am = true := Ex.treeL_mem htl (by simp)
 have hvt : v.tree tm am = true := Ex.treeL_mem htl (by simp)
 obtain ⟨hd1, hd2⟩ := dot_spec tm am _ v (.mk k' n' ks') (Nat.le_refl _) hvt hty
 clear edef h1 h2 h3 h4 c1 c3 htl hk hor
 obtain ⟨g0, g1, sx, cx, g2, g3⟩ := id hx
 obtain ⟨k0, k1, sy, cy, k2, k3⟩ := id hy
 simp only [Ex.kind_mk, Ex.num_mk, Ex.kids_mk] at g0 g1 g2 k0 k1 k2
 obtain ⟨kb, ko, rfl⟩ := kid_some g3 (by simp [Ex.kids])
 have hu : ExAt w kb ko u := by have := kid_exAt g3 (i := 0) (e := u) rfl; simpa using this
 have hv : ExAt w kb (ko + 3) v := by have := kid_exAt g3 (i := 1) (e := v) rfl; simpa using this
 obtain ⟨-, hlen, hcap, -, -⟩ := kid_at g3
 unfold maxLen at hcap
 simp only [List.length_cons, List.length_nil, Nat.zero_add, Nat.reduceAdd] at g2 hlen hcap
 have Hg2 := Lib.hid g2
 go_enter Tryz.func52, Tryz.ntmps52
 go_wp2_with fail
 have R := Blk.new3 w 34 (.int .i64 0) (.int .i64 0) (.slice none 0 0)
 have hB : Below w.heap.size w (w.alloc (.cells #[.int .i64 0, .int .i64 0, .slice none 0 0] 34)) := by (repeat' first | exact Below.refl _ _ | assumption | apply Below.alloc | apply Below.drew | apply Below.setCell | omega | (simp; done) | (simp; omega))
 have hz0 : (w.alloc (.cells #[.int .i64 0, .int .i64 0, .slice none 0 0] 34)).heap.size = w.heap.size + 1 := by simp
 generalize w.alloc (.cells #[.int .i64 0, .int .i64 0, .slice none 0 0] 34) = w1 at R hB hz0 ⊢
 have hx1 := hx.below hB
 have hy1 := hy.below hB
 clear g0 g1 g2 k0 k1 k2
 have g2r := (hB.cell (p := ⟨b, o + 2, none⟩) hltx).trans Hg2.out
 refine (HIH.out v.size (by omega) v (.mk k' n' ks') _ _ _ _ _ (Nat.le_refl _) (hv.below hB) hy1 hvt hty (by omega)).mono ?_
 rintro f w3 ⟨s3, c3, rfl, hf3, hb⟩
 have hz3 := hb.size
 have g2q := (hb.cell (p := ⟨b, o + 2, none⟩) (by have := hx1.lt; omega)).trans g2r
 have hlt3 : b < w3.heap.size := by omega
 go_wp2_with fail
 clear g2q
 have D := Blk.new3 w3 34 (.int .i64 (v.dot (.mk k' n' ks')).kind) (.int .i64 (v.dot (.mk k' n' ks')).num) (.slice s3 (v.dot (.mk k' n' ks')).kids.length c3)
 have hb4 : Below w1.heap.size w1 (w3.alloc (.cells #[.int .i64 (v.dot (.mk k' n' ks')).kind, .int .i64 (v.dot (.mk k' n' ks')).num, .slice s3 (v.dot (.mk k' n' ks')).kids.length c3] 34)) := hb.alloc hz3 _
 have hd3 := (Rds.one hf3.rds).alloc (.cells #[.int .i64 (v.dot (.mk k' n' ks')).kind, .int .i64 (v.dot (.mk k' n' ks')).num, .slice s3 (v.dot (.mk k' n' ks')).kids.length c3] 34)
 generalize w3.alloc (.cells #[.int .i64 (v.dot (.mk k' n' ks')).kind, .int .i64 (v.dot (.mk k' n' ks')).num, .slice s3 (v.dot (.mk k' n' ks')).kids.length c3] 34) = w4 at D hb4 hd3 ⊢
 have hda : ExAt w4 w3.heap.size 0 (v.dot (.mk k' n' ks')) := ⟨D.c0, D.c1, s3, c3, D.c2, hd3⟩
 have hz4 := hb4.size
 replace hB := Below.on hB hb4 hB.size
 replace R := R.below hb4
 have hu' := hu.below hB
 clear hb g2r
 refine (HIH.out u.size (by omega) u (v.dot (.mk k' n' ks')) _ _ _ _ _ (Nat.le_refl _) hu' hda hut hd1 (by omega)).mono ?_
 rintro f v5 ⟨s5, c5, rfl, hf5, hb5⟩
 replace hB := Below.on hB hb5 hB.size
 replace R := R.below hb5
 have hz5 := hb5.size
 -- the function's end: R the result's box, hB; h3 : Freshs W V .. (W below V), E1 : Hid (result = (u.dot (v.dot (.mk k' n' ks'))))
 -- the result box w.heap.size of world v5 is set to an expression; goal: bodyPost. R : the box; Rests: hs5 : Spares, T2
 have r0 := R.c0
 have r1 := R.c1
 have r2 := R.c2
 have z0 := R.frozen 0
 have z1 := R.frozen 1
 have z2 := R.frozen 2
 have ltR := R.lt
 go_wp2_with fail
 have T2 := ((R.set 0 (.int .i64 (u.dot (v.dot (.mk k' n' ks'))).kind)).set 1 (.int .i64 (u.dot (v.dot (.mk k' n' ks'))).num)).set 2 (.slice s5 (u.dot (v.dot (.mk k' n' ks'))).kids.length c5)
 have hs5 : Spares (fun y => y = w.heap.size) v5 (((v5.setCell ⟨w.heap.size, 0, none⟩ (.int .i64 (u.dot (v.dot (.mk k' n' ks'))).kind)).setCell ⟨w.heap.size, 1, none⟩ (.int .i64 (u.dot (v.dot (.mk k' n' ks'))).num)).setCell ⟨w.heap.size, 2, none⟩ (.slice s5 (u.dot (v.dot (.mk k' n' ks'))).kids.length c5)) := Spares.set (Spares.set (Spares.set (Spares.refl v5)))
 generalize (((v5.setCell ⟨w.heap.size, 0, none⟩ (.int .i64 (u.dot (v.dot (.mk k' n' ks'))).kind)).setCell ⟨w.heap.size, 1, none⟩ (.int .i64 (u.dot (v.dot (.mk k' n' ks'))).num)).setCell ⟨w.heap.size, 2, none⟩ (.slice s5 (u.dot (v.dot (.mk k' n' ks'))).kids.length c5)) = w5 at T2 hs5 ⊢
 have t0 := T2.c0
 have t1 := T2.c1
 have t2 := T2.c2
 have hzB5 := hB.size
 have hB5 := hB.trans (hs5.below (B := w.heap.size) (by omega) (fun y hy => by omega))
 refine bodyPost_ret (v := .agg #[.int .i64 (u.dot (v.dot (.mk k' n' ks'))).kind, .int .i64 (u.dot (v.dot (.mk k' n' ks'))).num, .slice s5 (u.dot (v.dot (.mk k' n' ks'))).kids.length c5]) (by simp [results, Tryz.results52, go_sem, t0, t1, t2]) rfl ?_
 rw [E1.out]
 exact ⟨_, _, rfl, Freshs.from (Freshs.keep hf5 (fun y _ hy2 => hs5.block y hy2 (by omega))) (by omega), hB5⟩
end Go.Proofs.YtcokljhamhgelaaGreatDoor

namespace Go.Proofs.YtcokljhamhgelaaGreatDoor
set_option linter.unusedVariables false
set_option linter.unusedSimpArgs false
open Go.ChangeShapes Go.WideShapes Go.ChangeAt Go.RowKit Go.Sort
theorem l01Same_all (N : Nat) : ∀ (e f : Ex) (b o b' o' : Nat) (w : World), e.size ≤ N → ExAt w b o e → ExAt w b' o' f →
  Calls Tryz.prog 55 #[.pointer (some ⟨b, o, none⟩), .pointer (some ⟨b', o', none⟩)] w fun x w' => x = .returned (.bool (eqb e f)) ∧ Below w.heap.size w w' := by
 induction N using Nat.strongRecOn with
 | _ N ih =>
 intro e f b o b' o' w hN hr hr'
 have hE := hr
 have hE' := hr'
 obtain ⟨g0, g1, s, c, g2, g3⟩ := hr
 obtain ⟨k0, k1, t, d, k2, k3⟩ := hr'
 obtain ⟨-, hlen, hcap, -, -⟩ := kid_at g3
 obtain ⟨-, hlen', hcap', -, -⟩ := kid_at k3
 unfold maxLen at hcap hcap'
 have hse := Ex.size_eq e
 have hks : Ex.sizeL e.kids < N := by omega
 clear hse
 by_cases h1 : e.kind = f.kind
 ·
  by_cases h2 : e.num = f.num
  ·
   by_cases h3 : e.kids.length = f.kids.length
   ·
    have b1 : (e.kind != f.kind) = false := by simp [h1]
    have b2 : (e.num != f.num) = false := by simp [h2]
    have b3 : ((e.kids.length : Int) != (f.kids.length : Int)) = false := by simp [h3]
    have Hl := Lib.hid h3
    have Hef : Hid (eqb e f = eqb e.kids f.kids) := by
     show _ = _
     by_cases h : e.kids = f.kids
     ·
      rw [eqb_true h, eqb_true (by rw [Ex.eta e, Ex.eta f, h1, h2, h])]
     ·
      rw [eqb_false h, eqb_false (by intro h'; rw [h'] at h; exact h rfl)]
    clear h1 h2 h3
    go_enter Tryz.func55, Tryz.ntmps55
    go_wp2_with fail
    go_quiet (fail)
    have hB0 : Below w.heap.size w (w.drewN nq) := below_draws _ _ _
    generalize w.drewN nq = wq at hB0 ⊢
    go_wp2_with fail
    clear b1 b2 b3
    go_loopw [5] (fun i wr => ∃ k : Nat, k ≤ e.kids.length ∧ i = .int .i64 k ∧ e.kids.take k = f.kids.take k ∧ Below w.heap.size w wr) (fun i _ => e.kids.length - (intOf i).toNat)
    case atStart => exact ⟨0, by omega, rfl, by simp, hB0⟩
    case round =>
     clear hB0 g0 g1 g2 k0 k1 k2
     obtain ⟨k, hk, rfl, hpre, hB⟩ := hrel
     have Hpre := Lib.hid hpre
     clear hpre
     obtain ⟨-, -, s1, c1, g2, g3'⟩ := hE.below hB
     obtain ⟨-, -, t1, d1, k2, k3'⟩ := hE'.below hB
     by_cases hlt : k < e.kids.length
     ·
      have hlt' : k < f.kids.length := by have := Hl.out; omega
      obtain ⟨x, hx⟩ : ∃ z, e.kids[k]? = some z := ⟨_, List.getElem?_eq_getElem hlt⟩
      obtain ⟨y, hy⟩ : ∃ z, f.kids[k]? = some z := ⟨_, List.getElem?_eq_getElem hlt'⟩
      obtain ⟨p, q, rfl⟩ := kid_some g3' (by intro h; simp [h] at hlt)
      obtain ⟨p', q', rfl⟩ := kid_some k3' (by intro h; simp [h] at hlt')
      have hat := kid_exAt g3' hx
      have hat' := kid_exAt k3' hy
      have hltN : x.size < N := by
       have := Ex.sizeL_mem (List.mem_of_getElem? hx)
       omega
      have ha := Int.natCast_nonneg k
      have hb : (k : Int) < (e.kids.length : Int) := by omega
      have hb' : (k : Int) < (f.kids.length : Int) := by omega
      have i2 := fun d os => cell_regrown g2 d os
      have j2 := fun d os => cell_regrown k2 d os
      go_wp2_with fail
      refine Go.wp_region_quiet_below (by kernel_rfl) (by kernel_rfl) ?_
      repeat (quiet_step (exact Calls.regrown_of (ih _ hltN x y _ _ _ _ _ (Nat.le_refl _) (hat.below (below_regrown _ _ _)) (hat'.below (below_regrown _ _ _)))))
      refine wpQuiet_nil ?_; intro _ hw'; obtain ⟨⟨dq, osq⟩, hw''⟩ := hw'; subst hw''; have hq := below_regrown wr dq osq; revert hq; generalize grow (redrawn wr dq) osq = w1; intro hq
      have hB1 : Below w.heap.size w w1 := Below.on hB hq hB.size
      clear hq i2 j2 g2 k2 g3 k3
      by_cases hxy : x = y
      ·
       have c1 : eqb x y = true := eqb_true hxy
       have Hst : Hid (e.kids.take (k + 1) = f.kids.take (k + 1)) := by
        have h1 := List.getElem?_eq_some_iff.1 hx
        have h2 := List.getElem?_eq_some_iff.1 hy
        show _ = _
        rw [List.take_succ_eq_append_getElem hlt, List.take_succ_eq_append_getElem hlt', Hpre.out, h1.2, h2.2, hxy]
       clear hxy
       simp only [c1, Bool.not_true]
       go_wp2_with fail
       go_roundw
       case rel => exact ⟨k + 1, by omega, by go_num, Hst.out, hB1⟩
       case measure => simp [intOf]; omega
      ·
       have c1 : eqb x y = false := eqb_false hxy
       have c2 : eqb e f = false := by
        rw [Hef.out]
        exact eqb_false (by
         intro h
         rw [h] at hx
         exact hxy (Option.some.inj (hx.symm.trans hy)))
       simp only [c1, Bool.not_false]
       go_wp2_with fail
       go_ret
       exact ⟨by first | rfl | (rw [c2]; rfl), hB1⟩
     ·
      obtain rfl : k = e.kids.length := by omega
      have c2 : eqb e f = true := by
       rw [Hef.out]
       exact eqb_true (by
        have := Hpre.out
        rwa [List.take_length, Hl.out, List.take_length] at this)
      go_wp2_with fail
      go_ret
      exact ⟨by first | rfl | (rw [c2]; rfl), hB⟩
   ·
    have b1 : (e.kind != f.kind) = false := by simp [h1]
    have b2 : (e.num != f.num) = false := by simp [h2]
    have b3 : ((e.kids.length : Int) != (f.kids.length : Int)) = true := by simp; omega
    have c2 : eqb e f = false := eqb_false (by intro h; rw [h] at h3; exact h3 rfl)
    rw [c2]
    clear h1 h2 h3
    go_enter Tryz.func55, Tryz.ntmps55
    go_wp2_with fail
    go_quiet (fail)
    go_wp2_with fail
    go_ret
    exact ⟨rfl, below_draws _ _ _⟩
  ·
   have b1 : (e.kind != f.kind) = false := by simp [h1]
   have b2 : (e.num != f.num) = true := by simp [h2]
   have c2 : eqb e f = false := eqb_false (by intro h; rw [h] at h2; exact h2 rfl)
   rw [c2]
   clear h1 h2
   go_enter Tryz.func55, Tryz.ntmps55
   go_wp2_with fail
   go_quiet (fail)
   go_wp2_with fail
   go_ret
   exact ⟨rfl, below_draws _ _ _⟩
 ·
  have b1 : (e.kind != f.kind) = true := by simp [h1]
  have c2 : eqb e f = false := eqb_false (by intro h; rw [h] at h1; exact h1 rfl)
  rw [c2]
  clear h1
  go_enter Tryz.func55, Tryz.ntmps55
  go_wp2_with fail
  go_quiet (fail)
  go_wp2_with fail
  go_ret
  exact ⟨rfl, below_draws _ _ _⟩
end Go.Proofs.YtcokljhamhgelaaGreatDoor
