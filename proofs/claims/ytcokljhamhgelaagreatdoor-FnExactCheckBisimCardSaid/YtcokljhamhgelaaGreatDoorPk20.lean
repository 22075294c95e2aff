/-
  Parts of a proof, joined: DerS. No condition.
-/
import Derived.Test.YtcokljhamhgelaaGreatDoorPk14
import Derived.Test.YtcokljhamhgelaaGreatDoorPk19
namespace Go.Proofs.YtcokljhamhgelaaGreatDoor
set_option linter.unusedVariables false
set_option linter.unusedSimpArgs false
open Go.ChangeShapes Go.WideShapes Go.ChangeAt Go.RowKit Go.Deep Go.Sort
def OutQ (w : World) (o : Option Ex) (f : Ending) (w' : World) : Prop := ∃ (y : Ex) (s' : Option Addr) (c' : Nat), f = .returned (.tuple #[.agg #[.int .i64 y.kind, .int .i64 y.num, .slice s' y.kids.length c'], .bool o.isSome]) ∧
 (∀ d, o = some d → y = d ∧ Freshs w w' [kidsD d.kids] [.slice s' d.kids.length c']) ∧ Below w.heap.size w w'
theorem l02Zero_v {w : World} : Calls Tryz.prog 84 #[] w fun f w' => f = .returned (.agg #[.int .i64 1, .int .i64 0, .slice none 0 0]) ∧ Below w.heap.size w w' := by
 go_enter Tryz.func84, Tryz.ntmps84
 go_wp2_with fail
 have T := (((Blk.new3 w 34 (.int .i64 0) (.int .i64 0) (.slice none 0 0)).set 0 (.int .i64 1)).set 1 (.int .i64 0)).set 2 (.slice none 0 0)
 have t0 := T.c0
 have t1 := T.c1
 have t2 := T.c2
 exact bodyPost_ret (v := .agg #[.int .i64 1, .int .i64 0, .slice none 0 0]) (by simp [results, Tryz.results84, go_sem, t0, t1, t2]) rfl ⟨rfl, by (repeat' first | exact Below.refl _ _ | assumption | apply Below.alloc | apply Below.drew | apply Below.setCell | omega | (simp; done) | (simp; omega))⟩
theorem l02Pair_x {X : Nat → Prop} {k : Int} {x y : Ex} {sx sy : Option Addr} {cx cy : Nat} {w : World} (hX : ∀ b, X b → b < w.heap.size) (hx : ExX X w x sx cx) (hy : ExX X w y sy cy) :
  Calls Tryz.prog 85 #[.int .i64 k, .agg #[.int .i64 x.kind, .int .i64 x.num, .slice sx x.kids.length cx], .agg #[.int .i64 y.kind, .int .i64 y.num, .slice sy y.kids.length cy]] w fun f w' => ∃ g, f = .returned (.agg #[.int .i64 k, .int .i64 0, .slice (some ⟨g, 0, none⟩) 2 2]) ∧
   RdX X w' (kidsD [x, y]) (.slice (some ⟨g, 0, none⟩) 2 2) ∧ Below w.heap.size w w' :=
 (l02Pair_i).mono fun _ _ ⟨g, h1, h2, h3, h4⟩ => ⟨g, h1, kidsD_two h3 (fun h => by have := hX g h; omega) (hx.below h4) (hy.below h4), h4⟩
set_option maxRecDepth 100000 in
set_option maxHeartbeats 8000000 in
theorem l02Step_all (tm am m x : Int) (ht2 : tm ≤ 2) (ha : am ≤ 8) (h0 : 0 ≤ m) (h7 : m ≤ 7) (N : Nat) : ∀ (e : Ex) (b o : Nat) (w : World), e.size ≤ N → ExAt w b o e → e.tree tm am = true → e.size ≤ 10000 →
  Calls Tryz.prog 58 #[.pointer (some ⟨b, o, none⟩), .int .i64 m, .int .i64 x] w (OutQ w (e.step m x)) := by
 have ht : tm ≤ 8 := by omega
 induction N using Nat.strongRecOn with
 | _ N ih =>
 intro e b o w hN hx hxt hsz1
 have HIH := Lib.hid ih
 clear ih
 have hlt := hx.lt
 obtain ⟨k, n, ks⟩ := e
 obtain ⟨hk, -, -, htl⟩ := tree_parts hxt
 by_cases h4 : k = 4
 ·
  subst h4
  clear htl hk
  by_cases hn : n = x
  ·
   have E1 : Hid ((Ex.mk 4 n ks).step m x = some (.leaf 2)) := by show _ = _; rw [Ex.step_act, if_pos hn]
   have cn : (n == x) = true := by simp [hn]
   clear hn
   obtain ⟨g0, g1, sx, cx, g2, g3⟩ := id hx
   simp only [Ex.kind_mk, Ex.num_mk, Ex.kids_mk] at g0 g1 g2
   skip
   have G0 := Lib.hid g0
   have G1 := Lib.hid g1
   have G2 := Lib.hid g2
   clear g0 g1 g2
   go_enter Tryz.func58, Tryz.ntmps58
   go_wp2_with fail
   have R := Blk.new3 w 34 (.int .i64 0) (.int .i64 0) (.slice none 0 0)
   have hB : Below w.heap.size w (w.alloc (.cells #[.int .i64 0, .int .i64 0, .slice none 0 0] 34)) := by (repeat' first | exact Below.refl _ _ | assumption | apply Below.alloc | apply Below.drew | apply Below.setCell | omega | (simp; done) | (simp; omega))
   have hz0 : (w.alloc (.cells #[.int .i64 0, .int .i64 0, .slice none 0 0] 34)).heap.size = w.heap.size + 1 := by simp
   generalize w.alloc (.cells #[.int .i64 0, .int .i64 0, .slice none 0 0] 34) = w1 at R hB hz0 ⊢
   refine (l02Zero_v).mono ?_
   rintro f w2 ⟨rfl, hb⟩
   replace hB := Below.on hB hb hB.size
   replace R := R.below hb
   clear hb
   have g0 := (hB.cell (p := ⟨b, o, none⟩) hlt).trans G0.out
   have g1 := (hB.cell (p := ⟨b, o + 1, none⟩) hlt).trans G1.out
   have g2 := (hB.cell (p := ⟨b, o + 2, none⟩) hlt).trans G2.out
   have hlt2 : b < w2.heap.size := by have := hB.size; omega
   have hz2 : w.heap.size < w2.heap.size := R.lt
   go_wp2_with fail
   refine (l02One_i).mono ?_
   rintro f w4 ⟨s4, c4, rfl, hf, hb⟩
   have hB' : Below w.heap.size w (w2.alloc (.cells #[.int .i64 1, .int .i64 0, .slice none 0 0] 34)) := hB.alloc (by omega) _
   have R' := R.alloc (.cells #[.int .i64 1, .int .i64 0, .slice none 0 0] 34)
   have hz3 : (w2.alloc (.cells #[.int .i64 1, .int .i64 0, .slice none 0 0] 34)).heap.size = w2.heap.size + 1 := by simp
   replace hB := Below.on hB' hb hB'.size
   replace R := R'.below hb
   clear hB' R' g0 g1 g2
   have r0 := R.c0
   have r1 := R.c1
   have r2 := R.c2
   have z0 := R.frozen 0
   have z1 := R.frozen 1
   have z2 := R.frozen 2
   have ltR := R.lt
   go_wp2_with fail
   have T2 := ((R.set 0 (.int .i64 (Ex.leaf 2).kind)).set 1 (.int .i64 (Ex.leaf 2).num)).set 2 (.slice s4 (Ex.leaf 2).kids.length c4)
   have hs5 : Spares (fun y => y = w.heap.size) w4 (((w4.setCell ⟨w.heap.size, 0, none⟩ (.int .i64 (Ex.leaf 2).kind)).setCell ⟨w.heap.size, 1, none⟩ (.int .i64 (Ex.leaf 2).num)).setCell ⟨w.heap.size, 2, none⟩ (.slice s4 (Ex.leaf 2).kids.length c4)) := Spares.set (Spares.set (Spares.set (Spares.refl w4)))
   generalize (((w4.setCell ⟨w.heap.size, 0, none⟩ (.int .i64 (Ex.leaf 2).kind)).setCell ⟨w.heap.size, 1, none⟩ (.int .i64 (Ex.leaf 2).num)).setCell ⟨w.heap.size, 2, none⟩ (.slice s4 (Ex.leaf 2).kids.length c4)) = w5 at T2 hs5 ⊢
   have t0 := T2.c0
   have t1 := T2.c1
   have t2 := T2.c2
   have hzB5 := hB.size
   have hB5 := hB.trans (hs5.below (B := w.heap.size) (by omega) (fun y hy => by omega))
   refine bodyPost_ret (v := .tuple #[.agg #[.int .i64 (Ex.leaf 2).kind, .int .i64 (Ex.leaf 2).num, .slice s4 (Ex.leaf 2).kids.length c4], .bool true]) (by simp [results, Tryz.results58, go_sem, t0, t1, t2]) rfl ?_
   rw [E1.out]
   exact ⟨_, _, _, rfl, fun d hd => by obtain rfl := Option.some.inj hd; exact ⟨rfl, Freshs.from (Freshs.keep hf (fun y _ hy2 => hs5.block y hy2 (by omega))) (by omega)⟩, hB5⟩
  ·
   have E1 : Hid ((Ex.mk 4 n ks).step m x = some (.leaf 1)) := by show _ = _; rw [Ex.step_act, if_neg hn]
   have cn : (n == x) = false := by simp [hn]
   clear hn
   -- the raw value is returned at once
   obtain ⟨g0, g1, sx, cx, g2, g3⟩ := id hx
   simp only [Ex.kind_mk, Ex.num_mk, Ex.kids_mk] at g0 g1 g2
   skip
   have G0 := Lib.hid g0
   have G1 := Lib.hid g1
   have G2 := Lib.hid g2
   clear g0 g1 g2
   go_enter Tryz.func58, Tryz.ntmps58
   go_wp2_with fail
   have R := Blk.new3 w 34 (.int .i64 0) (.int .i64 0) (.slice none 0 0)
   have hB : Below w.heap.size w (w.alloc (.cells #[.int .i64 0, .int .i64 0, .slice none 0 0] 34)) := by (repeat' first | exact Below.refl _ _ | assumption | apply Below.alloc | apply Below.drew | apply Below.setCell | omega | (simp; done) | (simp; omega))
   have hz0 : (w.alloc (.cells #[.int .i64 0, .int .i64 0, .slice none 0 0] 34)).heap.size = w.heap.size + 1 := by simp
   generalize w.alloc (.cells #[.int .i64 0, .int .i64 0, .slice none 0 0] 34) = w1 at R hB hz0 ⊢
   refine (l02Zero_v).mono ?_
   rintro f w2 ⟨rfl, hb⟩
   replace hB := Below.on hB hb hB.size
   replace R := R.below hb
   clear hb
   have g0 := (hB.cell (p := ⟨b, o, none⟩) hlt).trans G0.out
   have g1 := (hB.cell (p := ⟨b, o + 1, none⟩) hlt).trans G1.out
   have g2 := (hB.cell (p := ⟨b, o + 2, none⟩) hlt).trans G2.out
   have hlt2 : b < w2.heap.size := by have := hB.size; omega
   have hz2 : w.heap.size < w2.heap.size := R.lt
   have r0 := R.c0
   have r1 := R.c1
   have r2 := R.c2
   have z0 := R.frozen 0
   have z1 := R.frozen 1
   have z2 := R.frozen 2
   have ltR := R.lt
   go_wp2_with fail
   have T2 := (((R.set 0 (.int .i64 1)).set 1 (.int .i64 0)).set 2 (.slice none 0 0)).alloc (.cells #[.int .i64 1, .int .i64 0, .slice none 0 0] 34)
   have hs5 : Spares (fun y => y = w.heap.size) w2 ((((w2.setCell ⟨w.heap.size, 0, none⟩ (.int .i64 1)).setCell ⟨w.heap.size, 1, none⟩ (.int .i64 0)).setCell ⟨w.heap.size, 2, none⟩ (.slice none 0 0)).alloc (.cells #[.int .i64 1, .int .i64 0, .slice none 0 0] 34)) := (Spares.set (Spares.set (Spares.set (Spares.refl w2)))).trans (Spares.of_below (Below.alloc (Below.refl _ _) (Nat.le_refl _) _))
   generalize (((w2.setCell ⟨w.heap.size, 0, none⟩ (.int .i64 1)).setCell ⟨w.heap.size, 1, none⟩ (.int .i64 0)).setCell ⟨w.heap.size, 2, none⟩ (.slice none 0 0)).alloc (.cells #[.int .i64 1, .int .i64 0, .slice none 0 0] 34) = w5 at T2 hs5 ⊢
   have t0 := T2.c0
   have t1 := T2.c1
   have t2 := T2.c2
   have hzB5 := hB.size
   have hB5 := hB.trans (hs5.below (B := w.heap.size) (by omega) (fun y hy => by omega))
   refine bodyPost_ret (v := .tuple #[.agg #[.int .i64 1, .int .i64 0, .slice none 0 0], .bool true]) (by simp [results, Tryz.results58, go_sem, t0, t1, t2]) rfl ?_
   rw [E1.out]
   exact ⟨.leaf 1, none, 0, rfl, fun d hd => by obtain rfl := Option.some.inj hd; exact ⟨rfl, nil_freshs⟩, hB5⟩
 have c4 : (k == 4) = false := by simp [h4]
 by_cases h6 : k = 6
 ·
  subst h6
  obtain ⟨u, v, rfl⟩ := two_kids hk (Or.inl rfl)
  have hsz := Ex.size_eq (.mk 6 n [u, v])
  simp only [Ex.sizeL, Ex.kids_mk] at hsz
  have hut : u.tree tm am = true := Ex.treeL_mem htl (by simp)
  have hvt : v.tree tm am = true := Ex.treeL_mem htl (by simp)
  obtain ⟨o1, Ho1⟩ : ∃ o, Hid (o = u.step m x) := ⟨_, rfl⟩
  obtain ⟨o2, Ho2⟩ : ∃ o, Hid (o = v.step m x) := ⟨_, rfl⟩
  have E0 : Hid ((Ex.mk 6 n [u, v]).step m x = o1.bind fun p => o2.bind fun q => limE (.two 6 p q)) := by show _ = _; rw [Ho1.out, Ho2.out]; exact Ex.step_sum
  clear htl hk c4 h4
  obtain ⟨g0, g1, sx, cx, g2, g3⟩ := id hx
  simp only [Ex.kind_mk, Ex.num_mk, Ex.kids_mk] at g0 g1 g2
  obtain ⟨kb, ko, rfl⟩ := kid_some g3 (by simp [Ex.kids])
  have hu : ExAt w kb ko u := by have := kid_exAt g3 (i := 0) (e := u) rfl; simpa using this
  obtain ⟨-, hlen, hcap, -, -⟩ := kid_at g3
  unfold maxLen at hcap
  simp only [List.length_cons, List.length_nil, Nat.zero_add, Nat.reduceAdd] at g2 hlen hcap
  have G0 := Lib.hid g0
  have G1 := Lib.hid g1
  have G2 := Lib.hid g2
  clear g0 g1 g2
  go_enter Tryz.func58, Tryz.ntmps58
  go_wp2_with fail
  have R := Blk.new3 w 34 (.int .i64 0) (.int .i64 0) (.slice none 0 0)
  have hB : Below w.heap.size w (w.alloc (.cells #[.int .i64 0, .int .i64 0, .slice none 0 0] 34)) := by (repeat' first | exact Below.refl _ _ | assumption | apply Below.alloc | apply Below.drew | apply Below.setCell | omega | (simp; done) | (simp; omega))
  have hz0 : (w.alloc (.cells #[.int .i64 0, .int .i64 0, .slice none 0 0] 34)).heap.size = w.heap.size + 1 := by simp
  generalize w.alloc (.cells #[.int .i64 0, .int .i64 0, .slice none 0 0] 34) = w1 at R hB hz0 ⊢
  refine (l02Zero_v).mono ?_
  rintro f w2 ⟨rfl, hb⟩
  replace hB := Below.on hB hb hB.size
  replace R := R.below hb
  clear hb
  have g0 := (hB.cell (p := ⟨b, o, none⟩) hlt).trans G0.out
  have g1 := (hB.cell (p := ⟨b, o + 1, none⟩) hlt).trans G1.out
  have g2 := (hB.cell (p := ⟨b, o + 2, none⟩) hlt).trans G2.out
  have hlt2 : b < w2.heap.size := by have := hB.size; omega
  have hz2 : w.heap.size < w2.heap.size := R.lt
  have hv : ExAt w kb (ko + 3) v := by have := kid_exAt g3 (i := 1) (e := v) rfl; simpa using this
  -- the walk stands at the first call; the raw box q
  go_wp2_with fail
  clear g0 g1 g2
  have Q := Blk.new3 w2 34 (.int .i64 1) (.int .i64 0) (.slice none 0 0)
  have hb3 : Below w2.heap.size w2 (w2.alloc (.cells #[.int .i64 1, .int .i64 0, .slice none 0 0] 34)) := by (repeat' first | exact Below.refl _ _ | assumption | apply Below.alloc | apply Below.drew | apply Below.setCell | omega | (simp; done) | (simp; omega))
  generalize w2.alloc (.cells #[.int .i64 1, .int .i64 0, .slice none 0 0] 34) = w3 at Q hb3 ⊢
  replace hB := Below.on hB hb3 hB.size
  replace R := R.below hb3
  obtain ⟨q, hq⟩ : ∃ q, w2.heap.size = q := ⟨_, rfl⟩
  rw [hq] at Q hz2
  simp only [hq]
  clear hb3 hq hlt2
  refine (HIH.out u.size (by omega) u _ _ _ (Nat.le_refl _) (hu.below hB) hut (by omega)).mono ?_
  rintro f w4 ⟨y1, s1, c1, rfl, hy1, hb4⟩
  rw [← Ho1.out] at hy1 ⊢
  have hz3 := Q.lt
  replace hB := Below.on hB hb4 hB.size
  replace R := R.below hb4
  replace Q := Q.below hb4
  have g2 := (hB.cell (p := ⟨b, o + 2, none⟩) hlt).trans G2.out
  have hlt4 : b < w4.heap.size := by have := hB.size; omega
  go_wp2_with fail
  clear g2
  have A := Blk.new3 w4 34 (.int .i64 y1.kind) (.int .i64 y1.num) (.slice s1 y1.kids.length c1)
  have hb5 : Below w4.heap.size w4 (w4.alloc (.cells #[.int .i64 y1.kind, .int .i64 y1.num, .slice s1 y1.kids.length c1] 34)) := by (repeat' first | exact Below.refl _ _ | assumption | apply Below.alloc | apply Below.drew | apply Below.setCell | omega | (simp; done) | (simp; omega))
  generalize w4.alloc (.cells #[.int .i64 y1.kind, .int .i64 y1.num, .slice s1 y1.kids.length c1] 34) = w5 at A hb5 ⊢
  replace hB := Below.on hB hb5 hB.size
  replace R := R.below hb5
  replace Q := Q.below hb5
  refine (HIH.out v.size (by omega) v _ _ _ (Nat.le_refl _) (hv.below hB) hvt (by omega)).mono ?_
  rintro f w6 ⟨y2, s2, c2, rfl, hy2, hb6⟩
  rw [← Ho2.out] at hy2 ⊢
  replace hB := Below.on hB hb6 hB.size
  replace R := R.below hb6
  replace Q := Q.below hb6
  replace A := A.below hb6
  have hz5 := hb5.size
  cases o1 with
  | none =>
   have i1 : (none : Option Ex).isSome = false := rfl
   have E1 : Hid ((Ex.mk 6 n [u, v]).step m x = none) := E0
   clear hy1 hy2
   cases o2 with
   | none =>
    have i2 : (none : Option Ex).isSome = false := rfl
    -- a part has no derivative; the world is w6.alloc .int .i64 y2.kind, .int .i64 y2.num, .slice s2 y2.kids.length c2; the raw box holds 1, 0, nil
    have q0 := Q.c0
    have q1 := Q.c1
    have q2 := Q.c2
    have ltQ := Q.lt
    have r0 := R.c0
    have r1 := R.c1
    have r2 := R.c2
    have z0 := R.frozen 0
    have z1 := R.frozen 1
    have z2 := R.frozen 2
    have ltR := R.lt
    go_wp2_with fail
    have T2 := (((R.set 0 (.int .i64 1)).set 1 (.int .i64 0)).set 2 (.slice none 0 0)).alloc (.cells #[.int .i64 y2.kind, .int .i64 y2.num, .slice s2 y2.kids.length c2] 34)
    have hs5 : Spares (fun y => y = w.heap.size) w6 ((((w6.setCell ⟨w.heap.size, 0, none⟩ (.int .i64 1)).setCell ⟨w.heap.size, 1, none⟩ (.int .i64 0)).setCell ⟨w.heap.size, 2, none⟩ (.slice none 0 0)).alloc (.cells #[.int .i64 y2.kind, .int .i64 y2.num, .slice s2 y2.kids.length c2] 34)) := (Spares.set (Spares.set (Spares.set (Spares.refl w6)))).trans (Spares.of_below (Below.alloc (Below.refl _ _) (Nat.le_refl _) _))
    generalize (((w6.setCell ⟨w.heap.size, 0, none⟩ (.int .i64 1)).setCell ⟨w.heap.size, 1, none⟩ (.int .i64 0)).setCell ⟨w.heap.size, 2, none⟩ (.slice none 0 0)).alloc (.cells #[.int .i64 y2.kind, .int .i64 y2.num, .slice s2 y2.kids.length c2] 34) = w5 at T2 hs5 ⊢
    have t0 := T2.c0
    have t1 := T2.c1
    have t2 := T2.c2
    have hzB5 := hB.size
    have hB5 := hB.trans (hs5.below (B := w.heap.size) (by omega) (fun y hy => by omega))
    refine bodyPost_ret (v := .tuple #[.agg #[.int .i64 1, .int .i64 0, .slice none 0 0], .bool false]) (by simp [results, Tryz.results58, go_sem, t0, t1, t2]) rfl ?_
    rw [E1.out]
    exact ⟨.leaf 1, _, _, rfl, (fun d hd => by cases hd), hB5⟩
   | some q' =>
    have i2 : (some q').isSome = true := rfl
    -- a part has no derivative; the world is w6.alloc .int .i64 y2.kind, .int .i64 y2.num, .slice s2 y2.kids.length c2; the raw box holds 1, 0, nil
    have q0 := Q.c0
    have q1 := Q.c1
    have q2 := Q.c2
    have ltQ := Q.lt
    have r0 := R.c0
    have r1 := R.c1
    have r2 := R.c2
    have z0 := R.frozen 0
    have z1 := R.frozen 1
    have z2 := R.frozen 2
    have ltR := R.lt
    go_wp2_with fail
    have T2 := (((R.set 0 (.int .i64 1)).set 1 (.int .i64 0)).set 2 (.slice none 0 0)).alloc (.cells #[.int .i64 y2.kind, .int .i64 y2.num, .slice s2 y2.kids.length c2] 34)
    have hs5 : Spares (fun y => y = w.heap.size) w6 ((((w6.setCell ⟨w.heap.size, 0, none⟩ (.int .i64 1)).setCell ⟨w.heap.size, 1, none⟩ (.int .i64 0)).setCell ⟨w.heap.size, 2, none⟩ (.slice none 0 0)).alloc (.cells #[.int .i64 y2.kind, .int .i64 y2.num, .slice s2 y2.kids.length c2] 34)) := (Spares.set (Spares.set (Spares.set (Spares.refl w6)))).trans (Spares.of_below (Below.alloc (Below.refl _ _) (Nat.le_refl _) _))
    generalize (((w6.setCell ⟨w.heap.size, 0, none⟩ (.int .i64 1)).setCell ⟨w.heap.size, 1, none⟩ (.int .i64 0)).setCell ⟨w.heap.size, 2, none⟩ (.slice none 0 0)).alloc (.cells #[.int .i64 y2.kind, .int .i64 y2.num, .slice s2 y2.kids.length c2] 34) = w5 at T2 hs5 ⊢
    have t0 := T2.c0
    have t1 := T2.c1
    have t2 := T2.c2
    have hzB5 := hB.size
    have hB5 := hB.trans (hs5.below (B := w.heap.size) (by omega) (fun y hy => by omega))
    refine bodyPost_ret (v := .tuple #[.agg #[.int .i64 1, .int .i64 0, .slice none 0 0], .bool false]) (by simp [results, Tryz.results58, go_sem, t0, t1, t2]) rfl ?_
    rw [E1.out]
    exact ⟨.leaf 1, _, _, rfl, (fun d hd => by cases hd), hB5⟩
  | some p =>
  have i1 : (some p).isSome = true := rfl
  obtain ⟨rfl, hf1⟩ := hy1 p rfl
  cases o2 with
  | none =>
   have i2 : (none : Option Ex).isSome = false := rfl
   have E1 : Hid ((Ex.mk 6 n [u, v]).step m x = none) := E0
   clear hy1 hy2
   -- a part has no derivative; the world is w6.alloc .int .i64 y2.kind, .int .i64 y2.num, .slice s2 y2.kids.length c2; the raw box holds 1, 0, nil
   have q0 := Q.c0
   have q1 := Q.c1
   have q2 := Q.c2
   have ltQ := Q.lt
   have r0 := R.c0
   have r1 := R.c1
   have r2 := R.c2
   have z0 := R.frozen 0
   have z1 := R.frozen 1
   have z2 := R.frozen 2
   have ltR := R.lt
   go_wp2_with fail
   have T2 := (((R.set 0 (.int .i64 1)).set 1 (.int .i64 0)).set 2 (.slice none 0 0)).alloc (.cells #[.int .i64 y2.kind, .int .i64 y2.num, .slice s2 y2.kids.length c2] 34)
   have hs5 : Spares (fun y => y = w.heap.size) w6 ((((w6.setCell ⟨w.heap.size, 0, none⟩ (.int .i64 1)).setCell ⟨w.heap.size, 1, none⟩ (.int .i64 0)).setCell ⟨w.heap.size, 2, none⟩ (.slice none 0 0)).alloc (.cells #[.int .i64 y2.kind, .int .i64 y2.num, .slice s2 y2.kids.length c2] 34)) := (Spares.set (Spares.set (Spares.set (Spares.refl w6)))).trans (Spares.of_below (Below.alloc (Below.refl _ _) (Nat.le_refl _) _))
   generalize (((w6.setCell ⟨w.heap.size, 0, none⟩ (.int .i64 1)).setCell ⟨w.heap.size, 1, none⟩ (.int .i64 0)).setCell ⟨w.heap.size, 2, none⟩ (.slice none 0 0)).alloc (.cells #[.int .i64 y2.kind, .int .i64 y2.num, .slice s2 y2.kids.length c2] 34) = w5 at T2 hs5 ⊢
   have t0 := T2.c0
   have t1 := T2.c1
   have t2 := T2.c2
   have hzB5 := hB.size
   have hB5 := hB.trans (hs5.below (B := w.heap.size) (by omega) (fun y hy => by omega))
   refine bodyPost_ret (v := .tuple #[.agg #[.int .i64 1, .int .i64 0, .slice none 0 0], .bool false]) (by simp [results, Tryz.results58, go_sem, t0, t1, t2]) rfl ?_
   rw [E1.out]
   exact ⟨.leaf 1, _, _, rfl, (fun d hd => by cases hd), hB5⟩
  | some p2 =>
  have i2 : (some p2).isSome = true := rfl
  obtain ⟨rfl, hf2⟩ := hy2 p2 rfl
  have E1 : Hid ((Ex.mk 6 n [u, v]).step m x = limE (.two 6 y1 y2)) := E0
  obtain ⟨hp1, hp2⟩ := step_spec tm am m x _ u y1 (Nat.le_refl _) hut Ho1.out.symm
  obtain ⟨hq1, hq2⟩ := step_spec tm am m x _ v y2 (Nat.le_refl _) hvt Ho2.out.symm
  have hz4 := hb4.size
  have hdx4 : ExX (fun b => b = q) w4 y1 s1 c1 := RdX.fresh hf1 (fun b h => by omega)
  have hdy6 : ExX (fun b => b = q) w6 y2 s2 c2 := RdX.fresh hf2 (fun b h => by omega)
  have a0 := A.c0
  have a1 := A.c1
  have a2 := A.c2
  have ltA := A.lt
  clear hy1 hy2 hf1 hf2
  go_wp2_with fail
  clear a0 a1 a2 ltA
  have hb7 : Below w6.heap.size w6 (w6.alloc (.cells #[.int .i64 y2.kind, .int .i64 y2.num, .slice s2 y2.kids.length c2] 34)) := by (repeat' first | exact Below.refl _ _ | assumption | apply Below.alloc | apply Below.drew | apply Below.setCell | omega | (simp; done) | (simp; omega))
  generalize w6.alloc (.cells #[.int .i64 y2.kind, .int .i64 y2.num, .slice s2 y2.kids.length c2] 34) = w7 at hb7 ⊢
  have hdx := ((hdx4.below hb5).below hb6).below hb7
  have hdy := hdy6.below hb7
  replace hB := Below.on hB hb7 hB.size
  replace R := R.below hb7
  replace Q := Q.below hb7
  clear hdx4 hdy6 A hb4 hb5 hb6 hb7 i1 i2 hz5 E0
  -- the call of l02Pair and the store to the raw box; world $V; hdx, hdy : what is read
  refine (l02Pair_x (X := fun b => b = q) (fun b h => by have := Q.lt; omega) hdx hdy).mono ?_
  rintro f w8 ⟨gr, rfl, hr, hb8⟩
  replace hB := Below.on hB hb8 hB.size
  replace R := R.below hb8
  replace Q := Q.below hb8
  have q0 := Q.c0
  have q1 := Q.c1
  have q2 := Q.c2
  have z0 := Q.frozen 0
  have z1 := Q.frozen 1
  have z2 := Q.frozen 2
  have ltQ := Q.lt
  go_wp2_with fail
  clear q0 q1 q2 z0 z1 z2
  have hs8 : Spares (fun y => y = q) w8 (((w8.setCell ⟨q, 0, none⟩ (.int .i64 6)).setCell ⟨q, 1, none⟩ (.int .i64 0)).setCell ⟨q, 2, none⟩ (.slice (some ⟨gr, 0, none⟩) 2 2)) := Spares.set (Spares.set (Spares.set (Spares.refl w8)))
  replace Q := ((Q.set 0 (.int .i64 6)).set 1 (.int .i64 0)).set 2 (.slice (some ⟨gr, 0, none⟩) 2 2)
  generalize (((w8.setCell ⟨q, 0, none⟩ (.int .i64 6)).setCell ⟨q, 1, none⟩ (.int .i64 0)).setCell ⟨q, 2, none⟩ (.slice (some ⟨gr, 0, none⟩) 2 2)) = w9 at Q hs8 ⊢
  replace R := R.keep (hs8.block _ R.lt (by omega))
  replace hB := hB.trans (hs8.below (B := w.heap.size) hB.size (fun y hy => by omega))
  have hk2 : RdX (fun b => b = q) w9 (kidsD [y1, y2]) (.slice (some ⟨gr, 0, none⟩) 2 2) := RdX.keep hr (KeptX.of_spares hs8 (fun b _ h => h))
  clear hr hb8 ltQ
  have hk := hk2.rd
  -- goal: what stands behind the store to the raw box; world w9; Q : the raw box holds two K X Y; hk : its kids are read; E1 : the result is limE (two K X Y)
  have hat : ExAt w9 q 0 (.two 6 y1 y2) := Q.exAt hk
  have hsz9 : (Ex.two 6 y1 y2).size ≤ 90000 := by rw [size_two]; omega
  refine (l01Size_all _ _ _ _ _ (Nat.le_refl _) hat (by omega)).mono ?_
  rintro f w10 ⟨rfl, rfl⟩
  clear hk
  by_cases h8 : (Ex.two 6 y1 y2).size ≤ 800
  ·
   have c8 : ¬ (((Ex.two 6 y1 y2).size : Int) > 800) := by omega
   have E2 : Hid (limE (.two 6 y1 y2) = some (Ex.two 6 y1 y2).tidy) := by show _ = _; unfold limE; rw [if_pos h8]
   go_wp2_with fail
   refine (l02Tidy_all tm am ht ha _ _ _ _ _ (Nat.le_refl _) hat (tree_two (Or.inl rfl) hp1 hq1) hsz9).mono ?_
   rintro f w11 ⟨s11, c11, rfl, hf, hb⟩
   have hzw := R.lt
   replace hB := Below.on hB hb hB.size
   replace R := R.below hb
   clear c8 h8 hsz9
   have r0 := R.c0
   have r1 := R.c1
   have r2 := R.c2
   have z0 := R.frozen 0
   have z1 := R.frozen 1
   have z2 := R.frozen 2
   have ltR := R.lt
   go_wp2_with fail
   have T2 := ((R.set 0 (.int .i64 (Ex.two 6 y1 y2).tidy.kind)).set 1 (.int .i64 (Ex.two 6 y1 y2).tidy.num)).set 2 (.slice s11 (Ex.two 6 y1 y2).tidy.kids.length c11)
   have hs5 : Spares (fun y => y = w.heap.size) w11 (((w11.setCell ⟨w.heap.size, 0, none⟩ (.int .i64 (Ex.two 6 y1 y2).tidy.kind)).setCell ⟨w.heap.size, 1, none⟩ (.int .i64 (Ex.two 6 y1 y2).tidy.num)).setCell ⟨w.heap.size, 2, none⟩ (.slice s11 (Ex.two 6 y1 y2).tidy.kids.length c11)) := Spares.set (Spares.set (Spares.set (Spares.refl w11)))
   generalize (((w11.setCell ⟨w.heap.size, 0, none⟩ (.int .i64 (Ex.two 6 y1 y2).tidy.kind)).setCell ⟨w.heap.size, 1, none⟩ (.int .i64 (Ex.two 6 y1 y2).tidy.num)).setCell ⟨w.heap.size, 2, none⟩ (.slice s11 (Ex.two 6 y1 y2).tidy.kids.length c11)) = w5 at T2 hs5 ⊢
   have t0 := T2.c0
   have t1 := T2.c1
   have t2 := T2.c2
   have hzB5 := hB.size
   have hB5 := hB.trans (hs5.below (B := w.heap.size) (by omega) (fun y hy => by omega))
   refine bodyPost_ret (v := .tuple #[.agg #[.int .i64 (Ex.two 6 y1 y2).tidy.kind, .int .i64 (Ex.two 6 y1 y2).tidy.num, .slice s11 (Ex.two 6 y1 y2).tidy.kids.length c11], .bool true]) (by simp [results, Tryz.results58, go_sem, t0, t1, t2]) rfl ?_
   rw [E1.out, E2.out]
   exact ⟨_, _, _, rfl, fun d hd => by
    obtain rfl := Option.some.inj hd
    exact ⟨rfl, Freshs.from (Freshs.keep hf (fun y _ hy2 => hs5.block y hy2 (by omega))) (Nat.le_of_lt hzw)⟩, hB5⟩
  ·
   have c8 : ((Ex.two 6 y1 y2).size : Int) > 800 := by omega
   have E2 : Hid (limE (.two 6 y1 y2) = none) := by show _ = _; unfold limE; rw [if_neg h8]
   have q0 := Q.c0
   have q1 := Q.c1
   have q2 := Q.c2
   have ltQ := Q.lt
   clear hat hsz9
   have r0 := R.c0
   have r1 := R.c1
   have r2 := R.c2
   have z0 := R.frozen 0
   have z1 := R.frozen 1
   have z2 := R.frozen 2
   have ltR := R.lt
   go_wp2_with fail
   have T2 := ((R.set 0 (.int .i64 6)).set 1 (.int .i64 0)).set 2 (.slice (some ⟨gr, 0, none⟩) 2 2)
   have hs5 : Spares (fun y => y = w.heap.size) w9 (((w9.setCell ⟨w.heap.size, 0, none⟩ (.int .i64 6)).setCell ⟨w.heap.size, 1, none⟩ (.int .i64 0)).setCell ⟨w.heap.size, 2, none⟩ (.slice (some ⟨gr, 0, none⟩) 2 2)) := Spares.set (Spares.set (Spares.set (Spares.refl w9)))
   generalize (((w9.setCell ⟨w.heap.size, 0, none⟩ (.int .i64 6)).setCell ⟨w.heap.size, 1, none⟩ (.int .i64 0)).setCell ⟨w.heap.size, 2, none⟩ (.slice (some ⟨gr, 0, none⟩) 2 2)) = w5 at T2 hs5 ⊢
   have t0 := T2.c0
   have t1 := T2.c1
   have t2 := T2.c2
   have hzB5 := hB.size
   have hB5 := hB.trans (hs5.below (B := w.heap.size) (by omega) (fun y hy => by omega))
   refine bodyPost_ret (v := .tuple #[.agg #[.int .i64 6, .int .i64 0, .slice (some ⟨gr, 0, none⟩) 2 2], .bool false]) (by simp [results, Tryz.results58, go_sem, t0, t1, t2]) rfl ?_
   rw [E1.out, E2.out]
   exact ⟨.two 6 y1 y2, _, _, rfl, (fun d hd => by cases hd), hB5⟩
 have c6 : (k == 6) = false := by simp [h6]
 by_cases h7' : k = 7
 ·
  subst h7'
  obtain ⟨u, v, rfl⟩ := two_kids hk (Or.inr rfl)
  have hsz := Ex.size_eq (.mk 7 n [u, v])
  simp only [Ex.sizeL, Ex.kids_mk] at hsz
  have hut : u.tree tm am = true := Ex.treeL_mem htl (by simp)
  have hvt : v.tree tm am = true := Ex.treeL_mem htl (by simp)
  obtain ⟨o1, Ho1⟩ : ∃ o, Hid (o = u.step m x) := ⟨_, rfl⟩
  obtain ⟨o2, Ho2⟩ : ∃ o, Hid (o = v.step m x) := ⟨_, rfl⟩
  have E0 : Hid ((Ex.mk 7 n [u, v]).step m x = o1.bind fun p => if u.emp m = true then o2.bind fun q => limE (.two 6 (.two 7 p v) q) else limE (.two 7 p v)) := by show _ = _; rw [Ho1.out, Ho2.out]; exact Ex.step_dot
  clear htl hk c4 h4 h6 c6
  obtain ⟨g0, g1, sx, cx, g2, g3⟩ := id hx
  simp only [Ex.kind_mk, Ex.num_mk, Ex.kids_mk] at g0 g1 g2
  obtain ⟨kb, ko, rfl⟩ := kid_some g3 (by simp [Ex.kids])
  have hu : ExAt w kb ko u := by have := kid_exAt g3 (i := 0) (e := u) rfl; simpa using this
  obtain ⟨-, hlen, hcap, -, -⟩ := kid_at g3
  unfold maxLen at hcap
  simp only [List.length_cons, List.length_nil, Nat.zero_add, Nat.reduceAdd] at g2 hlen hcap
  have G0 := Lib.hid g0
  have G1 := Lib.hid g1
  have G2 := Lib.hid g2
  clear g0 g1 g2
  go_enter Tryz.func58, Tryz.ntmps58
  go_wp2_with fail
  have R := Blk.new3 w 34 (.int .i64 0) (.int .i64 0) (.slice none 0 0)
  have hB : Below w.heap.size w (w.alloc (.cells #[.int .i64 0, .int .i64 0, .slice none 0 0] 34)) := by (repeat' first | exact Below.refl _ _ | assumption | apply Below.alloc | apply Below.drew | apply Below.setCell | omega | (simp; done) | (simp; omega))
  have hz0 : (w.alloc (.cells #[.int .i64 0, .int .i64 0, .slice none 0 0] 34)).heap.size = w.heap.size + 1 := by simp
  generalize w.alloc (.cells #[.int .i64 0, .int .i64 0, .slice none 0 0] 34) = w1 at R hB hz0 ⊢
  refine (l02Zero_v).mono ?_
  rintro f w2 ⟨rfl, hb⟩
  replace hB := Below.on hB hb hB.size
  replace R := R.below hb
  clear hb
  have g0 := (hB.cell (p := ⟨b, o, none⟩) hlt).trans G0.out
  have g1 := (hB.cell (p := ⟨b, o + 1, none⟩) hlt).trans G1.out
  have g2 := (hB.cell (p := ⟨b, o + 2, none⟩) hlt).trans G2.out
  have hlt2 : b < w2.heap.size := by have := hB.size; omega
  have hz2 : w.heap.size < w2.heap.size := R.lt
  have hv : ExAt w kb (ko + 3) v := by have := kid_exAt g3 (i := 1) (e := v) rfl; simpa using this
  obtain ⟨v0, v1, sv, cv, v2, hvr⟩ := id hv
  have V0 := Lib.hid v0
  have V1 := Lib.hid v1
  have V2 := Lib.hid v2
  have hkb : kb < w.heap.size := hu.lt
  clear v0 v1 v2
  -- the walk stands at the first call; the raw box q
  go_wp2_with fail
  clear g0 g1 g2
  have Q := Blk.new3 w2 34 (.int .i64 1) (.int .i64 0) (.slice none 0 0)
  have hb3 : Below w2.heap.size w2 (w2.alloc (.cells #[.int .i64 1, .int .i64 0, .slice none 0 0] 34)) := by (repeat' first | exact Below.refl _ _ | assumption | apply Below.alloc | apply Below.drew | apply Below.setCell | omega | (simp; done) | (simp; omega))
  generalize w2.alloc (.cells #[.int .i64 1, .int .i64 0, .slice none 0 0] 34) = w3 at Q hb3 ⊢
  replace hB := Below.on hB hb3 hB.size
  replace R := R.below hb3
  obtain ⟨q, hq⟩ : ∃ q, w2.heap.size = q := ⟨_, rfl⟩
  rw [hq] at Q hz2
  simp only [hq]
  clear hb3 hq hlt2
  have hvx : ExX (fun b => b = q) w v sv cv := RdX.of_rd hvr (fun b h => by omega)
  -- the first kid's derivative; y1 : what comes back; box a
  refine (HIH.out u.size (by omega) u _ _ _ (Nat.le_refl _) (hu.below hB) hut (by omega)).mono ?_
  rintro f w4 ⟨y1, s1, c1, rfl, hy1, hb4⟩
  rw [← Ho1.out] at hy1 ⊢
  have hz3 := Q.lt
  replace hB := Below.on hB hb4 hB.size
  replace R := R.below hb4
  replace Q := Q.below hb4
  cases o1 with
  | none =>
   have i1 : (none : Option Ex).isSome = false := rfl
   have E1 : Hid ((Ex.mk 7 n [u, v]).step m x = none) := E0
   clear hy1
   -- a part has no derivative; the world is w4.alloc .int .i64 y1.kind, .int .i64 y1.num, .slice s1 y1.kids.length c1; the raw box holds 1, 0, nil
   have q0 := Q.c0
   have q1 := Q.c1
   have q2 := Q.c2
   have ltQ := Q.lt
   have r0 := R.c0
   have r1 := R.c1
   have r2 := R.c2
   have z0 := R.frozen 0
   have z1 := R.frozen 1
   have z2 := R.frozen 2
   have ltR := R.lt
   go_wp2_with fail
   have T2 := (((R.set 0 (.int .i64 1)).set 1 (.int .i64 0)).set 2 (.slice none 0 0)).alloc (.cells #[.int .i64 y1.kind, .int .i64 y1.num, .slice s1 y1.kids.length c1] 34)
   have hs5 : Spares (fun y => y = w.heap.size) w4 ((((w4.setCell ⟨w.heap.size, 0, none⟩ (.int .i64 1)).setCell ⟨w.heap.size, 1, none⟩ (.int .i64 0)).setCell ⟨w.heap.size, 2, none⟩ (.slice none 0 0)).alloc (.cells #[.int .i64 y1.kind, .int .i64 y1.num, .slice s1 y1.kids.length c1] 34)) := (Spares.set (Spares.set (Spares.set (Spares.refl w4)))).trans (Spares.of_below (Below.alloc (Below.refl _ _) (Nat.le_refl _) _))
   generalize (((w4.setCell ⟨w.heap.size, 0, none⟩ (.int .i64 1)).setCell ⟨w.heap.size, 1, none⟩ (.int .i64 0)).setCell ⟨w.heap.size, 2, none⟩ (.slice none 0 0)).alloc (.cells #[.int .i64 y1.kind, .int .i64 y1.num, .slice s1 y1.kids.length c1] 34) = w5 at T2 hs5 ⊢
   have t0 := T2.c0
   have t1 := T2.c1
   have t2 := T2.c2
   have hzB5 := hB.size
   have hB5 := hB.trans (hs5.below (B := w.heap.size) (by omega) (fun y hy => by omega))
   refine bodyPost_ret (v := .tuple #[.agg #[.int .i64 1, .int .i64 0, .slice none 0 0], .bool false]) (by simp [results, Tryz.results58, go_sem, t0, t1, t2]) rfl ?_
   rw [E1.out]
   exact ⟨.leaf 1, _, _, rfl, (fun d hd => by cases hd), hB5⟩
  | some p =>
  have i1 : (some p).isSome = true := rfl
  obtain ⟨rfl, hf1⟩ := hy1 p rfl
  obtain ⟨hp1, hp2⟩ := step_spec tm am m x _ u y1 (Nat.le_refl _) hut Ho1.out.symm
  have hdx4 : ExX (fun b => b = q) w4 y1 s1 c1 := RdX.fresh hf1 (fun b h => by omega)
  clear hy1 hf1
  -- box a; then the drawn region
  go_wp2_with fail
  have A := Blk.new3 w4 34 (.int .i64 y1.kind) (.int .i64 y1.num) (.slice s1 y1.kids.length c1)
  have hb5 : Below w4.heap.size w4 (w4.alloc (.cells #[.int .i64 y1.kind, .int .i64 y1.num, .slice s1 y1.kids.length c1] 34)) := by (repeat' first | exact Below.refl _ _ | assumption | apply Below.alloc | apply Below.drew | apply Below.setCell | omega | (simp; done) | (simp; omega))
  generalize w4.alloc (.cells #[.int .i64 y1.kind, .int .i64 y1.num, .slice s1 y1.kids.length c1] 34) = w5 at A hb5 ⊢
  have hz4 := hb4.size
  have hz5 := hb5.size
  have hdx := hdx4.below hb5
  replace hB := Below.on hB hb5 hB.size
  replace R := R.below hb5
  replace Q := Q.below hb5
  have hB5 := hB
  have hXW : ∀ b, b = q → b < w5.heap.size := fun b h => by omega
  clear hb4 hb5 hdx4
  have hvx5 := hvx.below hB5
  have hbw := hB5.size
  obtain ⟨x0, hx0⟩ := mkval ?a1_0
  obtain ⟨x1, hx1⟩ := mkval ?a1_1
  obtain ⟨x2, hx2⟩ := mkval ?a1_2
  obtain ⟨x3, hx3⟩ := mkval ?a1_3
  obtain ⟨x4, hx4⟩ := mkval ?a1_4
  obtain ⟨x5, hx5⟩ := mkval ?a1_5
  obtain ⟨x6, hx6⟩ := mkval ?a1_6
  have hGb : ∀ m b, (fun m b => (m = 0 ∧ b = q)) m b → (w.heap.size + 1) ≤ b ∧ b < (w5).heap.size := by
   intro m b hg
   rcases hg with ⟨rfl, hg⟩
   ·
    subst hg
    have q := Q.lt
    omega
  have hGd : ∀ m m' b, (fun m b => (m = 0 ∧ b = q)) m b → (fun m b => (m = 0 ∧ b = q)) m' b → m = m' := by
   intro m m' b h h'
   rcases h with ⟨rfl, h⟩ <;> rcases h' with ⟨rfl, h'⟩ <;> first
    | rfl
  have hGX : ∀ m b, (fun m b => (m = 0 ∧ b = q)) m b → (fun b => b = q) b := by
   intro m b hg
   rcases hg with ⟨rfl, rfl⟩ <;> simp
  refine region_rs [] [(8, 0)] (fun m b => (m = 0 ∧ b = q)) (w.heap.size + 1) (fun i iv vs wx => match i with
   | 0 => vs 0 = x0
   | 1 => vs 1 = x1
   | 2 => vs 2 = x2
   | 3 => vs 3 = x3
   | 4 => vs 4 = x4
   | 5 => vs 5 = x5
   | 6 => vs 6 = x6
   | 7 => ∃ gr, vs 7 = .agg #[.int .i64 7, .int .i64 0, .slice (some ⟨gr, 0, none⟩) 2 2] ∧ RdO w5 (fun b => b = q) (foot [] [(8, 0)] (fun m b => (m = 0 ∧ b = q)) 9 7 iv) wx (kidsD [y1, v]) (.slice (some ⟨gr, 0, none⟩) 2 2)
   | 8 => Blk wx (q) 34 [aggAt (vs 7) 0, aggAt (vs 7) 1, aggAt (vs 7) 2]
   | _ => True) (fun i iv vs => match i with
   | 0 => vs 0 = x0
   | 1 => vs 1 = x1
   | 2 => vs 2 = x2
   | 3 => vs 3 = x3
   | 4 => vs 4 = x4
   | 5 => vs 5 = x5
   | 6 => vs 6 = x6
   | 7 => ∃ gr, vs 7 = .agg #[.int .i64 7, .int .i64 0, .slice (some ⟨gr, 0, none⟩) 2 2]
   | 8 => True
   | _ => True) (by kernel_rfl) (by kernel_rfl) [0, 1, 2, 3, 4, 5, 6, 7, 8] (by kernel_rfl) ?hbase ?hGb ?hG ?hJ ?hE ?hEE ?hstep ?hQ
  case hbase => first | exact Nat.le_refl _ | omega | (simp; omega)
  case hGb =>
   exact hGb
  case hG =>
   exact hGd
  case hJ =>
   intro i hi iv iv' vs vs' wx wx' ha hv hz hk hj
   simp only [List.mem_cons, List.not_mem_nil, or_false] at hi
   rcases hi with rfl | rfl | rfl | rfl | rfl | rfl | rfl | rfl | rfl
   ·
    exact (hv.out 0 (mem_of (by kernel_rfl))).symm.trans hj
   ·
    exact (hv.out 1 (mem_of (by kernel_rfl))).symm.trans hj
   ·
    exact (hv.out 2 (mem_of (by kernel_rfl))).symm.trans hj
   ·
    exact (hv.out 3 (mem_of (by kernel_rfl))).symm.trans hj
   ·
    exact (hv.out 4 (mem_of (by kernel_rfl))).symm.trans hj
   ·
    exact (hv.out 5 (mem_of (by kernel_rfl))).symm.trans hj
   ·
    exact (hv.out 6 (mem_of (by kernel_rfl))).symm.trans hj
   ·
    have e7 := hv.out 7 (mem_of (by kernel_rfl))
    obtain ⟨gr, q1, q2⟩ := hj
    exact ⟨gr, e7 ▸ q1, q2.keep hz (fun b hb h1 => hk.out b hb h1) (fun b h1 => foot_agree (l := ancs _ 9 7) (by exact of_decide_eq_true (by kernel_rfl)) ha.out h1)⟩
   ·
    have e7 := hv.out 7 (mem_of (by kernel_rfl))
    have hj' : Blk wx (q) 34 [aggAt (vs 7) 0, aggAt (vs 7) 1, aggAt (vs 7) 2] := hj
    show Blk wx' (q) 34 [aggAt (vs' 7) 0, aggAt (vs' 7) 1, aggAt (vs' 7) 2]
    rw [← e7]
    exact hj'.keep (hk.out _ hj'.lt (foot_given 0 (by decide) ⟨rfl, rfl⟩))
  case hE =>
   intro i hi iv vs wx hj
   simp only [List.mem_cons, List.not_mem_nil, or_false] at hi
   rcases hi with rfl | rfl | rfl | rfl | rfl | rfl | rfl | rfl | rfl
   ·
    exact hj
   ·
    exact hj
   ·
    exact hj
   ·
    exact hj
   ·
    exact hj
   ·
    exact hj
   ·
    exact hj
   ·
    obtain ⟨gr, q1, -⟩ := hj
    exact ⟨gr, q1⟩
   ·
    trivial
  case hEE =>
   intro i hi iv iv' vs vs' ha hv hj
   simp only [List.mem_cons, List.not_mem_nil, or_false] at hi
   rcases hi with rfl | rfl | rfl | rfl | rfl | rfl | rfl | rfl | rfl
   ·
    exact (hv.out 0 (mem_of (by kernel_rfl))).symm.trans hj
   ·
    exact (hv.out 1 (mem_of (by kernel_rfl))).symm.trans hj
   ·
    exact (hv.out 2 (mem_of (by kernel_rfl))).symm.trans hj
   ·
    exact (hv.out 3 (mem_of (by kernel_rfl))).symm.trans hj
   ·
    exact (hv.out 4 (mem_of (by kernel_rfl))).symm.trans hj
   ·
    exact (hv.out 5 (mem_of (by kernel_rfl))).symm.trans hj
   ·
    exact (hv.out 6 (mem_of (by kernel_rfl))).symm.trans hj
   ·
    have e7 := hv.out 7 (mem_of (by kernel_rfl))
    have hj' : ∃ gr, vs 7 = .agg #[.int .i64 7, .int .i64 0, .slice (some ⟨gr, 0, none⟩) 2 2] := hj
    show ∃ gr, vs' 7 = .agg #[.int .i64 7, .int .i64 0, .slice (some ⟨gr, 0, none⟩) 2 2]
    rw [← e7]
    exact hj'
   ·
    trivial
  case hstep =>
   intro i hi opr ho iv vs w1 hB hS hSo hd he hbd hsep hun K hK
   simp only [List.mem_cons, List.not_mem_nil, or_false] at hi
   have hzB := hB.size
   have HGb := Lib.hid hGb
   clear hGb hGd
   have hBw : Below w.heap.size w w1 := hB5.trans (hB.mono (by omega))
   have g0 := (hBw.cell (p := ⟨b, o, none⟩) hlt).trans G0.out
   have g1 := (hBw.cell (p := ⟨b, o + 1, none⟩) hlt).trans G1.out
   have g2 := (hBw.cell (p := ⟨b, o + 2, none⟩) hlt).trans G2.out
   have hlt1 : b < w1.heap.size := by have := hBw.size; omega
   have A1 := A.keep (hSo.out.block _ A.lt (fun ⟨_, _, h⟩ => by omega))
   have a0 := A1.c0
   have a1 := A1.c1
   have a2 := A1.c2
   have ltA := A1.lt
   have v0 := (hBw.cell (p := ⟨kb, ko + 3, none⟩) hkb).trans V0.out
   have v1 := (hBw.cell (p := ⟨kb, ko + 3 + 1, none⟩) hkb).trans V1.out
   have v2 := (hBw.cell (p := ⟨kb, ko + 3 + 2, none⟩) hkb).trans V2.out
   generalize hA : putFrom _ 0 vs _ = A at hK ⊢
   simp only [putFrom, puts] at hA
   rcases hi with rfl | rfl | rfl | rfl | rfl | rfl | rfl | rfl | rfl
   all_goals
    simp at ho
    subst ho
    subst hA
   ·
    go_wp2_with fail
    refine Onward.mk (hK ?val1_0 _ _ (fun h => by cases h) ?eqA (Spares.refl _) (fun iv' _ _ => ?ja))
    case eqA => first | rfl | (simp only [puts]; rfl)
    case ja => exact hx0.out.symm
   ·
    go_wp2_with fail
    refine Onward.mk (hK ?val1_1 _ _ (fun h => by cases h) ?eqA (Spares.refl _) (fun iv' _ _ => ?ja))
    case eqA => first | rfl | (simp only [puts]; rfl)
    case ja => exact hx1.out.symm
   ·
    have h1 := (hd.out 1 (mem_of (by kernel_rfl)) (by decide) (by kernel_rfl)).trans hx1.out
    go_wp2_with fail
    refine Onward.mk (hK ?val1_2 _ _ (fun h => by cases h) ?eqA (Spares.refl _) (fun iv' _ _ => ?ja))
    case eqA => first | rfl | (simp only [puts, h1]; rfl)
    case ja => exact hx2.out.symm
   ·
    have h2 := (hd.out 2 (mem_of (by kernel_rfl)) (by decide) (by kernel_rfl)).trans hx2.out
    go_wp2_with fail
    refine Onward.mk (hK ?val1_3 _ _ (fun h => by cases h) ?eqA (Spares.refl _) (fun iv' _ _ => ?ja))
    case eqA => first | rfl | (simp only [puts, h2]; rfl)
    case ja => exact hx3.out.symm
   ·
    have h3 := (hd.out 3 (mem_of (by kernel_rfl)) (by decide) (by kernel_rfl)).trans hx3.out
    go_wp2_with fail
    refine Onward.mk (hK ?val1_4 _ _ (fun h => by cases h) ?eqA (Spares.refl _) (fun iv' _ _ => ?ja))
    case eqA => first | rfl | (simp only [puts, h3]; rfl)
    case ja => exact hx4.out.symm
   ·
    have h4 := (hd.out 4 (mem_of (by kernel_rfl)) (by decide) (by kernel_rfl)).trans hx4.out
    go_wp2_with fail
    refine Onward.mk (hK ?val1_5 _ _ (fun h => by cases h) ?eqA (Spares.refl _) (fun iv' _ _ => ?ja))
    case eqA => first | rfl | (simp only [puts, h4]; rfl)
    case ja => exact hx5.out.symm
   ·
    have h5 := (hd.out 5 (mem_of (by kernel_rfl)) (by decide) (by kernel_rfl)).trans hx5.out
    go_wp2_with fail
    refine Onward.mk (hK ?val1_6 _ _ (fun h => by cases h) ?eqA (Spares.refl _) (fun iv' _ _ => ?ja))
    case eqA => first | rfl | (simp only [puts, h5]; rfl)
    case ja => exact hx6.out.symm
   ·
    have h0 := (hd.out 0 (mem_of (by kernel_rfl)) (by decide) (by kernel_rfl)).trans hx0.out
    have h6 := (hd.out 6 (mem_of (by kernel_rfl)) (by decide) (by kernel_rfl)).trans hx6.out
    go_wp2_with fail
    have hO : KeptX (fun b => b = q) w5 w1 := KeptX.of_spares hSo.out (fun b _ ⟨m, hg⟩ => hGX m b hg)
    obtain ⟨XQ, hXQ⟩ : ∃ XQ, XQ = OutX w5 (fun b => b = q) (fun b => False) w1 := ⟨_, rfl⟩
    have hXl : ∀ b, XQ b → b < w1.heap.size := by rw [hXQ]; exact OutX.lt
    have hOld : ∀ (d : D) (v : Value), RdX (fun b => b = q) w5 d v → RdX XQ w1 d v := by rw [hXQ]; exact fun d v h => h.toOut hO
    refine (l02Pair_x (X := XQ) hXl (hOld _ _ hdx) (hOld _ _ hvx5)).mono ?_
    rintro e w2 ⟨gr, rfl, hr, hb⟩
    go_wp2_with fail
    rw [hXQ] at hr
    exact Onward.mk (hK (.agg #[.int .i64 7, .int .i64 0, .slice (some ⟨gr, 0, none⟩) 2 2]) _ _ (fun h => by cases h) (by first | rfl | (simp only [puts, h0, h6])) (Spares.of_below hb) (fun iv' ag hi => ⟨gr, rfl, RdO.ofX hr hb hO (fun b h => by exact h.elim) (fun b h1 h2 => foot_new hi h1 h2)⟩))
   ·
    obtain ⟨gr, h7, f7⟩ := hd.out 7 (mem_of (by kernel_rfl)) (by decide) (by kernel_rfl)
    have Q1 := Q.keep (hS.out 0 _ (by kernel_rfl) ⟨rfl, rfl⟩)
    have qc0 := Q1.c0
    have qz0 := Q1.frozen 0
    have qc1 := Q1.c1
    have qz1 := Q1.frozen 1
    have qc2 := Q1.c2
    have qz2 := Q1.frozen 2
    have qlt := Q1.lt
    go_wp2_with fail
    exact Onward.mk (hK undef _ _ (fun _ => rfl) (by simp only [puts, h7]) ((spares_sets (b0 := q) (by repeat (first | exact Spares.refl _ | apply Spares.set))).more (fun b h => Or.inl ⟨0, by decide, ⟨rfl, h⟩⟩)) (fun iv' ag hi => by
     show Blk _ (q) 34 [aggAt (vs 7) 0, aggAt (vs 7) 1, aggAt (vs 7) 2]
     rw [h7]
     exact (((Q1.set 0 _).set 1 _).set 2 _)))
  case hQ =>
   intro iv vs wx hB hSp hd he hbd hsep
   have hzB := hB.size
   have h0 := (hd.out 0 (mem_of (by kernel_rfl)) (not_eaten (by kernel_rfl))).trans hx0.out
   have h1 := (hd.out 1 (mem_of (by kernel_rfl)) (not_eaten (by kernel_rfl))).trans hx1.out
   have h2 := (hd.out 2 (mem_of (by kernel_rfl)) (not_eaten (by kernel_rfl))).trans hx2.out
   have h3 := (hd.out 3 (mem_of (by kernel_rfl)) (not_eaten (by kernel_rfl))).trans hx3.out
   have h4 := (hd.out 4 (mem_of (by kernel_rfl)) (not_eaten (by kernel_rfl))).trans hx4.out
   have h5 := (hd.out 5 (mem_of (by kernel_rfl)) (not_eaten (by kernel_rfl))).trans hx5.out
   have h6 := (hd.out 6 (mem_of (by kernel_rfl)) (not_eaten (by kernel_rfl))).trans hx6.out
   obtain ⟨gr, h7, f7⟩ := hd.out 7 (mem_of (by kernel_rfl)) (not_eaten (by kernel_rfl))
   have f8 : Blk _ (q) 34 [aggAt (vs 7) 0, aggAt (vs 7) 1, aggAt (vs 7) 2] := hd.out 8 (mem_of (by kernel_rfl)) (not_eaten (by kernel_rfl))
   simp only [putFrom, puts]
   have hOq : KeptX (fun b => b = q) w5 wx := KeptX.of_spares hSp.out (fun b _ ⟨m, hg⟩ => hGX m b hg)
   have r7 : RdX (fun b => b = q) wx (kidsD [y1, v]) (.slice (some ⟨gr, 0, none⟩) 2 2) := f7.done hOq (fun b hf hx => by have q := foot_no (l := [0, 1, 2, 3, 4, 5, 6, 7, 8]) (by kernel_rfl) (by kernel_rfl) hbd.out hf; have q' := hXW b hx; omega)
   clear f7
   -- behind the region: 7 the call
   rw [h7] at f8
   simp only [aggAt] at f8
   replace R := R.keep (hSp.out.block _ R.lt (fun ⟨_, _, h⟩ => by omega))
   replace hB : Below w.heap.size w wx := hB5.trans (hB.mono (by omega))
   replace Q : Blk wx q 34 [.int .i64 7, .int .i64 0, .slice (some ⟨gr, 0, none⟩) 2 2] := f8
   have hk2 := r7
   clear hd he hbd hsep h0 h1 h2 h3 h4 h5 h6 h7 f8 hSp
   obtain ⟨w8, rfl⟩ : ∃ v, v = wx := ⟨_, rfl⟩
   have g2 := (hB.cell (p := ⟨b, o + 2, none⟩) hlt).trans G2.out
   have hlt8 : b < w8.heap.size := by have := hB.size; omega
   go_wp2_with fail
   refine (l02Empty_all tm am m ht2 h0 h7 _ u kb ko w8 (Nat.le_refl _) (hu.below hB) hut).mono ?_
   rintro f w' ⟨rfl, rfl⟩
   cases he : u.emp m
   ·
    have E1 : Hid ((Ex.mk 7 n [u, v]).step m x = limE (.two 7 y1 v)) := by show _ = _; rw [E0.out]; simp [he]
    obtain ⟨w9, rfl⟩ : ∃ v, v = w8 := ⟨_, rfl⟩
    clear he
    go_wp2_with fail
    have hk := hk2.rd
    -- goal: what stands behind the store to the raw box; world w9; Q : the raw box holds two K X Y; hk : its kids are read; E1 : the result is limE (two K X Y)
    have hat : ExAt w9 q 0 (.two 7 y1 v) := Q.exAt hk
    have hsz9 : (Ex.two 7 y1 v).size ≤ 90000 := by rw [size_two]; omega
    refine (l01Size_all _ _ _ _ _ (Nat.le_refl _) hat (by omega)).mono ?_
    rintro f w10 ⟨rfl, rfl⟩
    clear hk
    by_cases h8 : (Ex.two 7 y1 v).size ≤ 800
    ·
     have c8 : ¬ (((Ex.two 7 y1 v).size : Int) > 800) := by omega
     have E2 : Hid (limE (.two 7 y1 v) = some (Ex.two 7 y1 v).tidy) := by show _ = _; unfold limE; rw [if_pos h8]
     go_wp2_with fail
     refine (l02Tidy_all tm am ht ha _ _ _ _ _ (Nat.le_refl _) hat (tree_two (Or.inr rfl) hp1 hvt) hsz9).mono ?_
     rintro f w11 ⟨s11, c11, rfl, hf, hb⟩
     have hzw := R.lt
     replace hB := Below.on hB hb hB.size
     replace R := R.below hb
     clear c8 h8 hsz9
     have r0 := R.c0
     have r1 := R.c1
     have r2 := R.c2
     have z0 := R.frozen 0
     have z1 := R.frozen 1
     have z2 := R.frozen 2
     have ltR := R.lt
     go_wp2_with fail
     have T2 := ((R.set 0 (.int .i64 (Ex.two 7 y1 v).tidy.kind)).set 1 (.int .i64 (Ex.two 7 y1 v).tidy.num)).set 2 (.slice s11 (Ex.two 7 y1 v).tidy.kids.length c11)
     have hs5 : Spares (fun y => y = w.heap.size) w11 (((w11.setCell ⟨w.heap.size, 0, none⟩ (.int .i64 (Ex.two 7 y1 v).tidy.kind)).setCell ⟨w.heap.size, 1, none⟩ (.int .i64 (Ex.two 7 y1 v).tidy.num)).setCell ⟨w.heap.size, 2, none⟩ (.slice s11 (Ex.two 7 y1 v).tidy.kids.length c11)) := Spares.set (Spares.set (Spares.set (Spares.refl w11)))
     generalize (((w11.setCell ⟨w.heap.size, 0, none⟩ (.int .i64 (Ex.two 7 y1 v).tidy.kind)).setCell ⟨w.heap.size, 1, none⟩ (.int .i64 (Ex.two 7 y1 v).tidy.num)).setCell ⟨w.heap.size, 2, none⟩ (.slice s11 (Ex.two 7 y1 v).tidy.kids.length c11)) = w5 at T2 hs5 ⊢
     have t0 := T2.c0
     have t1 := T2.c1
     have t2 := T2.c2
     have hzB5 := hB.size
     have hB5 := hB.trans (hs5.below (B := w.heap.size) (by omega) (fun y hy => by omega))
     refine bodyPost_ret (v := .tuple #[.agg #[.int .i64 (Ex.two 7 y1 v).tidy.kind, .int .i64 (Ex.two 7 y1 v).tidy.num, .slice s11 (Ex.two 7 y1 v).tidy.kids.length c11], .bool true]) (by simp [results, Tryz.results58, go_sem, t0, t1, t2]) rfl ?_
     rw [E1.out, E2.out]
     exact ⟨_, _, _, rfl, fun d hd => by
      obtain rfl := Option.some.inj hd
      exact ⟨rfl, Freshs.from (Freshs.keep hf (fun y _ hy2 => hs5.block y hy2 (by omega))) (Nat.le_of_lt hzw)⟩, hB5⟩
    ·
     have c8 : ((Ex.two 7 y1 v).size : Int) > 800 := by omega
     have E2 : Hid (limE (.two 7 y1 v) = none) := by show _ = _; unfold limE; rw [if_neg h8]
     have q0 := Q.c0
     have q1 := Q.c1
     have q2 := Q.c2
     have ltQ := Q.lt
     clear hat hsz9
     have r0 := R.c0
     have r1 := R.c1
     have r2 := R.c2
     have z0 := R.frozen 0
     have z1 := R.frozen 1
     have z2 := R.frozen 2
     have ltR := R.lt
     go_wp2_with fail
     have T2 := ((R.set 0 (.int .i64 7)).set 1 (.int .i64 0)).set 2 (.slice (some ⟨gr, 0, none⟩) 2 2)
     have hs5 : Spares (fun y => y = w.heap.size) w9 (((w9.setCell ⟨w.heap.size, 0, none⟩ (.int .i64 7)).setCell ⟨w.heap.size, 1, none⟩ (.int .i64 0)).setCell ⟨w.heap.size, 2, none⟩ (.slice (some ⟨gr, 0, none⟩) 2 2)) := Spares.set (Spares.set (Spares.set (Spares.refl w9)))
     generalize (((w9.setCell ⟨w.heap.size, 0, none⟩ (.int .i64 7)).setCell ⟨w.heap.size, 1, none⟩ (.int .i64 0)).setCell ⟨w.heap.size, 2, none⟩ (.slice (some ⟨gr, 0, none⟩) 2 2)) = w5 at T2 hs5 ⊢
     have t0 := T2.c0
     have t1 := T2.c1
     have t2 := T2.c2
     have hzB5 := hB.size
     have hB5 := hB.trans (hs5.below (B := w.heap.size) (by omega) (fun y hy => by omega))
     refine bodyPost_ret (v := .tuple #[.agg #[.int .i64 7, .int .i64 0, .slice (some ⟨gr, 0, none⟩) 2 2], .bool false]) (by simp [results, Tryz.results58, go_sem, t0, t1, t2]) rfl ?_
     rw [E1.out, E2.out]
     exact ⟨.two 7 y1 v, _, _, rfl, (fun d hd => by cases hd), hB5⟩
   ·
    have E0' : Hid ((Ex.mk 7 n [u, v]).step m x = o2.bind fun q => limE (.two 6 (.two 7 y1 v) q)) := by show _ = _; rw [E0.out]; simp [he]
    clear he
    go_wp2_with fail
    clear g2
    refine (HIH.out v.size (by omega) v _ _ _ (Nat.le_refl _) (hv.below hB) hvt (by omega)).mono ?_
    rintro f w6 ⟨y2, s2, c2, rfl, hy2, hb6⟩
    rw [← Ho2.out] at hy2 ⊢
    have hzQ := Q.lt
    have hk6 := hk2.below hb6
    replace hB := Below.on hB hb6 hB.size
    replace R := R.below hb6
    replace Q := Q.below hb6
    cases o2 with
    | none =>
     have i2 : (none : Option Ex).isSome = false := rfl
     have E1 : Hid ((Ex.mk 7 n [u, v]).step m x = none) := E0'
     clear hy2
     -- a part has no derivative; the world is w6.alloc .int .i64 y2.kind, .int .i64 y2.num, .slice s2 y2.kids.length c2; the raw box holds 1, 0, nil
     have q0 := Q.c0
     have q1 := Q.c1
     have q2 := Q.c2
     have ltQ := Q.lt
     have r0 := R.c0
     have r1 := R.c1
     have r2 := R.c2
     have z0 := R.frozen 0
     have z1 := R.frozen 1
     have z2 := R.frozen 2
     have ltR := R.lt
     go_wp2_with fail
     have T2 := (((R.set 0 (.int .i64 7)).set 1 (.int .i64 0)).set 2 (.slice (some ⟨gr, 0, none⟩) 2 2)).alloc (.cells #[.int .i64 y2.kind, .int .i64 y2.num, .slice s2 y2.kids.length c2] 34)
     have hs5 : Spares (fun y => y = w.heap.size) w6 ((((w6.setCell ⟨w.heap.size, 0, none⟩ (.int .i64 7)).setCell ⟨w.heap.size, 1, none⟩ (.int .i64 0)).setCell ⟨w.heap.size, 2, none⟩ (.slice (some ⟨gr, 0, none⟩) 2 2)).alloc (.cells #[.int .i64 y2.kind, .int .i64 y2.num, .slice s2 y2.kids.length c2] 34)) := (Spares.set (Spares.set (Spares.set (Spares.refl w6)))).trans (Spares.of_below (Below.alloc (Below.refl _ _) (Nat.le_refl _) _))
     generalize (((w6.setCell ⟨w.heap.size, 0, none⟩ (.int .i64 7)).setCell ⟨w.heap.size, 1, none⟩ (.int .i64 0)).setCell ⟨w.heap.size, 2, none⟩ (.slice (some ⟨gr, 0, none⟩) 2 2)).alloc (.cells #[.int .i64 y2.kind, .int .i64 y2.num, .slice s2 y2.kids.length c2] 34) = w5 at T2 hs5 ⊢
     have t0 := T2.c0
     have t1 := T2.c1
     have t2 := T2.c2
     have hzB5 := hB.size
     have hB5 := hB.trans (hs5.below (B := w.heap.size) (by omega) (fun y hy => by omega))
     refine bodyPost_ret (v := .tuple #[.agg #[.int .i64 7, .int .i64 0, .slice (some ⟨gr, 0, none⟩) 2 2], .bool false]) (by simp [results, Tryz.results58, go_sem, t0, t1, t2]) rfl ?_
     rw [E1.out]
     exact ⟨(.two 7 y1 v), _, _, rfl, (fun d hd => by cases hd), hB5⟩
    | some p2 =>
    have i2 : (some p2).isSome = true := rfl
    obtain ⟨rfl, hf2⟩ := hy2 p2 rfl
    have E1 : Hid ((Ex.mk 7 n [u, v]).step m x = limE (.two 6 (.two 7 y1 v) y2)) := E0'
    obtain ⟨hq1, hq2⟩ := step_spec tm am m x _ v y2 (Nat.le_refl _) hvt Ho2.out.symm
    have hdy6 : ExX (fun b => b = q) w6 y2 s2 c2 := RdX.fresh hf2 (fun b h => by omega)
    have q0 := Q.c0
    have q1 := Q.c1
    have q2 := Q.c2
    have ltQ := Q.lt
    clear hy2 hf2
    go_wp2_with fail
    clear q0 q1 q2 ltQ
    have hb7 : Below w6.heap.size w6 (w6.alloc (.cells #[.int .i64 y2.kind, .int .i64 y2.num, .slice s2 y2.kids.length c2] 34)) := by (repeat' first | exact Below.refl _ _ | assumption | apply Below.alloc | apply Below.drew | apply Below.setCell | omega | (simp; done) | (simp; omega))
    generalize w6.alloc (.cells #[.int .i64 y2.kind, .int .i64 y2.num, .slice s2 y2.kids.length c2] 34) = w7 at hb7 ⊢
    have hdx' : ExX (fun b => b = q) w7 (.two 7 y1 v) (some ⟨gr, 0, none⟩) 2 := hk6.below hb7
    have hdy := hdy6.below hb7
    replace hB := Below.on hB hb7 hB.size
    replace R := R.below hb7
    replace Q := Q.below hb7
    clear hdy6 hdx hk2 hk6 hb6 hb7 i1 i2 E0 E0'
    have hdx := hdx'
    clear hdx'
    -- the call of l02Pair and the store to the raw box; world $V; hdx, hdy : what is read
    refine (l02Pair_x (X := fun b => b = q) (fun b h => by have := Q.lt; omega) hdx hdy).mono ?_
    rintro f w8 ⟨gr, rfl, hr, hb8⟩
    replace hB := Below.on hB hb8 hB.size
    replace R := R.below hb8
    replace Q := Q.below hb8
    have q0 := Q.c0
    have q1 := Q.c1
    have q2 := Q.c2
    have z0 := Q.frozen 0
    have z1 := Q.frozen 1
    have z2 := Q.frozen 2
    have ltQ := Q.lt
    go_wp2_with fail
    clear q0 q1 q2 z0 z1 z2
    have hs8 : Spares (fun y => y = q) w8 (((w8.setCell ⟨q, 0, none⟩ (.int .i64 6)).setCell ⟨q, 1, none⟩ (.int .i64 0)).setCell ⟨q, 2, none⟩ (.slice (some ⟨gr, 0, none⟩) 2 2)) := Spares.set (Spares.set (Spares.set (Spares.refl w8)))
    replace Q := ((Q.set 0 (.int .i64 6)).set 1 (.int .i64 0)).set 2 (.slice (some ⟨gr, 0, none⟩) 2 2)
    generalize (((w8.setCell ⟨q, 0, none⟩ (.int .i64 6)).setCell ⟨q, 1, none⟩ (.int .i64 0)).setCell ⟨q, 2, none⟩ (.slice (some ⟨gr, 0, none⟩) 2 2)) = w9 at Q hs8 ⊢
    replace R := R.keep (hs8.block _ R.lt (by omega))
    replace hB := hB.trans (hs8.below (B := w.heap.size) hB.size (fun y hy => by omega))
    have hk2 : RdX (fun b => b = q) w9 (kidsD [(Ex.two 7 y1 v), y2]) (.slice (some ⟨gr, 0, none⟩) 2 2) := RdX.keep hr (KeptX.of_spares hs8 (fun b _ h => h))
    clear hr hb8 ltQ
    have hk := hk2.rd
    -- goal: what stands behind the store to the raw box; world w9; Q : the raw box holds two K X Y; hk : its kids are read; E1 : the result is limE (two K X Y)
    have hat : ExAt w9 q 0 (.two 6 (.two 7 y1 v) y2) := Q.exAt hk
    have hsz9 : (Ex.two 6 (.two 7 y1 v) y2).size ≤ 90000 := by rw [size_two, size_two]; omega
    refine (l01Size_all _ _ _ _ _ (Nat.le_refl _) hat (by omega)).mono ?_
    rintro f w10 ⟨rfl, rfl⟩
    clear hk
    by_cases h8 : (Ex.two 6 (.two 7 y1 v) y2).size ≤ 800
    ·
     have c8 : ¬ (((Ex.two 6 (.two 7 y1 v) y2).size : Int) > 800) := by omega
     have E2 : Hid (limE (.two 6 (.two 7 y1 v) y2) = some (Ex.two 6 (.two 7 y1 v) y2).tidy) := by show _ = _; unfold limE; rw [if_pos h8]
     go_wp2_with fail
     refine (l02Tidy_all tm am ht ha _ _ _ _ _ (Nat.le_refl _) hat (tree_two (Or.inl rfl) (tree_two (Or.inr rfl) hp1 hvt) hq1) hsz9).mono ?_
     rintro f w11 ⟨s11, c11, rfl, hf, hb⟩
     have hzw := R.lt
     replace hB := Below.on hB hb hB.size
     replace R := R.below hb
     clear c8 h8 hsz9
     have r0 := R.c0
     have r1 := R.c1
     have r2 := R.c2
     have z0 := R.frozen 0
     have z1 := R.frozen 1
     have z2 := R.frozen 2
     have ltR := R.lt
     go_wp2_with fail
     have T2 := ((R.set 0 (.int .i64 (Ex.two 6 (.two 7 y1 v) y2).tidy.kind)).set 1 (.int .i64 (Ex.two 6 (.two 7 y1 v) y2).tidy.num)).set 2 (.slice s11 (Ex.two 6 (.two 7 y1 v) y2).tidy.kids.length c11)
     have hs5 : Spares (fun y => y = w.heap.size) w11 (((w11.setCell ⟨w.heap.size, 0, none⟩ (.int .i64 (Ex.two 6 (.two 7 y1 v) y2).tidy.kind)).setCell ⟨w.heap.size, 1, none⟩ (.int .i64 (Ex.two 6 (.two 7 y1 v) y2).tidy.num)).setCell ⟨w.heap.size, 2, none⟩ (.slice s11 (Ex.two 6 (.two 7 y1 v) y2).tidy.kids.length c11)) := Spares.set (Spares.set (Spares.set (Spares.refl w11)))
     generalize (((w11.setCell ⟨w.heap.size, 0, none⟩ (.int .i64 (Ex.two 6 (.two 7 y1 v) y2).tidy.kind)).setCell ⟨w.heap.size, 1, none⟩ (.int .i64 (Ex.two 6 (.two 7 y1 v) y2).tidy.num)).setCell ⟨w.heap.size, 2, none⟩ (.slice s11 (Ex.two 6 (.two 7 y1 v) y2).tidy.kids.length c11)) = w5 at T2 hs5 ⊢
     have t0 := T2.c0
     have t1 := T2.c1
     have t2 := T2.c2
     have hzB5 := hB.size
     have hB5 := hB.trans (hs5.below (B := w.heap.size) (by omega) (fun y hy => by omega))
     refine bodyPost_ret (v := .tuple #[.agg #[.int .i64 (Ex.two 6 (.two 7 y1 v) y2).tidy.kind, .int .i64 (Ex.two 6 (.two 7 y1 v) y2).tidy.num, .slice s11 (Ex.two 6 (.two 7 y1 v) y2).tidy.kids.length c11], .bool true]) (by simp [results, Tryz.results58, go_sem, t0, t1, t2]) rfl ?_
     rw [E1.out, E2.out]
     exact ⟨_, _, _, rfl, fun d hd => by
      obtain rfl := Option.some.inj hd
      exact ⟨rfl, Freshs.from (Freshs.keep hf (fun y _ hy2 => hs5.block y hy2 (by omega))) (Nat.le_of_lt hzw)⟩, hB5⟩
    ·
     have c8 : ((Ex.two 6 (.two 7 y1 v) y2).size : Int) > 800 := by omega
     have E2 : Hid (limE (.two 6 (.two 7 y1 v) y2) = none) := by show _ = _; unfold limE; rw [if_neg h8]
     have q0 := Q.c0
     have q1 := Q.c1
     have q2 := Q.c2
     have ltQ := Q.lt
     clear hat hsz9
     have r0 := R.c0
     have r1 := R.c1
     have r2 := R.c2
     have z0 := R.frozen 0
     have z1 := R.frozen 1
     have z2 := R.frozen 2
     have ltR := R.lt
     go_wp2_with fail
     have T2 := ((R.set 0 (.int .i64 6)).set 1 (.int .i64 0)).set 2 (.slice (some ⟨gr, 0, none⟩) 2 2)
     have hs5 : Spares (fun y => y = w.heap.size) w9 (((w9.setCell ⟨w.heap.size, 0, none⟩ (.int .i64 6)).setCell ⟨w.heap.size, 1, none⟩ (.int .i64 0)).setCell ⟨w.heap.size, 2, none⟩ (.slice (some ⟨gr, 0, none⟩) 2 2)) := Spares.set (Spares.set (Spares.set (Spares.refl w9)))
     generalize (((w9.setCell ⟨w.heap.size, 0, none⟩ (.int .i64 6)).setCell ⟨w.heap.size, 1, none⟩ (.int .i64 0)).setCell ⟨w.heap.size, 2, none⟩ (.slice (some ⟨gr, 0, none⟩) 2 2)) = w5 at T2 hs5 ⊢
     have t0 := T2.c0
     have t1 := T2.c1
     have t2 := T2.c2
     have hzB5 := hB.size
     have hB5 := hB.trans (hs5.below (B := w.heap.size) (by omega) (fun y hy => by omega))
     refine bodyPost_ret (v := .tuple #[.agg #[.int .i64 6, .int .i64 0, .slice (some ⟨gr, 0, none⟩) 2 2], .bool false]) (by simp [results, Tryz.results58, go_sem, t0, t1, t2]) rfl ?_
     rw [E1.out, E2.out]
     exact ⟨.two 6 (.two 7 y1 v) y2, _, _, rfl, (fun d hd => by cases hd), hB5⟩
 have c7 : (k == 7) = false := by simp [h7']
 by_cases h8 : k = 8
 ·
  subst h8
  obtain ⟨u, rfl⟩ := one_kid hk (Or.inr rfl)
  have hsz := Ex.size_eq (.mk 8 n [u])
  simp only [Ex.sizeL, Ex.kids_mk] at hsz
  have hut : u.tree tm am = true := Ex.treeL_mem htl (by simp)
  obtain ⟨o1, Ho1⟩ : ∃ o, Hid (o = u.step m x) := ⟨_, rfl⟩
  have E0 : Hid ((Ex.mk 8 n [u]).step m x = o1.bind fun p => limE (.two 7 p (.mk 8 n [u]))) := by show _ = _; rw [Ho1.out]; exact Ex.step_star
  clear htl hk c4 h4 h6 c6 h7' c7
  obtain ⟨g0, g1, sx, cx, g2, g3⟩ := id hx
  simp only [Ex.kind_mk, Ex.num_mk, Ex.kids_mk] at g0 g1 g2
  obtain ⟨kb, ko, rfl⟩ := kid_some g3 (by simp [Ex.kids])
  have hu : ExAt w kb ko u := by have := kid_exAt g3 (i := 0) (e := u) rfl; simpa using this
  obtain ⟨-, hlen, hcap, -, -⟩ := kid_at g3
  unfold maxLen at hcap
  simp only [List.length_cons, List.length_nil, Nat.zero_add, Nat.reduceAdd] at g2 hlen hcap
  have G0 := Lib.hid g0
  have G1 := Lib.hid g1
  have G2 := Lib.hid g2
  clear g0 g1 g2
  go_enter Tryz.func58, Tryz.ntmps58
  go_wp2_with fail
  have R := Blk.new3 w 34 (.int .i64 0) (.int .i64 0) (.slice none 0 0)
  have hB : Below w.heap.size w (w.alloc (.cells #[.int .i64 0, .int .i64 0, .slice none 0 0] 34)) := by (repeat' first | exact Below.refl _ _ | assumption | apply Below.alloc | apply Below.drew | apply Below.setCell | omega | (simp; done) | (simp; omega))
  have hz0 : (w.alloc (.cells #[.int .i64 0, .int .i64 0, .slice none 0 0] 34)).heap.size = w.heap.size + 1 := by simp
  generalize w.alloc (.cells #[.int .i64 0, .int .i64 0, .slice none 0 0] 34) = w1 at R hB hz0 ⊢
  refine (l02Zero_v).mono ?_
  rintro f w2 ⟨rfl, hb⟩
  replace hB := Below.on hB hb hB.size
  replace R := R.below hb
  clear hb
  have g0 := (hB.cell (p := ⟨b, o, none⟩) hlt).trans G0.out
  have g1 := (hB.cell (p := ⟨b, o + 1, none⟩) hlt).trans G1.out
  have g2 := (hB.cell (p := ⟨b, o + 2, none⟩) hlt).trans G2.out
  have hlt2 : b < w2.heap.size := by have := hB.size; omega
  have hz2 : w.heap.size < w2.heap.size := R.lt
  -- the walk stands at the first call; the raw box q
  go_wp2_with fail
  clear g0 g1 g2
  have Q := Blk.new3 w2 34 (.int .i64 1) (.int .i64 0) (.slice none 0 0)
  have hb3 : Below w2.heap.size w2 (w2.alloc (.cells #[.int .i64 1, .int .i64 0, .slice none 0 0] 34)) := by (repeat' first | exact Below.refl _ _ | assumption | apply Below.alloc | apply Below.drew | apply Below.setCell | omega | (simp; done) | (simp; omega))
  generalize w2.alloc (.cells #[.int .i64 1, .int .i64 0, .slice none 0 0] 34) = w3 at Q hb3 ⊢
  replace hB := Below.on hB hb3 hB.size
  replace R := R.below hb3
  obtain ⟨q, hq⟩ : ∃ q, w2.heap.size = q := ⟨_, rfl⟩
  rw [hq] at Q hz2
  simp only [hq]
  clear hb3 hq hlt2
  have hex : ExX (fun b => b = q) w (.mk 8 n [u]) (some ⟨kb, ko, none⟩) cx := RdX.of_rd g3 (fun b h => by omega)
  -- the first kid's derivative; y1 : what comes back; box a
  refine (HIH.out u.size (by omega) u _ _ _ (Nat.le_refl _) (hu.below hB) hut (by omega)).mono ?_
  rintro f w4 ⟨y1, s1, c1, rfl, hy1, hb4⟩
  rw [← Ho1.out] at hy1 ⊢
  have hz3 := Q.lt
  replace hB := Below.on hB hb4 hB.size
  replace R := R.below hb4
  replace Q := Q.below hb4
  cases o1 with
  | none =>
   have i1 : (none : Option Ex).isSome = false := rfl
   have E1 : Hid ((Ex.mk 8 n [u]).step m x = none) := E0
   clear hy1
   -- a part has no derivative; the world is w4.alloc .int .i64 y1.kind, .int .i64 y1.num, .slice s1 y1.kids.length c1; the raw box holds 1, 0, nil
   have q0 := Q.c0
   have q1 := Q.c1
   have q2 := Q.c2
   have ltQ := Q.lt
   have r0 := R.c0
   have r1 := R.c1
   have r2 := R.c2
   have z0 := R.frozen 0
   have z1 := R.frozen 1
   have z2 := R.frozen 2
   have ltR := R.lt
   go_wp2_with fail
   have T2 := (((R.set 0 (.int .i64 1)).set 1 (.int .i64 0)).set 2 (.slice none 0 0)).alloc (.cells #[.int .i64 y1.kind, .int .i64 y1.num, .slice s1 y1.kids.length c1] 34)
   have hs5 : Spares (fun y => y = w.heap.size) w4 ((((w4.setCell ⟨w.heap.size, 0, none⟩ (.int .i64 1)).setCell ⟨w.heap.size, 1, none⟩ (.int .i64 0)).setCell ⟨w.heap.size, 2, none⟩ (.slice none 0 0)).alloc (.cells #[.int .i64 y1.kind, .int .i64 y1.num, .slice s1 y1.kids.length c1] 34)) := (Spares.set (Spares.set (Spares.set (Spares.refl w4)))).trans (Spares.of_below (Below.alloc (Below.refl _ _) (Nat.le_refl _) _))
   generalize (((w4.setCell ⟨w.heap.size, 0, none⟩ (.int .i64 1)).setCell ⟨w.heap.size, 1, none⟩ (.int .i64 0)).setCell ⟨w.heap.size, 2, none⟩ (.slice none 0 0)).alloc (.cells #[.int .i64 y1.kind, .int .i64 y1.num, .slice s1 y1.kids.length c1] 34) = w5 at T2 hs5 ⊢
   have t0 := T2.c0
   have t1 := T2.c1
   have t2 := T2.c2
   have hzB5 := hB.size
   have hB5 := hB.trans (hs5.below (B := w.heap.size) (by omega) (fun y hy => by omega))
   refine bodyPost_ret (v := .tuple #[.agg #[.int .i64 1, .int .i64 0, .slice none 0 0], .bool false]) (by simp [results, Tryz.results58, go_sem, t0, t1, t2]) rfl ?_
   rw [E1.out]
   exact ⟨.leaf 1, _, _, rfl, (fun d hd => by cases hd), hB5⟩
  | some p =>
  have i1 : (some p).isSome = true := rfl
  obtain ⟨rfl, hf1⟩ := hy1 p rfl
  obtain ⟨hp1, hp2⟩ := step_spec tm am m x _ u y1 (Nat.le_refl _) hut Ho1.out.symm
  have hdx4 : ExX (fun b => b = q) w4 y1 s1 c1 := RdX.fresh hf1 (fun b h => by omega)
  clear hy1 hf1
  have E1 : Hid ((Ex.mk 8 n [u]).step m x = limE (.two 7 y1 (.mk 8 n [u]))) := E0
  -- box a; then the drawn region
  go_wp2_with fail
  have A := Blk.new3 w4 34 (.int .i64 y1.kind) (.int .i64 y1.num) (.slice s1 y1.kids.length c1)
  have hb5 : Below w4.heap.size w4 (w4.alloc (.cells #[.int .i64 y1.kind, .int .i64 y1.num, .slice s1 y1.kids.length c1] 34)) := by (repeat' first | exact Below.refl _ _ | assumption | apply Below.alloc | apply Below.drew | apply Below.setCell | omega | (simp; done) | (simp; omega))
  generalize w4.alloc (.cells #[.int .i64 y1.kind, .int .i64 y1.num, .slice s1 y1.kids.length c1] 34) = w5 at A hb5 ⊢
  have hz4 := hb4.size
  have hz5 := hb5.size
  have hdx := hdx4.below hb5
  replace hB := Below.on hB hb5 hB.size
  replace R := R.below hb5
  replace Q := Q.below hb5
  have hB5 := hB
  have hXW : ∀ b, b = q → b < w5.heap.size := fun b h => by omega
  clear hb4 hb5 hdx4
  have hex5 := hex.below hB5
  have hbw := hB5.size
  obtain ⟨x0, hx0⟩ := mkval ?a2_0
  obtain ⟨x1, hx1⟩ := mkval ?a2_1
  obtain ⟨x2, hx2⟩ := mkval ?a2_2
  obtain ⟨x3, hx3⟩ := mkval ?a2_3
  have hGb : ∀ m b, (fun m b => (m = 0 ∧ b = q)) m b → (w.heap.size + 1) ≤ b ∧ b < (w5).heap.size := by
   intro m b hg
   rcases hg with ⟨rfl, hg⟩
   ·
    subst hg
    have q := Q.lt
    omega
  have hGd : ∀ m m' b, (fun m b => (m = 0 ∧ b = q)) m b → (fun m b => (m = 0 ∧ b = q)) m' b → m = m' := by
   intro m m' b h h'
   rcases h with ⟨rfl, h⟩ <;> rcases h' with ⟨rfl, h'⟩ <;> first
    | rfl
  have hGX : ∀ m b, (fun m b => (m = 0 ∧ b = q)) m b → (fun b => b = q) b := by
   intro m b hg
   rcases hg with ⟨rfl, rfl⟩ <;> simp
  refine region_rs [] [(5, 0)] (fun m b => (m = 0 ∧ b = q)) (w.heap.size + 1) (fun i iv vs wx => match i with
   | 0 => vs 0 = x0
   | 1 => vs 1 = x1
   | 2 => vs 2 = x2
   | 3 => vs 3 = x3
   | 4 => ∃ gr, vs 4 = .agg #[.int .i64 7, .int .i64 0, .slice (some ⟨gr, 0, none⟩) 2 2] ∧ RdO w5 (fun b => b = q) (foot [] [(5, 0)] (fun m b => (m = 0 ∧ b = q)) 6 4 iv) wx (kidsD [y1, .mk 8 n [u]]) (.slice (some ⟨gr, 0, none⟩) 2 2)
   | 5 => Blk wx (q) 34 [aggAt (vs 4) 0, aggAt (vs 4) 1, aggAt (vs 4) 2]
   | _ => True) (fun i iv vs => match i with
   | 0 => vs 0 = x0
   | 1 => vs 1 = x1
   | 2 => vs 2 = x2
   | 3 => vs 3 = x3
   | 4 => ∃ gr, vs 4 = .agg #[.int .i64 7, .int .i64 0, .slice (some ⟨gr, 0, none⟩) 2 2]
   | 5 => True
   | _ => True) (by kernel_rfl) (by kernel_rfl) [0, 1, 2, 3, 4, 5] (by kernel_rfl) ?hbase ?hGb ?hG ?hJ ?hE ?hEE ?hstep ?hQ
  case hbase => first | exact Nat.le_refl _ | omega | (simp; omega)
  case hGb =>
   exact hGb
  case hG =>
   exact hGd
  case hJ =>
   intro i hi iv iv' vs vs' wx wx' ha hv hz hk hj
   simp only [List.mem_cons, List.not_mem_nil, or_false] at hi
   rcases hi with rfl | rfl | rfl | rfl | rfl | rfl
   ·
    exact (hv.out 0 (mem_of (by kernel_rfl))).symm.trans hj
   ·
    exact (hv.out 1 (mem_of (by kernel_rfl))).symm.trans hj
   ·
    exact (hv.out 2 (mem_of (by kernel_rfl))).symm.trans hj
   ·
    exact (hv.out 3 (mem_of (by kernel_rfl))).symm.trans hj
   ·
    have e4 := hv.out 4 (mem_of (by kernel_rfl))
    obtain ⟨gr, q1, q2⟩ := hj
    exact ⟨gr, e4 ▸ q1, q2.keep hz (fun b hb h1 => hk.out b hb h1) (fun b h1 => foot_agree (l := ancs _ 6 4) (by exact of_decide_eq_true (by kernel_rfl)) ha.out h1)⟩
   ·
    have e4 := hv.out 4 (mem_of (by kernel_rfl))
    have hj' : Blk wx (q) 34 [aggAt (vs 4) 0, aggAt (vs 4) 1, aggAt (vs 4) 2] := hj
    show Blk wx' (q) 34 [aggAt (vs' 4) 0, aggAt (vs' 4) 1, aggAt (vs' 4) 2]
    rw [← e4]
    exact hj'.keep (hk.out _ hj'.lt (foot_given 0 (by decide) ⟨rfl, rfl⟩))
  case hE =>
   intro i hi iv vs wx hj
   simp only [List.mem_cons, List.not_mem_nil, or_false] at hi
   rcases hi with rfl | rfl | rfl | rfl | rfl | rfl
   ·
    exact hj
   ·
    exact hj
   ·
    exact hj
   ·
    exact hj
   ·
    obtain ⟨gr, q1, -⟩ := hj
    exact ⟨gr, q1⟩
   ·
    trivial
  case hEE =>
   intro i hi iv iv' vs vs' ha hv hj
   simp only [List.mem_cons, List.not_mem_nil, or_false] at hi
   rcases hi with rfl | rfl | rfl | rfl | rfl | rfl
   ·
    exact (hv.out 0 (mem_of (by kernel_rfl))).symm.trans hj
   ·
    exact (hv.out 1 (mem_of (by kernel_rfl))).symm.trans hj
   ·
    exact (hv.out 2 (mem_of (by kernel_rfl))).symm.trans hj
   ·
    exact (hv.out 3 (mem_of (by kernel_rfl))).symm.trans hj
   ·
    have e4 := hv.out 4 (mem_of (by kernel_rfl))
    have hj' : ∃ gr, vs 4 = .agg #[.int .i64 7, .int .i64 0, .slice (some ⟨gr, 0, none⟩) 2 2] := hj
    show ∃ gr, vs' 4 = .agg #[.int .i64 7, .int .i64 0, .slice (some ⟨gr, 0, none⟩) 2 2]
    rw [← e4]
    exact hj'
   ·
    trivial
  case hstep =>
   intro i hi opr ho iv vs w1 hB hS hSo hd he hbd hsep hun K hK
   simp only [List.mem_cons, List.not_mem_nil, or_false] at hi
   have hzB := hB.size
   have HGb := Lib.hid hGb
   clear hGb hGd
   have hBw : Below w.heap.size w w1 := hB5.trans (hB.mono (by omega))
   have g0 := (hBw.cell (p := ⟨b, o, none⟩) hlt).trans G0.out
   have g1 := (hBw.cell (p := ⟨b, o + 1, none⟩) hlt).trans G1.out
   have g2 := (hBw.cell (p := ⟨b, o + 2, none⟩) hlt).trans G2.out
   have hlt1 : b < w1.heap.size := by have := hBw.size; omega
   have A1 := A.keep (hSo.out.block _ A.lt (fun ⟨_, _, h⟩ => by omega))
   have a0 := A1.c0
   have a1 := A1.c1
   have a2 := A1.c2
   have ltA := A1.lt
   generalize hA : putFrom _ 0 vs _ = A at hK ⊢
   simp only [putFrom, puts] at hA
   rcases hi with rfl | rfl | rfl | rfl | rfl | rfl
   all_goals
    simp at ho
    subst ho
    subst hA
   ·
    go_wp2_with fail
    refine Onward.mk (hK ?val2_0 _ _ (fun h => by cases h) ?eqA (Spares.refl _) (fun iv' _ _ => ?ja))
    case eqA => first | rfl | (simp only [puts]; rfl)
    case ja => exact hx0.out.symm
   ·
    go_wp2_with fail
    refine Onward.mk (hK ?val2_1 _ _ (fun h => by cases h) ?eqA (Spares.refl _) (fun iv' _ _ => ?ja))
    case eqA => first | rfl | (simp only [puts]; rfl)
    case ja => exact hx1.out.symm
   ·
    have h1 := (hd.out 1 (mem_of (by kernel_rfl)) (by decide) (by kernel_rfl)).trans hx1.out
    go_wp2_with fail
    refine Onward.mk (hK ?val2_2 _ _ (fun h => by cases h) ?eqA (Spares.refl _) (fun iv' _ _ => ?ja))
    case eqA => first | rfl | (simp only [puts, h1]; rfl)
    case ja => exact hx2.out.symm
   ·
    have h2 := (hd.out 2 (mem_of (by kernel_rfl)) (by decide) (by kernel_rfl)).trans hx2.out
    go_wp2_with fail
    refine Onward.mk (hK ?val2_3 _ _ (fun h => by cases h) ?eqA (Spares.refl _) (fun iv' _ _ => ?ja))
    case eqA => first | rfl | (simp only [puts, h2]; rfl)
    case ja => exact hx3.out.symm
   ·
    have h0 := (hd.out 0 (mem_of (by kernel_rfl)) (by decide) (by kernel_rfl)).trans hx0.out
    have h3 := (hd.out 3 (mem_of (by kernel_rfl)) (by decide) (by kernel_rfl)).trans hx3.out
    go_wp2_with fail
    have hO : KeptX (fun b => b = q) w5 w1 := KeptX.of_spares hSo.out (fun b _ ⟨m, hg⟩ => hGX m b hg)
    obtain ⟨XQ, hXQ⟩ : ∃ XQ, XQ = OutX w5 (fun b => b = q) (fun b => False) w1 := ⟨_, rfl⟩
    have hXl : ∀ b, XQ b → b < w1.heap.size := by rw [hXQ]; exact OutX.lt
    have hOld : ∀ (d : D) (v : Value), RdX (fun b => b = q) w5 d v → RdX XQ w1 d v := by rw [hXQ]; exact fun d v h => h.toOut hO
    refine (l02Pair_x (X := XQ) hXl (hOld _ _ hdx) (hOld _ _ hex5)).mono ?_
    rintro e w2 ⟨gr, rfl, hr, hb⟩
    go_wp2_with fail
    rw [hXQ] at hr
    exact Onward.mk (hK (.agg #[.int .i64 7, .int .i64 0, .slice (some ⟨gr, 0, none⟩) 2 2]) _ _ (fun h => by cases h) (by first | rfl | (simp only [puts, h0, h3])) (Spares.of_below hb) (fun iv' ag hi => ⟨gr, rfl, RdO.ofX hr hb hO (fun b h => by exact h.elim) (fun b h1 h2 => foot_new hi h1 h2)⟩))
   ·
    obtain ⟨gr, h4, f4⟩ := hd.out 4 (mem_of (by kernel_rfl)) (by decide) (by kernel_rfl)
    have Q1 := Q.keep (hS.out 0 _ (by kernel_rfl) ⟨rfl, rfl⟩)
    have qc0 := Q1.c0
    have qz0 := Q1.frozen 0
    have qc1 := Q1.c1
    have qz1 := Q1.frozen 1
    have qc2 := Q1.c2
    have qz2 := Q1.frozen 2
    have qlt := Q1.lt
    go_wp2_with fail
    exact Onward.mk (hK undef _ _ (fun _ => rfl) (by simp only [puts, h4]) ((spares_sets (b0 := q) (by repeat (first | exact Spares.refl _ | apply Spares.set))).more (fun b h => Or.inl ⟨0, by decide, ⟨rfl, h⟩⟩)) (fun iv' ag hi => by
     show Blk _ (q) 34 [aggAt (vs 4) 0, aggAt (vs 4) 1, aggAt (vs 4) 2]
     rw [h4]
     exact (((Q1.set 0 _).set 1 _).set 2 _)))
  case hQ =>
   intro iv vs wx hB hSp hd he hbd hsep
   have hzB := hB.size
   have h0 := (hd.out 0 (mem_of (by kernel_rfl)) (not_eaten (by kernel_rfl))).trans hx0.out
   have h1 := (hd.out 1 (mem_of (by kernel_rfl)) (not_eaten (by kernel_rfl))).trans hx1.out
   have h2 := (hd.out 2 (mem_of (by kernel_rfl)) (not_eaten (by kernel_rfl))).trans hx2.out
   have h3 := (hd.out 3 (mem_of (by kernel_rfl)) (not_eaten (by kernel_rfl))).trans hx3.out
   obtain ⟨gr, h4, f4⟩ := hd.out 4 (mem_of (by kernel_rfl)) (not_eaten (by kernel_rfl))
   have f5 : Blk _ (q) 34 [aggAt (vs 4) 0, aggAt (vs 4) 1, aggAt (vs 4) 2] := hd.out 5 (mem_of (by kernel_rfl)) (not_eaten (by kernel_rfl))
   simp only [putFrom, puts]
   have hOq : KeptX (fun b => b = q) w5 wx := KeptX.of_spares hSp.out (fun b _ ⟨m, hg⟩ => hGX m b hg)
   have r4 : RdX (fun b => b = q) wx (kidsD [y1, .mk 8 n [u]]) (.slice (some ⟨gr, 0, none⟩) 2 2) := f4.done hOq (fun b hf hx => by have q := foot_no (l := [0, 1, 2, 3, 4, 5]) (by kernel_rfl) (by kernel_rfl) hbd.out hf; have q' := hXW b hx; omega)
   clear f4
   -- behind the region: 4 the call
   rw [h4] at f5
   simp only [aggAt] at f5
   replace R := R.keep (hSp.out.block _ R.lt (fun ⟨_, _, h⟩ => by omega))
   replace hB : Below w.heap.size w wx := hB5.trans (hB.mono (by omega))
   replace Q : Blk wx q 34 [.int .i64 7, .int .i64 0, .slice (some ⟨gr, 0, none⟩) 2 2] := f5
   have hk2 := r4
   clear hd he hbd hsep h0 h1 h2 h3 h4 f5 hSp
   obtain ⟨w9, rfl⟩ : ∃ v, v = wx := ⟨_, rfl⟩
   go_wp2_with fail
   have hk := hk2.rd
   -- goal: what stands behind the store to the raw box; world w9; Q : the raw box holds two K X Y; hk : its kids are read; E1 : the result is limE (two K X Y)
   have hat : ExAt w9 q 0 (.two 7 y1 (.mk 8 n [u])) := Q.exAt hk
   have hsz9 : (Ex.two 7 y1 (.mk 8 n [u])).size ≤ 90000 := by rw [size_two]; omega
   refine (l01Size_all _ _ _ _ _ (Nat.le_refl _) hat (by omega)).mono ?_
   rintro f w10 ⟨rfl, rfl⟩
   clear hk
   by_cases h8 : (Ex.two 7 y1 (.mk 8 n [u])).size ≤ 800
   ·
    have c8 : ¬ (((Ex.two 7 y1 (.mk 8 n [u])).size : Int) > 800) := by omega
    have E2 : Hid (limE (.two 7 y1 (.mk 8 n [u])) = some (Ex.two 7 y1 (.mk 8 n [u])).tidy) := by show _ = _; unfold limE; rw [if_pos h8]
    go_wp2_with fail
    refine (l02Tidy_all tm am ht ha _ _ _ _ _ (Nat.le_refl _) hat (tree_two (Or.inr rfl) hp1 hxt) hsz9).mono ?_
    rintro f w11 ⟨s11, c11, rfl, hf, hb⟩
    have hzw := R.lt
    replace hB := Below.on hB hb hB.size
    replace R := R.below hb
    clear c8 h8 hsz9
    have r0 := R.c0
    have r1 := R.c1
    have r2 := R.c2
    have z0 := R.frozen 0
    have z1 := R.frozen 1
    have z2 := R.frozen 2
    have ltR := R.lt
    go_wp2_with fail
    have T2 := ((R.set 0 (.int .i64 (Ex.two 7 y1 (.mk 8 n [u])).tidy.kind)).set 1 (.int .i64 (Ex.two 7 y1 (.mk 8 n [u])).tidy.num)).set 2 (.slice s11 (Ex.two 7 y1 (.mk 8 n [u])).tidy.kids.length c11)
    have hs5 : Spares (fun y => y = w.heap.size) w11 (((w11.setCell ⟨w.heap.size, 0, none⟩ (.int .i64 (Ex.two 7 y1 (.mk 8 n [u])).tidy.kind)).setCell ⟨w.heap.size, 1, none⟩ (.int .i64 (Ex.two 7 y1 (.mk 8 n [u])).tidy.num)).setCell ⟨w.heap.size, 2, none⟩ (.slice s11 (Ex.two 7 y1 (.mk 8 n [u])).tidy.kids.length c11)) := Spares.set (Spares.set (Spares.set (Spares.refl w11)))
    generalize (((w11.setCell ⟨w.heap.size, 0, none⟩ (.int .i64 (Ex.two 7 y1 (.mk 8 n [u])).tidy.kind)).setCell ⟨w.heap.size, 1, none⟩ (.int .i64 (Ex.two 7 y1 (.mk 8 n [u])).tidy.num)).setCell ⟨w.heap.size, 2, none⟩ (.slice s11 (Ex.two 7 y1 (.mk 8 n [u])).tidy.kids.length c11)) = w5 at T2 hs5 ⊢
    have t0 := T2.c0
    have t1 := T2.c1
    have t2 := T2.c2
    have hzB5 := hB.size
    have hB5 := hB.trans (hs5.below (B := w.heap.size) (by omega) (fun y hy => by omega))
    refine bodyPost_ret (v := .tuple #[.agg #[.int .i64 (Ex.two 7 y1 (.mk 8 n [u])).tidy.kind, .int .i64 (Ex.two 7 y1 (.mk 8 n [u])).tidy.num, .slice s11 (Ex.two 7 y1 (.mk 8 n [u])).tidy.kids.length c11], .bool true]) (by simp [results, Tryz.results58, go_sem, t0, t1, t2]) rfl ?_
    rw [E1.out, E2.out]
    exact ⟨_, _, _, rfl, fun d hd => by
     obtain rfl := Option.some.inj hd
     exact ⟨rfl, Freshs.from (Freshs.keep hf (fun y _ hy2 => hs5.block y hy2 (by omega))) (Nat.le_of_lt hzw)⟩, hB5⟩
   ·
    have c8 : ((Ex.two 7 y1 (.mk 8 n [u])).size : Int) > 800 := by omega
    have E2 : Hid (limE (.two 7 y1 (.mk 8 n [u])) = none) := by show _ = _; unfold limE; rw [if_neg h8]
    have q0 := Q.c0
    have q1 := Q.c1
    have q2 := Q.c2
    have ltQ := Q.lt
    clear hat hsz9
    have r0 := R.c0
    have r1 := R.c1
    have r2 := R.c2
    have z0 := R.frozen 0
    have z1 := R.frozen 1
    have z2 := R.frozen 2
    have ltR := R.lt
    go_wp2_with fail
    have T2 := ((R.set 0 (.int .i64 7)).set 1 (.int .i64 0)).set 2 (.slice (some ⟨gr, 0, none⟩) 2 2)
    have hs5 : Spares (fun y => y = w.heap.size) w9 (((w9.setCell ⟨w.heap.size, 0, none⟩ (.int .i64 7)).setCell ⟨w.heap.size, 1, none⟩ (.int .i64 0)).setCell ⟨w.heap.size, 2, none⟩ (.slice (some ⟨gr, 0, none⟩) 2 2)) := Spares.set (Spares.set (Spares.set (Spares.refl w9)))
    generalize (((w9.setCell ⟨w.heap.size, 0, none⟩ (.int .i64 7)).setCell ⟨w.heap.size, 1, none⟩ (.int .i64 0)).setCell ⟨w.heap.size, 2, none⟩ (.slice (some ⟨gr, 0, none⟩) 2 2)) = w5 at T2 hs5 ⊢
    have t0 := T2.c0
    have t1 := T2.c1
    have t2 := T2.c2
    have hzB5 := hB.size
    have hB5 := hB.trans (hs5.below (B := w.heap.size) (by omega) (fun y hy => by omega))
    refine bodyPost_ret (v := .tuple #[.agg #[.int .i64 7, .int .i64 0, .slice (some ⟨gr, 0, none⟩) 2 2], .bool false]) (by simp [results, Tryz.results58, go_sem, t0, t1, t2]) rfl ?_
    rw [E1.out, E2.out]
    exact ⟨.two 7 y1 (.mk 8 n [u]), _, _, rfl, (fun d hd => by cases hd), hB5⟩
 have c8 : (k == 8) = false := by simp [h8]
 have E1 : Hid ((Ex.mk k n ks).step m x = some (.leaf 1)) := by show _ = _; exact Ex.step_else h4 h6 h7' h8
 clear htl hk h4 h6 h7' h8
 -- the raw value is returned at once
 obtain ⟨g0, g1, sx, cx, g2, g3⟩ := id hx
 simp only [Ex.kind_mk, Ex.num_mk, Ex.kids_mk] at g0 g1 g2
 skip
 have G0 := Lib.hid g0
 have G1 := Lib.hid g1
 have G2 := Lib.hid g2
 clear g0 g1 g2
 go_enter Tryz.func58, Tryz.ntmps58
 go_wp2_with fail
 have R := Blk.new3 w 34 (.int .i64 0) (.int .i64 0) (.slice none 0 0)
 have hB : Below w.heap.size w (w.alloc (.cells #[.int .i64 0, .int .i64 0, .slice none 0 0] 34)) := by (repeat' first | exact Below.refl _ _ | assumption | apply Below.alloc | apply Below.drew | apply Below.setCell | omega | (simp; done) | (simp; omega))
 have hz0 : (w.alloc (.cells #[.int .i64 0, .int .i64 0, .slice none 0 0] 34)).heap.size = w.heap.size + 1 := by simp
 generalize w.alloc (.cells #[.int .i64 0, .int .i64 0, .slice none 0 0] 34) = w1 at R hB hz0 ⊢
 refine (l02Zero_v).mono ?_
 rintro f w2 ⟨rfl, hb⟩
 replace hB := Below.on hB hb hB.size
 replace R := R.below hb
 clear hb
 have g0 := (hB.cell (p := ⟨b, o, none⟩) hlt).trans G0.out
 have g1 := (hB.cell (p := ⟨b, o + 1, none⟩) hlt).trans G1.out
 have g2 := (hB.cell (p := ⟨b, o + 2, none⟩) hlt).trans G2.out
 have hlt2 : b < w2.heap.size := by have := hB.size; omega
 have hz2 : w.heap.size < w2.heap.size := R.lt
 have r0 := R.c0
 have r1 := R.c1
 have r2 := R.c2
 have z0 := R.frozen 0
 have z1 := R.frozen 1
 have z2 := R.frozen 2
 have ltR := R.lt
 go_wp2_with fail
 have T2 := (((R.set 0 (.int .i64 1)).set 1 (.int .i64 0)).set 2 (.slice none 0 0)).alloc (.cells #[.int .i64 1, .int .i64 0, .slice none 0 0] 34)
 have hs5 : Spares (fun y => y = w.heap.size) w2 ((((w2.setCell ⟨w.heap.size, 0, none⟩ (.int .i64 1)).setCell ⟨w.heap.size, 1, none⟩ (.int .i64 0)).setCell ⟨w.heap.size, 2, none⟩ (.slice none 0 0)).alloc (.cells #[.int .i64 1, .int .i64 0, .slice none 0 0] 34)) := (Spares.set (Spares.set (Spares.set (Spares.refl w2)))).trans (Spares.of_below (Below.alloc (Below.refl _ _) (Nat.le_refl _) _))
 generalize (((w2.setCell ⟨w.heap.size, 0, none⟩ (.int .i64 1)).setCell ⟨w.heap.size, 1, none⟩ (.int .i64 0)).setCell ⟨w.heap.size, 2, none⟩ (.slice none 0 0)).alloc (.cells #[.int .i64 1, .int .i64 0, .slice none 0 0] 34) = w5 at T2 hs5 ⊢
 have t0 := T2.c0
 have t1 := T2.c1
 have t2 := T2.c2
 have hzB5 := hB.size
 have hB5 := hB.trans (hs5.below (B := w.heap.size) (by omega) (fun y hy => by omega))
 refine bodyPost_ret (v := .tuple #[.agg #[.int .i64 1, .int .i64 0, .slice none 0 0], .bool true]) (by simp [results, Tryz.results58, go_sem, t0, t1, t2]) rfl ?_
 rw [E1.out]
 exact ⟨.leaf 1, none, 0, rfl, fun d hd => by obtain rfl := Option.some.inj hd; exact ⟨rfl, nil_freshs⟩, hB5⟩
end Go.Proofs.YtcokljhamhgelaaGreatDoor
