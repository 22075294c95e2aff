/-
  Parts of a proof, joined: DerI. No condition.
-/
import Derived.Test.YtcokljhamhgelaaGreatDoorPk14
namespace Go.Proofs.YtcokljhamhgelaaGreatDoor
set_option linter.unusedVariables false
set_option linter.unusedSimpArgs false
open Go.ChangeShapes Go.WideShapes Go.ChangeAt Go.RowKit Go.Deep Go.Sort
noncomputable def optE (o : Option Ex) : Ex := o.getD (.mk 0 0 [])
def OutP (X : Nat → Prop) (w : World) (o : Option Ex) (f : Ending) (w' : World) : Prop := ∃ s' c', f = .returned (.tuple #[.agg #[.int .i64 (optE o).kind, .int .i64 (optE o).num, .slice s' (optE o).kids.length c'], .bool o.isSome]) ∧ ExX X w' (optE o) s' c' ∧ Below w.heap.size w w'
theorem exprSize_e {e : Ex} {s : Option Addr} {c : Nat} {w : World} (hr : Rd w (kidsD e.kids) (.slice s e.kids.length c)) (h : e.size ≤ 1048576) : Calls Tryz.prog 98 #[.agg #[.int .i64 e.kind, .int .i64 e.num, .slice s e.kids.length c]] w fun f w' => f = .returned (.int .i64 (e.size : Nat)) ∧ Below w.heap.size w w' := by
 rw [Ex.size_eq] at h ⊢
 exact implExprSize_i hr (by omega)
theorem emptyAt_e {tm am m : Int} (ht : tm ≤ 2) (h0 : 0 ≤ m) (h7 : m ≤ 7) {e : Ex} {s : Option Addr} {c : Nat} {w : World} (hr : Rd w (kidsD e.kids) (.slice s e.kids.length c)) (htr : e.tree tm am = true) :
  Calls Tryz.prog 35 #[.agg #[.int .i64 e.kind, .int .i64 e.num, .slice s e.kids.length c], .int .i64 m] w fun f w' => f = .returned (.bool (e.emp m)) ∧ Below w.heap.size w w' := by
 have := emptyAt_all tm am m ht h0 h7 _ e.kind e.num e.kids s c w (Nat.le_refl _) hr (by rw [← Ex.eta e]; exact htr)
 rw [← Ex.eta e] at this
 exact this
set_option maxHeartbeats 4000000 in
theorem limited_i {tm am : Int} (ht : tm ≤ 8) (ha : am ≤ 8) {X : Nat → Prop} {e : Ex} {s : Option Addr} {c : Nat} {w : World} (hX : ∀ b, X b → b < w.heap.size) (hx : ExX X w e s c) (htr : e.tree tm am = true) (hsz : e.size ≤ 50000) :
  Calls Tryz.prog 69 #[.agg #[.int .i64 e.kind, .int .i64 e.num, .slice s e.kids.length c]] w (OutP X w (limE e)) := by
 go_enter Tryz.func69, Tryz.ntmps69
 go_wp2_with fail
 have L := (Blk.new3 w 34 (.int .i64 e.kind) (.int .i64 e.num) (.slice s e.kids.length c)).alloc (.cells #[.int .i64 0, .int .i64 0, .slice none 0 0] 34)
 have R := Blk.new3 (w.alloc (.cells #[.int .i64 e.kind, .int .i64 e.num, .slice s e.kids.length c] 34)) 34 (.int .i64 0) (.int .i64 0) (.slice none 0 0)
 have hB : Below w.heap.size w ((w.alloc (.cells #[.int .i64 e.kind, .int .i64 e.num, .slice s e.kids.length c] 34)).alloc (.cells #[.int .i64 0, .int .i64 0, .slice none 0 0] 34)) := by (repeat' first | exact Below.refl _ _ | assumption | apply Below.alloc | apply Below.drew | apply Below.setCell | omega | (simp; done) | (simp; omega))
 have hz0 : ((w.alloc (.cells #[.int .i64 e.kind, .int .i64 e.num, .slice s e.kids.length c] 34)).alloc (.cells #[.int .i64 0, .int .i64 0, .slice none 0 0] 34)).heap.size = w.heap.size + 2 := by simp
 simp at R
 generalize (w.alloc (.cells #[.int .i64 e.kind, .int .i64 e.num, .slice s e.kids.length c] 34)).alloc (.cells #[.int .i64 0, .int .i64 0, .slice none 0 0] 34) = w1 at L R hB hz0 ⊢
 have hx1 : ExX (XB X w.heap.size 2) w1 e s c := hx.boxes hB
 have hX1 : ∀ b, XB X w.heap.size 2 b → b < w1.heap.size := fun b q => q.elim (fun q => by have := hX _ q; omega) (fun q => by omega)
 refine (exprSize_e hx1.rd (by omega)).mono ?_
 rintro f w2 ⟨rfl, hb⟩
 replace hB := Below.on hB hb hB.size
 replace L := L.below hb
 replace R := R.below hb
 replace hx1 := hx1.below hb
 have hsz2 := hb.size
 rw [hz0] at hsz2
 clear hb hx
 have l0 := L.c0
 have l1 := L.c1
 have l2 := L.c2
 by_cases h8 : e.size ≤ 800
 ·
  have E1 : Hid (limE e = some e.tidy) := by show _ = _; unfold limE; rw [if_pos h8]
  have c8 : ¬ ((e.size : Int) > 800) := by omega
  go_wp2_with fail
  refine (tidy_all tm am ht ha _ e (XB X w.heap.size 2) s c w2 (Nat.le_refl _) (fun b q => by have := hX1 b q; omega) hx1 htr hsz).mono ?_
  rintro f w3 ⟨s3, c3, rfl, h3, hb3⟩
  replace hB := Below.on hB hb3 hB.size
  replace R := R.below hb3
  clear l0 l1 l2 h8 c8
  have r0 := R.c0
  have r1 := R.c1
  have r2 := R.c2
  have z0 := R.frozen 0
  have z1 := R.frozen 1
  have z2 := R.frozen 2
  have ltR := R.lt
  go_wp2_with fail
  have T2 := ((R.set 0 (.int .i64 e.tidy.kind)).set 1 (.int .i64 e.tidy.num)).set 2 (.slice s3 e.tidy.kids.length c3)
  have hs5 : Spares (fun y => y = w.heap.size + 1) w3 (((w3.setCell ⟨w.heap.size + 1, 0, none⟩ (.int .i64 e.tidy.kind)).setCell ⟨w.heap.size + 1, 1, none⟩ (.int .i64 e.tidy.num)).setCell ⟨w.heap.size + 1, 2, none⟩ (.slice s3 e.tidy.kids.length c3)) := Spares.set (Spares.set (Spares.set (Spares.refl w3)))
  generalize (((w3.setCell ⟨w.heap.size + 1, 0, none⟩ (.int .i64 e.tidy.kind)).setCell ⟨w.heap.size + 1, 1, none⟩ (.int .i64 e.tidy.num)).setCell ⟨w.heap.size + 1, 2, none⟩ (.slice s3 e.tidy.kids.length c3)) = w5 at T2 hs5 ⊢
  have t0 := T2.c0
  have t1 := T2.c1
  have t2 := T2.c2
  have hzB5 := hB.size
  have hB5 := hB.trans (hs5.below (B := w.heap.size) (by omega) (fun y hy => by omega))
  refine bodyPost_ret (v := .tuple #[.agg #[.int .i64 e.tidy.kind, .int .i64 e.tidy.num, .slice s3 e.tidy.kids.length c3], .bool true]) (by simp [results, Tryz.results69, go_sem, t0, t1, t2]) rfl ?_
  rw [E1.out]
  exact ⟨_, _, rfl, (h3.keep (KeptX.of_spares hs5 (fun y _ hy => Or.inr (by omega)))).unbox, hB5⟩
 ·
  have E1 : Hid (limE e = none) := by show _ = _; unfold limE; rw [if_neg h8]
  have c8 : (e.size : Int) > 800 := by omega
  have r0 := R.c0
  have r1 := R.c1
  have r2 := R.c2
  have z0 := R.frozen 0
  have z1 := R.frozen 1
  have z2 := R.frozen 2
  have ltR := R.lt
  go_wp2_with fail
  have T2 := ((R.set 0 (.int .i64 0)).set 1 (.int .i64 0)).set 2 (.slice none 0 0)
  have hs5 : Spares (fun y => y = w.heap.size + 1) w2 (((w2.setCell ⟨w.heap.size + 1, 0, none⟩ (.int .i64 0)).setCell ⟨w.heap.size + 1, 1, none⟩ (.int .i64 0)).setCell ⟨w.heap.size + 1, 2, none⟩ (.slice none 0 0)) := Spares.set (Spares.set (Spares.set (Spares.refl w2)))
  generalize (((w2.setCell ⟨w.heap.size + 1, 0, none⟩ (.int .i64 0)).setCell ⟨w.heap.size + 1, 1, none⟩ (.int .i64 0)).setCell ⟨w.heap.size + 1, 2, none⟩ (.slice none 0 0)) = w5 at T2 hs5 ⊢
  have t0 := T2.c0
  have t1 := T2.c1
  have t2 := T2.c2
  have hzB5 := hB.size
  have hB5 := hB.trans (hs5.below (B := w.heap.size) (by omega) (fun y hy => by omega))
  refine bodyPost_ret (v := .tuple #[.agg #[.int .i64 0, .int .i64 0, .slice none 0 0], .bool false]) (by simp [results, Tryz.results69, go_sem, t0, t1, t2]) rfl ?_
  rw [E1.out]
  exact ⟨none, 0, rfl, kidsD_nil, hB5⟩
set_option maxRecDepth 100000 in
set_option maxHeartbeats 8000000 in
theorem derived_all (tm am m x : Int) (ht2 : tm ≤ 2) (ha : am ≤ 8) (h0 : 0 ≤ m) (h7 : m ≤ 7) (N : Nat) : ∀ (e : Ex) (X : Nat → Prop) (s : Option Addr) (c : Nat) (w : World), e.size ≤ N → (∀ b, X b → b < w.heap.size) → ExX X w e s c → e.tree tm am = true → e.size ≤ 10000 →
  Calls Tryz.prog 36 #[.agg #[.int .i64 e.kind, .int .i64 e.num, .slice s e.kids.length c], .int .i64 m, .int .i64 x] w (OutP X w (e.step m x)) := by
 have ht : tm ≤ 8 := by omega
 induction N using Nat.strongRecOn with
 | _ N ih =>
 intro e X s c w hN hX hx htr hsz1
 have HIH := Lib.hid ih
 clear ih
 obtain ⟨-, hl, hcap, -, -⟩ := kid_at hx.rd
 unfold maxLen at hcap
 obtain ⟨k, n, ks⟩ := e
 obtain ⟨hk, -, -, htl⟩ := tree_parts htr
 simp only [Ex.kind_mk, Ex.num_mk, Ex.kids_mk] at hl ⊢
 by_cases h4 : k = 4
 ·
  subst h4
  by_cases hn : n = x
  ·
   have E1 : Hid ((Ex.mk 4 n ks).step m x = some (.leaf 2)) := by show _ = _; rw [Ex.step_act, if_pos hn]
   have cn : (n == x) = true := by simp [hn]
   clear htl hk hn
   go_enter Tryz.func36, Tryz.ntmps36
   go_wp2_with fail
   have L := (Blk.new3 w 34 (.int .i64 4) (.int .i64 n) (.slice s ks.length c)).alloc (.cells #[.int .i64 0, .int .i64 0, .slice none 0 0] 34)
   have R := Blk.new3 (w.alloc (.cells #[.int .i64 4, .int .i64 n, .slice s ks.length c] 34)) 34 (.int .i64 0) (.int .i64 0) (.slice none 0 0)
   have hB : Below w.heap.size w ((w.alloc (.cells #[.int .i64 4, .int .i64 n, .slice s ks.length c] 34)).alloc (.cells #[.int .i64 0, .int .i64 0, .slice none 0 0] 34)) := by (repeat' first | exact Below.refl _ _ | assumption | apply Below.alloc | apply Below.drew | apply Below.setCell | omega | (simp; done) | (simp; omega))
   have hz0 : ((w.alloc (.cells #[.int .i64 4, .int .i64 n, .slice s ks.length c] 34)).alloc (.cells #[.int .i64 0, .int .i64 0, .slice none 0 0] 34)).heap.size = w.heap.size + 2 := by simp
   simp at R
   generalize (w.alloc (.cells #[.int .i64 4, .int .i64 n, .slice s ks.length c] 34)).alloc (.cells #[.int .i64 0, .int .i64 0, .slice none 0 0] 34) = wb at L R hB hz0 ⊢
   have hx1 : ExX (XB X w.heap.size 2) wb (.mk 4 n ks) s c := ExX.boxes hx hB
   have hXW : ∀ b, XB X w.heap.size 2 b → b < w.heap.size + 2 := fun b q => q.elim (fun q => by have := hX _ q; omega) (fun q => by omega)
   refine (leaf_i).mono ?_
   rintro f w4 ⟨rfl, hb⟩
   replace hB := Below.on hB hb hB.size
   replace R := R.below hb
   have r0 := R.c0
   have r1 := R.c1
   have r2 := R.c2
   have z0 := R.frozen 0
   have z1 := R.frozen 1
   have z2 := R.frozen 2
   have ltR := R.lt
   go_wp2_with fail
   have T2 := ((R.set 0 (.int .i64 2)).set 1 (.int .i64 0)).set 2 (.slice none 0 0)
   have hs5 : Spares (fun y => y = w.heap.size + 1) w4 (((w4.setCell ⟨w.heap.size + 1, 0, none⟩ (.int .i64 2)).setCell ⟨w.heap.size + 1, 1, none⟩ (.int .i64 0)).setCell ⟨w.heap.size + 1, 2, none⟩ (.slice none 0 0)) := Spares.set (Spares.set (Spares.set (Spares.refl w4)))
   generalize (((w4.setCell ⟨w.heap.size + 1, 0, none⟩ (.int .i64 2)).setCell ⟨w.heap.size + 1, 1, none⟩ (.int .i64 0)).setCell ⟨w.heap.size + 1, 2, none⟩ (.slice none 0 0)) = w5 at T2 hs5 ⊢
   have t0 := T2.c0
   have t1 := T2.c1
   have t2 := T2.c2
   have hzB5 := hB.size
   have hB5 := hB.trans (hs5.below (B := w.heap.size) (by omega) (fun y hy => by omega))
   refine bodyPost_ret (v := .tuple #[.agg #[.int .i64 2, .int .i64 0, .slice none 0 0], .bool true]) (by simp [results, Tryz.results36, go_sem, t0, t1, t2]) rfl ?_
   rw [E1.out]
   exact ⟨_, _, rfl, kidsD_nil, hB5⟩
  ·
   have E1 : Hid ((Ex.mk 4 n ks).step m x = some (.leaf 1)) := by show _ = _; rw [Ex.step_act, if_neg hn]
   have cn : (n == x) = false := by simp [hn]
   clear htl hk hn
   go_enter Tryz.func36, Tryz.ntmps36
   go_wp2_with fail
   have L := (Blk.new3 w 34 (.int .i64 4) (.int .i64 n) (.slice s ks.length c)).alloc (.cells #[.int .i64 0, .int .i64 0, .slice none 0 0] 34)
   have R := Blk.new3 (w.alloc (.cells #[.int .i64 4, .int .i64 n, .slice s ks.length c] 34)) 34 (.int .i64 0) (.int .i64 0) (.slice none 0 0)
   have hB : Below w.heap.size w ((w.alloc (.cells #[.int .i64 4, .int .i64 n, .slice s ks.length c] 34)).alloc (.cells #[.int .i64 0, .int .i64 0, .slice none 0 0] 34)) := by (repeat' first | exact Below.refl _ _ | assumption | apply Below.alloc | apply Below.drew | apply Below.setCell | omega | (simp; done) | (simp; omega))
   have hz0 : ((w.alloc (.cells #[.int .i64 4, .int .i64 n, .slice s ks.length c] 34)).alloc (.cells #[.int .i64 0, .int .i64 0, .slice none 0 0] 34)).heap.size = w.heap.size + 2 := by simp
   simp at R
   generalize (w.alloc (.cells #[.int .i64 4, .int .i64 n, .slice s ks.length c] 34)).alloc (.cells #[.int .i64 0, .int .i64 0, .slice none 0 0] 34) = wb at L R hB hz0 ⊢
   have hx1 : ExX (XB X w.heap.size 2) wb (.mk 4 n ks) s c := ExX.boxes hx hB
   have hXW : ∀ b, XB X w.heap.size 2 b → b < w.heap.size + 2 := fun b q => q.elim (fun q => by have := hX _ q; omega) (fun q => by omega)
   refine (leaf_i).mono ?_
   rintro f w4 ⟨rfl, hb⟩
   replace hB := Below.on hB hb hB.size
   replace R := R.below hb
   have r0 := R.c0
   have r1 := R.c1
   have r2 := R.c2
   have z0 := R.frozen 0
   have z1 := R.frozen 1
   have z2 := R.frozen 2
   have ltR := R.lt
   go_wp2_with fail
   have T2 := ((R.set 0 (.int .i64 1)).set 1 (.int .i64 0)).set 2 (.slice none 0 0)
   have hs5 : Spares (fun y => y = w.heap.size + 1) w4 (((w4.setCell ⟨w.heap.size + 1, 0, none⟩ (.int .i64 1)).setCell ⟨w.heap.size + 1, 1, none⟩ (.int .i64 0)).setCell ⟨w.heap.size + 1, 2, none⟩ (.slice none 0 0)) := Spares.set (Spares.set (Spares.set (Spares.refl w4)))
   generalize (((w4.setCell ⟨w.heap.size + 1, 0, none⟩ (.int .i64 1)).setCell ⟨w.heap.size + 1, 1, none⟩ (.int .i64 0)).setCell ⟨w.heap.size + 1, 2, none⟩ (.slice none 0 0)) = w5 at T2 hs5 ⊢
   have t0 := T2.c0
   have t1 := T2.c1
   have t2 := T2.c2
   have hzB5 := hB.size
   have hB5 := hB.trans (hs5.below (B := w.heap.size) (by omega) (fun y hy => by omega))
   refine bodyPost_ret (v := .tuple #[.agg #[.int .i64 1, .int .i64 0, .slice none 0 0], .bool true]) (by simp [results, Tryz.results36, go_sem, t0, t1, t2]) rfl ?_
   rw [E1.out]
   exact ⟨_, _, rfl, kidsD_nil, hB5⟩
 have c4 : (k == 4) = false := by simp [h4]
 by_cases h6 : k = 6
 ·
  subst h6
  obtain ⟨u, v, rfl⟩ := two_kids hk (by omega)
  have hsz := Ex.size_eq (.mk 6 n [u, v])
  simp only [Ex.sizeL, Ex.kids_mk] at hsz
  have hut : u.tree tm am = true := Ex.treeL_mem htl (by simp)
  have hvt : v.tree tm am = true := Ex.treeL_mem htl (by simp)
  obtain ⟨o1, Ho1⟩ : ∃ o, Hid (o = u.step m x) := ⟨_, rfl⟩
  obtain ⟨o2, Ho2⟩ : ∃ o, Hid (o = v.step m x) := ⟨_, rfl⟩
  have E0 : Hid ((Ex.mk 6 n [u, v]).step m x = o1.bind fun p => o2.bind fun q => limE (.two 6 p q)) := by show _ = _; rw [Ho1.out, Ho2.out]; exact Ex.step_sum
  obtain ⟨kb, ko, su, cu, rfl, -, -, -, hkb, -, ku, -⟩ := kidX0 hx
  obtain ⟨sv, cv, kv, -⟩ := kidX1 hx
  obtain ⟨u0, u1, u2⟩ := id ku
  simp only [List.length_cons, List.length_nil, Nat.zero_add] at hl ⊢
  clear htl hk
  go_enter Tryz.func36, Tryz.ntmps36
  go_wp2_with fail
  have L := (Blk.new3 w 34 (.int .i64 6) (.int .i64 n) (.slice (some ⟨kb, ko, none⟩) 2 c)).alloc (.cells #[.int .i64 0, .int .i64 0, .slice none 0 0] 34)
  have R := Blk.new3 (w.alloc (.cells #[.int .i64 6, .int .i64 n, .slice (some ⟨kb, ko, none⟩) 2 c] 34)) 34 (.int .i64 0) (.int .i64 0) (.slice none 0 0)
  have hB : Below w.heap.size w ((w.alloc (.cells #[.int .i64 6, .int .i64 n, .slice (some ⟨kb, ko, none⟩) 2 c] 34)).alloc (.cells #[.int .i64 0, .int .i64 0, .slice none 0 0] 34)) := by (repeat' first | exact Below.refl _ _ | assumption | apply Below.alloc | apply Below.drew | apply Below.setCell | omega | (simp; done) | (simp; omega))
  have hz0 : ((w.alloc (.cells #[.int .i64 6, .int .i64 n, .slice (some ⟨kb, ko, none⟩) 2 c] 34)).alloc (.cells #[.int .i64 0, .int .i64 0, .slice none 0 0] 34)).heap.size = w.heap.size + 2 := by simp
  simp at R
  generalize (w.alloc (.cells #[.int .i64 6, .int .i64 n, .slice (some ⟨kb, ko, none⟩) 2 c] 34)).alloc (.cells #[.int .i64 0, .int .i64 0, .slice none 0 0] 34) = wb at L R hB hz0 ⊢
  have hx1 : ExX (XB X w.heap.size 2) wb (.mk 6 n [u, v]) (some ⟨kb, ko, none⟩) c := ExX.boxes hx hB
  have hXW : ∀ b, XB X w.heap.size 2 b → b < w.heap.size + 2 := fun b q => q.elim (fun q => by have := hX _ q; omega) (fun q => by omega)
  obtain ⟨kb', ko', su', cu', e1, -, -, -, hkb', hkX, ku', hu⟩ := kidX0 (r := [v]) hx1
  simp only [Option.some.injEq, Addr.mk.injEq, and_true] at e1
  obtain ⟨rfl, rfl⟩ := e1
  have e2 := (hB.cell (p := ⟨kb, ko + 2, none⟩) hkb).trans u2
  rw [ku'.2.2] at e2
  simp only [Option.some.injEq, Value.slice.injEq, true_and] at e2
  obtain ⟨rfl, rfl⟩ := e2
  obtain ⟨sv', cv', kv', hv⟩ := kidX1 (r := []) hx1
  clear u0 u1 u2 ku ku' kv
  refine (HIH.out u.size (by omega) u (XB X w.heap.size 2) _ _ _ (Nat.le_refl _) (fun b q => by have := hXW b q; omega) hu hut (by omega)).mono ?_
  rintro f w2 ⟨s2, c2, rfl, hd2, hb2⟩
  rw [← Ho1.out] at hd2 ⊢
  replace hB := Below.on hB hb2 hB.size
  replace R := R.below hb2
  replace L := L.below hb2
  have hv2 := hv.below hb2
  have kv2 := kv'.keep (hb2.block _ hkb')
  have hkb2 : kb < w2.heap.size := by have := hb2.size; omega
  obtain ⟨v0, v1, v2⟩ := id kv2
  have l2 := L.c2
  have ltL := L.lt
  go_wp2_with fail
  clear v0 v1 v2 l2 ltL
  have A8 := Blk.new3 w2 34 (.int .i64 (optE o1).kind) (.int .i64 (optE o1).num) (.slice s2 (optE o1).kids.length c2)
  have hb3 : Below w2.heap.size w2 (w2.alloc (.cells #[.int .i64 (optE o1).kind, .int .i64 (optE o1).num, .slice s2 (optE o1).kids.length c2] 34)) := by (repeat' first | exact Below.refl _ _ | assumption | apply Below.alloc | apply Below.drew | apply Below.setCell | omega | (simp; done) | (simp; omega))
  generalize w2.alloc (.cells #[.int .i64 (optE o1).kind, .int .i64 (optE o1).num, .slice s2 (optE o1).kids.length c2] 34) = w3 at A8 hb3 ⊢
  replace hB := Below.on hB hb3 hB.size
  replace R := R.below hb3
  replace L := L.below hb3
  refine (HIH.out v.size (by omega) v (XB X w.heap.size 2) _ _ _ (Nat.le_refl _) (fun b q => by have := hXW b q; have := hb3.size; have := hb2.size; omega) (hv2.below hb3) hvt (by omega)).mono ?_
  rintro f w4 ⟨s4, c4', rfl, hd4, hb4⟩
  rw [← Ho2.out] at hd4 ⊢
  replace hB := Below.on hB hb4 hB.size
  replace R := R.below hb4
  replace A8 := A8.below hb4
  have hz4 : w.heap.size + 2 ≤ w4.heap.size := by have := hb4.size; have := hb3.size; have := hb2.size; omega
  cases o1 with
  | none =>
   have i1 : (none : Option Ex).isSome = false := rfl
   have E1 : Hid ((Ex.mk 6 n [u, v]).step m x = none) := E0
   have r0 := R.c0
   have r1 := R.c1
   have r2 := R.c2
   have z0 := R.frozen 0
   have z1 := R.frozen 1
   have z2 := R.frozen 2
   have ltR := R.lt
   go_wp2_with fail
   have T2 := (((R.set 0 (.int .i64 0)).set 1 (.int .i64 0)).set 2 (.slice none 0 0)).alloc (.cells #[.int .i64 (optE o2).kind, .int .i64 (optE o2).num, .slice s4 (optE o2).kids.length c4'] 34)
   have hs5 : Spares (fun y => y = w.heap.size + 1) w4 ((((w4.setCell ⟨w.heap.size + 1, 0, none⟩ (.int .i64 0)).setCell ⟨w.heap.size + 1, 1, none⟩ (.int .i64 0)).setCell ⟨w.heap.size + 1, 2, none⟩ (.slice none 0 0)).alloc (.cells #[.int .i64 (optE o2).kind, .int .i64 (optE o2).num, .slice s4 (optE o2).kids.length c4'] 34)) := (Spares.set (Spares.set (Spares.set (Spares.refl w4)))).trans (Spares.of_below (Below.alloc (Below.refl _ _) (Nat.le_refl _) _))
   generalize (((w4.setCell ⟨w.heap.size + 1, 0, none⟩ (.int .i64 0)).setCell ⟨w.heap.size + 1, 1, none⟩ (.int .i64 0)).setCell ⟨w.heap.size + 1, 2, none⟩ (.slice none 0 0)).alloc (.cells #[.int .i64 (optE o2).kind, .int .i64 (optE o2).num, .slice s4 (optE o2).kids.length c4'] 34) = w5 at T2 hs5 ⊢
   have t0 := T2.c0
   have t1 := T2.c1
   have t2 := T2.c2
   have hzB5 := hB.size
   have hB5 := hB.trans (hs5.below (B := w.heap.size) (by omega) (fun y hy => by omega))
   refine bodyPost_ret (v := .tuple #[.agg #[.int .i64 0, .int .i64 0, .slice none 0 0], .bool false]) (by simp [results, Tryz.results36, go_sem, t0, t1, t2]) rfl ?_
   rw [E1.out]
   exact ⟨none, 0, rfl, kidsD_nil, hB5⟩
  | some p =>
  have i1 : (some p).isSome = true := rfl
  cases o2 with
  | none =>
   have i2 : (none : Option Ex).isSome = false := rfl
   have E1 : Hid ((Ex.mk 6 n [u, v]).step m x = none) := E0
   have r0 := R.c0
   have r1 := R.c1
   have r2 := R.c2
   have z0 := R.frozen 0
   have z1 := R.frozen 1
   have z2 := R.frozen 2
   have ltR := R.lt
   go_wp2_with fail
   have T2 := (((R.set 0 (.int .i64 0)).set 1 (.int .i64 0)).set 2 (.slice none 0 0)).alloc (.cells #[.int .i64 (optE none).kind, .int .i64 (optE none).num, .slice s4 (optE none).kids.length c4'] 34)
   have hs5 : Spares (fun y => y = w.heap.size + 1) w4 ((((w4.setCell ⟨w.heap.size + 1, 0, none⟩ (.int .i64 0)).setCell ⟨w.heap.size + 1, 1, none⟩ (.int .i64 0)).setCell ⟨w.heap.size + 1, 2, none⟩ (.slice none 0 0)).alloc (.cells #[.int .i64 (optE none).kind, .int .i64 (optE none).num, .slice s4 (optE none).kids.length c4'] 34)) := (Spares.set (Spares.set (Spares.set (Spares.refl w4)))).trans (Spares.of_below (Below.alloc (Below.refl _ _) (Nat.le_refl _) _))
   generalize (((w4.setCell ⟨w.heap.size + 1, 0, none⟩ (.int .i64 0)).setCell ⟨w.heap.size + 1, 1, none⟩ (.int .i64 0)).setCell ⟨w.heap.size + 1, 2, none⟩ (.slice none 0 0)).alloc (.cells #[.int .i64 (optE none).kind, .int .i64 (optE none).num, .slice s4 (optE none).kids.length c4'] 34) = w5 at T2 hs5 ⊢
   have t0 := T2.c0
   have t1 := T2.c1
   have t2 := T2.c2
   have hzB5 := hB.size
   have hB5 := hB.trans (hs5.below (B := w.heap.size) (by omega) (fun y hy => by omega))
   refine bodyPost_ret (v := .tuple #[.agg #[.int .i64 0, .int .i64 0, .slice none 0 0], .bool false]) (by simp [results, Tryz.results36, go_sem, t0, t1, t2]) rfl ?_
   rw [E1.out]
   exact ⟨none, 0, rfl, kidsD_nil, hB5⟩
  | some q =>
  have i2 : (some q).isSome = true := rfl
  have E1 : Hid ((Ex.mk 6 n [u, v]).step m x = limE (.two 6 p q)) := E0
  obtain ⟨hp1, hp2⟩ := step_spec tm am m x _ u p (Nat.le_refl _) hut Ho1.out.symm
  obtain ⟨hq1, hq2⟩ := step_spec tm am m x _ v q (Nat.le_refl _) hvt Ho2.out.symm
  have hdx := hd2.below (hb3.trans (hb4.mono hb3.size))
  have hdy := hd4
  have a0 := A8.c0
  have a1 := A8.c1
  have a2 := A8.c2
  have ltA := A8.lt
  go_wp2_with fail
  clear a0 a1 a2
  have N1 : Blk ((w4.alloc (.cells #[.int .i64 (optE (some q)).kind, .int .i64 (optE (some q)).num, .slice s4 (optE (some q)).kids.length c4'] 34)).alloc (.cells #[.int .i64 (optE (some p)).kind, .int .i64 (optE (some p)).num, .slice s2 (optE (some p)).kids.length c2, .int .i64 (optE (some q)).kind, .int .i64 (optE (some q)).num, .slice s4 (optE (some q)).kids.length c4'] 34)) (w4.heap.size + 1) 34 [.int .i64 p.kind, .int .i64 p.num, .slice s2 p.kids.length c2, .int .i64 q.kind, .int .i64 q.num, .slice s4 q.kids.length c4'] := by
   rw [show w4.heap.size + 1 = (w4.alloc (.cells #[.int .i64 (optE (some q)).kind, .int .i64 (optE (some q)).num, .slice s4 (optE (some q)).kids.length c4'] 34)).heap.size by simp]
   exact Blk.new6 _ _ _ _ _ _ _ _
  have hb6 : Below w4.heap.size w4 ((w4.alloc (.cells #[.int .i64 (optE (some q)).kind, .int .i64 (optE (some q)).num, .slice s4 (optE (some q)).kids.length c4'] 34)).alloc (.cells #[.int .i64 (optE (some p)).kind, .int .i64 (optE (some p)).num, .slice s2 (optE (some p)).kids.length c2, .int .i64 (optE (some q)).kind, .int .i64 (optE (some q)).num, .slice s4 (optE (some q)).kids.length c4'] 34)) := by (repeat' first | exact Below.refl _ _ | assumption | apply Below.alloc | apply Below.drew | apply Below.setCell | omega | (simp; done) | (simp; omega))
  generalize (w4.alloc (.cells #[.int .i64 (optE (some q)).kind, .int .i64 (optE (some q)).num, .slice s4 (optE (some q)).kids.length c4'] 34)).alloc (.cells #[.int .i64 (optE (some p)).kind, .int .i64 (optE (some p)).num, .slice s2 (optE (some p)).kids.length c2, .int .i64 (optE (some q)).kind, .int .i64 (optE (some q)).num, .slice s4 (optE (some q)).kids.length c4'] 34) = w6 at N1 hb6 ⊢
  replace hB := Below.on hB hb6 hB.size
  replace R := R.below hb6
  replace hdx := hdx.below hb6
  replace hdy := hdy.below hb6
  clear hd2 hd4 A8 L
  -- goal: the call of tree in world w6; N1 : Blk w6 G of x, y
  refine (tree_i).mono ?_
  rintro f w7 ⟨rfl, hb7⟩
  replace hB := Below.on hB hb7 hB.size
  replace R := R.below hb7
  have hk : ExX (XB X w.heap.size 2) w7 (.two 6 p q) (some ⟨w4.heap.size + 1, 0, none⟩) 2 := kidsD_two (N1.below hb7) (fun hq0 => by have := hXW _ hq0; omega) (hdx.below hb7) (hdy.below hb7)
  go_wp2_with fail
  -- goal: the call of limited in world w7; hk : ExX .. w7 (.two K x y) ..; R, hB at w7
  refine (limited_i (e := .two 6 p q) ht ha (fun hb0 hq0 => by have := hXW hb0 hq0; have := R.lt; omega) hk (tree_two (Or.inl rfl) hp1 hq1) (by rw [size_two]; omega)).mono ?_
  rintro f w8 ⟨s8, c8, rfl, h8, hb8⟩
  replace hB := Below.on hB hb8 hB.size
  replace R := R.below hb8
  obtain ⟨o8, Ho8⟩ : ∃ o, Hid (o = limE (.two 6 p q)) := ⟨_, rfl⟩
  rw [← Ho8.out] at h8 ⊢
  replace E1 := Lib.hid (E1.out.trans Ho8.out.symm)
  have r0 := R.c0
  have r1 := R.c1
  have r2 := R.c2
  have z0 := R.frozen 0
  have z1 := R.frozen 1
  have z2 := R.frozen 2
  have ltR := R.lt
  go_wp2_with fail
  have T2 := ((R.set 0 (.int .i64 (optE o8).kind)).set 1 (.int .i64 (optE o8).num)).set 2 (.slice s8 (optE o8).kids.length c8)
  have hs5 : Spares (fun y => y = w.heap.size + 1) w8 (((w8.setCell ⟨w.heap.size + 1, 0, none⟩ (.int .i64 (optE o8).kind)).setCell ⟨w.heap.size + 1, 1, none⟩ (.int .i64 (optE o8).num)).setCell ⟨w.heap.size + 1, 2, none⟩ (.slice s8 (optE o8).kids.length c8)) := Spares.set (Spares.set (Spares.set (Spares.refl w8)))
  generalize (((w8.setCell ⟨w.heap.size + 1, 0, none⟩ (.int .i64 (optE o8).kind)).setCell ⟨w.heap.size + 1, 1, none⟩ (.int .i64 (optE o8).num)).setCell ⟨w.heap.size + 1, 2, none⟩ (.slice s8 (optE o8).kids.length c8)) = w5 at T2 hs5 ⊢
  have t0 := T2.c0
  have t1 := T2.c1
  have t2 := T2.c2
  have hzB5 := hB.size
  have hB5 := hB.trans (hs5.below (B := w.heap.size) (by omega) (fun y hy => by omega))
  refine bodyPost_ret (v := .tuple #[.agg #[.int .i64 (optE o8).kind, .int .i64 (optE o8).num, .slice s8 (optE o8).kids.length c8], .bool o8.isSome]) (by simp [results, Tryz.results36, go_sem, t0, t1, t2]) rfl ?_
  rw [E1.out]
  exact ⟨_, _, rfl, (h8.keep (KeptX.of_spares hs5 (fun y _ hy => Or.inr (by omega)))).unbox, hB5⟩
 have c6 : (k == 6) = false := by simp [h6]
 by_cases h7' : k = 7
 ·
  subst h7'
  obtain ⟨u, v, rfl⟩ := two_kids hk (by omega)
  have hsz := Ex.size_eq (.mk 7 n [u, v])
  simp only [Ex.sizeL, Ex.kids_mk] at hsz
  have hut : u.tree tm am = true := Ex.treeL_mem htl (by simp)
  have hvt : v.tree tm am = true := Ex.treeL_mem htl (by simp)
  obtain ⟨o1, Ho1⟩ : ∃ o, Hid (o = u.step m x) := ⟨_, rfl⟩
  obtain ⟨o2, Ho2⟩ : ∃ o, Hid (o = v.step m x) := ⟨_, rfl⟩
  have E0 : Hid ((Ex.mk 7 n [u, v]).step m x = o1.bind fun p => if u.emp m = true then o2.bind fun q => limE (.two 6 (.two 7 p v) q) else limE (.two 7 p v)) := by show _ = _; rw [Ho1.out, Ho2.out]; exact Ex.step_dot
  obtain ⟨kb, ko, su, cu, rfl, -, -, -, hkb, -, ku, -⟩ := kidX0 hx
  obtain ⟨u0, u1, u2⟩ := id ku
  simp only [List.length_cons, List.length_nil, Nat.zero_add] at hl ⊢
  clear htl hk c4 c6
  go_enter Tryz.func36, Tryz.ntmps36
  go_wp2_with fail
  have L := (Blk.new3 w 34 (.int .i64 7) (.int .i64 n) (.slice (some ⟨kb, ko, none⟩) 2 c)).alloc (.cells #[.int .i64 0, .int .i64 0, .slice none 0 0] 34)
  have R := Blk.new3 (w.alloc (.cells #[.int .i64 7, .int .i64 n, .slice (some ⟨kb, ko, none⟩) 2 c] 34)) 34 (.int .i64 0) (.int .i64 0) (.slice none 0 0)
  have hB : Below w.heap.size w ((w.alloc (.cells #[.int .i64 7, .int .i64 n, .slice (some ⟨kb, ko, none⟩) 2 c] 34)).alloc (.cells #[.int .i64 0, .int .i64 0, .slice none 0 0] 34)) := by (repeat' first | exact Below.refl _ _ | assumption | apply Below.alloc | apply Below.drew | apply Below.setCell | omega | (simp; done) | (simp; omega))
  have hz0 : ((w.alloc (.cells #[.int .i64 7, .int .i64 n, .slice (some ⟨kb, ko, none⟩) 2 c] 34)).alloc (.cells #[.int .i64 0, .int .i64 0, .slice none 0 0] 34)).heap.size = w.heap.size + 2 := by simp
  simp at R
  generalize (w.alloc (.cells #[.int .i64 7, .int .i64 n, .slice (some ⟨kb, ko, none⟩) 2 c] 34)).alloc (.cells #[.int .i64 0, .int .i64 0, .slice none 0 0] 34) = wb at L R hB hz0 ⊢
  have hx1 : ExX (XB X w.heap.size 2) wb (.mk 7 n [u, v]) (some ⟨kb, ko, none⟩) c := ExX.boxes hx hB
  have hXW : ∀ b, XB X w.heap.size 2 b → b < w.heap.size + 2 := fun b q => q.elim (fun q => by have := hX _ q; omega) (fun q => by omega)
  obtain ⟨kb', ko', su', cu', e1, -, -, -, hkb', hkX, ku', hu⟩ := kidX0 (r := [v]) hx1
  simp only [Option.some.injEq, Addr.mk.injEq, and_true] at e1
  obtain ⟨rfl, rfl⟩ := e1
  have e2 := (hB.cell (p := ⟨kb, ko + 2, none⟩) hkb).trans u2
  rw [ku'.2.2] at e2
  simp only [Option.some.injEq, Value.slice.injEq, true_and] at e2
  obtain ⟨rfl, rfl⟩ := e2
  obtain ⟨sv', cv', kv', hv⟩ := kidX1 (r := []) hx1
  clear u0 u1 u2 ku
  refine (HIH.out u.size (by omega) u (XB X w.heap.size 2) _ _ _ (Nat.le_refl _) (fun b q => by have := hXW b q; omega) hu hut (by omega)).mono ?_
  rintro f w2 ⟨s2, c2, rfl, hd2, hb2⟩
  rw [← Ho1.out] at hd2 ⊢
  replace hB := Below.on hB hb2 hB.size
  replace R := R.below hb2
  replace L := L.below hb2
  cases o1 with
  | none =>
   have i1 : (none : Option Ex).isSome = false := rfl
   have E1 : Hid ((Ex.mk 7 n [u, v]).step m x = none) := E0
   have r0 := R.c0
   have r1 := R.c1
   have r2 := R.c2
   have z0 := R.frozen 0
   have z1 := R.frozen 1
   have z2 := R.frozen 2
   have ltR := R.lt
   go_wp2_with fail
   have T2 := (((R.set 0 (.int .i64 0)).set 1 (.int .i64 0)).set 2 (.slice none 0 0)).alloc (.cells #[.int .i64 (optE none).kind, .int .i64 (optE none).num, .slice s2 (optE none).kids.length c2] 34)
   have hs5 : Spares (fun y => y = w.heap.size + 1) w2 ((((w2.setCell ⟨w.heap.size + 1, 0, none⟩ (.int .i64 0)).setCell ⟨w.heap.size + 1, 1, none⟩ (.int .i64 0)).setCell ⟨w.heap.size + 1, 2, none⟩ (.slice none 0 0)).alloc (.cells #[.int .i64 (optE none).kind, .int .i64 (optE none).num, .slice s2 (optE none).kids.length c2] 34)) := (Spares.set (Spares.set (Spares.set (Spares.refl w2)))).trans (Spares.of_below (Below.alloc (Below.refl _ _) (Nat.le_refl _) _))
   generalize (((w2.setCell ⟨w.heap.size + 1, 0, none⟩ (.int .i64 0)).setCell ⟨w.heap.size + 1, 1, none⟩ (.int .i64 0)).setCell ⟨w.heap.size + 1, 2, none⟩ (.slice none 0 0)).alloc (.cells #[.int .i64 (optE none).kind, .int .i64 (optE none).num, .slice s2 (optE none).kids.length c2] 34) = w5 at T2 hs5 ⊢
   have t0 := T2.c0
   have t1 := T2.c1
   have t2 := T2.c2
   have hzB5 := hB.size
   have hB5 := hB.trans (hs5.below (B := w.heap.size) (by omega) (fun y hy => by omega))
   refine bodyPost_ret (v := .tuple #[.agg #[.int .i64 0, .int .i64 0, .slice none 0 0], .bool false]) (by simp [results, Tryz.results36, go_sem, t0, t1, t2]) rfl ?_
   rw [E1.out]
   exact ⟨none, 0, rfl, kidsD_nil, hB5⟩
  | some p =>
  have i1 : (some p).isSome = true := rfl
  obtain ⟨hp1, hp2⟩ := step_spec tm am m x _ u p (Nat.le_refl _) hut Ho1.out.symm
  go_wp2_with fail
  have A12 : Blk (w2.alloc (.cells #[.int .i64 (optE (some p)).kind, .int .i64 (optE (some p)).num, .slice s2 (optE (some p)).kids.length c2] 34)) w2.heap.size 34 [.int .i64 p.kind, .int .i64 p.num, .slice s2 p.kids.length c2] := Blk.new3 w2 34 (.int .i64 p.kind) (.int .i64 p.num) (.slice s2 p.kids.length c2)
  have hb3 : Below w2.heap.size w2 (w2.alloc (.cells #[.int .i64 (optE (some p)).kind, .int .i64 (optE (some p)).num, .slice s2 (optE (some p)).kids.length c2] 34)) := by (repeat' first | exact Below.refl _ _ | assumption | apply Below.alloc | apply Below.drew | apply Below.setCell | omega | (simp; done) | (simp; omega))
  generalize w2.alloc (.cells #[.int .i64 (optE (some p)).kind, .int .i64 (optE (some p)).num, .slice s2 (optE (some p)).kids.length c2] 34) = w3 at A12 hb3 ⊢
  have hb23 := hb2.trans (hb3.mono hb2.size)
  have ku3 := ku'.keep (hb23.block _ hkb')
  have kv3 := kv'.keep (hb23.block _ hkb')
  have hu3 := hu.below hb23
  have hv3 := hv.below hb23
  have hd3 : ExX (XB X w.heap.size 2) w3 p s2 c2 := hd2.below hb3
  have hkb3 : kb < w3.heap.size := by have := hb23.size; omega
  replace hB := Below.on hB hb3 hB.size
  replace R := R.below hb3
  replace L := L.below hb3
  have hz3 : w.heap.size + 2 ≤ w3.heap.size := by have := hb23.size; omega
  have L3 := L
  have hB3 := hB
  have Ku3 := Lib.hid ku3
  have Kv3 := Lib.hid kv3
  clear hd2 ku' kv' hu hv ku3 kv3 hb2 hb3 hb23 hx1 hx
  obtain ⟨x0, hx0⟩ := mkval ?a1_0
  obtain ⟨x1, hx1⟩ := mkval ?a1_1
  obtain ⟨x2, hx2⟩ := mkval ?a1_2
  obtain ⟨x3, hx3⟩ := mkval ?a1_3
  obtain ⟨x4, hx4⟩ := mkval ?a1_4
  refine region_rs [(8, 7)] [] (fun (_ _ : Nat) => False) (w3.heap.size) (fun i iv vs wx => match i with
   | 0 => vs 0 = x0
   | 1 => vs 1 = x1
   | 2 => vs 2 = x2
   | 3 => vs 3 = x3
   | 4 => vs 4 = x4
   | 5 => vs 5 = .slice (some ⟨(iv 5).1, 0, none⟩) 2 2 ∧ (iv 5).2 = (iv 5).1 + 1 ∧ Blk wx (iv 5).1 34 [.int .i64 p.kind, .int .i64 p.num, .slice s2 p.kids.length c2, .int .i64 v.kind, .int .i64 v.num, .slice sv' v.kids.length cv']
   | 6 => vs 6 = .agg #[.int .i64 7, .int .i64 0, vs 5]
   | 7 => vs 7 = .pointer (some ⟨(iv 7).1, 0, none⟩) ∧ (iv 7).2 = (iv 7).1 + 1 ∧ Blk wx (iv 7).1 34 [.int .i64 0, .int .i64 0, .slice none 0 0]
   | 8 => (iv 7).2 = (iv 7).1 + 1 ∧ Blk wx ((iv 7).1) 34 [.int .i64 7, .int .i64 0, vs 5]
   | _ => True) (fun i iv vs => match i with
   | 0 => vs 0 = x0
   | 1 => vs 1 = x1
   | 2 => vs 2 = x2
   | 3 => vs 3 = x3
   | 4 => vs 4 = x4
   | 5 => vs 5 = .slice (some ⟨(iv 5).1, 0, none⟩) 2 2 ∧ (iv 5).2 = (iv 5).1 + 1
   | 6 => vs 6 = .agg #[.int .i64 7, .int .i64 0, vs 5]
   | 7 => vs 7 = .pointer (some ⟨(iv 7).1, 0, none⟩) ∧ (iv 7).2 = (iv 7).1 + 1
   | 8 => True
   | _ => True) (by kernel_rfl) (by kernel_rfl) [0, 1, 2, 3, 4, 5, 6, 7, 8] (by kernel_rfl) ?hbase ?hGb ?hG ?hJ ?hE ?hEE ?hstep ?hQ
  case hbase => first | exact Nat.le_refl _ | omega | (simp; omega)
  case hGb =>
   exact fun _ _ h => h.elim
  case hG =>
   exact fun _ _ _ h => h.elim
  case hJ =>
   intro i hi iv iv' vs vs' wx wx' ha hv hz hk hj
   simp only [List.mem_cons, List.not_mem_nil, or_false] at hi
   rcases hi with rfl | rfl | rfl | rfl | rfl | rfl | rfl | rfl | rfl
   ·
    exact (hv.out 0 (mem_of (by kernel_rfl))).symm.trans hj
   ·
    exact (hv.out 1 (mem_of (by kernel_rfl))).symm.trans hj
   ·
    exact (hv.out 2 (mem_of (by kernel_rfl))).symm.trans hj
   ·
    exact (hv.out 3 (mem_of (by kernel_rfl))).symm.trans hj
   ·
    exact (hv.out 4 (mem_of (by kernel_rfl))).symm.trans hj
   ·
    have e5 := hv.out 5 (mem_of (by kernel_rfl))
    have g5 := ha.out 5 (mem_of (by kernel_rfl))
    obtain ⟨q1, q3, q2⟩ := hj
    show vs' 5 = .slice (some ⟨(iv' 5).1, 0, none⟩) 2 2 ∧ (iv' 5).2 = (iv' 5).1 + 1 ∧ Blk wx' (iv' 5).1 34 [.int .i64 p.kind, .int .i64 p.num, .slice s2 p.kids.length c2, .int .i64 v.kind, .int .i64 v.num, .slice sv' v.kids.length cv']
    rw [← e5, ← g5]
    exact ⟨q1, q3, q2.keep (hk.out _ q2.lt (foot_own (Nat.le_refl _) (by omega)))⟩
   ·
    have e5 := hv.out 5 (mem_of (by kernel_rfl))
    have e6 := hv.out 6 (mem_of (by kernel_rfl))
    have hj' : vs 6 = .agg #[.int .i64 7, .int .i64 0, vs 5] := hj
    show vs' 6 = .agg #[.int .i64 7, .int .i64 0, vs' 5]
    rw [← e5, ← e6]
    exact hj'
   ·
    have e7 := hv.out 7 (mem_of (by kernel_rfl))
    have g7 := ha.out 7 (mem_of (by kernel_rfl))
    obtain ⟨q1, q3, q2⟩ := hj
    show vs' 7 = .pointer (some ⟨(iv' 7).1, 0, none⟩) ∧ (iv' 7).2 = (iv' 7).1 + 1 ∧ Blk wx' (iv' 7).1 34 [.int .i64 0, .int .i64 0, .slice none 0 0]
    rw [← e7, ← g7]
    exact ⟨q1, q3, q2.keep (hk.out _ q2.lt (foot_own (Nat.le_refl _) (by omega)))⟩
   ·
    have e5 := hv.out 5 (mem_of (by kernel_rfl))
    have g7 := ha.out 7 (mem_of (by kernel_rfl))
    have hj' : (iv 7).2 = (iv 7).1 + 1 ∧ Blk wx ((iv 7).1) 34 [.int .i64 7, .int .i64 0, vs 5] := hj
    show (iv' 7).2 = (iv' 7).1 + 1 ∧ Blk wx' ((iv' 7).1) 34 [.int .i64 7, .int .i64 0, vs' 5]
    rw [← e5, ← g7]
    exact ⟨hj'.1, hj'.2.keep (hk.out _ hj'.2.lt ⟨7, mem_of (by kernel_rfl), Or.inl ⟨Nat.le_refl _, by omega⟩⟩)⟩
  case hE =>
   intro i hi iv vs wx hj
   simp only [List.mem_cons, List.not_mem_nil, or_false] at hi
   rcases hi with rfl | rfl | rfl | rfl | rfl | rfl | rfl | rfl | rfl
   ·
    exact hj
   ·
    exact hj
   ·
    exact hj
   ·
    exact hj
   ·
    exact hj
   ·
    exact ⟨hj.1, hj.2.1⟩
   ·
    exact hj
   ·
    exact ⟨hj.1, hj.2.1⟩
   ·
    trivial
  case hEE =>
   intro i hi iv iv' vs vs' ha hv hj
   simp only [List.mem_cons, List.not_mem_nil, or_false] at hi
   rcases hi with rfl | rfl | rfl | rfl | rfl | rfl | rfl | rfl | rfl
   ·
    exact (hv.out 0 (mem_of (by kernel_rfl))).symm.trans hj
   ·
    exact (hv.out 1 (mem_of (by kernel_rfl))).symm.trans hj
   ·
    exact (hv.out 2 (mem_of (by kernel_rfl))).symm.trans hj
   ·
    exact (hv.out 3 (mem_of (by kernel_rfl))).symm.trans hj
   ·
    exact (hv.out 4 (mem_of (by kernel_rfl))).symm.trans hj
   ·
    have e5 := hv.out 5 (mem_of (by kernel_rfl))
    have g5 := ha.out 5 (mem_of (by kernel_rfl))
    have hj' : vs 5 = .slice (some ⟨(iv 5).1, 0, none⟩) 2 2 ∧ (iv 5).2 = (iv 5).1 + 1 := hj
    show vs' 5 = .slice (some ⟨(iv' 5).1, 0, none⟩) 2 2 ∧ (iv' 5).2 = (iv' 5).1 + 1
    rw [← e5, ← g5]
    exact hj'
   ·
    have e5 := hv.out 5 (mem_of (by kernel_rfl))
    have e6 := hv.out 6 (mem_of (by kernel_rfl))
    have hj' : vs 6 = .agg #[.int .i64 7, .int .i64 0, vs 5] := hj
    show vs' 6 = .agg #[.int .i64 7, .int .i64 0, vs' 5]
    rw [← e5, ← e6]
    exact hj'
   ·
    have e7 := hv.out 7 (mem_of (by kernel_rfl))
    have g7 := ha.out 7 (mem_of (by kernel_rfl))
    have hj' : vs 7 = .pointer (some ⟨(iv 7).1, 0, none⟩) ∧ (iv 7).2 = (iv 7).1 + 1 := hj
    show vs' 7 = .pointer (some ⟨(iv' 7).1, 0, none⟩) ∧ (iv' 7).2 = (iv' 7).1 + 1
    rw [← e7, ← g7]
    exact hj'
   ·
    trivial
  case hstep =>
   intro i hi opr ho iv vs w1 hB hS hSo hd he hbd hsep hun K hK
   simp only [List.mem_cons, List.not_mem_nil, or_false] at hi
   have hzB := hB.size
   have L4 := L3.below hB
   have l2 := L4.c2
   have A4 := A12.below hB
   have a0 := A4.c0
   have a1 := A4.c1
   have a2 := A4.c2
   have ltL := L4.lt
   have ltA := A4.lt
   obtain ⟨v0, v1, v2⟩ := Kv3.out.keep (hB.block _ hkb3)
   have hkb4 : kb < w1.heap.size := by have := hB.size; omega
   generalize hA : putFrom _ 0 vs _ = A at hK ⊢
   simp only [putFrom, puts] at hA
   rcases hi with rfl | rfl | rfl | rfl | rfl | rfl | rfl | rfl | rfl
   all_goals
    simp at ho
    subst ho
    subst hA
   ·
    go_wp2_with fail
    refine Onward.mk (hK ?val1_0 _ _ (fun h => by cases h) ?eqA (Spares.refl _) (fun iv' _ _ => ?ja))
    case eqA => first | rfl | (simp only [puts]; rfl)
    case ja => exact hx0.out.symm
   ·
    go_wp2_with fail
    refine Onward.mk (hK ?val1_1 _ _ (fun h => by cases h) ?eqA (Spares.refl _) (fun iv' _ _ => ?ja))
    case eqA => first | rfl | (simp only [puts]; rfl)
    case ja => exact hx1.out.symm
   ·
    have h1 := (hd.out 1 (mem_of (by kernel_rfl)) (by decide) (by kernel_rfl)).trans hx1.out
    go_wp2_with fail
    refine Onward.mk (hK ?val1_2 _ _ (fun h => by cases h) ?eqA (Spares.refl _) (fun iv' _ _ => ?ja))
    case eqA => first | rfl | (simp only [puts, h1]; rfl)
    case ja => exact hx2.out.symm
   ·
    have h2 := (hd.out 2 (mem_of (by kernel_rfl)) (by decide) (by kernel_rfl)).trans hx2.out
    go_wp2_with fail
    refine Onward.mk (hK ?val1_3 _ _ (fun h => by cases h) ?eqA (Spares.refl _) (fun iv' _ _ => ?ja))
    case eqA => first | rfl | (simp only [puts, h2]; rfl)
    case ja => exact hx3.out.symm
   ·
    have h3 := (hd.out 3 (mem_of (by kernel_rfl)) (by decide) (by kernel_rfl)).trans hx3.out
    go_wp2_with fail
    refine Onward.mk (hK ?val1_4 _ _ (fun h => by cases h) ?eqA (Spares.refl _) (fun iv' _ _ => ?ja))
    case eqA => first | rfl | (simp only [puts, h3]; rfl)
    case ja => exact hx4.out.symm
   ·
    have h0 := (hd.out 0 (mem_of (by kernel_rfl)) (by decide) (by kernel_rfl)).trans hx0.out
    have h4 := (hd.out 4 (mem_of (by kernel_rfl)) (by decide) (by kernel_rfl)).trans hx4.out
    go_wp2_with fail
    exact Onward.mk (hK (.slice (some ⟨w1.heap.size, 0, none⟩) 2 2) _ _ (fun h => by cases h) (by first | rfl | (simp only [puts, h0, h4])) (Spares.of_below (Below.alloc (Below.refl _ _) (Nat.le_refl _) _)) (fun iv' _ hi => by
     show Value.slice (some ⟨w1.heap.size, 0, none⟩) 2 2 = .slice (some ⟨(iv' 5).1, 0, none⟩) 2 2 ∧ (iv' 5).2 = (iv' 5).1 + 1 ∧ Blk _ (iv' 5).1 34 [.int .i64 p.kind, .int .i64 p.num, .slice s2 p.kids.length c2, .int .i64 v.kind, .int .i64 v.num, .slice sv' v.kids.length cv']
     rw [hi]
     exact ⟨rfl, by simp, Blk.new6 _ _ _ _ _ _ _ _⟩))
   ·
    obtain ⟨h5, q5, f5⟩ := hd.out 5 (mem_of (by kernel_rfl)) (by decide) (by kernel_rfl)
    go_wp2_with fail
    refine (tree_i).mono ?_
    rintro e w2 ⟨rfl, hb⟩
    go_wp2_with fail
    exact Onward.mk (hK (.agg #[.int .i64 7, .int .i64 0, vs 5]) _ _ (fun h => by cases h) (by first | rfl | (simp only [puts, h5])) (Spares.of_below hb) (fun iv' _ _ => rfl))
   ·
    go_wp2_with fail
    exact Onward.mk (hK (.pointer (some ⟨w1.heap.size, 0, none⟩)) _ _ (fun h => by cases h) (by first | rfl | (simp only [puts])) (Spares.of_below (Below.alloc (Below.refl _ _) (Nat.le_refl _) _)) (fun iv' _ hi => by
     show Value.pointer (some ⟨w1.heap.size, 0, none⟩) = .pointer (some ⟨(iv' 7).1, 0, none⟩) ∧ (iv' 7).2 = (iv' 7).1 + 1 ∧ Blk _ (iv' 7).1 34 [.int .i64 0, .int .i64 0, .slice none 0 0]
     rw [hi]
     exact ⟨rfl, by simp, Blk.new3 _ _ _ _ _⟩))
   ·
    obtain ⟨h5, q5, f5⟩ := hd.out 5 (mem_of (by kernel_rfl)) (by decide) (by kernel_rfl)
    have h6 : vs 6 = .agg #[.int .i64 7, .int .i64 0, vs 5] := hd.out 6 (mem_of (by kernel_rfl)) (by decide) (by kernel_rfl)
    obtain ⟨h7, q7, f7⟩ := hd.out 7 (mem_of (by kernel_rfl)) (by decide) (by kernel_rfl)
    have bc0 := f7.c0
    have bz0 := f7.frozen 0
    have bc1 := f7.c1
    have bz1 := f7.frozen 1
    have bc2 := f7.c2
    have bz2 := f7.frozen 2
    have blt := f7.lt
    go_wp2_with fail
    exact Onward.mk (hK undef _ _ (fun _ => rfl) (by simp only [puts, h5, h6, h7]) ((spares_sets (b0 := (iv 7).1) (by repeat (first | exact Spares.refl _ | apply Spares.set))).more (fun b h => Or.inr ⟨7, by decide, foot_own (by omega) (by omega)⟩)) (fun iv' ag hi => by
     show (iv' 7).2 = (iv' 7).1 + 1 ∧ Blk _ ((iv' 7).1) 34 [.int .i64 7, .int .i64 0, vs 5]
     rw [← ag.out 7 (mem_of (by kernel_rfl)), h5]
     exact ⟨q7, (((f7.set 0 _).set 1 _).set 2 _)⟩))
  case hQ =>
   intro iv vs wx hB hSp hd he hbd hsep
   have hzB := hB.size
   have h0 := (hd.out 0 (mem_of (by kernel_rfl)) (not_eaten (by kernel_rfl))).trans hx0.out
   have h1 := (hd.out 1 (mem_of (by kernel_rfl)) (not_eaten (by kernel_rfl))).trans hx1.out
   have h2 := (hd.out 2 (mem_of (by kernel_rfl)) (not_eaten (by kernel_rfl))).trans hx2.out
   have h3 := (hd.out 3 (mem_of (by kernel_rfl)) (not_eaten (by kernel_rfl))).trans hx3.out
   have h4 := (hd.out 4 (mem_of (by kernel_rfl)) (not_eaten (by kernel_rfl))).trans hx4.out
   obtain ⟨h5, q5, f5⟩ := hd.out 5 (mem_of (by kernel_rfl)) (not_eaten (by kernel_rfl))
   have h6 : vs 6 = .agg #[.int .i64 7, .int .i64 0, vs 5] := hd.out 6 (mem_of (by kernel_rfl)) (not_eaten (by kernel_rfl))
   obtain ⟨h7, q7⟩ := he.out 7 (mem_of (by kernel_rfl))
   obtain ⟨q8, f8⟩ := hd.out 8 (mem_of (by kernel_rfl)) (not_eaten (by kernel_rfl))
   simp only [putFrom, puts]
   obtain ⟨ab, hab⟩ : ∃ ab, (iv 7).1 = ab := ⟨_, rfl⟩
   obtain ⟨gb, hgb⟩ : ∃ gb, (iv 5).1 = gb := ⟨_, rfl⟩
   have b7 := (hbd.out 7 (mem_of (by kernel_rfl))).1
   have b5 := (hbd.out 5 (mem_of (by kernel_rfl))).1
   rw [hab] at h7 f8 b7
   rw [hgb] at h5 f5 b5
   rw [h5] at f8
   simp only [Nat.zero_add, Nat.reduceAdd, h7]
   clear hd he hbd hsep h0 h1 h2 h3 h4 h5 h6 h7 hab hgb
   obtain ⟨wy, rfl⟩ : ∃ wy : World, wy = wx := ⟨_, rfl⟩
   have hBy : Below w.heap.size w wy := Below.on hB3 hB hB3.size
   have hbx : Below w3.heap.size w3 wy := hB
   have hB := hBy
   have R := R.below hbx
   have L := L3.below hbx
   have hdx := hd3.below hbx
   have hdy := hv3.below hbx
   have hk7 : ExX (XB X w.heap.size 2) wy (.two 7 p v) (some ⟨gb, 0, none⟩) 2 := kidsD_two f5 (fun hq0 => by have := hXW _ hq0; omega) hdx hdy
   have hux := hu3.below hbx
   have Kux := Lib.hid (Ku3.out.keep (hbx.block _ hkb3))
   have Kvx := Lib.hid (Kv3.out.keep (hbx.block _ hkb3))
   have hkbx : kb < wy.heap.size := by have := hbx.size; omega
   have l2 := L.c2
   have ltL := L.lt
   obtain ⟨u0, u1, u2⟩ := id Kux.out
   clear A12 L3
   go_wp2_with fail
   clear u0 u1 u2 l2 ltL
   refine (emptyAt_e ht2 h0 h7 hux.rd hut).mono ?_
   rintro f w8 ⟨rfl, hb8⟩
   have hB := Below.on hBy hb8 hBy.size
   replace R := R.below hb8
   replace L := L.below hb8
   have A14 : Blk w8 ab 34 [.int .i64 7, .int .i64 0, .slice (some ⟨gb, 0, none⟩) 2 2] := f8.below hb8
   have hk8 := hk7.below hb8
   have hdy8 := hdy.below hb8
   have kv8 := Lib.hid (Kvx.out.keep (hb8.block _ hkbx))
   have hkb8 : kb < w8.heap.size := by have := hb8.size; omega
   have c0 := A14.c0
   have c1 := A14.c1
   have c2 := A14.c2
   have ltA := A14.lt
   cases he : u.emp m
   ·
    have E1 : Hid ((Ex.mk 7 n [u, v]).step m x = limE (.two 7 p v)) := by show _ = _; rw [E0.out]; simp [he]
    have hk : ExX (XB X w.heap.size 2) w8 (.two 7 p v) (some ⟨gb, 0, none⟩) 2 := hk8
    go_wp2_with fail
    clear c0 c1 c2
    -- goal: the call of limited in world w7; hk : ExX .. w7 (.two K x y) ..; R, hB at w7
    refine (limited_i (e := .two 7 p v) ht ha (fun hb0 hq0 => by have := hXW hb0 hq0; have := R.lt; omega) hk (tree_two (Or.inr rfl) hp1 hvt) (by rw [size_two]; omega)).mono ?_
    rintro f w8 ⟨s8, c8, rfl, h8, hb8⟩
    replace hB := Below.on hB hb8 hB.size
    replace R := R.below hb8
    obtain ⟨o8, Ho8⟩ : ∃ o, Hid (o = limE (.two 7 p v)) := ⟨_, rfl⟩
    rw [← Ho8.out] at h8 ⊢
    replace E1 := Lib.hid (E1.out.trans Ho8.out.symm)
    have r0 := R.c0
    have r1 := R.c1
    have r2 := R.c2
    have z0 := R.frozen 0
    have z1 := R.frozen 1
    have z2 := R.frozen 2
    have ltR := R.lt
    go_wp2_with fail
    have T2 := ((R.set 0 (.int .i64 (optE o8).kind)).set 1 (.int .i64 (optE o8).num)).set 2 (.slice s8 (optE o8).kids.length c8)
    have hs5 : Spares (fun y => y = w.heap.size + 1) w8 (((w8.setCell ⟨w.heap.size + 1, 0, none⟩ (.int .i64 (optE o8).kind)).setCell ⟨w.heap.size + 1, 1, none⟩ (.int .i64 (optE o8).num)).setCell ⟨w.heap.size + 1, 2, none⟩ (.slice s8 (optE o8).kids.length c8)) := Spares.set (Spares.set (Spares.set (Spares.refl w8)))
    generalize (((w8.setCell ⟨w.heap.size + 1, 0, none⟩ (.int .i64 (optE o8).kind)).setCell ⟨w.heap.size + 1, 1, none⟩ (.int .i64 (optE o8).num)).setCell ⟨w.heap.size + 1, 2, none⟩ (.slice s8 (optE o8).kids.length c8)) = w5 at T2 hs5 ⊢
    have t0 := T2.c0
    have t1 := T2.c1
    have t2 := T2.c2
    have hzB5 := hB.size
    have hB5 := hB.trans (hs5.below (B := w.heap.size) (by omega) (fun y hy => by omega))
    refine bodyPost_ret (v := .tuple #[.agg #[.int .i64 (optE o8).kind, .int .i64 (optE o8).num, .slice s8 (optE o8).kids.length c8], .bool o8.isSome]) (by simp [results, Tryz.results36, go_sem, t0, t1, t2]) rfl ?_
    rw [E1.out]
    exact ⟨_, _, rfl, (h8.keep (KeptX.of_spares hs5 (fun y _ hy => Or.inr (by omega)))).unbox, hB5⟩
   ·
    have E0' : Hid ((Ex.mk 7 n [u, v]).step m x = o2.bind fun q => limE (.two 6 (.two 7 p v) q)) := by show _ = _; rw [E0.out]; simp [he]
    have l2 := L.c2
    have ltL := L.lt
    obtain ⟨v0, v1, v2⟩ := id kv8.out
    go_wp2_with fail
    clear c0 c1 c2 l2 v0 v1 v2
    refine (HIH.out v.size (by omega) v (XB X w.heap.size 2) _ _ _ (Nat.le_refl _) (fun hb0 hq0 => by have := hXW hb0 hq0; omega) hdy8 hvt (by omega)).mono ?_
    rintro f w9 ⟨s9, c9, rfl, hd9, hb9⟩
    rw [← Ho2.out] at hd9 ⊢
    replace hB := Below.on hB hb9 hB.size
    replace R := R.below hb9
    replace A14 := A14.below hb9
    have hk9 := hk8.below hb9
    cases o2 with
    | none =>
     have i2 : (none : Option Ex).isSome = false := rfl
     have E1 : Hid ((Ex.mk 7 n [u, v]).step m x = none) := E0'
     have r0 := R.c0
     have r1 := R.c1
     have r2 := R.c2
     have z0 := R.frozen 0
     have z1 := R.frozen 1
     have z2 := R.frozen 2
     have ltR := R.lt
     go_wp2_with fail
     have T2 := (((R.set 0 (.int .i64 0)).set 1 (.int .i64 0)).set 2 (.slice none 0 0)).alloc (.cells #[.int .i64 (optE none).kind, .int .i64 (optE none).num, .slice s9 (optE none).kids.length c9] 34)
     have hs5 : Spares (fun y => y = w.heap.size + 1) w9 ((((w9.setCell ⟨w.heap.size + 1, 0, none⟩ (.int .i64 0)).setCell ⟨w.heap.size + 1, 1, none⟩ (.int .i64 0)).setCell ⟨w.heap.size + 1, 2, none⟩ (.slice none 0 0)).alloc (.cells #[.int .i64 (optE none).kind, .int .i64 (optE none).num, .slice s9 (optE none).kids.length c9] 34)) := (Spares.set (Spares.set (Spares.set (Spares.refl w9)))).trans (Spares.of_below (Below.alloc (Below.refl _ _) (Nat.le_refl _) _))
     generalize (((w9.setCell ⟨w.heap.size + 1, 0, none⟩ (.int .i64 0)).setCell ⟨w.heap.size + 1, 1, none⟩ (.int .i64 0)).setCell ⟨w.heap.size + 1, 2, none⟩ (.slice none 0 0)).alloc (.cells #[.int .i64 (optE none).kind, .int .i64 (optE none).num, .slice s9 (optE none).kids.length c9] 34) = w5 at T2 hs5 ⊢
     have t0 := T2.c0
     have t1 := T2.c1
     have t2 := T2.c2
     have hzB5 := hB.size
     have hB5 := hB.trans (hs5.below (B := w.heap.size) (by omega) (fun y hy => by omega))
     refine bodyPost_ret (v := .tuple #[.agg #[.int .i64 0, .int .i64 0, .slice none 0 0], .bool false]) (by simp [results, Tryz.results36, go_sem, t0, t1, t2]) rfl ?_
     rw [E1.out]
     exact ⟨none, 0, rfl, kidsD_nil, hB5⟩
    | some q =>
    have i2 : (some q).isSome = true := rfl
    have E1 : Hid ((Ex.mk 7 n [u, v]).step m x = limE (.two 6 (.two 7 p v) q)) := E0'
    obtain ⟨hq1, hq2⟩ := step_spec tm am m x _ v q (Nat.le_refl _) hvt Ho2.out.symm
    have c0 := A14.c0
    have c1 := A14.c1
    have c2 := A14.c2
    replace ltA := A14.lt
    go_wp2_with fail
    clear c0 c1 c2
    have N1 : Blk ((w9.alloc (.cells #[.int .i64 (optE (some q)).kind, .int .i64 (optE (some q)).num, .slice s9 (optE (some q)).kids.length c9] 34)).alloc (.cells #[.int .i64 7, .int .i64 0, .slice (some ⟨gb, 0, none⟩) 2 2, .int .i64 (optE (some q)).kind, .int .i64 (optE (some q)).num, .slice s9 (optE (some q)).kids.length c9] 34)) (w9.heap.size + 1) 34 [.int .i64 (Ex.two 7 p v).kind, .int .i64 (Ex.two 7 p v).num, .slice (some ⟨gb, 0, none⟩) (Ex.two 7 p v).kids.length 2, .int .i64 q.kind, .int .i64 q.num, .slice s9 q.kids.length c9] := by
     rw [show w9.heap.size + 1 = (w9.alloc (.cells #[.int .i64 (optE (some q)).kind, .int .i64 (optE (some q)).num, .slice s9 (optE (some q)).kids.length c9] 34)).heap.size by simp]
     exact Blk.new6 _ _ _ _ _ _ _ _
    have hb6 : Below w9.heap.size w9 ((w9.alloc (.cells #[.int .i64 (optE (some q)).kind, .int .i64 (optE (some q)).num, .slice s9 (optE (some q)).kids.length c9] 34)).alloc (.cells #[.int .i64 7, .int .i64 0, .slice (some ⟨gb, 0, none⟩) 2 2, .int .i64 (optE (some q)).kind, .int .i64 (optE (some q)).num, .slice s9 (optE (some q)).kids.length c9] 34)) := by (repeat' first | exact Below.refl _ _ | assumption | apply Below.alloc | apply Below.drew | apply Below.setCell | omega | (simp; done) | (simp; omega))
    generalize (w9.alloc (.cells #[.int .i64 (optE (some q)).kind, .int .i64 (optE (some q)).num, .slice s9 (optE (some q)).kids.length c9] 34)).alloc (.cells #[.int .i64 7, .int .i64 0, .slice (some ⟨gb, 0, none⟩) 2 2, .int .i64 (optE (some q)).kind, .int .i64 (optE (some q)).num, .slice s9 (optE (some q)).kids.length c9] 34) = w6 at N1 hb6 ⊢
    replace hB := Below.on hB hb6 hB.size
    replace R := R.below hb6
    have hz9 : w.heap.size + 2 ≤ w9.heap.size := by have := hb9.size; omega
    have hdx : ExX (XB X w.heap.size 2) w6 (.two 7 p v) (some ⟨gb, 0, none⟩) 2 := hk9.below hb6
    have hdy : ExX (XB X w.heap.size 2) w6 q s9 c9 := hd9.below hb6
    -- goal: the call of tree in world w6; N1 : Blk w6 G of x, y
    refine (tree_i).mono ?_
    rintro f w7 ⟨rfl, hb7⟩
    replace hB := Below.on hB hb7 hB.size
    replace R := R.below hb7
    have hk : ExX (XB X w.heap.size 2) w7 (.two 6 (.two 7 p v) q) (some ⟨w9.heap.size + 1, 0, none⟩) 2 := kidsD_two (N1.below hb7) (fun hq0 => by have := hXW _ hq0; omega) (hdx.below hb7) (hdy.below hb7)
    go_wp2_with fail
    -- goal: the call of limited in world w7; hk : ExX .. w7 (.two K x y) ..; R, hB at w7
    refine (limited_i (e := .two 6 (.two 7 p v) q) ht ha (fun hb0 hq0 => by have := hXW hb0 hq0; have := R.lt; omega) hk (tree_two (Or.inl rfl) (tree_two (Or.inr rfl) hp1 hvt) hq1) (by rw [size_two, size_two]; omega)).mono ?_
    rintro f w8 ⟨s8, c8, rfl, h8, hb8⟩
    replace hB := Below.on hB hb8 hB.size
    replace R := R.below hb8
    obtain ⟨o8, Ho8⟩ : ∃ o, Hid (o = limE (.two 6 (.two 7 p v) q)) := ⟨_, rfl⟩
    rw [← Ho8.out] at h8 ⊢
    replace E1 := Lib.hid (E1.out.trans Ho8.out.symm)
    have r0 := R.c0
    have r1 := R.c1
    have r2 := R.c2
    have z0 := R.frozen 0
    have z1 := R.frozen 1
    have z2 := R.frozen 2
    have ltR := R.lt
    go_wp2_with fail
    have T2 := ((R.set 0 (.int .i64 (optE o8).kind)).set 1 (.int .i64 (optE o8).num)).set 2 (.slice s8 (optE o8).kids.length c8)
    have hs5 : Spares (fun y => y = w.heap.size + 1) w8 (((w8.setCell ⟨w.heap.size + 1, 0, none⟩ (.int .i64 (optE o8).kind)).setCell ⟨w.heap.size + 1, 1, none⟩ (.int .i64 (optE o8).num)).setCell ⟨w.heap.size + 1, 2, none⟩ (.slice s8 (optE o8).kids.length c8)) := Spares.set (Spares.set (Spares.set (Spares.refl w8)))
    generalize (((w8.setCell ⟨w.heap.size + 1, 0, none⟩ (.int .i64 (optE o8).kind)).setCell ⟨w.heap.size + 1, 1, none⟩ (.int .i64 (optE o8).num)).setCell ⟨w.heap.size + 1, 2, none⟩ (.slice s8 (optE o8).kids.length c8)) = w5 at T2 hs5 ⊢
    have t0 := T2.c0
    have t1 := T2.c1
    have t2 := T2.c2
    have hzB5 := hB.size
    have hB5 := hB.trans (hs5.below (B := w.heap.size) (by omega) (fun y hy => by omega))
    refine bodyPost_ret (v := .tuple #[.agg #[.int .i64 (optE o8).kind, .int .i64 (optE o8).num, .slice s8 (optE o8).kids.length c8], .bool o8.isSome]) (by simp [results, Tryz.results36, go_sem, t0, t1, t2]) rfl ?_
    rw [E1.out]
    exact ⟨_, _, rfl, (h8.keep (KeptX.of_spares hs5 (fun y _ hy => Or.inr (by omega)))).unbox, hB5⟩
 have c7 : (k == 7) = false := by simp [h7']
 by_cases h8 : k = 8
 ·
  subst h8
  obtain ⟨u, rfl⟩ := one_kid hk (by omega)
  have hsz := Ex.size_eq (.mk 8 n [u])
  simp only [Ex.sizeL, Ex.kids_mk] at hsz
  have hut : u.tree tm am = true := Ex.treeL_mem htl (by simp)
  obtain ⟨o1, Ho1⟩ : ∃ o, Hid (o = u.step m x) := ⟨_, rfl⟩
  have E0 : Hid ((Ex.mk 8 n [u]).step m x = o1.bind fun p => limE (.two 7 p (.mk 8 n [u]))) := by show _ = _; rw [Ho1.out]; exact Ex.step_star
  obtain ⟨kb, ko, su, cu, rfl, -, -, -, hkb, -, ku, -⟩ := kidX0 (r := []) hx
  obtain ⟨u0, u1, u2⟩ := id ku
  simp only [List.length_cons, List.length_nil, Nat.zero_add] at hl ⊢
  clear htl hk c4 c6 c7
  go_enter Tryz.func36, Tryz.ntmps36
  go_wp2_with fail
  have L := (Blk.new3 w 34 (.int .i64 8) (.int .i64 n) (.slice (some ⟨kb, ko, none⟩) 1 c)).alloc (.cells #[.int .i64 0, .int .i64 0, .slice none 0 0] 34)
  have R := Blk.new3 (w.alloc (.cells #[.int .i64 8, .int .i64 n, .slice (some ⟨kb, ko, none⟩) 1 c] 34)) 34 (.int .i64 0) (.int .i64 0) (.slice none 0 0)
  have hB : Below w.heap.size w ((w.alloc (.cells #[.int .i64 8, .int .i64 n, .slice (some ⟨kb, ko, none⟩) 1 c] 34)).alloc (.cells #[.int .i64 0, .int .i64 0, .slice none 0 0] 34)) := by (repeat' first | exact Below.refl _ _ | assumption | apply Below.alloc | apply Below.drew | apply Below.setCell | omega | (simp; done) | (simp; omega))
  have hz0 : ((w.alloc (.cells #[.int .i64 8, .int .i64 n, .slice (some ⟨kb, ko, none⟩) 1 c] 34)).alloc (.cells #[.int .i64 0, .int .i64 0, .slice none 0 0] 34)).heap.size = w.heap.size + 2 := by simp
  simp at R
  generalize (w.alloc (.cells #[.int .i64 8, .int .i64 n, .slice (some ⟨kb, ko, none⟩) 1 c] 34)).alloc (.cells #[.int .i64 0, .int .i64 0, .slice none 0 0] 34) = wb at L R hB hz0 ⊢
  have hx1 : ExX (XB X w.heap.size 2) wb (.mk 8 n [u]) (some ⟨kb, ko, none⟩) c := ExX.boxes hx hB
  have hXW : ∀ b, XB X w.heap.size 2 b → b < w.heap.size + 2 := fun b q => q.elim (fun q => by have := hX _ q; omega) (fun q => by omega)
  obtain ⟨kb', ko', su', cu', e1, -, -, -, hkb', hkX, ku', hu⟩ := kidX0 (r := []) hx1
  simp only [Option.some.injEq, Addr.mk.injEq, and_true] at e1
  obtain ⟨rfl, rfl⟩ := e1
  have e2 := (hB.cell (p := ⟨kb, ko + 2, none⟩) hkb).trans u2
  rw [ku'.2.2] at e2
  simp only [Option.some.injEq, Value.slice.injEq, true_and] at e2
  obtain ⟨rfl, rfl⟩ := e2
  clear u0 u1 u2 ku ku'
  refine (HIH.out u.size (by omega) u (XB X w.heap.size 2) _ _ _ (Nat.le_refl _) (fun b q => by have := hXW b q; omega) hu hut (by omega)).mono ?_
  rintro f w2 ⟨s2, c2, rfl, hd2, hb2⟩
  rw [← Ho1.out] at hd2 ⊢
  replace hB := Below.on hB hb2 hB.size
  replace R := R.below hb2
  replace L := L.below hb2
  have hx2 := hx1.below hb2
  have hz2 : w.heap.size + 2 ≤ w2.heap.size := by have := hb2.size; omega
  cases o1 with
  | none =>
   have i1 : (none : Option Ex).isSome = false := rfl
   have E1 : Hid ((Ex.mk 8 n [u]).step m x = none) := E0
   have r0 := R.c0
   have r1 := R.c1
   have r2 := R.c2
   have z0 := R.frozen 0
   have z1 := R.frozen 1
   have z2 := R.frozen 2
   have ltR := R.lt
   go_wp2_with fail
   have T2 := (((R.set 0 (.int .i64 0)).set 1 (.int .i64 0)).set 2 (.slice none 0 0)).alloc (.cells #[.int .i64 (optE none).kind, .int .i64 (optE none).num, .slice s2 (optE none).kids.length c2] 34)
   have hs5 : Spares (fun y => y = w.heap.size + 1) w2 ((((w2.setCell ⟨w.heap.size + 1, 0, none⟩ (.int .i64 0)).setCell ⟨w.heap.size + 1, 1, none⟩ (.int .i64 0)).setCell ⟨w.heap.size + 1, 2, none⟩ (.slice none 0 0)).alloc (.cells #[.int .i64 (optE none).kind, .int .i64 (optE none).num, .slice s2 (optE none).kids.length c2] 34)) := (Spares.set (Spares.set (Spares.set (Spares.refl w2)))).trans (Spares.of_below (Below.alloc (Below.refl _ _) (Nat.le_refl _) _))
   generalize (((w2.setCell ⟨w.heap.size + 1, 0, none⟩ (.int .i64 0)).setCell ⟨w.heap.size + 1, 1, none⟩ (.int .i64 0)).setCell ⟨w.heap.size + 1, 2, none⟩ (.slice none 0 0)).alloc (.cells #[.int .i64 (optE none).kind, .int .i64 (optE none).num, .slice s2 (optE none).kids.length c2] 34) = w5 at T2 hs5 ⊢
   have t0 := T2.c0
   have t1 := T2.c1
   have t2 := T2.c2
   have hzB5 := hB.size
   have hB5 := hB.trans (hs5.below (B := w.heap.size) (by omega) (fun y hy => by omega))
   refine bodyPost_ret (v := .tuple #[.agg #[.int .i64 0, .int .i64 0, .slice none 0 0], .bool false]) (by simp [results, Tryz.results36, go_sem, t0, t1, t2]) rfl ?_
   rw [E1.out]
   exact ⟨none, 0, rfl, kidsD_nil, hB5⟩
  | some p =>
  have i1 : (some p).isSome = true := rfl
  have E1 : Hid ((Ex.mk 8 n [u]).step m x = limE (.two 7 p (.mk 8 n [u]))) := E0
  obtain ⟨hp1, hp2⟩ := step_spec tm am m x _ u p (Nat.le_refl _) hut Ho1.out.symm
  have l0 := L.c0
  have l1 := L.c1
  have l2 := L.c2
  have ltL := L.lt
  go_wp2_with fail
  clear l0 l1 l2
  have N1 : Blk ((w2.alloc (.cells #[.int .i64 (optE (some p)).kind, .int .i64 (optE (some p)).num, .slice s2 (optE (some p)).kids.length c2] 34)).alloc (.cells #[.int .i64 (optE (some p)).kind, .int .i64 (optE (some p)).num, .slice s2 (optE (some p)).kids.length c2, .int .i64 8, .int .i64 n, .slice (some ⟨kb, ko, none⟩) 1 c] 34)) (w2.heap.size + 1) 34 [.int .i64 p.kind, .int .i64 p.num, .slice s2 p.kids.length c2, .int .i64 (Ex.mk 8 n [u]).kind, .int .i64 (Ex.mk 8 n [u]).num, .slice (some ⟨kb, ko, none⟩) (Ex.mk 8 n [u]).kids.length c] := by
   rw [show w2.heap.size + 1 = (w2.alloc (.cells #[.int .i64 (optE (some p)).kind, .int .i64 (optE (some p)).num, .slice s2 (optE (some p)).kids.length c2] 34)).heap.size by simp]
   exact Blk.new6 _ _ _ _ _ _ _ _
  have hb6 : Below w2.heap.size w2 ((w2.alloc (.cells #[.int .i64 (optE (some p)).kind, .int .i64 (optE (some p)).num, .slice s2 (optE (some p)).kids.length c2] 34)).alloc (.cells #[.int .i64 (optE (some p)).kind, .int .i64 (optE (some p)).num, .slice s2 (optE (some p)).kids.length c2, .int .i64 8, .int .i64 n, .slice (some ⟨kb, ko, none⟩) 1 c] 34)) := by (repeat' first | exact Below.refl _ _ | assumption | apply Below.alloc | apply Below.drew | apply Below.setCell | omega | (simp; done) | (simp; omega))
  generalize (w2.alloc (.cells #[.int .i64 (optE (some p)).kind, .int .i64 (optE (some p)).num, .slice s2 (optE (some p)).kids.length c2] 34)).alloc (.cells #[.int .i64 (optE (some p)).kind, .int .i64 (optE (some p)).num, .slice s2 (optE (some p)).kids.length c2, .int .i64 8, .int .i64 n, .slice (some ⟨kb, ko, none⟩) 1 c] 34) = w6 at N1 hb6 ⊢
  replace hB := Below.on hB hb6 hB.size
  replace R := R.below hb6
  have hdx : ExX (XB X w.heap.size 2) w6 p s2 c2 := hd2.below hb6
  have hdy : ExX (XB X w.heap.size 2) w6 (.mk 8 n [u]) (some ⟨kb, ko, none⟩) c := hx2.below hb6
  -- goal: the call of tree in world w6; N1 : Blk w6 G of x, y
  refine (tree_i).mono ?_
  rintro f w7 ⟨rfl, hb7⟩
  replace hB := Below.on hB hb7 hB.size
  replace R := R.below hb7
  have hk : ExX (XB X w.heap.size 2) w7 (.two 7 p (.mk 8 n [u])) (some ⟨w2.heap.size + 1, 0, none⟩) 2 := kidsD_two (N1.below hb7) (fun hq0 => by have := hXW _ hq0; omega) (hdx.below hb7) (hdy.below hb7)
  go_wp2_with fail
  -- goal: the call of limited in world w7; hk : ExX .. w7 (.two K x y) ..; R, hB at w7
  refine (limited_i (e := .two 7 p (.mk 8 n [u])) ht ha (fun hb0 hq0 => by have := hXW hb0 hq0; have := R.lt; omega) hk (tree_two (Or.inr rfl) hp1 htr) (by rw [size_two]; omega)).mono ?_
  rintro f w8 ⟨s8, c8, rfl, h8, hb8⟩
  replace hB := Below.on hB hb8 hB.size
  replace R := R.below hb8
  obtain ⟨o8, Ho8⟩ : ∃ o, Hid (o = limE (.two 7 p (.mk 8 n [u]))) := ⟨_, rfl⟩
  rw [← Ho8.out] at h8 ⊢
  replace E1 := Lib.hid (E1.out.trans Ho8.out.symm)
  have r0 := R.c0
  have r1 := R.c1
  have r2 := R.c2
  have z0 := R.frozen 0
  have z1 := R.frozen 1
  have z2 := R.frozen 2
  have ltR := R.lt
  go_wp2_with fail
  have T2 := ((R.set 0 (.int .i64 (optE o8).kind)).set 1 (.int .i64 (optE o8).num)).set 2 (.slice s8 (optE o8).kids.length c8)
  have hs5 : Spares (fun y => y = w.heap.size + 1) w8 (((w8.setCell ⟨w.heap.size + 1, 0, none⟩ (.int .i64 (optE o8).kind)).setCell ⟨w.heap.size + 1, 1, none⟩ (.int .i64 (optE o8).num)).setCell ⟨w.heap.size + 1, 2, none⟩ (.slice s8 (optE o8).kids.length c8)) := Spares.set (Spares.set (Spares.set (Spares.refl w8)))
  generalize (((w8.setCell ⟨w.heap.size + 1, 0, none⟩ (.int .i64 (optE o8).kind)).setCell ⟨w.heap.size + 1, 1, none⟩ (.int .i64 (optE o8).num)).setCell ⟨w.heap.size + 1, 2, none⟩ (.slice s8 (optE o8).kids.length c8)) = w5 at T2 hs5 ⊢
  have t0 := T2.c0
  have t1 := T2.c1
  have t2 := T2.c2
  have hzB5 := hB.size
  have hB5 := hB.trans (hs5.below (B := w.heap.size) (by omega) (fun y hy => by omega))
  refine bodyPost_ret (v := .tuple #[.agg #[.int .i64 (optE o8).kind, .int .i64 (optE o8).num, .slice s8 (optE o8).kids.length c8], .bool o8.isSome]) (by simp [results, Tryz.results36, go_sem, t0, t1, t2]) rfl ?_
  rw [E1.out]
  exact ⟨_, _, rfl, (h8.keep (KeptX.of_spares hs5 (fun y _ hy => Or.inr (by omega)))).unbox, hB5⟩
 have c8 : (k == 8) = false := by simp [h8]
 have E1 : Hid ((Ex.mk k n ks).step m x = some (.leaf 1)) := by show _ = _; exact Ex.step_else h4 h6 h7' h8
 clear htl hk h4 h6 h7' h8
 go_enter Tryz.func36, Tryz.ntmps36
 go_wp2_with fail
 have L := (Blk.new3 w 34 (.int .i64 k) (.int .i64 n) (.slice s ks.length c)).alloc (.cells #[.int .i64 0, .int .i64 0, .slice none 0 0] 34)
 have R := Blk.new3 (w.alloc (.cells #[.int .i64 k, .int .i64 n, .slice s ks.length c] 34)) 34 (.int .i64 0) (.int .i64 0) (.slice none 0 0)
 have hB : Below w.heap.size w ((w.alloc (.cells #[.int .i64 k, .int .i64 n, .slice s ks.length c] 34)).alloc (.cells #[.int .i64 0, .int .i64 0, .slice none 0 0] 34)) := by (repeat' first | exact Below.refl _ _ | assumption | apply Below.alloc | apply Below.drew | apply Below.setCell | omega | (simp; done) | (simp; omega))
 have hz0 : ((w.alloc (.cells #[.int .i64 k, .int .i64 n, .slice s ks.length c] 34)).alloc (.cells #[.int .i64 0, .int .i64 0, .slice none 0 0] 34)).heap.size = w.heap.size + 2 := by simp
 simp at R
 generalize (w.alloc (.cells #[.int .i64 k, .int .i64 n, .slice s ks.length c] 34)).alloc (.cells #[.int .i64 0, .int .i64 0, .slice none 0 0] 34) = wb at L R hB hz0 ⊢
 have hx1 : ExX (XB X w.heap.size 2) wb (.mk k n ks) s c := ExX.boxes hx hB
 have hXW : ∀ b, XB X w.heap.size 2 b → b < w.heap.size + 2 := fun b q => q.elim (fun q => by have := hX _ q; omega) (fun q => by omega)
 refine (leaf_i).mono ?_
 rintro f w4 ⟨rfl, hb⟩
 replace hB := Below.on hB hb hB.size
 replace R := R.below hb
 have r0 := R.c0
 have r1 := R.c1
 have r2 := R.c2
 have z0 := R.frozen 0
 have z1 := R.frozen 1
 have z2 := R.frozen 2
 have ltR := R.lt
 go_wp2_with fail
 have T2 := ((R.set 0 (.int .i64 1)).set 1 (.int .i64 0)).set 2 (.slice none 0 0)
 have hs5 : Spares (fun y => y = w.heap.size + 1) w4 (((w4.setCell ⟨w.heap.size + 1, 0, none⟩ (.int .i64 1)).setCell ⟨w.heap.size + 1, 1, none⟩ (.int .i64 0)).setCell ⟨w.heap.size + 1, 2, none⟩ (.slice none 0 0)) := Spares.set (Spares.set (Spares.set (Spares.refl w4)))
 generalize (((w4.setCell ⟨w.heap.size + 1, 0, none⟩ (.int .i64 1)).setCell ⟨w.heap.size + 1, 1, none⟩ (.int .i64 0)).setCell ⟨w.heap.size + 1, 2, none⟩ (.slice none 0 0)) = w5 at T2 hs5 ⊢
 have t0 := T2.c0
 have t1 := T2.c1
 have t2 := T2.c2
 have hzB5 := hB.size
 have hB5 := hB.trans (hs5.below (B := w.heap.size) (by omega) (fun y hy => by omega))
 refine bodyPost_ret (v := .tuple #[.agg #[.int .i64 1, .int .i64 0, .slice none 0 0], .bool true]) (by simp [results, Tryz.results36, go_sem, t0, t1, t2]) rfl ?_
 rw [E1.out]
 exact ⟨_, _, rfl, kidsD_nil, hB5⟩
end Go.Proofs.YtcokljhamhgelaaGreatDoor
