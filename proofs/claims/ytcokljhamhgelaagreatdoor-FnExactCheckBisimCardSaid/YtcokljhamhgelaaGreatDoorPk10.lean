/-
  Parts of a proof, joined: TidyI. No condition.
-/
import Derived.Test.YtcokljhamhgelaaGreatDoorPk8
namespace Go.Proofs.YtcokljhamhgelaaGreatDoor
set_option linter.unusedVariables false
set_option linter.unusedSimpArgs false
open Go.ChangeShapes Go.WideShapes Go.ChangeAt Go.RowKit Go.Deep Go.Sort
theorem Ex.kind_mk {k n : Int} {ks : List Ex} : (Ex.mk k n ks).kind = k := rfl
theorem Ex.num_mk {k n : Int} {ks : List Ex} : (Ex.mk k n ks).num = n := rfl
theorem Ex.kids_mk {k n : Int} {ks : List Ex} : (Ex.mk k n ks).kids = ks := rfl
def K1 (w : World) (b o : Nat) (e : Ex) (s : Option Addr) (c : Nat) : Prop := w.cell? ⟨b, o, none⟩ = some (.int .i64 e.kind) ∧ w.cell? ⟨b, o + 1, none⟩ = some (.int .i64 e.num) ∧ w.cell? ⟨b, o + 2, none⟩ = some (.slice s e.kids.length c)
theorem K1.keep {w w' : World} {b o : Nat} {e : Ex} {s : Option Addr} {c : Nat} (h : K1 w b o e s c) (hk : w'.heap[b]? = w.heap[b]?) : K1 w' b o e s c :=
 ⟨(World.cell?_of_block (w := w) (w' := w') (a := ⟨b, o, none⟩) hk).trans h.1, (World.cell?_of_block (w := w) (w' := w') (a := ⟨b, o + 1, none⟩) hk).trans h.2.1, (World.cell?_of_block (w := w) (w' := w') (a := ⟨b, o + 2, none⟩) hk).trans h.2.2⟩
theorem kidX0 {X : Nat → Prop} {w : World} {x : Ex} {r : List Ex} {s : Option Addr} {len cap : Nat} (h : RdX X w (kidsD (x :: r)) (.slice s len cap)) :
  ∃ b o sx cx, s = some ⟨b, o, none⟩ ∧ len = r.length + 1 ∧ len ≤ cap ∧ cap ≤ maxLen ∧ b < w.heap.size ∧ ¬ X b ∧ K1 w b o x sx cx ∧ ExX X w x sx cx := by
 obtain ⟨hl, h1, h2, -, -⟩ := kid_at h.rd
 simp only [List.length_cons] at hl
 subst hl
 obtain ⟨b, o, rfl⟩ := kid_some (a := s) (cap := cap) h.rd (by simp)
 obtain ⟨hb, hn, sx, cx, k0, k1, k2, hx⟩ := kidX h (i := 0) (x := x) rfl
 simp only [Nat.zero_mul, Nat.add_zero] at k0 k1 k2
 exact ⟨b, o, sx, cx, rfl, rfl, h1, h2, hb, hn, ⟨k0, k1, k2⟩, hx⟩
theorem kidX1 {X : Nat → Prop} {w : World} {x y : Ex} {r : List Ex} {b o len cap : Nat} (h : RdX X w (kidsD (x :: y :: r)) (.slice (some ⟨b, o, none⟩) len cap)) : ∃ sy cy, K1 w b (o + 3) y sy cy ∧ ExX X w y sy cy := by
 obtain ⟨hb, hn, sx, cx, k0, k1, k2, hx⟩ := kidX h (i := 1) (x := y) rfl
 simp only [Nat.one_mul] at k0 k1 k2
 exact ⟨sx, cx, ⟨k0, k1, k2⟩, hx⟩
theorem ExX.rd {X : Nat → Prop} {w : World} {e : Ex} {s : Option Addr} {c : Nat} (h : ExX X w e s c) : Rd w (kidsD e.kids) (.slice s e.kids.length c) := RdX.rd h
theorem ExX.keep {X : Nat → Prop} {w w' : World} {e : Ex} {s : Option Addr} {c : Nat} (h : ExX X w e s c) (hk : KeptX X w w') : ExX X w' e s c := RdX.keep h hk
theorem ExX.below {X : Nat → Prop} {w w' : World} {e : Ex} {s : Option Addr} {c : Nat} (h : ExX X w e s c) (hk : Below w.heap.size w w') : ExX X w' e s c := RdX.below h hk
theorem ExX.less {X Y : Nat → Prop} {w : World} {e : Ex} {s : Option Addr} {c : Nat} (h : ExX X w e s c) (hs : ∀ b, b < w.heap.size → Y b → X b) : ExX Y w e s c := RdX.less h hs
def XB (X : Nat → Prop) (p n : Nat) (b : Nat) : Prop := X b ∨ (p ≤ b ∧ b < p + n)
theorem ExX.boxes {X : Nat → Prop} {w w1 : World} {e : Ex} {s : Option Addr} {c n : Nat} (h : ExX X w e s c) (hb : Below w.heap.size w w1) : ExX (XB X w.heap.size n) w1 e s c :=
 fun w2 k => h w2 ⟨Nat.le_trans hb.size k.1, fun b hl hx => (k.2 b (Nat.lt_of_lt_of_le hl hb.size) (fun q => q.elim hx (fun q => by omega))).trans (hb.block b hl)⟩
theorem ExX.unbox {X : Nat → Prop} {w : World} {e : Ex} {s : Option Addr} {c p n : Nat} (h : ExX (XB X p n) w e s c) : ExX X w e s c := h.less fun _ _ hx => Or.inl hx
theorem leaf_i {k n : Int} {w : World} : Calls Tryz.prog 68 #[.int .i64 k, .int .i64 n] w fun e w' => e = .returned (.agg #[.int .i64 k, .int .i64 n, .slice none 0 0]) ∧ Below w.heap.size w w' := by
 go_enter Tryz.func68, Tryz.ntmps68
 go_wp2_with fail
 have T := (((Blk.new3 w 34 (.int .i64 0) (.int .i64 0) (.slice none 0 0)).set 0 (.int .i64 k)).set 1 (.int .i64 n)).set 2 (.slice none 0 0)
 have t0 := T.c0
 have t1 := T.c1
 have t2 := T.c2
 refine bodyPost_ret (v := .agg #[.int .i64 k, .int .i64 n, .slice none 0 0]) (by simp [results, Tryz.results68, go_sem, t0, t1, t2]) rfl ⟨rfl, by (repeat' first | exact Below.refl _ _ | assumption | apply Below.alloc | apply Below.drew | apply Below.setCell | omega | (simp; done) | (simp; omega))⟩
theorem tree_i {k : Int} {a : Option Addr} {l c : Nat} {w : World} : Calls Tryz.prog 70 #[.int .i64 k, .slice a l c] w fun e w' => e = .returned (.agg #[.int .i64 k, .int .i64 0, .slice a l c]) ∧ Below w.heap.size w w' := by
 go_enter Tryz.func70, Tryz.ntmps70
 go_wp2_with fail
 have T := (((Blk.new3 w 34 (.int .i64 0) (.int .i64 0) (.slice none 0 0)).set 0 (.int .i64 k)).set 1 (.int .i64 0)).set 2 (.slice a l c)
 have t0 := T.c0
 have t1 := T.c1
 have t2 := T.c2
 refine bodyPost_ret (v := .agg #[.int .i64 k, .int .i64 0, .slice a l c]) (by simp [results, Tryz.results70, go_sem, t0, t1, t2]) rfl ⟨rfl, by (repeat' first | exact Below.refl _ _ | assumption | apply Below.alloc | apply Below.drew | apply Below.setCell | omega | (simp; done) | (simp; omega))⟩
set_option maxHeartbeats 4000000 in
theorem tidyStar_i {X : Nat → Prop} {e : Ex} {s : Option Addr} {c : Nat} {w : World} (hX : ∀ b, X b → b < w.heap.size) (hx : ExX X w e s c) :
  Calls Tryz.prog 65 #[.agg #[.int .i64 e.kind, .int .i64 e.num, .slice s e.kids.length c]] w fun f w' => ∃ s' c', f = .returned (.agg #[.int .i64 e.star.kind, .int .i64 e.star.num, .slice s' e.star.kids.length c']) ∧ ExX X w' e.star s' c' ∧ Below w.heap.size w w' := by
 obtain ⟨-, hlen, hcap, -, -⟩ := kid_at hx.rd
 unfold maxLen at hcap
 go_enter Tryz.func65, Tryz.ntmps65
 go_wp2_with fail
 have L := (Blk.new3 w 34 (.int .i64 e.kind) (.int .i64 e.num) (.slice s e.kids.length c)).alloc (.cells #[.int .i64 0, .int .i64 0, .slice none 0 0] 34)
 have R := Blk.new3 (w.alloc (.cells #[.int .i64 e.kind, .int .i64 e.num, .slice s e.kids.length c] 34)) 34 (.int .i64 0) (.int .i64 0) (.slice none 0 0)
 have hB : Below w.heap.size w ((w.alloc (.cells #[.int .i64 e.kind, .int .i64 e.num, .slice s e.kids.length c] 34)).alloc (.cells #[.int .i64 0, .int .i64 0, .slice none 0 0] 34)) := by (repeat' first | exact Below.refl _ _ | assumption | apply Below.alloc | apply Below.drew | apply Below.setCell | omega | (simp; done) | (simp; omega))
 have hz0 : ((w.alloc (.cells #[.int .i64 e.kind, .int .i64 e.num, .slice s e.kids.length c] 34)).alloc (.cells #[.int .i64 0, .int .i64 0, .slice none 0 0] 34)).heap.size = w.heap.size + 2 := by simp
 simp at R
 generalize (w.alloc (.cells #[.int .i64 e.kind, .int .i64 e.num, .slice s e.kids.length c] 34)).alloc (.cells #[.int .i64 0, .int .i64 0, .slice none 0 0] 34) = w1 at L R hB hz0 ⊢
 have hx1 : ExX (XB X w.heap.size 2) w1 e s c := hx.boxes hB
 refine (implIsCondition_i hx1.rd).mono ?_
 rintro f w2 ⟨rfl, hb⟩
 have eta : Ex.cond (.mk e.kind e.num e.kids) = e.cond := by rw [← Ex.eta]
 try rw [eta]
 replace hB := Below.on hB hb hB.size
 replace L := L.below hb
 replace R := R.below hb
 replace hx1 := hx1.below hb
 have hsz := hB.size
 have hsz2 := hb.size
 rw [hz0] at hsz2
 clear hb hx
 cases hc : e.cond
 ·
  have l0 := L.c0
  have l1 := L.c1
  have l2 := L.c2
  by_cases h8 : e.kind = 8
  ·
   have c8 : (e.kind == 8) = true := by simp [h8]
   have ee : e.star = e := by unfold Ex.star; rw [hc]; simp [h8]
   have E1 := Lib.hid ee
   clear ee h8
   -- the result box w.heap.size + 1 of world w2 is set to an expression; goal: bodyPost. R : the box; Rests: hs5 : Spares, T2
   have r0 := R.c0
   have r1 := R.c1
   have r2 := R.c2
   have z0 := R.frozen 0
   have z1 := R.frozen 1
   have z2 := R.frozen 2
   have ltR := R.lt
   go_wp2_with fail
   have T2 := ((R.set 0 (.int .i64 e.kind)).set 1 (.int .i64 e.num)).set 2 (.slice s e.kids.length c)
   have hs5 : Spares (fun y => y = w.heap.size + 1) w2 (((w2.setCell ⟨w.heap.size + 1, 0, none⟩ (.int .i64 e.kind)).setCell ⟨w.heap.size + 1, 1, none⟩ (.int .i64 e.num)).setCell ⟨w.heap.size + 1, 2, none⟩ (.slice s e.kids.length c)) := Spares.set (Spares.set (Spares.set (Spares.refl w2)))
   generalize (((w2.setCell ⟨w.heap.size + 1, 0, none⟩ (.int .i64 e.kind)).setCell ⟨w.heap.size + 1, 1, none⟩ (.int .i64 e.num)).setCell ⟨w.heap.size + 1, 2, none⟩ (.slice s e.kids.length c)) = w5 at T2 hs5 ⊢
   have t0 := T2.c0
   have t1 := T2.c1
   have t2 := T2.c2
   have hzB5 := hB.size
   have hB5 := hB.trans (hs5.below (B := w.heap.size) (by omega) (fun y hy => by omega))
   refine bodyPost_ret (v := .agg #[.int .i64 e.kind, .int .i64 e.num, .slice s e.kids.length c]) (by simp [results, Tryz.results65, go_sem, t0, t1, t2]) rfl ?_
   rw [E1.out]
   exact ⟨_, _, rfl, (hx1.keep (KeptX.of_spares hs5 (fun y _ hy => Or.inr (by omega)))).unbox, hB5⟩
  ·
   have c8 : (e.kind == 8) = false := by simp [h8]
   have ee : e.star = .mk 8 0 [e] := by unfold Ex.star; rw [hc]; simp [h8]
   have E1 := Lib.hid ee
   clear ee h8
   go_wp2_with fail
   have N1 := Blk.new3 w2 34 (.int .i64 e.kind) (.int .i64 e.num) (.slice s e.kids.length c)
   have hb1 : Below w2.heap.size w2 (w2.alloc (.cells #[.int .i64 e.kind, .int .i64 e.num, .slice s e.kids.length c] 34)) := by (repeat' first | exact Below.refl _ _ | assumption | apply Below.alloc | apply Below.drew | apply Below.setCell | omega | (simp; done) | (simp; omega))
   generalize w2.alloc (.cells #[.int .i64 e.kind, .int .i64 e.num, .slice s e.kids.length c] 34) = w3 at N1 hb1 ⊢
   refine (tree_i).mono ?_
   rintro f w4 ⟨rfl, hb⟩
   replace N1 := N1.below hb
   have hb4 := hb1.trans (hb.mono hb1.size)
   replace hB := Below.on hB hb4 hB.size
   replace R := R.below hb4
   replace hx1 := hx1.below hb4
   have hk := kidsD_one N1 (X := XB X w.heap.size 2) (fun q => q.elim (fun q => by have := hX _ q; omega) (fun q => by omega)) hx1
   clear hb hb1 hb4 l0 l1 l2
   -- the result box w.heap.size + 1 of world w4 is set to an expression; goal: bodyPost. R : the box; Rests: hs5 : Spares, T2
   have r0 := R.c0
   have r1 := R.c1
   have r2 := R.c2
   have z0 := R.frozen 0
   have z1 := R.frozen 1
   have z2 := R.frozen 2
   have ltR := R.lt
   go_wp2_with fail
   have T2 := ((R.set 0 (.int .i64 8)).set 1 (.int .i64 0)).set 2 (.slice (some ⟨w2.heap.size, 0, none⟩) 1 1)
   have hs5 : Spares (fun y => y = w.heap.size + 1) w4 (((w4.setCell ⟨w.heap.size + 1, 0, none⟩ (.int .i64 8)).setCell ⟨w.heap.size + 1, 1, none⟩ (.int .i64 0)).setCell ⟨w.heap.size + 1, 2, none⟩ (.slice (some ⟨w2.heap.size, 0, none⟩) 1 1)) := Spares.set (Spares.set (Spares.set (Spares.refl w4)))
   generalize (((w4.setCell ⟨w.heap.size + 1, 0, none⟩ (.int .i64 8)).setCell ⟨w.heap.size + 1, 1, none⟩ (.int .i64 0)).setCell ⟨w.heap.size + 1, 2, none⟩ (.slice (some ⟨w2.heap.size, 0, none⟩) 1 1)) = w5 at T2 hs5 ⊢
   have t0 := T2.c0
   have t1 := T2.c1
   have t2 := T2.c2
   have hzB5 := hB.size
   have hB5 := hB.trans (hs5.below (B := w.heap.size) (by omega) (fun y hy => by omega))
   refine bodyPost_ret (v := .agg #[.int .i64 8, .int .i64 0, .slice (some ⟨w2.heap.size, 0, none⟩) 1 1]) (by simp [results, Tryz.results65, go_sem, t0, t1, t2]) rfl ?_
   rw [E1.out]
   exact ⟨_, _, rfl, ExX.unbox (e := .mk 8 0 [e]) (hk.keep (KeptX.of_spares hs5 (fun y _ hy => Or.inr (by omega)))), hB5⟩
 ·
  have ee : e.star = .leaf 2 := by unfold Ex.star; rw [hc]; simp
  have E1 := Lib.hid ee
  clear ee
  go_wp2_with fail
  refine (leaf_i).mono ?_
  rintro f w4 ⟨rfl, hb⟩
  replace hB := Below.on hB hb hB.size
  replace R := R.below hb
  -- the result box w.heap.size + 1 of world w4 is set to an expression; goal: bodyPost. R : the box; Rests: hs5 : Spares, T2
  have r0 := R.c0
  have r1 := R.c1
  have r2 := R.c2
  have z0 := R.frozen 0
  have z1 := R.frozen 1
  have z2 := R.frozen 2
  have ltR := R.lt
  go_wp2_with fail
  have T2 := ((R.set 0 (.int .i64 2)).set 1 (.int .i64 0)).set 2 (.slice none 0 0)
  have hs5 : Spares (fun y => y = w.heap.size + 1) w4 (((w4.setCell ⟨w.heap.size + 1, 0, none⟩ (.int .i64 2)).setCell ⟨w.heap.size + 1, 1, none⟩ (.int .i64 0)).setCell ⟨w.heap.size + 1, 2, none⟩ (.slice none 0 0)) := Spares.set (Spares.set (Spares.set (Spares.refl w4)))
  generalize (((w4.setCell ⟨w.heap.size + 1, 0, none⟩ (.int .i64 2)).setCell ⟨w.heap.size + 1, 1, none⟩ (.int .i64 0)).setCell ⟨w.heap.size + 1, 2, none⟩ (.slice none 0 0)) = w5 at T2 hs5 ⊢
  have t0 := T2.c0
  have t1 := T2.c1
  have t2 := T2.c2
  have hzB5 := hB.size
  have hB5 := hB.trans (hs5.below (B := w.heap.size) (by omega) (fun y hy => by omega))
  refine bodyPost_ret (v := .agg #[.int .i64 2, .int .i64 0, .slice none 0 0]) (by simp [results, Tryz.results65, go_sem, t0, t1, t2]) rfl ?_
  rw [E1.out]
  exact ⟨_, _, rfl, kidsD_nil, hB5⟩
set_option maxRecDepth 100000 in
set_option maxHeartbeats 8000000 in
theorem tidyDot_all (tm am : Int) (N : Nat) : ∀ (x y : Ex) (X : Nat → Prop) (sx sy : Option Addr) (cx cy : Nat) (w : World), x.size ≤ N → (∀ b, X b → b < w.heap.size) → ExX X w x sx cx → ExX X w y sy cy → x.tree tm am = true →
  Calls Tryz.prog 64 #[.agg #[.int .i64 x.kind, .int .i64 x.num, .slice sx x.kids.length cx], .agg #[.int .i64 y.kind, .int .i64 y.num, .slice sy y.kids.length cy]] w fun f w' => ∃ s' c', f = .returned (.agg #[.int .i64 (x.dot y).kind, .int .i64 (x.dot y).num, .slice s' (x.dot y).kids.length c']) ∧ ExX X w' (x.dot y) s' c' ∧ Below w.heap.size w w' := by
 induction N using Nat.strongRecOn with
 | _ N ih =>
 intro x y X sx sy cx cy w hN hX hx hy ht
 have HIH := Lib.hid ih
 clear ih
 obtain ⟨-, hlen, hcap, -, -⟩ := kid_at hx.rd
 obtain ⟨-, hlen', hcap', -, -⟩ := kid_at hy.rd
 unfold maxLen at hcap hcap'
 obtain ⟨k, n, ks⟩ := x
 obtain ⟨k', n', ks'⟩ := y
 have edef : (Ex.mk k n ks).dot (.mk k' n' ks') = dotC k n ks (Ex.dotL ks) (.mk k' n' ks') := Ex.dot_eq ..
 simp only [Ex.kind_mk, Ex.num_mk, Ex.kids_mk] at hlen hlen' ⊢
 by_cases h1 : k = 1
 ·
  subst h1
  have E1 : Hid ((Ex.mk 1 n ks).dot (.mk k' n' ks') = .leaf 1) := by show _ = _; rw [edef, dotC, if_pos (Or.inl rfl)]
  clear edef
  go_enter Tryz.func64, Tryz.ntmps64
  go_wp2_with fail
  have L := ((Blk.new3 w 34 (.int .i64 1) (.int .i64 n) (.slice sx ks.length cx)).alloc (.cells #[.int .i64 k', .int .i64 n', .slice sy ks'.length cy] 34)).alloc (.cells #[.int .i64 0, .int .i64 0, .slice none 0 0] 34)
  have M := (Blk.new3 (w.alloc (.cells #[.int .i64 1, .int .i64 n, .slice sx ks.length cx] 34)) 34 (.int .i64 k') (.int .i64 n') (.slice sy ks'.length cy)).alloc (.cells #[.int .i64 0, .int .i64 0, .slice none 0 0] 34)
  have R := Blk.new3 ((w.alloc (.cells #[.int .i64 1, .int .i64 n, .slice sx ks.length cx] 34)).alloc (.cells #[.int .i64 k', .int .i64 n', .slice sy ks'.length cy] 34)) 34 (.int .i64 0) (.int .i64 0) (.slice none 0 0)
  have hB : Below w.heap.size w (((w.alloc (.cells #[.int .i64 1, .int .i64 n, .slice sx ks.length cx] 34)).alloc (.cells #[.int .i64 k', .int .i64 n', .slice sy ks'.length cy] 34)).alloc (.cells #[.int .i64 0, .int .i64 0, .slice none 0 0] 34)) := by (repeat' first | exact Below.refl _ _ | assumption | apply Below.alloc | apply Below.drew | apply Below.setCell | omega | (simp; done) | (simp; omega))
  have hz0 : (((w.alloc (.cells #[.int .i64 1, .int .i64 n, .slice sx ks.length cx] 34)).alloc (.cells #[.int .i64 k', .int .i64 n', .slice sy ks'.length cy] 34)).alloc (.cells #[.int .i64 0, .int .i64 0, .slice none 0 0] 34)).heap.size = w.heap.size + 3 := by simp
  simp at M R
  generalize ((w.alloc (.cells #[.int .i64 1, .int .i64 n, .slice sx ks.length cx] 34)).alloc (.cells #[.int .i64 k', .int .i64 n', .slice sy ks'.length cy] 34)).alloc (.cells #[.int .i64 0, .int .i64 0, .slice none 0 0] 34) = wb at L M R hB hz0 ⊢
  have hx1 : ExX (XB X w.heap.size 3) wb (.mk 1 n ks) sx cx := hx.boxes hB
  have hy1 : ExX (XB X w.heap.size 3) wb (.mk k' n' ks') sy cy := hy.boxes hB
  have hB' := hB
  have hGl : ∀ b, XB X w.heap.size 3 b → b < wb.heap.size := fun b q => q.elim (fun q => by have := hX _ q; omega) (fun q => by omega)
  clear hx hy
  refine (leaf_i).mono ?_
  rintro f w4 ⟨rfl, hb⟩
  replace hB := Below.on hB hb hB.size
  replace R := R.below hb
  -- the result box w.heap.size + 1 + 1 of world w4 is set to an expression; goal: bodyPost. R : the box; Rests: hs5 : Spares, T2
  have r0 := R.c0
  have r1 := R.c1
  have r2 := R.c2
  have z0 := R.frozen 0
  have z1 := R.frozen 1
  have z2 := R.frozen 2
  have ltR := R.lt
  go_wp2_with fail
  have T2 := ((R.set 0 (.int .i64 1)).set 1 (.int .i64 0)).set 2 (.slice none 0 0)
  have hs5 : Spares (fun y => y = w.heap.size + 1 + 1) w4 (((w4.setCell ⟨w.heap.size + 1 + 1, 0, none⟩ (.int .i64 1)).setCell ⟨w.heap.size + 1 + 1, 1, none⟩ (.int .i64 0)).setCell ⟨w.heap.size + 1 + 1, 2, none⟩ (.slice none 0 0)) := Spares.set (Spares.set (Spares.set (Spares.refl w4)))
  generalize (((w4.setCell ⟨w.heap.size + 1 + 1, 0, none⟩ (.int .i64 1)).setCell ⟨w.heap.size + 1 + 1, 1, none⟩ (.int .i64 0)).setCell ⟨w.heap.size + 1 + 1, 2, none⟩ (.slice none 0 0)) = w5 at T2 hs5 ⊢
  have t0 := T2.c0
  have t1 := T2.c1
  have t2 := T2.c2
  have hzB5 := hB.size
  have hB5 := hB.trans (hs5.below (B := w.heap.size) (by omega) (fun y hy => by omega))
  refine bodyPost_ret (v := .agg #[.int .i64 1, .int .i64 0, .slice none 0 0]) (by simp [results, Tryz.results64, go_sem, t0, t1, t2]) rfl ?_
  rw [E1.out]
  exact ⟨_, _, rfl, kidsD_nil, hB5⟩
 have c1 : (k == 1) = false := by simp [h1]
 by_cases h2 : k' = 1
 ·
  subst h2
  have E1 : Hid ((Ex.mk k n ks).dot (.mk 1 n' ks') = .leaf 1) := by show _ = _; rw [edef, dotC, if_pos (Or.inr (show (Ex.mk 1 n' ks').kind = 1 from rfl))]
  clear edef h1
  go_enter Tryz.func64, Tryz.ntmps64
  go_wp2_with fail
  have L := ((Blk.new3 w 34 (.int .i64 k) (.int .i64 n) (.slice sx ks.length cx)).alloc (.cells #[.int .i64 1, .int .i64 n', .slice sy ks'.length cy] 34)).alloc (.cells #[.int .i64 0, .int .i64 0, .slice none 0 0] 34)
  have M := (Blk.new3 (w.alloc (.cells #[.int .i64 k, .int .i64 n, .slice sx ks.length cx] 34)) 34 (.int .i64 1) (.int .i64 n') (.slice sy ks'.length cy)).alloc (.cells #[.int .i64 0, .int .i64 0, .slice none 0 0] 34)
  have R := Blk.new3 ((w.alloc (.cells #[.int .i64 k, .int .i64 n, .slice sx ks.length cx] 34)).alloc (.cells #[.int .i64 1, .int .i64 n', .slice sy ks'.length cy] 34)) 34 (.int .i64 0) (.int .i64 0) (.slice none 0 0)
  have hB : Below w.heap.size w (((w.alloc (.cells #[.int .i64 k, .int .i64 n, .slice sx ks.length cx] 34)).alloc (.cells #[.int .i64 1, .int .i64 n', .slice sy ks'.length cy] 34)).alloc (.cells #[.int .i64 0, .int .i64 0, .slice none 0 0] 34)) := by (repeat' first | exact Below.refl _ _ | assumption | apply Below.alloc | apply Below.drew | apply Below.setCell | omega | (simp; done) | (simp; omega))
  have hz0 : (((w.alloc (.cells #[.int .i64 k, .int .i64 n, .slice sx ks.length cx] 34)).alloc (.cells #[.int .i64 1, .int .i64 n', .slice sy ks'.length cy] 34)).alloc (.cells #[.int .i64 0, .int .i64 0, .slice none 0 0] 34)).heap.size = w.heap.size + 3 := by simp
  simp at M R
  generalize ((w.alloc (.cells #[.int .i64 k, .int .i64 n, .slice sx ks.length cx] 34)).alloc (.cells #[.int .i64 1, .int .i64 n', .slice sy ks'.length cy] 34)).alloc (.cells #[.int .i64 0, .int .i64 0, .slice none 0 0] 34) = wb at L M R hB hz0 ⊢
  have hx1 : ExX (XB X w.heap.size 3) wb (.mk k n ks) sx cx := hx.boxes hB
  have hy1 : ExX (XB X w.heap.size 3) wb (.mk 1 n' ks') sy cy := hy.boxes hB
  have hB' := hB
  have hGl : ∀ b, XB X w.heap.size 3 b → b < wb.heap.size := fun b q => q.elim (fun q => by have := hX _ q; omega) (fun q => by omega)
  clear hx hy
  refine (leaf_i).mono ?_
  rintro f w4 ⟨rfl, hb⟩
  replace hB := Below.on hB hb hB.size
  replace R := R.below hb
  -- the result box w.heap.size + 1 + 1 of world w4 is set to an expression; goal: bodyPost. R : the box; Rests: hs5 : Spares, T2
  have r0 := R.c0
  have r1 := R.c1
  have r2 := R.c2
  have z0 := R.frozen 0
  have z1 := R.frozen 1
  have z2 := R.frozen 2
  have ltR := R.lt
  go_wp2_with fail
  have T2 := ((R.set 0 (.int .i64 1)).set 1 (.int .i64 0)).set 2 (.slice none 0 0)
  have hs5 : Spares (fun y => y = w.heap.size + 1 + 1) w4 (((w4.setCell ⟨w.heap.size + 1 + 1, 0, none⟩ (.int .i64 1)).setCell ⟨w.heap.size + 1 + 1, 1, none⟩ (.int .i64 0)).setCell ⟨w.heap.size + 1 + 1, 2, none⟩ (.slice none 0 0)) := Spares.set (Spares.set (Spares.set (Spares.refl w4)))
  generalize (((w4.setCell ⟨w.heap.size + 1 + 1, 0, none⟩ (.int .i64 1)).setCell ⟨w.heap.size + 1 + 1, 1, none⟩ (.int .i64 0)).setCell ⟨w.heap.size + 1 + 1, 2, none⟩ (.slice none 0 0)) = w5 at T2 hs5 ⊢
  have t0 := T2.c0
  have t1 := T2.c1
  have t2 := T2.c2
  have hzB5 := hB.size
  have hB5 := hB.trans (hs5.below (B := w.heap.size) (by omega) (fun y hy => by omega))
  refine bodyPost_ret (v := .agg #[.int .i64 1, .int .i64 0, .slice none 0 0]) (by simp [results, Tryz.results64, go_sem, t0, t1, t2]) rfl ?_
  rw [E1.out]
  exact ⟨_, _, rfl, kidsD_nil, hB5⟩
 have c2 : (k' == 1) = false := by simp [h2]
 have hor : ¬ (k = 1 ∨ (Ex.mk k' n' ks').kind = 1) := fun q => q.elim h1 h2
 by_cases h3 : k = 2
 ·
  have E1 : Hid ((Ex.mk k n ks).dot (.mk k' n' ks') = .mk k' n' ks') := by show _ = _; rw [edef, dotC, if_neg hor, if_pos h3]
  subst h3
  clear edef h1 h2 hor c1
  go_enter Tryz.func64, Tryz.ntmps64
  go_wp2_with fail
  refine bodyPost_ret (v := .agg #[.int .i64 k', .int .i64 n', .slice sy ks'.length cy]) (by simp [results, Tryz.results64, go_sem]) rfl ?_
  rw [E1.out]
  exact ⟨_, _, rfl, hy.below (by (repeat' first | exact Below.refl _ _ | assumption | apply Below.alloc | apply Below.drew | apply Below.setCell | omega | (simp; done) | (simp; omega))), by (repeat' first | exact Below.refl _ _ | assumption | apply Below.alloc | apply Below.drew | apply Below.setCell | omega | (simp; done) | (simp; omega))⟩
 have c3 : (k == 2) = false := by simp [h3]
 by_cases h4 : k' = 2
 ·
  have E1 : Hid ((Ex.mk k n ks).dot (.mk k' n' ks') = .mk k n ks) := by show _ = _; rw [edef, dotC, if_neg hor, if_neg h3, if_pos (show (Ex.mk k' n' ks').kind = 2 from h4)]
  subst h4
  clear edef h1 h2 hor c2 h3
  go_enter Tryz.func64, Tryz.ntmps64
  go_wp2_with fail
  refine bodyPost_ret (v := .agg #[.int .i64 k, .int .i64 n, .slice sx ks.length cx]) (by simp [results, Tryz.results64, go_sem]) rfl ?_
  rw [E1.out]
  exact ⟨_, _, rfl, hx.below (by (repeat' first | exact Below.refl _ _ | assumption | apply Below.alloc | apply Below.drew | apply Below.setCell | omega | (simp; done) | (simp; omega))), by (repeat' first | exact Below.refl _ _ | assumption | apply Below.alloc | apply Below.drew | apply Below.setCell | omega | (simp; done) | (simp; omega))⟩
 have c4 : (k' == 2) = false := by simp [h4]
 by_cases h7 : k = 7
 rotate_left
 ·
  have E1 : Hid ((Ex.mk k n ks).dot (.mk k' n' ks') = .two 7 (.mk k n ks) (.mk k' n' ks')) := by show _ = _; rw [edef, dotC, if_neg hor, if_neg h3, if_neg (show ¬ (Ex.mk k' n' ks').kind = 2 from h4), if_neg h7]
  have c5 : (k == 7) = false := by simp [h7]
  clear edef h1 h2 h3 h4 h7 hor
  go_enter Tryz.func64, Tryz.ntmps64
  go_wp2_with fail
  have L := ((Blk.new3 w 34 (.int .i64 k) (.int .i64 n) (.slice sx ks.length cx)).alloc (.cells #[.int .i64 k', .int .i64 n', .slice sy ks'.length cy] 34)).alloc (.cells #[.int .i64 0, .int .i64 0, .slice none 0 0] 34)
  have M := (Blk.new3 (w.alloc (.cells #[.int .i64 k, .int .i64 n, .slice sx ks.length cx] 34)) 34 (.int .i64 k') (.int .i64 n') (.slice sy ks'.length cy)).alloc (.cells #[.int .i64 0, .int .i64 0, .slice none 0 0] 34)
  have R := Blk.new3 ((w.alloc (.cells #[.int .i64 k, .int .i64 n, .slice sx ks.length cx] 34)).alloc (.cells #[.int .i64 k', .int .i64 n', .slice sy ks'.length cy] 34)) 34 (.int .i64 0) (.int .i64 0) (.slice none 0 0)
  have hB : Below w.heap.size w (((w.alloc (.cells #[.int .i64 k, .int .i64 n, .slice sx ks.length cx] 34)).alloc (.cells #[.int .i64 k', .int .i64 n', .slice sy ks'.length cy] 34)).alloc (.cells #[.int .i64 0, .int .i64 0, .slice none 0 0] 34)) := by (repeat' first | exact Below.refl _ _ | assumption | apply Below.alloc | apply Below.drew | apply Below.setCell | omega | (simp; done) | (simp; omega))
  have hz0 : (((w.alloc (.cells #[.int .i64 k, .int .i64 n, .slice sx ks.length cx] 34)).alloc (.cells #[.int .i64 k', .int .i64 n', .slice sy ks'.length cy] 34)).alloc (.cells #[.int .i64 0, .int .i64 0, .slice none 0 0] 34)).heap.size = w.heap.size + 3 := by simp
  simp at M R
  generalize ((w.alloc (.cells #[.int .i64 k, .int .i64 n, .slice sx ks.length cx] 34)).alloc (.cells #[.int .i64 k', .int .i64 n', .slice sy ks'.length cy] 34)).alloc (.cells #[.int .i64 0, .int .i64 0, .slice none 0 0] 34) = wb at L M R hB hz0 ⊢
  have hx1 : ExX (XB X w.heap.size 3) wb (.mk k n ks) sx cx := hx.boxes hB
  have hy1 : ExX (XB X w.heap.size 3) wb (.mk k' n' ks') sy cy := hy.boxes hB
  have hB' := hB
  have hGl : ∀ b, XB X w.heap.size 3 b → b < wb.heap.size := fun b q => q.elim (fun q => by have := hX _ q; omega) (fun q => by omega)
  clear hx hy
  have N1 : Blk _ wb.heap.size 34 [.int .i64 k, .int .i64 n, .slice sx ks.length cx, .int .i64 k', .int .i64 n', .slice sy ks'.length cy] := Blk.made wb 34 #[.int .i64 k, .int .i64 n, .slice sx ks.length cx, .int .i64 k', .int .i64 n', .slice sy ks'.length cy]
  have hb1 : Below wb.heap.size wb (wb.alloc (.cells #[.int .i64 k, .int .i64 n, .slice sx ks.length cx, .int .i64 k', .int .i64 n', .slice sy ks'.length cy] 34)) := by (repeat' first | exact Below.refl _ _ | assumption | apply Below.alloc | apply Below.drew | apply Below.setCell | omega | (simp; done) | (simp; omega))
  generalize wb.alloc (.cells #[.int .i64 k, .int .i64 n, .slice sx ks.length cx, .int .i64 k', .int .i64 n', .slice sy ks'.length cy] 34) = w3 at N1 hb1 ⊢
  refine (tree_i).mono ?_
  rintro f w4 ⟨rfl, hb⟩
  replace N1 := N1.below hb
  have hb4 := hb1.trans (hb.mono hb1.size)
  replace hB := Below.on hB hb4 hB.size
  replace R := R.below hb4
  replace hx1 := hx1.below hb4
  replace hy1 := hy1.below hb4
  rw [show wb.heap.size = w.heap.size + 1 + 1 + 1 from hz0] at N1
  have hk := kidsD_two (x := .mk k n ks) (y := .mk k' n' ks') N1 (X := XB X w.heap.size 3) (fun q => by have := hGl _ q; omega) hx1 hy1
  clear hb hb1 hb4
  -- the result box w.heap.size + 1 + 1 of world w4 is set to an expression; goal: bodyPost. R : the box; Rests: hs5 : Spares, T2
  have r0 := R.c0
  have r1 := R.c1
  have r2 := R.c2
  have z0 := R.frozen 0
  have z1 := R.frozen 1
  have z2 := R.frozen 2
  have ltR := R.lt
  go_wp2_with fail
  have T2 := ((R.set 0 (.int .i64 7)).set 1 (.int .i64 0)).set 2 (.slice (some ⟨w.heap.size + 1 + 1 + 1, 0, none⟩) 2 2)
  have hs5 : Spares (fun y => y = w.heap.size + 1 + 1) w4 (((w4.setCell ⟨w.heap.size + 1 + 1, 0, none⟩ (.int .i64 7)).setCell ⟨w.heap.size + 1 + 1, 1, none⟩ (.int .i64 0)).setCell ⟨w.heap.size + 1 + 1, 2, none⟩ (.slice (some ⟨w.heap.size + 1 + 1 + 1, 0, none⟩) 2 2)) := Spares.set (Spares.set (Spares.set (Spares.refl w4)))
  generalize (((w4.setCell ⟨w.heap.size + 1 + 1, 0, none⟩ (.int .i64 7)).setCell ⟨w.heap.size + 1 + 1, 1, none⟩ (.int .i64 0)).setCell ⟨w.heap.size + 1 + 1, 2, none⟩ (.slice (some ⟨w.heap.size + 1 + 1 + 1, 0, none⟩) 2 2)) = w5 at T2 hs5 ⊢
  have t0 := T2.c0
  have t1 := T2.c1
  have t2 := T2.c2
  have hzB5 := hB.size
  have hB5 := hB.trans (hs5.below (B := w.heap.size) (by omega) (fun y hy => by omega))
  refine bodyPost_ret (v := .agg #[.int .i64 7, .int .i64 0, .slice (some ⟨w.heap.size + 1 + 1 + 1, 0, none⟩) 2 2]) (by simp [results, Tryz.results64, go_sem, t0, t1, t2]) rfl ?_
  rw [E1.out]
  exact ⟨_, _, rfl, ExX.unbox (e := .two 7 (.mk k n ks) (.mk k' n' ks')) (hk.keep (KeptX.of_spares hs5 (fun q _ hq => Or.inr (by omega)))), hB5⟩
 subst h7
 obtain ⟨hk, -, -, htl⟩ := tree_parts ht
 obtain ⟨u, v, rfl⟩ := two_kids hk (by omega)
 have hsz := Ex.size_eq (.mk 7 n [u, v])
 simp only [Ex.sizeL, Ex.kids] at hsz
 have E1 : Hid ((Ex.mk 7 n [u, v]).dot (.mk k' n' ks') = u.dot (v.dot (.mk k' n' ks'))) := by
  show _ = _
  exact Ex.dot_seven h2 h4
 have hut : u.tree tm am = true := Ex.treeL_mem htl (by simp)
 have hvt : v.tree tm am = true := Ex.treeL_mem htl (by simp)
 obtain ⟨kb, ko, su, cu, rfl, -, -, -, -, -, -, -⟩ := kidX0 hx
 simp only [List.length_cons, List.length_nil, Nat.zero_add] at hlen ⊢
 clear edef h1 h2 h3 h4 c1 c3 htl hk hor
 go_enter Tryz.func64, Tryz.ntmps64
 go_wp2_with fail
 have L := ((Blk.new3 w 34 (.int .i64 7) (.int .i64 n) (.slice (some ⟨kb, ko, none⟩) 2 cx)).alloc (.cells #[.int .i64 k', .int .i64 n', .slice sy ks'.length cy] 34)).alloc (.cells #[.int .i64 0, .int .i64 0, .slice none 0 0] 34)
 have M := (Blk.new3 (w.alloc (.cells #[.int .i64 7, .int .i64 n, .slice (some ⟨kb, ko, none⟩) 2 cx] 34)) 34 (.int .i64 k') (.int .i64 n') (.slice sy ks'.length cy)).alloc (.cells #[.int .i64 0, .int .i64 0, .slice none 0 0] 34)
 have R := Blk.new3 ((w.alloc (.cells #[.int .i64 7, .int .i64 n, .slice (some ⟨kb, ko, none⟩) 2 cx] 34)).alloc (.cells #[.int .i64 k', .int .i64 n', .slice sy ks'.length cy] 34)) 34 (.int .i64 0) (.int .i64 0) (.slice none 0 0)
 have hB : Below w.heap.size w (((w.alloc (.cells #[.int .i64 7, .int .i64 n, .slice (some ⟨kb, ko, none⟩) 2 cx] 34)).alloc (.cells #[.int .i64 k', .int .i64 n', .slice sy ks'.length cy] 34)).alloc (.cells #[.int .i64 0, .int .i64 0, .slice none 0 0] 34)) := by (repeat' first | exact Below.refl _ _ | assumption | apply Below.alloc | apply Below.drew | apply Below.setCell | omega | (simp; done) | (simp; omega))
 have hz0 : (((w.alloc (.cells #[.int .i64 7, .int .i64 n, .slice (some ⟨kb, ko, none⟩) 2 cx] 34)).alloc (.cells #[.int .i64 k', .int .i64 n', .slice sy ks'.length cy] 34)).alloc (.cells #[.int .i64 0, .int .i64 0, .slice none 0 0] 34)).heap.size = w.heap.size + 3 := by simp
 simp at M R
 generalize ((w.alloc (.cells #[.int .i64 7, .int .i64 n, .slice (some ⟨kb, ko, none⟩) 2 cx] 34)).alloc (.cells #[.int .i64 k', .int .i64 n', .slice sy ks'.length cy] 34)).alloc (.cells #[.int .i64 0, .int .i64 0, .slice none 0 0] 34) = wb at L M R hB hz0 ⊢
 have hx1 : ExX (XB X w.heap.size 3) wb (.mk 7 n [u, v]) (some ⟨kb, ko, none⟩) cx := hx.boxes hB
 have hy1 : ExX (XB X w.heap.size 3) wb (.mk k' n' ks') sy cy := hy.boxes hB
 have hB' := hB
 have hGl : ∀ b, XB X w.heap.size 3 b → b < wb.heap.size := fun b q => q.elim (fun q => by have := hX _ q; omega) (fun q => by omega)
 clear hx hy
 obtain ⟨kb', ko', su, cu, e1, -, -, -, hkb, hkX, ku, hu⟩ := kidX0 (r := [v]) hx1
 simp only [Option.some.injEq, Addr.mk.injEq, and_true] at e1
 obtain ⟨rfl, rfl⟩ := e1
 obtain ⟨sv, cv, kv, hv⟩ := kidX1 (r := []) hx1
 clear hx1
 have hXW := hGl
 have Hku := Lib.hid ku
 have Hkv := Lib.hid kv
 clear ku kv
 obtain ⟨x0, hx0⟩ := mkval ?a1_0
 obtain ⟨x1, hx1⟩ := mkval ?a1_1
 obtain ⟨x2, hx2⟩ := mkval ?a1_2
 obtain ⟨x3, hx3⟩ := mkval ?a1_3
 obtain ⟨x4, hx4⟩ := mkval ?a1_4
 obtain ⟨x5, hx5⟩ := mkval ?a1_5
 obtain ⟨x6, hx6⟩ := mkval ?a1_6
 obtain ⟨x7, hx7⟩ := mkval ?a1_7
 obtain ⟨x8, hx8⟩ := mkval ?a1_8
 have hGb : ∀ m b, (fun m b => (m = 0 ∧ b = (w.heap.size + 1 + 1))) m b → (w.heap.size) ≤ b ∧ b < (wb).heap.size := by
  intro m b hg
  rcases hg with ⟨rfl, hg⟩
  ·
   subst hg
   have q := R.lt
   omega
 have hGd : ∀ m m' b, (fun m b => (m = 0 ∧ b = (w.heap.size + 1 + 1))) m b → (fun m b => (m = 0 ∧ b = (w.heap.size + 1 + 1))) m' b → m = m' := by
  intro m m' b h h'
  rcases h with ⟨rfl, h⟩ <;> rcases h' with ⟨rfl, h'⟩ <;> first
   | rfl
 have hGX : ∀ m b, (fun m b => (m = 0 ∧ b = (w.heap.size + 1 + 1))) m b → (XB X w.heap.size 3) b := by
  intro m b hg
  exact Or.inr (by omega)
 refine region_rs [(10, 9)] [(11, 0)] (fun m b => (m = 0 ∧ b = (w.heap.size + 1 + 1))) (w.heap.size) (fun i iv vs wx => match i with
  | 0 => vs 0 = x0
  | 1 => vs 1 = x1
  | 2 => vs 2 = x2
  | 3 => vs 3 = x3
  | 4 => vs 4 = x4
  | 5 => vs 5 = x5
  | 6 => vs 6 = x6
  | 7 => vs 7 = x7
  | 8 => vs 8 = x8
  | 9 => ∃ s1 c1', vs 9 = .agg #[.int .i64 (v.dot (.mk k' n' ks')).kind, .int .i64 (v.dot (.mk k' n' ks')).num, .slice s1 (v.dot (.mk k' n' ks')).kids.length c1'] ∧ RdO wb (XB X w.heap.size 3) (foot [(10, 9)] [(11, 0)] (fun m b => (m = 0 ∧ b = (w.heap.size + 1 + 1))) 12 9 iv) wx (kidsD (v.dot (.mk k' n' ks')).kids) (.slice s1 (v.dot (.mk k' n' ks')).kids.length c1')
  | 10 => ∃ s2 c2', vs 10 = .agg #[.int .i64 (u.dot (v.dot (.mk k' n' ks'))).kind, .int .i64 (u.dot (v.dot (.mk k' n' ks'))).num, .slice s2 (u.dot (v.dot (.mk k' n' ks'))).kids.length c2'] ∧ RdO wb (XB X w.heap.size 3) (foot [(10, 9)] [(11, 0)] (fun m b => (m = 0 ∧ b = (w.heap.size + 1 + 1))) 12 10 iv) wx (kidsD (u.dot (v.dot (.mk k' n' ks'))).kids) (.slice s2 (u.dot (v.dot (.mk k' n' ks'))).kids.length c2')
  | 11 => Blk wx (w.heap.size + 1 + 1) 34 [aggAt (vs 10) 0, aggAt (vs 10) 1, aggAt (vs 10) 2]
  | _ => True) (fun i iv vs => match i with
  | 0 => vs 0 = x0
  | 1 => vs 1 = x1
  | 2 => vs 2 = x2
  | 3 => vs 3 = x3
  | 4 => vs 4 = x4
  | 5 => vs 5 = x5
  | 6 => vs 6 = x6
  | 7 => vs 7 = x7
  | 8 => vs 8 = x8
  | 9 => ∃ s1 c1', vs 9 = .agg #[.int .i64 (v.dot (.mk k' n' ks')).kind, .int .i64 (v.dot (.mk k' n' ks')).num, .slice s1 (v.dot (.mk k' n' ks')).kids.length c1']
  | 10 => ∃ s2 c2', vs 10 = .agg #[.int .i64 (u.dot (v.dot (.mk k' n' ks'))).kind, .int .i64 (u.dot (v.dot (.mk k' n' ks'))).num, .slice s2 (u.dot (v.dot (.mk k' n' ks'))).kids.length c2']
  | 11 => True
  | _ => True) (by kernel_rfl) (by kernel_rfl) [0, 1, 2, 3, 4, 5, 6, 7, 8, 9, 10, 11] (by kernel_rfl) ?hbase ?hGb ?hG ?hJ ?hE ?hEE ?hstep ?hQ
 case hbase => first | exact Nat.le_refl _ | omega | (simp; omega)
 case hGb =>
  exact hGb
 case hG =>
  exact hGd
 case hJ =>
  intro i hi iv iv' vs vs' wx wx' ha hv hz hk hj
  simp only [List.mem_cons, List.not_mem_nil, or_false] at hi
  rcases hi with rfl | rfl | rfl | rfl | rfl | rfl | rfl | rfl | rfl | rfl | rfl | rfl
  ·
   exact (hv.out 0 (mem_of (by kernel_rfl))).symm.trans hj
  ·
   exact (hv.out 1 (mem_of (by kernel_rfl))).symm.trans hj
  ·
   exact (hv.out 2 (mem_of (by kernel_rfl))).symm.trans hj
  ·
   exact (hv.out 3 (mem_of (by kernel_rfl))).symm.trans hj
  ·
   exact (hv.out 4 (mem_of (by kernel_rfl))).symm.trans hj
  ·
   exact (hv.out 5 (mem_of (by kernel_rfl))).symm.trans hj
  ·
   exact (hv.out 6 (mem_of (by kernel_rfl))).symm.trans hj
  ·
   exact (hv.out 7 (mem_of (by kernel_rfl))).symm.trans hj
  ·
   exact (hv.out 8 (mem_of (by kernel_rfl))).symm.trans hj
  ·
   have e9 := hv.out 9 (mem_of (by kernel_rfl))
   obtain ⟨s1, c1', q1, q2⟩ := hj
   exact ⟨s1, c1', e9 ▸ q1, q2.keep hz (fun b hb h1 => hk.out b hb h1) (fun b h1 => foot_agree (l := ancs _ 12 9) (by exact of_decide_eq_true (by kernel_rfl)) ha.out h1)⟩
  ·
   have e10 := hv.out 10 (mem_of (by kernel_rfl))
   obtain ⟨s2, c2', q1, q2⟩ := hj
   exact ⟨s2, c2', e10 ▸ q1, q2.keep hz (fun b hb h1 => hk.out b hb h1) (fun b h1 => foot_agree (l := ancs _ 12 10) (by exact of_decide_eq_true (by kernel_rfl)) ha.out h1)⟩
  ·
   have e10 := hv.out 10 (mem_of (by kernel_rfl))
   have hj' : Blk wx (w.heap.size + 1 + 1) 34 [aggAt (vs 10) 0, aggAt (vs 10) 1, aggAt (vs 10) 2] := hj
   show Blk wx' (w.heap.size + 1 + 1) 34 [aggAt (vs' 10) 0, aggAt (vs' 10) 1, aggAt (vs' 10) 2]
   rw [← e10]
   exact hj'.keep (hk.out _ hj'.lt (foot_given 0 (by decide) ⟨rfl, rfl⟩))
 case hE =>
  intro i hi iv vs wx hj
  simp only [List.mem_cons, List.not_mem_nil, or_false] at hi
  rcases hi with rfl | rfl | rfl | rfl | rfl | rfl | rfl | rfl | rfl | rfl | rfl | rfl
  ·
   exact hj
  ·
   exact hj
  ·
   exact hj
  ·
   exact hj
  ·
   exact hj
  ·
   exact hj
  ·
   exact hj
  ·
   exact hj
  ·
   exact hj
  ·
   obtain ⟨s1, c1', q1, -⟩ := hj
   exact ⟨s1, c1', q1⟩
  ·
   obtain ⟨s2, c2', q1, -⟩ := hj
   exact ⟨s2, c2', q1⟩
  ·
   trivial
 case hEE =>
  intro i hi iv iv' vs vs' ha hv hj
  simp only [List.mem_cons, List.not_mem_nil, or_false] at hi
  rcases hi with rfl | rfl | rfl | rfl | rfl | rfl | rfl | rfl | rfl | rfl | rfl | rfl
  ·
   exact (hv.out 0 (mem_of (by kernel_rfl))).symm.trans hj
  ·
   exact (hv.out 1 (mem_of (by kernel_rfl))).symm.trans hj
  ·
   exact (hv.out 2 (mem_of (by kernel_rfl))).symm.trans hj
  ·
   exact (hv.out 3 (mem_of (by kernel_rfl))).symm.trans hj
  ·
   exact (hv.out 4 (mem_of (by kernel_rfl))).symm.trans hj
  ·
   exact (hv.out 5 (mem_of (by kernel_rfl))).symm.trans hj
  ·
   exact (hv.out 6 (mem_of (by kernel_rfl))).symm.trans hj
  ·
   exact (hv.out 7 (mem_of (by kernel_rfl))).symm.trans hj
  ·
   exact (hv.out 8 (mem_of (by kernel_rfl))).symm.trans hj
  ·
   have e9 := hv.out 9 (mem_of (by kernel_rfl))
   have hj' : ∃ s1 c1', vs 9 = .agg #[.int .i64 (v.dot (.mk k' n' ks')).kind, .int .i64 (v.dot (.mk k' n' ks')).num, .slice s1 (v.dot (.mk k' n' ks')).kids.length c1'] := hj
   show ∃ s1 c1', vs' 9 = .agg #[.int .i64 (v.dot (.mk k' n' ks')).kind, .int .i64 (v.dot (.mk k' n' ks')).num, .slice s1 (v.dot (.mk k' n' ks')).kids.length c1']
   rw [← e9]
   exact hj'
  ·
   have e10 := hv.out 10 (mem_of (by kernel_rfl))
   have hj' : ∃ s2 c2', vs 10 = .agg #[.int .i64 (u.dot (v.dot (.mk k' n' ks'))).kind, .int .i64 (u.dot (v.dot (.mk k' n' ks'))).num, .slice s2 (u.dot (v.dot (.mk k' n' ks'))).kids.length c2'] := hj
   show ∃ s2 c2', vs' 10 = .agg #[.int .i64 (u.dot (v.dot (.mk k' n' ks'))).kind, .int .i64 (u.dot (v.dot (.mk k' n' ks'))).num, .slice s2 (u.dot (v.dot (.mk k' n' ks'))).kids.length c2']
   rw [← e10]
   exact hj'
  ·
   trivial
 case hstep =>
  intro i hi opr ho iv vs w1 hB hS hSo hd he hbd hsep hun K hK
  simp only [List.mem_cons, List.not_mem_nil, or_false] at hi
  have hzB := hB.size
  have HGb := Lib.hid hGb
  clear hGb hGd
  have kw := hSo.out.block _ hkb (fun ⟨_, _, h⟩ => hkX (Or.inr (by omega)))
  obtain ⟨u0, u1, u2⟩ := Hku.out.keep kw
  obtain ⟨v0, v1, v2⟩ := Hkv.out.keep kw
  have L1 := L.keep (hSo.out.block _ L.lt (fun ⟨_, _, h⟩ => by omega))
  have l0 := L1.c0
  have l1 := L1.c1
  have l2 := L1.c2
  have M1 := M.keep (hSo.out.block _ M.lt (fun ⟨_, _, h⟩ => by omega))
  have m0 := M1.c0
  have m1 := M1.c1
  have m2 := M1.c2
  generalize hA : putFrom _ 0 vs _ = A at hK ⊢
  simp only [putFrom, puts] at hA
  rcases hi with rfl | rfl | rfl | rfl | rfl | rfl | rfl | rfl | rfl | rfl | rfl | rfl
  all_goals
   simp at ho
   subst ho
   subst hA
  ·
   go_wp2_with fail
   refine Onward.mk (hK ?val1_0 _ _ (fun h => by cases h) ?eqA (Spares.refl _) (fun iv' _ _ => ?ja))
   case eqA => first | rfl | (simp only [puts]; rfl)
   case ja => exact hx0.out.symm
  ·
   have h0 := (hd.out 0 (mem_of (by kernel_rfl)) (by decide) (by kernel_rfl)).trans hx0.out
   go_wp2_with fail
   refine Onward.mk (hK ?val1_1 _ _ (fun h => by cases h) ?eqA (Spares.refl _) (fun iv' _ _ => ?ja))
   case eqA => first | rfl | (simp only [puts, h0]; rfl)
   case ja => exact hx1.out.symm
  ·
   have h1 := (hd.out 1 (mem_of (by kernel_rfl)) (by decide) (by kernel_rfl)).trans hx1.out
   go_wp2_with fail
   refine Onward.mk (hK ?val1_2 _ _ (fun h => by cases h) ?eqA (Spares.refl _) (fun iv' _ _ => ?ja))
   case eqA => first | rfl | (simp only [puts, h1]; rfl)
   case ja => exact hx2.out.symm
  ·
   have h2 := (hd.out 2 (mem_of (by kernel_rfl)) (by decide) (by kernel_rfl)).trans hx2.out
   go_wp2_with fail
   refine Onward.mk (hK ?val1_3 _ _ (fun h => by cases h) ?eqA (Spares.refl _) (fun iv' _ _ => ?ja))
   case eqA => first | rfl | (simp only [puts, h2]; rfl)
   case ja => exact hx3.out.symm
  ·
   go_wp2_with fail
   refine Onward.mk (hK ?val1_4 _ _ (fun h => by cases h) ?eqA (Spares.refl _) (fun iv' _ _ => ?ja))
   case eqA => first | rfl | (simp only [puts]; rfl)
   case ja => exact hx4.out.symm
  ·
   have h4 := (hd.out 4 (mem_of (by kernel_rfl)) (by decide) (by kernel_rfl)).trans hx4.out
   go_wp2_with fail
   refine Onward.mk (hK ?val1_5 _ _ (fun h => by cases h) ?eqA (Spares.refl _) (fun iv' _ _ => ?ja))
   case eqA => first | rfl | (simp only [puts, h4]; rfl)
   case ja => exact hx5.out.symm
  ·
   have h5 := (hd.out 5 (mem_of (by kernel_rfl)) (by decide) (by kernel_rfl)).trans hx5.out
   go_wp2_with fail
   refine Onward.mk (hK ?val1_6 _ _ (fun h => by cases h) ?eqA (Spares.refl _) (fun iv' _ _ => ?ja))
   case eqA => first | rfl | (simp only [puts, h5]; rfl)
   case ja => exact hx6.out.symm
  ·
   have h6 := (hd.out 6 (mem_of (by kernel_rfl)) (by decide) (by kernel_rfl)).trans hx6.out
   go_wp2_with fail
   refine Onward.mk (hK ?val1_7 _ _ (fun h => by cases h) ?eqA (Spares.refl _) (fun iv' _ _ => ?ja))
   case eqA => first | rfl | (simp only [puts, h6]; rfl)
   case ja => exact hx7.out.symm
  ·
   go_wp2_with fail
   refine Onward.mk (hK ?val1_8 _ _ (fun h => by cases h) ?eqA (Spares.refl _) (fun iv' _ _ => ?ja))
   case eqA => first | rfl | (simp only [puts]; rfl)
   case ja => exact hx8.out.symm
  ·
   have h7 := (hd.out 7 (mem_of (by kernel_rfl)) (by decide) (by kernel_rfl)).trans hx7.out
   have h8 := (hd.out 8 (mem_of (by kernel_rfl)) (by decide) (by kernel_rfl)).trans hx8.out
   go_wp2_with fail
   have hO : KeptX (XB X w.heap.size 3) wb w1 := KeptX.of_spares hSo.out (fun b _ ⟨m, hg⟩ => hGX m b hg)
   obtain ⟨XQ, hXQ⟩ : ∃ XQ, XQ = OutX wb (XB X w.heap.size 3) (fun b => False) w1 := ⟨_, rfl⟩
   have hXl : ∀ b, XQ b → b < w1.heap.size := by rw [hXQ]; exact OutX.lt
   have hOld : ∀ (d : D) (v : Value), RdX (XB X w.heap.size 3) wb d v → RdX XQ w1 d v := by rw [hXQ]; exact fun d v h => h.toOut hO
   refine (HIH.out v.size (by omega) v (.mk k' n' ks') XQ _ _ _ _ _ (Nat.le_refl _) hXl (hOld _ _ hv) (hOld _ _ hy1) hvt).mono ?_
   rintro e w2 ⟨s1, c1', rfl, hr, hb⟩
   go_wp2_with fail
   rw [hXQ] at hr
   exact Onward.mk (hK (.agg #[.int .i64 (v.dot (.mk k' n' ks')).kind, .int .i64 (v.dot (.mk k' n' ks')).num, .slice s1 (v.dot (.mk k' n' ks')).kids.length c1']) _ _ (fun h => by cases h) (by first | rfl | (simp only [puts, h7, h8])) (Spares.of_below hb) (fun iv' ag hi => ⟨s1, c1', rfl, RdO.ofX hr hb hO (fun b h => by exact h.elim) (fun b h1 h2 => foot_new hi h1 h2)⟩))
  ·
   have h3 := (hd.out 3 (mem_of (by kernel_rfl)) (by decide) (by kernel_rfl)).trans hx3.out
   obtain ⟨s1, c1', h9, f9⟩ := hd.out 9 (mem_of (by kernel_rfl)) (by decide) (by kernel_rfl)
   go_wp2_with fail
   have hO : KeptX (XB X w.heap.size 3) wb w1 := KeptX.of_spares hSo.out (fun b _ ⟨m, hg⟩ => hGX m b hg)
   obtain ⟨XQ, hXQ⟩ : ∃ XQ, XQ = OutX wb (XB X w.heap.size 3) (fun b => (foot [(10, 9)] [(11, 0)] (fun m b => (m = 0 ∧ b = (w.heap.size + 1 + 1))) 12 9 iv) b) w1 := ⟨_, rfl⟩
   have hXl : ∀ b, XQ b → b < w1.heap.size := by rw [hXQ]; exact OutX.lt
   have x9 : RdX XQ w1 (kidsD (v.dot (.mk k' n' ks')).kids) (.slice s1 (v.dot (.mk k' n' ks')).kids.length c1') := by rw [hXQ]; exact f9.toX hO (fun b h => h)
   have hOld : ∀ (d : D) (v : Value), RdX (XB X w.heap.size 3) wb d v → RdX XQ w1 d v := by rw [hXQ]; exact fun d v h => h.toOut hO
   refine (HIH.out u.size (by omega) u (v.dot (.mk k' n' ks')) XQ _ _ _ _ _ (Nat.le_refl _) hXl (hOld _ _ hu) x9 hut).mono ?_
   rintro e w2 ⟨s2, c2', rfl, hr, hb⟩
   go_wp2_with fail
   rw [hXQ] at hr
   exact Onward.mk (hK (.agg #[.int .i64 (u.dot (v.dot (.mk k' n' ks'))).kind, .int .i64 (u.dot (v.dot (.mk k' n' ks'))).num, .slice s2 (u.dot (v.dot (.mk k' n' ks'))).kids.length c2']) _ _ (fun h => by cases h) (by first | rfl | (simp only [puts, h3, h9])) (Spares.of_below hb) (fun iv' ag hi => ⟨s2, c2', rfl, RdO.ofX hr hb hO (fun b h => by exact foot_step (by kernel_rfl) ag h) (fun b h1 h2 => foot_new hi h1 h2)⟩))
  ·
   obtain ⟨s2, c2', h10, f10⟩ := hd.out 10 (mem_of (by kernel_rfl)) (by decide) (by kernel_rfl)
   have R1 := R.keep (hS.out 0 _ (by kernel_rfl) ⟨rfl, rfl⟩)
   have rc0 := R1.c0
   have rz0 := R1.frozen 0
   have rc1 := R1.c1
   have rz1 := R1.frozen 1
   have rc2 := R1.c2
   have rz2 := R1.frozen 2
   have rlt := R1.lt
   go_wp2_with fail
   exact Onward.mk (hK undef _ _ (fun _ => rfl) (by simp only [puts, h10]) ((spares_sets (b0 := (w.heap.size + 1 + 1)) (by repeat (first | exact Spares.refl _ | apply Spares.set))).more (fun b h => Or.inl ⟨0, by decide, ⟨rfl, h⟩⟩)) (fun iv' ag hi => by
    show Blk _ (w.heap.size + 1 + 1) 34 [aggAt (vs 10) 0, aggAt (vs 10) 1, aggAt (vs 10) 2]
    rw [h10]
    exact (((R1.set 0 _).set 1 _).set 2 _)))
 case hQ =>
  intro iv vs wx hB hSp hd he hbd hsep
  have hzB := hB.size
  have h0 := (hd.out 0 (mem_of (by kernel_rfl)) (not_eaten (by kernel_rfl))).trans hx0.out
  have h1 := (hd.out 1 (mem_of (by kernel_rfl)) (not_eaten (by kernel_rfl))).trans hx1.out
  have h2 := (hd.out 2 (mem_of (by kernel_rfl)) (not_eaten (by kernel_rfl))).trans hx2.out
  have h3 := (hd.out 3 (mem_of (by kernel_rfl)) (not_eaten (by kernel_rfl))).trans hx3.out
  have h4 := (hd.out 4 (mem_of (by kernel_rfl)) (not_eaten (by kernel_rfl))).trans hx4.out
  have h5 := (hd.out 5 (mem_of (by kernel_rfl)) (not_eaten (by kernel_rfl))).trans hx5.out
  have h6 := (hd.out 6 (mem_of (by kernel_rfl)) (not_eaten (by kernel_rfl))).trans hx6.out
  have h7 := (hd.out 7 (mem_of (by kernel_rfl)) (not_eaten (by kernel_rfl))).trans hx7.out
  have h8 := (hd.out 8 (mem_of (by kernel_rfl)) (not_eaten (by kernel_rfl))).trans hx8.out
  obtain ⟨s1, c1', h9⟩ := he.out 9 (mem_of (by kernel_rfl))
  obtain ⟨s2, c2', h10, f10⟩ := hd.out 10 (mem_of (by kernel_rfl)) (not_eaten (by kernel_rfl))
  have f11 : Blk _ (w.heap.size + 1 + 1) 34 [aggAt (vs 10) 0, aggAt (vs 10) 1, aggAt (vs 10) 2] := hd.out 11 (mem_of (by kernel_rfl)) (not_eaten (by kernel_rfl))
  simp only [putFrom, puts]
  have hOq : KeptX (XB X w.heap.size 3) wb wx := KeptX.of_spares hSp.out (fun b _ ⟨m, hg⟩ => hGX m b hg)
  have r10 : RdX (XB X w.heap.size 3) wx (kidsD (u.dot (v.dot (.mk k' n' ks'))).kids) (.slice s2 (u.dot (v.dot (.mk k' n' ks'))).kids.length c2') := f10.done hOq (fun b hf hx => by have q := foot_no (l := [0, 1, 2, 3, 4, 5, 6, 7, 8, 9, 10, 11]) (by kernel_rfl) (by kernel_rfl) hbd.out hf; have q' := hXW b hx; omega)
  clear f10
  rw [h10] at f11
  simp only [aggAt] at f11
  have T2 := f11
  have t0 := T2.c0
  have t1 := T2.c1
  have t2 := T2.c2
  go_wp2_with fail
  refine bodyPost_ret (v := .agg #[.int .i64 (u.dot (v.dot (.mk k' n' ks'))).kind, .int .i64 (u.dot (v.dot (.mk k' n' ks'))).num, .slice s2 (u.dot (v.dot (.mk k' n' ks'))).kids.length c2']) (by simp [results, Tryz.results64, go_sem, t0, t1, t2]) rfl ?_
  rw [E1.out]
  exact ⟨_, _, rfl, ExX.unbox (p := w.heap.size) (n := 3) r10, hB'.trans (hB.mono (by omega))⟩
end Go.Proofs.YtcokljhamhgelaaGreatDoor
