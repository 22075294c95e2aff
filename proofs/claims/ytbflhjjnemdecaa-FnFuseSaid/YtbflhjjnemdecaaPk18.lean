/-
  Parts of a proof, joined: DrawE, Drawn, Lw, Small. No condition.
-/
import Derived.Test.YtbflhjjnemdecaaPk17
namespace Go.Proofs.Ytbflhjjnemdecaa
set_option linter.unusedVariables false
set_option linter.unusedSimpArgs false
open Go.ChangeShapes Go.WideShapes Go.ChangeAt Go.RowKit Go.Deep Go.Sort
theorem DrewG.left {B b r N : Nat} {t a left : Int} {w w1 : World} (h : DrewG B b r N t a left w w1) (l : Int) : ∃ w2, w1.setCell ⟨r, 3, none⟩ (.int .i64 l) = w2 ∧ DrewG B b r N t a l w w2 ∧ Spares (fun i => i = r) w1 w2 := by
 have hs : Spares (fun i => i = r) w1 (w1.setCell ⟨r, 3, none⟩ (.int .i64 l)) := Spares.set (Spares.refl _)
 refine ⟨_, rfl, ⟨⟨h.1.1.set 3 _, h.1.2.1.keep (hs.below (B := B) (by have := h.1.2.1.lt; have := h.1.2.1.1; omega) (fun i hi => by have := h.1.2.2.2; omega)) (hs.block _ h.1.2.1.lt (fun e => h.1.2.2.1 e.symm)), h.1.2.2⟩, ?_⟩, hs⟩
 exact h.2.trans (hs.more fun i hi => Or.inr hi)
theorem kid_end {W we : World} {g : Nat} {k : Int} {e : Ex} {s : Option Addr} {c : Nat} {x y z : Value} (R : Blk we g 38 [x, y, z]) (hg : g < W.heap.size) (hz : W.heap.size ≤ we.heap.size) (hf : Freshs W we [kidsD e.kids] [.slice s e.kids.length c]) :
  ∃ w9, (((we.setCell ⟨g, 0, none⟩ (.int .i64 k)).setCell ⟨g, 1, none⟩ (.int .i64 0)).setCell ⟨g, 2, none⟩ (.slice (some ⟨we.heap.size, 0, none⟩) 1 1)).alloc (.cells #[.int .i64 e.kind, .int .i64 e.num, .slice s e.kids.length c] 38) = w9 ∧
   Blk w9 g 38 [.int .i64 k, .int .i64 0, .slice (some ⟨we.heap.size, 0, none⟩) 1 1] ∧ Freshs W w9 [kidsD [e]] [.slice (some ⟨we.heap.size, 0, none⟩) 1 1] ∧ Spares (fun i => i = g) we w9 := by
 obtain ⟨w5, e5, T5, hs5⟩ := set3' R (.int .i64 k) (.int .i64 0) (.slice (some ⟨we.heap.size, 0, none⟩) 1 1)
 have hz5 : w5.heap.size = we.heap.size := by rw [← e5]; simp [World.setCell]
 rw [e5]
 have N := Blk.new3 w5 38 (.int .i64 e.kind) (.int .i64 e.num) (.slice s e.kids.length c)
 have hf5 := Freshs.keep hf (fun y hy1 hy2 => hs5.block y hy2 (by omega))
 have hb6 : Below w5.heap.size w5 (w5.alloc (.cells #[.int .i64 e.kind, .int .i64 e.num, .slice s e.kids.length c] 38)) := Below.alloc (Below.refl _ _) (Nat.le_refl _) _
 have hf6 := one_fresh hf5 hb6 (by omega) (Nat.le_refl _) N
 rw [hz5] at hf6
 exact ⟨_, rfl, T5.below hb6, hf6, hs5.trans (Spares.of_below hb6)⟩
theorem fresh_join {W V w' : World} {d e : D} {u v : Value} (hA : Freshs W V [d] [u]) (hk : ∀ i, W.heap.size ≤ i → i < V.heap.size → w'.heap[i]? = V.heap[i]?) (hB : Freshs V w' [e] [v]) (hz : W.heap.size ≤ V.heap.size) : Freshs W w' [d, e] [u, v] := by
 obtain ⟨F, f1, f2, f3⟩ := hA.single
 obtain ⟨G, g1, g2, g3⟩ := hB.single
 refine ⟨F ++ (G ++ []), Ows.cons (f1.keep fun i hi => hk i (f3 i hi) (f1.lt i hi)) (Ows.cons g1 Ows.nil), ?_, fun i hi => ?_⟩
 ·
  rw [List.append_nil, List.nodup_append]
  refine ⟨f2, g2, fun i hi j hj hij => ?_⟩
  have h1 := f1.lt i hi
  have h2 := g3 j hj
  omega
 ·
  rw [List.append_nil] at hi
  rcases List.mem_append.1 hi with hi | hi
  ·
   exact f3 i hi
  ·
   have := g3 i hi
   omega
def pos0 (x : Int) : Int := if 0 ≤ x then x else 0
def CondIf (v : Bool) (e : Ex) : Prop := v = true → e.cond = true
theorem pos0_is (x : Int) : (0 ≤ x ∧ pos0 x = x) ∨ (x < 0 ∧ pos0 x = 0) := by unfold pos0; split <;> omega
def GenE (B b r N : Nat) (t a left lo : Int) (cond : Bool) (w : World) (f : Ending) (w' : World) : Prop := ∃ (e : Ex) (s : Option Addr) (c : Nat) (left' : Int), f = .returned (.agg #[.int .i64 e.kind, .int .i64 e.num, .slice s e.kids.length c]) ∧ Freshs w w' [kidsD e.kids] [.slice s e.kids.length c] ∧
 e.tree (t - 1) (a - 1) = true ∧ CondIf cond e ∧ lo ≤ left' ∧ left' ≤ left - 1 ∧ (e.size : Int) ≤ 1 + 2 * (pos0 (left - 1) - pos0 (left' - 1)) ∧ DrewG B b r N t a left' w w'
theorem tree_not {tm am : Int} {e : Ex} (h : e.tree tm am = true) (hc : e.cond = true) : (Ex.mk 5 0 [e]).tree tm am = true ∧ (Ex.mk 5 0 [e]).cond = true := by
 simp [Ex.tree, Ex.treeL, h, hc, nodeB, kidsN, numB, Ex.cond, Ex.condL, condKind]
theorem tree_star {tm am : Int} {e : Ex} (h : e.tree tm am = true) : (Ex.mk 8 0 [e]).tree tm am = true := by
 simp [Ex.tree, Ex.treeL, h, nodeB, kidsN, numB]
theorem cond_two {k : Int} {a b : Ex} (hk : k = 6 ∨ k = 7) (ha : a.cond = true) (hb : b.cond = true) : (Ex.mk k 0 [a, b]).cond = true := by
 rcases hk with rfl | rfl <;> simp [Ex.cond, Ex.condL, condKind, ha, hb]
set_option maxRecDepth 100000 in
set_option maxHeartbeats 8000000 in
theorem genExpr_all {B b r : Nat} {t a : Int} (hs : sigB t a = true) : ∀ (d : Nat) (P : Nat), P = 3 ^ d → ∀ (N : Nat) (left x : Int) (cond : Bool) (w : World), Hid (x = d) → GenW B b r N t a left w → B ≤ w.heap.size → N + 8 * P ≤ 100000000 → -1000000 + P ≤ left → left ≤ 1000000 →
  Calls Try.prog 137 #[.pointer (some ⟨r, 0, none⟩), .bool cond, .int .i64 x] w (GenE B b r (N + 8 * P) t a left (left - P) cond w) := by
 intro d
 induction d with
 | zero =>
  intro P hP N left x cond w hx h hB hN hl1 hl2
  have hbw := h.2.1.lt
  have hrw := h.1.lt
  obtain rfl : P = 1 := hP
  have hx0 : x < 1 := by have := hx.out; omega
  have D := h.self
  have gf := h.1.frozen 3
  obtain ⟨g0, g1, g2, g3, ltg⟩ : w.cell? ⟨r, 0, none⟩ = some (.pointer (some ⟨b, 0, none⟩)) ∧ w.cell? ⟨r, 1, none⟩ = some (.int .i64 t) ∧ w.cell? ⟨r, 2, none⟩ = some (.int .i64 a) ∧ w.cell? ⟨r, 3, none⟩ = some (.int .i64 left) ∧ r < w.heap.size := ⟨D.1.1.c0, D.1.1.c1, D.1.1.c2, D.1.1.c3, D.1.1.lt⟩
  by_cases c1 : left - 1 < 1
  ·
   go_enter Try.func137, Try.ntmps137
   go_wp2_with fail
   obtain ⟨wz, ez, D0, hsz⟩ := D.left (left - 1)
   have hzz : wz.heap.size = w.heap.size := by rw [← ez]; simp [World.setCell]
   rw [ez]
   obtain ⟨w1, e1, R, hb1, hz1⟩ := box3 wz 38 (.int .i64 0) (.int .i64 0) (.slice none 0 0)
   rw [e1]
   rw [hzz] at R
   clear D
   have D := D0.on hb1
   have hzb1 := hb1.size
   clear hb1 e1 ez hsz D0 g0 g1 g2 g3 ltg gf
   obtain ⟨g0, g1, g2, g3, ltg⟩ : w1.cell? ⟨r, 0, none⟩ = some (.pointer (some ⟨b, 0, none⟩)) ∧ w1.cell? ⟨r, 1, none⟩ = some (.int .i64 t) ∧ w1.cell? ⟨r, 2, none⟩ = some (.int .i64 a) ∧ w1.cell? ⟨r, 3, none⟩ = some (.int .i64 (left - 1)) ∧ r < w1.heap.size := ⟨D.1.1.c0, D.1.1.c1, D.1.1.c2, D.1.1.c3, D.1.1.lt⟩
   refine (genLeaf_i (cond := cond) D.1 (by omega) (by omega) hs).mono ?_
   rintro f wl ⟨k, n, rfl, ht, hc, D1⟩
   replace R := D1.blk R (by omega) (by omega)
   replace D := D.trans D1
   have hzl := D1.size
   obtain ⟨rr0, rr1, rr2, rf0, rf1, rf2, ltR⟩ := R.all3
   clear D1 g0 g1 g2 g3 ltg
   go_wp2_with fail
   obtain ⟨w9, e9, R9, hs9⟩ := set3' R (.int .i64 k) (.int .i64 n) (.slice none 0 0)
   rw [e9]
   obtain ⟨r0, r1, r2, -, -, -, -⟩ := R9.all3
   have D9 := D.set hs9 (by omega) hB hbw hrw
   refine bodyPost_ret (v := .agg #[.int .i64 k, .int .i64 n, .slice none 0 0]) (by simp [results, Try.results137, go_sem, r0, r1, r2]) rfl ?_
   exact ⟨.mk k n [], none, 0, left - 1, rfl, nil_freshs, ht, hc, by omega, Int.le_refl _, by have p1 := pos0_is (left - 1); have p2 := pos0_is (left - 1 - 1); simp only [Ex.size, Ex.sizeL]; omega, D9.more (by omega)⟩
  ·
   go_enter Try.func137, Try.ntmps137
   go_wp2_with fail
   obtain ⟨wz, ez, D0, hsz⟩ := D.left (left - 1)
   have hzz : wz.heap.size = w.heap.size := by rw [← ez]; simp [World.setCell]
   rw [ez]
   obtain ⟨w1, e1, R, hb1, hz1⟩ := box3 wz 38 (.int .i64 0) (.int .i64 0) (.slice none 0 0)
   rw [e1]
   rw [hzz] at R
   clear D
   have D := D0.on hb1
   have hzb1 := hb1.size
   clear hb1 e1 ez hsz D0 g0 g1 g2 g3 ltg gf
   obtain ⟨g0, g1, g2, g3, ltg⟩ : w1.cell? ⟨r, 0, none⟩ = some (.pointer (some ⟨b, 0, none⟩)) ∧ w1.cell? ⟨r, 1, none⟩ = some (.int .i64 t) ∧ w1.cell? ⟨r, 2, none⟩ = some (.int .i64 a) ∧ w1.cell? ⟨r, 3, none⟩ = some (.int .i64 (left - 1)) ∧ r < w1.heap.size := ⟨D.1.1.c0, D.1.1.c1, D.1.1.c2, D.1.1.c3, D.1.1.lt⟩
   refine (genLeaf_i (cond := cond) D.1 (by omega) (by omega) hs).mono ?_
   rintro f wl ⟨k, n, rfl, ht, hc, D1⟩
   replace R := D1.blk R (by omega) (by omega)
   replace D := D.trans D1
   have hzl := D1.size
   obtain ⟨rr0, rr1, rr2, rf0, rf1, rf2, ltR⟩ := R.all3
   clear D1 g0 g1 g2 g3 ltg
   go_wp2_with fail
   obtain ⟨w9, e9, R9, hs9⟩ := set3' R (.int .i64 k) (.int .i64 n) (.slice none 0 0)
   rw [e9]
   obtain ⟨r0, r1, r2, -, -, -, -⟩ := R9.all3
   have D9 := D.set hs9 (by omega) hB hbw hrw
   refine bodyPost_ret (v := .agg #[.int .i64 k, .int .i64 n, .slice none 0 0]) (by simp [results, Try.results137, go_sem, r0, r1, r2]) rfl ?_
   exact ⟨.mk k n [], none, 0, left - 1, rfl, nil_freshs, ht, hc, by omega, Int.le_refl _, by have p1 := pos0_is (left - 1); have p2 := pos0_is (left - 1 - 1); simp only [Ex.size, Ex.sizeL]; omega, D9.more (by omega)⟩
 | succ d ih =>
  intro P hP N left x cond w hx h hB hN hl1 hl2
  have hbw := h.2.1.lt
  have hrw := h.1.lt
  obtain ⟨Q, hQ⟩ : ∃ Q, Q = 3 ^ d := ⟨_, rfl⟩
  have hPQ : P = 3 * Q := by rw [hP, hQ, Nat.pow_succ, Nat.mul_comm]
  have hQ1 : 1 ≤ Q := by rw [hQ]; exact Nat.one_le_pow _ _ (by omega)
  have hx0 : ¬ x < 1 := by have := hx.out; omega
  have hx1 : x < 100000000 := by
   have h1 := hx.out
   have h2 : d + 1 < 3 ^ (d + 1) := Nat.lt_pow_self (by omega)
   rw [← hP] at h2
   omega
  have Hxd : Hid (x - 1 = (d : Int)) := by show _ = _; have := hx.out; omega
  have D := h.self
  have gf := h.1.frozen 3
  obtain ⟨g0, g1, g2, g3, ltg⟩ : w.cell? ⟨r, 0, none⟩ = some (.pointer (some ⟨b, 0, none⟩)) ∧ w.cell? ⟨r, 1, none⟩ = some (.int .i64 t) ∧ w.cell? ⟨r, 2, none⟩ = some (.int .i64 a) ∧ w.cell? ⟨r, 3, none⟩ = some (.int .i64 left) ∧ r < w.heap.size := ⟨D.1.1.c0, D.1.1.c1, D.1.1.c2, D.1.1.c3, D.1.1.lt⟩
  have HQ := Lib.hid hQ
  have HPQ := Lib.hid hPQ
  obtain ⟨hP3, hP4⟩ : P ≤ 3 * Q ∧ 3 * Q ≤ P := by omega
  clear hP hx hQ hPQ
  by_cases c1 : left - 1 < 1
  ·
   go_enter Try.func137, Try.ntmps137
   go_wp2_with fail
   obtain ⟨wz, ez, D0, hsz⟩ := D.left (left - 1)
   have hzz : wz.heap.size = w.heap.size := by rw [← ez]; simp [World.setCell]
   rw [ez]
   obtain ⟨w1, e1, R, hb1, hz1⟩ := box3 wz 38 (.int .i64 0) (.int .i64 0) (.slice none 0 0)
   rw [e1]
   rw [hzz] at R
   clear D
   have D := D0.on hb1
   have hzb1 := hb1.size
   clear hb1 e1 ez hsz D0 g0 g1 g2 g3 ltg gf
   obtain ⟨g0, g1, g2, g3, ltg⟩ : w1.cell? ⟨r, 0, none⟩ = some (.pointer (some ⟨b, 0, none⟩)) ∧ w1.cell? ⟨r, 1, none⟩ = some (.int .i64 t) ∧ w1.cell? ⟨r, 2, none⟩ = some (.int .i64 a) ∧ w1.cell? ⟨r, 3, none⟩ = some (.int .i64 (left - 1)) ∧ r < w1.heap.size := ⟨D.1.1.c0, D.1.1.c1, D.1.1.c2, D.1.1.c3, D.1.1.lt⟩
   refine (genLeaf_i (cond := cond) D.1 (by omega) (by omega) hs).mono ?_
   rintro f wl ⟨k, n, rfl, ht, hc, D1⟩
   replace R := D1.blk R (by omega) (by omega)
   replace D := D.trans D1
   have hzl := D1.size
   obtain ⟨rr0, rr1, rr2, rf0, rf1, rf2, ltR⟩ := R.all3
   clear D1 g0 g1 g2 g3 ltg
   go_wp2_with fail
   obtain ⟨w9, e9, R9, hs9⟩ := set3' R (.int .i64 k) (.int .i64 n) (.slice none 0 0)
   rw [e9]
   obtain ⟨r0, r1, r2, -, -, -, -⟩ := R9.all3
   have D9 := D.set hs9 (by omega) hB hbw hrw
   refine bodyPost_ret (v := .agg #[.int .i64 k, .int .i64 n, .slice none 0 0]) (by simp [results, Try.results137, go_sem, r0, r1, r2]) rfl ?_
   exact ⟨.mk k n [], none, 0, left - 1, rfl, nil_freshs, ht, hc, by omega, Int.le_refl _, by have p1 := pos0_is (left - 1); have p2 := pos0_is (left - 1 - 1); simp only [Ex.size, Ex.sizeL]; omega, D9.more (by omega)⟩
  ·
   go_enter Try.func137, Try.ntmps137
   go_wp2_with fail
   obtain ⟨wz, ez, D0, hsz⟩ := D.left (left - 1)
   have hzz : wz.heap.size = w.heap.size := by rw [← ez]; simp [World.setCell]
   rw [ez]
   obtain ⟨w1, e1, R, hb1, hz1⟩ := box3 wz 38 (.int .i64 0) (.int .i64 0) (.slice none 0 0)
   rw [e1]
   rw [hzz] at R
   clear D
   have D := D0.on hb1
   have hzb1 := hb1.size
   clear hb1 e1 ez hsz D0 g0 g1 g2 g3 ltg gf
   obtain ⟨g0, g1, g2, g3, ltg⟩ : w1.cell? ⟨r, 0, none⟩ = some (.pointer (some ⟨b, 0, none⟩)) ∧ w1.cell? ⟨r, 1, none⟩ = some (.int .i64 t) ∧ w1.cell? ⟨r, 2, none⟩ = some (.int .i64 a) ∧ w1.cell? ⟨r, 3, none⟩ = some (.int .i64 (left - 1)) ∧ r < w1.heap.size := ⟨D.1.1.c0, D.1.1.c1, D.1.1.c2, D.1.1.c3, D.1.1.lt⟩
   refine (one_i D.1.2.1 (by omega) (by omega)).mono ?_
   rintro f wv ⟨v, rfl, D1⟩
   replace R := D1.blk R (by omega)
   replace D := D.trans (D.1.drew D1)
   have hzwv := D1.size
   clear D1 g0 g1 g2 g3 ltg
   obtain ⟨g0, g1, g2, g3, ltg⟩ : wv.cell? ⟨r, 0, none⟩ = some (.pointer (some ⟨b, 0, none⟩)) ∧ wv.cell? ⟨r, 1, none⟩ = some (.int .i64 t) ∧ wv.cell? ⟨r, 2, none⟩ = some (.int .i64 a) ∧ wv.cell? ⟨r, 3, none⟩ = some (.int .i64 (left - 1)) ∧ r < wv.heap.size := ⟨D.1.1.c0, D.1.1.c1, D.1.1.c2, D.1.1.c3, D.1.1.lt⟩
   cases v
   ·
    go_wp2_with fail
    refine (pick_i D.1.2.1 (by omega) (by omega)).mono ?_
    rintro f wk ⟨k, rfl, k0, k1, D1⟩
    replace R := D1.blk R (by omega)
    replace D := D.trans (D.1.drew D1)
    have hzwk := D1.size
    clear D1 g0 g1 g2 g3 ltg
    obtain ⟨g0, g1, g2, g3, ltg⟩ : wk.cell? ⟨r, 0, none⟩ = some (.pointer (some ⟨b, 0, none⟩)) ∧ wk.cell? ⟨r, 1, none⟩ = some (.int .i64 t) ∧ wk.cell? ⟨r, 2, none⟩ = some (.int .i64 a) ∧ wk.cell? ⟨r, 3, none⟩ = some (.int .i64 (left - 1)) ∧ r < wk.heap.size := ⟨D.1.1.c0, D.1.1.c1, D.1.1.c2, D.1.1.c3, D.1.1.lt⟩
    by_cases hk0 : k = 0
    ·
     subst hk0
     go_wp2_with fail
     refine (ih Q HQ.out (N + 2) (left - 1) (x - 1) true wk Hxd D.1 (by omega) (by omega) (by omega) (by omega)).mono ?_
     rintro f we ⟨e, s, c, l', rfl, hf, ht, hc, b1, b2, b3, D1⟩
     replace R := D1.blk R (by omega) (by omega)
     replace D := D.trans D1
     have hze := D1.size
     obtain ⟨rr0, rr1, rr2, rf0, rf1, rf2, ltR⟩ := R.all3
     have HF := Lib.hid hf
     have HTR : Hid (Ex.tree (t - 1) (a - 1) (.mk 5 0 [e]) = true) := Lib.hid (tree_not ht (hc rfl)).1
     have HCO : Hid (CondIf cond (.mk 5 0 [e])) := Lib.hid (fun _ => (tree_not ht (hc rfl)).2)
     have HBS := Lib.hid b3
     clear D1 hf g0 g1 g2 g3 ltg ht hc b3
     go_wp2_with fail
     obtain ⟨w9, e9, R9, hf9, hs9⟩ := kid_end (k := 5) R (by omega) hze HF.out
     rw [e9]
     obtain ⟨r0, r1, r2, -, -, -, -⟩ := R9.all3
     have D9 := D.set hs9 (by omega) hB hbw hrw
     refine bodyPost_ret (v := .agg #[.int .i64 5, .int .i64 0, .slice (some ⟨we.heap.size, 0, none⟩) 1 1]) (by simp [results, Try.results137, go_sem, r0, r1, r2]) rfl ?_
     have hsz := Ex.size_eq (.mk 5 0 [e])
     simp only [Ex.kids, Ex.sizeL] at hsz
     have b3 := HBS.out
     have p1 := pos0_is (left - 1)
     have p2 := pos0_is (left - 1 - 1)
     exact ⟨.mk 5 0 [e], _, _, l', rfl, hf9.from (by omega), HTR.out, HCO.out, by omega, by omega, by omega, D9.more (by omega)⟩
    by_cases hk4 : k < 4
    ·
     cases cond
     ·
      go_wp2_with fail
      refine (ih Q HQ.out (N + 2) (left - 1) (x - 1) false wk Hxd D.1 (by omega) (by omega) (by omega) (by omega)).mono ?_
      rintro f we ⟨e, s, c, l', rfl, hf, ht, hc, b1, b2, b3, D1⟩
      replace R := D1.blk R (by omega) (by omega)
      replace D := D.trans D1
      have hze := D1.size
      obtain ⟨rr0, rr1, rr2, rf0, rf1, rf2, ltR⟩ := R.all3
      have HF := Lib.hid hf
      have HTR : Hid (Ex.tree (t - 1) (a - 1) (.mk 8 0 [e]) = true) := Lib.hid (tree_star ht)
      have HCO : Hid (CondIf false (.mk 8 0 [e])) := Lib.hid (fun h => by cases h)
      have HBS := Lib.hid b3
      clear D1 hf g0 g1 g2 g3 ltg ht hc b3
      go_wp2_with fail
      obtain ⟨w9, e9, R9, hf9, hs9⟩ := kid_end (k := 8) R (by omega) hze HF.out
      rw [e9]
      obtain ⟨r0, r1, r2, -, -, -, -⟩ := R9.all3
      have D9 := D.set hs9 (by omega) hB hbw hrw
      refine bodyPost_ret (v := .agg #[.int .i64 8, .int .i64 0, .slice (some ⟨we.heap.size, 0, none⟩) 1 1]) (by simp [results, Try.results137, go_sem, r0, r1, r2]) rfl ?_
      have hsz := Ex.size_eq (.mk 8 0 [e])
      simp only [Ex.kids, Ex.sizeL] at hsz
      have b3 := HBS.out
      have p1 := pos0_is (left - 1)
      have p2 := pos0_is (left - 1 - 1)
      exact ⟨.mk 8 0 [e], _, _, l', rfl, hf9.from (by omega), HTR.out, HCO.out, by omega, by omega, by omega, D9.more (by omega)⟩
     ·
      go_wp2_with fail
      refine (ih Q HQ.out (N + 2) (left - 1) (x - 1) true wk Hxd D.1 (by omega) (by omega) (by omega) (by omega)).mono ?_
      rintro f we ⟨e, s, c, l', rfl, hf, ht, hc, b1, b2, b3, D1⟩
      replace R := D1.blk R (by omega) (by omega)
      replace D := D.trans D1
      have hze := D1.size
      obtain ⟨rr0, rr1, rr2, rf0, rf1, rf2, ltR⟩ := R.all3
      have HF := Lib.hid hf
      have HTR : Hid (Ex.tree (t - 1) (a - 1) (.mk 5 0 [e]) = true) := Lib.hid (tree_not ht (hc rfl)).1
      have HCO : Hid (CondIf true (.mk 5 0 [e])) := Lib.hid (fun _ => (tree_not ht (hc rfl)).2)
      have HBS := Lib.hid b3
      clear D1 hf g0 g1 g2 g3 ltg ht hc b3
      go_wp2_with fail
      obtain ⟨w9, e9, R9, hf9, hs9⟩ := kid_end (k := 5) R (by omega) hze HF.out
      rw [e9]
      obtain ⟨r0, r1, r2, -, -, -, -⟩ := R9.all3
      have D9 := D.set hs9 (by omega) hB hbw hrw
      refine bodyPost_ret (v := .agg #[.int .i64 5, .int .i64 0, .slice (some ⟨we.heap.size, 0, none⟩) 1 1]) (by simp [results, Try.results137, go_sem, r0, r1, r2]) rfl ?_
      have hsz := Ex.size_eq (.mk 5 0 [e])
      simp only [Ex.kids, Ex.sizeL] at hsz
      have b3 := HBS.out
      have p1 := pos0_is (left - 1)
      have p2 := pos0_is (left - 1 - 1)
      exact ⟨.mk 5 0 [e], _, _, l', rfl, hf9.from (by omega), HTR.out, HCO.out, by omega, by omega, by omega, D9.more (by omega)⟩
    ·
     have hkb : (k == 0) = false := by simp [hk0]
     have hkd : decide (k < 4) = false := by simp; omega
     cases cond
     ·
      by_cases hk6 : k < 6
      ·
       skip
       go_wp2_with fail
       refine (one_i D.1.2.1 (by omega) (by omega)).mono ?_
       rintro f wu ⟨u, rfl, D1⟩
       replace R := D1.blk R (by omega)
       replace D := D.trans (D.1.drew D1)
       have hzwu := D1.size
       clear D1 g0 g1 g2 g3 ltg
       obtain ⟨g0, g1, g2, g3, ltg⟩ : wu.cell? ⟨r, 0, none⟩ = some (.pointer (some ⟨b, 0, none⟩)) ∧ wu.cell? ⟨r, 1, none⟩ = some (.int .i64 t) ∧ wu.cell? ⟨r, 2, none⟩ = some (.int .i64 a) ∧ wu.cell? ⟨r, 3, none⟩ = some (.int .i64 (left - 1)) ∧ r < wu.heap.size := ⟨D.1.1.c0, D.1.1.c1, D.1.1.c2, D.1.1.c3, D.1.1.lt⟩
       go_wp2_with fail
       refine (ih Q HQ.out (N + 3) (left - 1) (x - 1) u wu Hxd D.1 (by omega) (by omega) (by omega) (by omega)).mono ?_
       rintro f wa ⟨e1, s1, c1, l1, rfl, hf, ht, hc, b11, b21, b3, D1⟩
       replace R := D1.blk R (by omega) (by omega)
       have hzwa := D1.size
       have HT1 := Lib.hid ht
       have HC1 := Lib.hid hc
       have HS1 := Lib.hid b3
       have HF := Lib.hid hf
       replace D := D.trans D1
       clear D1 hf ht hc b3 g0 g1 g2 g3 ltg
       obtain ⟨wA, eA, A, hbA, hzA⟩ := box3 wa 38 (.int .i64 e1.kind) (.int .i64 e1.num) (.slice s1 e1.kids.length c1)
       replace D := D.on hbA
       replace R := R.below hbA
       replace HF := Lib.hid (HF.out.on hbA)
       obtain ⟨g0, g1, g2, g3, ltg⟩ : wA.cell? ⟨r, 0, none⟩ = some (.pointer (some ⟨b, 0, none⟩)) ∧ wA.cell? ⟨r, 1, none⟩ = some (.int .i64 t) ∧ wA.cell? ⟨r, 2, none⟩ = some (.int .i64 a) ∧ wA.cell? ⟨r, 3, none⟩ = some (.int .i64 l1) ∧ r < wA.heap.size := ⟨D.1.1.c0, D.1.1.c1, D.1.1.c2, D.1.1.c3, D.1.1.lt⟩
       go_wp2_with fail
       clear hbA eA
       have HFA := HF
       clear HF
       refine (one_i (n := 6) D.1.2.1 (by omega) (by omega)).mono ?_
       rintro f wv ⟨u2, rfl, D1⟩
       replace A := D1.blk A (by omega)
       replace R := D1.blk R (by omega)
       have hzv := D1.size
       replace HFA := Lib.hid (HFA.out.keep fun i h1 h2 => D1.2.block i h2 (fun e => by omega))
       replace D := D.trans (D.1.drew D1)
       clear D1 g0 g1 g2 g3 ltg
       obtain ⟨g0, g1, g2, g3, ltg⟩ : wv.cell? ⟨r, 0, none⟩ = some (.pointer (some ⟨b, 0, none⟩)) ∧ wv.cell? ⟨r, 1, none⟩ = some (.int .i64 t) ∧ wv.cell? ⟨r, 2, none⟩ = some (.int .i64 a) ∧ wv.cell? ⟨r, 3, none⟩ = some (.int .i64 l1) ∧ r < wv.heap.size := ⟨D.1.1.c0, D.1.1.c1, D.1.1.c2, D.1.1.c3, D.1.1.lt⟩
       go_wp2_with fail
       refine (ih Q HQ.out (N + 3 + 8 * Q + 1) (l1) (x - 1) u2 wv Hxd D.1 (by omega) (by omega) (by omega) (by omega)).mono ?_
       rintro f wb ⟨e2, s2, c2, l2, rfl, hf, ht, hc, b12, b22, b3, D1⟩
       replace R := D1.blk R (by omega) (by omega)
       have hzwb := D1.size
       have HT2 := Lib.hid ht
       have HC2 := Lib.hid hc
       have HS2 := Lib.hid b3
       have HF := Lib.hid hf
       have hkk := fun (i : Nat) (h1 : wu.heap.size ≤ i) (h2 : i < wv.heap.size) => D1.2.block i h2 (fun q => q.elim (fun e => by omega) (fun e => by omega))
       have HJ := Lib.hid (fresh_join HFA.out hkk HF.out (by omega))
       replace A := D1.blk A (by omega) (by omega)
       replace D := D.trans D1
       clear D1 hf ht hc b3 g0 g1 g2 g3 ltg hkk HFA HF
       obtain ⟨wB, eB, BB, hbB, hzB⟩ := box3 wb 38 (.int .i64 e2.kind) (.int .i64 e2.num) (.slice s2 e2.kids.length c2)
       replace A := A.below hbB
       obtain ⟨a0, a1, a2, -, -, -, ltA⟩ := A.all3
       obtain ⟨bb0, bb1, bb2, -, -, -, ltB⟩ := BB.all3
       go_wp2_with fail
       replace D := D.on hbB
       replace R := R.below hbB
       have HJ2 := Lib.hid (HJ.out.on hbB)
       clear hbB eB a0 a1 a2 ltA A HJ BB bb0 bb1 bb2 ltB
       refine (l02Pair_i).mono ?_
       rintro f wp ⟨g, rfl, hg, G, hb⟩
       have hzp := hb.size
       replace D := D.on hb
       replace R := R.below hb
       have HJ3 := Lib.hid (two_fresh HJ2.out hb (by omega) hg G)
       clear hb G HJ2
       obtain ⟨rr0, rr1, rr2, rf0, rf1, rf2, ltR⟩ := R.all3
       go_wp2_with fail
       obtain ⟨w9, e9, R9, hs9⟩ := set3' R (.int .i64 6) (.int .i64 0) (.slice (some ⟨g, 0, none⟩) 2 2)
       rw [e9]
       obtain ⟨r0, r1, r2, -, -, -, -⟩ := R9.all3
       have D9 := D.set hs9 (by omega) hB hbw hrw
       have hf9 := HJ3.out.keep fun y hy1 hy2 => hs9.block y hy2 (by omega)
       refine bodyPost_ret (v := .agg #[.int .i64 6, .int .i64 0, .slice (some ⟨g, 0, none⟩) 2 2]) (by simp [results, Try.results137, go_sem, r0, r1, r2]) rfl ?_
       have hsz := size_two 6 e1 e2
       have q1 := HS1.out
       have q2 := HS2.out
       have p1 := pos0_is (left - 1)
       have p2 := pos0_is (left - 1 - 1)
       have p3 := pos0_is (l1 - 1)
       have p4 := pos0_is (l2 - 1)
       exact ⟨.two 6 e1 e2, _, _, l2, rfl, hf9.from (by omega), tree_two (by omega) HT1.out HT2.out, (fun h => by cases h), by omega, by omega, by omega, D9.more (by omega)⟩
      ·
       skip
       go_wp2_with fail
       refine (one_i D.1.2.1 (by omega) (by omega)).mono ?_
       rintro f wu ⟨u, rfl, D1⟩
       replace R := D1.blk R (by omega)
       replace D := D.trans (D.1.drew D1)
       have hzwu := D1.size
       clear D1 g0 g1 g2 g3 ltg
       obtain ⟨g0, g1, g2, g3, ltg⟩ : wu.cell? ⟨r, 0, none⟩ = some (.pointer (some ⟨b, 0, none⟩)) ∧ wu.cell? ⟨r, 1, none⟩ = some (.int .i64 t) ∧ wu.cell? ⟨r, 2, none⟩ = some (.int .i64 a) ∧ wu.cell? ⟨r, 3, none⟩ = some (.int .i64 (left - 1)) ∧ r < wu.heap.size := ⟨D.1.1.c0, D.1.1.c1, D.1.1.c2, D.1.1.c3, D.1.1.lt⟩
       go_wp2_with fail
       refine (ih Q HQ.out (N + 3) (left - 1) (x - 1) u wu Hxd D.1 (by omega) (by omega) (by omega) (by omega)).mono ?_
       rintro f wa ⟨e1, s1, c1, l1, rfl, hf, ht, hc, b11, b21, b3, D1⟩
       replace R := D1.blk R (by omega) (by omega)
       have hzwa := D1.size
       have HT1 := Lib.hid ht
       have HC1 := Lib.hid hc
       have HS1 := Lib.hid b3
       have HF := Lib.hid hf
       replace D := D.trans D1
       clear D1 hf ht hc b3 g0 g1 g2 g3 ltg
       obtain ⟨wA, eA, A, hbA, hzA⟩ := box3 wa 38 (.int .i64 e1.kind) (.int .i64 e1.num) (.slice s1 e1.kids.length c1)
       replace D := D.on hbA
       replace R := R.below hbA
       replace HF := Lib.hid (HF.out.on hbA)
       obtain ⟨g0, g1, g2, g3, ltg⟩ : wA.cell? ⟨r, 0, none⟩ = some (.pointer (some ⟨b, 0, none⟩)) ∧ wA.cell? ⟨r, 1, none⟩ = some (.int .i64 t) ∧ wA.cell? ⟨r, 2, none⟩ = some (.int .i64 a) ∧ wA.cell? ⟨r, 3, none⟩ = some (.int .i64 l1) ∧ r < wA.heap.size := ⟨D.1.1.c0, D.1.1.c1, D.1.1.c2, D.1.1.c3, D.1.1.lt⟩
       go_wp2_with fail
       clear hbA eA
       have HFA := HF
       clear HF
       refine (one_i (n := 6) D.1.2.1 (by omega) (by omega)).mono ?_
       rintro f wv ⟨u2, rfl, D1⟩
       replace A := D1.blk A (by omega)
       replace R := D1.blk R (by omega)
       have hzv := D1.size
       replace HFA := Lib.hid (HFA.out.keep fun i h1 h2 => D1.2.block i h2 (fun e => by omega))
       replace D := D.trans (D.1.drew D1)
       clear D1 g0 g1 g2 g3 ltg
       obtain ⟨g0, g1, g2, g3, ltg⟩ : wv.cell? ⟨r, 0, none⟩ = some (.pointer (some ⟨b, 0, none⟩)) ∧ wv.cell? ⟨r, 1, none⟩ = some (.int .i64 t) ∧ wv.cell? ⟨r, 2, none⟩ = some (.int .i64 a) ∧ wv.cell? ⟨r, 3, none⟩ = some (.int .i64 l1) ∧ r < wv.heap.size := ⟨D.1.1.c0, D.1.1.c1, D.1.1.c2, D.1.1.c3, D.1.1.lt⟩
       go_wp2_with fail
       refine (ih Q HQ.out (N + 3 + 8 * Q + 1) (l1) (x - 1) u2 wv Hxd D.1 (by omega) (by omega) (by omega) (by omega)).mono ?_
       rintro f wb ⟨e2, s2, c2, l2, rfl, hf, ht, hc, b12, b22, b3, D1⟩
       replace R := D1.blk R (by omega) (by omega)
       have hzwb := D1.size
       have HT2 := Lib.hid ht
       have HC2 := Lib.hid hc
       have HS2 := Lib.hid b3
       have HF := Lib.hid hf
       have hkk := fun (i : Nat) (h1 : wu.heap.size ≤ i) (h2 : i < wv.heap.size) => D1.2.block i h2 (fun q => q.elim (fun e => by omega) (fun e => by omega))
       have HJ := Lib.hid (fresh_join HFA.out hkk HF.out (by omega))
       replace A := D1.blk A (by omega) (by omega)
       replace D := D.trans D1
       clear D1 hf ht hc b3 g0 g1 g2 g3 ltg hkk HFA HF
       obtain ⟨wB, eB, BB, hbB, hzB⟩ := box3 wb 38 (.int .i64 e2.kind) (.int .i64 e2.num) (.slice s2 e2.kids.length c2)
       replace A := A.below hbB
       obtain ⟨a0, a1, a2, -, -, -, ltA⟩ := A.all3
       obtain ⟨bb0, bb1, bb2, -, -, -, ltB⟩ := BB.all3
       go_wp2_with fail
       replace D := D.on hbB
       replace R := R.below hbB
       have HJ2 := Lib.hid (HJ.out.on hbB)
       clear hbB eB a0 a1 a2 ltA A HJ BB bb0 bb1 bb2 ltB
       refine (l02Pair_i).mono ?_
       rintro f wp ⟨g, rfl, hg, G, hb⟩
       have hzp := hb.size
       replace D := D.on hb
       replace R := R.below hb
       have HJ3 := Lib.hid (two_fresh HJ2.out hb (by omega) hg G)
       clear hb G HJ2
       obtain ⟨rr0, rr1, rr2, rf0, rf1, rf2, ltR⟩ := R.all3
       go_wp2_with fail
       obtain ⟨w9, e9, R9, hs9⟩ := set3' R (.int .i64 7) (.int .i64 0) (.slice (some ⟨g, 0, none⟩) 2 2)
       rw [e9]
       obtain ⟨r0, r1, r2, -, -, -, -⟩ := R9.all3
       have D9 := D.set hs9 (by omega) hB hbw hrw
       have hf9 := HJ3.out.keep fun y hy1 hy2 => hs9.block y hy2 (by omega)
       refine bodyPost_ret (v := .agg #[.int .i64 7, .int .i64 0, .slice (some ⟨g, 0, none⟩) 2 2]) (by simp [results, Try.results137, go_sem, r0, r1, r2]) rfl ?_
       have hsz := size_two 7 e1 e2
       have q1 := HS1.out
       have q2 := HS2.out
       have p1 := pos0_is (left - 1)
       have p2 := pos0_is (left - 1 - 1)
       have p3 := pos0_is (l1 - 1)
       have p4 := pos0_is (l2 - 1)
       exact ⟨.two 7 e1 e2, _, _, l2, rfl, hf9.from (by omega), tree_two (by omega) HT1.out HT2.out, (fun h => by cases h), by omega, by omega, by omega, D9.more (by omega)⟩
     ·
      by_cases hk6 : k < 6
      ·
       skip
       go_wp2_with fail
       refine (ih Q HQ.out (N + 2) (left - 1) (x - 1) true wk Hxd D.1 (by omega) (by omega) (by omega) (by omega)).mono ?_
       rintro f wa ⟨e1, s1, c1, l1, rfl, hf, ht, hc, b11, b21, b3, D1⟩
       replace R := D1.blk R (by omega) (by omega)
       have hzwa := D1.size
       have HT1 := Lib.hid ht
       have HC1 := Lib.hid hc
       have HS1 := Lib.hid b3
       have HF := Lib.hid hf
       replace D := D.trans D1
       clear D1 hf ht hc b3 g0 g1 g2 g3 ltg
       obtain ⟨wA, eA, A, hbA, hzA⟩ := box3 wa 38 (.int .i64 e1.kind) (.int .i64 e1.num) (.slice s1 e1.kids.length c1)
       replace D := D.on hbA
       replace R := R.below hbA
       replace HF := Lib.hid (HF.out.on hbA)
       obtain ⟨g0, g1, g2, g3, ltg⟩ : wA.cell? ⟨r, 0, none⟩ = some (.pointer (some ⟨b, 0, none⟩)) ∧ wA.cell? ⟨r, 1, none⟩ = some (.int .i64 t) ∧ wA.cell? ⟨r, 2, none⟩ = some (.int .i64 a) ∧ wA.cell? ⟨r, 3, none⟩ = some (.int .i64 l1) ∧ r < wA.heap.size := ⟨D.1.1.c0, D.1.1.c1, D.1.1.c2, D.1.1.c3, D.1.1.lt⟩
       go_wp2_with fail
       clear hbA eA
       have HFA := HF
       clear HF
       refine (ih Q HQ.out (N + 2 + 8 * Q) (l1) (x - 1) true wA Hxd D.1 (by omega) (by omega) (by omega) (by omega)).mono ?_
       rintro f wb ⟨e2, s2, c2, l2, rfl, hf, ht, hc, b12, b22, b3, D1⟩
       replace R := D1.blk R (by omega) (by omega)
       have hzwb := D1.size
       have HT2 := Lib.hid ht
       have HC2 := Lib.hid hc
       have HS2 := Lib.hid b3
       have HF := Lib.hid hf
       have hkk := fun (i : Nat) (h1 : wk.heap.size ≤ i) (h2 : i < wA.heap.size) => D1.2.block i h2 (fun q => q.elim (fun e => by omega) (fun e => by omega))
       have HJ := Lib.hid (fresh_join HFA.out hkk HF.out (by omega))
       replace A := D1.blk A (by omega) (by omega)
       replace D := D.trans D1
       clear D1 hf ht hc b3 g0 g1 g2 g3 ltg hkk HFA HF
       obtain ⟨wB, eB, BB, hbB, hzB⟩ := box3 wb 38 (.int .i64 e2.kind) (.int .i64 e2.num) (.slice s2 e2.kids.length c2)
       replace A := A.below hbB
       obtain ⟨a0, a1, a2, -, -, -, ltA⟩ := A.all3
       obtain ⟨bb0, bb1, bb2, -, -, -, ltB⟩ := BB.all3
       go_wp2_with fail
       replace D := D.on hbB
       replace R := R.below hbB
       have HJ2 := Lib.hid (HJ.out.on hbB)
       clear hbB eB a0 a1 a2 ltA A HJ BB bb0 bb1 bb2 ltB
       refine (l02Pair_i).mono ?_
       rintro f wp ⟨g, rfl, hg, G, hb⟩
       have hzp := hb.size
       replace D := D.on hb
       replace R := R.below hb
       have HJ3 := Lib.hid (two_fresh HJ2.out hb (by omega) hg G)
       clear hb G HJ2
       obtain ⟨rr0, rr1, rr2, rf0, rf1, rf2, ltR⟩ := R.all3
       go_wp2_with fail
       obtain ⟨w9, e9, R9, hs9⟩ := set3' R (.int .i64 6) (.int .i64 0) (.slice (some ⟨g, 0, none⟩) 2 2)
       rw [e9]
       obtain ⟨r0, r1, r2, -, -, -, -⟩ := R9.all3
       have D9 := D.set hs9 (by omega) hB hbw hrw
       have hf9 := HJ3.out.keep fun y hy1 hy2 => hs9.block y hy2 (by omega)
       refine bodyPost_ret (v := .agg #[.int .i64 6, .int .i64 0, .slice (some ⟨g, 0, none⟩) 2 2]) (by simp [results, Try.results137, go_sem, r0, r1, r2]) rfl ?_
       have hsz := size_two 6 e1 e2
       have q1 := HS1.out
       have q2 := HS2.out
       have p1 := pos0_is (left - 1)
       have p2 := pos0_is (left - 1 - 1)
       have p3 := pos0_is (l1 - 1)
       have p4 := pos0_is (l2 - 1)
       exact ⟨.two 6 e1 e2, _, _, l2, rfl, hf9.from (by omega), tree_two (by omega) HT1.out HT2.out, (fun _ => cond_two (by omega) (HC1.out rfl) (HC2.out rfl)), by omega, by omega, by omega, D9.more (by omega)⟩
      ·
       skip
       go_wp2_with fail
       refine (ih Q HQ.out (N + 2) (left - 1) (x - 1) true wk Hxd D.1 (by omega) (by omega) (by omega) (by omega)).mono ?_
       rintro f wa ⟨e1, s1, c1, l1, rfl, hf, ht, hc, b11, b21, b3, D1⟩
       replace R := D1.blk R (by omega) (by omega)
       have hzwa := D1.size
       have HT1 := Lib.hid ht
       have HC1 := Lib.hid hc
       have HS1 := Lib.hid b3
       have HF := Lib.hid hf
       replace D := D.trans D1
       clear D1 hf ht hc b3 g0 g1 g2 g3 ltg
       obtain ⟨wA, eA, A, hbA, hzA⟩ := box3 wa 38 (.int .i64 e1.kind) (.int .i64 e1.num) (.slice s1 e1.kids.length c1)
       replace D := D.on hbA
       replace R := R.below hbA
       replace HF := Lib.hid (HF.out.on hbA)
       obtain ⟨g0, g1, g2, g3, ltg⟩ : wA.cell? ⟨r, 0, none⟩ = some (.pointer (some ⟨b, 0, none⟩)) ∧ wA.cell? ⟨r, 1, none⟩ = some (.int .i64 t) ∧ wA.cell? ⟨r, 2, none⟩ = some (.int .i64 a) ∧ wA.cell? ⟨r, 3, none⟩ = some (.int .i64 l1) ∧ r < wA.heap.size := ⟨D.1.1.c0, D.1.1.c1, D.1.1.c2, D.1.1.c3, D.1.1.lt⟩
       go_wp2_with fail
       clear hbA eA
       have HFA := HF
       clear HF
       refine (ih Q HQ.out (N + 2 + 8 * Q) (l1) (x - 1) true wA Hxd D.1 (by omega) (by omega) (by omega) (by omega)).mono ?_
       rintro f wb ⟨e2, s2, c2, l2, rfl, hf, ht, hc, b12, b22, b3, D1⟩
       replace R := D1.blk R (by omega) (by omega)
       have hzwb := D1.size
       have HT2 := Lib.hid ht
       have HC2 := Lib.hid hc
       have HS2 := Lib.hid b3
       have HF := Lib.hid hf
       have hkk := fun (i : Nat) (h1 : wk.heap.size ≤ i) (h2 : i < wA.heap.size) => D1.2.block i h2 (fun q => q.elim (fun e => by omega) (fun e => by omega))
       have HJ := Lib.hid (fresh_join HFA.out hkk HF.out (by omega))
       replace A := D1.blk A (by omega) (by omega)
       replace D := D.trans D1
       clear D1 hf ht hc b3 g0 g1 g2 g3 ltg hkk HFA HF
       obtain ⟨wB, eB, BB, hbB, hzB⟩ := box3 wb 38 (.int .i64 e2.kind) (.int .i64 e2.num) (.slice s2 e2.kids.length c2)
       replace A := A.below hbB
       obtain ⟨a0, a1, a2, -, -, -, ltA⟩ := A.all3
       obtain ⟨bb0, bb1, bb2, -, -, -, ltB⟩ := BB.all3
       go_wp2_with fail
       replace D := D.on hbB
       replace R := R.below hbB
       have HJ2 := Lib.hid (HJ.out.on hbB)
       clear hbB eB a0 a1 a2 ltA A HJ BB bb0 bb1 bb2 ltB
       refine (l02Pair_i).mono ?_
       rintro f wp ⟨g, rfl, hg, G, hb⟩
       have hzp := hb.size
       replace D := D.on hb
       replace R := R.below hb
       have HJ3 := Lib.hid (two_fresh HJ2.out hb (by omega) hg G)
       clear hb G HJ2
       obtain ⟨rr0, rr1, rr2, rf0, rf1, rf2, ltR⟩ := R.all3
       go_wp2_with fail
       obtain ⟨w9, e9, R9, hs9⟩ := set3' R (.int .i64 7) (.int .i64 0) (.slice (some ⟨g, 0, none⟩) 2 2)
       rw [e9]
       obtain ⟨r0, r1, r2, -, -, -, -⟩ := R9.all3
       have D9 := D.set hs9 (by omega) hB hbw hrw
       have hf9 := HJ3.out.keep fun y hy1 hy2 => hs9.block y hy2 (by omega)
       refine bodyPost_ret (v := .agg #[.int .i64 7, .int .i64 0, .slice (some ⟨g, 0, none⟩) 2 2]) (by simp [results, Try.results137, go_sem, r0, r1, r2]) rfl ?_
       have hsz := size_two 7 e1 e2
       have q1 := HS1.out
       have q2 := HS2.out
       have p1 := pos0_is (left - 1)
       have p2 := pos0_is (left - 1 - 1)
       have p3 := pos0_is (l1 - 1)
       have p4 := pos0_is (l2 - 1)
       exact ⟨.two 7 e1 e2, _, _, l2, rfl, hf9.from (by omega), tree_two (by omega) HT1.out HT2.out, (fun _ => cond_two (by omega) (HC1.out rfl) (HC2.out rfl)), by omega, by omega, by omega, D9.more (by omega)⟩
   ·
    go_wp2_with fail
    refine (genLeaf_i (cond := cond) D.1 (by omega) (by omega) hs).mono ?_
    rintro f wl ⟨k, n, rfl, ht, hc, D1⟩
    replace R := D1.blk R (by omega) (by omega)
    replace D := D.trans D1
    have hzl := D1.size
    obtain ⟨rr0, rr1, rr2, rf0, rf1, rf2, ltR⟩ := R.all3
    clear D1 g0 g1 g2 g3 ltg
    go_wp2_with fail
    obtain ⟨w9, e9, R9, hs9⟩ := set3' R (.int .i64 k) (.int .i64 n) (.slice none 0 0)
    rw [e9]
    obtain ⟨r0, r1, r2, -, -, -, -⟩ := R9.all3
    have D9 := D.set hs9 (by omega) hB hbw hrw
    refine bodyPost_ret (v := .agg #[.int .i64 k, .int .i64 n, .slice none 0 0]) (by simp [results, Try.results137, go_sem, r0, r1, r2]) rfl ?_
    exact ⟨.mk k n [], none, 0, left - 1, rfl, nil_freshs, ht, hc, by omega, Int.le_refl _, by have p1 := pos0_is (left - 1); have p2 := pos0_is (left - 1 - 1); simp only [Ex.size, Ex.sizeL]; omega, D9.more (by omega)⟩
end Go.Proofs.Ytbflhjjnemdecaa

namespace Go.Proofs.Ytbflhjjnemdecaa
set_option linter.unusedVariables false
set_option linter.unusedSimpArgs false
open Go.ChangeShapes Go.WideShapes Go.ChangeAt Go.RowKit Go.Deep Go.Sort
set_option maxRecDepth 100000 in
theorem drawn_i {B b N : Nat} {t a n : Int} {w : World} (h : SrcW B b N w) (hN : N ≤ 10000000) (hB : B ≤ w.heap.size) (hs : sigB t a = true) (hn : 1 ≤ n) (hn2 : n ≤ 1000) :
  Calls Try.prog 89 #[.pointer (some ⟨b, 0, none⟩), .agg #[.int .i64 t, .int .i64 a], .int .i64 n] w fun f w' => ∃ (e : Ex) (s : Option Addr) (c : Nat), f = .returned (.agg #[.int .i64 e.kind, .int .i64 e.num, .slice s e.kids.length c]) ∧ Freshs w w' [kidsD e.kids] [.slice s e.kids.length c] ∧
   e.tree (t - 1) (a - 1) = true ∧ (e.size : Int) ≤ 2 * n - 1 ∧ Drew B b (N + 6000) w w' := by
 have hbw := h.lt
 have hBb := h.1
 go_enter Try.func89, Try.ntmps89
 go_wp2_with fail
 obtain ⟨w1, e1, L, hb1, hz1⟩ := box2 w 34 (.int .i64 t) (.int .i64 a)
 rw [e1]
 obtain ⟨w2, e2, R, hb2, hz2⟩ := box3 w1 38 (.int .i64 0) (.int .i64 0) (.slice none 0 0)
 rw [e2]
 obtain ⟨w3, e3, G, hb3, hz3⟩ : ∃ w3, w2.alloc (.cells #[.pointer (some ⟨b, 0, none⟩), .int .i64 t, .int .i64 a, .int .i64 n] 164) = w3 ∧ Blk w3 w2.heap.size 164 [.pointer (some ⟨b, 0, none⟩), .int .i64 t, .int .i64 a, .int .i64 n] ∧ Below w2.heap.size w2 w3 ∧ w3.heap.size = w2.heap.size + 1 :=
  ⟨_, rfl, Blk.new4 w2 _ _ _ _ _, Below.alloc (Below.refl _ _) (Nat.le_refl _) _, by simp⟩
 rw [e3]
 rw [hz2, hz1] at G
 rw [hz1] at R
 replace R := R.below hb3
 have D := ((h.drew.on hb1).on hb2).on hb3
 have hz3' := D.size
 clear e1 e2 e3 hb1 hb2 hb3
 refine (genExpr_all hs 6 729 rfl N n 6 false w3 (Lib.hid rfl) ⟨G, D.1, by omega, by omega⟩ (by omega) (by omega) (by omega) (by omega)).mono ?_
 rintro f w4 ⟨e, s, c, l', rfl, hf, ht, -, b1, b2, b3, D1⟩
 replace R := D1.blk R (by omega) (by omega)
 have hz4 := D1.size
 have hsz : (e.size : Int) ≤ 2 * n - 1 := by
  have p1 := pos0_is (n - 1)
  have p2 := pos0_is (l' - 1)
  omega
 have HF := Lib.hid hf
 have HT := Lib.hid ht
 have HS := Lib.hid hsz
 have hD4 : Spares (fun i => i = b) w w4 := ⟨D1.2.os.trans D.2.os, D1.2.tape.trans D.2.tape, D1.2.output.trans D.2.output, by omega, fun i hi hn => (D1.2.block i (by omega) (fun q => q.elim hn (fun e => by omega))).trans (D.2.block i hi hn)⟩
 have hS4 := D1.1.2.1
 have D4 : Drew B b (N + 6000) w w4 := ⟨hS4.more (by omega), hD4⟩
 obtain ⟨rr0, rr1, rr2, rf0, rf1, rf2, ltR⟩ := R.all3
 clear hf ht hsz b3 D1 hD4 hS4 D
 go_wp2_with fail
 obtain ⟨w9, e9, R9, hs9⟩ := set3' R (.int .i64 e.kind) (.int .i64 e.num) (.slice s e.kids.length c)
 rw [e9]
 obtain ⟨r0, r1, r2, -, -, -, -⟩ := R9.all3
 have D9 := D4.set hs9 (by omega) hB hbw
 have hf9 := HF.out.keep fun y hy1 hy2 => hs9.block y hy2 (by omega)
 refine bodyPost_ret (v := .agg #[.int .i64 e.kind, .int .i64 e.num, .slice s e.kids.length c]) (by simp [results, Try.results89, go_sem, r0, r1, r2]) rfl ?_
 exact ⟨e, s, c, rfl, hf9.from (by omega), HT.out, HS.out, D9⟩
theorem exAt_box {w : World} {g t : Nat} {e : Ex} {s : Option Addr} {c : Nat} (K : Blk w g t [.int .i64 e.kind, .int .i64 e.num, .slice s e.kids.length c]) (h : Rd w (kidsD e.kids) (.slice s e.kids.length c)) : ExAt w g 0 e := ⟨K.c0, K.c1, s, c, K.c2, h⟩
set_option maxHeartbeats 4000000 in
theorem a2Pair_i {k : Int} {x y : Ex} {sx sy : Option Addr} {cx cy : Nat} {w : World} (hx : Rd w (kidsD x.kids) (.slice sx x.kids.length cx)) (hy : Rd w (kidsD y.kids) (.slice sy y.kids.length cy)) (h1 : x.size ≤ 1073741824) (h2 : y.size ≤ 1073741824) :
  Calls Try.prog 41 #[.int .i64 k, .agg #[.int .i64 x.kind, .int .i64 x.num, .slice sx x.kids.length cx], .agg #[.int .i64 y.kind, .int .i64 y.num, .slice sy y.kids.length cy]] w fun f w' => ∃ s c, f = .returned (.agg #[.int .i64 k, .int .i64 0, .slice s 2 c]) ∧ Freshs w w' [kidsD [x, y]] [.slice s 2 c] ∧ Below w.heap.size w w' := by
 have H1 := Lib.hid h1
 have H2 := Lib.hid h2
 clear h1 h2
 go_enter Try.func41, Try.ntmps41
 go_wp2_with fail
 obtain ⟨w1, e1, X, hb1, hz1⟩ := box3 w 38 (.int .i64 x.kind) (.int .i64 x.num) (.slice sx x.kids.length cx)
 rw [e1]
 obtain ⟨w2, e2, Y, hb2, hz2⟩ := box3 w1 38 (.int .i64 y.kind) (.int .i64 y.num) (.slice sy y.kids.length cy)
 rw [e2]
 obtain ⟨w3, e3, R, hb3, hz3⟩ := box3 w2 38 (.int .i64 0) (.int .i64 0) (.slice none 0 0)
 rw [e3]
 rw [hz1] at Y
 rw [hz2, hz1] at R
 have hB := (hb1.trans (hb2.mono (by omega))).trans (hb3.mono (by omega))
 have HX := Lib.hid (exAt_box ((X.below hb2).below hb3) (hx.below hB))
 have HY := Lib.hid (exAt_box (Y.below hb3) (hy.below hB))
 clear e1 e2 e3 hb1 hb2 hb3 X Y hx hy
 refine (l01Own_e HX.out H1.out).mono ?_
 rintro f w4 ⟨s4, c4, rfl, hf4, hb4⟩
 replace R := R.below hb4
 have hz4 := hb4.size
 replace hB := Below.on hB hb4 hB.size
 have HY4 := Lib.hid (HY.out.below hb4)
 have HF4 := Lib.hid hf4
 clear hf4 hb4
 go_wp2_with fail
 refine (l01Own_e HY4.out H2.out).mono ?_
 rintro f w5 ⟨s5, c5, rfl, hf5, hb5⟩
 replace R := R.below hb5
 have hz5 := hb5.size
 have HJ := Lib.hid (fresh_join HF4.out (fun i _ hi => hb5.block i hi) hf5 (by omega))
 replace hB := Below.on hB hb5 hB.size
 clear hf5 hb5
 go_wp2_with fail
 refine (l02Pair_i).mono ?_
 rintro f w6 ⟨g, rfl, hg, G, hb⟩
 have hz6 := hb.size
 replace R := R.below hb
 have HJ3 := Lib.hid (two_fresh HJ.out hb (by omega) hg G)
 replace hB := Below.on hB hb hB.size
 have hzB := hB.size
 clear hb G
 obtain ⟨rr0, rr1, rr2, rf0, rf1, rf2, ltR⟩ := R.all3
 go_wp2_with fail
 obtain ⟨w9, e9, R9, hs9⟩ := set3' R (.int .i64 k) (.int .i64 0) (.slice (some ⟨g, 0, none⟩) 2 2)
 rw [e9]
 obtain ⟨r0, r1, r2, -, -, -, -⟩ := R9.all3
 have hf9 := HJ3.out.keep fun y hy1 hy2 => hs9.block y hy2 (by omega)
 refine bodyPost_ret (v := .agg #[.int .i64 k, .int .i64 0, .slice (some ⟨g, 0, none⟩) 2 2]) (by simp [results, Try.results41, go_sem, r0, r1, r2]) rfl ?_
 exact ⟨_, _, rfl, hf9.from (by omega), hB.trans (hs9.below (by omega) (fun i hi => by omega))⟩
set_option maxHeartbeats 4000000 in
theorem a2Star_i {x : Ex} {sx : Option Addr} {cx : Nat} {w : World} (hx : Rd w (kidsD x.kids) (.slice sx x.kids.length cx)) (h1 : x.size ≤ 1073741824) :
  Calls Try.prog 42 #[.agg #[.int .i64 x.kind, .int .i64 x.num, .slice sx x.kids.length cx]] w fun f w' => ∃ s c, f = .returned (.agg #[.int .i64 8, .int .i64 0, .slice s 1 c]) ∧ Freshs w w' [kidsD [x]] [.slice s 1 c] ∧ Below w.heap.size w w' := by
 have H1 := Lib.hid h1
 clear h1
 go_enter Try.func42, Try.ntmps42
 go_wp2_with fail
 obtain ⟨w1, e1, X, hb1, hz1⟩ := box3 w 38 (.int .i64 x.kind) (.int .i64 x.num) (.slice sx x.kids.length cx)
 rw [e1]
 obtain ⟨w3, e3, R, hb3, hz3⟩ := box3 w1 38 (.int .i64 0) (.int .i64 0) (.slice none 0 0)
 rw [e3]
 rw [hz1] at R
 have hB := hb1.trans (hb3.mono (by omega))
 have HX := Lib.hid (exAt_box (X.below hb3) (hx.below hB))
 clear e1 e3 hb1 hb3 X hx
 refine (l01Own_e HX.out H1.out).mono ?_
 rintro f w4 ⟨s4, c4, rfl, hf4, hb4⟩
 replace R := R.below hb4
 have hz4 := hb4.size
 replace hB := Below.on hB hb4 hB.size
 have hzB := hB.size
 have HF4 := Lib.hid hf4
 clear hf4 hb4
 obtain ⟨rr0, rr1, rr2, rf0, rf1, rf2, ltR⟩ := R.all3
 go_wp2_with fail
 obtain ⟨w9, e9, R9, hf9, hs9⟩ := kid_end (k := 8) R (by omega) (by omega) HF4.out
 rw [e9]
 obtain ⟨r0, r1, r2, -, -, -, -⟩ := R9.all3
 refine bodyPost_ret (v := .agg #[.int .i64 8, .int .i64 0, .slice (some ⟨w4.heap.size, 0, none⟩) 1 1]) (by simp [results, Try.results42, go_sem, r0, r1, r2]) rfl ?_
 exact ⟨_, _, rfl, hf9.from (by omega), hB.trans (hs9.below (by omega) (fun i hi => by omega))⟩
end Go.Proofs.Ytbflhjjnemdecaa

namespace Go.Proofs.Ytbflhjjnemdecaa
set_option linter.unusedVariables false
set_option linter.unusedSimpArgs false
open Go.ChangeShapes Go.WideShapes Go.ChangeAt Go.RowKit Go.Deep Go.Sort
structure Later (w : World) (F : World → Prop) : Prop where
 ok : ∀ w', Below w.heap.size w w' → F w'
theorem Later.now {w : World} {F : World → Prop} (h : Later w F) : F w := h.ok w (Below.refl _ _)
theorem Later.on {w w' : World} {F : World → Prop} (h : Later w F) (hb : Below w.heap.size w w') : Later w' F := ⟨fun w2 k => h.ok w2 (hb.trans (k.mono hb.size))⟩
theorem Later.and {w : World} {F G : World → Prop} (h : Later w F) (k : Later w G) : Later w (fun w => F w ∧ G w) := ⟨fun w' b => ⟨h.ok w' b, k.ok w' b⟩⟩
theorem Later.rd {w : World} {d : D} {v : Value} (h : Rd w d v) : Later w (fun w => Rd w d v) := ⟨fun _ b => h.below b⟩
theorem Later.blk {w : World} {g t : Nat} {cur : List Value} (h : Blk w g t cur) : Later w (fun w => Blk w g t cur) := ⟨fun _ b => h.below b⟩
theorem Freshs.rd1 {w w' : World} {d : D} {v : Value} (h : Freshs w w' [d] [v]) : Rd w' d v := h.rds.one
set_option maxRecDepth 10000
section
variable {H : Type} {enc : TypeId × Value → H} {W : World} {base : Nat} {sp : Nat → Bool} {hd : Bool} {v : Value} {d : DataW H} {ps : List MemPlace}
theorem cells_uint8 : Try.prog.cellsOf 5 = 1 := by kernel_rfl
theorem open_byteS {r : Reach} {b0 : Nat} (hval : Value.okWide Try.prog W r b0 62 v) (h : DataW.Trod enc Try.prog W base sp hd 62 v d ps) :
  ∃ (zs : List Int) (s : Option Addr) (cap : Nat), v = .slice s zs.length cap ∧ Rd W (bytesD zs) (.slice s zs.length cap) ∧ ∀ x ∈ zs, 0 ≤ x ∧ x ≤ 255 := by
 obtain ⟨a, len, cap, rfl⟩ := okWide_slice Try.underlying62 hval
 obtain ⟨fuel, hf⟩ := h
 obtain ⟨v', zs, e, hr, hz⟩ := open_bytes Try.underlying62 Try.underlying5 cells_uint8 hf
 have e3 : v' = .slice a len cap := by simpa [Value.cells] using e.symm
 subst e3
 obtain ⟨rfl, _⟩ := hr.sl_at
 exact ⟨zs, a, cap, rfl, hr, hz⟩
end
theorem size_pairE {k : Int} {x y e : Ex} (h : e = .mk k 0 [x, y]) : e.size = 1 + x.size + y.size := by rw [h, Ex.size_eq]; simp only [Ex.kids, Ex.sizeL]; omega
theorem size_starE {x e : Ex} (h : e = .mk 8 0 [x]) : e.size = 1 + x.size := by rw [h, Ex.size_eq]; simp only [Ex.kids, Ex.sizeL]; omega
end Go.Proofs.Ytbflhjjnemdecaa

namespace Go.Proofs.Ytbflhjjnemdecaa
set_option linter.unusedVariables false
set_option linter.unusedSimpArgs false
open Go.ChangeShapes Go.WideShapes Go.ChangeAt Go.RowKit Go.Deep Go.Sort
theorem FreshIn.rd {p : Nat × Nat} {w : World} {d : D} {v : Value} (h : FreshIn p w [d] [v]) : Rd w d v := by
 obtain ⟨F, h1, -, -⟩ := h
 exact Rds.one h1.rds
theorem from_j {B : Nat} {xs : List Int} {s : Option Addr} {c : Nat} {w : World} (hr : RdX (fun i => B ≤ i) w (bytesD xs) (.slice s xs.length c)) (hx : ∀ x ∈ xs, 0 ≤ x ∧ x ≤ 255) (hB : B ≤ w.heap.size) :
  Calls Try.prog 81 #[.slice s xs.length c] w fun f w' => ∃ b, f = .returned (.pointer (some ⟨b, 0, none⟩)) ∧ w.heap.size ≤ b ∧ SrcW B b 0 w' ∧ Below w.heap.size w w' := by
 go_enter Try.func81, Try.ntmps81
 go_wp2_with fail
 obtain ⟨w1, e1, K, hb, hz⟩ := box3 w 155 (.slice s xs.length c) (.int .i64 0) (.int .u64 0)
 rw [e1]
 go_ret
 exact ⟨_, rfl, Nat.le_refl _, ⟨by omega, xs, s, c, 0, 0, K, hr.below hb, hx, Nat.le_refl _⟩, hb⟩
end Go.Proofs.Ytbflhjjnemdecaa
