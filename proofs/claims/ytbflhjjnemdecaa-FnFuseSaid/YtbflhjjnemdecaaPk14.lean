/-
  Parts of a proof, joined: Draw. No condition.
-/
import Derived.Test.YtbflhjjnemdecaaPk13
namespace Go.Proofs.Ytbflhjjnemdecaa
set_option linter.unusedVariables false
set_option linter.unusedSimpArgs false
open Go.ChangeShapes Go.WideShapes Go.ChangeAt Go.RowKit Go.Deep Go.Sort
def GenW (B b r N : Nat) (t a left : Int) (w : World) : Prop := Blk w r 164 [.pointer (some ⟨b, 0, none⟩), .int .i64 t, .int .i64 a, .int .i64 left] ∧ SrcW B b N w ∧ r ≠ b ∧ B ≤ r
def DrewG (B b r N : Nat) (t a left : Int) (w w' : World) : Prop := GenW B b r N t a left w' ∧ Spares (fun i => i = b ∨ i = r) w w'
theorem DrewG.size {B b r N : Nat} {t a left : Int} {w w' : World} (h : DrewG B b r N t a left w w') : w.heap.size ≤ w'.heap.size := h.2.size
theorem GenW.drew {B b r N M : Nat} {t a left : Int} {w w' : World} (h : GenW B b r N t a left w) (k : Drew B b M w w') : DrewG B b r M t a left w w' :=
 ⟨⟨k.blk h.1 h.2.2.1, k.1, h.2.2⟩, k.2.more fun _ h => Or.inl h⟩
theorem GenW.self {B b r N : Nat} {t a left : Int} {w : World} (h : GenW B b r N t a left w) : DrewG B b r N t a left w w := ⟨h, Spares.refl _⟩
theorem DrewG.trans {B b r N M : Nat} {t a left left' : Int} {w w1 w2 : World} (h : DrewG B b r N t a left w w1) (k : DrewG B b r M t a left' w1 w2) : DrewG B b r M t a left' w w2 := ⟨k.1, h.2.trans k.2⟩
theorem DrewG.on {B b r N : Nat} {t a left : Int} {w w1 w2 : World} (h : DrewG B b r N t a left w w1) (k : Below w1.heap.size w1 w2) : DrewG B b r N t a left w w2 := ⟨⟨h.1.1.below k, h.1.2.1.below k, h.1.2.2⟩, h.2.trans (Spares.of_below k)⟩
theorem DrewG.more {B b r N M : Nat} {t a left : Int} {w w1 : World} (h : DrewG B b r N t a left w w1) (hM : N ≤ M) : DrewG B b r M t a left w w1 := ⟨⟨h.1.1, h.1.2.1.more hM, h.1.2.2⟩, h.2⟩
theorem DrewG.blk {B b r N : Nat} {t a left : Int} {w w' : World} (h : DrewG B b r N t a left w w') {g ty : Nat} {cs : List Value} (k : Blk w g ty cs) (h1 : g ≠ b) (h2 : g ≠ r) : Blk w' g ty cs := k.keep (h.2.block _ k.lt (fun q => q.elim h1 h2))
theorem DrewG.set {B b r N : Nat} {t a left : Int} {w w1 w2 : World} (h : DrewG B b r N t a left w w1) {g : Nat} (k : Spares (fun i => i = g) w1 w2) (hg : w.heap.size ≤ g) (hB : B ≤ w.heap.size) (hb : b < w.heap.size) (hr : r < w.heap.size) : DrewG B b r N t a left w w2 := by
 have hz := h.size
 refine ⟨⟨h.1.1.keep (k.block _ (by omega) (by omega)), h.1.2.1.keep (k.below (by omega) (fun i hi => by omega)) (k.block _ (by omega) (by omega)), h.1.2.2⟩, ?_⟩
 exact ⟨k.os.trans h.2.os, k.tape.trans h.2.tape, k.output.trans h.2.output, Nat.le_trans hz k.size, fun i hi hn => (k.block i (by omega) (by omega)).trans (h.2.block i hi hn)⟩
theorem set3' {w : World} {g t : Nat} {a b c : Value} (h : Blk w g t [a, b, c]) (x y z : Value) : ∃ w', ((w.setCell ⟨g, 0, none⟩ x).setCell ⟨g, 1, none⟩ y).setCell ⟨g, 2, none⟩ z = w' ∧ Blk w' g t [x, y, z] ∧ Spares (fun i => i = g) w w' :=
 ⟨_, rfl, ((h.set 0 x).set 1 y).set 2 z, Spares.set (Spares.set (Spares.set (Spares.refl w)))⟩
theorem leaf_tree {tm am k n : Int} (h : (k = 1 ∨ k = 2) ∧ n = 0 ∨ k = 3 ∧ 0 ≤ n ∧ n ≤ tm ∨ k = 4 ∧ 0 ≤ n ∧ n ≤ am) : (Ex.mk k n []).tree tm am = true := by
 rcases h with ⟨rfl | rfl, rfl⟩ | ⟨rfl, h1, h2⟩ | ⟨rfl, h1, h2⟩ <;> simp [Ex.tree, Ex.treeL, nodeB, kidsN, numB, inB] <;> omega
theorem leaf_cond {k n : Int} (h : k = 1 ∨ k = 2 ∨ k = 3) : (Ex.mk k n []).cond = true := by
 rcases h with rfl | rfl | rfl <;> simp [Ex.cond, Ex.condL, condKind]
structure PickZ (n : Int) (N : Nat) where
 v : Int
 p : Nat
 y : Int
 h0 : 0 ≤ v
 h1 : v < n ∨ v = 0
 hp : p ≤ N
theorem pick_at {B b N : Nat} {n : Int} {xs : List Int} {s : Option Addr} {c : Nat} {w : World} (h : SrcV B b xs s c N w) (hN : N < 1000000000000) (hn : n ≤ 200) :
  Calls Try.prog 82 #[.pointer (some ⟨b, 0, none⟩), .int .i64 n] w fun f w' => ∃ u : PickZ n (N + 1), f = .returned (.int .i64 u.v) ∧ Freshs w w' [] [] ∧ Spares (fun i => i = b) w w' ∧ Blk w' b 155 [.slice s xs.length c, .int .i64 u.p, .int .u64 u.y] := by
 refine (pick_v h hN hn).mono ?_
 rintro f w' ⟨u, rfl, u0, u1, ⟨h0, p', z', k1, k2, k3, k4⟩, hs⟩
 exact ⟨⟨u, p', z', u0, u1, k4⟩, rfl, Freshs.nil, hs, k1⟩
set_option maxHeartbeats 4000000 in
theorem genLeaf_i {B b r N : Nat} {t a left : Int} {cond : Bool} {w : World} (h : GenW B b r N t a left w) (hN : N < 100000000000) (hB : B ≤ w.heap.size) (hs : sigB t a = true) :
  Calls Try.prog 156 #[.pointer (some ⟨r, 0, none⟩), .bool cond] w fun f w' => ∃ k n : Int, f = .returned (.agg #[.int .i64 k, .int .i64 n, .slice none 0 0]) ∧ (Ex.mk k n []).tree (t - 1) (a - 1) = true ∧ (cond = true → (Ex.mk k n []).cond = true) ∧ DrewG B b r (N + 3) t a left w w' := by
 have hbw := h.2.1.lt
 have hrw := h.1.lt
 obtain ⟨ht0, ht3, ha0, ha4⟩ := sigB_bd hs
 have D := h.self
 obtain ⟨g0, g1, g2, g3, ltg⟩ : w.cell? ⟨r, 0, none⟩ = some (.pointer (some ⟨b, 0, none⟩)) ∧ w.cell? ⟨r, 1, none⟩ = some (.int .i64 t) ∧ w.cell? ⟨r, 2, none⟩ = some (.int .i64 a) ∧ w.cell? ⟨r, 3, none⟩ = some (.int .i64 left) ∧ r < w.heap.size := ⟨D.1.1.c0, D.1.1.c1, D.1.1.c2, D.1.1.c3, D.1.1.lt⟩
 cases cond
 ·
  by_cases hap : 0 < a
  ·
   go_enter Try.func156, Try.ntmps156
   go_wp2_with fail
   obtain ⟨w1, e1, R, hb1, hz1⟩ := box3 w 38 (.int .i64 0) (.int .i64 0) (.slice none 0 0)
   rw [e1]
   replace D := D.on hb1
   have hzb1 := hb1.size
   clear hb1 e1 g0 g1 g2 g3 ltg
   obtain ⟨g0, g1, g2, g3, ltg⟩ : w1.cell? ⟨r, 0, none⟩ = some (.pointer (some ⟨b, 0, none⟩)) ∧ w1.cell? ⟨r, 1, none⟩ = some (.int .i64 t) ∧ w1.cell? ⟨r, 2, none⟩ = some (.int .i64 a) ∧ w1.cell? ⟨r, 3, none⟩ = some (.int .i64 left) ∧ r < w1.heap.size := ⟨D.1.1.c0, D.1.1.c1, D.1.1.c2, D.1.1.c3, D.1.1.lt⟩
   refine (one_i D.1.2.1 (by omega) (by omega)).mono ?_
   rintro f wu ⟨u, rfl, D1⟩
   replace R := D1.blk R (by omega)
   replace D := D.trans (D.1.drew D1)
   have hzwu := D1.size
   clear D1 g0 g1 g2 g3 ltg
   obtain ⟨g0, g1, g2, g3, ltg⟩ : wu.cell? ⟨r, 0, none⟩ = some (.pointer (some ⟨b, 0, none⟩)) ∧ wu.cell? ⟨r, 1, none⟩ = some (.int .i64 t) ∧ wu.cell? ⟨r, 2, none⟩ = some (.int .i64 a) ∧ wu.cell? ⟨r, 3, none⟩ = some (.int .i64 left) ∧ r < wu.heap.size := ⟨D.1.1.c0, D.1.1.c1, D.1.1.c2, D.1.1.c3, D.1.1.lt⟩
   cases u
   ·
    skip
    go_wp2_with fail
    clear g0 g1 g2 g3 ltg
    obtain ⟨sb, rfl⟩ : ∃ v, v = b := ⟨_, rfl⟩
    obtain ⟨xs, s, c, hSV⟩ := D.1.2.1.v
    obtain ⟨hb0, p, z, KS, hrx, hxs, hpN⟩ := hSV
    have hBw := hB
    have hRz := R.lt
    have HG := Lib.hid D.1.1
    have HRX := Lib.hid hrx
    have HXS := Lib.hid hxs
    have HD := Lib.hid D
    have hnb := D.1.2.2.1
    have hBr := D.1.2.2.2
    have hzD := D.size
    clear D hrx hxs
    obtain ⟨x0, hx0⟩ := mkval ?a1_0
    obtain ⟨x1, hx1⟩ := mkval ?a1_1
    obtain ⟨x2, hx2⟩ := mkval ?a1_2
    obtain ⟨x3, hx3⟩ := mkval ?a1_3
    obtain ⟨x4, hx4⟩ := mkval ?a1_4
    obtain ⟨x5, hx5⟩ := mkval ?a1_5
    obtain ⟨x6, hx6⟩ := mkval ?a1_6
    obtain ⟨x7, hx7⟩ := mkval ?a1_7
    obtain ⟨x8, hx8⟩ := mkval ?a1_8
    have hGb : ∀ m b, (fun m b => (m = 0 ∧ b = sb) ∨ (m = 1 ∧ b = w.heap.size)) m b → (B) ≤ b ∧ b < (wu).heap.size := by
     intro m b hg
     rcases hg with ⟨rfl, hg⟩ | ⟨rfl, hg⟩
     ·
      subst hg
      have q := KS.lt
      omega
     ·
      subst hg
      have q := R.lt
      omega
    have hGd : ∀ m m' b, (fun m b => (m = 0 ∧ b = sb) ∨ (m = 1 ∧ b = w.heap.size)) m b → (fun m b => (m = 0 ∧ b = sb) ∨ (m = 1 ∧ b = w.heap.size)) m' b → m = m' := by
     intro m m' b h h'
     rcases h with ⟨rfl, h⟩ | ⟨rfl, h⟩ <;> rcases h' with ⟨rfl, h'⟩ | ⟨rfl, h'⟩ <;> first
      | rfl
      | (exfalso; omega)
    refine region_rs [] [(9, 0), (11, 1)] (fun m b => (m = 0 ∧ b = sb) ∨ (m = 1 ∧ b = w.heap.size)) (B) (fun i iv vs wx => match i with
     | 0 => vs 0 = x0
     | 1 => vs 1 = x1
     | 2 => vs 2 = x2
     | 3 => vs 3 = x3
     | 4 => vs 4 = x4
     | 5 => vs 5 = x5
     | 6 => vs 6 = x6
     | 7 => vs 7 = x7
     | 8 => vs 8 = x8
     | 9 => ∃ u, vs 9 = .int .i64 (PickZ.v (n := a) (N := N + 1 + 1) u) ∧ FreshIn (iv 9) wx [] [] ∧ Blk wx (sb) 155 [.slice s xs.length c, .int .i64 u.p, .int .u64 u.y]
     | 10 => vs 10 = .agg #[.int .i64 4, vs 9, .slice none 0 0]
     | 11 => Blk wx (w.heap.size) 38 [aggAt (vs 10) 0, aggAt (vs 10) 1, aggAt (vs 10) 2]
     | _ => True) (fun i iv vs => match i with
     | 0 => vs 0 = x0
     | 1 => vs 1 = x1
     | 2 => vs 2 = x2
     | 3 => vs 3 = x3
     | 4 => vs 4 = x4
     | 5 => vs 5 = x5
     | 6 => vs 6 = x6
     | 7 => vs 7 = x7
     | 8 => vs 8 = x8
     | 9 => ∃ u, vs 9 = .int .i64 (PickZ.v (n := a) (N := N + 1 + 1) u)
     | 10 => vs 10 = .agg #[.int .i64 4, vs 9, .slice none 0 0]
     | 11 => True
     | _ => True) (by kernel_rfl) (by kernel_rfl) [0, 1, 2, 3, 4, 5, 6, 7, 8, 9, 10, 11] (by kernel_rfl) ?hbase ?hGb ?hG ?hJ ?hE ?hEE ?hstep ?hQ
    case hbase => first | exact Nat.le_refl _ | omega | (simp; omega)
    case hGb =>
     exact hGb
    case hG =>
     exact hGd
    case hJ =>
     intro i hi iv iv' vs vs' wx wx' ha hv hz hk hj
     simp only [List.mem_cons, List.not_mem_nil, or_false] at hi
     rcases hi with rfl | rfl | rfl | rfl | rfl | rfl | rfl | rfl | rfl | rfl | rfl | rfl
     ·
      exact (hv.out 0 (mem_of (by kernel_rfl))).symm.trans hj
     ·
      exact (hv.out 1 (mem_of (by kernel_rfl))).symm.trans hj
     ·
      exact (hv.out 2 (mem_of (by kernel_rfl))).symm.trans hj
     ·
      exact (hv.out 3 (mem_of (by kernel_rfl))).symm.trans hj
     ·
      exact (hv.out 4 (mem_of (by kernel_rfl))).symm.trans hj
     ·
      exact (hv.out 5 (mem_of (by kernel_rfl))).symm.trans hj
     ·
      exact (hv.out 6 (mem_of (by kernel_rfl))).symm.trans hj
     ·
      exact (hv.out 7 (mem_of (by kernel_rfl))).symm.trans hj
     ·
      exact (hv.out 8 (mem_of (by kernel_rfl))).symm.trans hj
     ·
      have e9 := hv.out 9 (mem_of (by kernel_rfl))
      have g9 := ha.out 9 (mem_of (by kernel_rfl))
      obtain ⟨u, q1, q2, q3⟩ := hj
      exact ⟨u, e9 ▸ q1, g9 ▸ q2.keep (fun b hb h1 h2 => hk.out b hb (foot_own h1 h2)), q3.keep (hk.out _ q3.lt (foot_given 0 (by decide) (Or.inl ⟨rfl, rfl⟩)))⟩
     ·
      have e9 := hv.out 9 (mem_of (by kernel_rfl))
      have e10 := hv.out 10 (mem_of (by kernel_rfl))
      have hj' : vs 10 = .agg #[.int .i64 4, vs 9, .slice none 0 0] := hj
      show vs' 10 = .agg #[.int .i64 4, vs' 9, .slice none 0 0]
      rw [← e9, ← e10]
      exact hj'
     ·
      have e10 := hv.out 10 (mem_of (by kernel_rfl))
      have hj' : Blk wx (w.heap.size) 38 [aggAt (vs 10) 0, aggAt (vs 10) 1, aggAt (vs 10) 2] := hj
      show Blk wx' (w.heap.size) 38 [aggAt (vs' 10) 0, aggAt (vs' 10) 1, aggAt (vs' 10) 2]
      rw [← e10]
      exact hj'.keep (hk.out _ hj'.lt (foot_given 1 (by decide) (Or.inr ⟨rfl, rfl⟩)))
    case hE =>
     intro i hi iv vs wx hj
     simp only [List.mem_cons, List.not_mem_nil, or_false] at hi
     rcases hi with rfl | rfl | rfl | rfl | rfl | rfl | rfl | rfl | rfl | rfl | rfl | rfl
     ·
      exact hj
     ·
      exact hj
     ·
      exact hj
     ·
      exact hj
     ·
      exact hj
     ·
      exact hj
     ·
      exact hj
     ·
      exact hj
     ·
      exact hj
     ·
      obtain ⟨u, q1, -⟩ := hj
      exact ⟨u, q1⟩
     ·
      exact hj
     ·
      trivial
    case hEE =>
     intro i hi iv iv' vs vs' ha hv hj
     simp only [List.mem_cons, List.not_mem_nil, or_false] at hi
     rcases hi with rfl | rfl | rfl | rfl | rfl | rfl | rfl | rfl | rfl | rfl | rfl | rfl
     ·
      exact (hv.out 0 (mem_of (by kernel_rfl))).symm.trans hj
     ·
      exact (hv.out 1 (mem_of (by kernel_rfl))).symm.trans hj
     ·
      exact (hv.out 2 (mem_of (by kernel_rfl))).symm.trans hj
     ·
      exact (hv.out 3 (mem_of (by kernel_rfl))).symm.trans hj
     ·
      exact (hv.out 4 (mem_of (by kernel_rfl))).symm.trans hj
     ·
      exact (hv.out 5 (mem_of (by kernel_rfl))).symm.trans hj
     ·
      exact (hv.out 6 (mem_of (by kernel_rfl))).symm.trans hj
     ·
      exact (hv.out 7 (mem_of (by kernel_rfl))).symm.trans hj
     ·
      exact (hv.out 8 (mem_of (by kernel_rfl))).symm.trans hj
     ·
      have e9 := hv.out 9 (mem_of (by kernel_rfl))
      have hj' : ∃ u, vs 9 = .int .i64 (PickZ.v (n := a) (N := N + 1 + 1) u) := hj
      show ∃ u, vs' 9 = .int .i64 (PickZ.v (n := a) (N := N + 1 + 1) u)
      rw [← e9]
      exact hj'
     ·
      have e9 := hv.out 9 (mem_of (by kernel_rfl))
      have e10 := hv.out 10 (mem_of (by kernel_rfl))
      have hj' : vs 10 = .agg #[.int .i64 4, vs 9, .slice none 0 0] := hj
      show vs' 10 = .agg #[.int .i64 4, vs' 9, .slice none 0 0]
      rw [← e9, ← e10]
      exact hj'
     ·
      trivial
    case hstep =>
     intro i hi opr ho iv vs w1 hB hS hSo hd he hbd hsep hun K hK
     simp only [List.mem_cons, List.not_mem_nil, or_false] at hi
     have hzB := hB.size
     have HGb := Lib.hid hGb
     clear hGb hGd
     have hGr := hSo.out.block r HG.out.lt (fun ⟨m, hm⟩ => by rcases hm with ⟨_, h⟩ | ⟨_, h⟩ <;> omega)
     have G1 := HG.out.keep hGr
     have g0 := G1.c0
     have g1 := G1.c1
     have g2 := G1.c2
     have ltg := G1.lt
     clear hGr G1
     generalize hA : putFrom _ 0 vs _ = A at hK ⊢
     simp only [putFrom, puts] at hA
     rcases hi with rfl | rfl | rfl | rfl | rfl | rfl | rfl | rfl | rfl | rfl | rfl | rfl
     all_goals
      simp at ho
      subst ho
      subst hA
     ·
      go_wp2_with fail
      refine Onward.mk (hK ?val1_0 _ _ (fun h => by cases h) ?eqA (Spares.refl _) (fun iv' _ _ => ?ja))
      case eqA => first | rfl | (simp only [puts]; rfl)
      case ja => exact hx0.out.symm
     ·
      have h0 := (hd.out 0 (mem_of (by kernel_rfl)) (by decide) (by kernel_rfl)).trans hx0.out
      go_wp2_with fail
      refine Onward.mk (hK ?val1_1 _ _ (fun h => by cases h) ?eqA (Spares.refl _) (fun iv' _ _ => ?ja))
      case eqA => first | rfl | (simp only [puts, h0]; rfl)
      case ja => exact hx1.out.symm
     ·
      have h1 := (hd.out 1 (mem_of (by kernel_rfl)) (by decide) (by kernel_rfl)).trans hx1.out
      go_wp2_with fail
      refine Onward.mk (hK ?val1_2 _ _ (fun h => by cases h) ?eqA (Spares.refl _) (fun iv' _ _ => ?ja))
      case eqA => first | rfl | (simp only [puts, h1]; rfl)
      case ja => exact hx2.out.symm
     ·
      have h2 := (hd.out 2 (mem_of (by kernel_rfl)) (by decide) (by kernel_rfl)).trans hx2.out
      go_wp2_with fail
      refine Onward.mk (hK ?val1_3 _ _ (fun h => by cases h) ?eqA (Spares.refl _) (fun iv' _ _ => ?ja))
      case eqA => first | rfl | (simp only [puts, h2]; rfl)
      case ja => exact hx3.out.symm
     ·
      go_wp2_with fail
      refine Onward.mk (hK ?val1_4 _ _ (fun h => by cases h) ?eqA (Spares.refl _) (fun iv' _ _ => ?ja))
      case eqA => first | rfl | (simp only [puts]; rfl)
      case ja => exact hx4.out.symm
     ·
      have h4 := (hd.out 4 (mem_of (by kernel_rfl)) (by decide) (by kernel_rfl)).trans hx4.out
      go_wp2_with fail
      refine Onward.mk (hK ?val1_5 _ _ (fun h => by cases h) ?eqA (Spares.refl _) (fun iv' _ _ => ?ja))
      case eqA => first | rfl | (simp only [puts, h4]; rfl)
      case ja => exact hx5.out.symm
     ·
      have h5 := (hd.out 5 (mem_of (by kernel_rfl)) (by decide) (by kernel_rfl)).trans hx5.out
      go_wp2_with fail
      refine Onward.mk (hK ?val1_6 _ _ (fun h => by cases h) ?eqA (Spares.refl _) (fun iv' _ _ => ?ja))
      case eqA => first | rfl | (simp only [puts, h5]; rfl)
      case ja => exact hx6.out.symm
     ·
      have h6 := (hd.out 6 (mem_of (by kernel_rfl)) (by decide) (by kernel_rfl)).trans hx6.out
      go_wp2_with fail
      refine Onward.mk (hK ?val1_7 _ _ (fun h => by cases h) ?eqA (Spares.refl _) (fun iv' _ _ => ?ja))
      case eqA => first | rfl | (simp only [puts, h6]; rfl)
      case ja => exact hx7.out.symm
     ·
      have h7 := (hd.out 7 (mem_of (by kernel_rfl)) (by decide) (by kernel_rfl)).trans hx7.out
      go_wp2_with fail
      refine Onward.mk (hK ?val1_8 _ _ (fun h => by cases h) ?eqA (Spares.refl _) (fun iv' _ _ => ?ja))
      case eqA => first | rfl | (simp only [puts, h7]; rfl)
      case ja => exact hx8.out.symm
     ·
      have h3 := (hd.out 3 (mem_of (by kernel_rfl)) (by decide) (by kernel_rfl)).trans hx3.out
      have h8 := (hd.out 8 (mem_of (by kernel_rfl)) (by decide) (by kernel_rfl)).trans hx8.out
      have KS1 := KS.keep (hS.out 0 _ (by kernel_rfl) (Or.inl ⟨rfl, rfl⟩))
      have ksc0 := KS1.c0
      have ksz0 := KS1.frozen 0
      have ksc1 := KS1.c1
      have ksz1 := KS1.frozen 1
      have ksc2 := KS1.c2
      have ksz2 := KS1.frozen 2
      have kslt := KS1.lt
      go_wp2_with fail
      refine (pick_at (n := a) (N := N + 1) (c := c) ⟨hb0, p, z, KS1, HRX.out.keep ⟨hB.size, fun i hi hn => hB.block i (by omega)⟩, HXS.out, by omega⟩ (by omega) (by omega)).mono ?_
      rintro e w2 ⟨u, rfl, hf, hs, hbk⟩
      go_wp2_with fail
      exact Onward.mk (hK (.int .i64 (PickZ.v (n := a) (N := N + 1 + 1) u)) _ _ (fun h => by cases h) (by first | rfl | (simp only [puts, h3, h8])) (hs.more (fun b h => Or.inl ⟨0, by decide, (Or.inl ⟨rfl, h⟩)⟩)) (fun iv' _ hi => ⟨u, rfl, by rw [hi]; exact Freshs.stretch (hf), hbk⟩))
     ·
      obtain ⟨u, h9, f9, fb9⟩ := hd.out 9 (mem_of (by kernel_rfl)) (by decide) (by kernel_rfl)
      go_wp2_with fail
      exact Onward.mk (hK (.agg #[.int .i64 4, .int .i64 u.v, .slice none 0 0]) _ _ (fun h => by cases h) (by first | rfl | (simp only [puts, h9])) (Spares.refl _) (fun iv' _ _ => by
       show (.agg #[.int .i64 4, .int .i64 u.v, .slice none 0 0] : Value) = .agg #[.int .i64 4, vs 9, .slice none 0 0]
       simp only [h9]))
     ·
      have h10 : vs 10 = .agg #[.int .i64 4, vs 9, .slice none 0 0] := hd.out 10 (mem_of (by kernel_rfl)) (by decide) (by kernel_rfl)
      obtain ⟨u, h9⟩ := he.out 9 (mem_of (by kernel_rfl)) (by decide)
      have R1 := R.keep (hS.out 1 _ (by kernel_rfl) (Or.inr ⟨rfl, rfl⟩))
      have rc0 := R1.c0
      have rz0 := R1.frozen 0
      have rc1 := R1.c1
      have rz1 := R1.frozen 1
      have rc2 := R1.c2
      have rz2 := R1.frozen 2
      have rlt := R1.lt
      replace h10 : vs 10 = .agg #[.int .i64 4, .int .i64 u.v, .slice none 0 0] := by rw [h10, h9]
      go_wp2_with fail
      exact Onward.mk (hK undef _ _ (fun _ => rfl) (by simp only [puts, h10, h9]) ((spares_sets (b0 := w.heap.size) (by repeat (first | exact Spares.refl _ | apply Spares.set))).more (fun b h => Or.inl ⟨1, by decide, (Or.inr ⟨rfl, h⟩)⟩)) (fun iv' ag hi => by
       show Blk _ (w.heap.size) 38 [aggAt (vs 10) 0, aggAt (vs 10) 1, aggAt (vs 10) 2]
       rw [h10]
       exact (((R1.set 0 _).set 1 _).set 2 _)))
    case hQ =>
     intro iv vs wx hB hSp hd he hbd hsep
     have hzB := hB.size
     have h0 := (hd.out 0 (mem_of (by kernel_rfl)) (not_eaten (by kernel_rfl))).trans hx0.out
     have h1 := (hd.out 1 (mem_of (by kernel_rfl)) (not_eaten (by kernel_rfl))).trans hx1.out
     have h2 := (hd.out 2 (mem_of (by kernel_rfl)) (not_eaten (by kernel_rfl))).trans hx2.out
     have h3 := (hd.out 3 (mem_of (by kernel_rfl)) (not_eaten (by kernel_rfl))).trans hx3.out
     have h4 := (hd.out 4 (mem_of (by kernel_rfl)) (not_eaten (by kernel_rfl))).trans hx4.out
     have h5 := (hd.out 5 (mem_of (by kernel_rfl)) (not_eaten (by kernel_rfl))).trans hx5.out
     have h6 := (hd.out 6 (mem_of (by kernel_rfl)) (not_eaten (by kernel_rfl))).trans hx6.out
     have h7 := (hd.out 7 (mem_of (by kernel_rfl)) (not_eaten (by kernel_rfl))).trans hx7.out
     have h8 := (hd.out 8 (mem_of (by kernel_rfl)) (not_eaten (by kernel_rfl))).trans hx8.out
     obtain ⟨u, h9, f9, fb9⟩ := hd.out 9 (mem_of (by kernel_rfl)) (not_eaten (by kernel_rfl))
     have h10 : vs 10 = .agg #[.int .i64 4, vs 9, .slice none 0 0] := hd.out 10 (mem_of (by kernel_rfl)) (not_eaten (by kernel_rfl))
     have f11 : Blk _ (w.heap.size) 38 [aggAt (vs 10) 0, aggAt (vs 10) 1, aggAt (vs 10) 2] := hd.out 11 (mem_of (by kernel_rfl)) (not_eaten (by kernel_rfl))
     simp only [putFrom, puts]
     have k10 : vs 10 = .agg #[.int .i64 4, .int .i64 u.v, .slice none 0 0] := by rw [h10, h9]
     rw [k10] at f11
     simp only [aggAt] at f11
     have u0 := u.h0
     have u1 := u.h1
     have up := u.hp
     have hzx := hSp.out.size
     have hS' : SrcW B sb (N + 3) wx := ⟨hb0, xs, s, c, u.p, u.y, fb9, HRX.out.keep ⟨hB.size, fun i hi hn => hB.block i (by omega)⟩, HXS.out, by omega⟩
     have hG' := HG.out.keep (hSp.out.block r HG.out.lt (fun ⟨m, hm⟩ => by rcases hm with ⟨_, h⟩ | ⟨_, h⟩ <;> omega))
     have D9 : DrewG B sb r (N + 3) t a left w wx := ⟨⟨hG', hS', hnb, hBr⟩, hSp.out.os.trans HD.out.2.os, hSp.out.tape.trans HD.out.2.tape, hSp.out.output.trans HD.out.2.output, by omega, fun i hi hn => (hSp.out.block i (by omega) (fun ⟨m, hm⟩ => by rcases hm with ⟨_, h⟩ | ⟨_, h⟩ <;> omega)).trans (HD.out.2.block i hi hn)⟩
     have HD9 := Lib.hid D9
     obtain ⟨r0, r1, r2, -, -, -, -⟩ := f11.all3
     clear hd he hbd hsep hSp h0 h1 h2 h3 h4 h5 h6 h7 h8 h9 h10 k10 f9 fb9 f11 hB hS' hG' D9 KS R hGb hGd
     go_wp2_with fail
     refine bodyPost_ret (v := .agg #[.int .i64 4, .int .i64 u.v, .slice none 0 0]) (by simp [results, Try.results156, go_sem, r0, r1, r2]) rfl ?_
     exact ⟨_, _, rfl, leaf_tree (by omega), (fun h => by cases h), HD9.out⟩
   ·
    skip
    by_cases htp : 0 < t
    ·
     go_wp2_with fail
     refine (one_i D.1.2.1 (by omega) (by omega)).mono ?_
     rintro f wv ⟨v, rfl, D1⟩
     replace R := D1.blk R (by omega)
     replace D := D.trans (D.1.drew D1)
     have hzwv := D1.size
     clear D1 g0 g1 g2 g3 ltg
     obtain ⟨g0, g1, g2, g3, ltg⟩ : wv.cell? ⟨r, 0, none⟩ = some (.pointer (some ⟨b, 0, none⟩)) ∧ wv.cell? ⟨r, 1, none⟩ = some (.int .i64 t) ∧ wv.cell? ⟨r, 2, none⟩ = some (.int .i64 a) ∧ wv.cell? ⟨r, 3, none⟩ = some (.int .i64 left) ∧ r < wv.heap.size := ⟨D.1.1.c0, D.1.1.c1, D.1.1.c2, D.1.1.c3, D.1.1.lt⟩
     cases v
     ·
      skip
      go_wp2_with fail
      clear g0 g1 g2 g3 ltg
      obtain ⟨sb, rfl⟩ : ∃ v, v = b := ⟨_, rfl⟩
      obtain ⟨xs, s, c, hSV⟩ := D.1.2.1.v
      obtain ⟨hb0, p, z, KS, hrx, hxs, hpN⟩ := hSV
      have hBw := hB
      have hRz := R.lt
      have HG := Lib.hid D.1.1
      have HRX := Lib.hid hrx
      have HXS := Lib.hid hxs
      have HD := Lib.hid D
      have hnb := D.1.2.2.1
      have hBr := D.1.2.2.2
      have hzD := D.size
      clear D hrx hxs
      obtain ⟨x0, hx0⟩ := mkval ?a2_0
      obtain ⟨x1, hx1⟩ := mkval ?a2_1
      obtain ⟨x2, hx2⟩ := mkval ?a2_2
      obtain ⟨x3, hx3⟩ := mkval ?a2_3
      obtain ⟨x4, hx4⟩ := mkval ?a2_4
      obtain ⟨x5, hx5⟩ := mkval ?a2_5
      obtain ⟨x6, hx6⟩ := mkval ?a2_6
      obtain ⟨x7, hx7⟩ := mkval ?a2_7
      obtain ⟨x8, hx8⟩ := mkval ?a2_8
      have hGb : ∀ m b, (fun m b => (m = 0 ∧ b = sb) ∨ (m = 1 ∧ b = w.heap.size)) m b → (B) ≤ b ∧ b < (wv).heap.size := by
       intro m b hg
       rcases hg with ⟨rfl, hg⟩ | ⟨rfl, hg⟩
       ·
        subst hg
        have q := KS.lt
        omega
       ·
        subst hg
        have q := R.lt
        omega
      have hGd : ∀ m m' b, (fun m b => (m = 0 ∧ b = sb) ∨ (m = 1 ∧ b = w.heap.size)) m b → (fun m b => (m = 0 ∧ b = sb) ∨ (m = 1 ∧ b = w.heap.size)) m' b → m = m' := by
       intro m m' b h h'
       rcases h with ⟨rfl, h⟩ | ⟨rfl, h⟩ <;> rcases h' with ⟨rfl, h'⟩ | ⟨rfl, h'⟩ <;> first
        | rfl
        | (exfalso; omega)
      refine region_rs [] [(9, 0), (11, 1)] (fun m b => (m = 0 ∧ b = sb) ∨ (m = 1 ∧ b = w.heap.size)) (B) (fun i iv vs wx => match i with
       | 0 => vs 0 = x0
       | 1 => vs 1 = x1
       | 2 => vs 2 = x2
       | 3 => vs 3 = x3
       | 4 => vs 4 = x4
       | 5 => vs 5 = x5
       | 6 => vs 6 = x6
       | 7 => vs 7 = x7
       | 8 => vs 8 = x8
       | 9 => ∃ u, vs 9 = .int .i64 (PickZ.v (n := t) (N := N + 1 + 1 + 1) u) ∧ FreshIn (iv 9) wx [] [] ∧ Blk wx (sb) 155 [.slice s xs.length c, .int .i64 u.p, .int .u64 u.y]
       | 10 => vs 10 = .agg #[.int .i64 3, vs 9, .slice none 0 0]
       | 11 => Blk wx (w.heap.size) 38 [aggAt (vs 10) 0, aggAt (vs 10) 1, aggAt (vs 10) 2]
       | _ => True) (fun i iv vs => match i with
       | 0 => vs 0 = x0
       | 1 => vs 1 = x1
       | 2 => vs 2 = x2
       | 3 => vs 3 = x3
       | 4 => vs 4 = x4
       | 5 => vs 5 = x5
       | 6 => vs 6 = x6
       | 7 => vs 7 = x7
       | 8 => vs 8 = x8
       | 9 => ∃ u, vs 9 = .int .i64 (PickZ.v (n := t) (N := N + 1 + 1 + 1) u)
       | 10 => vs 10 = .agg #[.int .i64 3, vs 9, .slice none 0 0]
       | 11 => True
       | _ => True) (by kernel_rfl) (by kernel_rfl) [0, 1, 2, 3, 4, 5, 6, 7, 8, 9, 10, 11] (by kernel_rfl) ?hbase ?hGb ?hG ?hJ ?hE ?hEE ?hstep ?hQ
      case hbase => first | exact Nat.le_refl _ | omega | (simp; omega)
      case hGb =>
       exact hGb
      case hG =>
       exact hGd
      case hJ =>
       intro i hi iv iv' vs vs' wx wx' ha hv hz hk hj
       simp only [List.mem_cons, List.not_mem_nil, or_false] at hi
       rcases hi with rfl | rfl | rfl | rfl | rfl | rfl | rfl | rfl | rfl | rfl | rfl | rfl
       ·
        exact (hv.out 0 (mem_of (by kernel_rfl))).symm.trans hj
       ·
        exact (hv.out 1 (mem_of (by kernel_rfl))).symm.trans hj
       ·
        exact (hv.out 2 (mem_of (by kernel_rfl))).symm.trans hj
       ·
        exact (hv.out 3 (mem_of (by kernel_rfl))).symm.trans hj
       ·
        exact (hv.out 4 (mem_of (by kernel_rfl))).symm.trans hj
       ·
        exact (hv.out 5 (mem_of (by kernel_rfl))).symm.trans hj
       ·
        exact (hv.out 6 (mem_of (by kernel_rfl))).symm.trans hj
       ·
        exact (hv.out 7 (mem_of (by kernel_rfl))).symm.trans hj
       ·
        exact (hv.out 8 (mem_of (by kernel_rfl))).symm.trans hj
       ·
        have e9 := hv.out 9 (mem_of (by kernel_rfl))
        have g9 := ha.out 9 (mem_of (by kernel_rfl))
        obtain ⟨u, q1, q2, q3⟩ := hj
        exact ⟨u, e9 ▸ q1, g9 ▸ q2.keep (fun b hb h1 h2 => hk.out b hb (foot_own h1 h2)), q3.keep (hk.out _ q3.lt (foot_given 0 (by decide) (Or.inl ⟨rfl, rfl⟩)))⟩
       ·
        have e9 := hv.out 9 (mem_of (by kernel_rfl))
        have e10 := hv.out 10 (mem_of (by kernel_rfl))
        have hj' : vs 10 = .agg #[.int .i64 3, vs 9, .slice none 0 0] := hj
        show vs' 10 = .agg #[.int .i64 3, vs' 9, .slice none 0 0]
        rw [← e9, ← e10]
        exact hj'
       ·
        have e10 := hv.out 10 (mem_of (by kernel_rfl))
        have hj' : Blk wx (w.heap.size) 38 [aggAt (vs 10) 0, aggAt (vs 10) 1, aggAt (vs 10) 2] := hj
        show Blk wx' (w.heap.size) 38 [aggAt (vs' 10) 0, aggAt (vs' 10) 1, aggAt (vs' 10) 2]
        rw [← e10]
        exact hj'.keep (hk.out _ hj'.lt (foot_given 1 (by decide) (Or.inr ⟨rfl, rfl⟩)))
      case hE =>
       intro i hi iv vs wx hj
       simp only [List.mem_cons, List.not_mem_nil, or_false] at hi
       rcases hi with rfl | rfl | rfl | rfl | rfl | rfl | rfl | rfl | rfl | rfl | rfl | rfl
       ·
        exact hj
       ·
        exact hj
       ·
        exact hj
       ·
        exact hj
       ·
        exact hj
       ·
        exact hj
       ·
        exact hj
       ·
        exact hj
       ·
        exact hj
       ·
        obtain ⟨u, q1, -⟩ := hj
        exact ⟨u, q1⟩
       ·
        exact hj
       ·
        trivial
      case hEE =>
       intro i hi iv iv' vs vs' ha hv hj
       simp only [List.mem_cons, List.not_mem_nil, or_false] at hi
       rcases hi with rfl | rfl | rfl | rfl | rfl | rfl | rfl | rfl | rfl | rfl | rfl | rfl
       ·
        exact (hv.out 0 (mem_of (by kernel_rfl))).symm.trans hj
       ·
        exact (hv.out 1 (mem_of (by kernel_rfl))).symm.trans hj
       ·
        exact (hv.out 2 (mem_of (by kernel_rfl))).symm.trans hj
       ·
        exact (hv.out 3 (mem_of (by kernel_rfl))).symm.trans hj
       ·
        exact (hv.out 4 (mem_of (by kernel_rfl))).symm.trans hj
       ·
        exact (hv.out 5 (mem_of (by kernel_rfl))).symm.trans hj
       ·
        exact (hv.out 6 (mem_of (by kernel_rfl))).symm.trans hj
       ·
        exact (hv.out 7 (mem_of (by kernel_rfl))).symm.trans hj
       ·
        exact (hv.out 8 (mem_of (by kernel_rfl))).symm.trans hj
       ·
        have e9 := hv.out 9 (mem_of (by kernel_rfl))
        have hj' : ∃ u, vs 9 = .int .i64 (PickZ.v (n := t) (N := N + 1 + 1 + 1) u) := hj
        show ∃ u, vs' 9 = .int .i64 (PickZ.v (n := t) (N := N + 1 + 1 + 1) u)
        rw [← e9]
        exact hj'
       ·
        have e9 := hv.out 9 (mem_of (by kernel_rfl))
        have e10 := hv.out 10 (mem_of (by kernel_rfl))
        have hj' : vs 10 = .agg #[.int .i64 3, vs 9, .slice none 0 0] := hj
        show vs' 10 = .agg #[.int .i64 3, vs' 9, .slice none 0 0]
        rw [← e9, ← e10]
        exact hj'
       ·
        trivial
      case hstep =>
       intro i hi opr ho iv vs w1 hB hS hSo hd he hbd hsep hun K hK
       simp only [List.mem_cons, List.not_mem_nil, or_false] at hi
       have hzB := hB.size
       have HGb := Lib.hid hGb
       clear hGb hGd
       have hGr := hSo.out.block r HG.out.lt (fun ⟨m, hm⟩ => by rcases hm with ⟨_, h⟩ | ⟨_, h⟩ <;> omega)
       have G1 := HG.out.keep hGr
       have g0 := G1.c0
       have g1 := G1.c1
       have g2 := G1.c2
       have ltg := G1.lt
       clear hGr G1
       generalize hA : putFrom _ 0 vs _ = A at hK ⊢
       simp only [putFrom, puts] at hA
       rcases hi with rfl | rfl | rfl | rfl | rfl | rfl | rfl | rfl | rfl | rfl | rfl | rfl
       all_goals
        simp at ho
        subst ho
        subst hA
       ·
        go_wp2_with fail
        refine Onward.mk (hK ?val2_0 _ _ (fun h => by cases h) ?eqA (Spares.refl _) (fun iv' _ _ => ?ja))
        case eqA => first | rfl | (simp only [puts]; rfl)
        case ja => exact hx0.out.symm
       ·
        have h0 := (hd.out 0 (mem_of (by kernel_rfl)) (by decide) (by kernel_rfl)).trans hx0.out
        go_wp2_with fail
        refine Onward.mk (hK ?val2_1 _ _ (fun h => by cases h) ?eqA (Spares.refl _) (fun iv' _ _ => ?ja))
        case eqA => first | rfl | (simp only [puts, h0]; rfl)
        case ja => exact hx1.out.symm
       ·
        have h1 := (hd.out 1 (mem_of (by kernel_rfl)) (by decide) (by kernel_rfl)).trans hx1.out
        go_wp2_with fail
        refine Onward.mk (hK ?val2_2 _ _ (fun h => by cases h) ?eqA (Spares.refl _) (fun iv' _ _ => ?ja))
        case eqA => first | rfl | (simp only [puts, h1]; rfl)
        case ja => exact hx2.out.symm
       ·
        have h2 := (hd.out 2 (mem_of (by kernel_rfl)) (by decide) (by kernel_rfl)).trans hx2.out
        go_wp2_with fail
        refine Onward.mk (hK ?val2_3 _ _ (fun h => by cases h) ?eqA (Spares.refl _) (fun iv' _ _ => ?ja))
        case eqA => first | rfl | (simp only [puts, h2]; rfl)
        case ja => exact hx3.out.symm
       ·
        go_wp2_with fail
        refine Onward.mk (hK ?val2_4 _ _ (fun h => by cases h) ?eqA (Spares.refl _) (fun iv' _ _ => ?ja))
        case eqA => first | rfl | (simp only [puts]; rfl)
        case ja => exact hx4.out.symm
       ·
        have h4 := (hd.out 4 (mem_of (by kernel_rfl)) (by decide) (by kernel_rfl)).trans hx4.out
        go_wp2_with fail
        refine Onward.mk (hK ?val2_5 _ _ (fun h => by cases h) ?eqA (Spares.refl _) (fun iv' _ _ => ?ja))
        case eqA => first | rfl | (simp only [puts, h4]; rfl)
        case ja => exact hx5.out.symm
       ·
        have h5 := (hd.out 5 (mem_of (by kernel_rfl)) (by decide) (by kernel_rfl)).trans hx5.out
        go_wp2_with fail
        refine Onward.mk (hK ?val2_6 _ _ (fun h => by cases h) ?eqA (Spares.refl _) (fun iv' _ _ => ?ja))
        case eqA => first | rfl | (simp only [puts, h5]; rfl)
        case ja => exact hx6.out.symm
       ·
        have h6 := (hd.out 6 (mem_of (by kernel_rfl)) (by decide) (by kernel_rfl)).trans hx6.out
        go_wp2_with fail
        refine Onward.mk (hK ?val2_7 _ _ (fun h => by cases h) ?eqA (Spares.refl _) (fun iv' _ _ => ?ja))
        case eqA => first | rfl | (simp only [puts, h6]; rfl)
        case ja => exact hx7.out.symm
       ·
        have h7 := (hd.out 7 (mem_of (by kernel_rfl)) (by decide) (by kernel_rfl)).trans hx7.out
        go_wp2_with fail
        refine Onward.mk (hK ?val2_8 _ _ (fun h => by cases h) ?eqA (Spares.refl _) (fun iv' _ _ => ?ja))
        case eqA => first | rfl | (simp only [puts, h7]; rfl)
        case ja => exact hx8.out.symm
       ·
        have h3 := (hd.out 3 (mem_of (by kernel_rfl)) (by decide) (by kernel_rfl)).trans hx3.out
        have h8 := (hd.out 8 (mem_of (by kernel_rfl)) (by decide) (by kernel_rfl)).trans hx8.out
        have KS1 := KS.keep (hS.out 0 _ (by kernel_rfl) (Or.inl ⟨rfl, rfl⟩))
        have ksc0 := KS1.c0
        have ksz0 := KS1.frozen 0
        have ksc1 := KS1.c1
        have ksz1 := KS1.frozen 1
        have ksc2 := KS1.c2
        have ksz2 := KS1.frozen 2
        have kslt := KS1.lt
        go_wp2_with fail
        refine (pick_at (n := t) (N := N + 1 + 1) (c := c) ⟨hb0, p, z, KS1, HRX.out.keep ⟨hB.size, fun i hi hn => hB.block i (by omega)⟩, HXS.out, by omega⟩ (by omega) (by omega)).mono ?_
        rintro e w2 ⟨u, rfl, hf, hs, hbk⟩
        go_wp2_with fail
        exact Onward.mk (hK (.int .i64 (PickZ.v (n := t) (N := N + 1 + 1 + 1) u)) _ _ (fun h => by cases h) (by first | rfl | (simp only [puts, h3, h8])) (hs.more (fun b h => Or.inl ⟨0, by decide, (Or.inl ⟨rfl, h⟩)⟩)) (fun iv' _ hi => ⟨u, rfl, by rw [hi]; exact Freshs.stretch (hf), hbk⟩))
       ·
        obtain ⟨u, h9, f9, fb9⟩ := hd.out 9 (mem_of (by kernel_rfl)) (by decide) (by kernel_rfl)
        go_wp2_with fail
        exact Onward.mk (hK (.agg #[.int .i64 3, .int .i64 u.v, .slice none 0 0]) _ _ (fun h => by cases h) (by first | rfl | (simp only [puts, h9])) (Spares.refl _) (fun iv' _ _ => by
         show (.agg #[.int .i64 3, .int .i64 u.v, .slice none 0 0] : Value) = .agg #[.int .i64 3, vs 9, .slice none 0 0]
         simp only [h9]))
       ·
        have h10 : vs 10 = .agg #[.int .i64 3, vs 9, .slice none 0 0] := hd.out 10 (mem_of (by kernel_rfl)) (by decide) (by kernel_rfl)
        obtain ⟨u, h9⟩ := he.out 9 (mem_of (by kernel_rfl)) (by decide)
        have R1 := R.keep (hS.out 1 _ (by kernel_rfl) (Or.inr ⟨rfl, rfl⟩))
        have rc0 := R1.c0
        have rz0 := R1.frozen 0
        have rc1 := R1.c1
        have rz1 := R1.frozen 1
        have rc2 := R1.c2
        have rz2 := R1.frozen 2
        have rlt := R1.lt
        replace h10 : vs 10 = .agg #[.int .i64 3, .int .i64 u.v, .slice none 0 0] := by rw [h10, h9]
        go_wp2_with fail
        exact Onward.mk (hK undef _ _ (fun _ => rfl) (by simp only [puts, h10, h9]) ((spares_sets (b0 := w.heap.size) (by repeat (first | exact Spares.refl _ | apply Spares.set))).more (fun b h => Or.inl ⟨1, by decide, (Or.inr ⟨rfl, h⟩)⟩)) (fun iv' ag hi => by
         show Blk _ (w.heap.size) 38 [aggAt (vs 10) 0, aggAt (vs 10) 1, aggAt (vs 10) 2]
         rw [h10]
         exact (((R1.set 0 _).set 1 _).set 2 _)))
      case hQ =>
       intro iv vs wx hB hSp hd he hbd hsep
       have hzB := hB.size
       have h0 := (hd.out 0 (mem_of (by kernel_rfl)) (not_eaten (by kernel_rfl))).trans hx0.out
       have h1 := (hd.out 1 (mem_of (by kernel_rfl)) (not_eaten (by kernel_rfl))).trans hx1.out
       have h2 := (hd.out 2 (mem_of (by kernel_rfl)) (not_eaten (by kernel_rfl))).trans hx2.out
       have h3 := (hd.out 3 (mem_of (by kernel_rfl)) (not_eaten (by kernel_rfl))).trans hx3.out
       have h4 := (hd.out 4 (mem_of (by kernel_rfl)) (not_eaten (by kernel_rfl))).trans hx4.out
       have h5 := (hd.out 5 (mem_of (by kernel_rfl)) (not_eaten (by kernel_rfl))).trans hx5.out
       have h6 := (hd.out 6 (mem_of (by kernel_rfl)) (not_eaten (by kernel_rfl))).trans hx6.out
       have h7 := (hd.out 7 (mem_of (by kernel_rfl)) (not_eaten (by kernel_rfl))).trans hx7.out
       have h8 := (hd.out 8 (mem_of (by kernel_rfl)) (not_eaten (by kernel_rfl))).trans hx8.out
       obtain ⟨u, h9, f9, fb9⟩ := hd.out 9 (mem_of (by kernel_rfl)) (not_eaten (by kernel_rfl))
       have h10 : vs 10 = .agg #[.int .i64 3, vs 9, .slice none 0 0] := hd.out 10 (mem_of (by kernel_rfl)) (not_eaten (by kernel_rfl))
       have f11 : Blk _ (w.heap.size) 38 [aggAt (vs 10) 0, aggAt (vs 10) 1, aggAt (vs 10) 2] := hd.out 11 (mem_of (by kernel_rfl)) (not_eaten (by kernel_rfl))
       simp only [putFrom, puts]
       have k10 : vs 10 = .agg #[.int .i64 3, .int .i64 u.v, .slice none 0 0] := by rw [h10, h9]
       rw [k10] at f11
       simp only [aggAt] at f11
       have u0 := u.h0
       have u1 := u.h1
       have up := u.hp
       have hzx := hSp.out.size
       have hS' : SrcW B sb (N + 3) wx := ⟨hb0, xs, s, c, u.p, u.y, fb9, HRX.out.keep ⟨hB.size, fun i hi hn => hB.block i (by omega)⟩, HXS.out, by omega⟩
       have hG' := HG.out.keep (hSp.out.block r HG.out.lt (fun ⟨m, hm⟩ => by rcases hm with ⟨_, h⟩ | ⟨_, h⟩ <;> omega))
       have D9 : DrewG B sb r (N + 3) t a left w wx := ⟨⟨hG', hS', hnb, hBr⟩, hSp.out.os.trans HD.out.2.os, hSp.out.tape.trans HD.out.2.tape, hSp.out.output.trans HD.out.2.output, by omega, fun i hi hn => (hSp.out.block i (by omega) (fun ⟨m, hm⟩ => by rcases hm with ⟨_, h⟩ | ⟨_, h⟩ <;> omega)).trans (HD.out.2.block i hi hn)⟩
       have HD9 := Lib.hid D9
       obtain ⟨r0, r1, r2, -, -, -, -⟩ := f11.all3
       clear hd he hbd hsep hSp h0 h1 h2 h3 h4 h5 h6 h7 h8 h9 h10 k10 f9 fb9 f11 hB hS' hG' D9 KS R hGb hGd
       go_wp2_with fail
       refine bodyPost_ret (v := .agg #[.int .i64 3, .int .i64 u.v, .slice none 0 0]) (by simp [results, Try.results156, go_sem, r0, r1, r2]) rfl ?_
       exact ⟨_, _, rfl, leaf_tree (by omega), (fun h => by cases h), HD9.out⟩
     ·
      go_wp2_with fail
      refine (pick_i D.1.2.1 (by omega) (by omega)).mono ?_
      rintro f wy ⟨y, rfl, y0, y1, D1⟩
      replace R := D1.blk R (by omega)
      replace D := D.trans (D.1.drew D1)
      have hzwy := D1.size
      clear D1 g0 g1 g2 g3 ltg
      obtain ⟨g0, g1, g2, g3, ltg⟩ : wy.cell? ⟨r, 0, none⟩ = some (.pointer (some ⟨b, 0, none⟩)) ∧ wy.cell? ⟨r, 1, none⟩ = some (.int .i64 t) ∧ wy.cell? ⟨r, 2, none⟩ = some (.int .i64 a) ∧ wy.cell? ⟨r, 3, none⟩ = some (.int .i64 left) ∧ r < wy.heap.size := ⟨D.1.1.c0, D.1.1.c1, D.1.1.c2, D.1.1.c3, D.1.1.lt⟩
      obtain ⟨rr0, rr1, rr2, rf0, rf1, rf2, ltR⟩ := R.all3
      go_wp2_with fail
      obtain ⟨w9, e9, R9, hs9⟩ := set3' R (.int .i64 (1 + y)) (.int .i64 (0)) (.slice none 0 0)
      rw [e9]
      obtain ⟨r0, r1, r2, -, -, -, -⟩ := R9.all3
      have D9 := D.set hs9 (by omega) hB hbw hrw
      refine bodyPost_ret (v := .agg #[.int .i64 (1 + y), .int .i64 (0), .slice none 0 0]) (by simp [results, Try.results156, go_sem, r0, r1, r2]) rfl ?_
      exact ⟨_, _, rfl, leaf_tree (by omega), (fun h => by cases h), D9.more (by omega)⟩
    ·
     go_wp2_with fail
     refine (pick_i D.1.2.1 (by omega) (by omega)).mono ?_
     rintro f wy ⟨y, rfl, y0, y1, D1⟩
     replace R := D1.blk R (by omega)
     replace D := D.trans (D.1.drew D1)
     have hzwy := D1.size
     clear D1 g0 g1 g2 g3 ltg
     obtain ⟨g0, g1, g2, g3, ltg⟩ : wy.cell? ⟨r, 0, none⟩ = some (.pointer (some ⟨b, 0, none⟩)) ∧ wy.cell? ⟨r, 1, none⟩ = some (.int .i64 t) ∧ wy.cell? ⟨r, 2, none⟩ = some (.int .i64 a) ∧ wy.cell? ⟨r, 3, none⟩ = some (.int .i64 left) ∧ r < wy.heap.size := ⟨D.1.1.c0, D.1.1.c1, D.1.1.c2, D.1.1.c3, D.1.1.lt⟩
     obtain ⟨rr0, rr1, rr2, rf0, rf1, rf2, ltR⟩ := R.all3
     go_wp2_with fail
     obtain ⟨w9, e9, R9, hs9⟩ := set3' R (.int .i64 (1 + y)) (.int .i64 (0)) (.slice none 0 0)
     rw [e9]
     obtain ⟨r0, r1, r2, -, -, -, -⟩ := R9.all3
     have D9 := D.set hs9 (by omega) hB hbw hrw
     refine bodyPost_ret (v := .agg #[.int .i64 (1 + y), .int .i64 (0), .slice none 0 0]) (by simp [results, Try.results156, go_sem, r0, r1, r2]) rfl ?_
     exact ⟨_, _, rfl, leaf_tree (by omega), (fun h => by cases h), D9.more (by omega)⟩
  ·
   go_enter Try.func156, Try.ntmps156
   by_cases htp : 0 < t
   ·
    skip
    go_wp2_with fail
    obtain ⟨w1, e1, R, hb1, hz1⟩ := box3 w 38 (.int .i64 0) (.int .i64 0) (.slice none 0 0)
    rw [e1]
    replace D := D.on hb1
    have hzb1 := hb1.size
    clear hb1 e1 g0 g1 g2 g3 ltg
    obtain ⟨g0, g1, g2, g3, ltg⟩ : w1.cell? ⟨r, 0, none⟩ = some (.pointer (some ⟨b, 0, none⟩)) ∧ w1.cell? ⟨r, 1, none⟩ = some (.int .i64 t) ∧ w1.cell? ⟨r, 2, none⟩ = some (.int .i64 a) ∧ w1.cell? ⟨r, 3, none⟩ = some (.int .i64 left) ∧ r < w1.heap.size := ⟨D.1.1.c0, D.1.1.c1, D.1.1.c2, D.1.1.c3, D.1.1.lt⟩
    refine (one_i D.1.2.1 (by omega) (by omega)).mono ?_
    rintro f wv ⟨v, rfl, D1⟩
    replace R := D1.blk R (by omega)
    replace D := D.trans (D.1.drew D1)
    have hzwv := D1.size
    clear D1 g0 g1 g2 g3 ltg
    obtain ⟨g0, g1, g2, g3, ltg⟩ : wv.cell? ⟨r, 0, none⟩ = some (.pointer (some ⟨b, 0, none⟩)) ∧ wv.cell? ⟨r, 1, none⟩ = some (.int .i64 t) ∧ wv.cell? ⟨r, 2, none⟩ = some (.int .i64 a) ∧ wv.cell? ⟨r, 3, none⟩ = some (.int .i64 left) ∧ r < wv.heap.size := ⟨D.1.1.c0, D.1.1.c1, D.1.1.c2, D.1.1.c3, D.1.1.lt⟩
    cases v
    ·
     skip
     go_wp2_with fail
     clear g0 g1 g2 g3 ltg
     obtain ⟨sb, rfl⟩ : ∃ v, v = b := ⟨_, rfl⟩
     obtain ⟨xs, s, c, hSV⟩ := D.1.2.1.v
     obtain ⟨hb0, p, z, KS, hrx, hxs, hpN⟩ := hSV
     have hBw := hB
     have hRz := R.lt
     have HG := Lib.hid D.1.1
     have HRX := Lib.hid hrx
     have HXS := Lib.hid hxs
     have HD := Lib.hid D
     have hnb := D.1.2.2.1
     have hBr := D.1.2.2.2
     have hzD := D.size
     clear D hrx hxs
     obtain ⟨x0, hx0⟩ := mkval ?a3_0
     obtain ⟨x1, hx1⟩ := mkval ?a3_1
     obtain ⟨x2, hx2⟩ := mkval ?a3_2
     obtain ⟨x3, hx3⟩ := mkval ?a3_3
     obtain ⟨x4, hx4⟩ := mkval ?a3_4
     obtain ⟨x5, hx5⟩ := mkval ?a3_5
     obtain ⟨x6, hx6⟩ := mkval ?a3_6
     obtain ⟨x7, hx7⟩ := mkval ?a3_7
     obtain ⟨x8, hx8⟩ := mkval ?a3_8
     have hGb : ∀ m b, (fun m b => (m = 0 ∧ b = sb) ∨ (m = 1 ∧ b = w.heap.size)) m b → (B) ≤ b ∧ b < (wv).heap.size := by
      intro m b hg
      rcases hg with ⟨rfl, hg⟩ | ⟨rfl, hg⟩
      ·
       subst hg
       have q := KS.lt
       omega
      ·
       subst hg
       have q := R.lt
       omega
     have hGd : ∀ m m' b, (fun m b => (m = 0 ∧ b = sb) ∨ (m = 1 ∧ b = w.heap.size)) m b → (fun m b => (m = 0 ∧ b = sb) ∨ (m = 1 ∧ b = w.heap.size)) m' b → m = m' := by
      intro m m' b h h'
      rcases h with ⟨rfl, h⟩ | ⟨rfl, h⟩ <;> rcases h' with ⟨rfl, h'⟩ | ⟨rfl, h'⟩ <;> first
       | rfl
       | (exfalso; omega)
     refine region_rs [] [(9, 0), (11, 1)] (fun m b => (m = 0 ∧ b = sb) ∨ (m = 1 ∧ b = w.heap.size)) (B) (fun i iv vs wx => match i with
      | 0 => vs 0 = x0
      | 1 => vs 1 = x1
      | 2 => vs 2 = x2
      | 3 => vs 3 = x3
      | 4 => vs 4 = x4
      | 5 => vs 5 = x5
      | 6 => vs 6 = x6
      | 7 => vs 7 = x7
      | 8 => vs 8 = x8
      | 9 => ∃ u, vs 9 = .int .i64 (PickZ.v (n := t) (N := N + 1 + 1 + 1) u) ∧ FreshIn (iv 9) wx [] [] ∧ Blk wx (sb) 155 [.slice s xs.length c, .int .i64 u.p, .int .u64 u.y]
      | 10 => vs 10 = .agg #[.int .i64 3, vs 9, .slice none 0 0]
      | 11 => Blk wx (w.heap.size) 38 [aggAt (vs 10) 0, aggAt (vs 10) 1, aggAt (vs 10) 2]
      | _ => True) (fun i iv vs => match i with
      | 0 => vs 0 = x0
      | 1 => vs 1 = x1
      | 2 => vs 2 = x2
      | 3 => vs 3 = x3
      | 4 => vs 4 = x4
      | 5 => vs 5 = x5
      | 6 => vs 6 = x6
      | 7 => vs 7 = x7
      | 8 => vs 8 = x8
      | 9 => ∃ u, vs 9 = .int .i64 (PickZ.v (n := t) (N := N + 1 + 1 + 1) u)
      | 10 => vs 10 = .agg #[.int .i64 3, vs 9, .slice none 0 0]
      | 11 => True
      | _ => True) (by kernel_rfl) (by kernel_rfl) [0, 1, 2, 3, 4, 5, 6, 7, 8, 9, 10, 11] (by kernel_rfl) ?hbase ?hGb ?hG ?hJ ?hE ?hEE ?hstep ?hQ
     case hbase => first | exact Nat.le_refl _ | omega | (simp; omega)
     case hGb =>
      exact hGb
     case hG =>
      exact hGd
     case hJ =>
      intro i hi iv iv' vs vs' wx wx' ha hv hz hk hj
      simp only [List.mem_cons, List.not_mem_nil, or_false] at hi
      rcases hi with rfl | rfl | rfl | rfl | rfl | rfl | rfl | rfl | rfl | rfl | rfl | rfl
      ·
       exact (hv.out 0 (mem_of (by kernel_rfl))).symm.trans hj
      ·
       exact (hv.out 1 (mem_of (by kernel_rfl))).symm.trans hj
      ·
       exact (hv.out 2 (mem_of (by kernel_rfl))).symm.trans hj
      ·
       exact (hv.out 3 (mem_of (by kernel_rfl))).symm.trans hj
      ·
       exact (hv.out 4 (mem_of (by kernel_rfl))).symm.trans hj
      ·
       exact (hv.out 5 (mem_of (by kernel_rfl))).symm.trans hj
      ·
       exact (hv.out 6 (mem_of (by kernel_rfl))).symm.trans hj
      ·
       exact (hv.out 7 (mem_of (by kernel_rfl))).symm.trans hj
      ·
       exact (hv.out 8 (mem_of (by kernel_rfl))).symm.trans hj
      ·
       have e9 := hv.out 9 (mem_of (by kernel_rfl))
       have g9 := ha.out 9 (mem_of (by kernel_rfl))
       obtain ⟨u, q1, q2, q3⟩ := hj
       exact ⟨u, e9 ▸ q1, g9 ▸ q2.keep (fun b hb h1 h2 => hk.out b hb (foot_own h1 h2)), q3.keep (hk.out _ q3.lt (foot_given 0 (by decide) (Or.inl ⟨rfl, rfl⟩)))⟩
      ·
       have e9 := hv.out 9 (mem_of (by kernel_rfl))
       have e10 := hv.out 10 (mem_of (by kernel_rfl))
       have hj' : vs 10 = .agg #[.int .i64 3, vs 9, .slice none 0 0] := hj
       show vs' 10 = .agg #[.int .i64 3, vs' 9, .slice none 0 0]
       rw [← e9, ← e10]
       exact hj'
      ·
       have e10 := hv.out 10 (mem_of (by kernel_rfl))
       have hj' : Blk wx (w.heap.size) 38 [aggAt (vs 10) 0, aggAt (vs 10) 1, aggAt (vs 10) 2] := hj
       show Blk wx' (w.heap.size) 38 [aggAt (vs' 10) 0, aggAt (vs' 10) 1, aggAt (vs' 10) 2]
       rw [← e10]
       exact hj'.keep (hk.out _ hj'.lt (foot_given 1 (by decide) (Or.inr ⟨rfl, rfl⟩)))
     case hE =>
      intro i hi iv vs wx hj
      simp only [List.mem_cons, List.not_mem_nil, or_false] at hi
      rcases hi with rfl | rfl | rfl | rfl | rfl | rfl | rfl | rfl | rfl | rfl | rfl | rfl
      ·
       exact hj
      ·
       exact hj
      ·
       exact hj
      ·
       exact hj
      ·
       exact hj
      ·
       exact hj
      ·
       exact hj
      ·
       exact hj
      ·
       exact hj
      ·
       obtain ⟨u, q1, -⟩ := hj
       exact ⟨u, q1⟩
      ·
       exact hj
      ·
       trivial
     case hEE =>
      intro i hi iv iv' vs vs' ha hv hj
      simp only [List.mem_cons, List.not_mem_nil, or_false] at hi
      rcases hi with rfl | rfl | rfl | rfl | rfl | rfl | rfl | rfl | rfl | rfl | rfl | rfl
      ·
       exact (hv.out 0 (mem_of (by kernel_rfl))).symm.trans hj
      ·
       exact (hv.out 1 (mem_of (by kernel_rfl))).symm.trans hj
      ·
       exact (hv.out 2 (mem_of (by kernel_rfl))).symm.trans hj
      ·
       exact (hv.out 3 (mem_of (by kernel_rfl))).symm.trans hj
      ·
       exact (hv.out 4 (mem_of (by kernel_rfl))).symm.trans hj
      ·
       exact (hv.out 5 (mem_of (by kernel_rfl))).symm.trans hj
      ·
       exact (hv.out 6 (mem_of (by kernel_rfl))).symm.trans hj
      ·
       exact (hv.out 7 (mem_of (by kernel_rfl))).symm.trans hj
      ·
       exact (hv.out 8 (mem_of (by kernel_rfl))).symm.trans hj
      ·
       have e9 := hv.out 9 (mem_of (by kernel_rfl))
       have hj' : ∃ u, vs 9 = .int .i64 (PickZ.v (n := t) (N := N + 1 + 1 + 1) u) := hj
       show ∃ u, vs' 9 = .int .i64 (PickZ.v (n := t) (N := N + 1 + 1 + 1) u)
       rw [← e9]
       exact hj'
      ·
       have e9 := hv.out 9 (mem_of (by kernel_rfl))
       have e10 := hv.out 10 (mem_of (by kernel_rfl))
       have hj' : vs 10 = .agg #[.int .i64 3, vs 9, .slice none 0 0] := hj
       show vs' 10 = .agg #[.int .i64 3, vs' 9, .slice none 0 0]
       rw [← e9, ← e10]
       exact hj'
      ·
       trivial
     case hstep =>
      intro i hi opr ho iv vs w1 hB hS hSo hd he hbd hsep hun K hK
      simp only [List.mem_cons, List.not_mem_nil, or_false] at hi
      have hzB := hB.size
      have HGb := Lib.hid hGb
      clear hGb hGd
      have hGr := hSo.out.block r HG.out.lt (fun ⟨m, hm⟩ => by rcases hm with ⟨_, h⟩ | ⟨_, h⟩ <;> omega)
      have G1 := HG.out.keep hGr
      have g0 := G1.c0
      have g1 := G1.c1
      have g2 := G1.c2
      have ltg := G1.lt
      clear hGr G1
      generalize hA : putFrom _ 0 vs _ = A at hK ⊢
      simp only [putFrom, puts] at hA
      rcases hi with rfl | rfl | rfl | rfl | rfl | rfl | rfl | rfl | rfl | rfl | rfl | rfl
      all_goals
       simp at ho
       subst ho
       subst hA
      ·
       go_wp2_with fail
       refine Onward.mk (hK ?val3_0 _ _ (fun h => by cases h) ?eqA (Spares.refl _) (fun iv' _ _ => ?ja))
       case eqA => first | rfl | (simp only [puts]; rfl)
       case ja => exact hx0.out.symm
      ·
       have h0 := (hd.out 0 (mem_of (by kernel_rfl)) (by decide) (by kernel_rfl)).trans hx0.out
       go_wp2_with fail
       refine Onward.mk (hK ?val3_1 _ _ (fun h => by cases h) ?eqA (Spares.refl _) (fun iv' _ _ => ?ja))
       case eqA => first | rfl | (simp only [puts, h0]; rfl)
       case ja => exact hx1.out.symm
      ·
       have h1 := (hd.out 1 (mem_of (by kernel_rfl)) (by decide) (by kernel_rfl)).trans hx1.out
       go_wp2_with fail
       refine Onward.mk (hK ?val3_2 _ _ (fun h => by cases h) ?eqA (Spares.refl _) (fun iv' _ _ => ?ja))
       case eqA => first | rfl | (simp only [puts, h1]; rfl)
       case ja => exact hx2.out.symm
      ·
       have h2 := (hd.out 2 (mem_of (by kernel_rfl)) (by decide) (by kernel_rfl)).trans hx2.out
       go_wp2_with fail
       refine Onward.mk (hK ?val3_3 _ _ (fun h => by cases h) ?eqA (Spares.refl _) (fun iv' _ _ => ?ja))
       case eqA => first | rfl | (simp only [puts, h2]; rfl)
       case ja => exact hx3.out.symm
      ·
       go_wp2_with fail
       refine Onward.mk (hK ?val3_4 _ _ (fun h => by cases h) ?eqA (Spares.refl _) (fun iv' _ _ => ?ja))
       case eqA => first | rfl | (simp only [puts]; rfl)
       case ja => exact hx4.out.symm
      ·
       have h4 := (hd.out 4 (mem_of (by kernel_rfl)) (by decide) (by kernel_rfl)).trans hx4.out
       go_wp2_with fail
       refine Onward.mk (hK ?val3_5 _ _ (fun h => by cases h) ?eqA (Spares.refl _) (fun iv' _ _ => ?ja))
       case eqA => first | rfl | (simp only [puts, h4]; rfl)
       case ja => exact hx5.out.symm
      ·
       have h5 := (hd.out 5 (mem_of (by kernel_rfl)) (by decide) (by kernel_rfl)).trans hx5.out
       go_wp2_with fail
       refine Onward.mk (hK ?val3_6 _ _ (fun h => by cases h) ?eqA (Spares.refl _) (fun iv' _ _ => ?ja))
       case eqA => first | rfl | (simp only [puts, h5]; rfl)
       case ja => exact hx6.out.symm
      ·
       have h6 := (hd.out 6 (mem_of (by kernel_rfl)) (by decide) (by kernel_rfl)).trans hx6.out
       go_wp2_with fail
       refine Onward.mk (hK ?val3_7 _ _ (fun h => by cases h) ?eqA (Spares.refl _) (fun iv' _ _ => ?ja))
       case eqA => first | rfl | (simp only [puts, h6]; rfl)
       case ja => exact hx7.out.symm
      ·
       have h7 := (hd.out 7 (mem_of (by kernel_rfl)) (by decide) (by kernel_rfl)).trans hx7.out
       go_wp2_with fail
       refine Onward.mk (hK ?val3_8 _ _ (fun h => by cases h) ?eqA (Spares.refl _) (fun iv' _ _ => ?ja))
       case eqA => first | rfl | (simp only [puts, h7]; rfl)
       case ja => exact hx8.out.symm
      ·
       have h3 := (hd.out 3 (mem_of (by kernel_rfl)) (by decide) (by kernel_rfl)).trans hx3.out
       have h8 := (hd.out 8 (mem_of (by kernel_rfl)) (by decide) (by kernel_rfl)).trans hx8.out
       have KS1 := KS.keep (hS.out 0 _ (by kernel_rfl) (Or.inl ⟨rfl, rfl⟩))
       have ksc0 := KS1.c0
       have ksz0 := KS1.frozen 0
       have ksc1 := KS1.c1
       have ksz1 := KS1.frozen 1
       have ksc2 := KS1.c2
       have ksz2 := KS1.frozen 2
       have kslt := KS1.lt
       go_wp2_with fail
       refine (pick_at (n := t) (N := N + 1 + 1) (c := c) ⟨hb0, p, z, KS1, HRX.out.keep ⟨hB.size, fun i hi hn => hB.block i (by omega)⟩, HXS.out, by omega⟩ (by omega) (by omega)).mono ?_
       rintro e w2 ⟨u, rfl, hf, hs, hbk⟩
       go_wp2_with fail
       exact Onward.mk (hK (.int .i64 (PickZ.v (n := t) (N := N + 1 + 1 + 1) u)) _ _ (fun h => by cases h) (by first | rfl | (simp only [puts, h3, h8])) (hs.more (fun b h => Or.inl ⟨0, by decide, (Or.inl ⟨rfl, h⟩)⟩)) (fun iv' _ hi => ⟨u, rfl, by rw [hi]; exact Freshs.stretch (hf), hbk⟩))
      ·
       obtain ⟨u, h9, f9, fb9⟩ := hd.out 9 (mem_of (by kernel_rfl)) (by decide) (by kernel_rfl)
       go_wp2_with fail
       exact Onward.mk (hK (.agg #[.int .i64 3, .int .i64 u.v, .slice none 0 0]) _ _ (fun h => by cases h) (by first | rfl | (simp only [puts, h9])) (Spares.refl _) (fun iv' _ _ => by
        show (.agg #[.int .i64 3, .int .i64 u.v, .slice none 0 0] : Value) = .agg #[.int .i64 3, vs 9, .slice none 0 0]
        simp only [h9]))
      ·
       have h10 : vs 10 = .agg #[.int .i64 3, vs 9, .slice none 0 0] := hd.out 10 (mem_of (by kernel_rfl)) (by decide) (by kernel_rfl)
       obtain ⟨u, h9⟩ := he.out 9 (mem_of (by kernel_rfl)) (by decide)
       have R1 := R.keep (hS.out 1 _ (by kernel_rfl) (Or.inr ⟨rfl, rfl⟩))
       have rc0 := R1.c0
       have rz0 := R1.frozen 0
       have rc1 := R1.c1
       have rz1 := R1.frozen 1
       have rc2 := R1.c2
       have rz2 := R1.frozen 2
       have rlt := R1.lt
       replace h10 : vs 10 = .agg #[.int .i64 3, .int .i64 u.v, .slice none 0 0] := by rw [h10, h9]
       go_wp2_with fail
       exact Onward.mk (hK undef _ _ (fun _ => rfl) (by simp only [puts, h10, h9]) ((spares_sets (b0 := w.heap.size) (by repeat (first | exact Spares.refl _ | apply Spares.set))).more (fun b h => Or.inl ⟨1, by decide, (Or.inr ⟨rfl, h⟩)⟩)) (fun iv' ag hi => by
        show Blk _ (w.heap.size) 38 [aggAt (vs 10) 0, aggAt (vs 10) 1, aggAt (vs 10) 2]
        rw [h10]
        exact (((R1.set 0 _).set 1 _).set 2 _)))
     case hQ =>
      intro iv vs wx hB hSp hd he hbd hsep
      have hzB := hB.size
      have h0 := (hd.out 0 (mem_of (by kernel_rfl)) (not_eaten (by kernel_rfl))).trans hx0.out
      have h1 := (hd.out 1 (mem_of (by kernel_rfl)) (not_eaten (by kernel_rfl))).trans hx1.out
      have h2 := (hd.out 2 (mem_of (by kernel_rfl)) (not_eaten (by kernel_rfl))).trans hx2.out
      have h3 := (hd.out 3 (mem_of (by kernel_rfl)) (not_eaten (by kernel_rfl))).trans hx3.out
      have h4 := (hd.out 4 (mem_of (by kernel_rfl)) (not_eaten (by kernel_rfl))).trans hx4.out
      have h5 := (hd.out 5 (mem_of (by kernel_rfl)) (not_eaten (by kernel_rfl))).trans hx5.out
      have h6 := (hd.out 6 (mem_of (by kernel_rfl)) (not_eaten (by kernel_rfl))).trans hx6.out
      have h7 := (hd.out 7 (mem_of (by kernel_rfl)) (not_eaten (by kernel_rfl))).trans hx7.out
      have h8 := (hd.out 8 (mem_of (by kernel_rfl)) (not_eaten (by kernel_rfl))).trans hx8.out
      obtain ⟨u, h9, f9, fb9⟩ := hd.out 9 (mem_of (by kernel_rfl)) (not_eaten (by kernel_rfl))
      have h10 : vs 10 = .agg #[.int .i64 3, vs 9, .slice none 0 0] := hd.out 10 (mem_of (by kernel_rfl)) (not_eaten (by kernel_rfl))
      have f11 : Blk _ (w.heap.size) 38 [aggAt (vs 10) 0, aggAt (vs 10) 1, aggAt (vs 10) 2] := hd.out 11 (mem_of (by kernel_rfl)) (not_eaten (by kernel_rfl))
      simp only [putFrom, puts]
      have k10 : vs 10 = .agg #[.int .i64 3, .int .i64 u.v, .slice none 0 0] := by rw [h10, h9]
      rw [k10] at f11
      simp only [aggAt] at f11
      have u0 := u.h0
      have u1 := u.h1
      have up := u.hp
      have hzx := hSp.out.size
      have hS' : SrcW B sb (N + 3) wx := ⟨hb0, xs, s, c, u.p, u.y, fb9, HRX.out.keep ⟨hB.size, fun i hi hn => hB.block i (by omega)⟩, HXS.out, by omega⟩
      have hG' := HG.out.keep (hSp.out.block r HG.out.lt (fun ⟨m, hm⟩ => by rcases hm with ⟨_, h⟩ | ⟨_, h⟩ <;> omega))
      have D9 : DrewG B sb r (N + 3) t a left w wx := ⟨⟨hG', hS', hnb, hBr⟩, hSp.out.os.trans HD.out.2.os, hSp.out.tape.trans HD.out.2.tape, hSp.out.output.trans HD.out.2.output, by omega, fun i hi hn => (hSp.out.block i (by omega) (fun ⟨m, hm⟩ => by rcases hm with ⟨_, h⟩ | ⟨_, h⟩ <;> omega)).trans (HD.out.2.block i hi hn)⟩
      have HD9 := Lib.hid D9
      obtain ⟨r0, r1, r2, -, -, -, -⟩ := f11.all3
      clear hd he hbd hsep hSp h0 h1 h2 h3 h4 h5 h6 h7 h8 h9 h10 k10 f9 fb9 f11 hB hS' hG' D9 KS R hGb hGd
      go_wp2_with fail
      refine bodyPost_ret (v := .agg #[.int .i64 3, .int .i64 u.v, .slice none 0 0]) (by simp [results, Try.results156, go_sem, r0, r1, r2]) rfl ?_
      exact ⟨_, _, rfl, leaf_tree (by omega), (fun h => by cases h), HD9.out⟩
    ·
     go_wp2_with fail
     refine (pick_i D.1.2.1 (by omega) (by omega)).mono ?_
     rintro f wy ⟨y, rfl, y0, y1, D1⟩
     replace R := D1.blk R (by omega)
     replace D := D.trans (D.1.drew D1)
     have hzwy := D1.size
     clear D1 g0 g1 g2 g3 ltg
     obtain ⟨g0, g1, g2, g3, ltg⟩ : wy.cell? ⟨r, 0, none⟩ = some (.pointer (some ⟨b, 0, none⟩)) ∧ wy.cell? ⟨r, 1, none⟩ = some (.int .i64 t) ∧ wy.cell? ⟨r, 2, none⟩ = some (.int .i64 a) ∧ wy.cell? ⟨r, 3, none⟩ = some (.int .i64 left) ∧ r < wy.heap.size := ⟨D.1.1.c0, D.1.1.c1, D.1.1.c2, D.1.1.c3, D.1.1.lt⟩
     obtain ⟨rr0, rr1, rr2, rf0, rf1, rf2, ltR⟩ := R.all3
     go_wp2_with fail
     obtain ⟨w9, e9, R9, hs9⟩ := set3' R (.int .i64 (1 + y)) (.int .i64 (0)) (.slice none 0 0)
     rw [e9]
     obtain ⟨r0, r1, r2, -, -, -, -⟩ := R9.all3
     have D9 := D.set hs9 (by omega) hB hbw hrw
     refine bodyPost_ret (v := .agg #[.int .i64 (1 + y), .int .i64 (0), .slice none 0 0]) (by simp [results, Try.results156, go_sem, r0, r1, r2]) rfl ?_
     exact ⟨_, _, rfl, leaf_tree (by omega), (fun h => by cases h), D9.more (by omega)⟩
   ·
    skip
    go_wp2_with fail
    obtain ⟨w1, e1, R, hb1, hz1⟩ := box3 w 38 (.int .i64 0) (.int .i64 0) (.slice none 0 0)
    rw [e1]
    replace D := D.on hb1
    have hzb1 := hb1.size
    clear hb1 e1 g0 g1 g2 g3 ltg
    obtain ⟨g0, g1, g2, g3, ltg⟩ : w1.cell? ⟨r, 0, none⟩ = some (.pointer (some ⟨b, 0, none⟩)) ∧ w1.cell? ⟨r, 1, none⟩ = some (.int .i64 t) ∧ w1.cell? ⟨r, 2, none⟩ = some (.int .i64 a) ∧ w1.cell? ⟨r, 3, none⟩ = some (.int .i64 left) ∧ r < w1.heap.size := ⟨D.1.1.c0, D.1.1.c1, D.1.1.c2, D.1.1.c3, D.1.1.lt⟩
    refine (pick_i D.1.2.1 (by omega) (by omega)).mono ?_
    rintro f wy ⟨y, rfl, y0, y1, D1⟩
    replace R := D1.blk R (by omega)
    replace D := D.trans (D.1.drew D1)
    have hzwy := D1.size
    clear D1 g0 g1 g2 g3 ltg
    obtain ⟨g0, g1, g2, g3, ltg⟩ : wy.cell? ⟨r, 0, none⟩ = some (.pointer (some ⟨b, 0, none⟩)) ∧ wy.cell? ⟨r, 1, none⟩ = some (.int .i64 t) ∧ wy.cell? ⟨r, 2, none⟩ = some (.int .i64 a) ∧ wy.cell? ⟨r, 3, none⟩ = some (.int .i64 left) ∧ r < wy.heap.size := ⟨D.1.1.c0, D.1.1.c1, D.1.1.c2, D.1.1.c3, D.1.1.lt⟩
    obtain ⟨rr0, rr1, rr2, rf0, rf1, rf2, ltR⟩ := R.all3
    go_wp2_with fail
    obtain ⟨w9, e9, R9, hs9⟩ := set3' R (.int .i64 (1 + y)) (.int .i64 (0)) (.slice none 0 0)
    rw [e9]
    obtain ⟨r0, r1, r2, -, -, -, -⟩ := R9.all3
    have D9 := D.set hs9 (by omega) hB hbw hrw
    refine bodyPost_ret (v := .agg #[.int .i64 (1 + y), .int .i64 (0), .slice none 0 0]) (by simp [results, Try.results156, go_sem, r0, r1, r2]) rfl ?_
    exact ⟨_, _, rfl, leaf_tree (by omega), (fun h => by cases h), D9.more (by omega)⟩
 ·
  go_enter Try.func156, Try.ntmps156
  by_cases htp : 0 < t
  ·
   skip
   go_wp2_with fail
   obtain ⟨w1, e1, R, hb1, hz1⟩ := box3 w 38 (.int .i64 0) (.int .i64 0) (.slice none 0 0)
   rw [e1]
   replace D := D.on hb1
   have hzb1 := hb1.size
   clear hb1 e1 g0 g1 g2 g3 ltg
   obtain ⟨g0, g1, g2, g3, ltg⟩ : w1.cell? ⟨r, 0, none⟩ = some (.pointer (some ⟨b, 0, none⟩)) ∧ w1.cell? ⟨r, 1, none⟩ = some (.int .i64 t) ∧ w1.cell? ⟨r, 2, none⟩ = some (.int .i64 a) ∧ w1.cell? ⟨r, 3, none⟩ = some (.int .i64 left) ∧ r < w1.heap.size := ⟨D.1.1.c0, D.1.1.c1, D.1.1.c2, D.1.1.c3, D.1.1.lt⟩
   refine (one_i D.1.2.1 (by omega) (by omega)).mono ?_
   rintro f wv ⟨v, rfl, D1⟩
   replace R := D1.blk R (by omega)
   replace D := D.trans (D.1.drew D1)
   have hzwv := D1.size
   clear D1 g0 g1 g2 g3 ltg
   obtain ⟨g0, g1, g2, g3, ltg⟩ : wv.cell? ⟨r, 0, none⟩ = some (.pointer (some ⟨b, 0, none⟩)) ∧ wv.cell? ⟨r, 1, none⟩ = some (.int .i64 t) ∧ wv.cell? ⟨r, 2, none⟩ = some (.int .i64 a) ∧ wv.cell? ⟨r, 3, none⟩ = some (.int .i64 left) ∧ r < wv.heap.size := ⟨D.1.1.c0, D.1.1.c1, D.1.1.c2, D.1.1.c3, D.1.1.lt⟩
   cases v
   ·
    skip
    go_wp2_with fail
    clear g0 g1 g2 g3 ltg
    obtain ⟨sb, rfl⟩ : ∃ v, v = b := ⟨_, rfl⟩
    obtain ⟨xs, s, c, hSV⟩ := D.1.2.1.v
    obtain ⟨hb0, p, z, KS, hrx, hxs, hpN⟩ := hSV
    have hBw := hB
    have hRz := R.lt
    have HG := Lib.hid D.1.1
    have HRX := Lib.hid hrx
    have HXS := Lib.hid hxs
    have HD := Lib.hid D
    have hnb := D.1.2.2.1
    have hBr := D.1.2.2.2
    have hzD := D.size
    clear D hrx hxs
    obtain ⟨x0, hx0⟩ := mkval ?a4_0
    obtain ⟨x1, hx1⟩ := mkval ?a4_1
    obtain ⟨x2, hx2⟩ := mkval ?a4_2
    obtain ⟨x3, hx3⟩ := mkval ?a4_3
    obtain ⟨x4, hx4⟩ := mkval ?a4_4
    obtain ⟨x5, hx5⟩ := mkval ?a4_5
    obtain ⟨x6, hx6⟩ := mkval ?a4_6
    obtain ⟨x7, hx7⟩ := mkval ?a4_7
    obtain ⟨x8, hx8⟩ := mkval ?a4_8
    have hGb : ∀ m b, (fun m b => (m = 0 ∧ b = sb) ∨ (m = 1 ∧ b = w.heap.size)) m b → (B) ≤ b ∧ b < (wv).heap.size := by
     intro m b hg
     rcases hg with ⟨rfl, hg⟩ | ⟨rfl, hg⟩
     ·
      subst hg
      have q := KS.lt
      omega
     ·
      subst hg
      have q := R.lt
      omega
    have hGd : ∀ m m' b, (fun m b => (m = 0 ∧ b = sb) ∨ (m = 1 ∧ b = w.heap.size)) m b → (fun m b => (m = 0 ∧ b = sb) ∨ (m = 1 ∧ b = w.heap.size)) m' b → m = m' := by
     intro m m' b h h'
     rcases h with ⟨rfl, h⟩ | ⟨rfl, h⟩ <;> rcases h' with ⟨rfl, h'⟩ | ⟨rfl, h'⟩ <;> first
      | rfl
      | (exfalso; omega)
    refine region_rs [] [(9, 0), (11, 1)] (fun m b => (m = 0 ∧ b = sb) ∨ (m = 1 ∧ b = w.heap.size)) (B) (fun i iv vs wx => match i with
     | 0 => vs 0 = x0
     | 1 => vs 1 = x1
     | 2 => vs 2 = x2
     | 3 => vs 3 = x3
     | 4 => vs 4 = x4
     | 5 => vs 5 = x5
     | 6 => vs 6 = x6
     | 7 => vs 7 = x7
     | 8 => vs 8 = x8
     | 9 => ∃ u, vs 9 = .int .i64 (PickZ.v (n := t) (N := N + 1 + 1 + 1) u) ∧ FreshIn (iv 9) wx [] [] ∧ Blk wx (sb) 155 [.slice s xs.length c, .int .i64 u.p, .int .u64 u.y]
     | 10 => vs 10 = .agg #[.int .i64 3, vs 9, .slice none 0 0]
     | 11 => Blk wx (w.heap.size) 38 [aggAt (vs 10) 0, aggAt (vs 10) 1, aggAt (vs 10) 2]
     | _ => True) (fun i iv vs => match i with
     | 0 => vs 0 = x0
     | 1 => vs 1 = x1
     | 2 => vs 2 = x2
     | 3 => vs 3 = x3
     | 4 => vs 4 = x4
     | 5 => vs 5 = x5
     | 6 => vs 6 = x6
     | 7 => vs 7 = x7
     | 8 => vs 8 = x8
     | 9 => ∃ u, vs 9 = .int .i64 (PickZ.v (n := t) (N := N + 1 + 1 + 1) u)
     | 10 => vs 10 = .agg #[.int .i64 3, vs 9, .slice none 0 0]
     | 11 => True
     | _ => True) (by kernel_rfl) (by kernel_rfl) [0, 1, 2, 3, 4, 5, 6, 7, 8, 9, 10, 11] (by kernel_rfl) ?hbase ?hGb ?hG ?hJ ?hE ?hEE ?hstep ?hQ
    case hbase => first | exact Nat.le_refl _ | omega | (simp; omega)
    case hGb =>
     exact hGb
    case hG =>
     exact hGd
    case hJ =>
     intro i hi iv iv' vs vs' wx wx' ha hv hz hk hj
     simp only [List.mem_cons, List.not_mem_nil, or_false] at hi
     rcases hi with rfl | rfl | rfl | rfl | rfl | rfl | rfl | rfl | rfl | rfl | rfl | rfl
     ·
      exact (hv.out 0 (mem_of (by kernel_rfl))).symm.trans hj
     ·
      exact (hv.out 1 (mem_of (by kernel_rfl))).symm.trans hj
     ·
      exact (hv.out 2 (mem_of (by kernel_rfl))).symm.trans hj
     ·
      exact (hv.out 3 (mem_of (by kernel_rfl))).symm.trans hj
     ·
      exact (hv.out 4 (mem_of (by kernel_rfl))).symm.trans hj
     ·
      exact (hv.out 5 (mem_of (by kernel_rfl))).symm.trans hj
     ·
      exact (hv.out 6 (mem_of (by kernel_rfl))).symm.trans hj
     ·
      exact (hv.out 7 (mem_of (by kernel_rfl))).symm.trans hj
     ·
      exact (hv.out 8 (mem_of (by kernel_rfl))).symm.trans hj
     ·
      have e9 := hv.out 9 (mem_of (by kernel_rfl))
      have g9 := ha.out 9 (mem_of (by kernel_rfl))
      obtain ⟨u, q1, q2, q3⟩ := hj
      exact ⟨u, e9 ▸ q1, g9 ▸ q2.keep (fun b hb h1 h2 => hk.out b hb (foot_own h1 h2)), q3.keep (hk.out _ q3.lt (foot_given 0 (by decide) (Or.inl ⟨rfl, rfl⟩)))⟩
     ·
      have e9 := hv.out 9 (mem_of (by kernel_rfl))
      have e10 := hv.out 10 (mem_of (by kernel_rfl))
      have hj' : vs 10 = .agg #[.int .i64 3, vs 9, .slice none 0 0] := hj
      show vs' 10 = .agg #[.int .i64 3, vs' 9, .slice none 0 0]
      rw [← e9, ← e10]
      exact hj'
     ·
      have e10 := hv.out 10 (mem_of (by kernel_rfl))
      have hj' : Blk wx (w.heap.size) 38 [aggAt (vs 10) 0, aggAt (vs 10) 1, aggAt (vs 10) 2] := hj
      show Blk wx' (w.heap.size) 38 [aggAt (vs' 10) 0, aggAt (vs' 10) 1, aggAt (vs' 10) 2]
      rw [← e10]
      exact hj'.keep (hk.out _ hj'.lt (foot_given 1 (by decide) (Or.inr ⟨rfl, rfl⟩)))
    case hE =>
     intro i hi iv vs wx hj
     simp only [List.mem_cons, List.not_mem_nil, or_false] at hi
     rcases hi with rfl | rfl | rfl | rfl | rfl | rfl | rfl | rfl | rfl | rfl | rfl | rfl
     ·
      exact hj
     ·
      exact hj
     ·
      exact hj
     ·
      exact hj
     ·
      exact hj
     ·
      exact hj
     ·
      exact hj
     ·
      exact hj
     ·
      exact hj
     ·
      obtain ⟨u, q1, -⟩ := hj
      exact ⟨u, q1⟩
     ·
      exact hj
     ·
      trivial
    case hEE =>
     intro i hi iv iv' vs vs' ha hv hj
     simp only [List.mem_cons, List.not_mem_nil, or_false] at hi
     rcases hi with rfl | rfl | rfl | rfl | rfl | rfl | rfl | rfl | rfl | rfl | rfl | rfl
     ·
      exact (hv.out 0 (mem_of (by kernel_rfl))).symm.trans hj
     ·
      exact (hv.out 1 (mem_of (by kernel_rfl))).symm.trans hj
     ·
      exact (hv.out 2 (mem_of (by kernel_rfl))).symm.trans hj
     ·
      exact (hv.out 3 (mem_of (by kernel_rfl))).symm.trans hj
     ·
      exact (hv.out 4 (mem_of (by kernel_rfl))).symm.trans hj
     ·
      exact (hv.out 5 (mem_of (by kernel_rfl))).symm.trans hj
     ·
      exact (hv.out 6 (mem_of (by kernel_rfl))).symm.trans hj
     ·
      exact (hv.out 7 (mem_of (by kernel_rfl))).symm.trans hj
     ·
      exact (hv.out 8 (mem_of (by kernel_rfl))).symm.trans hj
     ·
      have e9 := hv.out 9 (mem_of (by kernel_rfl))
      have hj' : ∃ u, vs 9 = .int .i64 (PickZ.v (n := t) (N := N + 1 + 1 + 1) u) := hj
      show ∃ u, vs' 9 = .int .i64 (PickZ.v (n := t) (N := N + 1 + 1 + 1) u)
      rw [← e9]
      exact hj'
     ·
      have e9 := hv.out 9 (mem_of (by kernel_rfl))
      have e10 := hv.out 10 (mem_of (by kernel_rfl))
      have hj' : vs 10 = .agg #[.int .i64 3, vs 9, .slice none 0 0] := hj
      show vs' 10 = .agg #[.int .i64 3, vs' 9, .slice none 0 0]
      rw [← e9, ← e10]
      exact hj'
     ·
      trivial
    case hstep =>
     intro i hi opr ho iv vs w1 hB hS hSo hd he hbd hsep hun K hK
     simp only [List.mem_cons, List.not_mem_nil, or_false] at hi
     have hzB := hB.size
     have HGb := Lib.hid hGb
     clear hGb hGd
     have hGr := hSo.out.block r HG.out.lt (fun ⟨m, hm⟩ => by rcases hm with ⟨_, h⟩ | ⟨_, h⟩ <;> omega)
     have G1 := HG.out.keep hGr
     have g0 := G1.c0
     have g1 := G1.c1
     have g2 := G1.c2
     have ltg := G1.lt
     clear hGr G1
     generalize hA : putFrom _ 0 vs _ = A at hK ⊢
     simp only [putFrom, puts] at hA
     rcases hi with rfl | rfl | rfl | rfl | rfl | rfl | rfl | rfl | rfl | rfl | rfl | rfl
     all_goals
      simp at ho
      subst ho
      subst hA
     ·
      go_wp2_with fail
      refine Onward.mk (hK ?val4_0 _ _ (fun h => by cases h) ?eqA (Spares.refl _) (fun iv' _ _ => ?ja))
      case eqA => first | rfl | (simp only [puts]; rfl)
      case ja => exact hx0.out.symm
     ·
      have h0 := (hd.out 0 (mem_of (by kernel_rfl)) (by decide) (by kernel_rfl)).trans hx0.out
      go_wp2_with fail
      refine Onward.mk (hK ?val4_1 _ _ (fun h => by cases h) ?eqA (Spares.refl _) (fun iv' _ _ => ?ja))
      case eqA => first | rfl | (simp only [puts, h0]; rfl)
      case ja => exact hx1.out.symm
     ·
      have h1 := (hd.out 1 (mem_of (by kernel_rfl)) (by decide) (by kernel_rfl)).trans hx1.out
      go_wp2_with fail
      refine Onward.mk (hK ?val4_2 _ _ (fun h => by cases h) ?eqA (Spares.refl _) (fun iv' _ _ => ?ja))
      case eqA => first | rfl | (simp only [puts, h1]; rfl)
      case ja => exact hx2.out.symm
     ·
      have h2 := (hd.out 2 (mem_of (by kernel_rfl)) (by decide) (by kernel_rfl)).trans hx2.out
      go_wp2_with fail
      refine Onward.mk (hK ?val4_3 _ _ (fun h => by cases h) ?eqA (Spares.refl _) (fun iv' _ _ => ?ja))
      case eqA => first | rfl | (simp only [puts, h2]; rfl)
      case ja => exact hx3.out.symm
     ·
      go_wp2_with fail
      refine Onward.mk (hK ?val4_4 _ _ (fun h => by cases h) ?eqA (Spares.refl _) (fun iv' _ _ => ?ja))
      case eqA => first | rfl | (simp only [puts]; rfl)
      case ja => exact hx4.out.symm
     ·
      have h4 := (hd.out 4 (mem_of (by kernel_rfl)) (by decide) (by kernel_rfl)).trans hx4.out
      go_wp2_with fail
      refine Onward.mk (hK ?val4_5 _ _ (fun h => by cases h) ?eqA (Spares.refl _) (fun iv' _ _ => ?ja))
      case eqA => first | rfl | (simp only [puts, h4]; rfl)
      case ja => exact hx5.out.symm
     ·
      have h5 := (hd.out 5 (mem_of (by kernel_rfl)) (by decide) (by kernel_rfl)).trans hx5.out
      go_wp2_with fail
      refine Onward.mk (hK ?val4_6 _ _ (fun h => by cases h) ?eqA (Spares.refl _) (fun iv' _ _ => ?ja))
      case eqA => first | rfl | (simp only [puts, h5]; rfl)
      case ja => exact hx6.out.symm
     ·
      have h6 := (hd.out 6 (mem_of (by kernel_rfl)) (by decide) (by kernel_rfl)).trans hx6.out
      go_wp2_with fail
      refine Onward.mk (hK ?val4_7 _ _ (fun h => by cases h) ?eqA (Spares.refl _) (fun iv' _ _ => ?ja))
      case eqA => first | rfl | (simp only [puts, h6]; rfl)
      case ja => exact hx7.out.symm
     ·
      have h7 := (hd.out 7 (mem_of (by kernel_rfl)) (by decide) (by kernel_rfl)).trans hx7.out
      go_wp2_with fail
      refine Onward.mk (hK ?val4_8 _ _ (fun h => by cases h) ?eqA (Spares.refl _) (fun iv' _ _ => ?ja))
      case eqA => first | rfl | (simp only [puts, h7]; rfl)
      case ja => exact hx8.out.symm
     ·
      have h3 := (hd.out 3 (mem_of (by kernel_rfl)) (by decide) (by kernel_rfl)).trans hx3.out
      have h8 := (hd.out 8 (mem_of (by kernel_rfl)) (by decide) (by kernel_rfl)).trans hx8.out
      have KS1 := KS.keep (hS.out 0 _ (by kernel_rfl) (Or.inl ⟨rfl, rfl⟩))
      have ksc0 := KS1.c0
      have ksz0 := KS1.frozen 0
      have ksc1 := KS1.c1
      have ksz1 := KS1.frozen 1
      have ksc2 := KS1.c2
      have ksz2 := KS1.frozen 2
      have kslt := KS1.lt
      go_wp2_with fail
      refine (pick_at (n := t) (N := N + 1 + 1) (c := c) ⟨hb0, p, z, KS1, HRX.out.keep ⟨hB.size, fun i hi hn => hB.block i (by omega)⟩, HXS.out, by omega⟩ (by omega) (by omega)).mono ?_
      rintro e w2 ⟨u, rfl, hf, hs, hbk⟩
      go_wp2_with fail
      exact Onward.mk (hK (.int .i64 (PickZ.v (n := t) (N := N + 1 + 1 + 1) u)) _ _ (fun h => by cases h) (by first | rfl | (simp only [puts, h3, h8])) (hs.more (fun b h => Or.inl ⟨0, by decide, (Or.inl ⟨rfl, h⟩)⟩)) (fun iv' _ hi => ⟨u, rfl, by rw [hi]; exact Freshs.stretch (hf), hbk⟩))
     ·
      obtain ⟨u, h9, f9, fb9⟩ := hd.out 9 (mem_of (by kernel_rfl)) (by decide) (by kernel_rfl)
      go_wp2_with fail
      exact Onward.mk (hK (.agg #[.int .i64 3, .int .i64 u.v, .slice none 0 0]) _ _ (fun h => by cases h) (by first | rfl | (simp only [puts, h9])) (Spares.refl _) (fun iv' _ _ => by
       show (.agg #[.int .i64 3, .int .i64 u.v, .slice none 0 0] : Value) = .agg #[.int .i64 3, vs 9, .slice none 0 0]
       simp only [h9]))
     ·
      have h10 : vs 10 = .agg #[.int .i64 3, vs 9, .slice none 0 0] := hd.out 10 (mem_of (by kernel_rfl)) (by decide) (by kernel_rfl)
      obtain ⟨u, h9⟩ := he.out 9 (mem_of (by kernel_rfl)) (by decide)
      have R1 := R.keep (hS.out 1 _ (by kernel_rfl) (Or.inr ⟨rfl, rfl⟩))
      have rc0 := R1.c0
      have rz0 := R1.frozen 0
      have rc1 := R1.c1
      have rz1 := R1.frozen 1
      have rc2 := R1.c2
      have rz2 := R1.frozen 2
      have rlt := R1.lt
      replace h10 : vs 10 = .agg #[.int .i64 3, .int .i64 u.v, .slice none 0 0] := by rw [h10, h9]
      go_wp2_with fail
      exact Onward.mk (hK undef _ _ (fun _ => rfl) (by simp only [puts, h10, h9]) ((spares_sets (b0 := w.heap.size) (by repeat (first | exact Spares.refl _ | apply Spares.set))).more (fun b h => Or.inl ⟨1, by decide, (Or.inr ⟨rfl, h⟩)⟩)) (fun iv' ag hi => by
       show Blk _ (w.heap.size) 38 [aggAt (vs 10) 0, aggAt (vs 10) 1, aggAt (vs 10) 2]
       rw [h10]
       exact (((R1.set 0 _).set 1 _).set 2 _)))
    case hQ =>
     intro iv vs wx hB hSp hd he hbd hsep
     have hzB := hB.size
     have h0 := (hd.out 0 (mem_of (by kernel_rfl)) (not_eaten (by kernel_rfl))).trans hx0.out
     have h1 := (hd.out 1 (mem_of (by kernel_rfl)) (not_eaten (by kernel_rfl))).trans hx1.out
     have h2 := (hd.out 2 (mem_of (by kernel_rfl)) (not_eaten (by kernel_rfl))).trans hx2.out
     have h3 := (hd.out 3 (mem_of (by kernel_rfl)) (not_eaten (by kernel_rfl))).trans hx3.out
     have h4 := (hd.out 4 (mem_of (by kernel_rfl)) (not_eaten (by kernel_rfl))).trans hx4.out
     have h5 := (hd.out 5 (mem_of (by kernel_rfl)) (not_eaten (by kernel_rfl))).trans hx5.out
     have h6 := (hd.out 6 (mem_of (by kernel_rfl)) (not_eaten (by kernel_rfl))).trans hx6.out
     have h7 := (hd.out 7 (mem_of (by kernel_rfl)) (not_eaten (by kernel_rfl))).trans hx7.out
     have h8 := (hd.out 8 (mem_of (by kernel_rfl)) (not_eaten (by kernel_rfl))).trans hx8.out
     obtain ⟨u, h9, f9, fb9⟩ := hd.out 9 (mem_of (by kernel_rfl)) (not_eaten (by kernel_rfl))
     have h10 : vs 10 = .agg #[.int .i64 3, vs 9, .slice none 0 0] := hd.out 10 (mem_of (by kernel_rfl)) (not_eaten (by kernel_rfl))
     have f11 : Blk _ (w.heap.size) 38 [aggAt (vs 10) 0, aggAt (vs 10) 1, aggAt (vs 10) 2] := hd.out 11 (mem_of (by kernel_rfl)) (not_eaten (by kernel_rfl))
     simp only [putFrom, puts]
     have k10 : vs 10 = .agg #[.int .i64 3, .int .i64 u.v, .slice none 0 0] := by rw [h10, h9]
     rw [k10] at f11
     simp only [aggAt] at f11
     have u0 := u.h0
     have u1 := u.h1
     have up := u.hp
     have hzx := hSp.out.size
     have hS' : SrcW B sb (N + 3) wx := ⟨hb0, xs, s, c, u.p, u.y, fb9, HRX.out.keep ⟨hB.size, fun i hi hn => hB.block i (by omega)⟩, HXS.out, by omega⟩
     have hG' := HG.out.keep (hSp.out.block r HG.out.lt (fun ⟨m, hm⟩ => by rcases hm with ⟨_, h⟩ | ⟨_, h⟩ <;> omega))
     have D9 : DrewG B sb r (N + 3) t a left w wx := ⟨⟨hG', hS', hnb, hBr⟩, hSp.out.os.trans HD.out.2.os, hSp.out.tape.trans HD.out.2.tape, hSp.out.output.trans HD.out.2.output, by omega, fun i hi hn => (hSp.out.block i (by omega) (fun ⟨m, hm⟩ => by rcases hm with ⟨_, h⟩ | ⟨_, h⟩ <;> omega)).trans (HD.out.2.block i hi hn)⟩
     have HD9 := Lib.hid D9
     obtain ⟨r0, r1, r2, -, -, -, -⟩ := f11.all3
     clear hd he hbd hsep hSp h0 h1 h2 h3 h4 h5 h6 h7 h8 h9 h10 k10 f9 fb9 f11 hB hS' hG' D9 KS R hGb hGd
     go_wp2_with fail
     refine bodyPost_ret (v := .agg #[.int .i64 3, .int .i64 u.v, .slice none 0 0]) (by simp [results, Try.results156, go_sem, r0, r1, r2]) rfl ?_
     exact ⟨_, _, rfl, leaf_tree (by omega), (fun _ => leaf_cond (by omega)), HD9.out⟩
   ·
    go_wp2_with fail
    refine (pick_i D.1.2.1 (by omega) (by omega)).mono ?_
    rintro f wy ⟨y, rfl, y0, y1, D1⟩
    replace R := D1.blk R (by omega)
    replace D := D.trans (D.1.drew D1)
    have hzwy := D1.size
    clear D1 g0 g1 g2 g3 ltg
    obtain ⟨g0, g1, g2, g3, ltg⟩ : wy.cell? ⟨r, 0, none⟩ = some (.pointer (some ⟨b, 0, none⟩)) ∧ wy.cell? ⟨r, 1, none⟩ = some (.int .i64 t) ∧ wy.cell? ⟨r, 2, none⟩ = some (.int .i64 a) ∧ wy.cell? ⟨r, 3, none⟩ = some (.int .i64 left) ∧ r < wy.heap.size := ⟨D.1.1.c0, D.1.1.c1, D.1.1.c2, D.1.1.c3, D.1.1.lt⟩
    obtain ⟨rr0, rr1, rr2, rf0, rf1, rf2, ltR⟩ := R.all3
    go_wp2_with fail
    obtain ⟨w9, e9, R9, hs9⟩ := set3' R (.int .i64 (1 + y)) (.int .i64 (0)) (.slice none 0 0)
    rw [e9]
    obtain ⟨r0, r1, r2, -, -, -, -⟩ := R9.all3
    have D9 := D.set hs9 (by omega) hB hbw hrw
    refine bodyPost_ret (v := .agg #[.int .i64 (1 + y), .int .i64 (0), .slice none 0 0]) (by simp [results, Try.results156, go_sem, r0, r1, r2]) rfl ?_
    exact ⟨_, _, rfl, leaf_tree (by omega), (fun _ => leaf_cond (by omega)), D9.more (by omega)⟩
  ·
   skip
   go_wp2_with fail
   obtain ⟨w1, e1, R, hb1, hz1⟩ := box3 w 38 (.int .i64 0) (.int .i64 0) (.slice none 0 0)
   rw [e1]
   replace D := D.on hb1
   have hzb1 := hb1.size
   clear hb1 e1 g0 g1 g2 g3 ltg
   obtain ⟨g0, g1, g2, g3, ltg⟩ : w1.cell? ⟨r, 0, none⟩ = some (.pointer (some ⟨b, 0, none⟩)) ∧ w1.cell? ⟨r, 1, none⟩ = some (.int .i64 t) ∧ w1.cell? ⟨r, 2, none⟩ = some (.int .i64 a) ∧ w1.cell? ⟨r, 3, none⟩ = some (.int .i64 left) ∧ r < w1.heap.size := ⟨D.1.1.c0, D.1.1.c1, D.1.1.c2, D.1.1.c3, D.1.1.lt⟩
   refine (pick_i D.1.2.1 (by omega) (by omega)).mono ?_
   rintro f wy ⟨y, rfl, y0, y1, D1⟩
   replace R := D1.blk R (by omega)
   replace D := D.trans (D.1.drew D1)
   have hzwy := D1.size
   clear D1 g0 g1 g2 g3 ltg
   obtain ⟨g0, g1, g2, g3, ltg⟩ : wy.cell? ⟨r, 0, none⟩ = some (.pointer (some ⟨b, 0, none⟩)) ∧ wy.cell? ⟨r, 1, none⟩ = some (.int .i64 t) ∧ wy.cell? ⟨r, 2, none⟩ = some (.int .i64 a) ∧ wy.cell? ⟨r, 3, none⟩ = some (.int .i64 left) ∧ r < wy.heap.size := ⟨D.1.1.c0, D.1.1.c1, D.1.1.c2, D.1.1.c3, D.1.1.lt⟩
   obtain ⟨rr0, rr1, rr2, rf0, rf1, rf2, ltR⟩ := R.all3
   go_wp2_with fail
   obtain ⟨w9, e9, R9, hs9⟩ := set3' R (.int .i64 (1 + y)) (.int .i64 (0)) (.slice none 0 0)
   rw [e9]
   obtain ⟨r0, r1, r2, -, -, -, -⟩ := R9.all3
   have D9 := D.set hs9 (by omega) hB hbw hrw
   refine bodyPost_ret (v := .agg #[.int .i64 (1 + y), .int .i64 (0), .slice none 0 0]) (by simp [results, Try.results156, go_sem, r0, r1, r2]) rfl ?_
   exact ⟨_, _, rfl, leaf_tree (by omega), (fun _ => leaf_cond (by omega)), D9.more (by omega)⟩
end Go.Proofs.Ytbflhjjnemdecaa
