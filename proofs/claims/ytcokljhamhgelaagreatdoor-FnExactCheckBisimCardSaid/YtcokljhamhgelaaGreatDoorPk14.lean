/-
  Parts of a proof, joined: TidyV, Size, New6. No condition.
-/
import Derived.Test.YtcokljhamhgelaaGreatDoorPk13
namespace Go.Proofs.YtcokljhamhgelaaGreatDoor
set_option linter.unusedVariables false
set_option linter.unusedSimpArgs false
open Go.ChangeShapes Go.WideShapes Go.ChangeAt Go.RowKit Go.Deep Go.Sort
theorem copy_k {k n : Int} {ks : List Ex} {s : Option Addr} {c : Nat} {w : World} (hr : Rd w (kidsD ks) (.slice s ks.length c)) (h : Ex.sizeL ks ≤ 1073741824) :
  Calls Tryz.prog 66 #[.agg #[.int .i64 k, .int .i64 n, .slice s ks.length c]] w fun f w' => ∃ s' c', f = .returned (.agg #[.int .i64 k, .int .i64 n, .slice s' ks.length c']) ∧ Freshs w w' [kidsD ks] [.slice s' ks.length c'] ∧ Below w.heap.size w w' :=
 copyExpr_same _ k n ks s c w (Nat.le_refl _) hr h
set_option maxRecDepth 100000 in
set_option maxHeartbeats 8000000 in
theorem tidy_all (tm am : Int) (ht : tm ≤ 8) (ha : am ≤ 8) (N : Nat) : ∀ (e : Ex) (X : Nat → Prop) (s : Option Addr) (c : Nat) (w : World), e.size ≤ N → (∀ b, X b → b < w.heap.size) → ExX X w e s c → e.tree tm am = true → e.size ≤ 50000 →
  Calls Tryz.prog 33 #[.agg #[.int .i64 e.kind, .int .i64 e.num, .slice s e.kids.length c]] w fun f w' => ∃ s' c', f = .returned (.agg #[.int .i64 e.tidy.kind, .int .i64 e.tidy.num, .slice s' e.tidy.kids.length c']) ∧ ExX X w' e.tidy s' c' ∧ Below w.heap.size w w' := by
 induction N using Nat.strongRecOn with
 | _ N ih =>
 intro e X s c w hN hX hx htr hb5
 have HIH := Lib.hid ih
 clear ih
 obtain ⟨-, hl, hcap, -, -⟩ := kid_at hx.rd
 unfold maxLen at hcap
 obtain ⟨k, n, ks⟩ := e
 obtain ⟨hk, -, -, htl⟩ := tree_parts htr
 simp only [Ex.kind_mk, Ex.num_mk, Ex.kids_mk] at hl ⊢
 by_cases h6 : k = 6
 ·
  subst h6
  obtain ⟨u, v, rfl⟩ := two_kids hk (by omega)
  have hsz := Ex.size_eq (.mk 6 n [u, v])
  simp only [Ex.sizeL, Ex.kids_mk] at hsz
  have E1 : Hid ((Ex.mk 6 n [u, v]).tidy = sumT u.tidy v.tidy) := by show _ = _; exact Ex.tidy_sum
  have hut : u.tree tm am = true := Ex.treeL_mem htl (by simp)
  have hvt : v.tree tm am = true := Ex.treeL_mem htl (by simp)
  obtain ⟨hu1, hu2⟩ := tidy_spec tm am _ u (Nat.le_refl _) hut
  obtain ⟨hv1, hv2⟩ := tidy_spec tm am _ v (Nat.le_refl _) hvt
  obtain ⟨kb, ko, su, cu, rfl, -, -, -, -, -, -, -⟩ := kidX0 hx
  simp only [List.length_cons, List.length_nil, Nat.zero_add] at hl ⊢
  clear htl hk
  go_enter Tryz.func33, Tryz.ntmps33
  go_wp2_with fail
  have L := (Blk.new3 w 34 (.int .i64 6) (.int .i64 n) (.slice (some ⟨kb, ko, none⟩) 2 c)).alloc (.cells #[.int .i64 0, .int .i64 0, .slice none 0 0] 34)
  have R := Blk.new3 (w.alloc (.cells #[.int .i64 6, .int .i64 n, .slice (some ⟨kb, ko, none⟩) 2 c] 34)) 34 (.int .i64 0) (.int .i64 0) (.slice none 0 0)
  have hB : Below w.heap.size w ((w.alloc (.cells #[.int .i64 6, .int .i64 n, .slice (some ⟨kb, ko, none⟩) 2 c] 34)).alloc (.cells #[.int .i64 0, .int .i64 0, .slice none 0 0] 34)) := by (repeat' first | exact Below.refl _ _ | assumption | apply Below.alloc | apply Below.drew | apply Below.setCell | omega | (simp; done) | (simp; omega))
  have hz0 : ((w.alloc (.cells #[.int .i64 6, .int .i64 n, .slice (some ⟨kb, ko, none⟩) 2 c] 34)).alloc (.cells #[.int .i64 0, .int .i64 0, .slice none 0 0] 34)).heap.size = w.heap.size + 2 := by simp
  simp at R
  generalize (w.alloc (.cells #[.int .i64 6, .int .i64 n, .slice (some ⟨kb, ko, none⟩) 2 c] 34)).alloc (.cells #[.int .i64 0, .int .i64 0, .slice none 0 0] 34) = wb at L R hB hz0 ⊢
  have hx1 : ExX (XB X w.heap.size 2) wb (.mk 6 n [u, v]) (some ⟨kb, ko, none⟩) c := ExX.boxes hx hB
  have hB' := hB
  have hXW : ∀ b, XB X w.heap.size 2 b → b < wb.heap.size := fun b q => q.elim (fun q => by have := hX _ q; omega) (fun q => by omega)
  clear hx
  obtain ⟨kb', ko', su, cu, e1, -, -, -, hkb, hkX, ku, hu⟩ := kidX0 (r := [v]) hx1
  simp only [Option.some.injEq, Addr.mk.injEq, and_true] at e1
  obtain ⟨rfl, rfl⟩ := e1
  obtain ⟨sv, cv, kv, hv⟩ := kidX1 (r := []) hx1
  have Hku := Lib.hid ku
  have Hkv := Lib.hid kv
  clear ku kv hx1
  obtain ⟨x0, hx0⟩ := mkval ?a1_0
  obtain ⟨x1, hx1⟩ := mkval ?a1_1
  obtain ⟨x2, hx2⟩ := mkval ?a1_2
  obtain ⟨x3, hx3⟩ := mkval ?a1_3
  obtain ⟨x5, hx5⟩ := mkval ?a1_5
  obtain ⟨x6, hx6⟩ := mkval ?a1_6
  obtain ⟨x7, hx7⟩ := mkval ?a1_7
  obtain ⟨x8, hx8⟩ := mkval ?a1_8
  have hGb : ∀ m b, (fun m b => (m = 0 ∧ b = (w.heap.size + 1))) m b → (w.heap.size) ≤ b ∧ b < (wb).heap.size := by
   intro m b hg
   rcases hg with ⟨rfl, hg⟩
   ·
    subst hg
    have q := R.lt
    omega
  have hGd : ∀ m m' b, (fun m b => (m = 0 ∧ b = (w.heap.size + 1))) m b → (fun m b => (m = 0 ∧ b = (w.heap.size + 1))) m' b → m = m' := by
   intro m m' b h h'
   rcases h with ⟨rfl, h⟩ <;> rcases h' with ⟨rfl, h'⟩ <;> first
    | rfl
  have hGX : ∀ m b, (fun m b => (m = 0 ∧ b = (w.heap.size + 1))) m b → (XB X w.heap.size 2) b := by
   intro m b hg
   exact Or.inr (by omega)
  refine region_rs [(10, 4), (10, 9)] [(11, 0)] (fun m b => (m = 0 ∧ b = (w.heap.size + 1))) (w.heap.size) (fun i iv vs wx => match i with
   | 0 => vs 0 = x0
   | 1 => vs 1 = x1
   | 2 => vs 2 = x2
   | 3 => vs 3 = x3
   | 4 => ∃ s1 c1, vs 4 = .agg #[.int .i64 u.tidy.kind, .int .i64 u.tidy.num, .slice s1 u.tidy.kids.length c1] ∧ RdO wb (XB X w.heap.size 2) (foot [(10, 4), (10, 9)] [(11, 0)] (fun m b => (m = 0 ∧ b = (w.heap.size + 1))) 12 4 iv) wx (kidsD u.tidy.kids) (.slice s1 u.tidy.kids.length c1)
   | 5 => vs 5 = x5
   | 6 => vs 6 = x6
   | 7 => vs 7 = x7
   | 8 => vs 8 = x8
   | 9 => ∃ s2 c2, vs 9 = .agg #[.int .i64 v.tidy.kind, .int .i64 v.tidy.num, .slice s2 v.tidy.kids.length c2] ∧ RdO wb (XB X w.heap.size 2) (foot [(10, 4), (10, 9)] [(11, 0)] (fun m b => (m = 0 ∧ b = (w.heap.size + 1))) 12 9 iv) wx (kidsD v.tidy.kids) (.slice s2 v.tidy.kids.length c2)
   | 10 => ∃ s3 c3, vs 10 = .agg #[.int .i64 (sumT u.tidy v.tidy).kind, .int .i64 (sumT u.tidy v.tidy).num, .slice s3 (sumT u.tidy v.tidy).kids.length c3] ∧ RdO wb (XB X w.heap.size 2) (foot [(10, 4), (10, 9)] [(11, 0)] (fun m b => (m = 0 ∧ b = (w.heap.size + 1))) 12 10 iv) wx (kidsD (sumT u.tidy v.tidy).kids) (.slice s3 (sumT u.tidy v.tidy).kids.length c3)
   | 11 => Blk wx (w.heap.size + 1) 34 [aggAt (vs 10) 0, aggAt (vs 10) 1, aggAt (vs 10) 2]
   | _ => True) (fun i iv vs => match i with
   | 0 => vs 0 = x0
   | 1 => vs 1 = x1
   | 2 => vs 2 = x2
   | 3 => vs 3 = x3
   | 4 => ∃ s1 c1, vs 4 = .agg #[.int .i64 u.tidy.kind, .int .i64 u.tidy.num, .slice s1 u.tidy.kids.length c1]
   | 5 => vs 5 = x5
   | 6 => vs 6 = x6
   | 7 => vs 7 = x7
   | 8 => vs 8 = x8
   | 9 => ∃ s2 c2, vs 9 = .agg #[.int .i64 v.tidy.kind, .int .i64 v.tidy.num, .slice s2 v.tidy.kids.length c2]
   | 10 => ∃ s3 c3, vs 10 = .agg #[.int .i64 (sumT u.tidy v.tidy).kind, .int .i64 (sumT u.tidy v.tidy).num, .slice s3 (sumT u.tidy v.tidy).kids.length c3]
   | 11 => True
   | _ => True) (by kernel_rfl) (by kernel_rfl) [0, 1, 2, 3, 4, 5, 6, 7, 8, 9, 10, 11] (by kernel_rfl) ?hbase ?hGb ?hG ?hJ ?hE ?hEE ?hstep ?hQ
  case hbase => first | exact Nat.le_refl _ | omega | (simp; omega)
  case hGb =>
   exact hGb
  case hG =>
   exact hGd
  case hJ =>
   intro i hi iv iv' vs vs' wx wx' ha hv hz hk hj
   simp only [List.mem_cons, List.not_mem_nil, or_false] at hi
   rcases hi with rfl | rfl | rfl | rfl | rfl | rfl | rfl | rfl | rfl | rfl | rfl | rfl
   ·
    exact (hv.out 0 (mem_of (by kernel_rfl))).symm.trans hj
   ·
    exact (hv.out 1 (mem_of (by kernel_rfl))).symm.trans hj
   ·
    exact (hv.out 2 (mem_of (by kernel_rfl))).symm.trans hj
   ·
    exact (hv.out 3 (mem_of (by kernel_rfl))).symm.trans hj
   ·
    have e4 := hv.out 4 (mem_of (by kernel_rfl))
    obtain ⟨s1, c1, q1, q2⟩ := hj
    exact ⟨s1, c1, e4 ▸ q1, q2.keep hz (fun b hb h1 => hk.out b hb h1) (fun b h1 => foot_agree (l := ancs _ 12 4) (by exact of_decide_eq_true (by kernel_rfl)) ha.out h1)⟩
   ·
    exact (hv.out 5 (mem_of (by kernel_rfl))).symm.trans hj
   ·
    exact (hv.out 6 (mem_of (by kernel_rfl))).symm.trans hj
   ·
    exact (hv.out 7 (mem_of (by kernel_rfl))).symm.trans hj
   ·
    exact (hv.out 8 (mem_of (by kernel_rfl))).symm.trans hj
   ·
    have e9 := hv.out 9 (mem_of (by kernel_rfl))
    obtain ⟨s2, c2, q1, q2⟩ := hj
    exact ⟨s2, c2, e9 ▸ q1, q2.keep hz (fun b hb h1 => hk.out b hb h1) (fun b h1 => foot_agree (l := ancs _ 12 9) (by exact of_decide_eq_true (by kernel_rfl)) ha.out h1)⟩
   ·
    have e10 := hv.out 10 (mem_of (by kernel_rfl))
    obtain ⟨s3, c3, q1, q2⟩ := hj
    exact ⟨s3, c3, e10 ▸ q1, q2.keep hz (fun b hb h1 => hk.out b hb h1) (fun b h1 => foot_agree (l := ancs _ 12 10) (by exact of_decide_eq_true (by kernel_rfl)) ha.out h1)⟩
   ·
    have e10 := hv.out 10 (mem_of (by kernel_rfl))
    have hj' : Blk wx (w.heap.size + 1) 34 [aggAt (vs 10) 0, aggAt (vs 10) 1, aggAt (vs 10) 2] := hj
    show Blk wx' (w.heap.size + 1) 34 [aggAt (vs' 10) 0, aggAt (vs' 10) 1, aggAt (vs' 10) 2]
    rw [← e10]
    exact hj'.keep (hk.out _ hj'.lt (foot_given 0 (by decide) ⟨rfl, rfl⟩))
  case hE =>
   intro i hi iv vs wx hj
   simp only [List.mem_cons, List.not_mem_nil, or_false] at hi
   rcases hi with rfl | rfl | rfl | rfl | rfl | rfl | rfl | rfl | rfl | rfl | rfl | rfl
   ·
    exact hj
   ·
    exact hj
   ·
    exact hj
   ·
    exact hj
   ·
    obtain ⟨s1, c1, q1, -⟩ := hj
    exact ⟨s1, c1, q1⟩
   ·
    exact hj
   ·
    exact hj
   ·
    exact hj
   ·
    exact hj
   ·
    obtain ⟨s2, c2, q1, -⟩ := hj
    exact ⟨s2, c2, q1⟩
   ·
    obtain ⟨s3, c3, q1, -⟩ := hj
    exact ⟨s3, c3, q1⟩
   ·
    trivial
  case hEE =>
   intro i hi iv iv' vs vs' ha hv hj
   simp only [List.mem_cons, List.not_mem_nil, or_false] at hi
   rcases hi with rfl | rfl | rfl | rfl | rfl | rfl | rfl | rfl | rfl | rfl | rfl | rfl
   ·
    exact (hv.out 0 (mem_of (by kernel_rfl))).symm.trans hj
   ·
    exact (hv.out 1 (mem_of (by kernel_rfl))).symm.trans hj
   ·
    exact (hv.out 2 (mem_of (by kernel_rfl))).symm.trans hj
   ·
    exact (hv.out 3 (mem_of (by kernel_rfl))).symm.trans hj
   ·
    have e4 := hv.out 4 (mem_of (by kernel_rfl))
    have hj' : ∃ s1 c1, vs 4 = .agg #[.int .i64 u.tidy.kind, .int .i64 u.tidy.num, .slice s1 u.tidy.kids.length c1] := hj
    show ∃ s1 c1, vs' 4 = .agg #[.int .i64 u.tidy.kind, .int .i64 u.tidy.num, .slice s1 u.tidy.kids.length c1]
    rw [← e4]
    exact hj'
   ·
    exact (hv.out 5 (mem_of (by kernel_rfl))).symm.trans hj
   ·
    exact (hv.out 6 (mem_of (by kernel_rfl))).symm.trans hj
   ·
    exact (hv.out 7 (mem_of (by kernel_rfl))).symm.trans hj
   ·
    exact (hv.out 8 (mem_of (by kernel_rfl))).symm.trans hj
   ·
    have e9 := hv.out 9 (mem_of (by kernel_rfl))
    have hj' : ∃ s2 c2, vs 9 = .agg #[.int .i64 v.tidy.kind, .int .i64 v.tidy.num, .slice s2 v.tidy.kids.length c2] := hj
    show ∃ s2 c2, vs' 9 = .agg #[.int .i64 v.tidy.kind, .int .i64 v.tidy.num, .slice s2 v.tidy.kids.length c2]
    rw [← e9]
    exact hj'
   ·
    have e10 := hv.out 10 (mem_of (by kernel_rfl))
    have hj' : ∃ s3 c3, vs 10 = .agg #[.int .i64 (sumT u.tidy v.tidy).kind, .int .i64 (sumT u.tidy v.tidy).num, .slice s3 (sumT u.tidy v.tidy).kids.length c3] := hj
    show ∃ s3 c3, vs' 10 = .agg #[.int .i64 (sumT u.tidy v.tidy).kind, .int .i64 (sumT u.tidy v.tidy).num, .slice s3 (sumT u.tidy v.tidy).kids.length c3]
    rw [← e10]
    exact hj'
   ·
    trivial
  case hstep =>
   intro i hi opr ho iv vs w1 hB hS hSo hd he hbd hsep hun K hK
   simp only [List.mem_cons, List.not_mem_nil, or_false] at hi
   have hzB := hB.size
   have HGb := Lib.hid hGb
   clear hGb hGd
   have kw := hSo.out.block _ hkb (fun ⟨_, _, h⟩ => hkX (Or.inr (by omega)))
   obtain ⟨u0, u1, u2⟩ := Hku.out.keep kw
   obtain ⟨v0, v1, v2⟩ := Hkv.out.keep kw
   have L1 := L.keep (hSo.out.block _ L.lt (fun ⟨_, _, h⟩ => by omega))
   have l0 := L1.c0
   have l1 := L1.c1
   have l2 := L1.c2
   generalize hA : putFrom _ 0 vs _ = A at hK ⊢
   simp only [putFrom, puts] at hA
   rcases hi with rfl | rfl | rfl | rfl | rfl | rfl | rfl | rfl | rfl | rfl | rfl | rfl
   all_goals
    simp at ho
    subst ho
    subst hA
   ·
    go_wp2_with fail
    refine Onward.mk (hK ?val1_0 _ _ (fun h => by cases h) ?eqA (Spares.refl _) (fun iv' _ _ => ?ja))
    case eqA => first | rfl | (simp only [puts]; rfl)
    case ja => exact hx0.out.symm
   ·
    have h0 := (hd.out 0 (mem_of (by kernel_rfl)) (by decide) (by kernel_rfl)).trans hx0.out
    go_wp2_with fail
    refine Onward.mk (hK ?val1_1 _ _ (fun h => by cases h) ?eqA (Spares.refl _) (fun iv' _ _ => ?ja))
    case eqA => first | rfl | (simp only [puts, h0]; rfl)
    case ja => exact hx1.out.symm
   ·
    have h1 := (hd.out 1 (mem_of (by kernel_rfl)) (by decide) (by kernel_rfl)).trans hx1.out
    go_wp2_with fail
    refine Onward.mk (hK ?val1_2 _ _ (fun h => by cases h) ?eqA (Spares.refl _) (fun iv' _ _ => ?ja))
    case eqA => first | rfl | (simp only [puts, h1]; rfl)
    case ja => exact hx2.out.symm
   ·
    have h2 := (hd.out 2 (mem_of (by kernel_rfl)) (by decide) (by kernel_rfl)).trans hx2.out
    go_wp2_with fail
    refine Onward.mk (hK ?val1_3 _ _ (fun h => by cases h) ?eqA (Spares.refl _) (fun iv' _ _ => ?ja))
    case eqA => first | rfl | (simp only [puts, h2]; rfl)
    case ja => exact hx3.out.symm
   ·
    have h3 := (hd.out 3 (mem_of (by kernel_rfl)) (by decide) (by kernel_rfl)).trans hx3.out
    go_wp2_with fail
    have hO : KeptX (XB X w.heap.size 2) wb w1 := KeptX.of_spares hSo.out (fun b _ ⟨m, hg⟩ => hGX m b hg)
    obtain ⟨XQ, hXQ⟩ : ∃ XQ, XQ = OutX wb (XB X w.heap.size 2) (fun b => False) w1 := ⟨_, rfl⟩
    have hXl : ∀ b, XQ b → b < w1.heap.size := by rw [hXQ]; exact OutX.lt
    have hOld : ∀ (d : D) (v : Value), RdX (XB X w.heap.size 2) wb d v → RdX XQ w1 d v := by rw [hXQ]; exact fun d v h => h.toOut hO
    refine (HIH.out u.size (by omega) u XQ _ _ _ (Nat.le_refl _) hXl (hOld _ _ hu) hut (by omega)).mono ?_
    rintro e w2 ⟨s1, c1, rfl, hr, hb⟩
    go_wp2_with fail
    rw [hXQ] at hr
    exact Onward.mk (hK (.agg #[.int .i64 u.tidy.kind, .int .i64 u.tidy.num, .slice s1 u.tidy.kids.length c1]) _ _ (fun h => by cases h) (by first | rfl | (simp only [puts, h3])) (Spares.of_below hb) (fun iv' ag hi => ⟨s1, c1, rfl, RdO.ofX hr hb hO (fun b h => by exact h.elim) (fun b h1 h2 => foot_new hi h1 h2)⟩))
   ·
    go_wp2_with fail
    refine Onward.mk (hK ?val1_5 _ _ (fun h => by cases h) ?eqA (Spares.refl _) (fun iv' _ _ => ?ja))
    case eqA => first | rfl | (simp only [puts]; rfl)
    case ja => exact hx5.out.symm
   ·
    have h5 := (hd.out 5 (mem_of (by kernel_rfl)) (by decide) (by kernel_rfl)).trans hx5.out
    go_wp2_with fail
    refine Onward.mk (hK ?val1_6 _ _ (fun h => by cases h) ?eqA (Spares.refl _) (fun iv' _ _ => ?ja))
    case eqA => first | rfl | (simp only [puts, h5]; rfl)
    case ja => exact hx6.out.symm
   ·
    have h6 := (hd.out 6 (mem_of (by kernel_rfl)) (by decide) (by kernel_rfl)).trans hx6.out
    go_wp2_with fail
    refine Onward.mk (hK ?val1_7 _ _ (fun h => by cases h) ?eqA (Spares.refl _) (fun iv' _ _ => ?ja))
    case eqA => first | rfl | (simp only [puts, h6]; rfl)
    case ja => exact hx7.out.symm
   ·
    have h7 := (hd.out 7 (mem_of (by kernel_rfl)) (by decide) (by kernel_rfl)).trans hx7.out
    go_wp2_with fail
    refine Onward.mk (hK ?val1_8 _ _ (fun h => by cases h) ?eqA (Spares.refl _) (fun iv' _ _ => ?ja))
    case eqA => first | rfl | (simp only [puts, h7]; rfl)
    case ja => exact hx8.out.symm
   ·
    have h8 := (hd.out 8 (mem_of (by kernel_rfl)) (by decide) (by kernel_rfl)).trans hx8.out
    go_wp2_with fail
    have hO : KeptX (XB X w.heap.size 2) wb w1 := KeptX.of_spares hSo.out (fun b _ ⟨m, hg⟩ => hGX m b hg)
    obtain ⟨XQ, hXQ⟩ : ∃ XQ, XQ = OutX wb (XB X w.heap.size 2) (fun b => False) w1 := ⟨_, rfl⟩
    have hXl : ∀ b, XQ b → b < w1.heap.size := by rw [hXQ]; exact OutX.lt
    have hOld : ∀ (d : D) (v : Value), RdX (XB X w.heap.size 2) wb d v → RdX XQ w1 d v := by rw [hXQ]; exact fun d v h => h.toOut hO
    refine (HIH.out v.size (by omega) v XQ _ _ _ (Nat.le_refl _) hXl (hOld _ _ hv) hvt (by omega)).mono ?_
    rintro e w2 ⟨s2, c2, rfl, hr, hb⟩
    go_wp2_with fail
    rw [hXQ] at hr
    exact Onward.mk (hK (.agg #[.int .i64 v.tidy.kind, .int .i64 v.tidy.num, .slice s2 v.tidy.kids.length c2]) _ _ (fun h => by cases h) (by first | rfl | (simp only [puts, h8])) (Spares.of_below hb) (fun iv' ag hi => ⟨s2, c2, rfl, RdO.ofX hr hb hO (fun b h => by exact h.elim) (fun b h1 h2 => foot_new hi h1 h2)⟩))
   ·
    obtain ⟨s1, c1, h4, f4⟩ := hd.out 4 (mem_of (by kernel_rfl)) (by decide) (by kernel_rfl)
    obtain ⟨s2, c2, h9, f9⟩ := hd.out 9 (mem_of (by kernel_rfl)) (by decide) (by kernel_rfl)
    go_wp2_with fail
    have hO : KeptX (XB X w.heap.size 2) wb w1 := KeptX.of_spares hSo.out (fun b _ ⟨m, hg⟩ => hGX m b hg)
    obtain ⟨XQ, hXQ⟩ : ∃ XQ, XQ = OutX wb (XB X w.heap.size 2) (fun b => (foot [(10, 4), (10, 9)] [(11, 0)] (fun m b => (m = 0 ∧ b = (w.heap.size + 1))) 12 4 iv) b ∨ (foot [(10, 4), (10, 9)] [(11, 0)] (fun m b => (m = 0 ∧ b = (w.heap.size + 1))) 12 9 iv) b) w1 := ⟨_, rfl⟩
    have hXl : ∀ b, XQ b → b < w1.heap.size := by rw [hXQ]; exact OutX.lt
    have x4 : RdX XQ w1 (kidsD u.tidy.kids) (.slice s1 u.tidy.kids.length c1) := by rw [hXQ]; exact f4.toX hO (fun b h => (Or.inl h))
    have x9 : RdX XQ w1 (kidsD v.tidy.kids) (.slice s2 v.tidy.kids.length c2) := by rw [hXQ]; exact f9.toX hO (fun b h => (Or.inr h))
    have hOld : ∀ (d : D) (v : Value), RdX (XB X w.heap.size 2) wb d v → RdX XQ w1 d v := by rw [hXQ]; exact fun d v h => h.toOut hO
    refine (tidySum_i ht ha hXl x4 x9 hu1 hv1 (by omega)).mono ?_
    rintro e w2 ⟨s3, c3, rfl, hr, hb⟩
    go_wp2_with fail
    rw [hXQ] at hr
    exact Onward.mk (hK (.agg #[.int .i64 (sumT u.tidy v.tidy).kind, .int .i64 (sumT u.tidy v.tidy).num, .slice s3 (sumT u.tidy v.tidy).kids.length c3]) _ _ (fun h => by cases h) (by first | rfl | (simp only [puts, h4, h9])) (Spares.of_below hb) (fun iv' ag hi => ⟨s3, c3, rfl, RdO.ofX hr hb hO (fun b h => by rcases h with h | h; exact foot_step (by kernel_rfl) ag h; exact foot_step (by kernel_rfl) ag h) (fun b h1 h2 => foot_new hi h1 h2)⟩))
   ·
    obtain ⟨s3, c3, h10, f10⟩ := hd.out 10 (mem_of (by kernel_rfl)) (by decide) (by kernel_rfl)
    have R1 := R.keep (hS.out 0 _ (by kernel_rfl) ⟨rfl, rfl⟩)
    have rc0 := R1.c0
    have rz0 := R1.frozen 0
    have rc1 := R1.c1
    have rz1 := R1.frozen 1
    have rc2 := R1.c2
    have rz2 := R1.frozen 2
    have rlt := R1.lt
    go_wp2_with fail
    exact Onward.mk (hK undef _ _ (fun _ => rfl) (by simp only [puts, h10]) ((spares_sets (b0 := (w.heap.size + 1)) (by repeat (first | exact Spares.refl _ | apply Spares.set))).more (fun b h => Or.inl ⟨0, by decide, ⟨rfl, h⟩⟩)) (fun iv' ag hi => by
     show Blk _ (w.heap.size + 1) 34 [aggAt (vs 10) 0, aggAt (vs 10) 1, aggAt (vs 10) 2]
     rw [h10]
     exact (((R1.set 0 _).set 1 _).set 2 _)))
  case hQ =>
   intro iv vs wx hB hSp hd he hbd hsep
   have hzB := hB.size
   have h0 := (hd.out 0 (mem_of (by kernel_rfl)) (not_eaten (by kernel_rfl))).trans hx0.out
   have h1 := (hd.out 1 (mem_of (by kernel_rfl)) (not_eaten (by kernel_rfl))).trans hx1.out
   have h2 := (hd.out 2 (mem_of (by kernel_rfl)) (not_eaten (by kernel_rfl))).trans hx2.out
   have h3 := (hd.out 3 (mem_of (by kernel_rfl)) (not_eaten (by kernel_rfl))).trans hx3.out
   obtain ⟨s1, c1, h4⟩ := he.out 4 (mem_of (by kernel_rfl))
   have h5 := (hd.out 5 (mem_of (by kernel_rfl)) (not_eaten (by kernel_rfl))).trans hx5.out
   have h6 := (hd.out 6 (mem_of (by kernel_rfl)) (not_eaten (by kernel_rfl))).trans hx6.out
   have h7 := (hd.out 7 (mem_of (by kernel_rfl)) (not_eaten (by kernel_rfl))).trans hx7.out
   have h8 := (hd.out 8 (mem_of (by kernel_rfl)) (not_eaten (by kernel_rfl))).trans hx8.out
   obtain ⟨s2, c2, h9⟩ := he.out 9 (mem_of (by kernel_rfl))
   obtain ⟨s3, c3, h10, f10⟩ := hd.out 10 (mem_of (by kernel_rfl)) (not_eaten (by kernel_rfl))
   have f11 : Blk _ (w.heap.size + 1) 34 [aggAt (vs 10) 0, aggAt (vs 10) 1, aggAt (vs 10) 2] := hd.out 11 (mem_of (by kernel_rfl)) (not_eaten (by kernel_rfl))
   simp only [putFrom, puts]
   have hOq : KeptX (XB X w.heap.size 2) wb wx := KeptX.of_spares hSp.out (fun b _ ⟨m, hg⟩ => hGX m b hg)
   have r10 : RdX (XB X w.heap.size 2) wx (kidsD (sumT u.tidy v.tidy).kids) (.slice s3 (sumT u.tidy v.tidy).kids.length c3) := f10.done hOq (fun b hf hx => by have q := foot_no (l := [0, 1, 2, 3, 4, 5, 6, 7, 8, 9, 10, 11]) (by kernel_rfl) (by kernel_rfl) hbd.out hf; have q' := hXW b hx; omega)
   clear f10
   rw [h10] at f11
   simp only [aggAt] at f11
   have t0 := f11.c0
   have t1 := f11.c1
   have t2 := f11.c2
   go_wp2_with fail
   refine bodyPost_ret (v := .agg #[.int .i64 (sumT u.tidy v.tidy).kind, .int .i64 (sumT u.tidy v.tidy).num, .slice s3 (sumT u.tidy v.tidy).kids.length c3]) (by simp [results, Tryz.results33, go_sem, t0, t1, t2]) rfl ?_
   rw [E1.out]
   exact ⟨_, _, rfl, ExX.unbox (p := w.heap.size) (n := 2) r10, hB'.trans (hB.mono (by omega))⟩
 have c6 : (k == 6) = false := by simp [h6]
 by_cases h7 : k = 7
 ·
  subst h7
  obtain ⟨u, v, rfl⟩ := two_kids hk (by omega)
  have hsz := Ex.size_eq (.mk 7 n [u, v])
  simp only [Ex.sizeL, Ex.kids_mk] at hsz
  have E1 : Hid ((Ex.mk 7 n [u, v]).tidy = Ex.dot u.tidy v.tidy) := by show _ = _; exact Ex.tidy_dot
  have hut : u.tree tm am = true := Ex.treeL_mem htl (by simp)
  have hvt : v.tree tm am = true := Ex.treeL_mem htl (by simp)
  obtain ⟨hu1, hu2⟩ := tidy_spec tm am _ u (Nat.le_refl _) hut
  obtain ⟨hv1, hv2⟩ := tidy_spec tm am _ v (Nat.le_refl _) hvt
  obtain ⟨kb, ko, su, cu, rfl, -, -, -, -, -, -, -⟩ := kidX0 hx
  simp only [List.length_cons, List.length_nil, Nat.zero_add] at hl ⊢
  clear htl hk
  go_enter Tryz.func33, Tryz.ntmps33
  go_wp2_with fail
  have L := (Blk.new3 w 34 (.int .i64 7) (.int .i64 n) (.slice (some ⟨kb, ko, none⟩) 2 c)).alloc (.cells #[.int .i64 0, .int .i64 0, .slice none 0 0] 34)
  have R := Blk.new3 (w.alloc (.cells #[.int .i64 7, .int .i64 n, .slice (some ⟨kb, ko, none⟩) 2 c] 34)) 34 (.int .i64 0) (.int .i64 0) (.slice none 0 0)
  have hB : Below w.heap.size w ((w.alloc (.cells #[.int .i64 7, .int .i64 n, .slice (some ⟨kb, ko, none⟩) 2 c] 34)).alloc (.cells #[.int .i64 0, .int .i64 0, .slice none 0 0] 34)) := by (repeat' first | exact Below.refl _ _ | assumption | apply Below.alloc | apply Below.drew | apply Below.setCell | omega | (simp; done) | (simp; omega))
  have hz0 : ((w.alloc (.cells #[.int .i64 7, .int .i64 n, .slice (some ⟨kb, ko, none⟩) 2 c] 34)).alloc (.cells #[.int .i64 0, .int .i64 0, .slice none 0 0] 34)).heap.size = w.heap.size + 2 := by simp
  simp at R
  generalize (w.alloc (.cells #[.int .i64 7, .int .i64 n, .slice (some ⟨kb, ko, none⟩) 2 c] 34)).alloc (.cells #[.int .i64 0, .int .i64 0, .slice none 0 0] 34) = wb at L R hB hz0 ⊢
  have hx1 : ExX (XB X w.heap.size 2) wb (.mk 7 n [u, v]) (some ⟨kb, ko, none⟩) c := ExX.boxes hx hB
  have hB' := hB
  have hXW : ∀ b, XB X w.heap.size 2 b → b < wb.heap.size := fun b q => q.elim (fun q => by have := hX _ q; omega) (fun q => by omega)
  clear hx
  obtain ⟨kb', ko', su, cu, e1, -, -, -, hkb, hkX, ku, hu⟩ := kidX0 (r := [v]) hx1
  simp only [Option.some.injEq, Addr.mk.injEq, and_true] at e1
  obtain ⟨rfl, rfl⟩ := e1
  obtain ⟨sv, cv, kv, hv⟩ := kidX1 (r := []) hx1
  have Hku := Lib.hid ku
  have Hkv := Lib.hid kv
  clear ku kv hx1
  obtain ⟨x0, hx0⟩ := mkval ?a2_0
  obtain ⟨x1, hx1⟩ := mkval ?a2_1
  obtain ⟨x2, hx2⟩ := mkval ?a2_2
  obtain ⟨x3, hx3⟩ := mkval ?a2_3
  obtain ⟨x5, hx5⟩ := mkval ?a2_5
  obtain ⟨x6, hx6⟩ := mkval ?a2_6
  obtain ⟨x7, hx7⟩ := mkval ?a2_7
  obtain ⟨x8, hx8⟩ := mkval ?a2_8
  have hGb : ∀ m b, (fun m b => (m = 0 ∧ b = (w.heap.size + 1))) m b → (w.heap.size) ≤ b ∧ b < (wb).heap.size := by
   intro m b hg
   rcases hg with ⟨rfl, hg⟩
   ·
    subst hg
    have q := R.lt
    omega
  have hGd : ∀ m m' b, (fun m b => (m = 0 ∧ b = (w.heap.size + 1))) m b → (fun m b => (m = 0 ∧ b = (w.heap.size + 1))) m' b → m = m' := by
   intro m m' b h h'
   rcases h with ⟨rfl, h⟩ <;> rcases h' with ⟨rfl, h'⟩ <;> first
    | rfl
  have hGX : ∀ m b, (fun m b => (m = 0 ∧ b = (w.heap.size + 1))) m b → (XB X w.heap.size 2) b := by
   intro m b hg
   exact Or.inr (by omega)
  refine region_rs [(10, 4), (10, 9)] [(11, 0)] (fun m b => (m = 0 ∧ b = (w.heap.size + 1))) (w.heap.size) (fun i iv vs wx => match i with
   | 0 => vs 0 = x0
   | 1 => vs 1 = x1
   | 2 => vs 2 = x2
   | 3 => vs 3 = x3
   | 4 => ∃ s1 c1, vs 4 = .agg #[.int .i64 u.tidy.kind, .int .i64 u.tidy.num, .slice s1 u.tidy.kids.length c1] ∧ RdO wb (XB X w.heap.size 2) (foot [(10, 4), (10, 9)] [(11, 0)] (fun m b => (m = 0 ∧ b = (w.heap.size + 1))) 12 4 iv) wx (kidsD u.tidy.kids) (.slice s1 u.tidy.kids.length c1)
   | 5 => vs 5 = x5
   | 6 => vs 6 = x6
   | 7 => vs 7 = x7
   | 8 => vs 8 = x8
   | 9 => ∃ s2 c2, vs 9 = .agg #[.int .i64 v.tidy.kind, .int .i64 v.tidy.num, .slice s2 v.tidy.kids.length c2] ∧ RdO wb (XB X w.heap.size 2) (foot [(10, 4), (10, 9)] [(11, 0)] (fun m b => (m = 0 ∧ b = (w.heap.size + 1))) 12 9 iv) wx (kidsD v.tidy.kids) (.slice s2 v.tidy.kids.length c2)
   | 10 => ∃ s3 c3, vs 10 = .agg #[.int .i64 (Ex.dot u.tidy v.tidy).kind, .int .i64 (Ex.dot u.tidy v.tidy).num, .slice s3 (Ex.dot u.tidy v.tidy).kids.length c3] ∧ RdO wb (XB X w.heap.size 2) (foot [(10, 4), (10, 9)] [(11, 0)] (fun m b => (m = 0 ∧ b = (w.heap.size + 1))) 12 10 iv) wx (kidsD (Ex.dot u.tidy v.tidy).kids) (.slice s3 (Ex.dot u.tidy v.tidy).kids.length c3)
   | 11 => Blk wx (w.heap.size + 1) 34 [aggAt (vs 10) 0, aggAt (vs 10) 1, aggAt (vs 10) 2]
   | _ => True) (fun i iv vs => match i with
   | 0 => vs 0 = x0
   | 1 => vs 1 = x1
   | 2 => vs 2 = x2
   | 3 => vs 3 = x3
   | 4 => ∃ s1 c1, vs 4 = .agg #[.int .i64 u.tidy.kind, .int .i64 u.tidy.num, .slice s1 u.tidy.kids.length c1]
   | 5 => vs 5 = x5
   | 6 => vs 6 = x6
   | 7 => vs 7 = x7
   | 8 => vs 8 = x8
   | 9 => ∃ s2 c2, vs 9 = .agg #[.int .i64 v.tidy.kind, .int .i64 v.tidy.num, .slice s2 v.tidy.kids.length c2]
   | 10 => ∃ s3 c3, vs 10 = .agg #[.int .i64 (Ex.dot u.tidy v.tidy).kind, .int .i64 (Ex.dot u.tidy v.tidy).num, .slice s3 (Ex.dot u.tidy v.tidy).kids.length c3]
   | 11 => True
   | _ => True) (by kernel_rfl) (by kernel_rfl) [0, 1, 2, 3, 4, 5, 6, 7, 8, 9, 10, 11] (by kernel_rfl) ?hbase ?hGb ?hG ?hJ ?hE ?hEE ?hstep ?hQ
  case hbase => first | exact Nat.le_refl _ | omega | (simp; omega)
  case hGb =>
   exact hGb
  case hG =>
   exact hGd
  case hJ =>
   intro i hi iv iv' vs vs' wx wx' ha hv hz hk hj
   simp only [List.mem_cons, List.not_mem_nil, or_false] at hi
   rcases hi with rfl | rfl | rfl | rfl | rfl | rfl | rfl | rfl | rfl | rfl | rfl | rfl
   ·
    exact (hv.out 0 (mem_of (by kernel_rfl))).symm.trans hj
   ·
    exact (hv.out 1 (mem_of (by kernel_rfl))).symm.trans hj
   ·
    exact (hv.out 2 (mem_of (by kernel_rfl))).symm.trans hj
   ·
    exact (hv.out 3 (mem_of (by kernel_rfl))).symm.trans hj
   ·
    have e4 := hv.out 4 (mem_of (by kernel_rfl))
    obtain ⟨s1, c1, q1, q2⟩ := hj
    exact ⟨s1, c1, e4 ▸ q1, q2.keep hz (fun b hb h1 => hk.out b hb h1) (fun b h1 => foot_agree (l := ancs _ 12 4) (by exact of_decide_eq_true (by kernel_rfl)) ha.out h1)⟩
   ·
    exact (hv.out 5 (mem_of (by kernel_rfl))).symm.trans hj
   ·
    exact (hv.out 6 (mem_of (by kernel_rfl))).symm.trans hj
   ·
    exact (hv.out 7 (mem_of (by kernel_rfl))).symm.trans hj
   ·
    exact (hv.out 8 (mem_of (by kernel_rfl))).symm.trans hj
   ·
    have e9 := hv.out 9 (mem_of (by kernel_rfl))
    obtain ⟨s2, c2, q1, q2⟩ := hj
    exact ⟨s2, c2, e9 ▸ q1, q2.keep hz (fun b hb h1 => hk.out b hb h1) (fun b h1 => foot_agree (l := ancs _ 12 9) (by exact of_decide_eq_true (by kernel_rfl)) ha.out h1)⟩
   ·
    have e10 := hv.out 10 (mem_of (by kernel_rfl))
    obtain ⟨s3, c3, q1, q2⟩ := hj
    exact ⟨s3, c3, e10 ▸ q1, q2.keep hz (fun b hb h1 => hk.out b hb h1) (fun b h1 => foot_agree (l := ancs _ 12 10) (by exact of_decide_eq_true (by kernel_rfl)) ha.out h1)⟩
   ·
    have e10 := hv.out 10 (mem_of (by kernel_rfl))
    have hj' : Blk wx (w.heap.size + 1) 34 [aggAt (vs 10) 0, aggAt (vs 10) 1, aggAt (vs 10) 2] := hj
    show Blk wx' (w.heap.size + 1) 34 [aggAt (vs' 10) 0, aggAt (vs' 10) 1, aggAt (vs' 10) 2]
    rw [← e10]
    exact hj'.keep (hk.out _ hj'.lt (foot_given 0 (by decide) ⟨rfl, rfl⟩))
  case hE =>
   intro i hi iv vs wx hj
   simp only [List.mem_cons, List.not_mem_nil, or_false] at hi
   rcases hi with rfl | rfl | rfl | rfl | rfl | rfl | rfl | rfl | rfl | rfl | rfl | rfl
   ·
    exact hj
   ·
    exact hj
   ·
    exact hj
   ·
    exact hj
   ·
    obtain ⟨s1, c1, q1, -⟩ := hj
    exact ⟨s1, c1, q1⟩
   ·
    exact hj
   ·
    exact hj
   ·
    exact hj
   ·
    exact hj
   ·
    obtain ⟨s2, c2, q1, -⟩ := hj
    exact ⟨s2, c2, q1⟩
   ·
    obtain ⟨s3, c3, q1, -⟩ := hj
    exact ⟨s3, c3, q1⟩
   ·
    trivial
  case hEE =>
   intro i hi iv iv' vs vs' ha hv hj
   simp only [List.mem_cons, List.not_mem_nil, or_false] at hi
   rcases hi with rfl | rfl | rfl | rfl | rfl | rfl | rfl | rfl | rfl | rfl | rfl | rfl
   ·
    exact (hv.out 0 (mem_of (by kernel_rfl))).symm.trans hj
   ·
    exact (hv.out 1 (mem_of (by kernel_rfl))).symm.trans hj
   ·
    exact (hv.out 2 (mem_of (by kernel_rfl))).symm.trans hj
   ·
    exact (hv.out 3 (mem_of (by kernel_rfl))).symm.trans hj
   ·
    have e4 := hv.out 4 (mem_of (by kernel_rfl))
    have hj' : ∃ s1 c1, vs 4 = .agg #[.int .i64 u.tidy.kind, .int .i64 u.tidy.num, .slice s1 u.tidy.kids.length c1] := hj
    show ∃ s1 c1, vs' 4 = .agg #[.int .i64 u.tidy.kind, .int .i64 u.tidy.num, .slice s1 u.tidy.kids.length c1]
    rw [← e4]
    exact hj'
   ·
    exact (hv.out 5 (mem_of (by kernel_rfl))).symm.trans hj
   ·
    exact (hv.out 6 (mem_of (by kernel_rfl))).symm.trans hj
   ·
    exact (hv.out 7 (mem_of (by kernel_rfl))).symm.trans hj
   ·
    exact (hv.out 8 (mem_of (by kernel_rfl))).symm.trans hj
   ·
    have e9 := hv.out 9 (mem_of (by kernel_rfl))
    have hj' : ∃ s2 c2, vs 9 = .agg #[.int .i64 v.tidy.kind, .int .i64 v.tidy.num, .slice s2 v.tidy.kids.length c2] := hj
    show ∃ s2 c2, vs' 9 = .agg #[.int .i64 v.tidy.kind, .int .i64 v.tidy.num, .slice s2 v.tidy.kids.length c2]
    rw [← e9]
    exact hj'
   ·
    have e10 := hv.out 10 (mem_of (by kernel_rfl))
    have hj' : ∃ s3 c3, vs 10 = .agg #[.int .i64 (Ex.dot u.tidy v.tidy).kind, .int .i64 (Ex.dot u.tidy v.tidy).num, .slice s3 (Ex.dot u.tidy v.tidy).kids.length c3] := hj
    show ∃ s3 c3, vs' 10 = .agg #[.int .i64 (Ex.dot u.tidy v.tidy).kind, .int .i64 (Ex.dot u.tidy v.tidy).num, .slice s3 (Ex.dot u.tidy v.tidy).kids.length c3]
    rw [← e10]
    exact hj'
   ·
    trivial
  case hstep =>
   intro i hi opr ho iv vs w1 hB hS hSo hd he hbd hsep hun K hK
   simp only [List.mem_cons, List.not_mem_nil, or_false] at hi
   have hzB := hB.size
   have HGb := Lib.hid hGb
   clear hGb hGd
   have kw := hSo.out.block _ hkb (fun ⟨_, _, h⟩ => hkX (Or.inr (by omega)))
   obtain ⟨u0, u1, u2⟩ := Hku.out.keep kw
   obtain ⟨v0, v1, v2⟩ := Hkv.out.keep kw
   have L1 := L.keep (hSo.out.block _ L.lt (fun ⟨_, _, h⟩ => by omega))
   have l0 := L1.c0
   have l1 := L1.c1
   have l2 := L1.c2
   generalize hA : putFrom _ 0 vs _ = A at hK ⊢
   simp only [putFrom, puts] at hA
   rcases hi with rfl | rfl | rfl | rfl | rfl | rfl | rfl | rfl | rfl | rfl | rfl | rfl
   all_goals
    simp at ho
    subst ho
    subst hA
   ·
    go_wp2_with fail
    refine Onward.mk (hK ?val2_0 _ _ (fun h => by cases h) ?eqA (Spares.refl _) (fun iv' _ _ => ?ja))
    case eqA => first | rfl | (simp only [puts]; rfl)
    case ja => exact hx0.out.symm
   ·
    have h0 := (hd.out 0 (mem_of (by kernel_rfl)) (by decide) (by kernel_rfl)).trans hx0.out
    go_wp2_with fail
    refine Onward.mk (hK ?val2_1 _ _ (fun h => by cases h) ?eqA (Spares.refl _) (fun iv' _ _ => ?ja))
    case eqA => first | rfl | (simp only [puts, h0]; rfl)
    case ja => exact hx1.out.symm
   ·
    have h1 := (hd.out 1 (mem_of (by kernel_rfl)) (by decide) (by kernel_rfl)).trans hx1.out
    go_wp2_with fail
    refine Onward.mk (hK ?val2_2 _ _ (fun h => by cases h) ?eqA (Spares.refl _) (fun iv' _ _ => ?ja))
    case eqA => first | rfl | (simp only [puts, h1]; rfl)
    case ja => exact hx2.out.symm
   ·
    have h2 := (hd.out 2 (mem_of (by kernel_rfl)) (by decide) (by kernel_rfl)).trans hx2.out
    go_wp2_with fail
    refine Onward.mk (hK ?val2_3 _ _ (fun h => by cases h) ?eqA (Spares.refl _) (fun iv' _ _ => ?ja))
    case eqA => first | rfl | (simp only [puts, h2]; rfl)
    case ja => exact hx3.out.symm
   ·
    have h3 := (hd.out 3 (mem_of (by kernel_rfl)) (by decide) (by kernel_rfl)).trans hx3.out
    go_wp2_with fail
    have hO : KeptX (XB X w.heap.size 2) wb w1 := KeptX.of_spares hSo.out (fun b _ ⟨m, hg⟩ => hGX m b hg)
    obtain ⟨XQ, hXQ⟩ : ∃ XQ, XQ = OutX wb (XB X w.heap.size 2) (fun b => False) w1 := ⟨_, rfl⟩
    have hXl : ∀ b, XQ b → b < w1.heap.size := by rw [hXQ]; exact OutX.lt
    have hOld : ∀ (d : D) (v : Value), RdX (XB X w.heap.size 2) wb d v → RdX XQ w1 d v := by rw [hXQ]; exact fun d v h => h.toOut hO
    refine (HIH.out u.size (by omega) u XQ _ _ _ (Nat.le_refl _) hXl (hOld _ _ hu) hut (by omega)).mono ?_
    rintro e w2 ⟨s1, c1, rfl, hr, hb⟩
    go_wp2_with fail
    rw [hXQ] at hr
    exact Onward.mk (hK (.agg #[.int .i64 u.tidy.kind, .int .i64 u.tidy.num, .slice s1 u.tidy.kids.length c1]) _ _ (fun h => by cases h) (by first | rfl | (simp only [puts, h3])) (Spares.of_below hb) (fun iv' ag hi => ⟨s1, c1, rfl, RdO.ofX hr hb hO (fun b h => by exact h.elim) (fun b h1 h2 => foot_new hi h1 h2)⟩))
   ·
    go_wp2_with fail
    refine Onward.mk (hK ?val2_5 _ _ (fun h => by cases h) ?eqA (Spares.refl _) (fun iv' _ _ => ?ja))
    case eqA => first | rfl | (simp only [puts]; rfl)
    case ja => exact hx5.out.symm
   ·
    have h5 := (hd.out 5 (mem_of (by kernel_rfl)) (by decide) (by kernel_rfl)).trans hx5.out
    go_wp2_with fail
    refine Onward.mk (hK ?val2_6 _ _ (fun h => by cases h) ?eqA (Spares.refl _) (fun iv' _ _ => ?ja))
    case eqA => first | rfl | (simp only [puts, h5]; rfl)
    case ja => exact hx6.out.symm
   ·
    have h6 := (hd.out 6 (mem_of (by kernel_rfl)) (by decide) (by kernel_rfl)).trans hx6.out
    go_wp2_with fail
    refine Onward.mk (hK ?val2_7 _ _ (fun h => by cases h) ?eqA (Spares.refl _) (fun iv' _ _ => ?ja))
    case eqA => first | rfl | (simp only [puts, h6]; rfl)
    case ja => exact hx7.out.symm
   ·
    have h7 := (hd.out 7 (mem_of (by kernel_rfl)) (by decide) (by kernel_rfl)).trans hx7.out
    go_wp2_with fail
    refine Onward.mk (hK ?val2_8 _ _ (fun h => by cases h) ?eqA (Spares.refl _) (fun iv' _ _ => ?ja))
    case eqA => first | rfl | (simp only [puts, h7]; rfl)
    case ja => exact hx8.out.symm
   ·
    have h8 := (hd.out 8 (mem_of (by kernel_rfl)) (by decide) (by kernel_rfl)).trans hx8.out
    go_wp2_with fail
    have hO : KeptX (XB X w.heap.size 2) wb w1 := KeptX.of_spares hSo.out (fun b _ ⟨m, hg⟩ => hGX m b hg)
    obtain ⟨XQ, hXQ⟩ : ∃ XQ, XQ = OutX wb (XB X w.heap.size 2) (fun b => False) w1 := ⟨_, rfl⟩
    have hXl : ∀ b, XQ b → b < w1.heap.size := by rw [hXQ]; exact OutX.lt
    have hOld : ∀ (d : D) (v : Value), RdX (XB X w.heap.size 2) wb d v → RdX XQ w1 d v := by rw [hXQ]; exact fun d v h => h.toOut hO
    refine (HIH.out v.size (by omega) v XQ _ _ _ (Nat.le_refl _) hXl (hOld _ _ hv) hvt (by omega)).mono ?_
    rintro e w2 ⟨s2, c2, rfl, hr, hb⟩
    go_wp2_with fail
    rw [hXQ] at hr
    exact Onward.mk (hK (.agg #[.int .i64 v.tidy.kind, .int .i64 v.tidy.num, .slice s2 v.tidy.kids.length c2]) _ _ (fun h => by cases h) (by first | rfl | (simp only [puts, h8])) (Spares.of_below hb) (fun iv' ag hi => ⟨s2, c2, rfl, RdO.ofX hr hb hO (fun b h => by exact h.elim) (fun b h1 h2 => foot_new hi h1 h2)⟩))
   ·
    obtain ⟨s1, c1, h4, f4⟩ := hd.out 4 (mem_of (by kernel_rfl)) (by decide) (by kernel_rfl)
    obtain ⟨s2, c2, h9, f9⟩ := hd.out 9 (mem_of (by kernel_rfl)) (by decide) (by kernel_rfl)
    go_wp2_with fail
    have hO : KeptX (XB X w.heap.size 2) wb w1 := KeptX.of_spares hSo.out (fun b _ ⟨m, hg⟩ => hGX m b hg)
    obtain ⟨XQ, hXQ⟩ : ∃ XQ, XQ = OutX wb (XB X w.heap.size 2) (fun b => (foot [(10, 4), (10, 9)] [(11, 0)] (fun m b => (m = 0 ∧ b = (w.heap.size + 1))) 12 4 iv) b ∨ (foot [(10, 4), (10, 9)] [(11, 0)] (fun m b => (m = 0 ∧ b = (w.heap.size + 1))) 12 9 iv) b) w1 := ⟨_, rfl⟩
    have hXl : ∀ b, XQ b → b < w1.heap.size := by rw [hXQ]; exact OutX.lt
    have x4 : RdX XQ w1 (kidsD u.tidy.kids) (.slice s1 u.tidy.kids.length c1) := by rw [hXQ]; exact f4.toX hO (fun b h => (Or.inl h))
    have x9 : RdX XQ w1 (kidsD v.tidy.kids) (.slice s2 v.tidy.kids.length c2) := by rw [hXQ]; exact f9.toX hO (fun b h => (Or.inr h))
    have hOld : ∀ (d : D) (v : Value), RdX (XB X w.heap.size 2) wb d v → RdX XQ w1 d v := by rw [hXQ]; exact fun d v h => h.toOut hO
    refine (tidyDot_all tm am _ u.tidy v.tidy XQ _ _ _ _ _ (Nat.le_refl _) hXl x4 x9 hu1).mono ?_
    rintro e w2 ⟨s3, c3, rfl, hr, hb⟩
    go_wp2_with fail
    rw [hXQ] at hr
    exact Onward.mk (hK (.agg #[.int .i64 (Ex.dot u.tidy v.tidy).kind, .int .i64 (Ex.dot u.tidy v.tidy).num, .slice s3 (Ex.dot u.tidy v.tidy).kids.length c3]) _ _ (fun h => by cases h) (by first | rfl | (simp only [puts, h4, h9])) (Spares.of_below hb) (fun iv' ag hi => ⟨s3, c3, rfl, RdO.ofX hr hb hO (fun b h => by rcases h with h | h; exact foot_step (by kernel_rfl) ag h; exact foot_step (by kernel_rfl) ag h) (fun b h1 h2 => foot_new hi h1 h2)⟩))
   ·
    obtain ⟨s3, c3, h10, f10⟩ := hd.out 10 (mem_of (by kernel_rfl)) (by decide) (by kernel_rfl)
    have R1 := R.keep (hS.out 0 _ (by kernel_rfl) ⟨rfl, rfl⟩)
    have rc0 := R1.c0
    have rz0 := R1.frozen 0
    have rc1 := R1.c1
    have rz1 := R1.frozen 1
    have rc2 := R1.c2
    have rz2 := R1.frozen 2
    have rlt := R1.lt
    go_wp2_with fail
    exact Onward.mk (hK undef _ _ (fun _ => rfl) (by simp only [puts, h10]) ((spares_sets (b0 := (w.heap.size + 1)) (by repeat (first | exact Spares.refl _ | apply Spares.set))).more (fun b h => Or.inl ⟨0, by decide, ⟨rfl, h⟩⟩)) (fun iv' ag hi => by
     show Blk _ (w.heap.size + 1) 34 [aggAt (vs 10) 0, aggAt (vs 10) 1, aggAt (vs 10) 2]
     rw [h10]
     exact (((R1.set 0 _).set 1 _).set 2 _)))
  case hQ =>
   intro iv vs wx hB hSp hd he hbd hsep
   have hzB := hB.size
   have h0 := (hd.out 0 (mem_of (by kernel_rfl)) (not_eaten (by kernel_rfl))).trans hx0.out
   have h1 := (hd.out 1 (mem_of (by kernel_rfl)) (not_eaten (by kernel_rfl))).trans hx1.out
   have h2 := (hd.out 2 (mem_of (by kernel_rfl)) (not_eaten (by kernel_rfl))).trans hx2.out
   have h3 := (hd.out 3 (mem_of (by kernel_rfl)) (not_eaten (by kernel_rfl))).trans hx3.out
   obtain ⟨s1, c1, h4⟩ := he.out 4 (mem_of (by kernel_rfl))
   have h5 := (hd.out 5 (mem_of (by kernel_rfl)) (not_eaten (by kernel_rfl))).trans hx5.out
   have h6 := (hd.out 6 (mem_of (by kernel_rfl)) (not_eaten (by kernel_rfl))).trans hx6.out
   have h7 := (hd.out 7 (mem_of (by kernel_rfl)) (not_eaten (by kernel_rfl))).trans hx7.out
   have h8 := (hd.out 8 (mem_of (by kernel_rfl)) (not_eaten (by kernel_rfl))).trans hx8.out
   obtain ⟨s2, c2, h9⟩ := he.out 9 (mem_of (by kernel_rfl))
   obtain ⟨s3, c3, h10, f10⟩ := hd.out 10 (mem_of (by kernel_rfl)) (not_eaten (by kernel_rfl))
   have f11 : Blk _ (w.heap.size + 1) 34 [aggAt (vs 10) 0, aggAt (vs 10) 1, aggAt (vs 10) 2] := hd.out 11 (mem_of (by kernel_rfl)) (not_eaten (by kernel_rfl))
   simp only [putFrom, puts]
   have hOq : KeptX (XB X w.heap.size 2) wb wx := KeptX.of_spares hSp.out (fun b _ ⟨m, hg⟩ => hGX m b hg)
   have r10 : RdX (XB X w.heap.size 2) wx (kidsD (Ex.dot u.tidy v.tidy).kids) (.slice s3 (Ex.dot u.tidy v.tidy).kids.length c3) := f10.done hOq (fun b hf hx => by have q := foot_no (l := [0, 1, 2, 3, 4, 5, 6, 7, 8, 9, 10, 11]) (by kernel_rfl) (by kernel_rfl) hbd.out hf; have q' := hXW b hx; omega)
   clear f10
   rw [h10] at f11
   simp only [aggAt] at f11
   have t0 := f11.c0
   have t1 := f11.c1
   have t2 := f11.c2
   go_wp2_with fail
   refine bodyPost_ret (v := .agg #[.int .i64 (Ex.dot u.tidy v.tidy).kind, .int .i64 (Ex.dot u.tidy v.tidy).num, .slice s3 (Ex.dot u.tidy v.tidy).kids.length c3]) (by simp [results, Tryz.results33, go_sem, t0, t1, t2]) rfl ?_
   rw [E1.out]
   exact ⟨_, _, rfl, ExX.unbox (p := w.heap.size) (n := 2) r10, hB'.trans (hB.mono (by omega))⟩
 have c7 : (k == 7) = false := by simp [h7]
 by_cases h8 : k = 8
 ·
  subst h8
  obtain ⟨u, rfl⟩ := one_kid hk (by omega)
  have hsz := Ex.size_eq (.mk 8 n [u])
  simp only [Ex.sizeL, Ex.kids_mk] at hsz
  have E1 : Hid ((Ex.mk 8 n [u]).tidy = u.tidy.star) := by show _ = _; exact Ex.tidy_star
  have hut : u.tree tm am = true := Ex.treeL_mem htl (by simp)
  obtain ⟨kb, ko, su, cu, rfl, -, -, -, -, -, -, -⟩ := kidX0 hx
  simp only [List.length_cons, List.length_nil, Nat.zero_add] at hl ⊢
  obtain ⟨kb', ko', su, cu, e1, -, -, -, hkb, -, ku, -⟩ := kidX0 (r := []) hx
  simp only [Option.some.injEq, Addr.mk.injEq, and_true] at e1
  obtain ⟨rfl, rfl⟩ := e1
  obtain ⟨u0, u1, u2⟩ := ku
  clear htl hk
  go_enter Tryz.func33, Tryz.ntmps33
  go_wp2_with fail
  have L := (Blk.new3 w 34 (.int .i64 8) (.int .i64 n) (.slice (some ⟨kb, ko, none⟩) 1 c)).alloc (.cells #[.int .i64 0, .int .i64 0, .slice none 0 0] 34)
  have R := Blk.new3 (w.alloc (.cells #[.int .i64 8, .int .i64 n, .slice (some ⟨kb, ko, none⟩) 1 c] 34)) 34 (.int .i64 0) (.int .i64 0) (.slice none 0 0)
  have hB : Below w.heap.size w ((w.alloc (.cells #[.int .i64 8, .int .i64 n, .slice (some ⟨kb, ko, none⟩) 1 c] 34)).alloc (.cells #[.int .i64 0, .int .i64 0, .slice none 0 0] 34)) := by (repeat' first | exact Below.refl _ _ | assumption | apply Below.alloc | apply Below.drew | apply Below.setCell | omega | (simp; done) | (simp; omega))
  have hz0 : ((w.alloc (.cells #[.int .i64 8, .int .i64 n, .slice (some ⟨kb, ko, none⟩) 1 c] 34)).alloc (.cells #[.int .i64 0, .int .i64 0, .slice none 0 0] 34)).heap.size = w.heap.size + 2 := by simp
  simp at R
  generalize (w.alloc (.cells #[.int .i64 8, .int .i64 n, .slice (some ⟨kb, ko, none⟩) 1 c] 34)).alloc (.cells #[.int .i64 0, .int .i64 0, .slice none 0 0] 34) = wb at L R hB hz0 ⊢
  have hx1 : ExX (XB X w.heap.size 2) wb (.mk 8 n [u]) (some ⟨kb, ko, none⟩) c := ExX.boxes hx hB
  have hB' := hB
  have hXW : ∀ b, XB X w.heap.size 2 b → b < wb.heap.size := fun b q => q.elim (fun q => by have := hX _ q; omega) (fun q => by omega)
  clear hx
  obtain ⟨kb', ko', su', cu', e1, -, -, -, -, hkX, ku', hu⟩ := kidX0 (r := []) hx1
  simp only [Option.some.injEq, Addr.mk.injEq, and_true] at e1
  obtain ⟨rfl, rfl⟩ := e1
  have e2 := (hB.cell (p := ⟨kb, ko + 2, none⟩) hkb).trans u2
  rw [ku'.2.2] at e2
  simp only [Option.some.injEq, Value.slice.injEq, true_and] at e2
  obtain ⟨rfl, rfl⟩ := e2
  refine (HIH.out u.size (by omega) u (XB X w.heap.size 2) _ _ _ (Nat.le_refl _) hXW hu hut (by omega)).mono ?_
  rintro f w2 ⟨s2, c2, rfl, h2, hb⟩
  replace hB := Below.on hB hb hB.size
  replace R := R.below hb
  clear u0 u1 u2 ku'
  go_wp2_with fail
  refine (tidyStar_i (fun b q => Nat.lt_of_lt_of_le (hXW b q) hb.size) h2).mono ?_
  rintro f w3 ⟨s3, c3, rfl, h3, hb3⟩
  replace hB := Below.on hB hb3 hB.size
  replace R := R.below hb3
  -- the result box w.heap.size + 1 of world w3 is set to an expression; goal: bodyPost. R : the box; Rests: hs5 : Spares, T2
  have r0 := R.c0
  have r1 := R.c1
  have r2 := R.c2
  have z0 := R.frozen 0
  have z1 := R.frozen 1
  have z2 := R.frozen 2
  have ltR := R.lt
  go_wp2_with fail
  have T2 := ((R.set 0 (.int .i64 u.tidy.star.kind)).set 1 (.int .i64 u.tidy.star.num)).set 2 (.slice s3 u.tidy.star.kids.length c3)
  have hs5 : Spares (fun y => y = w.heap.size + 1) w3 (((w3.setCell ⟨w.heap.size + 1, 0, none⟩ (.int .i64 u.tidy.star.kind)).setCell ⟨w.heap.size + 1, 1, none⟩ (.int .i64 u.tidy.star.num)).setCell ⟨w.heap.size + 1, 2, none⟩ (.slice s3 u.tidy.star.kids.length c3)) := Spares.set (Spares.set (Spares.set (Spares.refl w3)))
  generalize (((w3.setCell ⟨w.heap.size + 1, 0, none⟩ (.int .i64 u.tidy.star.kind)).setCell ⟨w.heap.size + 1, 1, none⟩ (.int .i64 u.tidy.star.num)).setCell ⟨w.heap.size + 1, 2, none⟩ (.slice s3 u.tidy.star.kids.length c3)) = w5 at T2 hs5 ⊢
  have t0 := T2.c0
  have t1 := T2.c1
  have t2 := T2.c2
  have hzB5 := hB.size
  have hB5 := hB.trans (hs5.below (B := w.heap.size) (by omega) (fun y hy => by omega))
  refine bodyPost_ret (v := .agg #[.int .i64 u.tidy.star.kind, .int .i64 u.tidy.star.num, .slice s3 u.tidy.star.kids.length c3]) (by simp [results, Tryz.results33, go_sem, t0, t1, t2]) rfl ?_
  rw [E1.out]
  exact ⟨_, _, rfl, (h3.keep (KeptX.of_spares hs5 (fun b _ h => Or.inr (by omega)))).unbox, hB5⟩
 have c8 : (k == 8) = false := by simp [h8]
 have E1 : Hid ((Ex.mk k n ks).tidy = .mk k n ks) := by show _ = _; exact Ex.tidy_else h6 h7 h8
 have hsz := Ex.size_eq (.mk k n ks)
 simp only [Ex.kids_mk] at hsz
 clear htl hk h6 h7 h8
 go_enter Tryz.func33, Tryz.ntmps33
 go_wp2_with fail
 have L := (Blk.new3 w 34 (.int .i64 k) (.int .i64 n) (.slice s ks.length c)).alloc (.cells #[.int .i64 0, .int .i64 0, .slice none 0 0] 34)
 have R := Blk.new3 (w.alloc (.cells #[.int .i64 k, .int .i64 n, .slice s ks.length c] 34)) 34 (.int .i64 0) (.int .i64 0) (.slice none 0 0)
 have hB : Below w.heap.size w ((w.alloc (.cells #[.int .i64 k, .int .i64 n, .slice s ks.length c] 34)).alloc (.cells #[.int .i64 0, .int .i64 0, .slice none 0 0] 34)) := by (repeat' first | exact Below.refl _ _ | assumption | apply Below.alloc | apply Below.drew | apply Below.setCell | omega | (simp; done) | (simp; omega))
 have hz0 : ((w.alloc (.cells #[.int .i64 k, .int .i64 n, .slice s ks.length c] 34)).alloc (.cells #[.int .i64 0, .int .i64 0, .slice none 0 0] 34)).heap.size = w.heap.size + 2 := by simp
 simp at R
 generalize (w.alloc (.cells #[.int .i64 k, .int .i64 n, .slice s ks.length c] 34)).alloc (.cells #[.int .i64 0, .int .i64 0, .slice none 0 0] 34) = wb at L R hB hz0 ⊢
 have hx1 : ExX (XB X w.heap.size 2) wb (.mk k n ks) s c := ExX.boxes hx hB
 have hB' := hB
 have hXW : ∀ b, XB X w.heap.size 2 b → b < wb.heap.size := fun b q => q.elim (fun q => by have := hX _ q; omega) (fun q => by omega)
 clear hx
 refine (copy_k (k := k) (n := n) (ks := ks) (s := s) (c := c) hx1.rd (by omega)).mono ?_
 rintro f w3 ⟨s3, c3, rfl, h3, hb3⟩
 have h4 : ExX (XB X w.heap.size 2) w3 (.mk k n ks) s3 c3 := RdX.fresh h3 hXW
 replace hB := Below.on hB hb3 hB.size
 replace R := R.below hb3
 -- the result box w.heap.size + 1 of world w3 is set to an expression; goal: bodyPost. R : the box; Rests: hs5 : Spares, T2
 have r0 := R.c0
 have r1 := R.c1
 have r2 := R.c2
 have z0 := R.frozen 0
 have z1 := R.frozen 1
 have z2 := R.frozen 2
 have ltR := R.lt
 go_wp2_with fail
 have T2 := ((R.set 0 (.int .i64 k)).set 1 (.int .i64 n)).set 2 (.slice s3 ks.length c3)
 have hs5 : Spares (fun y => y = w.heap.size + 1) w3 (((w3.setCell ⟨w.heap.size + 1, 0, none⟩ (.int .i64 k)).setCell ⟨w.heap.size + 1, 1, none⟩ (.int .i64 n)).setCell ⟨w.heap.size + 1, 2, none⟩ (.slice s3 ks.length c3)) := Spares.set (Spares.set (Spares.set (Spares.refl w3)))
 generalize (((w3.setCell ⟨w.heap.size + 1, 0, none⟩ (.int .i64 k)).setCell ⟨w.heap.size + 1, 1, none⟩ (.int .i64 n)).setCell ⟨w.heap.size + 1, 2, none⟩ (.slice s3 ks.length c3)) = w5 at T2 hs5 ⊢
 have t0 := T2.c0
 have t1 := T2.c1
 have t2 := T2.c2
 have hzB5 := hB.size
 have hB5 := hB.trans (hs5.below (B := w.heap.size) (by omega) (fun y hy => by omega))
 refine bodyPost_ret (v := .agg #[.int .i64 k, .int .i64 n, .slice s3 ks.length c3]) (by simp [results, Tryz.results33, go_sem, t0, t1, t2]) rfl ?_
 rw [E1.out]
 exact ⟨_, _, rfl, (h4.keep (KeptX.of_spares hs5 (fun b _ h => Or.inr (by omega)))).unbox, hB5⟩
end Go.Proofs.YtcokljhamhgelaaGreatDoor

namespace Go.Proofs.YtcokljhamhgelaaGreatDoor
set_option linter.unusedVariables false
set_option linter.unusedSimpArgs false
open Go.ChangeShapes Go.WideShapes Go.ChangeAt Go.RowKit
theorem l01Size_all (N : Nat) : ∀ (e : Ex) (b o : Nat) (w : World), e.size ≤ N → ExAt w b o e → e.size ≤ 1073741824 →
  Calls Tryz.prog 88 #[.pointer (some ⟨b, o, none⟩)] w fun f w' => f = .returned (.int .i64 e.size) ∧ w = w' := by
 induction N using Nat.strongRecOn with
 | _ N ih =>
 intro e b o w hN hr h1
 obtain ⟨_, _, s, c, g2, g3⟩ := hr
 obtain ⟨-, hlen, hcap, -, -⟩ := kid_at g3
 unfold maxLen at hcap
 have hse := Ex.size_eq e
 have Hse := Lib.hid hse
 have hks : Ex.sizeL e.kids < N := by omega
 have hks' : Ex.sizeL e.kids ≤ 1073741824 := by omega
 clear hse
 go_enter Tryz.func88, Tryz.ntmps88
 go_wp2_with fail
 go_loop [3, 4] (fun n i => ∃ k : Nat, k ≤ e.kids.length ∧ i = .int .i64 k ∧ n = .int .i64 (1 + (Ex.sizeL (e.kids.take k) : Nat) : Nat)) (fun _ i => e.kids.length - (intOf i).toNat)
 case atStart => exact ⟨0, by omega, rfl, by simp [Ex.sizeL]⟩
 case round =>
  obtain ⟨k, hk, rfl, rfl⟩ := hrel
  have hle := Ex.sizeL_take_le e.kids k
  by_cases hlt : k < e.kids.length
  ·
   obtain ⟨f, hf⟩ : ∃ f, e.kids[k]? = some f := ⟨_, List.getElem?_eq_getElem hlt⟩
   obtain ⟨b', o', rfl⟩ := kid_some g3 (by intro h; simp [h] at hlt)
   have hat := kid_exAt g3 hf
   have htk := Ex.sizeL_take_succ hf
   have hmem := Ex.sizeL_mem (List.mem_of_getElem? hf)
   have hle' := Ex.sizeL_take_le e.kids (k + 1)
   have hsum : Ex.sizeL (e.kids.take k) + f.size ≤ 1073741824 := by omega
   have Htk := Lib.hid htk
   clear htk
   go_wp2_with fail
   refine (ih _ (by omega) f _ _ _ (Nat.le_refl _) hat (by omega)).mono ?_
   rintro x w' ⟨rfl, rfl⟩
   go_wp2_with fail
   go_round
   case rel => exact ⟨k + 1, by omega, by go_num, by rw [Htk.out]; go_num⟩
   case measure => simp [intOf]; omega
  ·
   obtain rfl : k = e.kids.length := by omega
   go_wp2_with fail
   go_ret
   exact ⟨ret_int (by have := Hse.out; omega), rfl⟩
def SizeS (N : Nat) : Prop := ∀ (k n : Int) (ks : List Ex) (s : Option Addr) (cap : Nat) (w : World), Ex.sizeL ks ≤ N → Rd w (kidsD ks) (.slice s ks.length cap) → Ex.sizeL ks ≤ 1073741824 →
  Calls Tryz.prog 98 #[.agg #[.int .i64 k, .int .i64 n, .slice s ks.length cap]] w fun f w' => f = .returned (.int .i64 (1 + Ex.sizeL ks : Nat)) ∧ Below w.heap.size w w'
theorem implExprSize_all (N : Nat) : SizeS N := by
 induction N using Nat.strongRecOn with
 | _ N ih =>
 intro k0 n0 ks s cap w hN hr h1
 obtain ⟨-, hlen, hcap, -, -⟩ := kid_at hr
 unfold maxLen at hcap
 go_enter Tryz.func98, Tryz.ntmps98
 go_wp2_with fail
 go_loopw [3, 9] (fun n i wr => ∃ k : Nat, k ≤ ks.length ∧ i = .int .i64 k ∧ n = .int .i64 (1 + (Ex.sizeL (ks.take k) : Nat) : Nat) ∧ Below w.heap.size w wr) (fun _ i _ => ks.length - (intOf i).toNat)
 case atStart => exact ⟨0, by omega, rfl, by simp [Ex.sizeL], by (repeat' first | exact Below.refl _ _ | assumption | apply Below.alloc | apply Below.drew | apply Below.setCell | omega | (simp; done) | (simp; omega))⟩
 case round =>
  obtain ⟨k, hk, rfl, rfl, hB⟩ := hrel
  have hzB := hB.size
  have hle := Ex.sizeL_take_le ks k
  by_cases hlt : k < ks.length
  ·
   obtain ⟨f, hf⟩ : ∃ f, ks[k]? = some f := ⟨_, List.getElem?_eq_getElem hlt⟩
   obtain ⟨b', o', rfl⟩ := kid_some hr (by intro h; simp [h] at hlt)
   obtain ⟨-, s', c', g0, g1, g2, gr⟩ := kid_in (hr.below hB) hf
   have htk := Ex.sizeL_take_succ hf
   have hle' := Ex.sizeL_take_le ks (k + 1)
   have hsf := Ex.size_eq f
   have hmem := Ex.sizeL_mem (List.mem_of_getElem? hf)
   have hsum : Ex.sizeL (ks.take k) + (1 + Ex.sizeL f.kids) ≤ 1073741824 := by omega
   have Htk : Hid (Ex.sizeL (ks.take (k + 1)) = Ex.sizeL (ks.take k) + (1 + Ex.sizeL f.kids)) := by show _ = _; omega
   have hN' : Ex.sizeL f.kids < N := by omega
   clear htk hsf
   go_wp2_with fail
   refine (ih _ hN' _ _ _ _ _ _ (Nat.le_refl _) (gr.alloc _) (by omega)).mono ?_
   rintro x w1 ⟨rfl, hb⟩
   have hB1 : Below w.heap.size w w1 := Below.on (by (repeat' first | exact Below.refl _ _ | assumption | apply Below.alloc | apply Below.drew | apply Below.setCell | omega | (simp; done) | (simp; omega))) hb (by simp; omega)
   clear hb
   go_wp2_with fail
   go_roundw
   case rel => exact ⟨k + 1, by omega, by go_num, by rw [Htk.out]; go_num, hB1⟩
   case measure => simp [intOf]; omega
  ·
   obtain rfl : k = ks.length := by omega
   go_wp2_with fail
   go_ret
   exact ⟨ret_int (by simp), hB⟩
theorem implExprSize_i {k n : Int} {ks : List Ex} {s : Option Addr} {cap : Nat} {w : World} (hr : Rd w (kidsD ks) (.slice s ks.length cap)) (h1 : Ex.sizeL ks ≤ 1048576) :
  Calls Tryz.prog 98 #[.agg #[.int .i64 k, .int .i64 n, .slice s ks.length cap]] w fun f w' => f = .returned (.int .i64 (1 + Ex.sizeL ks : Nat)) ∧ Below w.heap.size w w' :=
 implExprSize_all _ k n ks s cap w (Nat.le_refl _) hr (by omega)
end Go.Proofs.YtcokljhamhgelaaGreatDoor

namespace Go.Proofs.YtcokljhamhgelaaGreatDoor
set_option linter.unusedVariables false
set_option linter.unusedSimpArgs false
open Go.ChangeShapes Go.WideShapes Go.ChangeAt Go.RowKit Go.Deep
theorem Blk.new6 (w : World) (t : TypeId) (a b c d e f : Value) : Blk (w.alloc (.cells #[a, b, c, d, e, f] t)) w.heap.size t [a, b, c, d, e, f] := Blk.made _ _ _
end Go.Proofs.YtcokljhamhgelaaGreatDoor
