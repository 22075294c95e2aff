/-
  Parts of a proof, joined: TextI, Map. No condition.
-/
import Derived.Maps.OwnOps
import Derived.DeepKeys4
import Derived.Test.YtcokljhamhgelaaGreatDoorPk7
namespace Go.Proofs.YtcokljhamhgelaaGreatDoor
set_option linter.unusedVariables false
set_option linter.unusedSimpArgs false
open Go.ChangeShapes Go.WideShapes Go.ChangeAt Go.RowKit Go.Sort
set_option maxHeartbeats 2000000 in
theorem textOf_i {tm am k n : Int} {ks : List Ex} {s : Option Addr} {c : Nat} {w : World} (hr : Rd w (kidsD ks) (.slice s ks.length c)) (ht : tm ≤ 8) (ha : am ≤ 8) (htr : Ex.tree tm am (.mk k n ks) = true) (hsz : Ex.sizeL ks ≤ 1000000) :
  Calls Tryz.prog 62 #[.agg #[.int .i64 k, .int .i64 n, .slice s ks.length c]] w fun e w' => e = .returned (.string (bs (Ex.text (.mk k n ks)))) ∧ Below w.heap.size w w' := by
 have HW := Lib.hid (writeExpr_all w)
 go_enter Tryz.func62, Tryz.ntmps62
 go_wp2_with fail
 have hm := BldAt.made (w := w.alloc (.cells #[.int .i64 k, .int .i64 n, .slice s ks.length c] 34)) (B := w.heap.size + 1) (by simp)
 have h0 : Below w.heap.size w ((w.alloc (.cells #[.int .i64 k, .int .i64 n, .slice s ks.length c] 34)).alloc (.cells #[.pointer none, .slice none 0 0] 125)) := Below.alloc (Below.alloc (Below.refl _ _) (Nat.le_refl _) _) (by simp) _
 have hz : ((w.alloc (.cells #[.int .i64 k, .int .i64 n, .slice s ks.length c] 34)).alloc (.cells #[.pointer none, .slice none 0 0] 125)).heap.size = w.heap.size + 2 := by simp
 have hz1 : (w.alloc (.cells #[.int .i64 k, .int .i64 n, .slice s ks.length c] 34)).heap.size = w.heap.size + 1 := by simp
 rw [hz1] at hm
 generalize (w.alloc (.cells #[.int .i64 k, .int .i64 n, .slice s ks.length c] 34)).alloc (.cells #[.pointer none, .slice none 0 0] 125) = w2 at hm h0 hz ⊢
 clear hz1
 refine (HW.out (w.heap.size + 1) _ (by omega) tm am ht ha _ k n ks s c _ [] w2 (Nat.le_refl _) hr htr h0 hm (by omega) (by simp; omega)).mono ?_
 rintro e w3 ⟨rfl, hb, hs⟩
 have hz3 := hs.size
 have h3 : Below w.heap.size w w3 := h0.trans (hs.below (by omega) (fun x hx => by omega))
 clear h0 hm HW
 go_wp2_with fail
 refine (String_i hb (by omega)).mono ?_
 rintro e w4 ⟨rfl, hb4⟩
 have h4 : Below w.heap.size w w4 := h3.trans (hb4.mono (by omega))
 clear hb
 go_wp2_with fail
 go_ret
 exact ⟨by simp, h4⟩
theorem cat_l {P : Program} {s : ByteArray} (a b : List UInt8) (hs : s = bs a) (h : a.length + b.length ≤ 1000000000) : ∃ z, Hid (z = a ++ b) ∧ ∀ w, (Op.stringOp .add s (bs b)).run P w = .ok (.string (bs z)) w := by
 subst hs
 exact ⟨_, rfl, run_cat a b h⟩
theorem cat_r {P : Program} {s : ByteArray} (a b : List UInt8) (hs : s = bs b) (h : a.length + b.length ≤ 1000000000) : ∃ z, Hid (z = a ++ b) ∧ ∀ w, (Op.stringOp .add (bs a) s).run P w = .ok (.string (bs z)) w := by
 subst hs
 exact ⟨_, rfl, run_cat a b h⟩
theorem cat_2 {P : Program} (a b : List UInt8) (h : a.length + b.length ≤ 1000000000) : ∃ z, Hid (z = a ++ b) ∧ ∀ w, (Op.stringOp .add (bs a) (bs b)).run P w = .ok (.string (bs z)) w := ⟨_, rfl, run_cat a b h⟩
set_option maxHeartbeats 16000000 in
theorem l01Text_all (tm am : Int) (ht : tm ≤ 8) (ha : am ≤ 8) (N : Nat) : ∀ (e : Ex) (b o : Nat) (w : World), e.size ≤ N → ExAt w b o e → e.tree tm am = true → e.size ≤ 1000000 →
  Calls Tryz.prog 102 #[.pointer (some ⟨b, o, none⟩)] w fun f w' => f = .returned (.string (bs e.text)) ∧ Below w.heap.size w w' := by
 induction N using Nat.strongRecOn with
 | _ N ih =>
 intro e b o w hN hr htr hsz0
 obtain ⟨k, n, ks⟩ := e
 have hbl0 : b < w.heap.size := hr.lt
 obtain ⟨g0, g1, s, c, g2, hr⟩ := hr
 simp only [Ex.kind, Ex.num, Ex.kids] at g0 g1 g2 hr
 obtain ⟨hk, hnum, hc, htl⟩ := tree_parts htr
 rcases kind_cases hk with rfl | rfl | rfl | rfl | rfl | rfl | rfl | rfl
 ·
  have e0 : Ex.text (.mk 1 n ks) = [48] := by simp [Ex.text, texC]
  rw [e0]
  clear hk hnum htl hc htr e0
  go_enter Tryz.func102, Tryz.ntmps102
  go_wp2_with fail
  go_ret
  exact ⟨rfl, Below.refl _ _⟩
 ·
  have e0 : Ex.text (.mk 2 n ks) = [49] := by simp [Ex.text, texC]
  rw [e0]
  clear hk hnum htl hc htr e0
  go_enter Tryz.func102, Tryz.ntmps102
  go_wp2_with fail
  go_ret
  exact ⟨rfl, Below.refl _ _⟩
 ·
  obtain ⟨n0, n8⟩ := numB_any (by omega) hnum ht ha
  obtain ⟨m, rfl⟩ : ∃ m : Nat, n = (m : Int) := ⟨n.toNat, by omega⟩
  have hm : m < 10 := by omega
  obtain ⟨z, Hz, Hc⟩ := cat_l (P := Tryz.prog) (s := { data := #[116] }) [116] (Lib.decDigits m) rfl (by rw [digits_one hm]; simp)
  have e0 : Ex.text (.mk 3 m ks) = z := by rw [Hz.out]; simp [Ex.text, texC]
  rw [e0]
  clear hk hnum htl hc htr n0 n8 e0
  go_enter Tryz.func102, Tryz.ntmps102
  go_wp2_with fail
  refine (Decimal_i (n := m) (by omega)).mono ?_
  rintro e w2 ⟨rfl, hb⟩
  go_wp2_with fail
  go_ret
  exact ⟨rfl, hb⟩
 ·
  obtain ⟨n0, n8⟩ := numB_any (by omega) hnum ht ha
  obtain ⟨m, rfl⟩ : ∃ m : Nat, n = (m : Int) := ⟨n.toNat, by omega⟩
  have hm : m < 10 := by omega
  obtain ⟨z, Hz, Hc⟩ := cat_l (P := Tryz.prog) (s := { data := #[97] }) [97] (Lib.decDigits m) rfl (by rw [digits_one hm]; simp)
  have e0 : Ex.text (.mk 4 m ks) = z := by rw [Hz.out]; simp [Ex.text, texC]
  rw [e0]
  clear hk hnum htl hc htr n0 n8 e0
  go_enter Tryz.func102, Tryz.ntmps102
  go_wp2_with fail
  refine (Decimal_i (n := m) (by omega)).mono ?_
  rintro e w2 ⟨rfl, hb⟩
  go_wp2_with fail
  go_ret
  exact ⟨rfl, hb⟩
 ·
  obtain ⟨x, rfl⟩ := one_kid hk (by omega)
  have hx : [x][0]? = some x := rfl
  obtain ⟨b', o', rfl⟩ := kid_some hr (by simp)
  have hxt : x.tree tm am = true := Ex.treeL_mem htl (by simp)
  have bx := text_bound tm am ht ha _ x (Nat.le_refl _) hxt
  obtain ⟨hbl, s', c', k0, k1, k2, kr⟩ := kid_in hr hx
  simp only [Nat.zero_mul, Nat.add_zero] at k0 k1 k2
  have hat : ExAt w b' o' x := ⟨k0, k1, s', c', k2, kr⟩
  have hsx : x.size < N := by rw [Ex.size_eq] at hN; simp only [Ex.kids, Ex.sizeL] at hN; omega
  have hsz : x.size ≤ 1000000 := by rw [Ex.size_eq] at hsz0; simp only [Ex.kids, Ex.sizeL] at hsz0; omega
  obtain ⟨z, Hz, Hc⟩ := cat_l (P := Tryz.prog) (s := { data := #[126] }) [126] x.text rfl (by simp; omega)
  have e0 : Ex.text (.mk 5 n [x]) = z := by rw [Hz.out]; simp [Ex.text, texC, Ex.textL]
  rw [e0]
  clear hk hnum htl hc htr hx k0 k1 k2 kr e0
  go_enter Tryz.func102, Tryz.ntmps102
  go_wp2_with fail
  refine (ih _ hsx _ _ _ _ (Nat.le_refl _) hat hxt hsz).mono ?_
  rintro e w2 ⟨rfl, hb⟩
  go_wp2_with fail
  go_ret
  exact ⟨rfl, hb⟩
 ·
  obtain ⟨x, y, rfl⟩ := two_kids hk (by omega)
  have hx : [x, y][0]? = some x := rfl
  have hy : [x, y][1]? = some y := rfl
  obtain ⟨b', o', rfl⟩ := kid_some hr (by simp)
  have hxt : x.tree tm am = true := Ex.treeL_mem htl (by simp)
  have hyt : y.tree tm am = true := Ex.treeL_mem htl (by simp)
  have bx := text_bound tm am ht ha _ x (Nat.le_refl _) hxt
  have bY := text_bound tm am ht ha _ y (Nat.le_refl _) hyt
  obtain ⟨hbl, s', c', k0, k1, k2, kr⟩ := kid_in hr hx
  obtain ⟨-, s2, c2, q0, q1, q2, qr⟩ := kid_in hr hy
  simp only [Nat.zero_mul, Nat.add_zero] at k0 k1 k2
  simp only [Nat.one_mul] at q0 q1 q2
  have hat : ExAt w b' o' x := ⟨k0, k1, s', c', k2, kr⟩
  have hbt : ExAt w b' (o' + 3) y := ⟨q0, q1, s2, c2, q2, qr⟩
  have hsx : x.size < N := by rw [Ex.size_eq] at hN; simp only [Ex.kids, Ex.sizeL] at hN; omega
  have hsy : y.size < N := by rw [Ex.size_eq] at hN; simp only [Ex.kids, Ex.sizeL] at hN; omega
  have hszx : x.size ≤ 1000000 := by rw [Ex.size_eq] at hsz0; simp only [Ex.kids, Ex.sizeL] at hsz0; omega
  have hszy : y.size ≤ 1000000 := by rw [Ex.size_eq] at hsz0; simp only [Ex.kids, Ex.sizeL] at hsz0; omega
  obtain ⟨z1, Hz1, Hc1⟩ := cat_l (P := Tryz.prog) (s := { data := #[40] }) [40] x.text rfl (by simp; omega)
  have l1 : z1.length ≤ 10000000 := by rw [Hz1.out]; simp; omega
  obtain ⟨z2, Hz2, Hc2⟩ := cat_r (P := Tryz.prog) (s := { data := #[32, 43, 32] }) z1 [32, 43, 32] rfl (by simp; omega)
  have l2 : z2.length ≤ 10000010 := by rw [Hz2.out]; simp; omega
  obtain ⟨z3, Hz3, Hc3⟩ := cat_2 (P := Tryz.prog) z2 y.text (by omega)
  have l3 : z3.length ≤ 100000000 := by rw [Hz3.out]; simp; omega
  obtain ⟨z4, Hz4, Hc4⟩ := cat_r (P := Tryz.prog) (s := { data := #[41] }) z3 [41] rfl (by simp; omega)
  have e0 : Ex.text (.mk 6 n [x, y]) = z4 := by rw [Hz4.out, Hz3.out, Hz2.out, Hz1.out]; simp [Ex.text, texC, Ex.textL]
  rw [e0]
  clear hk hnum htl hc htr hx hy k0 k1 k2 q0 q1 q2 kr qr e0 bx bY l1 l2 l3
  go_enter Tryz.func102, Tryz.ntmps102
  go_wp2_with fail
  obtain ⟨x0, hx0⟩ := mkval ?a1_0
  obtain ⟨x1, hx1⟩ := mkval ?a1_1
  obtain ⟨x2, hx2⟩ := mkval ?a1_2
  obtain ⟨x3, hx3⟩ := mkval ?a1_3
  obtain ⟨x4, hx4⟩ := mkval ?a1_4
  obtain ⟨x8, hx8⟩ := mkval ?a1_8
  obtain ⟨x9, hx9⟩ := mkval ?a1_9
  obtain ⟨x10, hx10⟩ := mkval ?a1_10
  obtain ⟨x11, hx11⟩ := mkval ?a1_11
  obtain ⟨x12, hx12⟩ := mkval ?a1_12
  refine region_rs [] [] (fun _ _ => False) (w.heap.size) (fun i iv vs wx => match i with
   | 0 => vs 0 = x0
   | 1 => vs 1 = x1
   | 2 => vs 2 = x2
   | 3 => vs 3 = x3
   | 4 => vs 4 = x4
   | 5 => vs 5 = .string (bs x.text)
   | 6 => vs 6 = .string (bs z1)
   | 7 => vs 7 = .string (bs z2)
   | 8 => vs 8 = x8
   | 9 => vs 9 = x9
   | 10 => vs 10 = x10
   | 11 => vs 11 = x11
   | 12 => vs 12 = x12
   | 13 => vs 13 = .string (bs y.text)
   | 14 => vs 14 = .string (bs z3)
   | 15 => vs 15 = .string (bs z4)
   | 16 => vs 16 = .string (bs z4)
   | _ => True) (fun i iv vs => match i with
   | 0 => vs 0 = x0
   | 1 => vs 1 = x1
   | 2 => vs 2 = x2
   | 3 => vs 3 = x3
   | 4 => vs 4 = x4
   | 5 => vs 5 = .string (bs x.text)
   | 6 => vs 6 = .string (bs z1)
   | 7 => vs 7 = .string (bs z2)
   | 8 => vs 8 = x8
   | 9 => vs 9 = x9
   | 10 => vs 10 = x10
   | 11 => vs 11 = x11
   | 12 => vs 12 = x12
   | 13 => vs 13 = .string (bs y.text)
   | 14 => vs 14 = .string (bs z3)
   | 15 => vs 15 = .string (bs z4)
   | 16 => vs 16 = .string (bs z4)
   | _ => True) (by kernel_rfl) (by kernel_rfl) [0, 1, 2, 3, 4, 5, 6, 7, 8, 9, 10, 11, 12, 13, 14, 15, 16] (by kernel_rfl) ?hbase ?hGb ?hG ?hJ ?hE ?hEE ?hstep ?hQ
  case hbase => first | exact Nat.le_refl _ | omega | (simp; omega)
  case hGb =>
   exact fun _ _ h => h.elim
  case hG =>
   exact fun _ _ _ h => h.elim
  case hJ =>
   intro i hi iv iv' vs vs' wx wx' ha hv hz hk hj
   simp only [List.mem_cons, List.not_mem_nil, or_false] at hi
   rcases hi with rfl | rfl | rfl | rfl | rfl | rfl | rfl | rfl | rfl | rfl | rfl | rfl | rfl | rfl | rfl | rfl | rfl
   ·
    exact (hv.out 0 (mem_of (by kernel_rfl))).symm.trans hj
   ·
    exact (hv.out 1 (mem_of (by kernel_rfl))).symm.trans hj
   ·
    exact (hv.out 2 (mem_of (by kernel_rfl))).symm.trans hj
   ·
    exact (hv.out 3 (mem_of (by kernel_rfl))).symm.trans hj
   ·
    exact (hv.out 4 (mem_of (by kernel_rfl))).symm.trans hj
   ·
    exact (hv.out 5 (mem_of (by kernel_rfl))).symm.trans hj
   ·
    exact (hv.out 6 (mem_of (by kernel_rfl))).symm.trans hj
   ·
    exact (hv.out 7 (mem_of (by kernel_rfl))).symm.trans hj
   ·
    exact (hv.out 8 (mem_of (by kernel_rfl))).symm.trans hj
   ·
    exact (hv.out 9 (mem_of (by kernel_rfl))).symm.trans hj
   ·
    exact (hv.out 10 (mem_of (by kernel_rfl))).symm.trans hj
   ·
    exact (hv.out 11 (mem_of (by kernel_rfl))).symm.trans hj
   ·
    exact (hv.out 12 (mem_of (by kernel_rfl))).symm.trans hj
   ·
    exact (hv.out 13 (mem_of (by kernel_rfl))).symm.trans hj
   ·
    exact (hv.out 14 (mem_of (by kernel_rfl))).symm.trans hj
   ·
    exact (hv.out 15 (mem_of (by kernel_rfl))).symm.trans hj
   ·
    exact (hv.out 16 (mem_of (by kernel_rfl))).symm.trans hj
  case hE =>
   intro i hi iv vs wx hj
   simp only [List.mem_cons, List.not_mem_nil, or_false] at hi
   rcases hi with rfl | rfl | rfl | rfl | rfl | rfl | rfl | rfl | rfl | rfl | rfl | rfl | rfl | rfl | rfl | rfl | rfl
   ·
    exact hj
   ·
    exact hj
   ·
    exact hj
   ·
    exact hj
   ·
    exact hj
   ·
    exact hj
   ·
    exact hj
   ·
    exact hj
   ·
    exact hj
   ·
    exact hj
   ·
    exact hj
   ·
    exact hj
   ·
    exact hj
   ·
    exact hj
   ·
    exact hj
   ·
    exact hj
   ·
    exact hj
  case hEE =>
   intro i hi iv iv' vs vs' ha hv hj
   simp only [List.mem_cons, List.not_mem_nil, or_false] at hi
   rcases hi with rfl | rfl | rfl | rfl | rfl | rfl | rfl | rfl | rfl | rfl | rfl | rfl | rfl | rfl | rfl | rfl | rfl
   ·
    exact (hv.out 0 (mem_of (by kernel_rfl))).symm.trans hj
   ·
    exact (hv.out 1 (mem_of (by kernel_rfl))).symm.trans hj
   ·
    exact (hv.out 2 (mem_of (by kernel_rfl))).symm.trans hj
   ·
    exact (hv.out 3 (mem_of (by kernel_rfl))).symm.trans hj
   ·
    exact (hv.out 4 (mem_of (by kernel_rfl))).symm.trans hj
   ·
    exact (hv.out 5 (mem_of (by kernel_rfl))).symm.trans hj
   ·
    exact (hv.out 6 (mem_of (by kernel_rfl))).symm.trans hj
   ·
    exact (hv.out 7 (mem_of (by kernel_rfl))).symm.trans hj
   ·
    exact (hv.out 8 (mem_of (by kernel_rfl))).symm.trans hj
   ·
    exact (hv.out 9 (mem_of (by kernel_rfl))).symm.trans hj
   ·
    exact (hv.out 10 (mem_of (by kernel_rfl))).symm.trans hj
   ·
    exact (hv.out 11 (mem_of (by kernel_rfl))).symm.trans hj
   ·
    exact (hv.out 12 (mem_of (by kernel_rfl))).symm.trans hj
   ·
    exact (hv.out 13 (mem_of (by kernel_rfl))).symm.trans hj
   ·
    exact (hv.out 14 (mem_of (by kernel_rfl))).symm.trans hj
   ·
    exact (hv.out 15 (mem_of (by kernel_rfl))).symm.trans hj
   ·
    exact (hv.out 16 (mem_of (by kernel_rfl))).symm.trans hj
  case hstep =>
   intro i hi opr ho iv vs w1 hB hS hSo hd he hbd hsep hun K hK
   simp only [List.mem_cons, List.not_mem_nil, or_false] at hi
   have hzB := hB.size
   have c2 := (hB.cell (p := ⟨b, o + 2, none⟩) hbl0).trans g2
   generalize hA : putFrom _ 0 vs _ = A at hK ⊢
   simp only [putFrom, puts] at hA
   rcases hi with rfl | rfl | rfl | rfl | rfl | rfl | rfl | rfl | rfl | rfl | rfl | rfl | rfl | rfl | rfl | rfl | rfl
   all_goals
    simp at ho
    subst ho
    subst hA
   ·
    go_wp2_with fail
    refine Onward.mk (hK ?val1_0 _ _ (fun h => by cases h) ?eqA (Spares.refl _) (fun iv' _ _ => ?ja))
    case eqA => first | rfl | (simp only [puts]; rfl)
    case ja => exact hx0.out.symm
   ·
    have h0 := (hd.out 0 (mem_of (by kernel_rfl)) (by decide) (by kernel_rfl)).trans hx0.out
    go_wp2_with fail
    refine Onward.mk (hK ?val1_1 _ _ (fun h => by cases h) ?eqA (Spares.refl _) (fun iv' _ _ => ?ja))
    case eqA => first | rfl | (simp only [puts, h0]; rfl)
    case ja => exact hx1.out.symm
   ·
    have h1 := (hd.out 1 (mem_of (by kernel_rfl)) (by decide) (by kernel_rfl)).trans hx1.out
    go_wp2_with fail
    refine Onward.mk (hK ?val1_2 _ _ (fun h => by cases h) ?eqA (Spares.refl _) (fun iv' _ _ => ?ja))
    case eqA => first | rfl | (simp only [puts, h1]; rfl)
    case ja => exact hx2.out.symm
   ·
    have h2 := (hd.out 2 (mem_of (by kernel_rfl)) (by decide) (by kernel_rfl)).trans hx2.out
    go_wp2_with fail
    refine Onward.mk (hK ?val1_3 _ _ (fun h => by cases h) ?eqA (Spares.refl _) (fun iv' _ _ => ?ja))
    case eqA => first | rfl | (simp only [puts, h2]; rfl)
    case ja => exact hx3.out.symm
   ·
    have h3 := (hd.out 3 (mem_of (by kernel_rfl)) (by decide) (by kernel_rfl)).trans hx3.out
    go_wp2_with fail
    refine Onward.mk (hK ?val1_4 _ _ (fun h => by cases h) ?eqA (Spares.refl _) (fun iv' _ _ => ?ja))
    case eqA => first | rfl | (simp only [puts, h3]; rfl)
    case ja => exact hx4.out.symm
   ·
    have h4 := (hd.out 4 (mem_of (by kernel_rfl)) (by decide) (by kernel_rfl)).trans hx4.out
    go_wp2_with fail
    refine (ih _ hsx _ _ _ _ (Nat.le_refl _) (hat.below hB) hxt hszx).mono ?_
    rintro e w2 ⟨rfl, hb⟩
    go_wp2_with fail
    exact Onward.mk (hK (.string (bs x.text)) _ _ (fun h => by cases h) (by first | rfl | (simp only [puts, h4])) (Spares.of_below hb) (fun iv' _ _ => rfl))
   ·
    have h5 : vs 5 = .string (bs x.text) := hd.out 5 (mem_of (by kernel_rfl)) (by decide) (by kernel_rfl)
    go_wp2_with fail
    exact Onward.mk (hK (.string (bs z1)) _ _ (fun h => by cases h) (by first | rfl | (simp only [puts, h5])) (Spares.refl _) (fun iv' _ _ => rfl))
   ·
    have h6 : vs 6 = .string (bs z1) := hd.out 6 (mem_of (by kernel_rfl)) (by decide) (by kernel_rfl)
    go_wp2_with fail
    exact Onward.mk (hK (.string (bs z2)) _ _ (fun h => by cases h) (by first | rfl | (simp only [puts, h6])) (Spares.refl _) (fun iv' _ _ => rfl))
   ·
    go_wp2_with fail
    refine Onward.mk (hK ?val1_8 _ _ (fun h => by cases h) ?eqA (Spares.refl _) (fun iv' _ _ => ?ja))
    case eqA => first | rfl | (simp only [puts]; rfl)
    case ja => exact hx8.out.symm
   ·
    have h8 := (hd.out 8 (mem_of (by kernel_rfl)) (by decide) (by kernel_rfl)).trans hx8.out
    go_wp2_with fail
    refine Onward.mk (hK ?val1_9 _ _ (fun h => by cases h) ?eqA (Spares.refl _) (fun iv' _ _ => ?ja))
    case eqA => first | rfl | (simp only [puts, h8]; rfl)
    case ja => exact hx9.out.symm
   ·
    have h9 := (hd.out 9 (mem_of (by kernel_rfl)) (by decide) (by kernel_rfl)).trans hx9.out
    go_wp2_with fail
    refine Onward.mk (hK ?val1_10 _ _ (fun h => by cases h) ?eqA (Spares.refl _) (fun iv' _ _ => ?ja))
    case eqA => first | rfl | (simp only [puts, h9]; rfl)
    case ja => exact hx10.out.symm
   ·
    have h10 := (hd.out 10 (mem_of (by kernel_rfl)) (by decide) (by kernel_rfl)).trans hx10.out
    go_wp2_with fail
    refine Onward.mk (hK ?val1_11 _ _ (fun h => by cases h) ?eqA (Spares.refl _) (fun iv' _ _ => ?ja))
    case eqA => first | rfl | (simp only [puts, h10]; rfl)
    case ja => exact hx11.out.symm
   ·
    have h11 := (hd.out 11 (mem_of (by kernel_rfl)) (by decide) (by kernel_rfl)).trans hx11.out
    go_wp2_with fail
    refine Onward.mk (hK ?val1_12 _ _ (fun h => by cases h) ?eqA (Spares.refl _) (fun iv' _ _ => ?ja))
    case eqA => first | rfl | (simp only [puts, h11]; rfl)
    case ja => exact hx12.out.symm
   ·
    have h12 := (hd.out 12 (mem_of (by kernel_rfl)) (by decide) (by kernel_rfl)).trans hx12.out
    go_wp2_with fail
    refine (ih _ hsy _ _ _ _ (Nat.le_refl _) (hbt.below hB) hyt hszy).mono ?_
    rintro e w2 ⟨rfl, hb⟩
    go_wp2_with fail
    exact Onward.mk (hK (.string (bs y.text)) _ _ (fun h => by cases h) (by first | rfl | (simp only [puts, h12])) (Spares.of_below hb) (fun iv' _ _ => rfl))
   ·
    have h7 : vs 7 = .string (bs z2) := hd.out 7 (mem_of (by kernel_rfl)) (by decide) (by kernel_rfl)
    have h13 : vs 13 = .string (bs y.text) := hd.out 13 (mem_of (by kernel_rfl)) (by decide) (by kernel_rfl)
    go_wp2_with fail
    exact Onward.mk (hK (.string (bs z3)) _ _ (fun h => by cases h) (by first | rfl | (simp only [puts, h7, h13])) (Spares.refl _) (fun iv' _ _ => rfl))
   ·
    have h14 : vs 14 = .string (bs z3) := hd.out 14 (mem_of (by kernel_rfl)) (by decide) (by kernel_rfl)
    go_wp2_with fail
    exact Onward.mk (hK (.string (bs z4)) _ _ (fun h => by cases h) (by first | rfl | (simp only [puts, h14])) (Spares.refl _) (fun iv' _ _ => rfl))
   ·
    have h15 : vs 15 = .string (bs z4) := hd.out 15 (mem_of (by kernel_rfl)) (by decide) (by kernel_rfl)
    go_wp2_with fail
    exact Onward.mk (hK (.string (bs z4)) _ _ (fun h => by cases h) (by first | rfl | (simp only [puts, h15])) (Spares.refl _) (fun iv' _ _ => rfl))
  case hQ =>
   intro iv vs wx hB hSp hd he hbd hsep
   have hzB := hB.size
   have h0 := (hd.out 0 (mem_of (by kernel_rfl)) (not_eaten (by kernel_rfl))).trans hx0.out
   have h1 := (hd.out 1 (mem_of (by kernel_rfl)) (not_eaten (by kernel_rfl))).trans hx1.out
   have h2 := (hd.out 2 (mem_of (by kernel_rfl)) (not_eaten (by kernel_rfl))).trans hx2.out
   have h3 := (hd.out 3 (mem_of (by kernel_rfl)) (not_eaten (by kernel_rfl))).trans hx3.out
   have h4 := (hd.out 4 (mem_of (by kernel_rfl)) (not_eaten (by kernel_rfl))).trans hx4.out
   have h5 : vs 5 = .string (bs x.text) := hd.out 5 (mem_of (by kernel_rfl)) (not_eaten (by kernel_rfl))
   have h6 : vs 6 = .string (bs z1) := hd.out 6 (mem_of (by kernel_rfl)) (not_eaten (by kernel_rfl))
   have h7 : vs 7 = .string (bs z2) := hd.out 7 (mem_of (by kernel_rfl)) (not_eaten (by kernel_rfl))
   have h8 := (hd.out 8 (mem_of (by kernel_rfl)) (not_eaten (by kernel_rfl))).trans hx8.out
   have h9 := (hd.out 9 (mem_of (by kernel_rfl)) (not_eaten (by kernel_rfl))).trans hx9.out
   have h10 := (hd.out 10 (mem_of (by kernel_rfl)) (not_eaten (by kernel_rfl))).trans hx10.out
   have h11 := (hd.out 11 (mem_of (by kernel_rfl)) (not_eaten (by kernel_rfl))).trans hx11.out
   have h12 := (hd.out 12 (mem_of (by kernel_rfl)) (not_eaten (by kernel_rfl))).trans hx12.out
   have h13 : vs 13 = .string (bs y.text) := hd.out 13 (mem_of (by kernel_rfl)) (not_eaten (by kernel_rfl))
   have h14 : vs 14 = .string (bs z3) := hd.out 14 (mem_of (by kernel_rfl)) (not_eaten (by kernel_rfl))
   have h15 : vs 15 = .string (bs z4) := hd.out 15 (mem_of (by kernel_rfl)) (not_eaten (by kernel_rfl))
   have h16 : vs 16 = .string (bs z4) := hd.out 16 (mem_of (by kernel_rfl)) (not_eaten (by kernel_rfl))
   simp only [putFrom, puts]
   clear hd he hbd hsep
   go_wp2_with fail
   go_ret
   exact ⟨congrArg Ending.returned h16, hB⟩
 ·
  obtain ⟨x, y, rfl⟩ := two_kids hk (by omega)
  have hx : [x, y][0]? = some x := rfl
  have hy : [x, y][1]? = some y := rfl
  obtain ⟨b', o', rfl⟩ := kid_some hr (by simp)
  have hxt : x.tree tm am = true := Ex.treeL_mem htl (by simp)
  have hyt : y.tree tm am = true := Ex.treeL_mem htl (by simp)
  have bx := text_bound tm am ht ha _ x (Nat.le_refl _) hxt
  have bY := text_bound tm am ht ha _ y (Nat.le_refl _) hyt
  obtain ⟨hbl, s', c', k0, k1, k2, kr⟩ := kid_in hr hx
  obtain ⟨-, s2, c2, q0, q1, q2, qr⟩ := kid_in hr hy
  simp only [Nat.zero_mul, Nat.add_zero] at k0 k1 k2
  simp only [Nat.one_mul] at q0 q1 q2
  have hat : ExAt w b' o' x := ⟨k0, k1, s', c', k2, kr⟩
  have hbt : ExAt w b' (o' + 3) y := ⟨q0, q1, s2, c2, q2, qr⟩
  have hsx : x.size < N := by rw [Ex.size_eq] at hN; simp only [Ex.kids, Ex.sizeL] at hN; omega
  have hsy : y.size < N := by rw [Ex.size_eq] at hN; simp only [Ex.kids, Ex.sizeL] at hN; omega
  have hszx : x.size ≤ 1000000 := by rw [Ex.size_eq] at hsz0; simp only [Ex.kids, Ex.sizeL] at hsz0; omega
  have hszy : y.size ≤ 1000000 := by rw [Ex.size_eq] at hsz0; simp only [Ex.kids, Ex.sizeL] at hsz0; omega
  obtain ⟨z1, Hz1, Hc1⟩ := cat_l (P := Tryz.prog) (s := { data := #[40] }) [40] x.text rfl (by simp; omega)
  have l1 : z1.length ≤ 10000000 := by rw [Hz1.out]; simp; omega
  obtain ⟨z2, Hz2, Hc2⟩ := cat_r (P := Tryz.prog) (s := { data := #[32] }) z1 [32] rfl (by simp; omega)
  have l2 : z2.length ≤ 10000010 := by rw [Hz2.out]; simp; omega
  obtain ⟨z3, Hz3, Hc3⟩ := cat_2 (P := Tryz.prog) z2 y.text (by omega)
  have l3 : z3.length ≤ 100000000 := by rw [Hz3.out]; simp; omega
  obtain ⟨z4, Hz4, Hc4⟩ := cat_r (P := Tryz.prog) (s := { data := #[41] }) z3 [41] rfl (by simp; omega)
  have e0 : Ex.text (.mk 7 n [x, y]) = z4 := by rw [Hz4.out, Hz3.out, Hz2.out, Hz1.out]; simp [Ex.text, texC, Ex.textL]
  rw [e0]
  clear hk hnum htl hc htr hx hy k0 k1 k2 q0 q1 q2 kr qr e0 bx bY l1 l2 l3
  go_enter Tryz.func102, Tryz.ntmps102
  go_wp2_with fail
  obtain ⟨x0, hx0⟩ := mkval ?a2_0
  obtain ⟨x1, hx1⟩ := mkval ?a2_1
  obtain ⟨x2, hx2⟩ := mkval ?a2_2
  obtain ⟨x3, hx3⟩ := mkval ?a2_3
  obtain ⟨x4, hx4⟩ := mkval ?a2_4
  obtain ⟨x8, hx8⟩ := mkval ?a2_8
  obtain ⟨x9, hx9⟩ := mkval ?a2_9
  obtain ⟨x10, hx10⟩ := mkval ?a2_10
  obtain ⟨x11, hx11⟩ := mkval ?a2_11
  obtain ⟨x12, hx12⟩ := mkval ?a2_12
  refine region_rs [] [] (fun _ _ => False) (w.heap.size) (fun i iv vs wx => match i with
   | 0 => vs 0 = x0
   | 1 => vs 1 = x1
   | 2 => vs 2 = x2
   | 3 => vs 3 = x3
   | 4 => vs 4 = x4
   | 5 => vs 5 = .string (bs x.text)
   | 6 => vs 6 = .string (bs z1)
   | 7 => vs 7 = .string (bs z2)
   | 8 => vs 8 = x8
   | 9 => vs 9 = x9
   | 10 => vs 10 = x10
   | 11 => vs 11 = x11
   | 12 => vs 12 = x12
   | 13 => vs 13 = .string (bs y.text)
   | 14 => vs 14 = .string (bs z3)
   | 15 => vs 15 = .string (bs z4)
   | 16 => vs 16 = .string (bs z4)
   | _ => True) (fun i iv vs => match i with
   | 0 => vs 0 = x0
   | 1 => vs 1 = x1
   | 2 => vs 2 = x2
   | 3 => vs 3 = x3
   | 4 => vs 4 = x4
   | 5 => vs 5 = .string (bs x.text)
   | 6 => vs 6 = .string (bs z1)
   | 7 => vs 7 = .string (bs z2)
   | 8 => vs 8 = x8
   | 9 => vs 9 = x9
   | 10 => vs 10 = x10
   | 11 => vs 11 = x11
   | 12 => vs 12 = x12
   | 13 => vs 13 = .string (bs y.text)
   | 14 => vs 14 = .string (bs z3)
   | 15 => vs 15 = .string (bs z4)
   | 16 => vs 16 = .string (bs z4)
   | _ => True) (by kernel_rfl) (by kernel_rfl) [0, 1, 2, 3, 4, 5, 6, 7, 8, 9, 10, 11, 12, 13, 14, 15, 16] (by kernel_rfl) ?hbase ?hGb ?hG ?hJ ?hE ?hEE ?hstep ?hQ
  case hbase => first | exact Nat.le_refl _ | omega | (simp; omega)
  case hGb =>
   exact fun _ _ h => h.elim
  case hG =>
   exact fun _ _ _ h => h.elim
  case hJ =>
   intro i hi iv iv' vs vs' wx wx' ha hv hz hk hj
   simp only [List.mem_cons, List.not_mem_nil, or_false] at hi
   rcases hi with rfl | rfl | rfl | rfl | rfl | rfl | rfl | rfl | rfl | rfl | rfl | rfl | rfl | rfl | rfl | rfl | rfl
   ·
    exact (hv.out 0 (mem_of (by kernel_rfl))).symm.trans hj
   ·
    exact (hv.out 1 (mem_of (by kernel_rfl))).symm.trans hj
   ·
    exact (hv.out 2 (mem_of (by kernel_rfl))).symm.trans hj
   ·
    exact (hv.out 3 (mem_of (by kernel_rfl))).symm.trans hj
   ·
    exact (hv.out 4 (mem_of (by kernel_rfl))).symm.trans hj
   ·
    exact (hv.out 5 (mem_of (by kernel_rfl))).symm.trans hj
   ·
    exact (hv.out 6 (mem_of (by kernel_rfl))).symm.trans hj
   ·
    exact (hv.out 7 (mem_of (by kernel_rfl))).symm.trans hj
   ·
    exact (hv.out 8 (mem_of (by kernel_rfl))).symm.trans hj
   ·
    exact (hv.out 9 (mem_of (by kernel_rfl))).symm.trans hj
   ·
    exact (hv.out 10 (mem_of (by kernel_rfl))).symm.trans hj
   ·
    exact (hv.out 11 (mem_of (by kernel_rfl))).symm.trans hj
   ·
    exact (hv.out 12 (mem_of (by kernel_rfl))).symm.trans hj
   ·
    exact (hv.out 13 (mem_of (by kernel_rfl))).symm.trans hj
   ·
    exact (hv.out 14 (mem_of (by kernel_rfl))).symm.trans hj
   ·
    exact (hv.out 15 (mem_of (by kernel_rfl))).symm.trans hj
   ·
    exact (hv.out 16 (mem_of (by kernel_rfl))).symm.trans hj
  case hE =>
   intro i hi iv vs wx hj
   simp only [List.mem_cons, List.not_mem_nil, or_false] at hi
   rcases hi with rfl | rfl | rfl | rfl | rfl | rfl | rfl | rfl | rfl | rfl | rfl | rfl | rfl | rfl | rfl | rfl | rfl
   ·
    exact hj
   ·
    exact hj
   ·
    exact hj
   ·
    exact hj
   ·
    exact hj
   ·
    exact hj
   ·
    exact hj
   ·
    exact hj
   ·
    exact hj
   ·
    exact hj
   ·
    exact hj
   ·
    exact hj
   ·
    exact hj
   ·
    exact hj
   ·
    exact hj
   ·
    exact hj
   ·
    exact hj
  case hEE =>
   intro i hi iv iv' vs vs' ha hv hj
   simp only [List.mem_cons, List.not_mem_nil, or_false] at hi
   rcases hi with rfl | rfl | rfl | rfl | rfl | rfl | rfl | rfl | rfl | rfl | rfl | rfl | rfl | rfl | rfl | rfl | rfl
   ·
    exact (hv.out 0 (mem_of (by kernel_rfl))).symm.trans hj
   ·
    exact (hv.out 1 (mem_of (by kernel_rfl))).symm.trans hj
   ·
    exact (hv.out 2 (mem_of (by kernel_rfl))).symm.trans hj
   ·
    exact (hv.out 3 (mem_of (by kernel_rfl))).symm.trans hj
   ·
    exact (hv.out 4 (mem_of (by kernel_rfl))).symm.trans hj
   ·
    exact (hv.out 5 (mem_of (by kernel_rfl))).symm.trans hj
   ·
    exact (hv.out 6 (mem_of (by kernel_rfl))).symm.trans hj
   ·
    exact (hv.out 7 (mem_of (by kernel_rfl))).symm.trans hj
   ·
    exact (hv.out 8 (mem_of (by kernel_rfl))).symm.trans hj
   ·
    exact (hv.out 9 (mem_of (by kernel_rfl))).symm.trans hj
   ·
    exact (hv.out 10 (mem_of (by kernel_rfl))).symm.trans hj
   ·
    exact (hv.out 11 (mem_of (by kernel_rfl))).symm.trans hj
   ·
    exact (hv.out 12 (mem_of (by kernel_rfl))).symm.trans hj
   ·
    exact (hv.out 13 (mem_of (by kernel_rfl))).symm.trans hj
   ·
    exact (hv.out 14 (mem_of (by kernel_rfl))).symm.trans hj
   ·
    exact (hv.out 15 (mem_of (by kernel_rfl))).symm.trans hj
   ·
    exact (hv.out 16 (mem_of (by kernel_rfl))).symm.trans hj
  case hstep =>
   intro i hi opr ho iv vs w1 hB hS hSo hd he hbd hsep hun K hK
   simp only [List.mem_cons, List.not_mem_nil, or_false] at hi
   have hzB := hB.size
   have c2 := (hB.cell (p := ⟨b, o + 2, none⟩) hbl0).trans g2
   generalize hA : putFrom _ 0 vs _ = A at hK ⊢
   simp only [putFrom, puts] at hA
   rcases hi with rfl | rfl | rfl | rfl | rfl | rfl | rfl | rfl | rfl | rfl | rfl | rfl | rfl | rfl | rfl | rfl | rfl
   all_goals
    simp at ho
    subst ho
    subst hA
   ·
    go_wp2_with fail
    refine Onward.mk (hK ?val2_0 _ _ (fun h => by cases h) ?eqA (Spares.refl _) (fun iv' _ _ => ?ja))
    case eqA => first | rfl | (simp only [puts]; rfl)
    case ja => exact hx0.out.symm
   ·
    have h0 := (hd.out 0 (mem_of (by kernel_rfl)) (by decide) (by kernel_rfl)).trans hx0.out
    go_wp2_with fail
    refine Onward.mk (hK ?val2_1 _ _ (fun h => by cases h) ?eqA (Spares.refl _) (fun iv' _ _ => ?ja))
    case eqA => first | rfl | (simp only [puts, h0]; rfl)
    case ja => exact hx1.out.symm
   ·
    have h1 := (hd.out 1 (mem_of (by kernel_rfl)) (by decide) (by kernel_rfl)).trans hx1.out
    go_wp2_with fail
    refine Onward.mk (hK ?val2_2 _ _ (fun h => by cases h) ?eqA (Spares.refl _) (fun iv' _ _ => ?ja))
    case eqA => first | rfl | (simp only [puts, h1]; rfl)
    case ja => exact hx2.out.symm
   ·
    have h2 := (hd.out 2 (mem_of (by kernel_rfl)) (by decide) (by kernel_rfl)).trans hx2.out
    go_wp2_with fail
    refine Onward.mk (hK ?val2_3 _ _ (fun h => by cases h) ?eqA (Spares.refl _) (fun iv' _ _ => ?ja))
    case eqA => first | rfl | (simp only [puts, h2]; rfl)
    case ja => exact hx3.out.symm
   ·
    have h3 := (hd.out 3 (mem_of (by kernel_rfl)) (by decide) (by kernel_rfl)).trans hx3.out
    go_wp2_with fail
    refine Onward.mk (hK ?val2_4 _ _ (fun h => by cases h) ?eqA (Spares.refl _) (fun iv' _ _ => ?ja))
    case eqA => first | rfl | (simp only [puts, h3]; rfl)
    case ja => exact hx4.out.symm
   ·
    have h4 := (hd.out 4 (mem_of (by kernel_rfl)) (by decide) (by kernel_rfl)).trans hx4.out
    go_wp2_with fail
    refine (ih _ hsx _ _ _ _ (Nat.le_refl _) (hat.below hB) hxt hszx).mono ?_
    rintro e w2 ⟨rfl, hb⟩
    go_wp2_with fail
    exact Onward.mk (hK (.string (bs x.text)) _ _ (fun h => by cases h) (by first | rfl | (simp only [puts, h4])) (Spares.of_below hb) (fun iv' _ _ => rfl))
   ·
    have h5 : vs 5 = .string (bs x.text) := hd.out 5 (mem_of (by kernel_rfl)) (by decide) (by kernel_rfl)
    go_wp2_with fail
    exact Onward.mk (hK (.string (bs z1)) _ _ (fun h => by cases h) (by first | rfl | (simp only [puts, h5])) (Spares.refl _) (fun iv' _ _ => rfl))
   ·
    have h6 : vs 6 = .string (bs z1) := hd.out 6 (mem_of (by kernel_rfl)) (by decide) (by kernel_rfl)
    go_wp2_with fail
    exact Onward.mk (hK (.string (bs z2)) _ _ (fun h => by cases h) (by first | rfl | (simp only [puts, h6])) (Spares.refl _) (fun iv' _ _ => rfl))
   ·
    go_wp2_with fail
    refine Onward.mk (hK ?val2_8 _ _ (fun h => by cases h) ?eqA (Spares.refl _) (fun iv' _ _ => ?ja))
    case eqA => first | rfl | (simp only [puts]; rfl)
    case ja => exact hx8.out.symm
   ·
    have h8 := (hd.out 8 (mem_of (by kernel_rfl)) (by decide) (by kernel_rfl)).trans hx8.out
    go_wp2_with fail
    refine Onward.mk (hK ?val2_9 _ _ (fun h => by cases h) ?eqA (Spares.refl _) (fun iv' _ _ => ?ja))
    case eqA => first | rfl | (simp only [puts, h8]; rfl)
    case ja => exact hx9.out.symm
   ·
    have h9 := (hd.out 9 (mem_of (by kernel_rfl)) (by decide) (by kernel_rfl)).trans hx9.out
    go_wp2_with fail
    refine Onward.mk (hK ?val2_10 _ _ (fun h => by cases h) ?eqA (Spares.refl _) (fun iv' _ _ => ?ja))
    case eqA => first | rfl | (simp only [puts, h9]; rfl)
    case ja => exact hx10.out.symm
   ·
    have h10 := (hd.out 10 (mem_of (by kernel_rfl)) (by decide) (by kernel_rfl)).trans hx10.out
    go_wp2_with fail
    refine Onward.mk (hK ?val2_11 _ _ (fun h => by cases h) ?eqA (Spares.refl _) (fun iv' _ _ => ?ja))
    case eqA => first | rfl | (simp only [puts, h10]; rfl)
    case ja => exact hx11.out.symm
   ·
    have h11 := (hd.out 11 (mem_of (by kernel_rfl)) (by decide) (by kernel_rfl)).trans hx11.out
    go_wp2_with fail
    refine Onward.mk (hK ?val2_12 _ _ (fun h => by cases h) ?eqA (Spares.refl _) (fun iv' _ _ => ?ja))
    case eqA => first | rfl | (simp only [puts, h11]; rfl)
    case ja => exact hx12.out.symm
   ·
    have h12 := (hd.out 12 (mem_of (by kernel_rfl)) (by decide) (by kernel_rfl)).trans hx12.out
    go_wp2_with fail
    refine (ih _ hsy _ _ _ _ (Nat.le_refl _) (hbt.below hB) hyt hszy).mono ?_
    rintro e w2 ⟨rfl, hb⟩
    go_wp2_with fail
    exact Onward.mk (hK (.string (bs y.text)) _ _ (fun h => by cases h) (by first | rfl | (simp only [puts, h12])) (Spares.of_below hb) (fun iv' _ _ => rfl))
   ·
    have h7 : vs 7 = .string (bs z2) := hd.out 7 (mem_of (by kernel_rfl)) (by decide) (by kernel_rfl)
    have h13 : vs 13 = .string (bs y.text) := hd.out 13 (mem_of (by kernel_rfl)) (by decide) (by kernel_rfl)
    go_wp2_with fail
    exact Onward.mk (hK (.string (bs z3)) _ _ (fun h => by cases h) (by first | rfl | (simp only [puts, h7, h13])) (Spares.refl _) (fun iv' _ _ => rfl))
   ·
    have h14 : vs 14 = .string (bs z3) := hd.out 14 (mem_of (by kernel_rfl)) (by decide) (by kernel_rfl)
    go_wp2_with fail
    exact Onward.mk (hK (.string (bs z4)) _ _ (fun h => by cases h) (by first | rfl | (simp only [puts, h14])) (Spares.refl _) (fun iv' _ _ => rfl))
   ·
    have h15 : vs 15 = .string (bs z4) := hd.out 15 (mem_of (by kernel_rfl)) (by decide) (by kernel_rfl)
    go_wp2_with fail
    exact Onward.mk (hK (.string (bs z4)) _ _ (fun h => by cases h) (by first | rfl | (simp only [puts, h15])) (Spares.refl _) (fun iv' _ _ => rfl))
  case hQ =>
   intro iv vs wx hB hSp hd he hbd hsep
   have hzB := hB.size
   have h0 := (hd.out 0 (mem_of (by kernel_rfl)) (not_eaten (by kernel_rfl))).trans hx0.out
   have h1 := (hd.out 1 (mem_of (by kernel_rfl)) (not_eaten (by kernel_rfl))).trans hx1.out
   have h2 := (hd.out 2 (mem_of (by kernel_rfl)) (not_eaten (by kernel_rfl))).trans hx2.out
   have h3 := (hd.out 3 (mem_of (by kernel_rfl)) (not_eaten (by kernel_rfl))).trans hx3.out
   have h4 := (hd.out 4 (mem_of (by kernel_rfl)) (not_eaten (by kernel_rfl))).trans hx4.out
   have h5 : vs 5 = .string (bs x.text) := hd.out 5 (mem_of (by kernel_rfl)) (not_eaten (by kernel_rfl))
   have h6 : vs 6 = .string (bs z1) := hd.out 6 (mem_of (by kernel_rfl)) (not_eaten (by kernel_rfl))
   have h7 : vs 7 = .string (bs z2) := hd.out 7 (mem_of (by kernel_rfl)) (not_eaten (by kernel_rfl))
   have h8 := (hd.out 8 (mem_of (by kernel_rfl)) (not_eaten (by kernel_rfl))).trans hx8.out
   have h9 := (hd.out 9 (mem_of (by kernel_rfl)) (not_eaten (by kernel_rfl))).trans hx9.out
   have h10 := (hd.out 10 (mem_of (by kernel_rfl)) (not_eaten (by kernel_rfl))).trans hx10.out
   have h11 := (hd.out 11 (mem_of (by kernel_rfl)) (not_eaten (by kernel_rfl))).trans hx11.out
   have h12 := (hd.out 12 (mem_of (by kernel_rfl)) (not_eaten (by kernel_rfl))).trans hx12.out
   have h13 : vs 13 = .string (bs y.text) := hd.out 13 (mem_of (by kernel_rfl)) (not_eaten (by kernel_rfl))
   have h14 : vs 14 = .string (bs z3) := hd.out 14 (mem_of (by kernel_rfl)) (not_eaten (by kernel_rfl))
   have h15 : vs 15 = .string (bs z4) := hd.out 15 (mem_of (by kernel_rfl)) (not_eaten (by kernel_rfl))
   have h16 : vs 16 = .string (bs z4) := hd.out 16 (mem_of (by kernel_rfl)) (not_eaten (by kernel_rfl))
   simp only [putFrom, puts]
   clear hd he hbd hsep
   go_wp2_with fail
   go_ret
   exact ⟨congrArg Ending.returned h16, hB⟩
 ·
  obtain ⟨x, rfl⟩ := one_kid hk (by omega)
  have hx : [x][0]? = some x := rfl
  obtain ⟨b', o', rfl⟩ := kid_some hr (by simp)
  have hxt : x.tree tm am = true := Ex.treeL_mem htl (by simp)
  have bx := text_bound tm am ht ha _ x (Nat.le_refl _) hxt
  obtain ⟨hbl, s', c', k0, k1, k2, kr⟩ := kid_in hr hx
  simp only [Nat.zero_mul, Nat.add_zero] at k0 k1 k2
  have hat : ExAt w b' o' x := ⟨k0, k1, s', c', k2, kr⟩
  have hsx : x.size < N := by rw [Ex.size_eq] at hN; simp only [Ex.kids, Ex.sizeL] at hN; omega
  have hsz : x.size ≤ 1000000 := by rw [Ex.size_eq] at hsz0; simp only [Ex.kids, Ex.sizeL] at hsz0; omega
  obtain ⟨z, Hz, Hc⟩ := cat_r (P := Tryz.prog) (s := { data := #[42] }) x.text [42] rfl (by simp; omega)
  have e0 : Ex.text (.mk 8 n [x]) = z := by rw [Hz.out]; simp [Ex.text, texC, Ex.textL]
  rw [e0]
  clear hk hnum htl hc htr hx k0 k1 k2 kr e0
  go_enter Tryz.func102, Tryz.ntmps102
  go_wp2_with fail
  refine (ih _ hsx _ _ _ _ (Nat.le_refl _) hat hxt hsz).mono ?_
  rintro e w2 ⟨rfl, hb⟩
  go_wp2_with fail
  go_ret
  exact ⟨rfl, hb⟩
theorem okB_bd {t a : Int} {e : Ex} (h : okB t a e = true) : t ≤ 3 ∧ a ≤ 5 ∧ e.size ≤ 200 := by
 unfold okB at h
 simp only [Bool.and_eq_true, decide_eq_true_eq] at h
 obtain ⟨h1, h2, -⟩ := h
 have := sigB_bd h1
 omega
end Go.Proofs.YtcokljhamhgelaaGreatDoor

namespace Go.Proofs.YtcokljhamhgelaaGreatDoor
set_option linter.unusedVariables false
set_option linter.unusedSimpArgs false
open Go.ChangeShapes Go.WideShapes Go.ChangeAt Go.RowKit Go.Deep Go.ChangeMaps Go.MapKept
open Go.Maps (Keyed)
section
variable {κ ν : Type} [DecidableEq κ]
def findM : List (κ × ν) → κ → Option ν
 | [], _ => none
 | p :: r, k => if p.1 = k then some p.2 else findM r k
def putM : List (κ × ν) → κ → ν → List (κ × ν)
 | [], k, v => [(k, v)]
 | p :: r, k, v => if p.1 = k then (k, v) :: r else p :: putM r k v
theorem findM_putM (k : κ) (v : ν) (k' : κ) : ∀ L : List (κ × ν), findM (putM L k v) k' = if k = k' then some v else findM L k'
 | [] => by simp [putM, findM]
 | p :: r => by
  have ih := findM_putM k v k' r
  unfold putM
  split
  ·
   rename_i h
   simp only [findM]
   by_cases hk : k = k'
   ·
    simp [hk]
   ·
    rw [if_neg hk, if_neg hk, if_neg (by rw [h]; exact hk)]
  ·
   rename_i h
   simp only [findM, ih]
   by_cases hk : k = k'
   ·
    subst hk
    simp [h]
   ·
    simp [hk]
theorem findM_none {k : κ} : ∀ {L : List (κ × ν)}, findM L k = none ↔ ∀ p ∈ L, p.1 ≠ k
 | [] => by simp [findM]
 | p :: r => by
  simp only [findM, List.mem_cons]
  by_cases h : p.1 = k
  ·
   simp [h]
  ·
   rw [if_neg h, findM_none]
   constructor
   ·
    rintro h1 q (rfl | hq)
    ·
     exact h
    ·
     exact h1 q hq
   ·
    exact fun h1 q hq => h1 q (Or.inr hq)
theorem findM_at {k : κ} {v : ν} : ∀ {L : List (κ × ν)} {j : Nat}, (L.map (·.1)).Nodup → L[j]? = some (k, v) → findM L k = some v
 | [], _, _, h => by simp at h
 | p :: r, 0, _, h => by
  simp at h
  subst h
  simp [findM]
 | p :: r, j + 1, hn, h => by
  simp only [List.map_cons, List.nodup_cons] at hn
  have hr : r[j]? = some (k, v) := by simpa using h
  have hne : p.1 ≠ k := fun e => hn.1 (by rw [e]; exact List.mem_map.2 ⟨(k, v), List.mem_of_getElem? hr, rfl⟩)
  simp only [findM]
  rw [if_neg hne]
  exact findM_at hn.2 hr
theorem findM_mem {k : κ} {v : ν} : ∀ {L : List (κ × ν)}, findM L k = some v → (k, v) ∈ L
 | [], h => by simp [findM] at h
 | p :: r, h => by
  simp only [findM] at h
  split at h
  ·
   rename_i hk
   simp only [Option.some.injEq] at h
   subst h
   exact List.mem_cons.2 (Or.inl (by rw [← hk]))
  ·
   exact List.mem_cons_of_mem _ (findM_mem h)
theorem putM_new {k : κ} {v : ν} : ∀ {L : List (κ × ν)}, findM L k = none → putM L k v = L ++ [(k, v)]
 | [], _ => rfl
 | p :: r, h => by
  simp only [findM] at h
  split at h
  ·
   cases h
  ·
   rename_i hk
   unfold putM
   rw [if_neg hk, putM_new h]
   rfl
theorem putM_set {k : κ} {v : ν} : ∀ {L : List (κ × ν)} {j : Nat} {u : ν}, (L.map (·.1)).Nodup → L[j]? = some (k, u) → putM L k v = L.set j (k, v)
 | [], _, _, _, h => by simp at h
 | p :: r, 0, _, _, h => by
  simp at h
  subst h
  simp [putM]
 | p :: r, j + 1, u, hn, h => by
  simp only [List.map_cons, List.nodup_cons] at hn
  have hr : r[j]? = some (k, u) := by simpa using h
  have hne : p.1 ≠ k := fun e => hn.1 (by rw [e]; exact List.mem_map.2 ⟨(k, u), List.mem_of_getElem? hr, rfl⟩)
  unfold putM
  rw [if_neg hne, putM_set hn.2 hr]
  rfl
theorem putM_nodup {k : κ} {v : ν} {L : List (κ × ν)} (hn : (L.map (·.1)).Nodup) : ((putM L k v).map (·.1)).Nodup := by
 cases h : findM L k with
 | none =>
  rw [putM_new h, List.map_append, List.nodup_append]
  refine ⟨hn, by simp, ?_⟩
  intro a ha b hb hab
  simp only [List.map_cons, List.map_nil, List.mem_singleton] at hb
  obtain ⟨p, hp, rfl⟩ := List.mem_map.1 ha
  exact findM_none.1 h p hp (by rw [hab, hb])
 | some u =>
  obtain ⟨j, hj⟩ := List.mem_iff_getElem?.1 (findM_mem h)
  rw [putM_set hn hj]
  have : (L.set j (k, v)).map (·.1) = L.map (·.1) := by
   rw [List.map_set]
   apply List.ext_getElem?
   intro i
   by_cases hij : j = i
   ·
    subst hij
    obtain ⟨h1, h2⟩ := List.getElem?_eq_some_iff.1 hj
    rw [List.getElem?_set_self (by simpa using h1), List.getElem?_map, hj]
    rfl
   ·
    rw [List.getElem?_set_ne hij]
  rw [this]
  exact hn
theorem putM_keys {k : κ} {v : ν} {L : List (κ × ν)} {q : κ} (h : q ∈ (putM L k v).map (·.1)) : q = k ∨ q ∈ L.map (·.1) := by
 induction L with
 | nil => simp [putM] at h; exact Or.inl h
 | cons p r ih =>
  unfold putM at h
  split at h
  ·
   simp only [List.map_cons, List.mem_cons] at h ⊢
   rcases h with h | h
   ·
    exact Or.inl h
   ·
    exact Or.inr (Or.inr h)
  ·
   simp only [List.map_cons, List.mem_cons] at h ⊢
   rcases h with h | h
   ·
    exact Or.inr (Or.inl h)
   ·
    rcases ih h with h | h
    ·
     exact Or.inl h
    ·
     exact Or.inr (Or.inr h)
def MapAt (P : Program) (kt : TypeId) (kf : κ → Value) (vf : ν → Value) (w : World) (b : Nat) (L : List (κ × ν)) : Prop :=
 ∃ es clock, w.heap[b]? = some (.map es clock) ∧ es.toList.map (fun e => (e.key, e.val)) = L.map (fun p => (kf p.1, vf p.2)) ∧ (L.map (·.1)).Nodup ∧ ∀ p ∈ L, ∃ l, keyOf P kt (kf p.1) = some l
variable {P : Program} {kt : TypeId} {kf : κ → Value} {vf : ν → Value} {w : World} {b : Nat} {L : List (κ × ν)}
omit [DecidableEq κ] in
theorem MapAt.made (w : World) : MapAt P kt kf vf (w.alloc (.map #[] 0)) w.heap.size ([] : List (κ × ν)) := ⟨#[], 0, (MapKept.heap_alloc w _).1, by simp, by simp, by simp⟩
omit [DecidableEq κ] in
theorem MapAt.lt (h : MapAt P kt kf vf w b L) : b < w.heap.size := by
 obtain ⟨es, clock, hb, _⟩ := h
 exact (Array.getElem?_eq_some_iff.1 hb).1
omit [DecidableEq κ] in
theorem MapAt.keep {w' : World} (h : MapAt P kt kf vf w b L) (hk : w'.heap[b]? = w.heap[b]?) : MapAt P kt kf vf w' b L := by
 obtain ⟨es, clock, hb, h2⟩ := h
 exact ⟨es, clock, hk.trans hb, h2⟩
omit [DecidableEq κ] in
theorem MapAt.below {w' : World} (h : MapAt P kt kf vf w b L) (hb : Below w.heap.size w w') : MapAt P kt kf vf w' b L := h.keep (hb.block _ h.lt)
omit [DecidableEq κ] in
theorem MapAt.nodup (h : MapAt P kt kf vf w b L) : (L.map (·.1)).Nodup := by
 obtain ⟨_, _, _, _, h, _⟩ := h
 exact h
theorem MapAt.find (h : MapAt P kt kf vf w b L) (K : Keyed P kt) (hinj : ∀ x y, kf x = kf y → x = y) {k : κ} (hk : ∃ l, keyOf P kt (kf k) = some l) : ∃ es clock, w.heap[b]? = some (.map es clock) ∧ es.toList.map (fun e => (e.key, e.val)) = L.map (fun p => (kf p.1, vf p.2)) ∧
  (((Instr.findKey kt (kf k) es.toList).run P w = .ok none w ∧ findM L k = none) ∨ ∃ j e v, (Instr.findKey kt (kf k) es.toList).run P w = .ok (some (j, e.val)) w ∧ es.toList[j]? = some e ∧ e.key = kf k ∧ e.val = vf v ∧ L[j]? = some (k, v) ∧ findM L k = some v) := by
 obtain ⟨es, clock, hb, he, hn, hl⟩ := h
 obtain ⟨l, hkl⟩ := hk
 refine ⟨es, clock, hb, he, ?_⟩
 have pair : ∀ (j : Nat) (e : MapEntry), es.toList[j]? = some e → ∃ p, L[j]? = some p ∧ e.key = kf p.1 ∧ e.val = vf p.2 := by
  intro j e h1
  have h2 : (es.toList.map (fun e => (e.key, e.val)))[j]? = some (e.key, e.val) := by rw [List.getElem?_map, h1]; rfl
  rw [he, List.getElem?_map, Option.map_eq_some_iff] at h2
  obtain ⟨p, h3, h4⟩ := h2
  simp only [Prod.mk.injEq] at h4
  exact ⟨p, h3, h4.1.symm, h4.2.symm⟩
 have pair' : ∀ p ∈ L, ∃ e ∈ es.toList, e.key = kf p.1 := by
  intro p hp
  have h2 : (kf p.1, vf p.2) ∈ L.map (fun p => (kf p.1, vf p.2)) := List.mem_map.2 ⟨p, hp, rfl⟩
  rw [← he] at h2
  obtain ⟨e, h3, h4⟩ := List.mem_map.1 h2
  simp only [Prod.mk.injEq] at h4
  exact ⟨e, h3, h4.1⟩
 rcases K.find w hkl es.toList (fun e he' => by
  obtain ⟨j, hj⟩ := List.mem_iff_getElem?.1 he'
  obtain ⟨p, h1, h2, _⟩ := pair j e hj
  rw [h2]
  exact hl p (List.mem_of_getElem? h1)) with ⟨h1, h2⟩ | ⟨j, e, h1, h2, h3⟩
 ·
  refine Or.inl ⟨h1, findM_none.2 fun p hp hpk => ?_⟩
  obtain ⟨e, h3, h4⟩ := pair' p hp
  exact h2 e h3 (by rw [h4, hpk])
 ·
  obtain ⟨p, h4, h5, h6⟩ := pair j e h2
  have hpk : p.1 = k := hinj _ _ (h5.symm.trans h3)
  have h7 : L[j]? = some (k, p.2) := by rw [h4, ← hpk]
  exact Or.inr ⟨j, e, p.2, h1, h2, h3, h6, h7, findM_at hn h7⟩
def lookV (c : Bool) (z : Value) (vf : ν → Value) : Option ν → Value
 | none => if c then .tuple #[z, .bool false] else z
 | some v => if c then .tuple #[vf v, .bool true] else vf v
theorem MapAt.lookup (h : MapAt P kt kf vf w b L) (c : Bool) (K : Keyed P kt) (hinj : ∀ x y, kf x = kf y → x = y) {t e : TypeId} (ht : P.underlying t = some (.map kt e)) {z : Value} (hz : (zeroValue e).run P w = .ok z w) {k : κ} (hk : ∃ l, keyOf P kt (kf k) = some l) :
  (Instr.lookup t (.map (some b)) (kf k) c).run P w = .ok (lookV c z vf (findM L k)) w := by
 obtain ⟨l, hkl⟩ := hk
 obtain ⟨es, clock, hb, he, h | ⟨j, e, v, h1, h2, h3, h4, _, h5⟩⟩ := h.find K hinj ⟨l, hkl⟩
 ·
  rw [h.2]
  simp [lookV, Instr.lookup, run_underlying ht, MapKept.run_getObj_map hb, K.check w _ hkl, h.1, hz, Result.andThen]
 ·
  rw [h5]
  simp [lookV, Instr.lookup, run_underlying ht, MapKept.run_getObj_map hb, K.check w _ hkl, h1, h4, Result.andThen]
theorem MapAt.update (h : MapAt P kt kf vf w b L) (K : Keyed P kt) (hinj : ∀ x y, kf x = kf y → x = y) {t e : TypeId} (ht : P.underlying t = some (.map kt e)) {k : κ} (hk : ∃ l, keyOf P kt (kf k) = some l) (v : ν) :
  ∃ w', (Instr.mapUpdate t (.map (some b)) (kf k) (vf v)).run P w = .ok () w' ∧ MapAt P kt kf vf w' b (putM L k v) ∧ Only [b] w w' := by
 obtain ⟨l, hkl⟩ := hk
 have hn := h.nodup
 have hl : ∀ p ∈ L, ∃ l, keyOf P kt (kf p.1) = some l := by obtain ⟨_, _, _, _, _, h⟩ := h; exact h
 have hl' : ∀ p ∈ putM L k v, ∃ l, keyOf P kt (kf p.1) = some l := by
  intro p hp
  rcases putM_keys (List.mem_map.2 ⟨p, hp, rfl⟩) with h | h
  ·
   rw [h]; exact ⟨l, hkl⟩
  ·
   obtain ⟨q, hq, he⟩ := List.mem_map.1 h
   rw [← he]
   exact hl q hq
 obtain ⟨es, clock, hb, he, h | ⟨j, e, u, h1, h2, h3, h4, h6, h5⟩⟩ := h.find K hinj ⟨l, hkl⟩
 ·
  refine ⟨setBlock w b (.map (es.push ⟨kf k, vf v, clock⟩) (clock + 1)), ?_, ⟨_, _, heap_setBlock_same hb _, ?_, putM_nodup hn, hl'⟩, ⟨rfl, rfl, rfl, by simp [setBlock], fun i _ hi => heap_setBlock_other hb _ (by simpa using hi)⟩⟩
  ·
   simp [Instr.mapUpdate, run_underlying ht, MapKept.run_getObj_map hb, K.check w false hkl, h.1, MapKept.run_setObj_map _ hb, Result.andThen, setBlock]
  ·
   rw [putM_new h.2, Array.toList_push, List.map_append, List.map_append, he]
   rfl
 ·
  have hj : es[j]? = some e := by rw [← Array.getElem?_toList]; exact h2
  refine ⟨setBlock w b (.map (es.modify j fun e => { e with key := kf k, val := vf v }) clock), ?_, ⟨_, _, heap_setBlock_same hb _, ?_, putM_nodup hn, hl'⟩, ⟨rfl, rfl, rfl, by simp [setBlock], fun i _ hi => heap_setBlock_other hb _ (by simpa using hi)⟩⟩
  ·
   simp [Instr.mapUpdate, run_underlying ht, MapKept.run_getObj_map hb, K.check w false hkl, h1, MapKept.run_setObj_map _ hb, Result.andThen, setBlock, hj, h3, K.stays w hkl]
  ·
   rw [putM_set hn h6, List.map_set, ← he, Array.toList_modify]
   apply List.ext_getElem?
   intro i
   rw [List.getElem?_map, List.getElem?_modify]
   by_cases hij : j = i
   ·
    subst hij
    rw [List.getElem?_set_self (by have := (List.getElem?_eq_some_iff.1 h2).1; simpa using this)]
    simp [hj]
   ·
    rw [List.getElem?_set_ne hij, List.getElem?_map]
    simp [hij]
theorem wpList_lookup_at (w : World) {ops : Array Oper} {rest : List Oper} {o : Oper} {a : Act} {Q : Exit → Act → World → Prop} (hg : o.guard = none) (m x : Operand) (t : TypeId) (c : Bool) (hop : o.op = Op.lookup t m x c)
  (kt e : TypeId) (K : Keyed P kt) (ht : P.underlying t = some (.map kt e)) (z : Value) (hz : (zeroValue e).run P w = .ok z w) {kf : κ → Value} (hinj : ∀ x y, kf x = kf y → x = y) {vf : ν → Value} {L : List (κ × ν)} (b : Nat)
  (hM : MapAt P kt kf vf w b L) (k : κ) (hk : ∃ l, keyOf P kt (kf k) = some l) (hm : a.eval m = .map (some b)) (hx : a.eval x = kf k) (r : Option ν) (hr : findM L k = r)
  (hK : wpList P ops Q rest (a.put o.dst (lookV c z vf r)) w) : wpList P ops Q (o :: rest) a w := by
 subst hr
 refine wpList_plain hg fun K' hK' => ?_
 have hrun := hM.lookup c K hinj ht hz hk
 unfold Oper.wp
 simp [execOp, hop, hm, hx, hrun, Result.andThen]
 exact hK' _ _ hK
theorem wpList_mapUpdate_at (w : World) {ops : Array Oper} {rest : List Oper} {o : Oper} {a : Act} {Q : Exit → Act → World → Prop} (hg : o.guard = none) (m x y : Operand) (t : TypeId) (hop : o.op = Op.mapUpdate t m x y)
  (kt e : TypeId) (K : Keyed P kt) (ht : P.underlying t = some (.map kt e)) {kf : κ → Value} (hinj : ∀ x y, kf x = kf y → x = y) {vf : ν → Value} {L : List (κ × ν)} (b : Nat)
  (hM : MapAt P kt kf vf w b L) (k : κ) (hk : ∃ l, keyOf P kt (kf k) = some l) (v : ν) (hm : a.eval m = .map (some b)) (hx : a.eval x = kf k) (hy : a.eval y = vf v)
  (hK : ∀ w', MapAt P kt kf vf w' b (putM L k v) → Only [b] w w' → wpList P ops Q rest (a.put o.dst undef) w') : wpList P ops Q (o :: rest) a w := by
 refine wpList_plain hg fun K' hK' => ?_
 obtain ⟨w', hrun, r1, r2⟩ := hM.update K hinj ht hk v
 unfold Oper.wp
 simp [execOp, hop, hm, hx, hy, hrun, Result.andThen]
 exact hK' _ _ (hK w' r1 r2)
end
end Go.Proofs.YtcokljhamhgelaaGreatDoor
