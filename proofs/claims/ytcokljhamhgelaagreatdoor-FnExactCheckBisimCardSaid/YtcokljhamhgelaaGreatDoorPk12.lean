/-
  Parts of a proof, joined: TextI. No condition.
-/
import Derived.Test.YtcokljhamhgelaaGreatDoorPk7
namespace Go.Proofs.YtcokljhamhgelaaGreatDoor
set_option linter.unusedVariables false
set_option linter.unusedSimpArgs false
open Go.ChangeShapes Go.WideShapes Go.ChangeAt Go.RowKit Go.Sort
set_option maxHeartbeats 2000000 in
theorem textOf_i {tm am k n : Int} {ks : List Ex} {s : Option Addr} {c : Nat} {w : World} (hr : Rd w (kidsD ks) (.slice s ks.length c)) (ht : tm ≤ 8) (ha : am ≤ 8) (htr : Ex.tree tm am (.mk k n ks) = true) (hsz : Ex.sizeL ks ≤ 1000000) :
  Calls Tryz.prog 62 #[.agg #[.int .i64 k, .int .i64 n, .slice s ks.length c]] w fun e w' => e = .returned (.string (bs (Ex.text (.mk k n ks)))) ∧ Below w.heap.size w w' := by
 have HW := Lib.hid (writeExpr_all w)
 go_enter Tryz.func62, Tryz.ntmps62
 go_wp2_with fail
 have hm := BldAt.made (w := w.alloc (.cells #[.int .i64 k, .int .i64 n, .slice s ks.length c] 34)) (B := w.heap.size + 1) (by simp)
 have h0 : Below w.heap.size w ((w.alloc (.cells #[.int .i64 k, .int .i64 n, .slice s ks.length c] 34)).alloc (.cells #[.pointer none, .slice none 0 0] 125)) := Below.alloc (Below.alloc (Below.refl _ _) (Nat.le_refl _) _) (by simp) _
 have hz : ((w.alloc (.cells #[.int .i64 k, .int .i64 n, .slice s ks.length c] 34)).alloc (.cells #[.pointer none, .slice none 0 0] 125)).heap.size = w.heap.size + 2 := by simp
 have hz1 : (w.alloc (.cells #[.int .i64 k, .int .i64 n, .slice s ks.length c] 34)).heap.size = w.heap.size + 1 := by simp
 rw [hz1] at hm
 generalize (w.alloc (.cells #[.int .i64 k, .int .i64 n, .slice s ks.length c] 34)).alloc (.cells #[.pointer none, .slice none 0 0] 125) = w2 at hm h0 hz ⊢
 clear hz1
 refine (HW.out (w.heap.size + 1) _ (by omega) tm am ht ha _ k n ks s c _ [] w2 (Nat.le_refl _) hr htr h0 hm (by omega) (by simp; omega)).mono ?_
 rintro e w3 ⟨rfl, hb, hs⟩
 have hz3 := hs.size
 have h3 : Below w.heap.size w w3 := h0.trans (hs.below (by omega) (fun x hx => by omega))
 clear h0 hm HW
 go_wp2_with fail
 refine (String_i hb (by omega)).mono ?_
 rintro e w4 ⟨rfl, hb4⟩
 have h4 : Below w.heap.size w w4 := h3.trans (hb4.mono (by omega))
 clear hb
 go_wp2_with fail
 go_ret
 exact ⟨by simp, h4⟩
theorem cat_l {P : Program} {s : ByteArray} (a b : List UInt8) (hs : s = bs a) (h : a.length + b.length ≤ 1000000000) : ∃ z, Hid (z = a ++ b) ∧ ∀ w, (Op.stringOp .add s (bs b)).run P w = .ok (.string (bs z)) w := by
 subst hs
 exact ⟨_, rfl, run_cat a b h⟩
theorem cat_r {P : Program} {s : ByteArray} (a b : List UInt8) (hs : s = bs b) (h : a.length + b.length ≤ 1000000000) : ∃ z, Hid (z = a ++ b) ∧ ∀ w, (Op.stringOp .add (bs a) s).run P w = .ok (.string (bs z)) w := by
 subst hs
 exact ⟨_, rfl, run_cat a b h⟩
theorem cat_2 {P : Program} (a b : List UInt8) (h : a.length + b.length ≤ 1000000000) : ∃ z, Hid (z = a ++ b) ∧ ∀ w, (Op.stringOp .add (bs a) (bs b)).run P w = .ok (.string (bs z)) w := ⟨_, rfl, run_cat a b h⟩
set_option maxHeartbeats 16000000 in
theorem l01Text_all (tm am : Int) (ht : tm ≤ 8) (ha : am ≤ 8) (N : Nat) : ∀ (e : Ex) (b o : Nat) (w : World), e.size ≤ N → ExAt w b o e → e.tree tm am = true → e.size ≤ 1000000 →
  Calls Tryz.prog 102 #[.pointer (some ⟨b, o, none⟩)] w fun f w' => f = .returned (.string (bs e.text)) ∧ Below w.heap.size w w' := by
 induction N using Nat.strongRecOn with
 | _ N ih =>
 intro e b o w hN hr htr hsz0
 obtain ⟨k, n, ks⟩ := e
 have hbl0 : b < w.heap.size := hr.lt
 obtain ⟨g0, g1, s, c, g2, hr⟩ := hr
 simp only [Ex.kind, Ex.num, Ex.kids] at g0 g1 g2 hr
 obtain ⟨hk, hnum, hc, htl⟩ := tree_parts htr
 rcases kind_cases hk with rfl | rfl | rfl | rfl | rfl | rfl | rfl | rfl
 ·
  have e0 : Ex.text (.mk 1 n ks) = [48] := by simp [Ex.text, texC]
  rw [e0]
  clear hk hnum htl hc htr e0
  go_enter Tryz.func102, Tryz.ntmps102
  go_wp2_with fail
  go_ret
  exact ⟨rfl, Below.refl _ _⟩
 ·
  have e0 : Ex.text (.mk 2 n ks) = [49] := by simp [Ex.text, texC]
  rw [e0]
  clear hk hnum htl hc htr e0
  go_enter Tryz.func102, Tryz.ntmps102
  go_wp2_with fail
  go_ret
  exact ⟨rfl, Below.refl _ _⟩
 ·
  obtain ⟨n0, n8⟩ := numB_any (by omega) hnum ht ha
  obtain ⟨m, rfl⟩ : ∃ m : Nat, n = (m : Int) := ⟨n.toNat, by omega⟩
  have hm : m < 10 := by omega
  obtain ⟨z, Hz, Hc⟩ := cat_l (P := Tryz.prog) (s := { data := #[116] }) [116] (Lib.decDigits m) rfl (by rw [digits_one hm]; simp)
  have e0 : Ex.text (.mk 3 m ks) = z := by rw [Hz.out]; simp [Ex.text, texC]
  rw [e0]
  clear hk hnum htl hc htr n0 n8 e0
  go_enter Tryz.func102, Tryz.ntmps102
  go_wp2_with fail
  refine (Decimal_i (n := m) (by omega)).mono ?_
  rintro e w2 ⟨rfl, hb⟩
  go_wp2_with fail
  go_ret
  exact ⟨rfl, hb⟩
 ·
  obtain ⟨n0, n8⟩ := numB_any (by omega) hnum ht ha
  obtain ⟨m, rfl⟩ : ∃ m : Nat, n = (m : Int) := ⟨n.toNat, by omega⟩
  have hm : m < 10 := by omega
  obtain ⟨z, Hz, Hc⟩ := cat_l (P := Tryz.prog) (s := { data := #[97] }) [97] (Lib.decDigits m) rfl (by rw [digits_one hm]; simp)
  have e0 : Ex.text (.mk 4 m ks) = z := by rw [Hz.out]; simp [Ex.text, texC]
  rw [e0]
  clear hk hnum htl hc htr n0 n8 e0
  go_enter Tryz.func102, Tryz.ntmps102
  go_wp2_with fail
  refine (Decimal_i (n := m) (by omega)).mono ?_
  rintro e w2 ⟨rfl, hb⟩
  go_wp2_with fail
  go_ret
  exact ⟨rfl, hb⟩
 ·
  obtain ⟨x, rfl⟩ := one_kid hk (by omega)
  have hx : [x][0]? = some x := rfl
  obtain ⟨b', o', rfl⟩ := kid_some hr (by simp)
  have hxt : x.tree tm am = true := Ex.treeL_mem htl (by simp)
  have bx := text_bound tm am ht ha _ x (Nat.le_refl _) hxt
  obtain ⟨hbl, s', c', k0, k1, k2, kr⟩ := kid_in hr hx
  simp only [Nat.zero_mul, Nat.add_zero] at k0 k1 k2
  have hat : ExAt w b' o' x := ⟨k0, k1, s', c', k2, kr⟩
  have hsx : x.size < N := by rw [Ex.size_eq] at hN; simp only [Ex.kids, Ex.sizeL] at hN; omega
  have hsz : x.size ≤ 1000000 := by rw [Ex.size_eq] at hsz0; simp only [Ex.kids, Ex.sizeL] at hsz0; omega
  obtain ⟨z, Hz, Hc⟩ := cat_l (P := Tryz.prog) (s := { data := #[126] }) [126] x.text rfl (by simp; omega)
  have e0 : Ex.text (.mk 5 n [x]) = z := by rw [Hz.out]; simp [Ex.text, texC, Ex.textL]
  rw [e0]
  clear hk hnum htl hc htr hx k0 k1 k2 kr e0
  go_enter Tryz.func102, Tryz.ntmps102
  go_wp2_with fail
  refine (ih _ hsx _ _ _ _ (Nat.le_refl _) hat hxt hsz).mono ?_
  rintro e w2 ⟨rfl, hb⟩
  go_wp2_with fail
  go_ret
  exact ⟨rfl, hb⟩
 ·
  obtain ⟨x, y, rfl⟩ := two_kids hk (by omega)
  have hx : [x, y][0]? = some x := rfl
  have hy : [x, y][1]? = some y := rfl
  obtain ⟨b', o', rfl⟩ := kid_some hr (by simp)
  have hxt : x.tree tm am = true := Ex.treeL_mem htl (by simp)
  have hyt : y.tree tm am = true := Ex.treeL_mem htl (by simp)
  have bx := text_bound tm am ht ha _ x (Nat.le_refl _) hxt
  have bY := text_bound tm am ht ha _ y (Nat.le_refl _) hyt
  obtain ⟨hbl, s', c', k0, k1, k2, kr⟩ := kid_in hr hx
  obtain ⟨-, s2, c2, q0, q1, q2, qr⟩ := kid_in hr hy
  simp only [Nat.zero_mul, Nat.add_zero] at k0 k1 k2
  simp only [Nat.one_mul] at q0 q1 q2
  have hat : ExAt w b' o' x := ⟨k0, k1, s', c', k2, kr⟩
  have hbt : ExAt w b' (o' + 3) y := ⟨q0, q1, s2, c2, q2, qr⟩
  have hsx : x.size < N := by rw [Ex.size_eq] at hN; simp only [Ex.kids, Ex.sizeL] at hN; omega
  have hsy : y.size < N := by rw [Ex.size_eq] at hN; simp only [Ex.kids, Ex.sizeL] at hN; omega
  have hszx : x.size ≤ 1000000 := by rw [Ex.size_eq] at hsz0; simp only [Ex.kids, Ex.sizeL] at hsz0; omega
  have hszy : y.size ≤ 1000000 := by rw [Ex.size_eq] at hsz0; simp only [Ex.kids, Ex.sizeL] at hsz0; omega
  obtain ⟨z1, Hz1, Hc1⟩ := cat_l (P := Tryz.prog) (s := { data := #[40] }) [40] x.text rfl (by simp; omega)
  have l1 : z1.length ≤ 10000000 := by rw [Hz1.out]; simp; omega
  obtain ⟨z2, Hz2, Hc2⟩ := cat_r (P := Tryz.prog) (s := { data := #[32, 43, 32] }) z1 [32, 43, 32] rfl (by simp; omega)
  have l2 : z2.length ≤ 10000010 := by rw [Hz2.out]; simp; omega
  obtain ⟨z3, Hz3, Hc3⟩ := cat_2 (P := Tryz.prog) z2 y.text (by omega)
  have l3 : z3.length ≤ 100000000 := by rw [Hz3.out]; simp; omega
  obtain ⟨z4, Hz4, Hc4⟩ := cat_r (P := Tryz.prog) (s := { data := #[41] }) z3 [41] rfl (by simp; omega)
  have e0 : Ex.text (.mk 6 n [x, y]) = z4 := by rw [Hz4.out, Hz3.out, Hz2.out, Hz1.out]; simp [Ex.text, texC, Ex.textL]
  rw [e0]
  clear hk hnum htl hc htr hx hy k0 k1 k2 q0 q1 q2 kr qr e0 bx bY l1 l2 l3
  go_enter Tryz.func102, Tryz.ntmps102
  go_wp2_with fail
  obtain ⟨x0, hx0⟩ := mkval ?a1_0
  obtain ⟨x1, hx1⟩ := mkval ?a1_1
  obtain ⟨x2, hx2⟩ := mkval ?a1_2
  obtain ⟨x3, hx3⟩ := mkval ?a1_3
  obtain ⟨x4, hx4⟩ := mkval ?a1_4
  obtain ⟨x8, hx8⟩ := mkval ?a1_8
  obtain ⟨x9, hx9⟩ := mkval ?a1_9
  obtain ⟨x10, hx10⟩ := mkval ?a1_10
  obtain ⟨x11, hx11⟩ := mkval ?a1_11
  obtain ⟨x12, hx12⟩ := mkval ?a1_12
  refine region_rs [] [] (fun (_ _ : Nat) => False) (w.heap.size) (fun i iv vs wx => match i with
   | 0 => vs 0 = x0
   | 1 => vs 1 = x1
   | 2 => vs 2 = x2
   | 3 => vs 3 = x3
   | 4 => vs 4 = x4
   | 5 => vs 5 = .string (bs x.text)
   | 6 => vs 6 = .string (bs z1)
   | 7 => vs 7 = .string (bs z2)
   | 8 => vs 8 = x8
   | 9 => vs 9 = x9
   | 10 => vs 10 = x10
   | 11 => vs 11 = x11
   | 12 => vs 12 = x12
   | 13 => vs 13 = .string (bs y.text)
   | 14 => vs 14 = .string (bs z3)
   | 15 => vs 15 = .string (bs z4)
   | 16 => vs 16 = .string (bs z4)
   | _ => True) (fun i iv vs => match i with
   | 0 => vs 0 = x0
   | 1 => vs 1 = x1
   | 2 => vs 2 = x2
   | 3 => vs 3 = x3
   | 4 => vs 4 = x4
   | 5 => vs 5 = .string (bs x.text)
   | 6 => vs 6 = .string (bs z1)
   | 7 => vs 7 = .string (bs z2)
   | 8 => vs 8 = x8
   | 9 => vs 9 = x9
   | 10 => vs 10 = x10
   | 11 => vs 11 = x11
   | 12 => vs 12 = x12
   | 13 => vs 13 = .string (bs y.text)
   | 14 => vs 14 = .string (bs z3)
   | 15 => vs 15 = .string (bs z4)
   | 16 => vs 16 = .string (bs z4)
   | _ => True) (by kernel_rfl) (by kernel_rfl) [0, 1, 2, 3, 4, 5, 6, 7, 8, 9, 10, 11, 12, 13, 14, 15, 16] (by kernel_rfl) ?hbase ?hGb ?hG ?hJ ?hE ?hEE ?hstep ?hQ
  case hbase => first | exact Nat.le_refl _ | omega | (simp; omega)
  case hGb =>
   exact fun _ _ h => h.elim
  case hG =>
   exact fun _ _ _ h => h.elim
  case hJ =>
   intro i hi iv iv' vs vs' wx wx' ha hv hz hk hj
   simp only [List.mem_cons, List.not_mem_nil, or_false] at hi
   rcases hi with rfl | rfl | rfl | rfl | rfl | rfl | rfl | rfl | rfl | rfl | rfl | rfl | rfl | rfl | rfl | rfl | rfl
   ·
    exact (hv.out 0 (mem_of (by kernel_rfl))).symm.trans hj
   ·
    exact (hv.out 1 (mem_of (by kernel_rfl))).symm.trans hj
   ·
    exact (hv.out 2 (mem_of (by kernel_rfl))).symm.trans hj
   ·
    exact (hv.out 3 (mem_of (by kernel_rfl))).symm.trans hj
   ·
    exact (hv.out 4 (mem_of (by kernel_rfl))).symm.trans hj
   ·
    exact (hv.out 5 (mem_of (by kernel_rfl))).symm.trans hj
   ·
    exact (hv.out 6 (mem_of (by kernel_rfl))).symm.trans hj
   ·
    exact (hv.out 7 (mem_of (by kernel_rfl))).symm.trans hj
   ·
    exact (hv.out 8 (mem_of (by kernel_rfl))).symm.trans hj
   ·
    exact (hv.out 9 (mem_of (by kernel_rfl))).symm.trans hj
   ·
    exact (hv.out 10 (mem_of (by kernel_rfl))).symm.trans hj
   ·
    exact (hv.out 11 (mem_of (by kernel_rfl))).symm.trans hj
   ·
    exact (hv.out 12 (mem_of (by kernel_rfl))).symm.trans hj
   ·
    exact (hv.out 13 (mem_of (by kernel_rfl))).symm.trans hj
   ·
    exact (hv.out 14 (mem_of (by kernel_rfl))).symm.trans hj
   ·
    exact (hv.out 15 (mem_of (by kernel_rfl))).symm.trans hj
   ·
    exact (hv.out 16 (mem_of (by kernel_rfl))).symm.trans hj
  case hE =>
   intro i hi iv vs wx hj
   simp only [List.mem_cons, List.not_mem_nil, or_false] at hi
   rcases hi with rfl | rfl | rfl | rfl | rfl | rfl | rfl | rfl | rfl | rfl | rfl | rfl | rfl | rfl | rfl | rfl | rfl
   ·
    exact hj
   ·
    exact hj
   ·
    exact hj
   ·
    exact hj
   ·
    exact hj
   ·
    exact hj
   ·
    exact hj
   ·
    exact hj
   ·
    exact hj
   ·
    exact hj
   ·
    exact hj
   ·
    exact hj
   ·
    exact hj
   ·
    exact hj
   ·
    exact hj
   ·
    exact hj
   ·
    exact hj
  case hEE =>
   intro i hi iv iv' vs vs' ha hv hj
   simp only [List.mem_cons, List.not_mem_nil, or_false] at hi
   rcases hi with rfl | rfl | rfl | rfl | rfl | rfl | rfl | rfl | rfl | rfl | rfl | rfl | rfl | rfl | rfl | rfl | rfl
   ·
    exact (hv.out 0 (mem_of (by kernel_rfl))).symm.trans hj
   ·
    exact (hv.out 1 (mem_of (by kernel_rfl))).symm.trans hj
   ·
    exact (hv.out 2 (mem_of (by kernel_rfl))).symm.trans hj
   ·
    exact (hv.out 3 (mem_of (by kernel_rfl))).symm.trans hj
   ·
    exact (hv.out 4 (mem_of (by kernel_rfl))).symm.trans hj
   ·
    exact (hv.out 5 (mem_of (by kernel_rfl))).symm.trans hj
   ·
    exact (hv.out 6 (mem_of (by kernel_rfl))).symm.trans hj
   ·
    exact (hv.out 7 (mem_of (by kernel_rfl))).symm.trans hj
   ·
    exact (hv.out 8 (mem_of (by kernel_rfl))).symm.trans hj
   ·
    exact (hv.out 9 (mem_of (by kernel_rfl))).symm.trans hj
   ·
    exact (hv.out 10 (mem_of (by kernel_rfl))).symm.trans hj
   ·
    exact (hv.out 11 (mem_of (by kernel_rfl))).symm.trans hj
   ·
    exact (hv.out 12 (mem_of (by kernel_rfl))).symm.trans hj
   ·
    exact (hv.out 13 (mem_of (by kernel_rfl))).symm.trans hj
   ·
    exact (hv.out 14 (mem_of (by kernel_rfl))).symm.trans hj
   ·
    exact (hv.out 15 (mem_of (by kernel_rfl))).symm.trans hj
   ·
    exact (hv.out 16 (mem_of (by kernel_rfl))).symm.trans hj
  case hstep =>
   intro i hi opr ho iv vs w1 hB hS hSo hd he hbd hsep hun K hK
   simp only [List.mem_cons, List.not_mem_nil, or_false] at hi
   have hzB := hB.size
   have c2 := (hB.cell (p := ⟨b, o + 2, none⟩) hbl0).trans g2
   generalize hA : putFrom _ 0 vs _ = A at hK ⊢
   simp only [putFrom, puts] at hA
   rcases hi with rfl | rfl | rfl | rfl | rfl | rfl | rfl | rfl | rfl | rfl | rfl | rfl | rfl | rfl | rfl | rfl | rfl
   all_goals
    simp at ho
    subst ho
    subst hA
   ·
    go_wp2_with fail
    refine Onward.mk (hK ?val1_0 _ _ (fun h => by cases h) ?eqA (Spares.refl _) (fun iv' _ _ => ?ja))
    case eqA => first | rfl | (simp only [puts]; rfl)
    case ja => exact hx0.out.symm
   ·
    have h0 := (hd.out 0 (mem_of (by kernel_rfl)) (by decide) (by kernel_rfl)).trans hx0.out
    go_wp2_with fail
    refine Onward.mk (hK ?val1_1 _ _ (fun h => by cases h) ?eqA (Spares.refl _) (fun iv' _ _ => ?ja))
    case eqA => first | rfl | (simp only [puts, h0]; rfl)
    case ja => exact hx1.out.symm
   ·
    have h1 := (hd.out 1 (mem_of (by kernel_rfl)) (by decide) (by kernel_rfl)).trans hx1.out
    go_wp2_with fail
    refine Onward.mk (hK ?val1_2 _ _ (fun h => by cases h) ?eqA (Spares.refl _) (fun iv' _ _ => ?ja))
    case eqA => first | rfl | (simp only [puts, h1]; rfl)
    case ja => exact hx2.out.symm
   ·
    have h2 := (hd.out 2 (mem_of (by kernel_rfl)) (by decide) (by kernel_rfl)).trans hx2.out
    go_wp2_with fail
    refine Onward.mk (hK ?val1_3 _ _ (fun h => by cases h) ?eqA (Spares.refl _) (fun iv' _ _ => ?ja))
    case eqA => first | rfl | (simp only [puts, h2]; rfl)
    case ja => exact hx3.out.symm
   ·
    have h3 := (hd.out 3 (mem_of (by kernel_rfl)) (by decide) (by kernel_rfl)).trans hx3.out
    go_wp2_with fail
    refine Onward.mk (hK ?val1_4 _ _ (fun h => by cases h) ?eqA (Spares.refl _) (fun iv' _ _ => ?ja))
    case eqA => first | rfl | (simp only [puts, h3]; rfl)
    case ja => exact hx4.out.symm
   ·
    have h4 := (hd.out 4 (mem_of (by kernel_rfl)) (by decide) (by kernel_rfl)).trans hx4.out
    go_wp2_with fail
    refine (ih _ hsx _ _ _ _ (Nat.le_refl _) (hat.below hB) hxt hszx).mono ?_
    rintro e w2 ⟨rfl, hb⟩
    go_wp2_with fail
    exact Onward.mk (hK (.string (bs x.text)) _ _ (fun h => by cases h) (by first | rfl | (simp only [puts, h4])) (Spares.of_below hb) (fun iv' _ _ => rfl))
   ·
    have h5 : vs 5 = .string (bs x.text) := hd.out 5 (mem_of (by kernel_rfl)) (by decide) (by kernel_rfl)
    go_wp2_with fail
    exact Onward.mk (hK (.string (bs z1)) _ _ (fun h => by cases h) (by first | rfl | (simp only [puts, h5])) (Spares.refl _) (fun iv' _ _ => rfl))
   ·
    have h6 : vs 6 = .string (bs z1) := hd.out 6 (mem_of (by kernel_rfl)) (by decide) (by kernel_rfl)
    go_wp2_with fail
    exact Onward.mk (hK (.string (bs z2)) _ _ (fun h => by cases h) (by first | rfl | (simp only [puts, h6])) (Spares.refl _) (fun iv' _ _ => rfl))
   ·
    go_wp2_with fail
    refine Onward.mk (hK ?val1_8 _ _ (fun h => by cases h) ?eqA (Spares.refl _) (fun iv' _ _ => ?ja))
    case eqA => first | rfl | (simp only [puts]; rfl)
    case ja => exact hx8.out.symm
   ·
    have h8 := (hd.out 8 (mem_of (by kernel_rfl)) (by decide) (by kernel_rfl)).trans hx8.out
    go_wp2_with fail
    refine Onward.mk (hK ?val1_9 _ _ (fun h => by cases h) ?eqA (Spares.refl _) (fun iv' _ _ => ?ja))
    case eqA => first | rfl | (simp only [puts, h8]; rfl)
    case ja => exact hx9.out.symm
   ·
    have h9 := (hd.out 9 (mem_of (by kernel_rfl)) (by decide) (by kernel_rfl)).trans hx9.out
    go_wp2_with fail
    refine Onward.mk (hK ?val1_10 _ _ (fun h => by cases h) ?eqA (Spares.refl _) (fun iv' _ _ => ?ja))
    case eqA => first | rfl | (simp only [puts, h9]; rfl)
    case ja => exact hx10.out.symm
   ·
    have h10 := (hd.out 10 (mem_of (by kernel_rfl)) (by decide) (by kernel_rfl)).trans hx10.out
    go_wp2_with fail
    refine Onward.mk (hK ?val1_11 _ _ (fun h => by cases h) ?eqA (Spares.refl _) (fun iv' _ _ => ?ja))
    case eqA => first | rfl | (simp only [puts, h10]; rfl)
    case ja => exact hx11.out.symm
   ·
    have h11 := (hd.out 11 (mem_of (by kernel_rfl)) (by decide) (by kernel_rfl)).trans hx11.out
    go_wp2_with fail
    refine Onward.mk (hK ?val1_12 _ _ (fun h => by cases h) ?eqA (Spares.refl _) (fun iv' _ _ => ?ja))
    case eqA => first | rfl | (simp only [puts, h11]; rfl)
    case ja => exact hx12.out.symm
   ·
    have h12 := (hd.out 12 (mem_of (by kernel_rfl)) (by decide) (by kernel_rfl)).trans hx12.out
    go_wp2_with fail
    refine (ih _ hsy _ _ _ _ (Nat.le_refl _) (hbt.below hB) hyt hszy).mono ?_
    rintro e w2 ⟨rfl, hb⟩
    go_wp2_with fail
    exact Onward.mk (hK (.string (bs y.text)) _ _ (fun h => by cases h) (by first | rfl | (simp only [puts, h12])) (Spares.of_below hb) (fun iv' _ _ => rfl))
   ·
    have h7 : vs 7 = .string (bs z2) := hd.out 7 (mem_of (by kernel_rfl)) (by decide) (by kernel_rfl)
    have h13 : vs 13 = .string (bs y.text) := hd.out 13 (mem_of (by kernel_rfl)) (by decide) (by kernel_rfl)
    go_wp2_with fail
    exact Onward.mk (hK (.string (bs z3)) _ _ (fun h => by cases h) (by first | rfl | (simp only [puts, h7, h13])) (Spares.refl _) (fun iv' _ _ => rfl))
   ·
    have h14 : vs 14 = .string (bs z3) := hd.out 14 (mem_of (by kernel_rfl)) (by decide) (by kernel_rfl)
    go_wp2_with fail
    exact Onward.mk (hK (.string (bs z4)) _ _ (fun h => by cases h) (by first | rfl | (simp only [puts, h14])) (Spares.refl _) (fun iv' _ _ => rfl))
   ·
    have h15 : vs 15 = .string (bs z4) := hd.out 15 (mem_of (by kernel_rfl)) (by decide) (by kernel_rfl)
    go_wp2_with fail
    exact Onward.mk (hK (.string (bs z4)) _ _ (fun h => by cases h) (by first | rfl | (simp only [puts, h15])) (Spares.refl _) (fun iv' _ _ => rfl))
  case hQ =>
   intro iv vs wx hB hSp hd he hbd hsep
   have hzB := hB.size
   have h0 := (hd.out 0 (mem_of (by kernel_rfl)) (not_eaten (by kernel_rfl))).trans hx0.out
   have h1 := (hd.out 1 (mem_of (by kernel_rfl)) (not_eaten (by kernel_rfl))).trans hx1.out
   have h2 := (hd.out 2 (mem_of (by kernel_rfl)) (not_eaten (by kernel_rfl))).trans hx2.out
   have h3 := (hd.out 3 (mem_of (by kernel_rfl)) (not_eaten (by kernel_rfl))).trans hx3.out
   have h4 := (hd.out 4 (mem_of (by kernel_rfl)) (not_eaten (by kernel_rfl))).trans hx4.out
   have h5 : vs 5 = .string (bs x.text) := hd.out 5 (mem_of (by kernel_rfl)) (not_eaten (by kernel_rfl))
   have h6 : vs 6 = .string (bs z1) := hd.out 6 (mem_of (by kernel_rfl)) (not_eaten (by kernel_rfl))
   have h7 : vs 7 = .string (bs z2) := hd.out 7 (mem_of (by kernel_rfl)) (not_eaten (by kernel_rfl))
   have h8 := (hd.out 8 (mem_of (by kernel_rfl)) (not_eaten (by kernel_rfl))).trans hx8.out
   have h9 := (hd.out 9 (mem_of (by kernel_rfl)) (not_eaten (by kernel_rfl))).trans hx9.out
   have h10 := (hd.out 10 (mem_of (by kernel_rfl)) (not_eaten (by kernel_rfl))).trans hx10.out
   have h11 := (hd.out 11 (mem_of (by kernel_rfl)) (not_eaten (by kernel_rfl))).trans hx11.out
   have h12 := (hd.out 12 (mem_of (by kernel_rfl)) (not_eaten (by kernel_rfl))).trans hx12.out
   have h13 : vs 13 = .string (bs y.text) := hd.out 13 (mem_of (by kernel_rfl)) (not_eaten (by kernel_rfl))
   have h14 : vs 14 = .string (bs z3) := hd.out 14 (mem_of (by kernel_rfl)) (not_eaten (by kernel_rfl))
   have h15 : vs 15 = .string (bs z4) := hd.out 15 (mem_of (by kernel_rfl)) (not_eaten (by kernel_rfl))
   have h16 : vs 16 = .string (bs z4) := hd.out 16 (mem_of (by kernel_rfl)) (not_eaten (by kernel_rfl))
   simp only [putFrom, puts]
   clear hd he hbd hsep
   go_wp2_with fail
   go_ret
   exact ⟨congrArg Ending.returned h16, hB⟩
 ·
  obtain ⟨x, y, rfl⟩ := two_kids hk (by omega)
  have hx : [x, y][0]? = some x := rfl
  have hy : [x, y][1]? = some y := rfl
  obtain ⟨b', o', rfl⟩ := kid_some hr (by simp)
  have hxt : x.tree tm am = true := Ex.treeL_mem htl (by simp)
  have hyt : y.tree tm am = true := Ex.treeL_mem htl (by simp)
  have bx := text_bound tm am ht ha _ x (Nat.le_refl _) hxt
  have bY := text_bound tm am ht ha _ y (Nat.le_refl _) hyt
  obtain ⟨hbl, s', c', k0, k1, k2, kr⟩ := kid_in hr hx
  obtain ⟨-, s2, c2, q0, q1, q2, qr⟩ := kid_in hr hy
  simp only [Nat.zero_mul, Nat.add_zero] at k0 k1 k2
  simp only [Nat.one_mul] at q0 q1 q2
  have hat : ExAt w b' o' x := ⟨k0, k1, s', c', k2, kr⟩
  have hbt : ExAt w b' (o' + 3) y := ⟨q0, q1, s2, c2, q2, qr⟩
  have hsx : x.size < N := by rw [Ex.size_eq] at hN; simp only [Ex.kids, Ex.sizeL] at hN; omega
  have hsy : y.size < N := by rw [Ex.size_eq] at hN; simp only [Ex.kids, Ex.sizeL] at hN; omega
  have hszx : x.size ≤ 1000000 := by rw [Ex.size_eq] at hsz0; simp only [Ex.kids, Ex.sizeL] at hsz0; omega
  have hszy : y.size ≤ 1000000 := by rw [Ex.size_eq] at hsz0; simp only [Ex.kids, Ex.sizeL] at hsz0; omega
  obtain ⟨z1, Hz1, Hc1⟩ := cat_l (P := Tryz.prog) (s := { data := #[40] }) [40] x.text rfl (by simp; omega)
  have l1 : z1.length ≤ 10000000 := by rw [Hz1.out]; simp; omega
  obtain ⟨z2, Hz2, Hc2⟩ := cat_r (P := Tryz.prog) (s := { data := #[32] }) z1 [32] rfl (by simp; omega)
  have l2 : z2.length ≤ 10000010 := by rw [Hz2.out]; simp; omega
  obtain ⟨z3, Hz3, Hc3⟩ := cat_2 (P := Tryz.prog) z2 y.text (by omega)
  have l3 : z3.length ≤ 100000000 := by rw [Hz3.out]; simp; omega
  obtain ⟨z4, Hz4, Hc4⟩ := cat_r (P := Tryz.prog) (s := { data := #[41] }) z3 [41] rfl (by simp; omega)
  have e0 : Ex.text (.mk 7 n [x, y]) = z4 := by rw [Hz4.out, Hz3.out, Hz2.out, Hz1.out]; simp [Ex.text, texC, Ex.textL]
  rw [e0]
  clear hk hnum htl hc htr hx hy k0 k1 k2 q0 q1 q2 kr qr e0 bx bY l1 l2 l3
  go_enter Tryz.func102, Tryz.ntmps102
  go_wp2_with fail
  obtain ⟨x0, hx0⟩ := mkval ?a2_0
  obtain ⟨x1, hx1⟩ := mkval ?a2_1
  obtain ⟨x2, hx2⟩ := mkval ?a2_2
  obtain ⟨x3, hx3⟩ := mkval ?a2_3
  obtain ⟨x4, hx4⟩ := mkval ?a2_4
  obtain ⟨x8, hx8⟩ := mkval ?a2_8
  obtain ⟨x9, hx9⟩ := mkval ?a2_9
  obtain ⟨x10, hx10⟩ := mkval ?a2_10
  obtain ⟨x11, hx11⟩ := mkval ?a2_11
  obtain ⟨x12, hx12⟩ := mkval ?a2_12
  refine region_rs [] [] (fun (_ _ : Nat) => False) (w.heap.size) (fun i iv vs wx => match i with
   | 0 => vs 0 = x0
   | 1 => vs 1 = x1
   | 2 => vs 2 = x2
   | 3 => vs 3 = x3
   | 4 => vs 4 = x4
   | 5 => vs 5 = .string (bs x.text)
   | 6 => vs 6 = .string (bs z1)
   | 7 => vs 7 = .string (bs z2)
   | 8 => vs 8 = x8
   | 9 => vs 9 = x9
   | 10 => vs 10 = x10
   | 11 => vs 11 = x11
   | 12 => vs 12 = x12
   | 13 => vs 13 = .string (bs y.text)
   | 14 => vs 14 = .string (bs z3)
   | 15 => vs 15 = .string (bs z4)
   | 16 => vs 16 = .string (bs z4)
   | _ => True) (fun i iv vs => match i with
   | 0 => vs 0 = x0
   | 1 => vs 1 = x1
   | 2 => vs 2 = x2
   | 3 => vs 3 = x3
   | 4 => vs 4 = x4
   | 5 => vs 5 = .string (bs x.text)
   | 6 => vs 6 = .string (bs z1)
   | 7 => vs 7 = .string (bs z2)
   | 8 => vs 8 = x8
   | 9 => vs 9 = x9
   | 10 => vs 10 = x10
   | 11 => vs 11 = x11
   | 12 => vs 12 = x12
   | 13 => vs 13 = .string (bs y.text)
   | 14 => vs 14 = .string (bs z3)
   | 15 => vs 15 = .string (bs z4)
   | 16 => vs 16 = .string (bs z4)
   | _ => True) (by kernel_rfl) (by kernel_rfl) [0, 1, 2, 3, 4, 5, 6, 7, 8, 9, 10, 11, 12, 13, 14, 15, 16] (by kernel_rfl) ?hbase ?hGb ?hG ?hJ ?hE ?hEE ?hstep ?hQ
  case hbase => first | exact Nat.le_refl _ | omega | (simp; omega)
  case hGb =>
   exact fun _ _ h => h.elim
  case hG =>
   exact fun _ _ _ h => h.elim
  case hJ =>
   intro i hi iv iv' vs vs' wx wx' ha hv hz hk hj
   simp only [List.mem_cons, List.not_mem_nil, or_false] at hi
   rcases hi with rfl | rfl | rfl | rfl | rfl | rfl | rfl | rfl | rfl | rfl | rfl | rfl | rfl | rfl | rfl | rfl | rfl
   ·
    exact (hv.out 0 (mem_of (by kernel_rfl))).symm.trans hj
   ·
    exact (hv.out 1 (mem_of (by kernel_rfl))).symm.trans hj
   ·
    exact (hv.out 2 (mem_of (by kernel_rfl))).symm.trans hj
   ·
    exact (hv.out 3 (mem_of (by kernel_rfl))).symm.trans hj
   ·
    exact (hv.out 4 (mem_of (by kernel_rfl))).symm.trans hj
   ·
    exact (hv.out 5 (mem_of (by kernel_rfl))).symm.trans hj
   ·
    exact (hv.out 6 (mem_of (by kernel_rfl))).symm.trans hj
   ·
    exact (hv.out 7 (mem_of (by kernel_rfl))).symm.trans hj
   ·
    exact (hv.out 8 (mem_of (by kernel_rfl))).symm.trans hj
   ·
    exact (hv.out 9 (mem_of (by kernel_rfl))).symm.trans hj
   ·
    exact (hv.out 10 (mem_of (by kernel_rfl))).symm.trans hj
   ·
    exact (hv.out 11 (mem_of (by kernel_rfl))).symm.trans hj
   ·
    exact (hv.out 12 (mem_of (by kernel_rfl))).symm.trans hj
   ·
    exact (hv.out 13 (mem_of (by kernel_rfl))).symm.trans hj
   ·
    exact (hv.out 14 (mem_of (by kernel_rfl))).symm.trans hj
   ·
    exact (hv.out 15 (mem_of (by kernel_rfl))).symm.trans hj
   ·
    exact (hv.out 16 (mem_of (by kernel_rfl))).symm.trans hj
  case hE =>
   intro i hi iv vs wx hj
   simp only [List.mem_cons, List.not_mem_nil, or_false] at hi
   rcases hi with rfl | rfl | rfl | rfl | rfl | rfl | rfl | rfl | rfl | rfl | rfl | rfl | rfl | rfl | rfl | rfl | rfl
   ·
    exact hj
   ·
    exact hj
   ·
    exact hj
   ·
    exact hj
   ·
    exact hj
   ·
    exact hj
   ·
    exact hj
   ·
    exact hj
   ·
    exact hj
   ·
    exact hj
   ·
    exact hj
   ·
    exact hj
   ·
    exact hj
   ·
    exact hj
   ·
    exact hj
   ·
    exact hj
   ·
    exact hj
  case hEE =>
   intro i hi iv iv' vs vs' ha hv hj
   simp only [List.mem_cons, List.not_mem_nil, or_false] at hi
   rcases hi with rfl | rfl | rfl | rfl | rfl | rfl | rfl | rfl | rfl | rfl | rfl | rfl | rfl | rfl | rfl | rfl | rfl
   ·
    exact (hv.out 0 (mem_of (by kernel_rfl))).symm.trans hj
   ·
    exact (hv.out 1 (mem_of (by kernel_rfl))).symm.trans hj
   ·
    exact (hv.out 2 (mem_of (by kernel_rfl))).symm.trans hj
   ·
    exact (hv.out 3 (mem_of (by kernel_rfl))).symm.trans hj
   ·
    exact (hv.out 4 (mem_of (by kernel_rfl))).symm.trans hj
   ·
    exact (hv.out 5 (mem_of (by kernel_rfl))).symm.trans hj
   ·
    exact (hv.out 6 (mem_of (by kernel_rfl))).symm.trans hj
   ·
    exact (hv.out 7 (mem_of (by kernel_rfl))).symm.trans hj
   ·
    exact (hv.out 8 (mem_of (by kernel_rfl))).symm.trans hj
   ·
    exact (hv.out 9 (mem_of (by kernel_rfl))).symm.trans hj
   ·
    exact (hv.out 10 (mem_of (by kernel_rfl))).symm.trans hj
   ·
    exact (hv.out 11 (mem_of (by kernel_rfl))).symm.trans hj
   ·
    exact (hv.out 12 (mem_of (by kernel_rfl))).symm.trans hj
   ·
    exact (hv.out 13 (mem_of (by kernel_rfl))).symm.trans hj
   ·
    exact (hv.out 14 (mem_of (by kernel_rfl))).symm.trans hj
   ·
    exact (hv.out 15 (mem_of (by kernel_rfl))).symm.trans hj
   ·
    exact (hv.out 16 (mem_of (by kernel_rfl))).symm.trans hj
  case hstep =>
   intro i hi opr ho iv vs w1 hB hS hSo hd he hbd hsep hun K hK
   simp only [List.mem_cons, List.not_mem_nil, or_false] at hi
   have hzB := hB.size
   have c2 := (hB.cell (p := ⟨b, o + 2, none⟩) hbl0).trans g2
   generalize hA : putFrom _ 0 vs _ = A at hK ⊢
   simp only [putFrom, puts] at hA
   rcases hi with rfl | rfl | rfl | rfl | rfl | rfl | rfl | rfl | rfl | rfl | rfl | rfl | rfl | rfl | rfl | rfl | rfl
   all_goals
    simp at ho
    subst ho
    subst hA
   ·
    go_wp2_with fail
    refine Onward.mk (hK ?val2_0 _ _ (fun h => by cases h) ?eqA (Spares.refl _) (fun iv' _ _ => ?ja))
    case eqA => first | rfl | (simp only [puts]; rfl)
    case ja => exact hx0.out.symm
   ·
    have h0 := (hd.out 0 (mem_of (by kernel_rfl)) (by decide) (by kernel_rfl)).trans hx0.out
    go_wp2_with fail
    refine Onward.mk (hK ?val2_1 _ _ (fun h => by cases h) ?eqA (Spares.refl _) (fun iv' _ _ => ?ja))
    case eqA => first | rfl | (simp only [puts, h0]; rfl)
    case ja => exact hx1.out.symm
   ·
    have h1 := (hd.out 1 (mem_of (by kernel_rfl)) (by decide) (by kernel_rfl)).trans hx1.out
    go_wp2_with fail
    refine Onward.mk (hK ?val2_2 _ _ (fun h => by cases h) ?eqA (Spares.refl _) (fun iv' _ _ => ?ja))
    case eqA => first | rfl | (simp only [puts, h1]; rfl)
    case ja => exact hx2.out.symm
   ·
    have h2 := (hd.out 2 (mem_of (by kernel_rfl)) (by decide) (by kernel_rfl)).trans hx2.out
    go_wp2_with fail
    refine Onward.mk (hK ?val2_3 _ _ (fun h => by cases h) ?eqA (Spares.refl _) (fun iv' _ _ => ?ja))
    case eqA => first | rfl | (simp only [puts, h2]; rfl)
    case ja => exact hx3.out.symm
   ·
    have h3 := (hd.out 3 (mem_of (by kernel_rfl)) (by decide) (by kernel_rfl)).trans hx3.out
    go_wp2_with fail
    refine Onward.mk (hK ?val2_4 _ _ (fun h => by cases h) ?eqA (Spares.refl _) (fun iv' _ _ => ?ja))
    case eqA => first | rfl | (simp only [puts, h3]; rfl)
    case ja => exact hx4.out.symm
   ·
    have h4 := (hd.out 4 (mem_of (by kernel_rfl)) (by decide) (by kernel_rfl)).trans hx4.out
    go_wp2_with fail
    refine (ih _ hsx _ _ _ _ (Nat.le_refl _) (hat.below hB) hxt hszx).mono ?_
    rintro e w2 ⟨rfl, hb⟩
    go_wp2_with fail
    exact Onward.mk (hK (.string (bs x.text)) _ _ (fun h => by cases h) (by first | rfl | (simp only [puts, h4])) (Spares.of_below hb) (fun iv' _ _ => rfl))
   ·
    have h5 : vs 5 = .string (bs x.text) := hd.out 5 (mem_of (by kernel_rfl)) (by decide) (by kernel_rfl)
    go_wp2_with fail
    exact Onward.mk (hK (.string (bs z1)) _ _ (fun h => by cases h) (by first | rfl | (simp only [puts, h5])) (Spares.refl _) (fun iv' _ _ => rfl))
   ·
    have h6 : vs 6 = .string (bs z1) := hd.out 6 (mem_of (by kernel_rfl)) (by decide) (by kernel_rfl)
    go_wp2_with fail
    exact Onward.mk (hK (.string (bs z2)) _ _ (fun h => by cases h) (by first | rfl | (simp only [puts, h6])) (Spares.refl _) (fun iv' _ _ => rfl))
   ·
    go_wp2_with fail
    refine Onward.mk (hK ?val2_8 _ _ (fun h => by cases h) ?eqA (Spares.refl _) (fun iv' _ _ => ?ja))
    case eqA => first | rfl | (simp only [puts]; rfl)
    case ja => exact hx8.out.symm
   ·
    have h8 := (hd.out 8 (mem_of (by kernel_rfl)) (by decide) (by kernel_rfl)).trans hx8.out
    go_wp2_with fail
    refine Onward.mk (hK ?val2_9 _ _ (fun h => by cases h) ?eqA (Spares.refl _) (fun iv' _ _ => ?ja))
    case eqA => first | rfl | (simp only [puts, h8]; rfl)
    case ja => exact hx9.out.symm
   ·
    have h9 := (hd.out 9 (mem_of (by kernel_rfl)) (by decide) (by kernel_rfl)).trans hx9.out
    go_wp2_with fail
    refine Onward.mk (hK ?val2_10 _ _ (fun h => by cases h) ?eqA (Spares.refl _) (fun iv' _ _ => ?ja))
    case eqA => first | rfl | (simp only [puts, h9]; rfl)
    case ja => exact hx10.out.symm
   ·
    have h10 := (hd.out 10 (mem_of (by kernel_rfl)) (by decide) (by kernel_rfl)).trans hx10.out
    go_wp2_with fail
    refine Onward.mk (hK ?val2_11 _ _ (fun h => by cases h) ?eqA (Spares.refl _) (fun iv' _ _ => ?ja))
    case eqA => first | rfl | (simp only [puts, h10]; rfl)
    case ja => exact hx11.out.symm
   ·
    have h11 := (hd.out 11 (mem_of (by kernel_rfl)) (by decide) (by kernel_rfl)).trans hx11.out
    go_wp2_with fail
    refine Onward.mk (hK ?val2_12 _ _ (fun h => by cases h) ?eqA (Spares.refl _) (fun iv' _ _ => ?ja))
    case eqA => first | rfl | (simp only [puts, h11]; rfl)
    case ja => exact hx12.out.symm
   ·
    have h12 := (hd.out 12 (mem_of (by kernel_rfl)) (by decide) (by kernel_rfl)).trans hx12.out
    go_wp2_with fail
    refine (ih _ hsy _ _ _ _ (Nat.le_refl _) (hbt.below hB) hyt hszy).mono ?_
    rintro e w2 ⟨rfl, hb⟩
    go_wp2_with fail
    exact Onward.mk (hK (.string (bs y.text)) _ _ (fun h => by cases h) (by first | rfl | (simp only [puts, h12])) (Spares.of_below hb) (fun iv' _ _ => rfl))
   ·
    have h7 : vs 7 = .string (bs z2) := hd.out 7 (mem_of (by kernel_rfl)) (by decide) (by kernel_rfl)
    have h13 : vs 13 = .string (bs y.text) := hd.out 13 (mem_of (by kernel_rfl)) (by decide) (by kernel_rfl)
    go_wp2_with fail
    exact Onward.mk (hK (.string (bs z3)) _ _ (fun h => by cases h) (by first | rfl | (simp only [puts, h7, h13])) (Spares.refl _) (fun iv' _ _ => rfl))
   ·
    have h14 : vs 14 = .string (bs z3) := hd.out 14 (mem_of (by kernel_rfl)) (by decide) (by kernel_rfl)
    go_wp2_with fail
    exact Onward.mk (hK (.string (bs z4)) _ _ (fun h => by cases h) (by first | rfl | (simp only [puts, h14])) (Spares.refl _) (fun iv' _ _ => rfl))
   ·
    have h15 : vs 15 = .string (bs z4) := hd.out 15 (mem_of (by kernel_rfl)) (by decide) (by kernel_rfl)
    go_wp2_with fail
    exact Onward.mk (hK (.string (bs z4)) _ _ (fun h => by cases h) (by first | rfl | (simp only [puts, h15])) (Spares.refl _) (fun iv' _ _ => rfl))
  case hQ =>
   intro iv vs wx hB hSp hd he hbd hsep
   have hzB := hB.size
   have h0 := (hd.out 0 (mem_of (by kernel_rfl)) (not_eaten (by kernel_rfl))).trans hx0.out
   have h1 := (hd.out 1 (mem_of (by kernel_rfl)) (not_eaten (by kernel_rfl))).trans hx1.out
   have h2 := (hd.out 2 (mem_of (by kernel_rfl)) (not_eaten (by kernel_rfl))).trans hx2.out
   have h3 := (hd.out 3 (mem_of (by kernel_rfl)) (not_eaten (by kernel_rfl))).trans hx3.out
   have h4 := (hd.out 4 (mem_of (by kernel_rfl)) (not_eaten (by kernel_rfl))).trans hx4.out
   have h5 : vs 5 = .string (bs x.text) := hd.out 5 (mem_of (by kernel_rfl)) (not_eaten (by kernel_rfl))
   have h6 : vs 6 = .string (bs z1) := hd.out 6 (mem_of (by kernel_rfl)) (not_eaten (by kernel_rfl))
   have h7 : vs 7 = .string (bs z2) := hd.out 7 (mem_of (by kernel_rfl)) (not_eaten (by kernel_rfl))
   have h8 := (hd.out 8 (mem_of (by kernel_rfl)) (not_eaten (by kernel_rfl))).trans hx8.out
   have h9 := (hd.out 9 (mem_of (by kernel_rfl)) (not_eaten (by kernel_rfl))).trans hx9.out
   have h10 := (hd.out 10 (mem_of (by kernel_rfl)) (not_eaten (by kernel_rfl))).trans hx10.out
   have h11 := (hd.out 11 (mem_of (by kernel_rfl)) (not_eaten (by kernel_rfl))).trans hx11.out
   have h12 := (hd.out 12 (mem_of (by kernel_rfl)) (not_eaten (by kernel_rfl))).trans hx12.out
   have h13 : vs 13 = .string (bs y.text) := hd.out 13 (mem_of (by kernel_rfl)) (not_eaten (by kernel_rfl))
   have h14 : vs 14 = .string (bs z3) := hd.out 14 (mem_of (by kernel_rfl)) (not_eaten (by kernel_rfl))
   have h15 : vs 15 = .string (bs z4) := hd.out 15 (mem_of (by kernel_rfl)) (not_eaten (by kernel_rfl))
   have h16 : vs 16 = .string (bs z4) := hd.out 16 (mem_of (by kernel_rfl)) (not_eaten (by kernel_rfl))
   simp only [putFrom, puts]
   clear hd he hbd hsep
   go_wp2_with fail
   go_ret
   exact ⟨congrArg Ending.returned h16, hB⟩
 ·
  obtain ⟨x, rfl⟩ := one_kid hk (by omega)
  have hx : [x][0]? = some x := rfl
  obtain ⟨b', o', rfl⟩ := kid_some hr (by simp)
  have hxt : x.tree tm am = true := Ex.treeL_mem htl (by simp)
  have bx := text_bound tm am ht ha _ x (Nat.le_refl _) hxt
  obtain ⟨hbl, s', c', k0, k1, k2, kr⟩ := kid_in hr hx
  simp only [Nat.zero_mul, Nat.add_zero] at k0 k1 k2
  have hat : ExAt w b' o' x := ⟨k0, k1, s', c', k2, kr⟩
  have hsx : x.size < N := by rw [Ex.size_eq] at hN; simp only [Ex.kids, Ex.sizeL] at hN; omega
  have hsz : x.size ≤ 1000000 := by rw [Ex.size_eq] at hsz0; simp only [Ex.kids, Ex.sizeL] at hsz0; omega
  obtain ⟨z, Hz, Hc⟩ := cat_r (P := Tryz.prog) (s := { data := #[42] }) x.text [42] rfl (by simp; omega)
  have e0 : Ex.text (.mk 8 n [x]) = z := by rw [Hz.out]; simp [Ex.text, texC, Ex.textL]
  rw [e0]
  clear hk hnum htl hc htr hx k0 k1 k2 kr e0
  go_enter Tryz.func102, Tryz.ntmps102
  go_wp2_with fail
  refine (ih _ hsx _ _ _ _ (Nat.le_refl _) hat hxt hsz).mono ?_
  rintro e w2 ⟨rfl, hb⟩
  go_wp2_with fail
  go_ret
  exact ⟨rfl, hb⟩
theorem okB_bd {t a : Int} {e : Ex} (h : okB t a e = true) : t ≤ 3 ∧ a ≤ 5 ∧ e.size ≤ 200 := by
 unfold okB at h
 simp only [Bool.and_eq_true, decide_eq_true_eq] at h
 obtain ⟨h1, h2, -⟩ := h
 have := sigB_bd h1
 omega
end Go.Proofs.YtcokljhamhgelaaGreatDoor
