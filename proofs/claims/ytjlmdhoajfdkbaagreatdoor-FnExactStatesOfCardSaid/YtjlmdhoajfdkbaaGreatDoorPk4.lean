/-
  Parts of a proof, joined: TextI, Map, SumI, TidyV, Size, New6, DerI. No condition.
-/
import Derived.Lib.AppendStr
import Derived.WalkKit
import Derived.ProofKit
import Derived.OpenShut
import Derived.ChangeSame
import Derived.Carry
import Derived.Deep.Slices
import Derived.Deep.LoopGhost
import Derived.Deep.DeepFit
import Derived.Deep.DeepMust
import Derived.Deep.RegionWith
import Derived.Deep.RegionHeld3
import Derived.Deep.QuietTactic
import Derived.BigQuiet
import Derived.WalkSpells
import Derived.WalkLawsBesides
import Derived.WalkSmall
import Derived.Lib.Hide
import Derived.Lib.QuietBelow
import Derived.Deep.CutRange
import Derived.Shelf.Strings.Builder1
import Derived.Shelf.Small.Bits
import Derived.Shelf.Small.Strs
import Derived.Shelf.Strings.BuilderF
import Derived.Shelf.Strings.BuilderK
import Derived.Shelf.Strconv.Itoa0
import Derived.Shelf.Strconv.Itoa1
import Derived.Shelf.LaysM
import Derived.Shelf.Strconv.Itoa2
import Derived.Shelf.Strconv.Itoa3
import Derived.Shelf.Strconv.Itoa4
import Derived.Shelf.Strings.BuilderCap
import Derived.Test.YtjlmdhoajfdkbaaGreatDoorProg
import Derived.Maps.OwnOps
import Derived.DeepKeys4
import Derived.Deep.AppendLies
import Derived.Shelf.SlGeneric
import Derived.Shelf.SlSortCmp.WholeK
import Derived.Ground.SlsfProg
import Derived.Test.YtjlmdhoajfdkbaaGreatDoorPk0
import Derived.Test.YtjlmdhoajfdkbaaGreatDoorPk1
import Derived.Test.YtjlmdhoajfdkbaaGreatDoorPk2
import Derived.Test.YtjlmdhoajfdkbaaGreatDoorPk3
namespace Go.Proofs.YtjlmdhoajfdkbaaGreatDoor
set_option linter.unusedVariables false
set_option linter.unusedSimpArgs false
open Go.ChangeShapes Go.WideShapes Go.ChangeAt Go.RowKit Go.Sort
set_option maxHeartbeats 2000000 in
theorem textOf_i {tm am k n : Int} {ks : List Ex} {s : Option Addr} {c : Nat} {w : World} (hr : Rd w (kidsD ks) (.slice s ks.length c)) (ht : tm ≤ 8) (ha : am ≤ 8) (htr : Ex.tree tm am (.mk k n ks) = true) (hsz : Ex.sizeL ks ≤ 1000000) :
    Calls Tryz.prog 134 #[.agg #[.int .i64 k, .int .i64 n, .slice s ks.length c]] w fun e w' => e = .returned (.string (bs (Ex.text (.mk k n ks)))) ∧ Below w.heap.size w w' := by
  have HW := Lib.hid (writeExpr_all w)
  go_enter Tryz.func134, Tryz.ntmps134
  go_wp2_with fail
  have hm := BldAt.made (w := w.alloc (.cells #[.int .i64 k, .int .i64 n, .slice s ks.length c] 30)) (B := w.heap.size + 1) (by simp)
  have h0 : Below w.heap.size w ((w.alloc (.cells #[.int .i64 k, .int .i64 n, .slice s ks.length c] 30)).alloc (.cells #[.pointer none, .slice none 0 0] 189)) := Below.alloc (Below.alloc (Below.refl _ _) (Nat.le_refl _) _) (by simp) _
  have hz : ((w.alloc (.cells #[.int .i64 k, .int .i64 n, .slice s ks.length c] 30)).alloc (.cells #[.pointer none, .slice none 0 0] 189)).heap.size = w.heap.size + 2 := by simp
  have hz1 : (w.alloc (.cells #[.int .i64 k, .int .i64 n, .slice s ks.length c] 30)).heap.size = w.heap.size + 1 := by simp
  rw [hz1] at hm
  generalize (w.alloc (.cells #[.int .i64 k, .int .i64 n, .slice s ks.length c] 30)).alloc (.cells #[.pointer none, .slice none 0 0] 189) = w2 at hm h0 hz ⊢
  clear hz1
  refine (HW.out (w.heap.size + 1) _ (by omega) tm am ht ha _ k n ks s c _ [] w2 (Nat.le_refl _) hr htr h0 hm (by omega) (by simp; omega)).mono ?_
  rintro e w3 ⟨rfl, hb, hs⟩
  have hz3 := hs.size
  have h3 : Below w.heap.size w w3 := h0.trans (hs.below (by omega) (fun x hx => by omega))
  clear h0 hm HW
  go_wp2_with fail
  refine (String_i hb (by omega)).mono ?_
  rintro e w4 ⟨rfl, hb4⟩
  have h4 : Below w.heap.size w w4 := h3.trans (hb4.mono (by omega))
  clear hb
  go_wp2_with fail
  go_ret
  exact ⟨by simp, h4⟩
theorem cat_l {P : Program} {s : ByteArray} (a b : List UInt8) (hs : s = bs a) (h : a.length + b.length ≤ 1000000000) : ∃ z, Hid (z = a ++ b) ∧ ∀ w, (Op.stringOp .add s (bs b)).run P w = .ok (.string (bs z)) w := by
  subst hs
  exact ⟨_, rfl, run_cat a b h⟩
theorem cat_r {P : Program} {s : ByteArray} (a b : List UInt8) (hs : s = bs b) (h : a.length + b.length ≤ 1000000000) : ∃ z, Hid (z = a ++ b) ∧ ∀ w, (Op.stringOp .add (bs a) s).run P w = .ok (.string (bs z)) w := by
  subst hs
  exact ⟨_, rfl, run_cat a b h⟩
theorem cat_2 {P : Program} (a b : List UInt8) (h : a.length + b.length ≤ 1000000000) : ∃ z, Hid (z = a ++ b) ∧ ∀ w, (Op.stringOp .add (bs a) (bs b)).run P w = .ok (.string (bs z)) w := ⟨_, rfl, run_cat a b h⟩
set_option maxHeartbeats 16000000 in
theorem l01Text_all (tm am : Int) (ht : tm ≤ 8) (ha : am ≤ 8) (N : Nat) : ∀ (e : Ex) (b o : Nat) (w : World), e.size ≤ N → ExAt w b o e → e.tree tm am = true → e.size ≤ 1000000 →
    Calls Tryz.prog 182 #[.pointer (some ⟨b, o, none⟩)] w fun f w' => f = .returned (.string (bs e.text)) ∧ Below w.heap.size w w' := by
  induction N using Nat.strongRecOn with
  | _ N ih =>
  intro e b o w hN hr htr hsz0
  obtain ⟨k, n, ks⟩ := e
  have hbl0 : b < w.heap.size := hr.lt
  obtain ⟨g0, g1, s, c, g2, hr⟩ := hr
  simp only [Ex.kind, Ex.num, Ex.kids] at g0 g1 g2 hr
  obtain ⟨hk, hnum, hc, htl⟩ := tree_parts htr
  rcases kind_cases hk with rfl | rfl | rfl | rfl | rfl | rfl | rfl | rfl
  · have e0 : Ex.text (.mk 1 n ks) = [48] := by simp [Ex.text, texC]
    rw [e0]
    clear hk hnum htl hc htr e0
    go_enter Tryz.func182, Tryz.ntmps182
    go_wp2_with fail
    go_ret
    exact ⟨rfl, Below.refl _ _⟩
  · have e0 : Ex.text (.mk 2 n ks) = [49] := by simp [Ex.text, texC]
    rw [e0]
    clear hk hnum htl hc htr e0
    go_enter Tryz.func182, Tryz.ntmps182
    go_wp2_with fail
    go_ret
    exact ⟨rfl, Below.refl _ _⟩
  · obtain ⟨n0, n8⟩ := numB_any (by omega) hnum ht ha
    obtain ⟨m, rfl⟩ : ∃ m : Nat, n = (m : Int) := ⟨n.toNat, by omega⟩
    have hm : m < 10 := by omega
    obtain ⟨z, Hz, Hc⟩ := cat_l (P := Tryz.prog) (s := { data := #[116] }) [116] (Lib.decDigits m) rfl (by rw [digits_one hm]; simp)
    have e0 : Ex.text (.mk 3 m ks) = z := by rw [Hz.out]; simp [Ex.text, texC]
    rw [e0]
    clear hk hnum htl hc htr n0 n8 e0
    go_enter Tryz.func182, Tryz.ntmps182
    go_wp2_with fail
    refine (Decimal_i (n := m) (by omega)).mono ?_
    rintro e w2 ⟨rfl, hb⟩
    go_wp2_with fail
    go_ret
    exact ⟨rfl, hb⟩
  · obtain ⟨n0, n8⟩ := numB_any (by omega) hnum ht ha
    obtain ⟨m, rfl⟩ : ∃ m : Nat, n = (m : Int) := ⟨n.toNat, by omega⟩
    have hm : m < 10 := by omega
    obtain ⟨z, Hz, Hc⟩ := cat_l (P := Tryz.prog) (s := { data := #[97] }) [97] (Lib.decDigits m) rfl (by rw [digits_one hm]; simp)
    have e0 : Ex.text (.mk 4 m ks) = z := by rw [Hz.out]; simp [Ex.text, texC]
    rw [e0]
    clear hk hnum htl hc htr n0 n8 e0
    go_enter Tryz.func182, Tryz.ntmps182
    go_wp2_with fail
    refine (Decimal_i (n := m) (by omega)).mono ?_
    rintro e w2 ⟨rfl, hb⟩
    go_wp2_with fail
    go_ret
    exact ⟨rfl, hb⟩
  · obtain ⟨x, rfl⟩ := one_kid hk (by omega)
    have hx : [x][0]? = some x := rfl
    obtain ⟨b', o', rfl⟩ := kid_some hr (by simp)
    have hxt : x.tree tm am = true := Ex.treeL_mem htl (by simp)
    have bx := text_bound tm am ht ha _ x (Nat.le_refl _) hxt
    obtain ⟨hbl, s', c', k0, k1, k2, kr⟩ := kid_in hr hx
    simp only [Nat.zero_mul, Nat.add_zero] at k0 k1 k2
    have hat : ExAt w b' o' x := ⟨k0, k1, s', c', k2, kr⟩
    have hsx : x.size < N := by rw [Ex.size_eq] at hN; simp only [Ex.kids, Ex.sizeL] at hN; omega
    have hsz : x.size ≤ 1000000 := by rw [Ex.size_eq] at hsz0; simp only [Ex.kids, Ex.sizeL] at hsz0; omega
    obtain ⟨z, Hz, Hc⟩ := cat_l (P := Tryz.prog) (s := { data := #[126] }) [126] x.text rfl (by simp; omega)
    have e0 : Ex.text (.mk 5 n [x]) = z := by rw [Hz.out]; simp [Ex.text, texC, Ex.textL]
    rw [e0]
    clear hk hnum htl hc htr hx k0 k1 k2 kr e0
    go_enter Tryz.func182, Tryz.ntmps182
    go_wp2_with fail
    refine (ih _ hsx _ _ _ _ (Nat.le_refl _) hat hxt hsz).mono ?_
    rintro e w2 ⟨rfl, hb⟩
    go_wp2_with fail
    go_ret
    exact ⟨rfl, hb⟩
  · obtain ⟨x, y, rfl⟩ := two_kids hk (by omega)
    have hx : [x, y][0]? = some x := rfl
    have hy : [x, y][1]? = some y := rfl
    obtain ⟨b', o', rfl⟩ := kid_some hr (by simp)
    have hxt : x.tree tm am = true := Ex.treeL_mem htl (by simp)
    have hyt : y.tree tm am = true := Ex.treeL_mem htl (by simp)
    have bx := text_bound tm am ht ha _ x (Nat.le_refl _) hxt
    have bY := text_bound tm am ht ha _ y (Nat.le_refl _) hyt
    obtain ⟨hbl, s', c', k0, k1, k2, kr⟩ := kid_in hr hx
    obtain ⟨-, s2, c2, q0, q1, q2, qr⟩ := kid_in hr hy
    simp only [Nat.zero_mul, Nat.add_zero] at k0 k1 k2
    simp only [Nat.one_mul] at q0 q1 q2
    have hat : ExAt w b' o' x := ⟨k0, k1, s', c', k2, kr⟩
    have hbt : ExAt w b' (o' + 3) y := ⟨q0, q1, s2, c2, q2, qr⟩
    have hsx : x.size < N := by rw [Ex.size_eq] at hN; simp only [Ex.kids, Ex.sizeL] at hN; omega
    have hsy : y.size < N := by rw [Ex.size_eq] at hN; simp only [Ex.kids, Ex.sizeL] at hN; omega
    have hszx : x.size ≤ 1000000 := by rw [Ex.size_eq] at hsz0; simp only [Ex.kids, Ex.sizeL] at hsz0; omega
    have hszy : y.size ≤ 1000000 := by rw [Ex.size_eq] at hsz0; simp only [Ex.kids, Ex.sizeL] at hsz0; omega
    obtain ⟨z1, Hz1, Hc1⟩ := cat_l (P := Tryz.prog) (s := { data := #[40] }) [40] x.text rfl (by simp; omega)
    have l1 : z1.length ≤ 10000000 := by rw [Hz1.out]; simp; omega
    obtain ⟨z2, Hz2, Hc2⟩ := cat_r (P := Tryz.prog) (s := { data := #[32, 43, 32] }) z1 [32, 43, 32] rfl (by simp; omega)
    have l2 : z2.length ≤ 10000010 := by rw [Hz2.out]; simp; omega
    obtain ⟨z3, Hz3, Hc3⟩ := cat_2 (P := Tryz.prog) z2 y.text (by omega)
    have l3 : z3.length ≤ 100000000 := by rw [Hz3.out]; simp; omega
    obtain ⟨z4, Hz4, Hc4⟩ := cat_r (P := Tryz.prog) (s := { data := #[41] }) z3 [41] rfl (by simp; omega)
    have e0 : Ex.text (.mk 6 n [x, y]) = z4 := by rw [Hz4.out, Hz3.out, Hz2.out, Hz1.out]; simp [Ex.text, texC, Ex.textL]
    rw [e0]
    clear hk hnum htl hc htr hx hy k0 k1 k2 q0 q1 q2 kr qr e0 bx bY l1 l2 l3
    go_enter Tryz.func182, Tryz.ntmps182
    go_wp2_with fail
    obtain ⟨x0, hx0⟩ := mkval ?a1_0
    obtain ⟨x1, hx1⟩ := mkval ?a1_1
    obtain ⟨x2, hx2⟩ := mkval ?a1_2
    obtain ⟨x3, hx3⟩ := mkval ?a1_3
    obtain ⟨x4, hx4⟩ := mkval ?a1_4
    obtain ⟨x8, hx8⟩ := mkval ?a1_8
    obtain ⟨x9, hx9⟩ := mkval ?a1_9
    obtain ⟨x10, hx10⟩ := mkval ?a1_10
    obtain ⟨x11, hx11⟩ := mkval ?a1_11
    obtain ⟨x12, hx12⟩ := mkval ?a1_12
    refine region_rs [] [] (fun _ _ => False) (w.heap.size) (fun i iv vs wx => match i with
      | 0 => vs 0 = x0
      | 1 => vs 1 = x1
      | 2 => vs 2 = x2
      | 3 => vs 3 = x3
      | 4 => vs 4 = x4
      | 5 => vs 5 = .string (bs x.text)
      | 6 => vs 6 = .string (bs z1)
      | 7 => vs 7 = .string (bs z2)
      | 8 => vs 8 = x8
      | 9 => vs 9 = x9
      | 10 => vs 10 = x10
      | 11 => vs 11 = x11
      | 12 => vs 12 = x12
      | 13 => vs 13 = .string (bs y.text)
      | 14 => vs 14 = .string (bs z3)
      | 15 => vs 15 = .string (bs z4)
      | 16 => vs 16 = .string (bs z4)
      | _ => True) (fun i iv vs => match i with
      | 0 => vs 0 = x0
      | 1 => vs 1 = x1
      | 2 => vs 2 = x2
      | 3 => vs 3 = x3
      | 4 => vs 4 = x4
      | 5 => vs 5 = .string (bs x.text)
      | 6 => vs 6 = .string (bs z1)
      | 7 => vs 7 = .string (bs z2)
      | 8 => vs 8 = x8
      | 9 => vs 9 = x9
      | 10 => vs 10 = x10
      | 11 => vs 11 = x11
      | 12 => vs 12 = x12
      | 13 => vs 13 = .string (bs y.text)
      | 14 => vs 14 = .string (bs z3)
      | 15 => vs 15 = .string (bs z4)
      | 16 => vs 16 = .string (bs z4)
      | _ => True) (by kernel_rfl) (by kernel_rfl) [0, 1, 2, 3, 4, 5, 6, 7, 8, 9, 10, 11, 12, 13, 14, 15, 16] (by kernel_rfl) ?hbase ?hGb ?hG ?hJ ?hE ?hEE ?hstep ?hQ
    case hbase => first | exact Nat.le_refl _ | omega | (simp; omega)
    case hGb =>
      exact fun _ _ h => h.elim
    case hG =>
      exact fun _ _ _ h => h.elim
    case hJ =>
      intro i hi iv iv' vs vs' wx wx' ha hv hz hk hj
      simp only [List.mem_cons, List.not_mem_nil, or_false] at hi
      rcases hi with rfl | rfl | rfl | rfl | rfl | rfl | rfl | rfl | rfl | rfl | rfl | rfl | rfl | rfl | rfl | rfl | rfl
      · exact (hv.out 0 (mem_of (by kernel_rfl))).symm.trans hj
      · exact (hv.out 1 (mem_of (by kernel_rfl))).symm.trans hj
      · exact (hv.out 2 (mem_of (by kernel_rfl))).symm.trans hj
      · exact (hv.out 3 (mem_of (by kernel_rfl))).symm.trans hj
      · exact (hv.out 4 (mem_of (by kernel_rfl))).symm.trans hj
      · exact (hv.out 5 (mem_of (by kernel_rfl))).symm.trans hj
      · exact (hv.out 6 (mem_of (by kernel_rfl))).symm.trans hj
      · exact (hv.out 7 (mem_of (by kernel_rfl))).symm.trans hj
      · exact (hv.out 8 (mem_of (by kernel_rfl))).symm.trans hj
      · exact (hv.out 9 (mem_of (by kernel_rfl))).symm.trans hj
      · exact (hv.out 10 (mem_of (by kernel_rfl))).symm.trans hj
      · exact (hv.out 11 (mem_of (by kernel_rfl))).symm.trans hj
      · exact (hv.out 12 (mem_of (by kernel_rfl))).symm.trans hj
      · exact (hv.out 13 (mem_of (by kernel_rfl))).symm.trans hj
      · exact (hv.out 14 (mem_of (by kernel_rfl))).symm.trans hj
      · exact (hv.out 15 (mem_of (by kernel_rfl))).symm.trans hj
      · exact (hv.out 16 (mem_of (by kernel_rfl))).symm.trans hj
    case hE =>
      intro i hi iv vs wx hj
      simp only [List.mem_cons, List.not_mem_nil, or_false] at hi
      rcases hi with rfl | rfl | rfl | rfl | rfl | rfl | rfl | rfl | rfl | rfl | rfl | rfl | rfl | rfl | rfl | rfl | rfl
      · exact hj
      · exact hj
      · exact hj
      · exact hj
      · exact hj
      · exact hj
      · exact hj
      · exact hj
      · exact hj
      · exact hj
      · exact hj
      · exact hj
      · exact hj
      · exact hj
      · exact hj
      · exact hj
      · exact hj
    case hEE =>
      intro i hi iv iv' vs vs' ha hv hj
      simp only [List.mem_cons, List.not_mem_nil, or_false] at hi
      rcases hi with rfl | rfl | rfl | rfl | rfl | rfl | rfl | rfl | rfl | rfl | rfl | rfl | rfl | rfl | rfl | rfl | rfl
      · exact (hv.out 0 (mem_of (by kernel_rfl))).symm.trans hj
      · exact (hv.out 1 (mem_of (by kernel_rfl))).symm.trans hj
      · exact (hv.out 2 (mem_of (by kernel_rfl))).symm.trans hj
      · exact (hv.out 3 (mem_of (by kernel_rfl))).symm.trans hj
      · exact (hv.out 4 (mem_of (by kernel_rfl))).symm.trans hj
      · exact (hv.out 5 (mem_of (by kernel_rfl))).symm.trans hj
      · exact (hv.out 6 (mem_of (by kernel_rfl))).symm.trans hj
      · exact (hv.out 7 (mem_of (by kernel_rfl))).symm.trans hj
      · exact (hv.out 8 (mem_of (by kernel_rfl))).symm.trans hj
      · exact (hv.out 9 (mem_of (by kernel_rfl))).symm.trans hj
      · exact (hv.out 10 (mem_of (by kernel_rfl))).symm.trans hj
      · exact (hv.out 11 (mem_of (by kernel_rfl))).symm.trans hj
      · exact (hv.out 12 (mem_of (by kernel_rfl))).symm.trans hj
      · exact (hv.out 13 (mem_of (by kernel_rfl))).symm.trans hj
      · exact (hv.out 14 (mem_of (by kernel_rfl))).symm.trans hj
      · exact (hv.out 15 (mem_of (by kernel_rfl))).symm.trans hj
      · exact (hv.out 16 (mem_of (by kernel_rfl))).symm.trans hj
    case hstep =>
      intro i hi opr ho iv vs w1 hB hS hSo hd he hbd hsep hun K hK
      simp only [List.mem_cons, List.not_mem_nil, or_false] at hi
      have hzB := hB.size
      have c2 := (hB.cell (p := ⟨b, o + 2, none⟩) hbl0).trans g2
      generalize hA : putFrom _ 0 vs _ = A at hK ⊢
      simp only [putFrom, puts] at hA
      rcases hi with rfl | rfl | rfl | rfl | rfl | rfl | rfl | rfl | rfl | rfl | rfl | rfl | rfl | rfl | rfl | rfl | rfl
      all_goals
        simp at ho
        subst ho
        subst hA
      · go_wp2_with fail
        refine Onward.mk (hK ?val1_0 _ _ (fun h => by cases h) ?eqA (Spares.refl _) (fun iv' _ _ => ?ja))
        case eqA => first | rfl | (simp only [puts]; rfl)
        case ja => exact hx0.out.symm
      · have h0 := (hd.out 0 (mem_of (by kernel_rfl)) (by decide) (by kernel_rfl)).trans hx0.out
        go_wp2_with fail
        refine Onward.mk (hK ?val1_1 _ _ (fun h => by cases h) ?eqA (Spares.refl _) (fun iv' _ _ => ?ja))
        case eqA => first | rfl | (simp only [puts, h0]; rfl)
        case ja => exact hx1.out.symm
      · have h1 := (hd.out 1 (mem_of (by kernel_rfl)) (by decide) (by kernel_rfl)).trans hx1.out
        go_wp2_with fail
        refine Onward.mk (hK ?val1_2 _ _ (fun h => by cases h) ?eqA (Spares.refl _) (fun iv' _ _ => ?ja))
        case eqA => first | rfl | (simp only [puts, h1]; rfl)
        case ja => exact hx2.out.symm
      · have h2 := (hd.out 2 (mem_of (by kernel_rfl)) (by decide) (by kernel_rfl)).trans hx2.out
        go_wp2_with fail
        refine Onward.mk (hK ?val1_3 _ _ (fun h => by cases h) ?eqA (Spares.refl _) (fun iv' _ _ => ?ja))
        case eqA => first | rfl | (simp only [puts, h2]; rfl)
        case ja => exact hx3.out.symm
      · have h3 := (hd.out 3 (mem_of (by kernel_rfl)) (by decide) (by kernel_rfl)).trans hx3.out
        go_wp2_with fail
        refine Onward.mk (hK ?val1_4 _ _ (fun h => by cases h) ?eqA (Spares.refl _) (fun iv' _ _ => ?ja))
        case eqA => first | rfl | (simp only [puts, h3]; rfl)
        case ja => exact hx4.out.symm
      · have h4 := (hd.out 4 (mem_of (by kernel_rfl)) (by decide) (by kernel_rfl)).trans hx4.out
        go_wp2_with fail
        refine (ih _ hsx _ _ _ _ (Nat.le_refl _) (hat.below hB) hxt hszx).mono ?_
        rintro e w2 ⟨rfl, hb⟩
        go_wp2_with fail
        exact Onward.mk (hK (.string (bs x.text)) _ _ (fun h => by cases h) (by first | rfl | (simp only [puts, h4])) (Spares.of_below hb) (fun iv' _ _ => rfl))
      · have h5 : vs 5 = .string (bs x.text) := hd.out 5 (mem_of (by kernel_rfl)) (by decide) (by kernel_rfl)
        go_wp2_with fail
        exact Onward.mk (hK (.string (bs z1)) _ _ (fun h => by cases h) (by first | rfl | (simp only [puts, h5])) (Spares.refl _) (fun iv' _ _ => rfl))
      · have h6 : vs 6 = .string (bs z1) := hd.out 6 (mem_of (by kernel_rfl)) (by decide) (by kernel_rfl)
        go_wp2_with fail
        exact Onward.mk (hK (.string (bs z2)) _ _ (fun h => by cases h) (by first | rfl | (simp only [puts, h6])) (Spares.refl _) (fun iv' _ _ => rfl))
      · go_wp2_with fail
        refine Onward.mk (hK ?val1_8 _ _ (fun h => by cases h) ?eqA (Spares.refl _) (fun iv' _ _ => ?ja))
        case eqA => first | rfl | (simp only [puts]; rfl)
        case ja => exact hx8.out.symm
      · have h8 := (hd.out 8 (mem_of (by kernel_rfl)) (by decide) (by kernel_rfl)).trans hx8.out
        go_wp2_with fail
        refine Onward.mk (hK ?val1_9 _ _ (fun h => by cases h) ?eqA (Spares.refl _) (fun iv' _ _ => ?ja))
        case eqA => first | rfl | (simp only [puts, h8]; rfl)
        case ja => exact hx9.out.symm
      · have h9 := (hd.out 9 (mem_of (by kernel_rfl)) (by decide) (by kernel_rfl)).trans hx9.out
        go_wp2_with fail
        refine Onward.mk (hK ?val1_10 _ _ (fun h => by cases h) ?eqA (Spares.refl _) (fun iv' _ _ => ?ja))
        case eqA => first | rfl | (simp only [puts, h9]; rfl)
        case ja => exact hx10.out.symm
      · have h10 := (hd.out 10 (mem_of (by kernel_rfl)) (by decide) (by kernel_rfl)).trans hx10.out
        go_wp2_with fail
        refine Onward.mk (hK ?val1_11 _ _ (fun h => by cases h) ?eqA (Spares.refl _) (fun iv' _ _ => ?ja))
        case eqA => first | rfl | (simp only [puts, h10]; rfl)
        case ja => exact hx11.out.symm
      · have h11 := (hd.out 11 (mem_of (by kernel_rfl)) (by decide) (by kernel_rfl)).trans hx11.out
        go_wp2_with fail
        refine Onward.mk (hK ?val1_12 _ _ (fun h => by cases h) ?eqA (Spares.refl _) (fun iv' _ _ => ?ja))
        case eqA => first | rfl | (simp only [puts, h11]; rfl)
        case ja => exact hx12.out.symm
      · have h12 := (hd.out 12 (mem_of (by kernel_rfl)) (by decide) (by kernel_rfl)).trans hx12.out
        go_wp2_with fail
        refine (ih _ hsy _ _ _ _ (Nat.le_refl _) (hbt.below hB) hyt hszy).mono ?_
        rintro e w2 ⟨rfl, hb⟩
        go_wp2_with fail
        exact Onward.mk (hK (.string (bs y.text)) _ _ (fun h => by cases h) (by first | rfl | (simp only [puts, h12])) (Spares.of_below hb) (fun iv' _ _ => rfl))
      · have h7 : vs 7 = .string (bs z2) := hd.out 7 (mem_of (by kernel_rfl)) (by decide) (by kernel_rfl)
        have h13 : vs 13 = .string (bs y.text) := hd.out 13 (mem_of (by kernel_rfl)) (by decide) (by kernel_rfl)
        go_wp2_with fail
        exact Onward.mk (hK (.string (bs z3)) _ _ (fun h => by cases h) (by first | rfl | (simp only [puts, h7, h13])) (Spares.refl _) (fun iv' _ _ => rfl))
      · have h14 : vs 14 = .string (bs z3) := hd.out 14 (mem_of (by kernel_rfl)) (by decide) (by kernel_rfl)
        go_wp2_with fail
        exact Onward.mk (hK (.string (bs z4)) _ _ (fun h => by cases h) (by first | rfl | (simp only [puts, h14])) (Spares.refl _) (fun iv' _ _ => rfl))
      · have h15 : vs 15 = .string (bs z4) := hd.out 15 (mem_of (by kernel_rfl)) (by decide) (by kernel_rfl)
        go_wp2_with fail
        exact Onward.mk (hK (.string (bs z4)) _ _ (fun h => by cases h) (by first | rfl | (simp only [puts, h15])) (Spares.refl _) (fun iv' _ _ => rfl))
    case hQ =>
      intro iv vs wx hB hSp hd he hbd hsep
      have hzB := hB.size
      have h0 := (hd.out 0 (mem_of (by kernel_rfl)) (not_eaten (by kernel_rfl))).trans hx0.out
      have h1 := (hd.out 1 (mem_of (by kernel_rfl)) (not_eaten (by kernel_rfl))).trans hx1.out
      have h2 := (hd.out 2 (mem_of (by kernel_rfl)) (not_eaten (by kernel_rfl))).trans hx2.out
      have h3 := (hd.out 3 (mem_of (by kernel_rfl)) (not_eaten (by kernel_rfl))).trans hx3.out
      have h4 := (hd.out 4 (mem_of (by kernel_rfl)) (not_eaten (by kernel_rfl))).trans hx4.out
      have h5 : vs 5 = .string (bs x.text) := hd.out 5 (mem_of (by kernel_rfl)) (not_eaten (by kernel_rfl))
      have h6 : vs 6 = .string (bs z1) := hd.out 6 (mem_of (by kernel_rfl)) (not_eaten (by kernel_rfl))
      have h7 : vs 7 = .string (bs z2) := hd.out 7 (mem_of (by kernel_rfl)) (not_eaten (by kernel_rfl))
      have h8 := (hd.out 8 (mem_of (by kernel_rfl)) (not_eaten (by kernel_rfl))).trans hx8.out
      have h9 := (hd.out 9 (mem_of (by kernel_rfl)) (not_eaten (by kernel_rfl))).trans hx9.out
      have h10 := (hd.out 10 (mem_of (by kernel_rfl)) (not_eaten (by kernel_rfl))).trans hx10.out
      have h11 := (hd.out 11 (mem_of (by kernel_rfl)) (not_eaten (by kernel_rfl))).trans hx11.out
      have h12 := (hd.out 12 (mem_of (by kernel_rfl)) (not_eaten (by kernel_rfl))).trans hx12.out
      have h13 : vs 13 = .string (bs y.text) := hd.out 13 (mem_of (by kernel_rfl)) (not_eaten (by kernel_rfl))
      have h14 : vs 14 = .string (bs z3) := hd.out 14 (mem_of (by kernel_rfl)) (not_eaten (by kernel_rfl))
      have h15 : vs 15 = .string (bs z4) := hd.out 15 (mem_of (by kernel_rfl)) (not_eaten (by kernel_rfl))
      have h16 : vs 16 = .string (bs z4) := hd.out 16 (mem_of (by kernel_rfl)) (not_eaten (by kernel_rfl))
      simp only [putFrom, puts]
      clear hd he hbd hsep
      go_wp2_with fail
      go_ret
      exact ⟨congrArg Ending.returned h16, hB⟩
  · obtain ⟨x, y, rfl⟩ := two_kids hk (by omega)
    have hx : [x, y][0]? = some x := rfl
    have hy : [x, y][1]? = some y := rfl
    obtain ⟨b', o', rfl⟩ := kid_some hr (by simp)
    have hxt : x.tree tm am = true := Ex.treeL_mem htl (by simp)
    have hyt : y.tree tm am = true := Ex.treeL_mem htl (by simp)
    have bx := text_bound tm am ht ha _ x (Nat.le_refl _) hxt
    have bY := text_bound tm am ht ha _ y (Nat.le_refl _) hyt
    obtain ⟨hbl, s', c', k0, k1, k2, kr⟩ := kid_in hr hx
    obtain ⟨-, s2, c2, q0, q1, q2, qr⟩ := kid_in hr hy
    simp only [Nat.zero_mul, Nat.add_zero] at k0 k1 k2
    simp only [Nat.one_mul] at q0 q1 q2
    have hat : ExAt w b' o' x := ⟨k0, k1, s', c', k2, kr⟩
    have hbt : ExAt w b' (o' + 3) y := ⟨q0, q1, s2, c2, q2, qr⟩
    have hsx : x.size < N := by rw [Ex.size_eq] at hN; simp only [Ex.kids, Ex.sizeL] at hN; omega
    have hsy : y.size < N := by rw [Ex.size_eq] at hN; simp only [Ex.kids, Ex.sizeL] at hN; omega
    have hszx : x.size ≤ 1000000 := by rw [Ex.size_eq] at hsz0; simp only [Ex.kids, Ex.sizeL] at hsz0; omega
    have hszy : y.size ≤ 1000000 := by rw [Ex.size_eq] at hsz0; simp only [Ex.kids, Ex.sizeL] at hsz0; omega
    obtain ⟨z1, Hz1, Hc1⟩ := cat_l (P := Tryz.prog) (s := { data := #[40] }) [40] x.text rfl (by simp; omega)
    have l1 : z1.length ≤ 10000000 := by rw [Hz1.out]; simp; omega
    obtain ⟨z2, Hz2, Hc2⟩ := cat_r (P := Tryz.prog) (s := { data := #[32] }) z1 [32] rfl (by simp; omega)
    have l2 : z2.length ≤ 10000010 := by rw [Hz2.out]; simp; omega
    obtain ⟨z3, Hz3, Hc3⟩ := cat_2 (P := Tryz.prog) z2 y.text (by omega)
    have l3 : z3.length ≤ 100000000 := by rw [Hz3.out]; simp; omega
    obtain ⟨z4, Hz4, Hc4⟩ := cat_r (P := Tryz.prog) (s := { data := #[41] }) z3 [41] rfl (by simp; omega)
    have e0 : Ex.text (.mk 7 n [x, y]) = z4 := by rw [Hz4.out, Hz3.out, Hz2.out, Hz1.out]; simp [Ex.text, texC, Ex.textL]
    rw [e0]
    clear hk hnum htl hc htr hx hy k0 k1 k2 q0 q1 q2 kr qr e0 bx bY l1 l2 l3
    go_enter Tryz.func182, Tryz.ntmps182
    go_wp2_with fail
    obtain ⟨x0, hx0⟩ := mkval ?a2_0
    obtain ⟨x1, hx1⟩ := mkval ?a2_1
    obtain ⟨x2, hx2⟩ := mkval ?a2_2
    obtain ⟨x3, hx3⟩ := mkval ?a2_3
    obtain ⟨x4, hx4⟩ := mkval ?a2_4
    obtain ⟨x8, hx8⟩ := mkval ?a2_8
    obtain ⟨x9, hx9⟩ := mkval ?a2_9
    obtain ⟨x10, hx10⟩ := mkval ?a2_10
    obtain ⟨x11, hx11⟩ := mkval ?a2_11
    obtain ⟨x12, hx12⟩ := mkval ?a2_12
    refine region_rs [] [] (fun _ _ => False) (w.heap.size) (fun i iv vs wx => match i with
      | 0 => vs 0 = x0
      | 1 => vs 1 = x1
      | 2 => vs 2 = x2
      | 3 => vs 3 = x3
      | 4 => vs 4 = x4
      | 5 => vs 5 = .string (bs x.text)
      | 6 => vs 6 = .string (bs z1)
      | 7 => vs 7 = .string (bs z2)
      | 8 => vs 8 = x8
      | 9 => vs 9 = x9
      | 10 => vs 10 = x10
      | 11 => vs 11 = x11
      | 12 => vs 12 = x12
      | 13 => vs 13 = .string (bs y.text)
      | 14 => vs 14 = .string (bs z3)
      | 15 => vs 15 = .string (bs z4)
      | 16 => vs 16 = .string (bs z4)
      | _ => True) (fun i iv vs => match i with
      | 0 => vs 0 = x0
      | 1 => vs 1 = x1
      | 2 => vs 2 = x2
      | 3 => vs 3 = x3
      | 4 => vs 4 = x4
      | 5 => vs 5 = .string (bs x.text)
      | 6 => vs 6 = .string (bs z1)
      | 7 => vs 7 = .string (bs z2)
      | 8 => vs 8 = x8
      | 9 => vs 9 = x9
      | 10 => vs 10 = x10
      | 11 => vs 11 = x11
      | 12 => vs 12 = x12
      | 13 => vs 13 = .string (bs y.text)
      | 14 => vs 14 = .string (bs z3)
      | 15 => vs 15 = .string (bs z4)
      | 16 => vs 16 = .string (bs z4)
      | _ => True) (by kernel_rfl) (by kernel_rfl) [0, 1, 2, 3, 4, 5, 6, 7, 8, 9, 10, 11, 12, 13, 14, 15, 16] (by kernel_rfl) ?hbase ?hGb ?hG ?hJ ?hE ?hEE ?hstep ?hQ
    case hbase => first | exact Nat.le_refl _ | omega | (simp; omega)
    case hGb =>
      exact fun _ _ h => h.elim
    case hG =>
      exact fun _ _ _ h => h.elim
    case hJ =>
      intro i hi iv iv' vs vs' wx wx' ha hv hz hk hj
      simp only [List.mem_cons, List.not_mem_nil, or_false] at hi
      rcases hi with rfl | rfl | rfl | rfl | rfl | rfl | rfl | rfl | rfl | rfl | rfl | rfl | rfl | rfl | rfl | rfl | rfl
      · exact (hv.out 0 (mem_of (by kernel_rfl))).symm.trans hj
      · exact (hv.out 1 (mem_of (by kernel_rfl))).symm.trans hj
      · exact (hv.out 2 (mem_of (by kernel_rfl))).symm.trans hj
      · exact (hv.out 3 (mem_of (by kernel_rfl))).symm.trans hj
      · exact (hv.out 4 (mem_of (by kernel_rfl))).symm.trans hj
      · exact (hv.out 5 (mem_of (by kernel_rfl))).symm.trans hj
      · exact (hv.out 6 (mem_of (by kernel_rfl))).symm.trans hj
      · exact (hv.out 7 (mem_of (by kernel_rfl))).symm.trans hj
      · exact (hv.out 8 (mem_of (by kernel_rfl))).symm.trans hj
      · exact (hv.out 9 (mem_of (by kernel_rfl))).symm.trans hj
      · exact (hv.out 10 (mem_of (by kernel_rfl))).symm.trans hj
      · exact (hv.out 11 (mem_of (by kernel_rfl))).symm.trans hj
      · exact (hv.out 12 (mem_of (by kernel_rfl))).symm.trans hj
      · exact (hv.out 13 (mem_of (by kernel_rfl))).symm.trans hj
      · exact (hv.out 14 (mem_of (by kernel_rfl))).symm.trans hj
      · exact (hv.out 15 (mem_of (by kernel_rfl))).symm.trans hj
      · exact (hv.out 16 (mem_of (by kernel_rfl))).symm.trans hj
    case hE =>
      intro i hi iv vs wx hj
      simp only [List.mem_cons, List.not_mem_nil, or_false] at hi
      rcases hi with rfl | rfl | rfl | rfl | rfl | rfl | rfl | rfl | rfl | rfl | rfl | rfl | rfl | rfl | rfl | rfl | rfl
      · exact hj
      · exact hj
      · exact hj
      · exact hj
      · exact hj
      · exact hj
      · exact hj
      · exact hj
      · exact hj
      · exact hj
      · exact hj
      · exact hj
      · exact hj
      · exact hj
      · exact hj
      · exact hj
      · exact hj
    case hEE =>
      intro i hi iv iv' vs vs' ha hv hj
      simp only [List.mem_cons, List.not_mem_nil, or_false] at hi
      rcases hi with rfl | rfl | rfl | rfl | rfl | rfl | rfl | rfl | rfl | rfl | rfl | rfl | rfl | rfl | rfl | rfl | rfl
      · exact (hv.out 0 (mem_of (by kernel_rfl))).symm.trans hj
      · exact (hv.out 1 (mem_of (by kernel_rfl))).symm.trans hj
      · exact (hv.out 2 (mem_of (by kernel_rfl))).symm.trans hj
      · exact (hv.out 3 (mem_of (by kernel_rfl))).symm.trans hj
      · exact (hv.out 4 (mem_of (by kernel_rfl))).symm.trans hj
      · exact (hv.out 5 (mem_of (by kernel_rfl))).symm.trans hj
      · exact (hv.out 6 (mem_of (by kernel_rfl))).symm.trans hj
      · exact (hv.out 7 (mem_of (by kernel_rfl))).symm.trans hj
      · exact (hv.out 8 (mem_of (by kernel_rfl))).symm.trans hj
      · exact (hv.out 9 (mem_of (by kernel_rfl))).symm.trans hj
      · exact (hv.out 10 (mem_of (by kernel_rfl))).symm.trans hj
      · exact (hv.out 11 (mem_of (by kernel_rfl))).symm.trans hj
      · exact (hv.out 12 (mem_of (by kernel_rfl))).symm.trans hj
      · exact (hv.out 13 (mem_of (by kernel_rfl))).symm.trans hj
      · exact (hv.out 14 (mem_of (by kernel_rfl))).symm.trans hj
      · exact (hv.out 15 (mem_of (by kernel_rfl))).symm.trans hj
      · exact (hv.out 16 (mem_of (by kernel_rfl))).symm.trans hj
    case hstep =>
      intro i hi opr ho iv vs w1 hB hS hSo hd he hbd hsep hun K hK
      simp only [List.mem_cons, List.not_mem_nil, or_false] at hi
      have hzB := hB.size
      have c2 := (hB.cell (p := ⟨b, o + 2, none⟩) hbl0).trans g2
      generalize hA : putFrom _ 0 vs _ = A at hK ⊢
      simp only [putFrom, puts] at hA
      rcases hi with rfl | rfl | rfl | rfl | rfl | rfl | rfl | rfl | rfl | rfl | rfl | rfl | rfl | rfl | rfl | rfl | rfl
      all_goals
        simp at ho
        subst ho
        subst hA
      · go_wp2_with fail
        refine Onward.mk (hK ?val2_0 _ _ (fun h => by cases h) ?eqA (Spares.refl _) (fun iv' _ _ => ?ja))
        case eqA => first | rfl | (simp only [puts]; rfl)
        case ja => exact hx0.out.symm
      · have h0 := (hd.out 0 (mem_of (by kernel_rfl)) (by decide) (by kernel_rfl)).trans hx0.out
        go_wp2_with fail
        refine Onward.mk (hK ?val2_1 _ _ (fun h => by cases h) ?eqA (Spares.refl _) (fun iv' _ _ => ?ja))
        case eqA => first | rfl | (simp only [puts, h0]; rfl)
        case ja => exact hx1.out.symm
      · have h1 := (hd.out 1 (mem_of (by kernel_rfl)) (by decide) (by kernel_rfl)).trans hx1.out
        go_wp2_with fail
        refine Onward.mk (hK ?val2_2 _ _ (fun h => by cases h) ?eqA (Spares.refl _) (fun iv' _ _ => ?ja))
        case eqA => first | rfl | (simp only [puts, h1]; rfl)
        case ja => exact hx2.out.symm
      · have h2 := (hd.out 2 (mem_of (by kernel_rfl)) (by decide) (by kernel_rfl)).trans hx2.out
        go_wp2_with fail
        refine Onward.mk (hK ?val2_3 _ _ (fun h => by cases h) ?eqA (Spares.refl _) (fun iv' _ _ => ?ja))
        case eqA => first | rfl | (simp only [puts, h2]; rfl)
        case ja => exact hx3.out.symm
      · have h3 := (hd.out 3 (mem_of (by kernel_rfl)) (by decide) (by kernel_rfl)).trans hx3.out
        go_wp2_with fail
        refine Onward.mk (hK ?val2_4 _ _ (fun h => by cases h) ?eqA (Spares.refl _) (fun iv' _ _ => ?ja))
        case eqA => first | rfl | (simp only [puts, h3]; rfl)
        case ja => exact hx4.out.symm
      · have h4 := (hd.out 4 (mem_of (by kernel_rfl)) (by decide) (by kernel_rfl)).trans hx4.out
        go_wp2_with fail
        refine (ih _ hsx _ _ _ _ (Nat.le_refl _) (hat.below hB) hxt hszx).mono ?_
        rintro e w2 ⟨rfl, hb⟩
        go_wp2_with fail
        exact Onward.mk (hK (.string (bs x.text)) _ _ (fun h => by cases h) (by first | rfl | (simp only [puts, h4])) (Spares.of_below hb) (fun iv' _ _ => rfl))
      · have h5 : vs 5 = .string (bs x.text) := hd.out 5 (mem_of (by kernel_rfl)) (by decide) (by kernel_rfl)
        go_wp2_with fail
        exact Onward.mk (hK (.string (bs z1)) _ _ (fun h => by cases h) (by first | rfl | (simp only [puts, h5])) (Spares.refl _) (fun iv' _ _ => rfl))
      · have h6 : vs 6 = .string (bs z1) := hd.out 6 (mem_of (by kernel_rfl)) (by decide) (by kernel_rfl)
        go_wp2_with fail
        exact Onward.mk (hK (.string (bs z2)) _ _ (fun h => by cases h) (by first | rfl | (simp only [puts, h6])) (Spares.refl _) (fun iv' _ _ => rfl))
      · go_wp2_with fail
        refine Onward.mk (hK ?val2_8 _ _ (fun h => by cases h) ?eqA (Spares.refl _) (fun iv' _ _ => ?ja))
        case eqA => first | rfl | (simp only [puts]; rfl)
        case ja => exact hx8.out.symm
      · have h8 := (hd.out 8 (mem_of (by kernel_rfl)) (by decide) (by kernel_rfl)).trans hx8.out
        go_wp2_with fail
        refine Onward.mk (hK ?val2_9 _ _ (fun h => by cases h) ?eqA (Spares.refl _) (fun iv' _ _ => ?ja))
        case eqA => first | rfl | (simp only [puts, h8]; rfl)
        case ja => exact hx9.out.symm
      · have h9 := (hd.out 9 (mem_of (by kernel_rfl)) (by decide) (by kernel_rfl)).trans hx9.out
        go_wp2_with fail
        refine Onward.mk (hK ?val2_10 _ _ (fun h => by cases h) ?eqA (Spares.refl _) (fun iv' _ _ => ?ja))
        case eqA => first | rfl | (simp only [puts, h9]; rfl)
        case ja => exact hx10.out.symm
      · have h10 := (hd.out 10 (mem_of (by kernel_rfl)) (by decide) (by kernel_rfl)).trans hx10.out
        go_wp2_with fail
        refine Onward.mk (hK ?val2_11 _ _ (fun h => by cases h) ?eqA (Spares.refl _) (fun iv' _ _ => ?ja))
        case eqA => first | rfl | (simp only [puts, h10]; rfl)
        case ja => exact hx11.out.symm
      · have h11 := (hd.out 11 (mem_of (by kernel_rfl)) (by decide) (by kernel_rfl)).trans hx11.out
        go_wp2_with fail
        refine Onward.mk (hK ?val2_12 _ _ (fun h => by cases h) ?eqA (Spares.refl _) (fun iv' _ _ => ?ja))
        case eqA => first | rfl | (simp only [puts, h11]; rfl)
        case ja => exact hx12.out.symm
      · have h12 := (hd.out 12 (mem_of (by kernel_rfl)) (by decide) (by kernel_rfl)).trans hx12.out
        go_wp2_with fail
        refine (ih _ hsy _ _ _ _ (Nat.le_refl _) (hbt.below hB) hyt hszy).mono ?_
        rintro e w2 ⟨rfl, hb⟩
        go_wp2_with fail
        exact Onward.mk (hK (.string (bs y.text)) _ _ (fun h => by cases h) (by first | rfl | (simp only [puts, h12])) (Spares.of_below hb) (fun iv' _ _ => rfl))
      · have h7 : vs 7 = .string (bs z2) := hd.out 7 (mem_of (by kernel_rfl)) (by decide) (by kernel_rfl)
        have h13 : vs 13 = .string (bs y.text) := hd.out 13 (mem_of (by kernel_rfl)) (by decide) (by kernel_rfl)
        go_wp2_with fail
        exact Onward.mk (hK (.string (bs z3)) _ _ (fun h => by cases h) (by first | rfl | (simp only [puts, h7, h13])) (Spares.refl _) (fun iv' _ _ => rfl))
      · have h14 : vs 14 = .string (bs z3) := hd.out 14 (mem_of (by kernel_rfl)) (by decide) (by kernel_rfl)
        go_wp2_with fail
        exact Onward.mk (hK (.string (bs z4)) _ _ (fun h => by cases h) (by first | rfl | (simp only [puts, h14])) (Spares.refl _) (fun iv' _ _ => rfl))
      · have h15 : vs 15 = .string (bs z4) := hd.out 15 (mem_of (by kernel_rfl)) (by decide) (by kernel_rfl)
        go_wp2_with fail
        exact Onward.mk (hK (.string (bs z4)) _ _ (fun h => by cases h) (by first | rfl | (simp only [puts, h15])) (Spares.refl _) (fun iv' _ _ => rfl))
    case hQ =>
      intro iv vs wx hB hSp hd he hbd hsep
      have hzB := hB.size
      have h0 := (hd.out 0 (mem_of (by kernel_rfl)) (not_eaten (by kernel_rfl))).trans hx0.out
      have h1 := (hd.out 1 (mem_of (by kernel_rfl)) (not_eaten (by kernel_rfl))).trans hx1.out
      have h2 := (hd.out 2 (mem_of (by kernel_rfl)) (not_eaten (by kernel_rfl))).trans hx2.out
      have h3 := (hd.out 3 (mem_of (by kernel_rfl)) (not_eaten (by kernel_rfl))).trans hx3.out
      have h4 := (hd.out 4 (mem_of (by kernel_rfl)) (not_eaten (by kernel_rfl))).trans hx4.out
      have h5 : vs 5 = .string (bs x.text) := hd.out 5 (mem_of (by kernel_rfl)) (not_eaten (by kernel_rfl))
      have h6 : vs 6 = .string (bs z1) := hd.out 6 (mem_of (by kernel_rfl)) (not_eaten (by kernel_rfl))
      have h7 : vs 7 = .string (bs z2) := hd.out 7 (mem_of (by kernel_rfl)) (not_eaten (by kernel_rfl))
      have h8 := (hd.out 8 (mem_of (by kernel_rfl)) (not_eaten (by kernel_rfl))).trans hx8.out
      have h9 := (hd.out 9 (mem_of (by kernel_rfl)) (not_eaten (by kernel_rfl))).trans hx9.out
      have h10 := (hd.out 10 (mem_of (by kernel_rfl)) (not_eaten (by kernel_rfl))).trans hx10.out
      have h11 := (hd.out 11 (mem_of (by kernel_rfl)) (not_eaten (by kernel_rfl))).trans hx11.out
      have h12 := (hd.out 12 (mem_of (by kernel_rfl)) (not_eaten (by kernel_rfl))).trans hx12.out
      have h13 : vs 13 = .string (bs y.text) := hd.out 13 (mem_of (by kernel_rfl)) (not_eaten (by kernel_rfl))
      have h14 : vs 14 = .string (bs z3) := hd.out 14 (mem_of (by kernel_rfl)) (not_eaten (by kernel_rfl))
      have h15 : vs 15 = .string (bs z4) := hd.out 15 (mem_of (by kernel_rfl)) (not_eaten (by kernel_rfl))
      have h16 : vs 16 = .string (bs z4) := hd.out 16 (mem_of (by kernel_rfl)) (not_eaten (by kernel_rfl))
      simp only [putFrom, puts]
      clear hd he hbd hsep
      go_wp2_with fail
      go_ret
      exact ⟨congrArg Ending.returned h16, hB⟩
  · obtain ⟨x, rfl⟩ := one_kid hk (by omega)
    have hx : [x][0]? = some x := rfl
    obtain ⟨b', o', rfl⟩ := kid_some hr (by simp)
    have hxt : x.tree tm am = true := Ex.treeL_mem htl (by simp)
    have bx := text_bound tm am ht ha _ x (Nat.le_refl _) hxt
    obtain ⟨hbl, s', c', k0, k1, k2, kr⟩ := kid_in hr hx
    simp only [Nat.zero_mul, Nat.add_zero] at k0 k1 k2
    have hat : ExAt w b' o' x := ⟨k0, k1, s', c', k2, kr⟩
    have hsx : x.size < N := by rw [Ex.size_eq] at hN; simp only [Ex.kids, Ex.sizeL] at hN; omega
    have hsz : x.size ≤ 1000000 := by rw [Ex.size_eq] at hsz0; simp only [Ex.kids, Ex.sizeL] at hsz0; omega
    obtain ⟨z, Hz, Hc⟩ := cat_r (P := Tryz.prog) (s := { data := #[42] }) x.text [42] rfl (by simp; omega)
    have e0 : Ex.text (.mk 8 n [x]) = z := by rw [Hz.out]; simp [Ex.text, texC, Ex.textL]
    rw [e0]
    clear hk hnum htl hc htr hx k0 k1 k2 kr e0
    go_enter Tryz.func182, Tryz.ntmps182
    go_wp2_with fail
    refine (ih _ hsx _ _ _ _ (Nat.le_refl _) hat hxt hsz).mono ?_
    rintro e w2 ⟨rfl, hb⟩
    go_wp2_with fail
    go_ret
    exact ⟨rfl, hb⟩
theorem okB_bd {t a : Int} {e : Ex} (h : okB t a e = true) : t ≤ 3 ∧ a ≤ 5 ∧ e.size ≤ 200 := by
  unfold okB at h
  simp only [Bool.and_eq_true, decide_eq_true_eq] at h
  obtain ⟨h1, h2, -⟩ := h
  have := sigB_bd h1
  omega
end Go.Proofs.YtjlmdhoajfdkbaaGreatDoor

namespace Go.Proofs.YtjlmdhoajfdkbaaGreatDoor
set_option linter.unusedVariables false
set_option linter.unusedSimpArgs false
open Go.ChangeShapes Go.WideShapes Go.ChangeAt Go.RowKit Go.Deep Go.ChangeMaps Go.MapKept
open Go.Maps (Keyed)
section
variable {κ ν : Type} [DecidableEq κ]
def findM : List (κ × ν) → κ → Option ν
  | [], _ => none
  | p :: r, k => if p.1 = k then some p.2 else findM r k
def putM : List (κ × ν) → κ → ν → List (κ × ν)
  | [], k, v => [(k, v)]
  | p :: r, k, v => if p.1 = k then (k, v) :: r else p :: putM r k v
theorem findM_putM (k : κ) (v : ν) (k' : κ) : ∀ L : List (κ × ν), findM (putM L k v) k' = if k = k' then some v else findM L k'
  | [] => by simp [putM, findM]
  | p :: r => by
    have ih := findM_putM k v k' r
    unfold putM
    split
    · rename_i h
      simp only [findM]
      by_cases hk : k = k'
      · simp [hk]
      · rw [if_neg hk, if_neg hk, if_neg (by rw [h]; exact hk)]
    · rename_i h
      simp only [findM, ih]
      by_cases hk : k = k'
      · subst hk
        simp [h]
      · simp [hk]
theorem findM_none {k : κ} : ∀ {L : List (κ × ν)}, findM L k = none ↔ ∀ p ∈ L, p.1 ≠ k
  | [] => by simp [findM]
  | p :: r => by
    simp only [findM, List.mem_cons]
    by_cases h : p.1 = k
    · simp [h]
    · rw [if_neg h, findM_none]
      constructor
      · rintro h1 q (rfl | hq)
        · exact h
        · exact h1 q hq
      · exact fun h1 q hq => h1 q (Or.inr hq)
theorem findM_at {k : κ} {v : ν} : ∀ {L : List (κ × ν)} {j : Nat}, (L.map (·.1)).Nodup → L[j]? = some (k, v) → findM L k = some v
  | [], _, _, h => by simp at h
  | p :: r, 0, _, h => by
    simp at h
    subst h
    simp [findM]
  | p :: r, j + 1, hn, h => by
    simp only [List.map_cons, List.nodup_cons] at hn
    have hr : r[j]? = some (k, v) := by simpa using h
    have hne : p.1 ≠ k := fun e => hn.1 (by rw [e]; exact List.mem_map.2 ⟨(k, v), List.mem_of_getElem? hr, rfl⟩)
    simp only [findM]
    rw [if_neg hne]
    exact findM_at hn.2 hr
theorem findM_mem {k : κ} {v : ν} : ∀ {L : List (κ × ν)}, findM L k = some v → (k, v) ∈ L
  | [], h => by simp [findM] at h
  | p :: r, h => by
    simp only [findM] at h
    split at h
    · rename_i hk
      simp only [Option.some.injEq] at h
      subst h
      exact List.mem_cons.2 (Or.inl (by rw [← hk]))
    · exact List.mem_cons_of_mem _ (findM_mem h)
theorem putM_new {k : κ} {v : ν} : ∀ {L : List (κ × ν)}, findM L k = none → putM L k v = L ++ [(k, v)]
  | [], _ => rfl
  | p :: r, h => by
    simp only [findM] at h
    split at h
    · cases h
    · rename_i hk
      unfold putM
      rw [if_neg hk, putM_new h]
      rfl
theorem putM_set {k : κ} {v : ν} : ∀ {L : List (κ × ν)} {j : Nat} {u : ν}, (L.map (·.1)).Nodup → L[j]? = some (k, u) → putM L k v = L.set j (k, v)
  | [], _, _, _, h => by simp at h
  | p :: r, 0, _, _, h => by
    simp at h
    subst h
    simp [putM]
  | p :: r, j + 1, u, hn, h => by
    simp only [List.map_cons, List.nodup_cons] at hn
    have hr : r[j]? = some (k, u) := by simpa using h
    have hne : p.1 ≠ k := fun e => hn.1 (by rw [e]; exact List.mem_map.2 ⟨(k, u), List.mem_of_getElem? hr, rfl⟩)
    unfold putM
    rw [if_neg hne, putM_set hn.2 hr]
    rfl
theorem putM_nodup {k : κ} {v : ν} {L : List (κ × ν)} (hn : (L.map (·.1)).Nodup) : ((putM L k v).map (·.1)).Nodup := by
  cases h : findM L k with
  | none =>
    rw [putM_new h, List.map_append, List.nodup_append]
    refine ⟨hn, by simp, ?_⟩
    intro a ha b hb hab
    simp only [List.map_cons, List.map_nil, List.mem_singleton] at hb
    obtain ⟨p, hp, rfl⟩ := List.mem_map.1 ha
    exact findM_none.1 h p hp (by rw [hab, hb])
  | some u =>
    obtain ⟨j, hj⟩ := List.mem_iff_getElem?.1 (findM_mem h)
    rw [putM_set hn hj]
    have : (L.set j (k, v)).map (·.1) = L.map (·.1) := by
      rw [List.map_set]
      apply List.ext_getElem?
      intro i
      by_cases hij : j = i
      · subst hij
        obtain ⟨h1, h2⟩ := List.getElem?_eq_some_iff.1 hj
        rw [List.getElem?_set_self (by simpa using h1), List.getElem?_map, hj]
        rfl
      · rw [List.getElem?_set_ne hij]
    rw [this]
    exact hn
theorem putM_keys {k : κ} {v : ν} {L : List (κ × ν)} {q : κ} (h : q ∈ (putM L k v).map (·.1)) : q = k ∨ q ∈ L.map (·.1) := by
  induction L with
  | nil => simp [putM] at h; exact Or.inl h
  | cons p r ih =>
    unfold putM at h
    split at h
    · simp only [List.map_cons, List.mem_cons] at h ⊢
      rcases h with h | h
      · exact Or.inl h
      · exact Or.inr (Or.inr h)
    · simp only [List.map_cons, List.mem_cons] at h ⊢
      rcases h with h | h
      · exact Or.inr (Or.inl h)
      · rcases ih h with h | h
        · exact Or.inl h
        · exact Or.inr (Or.inr h)
def MapAt (P : Program) (kt : TypeId) (kf : κ → Value) (vf : ν → Value) (w : World) (b : Nat) (L : List (κ × ν)) : Prop :=
  ∃ es clock, w.heap[b]? = some (.map es clock) ∧ es.toList.map (fun e => (e.key, e.val)) = L.map (fun p => (kf p.1, vf p.2)) ∧ (L.map (·.1)).Nodup ∧ ∀ p ∈ L, ∃ l, keyOf P kt (kf p.1) = some l
variable {P : Program} {kt : TypeId} {kf : κ → Value} {vf : ν → Value} {w : World} {b : Nat} {L : List (κ × ν)}
omit [DecidableEq κ] in
theorem MapAt.made (w : World) : MapAt P kt kf vf (w.alloc (.map #[] 0)) w.heap.size ([] : List (κ × ν)) := ⟨#[], 0, (MapKept.heap_alloc w _).1, by simp, by simp, by simp⟩
omit [DecidableEq κ] in
theorem MapAt.lt (h : MapAt P kt kf vf w b L) : b < w.heap.size := by
  obtain ⟨es, clock, hb, _⟩ := h
  exact (Array.getElem?_eq_some_iff.1 hb).1
omit [DecidableEq κ] in
theorem MapAt.keep {w' : World} (h : MapAt P kt kf vf w b L) (hk : w'.heap[b]? = w.heap[b]?) : MapAt P kt kf vf w' b L := by
  obtain ⟨es, clock, hb, h2⟩ := h
  exact ⟨es, clock, hk.trans hb, h2⟩
omit [DecidableEq κ] in
theorem MapAt.below {w' : World} (h : MapAt P kt kf vf w b L) (hb : Below w.heap.size w w') : MapAt P kt kf vf w' b L := h.keep (hb.block _ h.lt)
omit [DecidableEq κ] in
theorem MapAt.nodup (h : MapAt P kt kf vf w b L) : (L.map (·.1)).Nodup := by
  obtain ⟨_, _, _, _, h, _⟩ := h
  exact h
theorem MapAt.find (h : MapAt P kt kf vf w b L) (K : Keyed P kt) (hinj : ∀ x y, kf x = kf y → x = y) {k : κ} (hk : ∃ l, keyOf P kt (kf k) = some l) : ∃ es clock, w.heap[b]? = some (.map es clock) ∧ es.toList.map (fun e => (e.key, e.val)) = L.map (fun p => (kf p.1, vf p.2)) ∧
    (((Instr.findKey kt (kf k) es.toList).run P w = .ok none w ∧ findM L k = none) ∨ ∃ j e v, (Instr.findKey kt (kf k) es.toList).run P w = .ok (some (j, e.val)) w ∧ es.toList[j]? = some e ∧ e.key = kf k ∧ e.val = vf v ∧ L[j]? = some (k, v) ∧ findM L k = some v) := by
  obtain ⟨es, clock, hb, he, hn, hl⟩ := h
  obtain ⟨l, hkl⟩ := hk
  refine ⟨es, clock, hb, he, ?_⟩
  have pair : ∀ (j : Nat) (e : MapEntry), es.toList[j]? = some e → ∃ p, L[j]? = some p ∧ e.key = kf p.1 ∧ e.val = vf p.2 := by
    intro j e h1
    have h2 : (es.toList.map (fun e => (e.key, e.val)))[j]? = some (e.key, e.val) := by rw [List.getElem?_map, h1]; rfl
    rw [he, List.getElem?_map, Option.map_eq_some_iff] at h2
    obtain ⟨p, h3, h4⟩ := h2
    simp only [Prod.mk.injEq] at h4
    exact ⟨p, h3, h4.1.symm, h4.2.symm⟩
  have pair' : ∀ p ∈ L, ∃ e ∈ es.toList, e.key = kf p.1 := by
    intro p hp
    have h2 : (kf p.1, vf p.2) ∈ L.map (fun p => (kf p.1, vf p.2)) := List.mem_map.2 ⟨p, hp, rfl⟩
    rw [← he] at h2
    obtain ⟨e, h3, h4⟩ := List.mem_map.1 h2
    simp only [Prod.mk.injEq] at h4
    exact ⟨e, h3, h4.1⟩
  rcases K.find w hkl es.toList (fun e he' => by
    obtain ⟨j, hj⟩ := List.mem_iff_getElem?.1 he'
    obtain ⟨p, h1, h2, _⟩ := pair j e hj
    rw [h2]
    exact hl p (List.mem_of_getElem? h1)) with ⟨h1, h2⟩ | ⟨j, e, h1, h2, h3⟩
  · refine Or.inl ⟨h1, findM_none.2 fun p hp hpk => ?_⟩
    obtain ⟨e, h3, h4⟩ := pair' p hp
    exact h2 e h3 (by rw [h4, hpk])
  · obtain ⟨p, h4, h5, h6⟩ := pair j e h2
    have hpk : p.1 = k := hinj _ _ (h5.symm.trans h3)
    have h7 : L[j]? = some (k, p.2) := by rw [h4, ← hpk]
    exact Or.inr ⟨j, e, p.2, h1, h2, h3, h6, h7, findM_at hn h7⟩
def lookV (c : Bool) (z : Value) (vf : ν → Value) : Option ν → Value
  | none => if c then .tuple #[z, .bool false] else z
  | some v => if c then .tuple #[vf v, .bool true] else vf v
theorem MapAt.lookup (h : MapAt P kt kf vf w b L) (c : Bool) (K : Keyed P kt) (hinj : ∀ x y, kf x = kf y → x = y) {t e : TypeId} (ht : P.underlying t = some (.map kt e)) {z : Value} (hz : (zeroValue e).run P w = .ok z w) {k : κ} (hk : ∃ l, keyOf P kt (kf k) = some l) :
    (Instr.lookup t (.map (some b)) (kf k) c).run P w = .ok (lookV c z vf (findM L k)) w := by
  obtain ⟨l, hkl⟩ := hk
  obtain ⟨es, clock, hb, he, h | ⟨j, e, v, h1, h2, h3, h4, _, h5⟩⟩ := h.find K hinj ⟨l, hkl⟩
  · rw [h.2]
    simp [lookV, Instr.lookup, run_underlying ht, MapKept.run_getObj_map hb, K.check w _ hkl, h.1, hz, Result.andThen]
  · rw [h5]
    simp [lookV, Instr.lookup, run_underlying ht, MapKept.run_getObj_map hb, K.check w _ hkl, h1, h4, Result.andThen]
theorem MapAt.update (h : MapAt P kt kf vf w b L) (K : Keyed P kt) (hinj : ∀ x y, kf x = kf y → x = y) {t e : TypeId} (ht : P.underlying t = some (.map kt e)) {k : κ} (hk : ∃ l, keyOf P kt (kf k) = some l) (v : ν) :
    ∃ w', (Instr.mapUpdate t (.map (some b)) (kf k) (vf v)).run P w = .ok () w' ∧ MapAt P kt kf vf w' b (putM L k v) ∧ Only [b] w w' := by
  obtain ⟨l, hkl⟩ := hk
  have hn := h.nodup
  have hl : ∀ p ∈ L, ∃ l, keyOf P kt (kf p.1) = some l := by obtain ⟨_, _, _, _, _, h⟩ := h; exact h
  have hl' : ∀ p ∈ putM L k v, ∃ l, keyOf P kt (kf p.1) = some l := by
    intro p hp
    rcases putM_keys (List.mem_map.2 ⟨p, hp, rfl⟩) with h | h
    · rw [h]; exact ⟨l, hkl⟩
    · obtain ⟨q, hq, he⟩ := List.mem_map.1 h
      rw [← he]
      exact hl q hq
  obtain ⟨es, clock, hb, he, h | ⟨j, e, u, h1, h2, h3, h4, h6, h5⟩⟩ := h.find K hinj ⟨l, hkl⟩
  · refine ⟨setBlock w b (.map (es.push ⟨kf k, vf v, clock⟩) (clock + 1)), ?_, ⟨_, _, heap_setBlock_same hb _, ?_, putM_nodup hn, hl'⟩, ⟨rfl, rfl, rfl, by simp [setBlock], fun i _ hi => heap_setBlock_other hb _ (by simpa using hi)⟩⟩
    · simp [Instr.mapUpdate, run_underlying ht, MapKept.run_getObj_map hb, K.check w false hkl, h.1, MapKept.run_setObj_map _ hb, Result.andThen, setBlock]
    · rw [putM_new h.2, Array.toList_push, List.map_append, List.map_append, he]
      rfl
  · have hj : es[j]? = some e := by rw [← Array.getElem?_toList]; exact h2
    refine ⟨setBlock w b (.map (es.modify j fun e => { e with key := kf k, val := vf v }) clock), ?_, ⟨_, _, heap_setBlock_same hb _, ?_, putM_nodup hn, hl'⟩, ⟨rfl, rfl, rfl, by simp [setBlock], fun i _ hi => heap_setBlock_other hb _ (by simpa using hi)⟩⟩
    · simp [Instr.mapUpdate, run_underlying ht, MapKept.run_getObj_map hb, K.check w false hkl, h1, MapKept.run_setObj_map _ hb, Result.andThen, setBlock, hj, h3, K.stays w hkl]
    · rw [putM_set hn h6, List.map_set, ← he, Array.toList_modify]
      apply List.ext_getElem?
      intro i
      rw [List.getElem?_map, List.getElem?_modify]
      by_cases hij : j = i
      · subst hij
        rw [List.getElem?_set_self (by have := (List.getElem?_eq_some_iff.1 h2).1; simpa using this)]
        simp [hj]
      · rw [List.getElem?_set_ne hij, List.getElem?_map]
        simp [hij]
theorem wpList_lookup_at (w : World) {ops : Array Oper} {rest : List Oper} {o : Oper} {a : Act} {Q : Exit → Act → World → Prop} (hg : o.guard = none) (m x : Operand) (t : TypeId) (c : Bool) (hop : o.op = Op.lookup t m x c)
    (kt e : TypeId) (K : Keyed P kt) (ht : P.underlying t = some (.map kt e)) (z : Value) (hz : (zeroValue e).run P w = .ok z w) {kf : κ → Value} (hinj : ∀ x y, kf x = kf y → x = y) {vf : ν → Value} {L : List (κ × ν)} (b : Nat)
    (hM : MapAt P kt kf vf w b L) (k : κ) (hk : ∃ l, keyOf P kt (kf k) = some l) (hm : a.eval m = .map (some b)) (hx : a.eval x = kf k) (r : Option ν) (hr : findM L k = r)
    (hK : wpList P ops Q rest (a.put o.dst (lookV c z vf r)) w) : wpList P ops Q (o :: rest) a w := by
  subst hr
  refine wpList_plain hg fun K' hK' => ?_
  have hrun := hM.lookup c K hinj ht hz hk
  unfold Oper.wp
  simp [execOp, hop, hm, hx, hrun, Result.andThen]
  exact hK' _ _ hK
theorem wpList_mapUpdate_at (w : World) {ops : Array Oper} {rest : List Oper} {o : Oper} {a : Act} {Q : Exit → Act → World → Prop} (hg : o.guard = none) (m x y : Operand) (t : TypeId) (hop : o.op = Op.mapUpdate t m x y)
    (kt e : TypeId) (K : Keyed P kt) (ht : P.underlying t = some (.map kt e)) {kf : κ → Value} (hinj : ∀ x y, kf x = kf y → x = y) {vf : ν → Value} {L : List (κ × ν)} (b : Nat)
    (hM : MapAt P kt kf vf w b L) (k : κ) (hk : ∃ l, keyOf P kt (kf k) = some l) (v : ν) (hm : a.eval m = .map (some b)) (hx : a.eval x = kf k) (hy : a.eval y = vf v)
    (hK : ∀ w', MapAt P kt kf vf w' b (putM L k v) → Only [b] w w' → wpList P ops Q rest (a.put o.dst undef) w') : wpList P ops Q (o :: rest) a w := by
  refine wpList_plain hg fun K' hK' => ?_
  obtain ⟨w', hrun, r1, r2⟩ := hM.update K hinj ht hk v
  unfold Oper.wp
  simp [execOp, hop, hm, hx, hy, hrun, Result.andThen]
  exact hK' _ _ (hK w' r1 r2)
end
end Go.Proofs.YtjlmdhoajfdkbaaGreatDoor

namespace Go.Proofs.YtjlmdhoajfdkbaaGreatDoor
set_option linter.unusedVariables false
set_option linter.unusedSimpArgs false
open Go.ChangeShapes Go.WideShapes Go.ChangeAt Go.RowKit Go.Deep Go.Sort Go.ChangeMaps Go.MapKept
open Go.Maps (Keyed string_keyed)
theorem AppS.nil {S : Nat → Prop} {w : World} {t size : Nat} : AppS S w t size 0 [] (.slice none 0 0) := ⟨[], [], World.ownsRow_nil _ _ _ _, Ows.nil, by simp, by simp, by simp [Value.ownBlock]⟩
theorem AppS.at {S : Nat → Prop} {w : World} {t size n : Nat} {us : List Value} {v : Value} (h : AppS S w t size n (us.map D.raw) v) : ∃ a cap, v = .slice a n cap ∧ n ≤ cap ∧ cap ≤ maxLen ∧ us.length = n * size ∧
    (us = [] ∨ ∃ g, a = some ⟨g, 0, none⟩ ∧ S g ∧ g < w.heap.size ∧ ∃ rest, Blk w g t (us ++ rest)) := by
  obtain ⟨xs, F, h1, h2, h3, h4, h5⟩ := h
  have hx := Rds.raws h2.rds
  subst hx
  have hl : xs.length = n * size := h1.1
  rcases h1.2 with ⟨rfl, h⟩ | ⟨g, cap, cur, rfl, -, hb, k1, k2, k3, k4⟩
  · have h0 : n = 0 := by simpa using h
    subst h0
    exact ⟨none, 0, rfl, Nat.le_refl _, Nat.zero_le _, hl, Or.inl (List.eq_nil_of_length_eq_zero (by omega))⟩
  · refine ⟨_, _, rfl, k1, k2, hl, Or.inr ⟨g, rfl, h5 g rfl, (Array.getElem?_eq_some_iff.1 hb).1, cur.toList.drop xs.length, ?_⟩⟩
    have : cur.toList = xs ++ cur.toList.drop xs.length := by
      conv => lhs; rw [← List.take_append_drop xs.length cur.toList]
      congr 1
      rw [hl]
      exact k4
    rw [← this]
    simpa [Blk] using hb
theorem summands_i {tm am : Int} {e : Ex} {X S : Nat → Prop} {v : Value} {L : List Sh} {s : Option Addr} {c : Nat} {w0 w : World} (h0 : KeptX X w0 w) (hX : ∀ b, X b → b < w.heap.size) (hS : ∀ b, S b → X b) (hx : ExX X w0 e s c) (ht : e.tree tm am = true) (hl : L.length + e.size ≤ 1000000)
    (hv : AppS S w 30 3 L.length (shD L) v) :
    Calls Tryz.prog 172 #[v, .agg #[.int .i64 e.kind, .int .i64 e.num, .slice s e.kids.length c]] w fun f w' => ∃ a' c' L', f = .returned (.slice a' (L.length + L'.length) c') ∧ (L'.map Sh.e = e.summ ∧ ShX X w0 L') ∧
      AppS (fun b => S b ∨ (w.heap.size ≤ b ∧ b < w'.heap.size)) w' 30 3 (L.length + L'.length) (shD (L ++ L')) (.slice a' (L.length + L'.length) c') ∧ Spares S w w' := by
  refine (summands_all tm am _ e X S v L s c w0 w (Nat.le_refl _) h0 hX hS hx ht hl hv).mono ?_
  rintro f w' ⟨v', L', rfl, h1, h2, h3⟩
  obtain ⟨a', c', rfl, -, -⟩ := h2.shape
  exact ⟨a', c', L', rfl, h1, h2, h3⟩
theorem summands_nil {tm am : Int} {e : Ex} {X : Nat → Prop} {s : Option Addr} {c : Nat} {w0 w : World} (h0 : KeptX X w0 w) (hX : ∀ b, X b → b < w.heap.size) (hx : ExX X w0 e s c) (ht : e.tree tm am = true) (hl : e.size ≤ 1000000) :
    Calls Tryz.prog 172 #[.slice none 0 0, .agg #[.int .i64 e.kind, .int .i64 e.num, .slice s e.kids.length c]] w fun f w' => ∃ a' c' L', f = .returned (.slice a' L'.length c') ∧ (L'.map Sh.e = e.summ ∧ ShX X w0 L') ∧
      AppS (fun b => False ∨ (w.heap.size ≤ b ∧ b < w'.heap.size)) w' 30 3 L'.length (shD L') (.slice a' L'.length c') ∧ Spares (fun _ => False) w w' := by
  refine (summands_i (L := []) (S := fun _ => False) h0 hX (fun _ h => h.elim) hx ht (by simpa using hl) AppS.nil).mono ?_
  rintro f w' ⟨a', c', L', rfl, h1, h2, h3⟩
  simp only [List.length_nil, Nat.zero_add, List.nil_append] at h2
  exact ⟨a', c', L', by simp, h1, h2, h3⟩
def lenV : Value → Int
  | .slice _ n _ => n
  | _ => 0
def kfS (t : List UInt8) : Value := .string (bs t)
theorem kfS_inj (x y : List UInt8) (h : kfS x = kfS y) : x = y := bs_inj (by simpa [kfS] using h)
theorem lawS : Keyed Tryz.prog 9 := string_keyed Tryz.underlying9
theorem keyS {t : List UInt8} (h : t.length ≤ 1000000000) : ∃ l, keyOf Tryz.prog 9 (kfS t) = some l := ⟨_, WideMaps.keyOf_string_mk (P := Tryz.prog) Tryz.underlying9 (by rw [bs_size]; unfold maxLen; omega)⟩
theorem zeroB (w : World) : (zeroValue 4).run Tryz.prog w = .ok (.bool false) w := by kernel_rfl
theorem AppS.empty {S : Nat → Prop} {w : World} {t size g : Nat} (h : Blk w g t []) (hS : S g) : AppS S w t size 0 [] (.slice (some ⟨g, 0, none⟩) 0 0) :=
  ⟨[], [], ⟨by simp, Or.inr ⟨g, 0, #[], rfl, Nat.zero_le _, h, Nat.le_refl _, Nat.zero_le _, by simp, by simp⟩⟩, Ows.nil, by simp, by simp, fun b hb => by simp [Value.ownBlock] at hb; subst hb; exact hS⟩
theorem info_named : (Tryz.prog.info? 198).map (fun i => (i.zero, i.size, i.bytes)) = some (some (.agg #[.string ⟨#[]⟩, .int .i64 0, .int .i64 0, .slice none 0 0]), 4, 56) := by kernel_rfl
theorem nub_snoc (L : List Ex) (a : Ex) : nub (L ++ [a]) = grow1 (nub L) (some a) := by
  unfold nub
  rw [List.map_append, growL_append]
  rfl
theorem namedsV_snoc (N : List Sh) (z : Sh) : (namedsV (N ++ [z])).map D.raw = (namedsV N).map D.raw ++ z.named.map D.raw := by simp [namedsV]
theorem growL_len {α : Type} [DecidableEq α] : ∀ (ss L : List α), (growL L (ss.map some)).length ≤ L.length + ss.length
  | [], L => by simp [growL]
  | s :: r, L => by
    show (growL (grow1 L (some s)) (r.map some)).length ≤ _
    have h1 := growL_len r (grow1 L (some s))
    have h2 : (grow1 L (some s)).length ≤ L.length + 1 := by
      by_cases h : s ∈ L
      · rw [grow1_old h]; omega
      · rw [grow1_new h]; simp
    rw [List.length_cons]
    omega
theorem nub_len (L : List Ex) : (nub L).length ≤ L.length := by have := growL_len L []; simpa [nub] using this
theorem AppS.blk {S : Nat → Prop} {w : World} {t size n g c : Nat} {us : List Value} (h : AppS S w t size n (us.map D.raw) (.slice (some ⟨g, 0, none⟩) n c)) : S g ∧ n ≤ c ∧ c ≤ maxLen ∧ ∃ rest, Blk w g t (us ++ rest) := by
  obtain ⟨xs, F, h1, h2, h3, h4, h5⟩ := h
  have hx := Rds.raws h2.rds
  subst hx
  have hl : xs.length = n * size := h1.1
  rcases h1.2 with ⟨h, -⟩ | ⟨g', cap, cur, e, -, hb, k1, k2, k3, k4⟩
  · simp at h
  · simp only [Value.slice.injEq, Option.some.injEq, Addr.mk.injEq, and_true, true_and] at e
    obtain ⟨rfl, rfl⟩ := e
    refine ⟨h5 g rfl, k1, k2, cur.toList.drop xs.length, ?_⟩
    have : cur.toList = xs ++ cur.toList.drop xs.length := by
      conv => lhs; rw [← List.take_append_drop xs.length cur.toList]
      congr 1
      rw [hl]
      exact k4
    rw [← this]
    simpa [Blk] using hb
theorem named_one (x : Sh) : ∀ u ∈ x.named, u.oneCell' = true := by
  intro u hu
  simp [Sh.named] at hu
  rcases hu with rfl | rfl | rfl | rfl <;> rfl
set_option maxRecDepth 100000 in
set_option maxHeartbeats 8000000 in
theorem tidySum_i {tm am : Int} (ht : tm ≤ 8) (ha : am ≤ 8) {x y : Ex} {X : Nat → Prop} {sx sy : Option Addr} {cx cy : Nat} {w : World} (hX : ∀ b, X b → b < w.heap.size) (hx : ExX X w x sx cx) (hy : ExX X w y sy cy) (tx : x.tree tm am = true) (ty : y.tree tm am = true) (hsz : x.size + y.size ≤ 100000) :
    Calls Tryz.prog 141 #[.agg #[.int .i64 x.kind, .int .i64 x.num, .slice sx x.kids.length cx], .agg #[.int .i64 y.kind, .int .i64 y.num, .slice sy y.kids.length cy]] w fun f w' => ∃ s' c', f = .returned (.agg #[.int .i64 (sumT x y).kind, .int .i64 (sumT x y).num, .slice s' (sumT x y).kids.length c']) ∧ ExX X w' (sumT x y) s' c' ∧ Below w.heap.size w w' := by
  obtain ⟨-, hlen, hcap, -, -⟩ := kid_at hx.rd
  obtain ⟨-, hlen', hcap', -, -⟩ := kid_at hy.rd
  unfold maxLen at hcap hcap'
  obtain ⟨Z, hZ⟩ : ∃ Z, Z = sumT x y := ⟨_, rfl⟩
  rw [← hZ]
  have HZ := Lib.hid hZ
  clear hZ
  have hmm := @run_makeMap Tryz.prog
  go_enter Tryz.func141, Tryz.ntmps141
  go_wp2_with fail
  clear hmm
  have L := ((((Blk.new3 w 30 (.int .i64 x.kind) (.int .i64 x.num) (.slice sx x.kids.length cx)).alloc (.cells #[.int .i64 y.kind, .int .i64 y.num, .slice sy y.kids.length cy] 30)).alloc (.cells #[.int .i64 0, .int .i64 0, .slice none 0 0] 30)).alloc (.cells #[] 198)).alloc (.map #[] 0)
  have M := (((Blk.new3 (w.alloc (.cells #[.int .i64 x.kind, .int .i64 x.num, .slice sx x.kids.length cx] 30)) 30 (.int .i64 y.kind) (.int .i64 y.num) (.slice sy y.kids.length cy)).alloc (.cells #[.int .i64 0, .int .i64 0, .slice none 0 0] 30)).alloc (.cells #[] 198)).alloc (.map #[] 0)
  have R := ((Blk.new3 ((w.alloc (.cells #[.int .i64 x.kind, .int .i64 x.num, .slice sx x.kids.length cx] 30)).alloc (.cells #[.int .i64 y.kind, .int .i64 y.num, .slice sy y.kids.length cy] 30)) 30 (.int .i64 0) (.int .i64 0) (.slice none 0 0)).alloc (.cells #[] 198)).alloc (.map #[] 0)
  have E0 := (Blk.new0 (((w.alloc (.cells #[.int .i64 x.kind, .int .i64 x.num, .slice sx x.kids.length cx] 30)).alloc (.cells #[.int .i64 y.kind, .int .i64 y.num, .slice sy y.kids.length cy] 30)).alloc (.cells #[.int .i64 0, .int .i64 0, .slice none 0 0] 30)) 198).alloc (.map #[] 0)
  have hM : MapAt Tryz.prog 9 kfS Value.bool _ _ ([] : List (List UInt8 × Bool)) := MapAt.made ((((w.alloc (.cells #[.int .i64 x.kind, .int .i64 x.num, .slice sx x.kids.length cx] 30)).alloc (.cells #[.int .i64 y.kind, .int .i64 y.num, .slice sy y.kids.length cy] 30)).alloc (.cells #[.int .i64 0, .int .i64 0, .slice none 0 0] 30)).alloc (.cells #[] 198))
  have hB : Below w.heap.size w (((((w.alloc (.cells #[.int .i64 x.kind, .int .i64 x.num, .slice sx x.kids.length cx] 30)).alloc (.cells #[.int .i64 y.kind, .int .i64 y.num, .slice sy y.kids.length cy] 30)).alloc (.cells #[.int .i64 0, .int .i64 0, .slice none 0 0] 30)).alloc (.cells #[] 198)).alloc (.map #[] 0)) := by (repeat' first | exact Below.refl _ _ | assumption | apply Below.alloc | apply Below.drew | apply Below.setCell | omega | (simp; done) | (simp; omega))
  have hz0 : (((((w.alloc (.cells #[.int .i64 x.kind, .int .i64 x.num, .slice sx x.kids.length cx] 30)).alloc (.cells #[.int .i64 y.kind, .int .i64 y.num, .slice sy y.kids.length cy] 30)).alloc (.cells #[.int .i64 0, .int .i64 0, .slice none 0 0] 30)).alloc (.cells #[] 198)).alloc (.map #[] 0)).heap.size = w.heap.size + 5 := by simp
  simp at M R E0 hM
  generalize ((((w.alloc (.cells #[.int .i64 x.kind, .int .i64 x.num, .slice sx x.kids.length cx] 30)).alloc (.cells #[.int .i64 y.kind, .int .i64 y.num, .slice sy y.kids.length cy] 30)).alloc (.cells #[.int .i64 0, .int .i64 0, .slice none 0 0] 30)).alloc (.cells #[] 198)).alloc (.map #[] 0) = wb at L M R E0 hM hB hz0 ⊢
  have hx1 : ExX (XB X w.heap.size 5) wb x sx cx := hx.boxes hB
  have hy1 : ExX (XB X w.heap.size 5) wb y sy cy := hy.boxes hB
  have hB' := hB
  have hXW : ∀ b, XB X w.heap.size 5 b → b < wb.heap.size := fun b q => q.elim (fun q => by have := hX _ q; omega) (fun q => by omega)
  clear hx hy
  obtain ⟨x0, hx0⟩ := mkval ?a1_0
  obtain ⟨x2, hx2⟩ := mkval ?a1_2
  obtain ⟨x5, hx5⟩ := mkval ?a1_5
  refine region_rs [(3, 1)] [] (fun _ _ => False) (wb.heap.size) (fun i iv vs wx => match i with
    | 0 => vs 0 = x0
    | 1 => ∃ a1 c1 M1, vs 1 = .slice a1 M1.length c1 ∧ (M1.map Sh.e = x.summ ∧ ShX (XB X w.heap.size 5) wb M1) ∧ AppS (foot [(3, 1)] [] (fun _ _ => False) 6 1 iv) wx 30 3 M1.length (shD M1) (.slice a1 M1.length c1)
    | 2 => vs 2 = x2
    | 3 => ∃ a2 c2 M1 M2, vs 3 = .slice a2 (M1.length + M2.length) c2 ∧ ((M1.map Sh.e = x.summ ∧ ShX (XB X w.heap.size 5) wb M1) ∧ (M2.map Sh.e = y.summ ∧ ShX (XB X w.heap.size 5) wb M2)) ∧ AppS (foot [(3, 1)] [] (fun _ _ => False) 6 3 iv) wx 30 3 (M1.length + M2.length) (shD (M1 ++ M2)) (.slice a2 (M1.length + M2.length) c2)
    | 4 => vs 4 = .int .i64 (lenV (vs 3))
    | 5 => vs 5 = x5
    | _ => True) (fun i iv vs => match i with
    | 0 => vs 0 = x0
    | 1 => ∃ a1 c1 M1, vs 1 = .slice a1 M1.length c1 ∧ (M1.map Sh.e = x.summ ∧ ShX (XB X w.heap.size 5) wb M1)
    | 2 => vs 2 = x2
    | 3 => ∃ a2 c2 M1 M2, vs 3 = .slice a2 (M1.length + M2.length) c2 ∧ ((M1.map Sh.e = x.summ ∧ ShX (XB X w.heap.size 5) wb M1) ∧ (M2.map Sh.e = y.summ ∧ ShX (XB X w.heap.size 5) wb M2))
    | 4 => vs 4 = .int .i64 (lenV (vs 3))
    | 5 => vs 5 = x5
    | _ => True) (by kernel_rfl) (by kernel_rfl) [0, 1, 2, 3, 4, 5] (by kernel_rfl) ?hbase ?hGb ?hG ?hJ ?hE ?hEE ?hstep ?hQ
  case hbase => first | exact Nat.le_refl _ | omega | (simp; omega)
  case hGb =>
    exact fun _ _ h => h.elim
  case hG =>
    exact fun _ _ _ h => h.elim
  case hJ =>
    intro i hi iv iv' vs vs' wx wx' ha hv hz hk hj
    simp only [List.mem_cons, List.not_mem_nil, or_false] at hi
    rcases hi with rfl | rfl | rfl | rfl | rfl | rfl
    · exact (hv.out 0 (mem_of (by kernel_rfl))).symm.trans hj
    · have e1 := hv.out 1 (mem_of (by kernel_rfl))
      obtain ⟨a1, c1, M1, q1, q3, q2⟩ := hj
      exact ⟨a1, c1, M1, e1 ▸ q1, q3, (q2.keep (fun b hb h1 => hk.out b hb h1)).more (fun b hb h1 => foot_agree (l := ancs _ 6 1) (by exact of_decide_eq_true (by kernel_rfl)) ha.out h1)⟩
    · exact (hv.out 2 (mem_of (by kernel_rfl))).symm.trans hj
    · have e3 := hv.out 3 (mem_of (by kernel_rfl))
      obtain ⟨a2, c2, M1, M2, q1, q3, q2⟩ := hj
      exact ⟨a2, c2, M1, M2, e3 ▸ q1, q3, (q2.keep (fun b hb h1 => hk.out b hb h1)).more (fun b hb h1 => foot_agree (l := ancs _ 6 3) (by exact of_decide_eq_true (by kernel_rfl)) ha.out h1)⟩
    · have e3 := hv.out 3 (mem_of (by kernel_rfl))
      have e4 := hv.out 4 (mem_of (by kernel_rfl))
      have hj' : vs 4 = .int .i64 (lenV (vs 3)) := hj
      show vs' 4 = .int .i64 (lenV (vs' 3))
      rw [← e3, ← e4]
      exact hj'
    · exact (hv.out 5 (mem_of (by kernel_rfl))).symm.trans hj
  case hE =>
    intro i hi iv vs wx hj
    simp only [List.mem_cons, List.not_mem_nil, or_false] at hi
    rcases hi with rfl | rfl | rfl | rfl | rfl | rfl
    · exact hj
    · obtain ⟨a1, c1, M1, q1, q3, -⟩ := hj
      exact ⟨a1, c1, M1, q1, q3⟩
    · exact hj
    · obtain ⟨a2, c2, M1, M2, q1, q3, -⟩ := hj
      exact ⟨a2, c2, M1, M2, q1, q3⟩
    · exact hj
    · exact hj
  case hEE =>
    intro i hi iv iv' vs vs' ha hv hj
    simp only [List.mem_cons, List.not_mem_nil, or_false] at hi
    rcases hi with rfl | rfl | rfl | rfl | rfl | rfl
    · exact (hv.out 0 (mem_of (by kernel_rfl))).symm.trans hj
    · have e1 := hv.out 1 (mem_of (by kernel_rfl))
      have hj' : ∃ a1 c1 M1, vs 1 = .slice a1 M1.length c1 ∧ (M1.map Sh.e = x.summ ∧ ShX (XB X w.heap.size 5) wb M1) := hj
      show ∃ a1 c1 M1, vs' 1 = .slice a1 M1.length c1 ∧ (M1.map Sh.e = x.summ ∧ ShX (XB X w.heap.size 5) wb M1)
      rw [← e1]
      exact hj'
    · exact (hv.out 2 (mem_of (by kernel_rfl))).symm.trans hj
    · have e3 := hv.out 3 (mem_of (by kernel_rfl))
      have hj' : ∃ a2 c2 M1 M2, vs 3 = .slice a2 (M1.length + M2.length) c2 ∧ ((M1.map Sh.e = x.summ ∧ ShX (XB X w.heap.size 5) wb M1) ∧ (M2.map Sh.e = y.summ ∧ ShX (XB X w.heap.size 5) wb M2)) := hj
      show ∃ a2 c2 M1 M2, vs' 3 = .slice a2 (M1.length + M2.length) c2 ∧ ((M1.map Sh.e = x.summ ∧ ShX (XB X w.heap.size 5) wb M1) ∧ (M2.map Sh.e = y.summ ∧ ShX (XB X w.heap.size 5) wb M2))
      rw [← e3]
      exact hj'
    · have e3 := hv.out 3 (mem_of (by kernel_rfl))
      have e4 := hv.out 4 (mem_of (by kernel_rfl))
      have hj' : vs 4 = .int .i64 (lenV (vs 3)) := hj
      show vs' 4 = .int .i64 (lenV (vs' 3))
      rw [← e3, ← e4]
      exact hj'
    · exact (hv.out 5 (mem_of (by kernel_rfl))).symm.trans hj
  case hstep =>
    intro i hi opr ho iv vs w1 hB hS hSo hd he hbd hsep hun K hK
    simp only [List.mem_cons, List.not_mem_nil, or_false] at hi
    have hzB := hB.size
    have L1 := L.keep (hSo.out.block _ L.lt (fun ⟨_, h⟩ => h.elim))
    have l0 := L1.c0
    have l1 := L1.c1
    have l2 := L1.c2
    have M1' := M.keep (hSo.out.block _ M.lt (fun ⟨_, h⟩ => h.elim))
    have m0 := M1'.c0
    have m1 := M1'.c1
    have m2 := M1'.c2
    generalize hA : putFrom _ 0 vs _ = A at hK ⊢
    simp only [putFrom, puts] at hA
    rcases hi with rfl | rfl | rfl | rfl | rfl | rfl
    all_goals
      simp at ho
      subst ho
      subst hA
    · go_wp2_with fail
      refine Onward.mk (hK ?val1_0 _ _ (fun h => by cases h) ?eqA (Spares.refl _) (fun iv' _ _ => ?ja))
      case eqA => first | rfl | (simp only [puts]; rfl)
      case ja => exact hx0.out.symm
    · have h0 := (hd.out 0 (mem_of (by kernel_rfl)) (by decide) (by kernel_rfl)).trans hx0.out
      go_wp2_with fail
      refine (summands_nil (KeptX.of_spares hSo.out (fun b _ ⟨_, h⟩ => h.elim)) (fun b h => Nat.lt_of_lt_of_le (hXW b h) hSo.out.size) hx1 tx (by omega)).mono ?_
      rintro e w2 ⟨a1, c1, M1, rfl, hp, hap, ht⟩
      go_wp2_with fail
      exact Onward.mk (hK (.slice a1 M1.length c1) _ _ (fun h => by cases h) (by first | rfl | (simp only [puts, h0])) (ht.more (fun b h => h.elim)) (fun iv' ag hi => ⟨a1, c1, M1, rfl, hp, hap.more (fun b _ h => by rcases h with h | h; exact h.elim; exact foot_new hi h.1 h.2)⟩))
    · go_wp2_with fail
      refine Onward.mk (hK ?val1_2 _ _ (fun h => by cases h) ?eqA (Spares.refl _) (fun iv' _ _ => ?ja))
      case eqA => first | rfl | (simp only [puts]; rfl)
      case ja => exact hx2.out.symm
    · obtain ⟨a1, c1, M1, h1, p1, f1⟩ := hd.out 1 (mem_of (by kernel_rfl)) (by decide) (by kernel_rfl)
      have h2 := (hd.out 2 (mem_of (by kernel_rfl)) (by decide) (by kernel_rfl)).trans hx2.out
      have hF1 : ∀ b, (foot [(3, 1)] [] (fun _ _ => False) 6 1 iv) b → ((wb).heap.size ≤ b ∧ b < w1.heap.size) := by
        rintro b ⟨j, hj, hh⟩
        have hj' := of_decide_eq_true (List.all_eq_true.1 (show ((chainOf [(3, 1)] 6 1).all fun j => decide (j ∈ [1])) = true from by kernel_rfl) j hj)
        simp only [List.mem_cons, List.not_mem_nil, or_false] at hj'
        rcases hj' with rfl
        · have q := (hbd.out 1 (mem_of (by kernel_rfl)) (by decide))
          rcases hh with hh | ⟨m, hm, hg⟩
          · exact (by omega)
          · simp at hm
      have h01 : KeptX (XB X w.heap.size 5) wb w1 := KeptX.of_spares hSo.out (fun b _ ⟨_, h⟩ => h.elim)
      have hQ1 : KeptX (fun b => (XB X w.heap.size 5 b ∨ wb.heap.size ≤ b) ∧ b < w1.heap.size) wb w1 := h01.more (fun b hb h => ⟨Or.inl h, Nat.lt_of_lt_of_le hb h01.1⟩)
      have hQ3 : ∀ b, foot [(3, 1)] [] (fun _ _ => False) 6 1 iv b → (XB X w.heap.size 5 b ∨ wb.heap.size ≤ b) ∧ b < w1.heap.size := fun b h => by
        have h := hF1 b h
        exact ⟨Or.inr h.1, h.2⟩
      have hQ4 : ExX (fun b => (XB X w.heap.size 5 b ∨ wb.heap.size ≤ b) ∧ b < w1.heap.size) wb y sy cy := hy1.less (fun b hb h => h.1.elim id (fun q => by omega))
      have hQ5 : M1.length + y.size ≤ 1000000 := by
        have q1 := congrArg List.length p1.1
        rw [List.length_map] at q1
        have q2 := summ_len tx
        omega
      go_wp2_with fail
      refine (summands_i (L := M1) hQ1 (fun b h => h.2) hQ3 hQ4 ty hQ5 f1).mono ?_
      rintro e w2 ⟨a2, c2, M2, rfl, hp, hap, ht⟩
      go_wp2_with fail
      exact Onward.mk (hK (.slice a2 (M1.length + M2.length) c2) _ _ (fun h => by cases h) (by first | rfl | (simp only [puts, h1, h2])) (ht.more (fun b h => Or.inr ⟨1, by decide, h⟩)) (fun iv' ag hi => ⟨a2, c2, M1, M2, rfl, ⟨p1, hp.1, fun x hx => (hp.2 x hx).less (fun b hb h => ⟨Or.inl h, Nat.lt_of_lt_of_le hb hQ1.1⟩)⟩, hap.more (fun b _ h => by rcases h with h | h; exact foot_step (by kernel_rfl) ag h; exact foot_new hi h.1 h.2)⟩))
    · obtain ⟨a2, c2, M1, M2, h3, p3, f3⟩ := hd.out 3 (mem_of (by kernel_rfl)) (by decide) (by kernel_rfl)
      go_wp2_with fail
      exact Onward.mk (hK (.int .i64 (↑M1.length + ↑M2.length)) _ _ (fun h => by cases h) (by first | rfl | (simp only [puts, h3])) (Spares.refl _) (fun iv' _ _ => by
        show (.int .i64 (↑M1.length + ↑M2.length) : Value) = .int .i64 (lenV (vs 3))
        simp only [h3]; simp [lenV]))
    · go_wp2_with fail
      refine Onward.mk (hK ?val1_5 _ _ (fun h => by cases h) ?eqA (Spares.refl _) (fun iv' _ _ => ?ja))
      case eqA => first | rfl | (simp only [puts]; rfl)
      case ja => exact hx5.out.symm
  case hQ =>
    intro iv vs wx hB hSp hd he hbd hsep
    have hzB := hB.size
    have h0 := (hd.out 0 (mem_of (by kernel_rfl)) (not_eaten (by kernel_rfl))).trans hx0.out
    obtain ⟨a1, c1, M1, h1, p1⟩ := he.out 1 (mem_of (by kernel_rfl))
    have h2 := (hd.out 2 (mem_of (by kernel_rfl)) (not_eaten (by kernel_rfl))).trans hx2.out
    obtain ⟨a2, c2, M1, M2, h3, p3, f3⟩ := hd.out 3 (mem_of (by kernel_rfl)) (not_eaten (by kernel_rfl))
    have h4 : vs 4 = .int .i64 (lenV (vs 3)) := hd.out 4 (mem_of (by kernel_rfl)) (not_eaten (by kernel_rfl))
    have h5 := (hd.out 5 (mem_of (by kernel_rfl)) (not_eaten (by kernel_rfl))).trans hx5.out
    simp only [putFrom, puts]
    have so3 : ∀ b, (foot [(3, 1)] [] (fun _ _ => False) 6 3 iv) b → (wb).heap.size ≤ b := by
      rintro b ⟨j, hj, hh⟩
      have hj' := of_decide_eq_true (List.all_eq_true.1 (show ((chainOf [(3, 1)] 6 3).all fun j => decide (j ∈ [3, 1])) = true from by kernel_rfl) j hj)
      simp only [List.mem_cons, List.not_mem_nil, or_false] at hj'
      rcases hj' with rfl | rfl
      · have q := (hbd.out 3 (mem_of (by kernel_rfl))).1
        rcases hh with hh | ⟨m, hm, hg⟩
        · omega
        · simp at hm
      · have q := (hbd.out 1 (mem_of (by kernel_rfl))).1
        rcases hh with hh | ⟨m, hm, hg⟩
        · omega
        · simp at hm
    have f3' := f3
    have so := Lib.hid so3
    have p3' := p3
    clear p3 f3 so3
    obtain ⟨⟨pa, pb⟩, pc, pd⟩ := p3'
    obtain ⟨Ls, hLs⟩ : ∃ Ls, Ls = M1 ++ M2 := ⟨_, rfl⟩
    have hn : M1.length + M2.length = Ls.length := by rw [hLs, List.length_append]
    have hLe : Ls.map Sh.e = x.summ ++ y.summ := by rw [hLs, List.map_append, pa, pc]
    have hLX : ShX (XB X w.heap.size 5) wb Ls := by rw [hLs]; exact pb.append pd
    rw [hn] at h3
    rw [hn, ← hLs] at f3'
    replace h4 : vs 4 = .int .i64 (Ls.length : Int) := by rw [h4, h3]; rfl
    have hLn : Ls.length ≤ 100000 := by
      have q := congrArg List.length hLe
      rw [List.length_map, List.length_append] at q
      have := summ_len tx
      have := summ_len ty
      omega
    have hLt : ∀ z ∈ Ls, z.e.tree tm am = true ∧ z.e.size ≤ 100000 := by
      intro z hz
      have hm : z.e ∈ x.summ ++ y.summ := by rw [← hLe]; exact List.mem_map.2 ⟨z, hz, rfl⟩
      rcases List.mem_append.1 hm with h | h
      · have := (summ_spec tm am _ x (Nat.le_refl _) tx).1 _ h
        exact ⟨this.1, by omega⟩
      · have := (summ_spec tm am _ y (Nat.le_refl _) ty).1 _ h
        exact ⟨this.1, by omega⟩
    simp only [h3, h4, h5, Nat.zero_add, Nat.reduceAdd]
    have hSx := hSp.out
    have E1 := E0.keep (hSx.block _ E0.lt (fun ⟨_, h⟩ => h.elim))
    have hM1 := hM.keep (hSx.block _ hM.lt (fun ⟨_, h⟩ => h.elim))
    have R1 := R.keep (hSx.block _ R.lt (fun ⟨_, h⟩ => h.elim))
    have hLX1 : ShX (XB X w.heap.size 5) wx Ls := hLX.keep (KeptX.of_spares hSx (fun b _ ⟨_, h⟩ => h.elim))
    have hBx := hB'.trans (hB.mono (by omega))
    have hszx := hSx.size
    obtain ⟨at0, cap0, e0, hc1, hc2, -, hrow⟩ := AppS.at f3'
    simp only [Value.slice.injEq, true_and] at e0
    obtain ⟨rfl, rfl⟩ := e0
    have Hrow : Hid (Ls = [] ∨ ∃ g, a2 = some ⟨g, 0, none⟩ ∧ wb.heap.size ≤ g ∧ g < wx.heap.size ∧ ∃ rest, Blk wx g 30 (shs Ls ++ rest)) := by
      rcases hrow with h | ⟨g, h1, h2, h3, h4⟩
      · refine Or.inl ?_
        have := shs_length Ls
        rw [h] at this
        exact List.eq_nil_of_length_eq_zero (by simp at this; omega)
      · exact Or.inr ⟨g, h1, so.out g h2, h3, h4⟩
    have HLX := Lib.hid hLX
    have hKb0 : KeptX (XB X w.heap.size 5) wb wx := KeptX.of_spares hSx (fun b _ ⟨_, h⟩ => h.elim)
    have HLt := Lib.hid hLt
    have HLe := Lib.hid hLe
    clear hd he hbd hsep h0 h2 h1 h3 h4 h5 hrow f3' so pa pb pc pd hLs hn L M hx1 hy1 hSp hM E0 R hLX hLt hLe hXW
    obtain ⟨wz, rfl⟩ : ∃ wz, wz = wx := ⟨_, rfl⟩
    unfold maxLen at hc2
    go_wp2_with fail
    go_loopw [5, 20] (fun l5 i20 wr => ∃ (k : Nat) (N : List Sh), k ≤ Ls.length ∧ i20 = .int .i64 k ∧ Hid (N.map Sh.e = nub ((Ls.take k).map Sh.e)) ∧ (∀ z ∈ N, z ∈ Ls) ∧ AppS (fun b => b = w.heap.size + 1 + 1 + 1 ∨ wz.heap.size ≤ b) wr 198 4 N.length ((namedsV N).map D.raw) l5 ∧ (∃ g c, l5 = .slice (some ⟨g, 0, none⟩) N.length c) ∧
      MapAt Tryz.prog 9 kfS Value.bool wr (w.heap.size + 1 + 1 + 1 + 1) (N.map fun z => (z.e.text, true)) ∧ Spares (fun b => b = w.heap.size + 1 + 1 + 1 ∨ b = w.heap.size + 1 + 1 + 1 + 1) wz wr) (fun _ i _ => Ls.length - (intOf i).toNat)
    case atStart => exact ⟨0, [], by omega, rfl, by show _ = _; simp [nub, growL], by simp, AppS.empty E1 (Or.inl rfl), ⟨_, _, rfl⟩, hM1, Spares.refl _⟩
    case round =>
      obtain ⟨k, N, hk, rfl, HN, hsub, happ, ⟨lg, lc, rfl⟩, hMp, hSpr⟩ := hrel
      have hszr := hSpr.size
      by_cases hlt : k < Ls.length
      · obtain ⟨z, hz⟩ : ∃ z, Ls[k]? = some z := ⟨_, List.getElem?_eq_getElem hlt⟩
        have hzm := List.mem_of_getElem? hz
        rcases Hrow.out with h | ⟨g, e9, hg1, hg2, rest, hblk⟩
        · exfalso; rw [h] at hlt; simp at hlt
        subst e9
        have hbr := hblk.keep (hSpr.block g hg2 (by omega))
        have q : ∀ j v, z.cells[j]? = some v → wr.cell? ⟨g, k * 3 + j, none⟩ = some v := by
          intro j v hv
          have hj : j < 3 := by have := (List.getElem?_eq_some_iff.1 hv).1; simpa [Sh.cells] using this
          rw [hbr.cell, List.getElem?_append_left (by rw [shs_length]; omega), shs_at Ls k z hz j hj, hv]
        have q0 := q 0 _ rfl
        have q1 := q 1 _ rfl
        have q2 := q 2 _ rfl
        rw [Nat.add_zero] at q0
        obtain ⟨htz, hzs⟩ := HLt.out z hzm
        have hzX := hLX1.keep (KeptX.of_spares hSpr (fun b _ h => Or.inr (by omega))) z hzm
        have ha1 := Int.natCast_nonneg k
        have hb1 : (k : Int) < (Ls.length : Int) := by omega
        have hzk := Ex.size_eq z.e
        have hT := textOf_i (w := wr.alloc (.cells #[.int .i64 z.e.kind, .int .i64 z.e.num, .slice z.s z.e.kids.length z.c] 30)) (k := z.e.kind) (n := z.e.num) (hzX.rd.alloc _) ht ha (by rw [← Ex.eta]; exact htz) (by omega)
        rw [← Ex.eta z.e] at hT
        have HT := Lib.hid hT
        have hlb := text_bound tm am ht ha _ z.e (Nat.le_refl _) htz
        clear q hT
        go_wp2_with fail
        refine HT.out.mono ?_
        rintro e w2 ⟨rfl, hb⟩
        have hbw : Below wr.heap.size wr w2 := Below.on (by (repeat' first | exact Below.refl _ _ | assumption | apply Below.alloc | apply Below.drew | apply Below.setCell | omega | (simp; done) | (simp; omega))) hb (by simp)
        have hsz2 := hbw.size
        have hM2 := hMp.below hbw
        have happ2 := happ.keep (fun b hb _ => hbw.block b hb)
        have hSp2 := hSpr.trans (Spares.of_below hbw)
        have hL8 := (Blk.new3 wr 30 (.int .i64 z.e.kind) (.int .i64 z.e.num) (.slice z.s z.e.kids.length z.c)).below hb
        have hkey := keyS (t := z.e.text) (by omega)
        have hnod := hM2.nodup
        have hts : (Ls.take (k + 1)).map Sh.e = (Ls.take k).map Sh.e ++ [z.e] := by
          rw [List.take_succ_eq_append_getElem hlt, List.map_append, (List.getElem?_eq_some_iff.1 hz).2]
          rfl
        have Hts := Lib.hid hts
        have Hkey := Lib.hid hkey
        clear hb hMp happ hSpr q0 q1 q2 hblk hbr hts hkey
        by_cases hin : z.e ∈ N.map Sh.e
        · have hfind : Hid (findM (N.map fun z => (z.e.text, true)) z.e.text = some true) := by
            obtain ⟨z', hz', hze⟩ := List.mem_map.1 hin
            obtain ⟨j, hj⟩ := List.mem_iff_getElem?.1 hz'
            exact findM_at hnod (j := j) (by rw [List.getElem?_map, hj]; simp [hze])
          have HN2 : Hid (N.map Sh.e = nub ((Ls.take (k + 1)).map Sh.e)) := by
            show _ = _
            rw [Hts.out, nub_snoc, grow1_old (by rw [← HN.out]; exact hin), HN.out]
          clear hin
          go_wp2_with (at_lookup; refine wpList_lookup_at _ rfl _ _ 112 false rfl 9 4 lawS Tryz.underlying112 (.bool false) (zeroB _) kfS_inj (w.heap.size + 1 + 1 + 1 + 1) hM2 z.e.text Hkey.out rfl rfl (some true) hfind.out ?_; simp only [lookV])
          go_roundw
          case rel => exact ⟨k + 1, N, by omega, by go_num, HN2, hsub, happ2, ⟨_, _, rfl⟩, hM2, hSp2⟩
          case measure => simp [intOf]; omega
        · have hfind : Hid (findM (N.map fun z => (z.e.text, true)) z.e.text = none) := findM_none.2 (by
            intro p hp hpe
            obtain ⟨z', hz', rfl⟩ := List.mem_map.1 hp
            refine hin (List.mem_map.2 ⟨z', hz', ?_⟩)
            exact text_inj ht ha (HLt.out z' (hsub z' hz')).1 htz hpe)
          have HN2 : Hid ((N ++ [z]).map Sh.e = nub ((Ls.take (k + 1)).map Sh.e)) := by
            show _ = _
            rw [Hts.out, nub_snoc, grow1_new (by rw [← HN.out]; exact hin), List.map_append, HN.out]
            rfl
          clear hin
          have hNl : N.length ≤ 100000 := by
            have q := congrArg List.length HN.out
            rw [List.length_map] at q
            have q2 := nub_len ((Ls.take k).map Sh.e)
            rw [List.length_map, List.length_take] at q2
            omega
          have hS4 : ∀ b, (b = w.heap.size + 1 + 1 + 1 ∨ wz.heap.size ≤ b) → b ∉ [w.heap.size + 1 + 1 + 1 + 1] := by intro b h; simp; omega
          have HS4 := Lib.hid hS4
          have Hnod := Lib.hid hnod
          have HSp2 := Lib.hid hSp2
          have HL8 := Lib.hid hL8
          clear hS4 hnod hSp2 hL8
          go_wp2_with (first
            | (at_lookup; refine wpList_lookup_at _ rfl _ _ 112 false rfl 9 4 lawS Tryz.underlying112 (.bool false) (zeroB _) kfS_inj (w.heap.size + 1 + 1 + 1 + 1) hM2 z.e.text Hkey.out rfl rfl none hfind.out ?_; simp only [lookV])
            | (at_mapUpdate; go_must (refine (wpList_mapUpdate_at _ rfl _ _ _ 112 rfl 9 4 lawS Tryz.underlying112 kfS_inj (w.heap.size + 1 + 1 + 1 + 1) hM2 z.e.text Hkey.out true rfl rfl rfl ?_); intro w3 hM3 ho3; have hsz3 := ho3.size; have L83 := HL8.out.keep (ho3.block _ HL8.out.lt (by simp; omega)); have b0 := L83.c0; have b1 := L83.c1; have b2 := L83.c2; have happ3 := (happ2.keep (fun b hb h => ho3.block b hb (HS4.out b h))).keep (w' := w3.alloc (.cells #[.string (bs z.e.text), .int .i64 z.e.kind, .int .i64 z.e.num, .slice z.s z.e.kids.length z.c] 198)) (fun b hb _ => Below.heap_alloc w3 _ b hb); have Hnew := Lib.hid (news_blk (Blk.made w3 198 #[.string (bs z.e.text), .int .i64 z.e.kind, .int .i64 z.e.num, .slice z.s z.e.kids.length z.c])); have Ho3 := Lib.hid ho3; have HM3 := Lib.hid hM3; clear ho3 hM3 L83))
            | (at_builtin; go_must (refine wpList_append_s _ rfl _ _ 195 rfl 198 (.agg #[.string ⟨#[]⟩, .int .i64 0, .int .i64 0, .slice none 0 0]) 4 56 Tryz.underlying195 info_named rfl (by decide) (S := fun b => b = w.heap.size + 1 + 1 + 1 ∨ wz.heap.size ≤ b) (T := fun _ => False) _ rfl happ3 ⟨w3.heap.size, 0, none⟩ 1 1 z.named rfl Hnew.out ⟨[], Ows.raws (named_one z), by simp, by simp⟩ (fun _ _ _ h => h) rfl (named_one z) (by omega) (by omega) (by unfold maxLen; omega) ?_; intro g5 c5 w5 hap5 ht5)))
          go_roundw
          case rel =>
            have ho3 := Ho3.out
            have hM3 := HM3.out
            have hsp3 : Spares (fun b => b = w.heap.size + 1 + 1 + 1 ∨ b = w.heap.size + 1 + 1 + 1 + 1) w2 (w3.alloc (.cells #[.string (bs z.e.text), .int .i64 z.e.kind, .int .i64 z.e.num, .slice z.s z.e.kids.length z.c] 198)) :=
              Spares.trans ⟨ho3.os, ho3.tape, ho3.output, ho3.size, fun b hb h => ho3.block b hb (by simp; omega)⟩ (Spares.of_below (Below.alloc (Below.refl _ _) (Nat.le_refl _) _))
            rw [putM_new hfind.out] at hM3
            have hM4 := hM3.keep (w' := w3.alloc (.cells #[.string (bs z.e.text), .int .i64 z.e.kind, .int .i64 z.e.num, .slice z.s z.e.kids.length z.c] 198)) (Below.heap_alloc w3 _ _ hM3.lt)
            have hlt4 := hM3.lt
            have hs3 : (w3.alloc (.cells #[.string (bs z.e.text), .int .i64 z.e.kind, .int .i64 z.e.num, .slice z.s z.e.kids.length z.c] 198)).heap.size = w3.heap.size + 1 := by simp
            refine ⟨k + 1, N ++ [z], by omega, by go_num, HN2, fun q hq => ?_, ?_, ⟨g5, c5, by simp⟩, ?_, ?_⟩
            · rcases List.mem_append.1 hq with h | h
              · exact hsub q h
              · rw [List.mem_singleton] at h; rw [h]; exact hzm
            · rw [List.length_append, namedsV_snoc]
              exact hap5.more (fun b _ h => h.elim id (fun h => h.elim (fun h => h.elim) (fun h => Or.inr (by omega))))
            · rw [List.map_append]
              exact hM4.keep (ht5.block _ (by omega) (by omega))
            · have q := (HSp2.out.trans hsp3).size
              refine ⟨ht5.os.trans (HSp2.out.trans hsp3).os, ht5.tape.trans (HSp2.out.trans hsp3).tape, ht5.output.trans (HSp2.out.trans hsp3).output, Nat.le_trans q ht5.size, fun b hb h => ?_⟩
              exact (ht5.block b (by omega) (by omega)).trans ((HSp2.out.trans hsp3).block b hb h)
          case measure => simp [intOf]; omega
      · obtain rfl : k = Ls.length := by omega
        have hNe := HN.out
        rw [List.take_length, HLe.out] at hNe
        obtain ⟨hlg, hcc1, hcc2, rest, hblk⟩ := happ.blk
        have hNl : N.length ≤ 100000 := by
          have q := congrArg List.length HN.out
          rw [List.length_map] at q
          have q2 := nub_len ((Ls.take Ls.length).map Sh.e)
          rw [List.length_map, List.length_take] at q2
          omega
        unfold maxLen at hcc2
        have R2 := R1.keep (hSpr.block _ R1.lt (by omega))
        have hBr : Below w.heap.size w wr := hBx.trans ((hSpr.below (B := w.heap.size) (by omega) (fun b h => by omega)))
        have hKbr : KeptX (XB X w.heap.size 5) wb wr := hKb0.trans (KeptX.of_spares hSpr (fun b _ h => Or.inr (by omega)))
        have hlgl := hblk.lt
        clear hMp happ HN hSpr R1 hLX1 Hrow
        obtain ⟨wo, rfl⟩ : ∃ v, v = wr := ⟨_, rfl⟩
        go_wp2_with fail
        refine (sort_named hblk (by omega)).mono ?_
        rintro f w5 ⟨rfl, N', hp, hso, hcell, hsp⟩
        have hNe' : N'.map Sh.e = sortI (nub (x.summ ++ y.summ)) := by
          refine sortI_unique ht ha (fun q hq => ?_) (by rw [← hNe]; exact hp.map Sh.e) (List.pairwise_map.2 hso)
          have := nub_mem.1 hq
          rw [← HLe.out] at this
          obtain ⟨z, hz, rfl⟩ := List.mem_map.1 this
          exact (HLt.out z hz).1
        have hZ : Z = foldS (N'.map Sh.e) := by rw [HZ.out, sumT, hNe']
        have hlN := hp.length_eq
        have hKb5 : KeptX (XB X w.heap.size 5) wb w5 := ⟨Nat.le_trans hKbr.1 hsp.size, fun b hb hx => (hsp.block b (Nat.lt_of_lt_of_le hb hKbr.1) (fun e => by
          rcases hlg with h | h
          · exact hx (Or.inr (by omega))
          · omega)).trans (hKbr.2 b hb hx)⟩
        have hNX5 : ShX (XB X w.heap.size 5) w5 N' := fun q hq => (HLX.out q (hsub q (hp.mem_iff.1 hq))).keep hKb5
        have R5 := R2.keep (hsp.block _ R2.lt (by omega))
        have hB5' : Below w.heap.size w w5 := hBr.trans (hsp.below (B := w.heap.size) (by omega) (fun b h => by omega))
        have hsz5 := hsp.size
        have HZ2 := Lib.hid hZ
        clear hblk hp hso hNe hNe' R2 hBr HZ hZ hKbr hKb5 hKb0
        cases N' with
        | nil =>
          have h0 : N.length = 0 := by simpa using hlN.symm
          have c0 : ((N.length : Int) == 0) = true := by simp [h0]
          have E1 : Hid (Z = .leaf 1) := by show _ = _; rw [HZ2.out]; rfl
          go_wp2_with fail
          refine (leaf_i).mono ?_
          rintro f w6 ⟨rfl, hb⟩
          have hB := Below.on hB5' hb hB5'.size
          have R := R5.below hb
          -- the result box w.heap.size + 1 + 1 of world w6 is set to an expression; goal: bodyPost. R : the box; Rests: hs5 : Spares, T2
          have r0 := R.c0
          have r1 := R.c1
          have r2 := R.c2
          have z0 := R.frozen 0
          have z1 := R.frozen 1
          have z2 := R.frozen 2
          have ltR := R.lt
          go_wp2_with fail
          have T2 := ((R.set 0 (.int .i64 1)).set 1 (.int .i64 0)).set 2 (.slice none 0 0)
          have hs5 : Spares (fun y => y = w.heap.size + 1 + 1) w6 (((w6.setCell ⟨w.heap.size + 1 + 1, 0, none⟩ (.int .i64 1)).setCell ⟨w.heap.size + 1 + 1, 1, none⟩ (.int .i64 0)).setCell ⟨w.heap.size + 1 + 1, 2, none⟩ (.slice none 0 0)) := Spares.set (Spares.set (Spares.set (Spares.refl w6)))
          generalize (((w6.setCell ⟨w.heap.size + 1 + 1, 0, none⟩ (.int .i64 1)).setCell ⟨w.heap.size + 1 + 1, 1, none⟩ (.int .i64 0)).setCell ⟨w.heap.size + 1 + 1, 2, none⟩ (.slice none 0 0)) = w5 at T2 hs5 ⊢
          have t0 := T2.c0
          have t1 := T2.c1
          have t2 := T2.c2
          have hzB5 := hB.size
          have hB5 := hB.trans (hs5.below (B := w.heap.size) (by omega) (fun y hy => by omega))
          refine bodyPost_ret (v := .agg #[.int .i64 1, .int .i64 0, .slice none 0 0]) (by simp [results, Tryz.results141, go_sem, t0, t1, t2]) rfl ?_
          rw [E1.out]
          exact ⟨_, _, rfl, kidsD_nil, hB5⟩
        | cons y0 rs =>
          have hn1 : N.length = rs.length + 1 := by simpa using hlN.symm
          have c0 : ((N.length : Int) == 0) = false := beq_eq_false_iff_ne.2 (by omega)
          have q : ∀ j v, y0.named[j]? = some v → w5.cell? ⟨lg, j, none⟩ = some v := fun j v hv => by have := hcell 0 y0 rfl j v hv; rwa [Nat.zero_mul, Nat.zero_add] at this
          have q1 := q 1 _ rfl
          have q2 := q 2 _ rfl
          have q3 := q 3 _ rfl
          have hbd1 : (0 : Int) < (N.length : Int) := by omega
          have hbd2 : (1 : Int) ≤ (N.length : Int) := by omega
          clear q
          have O := Blk.new3 w5 30 (.int .i64 y0.e.kind) (.int .i64 y0.e.num) (.slice y0.s y0.e.kids.length y0.c)
          have hb1 : Below w5.heap.size w5 (w5.alloc (.cells #[.int .i64 y0.e.kind, .int .i64 y0.e.num, .slice y0.s y0.e.kids.length y0.c] 30)) := by (repeat' first | exact Below.refl _ _ | assumption | apply Below.alloc | apply Below.drew | apply Below.setCell | omega | (simp; done) | (simp; omega))
          go_wp2_with fail
          · skip
            generalize hwy : w5.alloc (.cells #[.int .i64 y0.e.kind, .int .i64 y0.e.num, .slice y0.s y0.e.kids.length y0.c] 30) = wy at O hb1 ⊢
            have hzy : w5.heap.size < wy.heap.size := O.lt
            obtain ⟨ob, hob⟩ : ∃ ob, ob = w5.heap.size := ⟨_, rfl⟩
            rw [← hob] at O hzy ⊢
            have hlgo : lg < ob := by omega
            have hNQ : ∀ z ∈ y0 :: rs, ExX (fun b => XB X w.heap.size 5 b ∨ b = ob) wy z.e z.s z.c := fun z hz => ((hNX5 z hz).less (fun b hb h => h.elim id (fun e => by omega))).below hb1
            have hcy : ∀ i z, (y0 :: rs)[i]? = some z → ∀ j v, z.named[j]? = some v → wy.cell? ⟨lg, i * 4 + j, none⟩ = some v := fun i z hz j v hv => (hb1.cell (p := ⟨lg, i * 4 + j, none⟩) (by show lg < _; omega)).trans (hcell i z hz j v hv)
            have Hcy := Lib.hid hcy
            have Hob := Lib.hid hob
            have R6 := R5.below hb1
            have hBy := Below.on hB5' hb1 hB5'.size
            have hoby : w.heap.size + 5 ≤ ob := by have := hsz5; omega
            clear hcy hob q1 q2 q3 hcell hsp hNX5 hb1 hwy R5 hB5' c0
            go_loopw [52] (fun i wq => ∃ (k : Nat) (s : Option Addr) (c : Nat) (A : Ex), k ≤ rs.length ∧ i = .int .i64 k ∧ Hid (A = ((rs.take k).map Sh.e).foldl (fun a b => Ex.two 6 a b) y0.e) ∧ Blk wq ob 30 [.int .i64 A.kind, .int .i64 A.num, .slice s A.kids.length c] ∧
              ExX (fun b => XB X w.heap.size 5 b ∨ b = ob) wq A s c ∧ Spares (fun b => b = ob) wy wq) (fun i _ => rs.length - (intOf i).toNat)
            case atStart => exact ⟨0, y0.s, y0.c, y0.e, by omega, rfl, by show _ = _; simp, O, hNQ y0 (by simp), Spares.refl _⟩
            case round =>
              obtain ⟨k, s, c, A, hk, rfl, HA, OA, hAX, hSq⟩ := hrel
              have hszq := hSq.size
              by_cases hlt : k < rs.length
              · skip
                (exfalso; omega)
              · obtain rfl : k = rs.length := by omega
                have o0 := OA.c0
                have o1 := OA.c1
                have o2 := OA.c2
                have R := R6.keep (hSq.block _ R6.lt (by omega))
                have hB := hBy.trans (hSq.below (B := w.heap.size) hBy.size (fun b h => by omega))
                have E1 : Hid (Z = A) := by
                  show _ = _
                  rw [HZ2.out, HA.out, List.take_length]
                  rfl
                clear HA
                -- the result box w.heap.size + 1 + 1 of world wr is set to an expression; goal: bodyPost. R : the box; Rests: hs5 : Spares, T2
                have r0 := R.c0
                have r1 := R.c1
                have r2 := R.c2
                have z0 := R.frozen 0
                have z1 := R.frozen 1
                have z2 := R.frozen 2
                have ltR := R.lt
                go_wp2_with fail
                have T2 := ((R.set 0 (.int .i64 A.kind)).set 1 (.int .i64 A.num)).set 2 (.slice s A.kids.length c)
                have hs5 : Spares (fun y => y = w.heap.size + 1 + 1) wr (((wr.setCell ⟨w.heap.size + 1 + 1, 0, none⟩ (.int .i64 A.kind)).setCell ⟨w.heap.size + 1 + 1, 1, none⟩ (.int .i64 A.num)).setCell ⟨w.heap.size + 1 + 1, 2, none⟩ (.slice s A.kids.length c)) := Spares.set (Spares.set (Spares.set (Spares.refl wr)))
                generalize (((wr.setCell ⟨w.heap.size + 1 + 1, 0, none⟩ (.int .i64 A.kind)).setCell ⟨w.heap.size + 1 + 1, 1, none⟩ (.int .i64 A.num)).setCell ⟨w.heap.size + 1 + 1, 2, none⟩ (.slice s A.kids.length c)) = w5 at T2 hs5 ⊢
                have t0 := T2.c0
                have t1 := T2.c1
                have t2 := T2.c2
                have hzB5 := hB.size
                have hB5 := hB.trans (hs5.below (B := w.heap.size) (by omega) (fun y hy => by omega))
                refine bodyPost_ret (v := .agg #[.int .i64 A.kind, .int .i64 A.num, .slice s A.kids.length c]) (by simp [results, Tryz.results141, go_sem, t0, t1, t2]) rfl ?_
                rw [E1.out]
                exact ⟨_, _, rfl, (hAX.keep (KeptX.of_spares hs5 (fun b _ h => Or.inl (Or.inr (by omega))))).less (fun b hb h => Or.inl (Or.inl h)), hB5⟩
          · skip
            generalize hwy : w5.alloc (.cells #[.int .i64 y0.e.kind, .int .i64 y0.e.num, .slice y0.s y0.e.kids.length y0.c] 30) = wy at O hb1 ⊢
            have hzy : w5.heap.size < wy.heap.size := O.lt
            obtain ⟨ob, hob⟩ : ∃ ob, ob = w5.heap.size := ⟨_, rfl⟩
            rw [← hob] at O hzy ⊢
            have hlgo : lg < ob := by omega
            have hNQ : ∀ z ∈ y0 :: rs, ExX (fun b => XB X w.heap.size 5 b ∨ b = ob) wy z.e z.s z.c := fun z hz => ((hNX5 z hz).less (fun b hb h => h.elim id (fun e => by omega))).below hb1
            have hcy : ∀ i z, (y0 :: rs)[i]? = some z → ∀ j v, z.named[j]? = some v → wy.cell? ⟨lg, i * 4 + j, none⟩ = some v := fun i z hz j v hv => (hb1.cell (p := ⟨lg, i * 4 + j, none⟩) (by show lg < _; omega)).trans (hcell i z hz j v hv)
            have Hcy := Lib.hid hcy
            have Hob := Lib.hid hob
            have R6 := R5.below hb1
            have hBy := Below.on hB5' hb1 hB5'.size
            have hoby : w.heap.size + 5 ≤ ob := by have := hsz5; omega
            clear hcy hob q1 q2 q3 hcell hsp hNX5 hb1 hwy R5 hB5' c0
            go_loopw [52] (fun i wq => ∃ (k : Nat) (s : Option Addr) (c : Nat) (A : Ex), k ≤ rs.length ∧ i = .int .i64 k ∧ Hid (A = ((rs.take k).map Sh.e).foldl (fun a b => Ex.two 6 a b) y0.e) ∧ Blk wq ob 30 [.int .i64 A.kind, .int .i64 A.num, .slice s A.kids.length c] ∧
              ExX (fun b => XB X w.heap.size 5 b ∨ b = ob) wq A s c ∧ Spares (fun b => b = ob) wy wq) (fun i _ => rs.length - (intOf i).toNat)
            case atStart => exact ⟨0, y0.s, y0.c, y0.e, by omega, rfl, by show _ = _; simp, O, hNQ y0 (by simp), Spares.refl _⟩
            case round =>
              obtain ⟨k, s, c, A, hk, rfl, HA, OA, hAX, hSq⟩ := hrel
              have hszq := hSq.size
              by_cases hlt : k < rs.length
              · skip
                obtain ⟨z, hz⟩ : ∃ z, (y0 :: rs)[k + 1]? = some z := ⟨_, List.getElem?_eq_getElem (by simp; omega)⟩
                have hzr : rs[k]? = some z := by simpa using hz
                have hlg2 : wr.heap[lg]? = wy.heap[lg]? := hSq.block lg (by omega) (by omega)
                have q : ∀ j v, z.named[j]? = some v → wr.cell? ⟨lg, (k + 1) * 4 + j, none⟩ = some v := fun j v hv => (World.cell?_of_block (w := wy) (w' := wr) (a := ⟨lg, (k + 1) * 4 + j, none⟩) hlg2).trans (Hcy.out (k + 1) z hz j v hv)
                have q0 := q 0 _ rfl
                have q1 := q 1 _ rfl
                have q2 := q 2 _ rfl
                have q3 := q 3 _ rfl
                rw [show (k + 1) * 4 + 0 = 4 + k * 4 by omega] at q0
                rw [show (k + 1) * 4 + 1 = 4 + k * 4 + 1 by omega] at q1
                rw [show (k + 1) * 4 + 2 = 4 + k * 4 + 2 by omega] at q2
                rw [show (k + 1) * 4 + 3 = 4 + k * 4 + 3 by omega] at q3
                have hza := (hNQ z (List.mem_of_getElem? hz)).keep (KeptX.of_spares hSq (fun b _ h => Or.inr h))
                have ha1 := Int.natCast_nonneg k
                have hb1 : (k : Int) < (rs.length : Int) := by omega
                have o0 := OA.c0
                have o1 := OA.c1
                have o2 := OA.c2
                have hA2 : Hid (Ex.two 6 A z.e = ((rs.take (k + 1)).map Sh.e).foldl (fun a b => Ex.two 6 a b) y0.e) := by
                  show _ = _
                  rw [List.take_succ_eq_append_getElem hlt, List.map_append, List.foldl_append, ← HA.out, (List.getElem?_eq_some_iff.1 hzr).2]
                  rfl
                have ltO := OA.lt
                have HzX := Lib.hid hza
                clear q HA hz hzr hza
                go_wp2_with fail
                have NB : Blk ((wr.alloc (.cells #[.string (bs z.e.text), .int .i64 z.e.kind, .int .i64 z.e.num, .slice z.s z.e.kids.length z.c] 198)).alloc (.cells #[.int .i64 A.kind, .int .i64 A.num, .slice s A.kids.length c, .int .i64 z.e.kind, .int .i64 z.e.num, .slice z.s z.e.kids.length z.c] 30)) (wr.heap.size + 1) 30 [.int .i64 A.kind, .int .i64 A.num, .slice s A.kids.length c, .int .i64 z.e.kind, .int .i64 z.e.num, .slice z.s z.e.kids.length z.c] := by
                  have q := Blk.made (wr.alloc (.cells #[.string (bs z.e.text), .int .i64 z.e.kind, .int .i64 z.e.num, .slice z.s z.e.kids.length z.c] 198)) 30 #[.int .i64 A.kind, .int .i64 A.num, .slice s A.kids.length c, .int .i64 z.e.kind, .int .i64 z.e.num, .slice z.s z.e.kids.length z.c]
                  simpa using q
                have hbw : Below wr.heap.size wr ((wr.alloc (.cells #[.string (bs z.e.text), .int .i64 z.e.kind, .int .i64 z.e.num, .slice z.s z.e.kids.length z.c] 198)).alloc (.cells #[.int .i64 A.kind, .int .i64 A.num, .slice s A.kids.length c, .int .i64 z.e.kind, .int .i64 z.e.num, .slice z.s z.e.kids.length z.c] 30)) := by (repeat' first | exact Below.refl _ _ | assumption | apply Below.alloc | apply Below.drew | apply Below.setCell | omega | (simp; done) | (simp; omega))
                generalize (wr.alloc (.cells #[.string (bs z.e.text), .int .i64 z.e.kind, .int .i64 z.e.num, .slice z.s z.e.kids.length z.c] 198)).alloc (.cells #[.int .i64 A.kind, .int .i64 A.num, .slice s A.kids.length c, .int .i64 z.e.kind, .int .i64 z.e.num, .slice z.s z.e.kids.length z.c] 30) = w6 at NB hbw ⊢
                refine (tree_i).mono ?_
                rintro f w7 ⟨rfl, hb⟩
                have hb7 : Below wr.heap.size wr w7 := hbw.trans (hb.mono hbw.size)
                replace NB := NB.below hb
                have O7 := OA.below hb7
                have hA7 := hAX.below hb7
                have hz7 := HzX.out.below hb7
                have hk7 := kidsD_two NB (X := fun b => XB X w.heap.size 5 b ∨ b = ob) (fun q => by
                  rcases q with (q | q) | q
                  · have := hX _ q; omega
                  · omega
                  · omega) hA7 hz7
                have y0' := O7.c0
                have y1' := O7.c1
                have y2' := O7.c2
                have x0 := O7.frozen 0
                have x1 := O7.frozen 1
                have x2 := O7.frozen 2
                have ltO7 := O7.lt
                clear hb hbw NB q0 q1 q2 q3 o0 o1 o2
                go_wp2_with fail
                have T2 := ((O7.set 0 (.int .i64 6)).set 1 (.int .i64 0)).set 2 (.slice (some ⟨wr.heap.size + 1, 0, none⟩) 2 2)
                have hs5 : Spares (fun y => y = ob) w7 (((w7.setCell ⟨ob, 0, none⟩ (.int .i64 6)).setCell ⟨ob, 1, none⟩ (.int .i64 0)).setCell ⟨ob, 2, none⟩ (.slice (some ⟨wr.heap.size + 1, 0, none⟩) 2 2)) := Spares.set (Spares.set (Spares.set (Spares.refl w7)))
                go_roundw
                case rel => exact ⟨k + 1, some ⟨wr.heap.size + 1, 0, none⟩, 2, .two 6 A z.e, by omega, by go_num, hA2, T2, hk7.keep (KeptX.of_spares hs5 (fun b _ h => Or.inr h)), (hSq.trans (Spares.of_below hb7)).trans hs5⟩
                case measure => simp [intOf]; omega
              · obtain rfl : k = rs.length := by omega
                have o0 := OA.c0
                have o1 := OA.c1
                have o2 := OA.c2
                have R := R6.keep (hSq.block _ R6.lt (by omega))
                have hB := hBy.trans (hSq.below (B := w.heap.size) hBy.size (fun b h => by omega))
                have E1 : Hid (Z = A) := by
                  show _ = _
                  rw [HZ2.out, HA.out, List.take_length]
                  rfl
                clear HA
                -- the result box w.heap.size + 1 + 1 of world wr is set to an expression; goal: bodyPost. R : the box; Rests: hs5 : Spares, T2
                have r0 := R.c0
                have r1 := R.c1
                have r2 := R.c2
                have z0 := R.frozen 0
                have z1 := R.frozen 1
                have z2 := R.frozen 2
                have ltR := R.lt
                go_wp2_with fail
                have T2 := ((R.set 0 (.int .i64 A.kind)).set 1 (.int .i64 A.num)).set 2 (.slice s A.kids.length c)
                have hs5 : Spares (fun y => y = w.heap.size + 1 + 1) wr (((wr.setCell ⟨w.heap.size + 1 + 1, 0, none⟩ (.int .i64 A.kind)).setCell ⟨w.heap.size + 1 + 1, 1, none⟩ (.int .i64 A.num)).setCell ⟨w.heap.size + 1 + 1, 2, none⟩ (.slice s A.kids.length c)) := Spares.set (Spares.set (Spares.set (Spares.refl wr)))
                generalize (((wr.setCell ⟨w.heap.size + 1 + 1, 0, none⟩ (.int .i64 A.kind)).setCell ⟨w.heap.size + 1 + 1, 1, none⟩ (.int .i64 A.num)).setCell ⟨w.heap.size + 1 + 1, 2, none⟩ (.slice s A.kids.length c)) = w5 at T2 hs5 ⊢
                have t0 := T2.c0
                have t1 := T2.c1
                have t2 := T2.c2
                have hzB5 := hB.size
                have hB5 := hB.trans (hs5.below (B := w.heap.size) (by omega) (fun y hy => by omega))
                refine bodyPost_ret (v := .agg #[.int .i64 A.kind, .int .i64 A.num, .slice s A.kids.length c]) (by simp [results, Tryz.results141, go_sem, t0, t1, t2]) rfl ?_
                rw [E1.out]
                exact ⟨_, _, rfl, (hAX.keep (KeptX.of_spares hs5 (fun b _ h => Or.inl (Or.inr (by omega))))).less (fun b hb h => Or.inl (Or.inl h)), hB5⟩
end Go.Proofs.YtjlmdhoajfdkbaaGreatDoor

namespace Go.Proofs.YtjlmdhoajfdkbaaGreatDoor
set_option linter.unusedVariables false
set_option linter.unusedSimpArgs false
open Go.ChangeShapes Go.WideShapes Go.ChangeAt Go.RowKit Go.Deep Go.Sort
theorem copy_k {k n : Int} {ks : List Ex} {s : Option Addr} {c : Nat} {w : World} (hr : Rd w (kidsD ks) (.slice s ks.length c)) (h : Ex.sizeL ks ≤ 1073741824) :
    Calls Tryz.prog 71 #[.agg #[.int .i64 k, .int .i64 n, .slice s ks.length c]] w fun f w' => ∃ s' c', f = .returned (.agg #[.int .i64 k, .int .i64 n, .slice s' ks.length c']) ∧ Freshs w w' [kidsD ks] [.slice s' ks.length c'] ∧ Below w.heap.size w w' :=
  copyExpr_same _ k n ks s c w (Nat.le_refl _) hr h
set_option maxRecDepth 100000 in
set_option maxHeartbeats 8000000 in
theorem tidy_all (tm am : Int) (ht : tm ≤ 8) (ha : am ≤ 8) (N : Nat) : ∀ (e : Ex) (X : Nat → Prop) (s : Option Addr) (c : Nat) (w : World), e.size ≤ N → (∀ b, X b → b < w.heap.size) → ExX X w e s c → e.tree tm am = true → e.size ≤ 50000 →
    Calls Tryz.prog 84 #[.agg #[.int .i64 e.kind, .int .i64 e.num, .slice s e.kids.length c]] w fun f w' => ∃ s' c', f = .returned (.agg #[.int .i64 e.tidy.kind, .int .i64 e.tidy.num, .slice s' e.tidy.kids.length c']) ∧ ExX X w' e.tidy s' c' ∧ Below w.heap.size w w' := by
  induction N using Nat.strongRecOn with
  | _ N ih =>
  intro e X s c w hN hX hx htr hb5
  have HIH := Lib.hid ih
  clear ih
  obtain ⟨-, hl, hcap, -, -⟩ := kid_at hx.rd
  unfold maxLen at hcap
  obtain ⟨k, n, ks⟩ := e
  obtain ⟨hk, -, -, htl⟩ := tree_parts htr
  simp only [Ex.kind_mk, Ex.num_mk, Ex.kids_mk] at hl ⊢
  by_cases h6 : k = 6
  · subst h6
    obtain ⟨u, v, rfl⟩ := two_kids hk (by omega)
    have hsz := Ex.size_eq (.mk 6 n [u, v])
    simp only [Ex.sizeL, Ex.kids_mk] at hsz
    have E1 : Hid ((Ex.mk 6 n [u, v]).tidy = sumT u.tidy v.tidy) := by show _ = _; exact Ex.tidy_sum
    have hut : u.tree tm am = true := Ex.treeL_mem htl (by simp)
    have hvt : v.tree tm am = true := Ex.treeL_mem htl (by simp)
    obtain ⟨hu1, hu2⟩ := tidy_spec tm am _ u (Nat.le_refl _) hut
    obtain ⟨hv1, hv2⟩ := tidy_spec tm am _ v (Nat.le_refl _) hvt
    obtain ⟨kb, ko, su, cu, rfl, -, -, -, -, -, -, -⟩ := kidX0 hx
    simp only [List.length_cons, List.length_nil, Nat.zero_add] at hl ⊢
    clear htl hk
    go_enter Tryz.func84, Tryz.ntmps84
    go_wp2_with fail
    have L := (Blk.new3 w 30 (.int .i64 6) (.int .i64 n) (.slice (some ⟨kb, ko, none⟩) 2 c)).alloc (.cells #[.int .i64 0, .int .i64 0, .slice none 0 0] 30)
    have R := Blk.new3 (w.alloc (.cells #[.int .i64 6, .int .i64 n, .slice (some ⟨kb, ko, none⟩) 2 c] 30)) 30 (.int .i64 0) (.int .i64 0) (.slice none 0 0)
    have hB : Below w.heap.size w ((w.alloc (.cells #[.int .i64 6, .int .i64 n, .slice (some ⟨kb, ko, none⟩) 2 c] 30)).alloc (.cells #[.int .i64 0, .int .i64 0, .slice none 0 0] 30)) := by (repeat' first | exact Below.refl _ _ | assumption | apply Below.alloc | apply Below.drew | apply Below.setCell | omega | (simp; done) | (simp; omega))
    have hz0 : ((w.alloc (.cells #[.int .i64 6, .int .i64 n, .slice (some ⟨kb, ko, none⟩) 2 c] 30)).alloc (.cells #[.int .i64 0, .int .i64 0, .slice none 0 0] 30)).heap.size = w.heap.size + 2 := by simp
    simp at R
    generalize (w.alloc (.cells #[.int .i64 6, .int .i64 n, .slice (some ⟨kb, ko, none⟩) 2 c] 30)).alloc (.cells #[.int .i64 0, .int .i64 0, .slice none 0 0] 30) = wb at L R hB hz0 ⊢
    have hx1 : ExX (XB X w.heap.size 2) wb (.mk 6 n [u, v]) (some ⟨kb, ko, none⟩) c := ExX.boxes hx hB
    have hB' := hB
    have hXW : ∀ b, XB X w.heap.size 2 b → b < wb.heap.size := fun b q => q.elim (fun q => by have := hX _ q; omega) (fun q => by omega)
    clear hx
    obtain ⟨kb', ko', su, cu, e1, -, -, -, hkb, hkX, ku, hu⟩ := kidX0 (r := [v]) hx1
    simp only [Option.some.injEq, Addr.mk.injEq, and_true] at e1
    obtain ⟨rfl, rfl⟩ := e1
    obtain ⟨sv, cv, kv, hv⟩ := kidX1 (r := []) hx1
    have Hku := Lib.hid ku
    have Hkv := Lib.hid kv
    clear ku kv hx1
    obtain ⟨x0, hx0⟩ := mkval ?a1_0
    obtain ⟨x1, hx1⟩ := mkval ?a1_1
    obtain ⟨x2, hx2⟩ := mkval ?a1_2
    obtain ⟨x3, hx3⟩ := mkval ?a1_3
    obtain ⟨x5, hx5⟩ := mkval ?a1_5
    obtain ⟨x6, hx6⟩ := mkval ?a1_6
    obtain ⟨x7, hx7⟩ := mkval ?a1_7
    obtain ⟨x8, hx8⟩ := mkval ?a1_8
    have hGb : ∀ m b, (fun m b => (m = 0 ∧ b = (w.heap.size + 1))) m b → (w.heap.size) ≤ b ∧ b < (wb).heap.size := by
      intro m b hg
      rcases hg with ⟨rfl, hg⟩
      · subst hg
        have q := R.lt
        omega
    have hGd : ∀ m m' b, (fun m b => (m = 0 ∧ b = (w.heap.size + 1))) m b → (fun m b => (m = 0 ∧ b = (w.heap.size + 1))) m' b → m = m' := by
      intro m m' b h h'
      rcases h with ⟨rfl, h⟩ <;> rcases h' with ⟨rfl, h'⟩ <;> first
        | rfl
    have hGX : ∀ m b, (fun m b => (m = 0 ∧ b = (w.heap.size + 1))) m b → (XB X w.heap.size 2) b := by
      intro m b hg
      exact Or.inr (by omega)
    refine region_rs [(10, 4), (10, 9)] [(11, 0)] (fun m b => (m = 0 ∧ b = (w.heap.size + 1))) (w.heap.size) (fun i iv vs wx => match i with
      | 0 => vs 0 = x0
      | 1 => vs 1 = x1
      | 2 => vs 2 = x2
      | 3 => vs 3 = x3
      | 4 => ∃ s1 c1, vs 4 = .agg #[.int .i64 u.tidy.kind, .int .i64 u.tidy.num, .slice s1 u.tidy.kids.length c1] ∧ RdO wb (XB X w.heap.size 2) (foot [(10, 4), (10, 9)] [(11, 0)] (fun m b => (m = 0 ∧ b = (w.heap.size + 1))) 12 4 iv) wx (kidsD u.tidy.kids) (.slice s1 u.tidy.kids.length c1)
      | 5 => vs 5 = x5
      | 6 => vs 6 = x6
      | 7 => vs 7 = x7
      | 8 => vs 8 = x8
      | 9 => ∃ s2 c2, vs 9 = .agg #[.int .i64 v.tidy.kind, .int .i64 v.tidy.num, .slice s2 v.tidy.kids.length c2] ∧ RdO wb (XB X w.heap.size 2) (foot [(10, 4), (10, 9)] [(11, 0)] (fun m b => (m = 0 ∧ b = (w.heap.size + 1))) 12 9 iv) wx (kidsD v.tidy.kids) (.slice s2 v.tidy.kids.length c2)
      | 10 => ∃ s3 c3, vs 10 = .agg #[.int .i64 (sumT u.tidy v.tidy).kind, .int .i64 (sumT u.tidy v.tidy).num, .slice s3 (sumT u.tidy v.tidy).kids.length c3] ∧ RdO wb (XB X w.heap.size 2) (foot [(10, 4), (10, 9)] [(11, 0)] (fun m b => (m = 0 ∧ b = (w.heap.size + 1))) 12 10 iv) wx (kidsD (sumT u.tidy v.tidy).kids) (.slice s3 (sumT u.tidy v.tidy).kids.length c3)
      | 11 => Blk wx (w.heap.size + 1) 30 [aggAt (vs 10) 0, aggAt (vs 10) 1, aggAt (vs 10) 2]
      | _ => True) (fun i iv vs => match i with
      | 0 => vs 0 = x0
      | 1 => vs 1 = x1
      | 2 => vs 2 = x2
      | 3 => vs 3 = x3
      | 4 => ∃ s1 c1, vs 4 = .agg #[.int .i64 u.tidy.kind, .int .i64 u.tidy.num, .slice s1 u.tidy.kids.length c1]
      | 5 => vs 5 = x5
      | 6 => vs 6 = x6
      | 7 => vs 7 = x7
      | 8 => vs 8 = x8
      | 9 => ∃ s2 c2, vs 9 = .agg #[.int .i64 v.tidy.kind, .int .i64 v.tidy.num, .slice s2 v.tidy.kids.length c2]
      | 10 => ∃ s3 c3, vs 10 = .agg #[.int .i64 (sumT u.tidy v.tidy).kind, .int .i64 (sumT u.tidy v.tidy).num, .slice s3 (sumT u.tidy v.tidy).kids.length c3]
      | 11 => True
      | _ => True) (by kernel_rfl) (by kernel_rfl) [0, 1, 2, 3, 4, 5, 6, 7, 8, 9, 10, 11] (by kernel_rfl) ?hbase ?hGb ?hG ?hJ ?hE ?hEE ?hstep ?hQ
    case hbase => first | exact Nat.le_refl _ | omega | (simp; omega)
    case hGb =>
      exact hGb
    case hG =>
      exact hGd
    case hJ =>
      intro i hi iv iv' vs vs' wx wx' ha hv hz hk hj
      simp only [List.mem_cons, List.not_mem_nil, or_false] at hi
      rcases hi with rfl | rfl | rfl | rfl | rfl | rfl | rfl | rfl | rfl | rfl | rfl | rfl
      · exact (hv.out 0 (mem_of (by kernel_rfl))).symm.trans hj
      · exact (hv.out 1 (mem_of (by kernel_rfl))).symm.trans hj
      · exact (hv.out 2 (mem_of (by kernel_rfl))).symm.trans hj
      · exact (hv.out 3 (mem_of (by kernel_rfl))).symm.trans hj
      · have e4 := hv.out 4 (mem_of (by kernel_rfl))
        obtain ⟨s1, c1, q1, q2⟩ := hj
        exact ⟨s1, c1, e4 ▸ q1, q2.keep hz (fun b hb h1 => hk.out b hb h1) (fun b h1 => foot_agree (l := ancs _ 12 4) (by exact of_decide_eq_true (by kernel_rfl)) ha.out h1)⟩
      · exact (hv.out 5 (mem_of (by kernel_rfl))).symm.trans hj
      · exact (hv.out 6 (mem_of (by kernel_rfl))).symm.trans hj
      · exact (hv.out 7 (mem_of (by kernel_rfl))).symm.trans hj
      · exact (hv.out 8 (mem_of (by kernel_rfl))).symm.trans hj
      · have e9 := hv.out 9 (mem_of (by kernel_rfl))
        obtain ⟨s2, c2, q1, q2⟩ := hj
        exact ⟨s2, c2, e9 ▸ q1, q2.keep hz (fun b hb h1 => hk.out b hb h1) (fun b h1 => foot_agree (l := ancs _ 12 9) (by exact of_decide_eq_true (by kernel_rfl)) ha.out h1)⟩
      · have e10 := hv.out 10 (mem_of (by kernel_rfl))
        obtain ⟨s3, c3, q1, q2⟩ := hj
        exact ⟨s3, c3, e10 ▸ q1, q2.keep hz (fun b hb h1 => hk.out b hb h1) (fun b h1 => foot_agree (l := ancs _ 12 10) (by exact of_decide_eq_true (by kernel_rfl)) ha.out h1)⟩
      · have e10 := hv.out 10 (mem_of (by kernel_rfl))
        have hj' : Blk wx (w.heap.size + 1) 30 [aggAt (vs 10) 0, aggAt (vs 10) 1, aggAt (vs 10) 2] := hj
        show Blk wx' (w.heap.size + 1) 30 [aggAt (vs' 10) 0, aggAt (vs' 10) 1, aggAt (vs' 10) 2]
        rw [← e10]
        exact hj'.keep (hk.out _ hj'.lt (foot_given 0 (by decide) ⟨rfl, rfl⟩))
    case hE =>
      intro i hi iv vs wx hj
      simp only [List.mem_cons, List.not_mem_nil, or_false] at hi
      rcases hi with rfl | rfl | rfl | rfl | rfl | rfl | rfl | rfl | rfl | rfl | rfl | rfl
      · exact hj
      · exact hj
      · exact hj
      · exact hj
      · obtain ⟨s1, c1, q1, -⟩ := hj
        exact ⟨s1, c1, q1⟩
      · exact hj
      · exact hj
      · exact hj
      · exact hj
      · obtain ⟨s2, c2, q1, -⟩ := hj
        exact ⟨s2, c2, q1⟩
      · obtain ⟨s3, c3, q1, -⟩ := hj
        exact ⟨s3, c3, q1⟩
      · trivial
    case hEE =>
      intro i hi iv iv' vs vs' ha hv hj
      simp only [List.mem_cons, List.not_mem_nil, or_false] at hi
      rcases hi with rfl | rfl | rfl | rfl | rfl | rfl | rfl | rfl | rfl | rfl | rfl | rfl
      · exact (hv.out 0 (mem_of (by kernel_rfl))).symm.trans hj
      · exact (hv.out 1 (mem_of (by kernel_rfl))).symm.trans hj
      · exact (hv.out 2 (mem_of (by kernel_rfl))).symm.trans hj
      · exact (hv.out 3 (mem_of (by kernel_rfl))).symm.trans hj
      · have e4 := hv.out 4 (mem_of (by kernel_rfl))
        have hj' : ∃ s1 c1, vs 4 = .agg #[.int .i64 u.tidy.kind, .int .i64 u.tidy.num, .slice s1 u.tidy.kids.length c1] := hj
        show ∃ s1 c1, vs' 4 = .agg #[.int .i64 u.tidy.kind, .int .i64 u.tidy.num, .slice s1 u.tidy.kids.length c1]
        rw [← e4]
        exact hj'
      · exact (hv.out 5 (mem_of (by kernel_rfl))).symm.trans hj
      · exact (hv.out 6 (mem_of (by kernel_rfl))).symm.trans hj
      · exact (hv.out 7 (mem_of (by kernel_rfl))).symm.trans hj
      · exact (hv.out 8 (mem_of (by kernel_rfl))).symm.trans hj
      · have e9 := hv.out 9 (mem_of (by kernel_rfl))
        have hj' : ∃ s2 c2, vs 9 = .agg #[.int .i64 v.tidy.kind, .int .i64 v.tidy.num, .slice s2 v.tidy.kids.length c2] := hj
        show ∃ s2 c2, vs' 9 = .agg #[.int .i64 v.tidy.kind, .int .i64 v.tidy.num, .slice s2 v.tidy.kids.length c2]
        rw [← e9]
        exact hj'
      · have e10 := hv.out 10 (mem_of (by kernel_rfl))
        have hj' : ∃ s3 c3, vs 10 = .agg #[.int .i64 (sumT u.tidy v.tidy).kind, .int .i64 (sumT u.tidy v.tidy).num, .slice s3 (sumT u.tidy v.tidy).kids.length c3] := hj
        show ∃ s3 c3, vs' 10 = .agg #[.int .i64 (sumT u.tidy v.tidy).kind, .int .i64 (sumT u.tidy v.tidy).num, .slice s3 (sumT u.tidy v.tidy).kids.length c3]
        rw [← e10]
        exact hj'
      · trivial
    case hstep =>
      intro i hi opr ho iv vs w1 hB hS hSo hd he hbd hsep hun K hK
      simp only [List.mem_cons, List.not_mem_nil, or_false] at hi
      have hzB := hB.size
      have kw := hSo.out.block _ hkb (fun ⟨_, _, h⟩ => hkX (Or.inr (by omega)))
      obtain ⟨u0, u1, u2⟩ := Hku.out.keep kw
      obtain ⟨v0, v1, v2⟩ := Hkv.out.keep kw
      have L1 := L.keep (hSo.out.block _ L.lt (fun ⟨_, _, h⟩ => by omega))
      have l0 := L1.c0
      have l1 := L1.c1
      have l2 := L1.c2
      generalize hA : putFrom _ 0 vs _ = A at hK ⊢
      simp only [putFrom, puts] at hA
      rcases hi with rfl | rfl | rfl | rfl | rfl | rfl | rfl | rfl | rfl | rfl | rfl | rfl
      all_goals
        simp at ho
        subst ho
        subst hA
      · go_wp2_with fail
        refine Onward.mk (hK ?val1_0 _ _ (fun h => by cases h) ?eqA (Spares.refl _) (fun iv' _ _ => ?ja))
        case eqA => first | rfl | (simp only [puts]; rfl)
        case ja => exact hx0.out.symm
      · have h0 := (hd.out 0 (mem_of (by kernel_rfl)) (by decide) (by kernel_rfl)).trans hx0.out
        go_wp2_with fail
        refine Onward.mk (hK ?val1_1 _ _ (fun h => by cases h) ?eqA (Spares.refl _) (fun iv' _ _ => ?ja))
        case eqA => first | rfl | (simp only [puts, h0]; rfl)
        case ja => exact hx1.out.symm
      · have h1 := (hd.out 1 (mem_of (by kernel_rfl)) (by decide) (by kernel_rfl)).trans hx1.out
        go_wp2_with fail
        refine Onward.mk (hK ?val1_2 _ _ (fun h => by cases h) ?eqA (Spares.refl _) (fun iv' _ _ => ?ja))
        case eqA => first | rfl | (simp only [puts, h1]; rfl)
        case ja => exact hx2.out.symm
      · have h2 := (hd.out 2 (mem_of (by kernel_rfl)) (by decide) (by kernel_rfl)).trans hx2.out
        go_wp2_with fail
        refine Onward.mk (hK ?val1_3 _ _ (fun h => by cases h) ?eqA (Spares.refl _) (fun iv' _ _ => ?ja))
        case eqA => first | rfl | (simp only [puts, h2]; rfl)
        case ja => exact hx3.out.symm
      · have h3 := (hd.out 3 (mem_of (by kernel_rfl)) (by decide) (by kernel_rfl)).trans hx3.out
        go_wp2_with fail
        have hO : KeptX (XB X w.heap.size 2) wb w1 := KeptX.of_spares hSo.out (fun b _ ⟨m, hg⟩ => hGX m b hg)
        obtain ⟨XQ, hXQ⟩ : ∃ XQ, XQ = OutX wb (XB X w.heap.size 2) (fun b => False) w1 := ⟨_, rfl⟩
        have hXl : ∀ b, XQ b → b < w1.heap.size := by rw [hXQ]; exact OutX.lt
        have hOld : ∀ (d : D) (v : Value), RdX (XB X w.heap.size 2) wb d v → RdX XQ w1 d v := by rw [hXQ]; exact fun d v h => h.toOut hO
        refine (HIH.out u.size (by omega) u XQ _ _ _ (Nat.le_refl _) hXl (hOld _ _ hu) hut (by omega)).mono ?_
        rintro e w2 ⟨s1, c1, rfl, hr, hb⟩
        go_wp2_with fail
        rw [hXQ] at hr
        exact Onward.mk (hK (.agg #[.int .i64 u.tidy.kind, .int .i64 u.tidy.num, .slice s1 u.tidy.kids.length c1]) _ _ (fun h => by cases h) (by first | rfl | (simp only [puts, h3])) (Spares.of_below hb) (fun iv' ag hi => ⟨s1, c1, rfl, RdO.ofX hr hb hO (fun b h => by exact h.elim) (fun b h1 h2 => foot_new hi h1 h2)⟩))
      · go_wp2_with fail
        refine Onward.mk (hK ?val1_5 _ _ (fun h => by cases h) ?eqA (Spares.refl _) (fun iv' _ _ => ?ja))
        case eqA => first | rfl | (simp only [puts]; rfl)
        case ja => exact hx5.out.symm
      · have h5 := (hd.out 5 (mem_of (by kernel_rfl)) (by decide) (by kernel_rfl)).trans hx5.out
        go_wp2_with fail
        refine Onward.mk (hK ?val1_6 _ _ (fun h => by cases h) ?eqA (Spares.refl _) (fun iv' _ _ => ?ja))
        case eqA => first | rfl | (simp only [puts, h5]; rfl)
        case ja => exact hx6.out.symm
      · have h6 := (hd.out 6 (mem_of (by kernel_rfl)) (by decide) (by kernel_rfl)).trans hx6.out
        go_wp2_with fail
        refine Onward.mk (hK ?val1_7 _ _ (fun h => by cases h) ?eqA (Spares.refl _) (fun iv' _ _ => ?ja))
        case eqA => first | rfl | (simp only [puts, h6]; rfl)
        case ja => exact hx7.out.symm
      · have h7 := (hd.out 7 (mem_of (by kernel_rfl)) (by decide) (by kernel_rfl)).trans hx7.out
        go_wp2_with fail
        refine Onward.mk (hK ?val1_8 _ _ (fun h => by cases h) ?eqA (Spares.refl _) (fun iv' _ _ => ?ja))
        case eqA => first | rfl | (simp only [puts, h7]; rfl)
        case ja => exact hx8.out.symm
      · have h8 := (hd.out 8 (mem_of (by kernel_rfl)) (by decide) (by kernel_rfl)).trans hx8.out
        go_wp2_with fail
        have hO : KeptX (XB X w.heap.size 2) wb w1 := KeptX.of_spares hSo.out (fun b _ ⟨m, hg⟩ => hGX m b hg)
        obtain ⟨XQ, hXQ⟩ : ∃ XQ, XQ = OutX wb (XB X w.heap.size 2) (fun b => False) w1 := ⟨_, rfl⟩
        have hXl : ∀ b, XQ b → b < w1.heap.size := by rw [hXQ]; exact OutX.lt
        have hOld : ∀ (d : D) (v : Value), RdX (XB X w.heap.size 2) wb d v → RdX XQ w1 d v := by rw [hXQ]; exact fun d v h => h.toOut hO
        refine (HIH.out v.size (by omega) v XQ _ _ _ (Nat.le_refl _) hXl (hOld _ _ hv) hvt (by omega)).mono ?_
        rintro e w2 ⟨s2, c2, rfl, hr, hb⟩
        go_wp2_with fail
        rw [hXQ] at hr
        exact Onward.mk (hK (.agg #[.int .i64 v.tidy.kind, .int .i64 v.tidy.num, .slice s2 v.tidy.kids.length c2]) _ _ (fun h => by cases h) (by first | rfl | (simp only [puts, h8])) (Spares.of_below hb) (fun iv' ag hi => ⟨s2, c2, rfl, RdO.ofX hr hb hO (fun b h => by exact h.elim) (fun b h1 h2 => foot_new hi h1 h2)⟩))
      · obtain ⟨s1, c1, h4, f4⟩ := hd.out 4 (mem_of (by kernel_rfl)) (by decide) (by kernel_rfl)
        obtain ⟨s2, c2, h9, f9⟩ := hd.out 9 (mem_of (by kernel_rfl)) (by decide) (by kernel_rfl)
        go_wp2_with fail
        have hO : KeptX (XB X w.heap.size 2) wb w1 := KeptX.of_spares hSo.out (fun b _ ⟨m, hg⟩ => hGX m b hg)
        obtain ⟨XQ, hXQ⟩ : ∃ XQ, XQ = OutX wb (XB X w.heap.size 2) (fun b => (foot [(10, 4), (10, 9)] [(11, 0)] (fun m b => (m = 0 ∧ b = (w.heap.size + 1))) 12 4 iv) b ∨ (foot [(10, 4), (10, 9)] [(11, 0)] (fun m b => (m = 0 ∧ b = (w.heap.size + 1))) 12 9 iv) b) w1 := ⟨_, rfl⟩
        have hXl : ∀ b, XQ b → b < w1.heap.size := by rw [hXQ]; exact OutX.lt
        have x4 : RdX XQ w1 (kidsD u.tidy.kids) (.slice s1 u.tidy.kids.length c1) := by rw [hXQ]; exact f4.toX hO (fun b h => (Or.inl h))
        have x9 : RdX XQ w1 (kidsD v.tidy.kids) (.slice s2 v.tidy.kids.length c2) := by rw [hXQ]; exact f9.toX hO (fun b h => (Or.inr h))
        have hOld : ∀ (d : D) (v : Value), RdX (XB X w.heap.size 2) wb d v → RdX XQ w1 d v := by rw [hXQ]; exact fun d v h => h.toOut hO
        refine (tidySum_i ht ha hXl x4 x9 hu1 hv1 (by omega)).mono ?_
        rintro e w2 ⟨s3, c3, rfl, hr, hb⟩
        go_wp2_with fail
        rw [hXQ] at hr
        exact Onward.mk (hK (.agg #[.int .i64 (sumT u.tidy v.tidy).kind, .int .i64 (sumT u.tidy v.tidy).num, .slice s3 (sumT u.tidy v.tidy).kids.length c3]) _ _ (fun h => by cases h) (by first | rfl | (simp only [puts, h4, h9])) (Spares.of_below hb) (fun iv' ag hi => ⟨s3, c3, rfl, RdO.ofX hr hb hO (fun b h => by rcases h with h | h; exact foot_step (by kernel_rfl) ag h; exact foot_step (by kernel_rfl) ag h) (fun b h1 h2 => foot_new hi h1 h2)⟩))
      · obtain ⟨s3, c3, h10, f10⟩ := hd.out 10 (mem_of (by kernel_rfl)) (by decide) (by kernel_rfl)
        have R1 := R.keep (hS.out 0 _ (by kernel_rfl) ⟨rfl, rfl⟩)
        have rc0 := R1.c0
        have rz0 := R1.frozen 0
        have rc1 := R1.c1
        have rz1 := R1.frozen 1
        have rc2 := R1.c2
        have rz2 := R1.frozen 2
        have rlt := R1.lt
        go_wp2_with fail
        exact Onward.mk (hK undef _ _ (fun _ => rfl) (by simp only [puts, h10]) ((spares_sets (b0 := (w.heap.size + 1)) (by repeat (first | exact Spares.refl _ | apply Spares.set))).more (fun b h => Or.inl ⟨0, by decide, ⟨rfl, h⟩⟩)) (fun iv' ag hi => by
          show Blk _ (w.heap.size + 1) 30 [aggAt (vs 10) 0, aggAt (vs 10) 1, aggAt (vs 10) 2]
          rw [h10]
          exact (((R1.set 0 _).set 1 _).set 2 _)))
    case hQ =>
      intro iv vs wx hB hSp hd he hbd hsep
      have hzB := hB.size
      have h0 := (hd.out 0 (mem_of (by kernel_rfl)) (not_eaten (by kernel_rfl))).trans hx0.out
      have h1 := (hd.out 1 (mem_of (by kernel_rfl)) (not_eaten (by kernel_rfl))).trans hx1.out
      have h2 := (hd.out 2 (mem_of (by kernel_rfl)) (not_eaten (by kernel_rfl))).trans hx2.out
      have h3 := (hd.out 3 (mem_of (by kernel_rfl)) (not_eaten (by kernel_rfl))).trans hx3.out
      obtain ⟨s1, c1, h4⟩ := he.out 4 (mem_of (by kernel_rfl))
      have h5 := (hd.out 5 (mem_of (by kernel_rfl)) (not_eaten (by kernel_rfl))).trans hx5.out
      have h6 := (hd.out 6 (mem_of (by kernel_rfl)) (not_eaten (by kernel_rfl))).trans hx6.out
      have h7 := (hd.out 7 (mem_of (by kernel_rfl)) (not_eaten (by kernel_rfl))).trans hx7.out
      have h8 := (hd.out 8 (mem_of (by kernel_rfl)) (not_eaten (by kernel_rfl))).trans hx8.out
      obtain ⟨s2, c2, h9⟩ := he.out 9 (mem_of (by kernel_rfl))
      obtain ⟨s3, c3, h10, f10⟩ := hd.out 10 (mem_of (by kernel_rfl)) (not_eaten (by kernel_rfl))
      have f11 : Blk _ (w.heap.size + 1) 30 [aggAt (vs 10) 0, aggAt (vs 10) 1, aggAt (vs 10) 2] := hd.out 11 (mem_of (by kernel_rfl)) (not_eaten (by kernel_rfl))
      simp only [putFrom, puts]
      have hOq : KeptX (XB X w.heap.size 2) wb wx := KeptX.of_spares hSp.out (fun b _ ⟨m, hg⟩ => hGX m b hg)
      have r10 : RdX (XB X w.heap.size 2) wx (kidsD (sumT u.tidy v.tidy).kids) (.slice s3 (sumT u.tidy v.tidy).kids.length c3) := f10.done hOq (fun b hf hx => by have q := foot_no (l := [0, 1, 2, 3, 4, 5, 6, 7, 8, 9, 10, 11]) (by kernel_rfl) (by kernel_rfl) hbd.out hf; have q' := hXW b hx; omega)
      clear f10
      rw [h10] at f11
      simp only [aggAt] at f11
      have t0 := f11.c0
      have t1 := f11.c1
      have t2 := f11.c2
      go_wp2_with fail
      refine bodyPost_ret (v := .agg #[.int .i64 (sumT u.tidy v.tidy).kind, .int .i64 (sumT u.tidy v.tidy).num, .slice s3 (sumT u.tidy v.tidy).kids.length c3]) (by simp [results, Tryz.results84, go_sem, t0, t1, t2]) rfl ?_
      rw [E1.out]
      exact ⟨_, _, rfl, ExX.unbox (p := w.heap.size) (n := 2) r10, hB'.trans (hB.mono (by omega))⟩
  have c6 : (k == 6) = false := by simp [h6]
  by_cases h7 : k = 7
  · subst h7
    obtain ⟨u, v, rfl⟩ := two_kids hk (by omega)
    have hsz := Ex.size_eq (.mk 7 n [u, v])
    simp only [Ex.sizeL, Ex.kids_mk] at hsz
    have E1 : Hid ((Ex.mk 7 n [u, v]).tidy = Ex.dot u.tidy v.tidy) := by show _ = _; exact Ex.tidy_dot
    have hut : u.tree tm am = true := Ex.treeL_mem htl (by simp)
    have hvt : v.tree tm am = true := Ex.treeL_mem htl (by simp)
    obtain ⟨hu1, hu2⟩ := tidy_spec tm am _ u (Nat.le_refl _) hut
    obtain ⟨hv1, hv2⟩ := tidy_spec tm am _ v (Nat.le_refl _) hvt
    obtain ⟨kb, ko, su, cu, rfl, -, -, -, -, -, -, -⟩ := kidX0 hx
    simp only [List.length_cons, List.length_nil, Nat.zero_add] at hl ⊢
    clear htl hk
    go_enter Tryz.func84, Tryz.ntmps84
    go_wp2_with fail
    have L := (Blk.new3 w 30 (.int .i64 7) (.int .i64 n) (.slice (some ⟨kb, ko, none⟩) 2 c)).alloc (.cells #[.int .i64 0, .int .i64 0, .slice none 0 0] 30)
    have R := Blk.new3 (w.alloc (.cells #[.int .i64 7, .int .i64 n, .slice (some ⟨kb, ko, none⟩) 2 c] 30)) 30 (.int .i64 0) (.int .i64 0) (.slice none 0 0)
    have hB : Below w.heap.size w ((w.alloc (.cells #[.int .i64 7, .int .i64 n, .slice (some ⟨kb, ko, none⟩) 2 c] 30)).alloc (.cells #[.int .i64 0, .int .i64 0, .slice none 0 0] 30)) := by (repeat' first | exact Below.refl _ _ | assumption | apply Below.alloc | apply Below.drew | apply Below.setCell | omega | (simp; done) | (simp; omega))
    have hz0 : ((w.alloc (.cells #[.int .i64 7, .int .i64 n, .slice (some ⟨kb, ko, none⟩) 2 c] 30)).alloc (.cells #[.int .i64 0, .int .i64 0, .slice none 0 0] 30)).heap.size = w.heap.size + 2 := by simp
    simp at R
    generalize (w.alloc (.cells #[.int .i64 7, .int .i64 n, .slice (some ⟨kb, ko, none⟩) 2 c] 30)).alloc (.cells #[.int .i64 0, .int .i64 0, .slice none 0 0] 30) = wb at L R hB hz0 ⊢
    have hx1 : ExX (XB X w.heap.size 2) wb (.mk 7 n [u, v]) (some ⟨kb, ko, none⟩) c := ExX.boxes hx hB
    have hB' := hB
    have hXW : ∀ b, XB X w.heap.size 2 b → b < wb.heap.size := fun b q => q.elim (fun q => by have := hX _ q; omega) (fun q => by omega)
    clear hx
    obtain ⟨kb', ko', su, cu, e1, -, -, -, hkb, hkX, ku, hu⟩ := kidX0 (r := [v]) hx1
    simp only [Option.some.injEq, Addr.mk.injEq, and_true] at e1
    obtain ⟨rfl, rfl⟩ := e1
    obtain ⟨sv, cv, kv, hv⟩ := kidX1 (r := []) hx1
    have Hku := Lib.hid ku
    have Hkv := Lib.hid kv
    clear ku kv hx1
    obtain ⟨x0, hx0⟩ := mkval ?a2_0
    obtain ⟨x1, hx1⟩ := mkval ?a2_1
    obtain ⟨x2, hx2⟩ := mkval ?a2_2
    obtain ⟨x3, hx3⟩ := mkval ?a2_3
    obtain ⟨x5, hx5⟩ := mkval ?a2_5
    obtain ⟨x6, hx6⟩ := mkval ?a2_6
    obtain ⟨x7, hx7⟩ := mkval ?a2_7
    obtain ⟨x8, hx8⟩ := mkval ?a2_8
    have hGb : ∀ m b, (fun m b => (m = 0 ∧ b = (w.heap.size + 1))) m b → (w.heap.size) ≤ b ∧ b < (wb).heap.size := by
      intro m b hg
      rcases hg with ⟨rfl, hg⟩
      · subst hg
        have q := R.lt
        omega
    have hGd : ∀ m m' b, (fun m b => (m = 0 ∧ b = (w.heap.size + 1))) m b → (fun m b => (m = 0 ∧ b = (w.heap.size + 1))) m' b → m = m' := by
      intro m m' b h h'
      rcases h with ⟨rfl, h⟩ <;> rcases h' with ⟨rfl, h'⟩ <;> first
        | rfl
    have hGX : ∀ m b, (fun m b => (m = 0 ∧ b = (w.heap.size + 1))) m b → (XB X w.heap.size 2) b := by
      intro m b hg
      exact Or.inr (by omega)
    refine region_rs [(10, 4), (10, 9)] [(11, 0)] (fun m b => (m = 0 ∧ b = (w.heap.size + 1))) (w.heap.size) (fun i iv vs wx => match i with
      | 0 => vs 0 = x0
      | 1 => vs 1 = x1
      | 2 => vs 2 = x2
      | 3 => vs 3 = x3
      | 4 => ∃ s1 c1, vs 4 = .agg #[.int .i64 u.tidy.kind, .int .i64 u.tidy.num, .slice s1 u.tidy.kids.length c1] ∧ RdO wb (XB X w.heap.size 2) (foot [(10, 4), (10, 9)] [(11, 0)] (fun m b => (m = 0 ∧ b = (w.heap.size + 1))) 12 4 iv) wx (kidsD u.tidy.kids) (.slice s1 u.tidy.kids.length c1)
      | 5 => vs 5 = x5
      | 6 => vs 6 = x6
      | 7 => vs 7 = x7
      | 8 => vs 8 = x8
      | 9 => ∃ s2 c2, vs 9 = .agg #[.int .i64 v.tidy.kind, .int .i64 v.tidy.num, .slice s2 v.tidy.kids.length c2] ∧ RdO wb (XB X w.heap.size 2) (foot [(10, 4), (10, 9)] [(11, 0)] (fun m b => (m = 0 ∧ b = (w.heap.size + 1))) 12 9 iv) wx (kidsD v.tidy.kids) (.slice s2 v.tidy.kids.length c2)
      | 10 => ∃ s3 c3, vs 10 = .agg #[.int .i64 (Ex.dot u.tidy v.tidy).kind, .int .i64 (Ex.dot u.tidy v.tidy).num, .slice s3 (Ex.dot u.tidy v.tidy).kids.length c3] ∧ RdO wb (XB X w.heap.size 2) (foot [(10, 4), (10, 9)] [(11, 0)] (fun m b => (m = 0 ∧ b = (w.heap.size + 1))) 12 10 iv) wx (kidsD (Ex.dot u.tidy v.tidy).kids) (.slice s3 (Ex.dot u.tidy v.tidy).kids.length c3)
      | 11 => Blk wx (w.heap.size + 1) 30 [aggAt (vs 10) 0, aggAt (vs 10) 1, aggAt (vs 10) 2]
      | _ => True) (fun i iv vs => match i with
      | 0 => vs 0 = x0
      | 1 => vs 1 = x1
      | 2 => vs 2 = x2
      | 3 => vs 3 = x3
      | 4 => ∃ s1 c1, vs 4 = .agg #[.int .i64 u.tidy.kind, .int .i64 u.tidy.num, .slice s1 u.tidy.kids.length c1]
      | 5 => vs 5 = x5
      | 6 => vs 6 = x6
      | 7 => vs 7 = x7
      | 8 => vs 8 = x8
      | 9 => ∃ s2 c2, vs 9 = .agg #[.int .i64 v.tidy.kind, .int .i64 v.tidy.num, .slice s2 v.tidy.kids.length c2]
      | 10 => ∃ s3 c3, vs 10 = .agg #[.int .i64 (Ex.dot u.tidy v.tidy).kind, .int .i64 (Ex.dot u.tidy v.tidy).num, .slice s3 (Ex.dot u.tidy v.tidy).kids.length c3]
      | 11 => True
      | _ => True) (by kernel_rfl) (by kernel_rfl) [0, 1, 2, 3, 4, 5, 6, 7, 8, 9, 10, 11] (by kernel_rfl) ?hbase ?hGb ?hG ?hJ ?hE ?hEE ?hstep ?hQ
    case hbase => first | exact Nat.le_refl _ | omega | (simp; omega)
    case hGb =>
      exact hGb
    case hG =>
      exact hGd
    case hJ =>
      intro i hi iv iv' vs vs' wx wx' ha hv hz hk hj
      simp only [List.mem_cons, List.not_mem_nil, or_false] at hi
      rcases hi with rfl | rfl | rfl | rfl | rfl | rfl | rfl | rfl | rfl | rfl | rfl | rfl
      · exact (hv.out 0 (mem_of (by kernel_rfl))).symm.trans hj
      · exact (hv.out 1 (mem_of (by kernel_rfl))).symm.trans hj
      · exact (hv.out 2 (mem_of (by kernel_rfl))).symm.trans hj
      · exact (hv.out 3 (mem_of (by kernel_rfl))).symm.trans hj
      · have e4 := hv.out 4 (mem_of (by kernel_rfl))
        obtain ⟨s1, c1, q1, q2⟩ := hj
        exact ⟨s1, c1, e4 ▸ q1, q2.keep hz (fun b hb h1 => hk.out b hb h1) (fun b h1 => foot_agree (l := ancs _ 12 4) (by exact of_decide_eq_true (by kernel_rfl)) ha.out h1)⟩
      · exact (hv.out 5 (mem_of (by kernel_rfl))).symm.trans hj
      · exact (hv.out 6 (mem_of (by kernel_rfl))).symm.trans hj
      · exact (hv.out 7 (mem_of (by kernel_rfl))).symm.trans hj
      · exact (hv.out 8 (mem_of (by kernel_rfl))).symm.trans hj
      · have e9 := hv.out 9 (mem_of (by kernel_rfl))
        obtain ⟨s2, c2, q1, q2⟩ := hj
        exact ⟨s2, c2, e9 ▸ q1, q2.keep hz (fun b hb h1 => hk.out b hb h1) (fun b h1 => foot_agree (l := ancs _ 12 9) (by exact of_decide_eq_true (by kernel_rfl)) ha.out h1)⟩
      · have e10 := hv.out 10 (mem_of (by kernel_rfl))
        obtain ⟨s3, c3, q1, q2⟩ := hj
        exact ⟨s3, c3, e10 ▸ q1, q2.keep hz (fun b hb h1 => hk.out b hb h1) (fun b h1 => foot_agree (l := ancs _ 12 10) (by exact of_decide_eq_true (by kernel_rfl)) ha.out h1)⟩
      · have e10 := hv.out 10 (mem_of (by kernel_rfl))
        have hj' : Blk wx (w.heap.size + 1) 30 [aggAt (vs 10) 0, aggAt (vs 10) 1, aggAt (vs 10) 2] := hj
        show Blk wx' (w.heap.size + 1) 30 [aggAt (vs' 10) 0, aggAt (vs' 10) 1, aggAt (vs' 10) 2]
        rw [← e10]
        exact hj'.keep (hk.out _ hj'.lt (foot_given 0 (by decide) ⟨rfl, rfl⟩))
    case hE =>
      intro i hi iv vs wx hj
      simp only [List.mem_cons, List.not_mem_nil, or_false] at hi
      rcases hi with rfl | rfl | rfl | rfl | rfl | rfl | rfl | rfl | rfl | rfl | rfl | rfl
      · exact hj
      · exact hj
      · exact hj
      · exact hj
      · obtain ⟨s1, c1, q1, -⟩ := hj
        exact ⟨s1, c1, q1⟩
      · exact hj
      · exact hj
      · exact hj
      · exact hj
      · obtain ⟨s2, c2, q1, -⟩ := hj
        exact ⟨s2, c2, q1⟩
      · obtain ⟨s3, c3, q1, -⟩ := hj
        exact ⟨s3, c3, q1⟩
      · trivial
    case hEE =>
      intro i hi iv iv' vs vs' ha hv hj
      simp only [List.mem_cons, List.not_mem_nil, or_false] at hi
      rcases hi with rfl | rfl | rfl | rfl | rfl | rfl | rfl | rfl | rfl | rfl | rfl | rfl
      · exact (hv.out 0 (mem_of (by kernel_rfl))).symm.trans hj
      · exact (hv.out 1 (mem_of (by kernel_rfl))).symm.trans hj
      · exact (hv.out 2 (mem_of (by kernel_rfl))).symm.trans hj
      · exact (hv.out 3 (mem_of (by kernel_rfl))).symm.trans hj
      · have e4 := hv.out 4 (mem_of (by kernel_rfl))
        have hj' : ∃ s1 c1, vs 4 = .agg #[.int .i64 u.tidy.kind, .int .i64 u.tidy.num, .slice s1 u.tidy.kids.length c1] := hj
        show ∃ s1 c1, vs' 4 = .agg #[.int .i64 u.tidy.kind, .int .i64 u.tidy.num, .slice s1 u.tidy.kids.length c1]
        rw [← e4]
        exact hj'
      · exact (hv.out 5 (mem_of (by kernel_rfl))).symm.trans hj
      · exact (hv.out 6 (mem_of (by kernel_rfl))).symm.trans hj
      · exact (hv.out 7 (mem_of (by kernel_rfl))).symm.trans hj
      · exact (hv.out 8 (mem_of (by kernel_rfl))).symm.trans hj
      · have e9 := hv.out 9 (mem_of (by kernel_rfl))
        have hj' : ∃ s2 c2, vs 9 = .agg #[.int .i64 v.tidy.kind, .int .i64 v.tidy.num, .slice s2 v.tidy.kids.length c2] := hj
        show ∃ s2 c2, vs' 9 = .agg #[.int .i64 v.tidy.kind, .int .i64 v.tidy.num, .slice s2 v.tidy.kids.length c2]
        rw [← e9]
        exact hj'
      · have e10 := hv.out 10 (mem_of (by kernel_rfl))
        have hj' : ∃ s3 c3, vs 10 = .agg #[.int .i64 (Ex.dot u.tidy v.tidy).kind, .int .i64 (Ex.dot u.tidy v.tidy).num, .slice s3 (Ex.dot u.tidy v.tidy).kids.length c3] := hj
        show ∃ s3 c3, vs' 10 = .agg #[.int .i64 (Ex.dot u.tidy v.tidy).kind, .int .i64 (Ex.dot u.tidy v.tidy).num, .slice s3 (Ex.dot u.tidy v.tidy).kids.length c3]
        rw [← e10]
        exact hj'
      · trivial
    case hstep =>
      intro i hi opr ho iv vs w1 hB hS hSo hd he hbd hsep hun K hK
      simp only [List.mem_cons, List.not_mem_nil, or_false] at hi
      have hzB := hB.size
      have kw := hSo.out.block _ hkb (fun ⟨_, _, h⟩ => hkX (Or.inr (by omega)))
      obtain ⟨u0, u1, u2⟩ := Hku.out.keep kw
      obtain ⟨v0, v1, v2⟩ := Hkv.out.keep kw
      have L1 := L.keep (hSo.out.block _ L.lt (fun ⟨_, _, h⟩ => by omega))
      have l0 := L1.c0
      have l1 := L1.c1
      have l2 := L1.c2
      generalize hA : putFrom _ 0 vs _ = A at hK ⊢
      simp only [putFrom, puts] at hA
      rcases hi with rfl | rfl | rfl | rfl | rfl | rfl | rfl | rfl | rfl | rfl | rfl | rfl
      all_goals
        simp at ho
        subst ho
        subst hA
      · go_wp2_with fail
        refine Onward.mk (hK ?val2_0 _ _ (fun h => by cases h) ?eqA (Spares.refl _) (fun iv' _ _ => ?ja))
        case eqA => first | rfl | (simp only [puts]; rfl)
        case ja => exact hx0.out.symm
      · have h0 := (hd.out 0 (mem_of (by kernel_rfl)) (by decide) (by kernel_rfl)).trans hx0.out
        go_wp2_with fail
        refine Onward.mk (hK ?val2_1 _ _ (fun h => by cases h) ?eqA (Spares.refl _) (fun iv' _ _ => ?ja))
        case eqA => first | rfl | (simp only [puts, h0]; rfl)
        case ja => exact hx1.out.symm
      · have h1 := (hd.out 1 (mem_of (by kernel_rfl)) (by decide) (by kernel_rfl)).trans hx1.out
        go_wp2_with fail
        refine Onward.mk (hK ?val2_2 _ _ (fun h => by cases h) ?eqA (Spares.refl _) (fun iv' _ _ => ?ja))
        case eqA => first | rfl | (simp only [puts, h1]; rfl)
        case ja => exact hx2.out.symm
      · have h2 := (hd.out 2 (mem_of (by kernel_rfl)) (by decide) (by kernel_rfl)).trans hx2.out
        go_wp2_with fail
        refine Onward.mk (hK ?val2_3 _ _ (fun h => by cases h) ?eqA (Spares.refl _) (fun iv' _ _ => ?ja))
        case eqA => first | rfl | (simp only [puts, h2]; rfl)
        case ja => exact hx3.out.symm
      · have h3 := (hd.out 3 (mem_of (by kernel_rfl)) (by decide) (by kernel_rfl)).trans hx3.out
        go_wp2_with fail
        have hO : KeptX (XB X w.heap.size 2) wb w1 := KeptX.of_spares hSo.out (fun b _ ⟨m, hg⟩ => hGX m b hg)
        obtain ⟨XQ, hXQ⟩ : ∃ XQ, XQ = OutX wb (XB X w.heap.size 2) (fun b => False) w1 := ⟨_, rfl⟩
        have hXl : ∀ b, XQ b → b < w1.heap.size := by rw [hXQ]; exact OutX.lt
        have hOld : ∀ (d : D) (v : Value), RdX (XB X w.heap.size 2) wb d v → RdX XQ w1 d v := by rw [hXQ]; exact fun d v h => h.toOut hO
        refine (HIH.out u.size (by omega) u XQ _ _ _ (Nat.le_refl _) hXl (hOld _ _ hu) hut (by omega)).mono ?_
        rintro e w2 ⟨s1, c1, rfl, hr, hb⟩
        go_wp2_with fail
        rw [hXQ] at hr
        exact Onward.mk (hK (.agg #[.int .i64 u.tidy.kind, .int .i64 u.tidy.num, .slice s1 u.tidy.kids.length c1]) _ _ (fun h => by cases h) (by first | rfl | (simp only [puts, h3])) (Spares.of_below hb) (fun iv' ag hi => ⟨s1, c1, rfl, RdO.ofX hr hb hO (fun b h => by exact h.elim) (fun b h1 h2 => foot_new hi h1 h2)⟩))
      · go_wp2_with fail
        refine Onward.mk (hK ?val2_5 _ _ (fun h => by cases h) ?eqA (Spares.refl _) (fun iv' _ _ => ?ja))
        case eqA => first | rfl | (simp only [puts]; rfl)
        case ja => exact hx5.out.symm
      · have h5 := (hd.out 5 (mem_of (by kernel_rfl)) (by decide) (by kernel_rfl)).trans hx5.out
        go_wp2_with fail
        refine Onward.mk (hK ?val2_6 _ _ (fun h => by cases h) ?eqA (Spares.refl _) (fun iv' _ _ => ?ja))
        case eqA => first | rfl | (simp only [puts, h5]; rfl)
        case ja => exact hx6.out.symm
      · have h6 := (hd.out 6 (mem_of (by kernel_rfl)) (by decide) (by kernel_rfl)).trans hx6.out
        go_wp2_with fail
        refine Onward.mk (hK ?val2_7 _ _ (fun h => by cases h) ?eqA (Spares.refl _) (fun iv' _ _ => ?ja))
        case eqA => first | rfl | (simp only [puts, h6]; rfl)
        case ja => exact hx7.out.symm
      · have h7 := (hd.out 7 (mem_of (by kernel_rfl)) (by decide) (by kernel_rfl)).trans hx7.out
        go_wp2_with fail
        refine Onward.mk (hK ?val2_8 _ _ (fun h => by cases h) ?eqA (Spares.refl _) (fun iv' _ _ => ?ja))
        case eqA => first | rfl | (simp only [puts, h7]; rfl)
        case ja => exact hx8.out.symm
      · have h8 := (hd.out 8 (mem_of (by kernel_rfl)) (by decide) (by kernel_rfl)).trans hx8.out
        go_wp2_with fail
        have hO : KeptX (XB X w.heap.size 2) wb w1 := KeptX.of_spares hSo.out (fun b _ ⟨m, hg⟩ => hGX m b hg)
        obtain ⟨XQ, hXQ⟩ : ∃ XQ, XQ = OutX wb (XB X w.heap.size 2) (fun b => False) w1 := ⟨_, rfl⟩
        have hXl : ∀ b, XQ b → b < w1.heap.size := by rw [hXQ]; exact OutX.lt
        have hOld : ∀ (d : D) (v : Value), RdX (XB X w.heap.size 2) wb d v → RdX XQ w1 d v := by rw [hXQ]; exact fun d v h => h.toOut hO
        refine (HIH.out v.size (by omega) v XQ _ _ _ (Nat.le_refl _) hXl (hOld _ _ hv) hvt (by omega)).mono ?_
        rintro e w2 ⟨s2, c2, rfl, hr, hb⟩
        go_wp2_with fail
        rw [hXQ] at hr
        exact Onward.mk (hK (.agg #[.int .i64 v.tidy.kind, .int .i64 v.tidy.num, .slice s2 v.tidy.kids.length c2]) _ _ (fun h => by cases h) (by first | rfl | (simp only [puts, h8])) (Spares.of_below hb) (fun iv' ag hi => ⟨s2, c2, rfl, RdO.ofX hr hb hO (fun b h => by exact h.elim) (fun b h1 h2 => foot_new hi h1 h2)⟩))
      · obtain ⟨s1, c1, h4, f4⟩ := hd.out 4 (mem_of (by kernel_rfl)) (by decide) (by kernel_rfl)
        obtain ⟨s2, c2, h9, f9⟩ := hd.out 9 (mem_of (by kernel_rfl)) (by decide) (by kernel_rfl)
        go_wp2_with fail
        have hO : KeptX (XB X w.heap.size 2) wb w1 := KeptX.of_spares hSo.out (fun b _ ⟨m, hg⟩ => hGX m b hg)
        obtain ⟨XQ, hXQ⟩ : ∃ XQ, XQ = OutX wb (XB X w.heap.size 2) (fun b => (foot [(10, 4), (10, 9)] [(11, 0)] (fun m b => (m = 0 ∧ b = (w.heap.size + 1))) 12 4 iv) b ∨ (foot [(10, 4), (10, 9)] [(11, 0)] (fun m b => (m = 0 ∧ b = (w.heap.size + 1))) 12 9 iv) b) w1 := ⟨_, rfl⟩
        have hXl : ∀ b, XQ b → b < w1.heap.size := by rw [hXQ]; exact OutX.lt
        have x4 : RdX XQ w1 (kidsD u.tidy.kids) (.slice s1 u.tidy.kids.length c1) := by rw [hXQ]; exact f4.toX hO (fun b h => (Or.inl h))
        have x9 : RdX XQ w1 (kidsD v.tidy.kids) (.slice s2 v.tidy.kids.length c2) := by rw [hXQ]; exact f9.toX hO (fun b h => (Or.inr h))
        have hOld : ∀ (d : D) (v : Value), RdX (XB X w.heap.size 2) wb d v → RdX XQ w1 d v := by rw [hXQ]; exact fun d v h => h.toOut hO
        refine (tidyDot_all tm am _ u.tidy v.tidy XQ _ _ _ _ _ (Nat.le_refl _) hXl x4 x9 hu1).mono ?_
        rintro e w2 ⟨s3, c3, rfl, hr, hb⟩
        go_wp2_with fail
        rw [hXQ] at hr
        exact Onward.mk (hK (.agg #[.int .i64 (Ex.dot u.tidy v.tidy).kind, .int .i64 (Ex.dot u.tidy v.tidy).num, .slice s3 (Ex.dot u.tidy v.tidy).kids.length c3]) _ _ (fun h => by cases h) (by first | rfl | (simp only [puts, h4, h9])) (Spares.of_below hb) (fun iv' ag hi => ⟨s3, c3, rfl, RdO.ofX hr hb hO (fun b h => by rcases h with h | h; exact foot_step (by kernel_rfl) ag h; exact foot_step (by kernel_rfl) ag h) (fun b h1 h2 => foot_new hi h1 h2)⟩))
      · obtain ⟨s3, c3, h10, f10⟩ := hd.out 10 (mem_of (by kernel_rfl)) (by decide) (by kernel_rfl)
        have R1 := R.keep (hS.out 0 _ (by kernel_rfl) ⟨rfl, rfl⟩)
        have rc0 := R1.c0
        have rz0 := R1.frozen 0
        have rc1 := R1.c1
        have rz1 := R1.frozen 1
        have rc2 := R1.c2
        have rz2 := R1.frozen 2
        have rlt := R1.lt
        go_wp2_with fail
        exact Onward.mk (hK undef _ _ (fun _ => rfl) (by simp only [puts, h10]) ((spares_sets (b0 := (w.heap.size + 1)) (by repeat (first | exact Spares.refl _ | apply Spares.set))).more (fun b h => Or.inl ⟨0, by decide, ⟨rfl, h⟩⟩)) (fun iv' ag hi => by
          show Blk _ (w.heap.size + 1) 30 [aggAt (vs 10) 0, aggAt (vs 10) 1, aggAt (vs 10) 2]
          rw [h10]
          exact (((R1.set 0 _).set 1 _).set 2 _)))
    case hQ =>
      intro iv vs wx hB hSp hd he hbd hsep
      have hzB := hB.size
      have h0 := (hd.out 0 (mem_of (by kernel_rfl)) (not_eaten (by kernel_rfl))).trans hx0.out
      have h1 := (hd.out 1 (mem_of (by kernel_rfl)) (not_eaten (by kernel_rfl))).trans hx1.out
      have h2 := (hd.out 2 (mem_of (by kernel_rfl)) (not_eaten (by kernel_rfl))).trans hx2.out
      have h3 := (hd.out 3 (mem_of (by kernel_rfl)) (not_eaten (by kernel_rfl))).trans hx3.out
      obtain ⟨s1, c1, h4⟩ := he.out 4 (mem_of (by kernel_rfl))
      have h5 := (hd.out 5 (mem_of (by kernel_rfl)) (not_eaten (by kernel_rfl))).trans hx5.out
      have h6 := (hd.out 6 (mem_of (by kernel_rfl)) (not_eaten (by kernel_rfl))).trans hx6.out
      have h7 := (hd.out 7 (mem_of (by kernel_rfl)) (not_eaten (by kernel_rfl))).trans hx7.out
      have h8 := (hd.out 8 (mem_of (by kernel_rfl)) (not_eaten (by kernel_rfl))).trans hx8.out
      obtain ⟨s2, c2, h9⟩ := he.out 9 (mem_of (by kernel_rfl))
      obtain ⟨s3, c3, h10, f10⟩ := hd.out 10 (mem_of (by kernel_rfl)) (not_eaten (by kernel_rfl))
      have f11 : Blk _ (w.heap.size + 1) 30 [aggAt (vs 10) 0, aggAt (vs 10) 1, aggAt (vs 10) 2] := hd.out 11 (mem_of (by kernel_rfl)) (not_eaten (by kernel_rfl))
      simp only [putFrom, puts]
      have hOq : KeptX (XB X w.heap.size 2) wb wx := KeptX.of_spares hSp.out (fun b _ ⟨m, hg⟩ => hGX m b hg)
      have r10 : RdX (XB X w.heap.size 2) wx (kidsD (Ex.dot u.tidy v.tidy).kids) (.slice s3 (Ex.dot u.tidy v.tidy).kids.length c3) := f10.done hOq (fun b hf hx => by have q := foot_no (l := [0, 1, 2, 3, 4, 5, 6, 7, 8, 9, 10, 11]) (by kernel_rfl) (by kernel_rfl) hbd.out hf; have q' := hXW b hx; omega)
      clear f10
      rw [h10] at f11
      simp only [aggAt] at f11
      have t0 := f11.c0
      have t1 := f11.c1
      have t2 := f11.c2
      go_wp2_with fail
      refine bodyPost_ret (v := .agg #[.int .i64 (Ex.dot u.tidy v.tidy).kind, .int .i64 (Ex.dot u.tidy v.tidy).num, .slice s3 (Ex.dot u.tidy v.tidy).kids.length c3]) (by simp [results, Tryz.results84, go_sem, t0, t1, t2]) rfl ?_
      rw [E1.out]
      exact ⟨_, _, rfl, ExX.unbox (p := w.heap.size) (n := 2) r10, hB'.trans (hB.mono (by omega))⟩
  have c7 : (k == 7) = false := by simp [h7]
  by_cases h8 : k = 8
  · subst h8
    obtain ⟨u, rfl⟩ := one_kid hk (by omega)
    have hsz := Ex.size_eq (.mk 8 n [u])
    simp only [Ex.sizeL, Ex.kids_mk] at hsz
    have E1 : Hid ((Ex.mk 8 n [u]).tidy = u.tidy.star) := by show _ = _; exact Ex.tidy_star
    have hut : u.tree tm am = true := Ex.treeL_mem htl (by simp)
    obtain ⟨kb, ko, su, cu, rfl, -, -, -, -, -, -, -⟩ := kidX0 hx
    simp only [List.length_cons, List.length_nil, Nat.zero_add] at hl ⊢
    obtain ⟨kb', ko', su, cu, e1, -, -, -, hkb, -, ku, -⟩ := kidX0 (r := []) hx
    simp only [Option.some.injEq, Addr.mk.injEq, and_true] at e1
    obtain ⟨rfl, rfl⟩ := e1
    obtain ⟨u0, u1, u2⟩ := ku
    clear htl hk
    go_enter Tryz.func84, Tryz.ntmps84
    go_wp2_with fail
    have L := (Blk.new3 w 30 (.int .i64 8) (.int .i64 n) (.slice (some ⟨kb, ko, none⟩) 1 c)).alloc (.cells #[.int .i64 0, .int .i64 0, .slice none 0 0] 30)
    have R := Blk.new3 (w.alloc (.cells #[.int .i64 8, .int .i64 n, .slice (some ⟨kb, ko, none⟩) 1 c] 30)) 30 (.int .i64 0) (.int .i64 0) (.slice none 0 0)
    have hB : Below w.heap.size w ((w.alloc (.cells #[.int .i64 8, .int .i64 n, .slice (some ⟨kb, ko, none⟩) 1 c] 30)).alloc (.cells #[.int .i64 0, .int .i64 0, .slice none 0 0] 30)) := by (repeat' first | exact Below.refl _ _ | assumption | apply Below.alloc | apply Below.drew | apply Below.setCell | omega | (simp; done) | (simp; omega))
    have hz0 : ((w.alloc (.cells #[.int .i64 8, .int .i64 n, .slice (some ⟨kb, ko, none⟩) 1 c] 30)).alloc (.cells #[.int .i64 0, .int .i64 0, .slice none 0 0] 30)).heap.size = w.heap.size + 2 := by simp
    simp at R
    generalize (w.alloc (.cells #[.int .i64 8, .int .i64 n, .slice (some ⟨kb, ko, none⟩) 1 c] 30)).alloc (.cells #[.int .i64 0, .int .i64 0, .slice none 0 0] 30) = wb at L R hB hz0 ⊢
    have hx1 : ExX (XB X w.heap.size 2) wb (.mk 8 n [u]) (some ⟨kb, ko, none⟩) c := ExX.boxes hx hB
    have hB' := hB
    have hXW : ∀ b, XB X w.heap.size 2 b → b < wb.heap.size := fun b q => q.elim (fun q => by have := hX _ q; omega) (fun q => by omega)
    clear hx
    obtain ⟨kb', ko', su', cu', e1, -, -, -, -, hkX, ku', hu⟩ := kidX0 (r := []) hx1
    simp only [Option.some.injEq, Addr.mk.injEq, and_true] at e1
    obtain ⟨rfl, rfl⟩ := e1
    have e2 := (hB.cell (p := ⟨kb, ko + 2, none⟩) hkb).trans u2
    rw [ku'.2.2] at e2
    simp only [Option.some.injEq, Value.slice.injEq, true_and] at e2
    obtain ⟨rfl, rfl⟩ := e2
    refine (HIH.out u.size (by omega) u (XB X w.heap.size 2) _ _ _ (Nat.le_refl _) hXW hu hut (by omega)).mono ?_
    rintro f w2 ⟨s2, c2, rfl, h2, hb⟩
    replace hB := Below.on hB hb hB.size
    replace R := R.below hb
    clear u0 u1 u2 ku'
    go_wp2_with fail
    refine (tidyStar_i (fun b q => Nat.lt_of_lt_of_le (hXW b q) hb.size) h2).mono ?_
    rintro f w3 ⟨s3, c3, rfl, h3, hb3⟩
    replace hB := Below.on hB hb3 hB.size
    replace R := R.below hb3
    -- the result box w.heap.size + 1 of world w3 is set to an expression; goal: bodyPost. R : the box; Rests: hs5 : Spares, T2
    have r0 := R.c0
    have r1 := R.c1
    have r2 := R.c2
    have z0 := R.frozen 0
    have z1 := R.frozen 1
    have z2 := R.frozen 2
    have ltR := R.lt
    go_wp2_with fail
    have T2 := ((R.set 0 (.int .i64 u.tidy.star.kind)).set 1 (.int .i64 u.tidy.star.num)).set 2 (.slice s3 u.tidy.star.kids.length c3)
    have hs5 : Spares (fun y => y = w.heap.size + 1) w3 (((w3.setCell ⟨w.heap.size + 1, 0, none⟩ (.int .i64 u.tidy.star.kind)).setCell ⟨w.heap.size + 1, 1, none⟩ (.int .i64 u.tidy.star.num)).setCell ⟨w.heap.size + 1, 2, none⟩ (.slice s3 u.tidy.star.kids.length c3)) := Spares.set (Spares.set (Spares.set (Spares.refl w3)))
    generalize (((w3.setCell ⟨w.heap.size + 1, 0, none⟩ (.int .i64 u.tidy.star.kind)).setCell ⟨w.heap.size + 1, 1, none⟩ (.int .i64 u.tidy.star.num)).setCell ⟨w.heap.size + 1, 2, none⟩ (.slice s3 u.tidy.star.kids.length c3)) = w5 at T2 hs5 ⊢
    have t0 := T2.c0
    have t1 := T2.c1
    have t2 := T2.c2
    have hzB5 := hB.size
    have hB5 := hB.trans (hs5.below (B := w.heap.size) (by omega) (fun y hy => by omega))
    refine bodyPost_ret (v := .agg #[.int .i64 u.tidy.star.kind, .int .i64 u.tidy.star.num, .slice s3 u.tidy.star.kids.length c3]) (by simp [results, Tryz.results84, go_sem, t0, t1, t2]) rfl ?_
    rw [E1.out]
    exact ⟨_, _, rfl, (h3.keep (KeptX.of_spares hs5 (fun b _ h => Or.inr (by omega)))).unbox, hB5⟩
  have c8 : (k == 8) = false := by simp [h8]
  have E1 : Hid ((Ex.mk k n ks).tidy = .mk k n ks) := by show _ = _; exact Ex.tidy_else h6 h7 h8
  have hsz := Ex.size_eq (.mk k n ks)
  simp only [Ex.kids_mk] at hsz
  clear htl hk h6 h7 h8
  go_enter Tryz.func84, Tryz.ntmps84
  go_wp2_with fail
  have L := (Blk.new3 w 30 (.int .i64 k) (.int .i64 n) (.slice s ks.length c)).alloc (.cells #[.int .i64 0, .int .i64 0, .slice none 0 0] 30)
  have R := Blk.new3 (w.alloc (.cells #[.int .i64 k, .int .i64 n, .slice s ks.length c] 30)) 30 (.int .i64 0) (.int .i64 0) (.slice none 0 0)
  have hB : Below w.heap.size w ((w.alloc (.cells #[.int .i64 k, .int .i64 n, .slice s ks.length c] 30)).alloc (.cells #[.int .i64 0, .int .i64 0, .slice none 0 0] 30)) := by (repeat' first | exact Below.refl _ _ | assumption | apply Below.alloc | apply Below.drew | apply Below.setCell | omega | (simp; done) | (simp; omega))
  have hz0 : ((w.alloc (.cells #[.int .i64 k, .int .i64 n, .slice s ks.length c] 30)).alloc (.cells #[.int .i64 0, .int .i64 0, .slice none 0 0] 30)).heap.size = w.heap.size + 2 := by simp
  simp at R
  generalize (w.alloc (.cells #[.int .i64 k, .int .i64 n, .slice s ks.length c] 30)).alloc (.cells #[.int .i64 0, .int .i64 0, .slice none 0 0] 30) = wb at L R hB hz0 ⊢
  have hx1 : ExX (XB X w.heap.size 2) wb (.mk k n ks) s c := ExX.boxes hx hB
  have hB' := hB
  have hXW : ∀ b, XB X w.heap.size 2 b → b < wb.heap.size := fun b q => q.elim (fun q => by have := hX _ q; omega) (fun q => by omega)
  clear hx
  refine (copy_k (k := k) (n := n) (ks := ks) (s := s) (c := c) hx1.rd (by omega)).mono ?_
  rintro f w3 ⟨s3, c3, rfl, h3, hb3⟩
  have h4 : ExX (XB X w.heap.size 2) w3 (.mk k n ks) s3 c3 := RdX.fresh h3 hXW
  replace hB := Below.on hB hb3 hB.size
  replace R := R.below hb3
  -- the result box w.heap.size + 1 of world w3 is set to an expression; goal: bodyPost. R : the box; Rests: hs5 : Spares, T2
  have r0 := R.c0
  have r1 := R.c1
  have r2 := R.c2
  have z0 := R.frozen 0
  have z1 := R.frozen 1
  have z2 := R.frozen 2
  have ltR := R.lt
  go_wp2_with fail
  have T2 := ((R.set 0 (.int .i64 k)).set 1 (.int .i64 n)).set 2 (.slice s3 ks.length c3)
  have hs5 : Spares (fun y => y = w.heap.size + 1) w3 (((w3.setCell ⟨w.heap.size + 1, 0, none⟩ (.int .i64 k)).setCell ⟨w.heap.size + 1, 1, none⟩ (.int .i64 n)).setCell ⟨w.heap.size + 1, 2, none⟩ (.slice s3 ks.length c3)) := Spares.set (Spares.set (Spares.set (Spares.refl w3)))
  generalize (((w3.setCell ⟨w.heap.size + 1, 0, none⟩ (.int .i64 k)).setCell ⟨w.heap.size + 1, 1, none⟩ (.int .i64 n)).setCell ⟨w.heap.size + 1, 2, none⟩ (.slice s3 ks.length c3)) = w5 at T2 hs5 ⊢
  have t0 := T2.c0
  have t1 := T2.c1
  have t2 := T2.c2
  have hzB5 := hB.size
  have hB5 := hB.trans (hs5.below (B := w.heap.size) (by omega) (fun y hy => by omega))
  refine bodyPost_ret (v := .agg #[.int .i64 k, .int .i64 n, .slice s3 ks.length c3]) (by simp [results, Tryz.results84, go_sem, t0, t1, t2]) rfl ?_
  rw [E1.out]
  exact ⟨_, _, rfl, (h4.keep (KeptX.of_spares hs5 (fun b _ h => Or.inr (by omega)))).unbox, hB5⟩
end Go.Proofs.YtjlmdhoajfdkbaaGreatDoor

namespace Go.Proofs.YtjlmdhoajfdkbaaGreatDoor
set_option linter.unusedVariables false
set_option linter.unusedSimpArgs false
open Go.ChangeShapes Go.WideShapes Go.ChangeAt Go.RowKit
theorem l01Size_all (N : Nat) : ∀ (e : Ex) (b o : Nat) (w : World), e.size ≤ N → ExAt w b o e → e.size ≤ 1073741824 →
    Calls Tryz.prog 127 #[.pointer (some ⟨b, o, none⟩)] w fun f w' => f = .returned (.int .i64 e.size) ∧ w = w' := by
  induction N using Nat.strongRecOn with
  | _ N ih =>
  intro e b o w hN hr h1
  obtain ⟨_, _, s, c, g2, g3⟩ := hr
  obtain ⟨-, hlen, hcap, -, -⟩ := kid_at g3
  unfold maxLen at hcap
  have hse := Ex.size_eq e
  have Hse := Lib.hid hse
  have hks : Ex.sizeL e.kids < N := by omega
  have hks' : Ex.sizeL e.kids ≤ 1073741824 := by omega
  clear hse
  go_enter Tryz.func127, Tryz.ntmps127
  go_wp2_with fail
  go_loop [3, 4] (fun n i => ∃ k : Nat, k ≤ e.kids.length ∧ i = .int .i64 k ∧ n = .int .i64 (1 + (Ex.sizeL (e.kids.take k) : Nat) : Nat)) (fun _ i => e.kids.length - (intOf i).toNat)
  case atStart => exact ⟨0, by omega, rfl, by simp [Ex.sizeL]⟩
  case round =>
    obtain ⟨k, hk, rfl, rfl⟩ := hrel
    have hle := Ex.sizeL_take_le e.kids k
    by_cases hlt : k < e.kids.length
    · obtain ⟨f, hf⟩ : ∃ f, e.kids[k]? = some f := ⟨_, List.getElem?_eq_getElem hlt⟩
      obtain ⟨b', o', rfl⟩ := kid_some g3 (by intro h; simp [h] at hlt)
      have hat := kid_exAt g3 hf
      have htk := Ex.sizeL_take_succ hf
      have hmem := Ex.sizeL_mem (List.mem_of_getElem? hf)
      have hle' := Ex.sizeL_take_le e.kids (k + 1)
      have hsum : Ex.sizeL (e.kids.take k) + f.size ≤ 1073741824 := by omega
      have Htk := Lib.hid htk
      clear htk
      go_wp2_with fail
      refine (ih _ (by omega) f _ _ _ (Nat.le_refl _) hat (by omega)).mono ?_
      rintro x w' ⟨rfl, rfl⟩
      go_wp2_with fail
      go_round
      case rel => exact ⟨k + 1, by omega, by go_num, by rw [Htk.out]; go_num⟩
      case measure => simp [intOf]; omega
    · obtain rfl : k = e.kids.length := by omega
      go_wp2_with fail
      go_ret
      exact ⟨ret_int (by have := Hse.out; omega), rfl⟩
def SizeS (N : Nat) : Prop := ∀ (k n : Int) (ks : List Ex) (s : Option Addr) (cap : Nat) (w : World), Ex.sizeL ks ≤ N → Rd w (kidsD ks) (.slice s ks.length cap) → Ex.sizeL ks ≤ 1073741824 →
    Calls Tryz.prog 165 #[.agg #[.int .i64 k, .int .i64 n, .slice s ks.length cap]] w fun f w' => f = .returned (.int .i64 (1 + Ex.sizeL ks : Nat)) ∧ Below w.heap.size w w'
theorem implExprSize_all (N : Nat) : SizeS N := by
  induction N using Nat.strongRecOn with
  | _ N ih =>
  intro k0 n0 ks s cap w hN hr h1
  obtain ⟨-, hlen, hcap, -, -⟩ := kid_at hr
  unfold maxLen at hcap
  go_enter Tryz.func165, Tryz.ntmps165
  go_wp2_with fail
  go_loopw [3, 9] (fun n i wr => ∃ k : Nat, k ≤ ks.length ∧ i = .int .i64 k ∧ n = .int .i64 (1 + (Ex.sizeL (ks.take k) : Nat) : Nat) ∧ Below w.heap.size w wr) (fun _ i _ => ks.length - (intOf i).toNat)
  case atStart => exact ⟨0, by omega, rfl, by simp [Ex.sizeL], by (repeat' first | exact Below.refl _ _ | assumption | apply Below.alloc | apply Below.drew | apply Below.setCell | omega | (simp; done) | (simp; omega))⟩
  case round =>
    obtain ⟨k, hk, rfl, rfl, hB⟩ := hrel
    have hzB := hB.size
    have hle := Ex.sizeL_take_le ks k
    by_cases hlt : k < ks.length
    · obtain ⟨f, hf⟩ : ∃ f, ks[k]? = some f := ⟨_, List.getElem?_eq_getElem hlt⟩
      obtain ⟨b', o', rfl⟩ := kid_some hr (by intro h; simp [h] at hlt)
      obtain ⟨-, s', c', g0, g1, g2, gr⟩ := kid_in (hr.below hB) hf
      have htk := Ex.sizeL_take_succ hf
      have hle' := Ex.sizeL_take_le ks (k + 1)
      have hsf := Ex.size_eq f
      have hmem := Ex.sizeL_mem (List.mem_of_getElem? hf)
      have hsum : Ex.sizeL (ks.take k) + (1 + Ex.sizeL f.kids) ≤ 1073741824 := by omega
      have Htk : Hid (Ex.sizeL (ks.take (k + 1)) = Ex.sizeL (ks.take k) + (1 + Ex.sizeL f.kids)) := by show _ = _; omega
      have hN' : Ex.sizeL f.kids < N := by omega
      clear htk hsf
      go_wp2_with fail
      refine (ih _ hN' _ _ _ _ _ _ (Nat.le_refl _) (gr.alloc _) (by omega)).mono ?_
      rintro x w1 ⟨rfl, hb⟩
      have hB1 : Below w.heap.size w w1 := Below.on (by (repeat' first | exact Below.refl _ _ | assumption | apply Below.alloc | apply Below.drew | apply Below.setCell | omega | (simp; done) | (simp; omega))) hb (by simp; omega)
      clear hb
      go_wp2_with fail
      go_roundw
      case rel => exact ⟨k + 1, by omega, by go_num, by rw [Htk.out]; go_num, hB1⟩
      case measure => simp [intOf]; omega
    · obtain rfl : k = ks.length := by omega
      go_wp2_with fail
      go_ret
      exact ⟨ret_int (by simp), hB⟩
theorem implExprSize_i {k n : Int} {ks : List Ex} {s : Option Addr} {cap : Nat} {w : World} (hr : Rd w (kidsD ks) (.slice s ks.length cap)) (h1 : Ex.sizeL ks ≤ 1048576) :
    Calls Tryz.prog 165 #[.agg #[.int .i64 k, .int .i64 n, .slice s ks.length cap]] w fun f w' => f = .returned (.int .i64 (1 + Ex.sizeL ks : Nat)) ∧ Below w.heap.size w w' :=
  implExprSize_all _ k n ks s cap w (Nat.le_refl _) hr (by omega)
end Go.Proofs.YtjlmdhoajfdkbaaGreatDoor

namespace Go.Proofs.YtjlmdhoajfdkbaaGreatDoor
set_option linter.unusedVariables false
set_option linter.unusedSimpArgs false
open Go.ChangeShapes Go.WideShapes Go.ChangeAt Go.RowKit Go.Deep
theorem Blk.new6 (w : World) (t : TypeId) (a b c d e f : Value) : Blk (w.alloc (.cells #[a, b, c, d, e, f] t)) w.heap.size t [a, b, c, d, e, f] := Blk.made _ _ _
end Go.Proofs.YtjlmdhoajfdkbaaGreatDoor

namespace Go.Proofs.YtjlmdhoajfdkbaaGreatDoor
set_option linter.unusedVariables false
set_option linter.unusedSimpArgs false
open Go.ChangeShapes Go.WideShapes Go.ChangeAt Go.RowKit Go.Deep Go.Sort
noncomputable def optE (o : Option Ex) : Ex := o.getD (.mk 0 0 [])
def OutP (X : Nat → Prop) (w : World) (o : Option Ex) (f : Ending) (w' : World) : Prop := ∃ s' c', f = .returned (.tuple #[.agg #[.int .i64 (optE o).kind, .int .i64 (optE o).num, .slice s' (optE o).kids.length c'], .bool o.isSome]) ∧ ExX X w' (optE o) s' c' ∧ Below w.heap.size w w'
theorem exprSize_e {e : Ex} {s : Option Addr} {c : Nat} {w : World} (hr : Rd w (kidsD e.kids) (.slice s e.kids.length c)) (h : e.size ≤ 1048576) : Calls Tryz.prog 165 #[.agg #[.int .i64 e.kind, .int .i64 e.num, .slice s e.kids.length c]] w fun f w' => f = .returned (.int .i64 (e.size : Nat)) ∧ Below w.heap.size w w' := by
  rw [Ex.size_eq] at h ⊢
  exact implExprSize_i hr (by omega)
theorem emptyAt_e {tm am m : Int} (ht : tm ≤ 2) (h0 : 0 ≤ m) (h7 : m ≤ 7) {e : Ex} {s : Option Addr} {c : Nat} {w : World} (hr : Rd w (kidsD e.kids) (.slice s e.kids.length c)) (htr : e.tree tm am = true) :
    Calls Tryz.prog 86 #[.agg #[.int .i64 e.kind, .int .i64 e.num, .slice s e.kids.length c], .int .i64 m] w fun f w' => f = .returned (.bool (e.emp m)) ∧ Below w.heap.size w w' := by
  have := emptyAt_all tm am m ht h0 h7 _ e.kind e.num e.kids s c w (Nat.le_refl _) hr (by rw [← Ex.eta e]; exact htr)
  rw [← Ex.eta e] at this
  exact this
set_option maxHeartbeats 4000000 in
theorem limited_i {tm am : Int} (ht : tm ≤ 8) (ha : am ≤ 8) {X : Nat → Prop} {e : Ex} {s : Option Addr} {c : Nat} {w : World} (hX : ∀ b, X b → b < w.heap.size) (hx : ExX X w e s c) (htr : e.tree tm am = true) (hsz : e.size ≤ 50000) :
    Calls Tryz.prog 131 #[.agg #[.int .i64 e.kind, .int .i64 e.num, .slice s e.kids.length c]] w (OutP X w (limE e)) := by
  go_enter Tryz.func131, Tryz.ntmps131
  go_wp2_with fail
  have L := (Blk.new3 w 30 (.int .i64 e.kind) (.int .i64 e.num) (.slice s e.kids.length c)).alloc (.cells #[.int .i64 0, .int .i64 0, .slice none 0 0] 30)
  have R := Blk.new3 (w.alloc (.cells #[.int .i64 e.kind, .int .i64 e.num, .slice s e.kids.length c] 30)) 30 (.int .i64 0) (.int .i64 0) (.slice none 0 0)
  have hB : Below w.heap.size w ((w.alloc (.cells #[.int .i64 e.kind, .int .i64 e.num, .slice s e.kids.length c] 30)).alloc (.cells #[.int .i64 0, .int .i64 0, .slice none 0 0] 30)) := by (repeat' first | exact Below.refl _ _ | assumption | apply Below.alloc | apply Below.drew | apply Below.setCell | omega | (simp; done) | (simp; omega))
  have hz0 : ((w.alloc (.cells #[.int .i64 e.kind, .int .i64 e.num, .slice s e.kids.length c] 30)).alloc (.cells #[.int .i64 0, .int .i64 0, .slice none 0 0] 30)).heap.size = w.heap.size + 2 := by simp
  simp at R
  generalize (w.alloc (.cells #[.int .i64 e.kind, .int .i64 e.num, .slice s e.kids.length c] 30)).alloc (.cells #[.int .i64 0, .int .i64 0, .slice none 0 0] 30) = w1 at L R hB hz0 ⊢
  have hx1 : ExX (XB X w.heap.size 2) w1 e s c := hx.boxes hB
  have hX1 : ∀ b, XB X w.heap.size 2 b → b < w1.heap.size := fun b q => q.elim (fun q => by have := hX _ q; omega) (fun q => by omega)
  refine (exprSize_e hx1.rd (by omega)).mono ?_
  rintro f w2 ⟨rfl, hb⟩
  replace hB := Below.on hB hb hB.size
  replace L := L.below hb
  replace R := R.below hb
  replace hx1 := hx1.below hb
  have hsz2 := hb.size
  rw [hz0] at hsz2
  clear hb hx
  have l0 := L.c0
  have l1 := L.c1
  have l2 := L.c2
  by_cases h8 : e.size ≤ 800
  · have E1 : Hid (limE e = some e.tidy) := by show _ = _; unfold limE; rw [if_pos h8]
    have c8 : ¬ ((e.size : Int) > 800) := by omega
    go_wp2_with fail
    refine (tidy_all tm am ht ha _ e (XB X w.heap.size 2) s c w2 (Nat.le_refl _) (fun b q => by have := hX1 b q; omega) hx1 htr hsz).mono ?_
    rintro f w3 ⟨s3, c3, rfl, h3, hb3⟩
    replace hB := Below.on hB hb3 hB.size
    replace R := R.below hb3
    clear l0 l1 l2 h8 c8
    have r0 := R.c0
    have r1 := R.c1
    have r2 := R.c2
    have z0 := R.frozen 0
    have z1 := R.frozen 1
    have z2 := R.frozen 2
    have ltR := R.lt
    go_wp2_with fail
    have T2 := ((R.set 0 (.int .i64 e.tidy.kind)).set 1 (.int .i64 e.tidy.num)).set 2 (.slice s3 e.tidy.kids.length c3)
    have hs5 : Spares (fun y => y = w.heap.size + 1) w3 (((w3.setCell ⟨w.heap.size + 1, 0, none⟩ (.int .i64 e.tidy.kind)).setCell ⟨w.heap.size + 1, 1, none⟩ (.int .i64 e.tidy.num)).setCell ⟨w.heap.size + 1, 2, none⟩ (.slice s3 e.tidy.kids.length c3)) := Spares.set (Spares.set (Spares.set (Spares.refl w3)))
    generalize (((w3.setCell ⟨w.heap.size + 1, 0, none⟩ (.int .i64 e.tidy.kind)).setCell ⟨w.heap.size + 1, 1, none⟩ (.int .i64 e.tidy.num)).setCell ⟨w.heap.size + 1, 2, none⟩ (.slice s3 e.tidy.kids.length c3)) = w5 at T2 hs5 ⊢
    have t0 := T2.c0
    have t1 := T2.c1
    have t2 := T2.c2
    have hzB5 := hB.size
    have hB5 := hB.trans (hs5.below (B := w.heap.size) (by omega) (fun y hy => by omega))
    refine bodyPost_ret (v := .tuple #[.agg #[.int .i64 e.tidy.kind, .int .i64 e.tidy.num, .slice s3 e.tidy.kids.length c3], .bool true]) (by simp [results, Tryz.results131, go_sem, t0, t1, t2]) rfl ?_
    rw [E1.out]
    exact ⟨_, _, rfl, (h3.keep (KeptX.of_spares hs5 (fun y _ hy => Or.inr (by omega)))).unbox, hB5⟩
  · have E1 : Hid (limE e = none) := by show _ = _; unfold limE; rw [if_neg h8]
    have c8 : (e.size : Int) > 800 := by omega
    have r0 := R.c0
    have r1 := R.c1
    have r2 := R.c2
    have z0 := R.frozen 0
    have z1 := R.frozen 1
    have z2 := R.frozen 2
    have ltR := R.lt
    go_wp2_with fail
    have T2 := ((R.set 0 (.int .i64 0)).set 1 (.int .i64 0)).set 2 (.slice none 0 0)
    have hs5 : Spares (fun y => y = w.heap.size + 1) w2 (((w2.setCell ⟨w.heap.size + 1, 0, none⟩ (.int .i64 0)).setCell ⟨w.heap.size + 1, 1, none⟩ (.int .i64 0)).setCell ⟨w.heap.size + 1, 2, none⟩ (.slice none 0 0)) := Spares.set (Spares.set (Spares.set (Spares.refl w2)))
    generalize (((w2.setCell ⟨w.heap.size + 1, 0, none⟩ (.int .i64 0)).setCell ⟨w.heap.size + 1, 1, none⟩ (.int .i64 0)).setCell ⟨w.heap.size + 1, 2, none⟩ (.slice none 0 0)) = w5 at T2 hs5 ⊢
    have t0 := T2.c0
    have t1 := T2.c1
    have t2 := T2.c2
    have hzB5 := hB.size
    have hB5 := hB.trans (hs5.below (B := w.heap.size) (by omega) (fun y hy => by omega))
    refine bodyPost_ret (v := .tuple #[.agg #[.int .i64 0, .int .i64 0, .slice none 0 0], .bool false]) (by simp [results, Tryz.results131, go_sem, t0, t1, t2]) rfl ?_
    rw [E1.out]
    exact ⟨none, 0, rfl, kidsD_nil, hB5⟩
set_option maxRecDepth 100000 in
set_option maxHeartbeats 8000000 in
theorem derived_all (tm am m x : Int) (ht2 : tm ≤ 2) (ha : am ≤ 8) (h0 : 0 ≤ m) (h7 : m ≤ 7) (N : Nat) : ∀ (e : Ex) (X : Nat → Prop) (s : Option Addr) (c : Nat) (w : World), e.size ≤ N → (∀ b, X b → b < w.heap.size) → ExX X w e s c → e.tree tm am = true → e.size ≤ 10000 →
    Calls Tryz.prog 70 #[.agg #[.int .i64 e.kind, .int .i64 e.num, .slice s e.kids.length c], .int .i64 m, .int .i64 x] w (OutP X w (e.step m x)) := by
  have ht : tm ≤ 8 := by omega
  induction N using Nat.strongRecOn with
  | _ N ih =>
  intro e X s c w hN hX hx htr hsz1
  have HIH := Lib.hid ih
  clear ih
  obtain ⟨-, hl, hcap, -, -⟩ := kid_at hx.rd
  unfold maxLen at hcap
  obtain ⟨k, n, ks⟩ := e
  obtain ⟨hk, -, -, htl⟩ := tree_parts htr
  simp only [Ex.kind_mk, Ex.num_mk, Ex.kids_mk] at hl ⊢
  by_cases h4 : k = 4
  · subst h4
    by_cases hn : n = x
    · have E1 : Hid ((Ex.mk 4 n ks).step m x = some (.leaf 2)) := by show _ = _; rw [Ex.step_act, if_pos hn]
      have cn : (n == x) = true := by simp [hn]
      clear htl hk hn
      go_enter Tryz.func70, Tryz.ntmps70
      go_wp2_with fail
      have L := (Blk.new3 w 30 (.int .i64 4) (.int .i64 n) (.slice s ks.length c)).alloc (.cells #[.int .i64 0, .int .i64 0, .slice none 0 0] 30)
      have R := Blk.new3 (w.alloc (.cells #[.int .i64 4, .int .i64 n, .slice s ks.length c] 30)) 30 (.int .i64 0) (.int .i64 0) (.slice none 0 0)
      have hB : Below w.heap.size w ((w.alloc (.cells #[.int .i64 4, .int .i64 n, .slice s ks.length c] 30)).alloc (.cells #[.int .i64 0, .int .i64 0, .slice none 0 0] 30)) := by (repeat' first | exact Below.refl _ _ | assumption | apply Below.alloc | apply Below.drew | apply Below.setCell | omega | (simp; done) | (simp; omega))
      have hz0 : ((w.alloc (.cells #[.int .i64 4, .int .i64 n, .slice s ks.length c] 30)).alloc (.cells #[.int .i64 0, .int .i64 0, .slice none 0 0] 30)).heap.size = w.heap.size + 2 := by simp
      simp at R
      generalize (w.alloc (.cells #[.int .i64 4, .int .i64 n, .slice s ks.length c] 30)).alloc (.cells #[.int .i64 0, .int .i64 0, .slice none 0 0] 30) = wb at L R hB hz0 ⊢
      have hx1 : ExX (XB X w.heap.size 2) wb (.mk 4 n ks) s c := ExX.boxes hx hB
      have hXW : ∀ b, XB X w.heap.size 2 b → b < w.heap.size + 2 := fun b q => q.elim (fun q => by have := hX _ q; omega) (fun q => by omega)
      refine (leaf_i).mono ?_
      rintro f w4 ⟨rfl, hb⟩
      replace hB := Below.on hB hb hB.size
      replace R := R.below hb
      have r0 := R.c0
      have r1 := R.c1
      have r2 := R.c2
      have z0 := R.frozen 0
      have z1 := R.frozen 1
      have z2 := R.frozen 2
      have ltR := R.lt
      go_wp2_with fail
      have T2 := ((R.set 0 (.int .i64 2)).set 1 (.int .i64 0)).set 2 (.slice none 0 0)
      have hs5 : Spares (fun y => y = w.heap.size + 1) w4 (((w4.setCell ⟨w.heap.size + 1, 0, none⟩ (.int .i64 2)).setCell ⟨w.heap.size + 1, 1, none⟩ (.int .i64 0)).setCell ⟨w.heap.size + 1, 2, none⟩ (.slice none 0 0)) := Spares.set (Spares.set (Spares.set (Spares.refl w4)))
      generalize (((w4.setCell ⟨w.heap.size + 1, 0, none⟩ (.int .i64 2)).setCell ⟨w.heap.size + 1, 1, none⟩ (.int .i64 0)).setCell ⟨w.heap.size + 1, 2, none⟩ (.slice none 0 0)) = w5 at T2 hs5 ⊢
      have t0 := T2.c0
      have t1 := T2.c1
      have t2 := T2.c2
      have hzB5 := hB.size
      have hB5 := hB.trans (hs5.below (B := w.heap.size) (by omega) (fun y hy => by omega))
      refine bodyPost_ret (v := .tuple #[.agg #[.int .i64 2, .int .i64 0, .slice none 0 0], .bool true]) (by simp [results, Tryz.results70, go_sem, t0, t1, t2]) rfl ?_
      rw [E1.out]
      exact ⟨_, _, rfl, kidsD_nil, hB5⟩
    · have E1 : Hid ((Ex.mk 4 n ks).step m x = some (.leaf 1)) := by show _ = _; rw [Ex.step_act, if_neg hn]
      have cn : (n == x) = false := by simp [hn]
      clear htl hk hn
      go_enter Tryz.func70, Tryz.ntmps70
      go_wp2_with fail
      have L := (Blk.new3 w 30 (.int .i64 4) (.int .i64 n) (.slice s ks.length c)).alloc (.cells #[.int .i64 0, .int .i64 0, .slice none 0 0] 30)
      have R := Blk.new3 (w.alloc (.cells #[.int .i64 4, .int .i64 n, .slice s ks.length c] 30)) 30 (.int .i64 0) (.int .i64 0) (.slice none 0 0)
      have hB : Below w.heap.size w ((w.alloc (.cells #[.int .i64 4, .int .i64 n, .slice s ks.length c] 30)).alloc (.cells #[.int .i64 0, .int .i64 0, .slice none 0 0] 30)) := by (repeat' first | exact Below.refl _ _ | assumption | apply Below.alloc | apply Below.drew | apply Below.setCell | omega | (simp; done) | (simp; omega))
      have hz0 : ((w.alloc (.cells #[.int .i64 4, .int .i64 n, .slice s ks.length c] 30)).alloc (.cells #[.int .i64 0, .int .i64 0, .slice none 0 0] 30)).heap.size = w.heap.size + 2 := by simp
      simp at R
      generalize (w.alloc (.cells #[.int .i64 4, .int .i64 n, .slice s ks.length c] 30)).alloc (.cells #[.int .i64 0, .int .i64 0, .slice none 0 0] 30) = wb at L R hB hz0 ⊢
      have hx1 : ExX (XB X w.heap.size 2) wb (.mk 4 n ks) s c := ExX.boxes hx hB
      have hXW : ∀ b, XB X w.heap.size 2 b → b < w.heap.size + 2 := fun b q => q.elim (fun q => by have := hX _ q; omega) (fun q => by omega)
      refine (leaf_i).mono ?_
      rintro f w4 ⟨rfl, hb⟩
      replace hB := Below.on hB hb hB.size
      replace R := R.below hb
      have r0 := R.c0
      have r1 := R.c1
      have r2 := R.c2
      have z0 := R.frozen 0
      have z1 := R.frozen 1
      have z2 := R.frozen 2
      have ltR := R.lt
      go_wp2_with fail
      have T2 := ((R.set 0 (.int .i64 1)).set 1 (.int .i64 0)).set 2 (.slice none 0 0)
      have hs5 : Spares (fun y => y = w.heap.size + 1) w4 (((w4.setCell ⟨w.heap.size + 1, 0, none⟩ (.int .i64 1)).setCell ⟨w.heap.size + 1, 1, none⟩ (.int .i64 0)).setCell ⟨w.heap.size + 1, 2, none⟩ (.slice none 0 0)) := Spares.set (Spares.set (Spares.set (Spares.refl w4)))
      generalize (((w4.setCell ⟨w.heap.size + 1, 0, none⟩ (.int .i64 1)).setCell ⟨w.heap.size + 1, 1, none⟩ (.int .i64 0)).setCell ⟨w.heap.size + 1, 2, none⟩ (.slice none 0 0)) = w5 at T2 hs5 ⊢
      have t0 := T2.c0
      have t1 := T2.c1
      have t2 := T2.c2
      have hzB5 := hB.size
      have hB5 := hB.trans (hs5.below (B := w.heap.size) (by omega) (fun y hy => by omega))
      refine bodyPost_ret (v := .tuple #[.agg #[.int .i64 1, .int .i64 0, .slice none 0 0], .bool true]) (by simp [results, Tryz.results70, go_sem, t0, t1, t2]) rfl ?_
      rw [E1.out]
      exact ⟨_, _, rfl, kidsD_nil, hB5⟩
  have c4 : (k == 4) = false := by simp [h4]
  by_cases h6 : k = 6
  · subst h6
    obtain ⟨u, v, rfl⟩ := two_kids hk (by omega)
    have hsz := Ex.size_eq (.mk 6 n [u, v])
    simp only [Ex.sizeL, Ex.kids_mk] at hsz
    have hut : u.tree tm am = true := Ex.treeL_mem htl (by simp)
    have hvt : v.tree tm am = true := Ex.treeL_mem htl (by simp)
    obtain ⟨o1, Ho1⟩ : ∃ o, Hid (o = u.step m x) := ⟨_, rfl⟩
    obtain ⟨o2, Ho2⟩ : ∃ o, Hid (o = v.step m x) := ⟨_, rfl⟩
    have E0 : Hid ((Ex.mk 6 n [u, v]).step m x = o1.bind fun p => o2.bind fun q => limE (.two 6 p q)) := by show _ = _; rw [Ho1.out, Ho2.out]; exact Ex.step_sum
    obtain ⟨kb, ko, su, cu, rfl, -, -, -, hkb, -, ku, -⟩ := kidX0 hx
    obtain ⟨sv, cv, kv, -⟩ := kidX1 hx
    obtain ⟨u0, u1, u2⟩ := id ku
    simp only [List.length_cons, List.length_nil, Nat.zero_add] at hl ⊢
    clear htl hk
    go_enter Tryz.func70, Tryz.ntmps70
    go_wp2_with fail
    have L := (Blk.new3 w 30 (.int .i64 6) (.int .i64 n) (.slice (some ⟨kb, ko, none⟩) 2 c)).alloc (.cells #[.int .i64 0, .int .i64 0, .slice none 0 0] 30)
    have R := Blk.new3 (w.alloc (.cells #[.int .i64 6, .int .i64 n, .slice (some ⟨kb, ko, none⟩) 2 c] 30)) 30 (.int .i64 0) (.int .i64 0) (.slice none 0 0)
    have hB : Below w.heap.size w ((w.alloc (.cells #[.int .i64 6, .int .i64 n, .slice (some ⟨kb, ko, none⟩) 2 c] 30)).alloc (.cells #[.int .i64 0, .int .i64 0, .slice none 0 0] 30)) := by (repeat' first | exact Below.refl _ _ | assumption | apply Below.alloc | apply Below.drew | apply Below.setCell | omega | (simp; done) | (simp; omega))
    have hz0 : ((w.alloc (.cells #[.int .i64 6, .int .i64 n, .slice (some ⟨kb, ko, none⟩) 2 c] 30)).alloc (.cells #[.int .i64 0, .int .i64 0, .slice none 0 0] 30)).heap.size = w.heap.size + 2 := by simp
    simp at R
    generalize (w.alloc (.cells #[.int .i64 6, .int .i64 n, .slice (some ⟨kb, ko, none⟩) 2 c] 30)).alloc (.cells #[.int .i64 0, .int .i64 0, .slice none 0 0] 30) = wb at L R hB hz0 ⊢
    have hx1 : ExX (XB X w.heap.size 2) wb (.mk 6 n [u, v]) (some ⟨kb, ko, none⟩) c := ExX.boxes hx hB
    have hXW : ∀ b, XB X w.heap.size 2 b → b < w.heap.size + 2 := fun b q => q.elim (fun q => by have := hX _ q; omega) (fun q => by omega)
    obtain ⟨kb', ko', su', cu', e1, -, -, -, hkb', hkX, ku', hu⟩ := kidX0 (r := [v]) hx1
    simp only [Option.some.injEq, Addr.mk.injEq, and_true] at e1
    obtain ⟨rfl, rfl⟩ := e1
    have e2 := (hB.cell (p := ⟨kb, ko + 2, none⟩) hkb).trans u2
    rw [ku'.2.2] at e2
    simp only [Option.some.injEq, Value.slice.injEq, true_and] at e2
    obtain ⟨rfl, rfl⟩ := e2
    obtain ⟨sv', cv', kv', hv⟩ := kidX1 (r := []) hx1
    clear u0 u1 u2 ku ku' kv
    refine (HIH.out u.size (by omega) u (XB X w.heap.size 2) _ _ _ (Nat.le_refl _) (fun b q => by have := hXW b q; omega) hu hut (by omega)).mono ?_
    rintro f w2 ⟨s2, c2, rfl, hd2, hb2⟩
    rw [← Ho1.out] at hd2 ⊢
    replace hB := Below.on hB hb2 hB.size
    replace R := R.below hb2
    replace L := L.below hb2
    have hv2 := hv.below hb2
    have kv2 := kv'.keep (hb2.block _ hkb')
    have hkb2 : kb < w2.heap.size := by have := hb2.size; omega
    obtain ⟨v0, v1, v2⟩ := id kv2
    have l2 := L.c2
    have ltL := L.lt
    go_wp2_with fail
    clear v0 v1 v2 l2 ltL
    have A8 := Blk.new3 w2 30 (.int .i64 (optE o1).kind) (.int .i64 (optE o1).num) (.slice s2 (optE o1).kids.length c2)
    have hb3 : Below w2.heap.size w2 (w2.alloc (.cells #[.int .i64 (optE o1).kind, .int .i64 (optE o1).num, .slice s2 (optE o1).kids.length c2] 30)) := by (repeat' first | exact Below.refl _ _ | assumption | apply Below.alloc | apply Below.drew | apply Below.setCell | omega | (simp; done) | (simp; omega))
    generalize w2.alloc (.cells #[.int .i64 (optE o1).kind, .int .i64 (optE o1).num, .slice s2 (optE o1).kids.length c2] 30) = w3 at A8 hb3 ⊢
    replace hB := Below.on hB hb3 hB.size
    replace R := R.below hb3
    replace L := L.below hb3
    refine (HIH.out v.size (by omega) v (XB X w.heap.size 2) _ _ _ (Nat.le_refl _) (fun b q => by have := hXW b q; have := hb3.size; have := hb2.size; omega) (hv2.below hb3) hvt (by omega)).mono ?_
    rintro f w4 ⟨s4, c4', rfl, hd4, hb4⟩
    rw [← Ho2.out] at hd4 ⊢
    replace hB := Below.on hB hb4 hB.size
    replace R := R.below hb4
    replace A8 := A8.below hb4
    have hz4 : w.heap.size + 2 ≤ w4.heap.size := by have := hb4.size; have := hb3.size; have := hb2.size; omega
    cases o1 with
    | none =>
      have i1 : (none : Option Ex).isSome = false := rfl
      have E1 : Hid ((Ex.mk 6 n [u, v]).step m x = none) := E0
      have r0 := R.c0
      have r1 := R.c1
      have r2 := R.c2
      have z0 := R.frozen 0
      have z1 := R.frozen 1
      have z2 := R.frozen 2
      have ltR := R.lt
      go_wp2_with fail
      have T2 := (((R.set 0 (.int .i64 0)).set 1 (.int .i64 0)).set 2 (.slice none 0 0)).alloc (.cells #[.int .i64 (optE o2).kind, .int .i64 (optE o2).num, .slice s4 (optE o2).kids.length c4'] 30)
      have hs5 : Spares (fun y => y = w.heap.size + 1) w4 ((((w4.setCell ⟨w.heap.size + 1, 0, none⟩ (.int .i64 0)).setCell ⟨w.heap.size + 1, 1, none⟩ (.int .i64 0)).setCell ⟨w.heap.size + 1, 2, none⟩ (.slice none 0 0)).alloc (.cells #[.int .i64 (optE o2).kind, .int .i64 (optE o2).num, .slice s4 (optE o2).kids.length c4'] 30)) := (Spares.set (Spares.set (Spares.set (Spares.refl w4)))).trans (Spares.of_below (Below.alloc (Below.refl _ _) (Nat.le_refl _) _))
      generalize (((w4.setCell ⟨w.heap.size + 1, 0, none⟩ (.int .i64 0)).setCell ⟨w.heap.size + 1, 1, none⟩ (.int .i64 0)).setCell ⟨w.heap.size + 1, 2, none⟩ (.slice none 0 0)).alloc (.cells #[.int .i64 (optE o2).kind, .int .i64 (optE o2).num, .slice s4 (optE o2).kids.length c4'] 30) = w5 at T2 hs5 ⊢
      have t0 := T2.c0
      have t1 := T2.c1
      have t2 := T2.c2
      have hzB5 := hB.size
      have hB5 := hB.trans (hs5.below (B := w.heap.size) (by omega) (fun y hy => by omega))
      refine bodyPost_ret (v := .tuple #[.agg #[.int .i64 0, .int .i64 0, .slice none 0 0], .bool false]) (by simp [results, Tryz.results70, go_sem, t0, t1, t2]) rfl ?_
      rw [E1.out]
      exact ⟨none, 0, rfl, kidsD_nil, hB5⟩
    | some p =>
    have i1 : (some p).isSome = true := rfl
    cases o2 with
    | none =>
      have i2 : (none : Option Ex).isSome = false := rfl
      have E1 : Hid ((Ex.mk 6 n [u, v]).step m x = none) := E0
      have r0 := R.c0
      have r1 := R.c1
      have r2 := R.c2
      have z0 := R.frozen 0
      have z1 := R.frozen 1
      have z2 := R.frozen 2
      have ltR := R.lt
      go_wp2_with fail
      have T2 := (((R.set 0 (.int .i64 0)).set 1 (.int .i64 0)).set 2 (.slice none 0 0)).alloc (.cells #[.int .i64 (optE none).kind, .int .i64 (optE none).num, .slice s4 (optE none).kids.length c4'] 30)
      have hs5 : Spares (fun y => y = w.heap.size + 1) w4 ((((w4.setCell ⟨w.heap.size + 1, 0, none⟩ (.int .i64 0)).setCell ⟨w.heap.size + 1, 1, none⟩ (.int .i64 0)).setCell ⟨w.heap.size + 1, 2, none⟩ (.slice none 0 0)).alloc (.cells #[.int .i64 (optE none).kind, .int .i64 (optE none).num, .slice s4 (optE none).kids.length c4'] 30)) := (Spares.set (Spares.set (Spares.set (Spares.refl w4)))).trans (Spares.of_below (Below.alloc (Below.refl _ _) (Nat.le_refl _) _))
      generalize (((w4.setCell ⟨w.heap.size + 1, 0, none⟩ (.int .i64 0)).setCell ⟨w.heap.size + 1, 1, none⟩ (.int .i64 0)).setCell ⟨w.heap.size + 1, 2, none⟩ (.slice none 0 0)).alloc (.cells #[.int .i64 (optE none).kind, .int .i64 (optE none).num, .slice s4 (optE none).kids.length c4'] 30) = w5 at T2 hs5 ⊢
      have t0 := T2.c0
      have t1 := T2.c1
      have t2 := T2.c2
      have hzB5 := hB.size
      have hB5 := hB.trans (hs5.below (B := w.heap.size) (by omega) (fun y hy => by omega))
      refine bodyPost_ret (v := .tuple #[.agg #[.int .i64 0, .int .i64 0, .slice none 0 0], .bool false]) (by simp [results, Tryz.results70, go_sem, t0, t1, t2]) rfl ?_
      rw [E1.out]
      exact ⟨none, 0, rfl, kidsD_nil, hB5⟩
    | some q =>
    have i2 : (some q).isSome = true := rfl
    have E1 : Hid ((Ex.mk 6 n [u, v]).step m x = limE (.two 6 p q)) := E0
    obtain ⟨hp1, hp2⟩ := step_spec tm am m x _ u p (Nat.le_refl _) hut Ho1.out.symm
    obtain ⟨hq1, hq2⟩ := step_spec tm am m x _ v q (Nat.le_refl _) hvt Ho2.out.symm
    have hdx := hd2.below (hb3.trans (hb4.mono hb3.size))
    have hdy := hd4
    have a0 := A8.c0
    have a1 := A8.c1
    have a2 := A8.c2
    have ltA := A8.lt
    go_wp2_with fail
    clear a0 a1 a2
    have N1 : Blk ((w4.alloc (.cells #[.int .i64 (optE (some q)).kind, .int .i64 (optE (some q)).num, .slice s4 (optE (some q)).kids.length c4'] 30)).alloc (.cells #[.int .i64 (optE (some p)).kind, .int .i64 (optE (some p)).num, .slice s2 (optE (some p)).kids.length c2, .int .i64 (optE (some q)).kind, .int .i64 (optE (some q)).num, .slice s4 (optE (some q)).kids.length c4'] 30)) (w4.heap.size + 1) 30 [.int .i64 p.kind, .int .i64 p.num, .slice s2 p.kids.length c2, .int .i64 q.kind, .int .i64 q.num, .slice s4 q.kids.length c4'] := by
      rw [show w4.heap.size + 1 = (w4.alloc (.cells #[.int .i64 (optE (some q)).kind, .int .i64 (optE (some q)).num, .slice s4 (optE (some q)).kids.length c4'] 30)).heap.size by simp]
      exact Blk.new6 _ _ _ _ _ _ _ _
    have hb6 : Below w4.heap.size w4 ((w4.alloc (.cells #[.int .i64 (optE (some q)).kind, .int .i64 (optE (some q)).num, .slice s4 (optE (some q)).kids.length c4'] 30)).alloc (.cells #[.int .i64 (optE (some p)).kind, .int .i64 (optE (some p)).num, .slice s2 (optE (some p)).kids.length c2, .int .i64 (optE (some q)).kind, .int .i64 (optE (some q)).num, .slice s4 (optE (some q)).kids.length c4'] 30)) := by (repeat' first | exact Below.refl _ _ | assumption | apply Below.alloc | apply Below.drew | apply Below.setCell | omega | (simp; done) | (simp; omega))
    generalize (w4.alloc (.cells #[.int .i64 (optE (some q)).kind, .int .i64 (optE (some q)).num, .slice s4 (optE (some q)).kids.length c4'] 30)).alloc (.cells #[.int .i64 (optE (some p)).kind, .int .i64 (optE (some p)).num, .slice s2 (optE (some p)).kids.length c2, .int .i64 (optE (some q)).kind, .int .i64 (optE (some q)).num, .slice s4 (optE (some q)).kids.length c4'] 30) = w6 at N1 hb6 ⊢
    replace hB := Below.on hB hb6 hB.size
    replace R := R.below hb6
    replace hdx := hdx.below hb6
    replace hdy := hdy.below hb6
    clear hd2 hd4 A8 L
    -- goal: the call of tree in world w6; N1 : Blk w6 G of x, y
    refine (tree_i).mono ?_
    rintro f w7 ⟨rfl, hb7⟩
    replace hB := Below.on hB hb7 hB.size
    replace R := R.below hb7
    have hk : ExX (XB X w.heap.size 2) w7 (.two 6 p q) (some ⟨w4.heap.size + 1, 0, none⟩) 2 := kidsD_two (N1.below hb7) (fun hq0 => by have := hXW _ hq0; omega) (hdx.below hb7) (hdy.below hb7)
    go_wp2_with fail
    -- goal: the call of limited in world w7; hk : ExX .. w7 (.two K x y) ..; R, hB at w7
    refine (limited_i (e := .two 6 p q) ht ha (fun hb0 hq0 => by have := hXW hb0 hq0; have := R.lt; omega) hk (tree_two (Or.inl rfl) hp1 hq1) (by rw [size_two]; omega)).mono ?_
    rintro f w8 ⟨s8, c8, rfl, h8, hb8⟩
    replace hB := Below.on hB hb8 hB.size
    replace R := R.below hb8
    obtain ⟨o8, Ho8⟩ : ∃ o, Hid (o = limE (.two 6 p q)) := ⟨_, rfl⟩
    rw [← Ho8.out] at h8 ⊢
    replace E1 := Lib.hid (E1.out.trans Ho8.out.symm)
    have r0 := R.c0
    have r1 := R.c1
    have r2 := R.c2
    have z0 := R.frozen 0
    have z1 := R.frozen 1
    have z2 := R.frozen 2
    have ltR := R.lt
    go_wp2_with fail
    have T2 := ((R.set 0 (.int .i64 (optE o8).kind)).set 1 (.int .i64 (optE o8).num)).set 2 (.slice s8 (optE o8).kids.length c8)
    have hs5 : Spares (fun y => y = w.heap.size + 1) w8 (((w8.setCell ⟨w.heap.size + 1, 0, none⟩ (.int .i64 (optE o8).kind)).setCell ⟨w.heap.size + 1, 1, none⟩ (.int .i64 (optE o8).num)).setCell ⟨w.heap.size + 1, 2, none⟩ (.slice s8 (optE o8).kids.length c8)) := Spares.set (Spares.set (Spares.set (Spares.refl w8)))
    generalize (((w8.setCell ⟨w.heap.size + 1, 0, none⟩ (.int .i64 (optE o8).kind)).setCell ⟨w.heap.size + 1, 1, none⟩ (.int .i64 (optE o8).num)).setCell ⟨w.heap.size + 1, 2, none⟩ (.slice s8 (optE o8).kids.length c8)) = w5 at T2 hs5 ⊢
    have t0 := T2.c0
    have t1 := T2.c1
    have t2 := T2.c2
    have hzB5 := hB.size
    have hB5 := hB.trans (hs5.below (B := w.heap.size) (by omega) (fun y hy => by omega))
    refine bodyPost_ret (v := .tuple #[.agg #[.int .i64 (optE o8).kind, .int .i64 (optE o8).num, .slice s8 (optE o8).kids.length c8], .bool o8.isSome]) (by simp [results, Tryz.results70, go_sem, t0, t1, t2]) rfl ?_
    rw [E1.out]
    exact ⟨_, _, rfl, (h8.keep (KeptX.of_spares hs5 (fun y _ hy => Or.inr (by omega)))).unbox, hB5⟩
  have c6 : (k == 6) = false := by simp [h6]
  by_cases h7' : k = 7
  · subst h7'
    obtain ⟨u, v, rfl⟩ := two_kids hk (by omega)
    have hsz := Ex.size_eq (.mk 7 n [u, v])
    simp only [Ex.sizeL, Ex.kids_mk] at hsz
    have hut : u.tree tm am = true := Ex.treeL_mem htl (by simp)
    have hvt : v.tree tm am = true := Ex.treeL_mem htl (by simp)
    obtain ⟨o1, Ho1⟩ : ∃ o, Hid (o = u.step m x) := ⟨_, rfl⟩
    obtain ⟨o2, Ho2⟩ : ∃ o, Hid (o = v.step m x) := ⟨_, rfl⟩
    have E0 : Hid ((Ex.mk 7 n [u, v]).step m x = o1.bind fun p => if u.emp m = true then o2.bind fun q => limE (.two 6 (.two 7 p v) q) else limE (.two 7 p v)) := by show _ = _; rw [Ho1.out, Ho2.out]; exact Ex.step_dot
    obtain ⟨kb, ko, su, cu, rfl, -, -, -, hkb, -, ku, -⟩ := kidX0 hx
    obtain ⟨u0, u1, u2⟩ := id ku
    simp only [List.length_cons, List.length_nil, Nat.zero_add] at hl ⊢
    clear htl hk c4 c6
    go_enter Tryz.func70, Tryz.ntmps70
    go_wp2_with fail
    have L := (Blk.new3 w 30 (.int .i64 7) (.int .i64 n) (.slice (some ⟨kb, ko, none⟩) 2 c)).alloc (.cells #[.int .i64 0, .int .i64 0, .slice none 0 0] 30)
    have R := Blk.new3 (w.alloc (.cells #[.int .i64 7, .int .i64 n, .slice (some ⟨kb, ko, none⟩) 2 c] 30)) 30 (.int .i64 0) (.int .i64 0) (.slice none 0 0)
    have hB : Below w.heap.size w ((w.alloc (.cells #[.int .i64 7, .int .i64 n, .slice (some ⟨kb, ko, none⟩) 2 c] 30)).alloc (.cells #[.int .i64 0, .int .i64 0, .slice none 0 0] 30)) := by (repeat' first | exact Below.refl _ _ | assumption | apply Below.alloc | apply Below.drew | apply Below.setCell | omega | (simp; done) | (simp; omega))
    have hz0 : ((w.alloc (.cells #[.int .i64 7, .int .i64 n, .slice (some ⟨kb, ko, none⟩) 2 c] 30)).alloc (.cells #[.int .i64 0, .int .i64 0, .slice none 0 0] 30)).heap.size = w.heap.size + 2 := by simp
    simp at R
    generalize (w.alloc (.cells #[.int .i64 7, .int .i64 n, .slice (some ⟨kb, ko, none⟩) 2 c] 30)).alloc (.cells #[.int .i64 0, .int .i64 0, .slice none 0 0] 30) = wb at L R hB hz0 ⊢
    have hx1 : ExX (XB X w.heap.size 2) wb (.mk 7 n [u, v]) (some ⟨kb, ko, none⟩) c := ExX.boxes hx hB
    have hXW : ∀ b, XB X w.heap.size 2 b → b < w.heap.size + 2 := fun b q => q.elim (fun q => by have := hX _ q; omega) (fun q => by omega)
    obtain ⟨kb', ko', su', cu', e1, -, -, -, hkb', hkX, ku', hu⟩ := kidX0 (r := [v]) hx1
    simp only [Option.some.injEq, Addr.mk.injEq, and_true] at e1
    obtain ⟨rfl, rfl⟩ := e1
    have e2 := (hB.cell (p := ⟨kb, ko + 2, none⟩) hkb).trans u2
    rw [ku'.2.2] at e2
    simp only [Option.some.injEq, Value.slice.injEq, true_and] at e2
    obtain ⟨rfl, rfl⟩ := e2
    obtain ⟨sv', cv', kv', hv⟩ := kidX1 (r := []) hx1
    clear u0 u1 u2 ku
    refine (HIH.out u.size (by omega) u (XB X w.heap.size 2) _ _ _ (Nat.le_refl _) (fun b q => by have := hXW b q; omega) hu hut (by omega)).mono ?_
    rintro f w2 ⟨s2, c2, rfl, hd2, hb2⟩
    rw [← Ho1.out] at hd2 ⊢
    replace hB := Below.on hB hb2 hB.size
    replace R := R.below hb2
    replace L := L.below hb2
    cases o1 with
    | none =>
      have i1 : (none : Option Ex).isSome = false := rfl
      have E1 : Hid ((Ex.mk 7 n [u, v]).step m x = none) := E0
      have r0 := R.c0
      have r1 := R.c1
      have r2 := R.c2
      have z0 := R.frozen 0
      have z1 := R.frozen 1
      have z2 := R.frozen 2
      have ltR := R.lt
      go_wp2_with fail
      have T2 := (((R.set 0 (.int .i64 0)).set 1 (.int .i64 0)).set 2 (.slice none 0 0)).alloc (.cells #[.int .i64 (optE none).kind, .int .i64 (optE none).num, .slice s2 (optE none).kids.length c2] 30)
      have hs5 : Spares (fun y => y = w.heap.size + 1) w2 ((((w2.setCell ⟨w.heap.size + 1, 0, none⟩ (.int .i64 0)).setCell ⟨w.heap.size + 1, 1, none⟩ (.int .i64 0)).setCell ⟨w.heap.size + 1, 2, none⟩ (.slice none 0 0)).alloc (.cells #[.int .i64 (optE none).kind, .int .i64 (optE none).num, .slice s2 (optE none).kids.length c2] 30)) := (Spares.set (Spares.set (Spares.set (Spares.refl w2)))).trans (Spares.of_below (Below.alloc (Below.refl _ _) (Nat.le_refl _) _))
      generalize (((w2.setCell ⟨w.heap.size + 1, 0, none⟩ (.int .i64 0)).setCell ⟨w.heap.size + 1, 1, none⟩ (.int .i64 0)).setCell ⟨w.heap.size + 1, 2, none⟩ (.slice none 0 0)).alloc (.cells #[.int .i64 (optE none).kind, .int .i64 (optE none).num, .slice s2 (optE none).kids.length c2] 30) = w5 at T2 hs5 ⊢
      have t0 := T2.c0
      have t1 := T2.c1
      have t2 := T2.c2
      have hzB5 := hB.size
      have hB5 := hB.trans (hs5.below (B := w.heap.size) (by omega) (fun y hy => by omega))
      refine bodyPost_ret (v := .tuple #[.agg #[.int .i64 0, .int .i64 0, .slice none 0 0], .bool false]) (by simp [results, Tryz.results70, go_sem, t0, t1, t2]) rfl ?_
      rw [E1.out]
      exact ⟨none, 0, rfl, kidsD_nil, hB5⟩
    | some p =>
    have i1 : (some p).isSome = true := rfl
    obtain ⟨hp1, hp2⟩ := step_spec tm am m x _ u p (Nat.le_refl _) hut Ho1.out.symm
    go_wp2_with fail
    have A12 : Blk (w2.alloc (.cells #[.int .i64 (optE (some p)).kind, .int .i64 (optE (some p)).num, .slice s2 (optE (some p)).kids.length c2] 30)) w2.heap.size 30 [.int .i64 p.kind, .int .i64 p.num, .slice s2 p.kids.length c2] := Blk.new3 w2 30 (.int .i64 p.kind) (.int .i64 p.num) (.slice s2 p.kids.length c2)
    have hb3 : Below w2.heap.size w2 (w2.alloc (.cells #[.int .i64 (optE (some p)).kind, .int .i64 (optE (some p)).num, .slice s2 (optE (some p)).kids.length c2] 30)) := by (repeat' first | exact Below.refl _ _ | assumption | apply Below.alloc | apply Below.drew | apply Below.setCell | omega | (simp; done) | (simp; omega))
    generalize w2.alloc (.cells #[.int .i64 (optE (some p)).kind, .int .i64 (optE (some p)).num, .slice s2 (optE (some p)).kids.length c2] 30) = w3 at A12 hb3 ⊢
    have hb23 := hb2.trans (hb3.mono hb2.size)
    have ku3 := ku'.keep (hb23.block _ hkb')
    have kv3 := kv'.keep (hb23.block _ hkb')
    have hu3 := hu.below hb23
    have hv3 := hv.below hb23
    have hd3 : ExX (XB X w.heap.size 2) w3 p s2 c2 := hd2.below hb3
    have hkb3 : kb < w3.heap.size := by have := hb23.size; omega
    replace hB := Below.on hB hb3 hB.size
    replace R := R.below hb3
    replace L := L.below hb3
    have hz3 : w.heap.size + 2 ≤ w3.heap.size := by have := hb23.size; omega
    have L3 := L
    have hB3 := hB
    have Ku3 := Lib.hid ku3
    have Kv3 := Lib.hid kv3
    clear hd2 ku' kv' hu hv ku3 kv3 hb2 hb3 hb23 hx1 hx
    obtain ⟨x0, hx0⟩ := mkval ?a1_0
    obtain ⟨x1, hx1⟩ := mkval ?a1_1
    obtain ⟨x2, hx2⟩ := mkval ?a1_2
    obtain ⟨x3, hx3⟩ := mkval ?a1_3
    obtain ⟨x4, hx4⟩ := mkval ?a1_4
    refine region_rs [(8, 7)] [] (fun _ _ => False) (w3.heap.size) (fun i iv vs wx => match i with
      | 0 => vs 0 = x0
      | 1 => vs 1 = x1
      | 2 => vs 2 = x2
      | 3 => vs 3 = x3
      | 4 => vs 4 = x4
      | 5 => vs 5 = .slice (some ⟨(iv 5).1, 0, none⟩) 2 2 ∧ (iv 5).2 = (iv 5).1 + 1 ∧ Blk wx (iv 5).1 30 [.int .i64 p.kind, .int .i64 p.num, .slice s2 p.kids.length c2, .int .i64 v.kind, .int .i64 v.num, .slice sv' v.kids.length cv']
      | 6 => vs 6 = .agg #[.int .i64 7, .int .i64 0, vs 5]
      | 7 => vs 7 = .pointer (some ⟨(iv 7).1, 0, none⟩) ∧ (iv 7).2 = (iv 7).1 + 1 ∧ Blk wx (iv 7).1 30 [.int .i64 0, .int .i64 0, .slice none 0 0]
      | 8 => (iv 7).2 = (iv 7).1 + 1 ∧ Blk wx ((iv 7).1) 30 [.int .i64 7, .int .i64 0, vs 5]
      | _ => True) (fun i iv vs => match i with
      | 0 => vs 0 = x0
      | 1 => vs 1 = x1
      | 2 => vs 2 = x2
      | 3 => vs 3 = x3
      | 4 => vs 4 = x4
      | 5 => vs 5 = .slice (some ⟨(iv 5).1, 0, none⟩) 2 2 ∧ (iv 5).2 = (iv 5).1 + 1
      | 6 => vs 6 = .agg #[.int .i64 7, .int .i64 0, vs 5]
      | 7 => vs 7 = .pointer (some ⟨(iv 7).1, 0, none⟩) ∧ (iv 7).2 = (iv 7).1 + 1
      | 8 => True
      | _ => True) (by kernel_rfl) (by kernel_rfl) [0, 1, 2, 3, 4, 5, 6, 7, 8] (by kernel_rfl) ?hbase ?hGb ?hG ?hJ ?hE ?hEE ?hstep ?hQ
    case hbase => first | exact Nat.le_refl _ | omega | (simp; omega)
    case hGb =>
      exact fun _ _ h => h.elim
    case hG =>
      exact fun _ _ _ h => h.elim
    case hJ =>
      intro i hi iv iv' vs vs' wx wx' ha hv hz hk hj
      simp only [List.mem_cons, List.not_mem_nil, or_false] at hi
      rcases hi with rfl | rfl | rfl | rfl | rfl | rfl | rfl | rfl | rfl
      · exact (hv.out 0 (mem_of (by kernel_rfl))).symm.trans hj
      · exact (hv.out 1 (mem_of (by kernel_rfl))).symm.trans hj
      · exact (hv.out 2 (mem_of (by kernel_rfl))).symm.trans hj
      · exact (hv.out 3 (mem_of (by kernel_rfl))).symm.trans hj
      · exact (hv.out 4 (mem_of (by kernel_rfl))).symm.trans hj
      · have e5 := hv.out 5 (mem_of (by kernel_rfl))
        have g5 := ha.out 5 (mem_of (by kernel_rfl))
        obtain ⟨q1, q3, q2⟩ := hj
        show vs' 5 = .slice (some ⟨(iv' 5).1, 0, none⟩) 2 2 ∧ (iv' 5).2 = (iv' 5).1 + 1 ∧ Blk wx' (iv' 5).1 30 [.int .i64 p.kind, .int .i64 p.num, .slice s2 p.kids.length c2, .int .i64 v.kind, .int .i64 v.num, .slice sv' v.kids.length cv']
        rw [← e5, ← g5]
        exact ⟨q1, q3, q2.keep (hk.out _ q2.lt (foot_own (Nat.le_refl _) (by omega)))⟩
      · have e5 := hv.out 5 (mem_of (by kernel_rfl))
        have e6 := hv.out 6 (mem_of (by kernel_rfl))
        have hj' : vs 6 = .agg #[.int .i64 7, .int .i64 0, vs 5] := hj
        show vs' 6 = .agg #[.int .i64 7, .int .i64 0, vs' 5]
        rw [← e5, ← e6]
        exact hj'
      · have e7 := hv.out 7 (mem_of (by kernel_rfl))
        have g7 := ha.out 7 (mem_of (by kernel_rfl))
        obtain ⟨q1, q3, q2⟩ := hj
        show vs' 7 = .pointer (some ⟨(iv' 7).1, 0, none⟩) ∧ (iv' 7).2 = (iv' 7).1 + 1 ∧ Blk wx' (iv' 7).1 30 [.int .i64 0, .int .i64 0, .slice none 0 0]
        rw [← e7, ← g7]
        exact ⟨q1, q3, q2.keep (hk.out _ q2.lt (foot_own (Nat.le_refl _) (by omega)))⟩
      · have e5 := hv.out 5 (mem_of (by kernel_rfl))
        have g7 := ha.out 7 (mem_of (by kernel_rfl))
        have hj' : (iv 7).2 = (iv 7).1 + 1 ∧ Blk wx ((iv 7).1) 30 [.int .i64 7, .int .i64 0, vs 5] := hj
        show (iv' 7).2 = (iv' 7).1 + 1 ∧ Blk wx' ((iv' 7).1) 30 [.int .i64 7, .int .i64 0, vs' 5]
        rw [← e5, ← g7]
        exact ⟨hj'.1, hj'.2.keep (hk.out _ hj'.2.lt ⟨7, mem_of (by kernel_rfl), Or.inl ⟨Nat.le_refl _, by omega⟩⟩)⟩
    case hE =>
      intro i hi iv vs wx hj
      simp only [List.mem_cons, List.not_mem_nil, or_false] at hi
      rcases hi with rfl | rfl | rfl | rfl | rfl | rfl | rfl | rfl | rfl
      · exact hj
      · exact hj
      · exact hj
      · exact hj
      · exact hj
      · exact ⟨hj.1, hj.2.1⟩
      · exact hj
      · exact ⟨hj.1, hj.2.1⟩
      · trivial
    case hEE =>
      intro i hi iv iv' vs vs' ha hv hj
      simp only [List.mem_cons, List.not_mem_nil, or_false] at hi
      rcases hi with rfl | rfl | rfl | rfl | rfl | rfl | rfl | rfl | rfl
      · exact (hv.out 0 (mem_of (by kernel_rfl))).symm.trans hj
      · exact (hv.out 1 (mem_of (by kernel_rfl))).symm.trans hj
      · exact (hv.out 2 (mem_of (by kernel_rfl))).symm.trans hj
      · exact (hv.out 3 (mem_of (by kernel_rfl))).symm.trans hj
      · exact (hv.out 4 (mem_of (by kernel_rfl))).symm.trans hj
      · have e5 := hv.out 5 (mem_of (by kernel_rfl))
        have g5 := ha.out 5 (mem_of (by kernel_rfl))
        have hj' : vs 5 = .slice (some ⟨(iv 5).1, 0, none⟩) 2 2 ∧ (iv 5).2 = (iv 5).1 + 1 := hj
        show vs' 5 = .slice (some ⟨(iv' 5).1, 0, none⟩) 2 2 ∧ (iv' 5).2 = (iv' 5).1 + 1
        rw [← e5, ← g5]
        exact hj'
      · have e5 := hv.out 5 (mem_of (by kernel_rfl))
        have e6 := hv.out 6 (mem_of (by kernel_rfl))
        have hj' : vs 6 = .agg #[.int .i64 7, .int .i64 0, vs 5] := hj
        show vs' 6 = .agg #[.int .i64 7, .int .i64 0, vs' 5]
        rw [← e5, ← e6]
        exact hj'
      · have e7 := hv.out 7 (mem_of (by kernel_rfl))
        have g7 := ha.out 7 (mem_of (by kernel_rfl))
        have hj' : vs 7 = .pointer (some ⟨(iv 7).1, 0, none⟩) ∧ (iv 7).2 = (iv 7).1 + 1 := hj
        show vs' 7 = .pointer (some ⟨(iv' 7).1, 0, none⟩) ∧ (iv' 7).2 = (iv' 7).1 + 1
        rw [← e7, ← g7]
        exact hj'
      · trivial
    case hstep =>
      intro i hi opr ho iv vs w1 hB hS hSo hd he hbd hsep hun K hK
      simp only [List.mem_cons, List.not_mem_nil, or_false] at hi
      have hzB := hB.size
      have L4 := L3.below hB
      have l2 := L4.c2
      have A4 := A12.below hB
      have a0 := A4.c0
      have a1 := A4.c1
      have a2 := A4.c2
      have ltL := L4.lt
      have ltA := A4.lt
      obtain ⟨v0, v1, v2⟩ := Kv3.out.keep (hB.block _ hkb3)
      have hkb4 : kb < w1.heap.size := by have := hB.size; omega
      generalize hA : putFrom _ 0 vs _ = A at hK ⊢
      simp only [putFrom, puts] at hA
      rcases hi with rfl | rfl | rfl | rfl | rfl | rfl | rfl | rfl | rfl
      all_goals
        simp at ho
        subst ho
        subst hA
      · go_wp2_with fail
        refine Onward.mk (hK ?val1_0 _ _ (fun h => by cases h) ?eqA (Spares.refl _) (fun iv' _ _ => ?ja))
        case eqA => first | rfl | (simp only [puts]; rfl)
        case ja => exact hx0.out.symm
      · go_wp2_with fail
        refine Onward.mk (hK ?val1_1 _ _ (fun h => by cases h) ?eqA (Spares.refl _) (fun iv' _ _ => ?ja))
        case eqA => first | rfl | (simp only [puts]; rfl)
        case ja => exact hx1.out.symm
      · have h1 := (hd.out 1 (mem_of (by kernel_rfl)) (by decide) (by kernel_rfl)).trans hx1.out
        go_wp2_with fail
        refine Onward.mk (hK ?val1_2 _ _ (fun h => by cases h) ?eqA (Spares.refl _) (fun iv' _ _ => ?ja))
        case eqA => first | rfl | (simp only [puts, h1]; rfl)
        case ja => exact hx2.out.symm
      · have h2 := (hd.out 2 (mem_of (by kernel_rfl)) (by decide) (by kernel_rfl)).trans hx2.out
        go_wp2_with fail
        refine Onward.mk (hK ?val1_3 _ _ (fun h => by cases h) ?eqA (Spares.refl _) (fun iv' _ _ => ?ja))
        case eqA => first | rfl | (simp only [puts, h2]; rfl)
        case ja => exact hx3.out.symm
      · have h3 := (hd.out 3 (mem_of (by kernel_rfl)) (by decide) (by kernel_rfl)).trans hx3.out
        go_wp2_with fail
        refine Onward.mk (hK ?val1_4 _ _ (fun h => by cases h) ?eqA (Spares.refl _) (fun iv' _ _ => ?ja))
        case eqA => first | rfl | (simp only [puts, h3]; rfl)
        case ja => exact hx4.out.symm
      · have h0 := (hd.out 0 (mem_of (by kernel_rfl)) (by decide) (by kernel_rfl)).trans hx0.out
        have h4 := (hd.out 4 (mem_of (by kernel_rfl)) (by decide) (by kernel_rfl)).trans hx4.out
        go_wp2_with fail
        exact Onward.mk (hK (.slice (some ⟨w1.heap.size, 0, none⟩) 2 2) _ _ (fun h => by cases h) (by first | rfl | (simp only [puts, h0, h4])) (Spares.of_below (Below.alloc (Below.refl _ _) (Nat.le_refl _) _)) (fun iv' _ hi => by
          show Value.slice (some ⟨w1.heap.size, 0, none⟩) 2 2 = .slice (some ⟨(iv' 5).1, 0, none⟩) 2 2 ∧ (iv' 5).2 = (iv' 5).1 + 1 ∧ Blk _ (iv' 5).1 30 [.int .i64 p.kind, .int .i64 p.num, .slice s2 p.kids.length c2, .int .i64 v.kind, .int .i64 v.num, .slice sv' v.kids.length cv']
          rw [hi]
          exact ⟨rfl, by simp, Blk.new6 _ _ _ _ _ _ _ _⟩))
      · obtain ⟨h5, q5, f5⟩ := hd.out 5 (mem_of (by kernel_rfl)) (by decide) (by kernel_rfl)
        go_wp2_with fail
        refine (tree_i).mono ?_
        rintro e w2 ⟨rfl, hb⟩
        go_wp2_with fail
        exact Onward.mk (hK (.agg #[.int .i64 7, .int .i64 0, vs 5]) _ _ (fun h => by cases h) (by first | rfl | (simp only [puts, h5])) (Spares.of_below hb) (fun iv' _ _ => rfl))
      · go_wp2_with fail
        exact Onward.mk (hK (.pointer (some ⟨w1.heap.size, 0, none⟩)) _ _ (fun h => by cases h) (by first | rfl | (simp only [puts])) (Spares.of_below (Below.alloc (Below.refl _ _) (Nat.le_refl _) _)) (fun iv' _ hi => by
          show Value.pointer (some ⟨w1.heap.size, 0, none⟩) = .pointer (some ⟨(iv' 7).1, 0, none⟩) ∧ (iv' 7).2 = (iv' 7).1 + 1 ∧ Blk _ (iv' 7).1 30 [.int .i64 0, .int .i64 0, .slice none 0 0]
          rw [hi]
          exact ⟨rfl, by simp, Blk.new3 _ _ _ _ _⟩))
      · obtain ⟨h5, q5, f5⟩ := hd.out 5 (mem_of (by kernel_rfl)) (by decide) (by kernel_rfl)
        have h6 : vs 6 = .agg #[.int .i64 7, .int .i64 0, vs 5] := hd.out 6 (mem_of (by kernel_rfl)) (by decide) (by kernel_rfl)
        obtain ⟨h7, q7, f7⟩ := hd.out 7 (mem_of (by kernel_rfl)) (by decide) (by kernel_rfl)
        have bc0 := f7.c0
        have bz0 := f7.frozen 0
        have bc1 := f7.c1
        have bz1 := f7.frozen 1
        have bc2 := f7.c2
        have bz2 := f7.frozen 2
        have blt := f7.lt
        go_wp2_with fail
        exact Onward.mk (hK undef _ _ (fun _ => rfl) (by simp only [puts, h5, h6, h7]) ((spares_sets (b0 := (iv 7).1) (by repeat (first | exact Spares.refl _ | apply Spares.set))).more (fun b h => Or.inr ⟨7, by decide, foot_own (by omega) (by omega)⟩)) (fun iv' ag hi => by
          show (iv' 7).2 = (iv' 7).1 + 1 ∧ Blk _ ((iv' 7).1) 30 [.int .i64 7, .int .i64 0, vs 5]
          rw [← ag.out 7 (mem_of (by kernel_rfl)), h5]
          exact ⟨q7, (((f7.set 0 _).set 1 _).set 2 _)⟩))
    case hQ =>
      intro iv vs wx hB hSp hd he hbd hsep
      have hzB := hB.size
      have h0 := (hd.out 0 (mem_of (by kernel_rfl)) (not_eaten (by kernel_rfl))).trans hx0.out
      have h1 := (hd.out 1 (mem_of (by kernel_rfl)) (not_eaten (by kernel_rfl))).trans hx1.out
      have h2 := (hd.out 2 (mem_of (by kernel_rfl)) (not_eaten (by kernel_rfl))).trans hx2.out
      have h3 := (hd.out 3 (mem_of (by kernel_rfl)) (not_eaten (by kernel_rfl))).trans hx3.out
      have h4 := (hd.out 4 (mem_of (by kernel_rfl)) (not_eaten (by kernel_rfl))).trans hx4.out
      obtain ⟨h5, q5, f5⟩ := hd.out 5 (mem_of (by kernel_rfl)) (not_eaten (by kernel_rfl))
      have h6 : vs 6 = .agg #[.int .i64 7, .int .i64 0, vs 5] := hd.out 6 (mem_of (by kernel_rfl)) (not_eaten (by kernel_rfl))
      obtain ⟨h7, q7⟩ := he.out 7 (mem_of (by kernel_rfl))
      obtain ⟨q8, f8⟩ := hd.out 8 (mem_of (by kernel_rfl)) (not_eaten (by kernel_rfl))
      simp only [putFrom, puts]
      obtain ⟨ab, hab⟩ : ∃ ab, (iv 7).1 = ab := ⟨_, rfl⟩
      obtain ⟨gb, hgb⟩ : ∃ gb, (iv 5).1 = gb := ⟨_, rfl⟩
      have b7 := (hbd.out 7 (mem_of (by kernel_rfl))).1
      have b5 := (hbd.out 5 (mem_of (by kernel_rfl))).1
      rw [hab] at h7 f8 b7
      rw [hgb] at h5 f5 b5
      rw [h5] at f8
      simp only [Nat.zero_add, Nat.reduceAdd, h7]
      clear hd he hbd hsep h0 h1 h2 h3 h4 h5 h6 h7 hab hgb
      obtain ⟨wy, rfl⟩ : ∃ wy : World, wy = wx := ⟨_, rfl⟩
      have hBy : Below w.heap.size w wy := Below.on hB3 hB hB3.size
      have hbx : Below w3.heap.size w3 wy := hB
      have hB := hBy
      have R := R.below hbx
      have L := L3.below hbx
      have hdx := hd3.below hbx
      have hdy := hv3.below hbx
      have hk7 : ExX (XB X w.heap.size 2) wy (.two 7 p v) (some ⟨gb, 0, none⟩) 2 := kidsD_two f5 (fun hq0 => by have := hXW _ hq0; omega) hdx hdy
      have hux := hu3.below hbx
      have Kux := Lib.hid (Ku3.out.keep (hbx.block _ hkb3))
      have Kvx := Lib.hid (Kv3.out.keep (hbx.block _ hkb3))
      have hkbx : kb < wy.heap.size := by have := hbx.size; omega
      have l2 := L.c2
      have ltL := L.lt
      obtain ⟨u0, u1, u2⟩ := id Kux.out
      clear A12 L3
      go_wp2_with fail
      clear u0 u1 u2 l2 ltL
      refine (emptyAt_e ht2 h0 h7 hux.rd hut).mono ?_
      rintro f w8 ⟨rfl, hb8⟩
      have hB := Below.on hBy hb8 hBy.size
      replace R := R.below hb8
      replace L := L.below hb8
      have A14 : Blk w8 ab 30 [.int .i64 7, .int .i64 0, .slice (some ⟨gb, 0, none⟩) 2 2] := f8.below hb8
      have hk8 := hk7.below hb8
      have hdy8 := hdy.below hb8
      have kv8 := Lib.hid (Kvx.out.keep (hb8.block _ hkbx))
      have hkb8 : kb < w8.heap.size := by have := hb8.size; omega
      have c0 := A14.c0
      have c1 := A14.c1
      have c2 := A14.c2
      have ltA := A14.lt
      cases he : u.emp m
      · have E1 : Hid ((Ex.mk 7 n [u, v]).step m x = limE (.two 7 p v)) := by show _ = _; rw [E0.out]; simp [he]
        have hk : ExX (XB X w.heap.size 2) w8 (.two 7 p v) (some ⟨gb, 0, none⟩) 2 := hk8
        go_wp2_with fail
        clear c0 c1 c2
        -- goal: the call of limited in world w7; hk : ExX .. w7 (.two K x y) ..; R, hB at w7
        refine (limited_i (e := .two 7 p v) ht ha (fun hb0 hq0 => by have := hXW hb0 hq0; have := R.lt; omega) hk (tree_two (Or.inr rfl) hp1 hvt) (by rw [size_two]; omega)).mono ?_
        rintro f w8 ⟨s8, c8, rfl, h8, hb8⟩
        replace hB := Below.on hB hb8 hB.size
        replace R := R.below hb8
        obtain ⟨o8, Ho8⟩ : ∃ o, Hid (o = limE (.two 7 p v)) := ⟨_, rfl⟩
        rw [← Ho8.out] at h8 ⊢
        replace E1 := Lib.hid (E1.out.trans Ho8.out.symm)
        have r0 := R.c0
        have r1 := R.c1
        have r2 := R.c2
        have z0 := R.frozen 0
        have z1 := R.frozen 1
        have z2 := R.frozen 2
        have ltR := R.lt
        go_wp2_with fail
        have T2 := ((R.set 0 (.int .i64 (optE o8).kind)).set 1 (.int .i64 (optE o8).num)).set 2 (.slice s8 (optE o8).kids.length c8)
        have hs5 : Spares (fun y => y = w.heap.size + 1) w8 (((w8.setCell ⟨w.heap.size + 1, 0, none⟩ (.int .i64 (optE o8).kind)).setCell ⟨w.heap.size + 1, 1, none⟩ (.int .i64 (optE o8).num)).setCell ⟨w.heap.size + 1, 2, none⟩ (.slice s8 (optE o8).kids.length c8)) := Spares.set (Spares.set (Spares.set (Spares.refl w8)))
        generalize (((w8.setCell ⟨w.heap.size + 1, 0, none⟩ (.int .i64 (optE o8).kind)).setCell ⟨w.heap.size + 1, 1, none⟩ (.int .i64 (optE o8).num)).setCell ⟨w.heap.size + 1, 2, none⟩ (.slice s8 (optE o8).kids.length c8)) = w5 at T2 hs5 ⊢
        have t0 := T2.c0
        have t1 := T2.c1
        have t2 := T2.c2
        have hzB5 := hB.size
        have hB5 := hB.trans (hs5.below (B := w.heap.size) (by omega) (fun y hy => by omega))
        refine bodyPost_ret (v := .tuple #[.agg #[.int .i64 (optE o8).kind, .int .i64 (optE o8).num, .slice s8 (optE o8).kids.length c8], .bool o8.isSome]) (by simp [results, Tryz.results70, go_sem, t0, t1, t2]) rfl ?_
        rw [E1.out]
        exact ⟨_, _, rfl, (h8.keep (KeptX.of_spares hs5 (fun y _ hy => Or.inr (by omega)))).unbox, hB5⟩
      · have E0' : Hid ((Ex.mk 7 n [u, v]).step m x = o2.bind fun q => limE (.two 6 (.two 7 p v) q)) := by show _ = _; rw [E0.out]; simp [he]
        have l2 := L.c2
        have ltL := L.lt
        obtain ⟨v0, v1, v2⟩ := id kv8.out
        go_wp2_with fail
        clear c0 c1 c2 l2 v0 v1 v2
        refine (HIH.out v.size (by omega) v (XB X w.heap.size 2) _ _ _ (Nat.le_refl _) (fun hb0 hq0 => by have := hXW hb0 hq0; omega) hdy8 hvt (by omega)).mono ?_
        rintro f w9 ⟨s9, c9, rfl, hd9, hb9⟩
        rw [← Ho2.out] at hd9 ⊢
        replace hB := Below.on hB hb9 hB.size
        replace R := R.below hb9
        replace A14 := A14.below hb9
        have hk9 := hk8.below hb9
        cases o2 with
        | none =>
          have i2 : (none : Option Ex).isSome = false := rfl
          have E1 : Hid ((Ex.mk 7 n [u, v]).step m x = none) := E0'
          have r0 := R.c0
          have r1 := R.c1
          have r2 := R.c2
          have z0 := R.frozen 0
          have z1 := R.frozen 1
          have z2 := R.frozen 2
          have ltR := R.lt
          go_wp2_with fail
          have T2 := (((R.set 0 (.int .i64 0)).set 1 (.int .i64 0)).set 2 (.slice none 0 0)).alloc (.cells #[.int .i64 (optE none).kind, .int .i64 (optE none).num, .slice s9 (optE none).kids.length c9] 30)
          have hs5 : Spares (fun y => y = w.heap.size + 1) w9 ((((w9.setCell ⟨w.heap.size + 1, 0, none⟩ (.int .i64 0)).setCell ⟨w.heap.size + 1, 1, none⟩ (.int .i64 0)).setCell ⟨w.heap.size + 1, 2, none⟩ (.slice none 0 0)).alloc (.cells #[.int .i64 (optE none).kind, .int .i64 (optE none).num, .slice s9 (optE none).kids.length c9] 30)) := (Spares.set (Spares.set (Spares.set (Spares.refl w9)))).trans (Spares.of_below (Below.alloc (Below.refl _ _) (Nat.le_refl _) _))
          generalize (((w9.setCell ⟨w.heap.size + 1, 0, none⟩ (.int .i64 0)).setCell ⟨w.heap.size + 1, 1, none⟩ (.int .i64 0)).setCell ⟨w.heap.size + 1, 2, none⟩ (.slice none 0 0)).alloc (.cells #[.int .i64 (optE none).kind, .int .i64 (optE none).num, .slice s9 (optE none).kids.length c9] 30) = w5 at T2 hs5 ⊢
          have t0 := T2.c0
          have t1 := T2.c1
          have t2 := T2.c2
          have hzB5 := hB.size
          have hB5 := hB.trans (hs5.below (B := w.heap.size) (by omega) (fun y hy => by omega))
          refine bodyPost_ret (v := .tuple #[.agg #[.int .i64 0, .int .i64 0, .slice none 0 0], .bool false]) (by simp [results, Tryz.results70, go_sem, t0, t1, t2]) rfl ?_
          rw [E1.out]
          exact ⟨none, 0, rfl, kidsD_nil, hB5⟩
        | some q =>
        have i2 : (some q).isSome = true := rfl
        have E1 : Hid ((Ex.mk 7 n [u, v]).step m x = limE (.two 6 (.two 7 p v) q)) := E0'
        obtain ⟨hq1, hq2⟩ := step_spec tm am m x _ v q (Nat.le_refl _) hvt Ho2.out.symm
        have c0 := A14.c0
        have c1 := A14.c1
        have c2 := A14.c2
        replace ltA := A14.lt
        go_wp2_with fail
        clear c0 c1 c2
        have N1 : Blk ((w9.alloc (.cells #[.int .i64 (optE (some q)).kind, .int .i64 (optE (some q)).num, .slice s9 (optE (some q)).kids.length c9] 30)).alloc (.cells #[.int .i64 7, .int .i64 0, .slice (some ⟨gb, 0, none⟩) 2 2, .int .i64 (optE (some q)).kind, .int .i64 (optE (some q)).num, .slice s9 (optE (some q)).kids.length c9] 30)) (w9.heap.size + 1) 30 [.int .i64 (Ex.two 7 p v).kind, .int .i64 (Ex.two 7 p v).num, .slice (some ⟨gb, 0, none⟩) (Ex.two 7 p v).kids.length 2, .int .i64 q.kind, .int .i64 q.num, .slice s9 q.kids.length c9] := by
          rw [show w9.heap.size + 1 = (w9.alloc (.cells #[.int .i64 (optE (some q)).kind, .int .i64 (optE (some q)).num, .slice s9 (optE (some q)).kids.length c9] 30)).heap.size by simp]
          exact Blk.new6 _ _ _ _ _ _ _ _
        have hb6 : Below w9.heap.size w9 ((w9.alloc (.cells #[.int .i64 (optE (some q)).kind, .int .i64 (optE (some q)).num, .slice s9 (optE (some q)).kids.length c9] 30)).alloc (.cells #[.int .i64 7, .int .i64 0, .slice (some ⟨gb, 0, none⟩) 2 2, .int .i64 (optE (some q)).kind, .int .i64 (optE (some q)).num, .slice s9 (optE (some q)).kids.length c9] 30)) := by (repeat' first | exact Below.refl _ _ | assumption | apply Below.alloc | apply Below.drew | apply Below.setCell | omega | (simp; done) | (simp; omega))
        generalize (w9.alloc (.cells #[.int .i64 (optE (some q)).kind, .int .i64 (optE (some q)).num, .slice s9 (optE (some q)).kids.length c9] 30)).alloc (.cells #[.int .i64 7, .int .i64 0, .slice (some ⟨gb, 0, none⟩) 2 2, .int .i64 (optE (some q)).kind, .int .i64 (optE (some q)).num, .slice s9 (optE (some q)).kids.length c9] 30) = w6 at N1 hb6 ⊢
        replace hB := Below.on hB hb6 hB.size
        replace R := R.below hb6
        have hz9 : w.heap.size + 2 ≤ w9.heap.size := by have := hb9.size; omega
        have hdx : ExX (XB X w.heap.size 2) w6 (.two 7 p v) (some ⟨gb, 0, none⟩) 2 := hk9.below hb6
        have hdy : ExX (XB X w.heap.size 2) w6 q s9 c9 := hd9.below hb6
        -- goal: the call of tree in world w6; N1 : Blk w6 G of x, y
        refine (tree_i).mono ?_
        rintro f w7 ⟨rfl, hb7⟩
        replace hB := Below.on hB hb7 hB.size
        replace R := R.below hb7
        have hk : ExX (XB X w.heap.size 2) w7 (.two 6 (.two 7 p v) q) (some ⟨w9.heap.size + 1, 0, none⟩) 2 := kidsD_two (N1.below hb7) (fun hq0 => by have := hXW _ hq0; omega) (hdx.below hb7) (hdy.below hb7)
        go_wp2_with fail
        -- goal: the call of limited in world w7; hk : ExX .. w7 (.two K x y) ..; R, hB at w7
        refine (limited_i (e := .two 6 (.two 7 p v) q) ht ha (fun hb0 hq0 => by have := hXW hb0 hq0; have := R.lt; omega) hk (tree_two (Or.inl rfl) (tree_two (Or.inr rfl) hp1 hvt) hq1) (by rw [size_two, size_two]; omega)).mono ?_
        rintro f w8 ⟨s8, c8, rfl, h8, hb8⟩
        replace hB := Below.on hB hb8 hB.size
        replace R := R.below hb8
        obtain ⟨o8, Ho8⟩ : ∃ o, Hid (o = limE (.two 6 (.two 7 p v) q)) := ⟨_, rfl⟩
        rw [← Ho8.out] at h8 ⊢
        replace E1 := Lib.hid (E1.out.trans Ho8.out.symm)
        have r0 := R.c0
        have r1 := R.c1
        have r2 := R.c2
        have z0 := R.frozen 0
        have z1 := R.frozen 1
        have z2 := R.frozen 2
        have ltR := R.lt
        go_wp2_with fail
        have T2 := ((R.set 0 (.int .i64 (optE o8).kind)).set 1 (.int .i64 (optE o8).num)).set 2 (.slice s8 (optE o8).kids.length c8)
        have hs5 : Spares (fun y => y = w.heap.size + 1) w8 (((w8.setCell ⟨w.heap.size + 1, 0, none⟩ (.int .i64 (optE o8).kind)).setCell ⟨w.heap.size + 1, 1, none⟩ (.int .i64 (optE o8).num)).setCell ⟨w.heap.size + 1, 2, none⟩ (.slice s8 (optE o8).kids.length c8)) := Spares.set (Spares.set (Spares.set (Spares.refl w8)))
        generalize (((w8.setCell ⟨w.heap.size + 1, 0, none⟩ (.int .i64 (optE o8).kind)).setCell ⟨w.heap.size + 1, 1, none⟩ (.int .i64 (optE o8).num)).setCell ⟨w.heap.size + 1, 2, none⟩ (.slice s8 (optE o8).kids.length c8)) = w5 at T2 hs5 ⊢
        have t0 := T2.c0
        have t1 := T2.c1
        have t2 := T2.c2
        have hzB5 := hB.size
        have hB5 := hB.trans (hs5.below (B := w.heap.size) (by omega) (fun y hy => by omega))
        refine bodyPost_ret (v := .tuple #[.agg #[.int .i64 (optE o8).kind, .int .i64 (optE o8).num, .slice s8 (optE o8).kids.length c8], .bool o8.isSome]) (by simp [results, Tryz.results70, go_sem, t0, t1, t2]) rfl ?_
        rw [E1.out]
        exact ⟨_, _, rfl, (h8.keep (KeptX.of_spares hs5 (fun y _ hy => Or.inr (by omega)))).unbox, hB5⟩
  have c7 : (k == 7) = false := by simp [h7']
  by_cases h8 : k = 8
  · subst h8
    obtain ⟨u, rfl⟩ := one_kid hk (by omega)
    have hsz := Ex.size_eq (.mk 8 n [u])
    simp only [Ex.sizeL, Ex.kids_mk] at hsz
    have hut : u.tree tm am = true := Ex.treeL_mem htl (by simp)
    obtain ⟨o1, Ho1⟩ : ∃ o, Hid (o = u.step m x) := ⟨_, rfl⟩
    have E0 : Hid ((Ex.mk 8 n [u]).step m x = o1.bind fun p => limE (.two 7 p (.mk 8 n [u]))) := by show _ = _; rw [Ho1.out]; exact Ex.step_star
    obtain ⟨kb, ko, su, cu, rfl, -, -, -, hkb, -, ku, -⟩ := kidX0 (r := []) hx
    obtain ⟨u0, u1, u2⟩ := id ku
    simp only [List.length_cons, List.length_nil, Nat.zero_add] at hl ⊢
    clear htl hk c4 c6 c7
    go_enter Tryz.func70, Tryz.ntmps70
    go_wp2_with fail
    have L := (Blk.new3 w 30 (.int .i64 8) (.int .i64 n) (.slice (some ⟨kb, ko, none⟩) 1 c)).alloc (.cells #[.int .i64 0, .int .i64 0, .slice none 0 0] 30)
    have R := Blk.new3 (w.alloc (.cells #[.int .i64 8, .int .i64 n, .slice (some ⟨kb, ko, none⟩) 1 c] 30)) 30 (.int .i64 0) (.int .i64 0) (.slice none 0 0)
    have hB : Below w.heap.size w ((w.alloc (.cells #[.int .i64 8, .int .i64 n, .slice (some ⟨kb, ko, none⟩) 1 c] 30)).alloc (.cells #[.int .i64 0, .int .i64 0, .slice none 0 0] 30)) := by (repeat' first | exact Below.refl _ _ | assumption | apply Below.alloc | apply Below.drew | apply Below.setCell | omega | (simp; done) | (simp; omega))
    have hz0 : ((w.alloc (.cells #[.int .i64 8, .int .i64 n, .slice (some ⟨kb, ko, none⟩) 1 c] 30)).alloc (.cells #[.int .i64 0, .int .i64 0, .slice none 0 0] 30)).heap.size = w.heap.size + 2 := by simp
    simp at R
    generalize (w.alloc (.cells #[.int .i64 8, .int .i64 n, .slice (some ⟨kb, ko, none⟩) 1 c] 30)).alloc (.cells #[.int .i64 0, .int .i64 0, .slice none 0 0] 30) = wb at L R hB hz0 ⊢
    have hx1 : ExX (XB X w.heap.size 2) wb (.mk 8 n [u]) (some ⟨kb, ko, none⟩) c := ExX.boxes hx hB
    have hXW : ∀ b, XB X w.heap.size 2 b → b < w.heap.size + 2 := fun b q => q.elim (fun q => by have := hX _ q; omega) (fun q => by omega)
    obtain ⟨kb', ko', su', cu', e1, -, -, -, hkb', hkX, ku', hu⟩ := kidX0 (r := []) hx1
    simp only [Option.some.injEq, Addr.mk.injEq, and_true] at e1
    obtain ⟨rfl, rfl⟩ := e1
    have e2 := (hB.cell (p := ⟨kb, ko + 2, none⟩) hkb).trans u2
    rw [ku'.2.2] at e2
    simp only [Option.some.injEq, Value.slice.injEq, true_and] at e2
    obtain ⟨rfl, rfl⟩ := e2
    clear u0 u1 u2 ku ku'
    refine (HIH.out u.size (by omega) u (XB X w.heap.size 2) _ _ _ (Nat.le_refl _) (fun b q => by have := hXW b q; omega) hu hut (by omega)).mono ?_
    rintro f w2 ⟨s2, c2, rfl, hd2, hb2⟩
    rw [← Ho1.out] at hd2 ⊢
    replace hB := Below.on hB hb2 hB.size
    replace R := R.below hb2
    replace L := L.below hb2
    have hx2 := hx1.below hb2
    have hz2 : w.heap.size + 2 ≤ w2.heap.size := by have := hb2.size; omega
    cases o1 with
    | none =>
      have i1 : (none : Option Ex).isSome = false := rfl
      have E1 : Hid ((Ex.mk 8 n [u]).step m x = none) := E0
      have r0 := R.c0
      have r1 := R.c1
      have r2 := R.c2
      have z0 := R.frozen 0
      have z1 := R.frozen 1
      have z2 := R.frozen 2
      have ltR := R.lt
      go_wp2_with fail
      have T2 := (((R.set 0 (.int .i64 0)).set 1 (.int .i64 0)).set 2 (.slice none 0 0)).alloc (.cells #[.int .i64 (optE none).kind, .int .i64 (optE none).num, .slice s2 (optE none).kids.length c2] 30)
      have hs5 : Spares (fun y => y = w.heap.size + 1) w2 ((((w2.setCell ⟨w.heap.size + 1, 0, none⟩ (.int .i64 0)).setCell ⟨w.heap.size + 1, 1, none⟩ (.int .i64 0)).setCell ⟨w.heap.size + 1, 2, none⟩ (.slice none 0 0)).alloc (.cells #[.int .i64 (optE none).kind, .int .i64 (optE none).num, .slice s2 (optE none).kids.length c2] 30)) := (Spares.set (Spares.set (Spares.set (Spares.refl w2)))).trans (Spares.of_below (Below.alloc (Below.refl _ _) (Nat.le_refl _) _))
      generalize (((w2.setCell ⟨w.heap.size + 1, 0, none⟩ (.int .i64 0)).setCell ⟨w.heap.size + 1, 1, none⟩ (.int .i64 0)).setCell ⟨w.heap.size + 1, 2, none⟩ (.slice none 0 0)).alloc (.cells #[.int .i64 (optE none).kind, .int .i64 (optE none).num, .slice s2 (optE none).kids.length c2] 30) = w5 at T2 hs5 ⊢
      have t0 := T2.c0
      have t1 := T2.c1
      have t2 := T2.c2
      have hzB5 := hB.size
      have hB5 := hB.trans (hs5.below (B := w.heap.size) (by omega) (fun y hy => by omega))
      refine bodyPost_ret (v := .tuple #[.agg #[.int .i64 0, .int .i64 0, .slice none 0 0], .bool false]) (by simp [results, Tryz.results70, go_sem, t0, t1, t2]) rfl ?_
      rw [E1.out]
      exact ⟨none, 0, rfl, kidsD_nil, hB5⟩
    | some p =>
    have i1 : (some p).isSome = true := rfl
    have E1 : Hid ((Ex.mk 8 n [u]).step m x = limE (.two 7 p (.mk 8 n [u]))) := E0
    obtain ⟨hp1, hp2⟩ := step_spec tm am m x _ u p (Nat.le_refl _) hut Ho1.out.symm
    have l0 := L.c0
    have l1 := L.c1
    have l2 := L.c2
    have ltL := L.lt
    go_wp2_with fail
    clear l0 l1 l2
    have N1 : Blk ((w2.alloc (.cells #[.int .i64 (optE (some p)).kind, .int .i64 (optE (some p)).num, .slice s2 (optE (some p)).kids.length c2] 30)).alloc (.cells #[.int .i64 (optE (some p)).kind, .int .i64 (optE (some p)).num, .slice s2 (optE (some p)).kids.length c2, .int .i64 8, .int .i64 n, .slice (some ⟨kb, ko, none⟩) 1 c] 30)) (w2.heap.size + 1) 30 [.int .i64 p.kind, .int .i64 p.num, .slice s2 p.kids.length c2, .int .i64 (Ex.mk 8 n [u]).kind, .int .i64 (Ex.mk 8 n [u]).num, .slice (some ⟨kb, ko, none⟩) (Ex.mk 8 n [u]).kids.length c] := by
      rw [show w2.heap.size + 1 = (w2.alloc (.cells #[.int .i64 (optE (some p)).kind, .int .i64 (optE (some p)).num, .slice s2 (optE (some p)).kids.length c2] 30)).heap.size by simp]
      exact Blk.new6 _ _ _ _ _ _ _ _
    have hb6 : Below w2.heap.size w2 ((w2.alloc (.cells #[.int .i64 (optE (some p)).kind, .int .i64 (optE (some p)).num, .slice s2 (optE (some p)).kids.length c2] 30)).alloc (.cells #[.int .i64 (optE (some p)).kind, .int .i64 (optE (some p)).num, .slice s2 (optE (some p)).kids.length c2, .int .i64 8, .int .i64 n, .slice (some ⟨kb, ko, none⟩) 1 c] 30)) := by (repeat' first | exact Below.refl _ _ | assumption | apply Below.alloc | apply Below.drew | apply Below.setCell | omega | (simp; done) | (simp; omega))
    generalize (w2.alloc (.cells #[.int .i64 (optE (some p)).kind, .int .i64 (optE (some p)).num, .slice s2 (optE (some p)).kids.length c2] 30)).alloc (.cells #[.int .i64 (optE (some p)).kind, .int .i64 (optE (some p)).num, .slice s2 (optE (some p)).kids.length c2, .int .i64 8, .int .i64 n, .slice (some ⟨kb, ko, none⟩) 1 c] 30) = w6 at N1 hb6 ⊢
    replace hB := Below.on hB hb6 hB.size
    replace R := R.below hb6
    have hdx : ExX (XB X w.heap.size 2) w6 p s2 c2 := hd2.below hb6
    have hdy : ExX (XB X w.heap.size 2) w6 (.mk 8 n [u]) (some ⟨kb, ko, none⟩) c := hx2.below hb6
    -- goal: the call of tree in world w6; N1 : Blk w6 G of x, y
    refine (tree_i).mono ?_
    rintro f w7 ⟨rfl, hb7⟩
    replace hB := Below.on hB hb7 hB.size
    replace R := R.below hb7
    have hk : ExX (XB X w.heap.size 2) w7 (.two 7 p (.mk 8 n [u])) (some ⟨w2.heap.size + 1, 0, none⟩) 2 := kidsD_two (N1.below hb7) (fun hq0 => by have := hXW _ hq0; omega) (hdx.below hb7) (hdy.below hb7)
    go_wp2_with fail
    -- goal: the call of limited in world w7; hk : ExX .. w7 (.two K x y) ..; R, hB at w7
    refine (limited_i (e := .two 7 p (.mk 8 n [u])) ht ha (fun hb0 hq0 => by have := hXW hb0 hq0; have := R.lt; omega) hk (tree_two (Or.inr rfl) hp1 htr) (by rw [size_two]; omega)).mono ?_
    rintro f w8 ⟨s8, c8, rfl, h8, hb8⟩
    replace hB := Below.on hB hb8 hB.size
    replace R := R.below hb8
    obtain ⟨o8, Ho8⟩ : ∃ o, Hid (o = limE (.two 7 p (.mk 8 n [u]))) := ⟨_, rfl⟩
    rw [← Ho8.out] at h8 ⊢
    replace E1 := Lib.hid (E1.out.trans Ho8.out.symm)
    have r0 := R.c0
    have r1 := R.c1
    have r2 := R.c2
    have z0 := R.frozen 0
    have z1 := R.frozen 1
    have z2 := R.frozen 2
    have ltR := R.lt
    go_wp2_with fail
    have T2 := ((R.set 0 (.int .i64 (optE o8).kind)).set 1 (.int .i64 (optE o8).num)).set 2 (.slice s8 (optE o8).kids.length c8)
    have hs5 : Spares (fun y => y = w.heap.size + 1) w8 (((w8.setCell ⟨w.heap.size + 1, 0, none⟩ (.int .i64 (optE o8).kind)).setCell ⟨w.heap.size + 1, 1, none⟩ (.int .i64 (optE o8).num)).setCell ⟨w.heap.size + 1, 2, none⟩ (.slice s8 (optE o8).kids.length c8)) := Spares.set (Spares.set (Spares.set (Spares.refl w8)))
    generalize (((w8.setCell ⟨w.heap.size + 1, 0, none⟩ (.int .i64 (optE o8).kind)).setCell ⟨w.heap.size + 1, 1, none⟩ (.int .i64 (optE o8).num)).setCell ⟨w.heap.size + 1, 2, none⟩ (.slice s8 (optE o8).kids.length c8)) = w5 at T2 hs5 ⊢
    have t0 := T2.c0
    have t1 := T2.c1
    have t2 := T2.c2
    have hzB5 := hB.size
    have hB5 := hB.trans (hs5.below (B := w.heap.size) (by omega) (fun y hy => by omega))
    refine bodyPost_ret (v := .tuple #[.agg #[.int .i64 (optE o8).kind, .int .i64 (optE o8).num, .slice s8 (optE o8).kids.length c8], .bool o8.isSome]) (by simp [results, Tryz.results70, go_sem, t0, t1, t2]) rfl ?_
    rw [E1.out]
    exact ⟨_, _, rfl, (h8.keep (KeptX.of_spares hs5 (fun y _ hy => Or.inr (by omega)))).unbox, hB5⟩
  have c8 : (k == 8) = false := by simp [h8]
  have E1 : Hid ((Ex.mk k n ks).step m x = some (.leaf 1)) := by show _ = _; exact Ex.step_else h4 h6 h7' h8
  clear htl hk h4 h6 h7' h8
  go_enter Tryz.func70, Tryz.ntmps70
  go_wp2_with fail
  have L := (Blk.new3 w 30 (.int .i64 k) (.int .i64 n) (.slice s ks.length c)).alloc (.cells #[.int .i64 0, .int .i64 0, .slice none 0 0] 30)
  have R := Blk.new3 (w.alloc (.cells #[.int .i64 k, .int .i64 n, .slice s ks.length c] 30)) 30 (.int .i64 0) (.int .i64 0) (.slice none 0 0)
  have hB : Below w.heap.size w ((w.alloc (.cells #[.int .i64 k, .int .i64 n, .slice s ks.length c] 30)).alloc (.cells #[.int .i64 0, .int .i64 0, .slice none 0 0] 30)) := by (repeat' first | exact Below.refl _ _ | assumption | apply Below.alloc | apply Below.drew | apply Below.setCell | omega | (simp; done) | (simp; omega))
  have hz0 : ((w.alloc (.cells #[.int .i64 k, .int .i64 n, .slice s ks.length c] 30)).alloc (.cells #[.int .i64 0, .int .i64 0, .slice none 0 0] 30)).heap.size = w.heap.size + 2 := by simp
  simp at R
  generalize (w.alloc (.cells #[.int .i64 k, .int .i64 n, .slice s ks.length c] 30)).alloc (.cells #[.int .i64 0, .int .i64 0, .slice none 0 0] 30) = wb at L R hB hz0 ⊢
  have hx1 : ExX (XB X w.heap.size 2) wb (.mk k n ks) s c := ExX.boxes hx hB
  have hXW : ∀ b, XB X w.heap.size 2 b → b < w.heap.size + 2 := fun b q => q.elim (fun q => by have := hX _ q; omega) (fun q => by omega)
  refine (leaf_i).mono ?_
  rintro f w4 ⟨rfl, hb⟩
  replace hB := Below.on hB hb hB.size
  replace R := R.below hb
  have r0 := R.c0
  have r1 := R.c1
  have r2 := R.c2
  have z0 := R.frozen 0
  have z1 := R.frozen 1
  have z2 := R.frozen 2
  have ltR := R.lt
  go_wp2_with fail
  have T2 := ((R.set 0 (.int .i64 1)).set 1 (.int .i64 0)).set 2 (.slice none 0 0)
  have hs5 : Spares (fun y => y = w.heap.size + 1) w4 (((w4.setCell ⟨w.heap.size + 1, 0, none⟩ (.int .i64 1)).setCell ⟨w.heap.size + 1, 1, none⟩ (.int .i64 0)).setCell ⟨w.heap.size + 1, 2, none⟩ (.slice none 0 0)) := Spares.set (Spares.set (Spares.set (Spares.refl w4)))
  generalize (((w4.setCell ⟨w.heap.size + 1, 0, none⟩ (.int .i64 1)).setCell ⟨w.heap.size + 1, 1, none⟩ (.int .i64 0)).setCell ⟨w.heap.size + 1, 2, none⟩ (.slice none 0 0)) = w5 at T2 hs5 ⊢
  have t0 := T2.c0
  have t1 := T2.c1
  have t2 := T2.c2
  have hzB5 := hB.size
  have hB5 := hB.trans (hs5.below (B := w.heap.size) (by omega) (fun y hy => by omega))
  refine bodyPost_ret (v := .tuple #[.agg #[.int .i64 1, .int .i64 0, .slice none 0 0], .bool true]) (by simp [results, Tryz.results70, go_sem, t0, t1, t2]) rfl ?_
  rw [E1.out]
  exact ⟨_, _, rfl, kidsD_nil, hB5⟩
end Go.Proofs.YtjlmdhoajfdkbaaGreatDoor
