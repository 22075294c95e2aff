/-
  Texts of automata: the plain law; spec.AutomatonText.
-/
import Derived.Test.YtahehcalmbmbpaaDoorTextW
import Derived.Test.YtahehcalmbmbpaaDoorCnt
import Derived.Test.YtahehcalmbmbpaaDoorValidI
namespace Go.Proofs.YtahehcalmbmbpaaDoor
open Go.ChangeShapes Go.WideShapes Go.ChangeAt Go.RowKit Go.Sort

def sgnT (v : Bool) : List UInt8 := if v then [32, 43] else [32, 45]
def sucT (z : Int) : List UInt8 := if z < 0 then [58, 46] else [58] ++ dig z
def rowT (row : List Int) : Nat → List UInt8
  | 0 => []
  | l + 1 => rowT row l ++ sucT (row.getD l 0)
def staT (ar : List Bool) (nr : List (List Int)) : Nat → List UInt8
  | 0 => [115, 116, 97, 116, 101]
  | j + 1 => staT ar nr j ++ sgnT (ar.getD j false) ++ rowT (nr.getD j []) (nr.getD j []).length
def headT (t a : Int) : List UInt8 := [97, 117, 116, 111, 109, 97, 116, 111, 110, 32] ++ dig t ++ [32] ++ dig a ++ [10]
def autT (t a : Int) (ac : List (List Bool)) (nx : List (List (List Int))) : Nat → List UInt8
  | 0 => headT t a
  | i + 1 => autT t a ac nx i ++ staT (ac.getD i []) (nx.getD i []) (ac.getD i []).length ++ [10]
theorem autT_succ {t a : Int} {ac : List (List Bool)} {nx : List (List (List Int))} {i : Nat} {ar : List Bool} {nr : List (List Int)} (h1 : ac[i]? = some ar) (h2 : nx[i]? = some nr) : autT t a ac nx (i + 1) = autT t a ac nx i ++ staT ar nr ar.length ++ [10] := by
  have e1 : ac.getD i [] = ar := by rw [List.getD_eq_getElem?_getD, h1]; rfl
  have e2 : nx.getD i [] = nr := by rw [List.getD_eq_getElem?_getD, h2]; rfl
  show _ ++ staT (ac.getD i []) (nx.getD i []) (ac.getD i []).length ++ [10] = _
  rw [e1, e2]
theorem staT_succ {ar : List Bool} {nr : List (List Int)} {j : Nat} {v : Bool} {row : List Int} (h1 : ar[j]? = some v) (h2 : nr[j]? = some row) : staT ar nr (j + 1) = staT ar nr j ++ sgnT v ++ rowT row row.length := by
  have e1 : ar.getD j false = v := by rw [List.getD_eq_getElem?_getD, h1]; rfl
  have e2 : nr.getD j [] = row := by rw [List.getD_eq_getElem?_getD, h2]; rfl
  show _ ++ sgnT (ar.getD j false) ++ rowT (nr.getD j []) (nr.getD j []).length = _
  rw [e1, e2]
theorem rowT_succ {row : List Int} {l : Nat} {z : Int} (h : row[l]? = some z) : rowT row (l + 1) = rowT row l ++ sucT z := by
  have e1 : row.getD l 0 = z := by rw [List.getD_eq_getElem?_getD, h]; rfl
  show _ ++ sucT (row.getD l 0) = _
  rw [e1]
theorem dig_len2 {z : Int} (h0 : 0 ≤ z) (h : z < 100) : (dig z).length ≤ 2 := by
  obtain ⟨m, rfl⟩ : ∃ m : Nat, z = (m : Int) := ⟨z.toNat, by omega⟩
  unfold dig
  rw [Int.toNat_natCast]
  by_cases h1 : m < 10
  · rw [Lib.decDigits_one h1]; simp
  · rw [Lib.decDigits_two h1 (by omega)]; simp

/-- AutomatonText's answer. -/
noncomputable def atx (t a : Int) (ac : List (List Bool)) (nx : List (List (List Int))) : List UInt8 := if autB t a ac nx = true then autT t a ac nx ac.length else []

set_option maxRecDepth 100000 in
set_option maxHeartbeats 16000000 in
theorem specAutomatonText_i {t a : Int} {ac : List (List Bool)} {nx : List (List (List Int))} {s u : Option Addr} {c d : Nat} {w : World} (hr : Rd w (bbD ac) (.slice s ac.length c)) (hq : Rd w (iiiD nx) (.slice u nx.length d)) :
    Calls Tryd.prog 19 #[.agg #[.int .i64 t, .int .i64 a, .slice s ac.length c, .slice u nx.length d]] w fun e w' => e = .returned (.string (bs (atx t a ac nx))) ∧ Below w.heap.size w w' := by
  obtain ⟨hlen, hcap⟩ := nest_bd hr
  obtain ⟨hlen', hcap'⟩ := nest_bd hq
  unfold maxLen at hcap hcap'
  go_enter Tryd.func19, Tryd.ntmps19
  go_wp2_with fail
  have L := Blk.new4 w 53 (.int .i64 t) (.int .i64 a) (.slice s ac.length c) (.slice u nx.length d)
  refine (l02Ok_i (AutAt.box hr hq _)).mono ?_
  rintro e w1 ⟨rfl, hb⟩
  have hB0 : Below w.heap.size w w1 := Below.on (by (repeat' (first | exact Below.refl _ _ | assumption | (refine Below.alloc ?_ (by first | omega | (simp; done) | (simp; omega)) _) | (refine Below.drew ?_) | (refine Below.setCell ?_ (by first | omega | (simp; done) | (simp; omega)) _)))) hb (by simp)
  replace L := L.below hb
  clear hb
  cases hok : autB t a ac nx
  · have Hok := Lib.hid hok
    clear hok
    go_wp2_with fail
    go_ret
    exact ⟨by simp only [atx, Hok.out]; rfl, hB0⟩
  have Hatx : Hid (atx t a ac nx = autT t a ac nx ac.length) := by show _ = _; simp only [atx, hok]; rfl
  have Hok := Lib.hid (autB_true.1 hok)
  clear hok
  obtain ⟨d1, d2, d3, d4⟩ := Hok.out.dims
  obtain ⟨t0, t3, -, -⟩ := sigB_bd Hok.out.sig
  have hnl : nx.length ≤ ac.length ∧ ac.length ≤ nx.length := by have := Hok.out.len; omega
  have hn1 := Hok.out.lo
  have hn60 := Hok.out.hi
  have e1 := dig_len (z := t) (by omega)
  have e2 := dig_len (z := a) (by omega)
  obtain ⟨z1, Hz1, Hc1⟩ := cat_l (P := Tryd.prog) (s := { data := #[97, 117, 116, 111, 109, 97, 116, 111, 110, 32] }) [97, 117, 116, 111, 109, 97, 116, 111, 110, 32] (dig t) rfl (by simp [e1])
  have f1 : z1.length = 11 := by rw [Hz1.out]; simp [e1]
  obtain ⟨z2, Hz2, Hc2⟩ := cat_r (P := Tryd.prog) (s := { data := #[32] }) z1 [32] rfl (by simp [f1])
  have f2 : z2.length = 12 := by rw [Hz2.out]; simp [f1]
  obtain ⟨z3, Hz3, Hc3⟩ := cat_2 (P := Tryd.prog) z2 (dig a) (by omega)
  have f3 : z3.length = 13 := by rw [Hz3.out]; simp [f2, e2]
  obtain ⟨z4, Hz4, Hc4⟩ := cat_r (P := Tryd.prog) (s := { data := #[10] }) z3 [10] rfl (by simp [f3])
  have f4 : z4.length ≤ 14 := by rw [Hz4.out]; simp [f3]
  have Hhead : Hid (z4 = autT t a ac nx 0) := by show _ = _; rw [Hz4.out, Hz3.out, Hz2.out, Hz1.out]; rfl
  clear Hz1 Hz2 Hz3 Hz4 e1 e2 f1 f2 f3
  have l0 := L.c0
  go_wp2_with fail
  clear l0
  obtain ⟨x0, hx0⟩ := mkval ?a15_0
  obtain ⟨x1, hx1⟩ := mkval ?a15_1
  obtain ⟨x2, hx2⟩ := mkval ?a15_2
  obtain ⟨x6, hx6⟩ := mkval ?a15_6
  obtain ⟨x7, hx7⟩ := mkval ?a15_7
  obtain ⟨x8, hx8⟩ := mkval ?a15_8
  refine region_rs [] [] (fun _ _ => False) (w1.heap.size) (fun i iv vs wx => match i with
    | 0 => vs 0 = x0
    | 1 => vs 1 = x1
    | 2 => vs 2 = x2
    | 3 => vs 3 = .string (bs (dig t))
    | 4 => vs 4 = .string (bs z1)
    | 5 => vs 5 = .string (bs z2)
    | 6 => vs 6 = x6
    | 7 => vs 7 = x7
    | 8 => vs 8 = x8
    | 9 => vs 9 = .string (bs (dig a))
    | 10 => vs 10 = .string (bs z3)
    | 11 => vs 11 = .string (bs z4)
    | 12 => vs 12 = .string (bs z4)
    | _ => True) (fun i iv vs => match i with
    | 0 => vs 0 = x0
    | 1 => vs 1 = x1
    | 2 => vs 2 = x2
    | 3 => vs 3 = .string (bs (dig t))
    | 4 => vs 4 = .string (bs z1)
    | 5 => vs 5 = .string (bs z2)
    | 6 => vs 6 = x6
    | 7 => vs 7 = x7
    | 8 => vs 8 = x8
    | 9 => vs 9 = .string (bs (dig a))
    | 10 => vs 10 = .string (bs z3)
    | 11 => vs 11 = .string (bs z4)
    | 12 => vs 12 = .string (bs z4)
    | _ => True) (by kernel_rfl) (by kernel_rfl) [0, 1, 2, 3, 4, 5, 6, 7, 8, 9, 10, 11, 12] (by kernel_rfl) ?hbase ?hGb ?hG ?hJ ?hE ?hEE ?hstep ?hQ
  case hbase => first | exact Nat.le_refl _ | omega | (simp; omega)
  case hGb =>
    exact fun _ _ h => h.elim
  case hG =>
    exact fun _ _ _ h => h.elim
  case hJ =>
    intro i hi iv iv' vs vs' wx wx' ha hv hz hk hj
    simp only [List.mem_cons, List.not_mem_nil, or_false] at hi
    rcases hi with rfl | rfl | rfl | rfl | rfl | rfl | rfl | rfl | rfl | rfl | rfl | rfl | rfl
    · have e0 := hv.out 0 (mem_of (by kernel_rfl))
      have hj' : vs 0 = x0 := hj
      show vs' 0 = x0
      rw [← e0]
      exact hj'
    · have e1 := hv.out 1 (mem_of (by kernel_rfl))
      have hj' : vs 1 = x1 := hj
      show vs' 1 = x1
      rw [← e1]
      exact hj'
    · have e2 := hv.out 2 (mem_of (by kernel_rfl))
      have hj' : vs 2 = x2 := hj
      show vs' 2 = x2
      rw [← e2]
      exact hj'
    · have e3 := hv.out 3 (mem_of (by kernel_rfl))
      have hj' : vs 3 = .string (bs (dig t)) := hj
      show vs' 3 = .string (bs (dig t))
      rw [← e3]
      exact hj'
    · have e4 := hv.out 4 (mem_of (by kernel_rfl))
      have hj' : vs 4 = .string (bs z1) := hj
      show vs' 4 = .string (bs z1)
      rw [← e4]
      exact hj'
    · have e5 := hv.out 5 (mem_of (by kernel_rfl))
      have hj' : vs 5 = .string (bs z2) := hj
      show vs' 5 = .string (bs z2)
      rw [← e5]
      exact hj'
    · have e6 := hv.out 6 (mem_of (by kernel_rfl))
      have hj' : vs 6 = x6 := hj
      show vs' 6 = x6
      rw [← e6]
      exact hj'
    · have e7 := hv.out 7 (mem_of (by kernel_rfl))
      have hj' : vs 7 = x7 := hj
      show vs' 7 = x7
      rw [← e7]
      exact hj'
    · have e8 := hv.out 8 (mem_of (by kernel_rfl))
      have hj' : vs 8 = x8 := hj
      show vs' 8 = x8
      rw [← e8]
      exact hj'
    · have e9 := hv.out 9 (mem_of (by kernel_rfl))
      have hj' : vs 9 = .string (bs (dig a)) := hj
      show vs' 9 = .string (bs (dig a))
      rw [← e9]
      exact hj'
    · have e10 := hv.out 10 (mem_of (by kernel_rfl))
      have hj' : vs 10 = .string (bs z3) := hj
      show vs' 10 = .string (bs z3)
      rw [← e10]
      exact hj'
    · have e11 := hv.out 11 (mem_of (by kernel_rfl))
      have hj' : vs 11 = .string (bs z4) := hj
      show vs' 11 = .string (bs z4)
      rw [← e11]
      exact hj'
    · have e12 := hv.out 12 (mem_of (by kernel_rfl))
      have hj' : vs 12 = .string (bs z4) := hj
      show vs' 12 = .string (bs z4)
      rw [← e12]
      exact hj'
  case hE =>
    intro i hi iv vs wx hj
    simp only [List.mem_cons, List.not_mem_nil, or_false] at hi
    rcases hi with rfl | rfl | rfl | rfl | rfl | rfl | rfl | rfl | rfl | rfl | rfl | rfl | rfl
    · exact hj
    · exact hj
    · exact hj
    · exact hj
    · exact hj
    · exact hj
    · exact hj
    · exact hj
    · exact hj
    · exact hj
    · exact hj
    · exact hj
    · exact hj
  case hEE =>
    intro i hi iv iv' vs vs' ha hv hj
    simp only [List.mem_cons, List.not_mem_nil, or_false] at hi
    rcases hi with rfl | rfl | rfl | rfl | rfl | rfl | rfl | rfl | rfl | rfl | rfl | rfl | rfl
    · have e0 := hv.out 0 (mem_of (by kernel_rfl))
      have hj' : vs 0 = x0 := hj
      show vs' 0 = x0
      rw [← e0]
      exact hj'
    · have e1 := hv.out 1 (mem_of (by kernel_rfl))
      have hj' : vs 1 = x1 := hj
      show vs' 1 = x1
      rw [← e1]
      exact hj'
    · have e2 := hv.out 2 (mem_of (by kernel_rfl))
      have hj' : vs 2 = x2 := hj
      show vs' 2 = x2
      rw [← e2]
      exact hj'
    · have e3 := hv.out 3 (mem_of (by kernel_rfl))
      have hj' : vs 3 = .string (bs (dig t)) := hj
      show vs' 3 = .string (bs (dig t))
      rw [← e3]
      exact hj'
    · have e4 := hv.out 4 (mem_of (by kernel_rfl))
      have hj' : vs 4 = .string (bs z1) := hj
      show vs' 4 = .string (bs z1)
      rw [← e4]
      exact hj'
    · have e5 := hv.out 5 (mem_of (by kernel_rfl))
      have hj' : vs 5 = .string (bs z2) := hj
      show vs' 5 = .string (bs z2)
      rw [← e5]
      exact hj'
    · have e6 := hv.out 6 (mem_of (by kernel_rfl))
      have hj' : vs 6 = x6 := hj
      show vs' 6 = x6
      rw [← e6]
      exact hj'
    · have e7 := hv.out 7 (mem_of (by kernel_rfl))
      have hj' : vs 7 = x7 := hj
      show vs' 7 = x7
      rw [← e7]
      exact hj'
    · have e8 := hv.out 8 (mem_of (by kernel_rfl))
      have hj' : vs 8 = x8 := hj
      show vs' 8 = x8
      rw [← e8]
      exact hj'
    · have e9 := hv.out 9 (mem_of (by kernel_rfl))
      have hj' : vs 9 = .string (bs (dig a)) := hj
      show vs' 9 = .string (bs (dig a))
      rw [← e9]
      exact hj'
    · have e10 := hv.out 10 (mem_of (by kernel_rfl))
      have hj' : vs 10 = .string (bs z3) := hj
      show vs' 10 = .string (bs z3)
      rw [← e10]
      exact hj'
    · have e11 := hv.out 11 (mem_of (by kernel_rfl))
      have hj' : vs 11 = .string (bs z4) := hj
      show vs' 11 = .string (bs z4)
      rw [← e11]
      exact hj'
    · have e12 := hv.out 12 (mem_of (by kernel_rfl))
      have hj' : vs 12 = .string (bs z4) := hj
      show vs' 12 = .string (bs z4)
      rw [← e12]
      exact hj'
  case hstep =>
    intro i hi opr ho iv vs w1 hB hS hd he hbd hsep hun K hK
    simp only [List.mem_cons, List.not_mem_nil, or_false] at hi
    have hzB := hB.size
    have L1 := L.below hB
    have cc0 := L1.c0
    have cc1 := L1.c1
    generalize hA : putFrom _ 0 vs _ = A at hK ⊢
    simp only [putFrom, Act.put, List.setIfInBounds_toArray, List.set_cons_succ, List.set_cons_zero] at hA
    rcases hi with rfl | rfl | rfl | rfl | rfl | rfl | rfl | rfl | rfl | rfl | rfl | rfl | rfl
    all_goals
      simp at ho
      subst ho
      subst hA
    · go_wp2_with fail
      refine Onward.mk (hK ?val15_0 _ _ (fun h => by cases h) ?eqA (Spares.of_below (Below.refl _ _)) (fun iv' _ _ => ?ja))
      case eqA => first | rfl | (simp only [Act.put, List.setIfInBounds_toArray, List.set_cons_succ, List.set_cons_zero]; rfl)
      case ja => exact hx0.out.symm
    · have h0 := Eq.trans (show vs 0 = x0 from hd.out 0 (mem_of (by kernel_rfl)) (by decide) (by kernel_rfl)) hx0.out
      go_wp2_with fail
      refine Onward.mk (hK ?val15_1 _ _ (fun h => by cases h) ?eqA (Spares.of_below (Below.refl _ _)) (fun iv' _ _ => ?ja))
      case eqA => first | rfl | (simp only [Act.put, List.setIfInBounds_toArray, List.set_cons_succ, List.set_cons_zero, h0]; rfl)
      case ja => exact hx1.out.symm
    · have h1 := Eq.trans (show vs 1 = x1 from hd.out 1 (mem_of (by kernel_rfl)) (by decide) (by kernel_rfl)) hx1.out
      go_wp2_with fail
      refine Onward.mk (hK ?val15_2 _ _ (fun h => by cases h) ?eqA (Spares.of_below (Below.refl _ _)) (fun iv' _ _ => ?ja))
      case eqA => first | rfl | (simp only [Act.put, List.setIfInBounds_toArray, List.set_cons_succ, List.set_cons_zero, h1]; rfl)
      case ja => exact hx2.out.symm
    · have h2 := Eq.trans (show vs 2 = x2 from hd.out 2 (mem_of (by kernel_rfl)) (by decide) (by kernel_rfl)) hx2.out
      go_wp2_with fail
      refine (Decimal_z t0 (by omega)).mono ?_
      rintro e w2 ⟨rfl, hb⟩
      go_wp2_with fail
      exact Onward.mk (hK (.string (bs (dig t))) _ _ (fun h => by cases h) (by first | rfl | (simp only [Act.put, List.setIfInBounds_toArray, List.set_cons_succ, List.set_cons_zero, h2])) (Spares.of_below hb) (fun iv' _ _ => rfl))
    · have h3 : vs 3 = .string (bs (dig t)) := hd.out 3 (mem_of (by kernel_rfl)) (by decide) (by kernel_rfl)
      go_wp2_with fail
      exact Onward.mk (hK (.string (bs z1)) _ _ (fun h => by cases h) (by first | rfl | (simp only [Act.put, List.setIfInBounds_toArray, List.set_cons_succ, List.set_cons_zero, h3])) (Spares.of_below (Below.refl _ _)) (fun iv' _ _ => rfl))
    · have h4 : vs 4 = .string (bs z1) := hd.out 4 (mem_of (by kernel_rfl)) (by decide) (by kernel_rfl)
      go_wp2_with fail
      exact Onward.mk (hK (.string (bs z2)) _ _ (fun h => by cases h) (by first | rfl | (simp only [Act.put, List.setIfInBounds_toArray, List.set_cons_succ, List.set_cons_zero, h4])) (Spares.of_below (Below.refl _ _)) (fun iv' _ _ => rfl))
    · go_wp2_with fail
      refine Onward.mk (hK ?val15_6 _ _ (fun h => by cases h) ?eqA (Spares.of_below (Below.refl _ _)) (fun iv' _ _ => ?ja))
      case eqA => first | rfl | (simp only [Act.put, List.setIfInBounds_toArray, List.set_cons_succ, List.set_cons_zero]; rfl)
      case ja => exact hx6.out.symm
    · have h6 := Eq.trans (show vs 6 = x6 from hd.out 6 (mem_of (by kernel_rfl)) (by decide) (by kernel_rfl)) hx6.out
      go_wp2_with fail
      refine Onward.mk (hK ?val15_7 _ _ (fun h => by cases h) ?eqA (Spares.of_below (Below.refl _ _)) (fun iv' _ _ => ?ja))
      case eqA => first | rfl | (simp only [Act.put, List.setIfInBounds_toArray, List.set_cons_succ, List.set_cons_zero, h6]; rfl)
      case ja => exact hx7.out.symm
    · have h7 := Eq.trans (show vs 7 = x7 from hd.out 7 (mem_of (by kernel_rfl)) (by decide) (by kernel_rfl)) hx7.out
      go_wp2_with fail
      refine Onward.mk (hK ?val15_8 _ _ (fun h => by cases h) ?eqA (Spares.of_below (Below.refl _ _)) (fun iv' _ _ => ?ja))
      case eqA => first | rfl | (simp only [Act.put, List.setIfInBounds_toArray, List.set_cons_succ, List.set_cons_zero, h7]; rfl)
      case ja => exact hx8.out.symm
    · have h8 := Eq.trans (show vs 8 = x8 from hd.out 8 (mem_of (by kernel_rfl)) (by decide) (by kernel_rfl)) hx8.out
      go_wp2_with fail
      refine (Decimal_z d3 (by omega)).mono ?_
      rintro e w2 ⟨rfl, hb⟩
      go_wp2_with fail
      exact Onward.mk (hK (.string (bs (dig a))) _ _ (fun h => by cases h) (by first | rfl | (simp only [Act.put, List.setIfInBounds_toArray, List.set_cons_succ, List.set_cons_zero, h8])) (Spares.of_below hb) (fun iv' _ _ => rfl))
    · have h5 : vs 5 = .string (bs z2) := hd.out 5 (mem_of (by kernel_rfl)) (by decide) (by kernel_rfl)
      have h9 : vs 9 = .string (bs (dig a)) := hd.out 9 (mem_of (by kernel_rfl)) (by decide) (by kernel_rfl)
      go_wp2_with fail
      exact Onward.mk (hK (.string (bs z3)) _ _ (fun h => by cases h) (by first | rfl | (simp only [Act.put, List.setIfInBounds_toArray, List.set_cons_succ, List.set_cons_zero, h5, h9])) (Spares.of_below (Below.refl _ _)) (fun iv' _ _ => rfl))
    · have h10 : vs 10 = .string (bs z3) := hd.out 10 (mem_of (by kernel_rfl)) (by decide) (by kernel_rfl)
      go_wp2_with fail
      exact Onward.mk (hK (.string (bs z4)) _ _ (fun h => by cases h) (by first | rfl | (simp only [Act.put, List.setIfInBounds_toArray, List.set_cons_succ, List.set_cons_zero, h10])) (Spares.of_below (Below.refl _ _)) (fun iv' _ _ => rfl))
    · have h11 : vs 11 = .string (bs z4) := hd.out 11 (mem_of (by kernel_rfl)) (by decide) (by kernel_rfl)
      go_wp2_with fail
      exact Onward.mk (hK (.string (bs z4)) _ _ (fun h => by cases h) (by first | rfl | (simp only [Act.put, List.setIfInBounds_toArray, List.set_cons_succ, List.set_cons_zero, h11])) (Spares.of_below (Below.refl _ _)) (fun iv' _ _ => rfl))
  case hQ =>
    intro iv vs wx hB hSp hd he hbd hsep
    have hzB := hB.size
    have h0 := Eq.trans (show vs 0 = x0 from hd.out 0 (mem_of (by kernel_rfl)) (not_eaten (by kernel_rfl))) hx0.out
    have h1 := Eq.trans (show vs 1 = x1 from hd.out 1 (mem_of (by kernel_rfl)) (not_eaten (by kernel_rfl))) hx1.out
    have h2 := Eq.trans (show vs 2 = x2 from hd.out 2 (mem_of (by kernel_rfl)) (not_eaten (by kernel_rfl))) hx2.out
    have h3 : vs 3 = .string (bs (dig t)) := hd.out 3 (mem_of (by kernel_rfl)) (not_eaten (by kernel_rfl))
    have h4 : vs 4 = .string (bs z1) := hd.out 4 (mem_of (by kernel_rfl)) (not_eaten (by kernel_rfl))
    have h5 : vs 5 = .string (bs z2) := hd.out 5 (mem_of (by kernel_rfl)) (not_eaten (by kernel_rfl))
    have h6 := Eq.trans (show vs 6 = x6 from hd.out 6 (mem_of (by kernel_rfl)) (not_eaten (by kernel_rfl))) hx6.out
    have h7 := Eq.trans (show vs 7 = x7 from hd.out 7 (mem_of (by kernel_rfl)) (not_eaten (by kernel_rfl))) hx7.out
    have h8 := Eq.trans (show vs 8 = x8 from hd.out 8 (mem_of (by kernel_rfl)) (not_eaten (by kernel_rfl))) hx8.out
    have h9 : vs 9 = .string (bs (dig a)) := hd.out 9 (mem_of (by kernel_rfl)) (not_eaten (by kernel_rfl))
    have h10 : vs 10 = .string (bs z3) := hd.out 10 (mem_of (by kernel_rfl)) (not_eaten (by kernel_rfl))
    have h11 : vs 11 = .string (bs z4) := hd.out 11 (mem_of (by kernel_rfl)) (not_eaten (by kernel_rfl))
    have h12 : vs 12 = .string (bs z4) := hd.out 12 (mem_of (by kernel_rfl)) (not_eaten (by kernel_rfl))
    simp only [putFrom, Act.put, List.setIfInBounds_toArray, List.set_cons_succ, List.set_cons_zero]
    have Lx := L.below hB
    have hBx := Below.trans hB0 (hB.mono hB0.size)
    simp only [Nat.zero_add, Nat.reduceAdd]
    clear hd he hbd hsep h0 h1 h2 h3 h4 h5 h6 h7 h8 h9 h10 h11 Hc1 Hc2 Hc3 Hc4 L hB0 hB hSp hzB
    go_wp2_with fail
    go_loopw [3, 4] (fun q i wr => ∃ (k : Nat) (z : List UInt8), k ≤ ac.length ∧ i = .int .i64 k ∧ q = .string (bs z) ∧ Hid (z = autT t a ac nx k) ∧ z.length ≤ 40 + 1000 * k ∧
        Blk wr w.heap.size 53 [.int .i64 t, .int .i64 a, .slice s ac.length c, .slice u nx.length d] ∧ Below w.heap.size w wr) (fun _ i _ => ac.length - (intOf i).toNat)
    case atStart => exact ⟨0, z4, by omega, rfl, h12, Hhead, by omega, Lx, hBx⟩
    case round =>
      clear Lx hBx h12 Hhead f4
      obtain ⟨k, z, hk, rfl, rfl, HZ, hzl, L, hB⟩ := hrel
      by_cases hlt : k < ac.length
      rotate_left
      · obtain rfl : k = ac.length := by omega
        have l2 := L.c2
        go_wp2_with fail
        go_ret
        exact ⟨by rw [Hatx.out, ← HZ.out]; rfl, hB⟩
      obtain ⟨ar, har⟩ : ∃ e, ac[k]? = some e := ⟨_, List.getElem?_eq_getElem hlt⟩
      obtain ⟨nr, hnr⟩ : ∃ e, nx[k]? = some e := ⟨_, List.getElem?_eq_getElem (by omega)⟩
      obtain ⟨sb, so, rfl⟩ := nest_some (f := boolsD) hr (by omega)
      obtain ⟨ub, uo, rfl⟩ := nest_some (f := iiD) hq (by omega)
      obtain ⟨hsl, sa, ca, a0, ra⟩ := nest_sl (g := D.bool) hr har
      obtain ⟨hul, sn, cn, b0, rb⟩ := nest_sl (g := intsD) hq hnr
      obtain ⟨ra1, ra2⟩ := nest_bd ra
      obtain ⟨rb1, rb2⟩ := nest_bd rb
      unfold maxLen at ra2 rb2
      obtain ⟨har8, hnr8, Hrows⟩ := Hok.out.st k ar nr har hnr
      have hl1 : ar.length ≤ 8 := by omega
      have hl2 : ar.length ≤ nr.length ∧ nr.length ≤ ar.length := by omega
      clear har8 hnr8
      have Hsucc := Lib.hid (autT_succ (t := t) (a := a) har hnr)
      have Hrows := Lib.hid Hrows
      clear har hnr
      have hkz := Int.natCast_nonneg k
      have hkb : (k : Int) < (ac.length : Int) := by omega
      have hkc : (k : Int) < (nx.length : Int) := by omega
      obtain ⟨z1, HZ1, Hc1⟩ := cat_r (P := Tryd.prog) (s := { data := #[115, 116, 97, 116, 101] }) z [115, 116, 97, 116, 101] rfl (by simp only [List.length_cons, List.length_nil]; omega)
      have hzl1 : z1.length ≤ 45 + 1000 * k := by rw [HZ1.out]; simp only [List.length_append, List.length_cons, List.length_nil]; omega
      have HZ2 : Hid (z1 = autT t a ac nx k ++ staT ar nr 0) := by show _ = _; rw [HZ1.out, HZ.out]; rfl
      clear HZ1 HZ
      have l2 := L.c2
      go_wp2_with fail
      clear l2
      obtain ⟨wo, rfl⟩ : ∃ v, v = wr := ⟨_, rfl⟩
      go_loopw [3, 5] (fun q i wr => ∃ (j : Nat) (y : List UInt8), j ≤ ar.length ∧ i = .int .i64 j ∧ q = .string (bs y) ∧ Hid (y = autT t a ac nx k ++ staT ar nr j) ∧ y.length ≤ 45 + 1000 * k + 100 * j ∧
          Blk wr w.heap.size 53 [.int .i64 t, .int .i64 a, .slice (some ⟨sb, so, none⟩) ac.length c, .slice (some ⟨ub, uo, none⟩) nx.length d] ∧ Below w.heap.size w wr) (fun _ i _ => ar.length - (intOf i).toNat)
      case atStart => exact ⟨0, z1, by omega, rfl, rfl, HZ2, by omega, L, hB⟩
      case round =>
        clear L hB HZ2 Hc1
        obtain ⟨j, y, hj, rfl, rfl, HY, hyl, L, hB⟩ := hrel
        have l2 := L.c2
        have a0' := (hB.cell (p := ⟨sb, so + k, none⟩) hsl).trans a0
        by_cases hjl : j < ar.length
        rotate_left
        · obtain rfl : j = ar.length := by omega
          obtain ⟨y1, HY1, Hc1⟩ := cat_r (P := Tryd.prog) (s := { data := #[10] }) y [10] rfl (by simp only [List.length_cons, List.length_nil]; omega)
          have hyl1 : y1.length ≤ 40 + 1000 * (k + 1) := by rw [HY1.out]; simp only [List.length_append, List.length_cons, List.length_nil]; omega
          have HN : Hid (y1 = autT t a ac nx (k + 1)) := by show _ = _; rw [HY1.out, HY.out, Hsucc.out]
          clear HY1 HY
          go_wp2_with fail
          go_roundw
          case rel => exact ⟨k + 1, y1, by omega, by go_num, rfl, HN, hyl1, L, hB⟩
          case measure => simp [intOf]; omega
        obtain ⟨v, hv⟩ : ∃ e, ar[j]? = some e := ⟨_, List.getElem?_eq_getElem hjl⟩
        obtain ⟨row, hrow⟩ : ∃ e, nr[j]? = some e := ⟨_, List.getElem?_eq_getElem (by omega)⟩
        obtain ⟨ab, ao, rfl⟩ := nest_some (f := D.bool) ra (by omega)
        obtain ⟨vb, vo, rfl⟩ := nest_some (f := intsD) rb (by omega)
        obtain ⟨hal, z0⟩ := bool_in ra hv
        have z0 := (hB.cell (p := ⟨ab, ao + j, none⟩) hal).trans z0
        obtain ⟨hvl, sr, cr, r0, rr⟩ := nest_sl (g := D.int) rb hrow
        obtain ⟨rr1, rr2⟩ := nest_bd rr
        unfold maxLen at rr2
        obtain ⟨hrow4, hrow2⟩ := Hrows.out j row hrow
        have hl4 : row.length ≤ 4 := by omega
        clear hrow4
        have Hrow2 := Lib.hid hrow2
        have Hst := Lib.hid (staT_succ hv hrow)
        clear hv hrow hrow2
        have hjz := Int.natCast_nonneg j
        have hjb : (j : Int) < (ar.length : Int) := by omega
        have hjc : (j : Int) < (nr.length : Int) := by omega
        cases v
        case false =>
          -- a cell's sign is known
          obtain ⟨y1, HY1, Hc1⟩ := cat_r (P := Tryd.prog) (s := { data := #[32, 45] }) y [32, 45] rfl (by simp only [List.length_cons, List.length_nil]; omega)
          have hyl1 : y1.length ≤ 47 + 1000 * k + 100 * j := by rw [HY1.out]; simp only [List.length_append, List.length_cons, List.length_nil]; omega
          have HY2 : Hid (y1 = autT t a ac nx k ++ (staT ar nr j ++ sgnT false) ++ rowT row 0) := by
            show _ = _
            rw [HY1.out, HY.out]
            simp only [List.append_assoc, rowT, sgnT, List.append_nil]
            rfl
          clear HY1 HY
          go_wp2_with fail
          clear l2 a0' z0
          obtain ⟨wm, rfl⟩ : ∃ v, v = wr := ⟨_, rfl⟩
          go_loopw [3, 6] (fun q i wr => ∃ (l : Nat) (x : List UInt8), l ≤ row.length ∧ i = .int .i64 l ∧ q = .string (bs x) ∧ Hid (x = autT t a ac nx k ++ (staT ar nr j ++ sgnT false) ++ rowT row l) ∧ x.length ≤ 47 + 1000 * k + 100 * j + 10 * l ∧
              Blk wr w.heap.size 53 [.int .i64 t, .int .i64 a, .slice (some ⟨sb, so, none⟩) ac.length c, .slice (some ⟨ub, uo, none⟩) nx.length d] ∧ Below w.heap.size w wr) (fun _ i _ => row.length - (intOf i).toNat)
          case atStart => exact ⟨0, y1, by omega, rfl, rfl, HY2, by omega, L, hB⟩
          case round =>
            clear L hB HY2 Hc1
            obtain ⟨l, x, hl, rfl, rfl, HX, hxl, L, hB⟩ := hrel
            by_cases hll : l < row.length
            · obtain ⟨tb, to', rfl⟩ := nest_some (f := D.int) rr (by omega)
              have htl : tb < w.heap.size := by
                obtain ⟨z, hz⟩ : ∃ e, row[l]? = some e := ⟨_, List.getElem?_eq_getElem hll⟩
                exact (int_in rr hz).1
              -- a round of the inner loop
              obtain ⟨zz, hzz⟩ : ∃ e, row[l]? = some e := ⟨_, List.getElem?_eq_getElem hll⟩
              obtain ⟨hz1, hz2⟩ := Hrow2.out l zz hzz
              obtain ⟨-, z0⟩ := int_in rr hzz
              have z0 := (hB.cell (p := ⟨tb, to' + l, none⟩) htl).trans z0
              have Hs := Lib.hid (rowT_succ hzz)
              have hlz := Int.natCast_nonneg l
              have hlb : (l : Int) < (row.length : Int) := by omega
              have l3 := L.c3
              have b0' := (hB.cell (p := ⟨ub, uo + k, none⟩) hul).trans b0
              have r0' := (hB.cell (p := ⟨vb, vo + j, none⟩) hvl).trans r0
              clear hzz
              by_cases hneg : zz < 0
              · obtain ⟨x', HX', Hc⟩ := cat_r (P := Tryd.prog) (s := { data := #[58, 46] }) x [58, 46] rfl (by simp only [List.length_cons, List.length_nil]; omega)
                have hxl' : x'.length ≤ 47 + 1000 * k + 100 * j + 10 * (l + 1) := by rw [HX'.out]; simp only [List.length_append, List.length_cons, List.length_nil]; omega
                have HN : Hid (x' = autT t a ac nx k ++ (staT ar nr j ++ sgnT false) ++ rowT row (l + 1)) := by
                  show _ = _
                  rw [HX'.out, HX.out, Hs.out, sucT, if_pos hneg]
                  simp only [List.append_assoc]
                clear HX' HX Hs
                go_wp2_with fail
                go_roundw
                case rel => exact ⟨l + 1, x', by omega, by go_num, rfl, HN, hxl', L, hB⟩
                case measure => simp [intOf]; omega
              · have hdl := dig_len2 (z := zz) (by omega) (by omega)
                obtain ⟨y1, HY1, Hc1⟩ := cat_l (P := Tryd.prog) (s := { data := #[58] }) [58] (dig zz) rfl (by simp only [List.length_cons, List.length_nil]; omega)
                have hy1 : y1.length ≤ 3 := by rw [HY1.out]; simp only [List.length_append, List.length_cons, List.length_nil]; omega
                obtain ⟨x', HX', Hc2⟩ := cat_2 (P := Tryd.prog) x y1 (by omega)
                have hxl' : x'.length ≤ 47 + 1000 * k + 100 * j + 10 * (l + 1) := by rw [HX'.out]; simp only [List.length_append]; omega
                have HN : Hid (x' = autT t a ac nx k ++ (staT ar nr j ++ sgnT false) ++ rowT row (l + 1)) := by
                  show _ = _
                  rw [HX'.out, HX.out, Hs.out, HY1.out, sucT, if_neg hneg]
                  simp only [List.append_assoc]
                clear HX' HX Hs HY1
                go_wp2_with fail
                refine (Decimal_z (z := zz) (by omega) (by omega)).mono ?_
                rintro e w9 ⟨rfl, hb9⟩
                have hB9 := hB.trans (hb9.mono hB.size)
                have L9 := L.below hb9
                clear hb9 l3 b0' r0' z0 L hB
                go_wp2_with fail
                go_roundw
                case rel => exact ⟨l + 1, x', by omega, by go_num, rfl, HN, hxl', L9, hB9⟩
                case measure => simp [intOf]; omega
            · obtain rfl : l = row.length := by omega
              have HN : Hid (x = autT t a ac nx k ++ staT ar nr (j + 1)) := by
                show _ = _
                rw [HX.out, Hst.out]
                simp only [List.append_assoc]
              have l3 := L.c3
              have b0' := (hB.cell (p := ⟨ub, uo + k, none⟩) hul).trans b0
              have r0' := (hB.cell (p := ⟨vb, vo + j, none⟩) hvl).trans r0
              clear HX
              go_wp2_with fail
              go_roundw
              case rel => exact ⟨j + 1, x, by omega, by go_num, rfl, HN, by omega, L, hB⟩
              case measure => simp [intOf]; omega
        case true =>
          -- a cell's sign is known
          obtain ⟨y1, HY1, Hc1⟩ := cat_r (P := Tryd.prog) (s := { data := #[32, 43] }) y [32, 43] rfl (by simp only [List.length_cons, List.length_nil]; omega)
          have hyl1 : y1.length ≤ 47 + 1000 * k + 100 * j := by rw [HY1.out]; simp only [List.length_append, List.length_cons, List.length_nil]; omega
          have HY2 : Hid (y1 = autT t a ac nx k ++ (staT ar nr j ++ sgnT true) ++ rowT row 0) := by
            show _ = _
            rw [HY1.out, HY.out]
            simp only [List.append_assoc, rowT, sgnT, List.append_nil]
            rfl
          clear HY1 HY
          go_wp2_with fail
          clear l2 a0' z0
          obtain ⟨wm, rfl⟩ : ∃ v, v = wr := ⟨_, rfl⟩
          go_loopw [3, 6] (fun q i wr => ∃ (l : Nat) (x : List UInt8), l ≤ row.length ∧ i = .int .i64 l ∧ q = .string (bs x) ∧ Hid (x = autT t a ac nx k ++ (staT ar nr j ++ sgnT true) ++ rowT row l) ∧ x.length ≤ 47 + 1000 * k + 100 * j + 10 * l ∧
              Blk wr w.heap.size 53 [.int .i64 t, .int .i64 a, .slice (some ⟨sb, so, none⟩) ac.length c, .slice (some ⟨ub, uo, none⟩) nx.length d] ∧ Below w.heap.size w wr) (fun _ i _ => row.length - (intOf i).toNat)
          case atStart => exact ⟨0, y1, by omega, rfl, rfl, HY2, by omega, L, hB⟩
          case round =>
            clear L hB HY2 Hc1
            obtain ⟨l, x, hl, rfl, rfl, HX, hxl, L, hB⟩ := hrel
            by_cases hll : l < row.length
            · obtain ⟨tb, to', rfl⟩ := nest_some (f := D.int) rr (by omega)
              have htl : tb < w.heap.size := by
                obtain ⟨z, hz⟩ : ∃ e, row[l]? = some e := ⟨_, List.getElem?_eq_getElem hll⟩
                exact (int_in rr hz).1
              -- a round of the inner loop
              obtain ⟨zz, hzz⟩ : ∃ e, row[l]? = some e := ⟨_, List.getElem?_eq_getElem hll⟩
              obtain ⟨hz1, hz2⟩ := Hrow2.out l zz hzz
              obtain ⟨-, z0⟩ := int_in rr hzz
              have z0 := (hB.cell (p := ⟨tb, to' + l, none⟩) htl).trans z0
              have Hs := Lib.hid (rowT_succ hzz)
              have hlz := Int.natCast_nonneg l
              have hlb : (l : Int) < (row.length : Int) := by omega
              have l3 := L.c3
              have b0' := (hB.cell (p := ⟨ub, uo + k, none⟩) hul).trans b0
              have r0' := (hB.cell (p := ⟨vb, vo + j, none⟩) hvl).trans r0
              clear hzz
              by_cases hneg : zz < 0
              · obtain ⟨x', HX', Hc⟩ := cat_r (P := Tryd.prog) (s := { data := #[58, 46] }) x [58, 46] rfl (by simp only [List.length_cons, List.length_nil]; omega)
                have hxl' : x'.length ≤ 47 + 1000 * k + 100 * j + 10 * (l + 1) := by rw [HX'.out]; simp only [List.length_append, List.length_cons, List.length_nil]; omega
                have HN : Hid (x' = autT t a ac nx k ++ (staT ar nr j ++ sgnT true) ++ rowT row (l + 1)) := by
                  show _ = _
                  rw [HX'.out, HX.out, Hs.out, sucT, if_pos hneg]
                  simp only [List.append_assoc]
                clear HX' HX Hs
                go_wp2_with fail
                go_roundw
                case rel => exact ⟨l + 1, x', by omega, by go_num, rfl, HN, hxl', L, hB⟩
                case measure => simp [intOf]; omega
              · have hdl := dig_len2 (z := zz) (by omega) (by omega)
                obtain ⟨y1, HY1, Hc1⟩ := cat_l (P := Tryd.prog) (s := { data := #[58] }) [58] (dig zz) rfl (by simp only [List.length_cons, List.length_nil]; omega)
                have hy1 : y1.length ≤ 3 := by rw [HY1.out]; simp only [List.length_append, List.length_cons, List.length_nil]; omega
                obtain ⟨x', HX', Hc2⟩ := cat_2 (P := Tryd.prog) x y1 (by omega)
                have hxl' : x'.length ≤ 47 + 1000 * k + 100 * j + 10 * (l + 1) := by rw [HX'.out]; simp only [List.length_append]; omega
                have HN : Hid (x' = autT t a ac nx k ++ (staT ar nr j ++ sgnT true) ++ rowT row (l + 1)) := by
                  show _ = _
                  rw [HX'.out, HX.out, Hs.out, HY1.out, sucT, if_neg hneg]
                  simp only [List.append_assoc]
                clear HX' HX Hs HY1
                go_wp2_with fail
                refine (Decimal_z (z := zz) (by omega) (by omega)).mono ?_
                rintro e w9 ⟨rfl, hb9⟩
                have hB9 := hB.trans (hb9.mono hB.size)
                have L9 := L.below hb9
                clear hb9 l3 b0' r0' z0 L hB
                go_wp2_with fail
                go_roundw
                case rel => exact ⟨l + 1, x', by omega, by go_num, rfl, HN, hxl', L9, hB9⟩
                case measure => simp [intOf]; omega
            · obtain rfl : l = row.length := by omega
              have HN : Hid (x = autT t a ac nx k ++ staT ar nr (j + 1)) := by
                show _ = _
                rw [HX.out, Hst.out]
                simp only [List.append_assoc]
              have l3 := L.c3
              have b0' := (hB.cell (p := ⟨ub, uo + k, none⟩) hul).trans b0
              have r0' := (hB.cell (p := ⟨vb, vo + j, none⟩) hvl).trans r0
              clear HX
              go_wp2_with fail
              go_roundw
              case rel => exact ⟨j + 1, x, by omega, by go_num, rfl, HN, by omega, L, hB⟩
              case measure => simp [intOf]; omega
end Go.Proofs.YtahehcalmbmbpaaDoor
