/-
  Parts of a proof, joined: Aut2. No condition.
-/
import Derived.Test.YtfhlddbngjlhbaaDoorPk4
namespace Go.Proofs.YtfhlddbngjlhbaaDoor
set_option linter.unusedVariables false
set_option linter.unusedSimpArgs false
open Go.ChangeShapes Go.WideShapes Go.ChangeAt Go.RowKit Go.Sort
set_option maxHeartbeats 4000000 in
theorem eqBoolS_any (xs ys : List Bool) (s t : Option Addr) (c d : Nat) (w : World) (hr : Rd w (boolsD xs) (.slice s xs.length c)) (hr' : Rd w (boolsD ys) (.slice t ys.length d)) :
  Calls Tryd.prog 42 #[.slice s xs.length c, .slice t ys.length d] w fun e w' => e = .returned (.bool (eqb xs ys)) ∧ Below w.heap.size w w' := by
 obtain ⟨hlen, hcap⟩ := nest_bd hr
 obtain ⟨hlen', hcap'⟩ := nest_bd hr'
 unfold maxLen at hcap hcap'
 by_cases hl : xs.length = ys.length
 ·
  have b1 : ((xs.length : Int) != (ys.length : Int)) = false := by simp [hl]
  have Hl := Lib.hid hl
  clear hl
  go_enter Tryd.func42, Tryd.ntmps42
  go_wp2_with fail
  go_loopw [5] (fun i wr => ∃ k : Nat, k ≤ xs.length ∧ i = .int .i64 k ∧ xs.take k = ys.take k ∧ Below w.heap.size w wr) (fun i _ => xs.length - (intOf i).toNat)
  case atStart => exact ⟨0, by omega, rfl, by simp, Below.refl _ _⟩
  case round =>
   obtain ⟨k, hk, rfl, hpre, hB⟩ := hrel
   have Hpre := Lib.hid hpre
   clear hpre
   by_cases hlt : k < xs.length
   ·
    have hlt' : k < ys.length := by have := Hl.out; omega
    obtain ⟨x, hx⟩ : ∃ e, xs[k]? = some e := ⟨_, List.getElem?_eq_getElem hlt⟩
    obtain ⟨y, hy⟩ : ∃ e, ys[k]? = some e := ⟨_, List.getElem?_eq_getElem hlt'⟩
    obtain ⟨b, o, rfl⟩ := nest_some hr (by omega)
    obtain ⟨b', o', rfl⟩ := nest_some hr' (by omega)
    obtain ⟨hbl, g0⟩ := bool_in hr hx
    obtain ⟨hbl', k0⟩ := bool_in hr' hy
    have ha := Int.natCast_nonneg k
    have hb : (k : Int) < (xs.length : Int) := by omega
    have hb' : (k : Int) < (ys.length : Int) := by omega
    have HB := Lib.hid hB
    have G0 := Lib.hid g0
    have K0 := Lib.hid k0
    clear g0 k0
    have szB := hB.size
    have Hx := Lib.hid hx
    have Hy := Lib.hid hy
    clear hx hy
    go_wp2_with fail
    refine region_rs [] [] (fun _ _ => False) (wr.heap.size) (fun i iv vs wx => match i with
     | 0 => vs 0 = .slice (some ⟨b, o, none⟩) xs.length c
     | 1 => vs 1 = .int .i64 k
     | 2 => vs 2 = .pointer (some ⟨b, o + k, none⟩)
     | 3 => vs 3 = .bool x
     | 4 => vs 4 = .slice (some ⟨b', o', none⟩) ys.length d
     | 5 => vs 5 = .int .i64 k
     | 6 => vs 6 = .pointer (some ⟨b', o' + k, none⟩)
     | 7 => vs 7 = .bool y
     | 8 => vs 8 = .bool (x != y)
     | _ => True) (fun i iv vs => match i with
     | 0 => vs 0 = .slice (some ⟨b, o, none⟩) xs.length c
     | 1 => vs 1 = .int .i64 k
     | 2 => vs 2 = .pointer (some ⟨b, o + k, none⟩)
     | 3 => vs 3 = .bool x
     | 4 => vs 4 = .slice (some ⟨b', o', none⟩) ys.length d
     | 5 => vs 5 = .int .i64 k
     | 6 => vs 6 = .pointer (some ⟨b', o' + k, none⟩)
     | 7 => vs 7 = .bool y
     | 8 => vs 8 = .bool (x != y)
     | _ => True) (by kernel_rfl) (by kernel_rfl) [0, 1, 2, 3, 4, 5, 6, 7, 8] (by kernel_rfl) ?hbase ?hGb ?hG ?hJ ?hE ?hEE ?hstep ?hQ
    case hbase => first | exact Nat.le_refl _ | omega | (simp; omega)
    case hGb =>
     exact fun _ _ h => h.elim
    case hG =>
     exact fun _ _ _ h => h.elim
    case hJ =>
     intro i hi iv iv' vs vs' wx wx' ha hv hz hk hj
     simp only [List.mem_cons, List.not_mem_nil, or_false] at hi
     rcases hi with rfl | rfl | rfl | rfl | rfl | rfl | rfl | rfl | rfl
     ·
      exact (hv.out 0 (mem_of (by kernel_rfl))).symm.trans hj
     ·
      exact (hv.out 1 (mem_of (by kernel_rfl))).symm.trans hj
     ·
      exact (hv.out 2 (mem_of (by kernel_rfl))).symm.trans hj
     ·
      exact (hv.out 3 (mem_of (by kernel_rfl))).symm.trans hj
     ·
      exact (hv.out 4 (mem_of (by kernel_rfl))).symm.trans hj
     ·
      exact (hv.out 5 (mem_of (by kernel_rfl))).symm.trans hj
     ·
      exact (hv.out 6 (mem_of (by kernel_rfl))).symm.trans hj
     ·
      exact (hv.out 7 (mem_of (by kernel_rfl))).symm.trans hj
     ·
      exact (hv.out 8 (mem_of (by kernel_rfl))).symm.trans hj
    case hE =>
     intro i hi iv vs wx hj
     simp only [List.mem_cons, List.not_mem_nil, or_false] at hi
     rcases hi with rfl | rfl | rfl | rfl | rfl | rfl | rfl | rfl | rfl
     ·
      exact hj
     ·
      exact hj
     ·
      exact hj
     ·
      exact hj
     ·
      exact hj
     ·
      exact hj
     ·
      exact hj
     ·
      exact hj
     ·
      exact hj
    case hEE =>
     intro i hi iv iv' vs vs' ha hv hj
     simp only [List.mem_cons, List.not_mem_nil, or_false] at hi
     rcases hi with rfl | rfl | rfl | rfl | rfl | rfl | rfl | rfl | rfl
     ·
      exact (hv.out 0 (mem_of (by kernel_rfl))).symm.trans hj
     ·
      exact (hv.out 1 (mem_of (by kernel_rfl))).symm.trans hj
     ·
      exact (hv.out 2 (mem_of (by kernel_rfl))).symm.trans hj
     ·
      exact (hv.out 3 (mem_of (by kernel_rfl))).symm.trans hj
     ·
      exact (hv.out 4 (mem_of (by kernel_rfl))).symm.trans hj
     ·
      exact (hv.out 5 (mem_of (by kernel_rfl))).symm.trans hj
     ·
      exact (hv.out 6 (mem_of (by kernel_rfl))).symm.trans hj
     ·
      exact (hv.out 7 (mem_of (by kernel_rfl))).symm.trans hj
     ·
      exact (hv.out 8 (mem_of (by kernel_rfl))).symm.trans hj
    case hstep =>
     intro i hi opr ho iv vs w1 hB hS hSo hd he hbd hsep hun K hK
     simp only [List.mem_cons, List.not_mem_nil, or_false] at hi
     have hzB := hB.size
     have hBw1 : Below w.heap.size w w1 := HB.out.trans (hB.mono szB)
     have g0 := (hBw1.cell (p := ⟨b, o + k, none⟩) hbl).trans G0.out
     have k0 := (hBw1.cell (p := ⟨b', o' + k, none⟩) hbl').trans K0.out
     generalize hA : putFrom _ 0 vs _ = A at hK ⊢
     simp only [putFrom, puts] at hA
     rcases hi with rfl | rfl | rfl | rfl | rfl | rfl | rfl | rfl | rfl
     all_goals
      simp at ho
      subst ho
      subst hA
     ·
      go_wp2_with fail
      exact Onward.mk (hK (.slice (some ⟨b, o, none⟩) xs.length c) _ _ (fun h => by cases h) (by first | rfl | (simp only [puts])) (Spares.refl _) (fun iv' _ _ => rfl))
     ·
      go_wp2_with fail
      exact Onward.mk (hK (.int .i64 k) _ _ (fun h => by cases h) (by first | rfl | (simp only [puts])) (Spares.refl _) (fun iv' _ _ => rfl))
     ·
      have h0 : vs 0 = .slice (some ⟨b, o, none⟩) xs.length c := hd.out 0 (mem_of (by kernel_rfl)) (by decide) (by kernel_rfl)
      have h1 : vs 1 = .int .i64 k := hd.out 1 (mem_of (by kernel_rfl)) (by decide) (by kernel_rfl)
      go_wp2_with fail
      exact Onward.mk (hK (.pointer (some ⟨b, o + k, none⟩)) _ _ (fun h => by cases h) (by first | rfl | (simp only [puts, h0, h1])) (Spares.refl _) (fun iv' _ _ => rfl))
     ·
      have h2 : vs 2 = .pointer (some ⟨b, o + k, none⟩) := hd.out 2 (mem_of (by kernel_rfl)) (by decide) (by kernel_rfl)
      go_wp2_with fail
      exact Onward.mk (hK (.bool x) _ _ (fun h => by cases h) (by first | rfl | (simp only [puts, h2])) (Spares.refl _) (fun iv' _ _ => rfl))
     ·
      go_wp2_with fail
      exact Onward.mk (hK (.slice (some ⟨b', o', none⟩) ys.length d) _ _ (fun h => by cases h) (by first | rfl | (simp only [puts])) (Spares.refl _) (fun iv' _ _ => rfl))
     ·
      go_wp2_with fail
      exact Onward.mk (hK (.int .i64 k) _ _ (fun h => by cases h) (by first | rfl | (simp only [puts])) (Spares.refl _) (fun iv' _ _ => rfl))
     ·
      have h4 : vs 4 = .slice (some ⟨b', o', none⟩) ys.length d := hd.out 4 (mem_of (by kernel_rfl)) (by decide) (by kernel_rfl)
      have h5 : vs 5 = .int .i64 k := hd.out 5 (mem_of (by kernel_rfl)) (by decide) (by kernel_rfl)
      go_wp2_with fail
      exact Onward.mk (hK (.pointer (some ⟨b', o' + k, none⟩)) _ _ (fun h => by cases h) (by first | rfl | (simp only [puts, h4, h5])) (Spares.refl _) (fun iv' _ _ => rfl))
     ·
      have h6 : vs 6 = .pointer (some ⟨b', o' + k, none⟩) := hd.out 6 (mem_of (by kernel_rfl)) (by decide) (by kernel_rfl)
      go_wp2_with fail
      exact Onward.mk (hK (.bool y) _ _ (fun h => by cases h) (by first | rfl | (simp only [puts, h6])) (Spares.refl _) (fun iv' _ _ => rfl))
     ·
      have h3 : vs 3 = .bool x := hd.out 3 (mem_of (by kernel_rfl)) (by decide) (by kernel_rfl)
      have h7 : vs 7 = .bool y := hd.out 7 (mem_of (by kernel_rfl)) (by decide) (by kernel_rfl)
      rcases x with _ | _ <;> rcases y with _ | _ <;> (go_wp2_with fail; first
       | exact Onward.mk (hK (.bool true) _ _ (by simp) (by simp only [putFrom, puts, h3, h7]) (Spares.of_below (Below.refl _ _)) (fun iv' _ _ => rfl))
       | exact Onward.mk (hK (.bool false) _ _ (by simp) (by simp only [putFrom, puts, h3, h7]) (Spares.of_below (Below.refl _ _)) (fun iv' _ _ => rfl)))
    case hQ =>
     intro iv vs wx hB hSp hd he hbd hsep
     have hzB := hB.size
     have h0 : vs 0 = .slice (some ⟨b, o, none⟩) xs.length c := hd.out 0 (mem_of (by kernel_rfl)) (not_eaten (by kernel_rfl))
     have h1 : vs 1 = .int .i64 k := hd.out 1 (mem_of (by kernel_rfl)) (not_eaten (by kernel_rfl))
     have h2 : vs 2 = .pointer (some ⟨b, o + k, none⟩) := hd.out 2 (mem_of (by kernel_rfl)) (not_eaten (by kernel_rfl))
     have h3 : vs 3 = .bool x := hd.out 3 (mem_of (by kernel_rfl)) (not_eaten (by kernel_rfl))
     have h4 : vs 4 = .slice (some ⟨b', o', none⟩) ys.length d := hd.out 4 (mem_of (by kernel_rfl)) (not_eaten (by kernel_rfl))
     have h5 : vs 5 = .int .i64 k := hd.out 5 (mem_of (by kernel_rfl)) (not_eaten (by kernel_rfl))
     have h6 : vs 6 = .pointer (some ⟨b', o' + k, none⟩) := hd.out 6 (mem_of (by kernel_rfl)) (not_eaten (by kernel_rfl))
     have h7 : vs 7 = .bool y := hd.out 7 (mem_of (by kernel_rfl)) (not_eaten (by kernel_rfl))
     have h8 : vs 8 = .bool (x != y) := hd.out 8 (mem_of (by kernel_rfl)) (not_eaten (by kernel_rfl))
     simp only [putFrom, puts]
     have hBx : Below w.heap.size w wx := HB.out.trans (hB.mono szB)
     simp only [h8]
     clear hd he hbd hsep h0 h1 h2 h3 h4 h5 h6 h7 h8 hB
     by_cases hxy : x = y
     ·
      subst hxy
      have b2 : (x != x) = false := by simp
      have Hst : Hid (xs.take (k + 1) = ys.take (k + 1)) := take_same Hx.out Hy.out Hpre.out
      rw [b2]
      clear b2
      go_wp2_with fail
      go_roundw
      case rel => exact ⟨k + 1, by omega, by go_num, Hst.out, hBx⟩
      case measure => simp [intOf]; omega
     ·
      have b2 : (x != y) = true := by simp [hxy]
      have c2 : eqb xs ys = false := eqb_false (by
       intro h
       have := Hx.out
       rw [h] at this
       exact hxy (Option.some.inj (this.symm.trans Hy.out)))
      have C2 := Lib.hid c2
      rw [b2]
      clear b2 c2 hxy
      go_wp2_with fail
      go_ret
      exact ⟨ret_bool (by rw [C2.out]), hBx⟩
   ·
    obtain rfl : k = xs.length := by omega
    have c2 : eqb xs ys = true := eqb_true (by
     have := Hpre.out
     rwa [List.take_length, Hl.out, List.take_length] at this)
    have C2 := Lib.hid c2
    clear c2
    go_wp2_with fail
    go_ret
    exact ⟨ret_bool (by rw [C2.out]), hB⟩
 ·
  have b1 : ((xs.length : Int) != (ys.length : Int)) = true := by simp; omega
  have c2 : eqb xs ys = false := eqb_false (by intro h; rw [h] at hl; exact hl rfl)
  rw [c2]
  clear c2 hl
  go_enter Tryd.func42, Tryd.ntmps42
  go_wp2_with fail
  go_ret
  exact ⟨rfl, Below.refl _ _⟩
theorem eqInt64S_r (zs ys : List Int) (s t : Option Addr) (c d : Nat) (w : World) (hr : Rd w (nestD D.int zs) (.slice s zs.length c)) (hr' : Rd w (nestD D.int ys) (.slice t ys.length d)) :
  Calls Tryd.prog 56 #[.slice s zs.length c, .slice t ys.length d] w fun e w' => e = .returned (.bool (eqb zs ys)) ∧ Below w.heap.size w w' := eqInt64S_any zs ys s t c d w hr hr'
set_option maxHeartbeats 4000000 in
theorem eqBoolSS_any (xs ys : List (List Bool)) (s t : Option Addr) (c d : Nat) (w : World) (hr : Rd w (bbD xs) (.slice s xs.length c)) (hr' : Rd w (bbD ys) (.slice t ys.length d)) :
  Calls Tryd.prog 21 #[.slice s xs.length c, .slice t ys.length d] w fun e w' => e = .returned (.bool (eqb xs ys)) ∧ Below w.heap.size w w' := by
 obtain ⟨hlen, hcap⟩ := nest_bd hr
 obtain ⟨hlen', hcap'⟩ := nest_bd hr'
 unfold maxLen at hcap hcap'
 by_cases hl : xs.length = ys.length
 ·
  have b1 : ((xs.length : Int) != (ys.length : Int)) = false := by simp [hl]
  have Hl := Lib.hid hl
  clear hl
  go_enter Tryd.func21, Tryd.ntmps21
  go_wp2_with fail
  go_loopw [5] (fun i wr => ∃ k : Nat, k ≤ xs.length ∧ i = .int .i64 k ∧ xs.take k = ys.take k ∧ Below w.heap.size w wr) (fun i _ => xs.length - (intOf i).toNat)
  case atStart => exact ⟨0, by omega, rfl, by simp, Below.refl _ _⟩
  case round =>
   obtain ⟨k, hk, rfl, hpre, hB⟩ := hrel
   have Hpre := Lib.hid hpre
   clear hpre
   by_cases hlt : k < xs.length
   ·
    have hlt' : k < ys.length := by have := Hl.out; omega
    obtain ⟨x, hx⟩ : ∃ e, xs[k]? = some e := ⟨_, List.getElem?_eq_getElem hlt⟩
    obtain ⟨y, hy⟩ : ∃ e, ys[k]? = some e := ⟨_, List.getElem?_eq_getElem hlt'⟩
    obtain ⟨b, o, rfl⟩ := nest_some hr (by omega)
    obtain ⟨b', o', rfl⟩ := nest_some hr' (by omega)
    obtain ⟨hbl, s1, c1, g0, gr⟩ := nest_sl (g := D.bool) hr hx
    obtain ⟨hbl', t1, d1, k0, kr⟩ := nest_sl (g := D.bool) hr' hy
    have ha := Int.natCast_nonneg k
    have hb : (k : Int) < (xs.length : Int) := by omega
    have hb' : (k : Int) < (ys.length : Int) := by omega
    have HB := Lib.hid hB
    have G0 := Lib.hid g0
    have K0 := Lib.hid k0
    clear g0 k0
    have szB := hB.size
    have Hx := Lib.hid hx
    have Hy := Lib.hid hy
    clear hx hy
    go_wp2_with fail
    refine region_rs [] [] (fun _ _ => False) (wr.heap.size) (fun i iv vs wx => match i with
     | 0 => vs 0 = .slice (some ⟨b, o, none⟩) xs.length c
     | 1 => vs 1 = .int .i64 k
     | 2 => vs 2 = .pointer (some ⟨b, o + k, none⟩)
     | 3 => vs 3 = .slice s1 x.length c1
     | 4 => vs 4 = .slice (some ⟨b', o', none⟩) ys.length d
     | 5 => vs 5 = .int .i64 k
     | 6 => vs 6 = .pointer (some ⟨b', o' + k, none⟩)
     | 7 => vs 7 = .slice t1 y.length d1
     | 8 => vs 8 = .bool (eqb x y)
     | 9 => vs 9 = .bool (!eqb x y)
     | _ => True) (fun i iv vs => match i with
     | 0 => vs 0 = .slice (some ⟨b, o, none⟩) xs.length c
     | 1 => vs 1 = .int .i64 k
     | 2 => vs 2 = .pointer (some ⟨b, o + k, none⟩)
     | 3 => vs 3 = .slice s1 x.length c1
     | 4 => vs 4 = .slice (some ⟨b', o', none⟩) ys.length d
     | 5 => vs 5 = .int .i64 k
     | 6 => vs 6 = .pointer (some ⟨b', o' + k, none⟩)
     | 7 => vs 7 = .slice t1 y.length d1
     | 8 => vs 8 = .bool (eqb x y)
     | 9 => vs 9 = .bool (!eqb x y)
     | _ => True) (by kernel_rfl) (by kernel_rfl) [0, 1, 2, 3, 4, 5, 6, 7, 8, 9] (by kernel_rfl) ?hbase ?hGb ?hG ?hJ ?hE ?hEE ?hstep ?hQ
    case hbase => first | exact Nat.le_refl _ | omega | (simp; omega)
    case hGb =>
     exact fun _ _ h => h.elim
    case hG =>
     exact fun _ _ _ h => h.elim
    case hJ =>
     intro i hi iv iv' vs vs' wx wx' ha hv hz hk hj
     simp only [List.mem_cons, List.not_mem_nil, or_false] at hi
     rcases hi with rfl | rfl | rfl | rfl | rfl | rfl | rfl | rfl | rfl | rfl
     ·
      exact (hv.out 0 (mem_of (by kernel_rfl))).symm.trans hj
     ·
      exact (hv.out 1 (mem_of (by kernel_rfl))).symm.trans hj
     ·
      exact (hv.out 2 (mem_of (by kernel_rfl))).symm.trans hj
     ·
      exact (hv.out 3 (mem_of (by kernel_rfl))).symm.trans hj
     ·
      exact (hv.out 4 (mem_of (by kernel_rfl))).symm.trans hj
     ·
      exact (hv.out 5 (mem_of (by kernel_rfl))).symm.trans hj
     ·
      exact (hv.out 6 (mem_of (by kernel_rfl))).symm.trans hj
     ·
      exact (hv.out 7 (mem_of (by kernel_rfl))).symm.trans hj
     ·
      exact (hv.out 8 (mem_of (by kernel_rfl))).symm.trans hj
     ·
      exact (hv.out 9 (mem_of (by kernel_rfl))).symm.trans hj
    case hE =>
     intro i hi iv vs wx hj
     simp only [List.mem_cons, List.not_mem_nil, or_false] at hi
     rcases hi with rfl | rfl | rfl | rfl | rfl | rfl | rfl | rfl | rfl | rfl
     ·
      exact hj
     ·
      exact hj
     ·
      exact hj
     ·
      exact hj
     ·
      exact hj
     ·
      exact hj
     ·
      exact hj
     ·
      exact hj
     ·
      exact hj
     ·
      exact hj
    case hEE =>
     intro i hi iv iv' vs vs' ha hv hj
     simp only [List.mem_cons, List.not_mem_nil, or_false] at hi
     rcases hi with rfl | rfl | rfl | rfl | rfl | rfl | rfl | rfl | rfl | rfl
     ·
      exact (hv.out 0 (mem_of (by kernel_rfl))).symm.trans hj
     ·
      exact (hv.out 1 (mem_of (by kernel_rfl))).symm.trans hj
     ·
      exact (hv.out 2 (mem_of (by kernel_rfl))).symm.trans hj
     ·
      exact (hv.out 3 (mem_of (by kernel_rfl))).symm.trans hj
     ·
      exact (hv.out 4 (mem_of (by kernel_rfl))).symm.trans hj
     ·
      exact (hv.out 5 (mem_of (by kernel_rfl))).symm.trans hj
     ·
      exact (hv.out 6 (mem_of (by kernel_rfl))).symm.trans hj
     ·
      exact (hv.out 7 (mem_of (by kernel_rfl))).symm.trans hj
     ·
      exact (hv.out 8 (mem_of (by kernel_rfl))).symm.trans hj
     ·
      exact (hv.out 9 (mem_of (by kernel_rfl))).symm.trans hj
    case hstep =>
     intro i hi opr ho iv vs w1 hB hS hSo hd he hbd hsep hun K hK
     simp only [List.mem_cons, List.not_mem_nil, or_false] at hi
     have hzB := hB.size
     have hBw1 : Below w.heap.size w w1 := HB.out.trans (hB.mono szB)
     have g0 := (hBw1.cell (p := ⟨b, o + k, none⟩) hbl).trans G0.out
     have k0 := (hBw1.cell (p := ⟨b', o' + k, none⟩) hbl').trans K0.out
     have gr1 := gr.below hBw1
     have kr1 := kr.below hBw1
     generalize hA : putFrom _ 0 vs _ = A at hK ⊢
     simp only [putFrom, puts] at hA
     rcases hi with rfl | rfl | rfl | rfl | rfl | rfl | rfl | rfl | rfl | rfl
     all_goals
      simp at ho
      subst ho
      subst hA
     ·
      go_wp2_with fail
      exact Onward.mk (hK (.slice (some ⟨b, o, none⟩) xs.length c) _ _ (fun h => by cases h) (by first | rfl | (simp only [puts])) (Spares.refl _) (fun iv' _ _ => rfl))
     ·
      go_wp2_with fail
      exact Onward.mk (hK (.int .i64 k) _ _ (fun h => by cases h) (by first | rfl | (simp only [puts])) (Spares.refl _) (fun iv' _ _ => rfl))
     ·
      have h0 : vs 0 = .slice (some ⟨b, o, none⟩) xs.length c := hd.out 0 (mem_of (by kernel_rfl)) (by decide) (by kernel_rfl)
      have h1 : vs 1 = .int .i64 k := hd.out 1 (mem_of (by kernel_rfl)) (by decide) (by kernel_rfl)
      go_wp2_with fail
      exact Onward.mk (hK (.pointer (some ⟨b, o + k, none⟩)) _ _ (fun h => by cases h) (by first | rfl | (simp only [puts, h0, h1])) (Spares.refl _) (fun iv' _ _ => rfl))
     ·
      have h2 : vs 2 = .pointer (some ⟨b, o + k, none⟩) := hd.out 2 (mem_of (by kernel_rfl)) (by decide) (by kernel_rfl)
      go_wp2_with fail
      exact Onward.mk (hK (.slice s1 x.length c1) _ _ (fun h => by cases h) (by first | rfl | (simp only [puts, h2])) (Spares.refl _) (fun iv' _ _ => rfl))
     ·
      go_wp2_with fail
      exact Onward.mk (hK (.slice (some ⟨b', o', none⟩) ys.length d) _ _ (fun h => by cases h) (by first | rfl | (simp only [puts])) (Spares.refl _) (fun iv' _ _ => rfl))
     ·
      go_wp2_with fail
      exact Onward.mk (hK (.int .i64 k) _ _ (fun h => by cases h) (by first | rfl | (simp only [puts])) (Spares.refl _) (fun iv' _ _ => rfl))
     ·
      have h4 : vs 4 = .slice (some ⟨b', o', none⟩) ys.length d := hd.out 4 (mem_of (by kernel_rfl)) (by decide) (by kernel_rfl)
      have h5 : vs 5 = .int .i64 k := hd.out 5 (mem_of (by kernel_rfl)) (by decide) (by kernel_rfl)
      go_wp2_with fail
      exact Onward.mk (hK (.pointer (some ⟨b', o' + k, none⟩)) _ _ (fun h => by cases h) (by first | rfl | (simp only [puts, h4, h5])) (Spares.refl _) (fun iv' _ _ => rfl))
     ·
      have h6 : vs 6 = .pointer (some ⟨b', o' + k, none⟩) := hd.out 6 (mem_of (by kernel_rfl)) (by decide) (by kernel_rfl)
      go_wp2_with fail
      exact Onward.mk (hK (.slice t1 y.length d1) _ _ (fun h => by cases h) (by first | rfl | (simp only [puts, h6])) (Spares.refl _) (fun iv' _ _ => rfl))
     ·
      have h3 : vs 3 = .slice s1 x.length c1 := hd.out 3 (mem_of (by kernel_rfl)) (by decide) (by kernel_rfl)
      have h7 : vs 7 = .slice t1 y.length d1 := hd.out 7 (mem_of (by kernel_rfl)) (by decide) (by kernel_rfl)
      go_wp2_with fail
      refine (eqBoolS_any x y _ _ _ _ _ gr1 kr1).mono ?_
      rintro e w2 ⟨rfl, hb⟩
      go_wp2_with fail
      exact Onward.mk (hK (.bool (eqb x y)) _ _ (fun h => by cases h) (by first | rfl | (simp only [puts, h3, h7])) (Spares.of_below hb) (fun iv' _ _ => rfl))
     ·
      have h8 : vs 8 = .bool (eqb x y) := hd.out 8 (mem_of (by kernel_rfl)) (by decide) (by kernel_rfl)
      go_wp2_with fail
      exact Onward.mk (hK (.bool (!eqb x y)) _ _ (by simp) (by simp only [Act.put, List.setIfInBounds_toArray, List.set_cons_succ, List.set_cons_zero, h8]) (Spares.of_below (Below.refl _ _)) (fun iv' _ _ => rfl))
    case hQ =>
     intro iv vs wx hB hSp hd he hbd hsep
     have hzB := hB.size
     have h0 : vs 0 = .slice (some ⟨b, o, none⟩) xs.length c := hd.out 0 (mem_of (by kernel_rfl)) (not_eaten (by kernel_rfl))
     have h1 : vs 1 = .int .i64 k := hd.out 1 (mem_of (by kernel_rfl)) (not_eaten (by kernel_rfl))
     have h2 : vs 2 = .pointer (some ⟨b, o + k, none⟩) := hd.out 2 (mem_of (by kernel_rfl)) (not_eaten (by kernel_rfl))
     have h3 : vs 3 = .slice s1 x.length c1 := hd.out 3 (mem_of (by kernel_rfl)) (not_eaten (by kernel_rfl))
     have h4 : vs 4 = .slice (some ⟨b', o', none⟩) ys.length d := hd.out 4 (mem_of (by kernel_rfl)) (not_eaten (by kernel_rfl))
     have h5 : vs 5 = .int .i64 k := hd.out 5 (mem_of (by kernel_rfl)) (not_eaten (by kernel_rfl))
     have h6 : vs 6 = .pointer (some ⟨b', o' + k, none⟩) := hd.out 6 (mem_of (by kernel_rfl)) (not_eaten (by kernel_rfl))
     have h7 : vs 7 = .slice t1 y.length d1 := hd.out 7 (mem_of (by kernel_rfl)) (not_eaten (by kernel_rfl))
     have h8 : vs 8 = .bool (eqb x y) := hd.out 8 (mem_of (by kernel_rfl)) (not_eaten (by kernel_rfl))
     have h9 : vs 9 = .bool (!eqb x y) := hd.out 9 (mem_of (by kernel_rfl)) (not_eaten (by kernel_rfl))
     simp only [putFrom, puts]
     have hBx : Below w.heap.size w wx := HB.out.trans (hB.mono szB)
     simp only [h9]
     clear hd he hbd hsep h0 h1 h2 h3 h4 h5 h6 h7 h8 h9 hB
     by_cases hxy : x = y
     ·
      subst hxy
      have b2 : eqb x x = true := eqb_true rfl
      have Hst : Hid (xs.take (k + 1) = ys.take (k + 1)) := take_same Hx.out Hy.out Hpre.out
      rw [b2]
      clear b2
      go_wp2_with fail
      go_roundw
      case rel => exact ⟨k + 1, by omega, by go_num, Hst.out, hBx⟩
      case measure => simp [intOf]; omega
     ·
      have b2 : eqb x y = false := eqb_false hxy
      have c2 : eqb xs ys = false := eqb_false (by
       intro h
       have := Hx.out
       rw [h] at this
       exact hxy (Option.some.inj (this.symm.trans Hy.out)))
      have C2 := Lib.hid c2
      rw [b2]
      clear b2 c2 hxy
      go_wp2_with fail
      go_ret
      exact ⟨ret_bool (by rw [C2.out]), hBx⟩
   ·
    obtain rfl : k = xs.length := by omega
    have c2 : eqb xs ys = true := eqb_true (by
     have := Hpre.out
     rwa [List.take_length, Hl.out, List.take_length] at this)
    have C2 := Lib.hid c2
    clear c2
    go_wp2_with fail
    go_ret
    exact ⟨ret_bool (by rw [C2.out]), hB⟩
 ·
  have b1 : ((xs.length : Int) != (ys.length : Int)) = true := by simp; omega
  have c2 : eqb xs ys = false := eqb_false (by intro h; rw [h] at hl; exact hl rfl)
  rw [c2]
  clear c2 hl
  go_enter Tryd.func21, Tryd.ntmps21
  go_wp2_with fail
  go_ret
  exact ⟨rfl, Below.refl _ _⟩
set_option maxHeartbeats 4000000 in
theorem eqInt64SS_any (xs ys : List (List Int)) (s t : Option Addr) (c d : Nat) (w : World) (hr : Rd w (iiD xs) (.slice s xs.length c)) (hr' : Rd w (iiD ys) (.slice t ys.length d)) :
  Calls Tryd.prog 43 #[.slice s xs.length c, .slice t ys.length d] w fun e w' => e = .returned (.bool (eqb xs ys)) ∧ Below w.heap.size w w' := by
 obtain ⟨hlen, hcap⟩ := nest_bd hr
 obtain ⟨hlen', hcap'⟩ := nest_bd hr'
 unfold maxLen at hcap hcap'
 by_cases hl : xs.length = ys.length
 ·
  have b1 : ((xs.length : Int) != (ys.length : Int)) = false := by simp [hl]
  have Hl := Lib.hid hl
  clear hl
  go_enter Tryd.func43, Tryd.ntmps43
  go_wp2_with fail
  go_loopw [5] (fun i wr => ∃ k : Nat, k ≤ xs.length ∧ i = .int .i64 k ∧ xs.take k = ys.take k ∧ Below w.heap.size w wr) (fun i _ => xs.length - (intOf i).toNat)
  case atStart => exact ⟨0, by omega, rfl, by simp, Below.refl _ _⟩
  case round =>
   obtain ⟨k, hk, rfl, hpre, hB⟩ := hrel
   have Hpre := Lib.hid hpre
   clear hpre
   by_cases hlt : k < xs.length
   ·
    have hlt' : k < ys.length := by have := Hl.out; omega
    obtain ⟨x, hx⟩ : ∃ e, xs[k]? = some e := ⟨_, List.getElem?_eq_getElem hlt⟩
    obtain ⟨y, hy⟩ : ∃ e, ys[k]? = some e := ⟨_, List.getElem?_eq_getElem hlt'⟩
    obtain ⟨b, o, rfl⟩ := nest_some hr (by omega)
    obtain ⟨b', o', rfl⟩ := nest_some hr' (by omega)
    obtain ⟨hbl, s1, c1, g0, gr⟩ := nest_sl (g := D.int) hr hx
    obtain ⟨hbl', t1, d1, k0, kr⟩ := nest_sl (g := D.int) hr' hy
    have ha := Int.natCast_nonneg k
    have hb : (k : Int) < (xs.length : Int) := by omega
    have hb' : (k : Int) < (ys.length : Int) := by omega
    have HB := Lib.hid hB
    have G0 := Lib.hid g0
    have K0 := Lib.hid k0
    clear g0 k0
    have szB := hB.size
    have Hx := Lib.hid hx
    have Hy := Lib.hid hy
    clear hx hy
    go_wp2_with fail
    refine region_rs [] [] (fun _ _ => False) (wr.heap.size) (fun i iv vs wx => match i with
     | 0 => vs 0 = .slice (some ⟨b, o, none⟩) xs.length c
     | 1 => vs 1 = .int .i64 k
     | 2 => vs 2 = .pointer (some ⟨b, o + k, none⟩)
     | 3 => vs 3 = .slice s1 x.length c1
     | 4 => vs 4 = .slice (some ⟨b', o', none⟩) ys.length d
     | 5 => vs 5 = .int .i64 k
     | 6 => vs 6 = .pointer (some ⟨b', o' + k, none⟩)
     | 7 => vs 7 = .slice t1 y.length d1
     | 8 => vs 8 = .bool (eqb x y)
     | 9 => vs 9 = .bool (!eqb x y)
     | _ => True) (fun i iv vs => match i with
     | 0 => vs 0 = .slice (some ⟨b, o, none⟩) xs.length c
     | 1 => vs 1 = .int .i64 k
     | 2 => vs 2 = .pointer (some ⟨b, o + k, none⟩)
     | 3 => vs 3 = .slice s1 x.length c1
     | 4 => vs 4 = .slice (some ⟨b', o', none⟩) ys.length d
     | 5 => vs 5 = .int .i64 k
     | 6 => vs 6 = .pointer (some ⟨b', o' + k, none⟩)
     | 7 => vs 7 = .slice t1 y.length d1
     | 8 => vs 8 = .bool (eqb x y)
     | 9 => vs 9 = .bool (!eqb x y)
     | _ => True) (by kernel_rfl) (by kernel_rfl) [0, 1, 2, 3, 4, 5, 6, 7, 8, 9] (by kernel_rfl) ?hbase ?hGb ?hG ?hJ ?hE ?hEE ?hstep ?hQ
    case hbase => first | exact Nat.le_refl _ | omega | (simp; omega)
    case hGb =>
     exact fun _ _ h => h.elim
    case hG =>
     exact fun _ _ _ h => h.elim
    case hJ =>
     intro i hi iv iv' vs vs' wx wx' ha hv hz hk hj
     simp only [List.mem_cons, List.not_mem_nil, or_false] at hi
     rcases hi with rfl | rfl | rfl | rfl | rfl | rfl | rfl | rfl | rfl | rfl
     ·
      exact (hv.out 0 (mem_of (by kernel_rfl))).symm.trans hj
     ·
      exact (hv.out 1 (mem_of (by kernel_rfl))).symm.trans hj
     ·
      exact (hv.out 2 (mem_of (by kernel_rfl))).symm.trans hj
     ·
      exact (hv.out 3 (mem_of (by kernel_rfl))).symm.trans hj
     ·
      exact (hv.out 4 (mem_of (by kernel_rfl))).symm.trans hj
     ·
      exact (hv.out 5 (mem_of (by kernel_rfl))).symm.trans hj
     ·
      exact (hv.out 6 (mem_of (by kernel_rfl))).symm.trans hj
     ·
      exact (hv.out 7 (mem_of (by kernel_rfl))).symm.trans hj
     ·
      exact (hv.out 8 (mem_of (by kernel_rfl))).symm.trans hj
     ·
      exact (hv.out 9 (mem_of (by kernel_rfl))).symm.trans hj
    case hE =>
     intro i hi iv vs wx hj
     simp only [List.mem_cons, List.not_mem_nil, or_false] at hi
     rcases hi with rfl | rfl | rfl | rfl | rfl | rfl | rfl | rfl | rfl | rfl
     ·
      exact hj
     ·
      exact hj
     ·
      exact hj
     ·
      exact hj
     ·
      exact hj
     ·
      exact hj
     ·
      exact hj
     ·
      exact hj
     ·
      exact hj
     ·
      exact hj
    case hEE =>
     intro i hi iv iv' vs vs' ha hv hj
     simp only [List.mem_cons, List.not_mem_nil, or_false] at hi
     rcases hi with rfl | rfl | rfl | rfl | rfl | rfl | rfl | rfl | rfl | rfl
     ·
      exact (hv.out 0 (mem_of (by kernel_rfl))).symm.trans hj
     ·
      exact (hv.out 1 (mem_of (by kernel_rfl))).symm.trans hj
     ·
      exact (hv.out 2 (mem_of (by kernel_rfl))).symm.trans hj
     ·
      exact (hv.out 3 (mem_of (by kernel_rfl))).symm.trans hj
     ·
      exact (hv.out 4 (mem_of (by kernel_rfl))).symm.trans hj
     ·
      exact (hv.out 5 (mem_of (by kernel_rfl))).symm.trans hj
     ·
      exact (hv.out 6 (mem_of (by kernel_rfl))).symm.trans hj
     ·
      exact (hv.out 7 (mem_of (by kernel_rfl))).symm.trans hj
     ·
      exact (hv.out 8 (mem_of (by kernel_rfl))).symm.trans hj
     ·
      exact (hv.out 9 (mem_of (by kernel_rfl))).symm.trans hj
    case hstep =>
     intro i hi opr ho iv vs w1 hB hS hSo hd he hbd hsep hun K hK
     simp only [List.mem_cons, List.not_mem_nil, or_false] at hi
     have hzB := hB.size
     have hBw1 : Below w.heap.size w w1 := HB.out.trans (hB.mono szB)
     have g0 := (hBw1.cell (p := ⟨b, o + k, none⟩) hbl).trans G0.out
     have k0 := (hBw1.cell (p := ⟨b', o' + k, none⟩) hbl').trans K0.out
     have gr1 := gr.below hBw1
     have kr1 := kr.below hBw1
     generalize hA : putFrom _ 0 vs _ = A at hK ⊢
     simp only [putFrom, puts] at hA
     rcases hi with rfl | rfl | rfl | rfl | rfl | rfl | rfl | rfl | rfl | rfl
     all_goals
      simp at ho
      subst ho
      subst hA
     ·
      go_wp2_with fail
      exact Onward.mk (hK (.slice (some ⟨b, o, none⟩) xs.length c) _ _ (fun h => by cases h) (by first | rfl | (simp only [puts])) (Spares.refl _) (fun iv' _ _ => rfl))
     ·
      go_wp2_with fail
      exact Onward.mk (hK (.int .i64 k) _ _ (fun h => by cases h) (by first | rfl | (simp only [puts])) (Spares.refl _) (fun iv' _ _ => rfl))
     ·
      have h0 : vs 0 = .slice (some ⟨b, o, none⟩) xs.length c := hd.out 0 (mem_of (by kernel_rfl)) (by decide) (by kernel_rfl)
      have h1 : vs 1 = .int .i64 k := hd.out 1 (mem_of (by kernel_rfl)) (by decide) (by kernel_rfl)
      go_wp2_with fail
      exact Onward.mk (hK (.pointer (some ⟨b, o + k, none⟩)) _ _ (fun h => by cases h) (by first | rfl | (simp only [puts, h0, h1])) (Spares.refl _) (fun iv' _ _ => rfl))
     ·
      have h2 : vs 2 = .pointer (some ⟨b, o + k, none⟩) := hd.out 2 (mem_of (by kernel_rfl)) (by decide) (by kernel_rfl)
      go_wp2_with fail
      exact Onward.mk (hK (.slice s1 x.length c1) _ _ (fun h => by cases h) (by first | rfl | (simp only [puts, h2])) (Spares.refl _) (fun iv' _ _ => rfl))
     ·
      go_wp2_with fail
      exact Onward.mk (hK (.slice (some ⟨b', o', none⟩) ys.length d) _ _ (fun h => by cases h) (by first | rfl | (simp only [puts])) (Spares.refl _) (fun iv' _ _ => rfl))
     ·
      go_wp2_with fail
      exact Onward.mk (hK (.int .i64 k) _ _ (fun h => by cases h) (by first | rfl | (simp only [puts])) (Spares.refl _) (fun iv' _ _ => rfl))
     ·
      have h4 : vs 4 = .slice (some ⟨b', o', none⟩) ys.length d := hd.out 4 (mem_of (by kernel_rfl)) (by decide) (by kernel_rfl)
      have h5 : vs 5 = .int .i64 k := hd.out 5 (mem_of (by kernel_rfl)) (by decide) (by kernel_rfl)
      go_wp2_with fail
      exact Onward.mk (hK (.pointer (some ⟨b', o' + k, none⟩)) _ _ (fun h => by cases h) (by first | rfl | (simp only [puts, h4, h5])) (Spares.refl _) (fun iv' _ _ => rfl))
     ·
      have h6 : vs 6 = .pointer (some ⟨b', o' + k, none⟩) := hd.out 6 (mem_of (by kernel_rfl)) (by decide) (by kernel_rfl)
      go_wp2_with fail
      exact Onward.mk (hK (.slice t1 y.length d1) _ _ (fun h => by cases h) (by first | rfl | (simp only [puts, h6])) (Spares.refl _) (fun iv' _ _ => rfl))
     ·
      have h3 : vs 3 = .slice s1 x.length c1 := hd.out 3 (mem_of (by kernel_rfl)) (by decide) (by kernel_rfl)
      have h7 : vs 7 = .slice t1 y.length d1 := hd.out 7 (mem_of (by kernel_rfl)) (by decide) (by kernel_rfl)
      go_wp2_with fail
      refine (eqInt64S_r x y _ _ _ _ _ gr1 kr1).mono ?_
      rintro e w2 ⟨rfl, hb⟩
      go_wp2_with fail
      exact Onward.mk (hK (.bool (eqb x y)) _ _ (fun h => by cases h) (by first | rfl | (simp only [puts, h3, h7])) (Spares.of_below hb) (fun iv' _ _ => rfl))
     ·
      have h8 : vs 8 = .bool (eqb x y) := hd.out 8 (mem_of (by kernel_rfl)) (by decide) (by kernel_rfl)
      go_wp2_with fail
      exact Onward.mk (hK (.bool (!eqb x y)) _ _ (by simp) (by simp only [Act.put, List.setIfInBounds_toArray, List.set_cons_succ, List.set_cons_zero, h8]) (Spares.of_below (Below.refl _ _)) (fun iv' _ _ => rfl))
    case hQ =>
     intro iv vs wx hB hSp hd he hbd hsep
     have hzB := hB.size
     have h0 : vs 0 = .slice (some ⟨b, o, none⟩) xs.length c := hd.out 0 (mem_of (by kernel_rfl)) (not_eaten (by kernel_rfl))
     have h1 : vs 1 = .int .i64 k := hd.out 1 (mem_of (by kernel_rfl)) (not_eaten (by kernel_rfl))
     have h2 : vs 2 = .pointer (some ⟨b, o + k, none⟩) := hd.out 2 (mem_of (by kernel_rfl)) (not_eaten (by kernel_rfl))
     have h3 : vs 3 = .slice s1 x.length c1 := hd.out 3 (mem_of (by kernel_rfl)) (not_eaten (by kernel_rfl))
     have h4 : vs 4 = .slice (some ⟨b', o', none⟩) ys.length d := hd.out 4 (mem_of (by kernel_rfl)) (not_eaten (by kernel_rfl))
     have h5 : vs 5 = .int .i64 k := hd.out 5 (mem_of (by kernel_rfl)) (not_eaten (by kernel_rfl))
     have h6 : vs 6 = .pointer (some ⟨b', o' + k, none⟩) := hd.out 6 (mem_of (by kernel_rfl)) (not_eaten (by kernel_rfl))
     have h7 : vs 7 = .slice t1 y.length d1 := hd.out 7 (mem_of (by kernel_rfl)) (not_eaten (by kernel_rfl))
     have h8 : vs 8 = .bool (eqb x y) := hd.out 8 (mem_of (by kernel_rfl)) (not_eaten (by kernel_rfl))
     have h9 : vs 9 = .bool (!eqb x y) := hd.out 9 (mem_of (by kernel_rfl)) (not_eaten (by kernel_rfl))
     simp only [putFrom, puts]
     have hBx : Below w.heap.size w wx := HB.out.trans (hB.mono szB)
     simp only [h9]
     clear hd he hbd hsep h0 h1 h2 h3 h4 h5 h6 h7 h8 h9 hB
     by_cases hxy : x = y
     ·
      subst hxy
      have b2 : eqb x x = true := eqb_true rfl
      have Hst : Hid (xs.take (k + 1) = ys.take (k + 1)) := take_same Hx.out Hy.out Hpre.out
      rw [b2]
      clear b2
      go_wp2_with fail
      go_roundw
      case rel => exact ⟨k + 1, by omega, by go_num, Hst.out, hBx⟩
      case measure => simp [intOf]; omega
     ·
      have b2 : eqb x y = false := eqb_false hxy
      have c2 : eqb xs ys = false := eqb_false (by
       intro h
       have := Hx.out
       rw [h] at this
       exact hxy (Option.some.inj (this.symm.trans Hy.out)))
      have C2 := Lib.hid c2
      rw [b2]
      clear b2 c2 hxy
      go_wp2_with fail
      go_ret
      exact ⟨ret_bool (by rw [C2.out]), hBx⟩
   ·
    obtain rfl : k = xs.length := by omega
    have c2 : eqb xs ys = true := eqb_true (by
     have := Hpre.out
     rwa [List.take_length, Hl.out, List.take_length] at this)
    have C2 := Lib.hid c2
    clear c2
    go_wp2_with fail
    go_ret
    exact ⟨ret_bool (by rw [C2.out]), hB⟩
 ·
  have b1 : ((xs.length : Int) != (ys.length : Int)) = true := by simp; omega
  have c2 : eqb xs ys = false := eqb_false (by intro h; rw [h] at hl; exact hl rfl)
  rw [c2]
  clear c2 hl
  go_enter Tryd.func43, Tryd.ntmps43
  go_wp2_with fail
  go_ret
  exact ⟨rfl, Below.refl _ _⟩
set_option maxHeartbeats 4000000 in
theorem eqInt64SSS_any (xs ys : List (List (List Int))) (s t : Option Addr) (c d : Nat) (w : World) (hr : Rd w (iiiD xs) (.slice s xs.length c)) (hr' : Rd w (iiiD ys) (.slice t ys.length d)) :
  Calls Tryd.prog 22 #[.slice s xs.length c, .slice t ys.length d] w fun e w' => e = .returned (.bool (eqb xs ys)) ∧ Below w.heap.size w w' := by
 obtain ⟨hlen, hcap⟩ := nest_bd hr
 obtain ⟨hlen', hcap'⟩ := nest_bd hr'
 unfold maxLen at hcap hcap'
 by_cases hl : xs.length = ys.length
 ·
  have b1 : ((xs.length : Int) != (ys.length : Int)) = false := by simp [hl]
  have Hl := Lib.hid hl
  clear hl
  go_enter Tryd.func22, Tryd.ntmps22
  go_wp2_with fail
  go_loopw [5] (fun i wr => ∃ k : Nat, k ≤ xs.length ∧ i = .int .i64 k ∧ xs.take k = ys.take k ∧ Below w.heap.size w wr) (fun i _ => xs.length - (intOf i).toNat)
  case atStart => exact ⟨0, by omega, rfl, by simp, Below.refl _ _⟩
  case round =>
   obtain ⟨k, hk, rfl, hpre, hB⟩ := hrel
   have Hpre := Lib.hid hpre
   clear hpre
   by_cases hlt : k < xs.length
   ·
    have hlt' : k < ys.length := by have := Hl.out; omega
    obtain ⟨x, hx⟩ : ∃ e, xs[k]? = some e := ⟨_, List.getElem?_eq_getElem hlt⟩
    obtain ⟨y, hy⟩ : ∃ e, ys[k]? = some e := ⟨_, List.getElem?_eq_getElem hlt'⟩
    obtain ⟨b, o, rfl⟩ := nest_some hr (by omega)
    obtain ⟨b', o', rfl⟩ := nest_some hr' (by omega)
    obtain ⟨hbl, s1, c1, g0, gr⟩ := nest_sl (g := intsD) hr hx
    obtain ⟨hbl', t1, d1, k0, kr⟩ := nest_sl (g := intsD) hr' hy
    have ha := Int.natCast_nonneg k
    have hb : (k : Int) < (xs.length : Int) := by omega
    have hb' : (k : Int) < (ys.length : Int) := by omega
    have HB := Lib.hid hB
    have G0 := Lib.hid g0
    have K0 := Lib.hid k0
    clear g0 k0
    have szB := hB.size
    have Hx := Lib.hid hx
    have Hy := Lib.hid hy
    clear hx hy
    go_wp2_with fail
    refine region_rs [] [] (fun _ _ => False) (wr.heap.size) (fun i iv vs wx => match i with
     | 0 => vs 0 = .slice (some ⟨b, o, none⟩) xs.length c
     | 1 => vs 1 = .int .i64 k
     | 2 => vs 2 = .pointer (some ⟨b, o + k, none⟩)
     | 3 => vs 3 = .slice s1 x.length c1
     | 4 => vs 4 = .slice (some ⟨b', o', none⟩) ys.length d
     | 5 => vs 5 = .int .i64 k
     | 6 => vs 6 = .pointer (some ⟨b', o' + k, none⟩)
     | 7 => vs 7 = .slice t1 y.length d1
     | 8 => vs 8 = .bool (eqb x y)
     | 9 => vs 9 = .bool (!eqb x y)
     | _ => True) (fun i iv vs => match i with
     | 0 => vs 0 = .slice (some ⟨b, o, none⟩) xs.length c
     | 1 => vs 1 = .int .i64 k
     | 2 => vs 2 = .pointer (some ⟨b, o + k, none⟩)
     | 3 => vs 3 = .slice s1 x.length c1
     | 4 => vs 4 = .slice (some ⟨b', o', none⟩) ys.length d
     | 5 => vs 5 = .int .i64 k
     | 6 => vs 6 = .pointer (some ⟨b', o' + k, none⟩)
     | 7 => vs 7 = .slice t1 y.length d1
     | 8 => vs 8 = .bool (eqb x y)
     | 9 => vs 9 = .bool (!eqb x y)
     | _ => True) (by kernel_rfl) (by kernel_rfl) [0, 1, 2, 3, 4, 5, 6, 7, 8, 9] (by kernel_rfl) ?hbase ?hGb ?hG ?hJ ?hE ?hEE ?hstep ?hQ
    case hbase => first | exact Nat.le_refl _ | omega | (simp; omega)
    case hGb =>
     exact fun _ _ h => h.elim
    case hG =>
     exact fun _ _ _ h => h.elim
    case hJ =>
     intro i hi iv iv' vs vs' wx wx' ha hv hz hk hj
     simp only [List.mem_cons, List.not_mem_nil, or_false] at hi
     rcases hi with rfl | rfl | rfl | rfl | rfl | rfl | rfl | rfl | rfl | rfl
     ·
      exact (hv.out 0 (mem_of (by kernel_rfl))).symm.trans hj
     ·
      exact (hv.out 1 (mem_of (by kernel_rfl))).symm.trans hj
     ·
      exact (hv.out 2 (mem_of (by kernel_rfl))).symm.trans hj
     ·
      exact (hv.out 3 (mem_of (by kernel_rfl))).symm.trans hj
     ·
      exact (hv.out 4 (mem_of (by kernel_rfl))).symm.trans hj
     ·
      exact (hv.out 5 (mem_of (by kernel_rfl))).symm.trans hj
     ·
      exact (hv.out 6 (mem_of (by kernel_rfl))).symm.trans hj
     ·
      exact (hv.out 7 (mem_of (by kernel_rfl))).symm.trans hj
     ·
      exact (hv.out 8 (mem_of (by kernel_rfl))).symm.trans hj
     ·
      exact (hv.out 9 (mem_of (by kernel_rfl))).symm.trans hj
    case hE =>
     intro i hi iv vs wx hj
     simp only [List.mem_cons, List.not_mem_nil, or_false] at hi
     rcases hi with rfl | rfl | rfl | rfl | rfl | rfl | rfl | rfl | rfl | rfl
     ·
      exact hj
     ·
      exact hj
     ·
      exact hj
     ·
      exact hj
     ·
      exact hj
     ·
      exact hj
     ·
      exact hj
     ·
      exact hj
     ·
      exact hj
     ·
      exact hj
    case hEE =>
     intro i hi iv iv' vs vs' ha hv hj
     simp only [List.mem_cons, List.not_mem_nil, or_false] at hi
     rcases hi with rfl | rfl | rfl | rfl | rfl | rfl | rfl | rfl | rfl | rfl
     ·
      exact (hv.out 0 (mem_of (by kernel_rfl))).symm.trans hj
     ·
      exact (hv.out 1 (mem_of (by kernel_rfl))).symm.trans hj
     ·
      exact (hv.out 2 (mem_of (by kernel_rfl))).symm.trans hj
     ·
      exact (hv.out 3 (mem_of (by kernel_rfl))).symm.trans hj
     ·
      exact (hv.out 4 (mem_of (by kernel_rfl))).symm.trans hj
     ·
      exact (hv.out 5 (mem_of (by kernel_rfl))).symm.trans hj
     ·
      exact (hv.out 6 (mem_of (by kernel_rfl))).symm.trans hj
     ·
      exact (hv.out 7 (mem_of (by kernel_rfl))).symm.trans hj
     ·
      exact (hv.out 8 (mem_of (by kernel_rfl))).symm.trans hj
     ·
      exact (hv.out 9 (mem_of (by kernel_rfl))).symm.trans hj
    case hstep =>
     intro i hi opr ho iv vs w1 hB hS hSo hd he hbd hsep hun K hK
     simp only [List.mem_cons, List.not_mem_nil, or_false] at hi
     have hzB := hB.size
     have hBw1 : Below w.heap.size w w1 := HB.out.trans (hB.mono szB)
     have g0 := (hBw1.cell (p := ⟨b, o + k, none⟩) hbl).trans G0.out
     have k0 := (hBw1.cell (p := ⟨b', o' + k, none⟩) hbl').trans K0.out
     have gr1 := gr.below hBw1
     have kr1 := kr.below hBw1
     generalize hA : putFrom _ 0 vs _ = A at hK ⊢
     simp only [putFrom, puts] at hA
     rcases hi with rfl | rfl | rfl | rfl | rfl | rfl | rfl | rfl | rfl | rfl
     all_goals
      simp at ho
      subst ho
      subst hA
     ·
      go_wp2_with fail
      exact Onward.mk (hK (.slice (some ⟨b, o, none⟩) xs.length c) _ _ (fun h => by cases h) (by first | rfl | (simp only [puts])) (Spares.refl _) (fun iv' _ _ => rfl))
     ·
      go_wp2_with fail
      exact Onward.mk (hK (.int .i64 k) _ _ (fun h => by cases h) (by first | rfl | (simp only [puts])) (Spares.refl _) (fun iv' _ _ => rfl))
     ·
      have h0 : vs 0 = .slice (some ⟨b, o, none⟩) xs.length c := hd.out 0 (mem_of (by kernel_rfl)) (by decide) (by kernel_rfl)
      have h1 : vs 1 = .int .i64 k := hd.out 1 (mem_of (by kernel_rfl)) (by decide) (by kernel_rfl)
      go_wp2_with fail
      exact Onward.mk (hK (.pointer (some ⟨b, o + k, none⟩)) _ _ (fun h => by cases h) (by first | rfl | (simp only [puts, h0, h1])) (Spares.refl _) (fun iv' _ _ => rfl))
     ·
      have h2 : vs 2 = .pointer (some ⟨b, o + k, none⟩) := hd.out 2 (mem_of (by kernel_rfl)) (by decide) (by kernel_rfl)
      go_wp2_with fail
      exact Onward.mk (hK (.slice s1 x.length c1) _ _ (fun h => by cases h) (by first | rfl | (simp only [puts, h2])) (Spares.refl _) (fun iv' _ _ => rfl))
     ·
      go_wp2_with fail
      exact Onward.mk (hK (.slice (some ⟨b', o', none⟩) ys.length d) _ _ (fun h => by cases h) (by first | rfl | (simp only [puts])) (Spares.refl _) (fun iv' _ _ => rfl))
     ·
      go_wp2_with fail
      exact Onward.mk (hK (.int .i64 k) _ _ (fun h => by cases h) (by first | rfl | (simp only [puts])) (Spares.refl _) (fun iv' _ _ => rfl))
     ·
      have h4 : vs 4 = .slice (some ⟨b', o', none⟩) ys.length d := hd.out 4 (mem_of (by kernel_rfl)) (by decide) (by kernel_rfl)
      have h5 : vs 5 = .int .i64 k := hd.out 5 (mem_of (by kernel_rfl)) (by decide) (by kernel_rfl)
      go_wp2_with fail
      exact Onward.mk (hK (.pointer (some ⟨b', o' + k, none⟩)) _ _ (fun h => by cases h) (by first | rfl | (simp only [puts, h4, h5])) (Spares.refl _) (fun iv' _ _ => rfl))
     ·
      have h6 : vs 6 = .pointer (some ⟨b', o' + k, none⟩) := hd.out 6 (mem_of (by kernel_rfl)) (by decide) (by kernel_rfl)
      go_wp2_with fail
      exact Onward.mk (hK (.slice t1 y.length d1) _ _ (fun h => by cases h) (by first | rfl | (simp only [puts, h6])) (Spares.refl _) (fun iv' _ _ => rfl))
     ·
      have h3 : vs 3 = .slice s1 x.length c1 := hd.out 3 (mem_of (by kernel_rfl)) (by decide) (by kernel_rfl)
      have h7 : vs 7 = .slice t1 y.length d1 := hd.out 7 (mem_of (by kernel_rfl)) (by decide) (by kernel_rfl)
      go_wp2_with fail
      refine (eqInt64SS_any x y _ _ _ _ _ gr1 kr1).mono ?_
      rintro e w2 ⟨rfl, hb⟩
      go_wp2_with fail
      exact Onward.mk (hK (.bool (eqb x y)) _ _ (fun h => by cases h) (by first | rfl | (simp only [puts, h3, h7])) (Spares.of_below hb) (fun iv' _ _ => rfl))
     ·
      have h8 : vs 8 = .bool (eqb x y) := hd.out 8 (mem_of (by kernel_rfl)) (by decide) (by kernel_rfl)
      go_wp2_with fail
      exact Onward.mk (hK (.bool (!eqb x y)) _ _ (by simp) (by simp only [Act.put, List.setIfInBounds_toArray, List.set_cons_succ, List.set_cons_zero, h8]) (Spares.of_below (Below.refl _ _)) (fun iv' _ _ => rfl))
    case hQ =>
     intro iv vs wx hB hSp hd he hbd hsep
     have hzB := hB.size
     have h0 : vs 0 = .slice (some ⟨b, o, none⟩) xs.length c := hd.out 0 (mem_of (by kernel_rfl)) (not_eaten (by kernel_rfl))
     have h1 : vs 1 = .int .i64 k := hd.out 1 (mem_of (by kernel_rfl)) (not_eaten (by kernel_rfl))
     have h2 : vs 2 = .pointer (some ⟨b, o + k, none⟩) := hd.out 2 (mem_of (by kernel_rfl)) (not_eaten (by kernel_rfl))
     have h3 : vs 3 = .slice s1 x.length c1 := hd.out 3 (mem_of (by kernel_rfl)) (not_eaten (by kernel_rfl))
     have h4 : vs 4 = .slice (some ⟨b', o', none⟩) ys.length d := hd.out 4 (mem_of (by kernel_rfl)) (not_eaten (by kernel_rfl))
     have h5 : vs 5 = .int .i64 k := hd.out 5 (mem_of (by kernel_rfl)) (not_eaten (by kernel_rfl))
     have h6 : vs 6 = .pointer (some ⟨b', o' + k, none⟩) := hd.out 6 (mem_of (by kernel_rfl)) (not_eaten (by kernel_rfl))
     have h7 : vs 7 = .slice t1 y.length d1 := hd.out 7 (mem_of (by kernel_rfl)) (not_eaten (by kernel_rfl))
     have h8 : vs 8 = .bool (eqb x y) := hd.out 8 (mem_of (by kernel_rfl)) (not_eaten (by kernel_rfl))
     have h9 : vs 9 = .bool (!eqb x y) := hd.out 9 (mem_of (by kernel_rfl)) (not_eaten (by kernel_rfl))
     simp only [putFrom, puts]
     have hBx : Below w.heap.size w wx := HB.out.trans (hB.mono szB)
     simp only [h9]
     clear hd he hbd hsep h0 h1 h2 h3 h4 h5 h6 h7 h8 h9 hB
     by_cases hxy : x = y
     ·
      subst hxy
      have b2 : eqb x x = true := eqb_true rfl
      have Hst : Hid (xs.take (k + 1) = ys.take (k + 1)) := take_same Hx.out Hy.out Hpre.out
      rw [b2]
      clear b2
      go_wp2_with fail
      go_roundw
      case rel => exact ⟨k + 1, by omega, by go_num, Hst.out, hBx⟩
      case measure => simp [intOf]; omega
     ·
      have b2 : eqb x y = false := eqb_false hxy
      have c2 : eqb xs ys = false := eqb_false (by
       intro h
       have := Hx.out
       rw [h] at this
       exact hxy (Option.some.inj (this.symm.trans Hy.out)))
      have C2 := Lib.hid c2
      rw [b2]
      clear b2 c2 hxy
      go_wp2_with fail
      go_ret
      exact ⟨ret_bool (by rw [C2.out]), hBx⟩
   ·
    obtain rfl : k = xs.length := by omega
    have c2 : eqb xs ys = true := eqb_true (by
     have := Hpre.out
     rwa [List.take_length, Hl.out, List.take_length] at this)
    have C2 := Lib.hid c2
    clear c2
    go_wp2_with fail
    go_ret
    exact ⟨ret_bool (by rw [C2.out]), hB⟩
 ·
  have b1 : ((xs.length : Int) != (ys.length : Int)) = true := by simp; omega
  have c2 : eqb xs ys = false := eqb_false (by intro h; rw [h] at hl; exact hl rfl)
  rw [c2]
  clear c2 hl
  go_enter Tryd.func22, Tryd.ntmps22
  go_wp2_with fail
  go_ret
  exact ⟨rfl, Below.refl _ _⟩
end Go.Proofs.YtfhlddbngjlhbaaDoor
