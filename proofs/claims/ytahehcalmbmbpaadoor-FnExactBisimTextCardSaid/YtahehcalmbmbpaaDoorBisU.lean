/-
  Texts of lists of pairs: BisimText of both.
-/
import Derived.Test.YtahehcalmbmbpaaDoorBisT
namespace Go.Proofs.YtahehcalmbmbpaaDoor
open Go.ChangeShapes Go.WideShapes Go.ChangeAt Go.RowKit Go.Sort

def lineT (p : Ex × Ex) : List UInt8 := p.1.text ++ [32, 61, 32] ++ p.2.text ++ [10]
def bisT (ps : List (Ex × Ex)) : Nat → List UInt8
  | 0 => []
  | k + 1 => bisT ps k ++ lineT (ps.getD k (.mk 0 0 [], .mk 0 0 []))
theorem bisT_succ {ps : List (Ex × Ex)} {k : Nat} {p : Ex × Ex} (h : ps[k]? = some p) : bisT ps (k + 1) = bisT ps k ++ lineT p := by
  have e1 : ps.getD k (.mk 0 0 [], .mk 0 0 []) = p := by rw [List.getD_eq_getElem?_getD, h]; rfl
  show _ ++ lineT (ps.getD k _) = _
  rw [e1]
theorem sig_bd {t a tm am : Int} (hs : sigB t a = true) (q1 : IntKind.i64.wrap (t - 1) = tm) (q2 : IntKind.i64.wrap (a - 1) = am) : tm ≤ 8 ∧ am ≤ 8 := by
  have h := sigB_bd hs
  rw [wrap_of (by omega) (by omega)] at q1 q2
  omega
theorem formB_text {tm am : Int} {e : Ex} (h : formB tm am e = true) (ht : tm ≤ 8) (ha : am ≤ 8) : e.tree tm am = true ∧ e.text.length ≤ 5 + 5 * Ex.sizeL e.kids ∧ e.size ≤ 800 := by
  unfold formB at h
  simp only [Bool.and_eq_true, decide_eq_true_eq] at h
  have h1 := text_bound tm am ht ha _ e (Nat.le_refl _) h.2
  have h2 := Ex.size_eq e
  exact ⟨h.2, by omega, h.1⟩
/-- BisimText's answer. -/
def btx (t a tm am : Int) (ps : List (Ex × Ex)) : List UInt8 := if (pairsB tm am ps && sigB t a) = true then bisT ps ps.length else []

/-- What a line is made of, step for step. -/
theorem line_cat {p : Ex × Ex} (h1 : p.1.text.length ≤ 100000000) (h2 : p.2.text.length ≤ 100000000) :
    ∃ z1 z2 z3, (∀ w, (Op.stringOp .add (bs p.1.text) { data := #[32, 61, 32] }).run Tryd.prog w = .ok (.string (bs z1)) w) ∧ (∀ w, (Op.stringOp .add (bs z1) (bs p.2.text)).run Tryd.prog w = .ok (.string (bs z2)) w) ∧
      (∀ w, (Op.stringOp .add (bs z2) { data := #[10] }).run Tryd.prog w = .ok (.string (bs z3)) w) ∧ Hid (z3 = lineT p) ∧ z3.length = p.1.text.length + p.2.text.length + 4 := by
  obtain ⟨z1, Hz1, A1⟩ := cat_r (P := Tryd.prog) (s := { data := #[32, 61, 32] }) p.1.text [32, 61, 32] rfl (by simp; omega)
  have l1 : z1.length = p.1.text.length + 3 := by rw [Hz1.out]; simp
  obtain ⟨z2, Hz2, A2⟩ := cat_2 (P := Tryd.prog) z1 p.2.text (by omega)
  have l2 : z2.length = p.1.text.length + 3 + p.2.text.length := by rw [Hz2.out]; simp [l1]
  obtain ⟨z3, Hz3, A3⟩ := cat_r (P := Tryd.prog) (s := { data := #[10] }) z2 [10] rfl (by simp; omega)
  have l3 : z3.length = p.1.text.length + 3 + p.2.text.length + 1 := by rw [Hz3.out]; simp [l2]
  exact ⟨z1, z2, z3, A1, A2, A3, by show _ = _; rw [Hz3.out, Hz2.out, Hz1.out]; rfl, by omega⟩

set_option maxRecDepth 100000 in
set_option maxHeartbeats 8000000 in
theorem specBisimText_i {t a tm am : Int} {ps : List (Ex × Ex)} {s : Option Addr} {c : Nat} {w : World} (q1 : IntKind.i64.wrap (t - 1) = tm) (q2 : IntKind.i64.wrap (a - 1) = am) (hr : Rd w (prD ps) (.slice s ps.length c)) (h1 : cntP ps ≤ 1048576) :
    Calls Tryd.prog 24 #[.agg #[.int .i64 t, .int .i64 a], .slice s ps.length c] w fun e w' => e = .returned (.string (bs (btx t a tm am ps))) ∧ Below w.heap.size w w' := by
  obtain ⟨-, hlen, hcap⟩ := pr_bd hr
  unfold maxLen at hcap
  have hcl := cntP_len ps
  have Hq1 := Lib.hid q1
  have Hq2 := Lib.hid q2
  clear q1 q2
  go_enter Tryd.func24, Tryd.ntmps24
  go_wp2_with fail
  refine (l03Listed_i Hq1.out Hq2.out (hr.alloc _)).mono ?_
  rintro e w1 ⟨rfl, hb⟩
  have hB0 : Below w.heap.size w w1 := Below.on (by (repeat' (first | exact Below.refl _ _ | assumption | (refine Below.alloc ?_ (by first | omega | (simp; done) | (simp; omega)) _) | (refine Below.drew ?_) | (refine Below.setCell ?_ (by first | omega | (simp; done) | (simp; omega)) _)))) hb (by simp)
  clear hb
  by_cases hok : (pairsB tm am ps && sigB t a) = true
  case neg =>
    have hok' : (pairsB tm am ps && sigB t a) = false := by simpa using hok
    have Hok := Lib.hid hok'
    rw [hok']
    clear hok hok'
    go_wp2_with fail
    go_ret
    exact ⟨by simp only [btx, Hok.out]; rfl, hB0⟩
  have Hbt : Hid (btx t a tm am ps = bisT ps ps.length) := by show _ = _; simp only [btx, hok]; rfl
  rw [hok]
  simp only [Bool.and_eq_true] at hok
  obtain ⟨htm, ham⟩ := sig_bd hok.2 Hq1.out Hq2.out
  have Hall : Hid (∀ p ∈ ps, pairB tm am p = true) := List.all_eq_true.1 hok.1
  clear hok
  go_wp2_with fail
  go_loopw [5, 6] (fun q i wr => ∃ (k : Nat) (z : List UInt8), k ≤ ps.length ∧ i = .int .i64 k ∧ q = .string (bs z) ∧ Hid (z = bisT ps k) ∧ z.length ≤ 14 * cntP (ps.take k) ∧ Below w.heap.size w wr) (fun _ i _ => ps.length - (intOf i).toNat)
  case atStart => exact ⟨0, [], by omega, rfl, rfl, rfl, by simp, hB0⟩
  case round =>
    clear hB0
    obtain ⟨k, z, hk, rfl, rfl, HZ, hzl, hB'⟩ := hrel
    by_cases hlt : k < ps.length
    rotate_left
    · obtain rfl : k = ps.length := by omega
      go_wp2_with fail
      go_ret
      exact ⟨by rw [Hbt.out, ← HZ.out]; rfl, hB'⟩
    obtain ⟨p, hp⟩ : ∃ e, ps[k]? = some e := ⟨_, List.getElem?_eq_getElem hlt⟩
    obtain ⟨b, o, rfl⟩ := pr_some hr (by omega)
    obtain ⟨X1p, X2p⟩ := pr_ex (hr.below hB') hp
    have hpb := Hall.out p (List.mem_of_getElem? hp)
    unfold pairB at hpb
    simp only [Bool.and_eq_true] at hpb
    obtain ⟨k1, k2, k3⟩ := formB_text hpb.1 htm ham
    obtain ⟨m1, m2, m3⟩ := formB_text hpb.2 htm ham
    have hcs := cntP_take_succ hp
    have hcm : cntP (ps.take (k + 1)) ≤ cntP ps := by
      have : cntP ps = cntP (ps.take (k + 1)) + cntP (ps.drop (k + 1)) := by rw [← cntP_append, List.take_append_drop]
      omega
    have Hsucc := Lib.hid (bisT_succ hp)
    obtain ⟨z1, z2, z3, A1, A2, A3, HL, hl3⟩ := line_cat (p := p) (by omega) (by omega)
    obtain ⟨z4, HZ4, A4⟩ := cat_2 (P := Tryd.prog) z z3 (by omega)
    have hzl4 : z4.length ≤ 14 * cntP (ps.take (k + 1)) := by rw [HZ4.out, List.length_append, hcs]; omega
    have HN : Hid (z4 = bisT ps (k + 1)) := by show _ = _; rw [HZ4.out, Hsucc.out, HZ.out, HL.out]
    clear hp hpb hcs HZ4 HZ HL hl3 Hsucc
    have ha := Int.natCast_nonneg k
    have hb0 : (k : Int) < (ps.length : Int) := by omega
    go_wp2_with fail
    obtain ⟨x1, hx1⟩ := mkval ?a1_1
    obtain ⟨x2, hx2⟩ := mkval ?a1_2
    obtain ⟨x3, hx3⟩ := mkval ?a1_3
    obtain ⟨x4, hx4⟩ := mkval ?a1_4
    obtain ⟨x7, hx7⟩ := mkval ?a1_7
    obtain ⟨x8, hx8⟩ := mkval ?a1_8
    obtain ⟨x9, hx9⟩ := mkval ?a1_9
    obtain ⟨x10, hx10⟩ := mkval ?a1_10
    refine region_rs [] [] (fun _ _ => False) (wr.heap.size) (fun i iv vs wx => match i with
      | 0 => vs 0 = .string (bs z)
      | 1 => vs 1 = x1
      | 2 => vs 2 = x2
      | 3 => vs 3 = x3
      | 4 => vs 4 = x4
      | 5 => vs 5 = .string (bs p.1.text)
      | 6 => vs 6 = .string (bs z1)
      | 7 => vs 7 = x7
      | 8 => vs 8 = x8
      | 9 => vs 9 = x9
      | 10 => vs 10 = x10
      | 11 => vs 11 = .string (bs p.2.text)
      | 12 => vs 12 = .string (bs z2)
      | 13 => vs 13 = .string (bs z3)
      | 14 => vs 14 = .string (bs z4)
      | 15 => vs 15 = .string (bs z4)
      | _ => True) (fun i iv vs => match i with
      | 0 => vs 0 = .string (bs z)
      | 1 => vs 1 = x1
      | 2 => vs 2 = x2
      | 3 => vs 3 = x3
      | 4 => vs 4 = x4
      | 5 => vs 5 = .string (bs p.1.text)
      | 6 => vs 6 = .string (bs z1)
      | 7 => vs 7 = x7
      | 8 => vs 8 = x8
      | 9 => vs 9 = x9
      | 10 => vs 10 = x10
      | 11 => vs 11 = .string (bs p.2.text)
      | 12 => vs 12 = .string (bs z2)
      | 13 => vs 13 = .string (bs z3)
      | 14 => vs 14 = .string (bs z4)
      | 15 => vs 15 = .string (bs z4)
      | _ => True) (by kernel_rfl) (by kernel_rfl) [0, 1, 2, 3, 4, 5, 6, 7, 8, 9, 10, 11, 12, 13, 14, 15] (by kernel_rfl) ?hbase ?hGb ?hG ?hJ ?hE ?hEE ?hstep ?hQ
    case hbase => first | exact Nat.le_refl _ | omega | (simp; omega)
    case hGb =>
      exact fun _ _ h => h.elim
    case hG =>
      exact fun _ _ _ h => h.elim
    case hJ =>
      intro i hi iv iv' vs vs' wx wx' ha hv hz hk hj
      simp only [List.mem_cons, List.not_mem_nil, or_false] at hi
      rcases hi with rfl | rfl | rfl | rfl | rfl | rfl | rfl | rfl | rfl | rfl | rfl | rfl | rfl | rfl | rfl | rfl
      · have e0 := hv.out 0 (mem_of (by kernel_rfl))
        have hj' : vs 0 = .string (bs z) := hj
        show vs' 0 = .string (bs z)
        rw [← e0]
        exact hj'
      · have e1 := hv.out 1 (mem_of (by kernel_rfl))
        have hj' : vs 1 = x1 := hj
        show vs' 1 = x1
        rw [← e1]
        exact hj'
      · have e2 := hv.out 2 (mem_of (by kernel_rfl))
        have hj' : vs 2 = x2 := hj
        show vs' 2 = x2
        rw [← e2]
        exact hj'
      · have e3 := hv.out 3 (mem_of (by kernel_rfl))
        have hj' : vs 3 = x3 := hj
        show vs' 3 = x3
        rw [← e3]
        exact hj'
      · have e4 := hv.out 4 (mem_of (by kernel_rfl))
        have hj' : vs 4 = x4 := hj
        show vs' 4 = x4
        rw [← e4]
        exact hj'
      · have e5 := hv.out 5 (mem_of (by kernel_rfl))
        have hj' : vs 5 = .string (bs p.1.text) := hj
        show vs' 5 = .string (bs p.1.text)
        rw [← e5]
        exact hj'
      · have e6 := hv.out 6 (mem_of (by kernel_rfl))
        have hj' : vs 6 = .string (bs z1) := hj
        show vs' 6 = .string (bs z1)
        rw [← e6]
        exact hj'
      · have e7 := hv.out 7 (mem_of (by kernel_rfl))
        have hj' : vs 7 = x7 := hj
        show vs' 7 = x7
        rw [← e7]
        exact hj'
      · have e8 := hv.out 8 (mem_of (by kernel_rfl))
        have hj' : vs 8 = x8 := hj
        show vs' 8 = x8
        rw [← e8]
        exact hj'
      · have e9 := hv.out 9 (mem_of (by kernel_rfl))
        have hj' : vs 9 = x9 := hj
        show vs' 9 = x9
        rw [← e9]
        exact hj'
      · have e10 := hv.out 10 (mem_of (by kernel_rfl))
        have hj' : vs 10 = x10 := hj
        show vs' 10 = x10
        rw [← e10]
        exact hj'
      · have e11 := hv.out 11 (mem_of (by kernel_rfl))
        have hj' : vs 11 = .string (bs p.2.text) := hj
        show vs' 11 = .string (bs p.2.text)
        rw [← e11]
        exact hj'
      · have e12 := hv.out 12 (mem_of (by kernel_rfl))
        have hj' : vs 12 = .string (bs z2) := hj
        show vs' 12 = .string (bs z2)
        rw [← e12]
        exact hj'
      · have e13 := hv.out 13 (mem_of (by kernel_rfl))
        have hj' : vs 13 = .string (bs z3) := hj
        show vs' 13 = .string (bs z3)
        rw [← e13]
        exact hj'
      · have e14 := hv.out 14 (mem_of (by kernel_rfl))
        have hj' : vs 14 = .string (bs z4) := hj
        show vs' 14 = .string (bs z4)
        rw [← e14]
        exact hj'
      · have e15 := hv.out 15 (mem_of (by kernel_rfl))
        have hj' : vs 15 = .string (bs z4) := hj
        show vs' 15 = .string (bs z4)
        rw [← e15]
        exact hj'
    case hE =>
      intro i hi iv vs wx hj
      simp only [List.mem_cons, List.not_mem_nil, or_false] at hi
      rcases hi with rfl | rfl | rfl | rfl | rfl | rfl | rfl | rfl | rfl | rfl | rfl | rfl | rfl | rfl | rfl | rfl
      · exact hj
      · exact hj
      · exact hj
      · exact hj
      · exact hj
      · exact hj
      · exact hj
      · exact hj
      · exact hj
      · exact hj
      · exact hj
      · exact hj
      · exact hj
      · exact hj
      · exact hj
      · exact hj
    case hEE =>
      intro i hi iv iv' vs vs' ha hv hj
      simp only [List.mem_cons, List.not_mem_nil, or_false] at hi
      rcases hi with rfl | rfl | rfl | rfl | rfl | rfl | rfl | rfl | rfl | rfl | rfl | rfl | rfl | rfl | rfl | rfl
      · have e0 := hv.out 0 (mem_of (by kernel_rfl))
        have hj' : vs 0 = .string (bs z) := hj
        show vs' 0 = .string (bs z)
        rw [← e0]
        exact hj'
      · have e1 := hv.out 1 (mem_of (by kernel_rfl))
        have hj' : vs 1 = x1 := hj
        show vs' 1 = x1
        rw [← e1]
        exact hj'
      · have e2 := hv.out 2 (mem_of (by kernel_rfl))
        have hj' : vs 2 = x2 := hj
        show vs' 2 = x2
        rw [← e2]
        exact hj'
      · have e3 := hv.out 3 (mem_of (by kernel_rfl))
        have hj' : vs 3 = x3 := hj
        show vs' 3 = x3
        rw [← e3]
        exact hj'
      · have e4 := hv.out 4 (mem_of (by kernel_rfl))
        have hj' : vs 4 = x4 := hj
        show vs' 4 = x4
        rw [← e4]
        exact hj'
      · have e5 := hv.out 5 (mem_of (by kernel_rfl))
        have hj' : vs 5 = .string (bs p.1.text) := hj
        show vs' 5 = .string (bs p.1.text)
        rw [← e5]
        exact hj'
      · have e6 := hv.out 6 (mem_of (by kernel_rfl))
        have hj' : vs 6 = .string (bs z1) := hj
        show vs' 6 = .string (bs z1)
        rw [← e6]
        exact hj'
      · have e7 := hv.out 7 (mem_of (by kernel_rfl))
        have hj' : vs 7 = x7 := hj
        show vs' 7 = x7
        rw [← e7]
        exact hj'
      · have e8 := hv.out 8 (mem_of (by kernel_rfl))
        have hj' : vs 8 = x8 := hj
        show vs' 8 = x8
        rw [← e8]
        exact hj'
      · have e9 := hv.out 9 (mem_of (by kernel_rfl))
        have hj' : vs 9 = x9 := hj
        show vs' 9 = x9
        rw [← e9]
        exact hj'
      · have e10 := hv.out 10 (mem_of (by kernel_rfl))
        have hj' : vs 10 = x10 := hj
        show vs' 10 = x10
        rw [← e10]
        exact hj'
      · have e11 := hv.out 11 (mem_of (by kernel_rfl))
        have hj' : vs 11 = .string (bs p.2.text) := hj
        show vs' 11 = .string (bs p.2.text)
        rw [← e11]
        exact hj'
      · have e12 := hv.out 12 (mem_of (by kernel_rfl))
        have hj' : vs 12 = .string (bs z2) := hj
        show vs' 12 = .string (bs z2)
        rw [← e12]
        exact hj'
      · have e13 := hv.out 13 (mem_of (by kernel_rfl))
        have hj' : vs 13 = .string (bs z3) := hj
        show vs' 13 = .string (bs z3)
        rw [← e13]
        exact hj'
      · have e14 := hv.out 14 (mem_of (by kernel_rfl))
        have hj' : vs 14 = .string (bs z4) := hj
        show vs' 14 = .string (bs z4)
        rw [← e14]
        exact hj'
      · have e15 := hv.out 15 (mem_of (by kernel_rfl))
        have hj' : vs 15 = .string (bs z4) := hj
        show vs' 15 = .string (bs z4)
        rw [← e15]
        exact hj'
    case hstep =>
      intro i hi opr ho iv vs w1 hB hS hd he hbd hsep hun K hK
      simp only [List.mem_cons, List.not_mem_nil, or_false] at hi
      have hzB := hB.size
      skip
      generalize hA : putFrom _ 0 vs _ = A at hK ⊢
      simp only [putFrom, Act.put, List.setIfInBounds_toArray, List.set_cons_succ, List.set_cons_zero] at hA
      rcases hi with rfl | rfl | rfl | rfl | rfl | rfl | rfl | rfl | rfl | rfl | rfl | rfl | rfl | rfl | rfl | rfl
      all_goals
        simp at ho
        subst ho
        subst hA
      · have un15 : vs 15 = .string (bs z) := hun.out 15 (mem_of (by kernel_rfl))
        go_wp2_with fail
        exact Onward.mk (hK (.string (bs z)) _ _ (fun h => by cases h) (by first | rfl | (simp only [Act.put, List.setIfInBounds_toArray, List.set_cons_succ, List.set_cons_zero, un15])) (Spares.of_below (Below.refl _ _)) (fun iv' _ _ => rfl))
      · go_wp2_with fail
        refine Onward.mk (hK ?val1_1 _ _ (fun h => by cases h) ?eqA (Spares.of_below (Below.refl _ _)) (fun iv' _ _ => ?ja))
        case eqA => first | rfl | (simp only [Act.put, List.setIfInBounds_toArray, List.set_cons_succ, List.set_cons_zero]; rfl)
        case ja => exact hx1.out.symm
      · go_wp2_with fail
        refine Onward.mk (hK ?val1_2 _ _ (fun h => by cases h) ?eqA (Spares.of_below (Below.refl _ _)) (fun iv' _ _ => ?ja))
        case eqA => first | rfl | (simp only [Act.put, List.setIfInBounds_toArray, List.set_cons_succ, List.set_cons_zero]; rfl)
        case ja => exact hx2.out.symm
      · have h1 := Eq.trans (show vs 1 = x1 from hd.out 1 (mem_of (by kernel_rfl)) (by decide) (by kernel_rfl)) hx1.out
        have h2 := Eq.trans (show vs 2 = x2 from hd.out 2 (mem_of (by kernel_rfl)) (by decide) (by kernel_rfl)) hx2.out
        go_wp2_with fail
        refine Onward.mk (hK ?val1_3 _ _ (fun h => by cases h) ?eqA (Spares.of_below (Below.refl _ _)) (fun iv' _ _ => ?ja))
        case eqA => first | rfl | (simp only [Act.put, List.setIfInBounds_toArray, List.set_cons_succ, List.set_cons_zero, h1, h2]; rfl)
        case ja => exact hx3.out.symm
      · have h3 := Eq.trans (show vs 3 = x3 from hd.out 3 (mem_of (by kernel_rfl)) (by decide) (by kernel_rfl)) hx3.out
        go_wp2_with fail
        refine Onward.mk (hK ?val1_4 _ _ (fun h => by cases h) ?eqA (Spares.of_below (Below.refl _ _)) (fun iv' _ _ => ?ja))
        case eqA => first | rfl | (simp only [Act.put, List.setIfInBounds_toArray, List.set_cons_succ, List.set_cons_zero, h3]; rfl)
        case ja => exact hx4.out.symm
      · have h4 := Eq.trans (show vs 4 = x4 from hd.out 4 (mem_of (by kernel_rfl)) (by decide) (by kernel_rfl)) hx4.out
        go_wp2_with fail
        refine (l01Text_all tm am htm ham _ p.1 _ _ _ (Nat.le_refl _) (X1p.below hB) k1 (by omega)).mono ?_
        rintro e w2 ⟨rfl, hb⟩
        go_wp2_with fail
        exact Onward.mk (hK (.string (bs p.1.text)) _ _ (fun h => by cases h) (by first | rfl | (simp only [Act.put, List.setIfInBounds_toArray, List.set_cons_succ, List.set_cons_zero, h4])) (Spares.of_below hb) (fun iv' _ _ => rfl))
      · have h5 : vs 5 = .string (bs p.1.text) := hd.out 5 (mem_of (by kernel_rfl)) (by decide) (by kernel_rfl)
        go_wp2_with fail
        exact Onward.mk (hK (.string (bs z1)) _ _ (fun h => by cases h) (by first | rfl | (simp only [Act.put, List.setIfInBounds_toArray, List.set_cons_succ, List.set_cons_zero, h5])) (Spares.of_below (Below.refl _ _)) (fun iv' _ _ => rfl))
      · go_wp2_with fail
        refine Onward.mk (hK ?val1_7 _ _ (fun h => by cases h) ?eqA (Spares.of_below (Below.refl _ _)) (fun iv' _ _ => ?ja))
        case eqA => first | rfl | (simp only [Act.put, List.setIfInBounds_toArray, List.set_cons_succ, List.set_cons_zero]; rfl)
        case ja => exact hx7.out.symm
      · go_wp2_with fail
        refine Onward.mk (hK ?val1_8 _ _ (fun h => by cases h) ?eqA (Spares.of_below (Below.refl _ _)) (fun iv' _ _ => ?ja))
        case eqA => first | rfl | (simp only [Act.put, List.setIfInBounds_toArray, List.set_cons_succ, List.set_cons_zero]; rfl)
        case ja => exact hx8.out.symm
      · have h7 := Eq.trans (show vs 7 = x7 from hd.out 7 (mem_of (by kernel_rfl)) (by decide) (by kernel_rfl)) hx7.out
        have h8 := Eq.trans (show vs 8 = x8 from hd.out 8 (mem_of (by kernel_rfl)) (by decide) (by kernel_rfl)) hx8.out
        go_wp2_with fail
        refine Onward.mk (hK ?val1_9 _ _ (fun h => by cases h) ?eqA (Spares.of_below (Below.refl _ _)) (fun iv' _ _ => ?ja))
        case eqA => first | rfl | (simp only [Act.put, List.setIfInBounds_toArray, List.set_cons_succ, List.set_cons_zero, h7, h8]; rfl)
        case ja => exact hx9.out.symm
      · have h9 := Eq.trans (show vs 9 = x9 from hd.out 9 (mem_of (by kernel_rfl)) (by decide) (by kernel_rfl)) hx9.out
        go_wp2_with fail
        refine Onward.mk (hK ?val1_10 _ _ (fun h => by cases h) ?eqA (Spares.of_below (Below.refl _ _)) (fun iv' _ _ => ?ja))
        case eqA => first | rfl | (simp only [Act.put, List.setIfInBounds_toArray, List.set_cons_succ, List.set_cons_zero, h9]; rfl)
        case ja => exact hx10.out.symm
      · have h10 := Eq.trans (show vs 10 = x10 from hd.out 10 (mem_of (by kernel_rfl)) (by decide) (by kernel_rfl)) hx10.out
        go_wp2_with fail
        refine (l01Text_all tm am htm ham _ p.2 _ _ _ (Nat.le_refl _) (X2p.below hB) m1 (by omega)).mono ?_
        rintro e w2 ⟨rfl, hb⟩
        go_wp2_with fail
        exact Onward.mk (hK (.string (bs p.2.text)) _ _ (fun h => by cases h) (by first | rfl | (simp only [Act.put, List.setIfInBounds_toArray, List.set_cons_succ, List.set_cons_zero, h10])) (Spares.of_below hb) (fun iv' _ _ => rfl))
      · have h6 : vs 6 = .string (bs z1) := hd.out 6 (mem_of (by kernel_rfl)) (by decide) (by kernel_rfl)
        have h11 : vs 11 = .string (bs p.2.text) := hd.out 11 (mem_of (by kernel_rfl)) (by decide) (by kernel_rfl)
        go_wp2_with fail
        exact Onward.mk (hK (.string (bs z2)) _ _ (fun h => by cases h) (by first | rfl | (simp only [Act.put, List.setIfInBounds_toArray, List.set_cons_succ, List.set_cons_zero, h6, h11])) (Spares.of_below (Below.refl _ _)) (fun iv' _ _ => rfl))
      · have h12 : vs 12 = .string (bs z2) := hd.out 12 (mem_of (by kernel_rfl)) (by decide) (by kernel_rfl)
        go_wp2_with fail
        exact Onward.mk (hK (.string (bs z3)) _ _ (fun h => by cases h) (by first | rfl | (simp only [Act.put, List.setIfInBounds_toArray, List.set_cons_succ, List.set_cons_zero, h12])) (Spares.of_below (Below.refl _ _)) (fun iv' _ _ => rfl))
      · have h0 : vs 0 = .string (bs z) := hd.out 0 (mem_of (by kernel_rfl)) (by decide) (by kernel_rfl)
        have h13 : vs 13 = .string (bs z3) := hd.out 13 (mem_of (by kernel_rfl)) (by decide) (by kernel_rfl)
        go_wp2_with fail
        exact Onward.mk (hK (.string (bs z4)) _ _ (fun h => by cases h) (by first | rfl | (simp only [Act.put, List.setIfInBounds_toArray, List.set_cons_succ, List.set_cons_zero, h0, h13])) (Spares.of_below (Below.refl _ _)) (fun iv' _ _ => rfl))
      · have h14 : vs 14 = .string (bs z4) := hd.out 14 (mem_of (by kernel_rfl)) (by decide) (by kernel_rfl)
        go_wp2_with fail
        exact Onward.mk (hK (.string (bs z4)) _ _ (fun h => by cases h) (by first | rfl | (simp only [Act.put, List.setIfInBounds_toArray, List.set_cons_succ, List.set_cons_zero, h14])) (Spares.of_below (Below.refl _ _)) (fun iv' _ _ => rfl))
    case hQ =>
      intro iv vs wx hB hSp hd he hbd hsep
      have hzB := hB.size
      have h0 : vs 0 = .string (bs z) := hd.out 0 (mem_of (by kernel_rfl)) (not_eaten (by kernel_rfl))
      have h1 := Eq.trans (show vs 1 = x1 from hd.out 1 (mem_of (by kernel_rfl)) (not_eaten (by kernel_rfl))) hx1.out
      have h2 := Eq.trans (show vs 2 = x2 from hd.out 2 (mem_of (by kernel_rfl)) (not_eaten (by kernel_rfl))) hx2.out
      have h3 := Eq.trans (show vs 3 = x3 from hd.out 3 (mem_of (by kernel_rfl)) (not_eaten (by kernel_rfl))) hx3.out
      have h4 := Eq.trans (show vs 4 = x4 from hd.out 4 (mem_of (by kernel_rfl)) (not_eaten (by kernel_rfl))) hx4.out
      have h5 : vs 5 = .string (bs p.1.text) := hd.out 5 (mem_of (by kernel_rfl)) (not_eaten (by kernel_rfl))
      have h6 : vs 6 = .string (bs z1) := hd.out 6 (mem_of (by kernel_rfl)) (not_eaten (by kernel_rfl))
      have h7 := Eq.trans (show vs 7 = x7 from hd.out 7 (mem_of (by kernel_rfl)) (not_eaten (by kernel_rfl))) hx7.out
      have h8 := Eq.trans (show vs 8 = x8 from hd.out 8 (mem_of (by kernel_rfl)) (not_eaten (by kernel_rfl))) hx8.out
      have h9 := Eq.trans (show vs 9 = x9 from hd.out 9 (mem_of (by kernel_rfl)) (not_eaten (by kernel_rfl))) hx9.out
      have h10 := Eq.trans (show vs 10 = x10 from hd.out 10 (mem_of (by kernel_rfl)) (not_eaten (by kernel_rfl))) hx10.out
      have h11 : vs 11 = .string (bs p.2.text) := hd.out 11 (mem_of (by kernel_rfl)) (not_eaten (by kernel_rfl))
      have h12 : vs 12 = .string (bs z2) := hd.out 12 (mem_of (by kernel_rfl)) (not_eaten (by kernel_rfl))
      have h13 : vs 13 = .string (bs z3) := hd.out 13 (mem_of (by kernel_rfl)) (not_eaten (by kernel_rfl))
      have h14 : vs 14 = .string (bs z4) := hd.out 14 (mem_of (by kernel_rfl)) (not_eaten (by kernel_rfl))
      have h15 : vs 15 = .string (bs z4) := hd.out 15 (mem_of (by kernel_rfl)) (not_eaten (by kernel_rfl))
      simp only [putFrom, Act.put, List.setIfInBounds_toArray, List.set_cons_succ, List.set_cons_zero]
      have hBn := Lib.hid (Below.trans hB' (hB.mono hB'.size))
      clear hd he hbd hsep
      go_wp2_with fail
      go_roundw
      case rel => exact ⟨k + 1, z4, by omega, by go_num, h15, HN, hzl4, hBn.out⟩
      case measure => simp [intOf]; omega

theorem textOf_e {tm am : Int} {e : Ex} {s : Option Addr} {c : Nat} {w : World} (hr : Rd w (kidsD e.kids) (.slice s e.kids.length c)) (ht : tm ≤ 8) (ha : am ≤ 8) (htr : e.tree tm am = true) (hsz : Ex.sizeL e.kids ≤ 1000000) :
    Calls Tryd.prog 40 #[.agg #[.int .i64 e.kind, .int .i64 e.num, .slice s e.kids.length c]] w fun f w' => f = .returned (.string (bs e.text)) ∧ Below w.heap.size w w' := by
  have h := textOf_i (tm := tm) (am := am) (k := e.kind) (n := e.num) hr ht ha (by rw [← Ex.eta]; exact htr) hsz
  rw [← Ex.eta] at h
  exact h
set_option maxRecDepth 100000 in
set_option maxHeartbeats 8000000 in
theorem implBisimText_i {t a tm am : Int} {ps : List (Ex × Ex)} {s : Option Addr} {c : Nat} {w : World} (q1 : IntKind.i64.wrap (t - 1) = tm) (q2 : IntKind.i64.wrap (a - 1) = am) (hr : Rd w (prD ps) (.slice s ps.length c)) (h1 : cntP ps ≤ 1048576) :
    Calls Tryd.prog 26 #[.agg #[.int .i64 t, .int .i64 a], .slice s ps.length c] w fun e w' => e = .returned (.string (bs (btx t a tm am ps))) ∧ Below w.heap.size w w' := by
  obtain ⟨-, hlen, hcap⟩ := pr_bd hr
  unfold maxLen at hcap
  have hcl := cntP_len ps
  have Hq1 := Lib.hid q1
  have Hq2 := Lib.hid q2
  clear q1 q2
  go_enter Tryd.func26, Tryd.ntmps26
  go_wp2_with fail
  have L := Blk.new2 w 29 (.int .i64 t) (.int .i64 a)
  refine (implValidSig_any _ _ _).mono ?_
  rintro e w1 ⟨rfl, hb⟩
  have hB0 : Below w.heap.size w w1 := Below.on (by (repeat' (first | exact Below.refl _ _ | assumption | (refine Below.alloc ?_ (by first | omega | (simp; done) | (simp; omega)) _) | (refine Below.drew ?_) | (refine Below.setCell ?_ (by first | omega | (simp; done) | (simp; omega)) _)))) hb (by simp)
  replace L := L.below hb
  clear hb
  cases hs : sigB t a
  · have Hs := Lib.hid hs
    clear hs
    go_wp2_with fail
    go_ret
    exact ⟨by simp only [btx, Hs.out, Bool.and_false]; rfl, hB0⟩
  have Hs := Lib.hid hs
  obtain ⟨htm, ham⟩ := sig_bd hs Hq1.out Hq2.out
  clear hs
  go_wp2_with fail
  have BL := BldAt.made (w := w1) (B := w.heap.size + 1) (by have := L.lt; omega)
  have ltL := L.lt
  obtain ⟨B0, hB0e⟩ : ∃ B0, w1.heap.size = B0 := ⟨_, rfl⟩
  rw [hB0e] at BL
  have hbl : ∃ T, BldAt (w.heap.size + 1) T B0 [] (w1.alloc (.cells #[.pointer none, .slice none 0 0] 103)) := ⟨_, BL⟩
  replace L := L.alloc (.cells #[.pointer none, .slice none 0 0] 103)
  have hB1 : Below w.heap.size w (w1.alloc (.cells #[.pointer none, .slice none 0 0] 103)) := hB0.alloc hB0.size _
  clear BL hB0 ltL
  simp only [hB0e]
  generalize w1.alloc (.cells #[.pointer none, .slice none 0 0] 103) = w2 at hbl L hB1 ⊢
  go_loopw [14] (fun i wr => ∃ (k : Nat) (z : List UInt8), k ≤ ps.length ∧ i = .int .i64 k ∧ Hid (z = bisT ps k) ∧ z.length ≤ 14 * cntP (ps.take k) ∧ Hid (∀ (j : Nat) (p : Ex × Ex), j < k → ps[j]? = some p → pairB tm am p = true) ∧
      (∃ T, BldAt (w.heap.size + 1) T B0 z wr) ∧ Blk wr w.heap.size 29 [.int .i64 t, .int .i64 a] ∧ Below w.heap.size w wr) (fun i _ => ps.length - (intOf i).toNat)
  case atStart => exact ⟨0, [], by omega, rfl, rfl, by simp, fun j p hj => by omega, hbl, L, hB1⟩
  case round =>
    clear hbl L hB1
    obtain ⟨k, z, hk, rfl, HZ, hzl, Hpre, hbl, L, hB⟩ := hrel
    by_cases hlt : k < ps.length
    rotate_left
    · obtain rfl : k = ps.length := by omega
      have Hbt : Hid (btx t a tm am ps = bisT ps ps.length) := by
        have h2 := pairsB_all Hpre.out
        show _ = _
        simp only [btx, h2, Hs.out]
        rfl
      obtain ⟨T, hT⟩ := hbl
      have hBT : w.heap.size + 1 ≤ wr.heap.size := by have := hT.set.2 _ hT.set.1; omega
      go_wp2_with fail
      refine (String_i hT hBT).mono ?_
      rintro e w9 ⟨rfl, hb9⟩
      have hB9 := hB.trans (hb9.mono (by omega))
      clear hT
      go_wp2_with fail
      go_ret
      exact ⟨by rw [Hbt.out, HZ.out]; rfl, hB9⟩
    obtain ⟨p, hp⟩ : ∃ e, ps[k]? = some e := ⟨_, List.getElem?_eq_getElem hlt⟩
    obtain ⟨b, o, rfl⟩ := pr_some hr (by omega)
    obtain ⟨hbl0, s1, c1, t1, d1, i0, i1, i2, i3, i4, i5, r1, r2⟩ := pr_in hr hp
    have g0 := (hB.cell (p := ⟨b, o + k * 6, none⟩) hbl0).trans i0
    have g1 := (hB.cell (p := ⟨b, o + k * 6 + 1, none⟩) hbl0).trans i1
    have g2 := (hB.cell (p := ⟨b, o + k * 6 + 2, none⟩) hbl0).trans i2
    have g3 := (hB.cell (p := ⟨b, o + k * 6 + 3, none⟩) hbl0).trans i3
    have g4 := (hB.cell (p := ⟨b, o + k * 6 + 4, none⟩) hbl0).trans i4
    have g5 := (hB.cell (p := ⟨b, o + k * 6 + 5, none⟩) hbl0).trans i5
    clear i0 i1 i2 i3 i4 i5
    have ha := Int.natCast_nonneg k
    have hb0 : (k : Int) < (ps.length : Int) := by omega
    have l0 := L.c0
    have l1 := L.c1
    have ltL := L.lt
    have Hp := Lib.hid hp
    clear hp
    go_wp2_with fail
    clear l0 l1 g0 g1 g2 g3 g4 g5
    have P0 := Blk.new6 wr 97 (.int .i64 p.1.kind) (.int .i64 p.1.num) (.slice s1 p.1.kids.length c1) (.int .i64 p.2.kind) (.int .i64 p.2.num) (.slice t1 p.2.kids.length d1)
    have hBa : Below wr.heap.size wr (wr.alloc (.cells #[.int .i64 p.1.kind, .int .i64 p.1.num, .slice s1 p.1.kids.length c1, .int .i64 p.2.kind, .int .i64 p.2.num, .slice t1 p.2.kids.length d1] 97)) := Below.alloc (Below.refl _ _) (Nat.le_refl _) _
    have sza : (wr.alloc (.cells #[.int .i64 p.1.kind, .int .i64 p.1.num, .slice s1 p.1.kids.length c1, .int .i64 p.2.kind, .int .i64 p.2.num, .slice t1 p.2.kids.length d1] 97)).heap.size = wr.heap.size + 1 := by simp
    generalize wr.alloc (.cells #[.int .i64 p.1.kind, .int .i64 p.1.num, .slice s1 p.1.kids.length c1, .int .i64 p.2.kind, .int .i64 p.2.num, .slice t1 p.2.kids.length d1] 97) = w3 at P0 hBa sza ⊢
    obtain ⟨pb, hpb⟩ : ∃ pb, wr.heap.size = pb := ⟨_, rfl⟩
    obtain ⟨T, hT⟩ := hbl
    have BLf : ∀ b, T b → w.heap.size + 1 ≤ b ∧ b < pb := fun b hb => by have := hT.set.2 b hb; omega
    have hTb := hT.set.1
    have hBT := BLf _ hTb
    replace hT := hT.below hBa
    replace L := L.below hBa
    replace hB := hB.trans (hBa.mono (by omega))
    rw [hpb] at P0
    simp only [hpb]
    clear hBa
    have e1 : formB tm am (Ex.mk p.1.kind p.1.num p.1.kids) = formB tm am p.1 := by rw [← Ex.eta]
    have e2 : formB tm am (Ex.mk p.2.kind p.2.num p.2.kids) = formB tm am p.2 := by rw [← Ex.eta]
    refine (isShaped_i Hq1.out Hq2.out (r1.below hB)).mono ?_
    rintro e w4 ⟨rfl, hb⟩
    rw [e1]
    have sz4 := hb.size
    replace hT := hT.below hb
    replace L := L.below hb
    replace P0 := P0.below hb
    replace hB := hB.trans (hb.mono (by omega))
    clear hb e1
    cases h1 : formB tm am p.1
    · have C1 : Hid (pairsB tm am ps = false) := pairsB_false Hp.out (by simp [pairB, h1])
      go_wp2_with fail
      go_ret
      exact ⟨by simp only [btx, C1.out, Bool.false_and]; rfl, hB⟩
    have l0 := L.c0
    have l1 := L.c1
    have p3 := P0.c3
    have p4 := P0.c4
    have p5 := P0.c5
    go_wp2_with fail
    clear l0 l1 p3 p4 p5
    refine (isShaped_i Hq1.out Hq2.out (r2.below hB)).mono ?_
    rintro e w5 ⟨rfl, hb⟩
    rw [e2]
    have sz5 := hb.size
    replace hT := hT.below hb
    replace L := L.below hb
    replace P0 := P0.below hb
    replace hB := hB.trans (hb.mono (by omega))
    clear hb e2
    cases h2 : formB tm am p.2
    · have C1 : Hid (pairsB tm am ps = false) := pairsB_false Hp.out (by simp [pairB, h2])
      go_wp2_with fail
      go_ret
      exact ⟨by simp only [btx, C1.out, Bool.false_and]; rfl, hB⟩
    obtain ⟨k1, k2, k3⟩ := formB_text h1 htm ham
    obtain ⟨m1, m2, m3⟩ := formB_text h2 htm ham
    have hcs := cntP_take_succ Hp.out
    have hcm : cntP (ps.take (k + 1)) ≤ cntP ps := by
      have : cntP ps = cntP (ps.take (k + 1)) + cntP (ps.drop (k + 1)) := by rw [← cntP_append, List.take_append_drop]
      omega
    have Hsucc := Lib.hid (bisT_succ Hp.out)
    obtain ⟨z1, z2, z3, A1, A2, A3, HL, hl3⟩ := line_cat (p := p) (by omega) (by omega)
    obtain ⟨z4, HZ4⟩ : ∃ z4, Hid (z4 = z ++ z3) := ⟨_, Lib.hid rfl⟩
    have hzl4 : z4.length ≤ 14 * cntP (ps.take (k + 1)) := by rw [HZ4.out, List.length_append, hcs]; omega
    have hzl3 : z.length + z3.length ≤ 1000000000 := by rw [← List.length_append, ← HZ4.out]; omega
    have HN : Hid (z4 = bisT ps (k + 1)) := by show _ = _; rw [HZ4.out, Hsucc.out, HZ.out, HL.out]
    have Hpre2 : Hid (∀ (j : Nat) (p : Ex × Ex), j < k + 1 → ps[j]? = some p → pairB tm am p = true) := by
      show ∀ (j : Nat) (p : Ex × Ex), _
      intro j q hj hq
      by_cases hjk : j = k
      · subst hjk
        have := Hp.out
        rw [hq] at this
        cases this
        simp [pairB, h1, h2]
      · exact Hpre.out j q (by omega) hq
    have hB' := hB
    have BL := hT
    have Hk1 := Lib.hid k1
    have Hm1 := Lib.hid m1
    have hs1 : Ex.sizeL p.1.kids ≤ 1000000 := by have := Ex.size_eq p.1; omega
    have hs2 : Ex.sizeL p.2.kids ≤ 1000000 := by have := Ex.size_eq p.2; omega
    have lpb := P0.lt
    have lBT := hBT.2
    have lBT1 := hBT.1
    clear hcs HZ HL hl3 Hsucc Hpre h1 h2 k1 m1 k2 m2 hT hB hBT hTb sz4 sz5 sza hpb
    go_wp2_with fail
    obtain ⟨x0, hx0⟩ := mkval ?a2_0
    obtain ⟨x4, hx4⟩ := mkval ?a2_4
    have hGb : ∀ m b, (fun m b => (m = 0 ∧ T b) ∨ (m = 1 ∧ b = pb)) m b → (w.heap.size + 1) ≤ b ∧ b < (w5).heap.size := by
      intro m b hg
      rcases hg with ⟨rfl, hg⟩ | ⟨rfl, hg⟩
      · have q := BLf b hg
        omega
      · subst hg
        have q := P0.lt
        omega
    have hGd : ∀ m m' b, (fun m b => (m = 0 ∧ T b) ∨ (m = 1 ∧ b = pb)) m b → (fun m b => (m = 0 ∧ T b) ∨ (m = 1 ∧ b = pb)) m' b → m = m' := by
      intro m m' b h h'
      rcases h with ⟨rfl, h⟩ | ⟨rfl, h⟩ <;> rcases h' with ⟨rfl, h'⟩ | ⟨rfl, h'⟩ <;> first
        | rfl
        | (exfalso; have q := BLf b h; omega) | (exfalso; have q := BLf b h'; omega)
    refine region_rs [] [(9, 0)] (fun m b => (m = 0 ∧ T b) ∨ (m = 1 ∧ b = pb)) (w.heap.size + 1) (fun i iv vs wx => match i with
      | 0 => vs 0 = x0
      | 1 => vs 1 = .agg #[.int .i64 p.1.kind, .int .i64 p.1.num, .slice s1 p.1.kids.length c1]
      | 2 => vs 2 = .string (bs p.1.text)
      | 3 => vs 3 = .string (bs z1)
      | 4 => vs 4 = x4
      | 5 => vs 5 = .agg #[.int .i64 p.2.kind, .int .i64 p.2.num, .slice t1 p.2.kids.length d1]
      | 6 => vs 6 = .string (bs p.2.text)
      | 7 => vs 7 = .string (bs z2)
      | 8 => vs 8 = .string (bs z3)
      | 9 => ∃ Tw, BldAt (w.heap.size + 1) Tw (B0) (z ++ z3) wx ∧ ∀ x, Tw x → (foot [] [(9, 0)] (fun m b => (m = 0 ∧ T b) ∨ (m = 1 ∧ b = pb)) 10 9 iv) x
      | _ => True) (fun i iv vs => match i with
      | 0 => vs 0 = x0
      | 1 => vs 1 = .agg #[.int .i64 p.1.kind, .int .i64 p.1.num, .slice s1 p.1.kids.length c1]
      | 2 => vs 2 = .string (bs p.1.text)
      | 3 => vs 3 = .string (bs z1)
      | 4 => vs 4 = x4
      | 5 => vs 5 = .agg #[.int .i64 p.2.kind, .int .i64 p.2.num, .slice t1 p.2.kids.length d1]
      | 6 => vs 6 = .string (bs p.2.text)
      | 7 => vs 7 = .string (bs z2)
      | 8 => vs 8 = .string (bs z3)
      | 9 => True
      | _ => True) (by kernel_rfl) (by kernel_rfl) [0, 1, 2, 3, 4, 5, 6, 7, 8, 9] (by kernel_rfl) ?hbase ?hGb ?hG ?hJ ?hE ?hEE ?hstep ?hQ
    case hbase => first | exact Nat.le_refl _ | omega | (simp; omega)
    case hGb =>
      exact hGb
    case hG =>
      exact hGd
    case hJ =>
      intro i hi iv iv' vs vs' wx wx' ha hv hz hk hj
      simp only [List.mem_cons, List.not_mem_nil, or_false] at hi
      rcases hi with rfl | rfl | rfl | rfl | rfl | rfl | rfl | rfl | rfl | rfl
      · have e0 := hv.out 0 (mem_of (by kernel_rfl))
        have hj' : vs 0 = x0 := hj
        show vs' 0 = x0
        rw [← e0]
        exact hj'
      · have e1 := hv.out 1 (mem_of (by kernel_rfl))
        have hj' : vs 1 = .agg #[.int .i64 p.1.kind, .int .i64 p.1.num, .slice s1 p.1.kids.length c1] := hj
        show vs' 1 = .agg #[.int .i64 p.1.kind, .int .i64 p.1.num, .slice s1 p.1.kids.length c1]
        rw [← e1]
        exact hj'
      · have e2 := hv.out 2 (mem_of (by kernel_rfl))
        have hj' : vs 2 = .string (bs p.1.text) := hj
        show vs' 2 = .string (bs p.1.text)
        rw [← e2]
        exact hj'
      · have e3 := hv.out 3 (mem_of (by kernel_rfl))
        have hj' : vs 3 = .string (bs z1) := hj
        show vs' 3 = .string (bs z1)
        rw [← e3]
        exact hj'
      · have e4 := hv.out 4 (mem_of (by kernel_rfl))
        have hj' : vs 4 = x4 := hj
        show vs' 4 = x4
        rw [← e4]
        exact hj'
      · have e5 := hv.out 5 (mem_of (by kernel_rfl))
        have hj' : vs 5 = .agg #[.int .i64 p.2.kind, .int .i64 p.2.num, .slice t1 p.2.kids.length d1] := hj
        show vs' 5 = .agg #[.int .i64 p.2.kind, .int .i64 p.2.num, .slice t1 p.2.kids.length d1]
        rw [← e5]
        exact hj'
      · have e6 := hv.out 6 (mem_of (by kernel_rfl))
        have hj' : vs 6 = .string (bs p.2.text) := hj
        show vs' 6 = .string (bs p.2.text)
        rw [← e6]
        exact hj'
      · have e7 := hv.out 7 (mem_of (by kernel_rfl))
        have hj' : vs 7 = .string (bs z2) := hj
        show vs' 7 = .string (bs z2)
        rw [← e7]
        exact hj'
      · have e8 := hv.out 8 (mem_of (by kernel_rfl))
        have hj' : vs 8 = .string (bs z3) := hj
        show vs' 8 = .string (bs z3)
        rw [← e8]
        exact hj'
      · obtain ⟨Tw, q1, q2⟩ := hj
        exact ⟨Tw, q1.keep hz (fun b hb h1 => hk.out b hb (q2 b h1)), fun b h1 => foot_agree (l := ancs _ 10 9) (by exact of_decide_eq_true (by kernel_rfl)) ha.out (q2 b h1)⟩
    case hE =>
      intro i hi iv vs wx hj
      simp only [List.mem_cons, List.not_mem_nil, or_false] at hi
      rcases hi with rfl | rfl | rfl | rfl | rfl | rfl | rfl | rfl | rfl | rfl
      · exact hj
      · exact hj
      · exact hj
      · exact hj
      · exact hj
      · exact hj
      · exact hj
      · exact hj
      · exact hj
      · trivial
    case hEE =>
      intro i hi iv iv' vs vs' ha hv hj
      simp only [List.mem_cons, List.not_mem_nil, or_false] at hi
      rcases hi with rfl | rfl | rfl | rfl | rfl | rfl | rfl | rfl | rfl | rfl
      · have e0 := hv.out 0 (mem_of (by kernel_rfl))
        have hj' : vs 0 = x0 := hj
        show vs' 0 = x0
        rw [← e0]
        exact hj'
      · have e1 := hv.out 1 (mem_of (by kernel_rfl))
        have hj' : vs 1 = .agg #[.int .i64 p.1.kind, .int .i64 p.1.num, .slice s1 p.1.kids.length c1] := hj
        show vs' 1 = .agg #[.int .i64 p.1.kind, .int .i64 p.1.num, .slice s1 p.1.kids.length c1]
        rw [← e1]
        exact hj'
      · have e2 := hv.out 2 (mem_of (by kernel_rfl))
        have hj' : vs 2 = .string (bs p.1.text) := hj
        show vs' 2 = .string (bs p.1.text)
        rw [← e2]
        exact hj'
      · have e3 := hv.out 3 (mem_of (by kernel_rfl))
        have hj' : vs 3 = .string (bs z1) := hj
        show vs' 3 = .string (bs z1)
        rw [← e3]
        exact hj'
      · have e4 := hv.out 4 (mem_of (by kernel_rfl))
        have hj' : vs 4 = x4 := hj
        show vs' 4 = x4
        rw [← e4]
        exact hj'
      · have e5 := hv.out 5 (mem_of (by kernel_rfl))
        have hj' : vs 5 = .agg #[.int .i64 p.2.kind, .int .i64 p.2.num, .slice t1 p.2.kids.length d1] := hj
        show vs' 5 = .agg #[.int .i64 p.2.kind, .int .i64 p.2.num, .slice t1 p.2.kids.length d1]
        rw [← e5]
        exact hj'
      · have e6 := hv.out 6 (mem_of (by kernel_rfl))
        have hj' : vs 6 = .string (bs p.2.text) := hj
        show vs' 6 = .string (bs p.2.text)
        rw [← e6]
        exact hj'
      · have e7 := hv.out 7 (mem_of (by kernel_rfl))
        have hj' : vs 7 = .string (bs z2) := hj
        show vs' 7 = .string (bs z2)
        rw [← e7]
        exact hj'
      · have e8 := hv.out 8 (mem_of (by kernel_rfl))
        have hj' : vs 8 = .string (bs z3) := hj
        show vs' 8 = .string (bs z3)
        rw [← e8]
        exact hj'
      · trivial
    case hstep =>
      intro i hi opr ho iv vs w1 hB hS hd he hbd hsep hun K hK
      simp only [List.mem_cons, List.not_mem_nil, or_false] at hi
      have hzB := hB.size
      skip
      generalize hA : putFrom _ 0 vs _ = A at hK ⊢
      simp only [putFrom, Act.put, List.setIfInBounds_toArray, List.set_cons_succ, List.set_cons_zero] at hA
      rcases hi with rfl | rfl | rfl | rfl | rfl | rfl | rfl | rfl | rfl | rfl
      all_goals
        simp at ho
        subst ho
        subst hA
      · go_wp2_with fail
        refine Onward.mk (hK ?val2_0 _ _ (fun h => by cases h) ?eqA (Spares.of_below (Below.refl _ _)) (fun iv' _ _ => ?ja))
        case eqA => first | rfl | (simp only [Act.put, List.setIfInBounds_toArray, List.set_cons_succ, List.set_cons_zero]; rfl)
        case ja => exact hx0.out.symm
      · have h0 := Eq.trans (show vs 0 = x0 from hd.out 0 (mem_of (by kernel_rfl)) (by decide) (by kernel_rfl)) hx0.out
        have P01 := P0.keep (hS.out 1 _ (by kernel_rfl) (Or.inr ⟨rfl, rfl⟩))
        have p0c0 := P01.c0
        have p0z0 := P01.frozen 0
        have p0c1 := P01.c1
        have p0z1 := P01.frozen 1
        have p0c2 := P01.c2
        have p0z2 := P01.frozen 2
        have p0c3 := P01.c3
        have p0z3 := P01.frozen 3
        have p0c4 := P01.c4
        have p0z4 := P01.frozen 4
        have p0c5 := P01.c5
        have p0z5 := P01.frozen 5
        have p0lt := P01.lt
        go_wp2_with fail
        exact Onward.mk (hK (.agg #[.int .i64 p.1.kind, .int .i64 p.1.num, .slice s1 p.1.kids.length c1]) _ _ (fun h => by cases h) (by first | rfl | (simp only [Act.put, List.setIfInBounds_toArray, List.set_cons_succ, List.set_cons_zero, h0])) (Spares.of_below (Below.refl _ _)) (fun iv' _ _ => rfl))
      · have h1 : vs 1 = .agg #[.int .i64 p.1.kind, .int .i64 p.1.num, .slice s1 p.1.kids.length c1] := hd.out 1 (mem_of (by kernel_rfl)) (by decide) (by kernel_rfl)
        go_wp2_with fail
        refine (textOf_e (r1.below (hB'.trans (hB.mono (by omega)))) htm ham Hk1.out hs1).mono ?_
        rintro e w2 ⟨rfl, hb⟩
        go_wp2_with fail
        exact Onward.mk (hK (.string (bs p.1.text)) _ _ (fun h => by cases h) (by first | rfl | (simp only [Act.put, List.setIfInBounds_toArray, List.set_cons_succ, List.set_cons_zero, h1])) (Spares.of_below hb) (fun iv' _ _ => rfl))
      · have h2 : vs 2 = .string (bs p.1.text) := hd.out 2 (mem_of (by kernel_rfl)) (by decide) (by kernel_rfl)
        go_wp2_with fail
        exact Onward.mk (hK (.string (bs z1)) _ _ (fun h => by cases h) (by first | rfl | (simp only [Act.put, List.setIfInBounds_toArray, List.set_cons_succ, List.set_cons_zero, h2])) (Spares.of_below (Below.refl _ _)) (fun iv' _ _ => rfl))
      · go_wp2_with fail
        refine Onward.mk (hK ?val2_4 _ _ (fun h => by cases h) ?eqA (Spares.of_below (Below.refl _ _)) (fun iv' _ _ => ?ja))
        case eqA => first | rfl | (simp only [Act.put, List.setIfInBounds_toArray, List.set_cons_succ, List.set_cons_zero]; rfl)
        case ja => exact hx4.out.symm
      · have h4 := Eq.trans (show vs 4 = x4 from hd.out 4 (mem_of (by kernel_rfl)) (by decide) (by kernel_rfl)) hx4.out
        have P01 := P0.keep (hS.out 1 _ (by kernel_rfl) (Or.inr ⟨rfl, rfl⟩))
        have p0c0 := P01.c0
        have p0z0 := P01.frozen 0
        have p0c1 := P01.c1
        have p0z1 := P01.frozen 1
        have p0c2 := P01.c2
        have p0z2 := P01.frozen 2
        have p0c3 := P01.c3
        have p0z3 := P01.frozen 3
        have p0c4 := P01.c4
        have p0z4 := P01.frozen 4
        have p0c5 := P01.c5
        have p0z5 := P01.frozen 5
        have p0lt := P01.lt
        go_wp2_with fail
        exact Onward.mk (hK (.agg #[.int .i64 p.2.kind, .int .i64 p.2.num, .slice t1 p.2.kids.length d1]) _ _ (fun h => by cases h) (by first | rfl | (simp only [Act.put, List.setIfInBounds_toArray, List.set_cons_succ, List.set_cons_zero, h4])) (Spares.of_below (Below.refl _ _)) (fun iv' _ _ => rfl))
      · have h5 : vs 5 = .agg #[.int .i64 p.2.kind, .int .i64 p.2.num, .slice t1 p.2.kids.length d1] := hd.out 5 (mem_of (by kernel_rfl)) (by decide) (by kernel_rfl)
        go_wp2_with fail
        refine (textOf_e (r2.below (hB'.trans (hB.mono (by omega)))) htm ham Hm1.out hs2).mono ?_
        rintro e w2 ⟨rfl, hb⟩
        go_wp2_with fail
        exact Onward.mk (hK (.string (bs p.2.text)) _ _ (fun h => by cases h) (by first | rfl | (simp only [Act.put, List.setIfInBounds_toArray, List.set_cons_succ, List.set_cons_zero, h5])) (Spares.of_below hb) (fun iv' _ _ => rfl))
      · have h3 : vs 3 = .string (bs z1) := hd.out 3 (mem_of (by kernel_rfl)) (by decide) (by kernel_rfl)
        have h6 : vs 6 = .string (bs p.2.text) := hd.out 6 (mem_of (by kernel_rfl)) (by decide) (by kernel_rfl)
        go_wp2_with fail
        exact Onward.mk (hK (.string (bs z2)) _ _ (fun h => by cases h) (by first | rfl | (simp only [Act.put, List.setIfInBounds_toArray, List.set_cons_succ, List.set_cons_zero, h3, h6])) (Spares.of_below (Below.refl _ _)) (fun iv' _ _ => rfl))
      · have h7 : vs 7 = .string (bs z2) := hd.out 7 (mem_of (by kernel_rfl)) (by decide) (by kernel_rfl)
        go_wp2_with fail
        exact Onward.mk (hK (.string (bs z3)) _ _ (fun h => by cases h) (by first | rfl | (simp only [Act.put, List.setIfInBounds_toArray, List.set_cons_succ, List.set_cons_zero, h7])) (Spares.of_below (Below.refl _ _)) (fun iv' _ _ => rfl))
      · have h8 : vs 8 = .string (bs z3) := hd.out 8 (mem_of (by kernel_rfl)) (by decide) (by kernel_rfl)
        have BL1 := BL.keep hzB (fun b _ hb => hS.out 0 b (by kernel_rfl) (Or.inl ⟨rfl, hb⟩))
        go_wp2_with fail
        refine (WriteString_i (s := z3) BL1 (hzl3) (by omega)).mono ?_
        rintro e w2 ⟨⟨u, rfl⟩, hb', hs'⟩
        go_wp2_with fail
        exact Onward.mk (hK u _ _ (fun h => by cases h) (by first | rfl | simp only [Act.put, List.setIfInBounds_toArray, List.set_cons_succ, List.set_cons_zero, h8]) (hs'.more (fun b h => Or.inl ⟨0, by decide, (Or.inl ⟨rfl, h⟩)⟩)) (fun iv' ag hi => ⟨_, hb', fun b h => by rcases h with h | h; exact foot_given 0 (by decide) (Or.inl ⟨rfl, h⟩); exact foot_new hi h.1 h.2⟩))
    case hQ =>
      intro iv vs wx hB hSp hd he hbd hsep
      have hzB := hB.size
      have h0 := Eq.trans (show vs 0 = x0 from hd.out 0 (mem_of (by kernel_rfl)) (not_eaten (by kernel_rfl))) hx0.out
      have h1 : vs 1 = .agg #[.int .i64 p.1.kind, .int .i64 p.1.num, .slice s1 p.1.kids.length c1] := hd.out 1 (mem_of (by kernel_rfl)) (not_eaten (by kernel_rfl))
      have h2 : vs 2 = .string (bs p.1.text) := hd.out 2 (mem_of (by kernel_rfl)) (not_eaten (by kernel_rfl))
      have h3 : vs 3 = .string (bs z1) := hd.out 3 (mem_of (by kernel_rfl)) (not_eaten (by kernel_rfl))
      have h4 := Eq.trans (show vs 4 = x4 from hd.out 4 (mem_of (by kernel_rfl)) (not_eaten (by kernel_rfl))) hx4.out
      have h5 : vs 5 = .agg #[.int .i64 p.2.kind, .int .i64 p.2.num, .slice t1 p.2.kids.length d1] := hd.out 5 (mem_of (by kernel_rfl)) (not_eaten (by kernel_rfl))
      have h6 : vs 6 = .string (bs p.2.text) := hd.out 6 (mem_of (by kernel_rfl)) (not_eaten (by kernel_rfl))
      have h7 : vs 7 = .string (bs z2) := hd.out 7 (mem_of (by kernel_rfl)) (not_eaten (by kernel_rfl))
      have h8 : vs 8 = .string (bs z3) := hd.out 8 (mem_of (by kernel_rfl)) (not_eaten (by kernel_rfl))
      obtain ⟨T9, f9, t9⟩ := hd.out 9 (mem_of (by kernel_rfl)) (not_eaten (by kernel_rfl))
      have lo9 : ∀ b, foot [] [(9, 0)] (fun m b => (m = 0 ∧ T b) ∨ (m = 1 ∧ b = pb)) 10 9 iv b → T b ∨ (w.heap.size + 1) ≤ b := by
        rintro b ⟨j, hj, hh⟩
        have hj' := of_decide_eq_true (List.all_eq_true.1 (show ((chainOf [] 10 9).all fun j => decide (j ∈ [9])) = true from by kernel_rfl) j hj)
        simp only [List.mem_cons, List.not_mem_nil, or_false] at hj'
        subst hj'
        have q := (hbd.out 9 (mem_of (by kernel_rfl))).1
        rcases hh with hh | ⟨m, hm, hg⟩
        · exact Or.inr (by omega)
        · simp at hm; subst hm; simp at hg; exact Or.inl hg
      simp only [putFrom, Act.put, List.setIfInBounds_toArray, List.set_cons_succ, List.set_cons_zero]
      have hbl : ∃ T, BldAt (w.heap.size + 1) T B0 z4 wx := ⟨T9, by rw [HZ4.out]; exact f9⟩
      have Lx := L.keep (hB.block _ (by omega))
      have hBx := hB'.trans (hB.mono (by omega))
      clear hd he hbd hsep h0 h1 h2 h3 h4 h5 h6 h7 h8 f9 t9 lo9 hB hSp L BL BLf hGb hGd A1 A2 A3 P0
      go_wp2_with fail
      go_roundw
      case rel => exact ⟨k + 1, z4, by omega, by go_num, HN, hzl4, Hpre2, hbl, Lx, hBx⟩
      case measure => simp [intOf]; omega
end Go.Proofs.YtahehcalmbmbpaaDoor
