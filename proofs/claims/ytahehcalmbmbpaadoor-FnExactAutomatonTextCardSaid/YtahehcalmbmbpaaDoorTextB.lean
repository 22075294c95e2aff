/-
  Texts of automata: impl.automatonText; impl.AutomatonText.
-/
import Derived.Test.YtahehcalmbmbpaaDoorTextA
namespace Go.Proofs.YtahehcalmbmbpaaDoor
open Go.ChangeShapes Go.WideShapes Go.ChangeAt Go.RowKit Go.Sort

set_option maxRecDepth 100000 in
set_option maxHeartbeats 16000000 in
theorem automatonText_i {t a : Int} {ac : List (List Bool)} {nx : List (List (List Int))} {s u : Option Addr} {c d : Nat} {w : World} (hr : Rd w (bbD ac) (.slice s ac.length c)) (hq : Rd w (iiiD nx) (.slice u nx.length d)) (hok : AutOk t a ac nx) :
    Calls Tryd.prog 48 #[.agg #[.int .i64 t, .int .i64 a, .slice s ac.length c, .slice u nx.length d]] w fun e w' => e = .returned (.string (bs (autT t a ac nx ac.length))) ∧ Below w.heap.size w w' := by
  obtain ⟨hlen, hcap⟩ := nest_bd hr
  obtain ⟨hlen', hcap'⟩ := nest_bd hq
  unfold maxLen at hcap hcap'
  have Hok := Lib.hid hok
  clear hok
  obtain ⟨d1, d2, d3, d4⟩ := Hok.out.dims
  obtain ⟨t0, t3, -, -⟩ := sigB_bd Hok.out.sig
  have hnl : nx.length ≤ ac.length ∧ ac.length ≤ nx.length := by have := Hok.out.len; omega
  have hn1 := Hok.out.lo
  have hn60 := Hok.out.hi
  have e1 := dig_len (z := t) (by omega)
  have e2 := dig_len (z := a) (by omega)
  obtain ⟨z1, Hz1, Hc1⟩ := cat_l (P := Tryd.prog) (s := { data := #[97, 117, 116, 111, 109, 97, 116, 111, 110, 32] }) [97, 117, 116, 111, 109, 97, 116, 111, 110, 32] (dig t) rfl (by simp [e1])
  have f1 : z1.length = 11 := by rw [Hz1.out]; simp [e1]
  obtain ⟨z2, Hz2, Hc2⟩ := cat_r (P := Tryd.prog) (s := { data := #[32] }) z1 [32] rfl (by simp [f1])
  have f2 : z2.length = 12 := by rw [Hz2.out]; simp [f1]
  obtain ⟨z3, Hz3, Hc3⟩ := cat_2 (P := Tryd.prog) z2 (dig a) (by omega)
  have f3 : z3.length = 13 := by rw [Hz3.out]; simp [f2, e2]
  obtain ⟨z4, Hz4, Hc4⟩ := cat_r (P := Tryd.prog) (s := { data := #[10] }) z3 [10] rfl (by simp [f3])
  have f4 : z4.length ≤ 14 := by rw [Hz4.out]; simp [f3]
  have Hhead : Hid (z4 = autT t a ac nx 0) := by show _ = _; rw [Hz4.out, Hz3.out, Hz2.out, Hz1.out]; rfl
  clear Hz1 Hz2 Hz3 Hz4 e1 e2 f1 f2 f3
  go_enter Tryd.func48, Tryd.ntmps48
  go_wp2_with fail
  have L := (Blk.new4 w 53 (.int .i64 t) (.int .i64 a) (.slice s ac.length c) (.slice u nx.length d)).alloc (.cells #[.pointer none, .slice none 0 0] 103)
  have BL := BldAt.made (w := w.alloc (.cells #[.int .i64 t, .int .i64 a, .slice s ac.length c, .slice u nx.length d] 53)) (B := w.heap.size + 1) (by simp)
  have hB0 : Below w.heap.size w ((w.alloc (.cells #[.int .i64 t, .int .i64 a, .slice s ac.length c, .slice u nx.length d] 53)).alloc (.cells #[.pointer none, .slice none 0 0] 103)) := Below.alloc (Below.alloc (Below.refl _ _) (Nat.le_refl _) _) (by simp) _
  have hz1 : ((w.alloc (.cells #[.int .i64 t, .int .i64 a, .slice s ac.length c, .slice u nx.length d] 53)).alloc (.cells #[.pointer none, .slice none 0 0] 103)).heap.size = w.heap.size + 2 := by simp
  have hz2 : (w.alloc (.cells #[.int .i64 t, .int .i64 a, .slice s ac.length c, .slice u nx.length d] 53)).heap.size = w.heap.size + 1 := by simp
  rw [hz2] at BL
  generalize (w.alloc (.cells #[.int .i64 t, .int .i64 a, .slice s ac.length c, .slice u nx.length d] 53)).alloc (.cells #[.pointer none, .slice none 0 0] 103) = w1 at L BL hB0 hz1 ⊢
  clear hz2
  have BLf : ∀ b, b = w.heap.size + 1 → w.heap.size + 1 ≤ b ∧ b < w1.heap.size := fun b hb => by omega
  obtain ⟨x0, hx0⟩ := mkval ?a16_0
  obtain ⟨x1, hx1⟩ := mkval ?a16_1
  obtain ⟨x2, hx2⟩ := mkval ?a16_2
  obtain ⟨x6, hx6⟩ := mkval ?a16_6
  obtain ⟨x7, hx7⟩ := mkval ?a16_7
  obtain ⟨x8, hx8⟩ := mkval ?a16_8
  have hGb : ∀ m b, (fun m b => (m = 0 ∧ b = w.heap.size + 1)) m b → (w.heap.size + 1) ≤ b ∧ b < (w1).heap.size := by
    intro m b hg
    rcases hg with ⟨rfl, hg⟩
    · have q := BLf b hg
      omega
  have hGd : ∀ m m' b, (fun m b => (m = 0 ∧ b = w.heap.size + 1)) m b → (fun m b => (m = 0 ∧ b = w.heap.size + 1)) m' b → m = m' := by
    intro m m' b h h'
    rcases h with ⟨rfl, h⟩ <;> rcases h' with ⟨rfl, h'⟩ <;> first
      | rfl
  refine region_rs [] [(12, 0)] (fun m b => (m = 0 ∧ b = w.heap.size + 1)) (w.heap.size + 1) (fun i iv vs wx => match i with
    | 0 => vs 0 = x0
    | 1 => vs 1 = x1
    | 2 => vs 2 = x2
    | 3 => vs 3 = .string (bs (dig t))
    | 4 => vs 4 = .string (bs z1)
    | 5 => vs 5 = .string (bs z2)
    | 6 => vs 6 = x6
    | 7 => vs 7 = x7
    | 8 => vs 8 = x8
    | 9 => vs 9 = .string (bs (dig a))
    | 10 => vs 10 = .string (bs z3)
    | 11 => vs 11 = .string (bs z4)
    | 12 => ∃ T, BldAt (w.heap.size + 1) T (w.heap.size + 1) ([] ++ z4) wx ∧ ∀ x, T x → (foot [] [(12, 0)] (fun m b => (m = 0 ∧ b = w.heap.size + 1)) 13 12 iv) x
    | _ => True) (fun i iv vs => match i with
    | 0 => vs 0 = x0
    | 1 => vs 1 = x1
    | 2 => vs 2 = x2
    | 3 => vs 3 = .string (bs (dig t))
    | 4 => vs 4 = .string (bs z1)
    | 5 => vs 5 = .string (bs z2)
    | 6 => vs 6 = x6
    | 7 => vs 7 = x7
    | 8 => vs 8 = x8
    | 9 => vs 9 = .string (bs (dig a))
    | 10 => vs 10 = .string (bs z3)
    | 11 => vs 11 = .string (bs z4)
    | 12 => True
    | _ => True) (by kernel_rfl) (by kernel_rfl) [0, 1, 2, 3, 4, 5, 6, 7, 8, 9, 10, 11, 12] (by kernel_rfl) ?hbase ?hGb ?hG ?hJ ?hE ?hEE ?hstep ?hQ
  case hbase => first | exact Nat.le_refl _ | omega | (simp; omega)
  case hGb =>
    exact hGb
  case hG =>
    exact hGd
  case hJ =>
    intro i hi iv iv' vs vs' wx wx' ha hv hz hk hj
    simp only [List.mem_cons, List.not_mem_nil, or_false] at hi
    rcases hi with rfl | rfl | rfl | rfl | rfl | rfl | rfl | rfl | rfl | rfl | rfl | rfl | rfl
    · have e0 := hv.out 0 (mem_of (by kernel_rfl))
      have hj' : vs 0 = x0 := hj
      show vs' 0 = x0
      rw [← e0]
      exact hj'
    · have e1 := hv.out 1 (mem_of (by kernel_rfl))
      have hj' : vs 1 = x1 := hj
      show vs' 1 = x1
      rw [← e1]
      exact hj'
    · have e2 := hv.out 2 (mem_of (by kernel_rfl))
      have hj' : vs 2 = x2 := hj
      show vs' 2 = x2
      rw [← e2]
      exact hj'
    · have e3 := hv.out 3 (mem_of (by kernel_rfl))
      have hj' : vs 3 = .string (bs (dig t)) := hj
      show vs' 3 = .string (bs (dig t))
      rw [← e3]
      exact hj'
    · have e4 := hv.out 4 (mem_of (by kernel_rfl))
      have hj' : vs 4 = .string (bs z1) := hj
      show vs' 4 = .string (bs z1)
      rw [← e4]
      exact hj'
    · have e5 := hv.out 5 (mem_of (by kernel_rfl))
      have hj' : vs 5 = .string (bs z2) := hj
      show vs' 5 = .string (bs z2)
      rw [← e5]
      exact hj'
    · have e6 := hv.out 6 (mem_of (by kernel_rfl))
      have hj' : vs 6 = x6 := hj
      show vs' 6 = x6
      rw [← e6]
      exact hj'
    · have e7 := hv.out 7 (mem_of (by kernel_rfl))
      have hj' : vs 7 = x7 := hj
      show vs' 7 = x7
      rw [← e7]
      exact hj'
    · have e8 := hv.out 8 (mem_of (by kernel_rfl))
      have hj' : vs 8 = x8 := hj
      show vs' 8 = x8
      rw [← e8]
      exact hj'
    · have e9 := hv.out 9 (mem_of (by kernel_rfl))
      have hj' : vs 9 = .string (bs (dig a)) := hj
      show vs' 9 = .string (bs (dig a))
      rw [← e9]
      exact hj'
    · have e10 := hv.out 10 (mem_of (by kernel_rfl))
      have hj' : vs 10 = .string (bs z3) := hj
      show vs' 10 = .string (bs z3)
      rw [← e10]
      exact hj'
    · have e11 := hv.out 11 (mem_of (by kernel_rfl))
      have hj' : vs 11 = .string (bs z4) := hj
      show vs' 11 = .string (bs z4)
      rw [← e11]
      exact hj'
    · obtain ⟨T, q1, q2⟩ := hj
      exact ⟨T, q1.keep hz (fun b hb h1 => hk.out b hb (q2 b h1)), fun b h1 => foot_agree (l := ancs _ 13 12) (by exact of_decide_eq_true (by kernel_rfl)) ha.out (q2 b h1)⟩
  case hE =>
    intro i hi iv vs wx hj
    simp only [List.mem_cons, List.not_mem_nil, or_false] at hi
    rcases hi with rfl | rfl | rfl | rfl | rfl | rfl | rfl | rfl | rfl | rfl | rfl | rfl | rfl
    · exact hj
    · exact hj
    · exact hj
    · exact hj
    · exact hj
    · exact hj
    · exact hj
    · exact hj
    · exact hj
    · exact hj
    · exact hj
    · exact hj
    · trivial
  case hEE =>
    intro i hi iv iv' vs vs' ha hv hj
    simp only [List.mem_cons, List.not_mem_nil, or_false] at hi
    rcases hi with rfl | rfl | rfl | rfl | rfl | rfl | rfl | rfl | rfl | rfl | rfl | rfl | rfl
    · have e0 := hv.out 0 (mem_of (by kernel_rfl))
      have hj' : vs 0 = x0 := hj
      show vs' 0 = x0
      rw [← e0]
      exact hj'
    · have e1 := hv.out 1 (mem_of (by kernel_rfl))
      have hj' : vs 1 = x1 := hj
      show vs' 1 = x1
      rw [← e1]
      exact hj'
    · have e2 := hv.out 2 (mem_of (by kernel_rfl))
      have hj' : vs 2 = x2 := hj
      show vs' 2 = x2
      rw [← e2]
      exact hj'
    · have e3 := hv.out 3 (mem_of (by kernel_rfl))
      have hj' : vs 3 = .string (bs (dig t)) := hj
      show vs' 3 = .string (bs (dig t))
      rw [← e3]
      exact hj'
    · have e4 := hv.out 4 (mem_of (by kernel_rfl))
      have hj' : vs 4 = .string (bs z1) := hj
      show vs' 4 = .string (bs z1)
      rw [← e4]
      exact hj'
    · have e5 := hv.out 5 (mem_of (by kernel_rfl))
      have hj' : vs 5 = .string (bs z2) := hj
      show vs' 5 = .string (bs z2)
      rw [← e5]
      exact hj'
    · have e6 := hv.out 6 (mem_of (by kernel_rfl))
      have hj' : vs 6 = x6 := hj
      show vs' 6 = x6
      rw [← e6]
      exact hj'
    · have e7 := hv.out 7 (mem_of (by kernel_rfl))
      have hj' : vs 7 = x7 := hj
      show vs' 7 = x7
      rw [← e7]
      exact hj'
    · have e8 := hv.out 8 (mem_of (by kernel_rfl))
      have hj' : vs 8 = x8 := hj
      show vs' 8 = x8
      rw [← e8]
      exact hj'
    · have e9 := hv.out 9 (mem_of (by kernel_rfl))
      have hj' : vs 9 = .string (bs (dig a)) := hj
      show vs' 9 = .string (bs (dig a))
      rw [← e9]
      exact hj'
    · have e10 := hv.out 10 (mem_of (by kernel_rfl))
      have hj' : vs 10 = .string (bs z3) := hj
      show vs' 10 = .string (bs z3)
      rw [← e10]
      exact hj'
    · have e11 := hv.out 11 (mem_of (by kernel_rfl))
      have hj' : vs 11 = .string (bs z4) := hj
      show vs' 11 = .string (bs z4)
      rw [← e11]
      exact hj'
    · trivial
  case hstep =>
    intro i hi opr ho iv vs w1 hB hS hd he hbd hsep hun K hK
    simp only [List.mem_cons, List.not_mem_nil, or_false] at hi
    have hzB := hB.size
    have L1 := L.keep (hB.block _ (by omega))
    have cc0 := L1.c0
    have cc1 := L1.c1
    generalize hA : putFrom _ 0 vs _ = A at hK ⊢
    simp only [putFrom, Act.put, List.setIfInBounds_toArray, List.set_cons_succ, List.set_cons_zero] at hA
    rcases hi with rfl | rfl | rfl | rfl | rfl | rfl | rfl | rfl | rfl | rfl | rfl | rfl | rfl
    all_goals
      simp at ho
      subst ho
      subst hA
    · go_wp2_with fail
      refine Onward.mk (hK ?val16_0 _ _ (fun h => by cases h) ?eqA (Spares.of_below (Below.refl _ _)) (fun iv' _ _ => ?ja))
      case eqA => first | rfl | (simp only [Act.put, List.setIfInBounds_toArray, List.set_cons_succ, List.set_cons_zero]; rfl)
      case ja => exact hx0.out.symm
    · have h0 := Eq.trans (show vs 0 = x0 from hd.out 0 (mem_of (by kernel_rfl)) (by decide) (by kernel_rfl)) hx0.out
      go_wp2_with fail
      refine Onward.mk (hK ?val16_1 _ _ (fun h => by cases h) ?eqA (Spares.of_below (Below.refl _ _)) (fun iv' _ _ => ?ja))
      case eqA => first | rfl | (simp only [Act.put, List.setIfInBounds_toArray, List.set_cons_succ, List.set_cons_zero, h0]; rfl)
      case ja => exact hx1.out.symm
    · have h1 := Eq.trans (show vs 1 = x1 from hd.out 1 (mem_of (by kernel_rfl)) (by decide) (by kernel_rfl)) hx1.out
      go_wp2_with fail
      refine Onward.mk (hK ?val16_2 _ _ (fun h => by cases h) ?eqA (Spares.of_below (Below.refl _ _)) (fun iv' _ _ => ?ja))
      case eqA => first | rfl | (simp only [Act.put, List.setIfInBounds_toArray, List.set_cons_succ, List.set_cons_zero, h1]; rfl)
      case ja => exact hx2.out.symm
    · have h2 := Eq.trans (show vs 2 = x2 from hd.out 2 (mem_of (by kernel_rfl)) (by decide) (by kernel_rfl)) hx2.out
      go_wp2_with fail
      refine (decimal_z t0 (by omega)).mono ?_
      rintro e w2 ⟨rfl, hb⟩
      go_wp2_with fail
      exact Onward.mk (hK (.string (bs (dig t))) _ _ (fun h => by cases h) (by first | rfl | (simp only [Act.put, List.setIfInBounds_toArray, List.set_cons_succ, List.set_cons_zero, h2])) (Spares.of_below hb) (fun iv' _ _ => rfl))
    · have h3 : vs 3 = .string (bs (dig t)) := hd.out 3 (mem_of (by kernel_rfl)) (by decide) (by kernel_rfl)
      go_wp2_with fail
      exact Onward.mk (hK (.string (bs z1)) _ _ (fun h => by cases h) (by first | rfl | (simp only [Act.put, List.setIfInBounds_toArray, List.set_cons_succ, List.set_cons_zero, h3])) (Spares.of_below (Below.refl _ _)) (fun iv' _ _ => rfl))
    · have h4 : vs 4 = .string (bs z1) := hd.out 4 (mem_of (by kernel_rfl)) (by decide) (by kernel_rfl)
      go_wp2_with fail
      exact Onward.mk (hK (.string (bs z2)) _ _ (fun h => by cases h) (by first | rfl | (simp only [Act.put, List.setIfInBounds_toArray, List.set_cons_succ, List.set_cons_zero, h4])) (Spares.of_below (Below.refl _ _)) (fun iv' _ _ => rfl))
    · go_wp2_with fail
      refine Onward.mk (hK ?val16_6 _ _ (fun h => by cases h) ?eqA (Spares.of_below (Below.refl _ _)) (fun iv' _ _ => ?ja))
      case eqA => first | rfl | (simp only [Act.put, List.setIfInBounds_toArray, List.set_cons_succ, List.set_cons_zero]; rfl)
      case ja => exact hx6.out.symm
    · have h6 := Eq.trans (show vs 6 = x6 from hd.out 6 (mem_of (by kernel_rfl)) (by decide) (by kernel_rfl)) hx6.out
      go_wp2_with fail
      refine Onward.mk (hK ?val16_7 _ _ (fun h => by cases h) ?eqA (Spares.of_below (Below.refl _ _)) (fun iv' _ _ => ?ja))
      case eqA => first | rfl | (simp only [Act.put, List.setIfInBounds_toArray, List.set_cons_succ, List.set_cons_zero, h6]; rfl)
      case ja => exact hx7.out.symm
    · have h7 := Eq.trans (show vs 7 = x7 from hd.out 7 (mem_of (by kernel_rfl)) (by decide) (by kernel_rfl)) hx7.out
      go_wp2_with fail
      refine Onward.mk (hK ?val16_8 _ _ (fun h => by cases h) ?eqA (Spares.of_below (Below.refl _ _)) (fun iv' _ _ => ?ja))
      case eqA => first | rfl | (simp only [Act.put, List.setIfInBounds_toArray, List.set_cons_succ, List.set_cons_zero, h7]; rfl)
      case ja => exact hx8.out.symm
    · have h8 := Eq.trans (show vs 8 = x8 from hd.out 8 (mem_of (by kernel_rfl)) (by decide) (by kernel_rfl)) hx8.out
      go_wp2_with fail
      refine (decimal_z d3 (by omega)).mono ?_
      rintro e w2 ⟨rfl, hb⟩
      go_wp2_with fail
      exact Onward.mk (hK (.string (bs (dig a))) _ _ (fun h => by cases h) (by first | rfl | (simp only [Act.put, List.setIfInBounds_toArray, List.set_cons_succ, List.set_cons_zero, h8])) (Spares.of_below hb) (fun iv' _ _ => rfl))
    · have h5 : vs 5 = .string (bs z2) := hd.out 5 (mem_of (by kernel_rfl)) (by decide) (by kernel_rfl)
      have h9 : vs 9 = .string (bs (dig a)) := hd.out 9 (mem_of (by kernel_rfl)) (by decide) (by kernel_rfl)
      go_wp2_with fail
      exact Onward.mk (hK (.string (bs z3)) _ _ (fun h => by cases h) (by first | rfl | (simp only [Act.put, List.setIfInBounds_toArray, List.set_cons_succ, List.set_cons_zero, h5, h9])) (Spares.of_below (Below.refl _ _)) (fun iv' _ _ => rfl))
    · have h10 : vs 10 = .string (bs z3) := hd.out 10 (mem_of (by kernel_rfl)) (by decide) (by kernel_rfl)
      go_wp2_with fail
      exact Onward.mk (hK (.string (bs z4)) _ _ (fun h => by cases h) (by first | rfl | (simp only [Act.put, List.setIfInBounds_toArray, List.set_cons_succ, List.set_cons_zero, h10])) (Spares.of_below (Below.refl _ _)) (fun iv' _ _ => rfl))
    · have h11 : vs 11 = .string (bs z4) := hd.out 11 (mem_of (by kernel_rfl)) (by decide) (by kernel_rfl)
      have BL1 := BL.keep hzB (fun b _ hb => hS.out 0 b (by kernel_rfl) ⟨rfl, hb⟩)
      go_wp2_with fail
      refine (WriteString_i (s := z4) BL1 (by simp only [List.length_nil]; omega) (by omega)).mono ?_
      rintro e w2 ⟨⟨u, rfl⟩, hb', hs'⟩
      go_wp2_with fail
      exact Onward.mk (hK u _ _ (fun h => by cases h) (by first | rfl | simp only [Act.put, List.setIfInBounds_toArray, List.set_cons_succ, List.set_cons_zero, h11]) (hs'.more (fun b h => Or.inl ⟨0, by decide, ⟨rfl, h⟩⟩)) (fun iv' ag hi => ⟨_, hb', fun b h => by rcases h with h | h; exact foot_given 0 (by decide) ⟨rfl, h⟩; exact foot_new hi h.1 h.2⟩))
  case hQ =>
    intro iv vs wx hB hSp hd he hbd hsep
    have hzB := hB.size
    have h0 := Eq.trans (show vs 0 = x0 from hd.out 0 (mem_of (by kernel_rfl)) (not_eaten (by kernel_rfl))) hx0.out
    have h1 := Eq.trans (show vs 1 = x1 from hd.out 1 (mem_of (by kernel_rfl)) (not_eaten (by kernel_rfl))) hx1.out
    have h2 := Eq.trans (show vs 2 = x2 from hd.out 2 (mem_of (by kernel_rfl)) (not_eaten (by kernel_rfl))) hx2.out
    have h3 : vs 3 = .string (bs (dig t)) := hd.out 3 (mem_of (by kernel_rfl)) (not_eaten (by kernel_rfl))
    have h4 : vs 4 = .string (bs z1) := hd.out 4 (mem_of (by kernel_rfl)) (not_eaten (by kernel_rfl))
    have h5 : vs 5 = .string (bs z2) := hd.out 5 (mem_of (by kernel_rfl)) (not_eaten (by kernel_rfl))
    have h6 := Eq.trans (show vs 6 = x6 from hd.out 6 (mem_of (by kernel_rfl)) (not_eaten (by kernel_rfl))) hx6.out
    have h7 := Eq.trans (show vs 7 = x7 from hd.out 7 (mem_of (by kernel_rfl)) (not_eaten (by kernel_rfl))) hx7.out
    have h8 := Eq.trans (show vs 8 = x8 from hd.out 8 (mem_of (by kernel_rfl)) (not_eaten (by kernel_rfl))) hx8.out
    have h9 : vs 9 = .string (bs (dig a)) := hd.out 9 (mem_of (by kernel_rfl)) (not_eaten (by kernel_rfl))
    have h10 : vs 10 = .string (bs z3) := hd.out 10 (mem_of (by kernel_rfl)) (not_eaten (by kernel_rfl))
    have h11 : vs 11 = .string (bs z4) := hd.out 11 (mem_of (by kernel_rfl)) (not_eaten (by kernel_rfl))
    obtain ⟨T12, f12, t12⟩ := hd.out 12 (mem_of (by kernel_rfl)) (not_eaten (by kernel_rfl))
    have lo12 : ∀ b, foot [] [(12, 0)] (fun m b => (m = 0 ∧ b = w.heap.size + 1)) 13 12 iv b → b = w.heap.size + 1 ∨ (w.heap.size + 1) ≤ b := by
      rintro b ⟨j, hj, hh⟩
      have hj' := of_decide_eq_true (List.all_eq_true.1 (show ((chainOf [] 13 12).all fun j => decide (j ∈ [12])) = true from by kernel_rfl) j hj)
      simp only [List.mem_cons, List.not_mem_nil, or_false] at hj'
      subst hj'
      have q := (hbd.out 12 (mem_of (by kernel_rfl))).1
      rcases hh with hh | ⟨m, hm, hg⟩
      · exact Or.inr (by omega)
      · simp at hm; subst hm; simp at hg; exact Or.inl hg
    simp only [putFrom, Act.put, List.setIfInBounds_toArray, List.set_cons_succ, List.set_cons_zero]
    have hbl : ∃ T, BldAt (w.heap.size + 1) T (w.heap.size + 1) z4 wx := ⟨T12, by rw [← List.nil_append z4]; exact f12⟩
    have Lx := L.keep (hB.block _ (by omega))
    have hBx := hB0.trans (hB.mono (by omega))
    have hwzx : w.heap.size + 1 < wx.heap.size := by omega
    clear hd he hbd hsep h0 h1 h2 h3 h4 h5 h6 h7 h8 h9 h10 h11 Hc1 Hc2 Hc3 Hc4 L hB0 hB hSp BL BLf hGb hGd f12 t12 lo12
    simp only [Nat.zero_add, Nat.reduceAdd]
    have l2 := Lx.c2
    go_wp2_with fail
    clear l2
    go_loopw [27] (fun i wr => ∃ (k : Nat) (z : List UInt8), k ≤ ac.length ∧ i = .int .i64 k ∧ Hid (z = autT t a ac nx k) ∧ z.length ≤ 40 + 1000 * k ∧
        (∃ T, BldAt (w.heap.size + 1) T (w.heap.size + 1) z wr) ∧ w.heap.size + 1 < wr.heap.size ∧ Blk wr w.heap.size 53 [.int .i64 t, .int .i64 a, .slice s ac.length c, .slice u nx.length d] ∧ Below w.heap.size w wr) (fun i _ => ac.length - (intOf i).toNat)
    case atStart => exact ⟨0, z4, by omega, rfl, Hhead, by omega, hbl, hwzx, Lx, hBx⟩
    case round =>
      clear Lx hBx Hhead f4 hbl hwzx
      obtain ⟨k, z, hk, rfl, HZ, hzl, hbl, hwz, L, hB⟩ := hrel
      by_cases hlt : k < ac.length
      rotate_left
      · obtain rfl : k = ac.length := by omega
        obtain ⟨T, hT⟩ := hbl
        go_wp2_with fail
        refine (String_i hT (by omega)).mono ?_
        rintro e w9 ⟨rfl, hb9⟩
        have hB9 := hB.trans (hb9.mono (by omega))
        clear hT
        go_wp2_with fail
        go_ret
        exact ⟨by rw [HZ.out]; rfl, hB9⟩
      obtain ⟨ar, har⟩ : ∃ e, ac[k]? = some e := ⟨_, List.getElem?_eq_getElem hlt⟩
      obtain ⟨nr, hnr⟩ : ∃ e, nx[k]? = some e := ⟨_, List.getElem?_eq_getElem (by omega)⟩
      obtain ⟨sb, so, rfl⟩ := nest_some (f := boolsD) hr (by omega)
      obtain ⟨ub, uo, rfl⟩ := nest_some (f := iiD) hq (by omega)
      obtain ⟨hsl, sa, ca, a0, ra⟩ := nest_sl (g := D.bool) hr har
      obtain ⟨hul, sn, cn, b0, rb⟩ := nest_sl (g := intsD) hq hnr
      obtain ⟨ra1, ra2⟩ := nest_bd ra
      obtain ⟨rb1, rb2⟩ := nest_bd rb
      unfold maxLen at ra2 rb2
      obtain ⟨har8, hnr8, Hrows⟩ := Hok.out.st k ar nr har hnr
      have hl1 : ar.length ≤ 8 := by omega
      have hl2 : ar.length ≤ nr.length ∧ nr.length ≤ ar.length := by omega
      clear har8 hnr8
      have Hsucc := Lib.hid (autT_succ (t := t) (a := a) har hnr)
      have Hrows := Lib.hid Hrows
      clear har hnr
      have hkz := Int.natCast_nonneg k
      have hkb : (k : Int) < (ac.length : Int) := by omega
      have hkc : (k : Int) < (nx.length : Int) := by omega
      have a0' := (hB.cell (p := ⟨sb, so + k, none⟩) hsl).trans a0
      go_wp2_with fail
      clear a0'
      -- the text S is written behind Z: Y
      obtain ⟨T, hT⟩ := hbl
      have hTB := hT.set.2
      refine (WriteString_i (s := [115, 116, 97, 116, 101]) hT (by simp only [List.length_cons, List.length_nil]; omega) (by omega)).mono ?_
      rintro e w2 ⟨⟨u, rfl⟩, hb', hs'⟩
      have hszw2 := hs'.size
      replace hB := hB.trans (hs'.below (by omega) (fun x hx => by have := hTB x hx; omega))
      replace L := L.keep (hs'.block _ L.lt (fun hx => by have := hTB _ hx; omega))
      replace hbl : ∃ T, BldAt (w.heap.size + 1) T (w.heap.size + 1) (z ++ [115, 116, 97, 116, 101]) w2 := ⟨_, hb'⟩
      have hwzw2 : w.heap.size + 1 < w2.heap.size := by omega
      clear hT hTB hb' hs' T
      obtain ⟨z1, HYz1⟩ : ∃ yv : List UInt8, Hid (yv = z ++ [115, 116, 97, 116, 101]) := ⟨_, Lib.hid rfl⟩
      rw [← HYz1.out] at hbl
      have hzl1 : z1.length ≤ 45 + 1000 * k := by rw [HYz1.out]; simp only [List.length_append, List.length_cons, List.length_nil]; omega
      have HZ2 : Hid (z1 = autT t a ac nx k ++ staT ar nr 0) := by show _ = _; rw [HYz1.out, HZ.out]; rfl
      clear HYz1 HZ
      go_wp2_with fail
      obtain ⟨wo, rfl⟩ : ∃ v, v = wr := ⟨_, rfl⟩
      go_loopw [35] (fun i wr => ∃ (j : Nat) (y : List UInt8), j ≤ ar.length ∧ i = .int .i64 j ∧ Hid (y = autT t a ac nx k ++ staT ar nr j) ∧ y.length ≤ 45 + 1000 * k + 100 * j ∧
          (∃ T, BldAt (w.heap.size + 1) T (w.heap.size + 1) y wr) ∧ w.heap.size + 1 < wr.heap.size ∧ Blk wr w.heap.size 53 [.int .i64 t, .int .i64 a, .slice (some ⟨sb, so, none⟩) ac.length c, .slice (some ⟨ub, uo, none⟩) nx.length d] ∧ Below w.heap.size w wr) (fun i _ => ar.length - (intOf i).toNat)
      case atStart => exact ⟨0, z1, by omega, rfl, HZ2, by omega, hbl, by omega, L, hB⟩
      case round =>
        clear L hB HZ2 hbl
        obtain ⟨j, y, hj, rfl, HY, hyl, hbl, hwz, L, hB⟩ := hrel
        by_cases hjl : j < ar.length
        rotate_left
        · obtain rfl : j = ar.length := by omega
          go_wp2_with fail
          -- the text S is written behind Z: Y
          obtain ⟨T, hT⟩ := hbl
          have hTB := hT.set.2
          refine (WriteString_i (s := [10]) hT (by simp only [List.length_cons, List.length_nil]; omega) (by omega)).mono ?_
          rintro e w3 ⟨⟨u, rfl⟩, hb', hs'⟩
          have hszw3 := hs'.size
          replace hB := hB.trans (hs'.below (by omega) (fun x hx => by have := hTB x hx; omega))
          replace L := L.keep (hs'.block _ L.lt (fun hx => by have := hTB _ hx; omega))
          replace hbl : ∃ T, BldAt (w.heap.size + 1) T (w.heap.size + 1) (y ++ [10]) w3 := ⟨_, hb'⟩
          have hwzw3 : w.heap.size + 1 < w3.heap.size := by omega
          clear hT hTB hb' hs' T
          obtain ⟨y1, HYy1⟩ : ∃ yv : List UInt8, Hid (yv = y ++ [10]) := ⟨_, Lib.hid rfl⟩
          rw [← HYy1.out] at hbl
          have hyl1 : y1.length ≤ 40 + 1000 * (k + 1) := by rw [HYy1.out]; simp only [List.length_append, List.length_cons, List.length_nil]; omega
          have HN : Hid (y1 = autT t a ac nx (k + 1)) := by show _ = _; rw [HYy1.out, HY.out, Hsucc.out]
          clear HYy1 HY
          go_wp2_with fail
          go_roundw
          case rel => exact ⟨k + 1, y1, by omega, by go_num, HN, hyl1, hbl, by omega, L, hB⟩
          case measure => simp [intOf]; omega
        obtain ⟨v, hv⟩ : ∃ e, ar[j]? = some e := ⟨_, List.getElem?_eq_getElem hjl⟩
        obtain ⟨row, hrow⟩ : ∃ e, nr[j]? = some e := ⟨_, List.getElem?_eq_getElem (by omega)⟩
        obtain ⟨ab, ao, rfl⟩ := nest_some (f := D.bool) ra (by omega)
        obtain ⟨vb, vo, rfl⟩ := nest_some (f := intsD) rb (by omega)
        obtain ⟨hal, z0⟩ := bool_in ra hv
        have z0 := (hB.cell (p := ⟨ab, ao + j, none⟩) hal).trans z0
        obtain ⟨hvl, sr, cr, r0, rr⟩ := nest_sl (g := D.int) rb hrow
        obtain ⟨rr1, rr2⟩ := nest_bd rr
        unfold maxLen at rr2
        obtain ⟨hrow4, hrow2⟩ := Hrows.out j row hrow
        have hl4 : row.length ≤ 4 := by omega
        clear hrow4
        have Hrow2 := Lib.hid hrow2
        have Hst := Lib.hid (staT_succ hv hrow)
        clear hv hrow hrow2
        have hjz := Int.natCast_nonneg j
        have hjb : (j : Int) < (ar.length : Int) := by omega
        have hjc : (j : Int) < (nr.length : Int) := by omega
        cases v
        case false =>
          go_wp2_with fail
          -- the text S is written behind Z: Y
          obtain ⟨T, hT⟩ := hbl
          have hTB := hT.set.2
          refine (WriteString_i (s := [32, 45]) hT (by simp only [List.length_cons, List.length_nil]; omega) (by omega)).mono ?_
          rintro e w3 ⟨⟨u, rfl⟩, hb', hs'⟩
          have hszw3 := hs'.size
          replace hB := hB.trans (hs'.below (by omega) (fun x hx => by have := hTB x hx; omega))
          replace L := L.keep (hs'.block _ L.lt (fun hx => by have := hTB _ hx; omega))
          replace hbl : ∃ T, BldAt (w.heap.size + 1) T (w.heap.size + 1) (y ++ [32, 45]) w3 := ⟨_, hb'⟩
          have hwzw3 : w.heap.size + 1 < w3.heap.size := by omega
          clear hT hTB hb' hs' T
          obtain ⟨y1, HYy1⟩ : ∃ yv : List UInt8, Hid (yv = y ++ [32, 45]) := ⟨_, Lib.hid rfl⟩
          rw [← HYy1.out] at hbl
          have hyl1 : y1.length ≤ 47 + 1000 * k + 100 * j := by rw [HYy1.out]; simp only [List.length_append, List.length_cons, List.length_nil]; omega
          have HY2 : Hid (y1 = autT t a ac nx k ++ (staT ar nr j ++ sgnT false) ++ rowT row 0) := by
            show _ = _
            rw [HYy1.out, HY.out]
            simp only [List.append_assoc, rowT, sgnT, List.append_nil]
            rfl
          clear HYy1 HY z0
          have l3 := L.c3
          have b0' := (hB.cell (p := ⟨ub, uo + k, none⟩) hul).trans b0
          have r0' := (hB.cell (p := ⟨vb, vo + j, none⟩) hvl).trans r0
          go_wp2_with fail
          clear l3 b0' r0'
          obtain ⟨wm, rfl⟩ : ∃ v, v = wr := ⟨_, rfl⟩
          go_loopw [52] (fun i wr => ∃ (l : Nat) (x : List UInt8), l ≤ row.length ∧ i = .int .i64 l ∧ Hid (x = autT t a ac nx k ++ (staT ar nr j ++ sgnT false) ++ rowT row l) ∧ x.length ≤ 47 + 1000 * k + 100 * j + 10 * l ∧
              (∃ T, BldAt (w.heap.size + 1) T (w.heap.size + 1) x wr) ∧ w.heap.size + 1 < wr.heap.size ∧ Blk wr w.heap.size 53 [.int .i64 t, .int .i64 a, .slice (some ⟨sb, so, none⟩) ac.length c, .slice (some ⟨ub, uo, none⟩) nx.length d] ∧ Below w.heap.size w wr) (fun i _ => row.length - (intOf i).toNat)
          case atStart => exact ⟨0, y1, by omega, rfl, HY2, by omega, hbl, by omega, L, hB⟩
          case round =>
            clear L hB HY2 hbl
            obtain ⟨l, x, hl, rfl, HX, hxl, hbl, hwz, L, hB⟩ := hrel
            by_cases hll : l < row.length
            · obtain ⟨zz, hzz⟩ : ∃ e, row[l]? = some e := ⟨_, List.getElem?_eq_getElem hll⟩
              obtain ⟨tb, to', rfl⟩ := nest_some (f := D.int) rr (by omega)
              obtain ⟨hz1, hz2⟩ := Hrow2.out l zz hzz
              obtain ⟨htl, z0⟩ := int_in rr hzz
              have z0 := (hB.cell (p := ⟨tb, to' + l, none⟩) htl).trans z0
              have Hs := Lib.hid (rowT_succ hzz)
              have hlz := Int.natCast_nonneg l
              have hlb : (l : Int) < (row.length : Int) := by omega
              clear hzz
              by_cases hneg : zz < 0
              · go_wp2_with fail
                clear z0
                -- the text S is written behind Z: Y
                obtain ⟨T, hT⟩ := hbl
                have hTB := hT.set.2
                refine (WriteString_i (s := [58, 46]) hT (by simp only [List.length_cons, List.length_nil]; omega) (by omega)).mono ?_
                rintro e w4 ⟨⟨u, rfl⟩, hb', hs'⟩
                have hszw4 := hs'.size
                replace hB := hB.trans (hs'.below (by omega) (fun x hx => by have := hTB x hx; omega))
                replace L := L.keep (hs'.block _ L.lt (fun hx => by have := hTB _ hx; omega))
                replace hbl : ∃ T, BldAt (w.heap.size + 1) T (w.heap.size + 1) (x ++ [58, 46]) w4 := ⟨_, hb'⟩
                have hwzw4 : w.heap.size + 1 < w4.heap.size := by omega
                clear hT hTB hb' hs' T
                obtain ⟨x', HYx'⟩ : ∃ yv : List UInt8, Hid (yv = x ++ [58, 46]) := ⟨_, Lib.hid rfl⟩
                rw [← HYx'.out] at hbl
                have hxl' : x'.length ≤ 47 + 1000 * k + 100 * j + 10 * (l + 1) := by rw [HYx'.out]; simp only [List.length_append, List.length_cons, List.length_nil]; omega
                have HN : Hid (x' = autT t a ac nx k ++ (staT ar nr j ++ sgnT false) ++ rowT row (l + 1)) := by
                  show _ = _
                  rw [HYx'.out, HX.out, Hs.out, sucT, if_pos (by omega)]
                  simp only [List.append_assoc]
                clear HYx' HX Hs
                go_wp2_with fail
                go_roundw
                case rel => exact ⟨l + 1, x', by omega, by go_num, HN, hxl', hbl, by omega, L, hB⟩
                case measure => simp [intOf]; omega
              · have hdl := dig_len2 (z := zz) (by omega) (by omega)
                obtain ⟨q1, HQ1, Hc1⟩ := cat_l (P := Tryd.prog) (s := { data := #[58] }) [58] (dig zz) rfl (by simp only [List.length_cons, List.length_nil]; omega)
                have hq1 : q1.length ≤ 3 := by rw [HQ1.out]; simp only [List.length_append, List.length_cons, List.length_nil]; omega
                go_wp2_with fail
                refine (decimal_z (z := zz) (by omega) (by omega)).mono ?_
                rintro e w9 ⟨rfl, hb9⟩
                have h9z := hb9.size
                obtain ⟨T, hT⟩ := hbl
                replace hT := hT.below hb9
                replace hB := hB.trans (hb9.mono (by omega))
                replace L := L.below hb9
                clear hb9 z0
                go_wp2_with fail
                have hTB := hT.set.2
                refine (WriteString_i (s := q1) hT (by omega) (by omega)).mono ?_
                rintro e w4 ⟨⟨u, rfl⟩, hb', hs'⟩
                have hszw4 := hs'.size
                replace hB := hB.trans (hs'.below (by omega) (fun x hx => by have := hTB x hx; omega))
                replace L := L.keep (hs'.block _ L.lt (fun hx => by have := hTB _ hx; omega))
                replace hbl : ∃ T, BldAt (w.heap.size + 1) T (w.heap.size + 1) (x ++ q1) w4 := ⟨_, hb'⟩
                have hwzw4 : w.heap.size + 1 < w4.heap.size := by omega
                clear hT hTB hb' hs' T
                obtain ⟨x', HYx'⟩ : ∃ yv : List UInt8, Hid (yv = x ++ q1) := ⟨_, Lib.hid rfl⟩
                rw [← HYx'.out] at hbl
                have hxl' : x'.length ≤ 47 + 1000 * k + 100 * j + 10 * (l + 1) := by rw [HYx'.out]; simp only [List.length_append]; omega
                have HN : Hid (x' = autT t a ac nx k ++ (staT ar nr j ++ sgnT false) ++ rowT row (l + 1)) := by
                  show _ = _
                  rw [HYx'.out, HX.out, Hs.out, HQ1.out, sucT, if_neg (by omega)]
                  simp only [List.append_assoc]
                clear HYx' HX Hs HQ1
                go_wp2_with fail
                go_roundw
                case rel => exact ⟨l + 1, x', by omega, by go_num, HN, hxl', hbl, by omega, L, hB⟩
                case measure => simp [intOf]; omega
            · obtain rfl : l = row.length := by omega
              have HN : Hid (x = autT t a ac nx k ++ staT ar nr (j + 1)) := by
                show _ = _
                rw [HX.out, Hst.out]
                simp only [List.append_assoc]
              clear HX
              go_wp2_with fail
              go_roundw
              case rel => exact ⟨j + 1, x, by omega, by go_num, HN, by omega, hbl, hwz, L, hB⟩
              case measure => simp [intOf]; omega
        case true =>
          go_wp2_with fail
          -- the text S is written behind Z: Y
          obtain ⟨T, hT⟩ := hbl
          have hTB := hT.set.2
          refine (WriteString_i (s := [32, 43]) hT (by simp only [List.length_cons, List.length_nil]; omega) (by omega)).mono ?_
          rintro e w3 ⟨⟨u, rfl⟩, hb', hs'⟩
          have hszw3 := hs'.size
          replace hB := hB.trans (hs'.below (by omega) (fun x hx => by have := hTB x hx; omega))
          replace L := L.keep (hs'.block _ L.lt (fun hx => by have := hTB _ hx; omega))
          replace hbl : ∃ T, BldAt (w.heap.size + 1) T (w.heap.size + 1) (y ++ [32, 43]) w3 := ⟨_, hb'⟩
          have hwzw3 : w.heap.size + 1 < w3.heap.size := by omega
          clear hT hTB hb' hs' T
          obtain ⟨y1, HYy1⟩ : ∃ yv : List UInt8, Hid (yv = y ++ [32, 43]) := ⟨_, Lib.hid rfl⟩
          rw [← HYy1.out] at hbl
          have hyl1 : y1.length ≤ 47 + 1000 * k + 100 * j := by rw [HYy1.out]; simp only [List.length_append, List.length_cons, List.length_nil]; omega
          have HY2 : Hid (y1 = autT t a ac nx k ++ (staT ar nr j ++ sgnT true) ++ rowT row 0) := by
            show _ = _
            rw [HYy1.out, HY.out]
            simp only [List.append_assoc, rowT, sgnT, List.append_nil]
            rfl
          clear HYy1 HY z0
          have l3 := L.c3
          have b0' := (hB.cell (p := ⟨ub, uo + k, none⟩) hul).trans b0
          have r0' := (hB.cell (p := ⟨vb, vo + j, none⟩) hvl).trans r0
          go_wp2_with fail
          clear l3 b0' r0'
          obtain ⟨wm, rfl⟩ : ∃ v, v = wr := ⟨_, rfl⟩
          go_loopw [52] (fun i wr => ∃ (l : Nat) (x : List UInt8), l ≤ row.length ∧ i = .int .i64 l ∧ Hid (x = autT t a ac nx k ++ (staT ar nr j ++ sgnT true) ++ rowT row l) ∧ x.length ≤ 47 + 1000 * k + 100 * j + 10 * l ∧
              (∃ T, BldAt (w.heap.size + 1) T (w.heap.size + 1) x wr) ∧ w.heap.size + 1 < wr.heap.size ∧ Blk wr w.heap.size 53 [.int .i64 t, .int .i64 a, .slice (some ⟨sb, so, none⟩) ac.length c, .slice (some ⟨ub, uo, none⟩) nx.length d] ∧ Below w.heap.size w wr) (fun i _ => row.length - (intOf i).toNat)
          case atStart => exact ⟨0, y1, by omega, rfl, HY2, by omega, hbl, by omega, L, hB⟩
          case round =>
            clear L hB HY2 hbl
            obtain ⟨l, x, hl, rfl, HX, hxl, hbl, hwz, L, hB⟩ := hrel
            by_cases hll : l < row.length
            · obtain ⟨zz, hzz⟩ : ∃ e, row[l]? = some e := ⟨_, List.getElem?_eq_getElem hll⟩
              obtain ⟨tb, to', rfl⟩ := nest_some (f := D.int) rr (by omega)
              obtain ⟨hz1, hz2⟩ := Hrow2.out l zz hzz
              obtain ⟨htl, z0⟩ := int_in rr hzz
              have z0 := (hB.cell (p := ⟨tb, to' + l, none⟩) htl).trans z0
              have Hs := Lib.hid (rowT_succ hzz)
              have hlz := Int.natCast_nonneg l
              have hlb : (l : Int) < (row.length : Int) := by omega
              clear hzz
              by_cases hneg : zz < 0
              · go_wp2_with fail
                clear z0
                -- the text S is written behind Z: Y
                obtain ⟨T, hT⟩ := hbl
                have hTB := hT.set.2
                refine (WriteString_i (s := [58, 46]) hT (by simp only [List.length_cons, List.length_nil]; omega) (by omega)).mono ?_
                rintro e w4 ⟨⟨u, rfl⟩, hb', hs'⟩
                have hszw4 := hs'.size
                replace hB := hB.trans (hs'.below (by omega) (fun x hx => by have := hTB x hx; omega))
                replace L := L.keep (hs'.block _ L.lt (fun hx => by have := hTB _ hx; omega))
                replace hbl : ∃ T, BldAt (w.heap.size + 1) T (w.heap.size + 1) (x ++ [58, 46]) w4 := ⟨_, hb'⟩
                have hwzw4 : w.heap.size + 1 < w4.heap.size := by omega
                clear hT hTB hb' hs' T
                obtain ⟨x', HYx'⟩ : ∃ yv : List UInt8, Hid (yv = x ++ [58, 46]) := ⟨_, Lib.hid rfl⟩
                rw [← HYx'.out] at hbl
                have hxl' : x'.length ≤ 47 + 1000 * k + 100 * j + 10 * (l + 1) := by rw [HYx'.out]; simp only [List.length_append, List.length_cons, List.length_nil]; omega
                have HN : Hid (x' = autT t a ac nx k ++ (staT ar nr j ++ sgnT true) ++ rowT row (l + 1)) := by
                  show _ = _
                  rw [HYx'.out, HX.out, Hs.out, sucT, if_pos (by omega)]
                  simp only [List.append_assoc]
                clear HYx' HX Hs
                go_wp2_with fail
                go_roundw
                case rel => exact ⟨l + 1, x', by omega, by go_num, HN, hxl', hbl, by omega, L, hB⟩
                case measure => simp [intOf]; omega
              · have hdl := dig_len2 (z := zz) (by omega) (by omega)
                obtain ⟨q1, HQ1, Hc1⟩ := cat_l (P := Tryd.prog) (s := { data := #[58] }) [58] (dig zz) rfl (by simp only [List.length_cons, List.length_nil]; omega)
                have hq1 : q1.length ≤ 3 := by rw [HQ1.out]; simp only [List.length_append, List.length_cons, List.length_nil]; omega
                go_wp2_with fail
                refine (decimal_z (z := zz) (by omega) (by omega)).mono ?_
                rintro e w9 ⟨rfl, hb9⟩
                have h9z := hb9.size
                obtain ⟨T, hT⟩ := hbl
                replace hT := hT.below hb9
                replace hB := hB.trans (hb9.mono (by omega))
                replace L := L.below hb9
                clear hb9 z0
                go_wp2_with fail
                have hTB := hT.set.2
                refine (WriteString_i (s := q1) hT (by omega) (by omega)).mono ?_
                rintro e w4 ⟨⟨u, rfl⟩, hb', hs'⟩
                have hszw4 := hs'.size
                replace hB := hB.trans (hs'.below (by omega) (fun x hx => by have := hTB x hx; omega))
                replace L := L.keep (hs'.block _ L.lt (fun hx => by have := hTB _ hx; omega))
                replace hbl : ∃ T, BldAt (w.heap.size + 1) T (w.heap.size + 1) (x ++ q1) w4 := ⟨_, hb'⟩
                have hwzw4 : w.heap.size + 1 < w4.heap.size := by omega
                clear hT hTB hb' hs' T
                obtain ⟨x', HYx'⟩ : ∃ yv : List UInt8, Hid (yv = x ++ q1) := ⟨_, Lib.hid rfl⟩
                rw [← HYx'.out] at hbl
                have hxl' : x'.length ≤ 47 + 1000 * k + 100 * j + 10 * (l + 1) := by rw [HYx'.out]; simp only [List.length_append]; omega
                have HN : Hid (x' = autT t a ac nx k ++ (staT ar nr j ++ sgnT true) ++ rowT row (l + 1)) := by
                  show _ = _
                  rw [HYx'.out, HX.out, Hs.out, HQ1.out, sucT, if_neg (by omega)]
                  simp only [List.append_assoc]
                clear HYx' HX Hs HQ1
                go_wp2_with fail
                go_roundw
                case rel => exact ⟨l + 1, x', by omega, by go_num, HN, hxl', hbl, by omega, L, hB⟩
                case measure => simp [intOf]; omega
            · obtain rfl : l = row.length := by omega
              have HN : Hid (x = autT t a ac nx k ++ staT ar nr (j + 1)) := by
                show _ = _
                rw [HX.out, Hst.out]
                simp only [List.append_assoc]
              clear HX
              go_wp2_with fail
              go_roundw
              case rel => exact ⟨j + 1, x, by omega, by go_num, HN, by omega, hbl, hwz, L, hB⟩
              case measure => simp [intOf]; omega
set_option maxHeartbeats 2000000 in
theorem implAutomatonText_i {t a : Int} {ac : List (List Bool)} {nx : List (List (List Int))} {s u : Option Addr} {c d : Nat} {w : World} (hr : Rd w (bbD ac) (.slice s ac.length c)) (hq : Rd w (iiiD nx) (.slice u nx.length d)) :
    Calls Tryd.prog 21 #[.agg #[.int .i64 t, .int .i64 a, .slice s ac.length c, .slice u nx.length d]] w fun e w' => e = .returned (.string (bs (atx t a ac nx))) ∧ Below w.heap.size w w' := by
  go_enter Tryd.func21, Tryd.ntmps21
  go_wp2_with fail
  have L := Blk.new4 w 53 (.int .i64 t) (.int .i64 a) (.slice s ac.length c) (.slice u nx.length d)
  have hB : Below w.heap.size w (w.alloc (.cells #[.int .i64 t, .int .i64 a, .slice s ac.length c, .slice u nx.length d] 53)) := by (repeat' (first | exact Below.refl _ _ | assumption | (refine Below.alloc ?_ (by first | omega | (simp; done) | (simp; omega)) _) | (refine Below.drew ?_) | (refine Below.setCell ?_ (by first | omega | (simp; done) | (simp; omega)) _)))
  have hB0 := hB
  generalize (w.alloc (.cells #[.int .i64 t, .int .i64 a, .slice s ac.length c, .slice u nx.length d] 53)) = v0 at L hB hB0 ⊢
  have l0 := L.c0
  have l1 := L.c1
  have l2 := L.c2
  have l3 := L.c3
  have ltL := L.lt
  go_wp2_with fail
  refine (implValidAutomaton_i (hr.below hB) (hq.below hB)).mono ?_
  rintro x w1 ⟨rfl, hb⟩
  clear l0 l1 l2 l3 ltL
  replace hB := Below.on hB hb hB.size
  replace L := L.below hb
  clear hb
  have szW1 := hB.size
  cases hs1 : autB t a ac nx
  · have l0 := L.c0
    have l1 := L.c1
    have l2 := L.c2
    have l3 := L.c3
    have ltL := L.lt
    go_wp2_with fail
    go_ret
    exact ⟨by simp only [atx, hs1]; rfl, hB⟩
  have Hs1 := Lib.hid hs1
  clear hs1
  have l0 := L.c0
  have l1 := L.c1
  have l2 := L.c2
  have l3 := L.c3
  have ltL := L.lt
  go_wp2_with fail
  refine (automatonText_i (hr.below hB) (hq.below hB) (autB_true.1 Hs1.out)).mono ?_
  rintro x w2 ⟨rfl, hb⟩
  clear l0 l1 l2 l3 ltL
  replace hB := Below.on hB hb hB.size
  replace L := L.below hb
  clear hb
  have szW2 := hB.size
  have l0 := L.c0
  have l1 := L.c1
  have l2 := L.c2
  have l3 := L.c3
  have ltL := L.lt
  go_wp2_with fail
  go_ret
  exact ⟨by simp only [atx, Hs1.out]; rfl, hB⟩
end Go.Proofs.YtahehcalmbmbpaaDoor
