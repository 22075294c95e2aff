/-
  Parts of a proof, joined: LawLengthsOf. No condition.
-/
import Derived.Test.YtjlmdhoajfdkbaaGreatDoorPk24
import Derived.Test.YtjlmdhoajfdkbaaGreatDoorPk38
namespace Go.Proofs.YtjlmdhoajfdkbaaGreatDoor
set_option linter.unusedVariables false
set_option linter.unusedSimpArgs false
open Go.ChangeShapes Go.WideShapes Go.ChangeAt Go.RowKit
set_option maxRecDepth 100000 in
set_option maxHeartbeats 16000000 in
theorem law_LengthsOf (t0 a0 : Int) (k1 n1 : Int) (ks1 : List Ex) (s1 : Option Addr) (c1 : Nat) (w : World) (hr1 : Rd w (kidsD ks1) (.slice s1 ks1.length c1)) :
  Calls Tryz.prog 10 #[.agg #[.int .i64 t0, .int .i64 a0], .agg #[.int .i64 k1, .int .i64 n1, .slice s1 ks1.length c1]] w fun e w' => e = .returned (.bool true) ∧ Below w.heap.size w w' := by
 have ef1 : eqb (Ex.mk k1 n1 ks1) (Ex.mk k1 n1 ks1) = true := by simp [eqb_true]
 have efR : eqb (lnR t0 a0 (.mk k1 n1 ks1)) (lnR t0 a0 (.mk k1 n1 ks1)) = true := by simp [eqb_true]
 go_enter Tryz.func10, Tryz.ntmps10
 go_wp2_with fail
 have L0 := (Blk.new2 w 23 (.int .i64 t0) (.int .i64 a0)).alloc (.cells #[.int .i64 k1, .int .i64 n1, .slice s1 ks1.length c1] 26)
 have L1 := Blk.new3 (w.alloc (.cells #[.int .i64 t0, .int .i64 a0] 23)) 26 (.int .i64 k1) (.int .i64 n1) (.slice s1 ks1.length c1)
 simp at L1
 have hB : Below w.heap.size w ((w.alloc (.cells #[.int .i64 t0, .int .i64 a0] 23)).alloc (.cells #[.int .i64 k1, .int .i64 n1, .slice s1 ks1.length c1] 26)) := by (repeat' first | exact Below.refl _ _ | assumption | apply Below.alloc | apply Below.drew | apply Below.setCell | omega | (simp; done) | (simp; omega))
 generalize ((w.alloc (.cells #[.int .i64 t0, .int .i64 a0] 23)).alloc (.cells #[.int .i64 k1, .int .i64 n1, .slice s1 ks1.length c1] 26)) = v0 at L0 L1 hB ⊢
 have lt_v0_L0 := L0.lt
 have lt_v0_L1 := L1.lt
 have szB := hB.size
 have l0c0 := L0.c0
 have l0c1 := L0.c1
 have l1c0 := L1.c0
 have l1c1 := L1.c1
 have l1c2 := L1.c2
 have ltL0 := L0.lt
 have ltL1 := L1.lt
 go_wp2_with fail
 refine (szExpr_i (hr1.below hB) (by omega) (by omega)).mono ?_
 rintro e v1 ⟨⟨r1, rfl, ra1, rb1, rc1⟩, hb⟩
 clear l0c0 l0c1 l1c0 l1c1 l1c2 ltL0 ltL1
 have sz_v0_v1 := (hb).size
 replace L0 := L0.below hb
 replace L1 := L1.below hb
 replace hB := Below.on hB hb hB.size
 clear hb
 have l0c0 := L0.c0
 have l0c1 := L0.c1
 have l1c0 := L1.c0
 have l1c1 := L1.c1
 have l1c2 := L1.c2
 have ltL0 := L0.lt
 have ltL1 := L1.lt
 by_cases hneg1 : r1 < 0
 ·
  go_wp2_with fail
  go_ret
  exact ⟨rfl, hB⟩
 have hd1 : decide (r1 < 0) = false := by simpa using hneg1
 have rd1 := rc1 (by omega)
 clear rc1
 have hsz1 : Ex.sizeL ks1 ≤ 1048576 := by omega
 have bX := lnR_len t0 a0 (.mk k1 n1 ks1)
 clear l0c0 l0c1 l1c0 l1c1 l1c2 ltL0 ltL1
 have l0c0 := L0.c0
 have l0c1 := L0.c1
 have l1c0 := L1.c0
 have l1c1 := L1.c1
 have l1c2 := L1.c2
 have ltL0 := L0.lt
 have ltL1 := L1.lt
 go_wp2_with fail
 have hB0 := hB
 refine region_rs [] [] (fun _ _ => False) (v1.heap.size) (fun i iv vs wx => match i with
  | 0 => vs 0 = .agg #[.int .i64 t0, .int .i64 a0]
  | 1 => vs 1 = .agg #[.int .i64 t0, .int .i64 a0]
  | 2 => vs 2 = .agg #[.int .i64 k1, .int .i64 n1, .slice s1 ks1.length c1]
  | 3 => ∃ sxza1 cxza1, vs 3 = .agg #[.int .i64 k1, .int .i64 n1, .slice sxza1 ks1.length cxza1] ∧ FreshIn (iv 3) wx [(kidsD ks1)] [.slice sxza1 ks1.length cxza1]
  | 4 => ∃ zaa zac, vs 4 = .tuple #[.slice zaa (lnR t0 a0 (.mk k1 n1 ks1)).length zac, .int .i64 (auC t0 a0 (.mk k1 n1 ks1))] ∧ FreshIn (iv 4) wx [intsD (lnR t0 a0 (.mk k1 n1 ks1))] [.slice zaa (lnR t0 a0 (.mk k1 n1 ks1)).length zac]
  | 5 => vs 5 = vs 4
  | 6 => vs 6 = tupAt (vs 5) 0
  | 7 => vs 7 = tupAt (vs 5) 1
  | 8 => vs 8 = vs 6
  | 9 => vs 9 = vs 7
  | _ => True) (fun i iv vs => match i with
  | 0 => vs 0 = .agg #[.int .i64 t0, .int .i64 a0]
  | 1 => vs 1 = .agg #[.int .i64 t0, .int .i64 a0]
  | 2 => vs 2 = .agg #[.int .i64 k1, .int .i64 n1, .slice s1 ks1.length c1]
  | 3 => ∃ sxza1 cxza1, vs 3 = .agg #[.int .i64 k1, .int .i64 n1, .slice sxza1 ks1.length cxza1]
  | 4 => ∃ zaa zac, vs 4 = .tuple #[.slice zaa (lnR t0 a0 (.mk k1 n1 ks1)).length zac, .int .i64 (auC t0 a0 (.mk k1 n1 ks1))]
  | 5 => vs 5 = vs 4
  | 6 => vs 6 = tupAt (vs 5) 0
  | 7 => vs 7 = tupAt (vs 5) 1
  | 8 => vs 8 = vs 6
  | 9 => vs 9 = vs 7
  | _ => True) (by kernel_rfl) (by kernel_rfl) [0, 1, 2, 3, 4, 5, 6, 7, 8, 9] (by kernel_rfl) ?hbase ?hGb ?hG ?hJ ?hE ?hEE ?hstep ?hQ
 case hbase => first | exact Nat.le_refl _ | omega | (simp; omega)
 case hGb =>
  exact fun _ _ h => h.elim
 case hG =>
  exact fun _ _ _ h => h.elim
 case hJ =>
  intro i hi iv iv' vs vs' wx wx' ha hv hz hk hj
  simp only [List.mem_cons, List.not_mem_nil, or_false] at hi
  rcases hi with rfl | rfl | rfl | rfl | rfl | rfl | rfl | rfl | rfl | rfl
  ·
   exact (hv.out 0 (mem_of (by kernel_rfl))).symm.trans hj
  ·
   exact (hv.out 1 (mem_of (by kernel_rfl))).symm.trans hj
  ·
   exact (hv.out 2 (mem_of (by kernel_rfl))).symm.trans hj
  ·
   have e3 := hv.out 3 (mem_of (by kernel_rfl))
   have g3 := ha.out 3 (mem_of (by kernel_rfl))
   obtain ⟨sxza1, cxza1, q1, q2⟩ := hj
   exact ⟨sxza1, cxza1, e3 ▸ q1, g3 ▸ q2.keep (fun b hb h1 h2 => hk.out b hb (foot_own h1 h2))⟩
  ·
   have e4 := hv.out 4 (mem_of (by kernel_rfl))
   have g4 := ha.out 4 (mem_of (by kernel_rfl))
   obtain ⟨zaa, zac, q1, q2⟩ := hj
   exact ⟨zaa, zac, e4 ▸ q1, g4 ▸ q2.keep (fun b hb h1 h2 => hk.out b hb (foot_own h1 h2))⟩
  ·
   have e4 := hv.out 4 (mem_of (by kernel_rfl))
   have e5 := hv.out 5 (mem_of (by kernel_rfl))
   have hj' : vs 5 = vs 4 := hj
   show vs' 5 = vs' 4
   rw [← e4, ← e5]
   exact hj'
  ·
   have e5 := hv.out 5 (mem_of (by kernel_rfl))
   have e6 := hv.out 6 (mem_of (by kernel_rfl))
   have hj' : vs 6 = tupAt (vs 5) 0 := hj
   show vs' 6 = tupAt (vs' 5) 0
   rw [← e5, ← e6]
   exact hj'
  ·
   have e5 := hv.out 5 (mem_of (by kernel_rfl))
   have e7 := hv.out 7 (mem_of (by kernel_rfl))
   have hj' : vs 7 = tupAt (vs 5) 1 := hj
   show vs' 7 = tupAt (vs' 5) 1
   rw [← e5, ← e7]
   exact hj'
  ·
   have e6 := hv.out 6 (mem_of (by kernel_rfl))
   have e8 := hv.out 8 (mem_of (by kernel_rfl))
   have hj' : vs 8 = vs 6 := hj
   show vs' 8 = vs' 6
   rw [← e6, ← e8]
   exact hj'
  ·
   have e7 := hv.out 7 (mem_of (by kernel_rfl))
   have e9 := hv.out 9 (mem_of (by kernel_rfl))
   have hj' : vs 9 = vs 7 := hj
   show vs' 9 = vs' 7
   rw [← e7, ← e9]
   exact hj'
 case hE =>
  intro i hi iv vs wx hj
  simp only [List.mem_cons, List.not_mem_nil, or_false] at hi
  rcases hi with rfl | rfl | rfl | rfl | rfl | rfl | rfl | rfl | rfl | rfl
  ·
   exact hj
  ·
   exact hj
  ·
   exact hj
  ·
   obtain ⟨sxza1, cxza1, q1, -⟩ := hj
   exact ⟨sxza1, cxza1, q1⟩
  ·
   obtain ⟨zaa, zac, q1, -⟩ := hj
   exact ⟨zaa, zac, q1⟩
  ·
   exact hj
  ·
   exact hj
  ·
   exact hj
  ·
   exact hj
  ·
   exact hj
 case hEE =>
  intro i hi iv iv' vs vs' ha hv hj
  simp only [List.mem_cons, List.not_mem_nil, or_false] at hi
  rcases hi with rfl | rfl | rfl | rfl | rfl | rfl | rfl | rfl | rfl | rfl
  ·
   exact (hv.out 0 (mem_of (by kernel_rfl))).symm.trans hj
  ·
   exact (hv.out 1 (mem_of (by kernel_rfl))).symm.trans hj
  ·
   exact (hv.out 2 (mem_of (by kernel_rfl))).symm.trans hj
  ·
   have e3 := hv.out 3 (mem_of (by kernel_rfl))
   have hj' : ∃ sxza1 cxza1, vs 3 = .agg #[.int .i64 k1, .int .i64 n1, .slice sxza1 ks1.length cxza1] := hj
   show ∃ sxza1 cxza1, vs' 3 = .agg #[.int .i64 k1, .int .i64 n1, .slice sxza1 ks1.length cxza1]
   rw [← e3]
   exact hj'
  ·
   have e4 := hv.out 4 (mem_of (by kernel_rfl))
   have hj' : ∃ zaa zac, vs 4 = .tuple #[.slice zaa (lnR t0 a0 (.mk k1 n1 ks1)).length zac, .int .i64 (auC t0 a0 (.mk k1 n1 ks1))] := hj
   show ∃ zaa zac, vs' 4 = .tuple #[.slice zaa (lnR t0 a0 (.mk k1 n1 ks1)).length zac, .int .i64 (auC t0 a0 (.mk k1 n1 ks1))]
   rw [← e4]
   exact hj'
  ·
   have e4 := hv.out 4 (mem_of (by kernel_rfl))
   have e5 := hv.out 5 (mem_of (by kernel_rfl))
   have hj' : vs 5 = vs 4 := hj
   show vs' 5 = vs' 4
   rw [← e4, ← e5]
   exact hj'
  ·
   have e5 := hv.out 5 (mem_of (by kernel_rfl))
   have e6 := hv.out 6 (mem_of (by kernel_rfl))
   have hj' : vs 6 = tupAt (vs 5) 0 := hj
   show vs' 6 = tupAt (vs' 5) 0
   rw [← e5, ← e6]
   exact hj'
  ·
   have e5 := hv.out 5 (mem_of (by kernel_rfl))
   have e7 := hv.out 7 (mem_of (by kernel_rfl))
   have hj' : vs 7 = tupAt (vs 5) 1 := hj
   show vs' 7 = tupAt (vs' 5) 1
   rw [← e5, ← e7]
   exact hj'
  ·
   have e6 := hv.out 6 (mem_of (by kernel_rfl))
   have e8 := hv.out 8 (mem_of (by kernel_rfl))
   have hj' : vs 8 = vs 6 := hj
   show vs' 8 = vs' 6
   rw [← e6, ← e8]
   exact hj'
  ·
   have e7 := hv.out 7 (mem_of (by kernel_rfl))
   have e9 := hv.out 9 (mem_of (by kernel_rfl))
   have hj' : vs 9 = vs 7 := hj
   show vs' 9 = vs' 7
   rw [← e7, ← e9]
   exact hj'
 case hstep =>
  intro i hi opr ho iv vs w1 hB hS hSo hd he hbd hsep hun K hK
  simp only [List.mem_cons, List.not_mem_nil, or_false] at hi
  have hzB := hB.size
  have hBw := Below.on hB0 hB hB0.size
  have L0s := L0.below hB
  have l0s0 := L0s.c0
  have l0s1 := L0s.c1
  have ltL0s := L0s.lt
  have L1s := L1.below hB
  have l1s0 := L1s.c0
  have l1s1 := L1s.c1
  have l1s2 := L1s.c2
  have ltL1s := L1s.lt
  generalize hA : putFrom _ 0 vs _ = A at hK ⊢
  simp only [putFrom, puts] at hA
  rcases hi with rfl | rfl | rfl | rfl | rfl | rfl | rfl | rfl | rfl | rfl
  all_goals
   simp at ho
   subst ho
   subst hA
  ·
   go_wp2_with fail
   exact Onward.mk (hK (.agg #[.int .i64 t0, .int .i64 a0]) _ _ (fun h => by cases h) (by first | rfl | (simp only [puts])) (Spares.refl _) (fun iv' _ _ => rfl))
  ·
   have h0 : vs 0 = .agg #[.int .i64 t0, .int .i64 a0] := hd.out 0 (mem_of (by kernel_rfl)) (by decide) (by kernel_rfl)
   go_wp2_with fail
   refine (toSig_any t0 a0 _).mono ?_
   rintro e w2 ⟨rfl, hb⟩
   go_wp2_with fail
   exact Onward.mk (hK (.agg #[.int .i64 t0, .int .i64 a0]) _ _ (fun h => by cases h) (by first | rfl | (simp only [puts, h0])) (Spares.of_below hb) (fun iv' _ _ => rfl))
  ·
   go_wp2_with fail
   exact Onward.mk (hK (.agg #[.int .i64 k1, .int .i64 n1, .slice s1 ks1.length c1]) _ _ (fun h => by cases h) (by first | rfl | (simp only [puts])) (Spares.refl _) (fun iv' _ _ => rfl))
  ·
   have h2 : vs 2 = .agg #[.int .i64 k1, .int .i64 n1, .slice s1 ks1.length c1] := hd.out 2 (mem_of (by kernel_rfl)) (by decide) (by kernel_rfl)
   go_wp2_with fail
   refine (toExpr_i (hr1.below hBw) hsz1).mono ?_
   rintro e w2 ⟨sxza1, cxza1, rfl, hf, hb⟩
   go_wp2_with fail
   exact Onward.mk (hK (.agg #[.int .i64 k1, .int .i64 n1, .slice sxza1 ks1.length cxza1]) _ _ (fun h => by cases h) (by first | rfl | (simp only [puts, h2])) (Spares.of_below hb) (fun iv' _ hi => ⟨sxza1, cxza1, rfl, by rw [hi]; exact Freshs.stretch (hf)⟩))
  ·
   have h1 : vs 1 = .agg #[.int .i64 t0, .int .i64 a0] := hd.out 1 (mem_of (by kernel_rfl)) (by decide) (by kernel_rfl)
   obtain ⟨sxza1, cxza1, h3, f3⟩ := hd.out 3 (mem_of (by kernel_rfl)) (by decide) (by kernel_rfl)
   go_wp2_with fail
   refine (specLengthsOf_i (f3.rds).one hsz1).mono ?_
   rintro e w2 ⟨zaa, zac, rfl, hf, hb⟩
   go_wp2_with fail
   exact Onward.mk (hK (.tuple #[.slice zaa (lnR t0 a0 (.mk k1 n1 ks1)).length zac, .int .i64 (auC t0 a0 (.mk k1 n1 ks1))]) _ _ (fun h => by cases h) (by first | rfl | (simp only [puts, h1, h3])) (Spares.of_below hb) (fun iv' _ hi => ⟨zaa, zac, rfl, by rw [hi]; exact Freshs.stretch (hf)⟩))
  ·
   obtain ⟨zaa, zac, h4, f4⟩ := hd.out 4 (mem_of (by kernel_rfl)) (by decide) (by kernel_rfl)
   go_wp2_with fail
   refine Onward.mk (hK ?val1_5 _ _ (fun h => by cases h) ?eqA (Spares.refl _) (fun iv' _ _ => ?ja))
   case eqA => first | rfl | (simp only [puts, h4]; rfl)
   case ja => show _ = vs 4; simp only [h4]; rfl
  ·
   have h5 : vs 5 = vs 4 := hd.out 5 (mem_of (by kernel_rfl)) (by decide) (by kernel_rfl)
   obtain ⟨zaa, zac, h4, f4⟩ := hd.out 4 (mem_of (by kernel_rfl)) (by decide) (by kernel_rfl)
   go_wp2_with fail
   refine Onward.mk (hK ?val1_6 _ _ (fun h => by cases h) ?eqA (Spares.refl _) (fun iv' _ _ => ?ja))
   case eqA => first | rfl | (simp only [puts, h5, h4]; rfl)
   case ja => show _ = tupAt (vs 5) 0; simp only [h5, h4, tupAt]; rfl
  ·
   have h5 : vs 5 = vs 4 := hd.out 5 (mem_of (by kernel_rfl)) (by decide) (by kernel_rfl)
   obtain ⟨zaa, zac, h4, f4⟩ := hd.out 4 (mem_of (by kernel_rfl)) (by decide) (by kernel_rfl)
   go_wp2_with fail
   refine Onward.mk (hK ?val1_7 _ _ (fun h => by cases h) ?eqA (Spares.refl _) (fun iv' _ _ => ?ja))
   case eqA => first | rfl | (simp only [puts, h5, h4]; rfl)
   case ja => show _ = tupAt (vs 5) 1; simp only [h5, h4, tupAt]; rfl
  ·
   have h6 : vs 6 = tupAt (vs 5) 0 := hd.out 6 (mem_of (by kernel_rfl)) (by decide) (by kernel_rfl)
   have h5 : vs 5 = vs 4 := hd.out 5 (mem_of (by kernel_rfl)) (by decide) (by kernel_rfl)
   obtain ⟨zaa, zac, h4, f4⟩ := hd.out 4 (mem_of (by kernel_rfl)) (by decide) (by kernel_rfl)
   go_wp2_with fail
   refine Onward.mk (hK ?val1_8 _ _ (fun h => by cases h) ?eqA (Spares.refl _) (fun iv' _ _ => ?ja))
   case eqA => first | rfl | (simp only [puts, h6, h5, h4]; rfl)
   case ja => show _ = vs 6; simp only [h6, h5, h4]; rfl
  ·
   have h7 : vs 7 = tupAt (vs 5) 1 := hd.out 7 (mem_of (by kernel_rfl)) (by decide) (by kernel_rfl)
   have h5 : vs 5 = vs 4 := hd.out 5 (mem_of (by kernel_rfl)) (by decide) (by kernel_rfl)
   obtain ⟨zaa, zac, h4, f4⟩ := hd.out 4 (mem_of (by kernel_rfl)) (by decide) (by kernel_rfl)
   go_wp2_with fail
   refine Onward.mk (hK ?val1_9 _ _ (fun h => by cases h) ?eqA (Spares.refl _) (fun iv' _ _ => ?ja))
   case eqA => first | rfl | (simp only [puts, h7, h5, h4]; rfl)
   case ja => show _ = vs 7; simp only [h7, h5, h4]; rfl
 case hQ =>
  intro iv vs wx hB hSp hd he hbd hsep
  have hzB := hB.size
  have h0 : vs 0 = .agg #[.int .i64 t0, .int .i64 a0] := hd.out 0 (mem_of (by kernel_rfl)) (not_eaten (by kernel_rfl))
  have h1 : vs 1 = .agg #[.int .i64 t0, .int .i64 a0] := hd.out 1 (mem_of (by kernel_rfl)) (not_eaten (by kernel_rfl))
  have h2 : vs 2 = .agg #[.int .i64 k1, .int .i64 n1, .slice s1 ks1.length c1] := hd.out 2 (mem_of (by kernel_rfl)) (not_eaten (by kernel_rfl))
  obtain ⟨sxza1, cxza1, h3, f3⟩ := hd.out 3 (mem_of (by kernel_rfl)) (not_eaten (by kernel_rfl))
  obtain ⟨zaa, zac, h4, f4⟩ := hd.out 4 (mem_of (by kernel_rfl)) (not_eaten (by kernel_rfl))
  have h5 : vs 5 = vs 4 := hd.out 5 (mem_of (by kernel_rfl)) (not_eaten (by kernel_rfl))
  have h6 : vs 6 = tupAt (vs 5) 0 := hd.out 6 (mem_of (by kernel_rfl)) (not_eaten (by kernel_rfl))
  have h7 : vs 7 = tupAt (vs 5) 1 := hd.out 7 (mem_of (by kernel_rfl)) (not_eaten (by kernel_rfl))
  have h8 : vs 8 = vs 6 := hd.out 8 (mem_of (by kernel_rfl)) (not_eaten (by kernel_rfl))
  have h9 : vs 9 = vs 7 := hd.out 9 (mem_of (by kernel_rfl)) (not_eaten (by kernel_rfl))
  simp only [putFrom, puts]
  have k0 : vs 8 = .slice zaa (lnR t0 a0 (.mk k1 n1 ks1)).length zac := by rw [h8, h6, h5, h4]; rfl
  have k1 : vs 9 = .int .i64 (auC t0 a0 (.mk k1 n1 ks1)) := by rw [h9, h7, h5, h4]; rfl
  have bc := (hbd.out 4 (mem_of (by kernel_rfl)))
  obtain ⟨Fza, oza, nza, qF⟩ := f4
  have lza : ∀ b ∈ Fza, v1.heap.size ≤ b := fun b hm => by have h1 := qF b hm; omega
  have uza : ∀ b ∈ Fza, b < wx.heap.size := fun b hm => by have h1 := qF b hm; omega
  simp only [k0, k1]
  clear hd he hbd hsep k0 k1 bc qF hSp h0 h1 h2 h3 h4 h5 h6 h7 h8 h9
  obtain ⟨v2, rfl⟩ : ∃ v, v = wx := ⟨_, rfl⟩
  have hb := hB
  replace hB := hB0
  clear l0c0 l0c1 l1c0 l1c1 l1c2 ltL0 ltL1
  have sz_v1_v2 := (hb).size
  replace L0 := L0.below hb
  replace L1 := L1.below hb
  replace hB := Below.on hB hb hB.size
  clear hb
  have lt_v2_L0 := L0.lt
  have lt_v2_L1 := L1.lt
  have l0c0 := L0.c0
  have l0c1 := L0.c1
  have l1c0 := L1.c0
  have l1c1 := L1.c1
  have l1c2 := L1.c2
  have ltL0 := L0.lt
  have ltL1 := L1.lt
  go_wp2_with fail
  refine (toExpr_i (hr1.below hB) hsz1).mono ?_
  rintro e v3 ⟨sxx1, cxx1, rfl, ⟨FX1, oX1, nX1, lX1⟩, hb⟩
  have uX1 := oX1.lt
  clear l0c0 l0c1 l1c0 l1c1 l1c2 ltL0 ltL1
  have sz_v2_v3 := (hb).size
  replace L0 := L0.below hb
  replace L1 := L1.below hb
  replace oza := oza.keep fun b hm => (hb).block b (oza.lt b hm)
  replace hB := Below.on hB hb hB.size
  clear hb
  have l0c0 := L0.c0
  have l0c1 := L0.c1
  have l1c0 := L1.c0
  have l1c1 := L1.c1
  have l1c2 := L1.c2
  have ltL0 := L0.lt
  have ltL1 := L1.lt
  go_wp2_with fail
  have X1 := Blk.new3 v3 30 (.int .i64 k1) (.int .i64 n1) (.slice sxx1 ks1.length cxx1)
  clear l0c0 l0c1 l1c0 l1c1 l1c2 ltL0 ltL1
  replace L0 := L0.alloc (.cells #[.int .i64 k1, .int .i64 n1, .slice sxx1 ks1.length cxx1] 30)
  replace L1 := L1.alloc (.cells #[.int .i64 k1, .int .i64 n1, .slice sxx1 ks1.length cxx1] 30)
  replace oza := oza.keep (w' := v3.alloc (.cells #[.int .i64 k1, .int .i64 n1, .slice sxx1 ks1.length cxx1] 30)) fun b hm => Below.heap_alloc v3 _ b (oza.lt b hm)
  replace oX1 := oX1.keep (w' := v3.alloc (.cells #[.int .i64 k1, .int .i64 n1, .slice sxx1 ks1.length cxx1] 30)) fun b hm => Below.heap_alloc v3 _ b (oX1.lt b hm)
  replace hB := hB.alloc hB.size (.cells #[.int .i64 k1, .int .i64 n1, .slice sxx1 ks1.length cxx1] 30)
  have szA : (v3.alloc (.cells #[.int .i64 k1, .int .i64 n1, .slice sxx1 ks1.length cxx1] 30)).heap.size = v3.heap.size + 1 := by simp
  generalize v3.alloc (.cells #[.int .i64 k1, .int .i64 n1, .slice sxx1 ks1.length cxx1] 30) = v4 at L0 L1 X1 oza oX1 hB szA ⊢
  have sz_v4 := szA
  clear szA
  have lt_v4_L0 := L0.lt
  have lt_v4_L1 := L1.lt
  have lt_v4_X1 := X1.lt
  have l0c0 := L0.c0
  have l0c1 := L0.c1
  have l1c0 := L1.c0
  have l1c1 := L1.c1
  have l1c2 := L1.c2
  have x1c0 := X1.c0
  have x1c1 := X1.c1
  have x1c2 := X1.c2
  have ltL0 := L0.lt
  have ltL1 := L1.lt
  have ltX1 := X1.lt
  go_wp2_with fail
  clear l0c0 l0c1 l1c0 l1c1 l1c2 x1c0 x1c1 x1c2 ltL0 ltL1 ltX1
  have hB0 := hB
  refine region_rs [] [] (fun _ _ => False) (v4.heap.size) (fun i iv vs wx => match i with
   | 0 => vs 0 = .agg #[.int .i64 t0, .int .i64 a0]
   | 1 => vs 1 = .agg #[.int .i64 t0, .int .i64 a0]
   | 2 => vs 2 = .agg #[.int .i64 k1, .int .i64 n1, .slice sxx1 ks1.length cxx1]
   | 3 => ∃ zba zbc, vs 3 = .tuple #[.slice zba (lnR t0 a0 (.mk k1 n1 ks1)).length zbc, .int .i64 (auC t0 a0 (.mk k1 n1 ks1))] ∧ FreshIn (iv 3) wx [intsD (lnR t0 a0 (.mk k1 n1 ks1))] [.slice zba (lnR t0 a0 (.mk k1 n1 ks1)).length zbc]
   | 4 => vs 4 = vs 3
   | 5 => vs 5 = tupAt (vs 4) 0
   | 6 => vs 6 = tupAt (vs 4) 1
   | 7 => vs 7 = vs 5
   | 8 => vs 8 = vs 6
   | _ => True) (fun i iv vs => match i with
   | 0 => vs 0 = .agg #[.int .i64 t0, .int .i64 a0]
   | 1 => vs 1 = .agg #[.int .i64 t0, .int .i64 a0]
   | 2 => vs 2 = .agg #[.int .i64 k1, .int .i64 n1, .slice sxx1 ks1.length cxx1]
   | 3 => ∃ zba zbc, vs 3 = .tuple #[.slice zba (lnR t0 a0 (.mk k1 n1 ks1)).length zbc, .int .i64 (auC t0 a0 (.mk k1 n1 ks1))]
   | 4 => vs 4 = vs 3
   | 5 => vs 5 = tupAt (vs 4) 0
   | 6 => vs 6 = tupAt (vs 4) 1
   | 7 => vs 7 = vs 5
   | 8 => vs 8 = vs 6
   | _ => True) (by kernel_rfl) (by kernel_rfl) [0, 1, 2, 3, 4, 5, 6, 7, 8] (by kernel_rfl) ?hbase ?hGb ?hG ?hJ ?hE ?hEE ?hstep ?hQ
  case hbase => first | exact Nat.le_refl _ | omega | (simp; omega)
  case hGb =>
   exact fun _ _ h => h.elim
  case hG =>
   exact fun _ _ _ h => h.elim
  case hJ =>
   intro i hi iv iv' vs vs' wx wx' ha hv hz hk hj
   simp only [List.mem_cons, List.not_mem_nil, or_false] at hi
   rcases hi with rfl | rfl | rfl | rfl | rfl | rfl | rfl | rfl | rfl
   ·
    exact (hv.out 0 (mem_of (by kernel_rfl))).symm.trans hj
   ·
    exact (hv.out 1 (mem_of (by kernel_rfl))).symm.trans hj
   ·
    exact (hv.out 2 (mem_of (by kernel_rfl))).symm.trans hj
   ·
    have e3 := hv.out 3 (mem_of (by kernel_rfl))
    have g3 := ha.out 3 (mem_of (by kernel_rfl))
    obtain ⟨zba, zbc, q1, q2⟩ := hj
    exact ⟨zba, zbc, e3 ▸ q1, g3 ▸ q2.keep (fun b hb h1 h2 => hk.out b hb (foot_own h1 h2))⟩
   ·
    have e3 := hv.out 3 (mem_of (by kernel_rfl))
    have e4 := hv.out 4 (mem_of (by kernel_rfl))
    have hj' : vs 4 = vs 3 := hj
    show vs' 4 = vs' 3
    rw [← e3, ← e4]
    exact hj'
   ·
    have e4 := hv.out 4 (mem_of (by kernel_rfl))
    have e5 := hv.out 5 (mem_of (by kernel_rfl))
    have hj' : vs 5 = tupAt (vs 4) 0 := hj
    show vs' 5 = tupAt (vs' 4) 0
    rw [← e4, ← e5]
    exact hj'
   ·
    have e4 := hv.out 4 (mem_of (by kernel_rfl))
    have e6 := hv.out 6 (mem_of (by kernel_rfl))
    have hj' : vs 6 = tupAt (vs 4) 1 := hj
    show vs' 6 = tupAt (vs' 4) 1
    rw [← e4, ← e6]
    exact hj'
   ·
    have e5 := hv.out 5 (mem_of (by kernel_rfl))
    have e7 := hv.out 7 (mem_of (by kernel_rfl))
    have hj' : vs 7 = vs 5 := hj
    show vs' 7 = vs' 5
    rw [← e5, ← e7]
    exact hj'
   ·
    have e6 := hv.out 6 (mem_of (by kernel_rfl))
    have e8 := hv.out 8 (mem_of (by kernel_rfl))
    have hj' : vs 8 = vs 6 := hj
    show vs' 8 = vs' 6
    rw [← e6, ← e8]
    exact hj'
  case hE =>
   intro i hi iv vs wx hj
   simp only [List.mem_cons, List.not_mem_nil, or_false] at hi
   rcases hi with rfl | rfl | rfl | rfl | rfl | rfl | rfl | rfl | rfl
   ·
    exact hj
   ·
    exact hj
   ·
    exact hj
   ·
    obtain ⟨zba, zbc, q1, -⟩ := hj
    exact ⟨zba, zbc, q1⟩
   ·
    exact hj
   ·
    exact hj
   ·
    exact hj
   ·
    exact hj
   ·
    exact hj
  case hEE =>
   intro i hi iv iv' vs vs' ha hv hj
   simp only [List.mem_cons, List.not_mem_nil, or_false] at hi
   rcases hi with rfl | rfl | rfl | rfl | rfl | rfl | rfl | rfl | rfl
   ·
    exact (hv.out 0 (mem_of (by kernel_rfl))).symm.trans hj
   ·
    exact (hv.out 1 (mem_of (by kernel_rfl))).symm.trans hj
   ·
    exact (hv.out 2 (mem_of (by kernel_rfl))).symm.trans hj
   ·
    have e3 := hv.out 3 (mem_of (by kernel_rfl))
    have hj' : ∃ zba zbc, vs 3 = .tuple #[.slice zba (lnR t0 a0 (.mk k1 n1 ks1)).length zbc, .int .i64 (auC t0 a0 (.mk k1 n1 ks1))] := hj
    show ∃ zba zbc, vs' 3 = .tuple #[.slice zba (lnR t0 a0 (.mk k1 n1 ks1)).length zbc, .int .i64 (auC t0 a0 (.mk k1 n1 ks1))]
    rw [← e3]
    exact hj'
   ·
    have e3 := hv.out 3 (mem_of (by kernel_rfl))
    have e4 := hv.out 4 (mem_of (by kernel_rfl))
    have hj' : vs 4 = vs 3 := hj
    show vs' 4 = vs' 3
    rw [← e3, ← e4]
    exact hj'
   ·
    have e4 := hv.out 4 (mem_of (by kernel_rfl))
    have e5 := hv.out 5 (mem_of (by kernel_rfl))
    have hj' : vs 5 = tupAt (vs 4) 0 := hj
    show vs' 5 = tupAt (vs' 4) 0
    rw [← e4, ← e5]
    exact hj'
   ·
    have e4 := hv.out 4 (mem_of (by kernel_rfl))
    have e6 := hv.out 6 (mem_of (by kernel_rfl))
    have hj' : vs 6 = tupAt (vs 4) 1 := hj
    show vs' 6 = tupAt (vs' 4) 1
    rw [← e4, ← e6]
    exact hj'
   ·
    have e5 := hv.out 5 (mem_of (by kernel_rfl))
    have e7 := hv.out 7 (mem_of (by kernel_rfl))
    have hj' : vs 7 = vs 5 := hj
    show vs' 7 = vs' 5
    rw [← e5, ← e7]
    exact hj'
   ·
    have e6 := hv.out 6 (mem_of (by kernel_rfl))
    have e8 := hv.out 8 (mem_of (by kernel_rfl))
    have hj' : vs 8 = vs 6 := hj
    show vs' 8 = vs' 6
    rw [← e6, ← e8]
    exact hj'
  case hstep =>
   intro i hi opr ho iv vs w1 hB hS hSo hd he hbd hsep hun K hK
   simp only [List.mem_cons, List.not_mem_nil, or_false] at hi
   have hzB := hB.size
   have hBw := Below.on hB0 hB hB0.size
   have L0s := L0.below hB
   have l0s0 := L0s.c0
   have l0s1 := L0s.c1
   have ltL0s := L0s.lt
   have L1s := L1.below hB
   have l1s0 := L1s.c0
   have l1s1 := L1s.c1
   have l1s2 := L1s.c2
   have ltL1s := L1s.lt
   have X1s := X1.below hB
   have x1s0 := X1s.c0
   have x1s1 := X1s.c1
   have x1s2 := X1s.c2
   have ltX1s := X1s.lt
   generalize hA : putFrom _ 0 vs _ = A at hK ⊢
   simp only [putFrom, puts] at hA
   rcases hi with rfl | rfl | rfl | rfl | rfl | rfl | rfl | rfl | rfl
   all_goals
    simp at ho
    subst ho
    subst hA
   ·
    go_wp2_with fail
    exact Onward.mk (hK (.agg #[.int .i64 t0, .int .i64 a0]) _ _ (fun h => by cases h) (by first | rfl | (simp only [puts])) (Spares.refl _) (fun iv' _ _ => rfl))
   ·
    have h0 : vs 0 = .agg #[.int .i64 t0, .int .i64 a0] := hd.out 0 (mem_of (by kernel_rfl)) (by decide) (by kernel_rfl)
    go_wp2_with fail
    refine (toSig_any t0 a0 _).mono ?_
    rintro e w2 ⟨rfl, hb⟩
    go_wp2_with fail
    exact Onward.mk (hK (.agg #[.int .i64 t0, .int .i64 a0]) _ _ (fun h => by cases h) (by first | rfl | (simp only [puts, h0])) (Spares.of_below hb) (fun iv' _ _ => rfl))
   ·
    go_wp2_with fail
    exact Onward.mk (hK (.agg #[.int .i64 k1, .int .i64 n1, .slice sxx1 ks1.length cxx1]) _ _ (fun h => by cases h) (by first | rfl | (simp only [puts])) (Spares.refl _) (fun iv' _ _ => rfl))
   ·
    have h1 : vs 1 = .agg #[.int .i64 t0, .int .i64 a0] := hd.out 1 (mem_of (by kernel_rfl)) (by decide) (by kernel_rfl)
    have h2 : vs 2 = .agg #[.int .i64 k1, .int .i64 n1, .slice sxx1 ks1.length cxx1] := hd.out 2 (mem_of (by kernel_rfl)) (by decide) (by kernel_rfl)
    go_wp2_with fail
    refine (implLengthsOf_i (((oX1.rds.below hB)).one) hsz1).mono ?_
    rintro e w2 ⟨zba, zbc, rfl, hf, hb⟩
    go_wp2_with fail
    exact Onward.mk (hK (.tuple #[.slice zba (lnR t0 a0 (.mk k1 n1 ks1)).length zbc, .int .i64 (auC t0 a0 (.mk k1 n1 ks1))]) _ _ (fun h => by cases h) (by first | rfl | (simp only [puts, h1, h2])) (Spares.of_below hb) (fun iv' _ hi => ⟨zba, zbc, rfl, by rw [hi]; exact Freshs.stretch (hf)⟩))
   ·
    obtain ⟨zba, zbc, h3, f3⟩ := hd.out 3 (mem_of (by kernel_rfl)) (by decide) (by kernel_rfl)
    go_wp2_with fail
    refine Onward.mk (hK ?val2_4 _ _ (fun h => by cases h) ?eqA (Spares.refl _) (fun iv' _ _ => ?ja))
    case eqA => first | rfl | (simp only [puts, h3]; rfl)
    case ja => show _ = vs 3; simp only [h3]; rfl
   ·
    have h4 : vs 4 = vs 3 := hd.out 4 (mem_of (by kernel_rfl)) (by decide) (by kernel_rfl)
    obtain ⟨zba, zbc, h3, f3⟩ := hd.out 3 (mem_of (by kernel_rfl)) (by decide) (by kernel_rfl)
    go_wp2_with fail
    refine Onward.mk (hK ?val2_5 _ _ (fun h => by cases h) ?eqA (Spares.refl _) (fun iv' _ _ => ?ja))
    case eqA => first | rfl | (simp only [puts, h4, h3]; rfl)
    case ja => show _ = tupAt (vs 4) 0; simp only [h4, h3, tupAt]; rfl
   ·
    have h4 : vs 4 = vs 3 := hd.out 4 (mem_of (by kernel_rfl)) (by decide) (by kernel_rfl)
    obtain ⟨zba, zbc, h3, f3⟩ := hd.out 3 (mem_of (by kernel_rfl)) (by decide) (by kernel_rfl)
    go_wp2_with fail
    refine Onward.mk (hK ?val2_6 _ _ (fun h => by cases h) ?eqA (Spares.refl _) (fun iv' _ _ => ?ja))
    case eqA => first | rfl | (simp only [puts, h4, h3]; rfl)
    case ja => show _ = tupAt (vs 4) 1; simp only [h4, h3, tupAt]; rfl
   ·
    have h5 : vs 5 = tupAt (vs 4) 0 := hd.out 5 (mem_of (by kernel_rfl)) (by decide) (by kernel_rfl)
    have h4 : vs 4 = vs 3 := hd.out 4 (mem_of (by kernel_rfl)) (by decide) (by kernel_rfl)
    obtain ⟨zba, zbc, h3, f3⟩ := hd.out 3 (mem_of (by kernel_rfl)) (by decide) (by kernel_rfl)
    go_wp2_with fail
    refine Onward.mk (hK ?val2_7 _ _ (fun h => by cases h) ?eqA (Spares.refl _) (fun iv' _ _ => ?ja))
    case eqA => first | rfl | (simp only [puts, h5, h4, h3]; rfl)
    case ja => show _ = vs 5; simp only [h5, h4, h3]; rfl
   ·
    have h6 : vs 6 = tupAt (vs 4) 1 := hd.out 6 (mem_of (by kernel_rfl)) (by decide) (by kernel_rfl)
    have h4 : vs 4 = vs 3 := hd.out 4 (mem_of (by kernel_rfl)) (by decide) (by kernel_rfl)
    obtain ⟨zba, zbc, h3, f3⟩ := hd.out 3 (mem_of (by kernel_rfl)) (by decide) (by kernel_rfl)
    go_wp2_with fail
    refine Onward.mk (hK ?val2_8 _ _ (fun h => by cases h) ?eqA (Spares.refl _) (fun iv' _ _ => ?ja))
    case eqA => first | rfl | (simp only [puts, h6, h4, h3]; rfl)
    case ja => show _ = vs 6; simp only [h6, h4, h3]; rfl
  case hQ =>
   intro iv vs wx hB hSp hd he hbd hsep
   have hzB := hB.size
   have h0 : vs 0 = .agg #[.int .i64 t0, .int .i64 a0] := hd.out 0 (mem_of (by kernel_rfl)) (not_eaten (by kernel_rfl))
   have h1 : vs 1 = .agg #[.int .i64 t0, .int .i64 a0] := hd.out 1 (mem_of (by kernel_rfl)) (not_eaten (by kernel_rfl))
   have h2 : vs 2 = .agg #[.int .i64 k1, .int .i64 n1, .slice sxx1 ks1.length cxx1] := hd.out 2 (mem_of (by kernel_rfl)) (not_eaten (by kernel_rfl))
   obtain ⟨zba, zbc, h3, f3⟩ := hd.out 3 (mem_of (by kernel_rfl)) (not_eaten (by kernel_rfl))
   have h4 : vs 4 = vs 3 := hd.out 4 (mem_of (by kernel_rfl)) (not_eaten (by kernel_rfl))
   have h5 : vs 5 = tupAt (vs 4) 0 := hd.out 5 (mem_of (by kernel_rfl)) (not_eaten (by kernel_rfl))
   have h6 : vs 6 = tupAt (vs 4) 1 := hd.out 6 (mem_of (by kernel_rfl)) (not_eaten (by kernel_rfl))
   have h7 : vs 7 = vs 5 := hd.out 7 (mem_of (by kernel_rfl)) (not_eaten (by kernel_rfl))
   have h8 : vs 8 = vs 6 := hd.out 8 (mem_of (by kernel_rfl)) (not_eaten (by kernel_rfl))
   simp only [putFrom, puts]
   have k0 : vs 7 = .slice zba (lnR t0 a0 (.mk k1 n1 ks1)).length zbc := by rw [h7, h5, h4, h3]; rfl
   have k1 : vs 8 = .int .i64 (auC t0 a0 (.mk k1 n1 ks1)) := by rw [h8, h6, h4, h3]; rfl
   have bc := (hbd.out 3 (mem_of (by kernel_rfl)))
   obtain ⟨Fzb, ozb, nzb, qF⟩ := f3
   have lzb : ∀ b ∈ Fzb, v4.heap.size ≤ b := fun b hm => by have h1 := qF b hm; omega
   have uzb : ∀ b ∈ Fzb, b < wx.heap.size := fun b hm => by have h1 := qF b hm; omega
   simp only [k0, k1]
   clear hd he hbd hsep k0 k1 bc qF hSp h0 h1 h2 h3 h4 h5 h6 h7 h8
   obtain ⟨v5, rfl⟩ : ∃ v, v = wx := ⟨_, rfl⟩
   have hb := hB
   replace hB := hB0
   have sz_v4_v5 := (hb).size
   replace L0 := L0.below hb
   replace L1 := L1.below hb
   replace X1 := X1.below hb
   replace oza := oza.keep fun b hm => (hb).block b (oza.lt b hm)
   replace oX1 := oX1.keep fun b hm => (hb).block b (oX1.lt b hm)
   replace hB := Below.on hB hb hB.size
   clear hb
   have lt_v5_L0 := L0.lt
   have lt_v5_L1 := L1.lt
   have lt_v5_X1 := X1.lt
   have l0c0 := L0.c0
   have l0c1 := L0.c1
   have l1c0 := L1.c0
   have l1c1 := L1.c1
   have l1c2 := L1.c2
   have x1c0 := X1.c0
   have x1c1 := X1.c1
   have x1c2 := X1.c2
   have ltL0 := L0.lt
   have ltL1 := L1.lt
   have ltX1 := X1.lt
   go_wp2_with fail
   refine (eqIntsL_i ((ozb.rds).one) ((oza.rds).one)).mono ?_
   rintro e v6 ⟨rfl, hb⟩
   clear l0c0 l0c1 l1c0 l1c1 l1c2 x1c0 x1c1 x1c2 ltL0 ltL1 ltX1
   have sz_v5_v6 := (hb).size
   replace L0 := L0.below hb
   replace L1 := L1.below hb
   replace X1 := X1.below hb
   replace oza := oza.keep fun b hm => (hb).block b (oza.lt b hm)
   replace oX1 := oX1.keep fun b hm => (hb).block b (oX1.lt b hm)
   replace ozb := ozb.keep fun b hm => (hb).block b (ozb.lt b hm)
   replace hB := Below.on hB hb hB.size
   clear hb
   rw [efR]
   have l0c0 := L0.c0
   have l0c1 := L0.c1
   have l1c0 := L1.c0
   have l1c1 := L1.c1
   have l1c2 := L1.c2
   have x1c0 := X1.c0
   have x1c1 := X1.c1
   have x1c2 := X1.c2
   have ltL0 := L0.lt
   have ltL1 := L1.lt
   have ltX1 := X1.lt
   go_wp2_with fail
   go_region_held3 (fun w' => (∀ b o, b < v6.heap.size → w'.cell? ⟨b, o, none⟩ = v6.cell? ⟨b, o, none⟩) ∧ Below v6.heap.size v6 w')
    (first | exact kp_drew v6 | exact kp_on ‹_› hb)
    (first
     | (go_at_call 17; have hK := ‹(∀ b o, b < v6.heap.size → _) ∧ Below v6.heap.size v6 _›; ((with_reducible refine (toExpr_i (hr1.below (Below.on hB hK.2 hB.size)) hsz1).mono ?_); rintro e wy1 ⟨sxy1, cxy1, rfl, hfy1, hb⟩))
     | (go_at_call 19; have hK := ‹(∀ b o, b < v6.heap.size → _) ∧ Below v6.heap.size v6 _›; ((with_reducible refine (eqExpr_i (((oX1.rds).one).below hK.2) ((hfy1.rds).one)).mono ?_); rintro e v7 ⟨rfl, hb⟩)))
   have hK := ‹(∀ b o, b < v6.heap.size → _) ∧ Below v6.heap.size v6 _›
   clear l0c0 l0c1 l1c0 l1c1 l1c2 x1c0 x1c1 x1c2 ltL0 ltL1 ltX1
   have sz_v6_v7 := (hK.2).size
   replace L0 := L0.below hK.2
   replace L1 := L1.below hK.2
   replace X1 := X1.below hK.2
   replace oza := oza.keep fun b hm => (hK.2).block b (oza.lt b hm)
   replace oX1 := oX1.keep fun b hm => (hK.2).block b (oX1.lt b hm)
   replace ozb := ozb.keep fun b hm => (hK.2).block b (ozb.lt b hm)
   replace hB := Below.on hB hK.2 hB.size
   clear hK
   try simp only [ef1, Bool.not_true]
   have l0c0 := L0.c0
   have l0c1 := L0.c1
   have l1c0 := L1.c0
   have l1c1 := L1.c1
   have l1c2 := L1.c2
   have x1c0 := X1.c0
   have x1c1 := X1.c1
   have x1c2 := X1.c2
   have ltL0 := L0.lt
   have ltL1 := L1.lt
   have ltX1 := X1.lt
   go_wp2_with fail
   refine (markExprL_i (k := 1) oX1 nX1 (by omega)).mono ?_
   rintro e v8 ⟨rfl, om, hO⟩
   clear l0c0 l0c1 l1c0 l1c1 l1c2 x1c0 x1c1 x1c2 ltL0 ltL1 ltX1
   have sz_v7_v8 := (hO).size
   replace L0 := L0.keep ((hO).block _ L0.lt (fun hm => by have h1 := lX1 _ hm; have h2 := uX1 _ hm; omega))
   replace L1 := L1.keep ((hO).block _ L1.lt (fun hm => by have h1 := lX1 _ hm; have h2 := uX1 _ hm; omega))
   replace X1 := X1.keep ((hO).block _ X1.lt (fun hm => by have h1 := lX1 _ hm; have h2 := uX1 _ hm; omega))
   replace oza := oza.keep fun b hm => (hO).block b (oza.lt b hm) (fun hm' => by have h1 := lX1 _ hm'; have h2 := uX1 _ hm'; have h3 := lza _ hm; have h4 := uza _ hm; omega)
   replace ozb := ozb.keep fun b hm => (hO).block b (ozb.lt b hm) (fun hm' => by have h1 := lX1 _ hm'; have h2 := uX1 _ hm'; have h3 := lzb _ hm; have h4 := uzb _ hm; omega)
   replace hB := hB.trans ((hO).below hB.size (fun b hm => by have h1 := lX1 _ hm; have h2 := hB.size; omega))
   replace oX1 := om
   clear om hO
   have l0c0 := L0.c0
   have l0c1 := L0.c1
   have l1c0 := L1.c0
   have l1c1 := L1.c1
   have l1c2 := L1.c2
   have x1c0 := X1.c0
   have x1c1 := X1.c1
   have x1c2 := X1.c2
   have ltL0 := L0.lt
   have ltL1 := L1.lt
   have ltX1 := X1.lt
   go_wp2_with fail
   refine (eqIntsL_i ((ozb.rds).one) ((oza.rds).one)).mono ?_
   rintro e v9 ⟨rfl, hb⟩
   clear l0c0 l0c1 l1c0 l1c1 l1c2 x1c0 x1c1 x1c2 ltL0 ltL1 ltX1
   have sz_v8_v9 := (hb).size
   replace L0 := L0.below hb
   replace L1 := L1.below hb
   replace X1 := X1.below hb
   replace oza := oza.keep fun b hm => (hb).block b (oza.lt b hm)
   replace oX1 := oX1.keep fun b hm => (hb).block b (oX1.lt b hm)
   replace ozb := ozb.keep fun b hm => (hb).block b (ozb.lt b hm)
   replace hB := Below.on hB hb hB.size
   clear hb
   rw [efR]
   have l0c0 := L0.c0
   have l0c1 := L0.c1
   have l1c0 := L1.c0
   have l1c1 := L1.c1
   have l1c2 := L1.c2
   have x1c0 := X1.c0
   have x1c1 := X1.c1
   have x1c2 := X1.c2
   have ltL0 := L0.lt
   have ltL1 := L1.lt
   have ltX1 := X1.lt
   go_wp2_with fail
   refine (markIntsL_i (k := 1) ozb nzb (by omega)).mono ?_
   rintro e v10 ⟨rfl, om, hO⟩
   clear l0c0 l0c1 l1c0 l1c1 l1c2 x1c0 x1c1 x1c2 ltL0 ltL1 ltX1
   have sz_v9_v10 := (hO).size
   replace L0 := L0.keep ((hO).block _ L0.lt (fun hm => by have h1 := lzb _ hm; have h2 := uzb _ hm; omega))
   replace L1 := L1.keep ((hO).block _ L1.lt (fun hm => by have h1 := lzb _ hm; have h2 := uzb _ hm; omega))
   replace X1 := X1.keep ((hO).block _ X1.lt (fun hm => by have h1 := lzb _ hm; have h2 := uzb _ hm; omega))
   replace oza := oza.keep fun b hm => (hO).block b (oza.lt b hm) (fun hm' => by have h1 := lzb _ hm'; have h2 := uzb _ hm'; have h3 := lza _ hm; have h4 := uza _ hm; omega)
   replace oX1 := oX1.keep fun b hm => (hO).block b (oX1.lt b hm) (fun hm' => by have h1 := lzb _ hm'; have h2 := uzb _ hm'; have h3 := lX1 _ hm; have h4 := uX1 _ hm; omega)
   replace hB := hB.trans ((hO).below hB.size (fun b hm => by have h1 := lzb _ hm; have h2 := hB.size; omega))
   replace ozb := om
   clear om hO
   have l0c0 := L0.c0
   have l0c1 := L0.c1
   have l1c0 := L1.c0
   have l1c1 := L1.c1
   have l1c2 := L1.c2
   have x1c0 := X1.c0
   have x1c1 := X1.c1
   have x1c2 := X1.c2
   have ltL0 := L0.lt
   have ltL1 := L1.lt
   have ltX1 := X1.lt
   go_wp2_with fail
   refine (heldIntsL_i (k := 1) ozb.rds (by omega)).mono ?_
   rintro e v11 ⟨rfl, hb⟩
   clear l0c0 l0c1 l1c0 l1c1 l1c2 x1c0 x1c1 x1c2 ltL0 ltL1 ltX1
   have sz_v10_v11 := (hb).size
   replace L0 := L0.below hb
   replace L1 := L1.below hb
   replace X1 := X1.below hb
   replace oza := oza.keep fun b hm => (hb).block b (oza.lt b hm)
   replace oX1 := oX1.keep fun b hm => (hb).block b (oX1.lt b hm)
   replace ozb := ozb.keep fun b hm => (hb).block b (ozb.lt b hm)
   replace hB := Below.on hB hb hB.size
   clear hb
   have l0c0 := L0.c0
   have l0c1 := L0.c1
   have l1c0 := L1.c0
   have l1c1 := L1.c1
   have l1c2 := L1.c2
   have x1c0 := X1.c0
   have x1c1 := X1.c1
   have x1c2 := X1.c2
   have ltL0 := L0.lt
   have ltL1 := L1.lt
   have ltX1 := X1.lt
   go_wp2_with fail
   clear l0c0 l0c1 l1c0 l1c1 l1c2 x1c0 x1c1 x1c2 ltL0 ltL1 ltX1
   have hB0 := hB
   refine region_rs [] [] (fun _ _ => False) (v11.heap.size) (fun i iv vs wx => match i with
    | 0 => vs 0 = .agg #[.int .i64 t0, .int .i64 a0]
    | 1 => vs 1 = .agg #[.int .i64 t0, .int .i64 a0]
    | 2 => vs 2 = .agg #[.int .i64 k1, .int .i64 n1, .slice s1 ks1.length c1]
    | 3 => ∃ sxzc1 cxzc1, vs 3 = .agg #[.int .i64 k1, .int .i64 n1, .slice sxzc1 ks1.length cxzc1] ∧ FreshIn (iv 3) wx [(kidsD ks1)] [.slice sxzc1 ks1.length cxzc1]
    | 4 => ∃ zca zcc, vs 4 = .tuple #[.slice zca (lnR t0 a0 (.mk k1 n1 ks1)).length zcc, .int .i64 (auC t0 a0 (.mk k1 n1 ks1))] ∧ FreshIn (iv 4) wx [intsD (lnR t0 a0 (.mk k1 n1 ks1))] [.slice zca (lnR t0 a0 (.mk k1 n1 ks1)).length zcc]
    | 5 => vs 5 = vs 4
    | 6 => vs 6 = tupAt (vs 5) 0
    | 7 => vs 7 = tupAt (vs 5) 1
    | 8 => vs 8 = vs 6
    | 9 => vs 9 = vs 7
    | _ => True) (fun i iv vs => match i with
    | 0 => vs 0 = .agg #[.int .i64 t0, .int .i64 a0]
    | 1 => vs 1 = .agg #[.int .i64 t0, .int .i64 a0]
    | 2 => vs 2 = .agg #[.int .i64 k1, .int .i64 n1, .slice s1 ks1.length c1]
    | 3 => ∃ sxzc1 cxzc1, vs 3 = .agg #[.int .i64 k1, .int .i64 n1, .slice sxzc1 ks1.length cxzc1]
    | 4 => ∃ zca zcc, vs 4 = .tuple #[.slice zca (lnR t0 a0 (.mk k1 n1 ks1)).length zcc, .int .i64 (auC t0 a0 (.mk k1 n1 ks1))]
    | 5 => vs 5 = vs 4
    | 6 => vs 6 = tupAt (vs 5) 0
    | 7 => vs 7 = tupAt (vs 5) 1
    | 8 => vs 8 = vs 6
    | 9 => vs 9 = vs 7
    | _ => True) (by kernel_rfl) (by kernel_rfl) [0, 1, 2, 3, 4, 5, 6, 7, 8, 9] (by kernel_rfl) ?hbase ?hGb ?hG ?hJ ?hE ?hEE ?hstep ?hQ
   case hbase => first | exact Nat.le_refl _ | omega | (simp; omega)
   case hGb =>
    exact fun _ _ h => h.elim
   case hG =>
    exact fun _ _ _ h => h.elim
   case hJ =>
    intro i hi iv iv' vs vs' wx wx' ha hv hz hk hj
    simp only [List.mem_cons, List.not_mem_nil, or_false] at hi
    rcases hi with rfl | rfl | rfl | rfl | rfl | rfl | rfl | rfl | rfl | rfl
    ·
     exact (hv.out 0 (mem_of (by kernel_rfl))).symm.trans hj
    ·
     exact (hv.out 1 (mem_of (by kernel_rfl))).symm.trans hj
    ·
     exact (hv.out 2 (mem_of (by kernel_rfl))).symm.trans hj
    ·
     have e3 := hv.out 3 (mem_of (by kernel_rfl))
     have g3 := ha.out 3 (mem_of (by kernel_rfl))
     obtain ⟨sxzc1, cxzc1, q1, q2⟩ := hj
     exact ⟨sxzc1, cxzc1, e3 ▸ q1, g3 ▸ q2.keep (fun b hb h1 h2 => hk.out b hb (foot_own h1 h2))⟩
    ·
     have e4 := hv.out 4 (mem_of (by kernel_rfl))
     have g4 := ha.out 4 (mem_of (by kernel_rfl))
     obtain ⟨zca, zcc, q1, q2⟩ := hj
     exact ⟨zca, zcc, e4 ▸ q1, g4 ▸ q2.keep (fun b hb h1 h2 => hk.out b hb (foot_own h1 h2))⟩
    ·
     have e4 := hv.out 4 (mem_of (by kernel_rfl))
     have e5 := hv.out 5 (mem_of (by kernel_rfl))
     have hj' : vs 5 = vs 4 := hj
     show vs' 5 = vs' 4
     rw [← e4, ← e5]
     exact hj'
    ·
     have e5 := hv.out 5 (mem_of (by kernel_rfl))
     have e6 := hv.out 6 (mem_of (by kernel_rfl))
     have hj' : vs 6 = tupAt (vs 5) 0 := hj
     show vs' 6 = tupAt (vs' 5) 0
     rw [← e5, ← e6]
     exact hj'
    ·
     have e5 := hv.out 5 (mem_of (by kernel_rfl))
     have e7 := hv.out 7 (mem_of (by kernel_rfl))
     have hj' : vs 7 = tupAt (vs 5) 1 := hj
     show vs' 7 = tupAt (vs' 5) 1
     rw [← e5, ← e7]
     exact hj'
    ·
     have e6 := hv.out 6 (mem_of (by kernel_rfl))
     have e8 := hv.out 8 (mem_of (by kernel_rfl))
     have hj' : vs 8 = vs 6 := hj
     show vs' 8 = vs' 6
     rw [← e6, ← e8]
     exact hj'
    ·
     have e7 := hv.out 7 (mem_of (by kernel_rfl))
     have e9 := hv.out 9 (mem_of (by kernel_rfl))
     have hj' : vs 9 = vs 7 := hj
     show vs' 9 = vs' 7
     rw [← e7, ← e9]
     exact hj'
   case hE =>
    intro i hi iv vs wx hj
    simp only [List.mem_cons, List.not_mem_nil, or_false] at hi
    rcases hi with rfl | rfl | rfl | rfl | rfl | rfl | rfl | rfl | rfl | rfl
    ·
     exact hj
    ·
     exact hj
    ·
     exact hj
    ·
     obtain ⟨sxzc1, cxzc1, q1, -⟩ := hj
     exact ⟨sxzc1, cxzc1, q1⟩
    ·
     obtain ⟨zca, zcc, q1, -⟩ := hj
     exact ⟨zca, zcc, q1⟩
    ·
     exact hj
    ·
     exact hj
    ·
     exact hj
    ·
     exact hj
    ·
     exact hj
   case hEE =>
    intro i hi iv iv' vs vs' ha hv hj
    simp only [List.mem_cons, List.not_mem_nil, or_false] at hi
    rcases hi with rfl | rfl | rfl | rfl | rfl | rfl | rfl | rfl | rfl | rfl
    ·
     exact (hv.out 0 (mem_of (by kernel_rfl))).symm.trans hj
    ·
     exact (hv.out 1 (mem_of (by kernel_rfl))).symm.trans hj
    ·
     exact (hv.out 2 (mem_of (by kernel_rfl))).symm.trans hj
    ·
     have e3 := hv.out 3 (mem_of (by kernel_rfl))
     have hj' : ∃ sxzc1 cxzc1, vs 3 = .agg #[.int .i64 k1, .int .i64 n1, .slice sxzc1 ks1.length cxzc1] := hj
     show ∃ sxzc1 cxzc1, vs' 3 = .agg #[.int .i64 k1, .int .i64 n1, .slice sxzc1 ks1.length cxzc1]
     rw [← e3]
     exact hj'
    ·
     have e4 := hv.out 4 (mem_of (by kernel_rfl))
     have hj' : ∃ zca zcc, vs 4 = .tuple #[.slice zca (lnR t0 a0 (.mk k1 n1 ks1)).length zcc, .int .i64 (auC t0 a0 (.mk k1 n1 ks1))] := hj
     show ∃ zca zcc, vs' 4 = .tuple #[.slice zca (lnR t0 a0 (.mk k1 n1 ks1)).length zcc, .int .i64 (auC t0 a0 (.mk k1 n1 ks1))]
     rw [← e4]
     exact hj'
    ·
     have e4 := hv.out 4 (mem_of (by kernel_rfl))
     have e5 := hv.out 5 (mem_of (by kernel_rfl))
     have hj' : vs 5 = vs 4 := hj
     show vs' 5 = vs' 4
     rw [← e4, ← e5]
     exact hj'
    ·
     have e5 := hv.out 5 (mem_of (by kernel_rfl))
     have e6 := hv.out 6 (mem_of (by kernel_rfl))
     have hj' : vs 6 = tupAt (vs 5) 0 := hj
     show vs' 6 = tupAt (vs' 5) 0
     rw [← e5, ← e6]
     exact hj'
    ·
     have e5 := hv.out 5 (mem_of (by kernel_rfl))
     have e7 := hv.out 7 (mem_of (by kernel_rfl))
     have hj' : vs 7 = tupAt (vs 5) 1 := hj
     show vs' 7 = tupAt (vs' 5) 1
     rw [← e5, ← e7]
     exact hj'
    ·
     have e6 := hv.out 6 (mem_of (by kernel_rfl))
     have e8 := hv.out 8 (mem_of (by kernel_rfl))
     have hj' : vs 8 = vs 6 := hj
     show vs' 8 = vs' 6
     rw [← e6, ← e8]
     exact hj'
    ·
     have e7 := hv.out 7 (mem_of (by kernel_rfl))
     have e9 := hv.out 9 (mem_of (by kernel_rfl))
     have hj' : vs 9 = vs 7 := hj
     show vs' 9 = vs' 7
     rw [← e7, ← e9]
     exact hj'
   case hstep =>
    intro i hi opr ho iv vs w1 hB hS hSo hd he hbd hsep hun K hK
    simp only [List.mem_cons, List.not_mem_nil, or_false] at hi
    have hzB := hB.size
    have hBw := Below.on hB0 hB hB0.size
    have L0s := L0.below hB
    have l0s0 := L0s.c0
    have l0s1 := L0s.c1
    have ltL0s := L0s.lt
    have L1s := L1.below hB
    have l1s0 := L1s.c0
    have l1s1 := L1s.c1
    have l1s2 := L1s.c2
    have ltL1s := L1s.lt
    have X1s := X1.below hB
    have x1s0 := X1s.c0
    have x1s1 := X1s.c1
    have x1s2 := X1s.c2
    have ltX1s := X1s.lt
    generalize hA : putFrom _ 0 vs _ = A at hK ⊢
    simp only [putFrom, puts] at hA
    rcases hi with rfl | rfl | rfl | rfl | rfl | rfl | rfl | rfl | rfl | rfl
    all_goals
     simp at ho
     subst ho
     subst hA
    ·
     go_wp2_with fail
     exact Onward.mk (hK (.agg #[.int .i64 t0, .int .i64 a0]) _ _ (fun h => by cases h) (by first | rfl | (simp only [puts])) (Spares.refl _) (fun iv' _ _ => rfl))
    ·
     have h0 : vs 0 = .agg #[.int .i64 t0, .int .i64 a0] := hd.out 0 (mem_of (by kernel_rfl)) (by decide) (by kernel_rfl)
     go_wp2_with fail
     refine (toSig_any t0 a0 _).mono ?_
     rintro e w2 ⟨rfl, hb⟩
     go_wp2_with fail
     exact Onward.mk (hK (.agg #[.int .i64 t0, .int .i64 a0]) _ _ (fun h => by cases h) (by first | rfl | (simp only [puts, h0])) (Spares.of_below hb) (fun iv' _ _ => rfl))
    ·
     go_wp2_with fail
     exact Onward.mk (hK (.agg #[.int .i64 k1, .int .i64 n1, .slice s1 ks1.length c1]) _ _ (fun h => by cases h) (by first | rfl | (simp only [puts])) (Spares.refl _) (fun iv' _ _ => rfl))
    ·
     have h2 : vs 2 = .agg #[.int .i64 k1, .int .i64 n1, .slice s1 ks1.length c1] := hd.out 2 (mem_of (by kernel_rfl)) (by decide) (by kernel_rfl)
     go_wp2_with fail
     refine (toExpr_i (hr1.below hBw) hsz1).mono ?_
     rintro e w2 ⟨sxzc1, cxzc1, rfl, hf, hb⟩
     go_wp2_with fail
     exact Onward.mk (hK (.agg #[.int .i64 k1, .int .i64 n1, .slice sxzc1 ks1.length cxzc1]) _ _ (fun h => by cases h) (by first | rfl | (simp only [puts, h2])) (Spares.of_below hb) (fun iv' _ hi => ⟨sxzc1, cxzc1, rfl, by rw [hi]; exact Freshs.stretch (hf)⟩))
    ·
     have h1 : vs 1 = .agg #[.int .i64 t0, .int .i64 a0] := hd.out 1 (mem_of (by kernel_rfl)) (by decide) (by kernel_rfl)
     obtain ⟨sxzc1, cxzc1, h3, f3⟩ := hd.out 3 (mem_of (by kernel_rfl)) (by decide) (by kernel_rfl)
     go_wp2_with fail
     refine (implLengthsOf_i (f3.rds).one hsz1).mono ?_
     rintro e w2 ⟨zca, zcc, rfl, hf, hb⟩
     go_wp2_with fail
     exact Onward.mk (hK (.tuple #[.slice zca (lnR t0 a0 (.mk k1 n1 ks1)).length zcc, .int .i64 (auC t0 a0 (.mk k1 n1 ks1))]) _ _ (fun h => by cases h) (by first | rfl | (simp only [puts, h1, h3])) (Spares.of_below hb) (fun iv' _ hi => ⟨zca, zcc, rfl, by rw [hi]; exact Freshs.stretch (hf)⟩))
    ·
     obtain ⟨zca, zcc, h4, f4⟩ := hd.out 4 (mem_of (by kernel_rfl)) (by decide) (by kernel_rfl)
     go_wp2_with fail
     refine Onward.mk (hK ?val3_5 _ _ (fun h => by cases h) ?eqA (Spares.refl _) (fun iv' _ _ => ?ja))
     case eqA => first | rfl | (simp only [puts, h4]; rfl)
     case ja => show _ = vs 4; simp only [h4]; rfl
    ·
     have h5 : vs 5 = vs 4 := hd.out 5 (mem_of (by kernel_rfl)) (by decide) (by kernel_rfl)
     obtain ⟨zca, zcc, h4, f4⟩ := hd.out 4 (mem_of (by kernel_rfl)) (by decide) (by kernel_rfl)
     go_wp2_with fail
     refine Onward.mk (hK ?val3_6 _ _ (fun h => by cases h) ?eqA (Spares.refl _) (fun iv' _ _ => ?ja))
     case eqA => first | rfl | (simp only [puts, h5, h4]; rfl)
     case ja => show _ = tupAt (vs 5) 0; simp only [h5, h4, tupAt]; rfl
    ·
     have h5 : vs 5 = vs 4 := hd.out 5 (mem_of (by kernel_rfl)) (by decide) (by kernel_rfl)
     obtain ⟨zca, zcc, h4, f4⟩ := hd.out 4 (mem_of (by kernel_rfl)) (by decide) (by kernel_rfl)
     go_wp2_with fail
     refine Onward.mk (hK ?val3_7 _ _ (fun h => by cases h) ?eqA (Spares.refl _) (fun iv' _ _ => ?ja))
     case eqA => first | rfl | (simp only [puts, h5, h4]; rfl)
     case ja => show _ = tupAt (vs 5) 1; simp only [h5, h4, tupAt]; rfl
    ·
     have h6 : vs 6 = tupAt (vs 5) 0 := hd.out 6 (mem_of (by kernel_rfl)) (by decide) (by kernel_rfl)
     have h5 : vs 5 = vs 4 := hd.out 5 (mem_of (by kernel_rfl)) (by decide) (by kernel_rfl)
     obtain ⟨zca, zcc, h4, f4⟩ := hd.out 4 (mem_of (by kernel_rfl)) (by decide) (by kernel_rfl)
     go_wp2_with fail
     refine Onward.mk (hK ?val3_8 _ _ (fun h => by cases h) ?eqA (Spares.refl _) (fun iv' _ _ => ?ja))
     case eqA => first | rfl | (simp only [puts, h6, h5, h4]; rfl)
     case ja => show _ = vs 6; simp only [h6, h5, h4]; rfl
    ·
     have h7 : vs 7 = tupAt (vs 5) 1 := hd.out 7 (mem_of (by kernel_rfl)) (by decide) (by kernel_rfl)
     have h5 : vs 5 = vs 4 := hd.out 5 (mem_of (by kernel_rfl)) (by decide) (by kernel_rfl)
     obtain ⟨zca, zcc, h4, f4⟩ := hd.out 4 (mem_of (by kernel_rfl)) (by decide) (by kernel_rfl)
     go_wp2_with fail
     refine Onward.mk (hK ?val3_9 _ _ (fun h => by cases h) ?eqA (Spares.refl _) (fun iv' _ _ => ?ja))
     case eqA => first | rfl | (simp only [puts, h7, h5, h4]; rfl)
     case ja => show _ = vs 7; simp only [h7, h5, h4]; rfl
   case hQ =>
    intro iv vs wx hB hSp hd he hbd hsep
    have hzB := hB.size
    have h0 : vs 0 = .agg #[.int .i64 t0, .int .i64 a0] := hd.out 0 (mem_of (by kernel_rfl)) (not_eaten (by kernel_rfl))
    have h1 : vs 1 = .agg #[.int .i64 t0, .int .i64 a0] := hd.out 1 (mem_of (by kernel_rfl)) (not_eaten (by kernel_rfl))
    have h2 : vs 2 = .agg #[.int .i64 k1, .int .i64 n1, .slice s1 ks1.length c1] := hd.out 2 (mem_of (by kernel_rfl)) (not_eaten (by kernel_rfl))
    obtain ⟨sxzc1, cxzc1, h3, f3⟩ := hd.out 3 (mem_of (by kernel_rfl)) (not_eaten (by kernel_rfl))
    obtain ⟨zca, zcc, h4, f4⟩ := hd.out 4 (mem_of (by kernel_rfl)) (not_eaten (by kernel_rfl))
    have h5 : vs 5 = vs 4 := hd.out 5 (mem_of (by kernel_rfl)) (not_eaten (by kernel_rfl))
    have h6 : vs 6 = tupAt (vs 5) 0 := hd.out 6 (mem_of (by kernel_rfl)) (not_eaten (by kernel_rfl))
    have h7 : vs 7 = tupAt (vs 5) 1 := hd.out 7 (mem_of (by kernel_rfl)) (not_eaten (by kernel_rfl))
    have h8 : vs 8 = vs 6 := hd.out 8 (mem_of (by kernel_rfl)) (not_eaten (by kernel_rfl))
    have h9 : vs 9 = vs 7 := hd.out 9 (mem_of (by kernel_rfl)) (not_eaten (by kernel_rfl))
    simp only [putFrom, puts]
    have k0 : vs 8 = .slice zca (lnR t0 a0 (.mk k1 n1 ks1)).length zcc := by rw [h8, h6, h5, h4]; rfl
    have k1 : vs 9 = .int .i64 (auC t0 a0 (.mk k1 n1 ks1)) := by rw [h9, h7, h5, h4]; rfl
    have bc := (hbd.out 4 (mem_of (by kernel_rfl)))
    obtain ⟨Fzc, ozc, nzc, qF⟩ := f4
    have lzc : ∀ b ∈ Fzc, v11.heap.size ≤ b := fun b hm => by have h1 := qF b hm; omega
    have uzc : ∀ b ∈ Fzc, b < wx.heap.size := fun b hm => by have h1 := qF b hm; omega
    simp only [k0, k1]
    clear hd he hbd hsep k0 k1 bc qF hSp h0 h1 h2 h3 h4 h5 h6 h7 h8 h9
    obtain ⟨v12, rfl⟩ : ∃ v, v = wx := ⟨_, rfl⟩
    have hb := hB
    replace hB := hB0
    have sz_v11_v12 := (hb).size
    replace L0 := L0.below hb
    replace L1 := L1.below hb
    replace X1 := X1.below hb
    replace oza := oza.keep fun b hm => (hb).block b (oza.lt b hm)
    replace oX1 := oX1.keep fun b hm => (hb).block b (oX1.lt b hm)
    replace ozb := ozb.keep fun b hm => (hb).block b (ozb.lt b hm)
    replace hB := Below.on hB hb hB.size
    clear hb
    have lt_v12_L0 := L0.lt
    have lt_v12_L1 := L1.lt
    have lt_v12_X1 := X1.lt
    have l0c0 := L0.c0
    have l0c1 := L0.c1
    have l1c0 := L1.c0
    have l1c1 := L1.c1
    have l1c2 := L1.c2
    have x1c0 := X1.c0
    have x1c1 := X1.c1
    have x1c2 := X1.c2
    have ltL0 := L0.lt
    have ltL1 := L1.lt
    have ltX1 := X1.lt
    go_wp2_with fail
    refine (eqIntsL_i ((ozc.rds).one) ((oza.rds).one)).mono ?_
    rintro e v13 ⟨rfl, hb⟩
    clear l0c0 l0c1 l1c0 l1c1 l1c2 x1c0 x1c1 x1c2 ltL0 ltL1 ltX1
    have sz_v12_v13 := (hb).size
    replace L0 := L0.below hb
    replace L1 := L1.below hb
    replace X1 := X1.below hb
    replace oza := oza.keep fun b hm => (hb).block b (oza.lt b hm)
    replace oX1 := oX1.keep fun b hm => (hb).block b (oX1.lt b hm)
    replace ozb := ozb.keep fun b hm => (hb).block b (ozb.lt b hm)
    replace ozc := ozc.keep fun b hm => (hb).block b (ozc.lt b hm)
    replace hB := Below.on hB hb hB.size
    clear hb
    rw [efR]
    have l0c0 := L0.c0
    have l0c1 := L0.c1
    have l1c0 := L1.c0
    have l1c1 := L1.c1
    have l1c2 := L1.c2
    have x1c0 := X1.c0
    have x1c1 := X1.c1
    have x1c2 := X1.c2
    have ltL0 := L0.lt
    have ltL1 := L1.lt
    have ltX1 := X1.lt
    go_wp2_with fail
    refine (heldIntsL_i (k := 1) ozb.rds (by omega)).mono ?_
    rintro e v14 ⟨rfl, hb⟩
    clear l0c0 l0c1 l1c0 l1c1 l1c2 x1c0 x1c1 x1c2 ltL0 ltL1 ltX1
    have sz_v13_v14 := (hb).size
    replace L0 := L0.below hb
    replace L1 := L1.below hb
    replace X1 := X1.below hb
    replace oza := oza.keep fun b hm => (hb).block b (oza.lt b hm)
    replace oX1 := oX1.keep fun b hm => (hb).block b (oX1.lt b hm)
    replace ozb := ozb.keep fun b hm => (hb).block b (ozb.lt b hm)
    replace ozc := ozc.keep fun b hm => (hb).block b (ozc.lt b hm)
    replace hB := Below.on hB hb hB.size
    clear hb
    have l0c0 := L0.c0
    have l0c1 := L0.c1
    have l1c0 := L1.c0
    have l1c1 := L1.c1
    have l1c2 := L1.c2
    have x1c0 := X1.c0
    have x1c1 := X1.c1
    have x1c2 := X1.c2
    have ltL0 := L0.lt
    have ltL1 := L1.lt
    have ltX1 := X1.lt
    go_wp2_with fail
    go_ret
    exact ⟨rfl, hB⟩
set_option maxRecDepth 100000 in
theorem law_LengthsOf_of {H : Type} {enc : TypeId × Value → H} (W : World) (args : Array Value) (ds : List (DataW H)) (ps : List MemPlace) (hA : DataW.TrodAll enc Tryz.prog W 0 (fun _ => true) true Tryz.f10.params.toList args.toList ds ps)
  (hval : ∀ (j : Nat) t v, Tryz.f10.params[j]? = some t → args[j]? = some v → ∃ base, Value.okWide Tryz.prog W .any base t v) :
  Calls Tryz.prog 10 args W fun e W' => e = .returned (.bool true) ∧ Below W.heap.size W W' := by
 rw [Tryz.params10] at hA hval
 obtain ⟨v0, vs0, d0', ds0, p0, q0, hargs, rfl, rfl, h0, ra0⟩ := trodAll_cons hA
 obtain ⟨v1, vs1, d1', ds1, p1, q1, rfl, rfl, rfl, h1, ra1⟩ := trodAll_cons ra0
 obtain ⟨rfl, rfl, rfl⟩ := trodAll_nil ra1
 obtain rfl : args = #[v0, v1] := Array.toList_inj.1 hargs
 obtain ⟨t0, a0, rfl⟩ := open_lawsSig h0
 obtain ⟨k1, n1, ks1, s1, c1, rfl, hr1⟩ := open_lawsExpr h1
 exact law_LengthsOf t0 a0 k1 n1 ks1 s1 c1 W hr1
end Go.Proofs.YtjlmdhoajfdkbaaGreatDoor
