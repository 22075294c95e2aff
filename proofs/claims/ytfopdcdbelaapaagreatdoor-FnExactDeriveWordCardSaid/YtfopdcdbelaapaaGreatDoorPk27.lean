/-
  Parts of a proof, joined: LawDeriveWord. No condition.
-/
import Derived.Test.YtfopdcdbelaapaaGreatDoorPk25
import Derived.Test.YtfopdcdbelaapaaGreatDoorPk26
namespace Go.Proofs.YtfopdcdbelaapaaGreatDoor
set_option linter.unusedVariables false
set_option linter.unusedSimpArgs false
open Go.ChangeShapes Go.WideShapes Go.ChangeAt Go.RowKit
set_option maxRecDepth 100000 in
set_option maxHeartbeats 16000000 in
theorem law_DeriveWord (t0 a0 : Int) (k1 n1 : Int) (ks1 : List Ex) (s1 : Option Addr) (c1 : Nat) (xs2 ys2 : List Int) (s2 : Option Addr) (c2 : Nat) (t2 : Option Addr) (d2 : Nat) (w : World) (hr1 : Rd w (kidsD ks1) (.slice s1 ks1.length c1)) (hr2 : Rd w (intsD xs2) (.slice s2 xs2.length c2)) (hq2 : Rd w (intsD ys2) (.slice t2 ys2.length d2)) :
  Calls Tryz.prog 3 #[.agg #[.int .i64 t0, .int .i64 a0], .agg #[.int .i64 k1, .int .i64 n1, .slice s1 ks1.length c1], .agg #[.slice s2 xs2.length c2, .slice t2 ys2.length d2]] w fun e w' => e = .returned (.bool true) ∧ Below w.heap.size w w' := by
 have ef1 : eqb (Ex.mk k1 n1 ks1) (Ex.mk k1 n1 ks1) = true := by simp [eqb_true]
 have ef2 : (eqb xs2 xs2 && eqb ys2 ys2) = true := by simp [eqb_true]
 have efR : eqb (Ex.mk (dwE t0 a0 xs2 ys2 (.mk k1 n1 ks1)).kind (dwE t0 a0 xs2 ys2 (.mk k1 n1 ks1)).num (dwE t0 a0 xs2 ys2 (.mk k1 n1 ks1)).kids) (Ex.mk (dwE t0 a0 xs2 ys2 (.mk k1 n1 ks1)).kind (dwE t0 a0 xs2 ys2 (.mk k1 n1 ks1)).num (dwE t0 a0 xs2 ys2 (.mk k1 n1 ks1)).kids) = true := by simp [eqb_true]
 go_enter Tryz.func3, Tryz.ntmps3
 go_wp2_with fail
 have L0 := ((Blk.new2 w 23 (.int .i64 t0) (.int .i64 a0)).alloc (.cells #[.int .i64 k1, .int .i64 n1, .slice s1 ks1.length c1] 26)).alloc (.cells #[.slice s2 xs2.length c2, .slice t2 ys2.length d2] 29)
 have L1 := (Blk.new3 (w.alloc (.cells #[.int .i64 t0, .int .i64 a0] 23)) 26 (.int .i64 k1) (.int .i64 n1) (.slice s1 ks1.length c1)).alloc (.cells #[.slice s2 xs2.length c2, .slice t2 ys2.length d2] 29)
 simp at L1
 have L2 := Blk.new2 ((w.alloc (.cells #[.int .i64 t0, .int .i64 a0] 23)).alloc (.cells #[.int .i64 k1, .int .i64 n1, .slice s1 ks1.length c1] 26)) 29 (.slice s2 xs2.length c2) (.slice t2 ys2.length d2)
 simp at L2
 have hB : Below w.heap.size w (((w.alloc (.cells #[.int .i64 t0, .int .i64 a0] 23)).alloc (.cells #[.int .i64 k1, .int .i64 n1, .slice s1 ks1.length c1] 26)).alloc (.cells #[.slice s2 xs2.length c2, .slice t2 ys2.length d2] 29)) := by (repeat' first | exact Below.refl _ _ | assumption | apply Below.alloc | apply Below.drew | apply Below.setCell | omega | (simp; done) | (simp; omega))
 generalize (((w.alloc (.cells #[.int .i64 t0, .int .i64 a0] 23)).alloc (.cells #[.int .i64 k1, .int .i64 n1, .slice s1 ks1.length c1] 26)).alloc (.cells #[.slice s2 xs2.length c2, .slice t2 ys2.length d2] 29)) = v0 at L0 L1 L2 hB ⊢
 have lt_v0_L0 := L0.lt
 have lt_v0_L1 := L1.lt
 have lt_v0_L2 := L2.lt
 have szB := hB.size
 have l0c0 := L0.c0
 have l0c1 := L0.c1
 have l1c0 := L1.c0
 have l1c1 := L1.c1
 have l1c2 := L1.c2
 have l2c0 := L2.c0
 have l2c1 := L2.c1
 have ltL0 := L0.lt
 have ltL1 := L1.lt
 have ltL2 := L2.lt
 go_wp2_with fail
 refine (szExpr_i (hr1.below hB) (by omega) (by omega)).mono ?_
 rintro e v1 ⟨⟨r1, rfl, ra1, rb1, rc1⟩, hb⟩
 clear l0c0 l0c1 l1c0 l1c1 l1c2 l2c0 l2c1 ltL0 ltL1 ltL2
 have sz_v0_v1 := (hb).size
 replace L0 := L0.below hb
 replace L1 := L1.below hb
 replace L2 := L2.below hb
 replace hB := Below.on hB hb hB.size
 clear hb
 have l0c0 := L0.c0
 have l0c1 := L0.c1
 have l1c0 := L1.c0
 have l1c1 := L1.c1
 have l1c2 := L1.c2
 have l2c0 := L2.c0
 have l2c1 := L2.c1
 have ltL0 := L0.lt
 have ltL1 := L1.lt
 have ltL2 := L2.lt
 by_cases hneg1 : r1 < 0
 ·
  go_wp2_with fail
  go_ret
  exact ⟨rfl, hB⟩
 have hd1 : decide (r1 < 0) = false := by simpa using hneg1
 have rd1 := rc1 (by omega)
 clear rc1
 go_wp2_with fail
 refine (szWord_i (hr2.below hB) (hq2.below hB) (by omega) (by omega)).mono ?_
 rintro e v2 ⟨⟨r2, rfl, ra2, rb2, rc2⟩, hb⟩
 clear l0c0 l0c1 l1c0 l1c1 l1c2 l2c0 l2c1 ltL0 ltL1 ltL2
 have sz_v1_v2 := (hb).size
 replace L0 := L0.below hb
 replace L1 := L1.below hb
 replace L2 := L2.below hb
 replace hB := Below.on hB hb hB.size
 clear hb
 have l0c0 := L0.c0
 have l0c1 := L0.c1
 have l1c0 := L1.c0
 have l1c1 := L1.c1
 have l1c2 := L1.c2
 have l2c0 := L2.c0
 have l2c1 := L2.c1
 have ltL0 := L0.lt
 have ltL1 := L1.lt
 have ltL2 := L2.lt
 by_cases hneg2 : r2 < 0
 ·
  go_wp2_with fail
  go_ret
  exact ⟨rfl, hB⟩
 have hd2 : decide (r2 < 0) = false := by simpa using hneg2
 have rd2 := rc2 (by omega)
 clear rc2
 have hsz1 : Ex.sizeL ks1 ≤ 1048576 := by omega
 have hsz2 : xs2.length + ys2.length ≤ 1048576 := by omega
 have bX := dwE_size t0 a0 xs2 ys2 (.mk k1 n1 ks1)
 clear l0c0 l0c1 l1c0 l1c1 l1c2 l2c0 l2c1 ltL0 ltL1 ltL2
 have l0c0 := L0.c0
 have l0c1 := L0.c1
 have l1c0 := L1.c0
 have l1c1 := L1.c1
 have l1c2 := L1.c2
 have l2c0 := L2.c0
 have l2c1 := L2.c1
 have ltL0 := L0.lt
 have ltL1 := L1.lt
 have ltL2 := L2.lt
 go_wp2_with fail
 have hB0 := hB
 refine region_rg 11 [9, 12] [0, 1, 2, 3, 4, 5, 6, 7, 8, 10] (fun i iv vs wx => match i with
  | 0 => vs 0 = .agg #[.int .i64 t0, .int .i64 a0]
  | 1 => vs 1 = .agg #[.int .i64 t0, .int .i64 a0]
  | 2 => vs 2 = .agg #[.int .i64 k1, .int .i64 n1, .slice s1 ks1.length c1]
  | 3 => ∃ sxza1 cxza1, vs 3 = .agg #[.int .i64 k1, .int .i64 n1, .slice sxza1 ks1.length cxza1] ∧ FreshIn (iv 3) wx [(kidsD ks1)] [.slice sxza1 ks1.length cxza1]
  | 4 => vs 4 = .agg #[.slice s2 xs2.length c2, .slice t2 ys2.length d2]
  | 5 => ∃ sxza2 cxza2 txza2 dxza2, vs 5 = .agg #[.slice sxza2 xs2.length cxza2, .slice txza2 ys2.length dxza2] ∧ FreshIn (iv 5) wx [(intsD xs2), (intsD ys2)] [.slice sxza2 xs2.length cxza2, .slice txza2 ys2.length dxza2]
  | 6 => ∃ zaa zac, vs 6 = .tuple #[.agg #[.int .i64 (dwE t0 a0 xs2 ys2 (.mk k1 n1 ks1)).kind, .int .i64 (dwE t0 a0 xs2 ys2 (.mk k1 n1 ks1)).num, .slice zaa (dwE t0 a0 xs2 ys2 (.mk k1 n1 ks1)).kids.length zac], .int .i64 (dwC t0 a0 xs2 ys2 (.mk k1 n1 ks1))] ∧ FreshIn (iv 6) wx [kidsD (dwE t0 a0 xs2 ys2 (.mk k1 n1 ks1)).kids] [.slice zaa (dwE t0 a0 xs2 ys2 (.mk k1 n1 ks1)).kids.length zac]
  | 7 => vs 7 = vs 6 ∧ ∃ arr, vs 7 = .tuple arr ∧ 1 < arr.size
  | 8 => vs 8 = tupAt (vs 7) 0
  | 10 => vs 10 = .pointer (some ⟨(iv 10).1, 0, none⟩) ∧ (iv 10).2 = (iv 10).1 + 1 ∧ Blk wx (iv 10).1 34 [.int .i64 0, .int .i64 0, .slice none 0 0]
  | _ => True) (fun vs wx => ∃ p zaa zac, vs 10 = .pointer (some ⟨p, 0, none⟩) ∧ vs 7 = .tuple #[.agg #[.int .i64 (dwE t0 a0 xs2 ys2 (.mk k1 n1 ks1)).kind, .int .i64 (dwE t0 a0 xs2 ys2 (.mk k1 n1 ks1)).num, .slice zaa (dwE t0 a0 xs2 ys2 (.mk k1 n1 ks1)).kids.length zac], .int .i64 (dwC t0 a0 xs2 ys2 (.mk k1 n1 ks1))] ∧ v2.heap.size ≤ p ∧ Blk wx p 34 [.int .i64 (dwE t0 a0 xs2 ys2 (.mk k1 n1 ks1)).kind, .int .i64 (dwE t0 a0 xs2 ys2 (.mk k1 n1 ks1)).num, .slice zaa (dwE t0 a0 xs2 ys2 (.mk k1 n1 ks1)).kids.length zac] ∧ (∃ F, Ows wx [kidsD (dwE t0 a0 xs2 ys2 (.mk k1 n1 ks1)).kids] [.slice zaa (dwE t0 a0 xs2 ys2 (.mk k1 n1 ks1)).kids.length zac] F ∧ F.Nodup ∧ ∀ b ∈ F, v2.heap.size ≤ b ∧ b ≠ p ∧ b < wx.heap.size) ∧ Below v2.heap.size v2 wx)
  (by kernel_rfl) (by kernel_rfl) (by kernel_rfl) (by kernel_rfl) ?hJ ?hX ?hF ?hstep ?hstore ?hQ (by kernel_rfl)
 case hX =>
  intro i o t k hi ho hop iv vs w hj
  simp only [List.mem_cons, List.not_mem_nil, or_false] at hi
  rcases hi with rfl | rfl
  ·
   simp at ho
   subst ho
   simp at hop
   obtain ⟨rfl, rfl⟩ := hop
   have hj2 : vs 7 = vs 6 ∧ ∃ arr, vs 7 = .tuple arr ∧ 1 < arr.size := hj
   obtain ⟨-, arr, q1, q2⟩ := hj2
   exact ⟨arr, q1, by omega⟩
  ·
   simp at ho
   subst ho
   simp at hop
 case hF =>
  intro vs vs' wx h hf
  have e7 := h 7 (mem_of (by kernel_rfl))
  have e10 := h 10 (mem_of (by kernel_rfl))
  show ∃ p zaa zac, vs' 10 = .pointer (some ⟨p, 0, none⟩) ∧ vs' 7 = .tuple #[.agg #[.int .i64 (dwE t0 a0 xs2 ys2 (.mk k1 n1 ks1)).kind, .int .i64 (dwE t0 a0 xs2 ys2 (.mk k1 n1 ks1)).num, .slice zaa (dwE t0 a0 xs2 ys2 (.mk k1 n1 ks1)).kids.length zac], .int .i64 (dwC t0 a0 xs2 ys2 (.mk k1 n1 ks1))] ∧ v2.heap.size ≤ p ∧ Blk wx p 34 [.int .i64 (dwE t0 a0 xs2 ys2 (.mk k1 n1 ks1)).kind, .int .i64 (dwE t0 a0 xs2 ys2 (.mk k1 n1 ks1)).num, .slice zaa (dwE t0 a0 xs2 ys2 (.mk k1 n1 ks1)).kids.length zac] ∧ (∃ F, Ows wx [kidsD (dwE t0 a0 xs2 ys2 (.mk k1 n1 ks1)).kids] [.slice zaa (dwE t0 a0 xs2 ys2 (.mk k1 n1 ks1)).kids.length zac] F ∧ F.Nodup ∧ ∀ b ∈ F, v2.heap.size ≤ b ∧ b ≠ p ∧ b < wx.heap.size) ∧ Below v2.heap.size v2 wx
  rw [← e7, ← e10]
  exact hf
 case hJ =>
  intro i hi iv iv' vs vs' wx wx' ha hv hb hj
  simp only [List.mem_cons, List.not_mem_nil, or_false] at hi
  rcases hi with rfl | rfl | rfl | rfl | rfl | rfl | rfl | rfl | rfl | rfl
  ·
   have e0 := hv.out 0 (mem_of (by kernel_rfl))
   have hj' : vs 0 = .agg #[.int .i64 t0, .int .i64 a0] := hj
   show vs' 0 = .agg #[.int .i64 t0, .int .i64 a0]
   rw [← e0]
   exact hj'
  ·
   have e1 := hv.out 1 (mem_of (by kernel_rfl))
   have hj' : vs 1 = .agg #[.int .i64 t0, .int .i64 a0] := hj
   show vs' 1 = .agg #[.int .i64 t0, .int .i64 a0]
   rw [← e1]
   exact hj'
  ·
   have e2 := hv.out 2 (mem_of (by kernel_rfl))
   have hj' : vs 2 = .agg #[.int .i64 k1, .int .i64 n1, .slice s1 ks1.length c1] := hj
   show vs' 2 = .agg #[.int .i64 k1, .int .i64 n1, .slice s1 ks1.length c1]
   rw [← e2]
   exact hj'
  ·
   have e3 := hv.out 3 (mem_of (by kernel_rfl))
   have g3 := ha.out 3 (mem_of (by kernel_rfl))
   obtain ⟨sxza1, cxza1, q1, q2⟩ := hj
   exact ⟨sxza1, cxza1, e3 ▸ q1, g3 ▸ q2.below hb⟩
  ·
   have e4 := hv.out 4 (mem_of (by kernel_rfl))
   have hj' : vs 4 = .agg #[.slice s2 xs2.length c2, .slice t2 ys2.length d2] := hj
   show vs' 4 = .agg #[.slice s2 xs2.length c2, .slice t2 ys2.length d2]
   rw [← e4]
   exact hj'
  ·
   have e5 := hv.out 5 (mem_of (by kernel_rfl))
   have g5 := ha.out 5 (mem_of (by kernel_rfl))
   obtain ⟨sxza2, cxza2, txza2, dxza2, q1, q2⟩ := hj
   exact ⟨sxza2, cxza2, txza2, dxza2, e5 ▸ q1, g5 ▸ q2.below hb⟩
  ·
   have e6 := hv.out 6 (mem_of (by kernel_rfl))
   have g6 := ha.out 6 (mem_of (by kernel_rfl))
   obtain ⟨zaa, zac, q1, q2⟩ := hj
   exact ⟨zaa, zac, e6 ▸ q1, g6 ▸ q2.below hb⟩
  ·
   have e7 := hv.out 7 (mem_of (by kernel_rfl))
   have e6 := hv.out 6 (mem_of (by kernel_rfl))
   have hj' : vs 7 = vs 6 ∧ ∃ arr, vs 7 = .tuple arr ∧ 1 < arr.size := hj
   show vs' 7 = vs' 6 ∧ ∃ arr, vs' 7 = .tuple arr ∧ 1 < arr.size
   rw [← e6, ← e7]
   exact hj'
  ·
   have e8 := hv.out 8 (mem_of (by kernel_rfl))
   have e7 := hv.out 7 (mem_of (by kernel_rfl))
   have hj' : vs 8 = tupAt (vs 7) 0 := hj
   show vs' 8 = tupAt (vs' 7) 0
   rw [← e7, ← e8]
   exact hj'
  ·
   have e10 := hv.out 10 (mem_of (by kernel_rfl))
   have g10 := ha.out 10 (mem_of (by kernel_rfl))
   obtain ⟨q1, q3, q2⟩ := hj
   show vs' 10 = .pointer (some ⟨(iv' 10).1, 0, none⟩) ∧ (iv' 10).2 = (iv' 10).1 + 1 ∧ Blk wx' (iv' 10).1 34 [.int .i64 0, .int .i64 0, .slice none 0 0]
   rw [← e10, ← g10]
   exact ⟨q1, q3, q2.below hb⟩
 case hstep =>
  intro i hi o ho iv vs w1 hB hd hbd hsep K hK
  simp only [List.mem_cons, List.not_mem_nil, or_false] at hi
  have hBw := Below.on hB0 hB hB0.size
  have L0s := L0.below hB
  have l0s0 := L0s.c0
  have l0s1 := L0s.c1
  have L1s := L1.below hB
  have l1s0 := L1s.c0
  have l1s1 := L1s.c1
  have l1s2 := L1s.c2
  have L2s := L2.below hB
  have l2s0 := L2s.c0
  have l2s1 := L2s.c1
  rcases hi with rfl | rfl | rfl | rfl | rfl | rfl | rfl | rfl | rfl | rfl
  all_goals
   simp at ho
   subst ho
   simp only [putFrom, puts]
  ·
   go_wp2_with fail
   exact Onward.mk (hK (.agg #[.int .i64 t0, .int .i64 a0]) _ _ (by simp only [putFrom, puts]) (Below.refl _ _) (fun iv' _ _ => rfl))
  ·
   have h0 : vs 0 = .agg #[.int .i64 t0, .int .i64 a0] := hd.out 0 (mem_of (by kernel_rfl)) (by decide)
   go_wp2_with fail
   refine (toSig_any t0 a0 _).mono ?_
   rintro e w2 ⟨rfl, hb⟩
   go_wp2_with fail
   exact Onward.mk (hK (.agg #[.int .i64 t0, .int .i64 a0]) _ _ (by simp only [putFrom, puts, h0]) hb (fun iv' _ _ => rfl))
  ·
   go_wp2_with fail
   exact Onward.mk (hK (.agg #[.int .i64 k1, .int .i64 n1, .slice s1 ks1.length c1]) _ _ (by simp only [putFrom, puts]) (Below.refl _ _) (fun iv' _ _ => rfl))
  ·
   have h2 : vs 2 = .agg #[.int .i64 k1, .int .i64 n1, .slice s1 ks1.length c1] := hd.out 2 (mem_of (by kernel_rfl)) (by decide)
   go_wp2_with fail
   refine (toExpr_i (hr1.below hBw) hsz1).mono ?_
   rintro e w2 ⟨sxza1, cxza1, rfl, hf, hb⟩
   go_wp2_with fail
   exact Onward.mk (hK (.agg #[.int .i64 k1, .int .i64 n1, .slice sxza1 ks1.length cxza1]) _ _ (by simp only [putFrom, puts, h2]) hb (fun iv' _ hi => ⟨sxza1, cxza1, rfl, by rw [hi]; exact Freshs.stretch (hf)⟩))
  ·
   go_wp2_with fail
   exact Onward.mk (hK (.agg #[.slice s2 xs2.length c2, .slice t2 ys2.length d2]) _ _ (by simp only [putFrom, puts]) (Below.refl _ _) (fun iv' _ _ => rfl))
  ·
   have h4 : vs 4 = .agg #[.slice s2 xs2.length c2, .slice t2 ys2.length d2] := hd.out 4 (mem_of (by kernel_rfl)) (by decide)
   go_wp2_with fail
   refine (toWord_i (hr2.below hBw) (hq2.below hBw) hsz2).mono ?_
   rintro e w2 ⟨sxza2, cxza2, txza2, dxza2, rfl, hf, hb⟩
   go_wp2_with fail
   exact Onward.mk (hK (.agg #[.slice sxza2 xs2.length cxza2, .slice txza2 ys2.length dxza2]) _ _ (by simp only [putFrom, puts, h4]) hb (fun iv' _ hi => ⟨sxza2, cxza2, txza2, dxza2, rfl, by rw [hi]; exact Freshs.stretch (hf)⟩))
  ·
   have h1 : vs 1 = .agg #[.int .i64 t0, .int .i64 a0] := hd.out 1 (mem_of (by kernel_rfl)) (by decide)
   obtain ⟨sxza1, cxza1, h3, f3⟩ := hd.out 3 (mem_of (by kernel_rfl)) (by decide)
   obtain ⟨sxza2, cxza2, txza2, dxza2, h5, f5⟩ := hd.out 5 (mem_of (by kernel_rfl)) (by decide)
   go_wp2_with fail
   refine (specDeriveWord_i (f3.rds).one hsz1 (f5.rds).two.1 (f5.rds).two.2).mono ?_
   rintro e w2 ⟨zaa, zac, rfl, hf, hb⟩
   go_wp2_with fail
   exact Onward.mk (hK (.tuple #[.agg #[.int .i64 (dwE t0 a0 xs2 ys2 (.mk k1 n1 ks1)).kind, .int .i64 (dwE t0 a0 xs2 ys2 (.mk k1 n1 ks1)).num, .slice zaa (dwE t0 a0 xs2 ys2 (.mk k1 n1 ks1)).kids.length zac], .int .i64 (dwC t0 a0 xs2 ys2 (.mk k1 n1 ks1))]) _ _ (by simp only [putFrom, puts, h1, h3, h5]) hb (fun iv' _ hi => ⟨zaa, zac, rfl, by rw [hi]; exact Freshs.stretch (hf)⟩))
  ·
   obtain ⟨zaa, zac, h6, f6⟩ := hd.out 6 (mem_of (by kernel_rfl)) (by decide)
   go_wp2_with fail
   exact Onward.mk (hK (.tuple #[.agg #[.int .i64 (dwE t0 a0 xs2 ys2 (.mk k1 n1 ks1)).kind, .int .i64 (dwE t0 a0 xs2 ys2 (.mk k1 n1 ks1)).num, .slice zaa (dwE t0 a0 xs2 ys2 (.mk k1 n1 ks1)).kids.length zac], .int .i64 (dwC t0 a0 xs2 ys2 (.mk k1 n1 ks1))]) _ _ (by simp only [putFrom, puts, h6]) (Below.refl _ _) (fun iv' _ _ => by
    show (.tuple #[.agg #[.int .i64 (dwE t0 a0 xs2 ys2 (.mk k1 n1 ks1)).kind, .int .i64 (dwE t0 a0 xs2 ys2 (.mk k1 n1 ks1)).num, .slice zaa (dwE t0 a0 xs2 ys2 (.mk k1 n1 ks1)).kids.length zac], .int .i64 (dwC t0 a0 xs2 ys2 (.mk k1 n1 ks1))] : Value) = vs 6 ∧ ∃ arr, (.tuple #[.agg #[.int .i64 (dwE t0 a0 xs2 ys2 (.mk k1 n1 ks1)).kind, .int .i64 (dwE t0 a0 xs2 ys2 (.mk k1 n1 ks1)).num, .slice zaa (dwE t0 a0 xs2 ys2 (.mk k1 n1 ks1)).kids.length zac], .int .i64 (dwC t0 a0 xs2 ys2 (.mk k1 n1 ks1))] : Value) = .tuple arr ∧ 1 < arr.size
    exact ⟨by simp only [h6], _, rfl, by simp⟩))
  ·
   obtain ⟨zaa, zac, h6, f6⟩ := hd.out 6 (mem_of (by kernel_rfl)) (by decide)
   obtain ⟨h7, s7⟩ := hd.out 7 (mem_of (by kernel_rfl)) (by decide)
   go_wp2_with fail
   exact Onward.mk (hK (.agg #[.int .i64 (dwE t0 a0 xs2 ys2 (.mk k1 n1 ks1)).kind, .int .i64 (dwE t0 a0 xs2 ys2 (.mk k1 n1 ks1)).num, .slice zaa (dwE t0 a0 xs2 ys2 (.mk k1 n1 ks1)).kids.length zac]) _ _ (by simp only [putFrom, puts, h6, h7]) (Below.refl _ _) (fun iv' _ _ => by
    show (.agg #[.int .i64 (dwE t0 a0 xs2 ys2 (.mk k1 n1 ks1)).kind, .int .i64 (dwE t0 a0 xs2 ys2 (.mk k1 n1 ks1)).num, .slice zaa (dwE t0 a0 xs2 ys2 (.mk k1 n1 ks1)).kids.length zac] : Value) = tupAt (vs 7) 0
    simp only [h6, h7, tupAt]; rfl))
  ·
   go_wp2_with fail
   exact Onward.mk (hK (.pointer (some ⟨w1.heap.size, 0, none⟩)) _ _ (by simp only [putFrom, puts]) (Below.alloc (Below.refl _ _) (Nat.le_refl _) _) (fun iv' _ hi => by
    show Value.pointer (some ⟨w1.heap.size, 0, none⟩) = .pointer (some ⟨(iv' 10).1, 0, none⟩) ∧ (iv' 10).2 = (iv' 10).1 + 1 ∧ Blk _ (iv' 10).1 34 [.int .i64 0, .int .i64 0, .slice none 0 0]
    rw [hi]
    exact ⟨rfl, by simp, Blk.new3 _ _ _ _ _⟩))
 case hstore =>
  intro o ho iv vs w1 hB hd hsep K hK
  simp at ho
  subst ho
  simp only [putFrom, puts]
  have h0 : vs 0 = .agg #[.int .i64 t0, .int .i64 a0] := (hd.out 0 (mem_of (by kernel_rfl))).1
  have h1 : vs 1 = .agg #[.int .i64 t0, .int .i64 a0] := (hd.out 1 (mem_of (by kernel_rfl))).1
  have h2 : vs 2 = .agg #[.int .i64 k1, .int .i64 n1, .slice s1 ks1.length c1] := (hd.out 2 (mem_of (by kernel_rfl))).1
  obtain ⟨⟨sxza1, cxza1, h3, f3⟩, b3, -, u3⟩ := hd.out 3 (mem_of (by kernel_rfl))
  have h4 : vs 4 = .agg #[.slice s2 xs2.length c2, .slice t2 ys2.length d2] := (hd.out 4 (mem_of (by kernel_rfl))).1
  obtain ⟨⟨sxza2, cxza2, txza2, dxza2, h5, f5⟩, b5, -, u5⟩ := hd.out 5 (mem_of (by kernel_rfl))
  obtain ⟨⟨zaa, zac, h6, f6⟩, b6, -, u6⟩ := hd.out 6 (mem_of (by kernel_rfl))
  obtain ⟨⟨h7, s7⟩, b7, -, u7⟩ := hd.out 7 (mem_of (by kernel_rfl))
  have h8 : vs 8 = tupAt (vs 7) 0 := (hd.out 8 (mem_of (by kernel_rfl))).1
  obtain ⟨⟨h10, q10, f10⟩, b10, -, u10⟩ := hd.out 10 (mem_of (by kernel_rfl))
  have k8 : vs 8 = .agg #[.int .i64 (dwE t0 a0 xs2 ys2 (.mk k1 n1 ks1)).kind, .int .i64 (dwE t0 a0 xs2 ys2 (.mk k1 n1 ks1)).num, .slice zaa (dwE t0 a0 xs2 ys2 (.mk k1 n1 ks1)).kids.length zac] := by rw [h8, h7, h6]; rfl
  have K7 : Hid (vs 7 = .tuple #[.agg #[.int .i64 (dwE t0 a0 xs2 ys2 (.mk k1 n1 ks1)).kind, .int .i64 (dwE t0 a0 xs2 ys2 (.mk k1 n1 ks1)).num, .slice zaa (dwE t0 a0 xs2 ys2 (.mk k1 n1 ks1)).kids.length zac], .int .i64 (dwC t0 a0 xs2 ys2 (.mk k1 n1 ks1))]) := by show _ = _; rw [h7, h6]
  obtain ⟨p, hp⟩ : ∃ p, (iv 10).1 = p := ⟨_, rfl⟩
  have hsep2 := hsep.out 6 (mem_of (by kernel_rfl)) 10 (mem_of (by kernel_rfl)) (by decide)
  unfold Sep at hsep2
  rw [hp] at h10 q10 f10 b10 hsep2
  obtain ⟨F, oF, nF, lF⟩ := f6
  have r0 := f10.c0
  have y0 := f10.frozen 0
  have r1 := f10.c1
  have y1 := f10.frozen 1
  have r2 := f10.c2
  have y2 := f10.frozen 2
  clear h0 h1 h2 h3 h4 h5 h6 h7 h8 s7
  go_wp2_with fail
  refine Onward.mk (hK _ _ (by simp only [putFrom, puts, h10, k8]) ⟨p, zaa, zac, h10, K7.out, b10, (((f10.set 0 _).set 1 _).set 2 _), ⟨F, oF.keep fun b hm => ?_, nF, fun b hm => ?_⟩, ?_⟩)
  ·
   have h1 := lF b hm
   have h2 : b ≠ p := by omega
   repeat rw [Below.heap_setCell _ _ _ _ h2]
  ·
   have h1 := lF b hm
   have h2 := oF.lt b hm
   simp only [World.setCell, Array.size_modify]
   omega
  ·
   exact Below.setCell (Below.setCell (Below.setCell (hB) (by simp; omega) _) (by simp; omega) _) (by simp; omega) _
 case hQ =>
  rintro zas v3 hE ⟨zap, zaa, zac, h8, h7, lpza, ZA, ⟨Fza, oza, nza, luza⟩, hb⟩
  have h9 : zas 9 = tupAt (zas 7) 1 := hE 9 (mem_of (by kernel_rfl))
  have h10 : zas 12 = zas 9 := hE 12 (mem_of (by kernel_rfl))
  rw [h9, h7] at h10
  replace h10 : zas 12 = .int .i64 (dwC t0 a0 xs2 ys2 (.mk k1 n1 ks1)) := h10
  simp only [putFrom, puts, h8, h10]
  clear h7 h8 h9 h10 hE
  clear l0c0 l0c1 l1c0 l1c1 l1c2 l2c0 l2c1 ltL0 ltL1 ltL2
  have sz_v2_v3 := (hb).size
  replace L0 := L0.below hb
  replace L1 := L1.below hb
  replace L2 := L2.below hb
  replace hB := Below.on hB hb hB.size
  clear hb
  have lza : ∀ b ∈ Fza, v2.heap.size ≤ b ∧ b ≠ zap := fun b hm => ⟨(luza b hm).1, (luza b hm).2.1⟩
  have uza : ∀ b ∈ Fza, b < v3.heap.size := fun b hm => (luza b hm).2.2
  clear luza
  have lt_v3_L0 := L0.lt
  have lt_v3_L1 := L1.lt
  have lt_v3_L2 := L2.lt
  have lt_v3_ZA := ZA.lt
  have l0c0 := L0.c0
  have l0c1 := L0.c1
  have l1c0 := L1.c0
  have l1c1 := L1.c1
  have l1c2 := L1.c2
  have l2c0 := L2.c0
  have l2c1 := L2.c1
  have zac0 := ZA.c0
  have zac1 := ZA.c1
  have zac2 := ZA.c2
  have ltL0 := L0.lt
  have ltL1 := L1.lt
  have ltL2 := L2.lt
  have ltZA := ZA.lt
  go_wp2_with fail
  refine (toExpr_i (hr1.below hB) hsz1).mono ?_
  rintro e v4 ⟨sxx1, cxx1, rfl, ⟨FX1, oX1, nX1, lX1⟩, hb⟩
  have uX1 := oX1.lt
  clear l0c0 l0c1 l1c0 l1c1 l1c2 l2c0 l2c1 zac0 zac1 zac2 ltL0 ltL1 ltL2 ltZA
  have sz_v3_v4 := (hb).size
  replace L0 := L0.below hb
  replace L1 := L1.below hb
  replace L2 := L2.below hb
  replace ZA := ZA.below hb
  replace oza := oza.keep fun b hm => (hb).block b (oza.lt b hm)
  replace hB := Below.on hB hb hB.size
  clear hb
  have l0c0 := L0.c0
  have l0c1 := L0.c1
  have l1c0 := L1.c0
  have l1c1 := L1.c1
  have l1c2 := L1.c2
  have l2c0 := L2.c0
  have l2c1 := L2.c1
  have zac0 := ZA.c0
  have zac1 := ZA.c1
  have zac2 := ZA.c2
  have ltL0 := L0.lt
  have ltL1 := L1.lt
  have ltL2 := L2.lt
  have ltZA := ZA.lt
  go_wp2_with fail
  have X1 := Blk.new3 v4 34 (.int .i64 k1) (.int .i64 n1) (.slice sxx1 ks1.length cxx1)
  clear l0c0 l0c1 l1c0 l1c1 l1c2 l2c0 l2c1 zac0 zac1 zac2 ltL0 ltL1 ltL2 ltZA
  replace L0 := L0.alloc (.cells #[.int .i64 k1, .int .i64 n1, .slice sxx1 ks1.length cxx1] 34)
  replace L1 := L1.alloc (.cells #[.int .i64 k1, .int .i64 n1, .slice sxx1 ks1.length cxx1] 34)
  replace L2 := L2.alloc (.cells #[.int .i64 k1, .int .i64 n1, .slice sxx1 ks1.length cxx1] 34)
  replace ZA := ZA.alloc (.cells #[.int .i64 k1, .int .i64 n1, .slice sxx1 ks1.length cxx1] 34)
  replace oza := oza.keep (w' := v4.alloc (.cells #[.int .i64 k1, .int .i64 n1, .slice sxx1 ks1.length cxx1] 34)) fun b hm => Below.heap_alloc v4 _ b (oza.lt b hm)
  replace oX1 := oX1.keep (w' := v4.alloc (.cells #[.int .i64 k1, .int .i64 n1, .slice sxx1 ks1.length cxx1] 34)) fun b hm => Below.heap_alloc v4 _ b (oX1.lt b hm)
  replace hB := hB.alloc hB.size (.cells #[.int .i64 k1, .int .i64 n1, .slice sxx1 ks1.length cxx1] 34)
  have szA : (v4.alloc (.cells #[.int .i64 k1, .int .i64 n1, .slice sxx1 ks1.length cxx1] 34)).heap.size = v4.heap.size + 1 := by simp
  generalize v4.alloc (.cells #[.int .i64 k1, .int .i64 n1, .slice sxx1 ks1.length cxx1] 34) = v5 at L0 L1 L2 ZA X1 oza oX1 hB szA ⊢
  have sz_v5 := szA
  clear szA
  have lt_v5_L0 := L0.lt
  have lt_v5_L1 := L1.lt
  have lt_v5_L2 := L2.lt
  have lt_v5_ZA := ZA.lt
  have lt_v5_X1 := X1.lt
  have l0c0 := L0.c0
  have l0c1 := L0.c1
  have l1c0 := L1.c0
  have l1c1 := L1.c1
  have l1c2 := L1.c2
  have l2c0 := L2.c0
  have l2c1 := L2.c1
  have zac0 := ZA.c0
  have zac1 := ZA.c1
  have zac2 := ZA.c2
  have x1c0 := X1.c0
  have x1c1 := X1.c1
  have x1c2 := X1.c2
  have ltL0 := L0.lt
  have ltL1 := L1.lt
  have ltL2 := L2.lt
  have ltZA := ZA.lt
  have ltX1 := X1.lt
  go_wp2_with fail
  refine (toWord_i (hr2.below hB) (hq2.below hB) hsz2).mono ?_
  rintro e v6 ⟨sxx2, cxx2, txx2, dxx2, rfl, ⟨FX2, oX2, nX2, lX2⟩, hb⟩
  have uX2 := oX2.lt
  clear l0c0 l0c1 l1c0 l1c1 l1c2 l2c0 l2c1 zac0 zac1 zac2 x1c0 x1c1 x1c2 ltL0 ltL1 ltL2 ltZA ltX1
  have sz_v5_v6 := (hb).size
  replace L0 := L0.below hb
  replace L1 := L1.below hb
  replace L2 := L2.below hb
  replace ZA := ZA.below hb
  replace X1 := X1.below hb
  replace oza := oza.keep fun b hm => (hb).block b (oza.lt b hm)
  replace oX1 := oX1.keep fun b hm => (hb).block b (oX1.lt b hm)
  replace hB := Below.on hB hb hB.size
  clear hb
  have l0c0 := L0.c0
  have l0c1 := L0.c1
  have l1c0 := L1.c0
  have l1c1 := L1.c1
  have l1c2 := L1.c2
  have l2c0 := L2.c0
  have l2c1 := L2.c1
  have zac0 := ZA.c0
  have zac1 := ZA.c1
  have zac2 := ZA.c2
  have x1c0 := X1.c0
  have x1c1 := X1.c1
  have x1c2 := X1.c2
  have ltL0 := L0.lt
  have ltL1 := L1.lt
  have ltL2 := L2.lt
  have ltZA := ZA.lt
  have ltX1 := X1.lt
  go_wp2_with fail
  have X2 := Blk.new2 v6 40 (.slice sxx2 xs2.length cxx2) (.slice txx2 ys2.length dxx2)
  clear l0c0 l0c1 l1c0 l1c1 l1c2 l2c0 l2c1 zac0 zac1 zac2 x1c0 x1c1 x1c2 ltL0 ltL1 ltL2 ltZA ltX1
  replace L0 := L0.alloc (.cells #[.slice sxx2 xs2.length cxx2, .slice txx2 ys2.length dxx2] 40)
  replace L1 := L1.alloc (.cells #[.slice sxx2 xs2.length cxx2, .slice txx2 ys2.length dxx2] 40)
  replace L2 := L2.alloc (.cells #[.slice sxx2 xs2.length cxx2, .slice txx2 ys2.length dxx2] 40)
  replace ZA := ZA.alloc (.cells #[.slice sxx2 xs2.length cxx2, .slice txx2 ys2.length dxx2] 40)
  replace X1 := X1.alloc (.cells #[.slice sxx2 xs2.length cxx2, .slice txx2 ys2.length dxx2] 40)
  replace oza := oza.keep (w' := v6.alloc (.cells #[.slice sxx2 xs2.length cxx2, .slice txx2 ys2.length dxx2] 40)) fun b hm => Below.heap_alloc v6 _ b (oza.lt b hm)
  replace oX1 := oX1.keep (w' := v6.alloc (.cells #[.slice sxx2 xs2.length cxx2, .slice txx2 ys2.length dxx2] 40)) fun b hm => Below.heap_alloc v6 _ b (oX1.lt b hm)
  replace oX2 := oX2.keep (w' := v6.alloc (.cells #[.slice sxx2 xs2.length cxx2, .slice txx2 ys2.length dxx2] 40)) fun b hm => Below.heap_alloc v6 _ b (oX2.lt b hm)
  replace hB := hB.alloc hB.size (.cells #[.slice sxx2 xs2.length cxx2, .slice txx2 ys2.length dxx2] 40)
  have szA : (v6.alloc (.cells #[.slice sxx2 xs2.length cxx2, .slice txx2 ys2.length dxx2] 40)).heap.size = v6.heap.size + 1 := by simp
  generalize v6.alloc (.cells #[.slice sxx2 xs2.length cxx2, .slice txx2 ys2.length dxx2] 40) = v7 at L0 L1 L2 ZA X1 X2 oza oX1 oX2 hB szA ⊢
  have sz_v7 := szA
  clear szA
  have lt_v7_L0 := L0.lt
  have lt_v7_L1 := L1.lt
  have lt_v7_L2 := L2.lt
  have lt_v7_ZA := ZA.lt
  have lt_v7_X1 := X1.lt
  have lt_v7_X2 := X2.lt
  have l0c0 := L0.c0
  have l0c1 := L0.c1
  have l1c0 := L1.c0
  have l1c1 := L1.c1
  have l1c2 := L1.c2
  have l2c0 := L2.c0
  have l2c1 := L2.c1
  have zac0 := ZA.c0
  have zac1 := ZA.c1
  have zac2 := ZA.c2
  have x1c0 := X1.c0
  have x1c1 := X1.c1
  have x1c2 := X1.c2
  have x2c0 := X2.c0
  have x2c1 := X2.c1
  have ltL0 := L0.lt
  have ltL1 := L1.lt
  have ltL2 := L2.lt
  have ltZA := ZA.lt
  have ltX1 := X1.lt
  have ltX2 := X2.lt
  go_wp2_with fail
  clear l0c0 l0c1 l1c0 l1c1 l1c2 l2c0 l2c1 zac0 zac1 zac2 x1c0 x1c1 x1c2 x2c0 x2c1 ltL0 ltL1 ltL2 ltZA ltX1 ltX2
  have hB0 := hB
  refine region_rg 9 [7, 10] [0, 1, 2, 3, 4, 5, 6, 8] (fun i iv vs wx => match i with
   | 0 => vs 0 = .agg #[.int .i64 t0, .int .i64 a0]
   | 1 => vs 1 = .agg #[.int .i64 t0, .int .i64 a0]
   | 2 => vs 2 = .agg #[.int .i64 k1, .int .i64 n1, .slice sxx1 ks1.length cxx1]
   | 3 => vs 3 = .agg #[.slice sxx2 xs2.length cxx2, .slice txx2 ys2.length dxx2]
   | 4 => ∃ zba zbc, vs 4 = .tuple #[.agg #[.int .i64 (dwE t0 a0 xs2 ys2 (.mk k1 n1 ks1)).kind, .int .i64 (dwE t0 a0 xs2 ys2 (.mk k1 n1 ks1)).num, .slice zba (dwE t0 a0 xs2 ys2 (.mk k1 n1 ks1)).kids.length zbc], .int .i64 (dwC t0 a0 xs2 ys2 (.mk k1 n1 ks1))] ∧ FreshIn (iv 4) wx [kidsD (dwE t0 a0 xs2 ys2 (.mk k1 n1 ks1)).kids] [.slice zba (dwE t0 a0 xs2 ys2 (.mk k1 n1 ks1)).kids.length zbc]
   | 5 => vs 5 = vs 4 ∧ ∃ arr, vs 5 = .tuple arr ∧ 1 < arr.size
   | 6 => vs 6 = tupAt (vs 5) 0
   | 8 => vs 8 = .pointer (some ⟨(iv 8).1, 0, none⟩) ∧ (iv 8).2 = (iv 8).1 + 1 ∧ Blk wx (iv 8).1 34 [.int .i64 0, .int .i64 0, .slice none 0 0]
   | _ => True) (fun vs wx => ∃ p zba zbc, vs 8 = .pointer (some ⟨p, 0, none⟩) ∧ vs 5 = .tuple #[.agg #[.int .i64 (dwE t0 a0 xs2 ys2 (.mk k1 n1 ks1)).kind, .int .i64 (dwE t0 a0 xs2 ys2 (.mk k1 n1 ks1)).num, .slice zba (dwE t0 a0 xs2 ys2 (.mk k1 n1 ks1)).kids.length zbc], .int .i64 (dwC t0 a0 xs2 ys2 (.mk k1 n1 ks1))] ∧ v7.heap.size ≤ p ∧ Blk wx p 34 [.int .i64 (dwE t0 a0 xs2 ys2 (.mk k1 n1 ks1)).kind, .int .i64 (dwE t0 a0 xs2 ys2 (.mk k1 n1 ks1)).num, .slice zba (dwE t0 a0 xs2 ys2 (.mk k1 n1 ks1)).kids.length zbc] ∧ (∃ F, Ows wx [kidsD (dwE t0 a0 xs2 ys2 (.mk k1 n1 ks1)).kids] [.slice zba (dwE t0 a0 xs2 ys2 (.mk k1 n1 ks1)).kids.length zbc] F ∧ F.Nodup ∧ ∀ b ∈ F, v7.heap.size ≤ b ∧ b ≠ p ∧ b < wx.heap.size) ∧ Below v7.heap.size v7 wx)
   (by kernel_rfl) (by kernel_rfl) (by kernel_rfl) (by kernel_rfl) ?hJ ?hX ?hF ?hstep ?hstore ?hQ (by kernel_rfl)
  case hX =>
   intro i o t k hi ho hop iv vs w hj
   simp only [List.mem_cons, List.not_mem_nil, or_false] at hi
   rcases hi with rfl | rfl
   ·
    simp at ho
    subst ho
    simp at hop
    obtain ⟨rfl, rfl⟩ := hop
    have hj2 : vs 5 = vs 4 ∧ ∃ arr, vs 5 = .tuple arr ∧ 1 < arr.size := hj
    obtain ⟨-, arr, q1, q2⟩ := hj2
    exact ⟨arr, q1, by omega⟩
   ·
    simp at ho
    subst ho
    simp at hop
  case hF =>
   intro vs vs' wx h hf
   have e5 := h 5 (mem_of (by kernel_rfl))
   have e8 := h 8 (mem_of (by kernel_rfl))
   show ∃ p zba zbc, vs' 8 = .pointer (some ⟨p, 0, none⟩) ∧ vs' 5 = .tuple #[.agg #[.int .i64 (dwE t0 a0 xs2 ys2 (.mk k1 n1 ks1)).kind, .int .i64 (dwE t0 a0 xs2 ys2 (.mk k1 n1 ks1)).num, .slice zba (dwE t0 a0 xs2 ys2 (.mk k1 n1 ks1)).kids.length zbc], .int .i64 (dwC t0 a0 xs2 ys2 (.mk k1 n1 ks1))] ∧ v7.heap.size ≤ p ∧ Blk wx p 34 [.int .i64 (dwE t0 a0 xs2 ys2 (.mk k1 n1 ks1)).kind, .int .i64 (dwE t0 a0 xs2 ys2 (.mk k1 n1 ks1)).num, .slice zba (dwE t0 a0 xs2 ys2 (.mk k1 n1 ks1)).kids.length zbc] ∧ (∃ F, Ows wx [kidsD (dwE t0 a0 xs2 ys2 (.mk k1 n1 ks1)).kids] [.slice zba (dwE t0 a0 xs2 ys2 (.mk k1 n1 ks1)).kids.length zbc] F ∧ F.Nodup ∧ ∀ b ∈ F, v7.heap.size ≤ b ∧ b ≠ p ∧ b < wx.heap.size) ∧ Below v7.heap.size v7 wx
   rw [← e5, ← e8]
   exact hf
  case hJ =>
   intro i hi iv iv' vs vs' wx wx' ha hv hb hj
   simp only [List.mem_cons, List.not_mem_nil, or_false] at hi
   rcases hi with rfl | rfl | rfl | rfl | rfl | rfl | rfl | rfl
   ·
    have e0 := hv.out 0 (mem_of (by kernel_rfl))
    have hj' : vs 0 = .agg #[.int .i64 t0, .int .i64 a0] := hj
    show vs' 0 = .agg #[.int .i64 t0, .int .i64 a0]
    rw [← e0]
    exact hj'
   ·
    have e1 := hv.out 1 (mem_of (by kernel_rfl))
    have hj' : vs 1 = .agg #[.int .i64 t0, .int .i64 a0] := hj
    show vs' 1 = .agg #[.int .i64 t0, .int .i64 a0]
    rw [← e1]
    exact hj'
   ·
    have e2 := hv.out 2 (mem_of (by kernel_rfl))
    have hj' : vs 2 = .agg #[.int .i64 k1, .int .i64 n1, .slice sxx1 ks1.length cxx1] := hj
    show vs' 2 = .agg #[.int .i64 k1, .int .i64 n1, .slice sxx1 ks1.length cxx1]
    rw [← e2]
    exact hj'
   ·
    have e3 := hv.out 3 (mem_of (by kernel_rfl))
    have hj' : vs 3 = .agg #[.slice sxx2 xs2.length cxx2, .slice txx2 ys2.length dxx2] := hj
    show vs' 3 = .agg #[.slice sxx2 xs2.length cxx2, .slice txx2 ys2.length dxx2]
    rw [← e3]
    exact hj'
   ·
    have e4 := hv.out 4 (mem_of (by kernel_rfl))
    have g4 := ha.out 4 (mem_of (by kernel_rfl))
    obtain ⟨zba, zbc, q1, q2⟩ := hj
    exact ⟨zba, zbc, e4 ▸ q1, g4 ▸ q2.below hb⟩
   ·
    have e5 := hv.out 5 (mem_of (by kernel_rfl))
    have e4 := hv.out 4 (mem_of (by kernel_rfl))
    have hj' : vs 5 = vs 4 ∧ ∃ arr, vs 5 = .tuple arr ∧ 1 < arr.size := hj
    show vs' 5 = vs' 4 ∧ ∃ arr, vs' 5 = .tuple arr ∧ 1 < arr.size
    rw [← e4, ← e5]
    exact hj'
   ·
    have e6 := hv.out 6 (mem_of (by kernel_rfl))
    have e5 := hv.out 5 (mem_of (by kernel_rfl))
    have hj' : vs 6 = tupAt (vs 5) 0 := hj
    show vs' 6 = tupAt (vs' 5) 0
    rw [← e5, ← e6]
    exact hj'
   ·
    have e8 := hv.out 8 (mem_of (by kernel_rfl))
    have g8 := ha.out 8 (mem_of (by kernel_rfl))
    obtain ⟨q1, q3, q2⟩ := hj
    show vs' 8 = .pointer (some ⟨(iv' 8).1, 0, none⟩) ∧ (iv' 8).2 = (iv' 8).1 + 1 ∧ Blk wx' (iv' 8).1 34 [.int .i64 0, .int .i64 0, .slice none 0 0]
    rw [← e8, ← g8]
    exact ⟨q1, q3, q2.below hb⟩
  case hstep =>
   intro i hi o ho iv vs w1 hB hd hbd hsep K hK
   simp only [List.mem_cons, List.not_mem_nil, or_false] at hi
   have hBw := Below.on hB0 hB hB0.size
   have L0s := L0.below hB
   have l0s0 := L0s.c0
   have l0s1 := L0s.c1
   have L1s := L1.below hB
   have l1s0 := L1s.c0
   have l1s1 := L1s.c1
   have l1s2 := L1s.c2
   have L2s := L2.below hB
   have l2s0 := L2s.c0
   have l2s1 := L2s.c1
   have ZAs := ZA.below hB
   have zas0 := ZAs.c0
   have zas1 := ZAs.c1
   have zas2 := ZAs.c2
   have X1s := X1.below hB
   have x1s0 := X1s.c0
   have x1s1 := X1s.c1
   have x1s2 := X1s.c2
   have X2s := X2.below hB
   have x2s0 := X2s.c0
   have x2s1 := X2s.c1
   rcases hi with rfl | rfl | rfl | rfl | rfl | rfl | rfl | rfl
   all_goals
    simp at ho
    subst ho
    simp only [putFrom, puts]
   ·
    go_wp2_with fail
    exact Onward.mk (hK (.agg #[.int .i64 t0, .int .i64 a0]) _ _ (by simp only [putFrom, puts]) (Below.refl _ _) (fun iv' _ _ => rfl))
   ·
    have h0 : vs 0 = .agg #[.int .i64 t0, .int .i64 a0] := hd.out 0 (mem_of (by kernel_rfl)) (by decide)
    go_wp2_with fail
    refine (toSig_any t0 a0 _).mono ?_
    rintro e w2 ⟨rfl, hb⟩
    go_wp2_with fail
    exact Onward.mk (hK (.agg #[.int .i64 t0, .int .i64 a0]) _ _ (by simp only [putFrom, puts, h0]) hb (fun iv' _ _ => rfl))
   ·
    go_wp2_with fail
    exact Onward.mk (hK (.agg #[.int .i64 k1, .int .i64 n1, .slice sxx1 ks1.length cxx1]) _ _ (by simp only [putFrom, puts]) (Below.refl _ _) (fun iv' _ _ => rfl))
   ·
    go_wp2_with fail
    exact Onward.mk (hK (.agg #[.slice sxx2 xs2.length cxx2, .slice txx2 ys2.length dxx2]) _ _ (by simp only [putFrom, puts]) (Below.refl _ _) (fun iv' _ _ => rfl))
   ·
    have h1 : vs 1 = .agg #[.int .i64 t0, .int .i64 a0] := hd.out 1 (mem_of (by kernel_rfl)) (by decide)
    have h2 : vs 2 = .agg #[.int .i64 k1, .int .i64 n1, .slice sxx1 ks1.length cxx1] := hd.out 2 (mem_of (by kernel_rfl)) (by decide)
    have h3 : vs 3 = .agg #[.slice sxx2 xs2.length cxx2, .slice txx2 ys2.length dxx2] := hd.out 3 (mem_of (by kernel_rfl)) (by decide)
    go_wp2_with fail
    refine (implDeriveWord_i (((oX1.rds.below hB)).one) hsz1 (((oX2.rds.below hB)).two.1) (((oX2.rds.below hB)).two.2)).mono ?_
    rintro e w2 ⟨zba, zbc, rfl, hf, hb⟩
    go_wp2_with fail
    exact Onward.mk (hK (.tuple #[.agg #[.int .i64 (dwE t0 a0 xs2 ys2 (.mk k1 n1 ks1)).kind, .int .i64 (dwE t0 a0 xs2 ys2 (.mk k1 n1 ks1)).num, .slice zba (dwE t0 a0 xs2 ys2 (.mk k1 n1 ks1)).kids.length zbc], .int .i64 (dwC t0 a0 xs2 ys2 (.mk k1 n1 ks1))]) _ _ (by simp only [putFrom, puts, h1, h2, h3]) hb (fun iv' _ hi => ⟨zba, zbc, rfl, by rw [hi]; exact Freshs.stretch (hf)⟩))
   ·
    obtain ⟨zba, zbc, h4, f4⟩ := hd.out 4 (mem_of (by kernel_rfl)) (by decide)
    go_wp2_with fail
    exact Onward.mk (hK (.tuple #[.agg #[.int .i64 (dwE t0 a0 xs2 ys2 (.mk k1 n1 ks1)).kind, .int .i64 (dwE t0 a0 xs2 ys2 (.mk k1 n1 ks1)).num, .slice zba (dwE t0 a0 xs2 ys2 (.mk k1 n1 ks1)).kids.length zbc], .int .i64 (dwC t0 a0 xs2 ys2 (.mk k1 n1 ks1))]) _ _ (by simp only [putFrom, puts, h4]) (Below.refl _ _) (fun iv' _ _ => by
     show (.tuple #[.agg #[.int .i64 (dwE t0 a0 xs2 ys2 (.mk k1 n1 ks1)).kind, .int .i64 (dwE t0 a0 xs2 ys2 (.mk k1 n1 ks1)).num, .slice zba (dwE t0 a0 xs2 ys2 (.mk k1 n1 ks1)).kids.length zbc], .int .i64 (dwC t0 a0 xs2 ys2 (.mk k1 n1 ks1))] : Value) = vs 4 ∧ ∃ arr, (.tuple #[.agg #[.int .i64 (dwE t0 a0 xs2 ys2 (.mk k1 n1 ks1)).kind, .int .i64 (dwE t0 a0 xs2 ys2 (.mk k1 n1 ks1)).num, .slice zba (dwE t0 a0 xs2 ys2 (.mk k1 n1 ks1)).kids.length zbc], .int .i64 (dwC t0 a0 xs2 ys2 (.mk k1 n1 ks1))] : Value) = .tuple arr ∧ 1 < arr.size
     exact ⟨by simp only [h4], _, rfl, by simp⟩))
   ·
    obtain ⟨zba, zbc, h4, f4⟩ := hd.out 4 (mem_of (by kernel_rfl)) (by decide)
    obtain ⟨h5, s5⟩ := hd.out 5 (mem_of (by kernel_rfl)) (by decide)
    go_wp2_with fail
    exact Onward.mk (hK (.agg #[.int .i64 (dwE t0 a0 xs2 ys2 (.mk k1 n1 ks1)).kind, .int .i64 (dwE t0 a0 xs2 ys2 (.mk k1 n1 ks1)).num, .slice zba (dwE t0 a0 xs2 ys2 (.mk k1 n1 ks1)).kids.length zbc]) _ _ (by simp only [putFrom, puts, h4, h5]) (Below.refl _ _) (fun iv' _ _ => by
     show (.agg #[.int .i64 (dwE t0 a0 xs2 ys2 (.mk k1 n1 ks1)).kind, .int .i64 (dwE t0 a0 xs2 ys2 (.mk k1 n1 ks1)).num, .slice zba (dwE t0 a0 xs2 ys2 (.mk k1 n1 ks1)).kids.length zbc] : Value) = tupAt (vs 5) 0
     simp only [h4, h5, tupAt]; rfl))
   ·
    go_wp2_with fail
    exact Onward.mk (hK (.pointer (some ⟨w1.heap.size, 0, none⟩)) _ _ (by simp only [putFrom, puts]) (Below.alloc (Below.refl _ _) (Nat.le_refl _) _) (fun iv' _ hi => by
     show Value.pointer (some ⟨w1.heap.size, 0, none⟩) = .pointer (some ⟨(iv' 8).1, 0, none⟩) ∧ (iv' 8).2 = (iv' 8).1 + 1 ∧ Blk _ (iv' 8).1 34 [.int .i64 0, .int .i64 0, .slice none 0 0]
     rw [hi]
     exact ⟨rfl, by simp, Blk.new3 _ _ _ _ _⟩))
  case hstore =>
   intro o ho iv vs w1 hB hd hsep K hK
   simp at ho
   subst ho
   simp only [putFrom, puts]
   have h0 : vs 0 = .agg #[.int .i64 t0, .int .i64 a0] := (hd.out 0 (mem_of (by kernel_rfl))).1
   have h1 : vs 1 = .agg #[.int .i64 t0, .int .i64 a0] := (hd.out 1 (mem_of (by kernel_rfl))).1
   have h2 : vs 2 = .agg #[.int .i64 k1, .int .i64 n1, .slice sxx1 ks1.length cxx1] := (hd.out 2 (mem_of (by kernel_rfl))).1
   have h3 : vs 3 = .agg #[.slice sxx2 xs2.length cxx2, .slice txx2 ys2.length dxx2] := (hd.out 3 (mem_of (by kernel_rfl))).1
   obtain ⟨⟨zba, zbc, h4, f4⟩, b4, -, u4⟩ := hd.out 4 (mem_of (by kernel_rfl))
   obtain ⟨⟨h5, s5⟩, b5, -, u5⟩ := hd.out 5 (mem_of (by kernel_rfl))
   have h6 : vs 6 = tupAt (vs 5) 0 := (hd.out 6 (mem_of (by kernel_rfl))).1
   obtain ⟨⟨h8, q8, f8⟩, b8, -, u8⟩ := hd.out 8 (mem_of (by kernel_rfl))
   have k6 : vs 6 = .agg #[.int .i64 (dwE t0 a0 xs2 ys2 (.mk k1 n1 ks1)).kind, .int .i64 (dwE t0 a0 xs2 ys2 (.mk k1 n1 ks1)).num, .slice zba (dwE t0 a0 xs2 ys2 (.mk k1 n1 ks1)).kids.length zbc] := by rw [h6, h5, h4]; rfl
   have K5 : Hid (vs 5 = .tuple #[.agg #[.int .i64 (dwE t0 a0 xs2 ys2 (.mk k1 n1 ks1)).kind, .int .i64 (dwE t0 a0 xs2 ys2 (.mk k1 n1 ks1)).num, .slice zba (dwE t0 a0 xs2 ys2 (.mk k1 n1 ks1)).kids.length zbc], .int .i64 (dwC t0 a0 xs2 ys2 (.mk k1 n1 ks1))]) := by show _ = _; rw [h5, h4]
   obtain ⟨p, hp⟩ : ∃ p, (iv 8).1 = p := ⟨_, rfl⟩
   have hsep2 := hsep.out 4 (mem_of (by kernel_rfl)) 8 (mem_of (by kernel_rfl)) (by decide)
   unfold Sep at hsep2
   rw [hp] at h8 q8 f8 b8 hsep2
   obtain ⟨F, oF, nF, lF⟩ := f4
   have r0 := f8.c0
   have y0 := f8.frozen 0
   have r1 := f8.c1
   have y1 := f8.frozen 1
   have r2 := f8.c2
   have y2 := f8.frozen 2
   clear h0 h1 h2 h3 h4 h5 h6 s5
   go_wp2_with fail
   refine Onward.mk (hK _ _ (by simp only [putFrom, puts, h8, k6]) ⟨p, zba, zbc, h8, K5.out, b8, (((f8.set 0 _).set 1 _).set 2 _), ⟨F, oF.keep fun b hm => ?_, nF, fun b hm => ?_⟩, ?_⟩)
   ·
    have h1 := lF b hm
    have h2 : b ≠ p := by omega
    repeat rw [Below.heap_setCell _ _ _ _ h2]
   ·
    have h1 := lF b hm
    have h2 := oF.lt b hm
    simp only [World.setCell, Array.size_modify]
    omega
   ·
    exact Below.setCell (Below.setCell (Below.setCell (hB) (by simp; omega) _) (by simp; omega) _) (by simp; omega) _
  case hQ =>
   rintro zbs v8 hE ⟨zbp, zba, zbc, h8, h7, lpzb, ZB, ⟨Fzb, ozb, nzb, luzb⟩, hb⟩
   have h9 : zbs 7 = tupAt (zbs 5) 1 := hE 7 (mem_of (by kernel_rfl))
   have h10 : zbs 10 = zbs 7 := hE 10 (mem_of (by kernel_rfl))
   rw [h9, h7] at h10
   replace h10 : zbs 10 = .int .i64 (dwC t0 a0 xs2 ys2 (.mk k1 n1 ks1)) := h10
   simp only [putFrom, puts, h8, h10]
   clear h7 h8 h9 h10 hE
   have sz_v7_v8 := (hb).size
   replace L0 := L0.below hb
   replace L1 := L1.below hb
   replace L2 := L2.below hb
   replace ZA := ZA.below hb
   replace X1 := X1.below hb
   replace X2 := X2.below hb
   replace oza := oza.keep fun b hm => (hb).block b (oza.lt b hm)
   replace oX1 := oX1.keep fun b hm => (hb).block b (oX1.lt b hm)
   replace oX2 := oX2.keep fun b hm => (hb).block b (oX2.lt b hm)
   replace hB := Below.on hB hb hB.size
   clear hb
   have lzb : ∀ b ∈ Fzb, v7.heap.size ≤ b ∧ b ≠ zbp := fun b hm => ⟨(luzb b hm).1, (luzb b hm).2.1⟩
   have uzb : ∀ b ∈ Fzb, b < v8.heap.size := fun b hm => (luzb b hm).2.2
   clear luzb
   have lt_v8_L0 := L0.lt
   have lt_v8_L1 := L1.lt
   have lt_v8_L2 := L2.lt
   have lt_v8_ZA := ZA.lt
   have lt_v8_X1 := X1.lt
   have lt_v8_X2 := X2.lt
   have lt_v8_ZB := ZB.lt
   have l0c0 := L0.c0
   have l0c1 := L0.c1
   have l1c0 := L1.c0
   have l1c1 := L1.c1
   have l1c2 := L1.c2
   have l2c0 := L2.c0
   have l2c1 := L2.c1
   have zac0 := ZA.c0
   have zac1 := ZA.c1
   have zac2 := ZA.c2
   have x1c0 := X1.c0
   have x1c1 := X1.c1
   have x1c2 := X1.c2
   have x2c0 := X2.c0
   have x2c1 := X2.c1
   have zbc0 := ZB.c0
   have zbc1 := ZB.c1
   have zbc2 := ZB.c2
   have ltL0 := L0.lt
   have ltL1 := L1.lt
   have ltL2 := L2.lt
   have ltZA := ZA.lt
   have ltX1 := X1.lt
   have ltX2 := X2.lt
   have ltZB := ZB.lt
   go_wp2_with fail
   refine (eqExpr_i ((ozb.rds).one) ((oza.rds).one)).mono ?_
   rintro e v9 ⟨rfl, hb⟩
   clear l0c0 l0c1 l1c0 l1c1 l1c2 l2c0 l2c1 zac0 zac1 zac2 x1c0 x1c1 x1c2 x2c0 x2c1 zbc0 zbc1 zbc2 ltL0 ltL1 ltL2 ltZA ltX1 ltX2 ltZB
   have sz_v8_v9 := (hb).size
   replace L0 := L0.below hb
   replace L1 := L1.below hb
   replace L2 := L2.below hb
   replace ZA := ZA.below hb
   replace X1 := X1.below hb
   replace X2 := X2.below hb
   replace ZB := ZB.below hb
   replace oza := oza.keep fun b hm => (hb).block b (oza.lt b hm)
   replace oX1 := oX1.keep fun b hm => (hb).block b (oX1.lt b hm)
   replace oX2 := oX2.keep fun b hm => (hb).block b (oX2.lt b hm)
   replace ozb := ozb.keep fun b hm => (hb).block b (ozb.lt b hm)
   replace hB := Below.on hB hb hB.size
   clear hb
   rw [efR]
   have l0c0 := L0.c0
   have l0c1 := L0.c1
   have l1c0 := L1.c0
   have l1c1 := L1.c1
   have l1c2 := L1.c2
   have l2c0 := L2.c0
   have l2c1 := L2.c1
   have zac0 := ZA.c0
   have zac1 := ZA.c1
   have zac2 := ZA.c2
   have x1c0 := X1.c0
   have x1c1 := X1.c1
   have x1c2 := X1.c2
   have x2c0 := X2.c0
   have x2c1 := X2.c1
   have zbc0 := ZB.c0
   have zbc1 := ZB.c1
   have zbc2 := ZB.c2
   have ltL0 := L0.lt
   have ltL1 := L1.lt
   have ltL2 := L2.lt
   have ltZA := ZA.lt
   have ltX1 := X1.lt
   have ltX2 := X2.lt
   have ltZB := ZB.lt
   go_wp2_with fail
   go_region_held3 (fun w' => (∀ b o, b < v9.heap.size → w'.cell? ⟨b, o, none⟩ = v9.cell? ⟨b, o, none⟩) ∧ Below v9.heap.size v9 w')
    (first | exact kp_drew v9 | exact kp_on ‹_› hb)
    (first
     | (go_at_call 18; have hK := ‹(∀ b o, b < v9.heap.size → _) ∧ Below v9.heap.size v9 _›; ((with_reducible refine (toExpr_i (hr1.below (Below.on hB hK.2 hB.size)) hsz1).mono ?_); rintro e wy1 ⟨sxy1, cxy1, rfl, hfy1, hb⟩))
     | (go_at_call 21; have hK := ‹(∀ b o, b < v9.heap.size → _) ∧ Below v9.heap.size v9 _›; ((with_reducible refine (eqExpr_i (((oX1.rds).one).below hK.2) ((hfy1.rds).one)).mono ?_); rintro e v10 ⟨rfl, hb⟩)))
   have hK := ‹(∀ b o, b < v9.heap.size → _) ∧ Below v9.heap.size v9 _›
   clear l0c0 l0c1 l1c0 l1c1 l1c2 l2c0 l2c1 zac0 zac1 zac2 x1c0 x1c1 x1c2 x2c0 x2c1 zbc0 zbc1 zbc2 ltL0 ltL1 ltL2 ltZA ltX1 ltX2 ltZB
   have sz_v9_v10 := (hK.2).size
   replace L0 := L0.below hK.2
   replace L1 := L1.below hK.2
   replace L2 := L2.below hK.2
   replace ZA := ZA.below hK.2
   replace X1 := X1.below hK.2
   replace X2 := X2.below hK.2
   replace ZB := ZB.below hK.2
   replace oza := oza.keep fun b hm => (hK.2).block b (oza.lt b hm)
   replace oX1 := oX1.keep fun b hm => (hK.2).block b (oX1.lt b hm)
   replace oX2 := oX2.keep fun b hm => (hK.2).block b (oX2.lt b hm)
   replace ozb := ozb.keep fun b hm => (hK.2).block b (ozb.lt b hm)
   replace hB := Below.on hB hK.2 hB.size
   clear hK
   try simp only [ef1, Bool.not_true]
   have l0c0 := L0.c0
   have l0c1 := L0.c1
   have l1c0 := L1.c0
   have l1c1 := L1.c1
   have l1c2 := L1.c2
   have l2c0 := L2.c0
   have l2c1 := L2.c1
   have zac0 := ZA.c0
   have zac1 := ZA.c1
   have zac2 := ZA.c2
   have x1c0 := X1.c0
   have x1c1 := X1.c1
   have x1c2 := X1.c2
   have x2c0 := X2.c0
   have x2c1 := X2.c1
   have zbc0 := ZB.c0
   have zbc1 := ZB.c1
   have zbc2 := ZB.c2
   have ltL0 := L0.lt
   have ltL1 := L1.lt
   have ltL2 := L2.lt
   have ltZA := ZA.lt
   have ltX1 := X1.lt
   have ltX2 := X2.lt
   have ltZB := ZB.lt
   go_wp2_with fail
   go_region_held3 (fun w' => (∀ b o, b < v10.heap.size → w'.cell? ⟨b, o, none⟩ = v10.cell? ⟨b, o, none⟩) ∧ Below v10.heap.size v10 w')
    (first | exact kp_drew v10 | exact kp_on ‹_› hb)
    (first
     | (go_at_call 19; have hK := ‹(∀ b o, b < v10.heap.size → _) ∧ Below v10.heap.size v10 _›; ((with_reducible refine (toWord_i (hr2.below (Below.on hB hK.2 hB.size)) (hq2.below (Below.on hB hK.2 hB.size)) hsz2).mono ?_); rintro e wy2 ⟨sxy2, cxy2, txy2, dxy2, rfl, hfy2, hb⟩))
     | (go_at_call 22; have hK := ‹(∀ b o, b < v10.heap.size → _) ∧ Below v10.heap.size v10 _›; ((with_reducible refine (eqWord_i (((oX2.rds).two.1).below hK.2) (((oX2.rds).two.2).below hK.2) ((hfy2.rds).two.1) ((hfy2.rds).two.2)).mono ?_); rintro e v11 ⟨rfl, hb⟩)))
   have hK := ‹(∀ b o, b < v10.heap.size → _) ∧ Below v10.heap.size v10 _›
   clear l0c0 l0c1 l1c0 l1c1 l1c2 l2c0 l2c1 zac0 zac1 zac2 x1c0 x1c1 x1c2 x2c0 x2c1 zbc0 zbc1 zbc2 ltL0 ltL1 ltL2 ltZA ltX1 ltX2 ltZB
   have sz_v10_v11 := (hK.2).size
   replace L0 := L0.below hK.2
   replace L1 := L1.below hK.2
   replace L2 := L2.below hK.2
   replace ZA := ZA.below hK.2
   replace X1 := X1.below hK.2
   replace X2 := X2.below hK.2
   replace ZB := ZB.below hK.2
   replace oza := oza.keep fun b hm => (hK.2).block b (oza.lt b hm)
   replace oX1 := oX1.keep fun b hm => (hK.2).block b (oX1.lt b hm)
   replace oX2 := oX2.keep fun b hm => (hK.2).block b (oX2.lt b hm)
   replace ozb := ozb.keep fun b hm => (hK.2).block b (ozb.lt b hm)
   replace hB := Below.on hB hK.2 hB.size
   clear hK
   try simp only [ef2, Bool.not_true]
   have l0c0 := L0.c0
   have l0c1 := L0.c1
   have l1c0 := L1.c0
   have l1c1 := L1.c1
   have l1c2 := L1.c2
   have l2c0 := L2.c0
   have l2c1 := L2.c1
   have zac0 := ZA.c0
   have zac1 := ZA.c1
   have zac2 := ZA.c2
   have x1c0 := X1.c0
   have x1c1 := X1.c1
   have x1c2 := X1.c2
   have x2c0 := X2.c0
   have x2c1 := X2.c1
   have zbc0 := ZB.c0
   have zbc1 := ZB.c1
   have zbc2 := ZB.c2
   have ltL0 := L0.lt
   have ltL1 := L1.lt
   have ltL2 := L2.lt
   have ltZA := ZA.lt
   have ltX1 := X1.lt
   have ltX2 := X2.lt
   have ltZB := ZB.lt
   go_wp2_with fail
   refine (markExprL_i (k := 1) oX1 nX1 (by omega)).mono ?_
   rintro e v12 ⟨rfl, om, hO⟩
   clear l0c0 l0c1 l1c0 l1c1 l1c2 l2c0 l2c1 zac0 zac1 zac2 x1c0 x1c1 x1c2 x2c0 x2c1 zbc0 zbc1 zbc2 ltL0 ltL1 ltL2 ltZA ltX1 ltX2 ltZB
   have sz_v11_v12 := (hO).size
   replace L0 := L0.keep ((hO).block _ L0.lt (fun hm => by have h1 := lX1 _ hm; have h2 := uX1 _ hm; omega))
   replace L1 := L1.keep ((hO).block _ L1.lt (fun hm => by have h1 := lX1 _ hm; have h2 := uX1 _ hm; omega))
   replace L2 := L2.keep ((hO).block _ L2.lt (fun hm => by have h1 := lX1 _ hm; have h2 := uX1 _ hm; omega))
   replace ZA := ZA.keep ((hO).block _ ZA.lt (fun hm => by have h1 := lX1 _ hm; have h2 := uX1 _ hm; omega))
   replace X1 := X1.keep ((hO).block _ X1.lt (fun hm => by have h1 := lX1 _ hm; have h2 := uX1 _ hm; omega))
   replace X2 := X2.keep ((hO).block _ X2.lt (fun hm => by have h1 := lX1 _ hm; have h2 := uX1 _ hm; omega))
   replace ZB := ZB.keep ((hO).block _ ZB.lt (fun hm => by have h1 := lX1 _ hm; have h2 := uX1 _ hm; omega))
   replace oza := oza.keep fun b hm => (hO).block b (oza.lt b hm) (fun hm' => by have h1 := lX1 _ hm'; have h2 := uX1 _ hm'; have h3 := lza _ hm; have h4 := uza _ hm; omega)
   replace oX2 := oX2.keep fun b hm => (hO).block b (oX2.lt b hm) (fun hm' => by have h1 := lX1 _ hm'; have h2 := uX1 _ hm'; have h3 := lX2 _ hm; have h4 := uX2 _ hm; omega)
   replace ozb := ozb.keep fun b hm => (hO).block b (ozb.lt b hm) (fun hm' => by have h1 := lX1 _ hm'; have h2 := uX1 _ hm'; have h3 := lzb _ hm; have h4 := uzb _ hm; omega)
   replace hB := hB.trans ((hO).below hB.size (fun b hm => by have h1 := lX1 _ hm; have h2 := hB.size; omega))
   replace oX1 := om
   clear om hO
   have l0c0 := L0.c0
   have l0c1 := L0.c1
   have l1c0 := L1.c0
   have l1c1 := L1.c1
   have l1c2 := L1.c2
   have l2c0 := L2.c0
   have l2c1 := L2.c1
   have zac0 := ZA.c0
   have zac1 := ZA.c1
   have zac2 := ZA.c2
   have x1c0 := X1.c0
   have x1c1 := X1.c1
   have x1c2 := X1.c2
   have x2c0 := X2.c0
   have x2c1 := X2.c1
   have zbc0 := ZB.c0
   have zbc1 := ZB.c1
   have zbc2 := ZB.c2
   have ltL0 := L0.lt
   have ltL1 := L1.lt
   have ltL2 := L2.lt
   have ltZA := ZA.lt
   have ltX1 := X1.lt
   have ltX2 := X2.lt
   have ltZB := ZB.lt
   go_wp2_with fail
   refine (markWord_i (k := 1 + 2 * Ex.sizeL ks1) oX2 nX2 (by omega) (by omega) (by omega)).mono ?_
   rintro e v13 ⟨rfl, om, hO⟩
   clear l0c0 l0c1 l1c0 l1c1 l1c2 l2c0 l2c1 zac0 zac1 zac2 x1c0 x1c1 x1c2 x2c0 x2c1 zbc0 zbc1 zbc2 ltL0 ltL1 ltL2 ltZA ltX1 ltX2 ltZB
   have sz_v12_v13 := (hO).size
   replace L0 := L0.keep ((hO).block _ L0.lt (fun hm => by have h1 := lX2 _ hm; have h2 := uX2 _ hm; omega))
   replace L1 := L1.keep ((hO).block _ L1.lt (fun hm => by have h1 := lX2 _ hm; have h2 := uX2 _ hm; omega))
   replace L2 := L2.keep ((hO).block _ L2.lt (fun hm => by have h1 := lX2 _ hm; have h2 := uX2 _ hm; omega))
   replace ZA := ZA.keep ((hO).block _ ZA.lt (fun hm => by have h1 := lX2 _ hm; have h2 := uX2 _ hm; omega))
   replace X1 := X1.keep ((hO).block _ X1.lt (fun hm => by have h1 := lX2 _ hm; have h2 := uX2 _ hm; omega))
   replace X2 := X2.keep ((hO).block _ X2.lt (fun hm => by have h1 := lX2 _ hm; have h2 := uX2 _ hm; omega))
   replace ZB := ZB.keep ((hO).block _ ZB.lt (fun hm => by have h1 := lX2 _ hm; have h2 := uX2 _ hm; omega))
   replace oza := oza.keep fun b hm => (hO).block b (oza.lt b hm) (fun hm' => by have h1 := lX2 _ hm'; have h2 := uX2 _ hm'; have h3 := lza _ hm; have h4 := uza _ hm; omega)
   replace oX1 := oX1.keep fun b hm => (hO).block b (oX1.lt b hm) (fun hm' => by have h1 := lX2 _ hm'; have h2 := uX2 _ hm'; have h3 := lX1 _ hm; have h4 := uX1 _ hm; omega)
   replace ozb := ozb.keep fun b hm => (hO).block b (ozb.lt b hm) (fun hm' => by have h1 := lX2 _ hm'; have h2 := uX2 _ hm'; have h3 := lzb _ hm; have h4 := uzb _ hm; omega)
   replace hB := hB.trans ((hO).below hB.size (fun b hm => by have h1 := lX2 _ hm; have h2 := hB.size; omega))
   replace oX2 := om
   clear om hO
   have l0c0 := L0.c0
   have l0c1 := L0.c1
   have l1c0 := L1.c0
   have l1c1 := L1.c1
   have l1c2 := L1.c2
   have l2c0 := L2.c0
   have l2c1 := L2.c1
   have zac0 := ZA.c0
   have zac1 := ZA.c1
   have zac2 := ZA.c2
   have x1c0 := X1.c0
   have x1c1 := X1.c1
   have x1c2 := X1.c2
   have x2c0 := X2.c0
   have x2c1 := X2.c1
   have zbc0 := ZB.c0
   have zbc1 := ZB.c1
   have zbc2 := ZB.c2
   have ltL0 := L0.lt
   have ltL1 := L1.lt
   have ltL2 := L2.lt
   have ltZA := ZA.lt
   have ltX1 := X1.lt
   have ltX2 := X2.lt
   have ltZB := ZB.lt
   go_wp2_with fail
   refine (eqExpr_i ((ozb.rds).one) ((oza.rds).one)).mono ?_
   rintro e v14 ⟨rfl, hb⟩
   clear l0c0 l0c1 l1c0 l1c1 l1c2 l2c0 l2c1 zac0 zac1 zac2 x1c0 x1c1 x1c2 x2c0 x2c1 zbc0 zbc1 zbc2 ltL0 ltL1 ltL2 ltZA ltX1 ltX2 ltZB
   have sz_v13_v14 := (hb).size
   replace L0 := L0.below hb
   replace L1 := L1.below hb
   replace L2 := L2.below hb
   replace ZA := ZA.below hb
   replace X1 := X1.below hb
   replace X2 := X2.below hb
   replace ZB := ZB.below hb
   replace oza := oza.keep fun b hm => (hb).block b (oza.lt b hm)
   replace oX1 := oX1.keep fun b hm => (hb).block b (oX1.lt b hm)
   replace oX2 := oX2.keep fun b hm => (hb).block b (oX2.lt b hm)
   replace ozb := ozb.keep fun b hm => (hb).block b (ozb.lt b hm)
   replace hB := Below.on hB hb hB.size
   clear hb
   rw [efR]
   have l0c0 := L0.c0
   have l0c1 := L0.c1
   have l1c0 := L1.c0
   have l1c1 := L1.c1
   have l1c2 := L1.c2
   have l2c0 := L2.c0
   have l2c1 := L2.c1
   have zac0 := ZA.c0
   have zac1 := ZA.c1
   have zac2 := ZA.c2
   have x1c0 := X1.c0
   have x1c1 := X1.c1
   have x1c2 := X1.c2
   have x2c0 := X2.c0
   have x2c1 := X2.c1
   have zbc0 := ZB.c0
   have zbc1 := ZB.c1
   have zbc2 := ZB.c2
   have ltL0 := L0.lt
   have ltL1 := L1.lt
   have ltL2 := L2.lt
   have ltZA := ZA.lt
   have ltX1 := X1.lt
   have ltX2 := X2.lt
   have ltZB := ZB.lt
   go_wp2_with fail
   refine (markExprL_i (k := 1) ozb nzb (by omega)).mono ?_
   rintro e v15 ⟨rfl, om, hO⟩
   clear l0c0 l0c1 l1c0 l1c1 l1c2 l2c0 l2c1 zac0 zac1 zac2 x1c0 x1c1 x1c2 x2c0 x2c1 zbc0 zbc1 zbc2 ltL0 ltL1 ltL2 ltZA ltX1 ltX2 ltZB
   have sz_v14_v15 := (hO).size
   replace L0 := L0.keep ((hO).block _ L0.lt (fun hm => by have h1 := lzb _ hm; have h2 := uzb _ hm; omega))
   replace L1 := L1.keep ((hO).block _ L1.lt (fun hm => by have h1 := lzb _ hm; have h2 := uzb _ hm; omega))
   replace L2 := L2.keep ((hO).block _ L2.lt (fun hm => by have h1 := lzb _ hm; have h2 := uzb _ hm; omega))
   replace ZA := ZA.keep ((hO).block _ ZA.lt (fun hm => by have h1 := lzb _ hm; have h2 := uzb _ hm; omega))
   replace X1 := X1.keep ((hO).block _ X1.lt (fun hm => by have h1 := lzb _ hm; have h2 := uzb _ hm; omega))
   replace X2 := X2.keep ((hO).block _ X2.lt (fun hm => by have h1 := lzb _ hm; have h2 := uzb _ hm; omega))
   replace ZB := ZB.keep ((hO).block _ ZB.lt (fun hm => by have h1 := lzb _ hm; have h2 := uzb _ hm; omega))
   replace oza := oza.keep fun b hm => (hO).block b (oza.lt b hm) (fun hm' => by have h1 := lzb _ hm'; have h2 := uzb _ hm'; have h3 := lza _ hm; have h4 := uza _ hm; omega)
   replace oX1 := oX1.keep fun b hm => (hO).block b (oX1.lt b hm) (fun hm' => by have h1 := lzb _ hm'; have h2 := uzb _ hm'; have h3 := lX1 _ hm; have h4 := uX1 _ hm; omega)
   replace oX2 := oX2.keep fun b hm => (hO).block b (oX2.lt b hm) (fun hm' => by have h1 := lzb _ hm'; have h2 := uzb _ hm'; have h3 := lX2 _ hm; have h4 := uX2 _ hm; omega)
   replace hB := hB.trans ((hO).below hB.size (fun b hm => by have h1 := lzb _ hm; have h2 := hB.size; omega))
   replace ozb := om
   clear om hO
   have l0c0 := L0.c0
   have l0c1 := L0.c1
   have l1c0 := L1.c0
   have l1c1 := L1.c1
   have l1c2 := L1.c2
   have l2c0 := L2.c0
   have l2c1 := L2.c1
   have zac0 := ZA.c0
   have zac1 := ZA.c1
   have zac2 := ZA.c2
   have x1c0 := X1.c0
   have x1c1 := X1.c1
   have x1c2 := X1.c2
   have x2c0 := X2.c0
   have x2c1 := X2.c1
   have zbc0 := ZB.c0
   have zbc1 := ZB.c1
   have zbc2 := ZB.c2
   have ltL0 := L0.lt
   have ltL1 := L1.lt
   have ltL2 := L2.lt
   have ltZA := ZA.lt
   have ltX1 := X1.lt
   have ltX2 := X2.lt
   have ltZB := ZB.lt
   go_wp2_with fail
   refine (heldExprL_i (k := 1) ozb.rds (by omega)).mono ?_
   rintro e v16 ⟨rfl, hb⟩
   clear l0c0 l0c1 l1c0 l1c1 l1c2 l2c0 l2c1 zac0 zac1 zac2 x1c0 x1c1 x1c2 x2c0 x2c1 zbc0 zbc1 zbc2 ltL0 ltL1 ltL2 ltZA ltX1 ltX2 ltZB
   have sz_v15_v16 := (hb).size
   replace L0 := L0.below hb
   replace L1 := L1.below hb
   replace L2 := L2.below hb
   replace ZA := ZA.below hb
   replace X1 := X1.below hb
   replace X2 := X2.below hb
   replace ZB := ZB.below hb
   replace oza := oza.keep fun b hm => (hb).block b (oza.lt b hm)
   replace oX1 := oX1.keep fun b hm => (hb).block b (oX1.lt b hm)
   replace oX2 := oX2.keep fun b hm => (hb).block b (oX2.lt b hm)
   replace ozb := ozb.keep fun b hm => (hb).block b (ozb.lt b hm)
   replace hB := Below.on hB hb hB.size
   clear hb
   have l0c0 := L0.c0
   have l0c1 := L0.c1
   have l1c0 := L1.c0
   have l1c1 := L1.c1
   have l1c2 := L1.c2
   have l2c0 := L2.c0
   have l2c1 := L2.c1
   have zac0 := ZA.c0
   have zac1 := ZA.c1
   have zac2 := ZA.c2
   have x1c0 := X1.c0
   have x1c1 := X1.c1
   have x1c2 := X1.c2
   have x2c0 := X2.c0
   have x2c1 := X2.c1
   have zbc0 := ZB.c0
   have zbc1 := ZB.c1
   have zbc2 := ZB.c2
   have ltL0 := L0.lt
   have ltL1 := L1.lt
   have ltL2 := L2.lt
   have ltZA := ZA.lt
   have ltX1 := X1.lt
   have ltX2 := X2.lt
   have ltZB := ZB.lt
   go_wp2_with fail
   clear l0c0 l0c1 l1c0 l1c1 l1c2 l2c0 l2c1 zac0 zac1 zac2 x1c0 x1c1 x1c2 x2c0 x2c1 zbc0 zbc1 zbc2 ltL0 ltL1 ltL2 ltZA ltX1 ltX2 ltZB
   have hB0 := hB
   refine region_rg 11 [9, 12] [0, 1, 2, 3, 4, 5, 6, 7, 8, 10] (fun i iv vs wx => match i with
    | 0 => vs 0 = .agg #[.int .i64 t0, .int .i64 a0]
    | 1 => vs 1 = .agg #[.int .i64 t0, .int .i64 a0]
    | 2 => vs 2 = .agg #[.int .i64 k1, .int .i64 n1, .slice s1 ks1.length c1]
    | 3 => ∃ sxzc1 cxzc1, vs 3 = .agg #[.int .i64 k1, .int .i64 n1, .slice sxzc1 ks1.length cxzc1] ∧ FreshIn (iv 3) wx [(kidsD ks1)] [.slice sxzc1 ks1.length cxzc1]
    | 4 => vs 4 = .agg #[.slice s2 xs2.length c2, .slice t2 ys2.length d2]
    | 5 => ∃ sxzc2 cxzc2 txzc2 dxzc2, vs 5 = .agg #[.slice sxzc2 xs2.length cxzc2, .slice txzc2 ys2.length dxzc2] ∧ FreshIn (iv 5) wx [(intsD xs2), (intsD ys2)] [.slice sxzc2 xs2.length cxzc2, .slice txzc2 ys2.length dxzc2]
    | 6 => ∃ zca zcc, vs 6 = .tuple #[.agg #[.int .i64 (dwE t0 a0 xs2 ys2 (.mk k1 n1 ks1)).kind, .int .i64 (dwE t0 a0 xs2 ys2 (.mk k1 n1 ks1)).num, .slice zca (dwE t0 a0 xs2 ys2 (.mk k1 n1 ks1)).kids.length zcc], .int .i64 (dwC t0 a0 xs2 ys2 (.mk k1 n1 ks1))] ∧ FreshIn (iv 6) wx [kidsD (dwE t0 a0 xs2 ys2 (.mk k1 n1 ks1)).kids] [.slice zca (dwE t0 a0 xs2 ys2 (.mk k1 n1 ks1)).kids.length zcc]
    | 7 => vs 7 = vs 6 ∧ ∃ arr, vs 7 = .tuple arr ∧ 1 < arr.size
    | 8 => vs 8 = tupAt (vs 7) 0
    | 10 => vs 10 = .pointer (some ⟨(iv 10).1, 0, none⟩) ∧ (iv 10).2 = (iv 10).1 + 1 ∧ Blk wx (iv 10).1 34 [.int .i64 0, .int .i64 0, .slice none 0 0]
    | _ => True) (fun vs wx => ∃ p zca zcc, vs 10 = .pointer (some ⟨p, 0, none⟩) ∧ vs 7 = .tuple #[.agg #[.int .i64 (dwE t0 a0 xs2 ys2 (.mk k1 n1 ks1)).kind, .int .i64 (dwE t0 a0 xs2 ys2 (.mk k1 n1 ks1)).num, .slice zca (dwE t0 a0 xs2 ys2 (.mk k1 n1 ks1)).kids.length zcc], .int .i64 (dwC t0 a0 xs2 ys2 (.mk k1 n1 ks1))] ∧ v16.heap.size ≤ p ∧ Blk wx p 34 [.int .i64 (dwE t0 a0 xs2 ys2 (.mk k1 n1 ks1)).kind, .int .i64 (dwE t0 a0 xs2 ys2 (.mk k1 n1 ks1)).num, .slice zca (dwE t0 a0 xs2 ys2 (.mk k1 n1 ks1)).kids.length zcc] ∧ (∃ F, Ows wx [kidsD (dwE t0 a0 xs2 ys2 (.mk k1 n1 ks1)).kids] [.slice zca (dwE t0 a0 xs2 ys2 (.mk k1 n1 ks1)).kids.length zcc] F ∧ F.Nodup ∧ ∀ b ∈ F, v16.heap.size ≤ b ∧ b ≠ p ∧ b < wx.heap.size) ∧ Below v16.heap.size v16 wx)
    (by kernel_rfl) (by kernel_rfl) (by kernel_rfl) (by kernel_rfl) ?hJ ?hX ?hF ?hstep ?hstore ?hQ (by kernel_rfl)
   case hX =>
    intro i o t k hi ho hop iv vs w hj
    simp only [List.mem_cons, List.not_mem_nil, or_false] at hi
    rcases hi with rfl | rfl
    ·
     simp at ho
     subst ho
     simp at hop
     obtain ⟨rfl, rfl⟩ := hop
     have hj2 : vs 7 = vs 6 ∧ ∃ arr, vs 7 = .tuple arr ∧ 1 < arr.size := hj
     obtain ⟨-, arr, q1, q2⟩ := hj2
     exact ⟨arr, q1, by omega⟩
    ·
     simp at ho
     subst ho
     simp at hop
   case hF =>
    intro vs vs' wx h hf
    have e7 := h 7 (mem_of (by kernel_rfl))
    have e10 := h 10 (mem_of (by kernel_rfl))
    show ∃ p zca zcc, vs' 10 = .pointer (some ⟨p, 0, none⟩) ∧ vs' 7 = .tuple #[.agg #[.int .i64 (dwE t0 a0 xs2 ys2 (.mk k1 n1 ks1)).kind, .int .i64 (dwE t0 a0 xs2 ys2 (.mk k1 n1 ks1)).num, .slice zca (dwE t0 a0 xs2 ys2 (.mk k1 n1 ks1)).kids.length zcc], .int .i64 (dwC t0 a0 xs2 ys2 (.mk k1 n1 ks1))] ∧ v16.heap.size ≤ p ∧ Blk wx p 34 [.int .i64 (dwE t0 a0 xs2 ys2 (.mk k1 n1 ks1)).kind, .int .i64 (dwE t0 a0 xs2 ys2 (.mk k1 n1 ks1)).num, .slice zca (dwE t0 a0 xs2 ys2 (.mk k1 n1 ks1)).kids.length zcc] ∧ (∃ F, Ows wx [kidsD (dwE t0 a0 xs2 ys2 (.mk k1 n1 ks1)).kids] [.slice zca (dwE t0 a0 xs2 ys2 (.mk k1 n1 ks1)).kids.length zcc] F ∧ F.Nodup ∧ ∀ b ∈ F, v16.heap.size ≤ b ∧ b ≠ p ∧ b < wx.heap.size) ∧ Below v16.heap.size v16 wx
    rw [← e7, ← e10]
    exact hf
   case hJ =>
    intro i hi iv iv' vs vs' wx wx' ha hv hb hj
    simp only [List.mem_cons, List.not_mem_nil, or_false] at hi
    rcases hi with rfl | rfl | rfl | rfl | rfl | rfl | rfl | rfl | rfl | rfl
    ·
     have e0 := hv.out 0 (mem_of (by kernel_rfl))
     have hj' : vs 0 = .agg #[.int .i64 t0, .int .i64 a0] := hj
     show vs' 0 = .agg #[.int .i64 t0, .int .i64 a0]
     rw [← e0]
     exact hj'
    ·
     have e1 := hv.out 1 (mem_of (by kernel_rfl))
     have hj' : vs 1 = .agg #[.int .i64 t0, .int .i64 a0] := hj
     show vs' 1 = .agg #[.int .i64 t0, .int .i64 a0]
     rw [← e1]
     exact hj'
    ·
     have e2 := hv.out 2 (mem_of (by kernel_rfl))
     have hj' : vs 2 = .agg #[.int .i64 k1, .int .i64 n1, .slice s1 ks1.length c1] := hj
     show vs' 2 = .agg #[.int .i64 k1, .int .i64 n1, .slice s1 ks1.length c1]
     rw [← e2]
     exact hj'
    ·
     have e3 := hv.out 3 (mem_of (by kernel_rfl))
     have g3 := ha.out 3 (mem_of (by kernel_rfl))
     obtain ⟨sxzc1, cxzc1, q1, q2⟩ := hj
     exact ⟨sxzc1, cxzc1, e3 ▸ q1, g3 ▸ q2.below hb⟩
    ·
     have e4 := hv.out 4 (mem_of (by kernel_rfl))
     have hj' : vs 4 = .agg #[.slice s2 xs2.length c2, .slice t2 ys2.length d2] := hj
     show vs' 4 = .agg #[.slice s2 xs2.length c2, .slice t2 ys2.length d2]
     rw [← e4]
     exact hj'
    ·
     have e5 := hv.out 5 (mem_of (by kernel_rfl))
     have g5 := ha.out 5 (mem_of (by kernel_rfl))
     obtain ⟨sxzc2, cxzc2, txzc2, dxzc2, q1, q2⟩ := hj
     exact ⟨sxzc2, cxzc2, txzc2, dxzc2, e5 ▸ q1, g5 ▸ q2.below hb⟩
    ·
     have e6 := hv.out 6 (mem_of (by kernel_rfl))
     have g6 := ha.out 6 (mem_of (by kernel_rfl))
     obtain ⟨zca, zcc, q1, q2⟩ := hj
     exact ⟨zca, zcc, e6 ▸ q1, g6 ▸ q2.below hb⟩
    ·
     have e7 := hv.out 7 (mem_of (by kernel_rfl))
     have e6 := hv.out 6 (mem_of (by kernel_rfl))
     have hj' : vs 7 = vs 6 ∧ ∃ arr, vs 7 = .tuple arr ∧ 1 < arr.size := hj
     show vs' 7 = vs' 6 ∧ ∃ arr, vs' 7 = .tuple arr ∧ 1 < arr.size
     rw [← e6, ← e7]
     exact hj'
    ·
     have e8 := hv.out 8 (mem_of (by kernel_rfl))
     have e7 := hv.out 7 (mem_of (by kernel_rfl))
     have hj' : vs 8 = tupAt (vs 7) 0 := hj
     show vs' 8 = tupAt (vs' 7) 0
     rw [← e7, ← e8]
     exact hj'
    ·
     have e10 := hv.out 10 (mem_of (by kernel_rfl))
     have g10 := ha.out 10 (mem_of (by kernel_rfl))
     obtain ⟨q1, q3, q2⟩ := hj
     show vs' 10 = .pointer (some ⟨(iv' 10).1, 0, none⟩) ∧ (iv' 10).2 = (iv' 10).1 + 1 ∧ Blk wx' (iv' 10).1 34 [.int .i64 0, .int .i64 0, .slice none 0 0]
     rw [← e10, ← g10]
     exact ⟨q1, q3, q2.below hb⟩
   case hstep =>
    intro i hi o ho iv vs w1 hB hd hbd hsep K hK
    simp only [List.mem_cons, List.not_mem_nil, or_false] at hi
    have hBw := Below.on hB0 hB hB0.size
    have L0s := L0.below hB
    have l0s0 := L0s.c0
    have l0s1 := L0s.c1
    have L1s := L1.below hB
    have l1s0 := L1s.c0
    have l1s1 := L1s.c1
    have l1s2 := L1s.c2
    have L2s := L2.below hB
    have l2s0 := L2s.c0
    have l2s1 := L2s.c1
    have ZAs := ZA.below hB
    have zas0 := ZAs.c0
    have zas1 := ZAs.c1
    have zas2 := ZAs.c2
    have X1s := X1.below hB
    have x1s0 := X1s.c0
    have x1s1 := X1s.c1
    have x1s2 := X1s.c2
    have X2s := X2.below hB
    have x2s0 := X2s.c0
    have x2s1 := X2s.c1
    have ZBs := ZB.below hB
    have zbs0 := ZBs.c0
    have zbs1 := ZBs.c1
    have zbs2 := ZBs.c2
    rcases hi with rfl | rfl | rfl | rfl | rfl | rfl | rfl | rfl | rfl | rfl
    all_goals
     simp at ho
     subst ho
     simp only [putFrom, puts]
    ·
     go_wp2_with fail
     exact Onward.mk (hK (.agg #[.int .i64 t0, .int .i64 a0]) _ _ (by simp only [putFrom, puts]) (Below.refl _ _) (fun iv' _ _ => rfl))
    ·
     have h0 : vs 0 = .agg #[.int .i64 t0, .int .i64 a0] := hd.out 0 (mem_of (by kernel_rfl)) (by decide)
     go_wp2_with fail
     refine (toSig_any t0 a0 _).mono ?_
     rintro e w2 ⟨rfl, hb⟩
     go_wp2_with fail
     exact Onward.mk (hK (.agg #[.int .i64 t0, .int .i64 a0]) _ _ (by simp only [putFrom, puts, h0]) hb (fun iv' _ _ => rfl))
    ·
     go_wp2_with fail
     exact Onward.mk (hK (.agg #[.int .i64 k1, .int .i64 n1, .slice s1 ks1.length c1]) _ _ (by simp only [putFrom, puts]) (Below.refl _ _) (fun iv' _ _ => rfl))
    ·
     have h2 : vs 2 = .agg #[.int .i64 k1, .int .i64 n1, .slice s1 ks1.length c1] := hd.out 2 (mem_of (by kernel_rfl)) (by decide)
     go_wp2_with fail
     refine (toExpr_i (hr1.below hBw) hsz1).mono ?_
     rintro e w2 ⟨sxzc1, cxzc1, rfl, hf, hb⟩
     go_wp2_with fail
     exact Onward.mk (hK (.agg #[.int .i64 k1, .int .i64 n1, .slice sxzc1 ks1.length cxzc1]) _ _ (by simp only [putFrom, puts, h2]) hb (fun iv' _ hi => ⟨sxzc1, cxzc1, rfl, by rw [hi]; exact Freshs.stretch (hf)⟩))
    ·
     go_wp2_with fail
     exact Onward.mk (hK (.agg #[.slice s2 xs2.length c2, .slice t2 ys2.length d2]) _ _ (by simp only [putFrom, puts]) (Below.refl _ _) (fun iv' _ _ => rfl))
    ·
     have h4 : vs 4 = .agg #[.slice s2 xs2.length c2, .slice t2 ys2.length d2] := hd.out 4 (mem_of (by kernel_rfl)) (by decide)
     go_wp2_with fail
     refine (toWord_i (hr2.below hBw) (hq2.below hBw) hsz2).mono ?_
     rintro e w2 ⟨sxzc2, cxzc2, txzc2, dxzc2, rfl, hf, hb⟩
     go_wp2_with fail
     exact Onward.mk (hK (.agg #[.slice sxzc2 xs2.length cxzc2, .slice txzc2 ys2.length dxzc2]) _ _ (by simp only [putFrom, puts, h4]) hb (fun iv' _ hi => ⟨sxzc2, cxzc2, txzc2, dxzc2, rfl, by rw [hi]; exact Freshs.stretch (hf)⟩))
    ·
     have h1 : vs 1 = .agg #[.int .i64 t0, .int .i64 a0] := hd.out 1 (mem_of (by kernel_rfl)) (by decide)
     obtain ⟨sxzc1, cxzc1, h3, f3⟩ := hd.out 3 (mem_of (by kernel_rfl)) (by decide)
     obtain ⟨sxzc2, cxzc2, txzc2, dxzc2, h5, f5⟩ := hd.out 5 (mem_of (by kernel_rfl)) (by decide)
     go_wp2_with fail
     refine (implDeriveWord_i (f3.rds).one hsz1 (f5.rds).two.1 (f5.rds).two.2).mono ?_
     rintro e w2 ⟨zca, zcc, rfl, hf, hb⟩
     go_wp2_with fail
     exact Onward.mk (hK (.tuple #[.agg #[.int .i64 (dwE t0 a0 xs2 ys2 (.mk k1 n1 ks1)).kind, .int .i64 (dwE t0 a0 xs2 ys2 (.mk k1 n1 ks1)).num, .slice zca (dwE t0 a0 xs2 ys2 (.mk k1 n1 ks1)).kids.length zcc], .int .i64 (dwC t0 a0 xs2 ys2 (.mk k1 n1 ks1))]) _ _ (by simp only [putFrom, puts, h1, h3, h5]) hb (fun iv' _ hi => ⟨zca, zcc, rfl, by rw [hi]; exact Freshs.stretch (hf)⟩))
    ·
     obtain ⟨zca, zcc, h6, f6⟩ := hd.out 6 (mem_of (by kernel_rfl)) (by decide)
     go_wp2_with fail
     exact Onward.mk (hK (.tuple #[.agg #[.int .i64 (dwE t0 a0 xs2 ys2 (.mk k1 n1 ks1)).kind, .int .i64 (dwE t0 a0 xs2 ys2 (.mk k1 n1 ks1)).num, .slice zca (dwE t0 a0 xs2 ys2 (.mk k1 n1 ks1)).kids.length zcc], .int .i64 (dwC t0 a0 xs2 ys2 (.mk k1 n1 ks1))]) _ _ (by simp only [putFrom, puts, h6]) (Below.refl _ _) (fun iv' _ _ => by
      show (.tuple #[.agg #[.int .i64 (dwE t0 a0 xs2 ys2 (.mk k1 n1 ks1)).kind, .int .i64 (dwE t0 a0 xs2 ys2 (.mk k1 n1 ks1)).num, .slice zca (dwE t0 a0 xs2 ys2 (.mk k1 n1 ks1)).kids.length zcc], .int .i64 (dwC t0 a0 xs2 ys2 (.mk k1 n1 ks1))] : Value) = vs 6 ∧ ∃ arr, (.tuple #[.agg #[.int .i64 (dwE t0 a0 xs2 ys2 (.mk k1 n1 ks1)).kind, .int .i64 (dwE t0 a0 xs2 ys2 (.mk k1 n1 ks1)).num, .slice zca (dwE t0 a0 xs2 ys2 (.mk k1 n1 ks1)).kids.length zcc], .int .i64 (dwC t0 a0 xs2 ys2 (.mk k1 n1 ks1))] : Value) = .tuple arr ∧ 1 < arr.size
      exact ⟨by simp only [h6], _, rfl, by simp⟩))
    ·
     obtain ⟨zca, zcc, h6, f6⟩ := hd.out 6 (mem_of (by kernel_rfl)) (by decide)
     obtain ⟨h7, s7⟩ := hd.out 7 (mem_of (by kernel_rfl)) (by decide)
     go_wp2_with fail
     exact Onward.mk (hK (.agg #[.int .i64 (dwE t0 a0 xs2 ys2 (.mk k1 n1 ks1)).kind, .int .i64 (dwE t0 a0 xs2 ys2 (.mk k1 n1 ks1)).num, .slice zca (dwE t0 a0 xs2 ys2 (.mk k1 n1 ks1)).kids.length zcc]) _ _ (by simp only [putFrom, puts, h6, h7]) (Below.refl _ _) (fun iv' _ _ => by
      show (.agg #[.int .i64 (dwE t0 a0 xs2 ys2 (.mk k1 n1 ks1)).kind, .int .i64 (dwE t0 a0 xs2 ys2 (.mk k1 n1 ks1)).num, .slice zca (dwE t0 a0 xs2 ys2 (.mk k1 n1 ks1)).kids.length zcc] : Value) = tupAt (vs 7) 0
      simp only [h6, h7, tupAt]; rfl))
    ·
     go_wp2_with fail
     exact Onward.mk (hK (.pointer (some ⟨w1.heap.size, 0, none⟩)) _ _ (by simp only [putFrom, puts]) (Below.alloc (Below.refl _ _) (Nat.le_refl _) _) (fun iv' _ hi => by
      show Value.pointer (some ⟨w1.heap.size, 0, none⟩) = .pointer (some ⟨(iv' 10).1, 0, none⟩) ∧ (iv' 10).2 = (iv' 10).1 + 1 ∧ Blk _ (iv' 10).1 34 [.int .i64 0, .int .i64 0, .slice none 0 0]
      rw [hi]
      exact ⟨rfl, by simp, Blk.new3 _ _ _ _ _⟩))
   case hstore =>
    intro o ho iv vs w1 hB hd hsep K hK
    simp at ho
    subst ho
    simp only [putFrom, puts]
    have h0 : vs 0 = .agg #[.int .i64 t0, .int .i64 a0] := (hd.out 0 (mem_of (by kernel_rfl))).1
    have h1 : vs 1 = .agg #[.int .i64 t0, .int .i64 a0] := (hd.out 1 (mem_of (by kernel_rfl))).1
    have h2 : vs 2 = .agg #[.int .i64 k1, .int .i64 n1, .slice s1 ks1.length c1] := (hd.out 2 (mem_of (by kernel_rfl))).1
    obtain ⟨⟨sxzc1, cxzc1, h3, f3⟩, b3, -, u3⟩ := hd.out 3 (mem_of (by kernel_rfl))
    have h4 : vs 4 = .agg #[.slice s2 xs2.length c2, .slice t2 ys2.length d2] := (hd.out 4 (mem_of (by kernel_rfl))).1
    obtain ⟨⟨sxzc2, cxzc2, txzc2, dxzc2, h5, f5⟩, b5, -, u5⟩ := hd.out 5 (mem_of (by kernel_rfl))
    obtain ⟨⟨zca, zcc, h6, f6⟩, b6, -, u6⟩ := hd.out 6 (mem_of (by kernel_rfl))
    obtain ⟨⟨h7, s7⟩, b7, -, u7⟩ := hd.out 7 (mem_of (by kernel_rfl))
    have h8 : vs 8 = tupAt (vs 7) 0 := (hd.out 8 (mem_of (by kernel_rfl))).1
    obtain ⟨⟨h10, q10, f10⟩, b10, -, u10⟩ := hd.out 10 (mem_of (by kernel_rfl))
    have k8 : vs 8 = .agg #[.int .i64 (dwE t0 a0 xs2 ys2 (.mk k1 n1 ks1)).kind, .int .i64 (dwE t0 a0 xs2 ys2 (.mk k1 n1 ks1)).num, .slice zca (dwE t0 a0 xs2 ys2 (.mk k1 n1 ks1)).kids.length zcc] := by rw [h8, h7, h6]; rfl
    have K7 : Hid (vs 7 = .tuple #[.agg #[.int .i64 (dwE t0 a0 xs2 ys2 (.mk k1 n1 ks1)).kind, .int .i64 (dwE t0 a0 xs2 ys2 (.mk k1 n1 ks1)).num, .slice zca (dwE t0 a0 xs2 ys2 (.mk k1 n1 ks1)).kids.length zcc], .int .i64 (dwC t0 a0 xs2 ys2 (.mk k1 n1 ks1))]) := by show _ = _; rw [h7, h6]
    obtain ⟨p, hp⟩ : ∃ p, (iv 10).1 = p := ⟨_, rfl⟩
    have hsep2 := hsep.out 6 (mem_of (by kernel_rfl)) 10 (mem_of (by kernel_rfl)) (by decide)
    unfold Sep at hsep2
    rw [hp] at h10 q10 f10 b10 hsep2
    obtain ⟨F, oF, nF, lF⟩ := f6
    have r0 := f10.c0
    have y0 := f10.frozen 0
    have r1 := f10.c1
    have y1 := f10.frozen 1
    have r2 := f10.c2
    have y2 := f10.frozen 2
    clear h0 h1 h2 h3 h4 h5 h6 h7 h8 s7
    go_wp2_with fail
    refine Onward.mk (hK _ _ (by simp only [putFrom, puts, h10, k8]) ⟨p, zca, zcc, h10, K7.out, b10, (((f10.set 0 _).set 1 _).set 2 _), ⟨F, oF.keep fun b hm => ?_, nF, fun b hm => ?_⟩, ?_⟩)
    ·
     have h1 := lF b hm
     have h2 : b ≠ p := by omega
     repeat rw [Below.heap_setCell _ _ _ _ h2]
    ·
     have h1 := lF b hm
     have h2 := oF.lt b hm
     simp only [World.setCell, Array.size_modify]
     omega
    ·
     exact Below.setCell (Below.setCell (Below.setCell (hB) (by simp; omega) _) (by simp; omega) _) (by simp; omega) _
   case hQ =>
    rintro zcs v17 hE ⟨zcp, zca, zcc, h8, h7, lpzc, ZC, ⟨Fzc, ozc, nzc, luzc⟩, hb⟩
    have h9 : zcs 9 = tupAt (zcs 7) 1 := hE 9 (mem_of (by kernel_rfl))
    have h10 : zcs 12 = zcs 9 := hE 12 (mem_of (by kernel_rfl))
    rw [h9, h7] at h10
    replace h10 : zcs 12 = .int .i64 (dwC t0 a0 xs2 ys2 (.mk k1 n1 ks1)) := h10
    simp only [putFrom, puts, h8, h10]
    clear h7 h8 h9 h10 hE
    have sz_v16_v17 := (hb).size
    replace L0 := L0.below hb
    replace L1 := L1.below hb
    replace L2 := L2.below hb
    replace ZA := ZA.below hb
    replace X1 := X1.below hb
    replace X2 := X2.below hb
    replace ZB := ZB.below hb
    replace oza := oza.keep fun b hm => (hb).block b (oza.lt b hm)
    replace oX1 := oX1.keep fun b hm => (hb).block b (oX1.lt b hm)
    replace oX2 := oX2.keep fun b hm => (hb).block b (oX2.lt b hm)
    replace ozb := ozb.keep fun b hm => (hb).block b (ozb.lt b hm)
    replace hB := Below.on hB hb hB.size
    clear hb
    have lzc : ∀ b ∈ Fzc, v16.heap.size ≤ b ∧ b ≠ zcp := fun b hm => ⟨(luzc b hm).1, (luzc b hm).2.1⟩
    have uzc : ∀ b ∈ Fzc, b < v17.heap.size := fun b hm => (luzc b hm).2.2
    clear luzc
    have lt_v17_L0 := L0.lt
    have lt_v17_L1 := L1.lt
    have lt_v17_L2 := L2.lt
    have lt_v17_ZA := ZA.lt
    have lt_v17_X1 := X1.lt
    have lt_v17_X2 := X2.lt
    have lt_v17_ZB := ZB.lt
    have lt_v17_ZC := ZC.lt
    have l0c0 := L0.c0
    have l0c1 := L0.c1
    have l1c0 := L1.c0
    have l1c1 := L1.c1
    have l1c2 := L1.c2
    have l2c0 := L2.c0
    have l2c1 := L2.c1
    have zac0 := ZA.c0
    have zac1 := ZA.c1
    have zac2 := ZA.c2
    have x1c0 := X1.c0
    have x1c1 := X1.c1
    have x1c2 := X1.c2
    have x2c0 := X2.c0
    have x2c1 := X2.c1
    have zbc0 := ZB.c0
    have zbc1 := ZB.c1
    have zbc2 := ZB.c2
    have zcc0 := ZC.c0
    have zcc1 := ZC.c1
    have zcc2 := ZC.c2
    have ltL0 := L0.lt
    have ltL1 := L1.lt
    have ltL2 := L2.lt
    have ltZA := ZA.lt
    have ltX1 := X1.lt
    have ltX2 := X2.lt
    have ltZB := ZB.lt
    have ltZC := ZC.lt
    go_wp2_with fail
    refine (eqExpr_i ((ozc.rds).one) ((oza.rds).one)).mono ?_
    rintro e v18 ⟨rfl, hb⟩
    clear l0c0 l0c1 l1c0 l1c1 l1c2 l2c0 l2c1 zac0 zac1 zac2 x1c0 x1c1 x1c2 x2c0 x2c1 zbc0 zbc1 zbc2 zcc0 zcc1 zcc2 ltL0 ltL1 ltL2 ltZA ltX1 ltX2 ltZB ltZC
    have sz_v17_v18 := (hb).size
    replace L0 := L0.below hb
    replace L1 := L1.below hb
    replace L2 := L2.below hb
    replace ZA := ZA.below hb
    replace X1 := X1.below hb
    replace X2 := X2.below hb
    replace ZB := ZB.below hb
    replace ZC := ZC.below hb
    replace oza := oza.keep fun b hm => (hb).block b (oza.lt b hm)
    replace oX1 := oX1.keep fun b hm => (hb).block b (oX1.lt b hm)
    replace oX2 := oX2.keep fun b hm => (hb).block b (oX2.lt b hm)
    replace ozb := ozb.keep fun b hm => (hb).block b (ozb.lt b hm)
    replace ozc := ozc.keep fun b hm => (hb).block b (ozc.lt b hm)
    replace hB := Below.on hB hb hB.size
    clear hb
    rw [efR]
    have l0c0 := L0.c0
    have l0c1 := L0.c1
    have l1c0 := L1.c0
    have l1c1 := L1.c1
    have l1c2 := L1.c2
    have l2c0 := L2.c0
    have l2c1 := L2.c1
    have zac0 := ZA.c0
    have zac1 := ZA.c1
    have zac2 := ZA.c2
    have x1c0 := X1.c0
    have x1c1 := X1.c1
    have x1c2 := X1.c2
    have x2c0 := X2.c0
    have x2c1 := X2.c1
    have zbc0 := ZB.c0
    have zbc1 := ZB.c1
    have zbc2 := ZB.c2
    have zcc0 := ZC.c0
    have zcc1 := ZC.c1
    have zcc2 := ZC.c2
    have ltL0 := L0.lt
    have ltL1 := L1.lt
    have ltL2 := L2.lt
    have ltZA := ZA.lt
    have ltX1 := X1.lt
    have ltX2 := X2.lt
    have ltZB := ZB.lt
    have ltZC := ZC.lt
    go_wp2_with fail
    refine (heldExprL_i (k := 1) ozb.rds (by omega)).mono ?_
    rintro e v19 ⟨rfl, hb⟩
    clear l0c0 l0c1 l1c0 l1c1 l1c2 l2c0 l2c1 zac0 zac1 zac2 x1c0 x1c1 x1c2 x2c0 x2c1 zbc0 zbc1 zbc2 zcc0 zcc1 zcc2 ltL0 ltL1 ltL2 ltZA ltX1 ltX2 ltZB ltZC
    have sz_v18_v19 := (hb).size
    replace L0 := L0.below hb
    replace L1 := L1.below hb
    replace L2 := L2.below hb
    replace ZA := ZA.below hb
    replace X1 := X1.below hb
    replace X2 := X2.below hb
    replace ZB := ZB.below hb
    replace ZC := ZC.below hb
    replace oza := oza.keep fun b hm => (hb).block b (oza.lt b hm)
    replace oX1 := oX1.keep fun b hm => (hb).block b (oX1.lt b hm)
    replace oX2 := oX2.keep fun b hm => (hb).block b (oX2.lt b hm)
    replace ozb := ozb.keep fun b hm => (hb).block b (ozb.lt b hm)
    replace ozc := ozc.keep fun b hm => (hb).block b (ozc.lt b hm)
    replace hB := Below.on hB hb hB.size
    clear hb
    have l0c0 := L0.c0
    have l0c1 := L0.c1
    have l1c0 := L1.c0
    have l1c1 := L1.c1
    have l1c2 := L1.c2
    have l2c0 := L2.c0
    have l2c1 := L2.c1
    have zac0 := ZA.c0
    have zac1 := ZA.c1
    have zac2 := ZA.c2
    have x1c0 := X1.c0
    have x1c1 := X1.c1
    have x1c2 := X1.c2
    have x2c0 := X2.c0
    have x2c1 := X2.c1
    have zbc0 := ZB.c0
    have zbc1 := ZB.c1
    have zbc2 := ZB.c2
    have zcc0 := ZC.c0
    have zcc1 := ZC.c1
    have zcc2 := ZC.c2
    have ltL0 := L0.lt
    have ltL1 := L1.lt
    have ltL2 := L2.lt
    have ltZA := ZA.lt
    have ltX1 := X1.lt
    have ltX2 := X2.lt
    have ltZB := ZB.lt
    have ltZC := ZC.lt
    go_wp2_with fail
    go_ret
    exact ⟨rfl, hB⟩
set_option maxRecDepth 100000 in
theorem law_DeriveWord_of {H : Type} {enc : TypeId × Value → H} (W : World) (args : Array Value) (ds : List (DataW H)) (ps : List MemPlace) (hA : DataW.TrodAll enc Tryz.prog W 0 (fun _ => true) true Tryz.f3.params.toList args.toList ds ps)
  (hval : ∀ (j : Nat) t v, Tryz.f3.params[j]? = some t → args[j]? = some v → ∃ base, Value.okWide Tryz.prog W .any base t v) :
  Calls Tryz.prog 3 args W fun e W' => e = .returned (.bool true) ∧ Below W.heap.size W W' := by
 rw [Tryz.params3] at hA hval
 obtain ⟨v0, vs0, d0', ds0, p0, q0, hargs, rfl, rfl, h0, ra0⟩ := trodAll_cons hA
 obtain ⟨v1, vs1, d1', ds1, p1, q1, rfl, rfl, rfl, h1, ra1⟩ := trodAll_cons ra0
 obtain ⟨v2, vs2, d2', ds2, p2, q2, rfl, rfl, rfl, h2, ra2⟩ := trodAll_cons ra1
 obtain ⟨rfl, rfl, rfl⟩ := trodAll_nil ra2
 obtain rfl : args = #[v0, v1, v2] := Array.toList_inj.1 hargs
 obtain ⟨t0, a0, rfl⟩ := open_lawsSig h0
 obtain ⟨k1, n1, ks1, s1, c1, rfl, hr1⟩ := open_lawsExpr h1
 obtain ⟨xs2, ys2, s2, c2, t2, d2, rfl, hr2, hq2⟩ := open_lawsWord h2
 exact law_DeriveWord t0 a0 k1 n1 ks1 s1 c1 xs2 ys2 s2 c2 t2 d2 W hr1 hr2 hq2
end Go.Proofs.YtfopdcdbelaapaaGreatDoor
