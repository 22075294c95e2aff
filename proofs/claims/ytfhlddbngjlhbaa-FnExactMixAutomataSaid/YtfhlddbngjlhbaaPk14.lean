/-
  Parts of a proof, joined: LawMixAutomata. No condition.
-/
import Derived.Test.YtfhlddbngjlhbaaPk13
namespace Go.Proofs.Ytfhlddbngjlhbaa
set_option linter.unusedVariables false
set_option linter.unusedSimpArgs false
open Go.ChangeShapes Go.WideShapes Go.ChangeAt Go.RowKit
set_option maxRecDepth 100000 in
set_option maxHeartbeats 16000000 in
theorem law_MixAutomata (t0 a0 : Int) (ac0 : List (List Bool)) (nx0 : List (List (List Int))) (s0 : Option Addr) (c0 : Nat) (nu0 : Option Addr) (d0 : Nat) (t1 a1 : Int) (ac1 : List (List Bool)) (nx1 : List (List (List Int))) (s1 : Option Addr) (c1 : Nat) (nu1 : Option Addr) (d1 : Nat) (x2 : Int) (w : World) (hr0 : Rd w (bbD ac0) (.slice s0 ac0.length c0)) (hq0 : Rd w (iiiD nx0) (.slice nu0 nx0.length d0)) (hr1 : Rd w (bbD ac1) (.slice s1 ac1.length c1)) (hq1 : Rd w (iiiD nx1) (.slice nu1 nx1.length d1)) :
  Calls Try.prog 3 #[.agg #[.int .i64 t0, .int .i64 a0, .slice s0 ac0.length c0, .slice nu0 nx0.length d0], .agg #[.int .i64 t1, .int .i64 a1, .slice s1 ac1.length c1, .slice nu1 nx1.length d1], .int .i64 x2] w fun e w' => e = .returned (.bool true) ∧ Below w.heap.size w w' := by
 have ef0 : eqb ac0 ac0 = true ∧ eqb nx0 nx0 = true := by simp [eqb_true]
 have ef1 : eqb ac1 ac1 = true ∧ eqb nx1 nx1 = true := by simp [eqb_true]
 have efR : (((mixT t0 a0 t1 a1 x2 ac0 ac1 nx0 nx1 t0) == (mixT t0 a0 t1 a1 x2 ac0 ac1 nx0 nx1 t0) && (mixT t0 a0 t1 a1 x2 ac0 ac1 nx0 nx1 a0) == (mixT t0 a0 t1 a1 x2 ac0 ac1 nx0 nx1 a0)) && (eqb (mixA t0 a0 t1 a1 x2 ac0 ac1 nx0 nx1) (mixA t0 a0 t1 a1 x2 ac0 ac1 nx0 nx1) && eqb (mixX t0 a0 t1 a1 x2 ac0 ac1 nx0 nx1) (mixX t0 a0 t1 a1 x2 ac0 ac1 nx0 nx1))) = true := by simp [eqb_true]
 go_enter Try.func3, Try.ntmps3
 go_wp2_with fail
 have L0 := (Blk.new4 w 27 (.int .i64 t0) (.int .i64 a0) (.slice s0 ac0.length c0) (.slice nu0 nx0.length d0)).alloc (.cells #[.int .i64 t1, .int .i64 a1, .slice s1 ac1.length c1, .slice nu1 nx1.length d1] 27)
 have L1 := Blk.new4 (w.alloc (.cells #[.int .i64 t0, .int .i64 a0, .slice s0 ac0.length c0, .slice nu0 nx0.length d0] 27)) 27 (.int .i64 t1) (.int .i64 a1) (.slice s1 ac1.length c1) (.slice nu1 nx1.length d1)
 simp at L1
 have hB : Below w.heap.size w ((w.alloc (.cells #[.int .i64 t0, .int .i64 a0, .slice s0 ac0.length c0, .slice nu0 nx0.length d0] 27)).alloc (.cells #[.int .i64 t1, .int .i64 a1, .slice s1 ac1.length c1, .slice nu1 nx1.length d1] 27)) := by (repeat' first | exact Below.refl _ _ | assumption | apply Below.alloc | apply Below.drew | apply Below.setCell | omega | (simp; done) | (simp; omega))
 generalize ((w.alloc (.cells #[.int .i64 t0, .int .i64 a0, .slice s0 ac0.length c0, .slice nu0 nx0.length d0] 27)).alloc (.cells #[.int .i64 t1, .int .i64 a1, .slice s1 ac1.length c1, .slice nu1 nx1.length d1] 27)) = v0 at L0 L1 hB ⊢
 have lt_v0_L0 := L0.lt
 have lt_v0_L1 := L1.lt
 have szB := hB.size
 have l0c0 := L0.c0
 have l0c1 := L0.c1
 have l0c2 := L0.c2
 have l0c3 := L0.c3
 have l1c0 := L1.c0
 have l1c1 := L1.c1
 have l1c2 := L1.c2
 have l1c3 := L1.c3
 have ltL0 := L0.lt
 have ltL1 := L1.lt
 go_wp2_with fail
 refine (szAutomaton_i (hr0.below hB) (hq0.below hB) (by omega) (by omega)).mono ?_
 rintro e v1 ⟨⟨r1, rfl, ra1, rb1, rc1⟩, hb⟩
 clear l0c0 l0c1 l0c2 l0c3 l1c0 l1c1 l1c2 l1c3 ltL0 ltL1
 have sz_v0_v1 := (hb).size
 replace L0 := L0.below hb
 replace L1 := L1.below hb
 replace hB := Below.on hB hb hB.size
 clear hb
 have l0c0 := L0.c0
 have l0c1 := L0.c1
 have l0c2 := L0.c2
 have l0c3 := L0.c3
 have l1c0 := L1.c0
 have l1c1 := L1.c1
 have l1c2 := L1.c2
 have l1c3 := L1.c3
 have ltL0 := L0.lt
 have ltL1 := L1.lt
 by_cases hneg1 : r1 < 0
 ·
  go_wp2_with fail
  go_ret
  exact ⟨rfl, hB⟩
 have hd1 : decide (r1 < 0) = false := by simpa using hneg1
 have rd1 := rc1 (by omega)
 clear rc1
 go_wp2_with fail
 refine (szAutomaton_i (hr1.below hB) (hq1.below hB) (by omega) (by omega)).mono ?_
 rintro e v2 ⟨⟨r2, rfl, ra2, rb2, rc2⟩, hb⟩
 clear l0c0 l0c1 l0c2 l0c3 l1c0 l1c1 l1c2 l1c3 ltL0 ltL1
 have sz_v1_v2 := (hb).size
 replace L0 := L0.below hb
 replace L1 := L1.below hb
 replace hB := Below.on hB hb hB.size
 clear hb
 have l0c0 := L0.c0
 have l0c1 := L0.c1
 have l0c2 := L0.c2
 have l0c3 := L0.c3
 have l1c0 := L1.c0
 have l1c1 := L1.c1
 have l1c2 := L1.c2
 have l1c3 := L1.c3
 have ltL0 := L0.lt
 have ltL1 := L1.lt
 by_cases hneg2 : r2 < 0
 ·
  go_wp2_with fail
  go_ret
  exact ⟨rfl, hB⟩
 have hd2 : decide (r2 < 0) = false := by simpa using hneg2
 have rd2 := rc2 (by omega)
 clear rc2
 have hsz0 : cntA ac0 nx0 ≤ 1048576 := by omega
 have hsz1 : cntA ac1 nx1 ≤ 1048576 := by omega
 have bX := mix_marks t0 a0 t1 a1 x2 ac0 ac1 nx0 nx1
 clear l0c0 l0c1 l0c2 l0c3 l1c0 l1c1 l1c2 l1c3 ltL0 ltL1
 have l0c0 := L0.c0
 have l0c1 := L0.c1
 have l0c2 := L0.c2
 have l0c3 := L0.c3
 have l1c0 := L1.c0
 have l1c1 := L1.c1
 have l1c2 := L1.c2
 have l1c3 := L1.c3
 have ltL0 := L0.lt
 have ltL1 := L1.lt
 go_wp2_with fail
 have hB0 := hB
 refine region_rg 10 [8, 11] [0, 1, 2, 3, 4, 5, 6, 7, 9] (fun i iv vs wx => match i with
  | 0 => vs 0 = .agg #[.int .i64 t0, .int .i64 a0, .slice s0 ac0.length c0, .slice nu0 nx0.length d0]
  | 1 => ∃ sxza0 cxza0 uxza0 dxza0, vs 1 = .agg #[.int .i64 t0, .int .i64 a0, .slice sxza0 ac0.length cxza0, .slice uxza0 nx0.length dxza0] ∧ FreshIn (iv 1) wx [(bbD ac0), (iiiD nx0)] [.slice sxza0 ac0.length cxza0, .slice uxza0 nx0.length dxza0]
  | 2 => vs 2 = .agg #[.int .i64 t1, .int .i64 a1, .slice s1 ac1.length c1, .slice nu1 nx1.length d1]
  | 3 => ∃ sxza1 cxza1 uxza1 dxza1, vs 3 = .agg #[.int .i64 t1, .int .i64 a1, .slice sxza1 ac1.length cxza1, .slice uxza1 nx1.length dxza1] ∧ FreshIn (iv 3) wx [(bbD ac1), (iiiD nx1)] [.slice sxza1 ac1.length cxza1, .slice uxza1 nx1.length dxza1]
  | 4 => vs 4 = .int .i64 x2
  | 5 => ∃ zaa zac zab zad, vs 5 = .tuple #[.agg #[.int .i64 (mixT t0 a0 t1 a1 x2 ac0 ac1 nx0 nx1 t0), .int .i64 (mixT t0 a0 t1 a1 x2 ac0 ac1 nx0 nx1 a0), .slice zaa (mixA t0 a0 t1 a1 x2 ac0 ac1 nx0 nx1).length zac, .slice zab (mixX t0 a0 t1 a1 x2 ac0 ac1 nx0 nx1).length zad], .int .i64 (mixC t0 a0 t1 a1 x2 ac0 ac1 nx0 nx1)] ∧ FreshIn (iv 5) wx (autD (mixA t0 a0 t1 a1 x2 ac0 ac1 nx0 nx1) (mixX t0 a0 t1 a1 x2 ac0 ac1 nx0 nx1)) [.slice zaa (mixA t0 a0 t1 a1 x2 ac0 ac1 nx0 nx1).length zac, .slice zab (mixX t0 a0 t1 a1 x2 ac0 ac1 nx0 nx1).length zad]
  | 6 => vs 6 = vs 5 ∧ ∃ arr, vs 6 = .tuple arr ∧ 1 < arr.size
  | 7 => vs 7 = tupAt (vs 6) 0
  | 9 => vs 9 = .pointer (some ⟨(iv 9).1, 0, none⟩) ∧ (iv 9).2 = (iv 9).1 + 1 ∧ Blk wx (iv 9).1 31 [.int .i64 0, .int .i64 0, .slice none 0 0, .slice none 0 0]
  | _ => True) (fun vs wx => ∃ p zaa zac zab zad, vs 9 = .pointer (some ⟨p, 0, none⟩) ∧ vs 6 = .tuple #[.agg #[.int .i64 (mixT t0 a0 t1 a1 x2 ac0 ac1 nx0 nx1 t0), .int .i64 (mixT t0 a0 t1 a1 x2 ac0 ac1 nx0 nx1 a0), .slice zaa (mixA t0 a0 t1 a1 x2 ac0 ac1 nx0 nx1).length zac, .slice zab (mixX t0 a0 t1 a1 x2 ac0 ac1 nx0 nx1).length zad], .int .i64 (mixC t0 a0 t1 a1 x2 ac0 ac1 nx0 nx1)] ∧ v2.heap.size ≤ p ∧ Blk wx p 31 [.int .i64 (mixT t0 a0 t1 a1 x2 ac0 ac1 nx0 nx1 t0), .int .i64 (mixT t0 a0 t1 a1 x2 ac0 ac1 nx0 nx1 a0), .slice zaa (mixA t0 a0 t1 a1 x2 ac0 ac1 nx0 nx1).length zac, .slice zab (mixX t0 a0 t1 a1 x2 ac0 ac1 nx0 nx1).length zad] ∧ (∃ F, Ows wx (autD (mixA t0 a0 t1 a1 x2 ac0 ac1 nx0 nx1) (mixX t0 a0 t1 a1 x2 ac0 ac1 nx0 nx1)) [.slice zaa (mixA t0 a0 t1 a1 x2 ac0 ac1 nx0 nx1).length zac, .slice zab (mixX t0 a0 t1 a1 x2 ac0 ac1 nx0 nx1).length zad] F ∧ F.Nodup ∧ ∀ b ∈ F, v2.heap.size ≤ b ∧ b ≠ p ∧ b < wx.heap.size) ∧ Below v2.heap.size v2 wx)
  (by kernel_rfl) (by kernel_rfl) (by kernel_rfl) (by kernel_rfl) ?hJ ?hX ?hF ?hstep ?hstore ?hQ (by kernel_rfl)
 case hX =>
  intro i o t k hi ho hop iv vs w hj
  simp only [List.mem_cons, List.not_mem_nil, or_false] at hi
  rcases hi with rfl | rfl
  ·
   simp at ho
   subst ho
   simp at hop
   obtain ⟨rfl, rfl⟩ := hop
   have hj2 : vs 6 = vs 5 ∧ ∃ arr, vs 6 = .tuple arr ∧ 1 < arr.size := hj
   obtain ⟨-, arr, q1, q2⟩ := hj2
   exact ⟨arr, q1, by omega⟩
  ·
   simp at ho
   subst ho
   simp at hop
 case hF =>
  intro vs vs' wx h hf
  have e6 := h 6 (mem_of (by kernel_rfl))
  have e9 := h 9 (mem_of (by kernel_rfl))
  show ∃ p zaa zac zab zad, vs' 9 = .pointer (some ⟨p, 0, none⟩) ∧ vs' 6 = .tuple #[.agg #[.int .i64 (mixT t0 a0 t1 a1 x2 ac0 ac1 nx0 nx1 t0), .int .i64 (mixT t0 a0 t1 a1 x2 ac0 ac1 nx0 nx1 a0), .slice zaa (mixA t0 a0 t1 a1 x2 ac0 ac1 nx0 nx1).length zac, .slice zab (mixX t0 a0 t1 a1 x2 ac0 ac1 nx0 nx1).length zad], .int .i64 (mixC t0 a0 t1 a1 x2 ac0 ac1 nx0 nx1)] ∧ v2.heap.size ≤ p ∧ Blk wx p 31 [.int .i64 (mixT t0 a0 t1 a1 x2 ac0 ac1 nx0 nx1 t0), .int .i64 (mixT t0 a0 t1 a1 x2 ac0 ac1 nx0 nx1 a0), .slice zaa (mixA t0 a0 t1 a1 x2 ac0 ac1 nx0 nx1).length zac, .slice zab (mixX t0 a0 t1 a1 x2 ac0 ac1 nx0 nx1).length zad] ∧ (∃ F, Ows wx (autD (mixA t0 a0 t1 a1 x2 ac0 ac1 nx0 nx1) (mixX t0 a0 t1 a1 x2 ac0 ac1 nx0 nx1)) [.slice zaa (mixA t0 a0 t1 a1 x2 ac0 ac1 nx0 nx1).length zac, .slice zab (mixX t0 a0 t1 a1 x2 ac0 ac1 nx0 nx1).length zad] F ∧ F.Nodup ∧ ∀ b ∈ F, v2.heap.size ≤ b ∧ b ≠ p ∧ b < wx.heap.size) ∧ Below v2.heap.size v2 wx
  rw [← e6, ← e9]
  exact hf
 case hJ =>
  intro i hi iv iv' vs vs' wx wx' ha hv hb hj
  simp only [List.mem_cons, List.not_mem_nil, or_false] at hi
  rcases hi with rfl | rfl | rfl | rfl | rfl | rfl | rfl | rfl | rfl
  ·
   have e0 := hv.out 0 (mem_of (by kernel_rfl))
   have hj' : vs 0 = .agg #[.int .i64 t0, .int .i64 a0, .slice s0 ac0.length c0, .slice nu0 nx0.length d0] := hj
   show vs' 0 = .agg #[.int .i64 t0, .int .i64 a0, .slice s0 ac0.length c0, .slice nu0 nx0.length d0]
   rw [← e0]
   exact hj'
  ·
   have e1 := hv.out 1 (mem_of (by kernel_rfl))
   have g1 := ha.out 1 (mem_of (by kernel_rfl))
   obtain ⟨sxza0, cxza0, uxza0, dxza0, q1, q2⟩ := hj
   exact ⟨sxza0, cxza0, uxza0, dxza0, e1 ▸ q1, g1 ▸ q2.below hb⟩
  ·
   have e2 := hv.out 2 (mem_of (by kernel_rfl))
   have hj' : vs 2 = .agg #[.int .i64 t1, .int .i64 a1, .slice s1 ac1.length c1, .slice nu1 nx1.length d1] := hj
   show vs' 2 = .agg #[.int .i64 t1, .int .i64 a1, .slice s1 ac1.length c1, .slice nu1 nx1.length d1]
   rw [← e2]
   exact hj'
  ·
   have e3 := hv.out 3 (mem_of (by kernel_rfl))
   have g3 := ha.out 3 (mem_of (by kernel_rfl))
   obtain ⟨sxza1, cxza1, uxza1, dxza1, q1, q2⟩ := hj
   exact ⟨sxza1, cxza1, uxza1, dxza1, e3 ▸ q1, g3 ▸ q2.below hb⟩
  ·
   have e4 := hv.out 4 (mem_of (by kernel_rfl))
   have hj' : vs 4 = .int .i64 x2 := hj
   show vs' 4 = .int .i64 x2
   rw [← e4]
   exact hj'
  ·
   have e5 := hv.out 5 (mem_of (by kernel_rfl))
   have g5 := ha.out 5 (mem_of (by kernel_rfl))
   obtain ⟨zaa, zac, zab, zad, q1, q2⟩ := hj
   exact ⟨zaa, zac, zab, zad, e5 ▸ q1, g5 ▸ q2.below hb⟩
  ·
   have e6 := hv.out 6 (mem_of (by kernel_rfl))
   have e5 := hv.out 5 (mem_of (by kernel_rfl))
   have hj' : vs 6 = vs 5 ∧ ∃ arr, vs 6 = .tuple arr ∧ 1 < arr.size := hj
   show vs' 6 = vs' 5 ∧ ∃ arr, vs' 6 = .tuple arr ∧ 1 < arr.size
   rw [← e5, ← e6]
   exact hj'
  ·
   have e7 := hv.out 7 (mem_of (by kernel_rfl))
   have e6 := hv.out 6 (mem_of (by kernel_rfl))
   have hj' : vs 7 = tupAt (vs 6) 0 := hj
   show vs' 7 = tupAt (vs' 6) 0
   rw [← e6, ← e7]
   exact hj'
  ·
   have e9 := hv.out 9 (mem_of (by kernel_rfl))
   have g9 := ha.out 9 (mem_of (by kernel_rfl))
   obtain ⟨q1, q3, q2⟩ := hj
   show vs' 9 = .pointer (some ⟨(iv' 9).1, 0, none⟩) ∧ (iv' 9).2 = (iv' 9).1 + 1 ∧ Blk wx' (iv' 9).1 31 [.int .i64 0, .int .i64 0, .slice none 0 0, .slice none 0 0]
   rw [← e9, ← g9]
   exact ⟨q1, q3, q2.below hb⟩
 case hstep =>
  intro i hi o ho iv vs w1 hB hd hbd hsep K hK
  simp only [List.mem_cons, List.not_mem_nil, or_false] at hi
  have hBw := Below.on hB0 hB hB0.size
  have L0s := L0.below hB
  have l0s0 := L0s.c0
  have l0s1 := L0s.c1
  have l0s2 := L0s.c2
  have l0s3 := L0s.c3
  have L1s := L1.below hB
  have l1s0 := L1s.c0
  have l1s1 := L1s.c1
  have l1s2 := L1s.c2
  have l1s3 := L1s.c3
  rcases hi with rfl | rfl | rfl | rfl | rfl | rfl | rfl | rfl | rfl
  all_goals
   simp at ho
   subst ho
   simp only [putFrom, puts]
  ·
   go_wp2_with fail
   exact Onward.mk (hK (.agg #[.int .i64 t0, .int .i64 a0, .slice s0 ac0.length c0, .slice nu0 nx0.length d0]) _ _ (by simp only [putFrom, puts]) (Below.refl _ _) (fun iv' _ _ => rfl))
  ·
   have h0 : vs 0 = .agg #[.int .i64 t0, .int .i64 a0, .slice s0 ac0.length c0, .slice nu0 nx0.length d0] := hd.out 0 (mem_of (by kernel_rfl)) (by decide)
   go_wp2_with fail
   refine (toAutomaton_i (hr0.below hBw) (hq0.below hBw) hsz0).mono ?_
   rintro e w2 ⟨sxza0, cxza0, uxza0, dxza0, rfl, hf, hb⟩
   go_wp2_with fail
   exact Onward.mk (hK (.agg #[.int .i64 t0, .int .i64 a0, .slice sxza0 ac0.length cxza0, .slice uxza0 nx0.length dxza0]) _ _ (by simp only [putFrom, puts, h0]) hb (fun iv' _ hi => ⟨sxza0, cxza0, uxza0, dxza0, rfl, by rw [hi]; exact Freshs.stretch (hf)⟩))
  ·
   go_wp2_with fail
   exact Onward.mk (hK (.agg #[.int .i64 t1, .int .i64 a1, .slice s1 ac1.length c1, .slice nu1 nx1.length d1]) _ _ (by simp only [putFrom, puts]) (Below.refl _ _) (fun iv' _ _ => rfl))
  ·
   have h2 : vs 2 = .agg #[.int .i64 t1, .int .i64 a1, .slice s1 ac1.length c1, .slice nu1 nx1.length d1] := hd.out 2 (mem_of (by kernel_rfl)) (by decide)
   go_wp2_with fail
   refine (toAutomaton_i (hr1.below hBw) (hq1.below hBw) hsz1).mono ?_
   rintro e w2 ⟨sxza1, cxza1, uxza1, dxza1, rfl, hf, hb⟩
   go_wp2_with fail
   exact Onward.mk (hK (.agg #[.int .i64 t1, .int .i64 a1, .slice sxza1 ac1.length cxza1, .slice uxza1 nx1.length dxza1]) _ _ (by simp only [putFrom, puts, h2]) hb (fun iv' _ hi => ⟨sxza1, cxza1, uxza1, dxza1, rfl, by rw [hi]; exact Freshs.stretch (hf)⟩))
  ·
   go_wp2_with fail
   exact Onward.mk (hK (.int .i64 x2) _ _ (by simp only [putFrom, puts]) (Below.refl _ _) (fun iv' _ _ => rfl))
  ·
   obtain ⟨sxza0, cxza0, uxza0, dxza0, h1, f1⟩ := hd.out 1 (mem_of (by kernel_rfl)) (by decide)
   obtain ⟨sxza1, cxza1, uxza1, dxza1, h3, f3⟩ := hd.out 3 (mem_of (by kernel_rfl)) (by decide)
   have h4 : vs 4 = .int .i64 x2 := hd.out 4 (mem_of (by kernel_rfl)) (by decide)
   go_wp2_with fail
   refine (specMixAutomata_i (f1.rds).two.1 (f1.rds).two.2 (f3.rds).two.1 (f3.rds).two.2).mono ?_
   rintro e w2 ⟨zaa, zac, zab, zad, rfl, hf, hb⟩
   go_wp2_with fail
   exact Onward.mk (hK (.tuple #[.agg #[.int .i64 (mixT t0 a0 t1 a1 x2 ac0 ac1 nx0 nx1 t0), .int .i64 (mixT t0 a0 t1 a1 x2 ac0 ac1 nx0 nx1 a0), .slice zaa (mixA t0 a0 t1 a1 x2 ac0 ac1 nx0 nx1).length zac, .slice zab (mixX t0 a0 t1 a1 x2 ac0 ac1 nx0 nx1).length zad], .int .i64 (mixC t0 a0 t1 a1 x2 ac0 ac1 nx0 nx1)]) _ _ (by simp only [putFrom, puts, h1, h3, h4]) hb (fun iv' _ hi => ⟨zaa, zac, zab, zad, rfl, by rw [hi]; exact Freshs.stretch (hf)⟩))
  ·
   obtain ⟨zaa, zac, zab, zad, h5, f5⟩ := hd.out 5 (mem_of (by kernel_rfl)) (by decide)
   go_wp2_with fail
   exact Onward.mk (hK (.tuple #[.agg #[.int .i64 (mixT t0 a0 t1 a1 x2 ac0 ac1 nx0 nx1 t0), .int .i64 (mixT t0 a0 t1 a1 x2 ac0 ac1 nx0 nx1 a0), .slice zaa (mixA t0 a0 t1 a1 x2 ac0 ac1 nx0 nx1).length zac, .slice zab (mixX t0 a0 t1 a1 x2 ac0 ac1 nx0 nx1).length zad], .int .i64 (mixC t0 a0 t1 a1 x2 ac0 ac1 nx0 nx1)]) _ _ (by simp only [putFrom, puts, h5]) (Below.refl _ _) (fun iv' _ _ => by
    show (.tuple #[.agg #[.int .i64 (mixT t0 a0 t1 a1 x2 ac0 ac1 nx0 nx1 t0), .int .i64 (mixT t0 a0 t1 a1 x2 ac0 ac1 nx0 nx1 a0), .slice zaa (mixA t0 a0 t1 a1 x2 ac0 ac1 nx0 nx1).length zac, .slice zab (mixX t0 a0 t1 a1 x2 ac0 ac1 nx0 nx1).length zad], .int .i64 (mixC t0 a0 t1 a1 x2 ac0 ac1 nx0 nx1)] : Value) = vs 5 ∧ ∃ arr, (.tuple #[.agg #[.int .i64 (mixT t0 a0 t1 a1 x2 ac0 ac1 nx0 nx1 t0), .int .i64 (mixT t0 a0 t1 a1 x2 ac0 ac1 nx0 nx1 a0), .slice zaa (mixA t0 a0 t1 a1 x2 ac0 ac1 nx0 nx1).length zac, .slice zab (mixX t0 a0 t1 a1 x2 ac0 ac1 nx0 nx1).length zad], .int .i64 (mixC t0 a0 t1 a1 x2 ac0 ac1 nx0 nx1)] : Value) = .tuple arr ∧ 1 < arr.size
    exact ⟨by simp only [h5], _, rfl, by simp⟩))
  ·
   obtain ⟨zaa, zac, zab, zad, h5, f5⟩ := hd.out 5 (mem_of (by kernel_rfl)) (by decide)
   obtain ⟨h6, s6⟩ := hd.out 6 (mem_of (by kernel_rfl)) (by decide)
   go_wp2_with fail
   exact Onward.mk (hK (.agg #[.int .i64 (mixT t0 a0 t1 a1 x2 ac0 ac1 nx0 nx1 t0), .int .i64 (mixT t0 a0 t1 a1 x2 ac0 ac1 nx0 nx1 a0), .slice zaa (mixA t0 a0 t1 a1 x2 ac0 ac1 nx0 nx1).length zac, .slice zab (mixX t0 a0 t1 a1 x2 ac0 ac1 nx0 nx1).length zad]) _ _ (by simp only [putFrom, puts, h5, h6]) (Below.refl _ _) (fun iv' _ _ => by
    show (.agg #[.int .i64 (mixT t0 a0 t1 a1 x2 ac0 ac1 nx0 nx1 t0), .int .i64 (mixT t0 a0 t1 a1 x2 ac0 ac1 nx0 nx1 a0), .slice zaa (mixA t0 a0 t1 a1 x2 ac0 ac1 nx0 nx1).length zac, .slice zab (mixX t0 a0 t1 a1 x2 ac0 ac1 nx0 nx1).length zad] : Value) = tupAt (vs 6) 0
    simp only [h5, h6, tupAt]; rfl))
  ·
   go_wp2_with fail
   exact Onward.mk (hK (.pointer (some ⟨w1.heap.size, 0, none⟩)) _ _ (by simp only [putFrom, puts]) (Below.alloc (Below.refl _ _) (Nat.le_refl _) _) (fun iv' _ hi => by
    show Value.pointer (some ⟨w1.heap.size, 0, none⟩) = .pointer (some ⟨(iv' 9).1, 0, none⟩) ∧ (iv' 9).2 = (iv' 9).1 + 1 ∧ Blk _ (iv' 9).1 31 [.int .i64 0, .int .i64 0, .slice none 0 0, .slice none 0 0]
    rw [hi]
    exact ⟨rfl, by simp, Blk.new4 _ _ _ _ _ _⟩))
 case hstore =>
  intro o ho iv vs w1 hB hd hsep K hK
  simp at ho
  subst ho
  simp only [putFrom, puts]
  have h0 : vs 0 = .agg #[.int .i64 t0, .int .i64 a0, .slice s0 ac0.length c0, .slice nu0 nx0.length d0] := (hd.out 0 (mem_of (by kernel_rfl))).1
  obtain ⟨⟨sxza0, cxza0, uxza0, dxza0, h1, f1⟩, b1, -, u1⟩ := hd.out 1 (mem_of (by kernel_rfl))
  have h2 : vs 2 = .agg #[.int .i64 t1, .int .i64 a1, .slice s1 ac1.length c1, .slice nu1 nx1.length d1] := (hd.out 2 (mem_of (by kernel_rfl))).1
  obtain ⟨⟨sxza1, cxza1, uxza1, dxza1, h3, f3⟩, b3, -, u3⟩ := hd.out 3 (mem_of (by kernel_rfl))
  have h4 : vs 4 = .int .i64 x2 := (hd.out 4 (mem_of (by kernel_rfl))).1
  obtain ⟨⟨zaa, zac, zab, zad, h5, f5⟩, b5, -, u5⟩ := hd.out 5 (mem_of (by kernel_rfl))
  obtain ⟨⟨h6, s6⟩, b6, -, u6⟩ := hd.out 6 (mem_of (by kernel_rfl))
  have h7 : vs 7 = tupAt (vs 6) 0 := (hd.out 7 (mem_of (by kernel_rfl))).1
  obtain ⟨⟨h9, q9, f9⟩, b9, -, u9⟩ := hd.out 9 (mem_of (by kernel_rfl))
  have k7 : vs 7 = .agg #[.int .i64 (mixT t0 a0 t1 a1 x2 ac0 ac1 nx0 nx1 t0), .int .i64 (mixT t0 a0 t1 a1 x2 ac0 ac1 nx0 nx1 a0), .slice zaa (mixA t0 a0 t1 a1 x2 ac0 ac1 nx0 nx1).length zac, .slice zab (mixX t0 a0 t1 a1 x2 ac0 ac1 nx0 nx1).length zad] := by rw [h7, h6, h5]; rfl
  have K6 : Hid (vs 6 = .tuple #[.agg #[.int .i64 (mixT t0 a0 t1 a1 x2 ac0 ac1 nx0 nx1 t0), .int .i64 (mixT t0 a0 t1 a1 x2 ac0 ac1 nx0 nx1 a0), .slice zaa (mixA t0 a0 t1 a1 x2 ac0 ac1 nx0 nx1).length zac, .slice zab (mixX t0 a0 t1 a1 x2 ac0 ac1 nx0 nx1).length zad], .int .i64 (mixC t0 a0 t1 a1 x2 ac0 ac1 nx0 nx1)]) := by show _ = _; rw [h6, h5]
  obtain ⟨p, hp⟩ : ∃ p, (iv 9).1 = p := ⟨_, rfl⟩
  have hsep2 := hsep.out 5 (mem_of (by kernel_rfl)) 9 (mem_of (by kernel_rfl)) (by decide)
  unfold Sep at hsep2
  rw [hp] at h9 q9 f9 b9 hsep2
  obtain ⟨F, oF, nF, lF⟩ := f5
  have r0 := f9.c0
  have y0 := f9.frozen 0
  have r1 := f9.c1
  have y1 := f9.frozen 1
  have r2 := f9.c2
  have y2 := f9.frozen 2
  have r3 := f9.c3
  have y3 := f9.frozen 3
  clear h0 h1 h2 h3 h4 h5 h6 h7 s6
  go_wp2_with fail
  refine Onward.mk (hK _ _ (by simp only [putFrom, puts, h9, k7]) ⟨p, zaa, zac, zab, zad, h9, K6.out, b9, ((((f9.set 0 _).set 1 _).set 2 _).set 3 _), ⟨F, oF.keep fun b hm => ?_, nF, fun b hm => ?_⟩, ?_⟩)
  ·
   have h1 := lF b hm
   have h2 : b ≠ p := by omega
   repeat rw [Below.heap_setCell _ _ _ _ h2]
  ·
   have h1 := lF b hm
   have h2 := oF.lt b hm
   simp only [World.setCell, Array.size_modify]
   omega
  ·
   exact Below.setCell (Below.setCell (Below.setCell (Below.setCell (hB) (by simp; omega) _) (by simp; omega) _) (by simp; omega) _) (by simp; omega) _
 case hQ =>
  rintro zas v3 hE ⟨zap, zaa, zac, zab, zad, h8, h7, lpza, ZA, ⟨Fza, oza, nza, luza⟩, hb⟩
  have h9 : zas 8 = tupAt (zas 6) 1 := hE 8 (mem_of (by kernel_rfl))
  have h10 : zas 11 = zas 8 := hE 11 (mem_of (by kernel_rfl))
  rw [h9, h7] at h10
  replace h10 : zas 11 = .int .i64 (mixC t0 a0 t1 a1 x2 ac0 ac1 nx0 nx1) := h10
  simp only [putFrom, puts, h8, h10]
  clear h7 h8 h9 h10 hE
  clear l0c0 l0c1 l0c2 l0c3 l1c0 l1c1 l1c2 l1c3 ltL0 ltL1
  have sz_v2_v3 := (hb).size
  replace L0 := L0.below hb
  replace L1 := L1.below hb
  replace hB := Below.on hB hb hB.size
  clear hb
  have lza : ∀ b ∈ Fza, v2.heap.size ≤ b ∧ b ≠ zap := fun b hm => ⟨(luza b hm).1, (luza b hm).2.1⟩
  have uza : ∀ b ∈ Fza, b < v3.heap.size := fun b hm => (luza b hm).2.2
  clear luza
  have lt_v3_L0 := L0.lt
  have lt_v3_L1 := L1.lt
  have lt_v3_ZA := ZA.lt
  have l0c0 := L0.c0
  have l0c1 := L0.c1
  have l0c2 := L0.c2
  have l0c3 := L0.c3
  have l1c0 := L1.c0
  have l1c1 := L1.c1
  have l1c2 := L1.c2
  have l1c3 := L1.c3
  have zac0 := ZA.c0
  have zac1 := ZA.c1
  have zac2 := ZA.c2
  have zac3 := ZA.c3
  have ltL0 := L0.lt
  have ltL1 := L1.lt
  have ltZA := ZA.lt
  go_wp2_with fail
  refine (toAutomaton_i (hr0.below hB) (hq0.below hB) hsz0).mono ?_
  rintro e v4 ⟨sxx0, cxx0, uxx0, dxx0, rfl, ⟨FX0, oX0, nX0, lX0⟩, hb⟩
  have uX0 := oX0.lt
  clear l0c0 l0c1 l0c2 l0c3 l1c0 l1c1 l1c2 l1c3 zac0 zac1 zac2 zac3 ltL0 ltL1 ltZA
  have sz_v3_v4 := (hb).size
  replace L0 := L0.below hb
  replace L1 := L1.below hb
  replace ZA := ZA.below hb
  replace oza := oza.keep fun b hm => (hb).block b (oza.lt b hm)
  replace hB := Below.on hB hb hB.size
  clear hb
  have l0c0 := L0.c0
  have l0c1 := L0.c1
  have l0c2 := L0.c2
  have l0c3 := L0.c3
  have l1c0 := L1.c0
  have l1c1 := L1.c1
  have l1c2 := L1.c2
  have l1c3 := L1.c3
  have zac0 := ZA.c0
  have zac1 := ZA.c1
  have zac2 := ZA.c2
  have zac3 := ZA.c3
  have ltL0 := L0.lt
  have ltL1 := L1.lt
  have ltZA := ZA.lt
  go_wp2_with fail
  have X0 := Blk.new4 v4 31 (.int .i64 t0) (.int .i64 a0) (.slice sxx0 ac0.length cxx0) (.slice uxx0 nx0.length dxx0)
  clear l0c0 l0c1 l0c2 l0c3 l1c0 l1c1 l1c2 l1c3 zac0 zac1 zac2 zac3 ltL0 ltL1 ltZA
  replace L0 := L0.alloc (.cells #[.int .i64 t0, .int .i64 a0, .slice sxx0 ac0.length cxx0, .slice uxx0 nx0.length dxx0] 31)
  replace L1 := L1.alloc (.cells #[.int .i64 t0, .int .i64 a0, .slice sxx0 ac0.length cxx0, .slice uxx0 nx0.length dxx0] 31)
  replace ZA := ZA.alloc (.cells #[.int .i64 t0, .int .i64 a0, .slice sxx0 ac0.length cxx0, .slice uxx0 nx0.length dxx0] 31)
  replace oza := oza.keep (w' := v4.alloc (.cells #[.int .i64 t0, .int .i64 a0, .slice sxx0 ac0.length cxx0, .slice uxx0 nx0.length dxx0] 31)) fun b hm => Below.heap_alloc v4 _ b (oza.lt b hm)
  replace oX0 := oX0.keep (w' := v4.alloc (.cells #[.int .i64 t0, .int .i64 a0, .slice sxx0 ac0.length cxx0, .slice uxx0 nx0.length dxx0] 31)) fun b hm => Below.heap_alloc v4 _ b (oX0.lt b hm)
  replace hB := hB.alloc hB.size (.cells #[.int .i64 t0, .int .i64 a0, .slice sxx0 ac0.length cxx0, .slice uxx0 nx0.length dxx0] 31)
  have szA : (v4.alloc (.cells #[.int .i64 t0, .int .i64 a0, .slice sxx0 ac0.length cxx0, .slice uxx0 nx0.length dxx0] 31)).heap.size = v4.heap.size + 1 := by simp
  generalize v4.alloc (.cells #[.int .i64 t0, .int .i64 a0, .slice sxx0 ac0.length cxx0, .slice uxx0 nx0.length dxx0] 31) = v5 at L0 L1 ZA X0 oza oX0 hB szA ⊢
  have sz_v5 := szA
  clear szA
  have lt_v5_L0 := L0.lt
  have lt_v5_L1 := L1.lt
  have lt_v5_ZA := ZA.lt
  have lt_v5_X0 := X0.lt
  have l0c0 := L0.c0
  have l0c1 := L0.c1
  have l0c2 := L0.c2
  have l0c3 := L0.c3
  have l1c0 := L1.c0
  have l1c1 := L1.c1
  have l1c2 := L1.c2
  have l1c3 := L1.c3
  have zac0 := ZA.c0
  have zac1 := ZA.c1
  have zac2 := ZA.c2
  have zac3 := ZA.c3
  have x0c0 := X0.c0
  have x0c1 := X0.c1
  have x0c2 := X0.c2
  have x0c3 := X0.c3
  have ltL0 := L0.lt
  have ltL1 := L1.lt
  have ltZA := ZA.lt
  have ltX0 := X0.lt
  go_wp2_with fail
  refine (toAutomaton_i (hr1.below hB) (hq1.below hB) hsz1).mono ?_
  rintro e v6 ⟨sxx1, cxx1, uxx1, dxx1, rfl, ⟨FX1, oX1, nX1, lX1⟩, hb⟩
  have uX1 := oX1.lt
  clear l0c0 l0c1 l0c2 l0c3 l1c0 l1c1 l1c2 l1c3 zac0 zac1 zac2 zac3 x0c0 x0c1 x0c2 x0c3 ltL0 ltL1 ltZA ltX0
  have sz_v5_v6 := (hb).size
  replace L0 := L0.below hb
  replace L1 := L1.below hb
  replace ZA := ZA.below hb
  replace X0 := X0.below hb
  replace oza := oza.keep fun b hm => (hb).block b (oza.lt b hm)
  replace oX0 := oX0.keep fun b hm => (hb).block b (oX0.lt b hm)
  replace hB := Below.on hB hb hB.size
  clear hb
  have l0c0 := L0.c0
  have l0c1 := L0.c1
  have l0c2 := L0.c2
  have l0c3 := L0.c3
  have l1c0 := L1.c0
  have l1c1 := L1.c1
  have l1c2 := L1.c2
  have l1c3 := L1.c3
  have zac0 := ZA.c0
  have zac1 := ZA.c1
  have zac2 := ZA.c2
  have zac3 := ZA.c3
  have x0c0 := X0.c0
  have x0c1 := X0.c1
  have x0c2 := X0.c2
  have x0c3 := X0.c3
  have ltL0 := L0.lt
  have ltL1 := L1.lt
  have ltZA := ZA.lt
  have ltX0 := X0.lt
  go_wp2_with fail
  have X1 := Blk.new4 v6 31 (.int .i64 t1) (.int .i64 a1) (.slice sxx1 ac1.length cxx1) (.slice uxx1 nx1.length dxx1)
  clear l0c0 l0c1 l0c2 l0c3 l1c0 l1c1 l1c2 l1c3 zac0 zac1 zac2 zac3 x0c0 x0c1 x0c2 x0c3 ltL0 ltL1 ltZA ltX0
  replace L0 := L0.alloc (.cells #[.int .i64 t1, .int .i64 a1, .slice sxx1 ac1.length cxx1, .slice uxx1 nx1.length dxx1] 31)
  replace L1 := L1.alloc (.cells #[.int .i64 t1, .int .i64 a1, .slice sxx1 ac1.length cxx1, .slice uxx1 nx1.length dxx1] 31)
  replace ZA := ZA.alloc (.cells #[.int .i64 t1, .int .i64 a1, .slice sxx1 ac1.length cxx1, .slice uxx1 nx1.length dxx1] 31)
  replace X0 := X0.alloc (.cells #[.int .i64 t1, .int .i64 a1, .slice sxx1 ac1.length cxx1, .slice uxx1 nx1.length dxx1] 31)
  replace oza := oza.keep (w' := v6.alloc (.cells #[.int .i64 t1, .int .i64 a1, .slice sxx1 ac1.length cxx1, .slice uxx1 nx1.length dxx1] 31)) fun b hm => Below.heap_alloc v6 _ b (oza.lt b hm)
  replace oX0 := oX0.keep (w' := v6.alloc (.cells #[.int .i64 t1, .int .i64 a1, .slice sxx1 ac1.length cxx1, .slice uxx1 nx1.length dxx1] 31)) fun b hm => Below.heap_alloc v6 _ b (oX0.lt b hm)
  replace oX1 := oX1.keep (w' := v6.alloc (.cells #[.int .i64 t1, .int .i64 a1, .slice sxx1 ac1.length cxx1, .slice uxx1 nx1.length dxx1] 31)) fun b hm => Below.heap_alloc v6 _ b (oX1.lt b hm)
  replace hB := hB.alloc hB.size (.cells #[.int .i64 t1, .int .i64 a1, .slice sxx1 ac1.length cxx1, .slice uxx1 nx1.length dxx1] 31)
  have szA : (v6.alloc (.cells #[.int .i64 t1, .int .i64 a1, .slice sxx1 ac1.length cxx1, .slice uxx1 nx1.length dxx1] 31)).heap.size = v6.heap.size + 1 := by simp
  generalize v6.alloc (.cells #[.int .i64 t1, .int .i64 a1, .slice sxx1 ac1.length cxx1, .slice uxx1 nx1.length dxx1] 31) = v7 at L0 L1 ZA X0 X1 oza oX0 oX1 hB szA ⊢
  have sz_v7 := szA
  clear szA
  have lt_v7_L0 := L0.lt
  have lt_v7_L1 := L1.lt
  have lt_v7_ZA := ZA.lt
  have lt_v7_X0 := X0.lt
  have lt_v7_X1 := X1.lt
  have l0c0 := L0.c0
  have l0c1 := L0.c1
  have l0c2 := L0.c2
  have l0c3 := L0.c3
  have l1c0 := L1.c0
  have l1c1 := L1.c1
  have l1c2 := L1.c2
  have l1c3 := L1.c3
  have zac0 := ZA.c0
  have zac1 := ZA.c1
  have zac2 := ZA.c2
  have zac3 := ZA.c3
  have x0c0 := X0.c0
  have x0c1 := X0.c1
  have x0c2 := X0.c2
  have x0c3 := X0.c3
  have x1c0 := X1.c0
  have x1c1 := X1.c1
  have x1c2 := X1.c2
  have x1c3 := X1.c3
  have ltL0 := L0.lt
  have ltL1 := L1.lt
  have ltZA := ZA.lt
  have ltX0 := X0.lt
  have ltX1 := X1.lt
  go_wp2_with fail
  refine (implMixAutomata_i (oX0.rds).two.1 (oX0.rds).two.2 (oX1.rds).two.1 (oX1.rds).two.2).mono ?_
  rintro e v8 ⟨zba, zbc, zbb, zbd, rfl, ⟨Fzb, ozb, nzb, lzb⟩, hb⟩
  have uzb := ozb.lt
  clear l0c0 l0c1 l0c2 l0c3 l1c0 l1c1 l1c2 l1c3 zac0 zac1 zac2 zac3 x0c0 x0c1 x0c2 x0c3 x1c0 x1c1 x1c2 x1c3 ltL0 ltL1 ltZA ltX0 ltX1
  have sz_v7_v8 := (hb).size
  replace L0 := L0.below hb
  replace L1 := L1.below hb
  replace ZA := ZA.below hb
  replace X0 := X0.below hb
  replace X1 := X1.below hb
  replace oza := oza.keep fun b hm => (hb).block b (oza.lt b hm)
  replace oX0 := oX0.keep fun b hm => (hb).block b (oX0.lt b hm)
  replace oX1 := oX1.keep fun b hm => (hb).block b (oX1.lt b hm)
  replace hB := Below.on hB hb hB.size
  clear hb
  have l0c0 := L0.c0
  have l0c1 := L0.c1
  have l0c2 := L0.c2
  have l0c3 := L0.c3
  have l1c0 := L1.c0
  have l1c1 := L1.c1
  have l1c2 := L1.c2
  have l1c3 := L1.c3
  have zac0 := ZA.c0
  have zac1 := ZA.c1
  have zac2 := ZA.c2
  have zac3 := ZA.c3
  have x0c0 := X0.c0
  have x0c1 := X0.c1
  have x0c2 := X0.c2
  have x0c3 := X0.c3
  have x1c0 := X1.c0
  have x1c1 := X1.c1
  have x1c2 := X1.c2
  have x1c3 := X1.c3
  have ltL0 := L0.lt
  have ltL1 := L1.lt
  have ltZA := ZA.lt
  have ltX0 := X0.lt
  have ltX1 := X1.lt
  go_wp2_with fail
  have ZB := Blk.new4 v8 31 (.int .i64 (mixT t0 a0 t1 a1 x2 ac0 ac1 nx0 nx1 t0)) (.int .i64 (mixT t0 a0 t1 a1 x2 ac0 ac1 nx0 nx1 a0)) (.slice zba (mixA t0 a0 t1 a1 x2 ac0 ac1 nx0 nx1).length zbc) (.slice zbb (mixX t0 a0 t1 a1 x2 ac0 ac1 nx0 nx1).length zbd)
  clear l0c0 l0c1 l0c2 l0c3 l1c0 l1c1 l1c2 l1c3 zac0 zac1 zac2 zac3 x0c0 x0c1 x0c2 x0c3 x1c0 x1c1 x1c2 x1c3 ltL0 ltL1 ltZA ltX0 ltX1
  replace L0 := L0.alloc (.cells #[.int .i64 (mixT t0 a0 t1 a1 x2 ac0 ac1 nx0 nx1 t0), .int .i64 (mixT t0 a0 t1 a1 x2 ac0 ac1 nx0 nx1 a0), .slice zba (mixA t0 a0 t1 a1 x2 ac0 ac1 nx0 nx1).length zbc, .slice zbb (mixX t0 a0 t1 a1 x2 ac0 ac1 nx0 nx1).length zbd] 31)
  replace L1 := L1.alloc (.cells #[.int .i64 (mixT t0 a0 t1 a1 x2 ac0 ac1 nx0 nx1 t0), .int .i64 (mixT t0 a0 t1 a1 x2 ac0 ac1 nx0 nx1 a0), .slice zba (mixA t0 a0 t1 a1 x2 ac0 ac1 nx0 nx1).length zbc, .slice zbb (mixX t0 a0 t1 a1 x2 ac0 ac1 nx0 nx1).length zbd] 31)
  replace ZA := ZA.alloc (.cells #[.int .i64 (mixT t0 a0 t1 a1 x2 ac0 ac1 nx0 nx1 t0), .int .i64 (mixT t0 a0 t1 a1 x2 ac0 ac1 nx0 nx1 a0), .slice zba (mixA t0 a0 t1 a1 x2 ac0 ac1 nx0 nx1).length zbc, .slice zbb (mixX t0 a0 t1 a1 x2 ac0 ac1 nx0 nx1).length zbd] 31)
  replace X0 := X0.alloc (.cells #[.int .i64 (mixT t0 a0 t1 a1 x2 ac0 ac1 nx0 nx1 t0), .int .i64 (mixT t0 a0 t1 a1 x2 ac0 ac1 nx0 nx1 a0), .slice zba (mixA t0 a0 t1 a1 x2 ac0 ac1 nx0 nx1).length zbc, .slice zbb (mixX t0 a0 t1 a1 x2 ac0 ac1 nx0 nx1).length zbd] 31)
  replace X1 := X1.alloc (.cells #[.int .i64 (mixT t0 a0 t1 a1 x2 ac0 ac1 nx0 nx1 t0), .int .i64 (mixT t0 a0 t1 a1 x2 ac0 ac1 nx0 nx1 a0), .slice zba (mixA t0 a0 t1 a1 x2 ac0 ac1 nx0 nx1).length zbc, .slice zbb (mixX t0 a0 t1 a1 x2 ac0 ac1 nx0 nx1).length zbd] 31)
  replace oza := oza.keep (w' := v8.alloc (.cells #[.int .i64 (mixT t0 a0 t1 a1 x2 ac0 ac1 nx0 nx1 t0), .int .i64 (mixT t0 a0 t1 a1 x2 ac0 ac1 nx0 nx1 a0), .slice zba (mixA t0 a0 t1 a1 x2 ac0 ac1 nx0 nx1).length zbc, .slice zbb (mixX t0 a0 t1 a1 x2 ac0 ac1 nx0 nx1).length zbd] 31)) fun b hm => Below.heap_alloc v8 _ b (oza.lt b hm)
  replace oX0 := oX0.keep (w' := v8.alloc (.cells #[.int .i64 (mixT t0 a0 t1 a1 x2 ac0 ac1 nx0 nx1 t0), .int .i64 (mixT t0 a0 t1 a1 x2 ac0 ac1 nx0 nx1 a0), .slice zba (mixA t0 a0 t1 a1 x2 ac0 ac1 nx0 nx1).length zbc, .slice zbb (mixX t0 a0 t1 a1 x2 ac0 ac1 nx0 nx1).length zbd] 31)) fun b hm => Below.heap_alloc v8 _ b (oX0.lt b hm)
  replace oX1 := oX1.keep (w' := v8.alloc (.cells #[.int .i64 (mixT t0 a0 t1 a1 x2 ac0 ac1 nx0 nx1 t0), .int .i64 (mixT t0 a0 t1 a1 x2 ac0 ac1 nx0 nx1 a0), .slice zba (mixA t0 a0 t1 a1 x2 ac0 ac1 nx0 nx1).length zbc, .slice zbb (mixX t0 a0 t1 a1 x2 ac0 ac1 nx0 nx1).length zbd] 31)) fun b hm => Below.heap_alloc v8 _ b (oX1.lt b hm)
  replace ozb := ozb.keep (w' := v8.alloc (.cells #[.int .i64 (mixT t0 a0 t1 a1 x2 ac0 ac1 nx0 nx1 t0), .int .i64 (mixT t0 a0 t1 a1 x2 ac0 ac1 nx0 nx1 a0), .slice zba (mixA t0 a0 t1 a1 x2 ac0 ac1 nx0 nx1).length zbc, .slice zbb (mixX t0 a0 t1 a1 x2 ac0 ac1 nx0 nx1).length zbd] 31)) fun b hm => Below.heap_alloc v8 _ b (ozb.lt b hm)
  replace hB := hB.alloc hB.size (.cells #[.int .i64 (mixT t0 a0 t1 a1 x2 ac0 ac1 nx0 nx1 t0), .int .i64 (mixT t0 a0 t1 a1 x2 ac0 ac1 nx0 nx1 a0), .slice zba (mixA t0 a0 t1 a1 x2 ac0 ac1 nx0 nx1).length zbc, .slice zbb (mixX t0 a0 t1 a1 x2 ac0 ac1 nx0 nx1).length zbd] 31)
  have szA : (v8.alloc (.cells #[.int .i64 (mixT t0 a0 t1 a1 x2 ac0 ac1 nx0 nx1 t0), .int .i64 (mixT t0 a0 t1 a1 x2 ac0 ac1 nx0 nx1 a0), .slice zba (mixA t0 a0 t1 a1 x2 ac0 ac1 nx0 nx1).length zbc, .slice zbb (mixX t0 a0 t1 a1 x2 ac0 ac1 nx0 nx1).length zbd] 31)).heap.size = v8.heap.size + 1 := by simp
  generalize v8.alloc (.cells #[.int .i64 (mixT t0 a0 t1 a1 x2 ac0 ac1 nx0 nx1 t0), .int .i64 (mixT t0 a0 t1 a1 x2 ac0 ac1 nx0 nx1 a0), .slice zba (mixA t0 a0 t1 a1 x2 ac0 ac1 nx0 nx1).length zbc, .slice zbb (mixX t0 a0 t1 a1 x2 ac0 ac1 nx0 nx1).length zbd] 31) = v9 at L0 L1 ZA X0 X1 ZB oza oX0 oX1 ozb hB szA ⊢
  have sz_v9 := szA
  clear szA
  have lt_v9_L0 := L0.lt
  have lt_v9_L1 := L1.lt
  have lt_v9_ZA := ZA.lt
  have lt_v9_X0 := X0.lt
  have lt_v9_X1 := X1.lt
  have lt_v9_ZB := ZB.lt
  have l0c0 := L0.c0
  have l0c1 := L0.c1
  have l0c2 := L0.c2
  have l0c3 := L0.c3
  have l1c0 := L1.c0
  have l1c1 := L1.c1
  have l1c2 := L1.c2
  have l1c3 := L1.c3
  have zac0 := ZA.c0
  have zac1 := ZA.c1
  have zac2 := ZA.c2
  have zac3 := ZA.c3
  have x0c0 := X0.c0
  have x0c1 := X0.c1
  have x0c2 := X0.c2
  have x0c3 := X0.c3
  have x1c0 := X1.c0
  have x1c1 := X1.c1
  have x1c2 := X1.c2
  have x1c3 := X1.c3
  have zbc0 := ZB.c0
  have zbc1 := ZB.c1
  have zbc2 := ZB.c2
  have zbc3 := ZB.c3
  have ltL0 := L0.lt
  have ltL1 := L1.lt
  have ltZA := ZA.lt
  have ltX0 := X0.lt
  have ltX1 := X1.lt
  have ltZB := ZB.lt
  go_wp2_with fail
  refine (eqAutomaton_i ((ozb.rds).two.1) ((ozb.rds).two.2) ((oza.rds).two.1) ((oza.rds).two.2)).mono ?_
  rintro e v10 ⟨rfl, hb⟩
  clear l0c0 l0c1 l0c2 l0c3 l1c0 l1c1 l1c2 l1c3 zac0 zac1 zac2 zac3 x0c0 x0c1 x0c2 x0c3 x1c0 x1c1 x1c2 x1c3 zbc0 zbc1 zbc2 zbc3 ltL0 ltL1 ltZA ltX0 ltX1 ltZB
  have sz_v9_v10 := (hb).size
  replace L0 := L0.below hb
  replace L1 := L1.below hb
  replace ZA := ZA.below hb
  replace X0 := X0.below hb
  replace X1 := X1.below hb
  replace ZB := ZB.below hb
  replace oza := oza.keep fun b hm => (hb).block b (oza.lt b hm)
  replace oX0 := oX0.keep fun b hm => (hb).block b (oX0.lt b hm)
  replace oX1 := oX1.keep fun b hm => (hb).block b (oX1.lt b hm)
  replace ozb := ozb.keep fun b hm => (hb).block b (ozb.lt b hm)
  replace hB := Below.on hB hb hB.size
  clear hb
  rw [efR]
  have l0c0 := L0.c0
  have l0c1 := L0.c1
  have l0c2 := L0.c2
  have l0c3 := L0.c3
  have l1c0 := L1.c0
  have l1c1 := L1.c1
  have l1c2 := L1.c2
  have l1c3 := L1.c3
  have zac0 := ZA.c0
  have zac1 := ZA.c1
  have zac2 := ZA.c2
  have zac3 := ZA.c3
  have x0c0 := X0.c0
  have x0c1 := X0.c1
  have x0c2 := X0.c2
  have x0c3 := X0.c3
  have x1c0 := X1.c0
  have x1c1 := X1.c1
  have x1c2 := X1.c2
  have x1c3 := X1.c3
  have zbc0 := ZB.c0
  have zbc1 := ZB.c1
  have zbc2 := ZB.c2
  have zbc3 := ZB.c3
  have ltL0 := L0.lt
  have ltL1 := L1.lt
  have ltZA := ZA.lt
  have ltX0 := X0.lt
  have ltX1 := X1.lt
  have ltZB := ZB.lt
  go_wp2_with fail
  go_region_held3 (fun w' => (∀ b o, b < v10.heap.size → w'.cell? ⟨b, o, none⟩ = v10.cell? ⟨b, o, none⟩) ∧ Below v10.heap.size v10 w')
   (first | exact kp_drew v10 | exact kp_on ‹_› hb)
   (first
    | (go_at_call 7; have hK := ‹(∀ b o, b < v10.heap.size → _) ∧ Below v10.heap.size v10 _›; ((with_reducible refine (toAutomaton_i (hr0.below (Below.on hB hK.2 hB.size)) (hq0.below (Below.on hB hK.2 hB.size)) hsz0).mono ?_); rintro e wy0 ⟨sxy0, cxy0, uxy0, dxy0, rfl, hfy0, hb⟩))
    | (go_at_call 9; have hK := ‹(∀ b o, b < v10.heap.size → _) ∧ Below v10.heap.size v10 _›; ((with_reducible refine (eqAutomaton_i (((oX0.rds).two.1).below hK.2) (((oX0.rds).two.2).below hK.2) ((hfy0.rds).two.1) ((hfy0.rds).two.2)).mono ?_); rintro e v11 ⟨rfl, hb⟩)))
  have hK := ‹(∀ b o, b < v10.heap.size → _) ∧ Below v10.heap.size v10 _›
  clear l0c0 l0c1 l0c2 l0c3 l1c0 l1c1 l1c2 l1c3 zac0 zac1 zac2 zac3 x0c0 x0c1 x0c2 x0c3 x1c0 x1c1 x1c2 x1c3 zbc0 zbc1 zbc2 zbc3 ltL0 ltL1 ltZA ltX0 ltX1 ltZB
  have sz_v10_v11 := (hK.2).size
  replace L0 := L0.below hK.2
  replace L1 := L1.below hK.2
  replace ZA := ZA.below hK.2
  replace X0 := X0.below hK.2
  replace X1 := X1.below hK.2
  replace ZB := ZB.below hK.2
  replace oza := oza.keep fun b hm => (hK.2).block b (oza.lt b hm)
  replace oX0 := oX0.keep fun b hm => (hK.2).block b (oX0.lt b hm)
  replace oX1 := oX1.keep fun b hm => (hK.2).block b (oX1.lt b hm)
  replace ozb := ozb.keep fun b hm => (hK.2).block b (ozb.lt b hm)
  replace hB := Below.on hB hK.2 hB.size
  clear hK
  try simp only [ef0, Bool.not_true, Bool.and_self, Bool.or_self, BEq.rfl]
  have l0c0 := L0.c0
  have l0c1 := L0.c1
  have l0c2 := L0.c2
  have l0c3 := L0.c3
  have l1c0 := L1.c0
  have l1c1 := L1.c1
  have l1c2 := L1.c2
  have l1c3 := L1.c3
  have zac0 := ZA.c0
  have zac1 := ZA.c1
  have zac2 := ZA.c2
  have zac3 := ZA.c3
  have x0c0 := X0.c0
  have x0c1 := X0.c1
  have x0c2 := X0.c2
  have x0c3 := X0.c3
  have x1c0 := X1.c0
  have x1c1 := X1.c1
  have x1c2 := X1.c2
  have x1c3 := X1.c3
  have zbc0 := ZB.c0
  have zbc1 := ZB.c1
  have zbc2 := ZB.c2
  have zbc3 := ZB.c3
  have ltL0 := L0.lt
  have ltL1 := L1.lt
  have ltZA := ZA.lt
  have ltX0 := X0.lt
  have ltX1 := X1.lt
  have ltZB := ZB.lt
  go_wp2_with fail
  go_region_held3 (fun w' => (∀ b o, b < v11.heap.size → w'.cell? ⟨b, o, none⟩ = v11.cell? ⟨b, o, none⟩) ∧ Below v11.heap.size v11 w')
   (first | exact kp_drew v11 | exact kp_on ‹_› hb)
   (first
    | (go_at_call 7; have hK := ‹(∀ b o, b < v11.heap.size → _) ∧ Below v11.heap.size v11 _›; ((with_reducible refine (toAutomaton_i (hr1.below (Below.on hB hK.2 hB.size)) (hq1.below (Below.on hB hK.2 hB.size)) hsz1).mono ?_); rintro e wy1 ⟨sxy1, cxy1, uxy1, dxy1, rfl, hfy1, hb⟩))
    | (go_at_call 9; have hK := ‹(∀ b o, b < v11.heap.size → _) ∧ Below v11.heap.size v11 _›; ((with_reducible refine (eqAutomaton_i (((oX1.rds).two.1).below hK.2) (((oX1.rds).two.2).below hK.2) ((hfy1.rds).two.1) ((hfy1.rds).two.2)).mono ?_); rintro e v12 ⟨rfl, hb⟩)))
  have hK := ‹(∀ b o, b < v11.heap.size → _) ∧ Below v11.heap.size v11 _›
  clear l0c0 l0c1 l0c2 l0c3 l1c0 l1c1 l1c2 l1c3 zac0 zac1 zac2 zac3 x0c0 x0c1 x0c2 x0c3 x1c0 x1c1 x1c2 x1c3 zbc0 zbc1 zbc2 zbc3 ltL0 ltL1 ltZA ltX0 ltX1 ltZB
  have sz_v11_v12 := (hK.2).size
  replace L0 := L0.below hK.2
  replace L1 := L1.below hK.2
  replace ZA := ZA.below hK.2
  replace X0 := X0.below hK.2
  replace X1 := X1.below hK.2
  replace ZB := ZB.below hK.2
  replace oza := oza.keep fun b hm => (hK.2).block b (oza.lt b hm)
  replace oX0 := oX0.keep fun b hm => (hK.2).block b (oX0.lt b hm)
  replace oX1 := oX1.keep fun b hm => (hK.2).block b (oX1.lt b hm)
  replace ozb := ozb.keep fun b hm => (hK.2).block b (ozb.lt b hm)
  replace hB := Below.on hB hK.2 hB.size
  clear hK
  try simp only [ef1, Bool.not_true, Bool.and_self, Bool.or_self, BEq.rfl]
  have l0c0 := L0.c0
  have l0c1 := L0.c1
  have l0c2 := L0.c2
  have l0c3 := L0.c3
  have l1c0 := L1.c0
  have l1c1 := L1.c1
  have l1c2 := L1.c2
  have l1c3 := L1.c3
  have zac0 := ZA.c0
  have zac1 := ZA.c1
  have zac2 := ZA.c2
  have zac3 := ZA.c3
  have x0c0 := X0.c0
  have x0c1 := X0.c1
  have x0c2 := X0.c2
  have x0c3 := X0.c3
  have x1c0 := X1.c0
  have x1c1 := X1.c1
  have x1c2 := X1.c2
  have x1c3 := X1.c3
  have zbc0 := ZB.c0
  have zbc1 := ZB.c1
  have zbc2 := ZB.c2
  have zbc3 := ZB.c3
  have ltL0 := L0.lt
  have ltL1 := L1.lt
  have ltZA := ZA.lt
  have ltX0 := X0.lt
  have ltX1 := X1.lt
  have ltZB := ZB.lt
  go_wp2_with fail
  refine (markAutomaton_i (k := 1) oX0 nX0 (by have am0 := marks_cntA ac0 nx0; have am1 := marks_cntA ac1 nx1; omega)).mono ?_
  rintro e v13 ⟨rfl, om, hO⟩
  clear l0c0 l0c1 l0c2 l0c3 l1c0 l1c1 l1c2 l1c3 zac0 zac1 zac2 zac3 x0c0 x0c1 x0c2 x0c3 x1c0 x1c1 x1c2 x1c3 zbc0 zbc1 zbc2 zbc3 ltL0 ltL1 ltZA ltX0 ltX1 ltZB
  have sz_v12_v13 := (hO).size
  replace L0 := L0.keep ((hO).block _ L0.lt (fun hm => by have h1 := lX0 _ hm; have h2 := uX0 _ hm; omega))
  replace L1 := L1.keep ((hO).block _ L1.lt (fun hm => by have h1 := lX0 _ hm; have h2 := uX0 _ hm; omega))
  replace ZA := ZA.keep ((hO).block _ ZA.lt (fun hm => by have h1 := lX0 _ hm; have h2 := uX0 _ hm; omega))
  replace X0 := X0.keep ((hO).block _ X0.lt (fun hm => by have h1 := lX0 _ hm; have h2 := uX0 _ hm; omega))
  replace X1 := X1.keep ((hO).block _ X1.lt (fun hm => by have h1 := lX0 _ hm; have h2 := uX0 _ hm; omega))
  replace ZB := ZB.keep ((hO).block _ ZB.lt (fun hm => by have h1 := lX0 _ hm; have h2 := uX0 _ hm; omega))
  replace oza := oza.keep fun b hm => (hO).block b (oza.lt b hm) (fun hm' => by have h1 := lX0 _ hm'; have h2 := uX0 _ hm'; have h3 := lza _ hm; have h4 := uza _ hm; omega)
  replace oX1 := oX1.keep fun b hm => (hO).block b (oX1.lt b hm) (fun hm' => by have h1 := lX0 _ hm'; have h2 := uX0 _ hm'; have h3 := lX1 _ hm; have h4 := uX1 _ hm; omega)
  replace ozb := ozb.keep fun b hm => (hO).block b (ozb.lt b hm) (fun hm' => by have h1 := lX0 _ hm'; have h2 := uX0 _ hm'; have h3 := lzb _ hm; have h4 := uzb _ hm; omega)
  replace hB := hB.trans ((hO).below hB.size (fun b hm => by have h1 := lX0 _ hm; have h2 := hB.size; omega))
  replace oX0 := om
  clear om hO
  have l0c0 := L0.c0
  have l0c1 := L0.c1
  have l0c2 := L0.c2
  have l0c3 := L0.c3
  have l1c0 := L1.c0
  have l1c1 := L1.c1
  have l1c2 := L1.c2
  have l1c3 := L1.c3
  have zac0 := ZA.c0
  have zac1 := ZA.c1
  have zac2 := ZA.c2
  have zac3 := ZA.c3
  have x0c0 := X0.c0
  have x0c1 := X0.c1
  have x0c2 := X0.c2
  have x0c3 := X0.c3
  have x1c0 := X1.c0
  have x1c1 := X1.c1
  have x1c2 := X1.c2
  have x1c3 := X1.c3
  have zbc0 := ZB.c0
  have zbc1 := ZB.c1
  have zbc2 := ZB.c2
  have zbc3 := ZB.c3
  have ltL0 := L0.lt
  have ltL1 := L1.lt
  have ltZA := ZA.lt
  have ltX0 := X0.lt
  have ltX1 := X1.lt
  have ltZB := ZB.lt
  go_wp2_with fail
  refine (markAutomaton_i (k := 1 + ((bbD ac0).marks + (iiiD nx0).marks)) oX1 nX1 (by have am0 := marks_cntA ac0 nx0; have am1 := marks_cntA ac1 nx1; omega)).mono ?_
  rintro e v14 ⟨rfl, om, hO⟩
  clear l0c0 l0c1 l0c2 l0c3 l1c0 l1c1 l1c2 l1c3 zac0 zac1 zac2 zac3 x0c0 x0c1 x0c2 x0c3 x1c0 x1c1 x1c2 x1c3 zbc0 zbc1 zbc2 zbc3 ltL0 ltL1 ltZA ltX0 ltX1 ltZB
  have sz_v13_v14 := (hO).size
  replace L0 := L0.keep ((hO).block _ L0.lt (fun hm => by have h1 := lX1 _ hm; have h2 := uX1 _ hm; omega))
  replace L1 := L1.keep ((hO).block _ L1.lt (fun hm => by have h1 := lX1 _ hm; have h2 := uX1 _ hm; omega))
  replace ZA := ZA.keep ((hO).block _ ZA.lt (fun hm => by have h1 := lX1 _ hm; have h2 := uX1 _ hm; omega))
  replace X0 := X0.keep ((hO).block _ X0.lt (fun hm => by have h1 := lX1 _ hm; have h2 := uX1 _ hm; omega))
  replace X1 := X1.keep ((hO).block _ X1.lt (fun hm => by have h1 := lX1 _ hm; have h2 := uX1 _ hm; omega))
  replace ZB := ZB.keep ((hO).block _ ZB.lt (fun hm => by have h1 := lX1 _ hm; have h2 := uX1 _ hm; omega))
  replace oza := oza.keep fun b hm => (hO).block b (oza.lt b hm) (fun hm' => by have h1 := lX1 _ hm'; have h2 := uX1 _ hm'; have h3 := lza _ hm; have h4 := uza _ hm; omega)
  replace oX0 := oX0.keep fun b hm => (hO).block b (oX0.lt b hm) (fun hm' => by have h1 := lX1 _ hm'; have h2 := uX1 _ hm'; have h3 := lX0 _ hm; have h4 := uX0 _ hm; omega)
  replace ozb := ozb.keep fun b hm => (hO).block b (ozb.lt b hm) (fun hm' => by have h1 := lX1 _ hm'; have h2 := uX1 _ hm'; have h3 := lzb _ hm; have h4 := uzb _ hm; omega)
  replace hB := hB.trans ((hO).below hB.size (fun b hm => by have h1 := lX1 _ hm; have h2 := hB.size; omega))
  replace oX1 := om
  clear om hO
  have l0c0 := L0.c0
  have l0c1 := L0.c1
  have l0c2 := L0.c2
  have l0c3 := L0.c3
  have l1c0 := L1.c0
  have l1c1 := L1.c1
  have l1c2 := L1.c2
  have l1c3 := L1.c3
  have zac0 := ZA.c0
  have zac1 := ZA.c1
  have zac2 := ZA.c2
  have zac3 := ZA.c3
  have x0c0 := X0.c0
  have x0c1 := X0.c1
  have x0c2 := X0.c2
  have x0c3 := X0.c3
  have x1c0 := X1.c0
  have x1c1 := X1.c1
  have x1c2 := X1.c2
  have x1c3 := X1.c3
  have zbc0 := ZB.c0
  have zbc1 := ZB.c1
  have zbc2 := ZB.c2
  have zbc3 := ZB.c3
  have ltL0 := L0.lt
  have ltL1 := L1.lt
  have ltZA := ZA.lt
  have ltX0 := X0.lt
  have ltX1 := X1.lt
  have ltZB := ZB.lt
  go_wp2_with fail
  refine (eqAutomaton_i ((ozb.rds).two.1) ((ozb.rds).two.2) ((oza.rds).two.1) ((oza.rds).two.2)).mono ?_
  rintro e v15 ⟨rfl, hb⟩
  clear l0c0 l0c1 l0c2 l0c3 l1c0 l1c1 l1c2 l1c3 zac0 zac1 zac2 zac3 x0c0 x0c1 x0c2 x0c3 x1c0 x1c1 x1c2 x1c3 zbc0 zbc1 zbc2 zbc3 ltL0 ltL1 ltZA ltX0 ltX1 ltZB
  have sz_v14_v15 := (hb).size
  replace L0 := L0.below hb
  replace L1 := L1.below hb
  replace ZA := ZA.below hb
  replace X0 := X0.below hb
  replace X1 := X1.below hb
  replace ZB := ZB.below hb
  replace oza := oza.keep fun b hm => (hb).block b (oza.lt b hm)
  replace oX0 := oX0.keep fun b hm => (hb).block b (oX0.lt b hm)
  replace oX1 := oX1.keep fun b hm => (hb).block b (oX1.lt b hm)
  replace ozb := ozb.keep fun b hm => (hb).block b (ozb.lt b hm)
  replace hB := Below.on hB hb hB.size
  clear hb
  rw [efR]
  have l0c0 := L0.c0
  have l0c1 := L0.c1
  have l0c2 := L0.c2
  have l0c3 := L0.c3
  have l1c0 := L1.c0
  have l1c1 := L1.c1
  have l1c2 := L1.c2
  have l1c3 := L1.c3
  have zac0 := ZA.c0
  have zac1 := ZA.c1
  have zac2 := ZA.c2
  have zac3 := ZA.c3
  have x0c0 := X0.c0
  have x0c1 := X0.c1
  have x0c2 := X0.c2
  have x0c3 := X0.c3
  have x1c0 := X1.c0
  have x1c1 := X1.c1
  have x1c2 := X1.c2
  have x1c3 := X1.c3
  have zbc0 := ZB.c0
  have zbc1 := ZB.c1
  have zbc2 := ZB.c2
  have zbc3 := ZB.c3
  have ltL0 := L0.lt
  have ltL1 := L1.lt
  have ltZA := ZA.lt
  have ltX0 := X0.lt
  have ltX1 := X1.lt
  have ltZB := ZB.lt
  go_wp2_with fail
  refine (markAutomaton_i (k := 1) ozb nzb (by omega)).mono ?_
  rintro e v16 ⟨rfl, om, hO⟩
  clear l0c0 l0c1 l0c2 l0c3 l1c0 l1c1 l1c2 l1c3 zac0 zac1 zac2 zac3 x0c0 x0c1 x0c2 x0c3 x1c0 x1c1 x1c2 x1c3 zbc0 zbc1 zbc2 zbc3 ltL0 ltL1 ltZA ltX0 ltX1 ltZB
  have sz_v15_v16 := (hO).size
  replace L0 := L0.keep ((hO).block _ L0.lt (fun hm => by have h1 := lzb _ hm; have h2 := uzb _ hm; omega))
  replace L1 := L1.keep ((hO).block _ L1.lt (fun hm => by have h1 := lzb _ hm; have h2 := uzb _ hm; omega))
  replace ZA := ZA.keep ((hO).block _ ZA.lt (fun hm => by have h1 := lzb _ hm; have h2 := uzb _ hm; omega))
  replace X0 := X0.keep ((hO).block _ X0.lt (fun hm => by have h1 := lzb _ hm; have h2 := uzb _ hm; omega))
  replace X1 := X1.keep ((hO).block _ X1.lt (fun hm => by have h1 := lzb _ hm; have h2 := uzb _ hm; omega))
  replace ZB := ZB.keep ((hO).block _ ZB.lt (fun hm => by have h1 := lzb _ hm; have h2 := uzb _ hm; omega))
  replace oza := oza.keep fun b hm => (hO).block b (oza.lt b hm) (fun hm' => by have h1 := lzb _ hm'; have h2 := uzb _ hm'; have h3 := lza _ hm; have h4 := uza _ hm; omega)
  replace oX0 := oX0.keep fun b hm => (hO).block b (oX0.lt b hm) (fun hm' => by have h1 := lzb _ hm'; have h2 := uzb _ hm'; have h3 := lX0 _ hm; have h4 := uX0 _ hm; omega)
  replace oX1 := oX1.keep fun b hm => (hO).block b (oX1.lt b hm) (fun hm' => by have h1 := lzb _ hm'; have h2 := uzb _ hm'; have h3 := lX1 _ hm; have h4 := uX1 _ hm; omega)
  replace hB := hB.trans ((hO).below hB.size (fun b hm => by have h1 := lzb _ hm; have h2 := hB.size; omega))
  replace ozb := om
  clear om hO
  have l0c0 := L0.c0
  have l0c1 := L0.c1
  have l0c2 := L0.c2
  have l0c3 := L0.c3
  have l1c0 := L1.c0
  have l1c1 := L1.c1
  have l1c2 := L1.c2
  have l1c3 := L1.c3
  have zac0 := ZA.c0
  have zac1 := ZA.c1
  have zac2 := ZA.c2
  have zac3 := ZA.c3
  have x0c0 := X0.c0
  have x0c1 := X0.c1
  have x0c2 := X0.c2
  have x0c3 := X0.c3
  have x1c0 := X1.c0
  have x1c1 := X1.c1
  have x1c2 := X1.c2
  have x1c3 := X1.c3
  have zbc0 := ZB.c0
  have zbc1 := ZB.c1
  have zbc2 := ZB.c2
  have zbc3 := ZB.c3
  have ltL0 := L0.lt
  have ltL1 := L1.lt
  have ltZA := ZA.lt
  have ltX0 := X0.lt
  have ltX1 := X1.lt
  have ltZB := ZB.lt
  go_wp2_with fail
  refine (heldAutomaton_i (k := 1) ozb.rds (by omega)).mono ?_
  rintro e v17 ⟨rfl, hb⟩
  clear l0c0 l0c1 l0c2 l0c3 l1c0 l1c1 l1c2 l1c3 zac0 zac1 zac2 zac3 x0c0 x0c1 x0c2 x0c3 x1c0 x1c1 x1c2 x1c3 zbc0 zbc1 zbc2 zbc3 ltL0 ltL1 ltZA ltX0 ltX1 ltZB
  have sz_v16_v17 := (hb).size
  replace L0 := L0.below hb
  replace L1 := L1.below hb
  replace ZA := ZA.below hb
  replace X0 := X0.below hb
  replace X1 := X1.below hb
  replace ZB := ZB.below hb
  replace oza := oza.keep fun b hm => (hb).block b (oza.lt b hm)
  replace oX0 := oX0.keep fun b hm => (hb).block b (oX0.lt b hm)
  replace oX1 := oX1.keep fun b hm => (hb).block b (oX1.lt b hm)
  replace ozb := ozb.keep fun b hm => (hb).block b (ozb.lt b hm)
  replace hB := Below.on hB hb hB.size
  clear hb
  have l0c0 := L0.c0
  have l0c1 := L0.c1
  have l0c2 := L0.c2
  have l0c3 := L0.c3
  have l1c0 := L1.c0
  have l1c1 := L1.c1
  have l1c2 := L1.c2
  have l1c3 := L1.c3
  have zac0 := ZA.c0
  have zac1 := ZA.c1
  have zac2 := ZA.c2
  have zac3 := ZA.c3
  have x0c0 := X0.c0
  have x0c1 := X0.c1
  have x0c2 := X0.c2
  have x0c3 := X0.c3
  have x1c0 := X1.c0
  have x1c1 := X1.c1
  have x1c2 := X1.c2
  have x1c3 := X1.c3
  have zbc0 := ZB.c0
  have zbc1 := ZB.c1
  have zbc2 := ZB.c2
  have zbc3 := ZB.c3
  have ltL0 := L0.lt
  have ltL1 := L1.lt
  have ltZA := ZA.lt
  have ltX0 := X0.lt
  have ltX1 := X1.lt
  have ltZB := ZB.lt
  go_wp2_with fail
  clear l0c0 l0c1 l0c2 l0c3 l1c0 l1c1 l1c2 l1c3 zac0 zac1 zac2 zac3 x0c0 x0c1 x0c2 x0c3 x1c0 x1c1 x1c2 x1c3 zbc0 zbc1 zbc2 zbc3 ltL0 ltL1 ltZA ltX0 ltX1 ltZB
  have hB0 := hB
  refine region_rg 10 [8, 11] [0, 1, 2, 3, 4, 5, 6, 7, 9] (fun i iv vs wx => match i with
   | 0 => vs 0 = .agg #[.int .i64 t0, .int .i64 a0, .slice s0 ac0.length c0, .slice nu0 nx0.length d0]
   | 1 => ∃ sxzc0 cxzc0 uxzc0 dxzc0, vs 1 = .agg #[.int .i64 t0, .int .i64 a0, .slice sxzc0 ac0.length cxzc0, .slice uxzc0 nx0.length dxzc0] ∧ FreshIn (iv 1) wx [(bbD ac0), (iiiD nx0)] [.slice sxzc0 ac0.length cxzc0, .slice uxzc0 nx0.length dxzc0]
   | 2 => vs 2 = .agg #[.int .i64 t1, .int .i64 a1, .slice s1 ac1.length c1, .slice nu1 nx1.length d1]
   | 3 => ∃ sxzc1 cxzc1 uxzc1 dxzc1, vs 3 = .agg #[.int .i64 t1, .int .i64 a1, .slice sxzc1 ac1.length cxzc1, .slice uxzc1 nx1.length dxzc1] ∧ FreshIn (iv 3) wx [(bbD ac1), (iiiD nx1)] [.slice sxzc1 ac1.length cxzc1, .slice uxzc1 nx1.length dxzc1]
   | 4 => vs 4 = .int .i64 x2
   | 5 => ∃ zca zcc zcb zcd, vs 5 = .tuple #[.agg #[.int .i64 (mixT t0 a0 t1 a1 x2 ac0 ac1 nx0 nx1 t0), .int .i64 (mixT t0 a0 t1 a1 x2 ac0 ac1 nx0 nx1 a0), .slice zca (mixA t0 a0 t1 a1 x2 ac0 ac1 nx0 nx1).length zcc, .slice zcb (mixX t0 a0 t1 a1 x2 ac0 ac1 nx0 nx1).length zcd], .int .i64 (mixC t0 a0 t1 a1 x2 ac0 ac1 nx0 nx1)] ∧ FreshIn (iv 5) wx (autD (mixA t0 a0 t1 a1 x2 ac0 ac1 nx0 nx1) (mixX t0 a0 t1 a1 x2 ac0 ac1 nx0 nx1)) [.slice zca (mixA t0 a0 t1 a1 x2 ac0 ac1 nx0 nx1).length zcc, .slice zcb (mixX t0 a0 t1 a1 x2 ac0 ac1 nx0 nx1).length zcd]
   | 6 => vs 6 = vs 5 ∧ ∃ arr, vs 6 = .tuple arr ∧ 1 < arr.size
   | 7 => vs 7 = tupAt (vs 6) 0
   | 9 => vs 9 = .pointer (some ⟨(iv 9).1, 0, none⟩) ∧ (iv 9).2 = (iv 9).1 + 1 ∧ Blk wx (iv 9).1 31 [.int .i64 0, .int .i64 0, .slice none 0 0, .slice none 0 0]
   | _ => True) (fun vs wx => ∃ p zca zcc zcb zcd, vs 9 = .pointer (some ⟨p, 0, none⟩) ∧ vs 6 = .tuple #[.agg #[.int .i64 (mixT t0 a0 t1 a1 x2 ac0 ac1 nx0 nx1 t0), .int .i64 (mixT t0 a0 t1 a1 x2 ac0 ac1 nx0 nx1 a0), .slice zca (mixA t0 a0 t1 a1 x2 ac0 ac1 nx0 nx1).length zcc, .slice zcb (mixX t0 a0 t1 a1 x2 ac0 ac1 nx0 nx1).length zcd], .int .i64 (mixC t0 a0 t1 a1 x2 ac0 ac1 nx0 nx1)] ∧ v17.heap.size ≤ p ∧ Blk wx p 31 [.int .i64 (mixT t0 a0 t1 a1 x2 ac0 ac1 nx0 nx1 t0), .int .i64 (mixT t0 a0 t1 a1 x2 ac0 ac1 nx0 nx1 a0), .slice zca (mixA t0 a0 t1 a1 x2 ac0 ac1 nx0 nx1).length zcc, .slice zcb (mixX t0 a0 t1 a1 x2 ac0 ac1 nx0 nx1).length zcd] ∧ (∃ F, Ows wx (autD (mixA t0 a0 t1 a1 x2 ac0 ac1 nx0 nx1) (mixX t0 a0 t1 a1 x2 ac0 ac1 nx0 nx1)) [.slice zca (mixA t0 a0 t1 a1 x2 ac0 ac1 nx0 nx1).length zcc, .slice zcb (mixX t0 a0 t1 a1 x2 ac0 ac1 nx0 nx1).length zcd] F ∧ F.Nodup ∧ ∀ b ∈ F, v17.heap.size ≤ b ∧ b ≠ p ∧ b < wx.heap.size) ∧ Below v17.heap.size v17 wx)
   (by kernel_rfl) (by kernel_rfl) (by kernel_rfl) (by kernel_rfl) ?hJ ?hX ?hF ?hstep ?hstore ?hQ (by kernel_rfl)
  case hX =>
   intro i o t k hi ho hop iv vs w hj
   simp only [List.mem_cons, List.not_mem_nil, or_false] at hi
   rcases hi with rfl | rfl
   ·
    simp at ho
    subst ho
    simp at hop
    obtain ⟨rfl, rfl⟩ := hop
    have hj2 : vs 6 = vs 5 ∧ ∃ arr, vs 6 = .tuple arr ∧ 1 < arr.size := hj
    obtain ⟨-, arr, q1, q2⟩ := hj2
    exact ⟨arr, q1, by omega⟩
   ·
    simp at ho
    subst ho
    simp at hop
  case hF =>
   intro vs vs' wx h hf
   have e6 := h 6 (mem_of (by kernel_rfl))
   have e9 := h 9 (mem_of (by kernel_rfl))
   show ∃ p zca zcc zcb zcd, vs' 9 = .pointer (some ⟨p, 0, none⟩) ∧ vs' 6 = .tuple #[.agg #[.int .i64 (mixT t0 a0 t1 a1 x2 ac0 ac1 nx0 nx1 t0), .int .i64 (mixT t0 a0 t1 a1 x2 ac0 ac1 nx0 nx1 a0), .slice zca (mixA t0 a0 t1 a1 x2 ac0 ac1 nx0 nx1).length zcc, .slice zcb (mixX t0 a0 t1 a1 x2 ac0 ac1 nx0 nx1).length zcd], .int .i64 (mixC t0 a0 t1 a1 x2 ac0 ac1 nx0 nx1)] ∧ v17.heap.size ≤ p ∧ Blk wx p 31 [.int .i64 (mixT t0 a0 t1 a1 x2 ac0 ac1 nx0 nx1 t0), .int .i64 (mixT t0 a0 t1 a1 x2 ac0 ac1 nx0 nx1 a0), .slice zca (mixA t0 a0 t1 a1 x2 ac0 ac1 nx0 nx1).length zcc, .slice zcb (mixX t0 a0 t1 a1 x2 ac0 ac1 nx0 nx1).length zcd] ∧ (∃ F, Ows wx (autD (mixA t0 a0 t1 a1 x2 ac0 ac1 nx0 nx1) (mixX t0 a0 t1 a1 x2 ac0 ac1 nx0 nx1)) [.slice zca (mixA t0 a0 t1 a1 x2 ac0 ac1 nx0 nx1).length zcc, .slice zcb (mixX t0 a0 t1 a1 x2 ac0 ac1 nx0 nx1).length zcd] F ∧ F.Nodup ∧ ∀ b ∈ F, v17.heap.size ≤ b ∧ b ≠ p ∧ b < wx.heap.size) ∧ Below v17.heap.size v17 wx
   rw [← e6, ← e9]
   exact hf
  case hJ =>
   intro i hi iv iv' vs vs' wx wx' ha hv hb hj
   simp only [List.mem_cons, List.not_mem_nil, or_false] at hi
   rcases hi with rfl | rfl | rfl | rfl | rfl | rfl | rfl | rfl | rfl
   ·
    have e0 := hv.out 0 (mem_of (by kernel_rfl))
    have hj' : vs 0 = .agg #[.int .i64 t0, .int .i64 a0, .slice s0 ac0.length c0, .slice nu0 nx0.length d0] := hj
    show vs' 0 = .agg #[.int .i64 t0, .int .i64 a0, .slice s0 ac0.length c0, .slice nu0 nx0.length d0]
    rw [← e0]
    exact hj'
   ·
    have e1 := hv.out 1 (mem_of (by kernel_rfl))
    have g1 := ha.out 1 (mem_of (by kernel_rfl))
    obtain ⟨sxzc0, cxzc0, uxzc0, dxzc0, q1, q2⟩ := hj
    exact ⟨sxzc0, cxzc0, uxzc0, dxzc0, e1 ▸ q1, g1 ▸ q2.below hb⟩
   ·
    have e2 := hv.out 2 (mem_of (by kernel_rfl))
    have hj' : vs 2 = .agg #[.int .i64 t1, .int .i64 a1, .slice s1 ac1.length c1, .slice nu1 nx1.length d1] := hj
    show vs' 2 = .agg #[.int .i64 t1, .int .i64 a1, .slice s1 ac1.length c1, .slice nu1 nx1.length d1]
    rw [← e2]
    exact hj'
   ·
    have e3 := hv.out 3 (mem_of (by kernel_rfl))
    have g3 := ha.out 3 (mem_of (by kernel_rfl))
    obtain ⟨sxzc1, cxzc1, uxzc1, dxzc1, q1, q2⟩ := hj
    exact ⟨sxzc1, cxzc1, uxzc1, dxzc1, e3 ▸ q1, g3 ▸ q2.below hb⟩
   ·
    have e4 := hv.out 4 (mem_of (by kernel_rfl))
    have hj' : vs 4 = .int .i64 x2 := hj
    show vs' 4 = .int .i64 x2
    rw [← e4]
    exact hj'
   ·
    have e5 := hv.out 5 (mem_of (by kernel_rfl))
    have g5 := ha.out 5 (mem_of (by kernel_rfl))
    obtain ⟨zca, zcc, zcb, zcd, q1, q2⟩ := hj
    exact ⟨zca, zcc, zcb, zcd, e5 ▸ q1, g5 ▸ q2.below hb⟩
   ·
    have e6 := hv.out 6 (mem_of (by kernel_rfl))
    have e5 := hv.out 5 (mem_of (by kernel_rfl))
    have hj' : vs 6 = vs 5 ∧ ∃ arr, vs 6 = .tuple arr ∧ 1 < arr.size := hj
    show vs' 6 = vs' 5 ∧ ∃ arr, vs' 6 = .tuple arr ∧ 1 < arr.size
    rw [← e5, ← e6]
    exact hj'
   ·
    have e7 := hv.out 7 (mem_of (by kernel_rfl))
    have e6 := hv.out 6 (mem_of (by kernel_rfl))
    have hj' : vs 7 = tupAt (vs 6) 0 := hj
    show vs' 7 = tupAt (vs' 6) 0
    rw [← e6, ← e7]
    exact hj'
   ·
    have e9 := hv.out 9 (mem_of (by kernel_rfl))
    have g9 := ha.out 9 (mem_of (by kernel_rfl))
    obtain ⟨q1, q3, q2⟩ := hj
    show vs' 9 = .pointer (some ⟨(iv' 9).1, 0, none⟩) ∧ (iv' 9).2 = (iv' 9).1 + 1 ∧ Blk wx' (iv' 9).1 31 [.int .i64 0, .int .i64 0, .slice none 0 0, .slice none 0 0]
    rw [← e9, ← g9]
    exact ⟨q1, q3, q2.below hb⟩
  case hstep =>
   intro i hi o ho iv vs w1 hB hd hbd hsep K hK
   simp only [List.mem_cons, List.not_mem_nil, or_false] at hi
   have hBw := Below.on hB0 hB hB0.size
   have L0s := L0.below hB
   have l0s0 := L0s.c0
   have l0s1 := L0s.c1
   have l0s2 := L0s.c2
   have l0s3 := L0s.c3
   have L1s := L1.below hB
   have l1s0 := L1s.c0
   have l1s1 := L1s.c1
   have l1s2 := L1s.c2
   have l1s3 := L1s.c3
   have ZAs := ZA.below hB
   have zas0 := ZAs.c0
   have zas1 := ZAs.c1
   have zas2 := ZAs.c2
   have zas3 := ZAs.c3
   have X0s := X0.below hB
   have x0s0 := X0s.c0
   have x0s1 := X0s.c1
   have x0s2 := X0s.c2
   have x0s3 := X0s.c3
   have X1s := X1.below hB
   have x1s0 := X1s.c0
   have x1s1 := X1s.c1
   have x1s2 := X1s.c2
   have x1s3 := X1s.c3
   have ZBs := ZB.below hB
   have zbs0 := ZBs.c0
   have zbs1 := ZBs.c1
   have zbs2 := ZBs.c2
   have zbs3 := ZBs.c3
   rcases hi with rfl | rfl | rfl | rfl | rfl | rfl | rfl | rfl | rfl
   all_goals
    simp at ho
    subst ho
    simp only [putFrom, puts]
   ·
    go_wp2_with fail
    exact Onward.mk (hK (.agg #[.int .i64 t0, .int .i64 a0, .slice s0 ac0.length c0, .slice nu0 nx0.length d0]) _ _ (by simp only [putFrom, puts]) (Below.refl _ _) (fun iv' _ _ => rfl))
   ·
    have h0 : vs 0 = .agg #[.int .i64 t0, .int .i64 a0, .slice s0 ac0.length c0, .slice nu0 nx0.length d0] := hd.out 0 (mem_of (by kernel_rfl)) (by decide)
    go_wp2_with fail
    refine (toAutomaton_i (hr0.below hBw) (hq0.below hBw) hsz0).mono ?_
    rintro e w2 ⟨sxzc0, cxzc0, uxzc0, dxzc0, rfl, hf, hb⟩
    go_wp2_with fail
    exact Onward.mk (hK (.agg #[.int .i64 t0, .int .i64 a0, .slice sxzc0 ac0.length cxzc0, .slice uxzc0 nx0.length dxzc0]) _ _ (by simp only [putFrom, puts, h0]) hb (fun iv' _ hi => ⟨sxzc0, cxzc0, uxzc0, dxzc0, rfl, by rw [hi]; exact Freshs.stretch (hf)⟩))
   ·
    go_wp2_with fail
    exact Onward.mk (hK (.agg #[.int .i64 t1, .int .i64 a1, .slice s1 ac1.length c1, .slice nu1 nx1.length d1]) _ _ (by simp only [putFrom, puts]) (Below.refl _ _) (fun iv' _ _ => rfl))
   ·
    have h2 : vs 2 = .agg #[.int .i64 t1, .int .i64 a1, .slice s1 ac1.length c1, .slice nu1 nx1.length d1] := hd.out 2 (mem_of (by kernel_rfl)) (by decide)
    go_wp2_with fail
    refine (toAutomaton_i (hr1.below hBw) (hq1.below hBw) hsz1).mono ?_
    rintro e w2 ⟨sxzc1, cxzc1, uxzc1, dxzc1, rfl, hf, hb⟩
    go_wp2_with fail
    exact Onward.mk (hK (.agg #[.int .i64 t1, .int .i64 a1, .slice sxzc1 ac1.length cxzc1, .slice uxzc1 nx1.length dxzc1]) _ _ (by simp only [putFrom, puts, h2]) hb (fun iv' _ hi => ⟨sxzc1, cxzc1, uxzc1, dxzc1, rfl, by rw [hi]; exact Freshs.stretch (hf)⟩))
   ·
    go_wp2_with fail
    exact Onward.mk (hK (.int .i64 x2) _ _ (by simp only [putFrom, puts]) (Below.refl _ _) (fun iv' _ _ => rfl))
   ·
    obtain ⟨sxzc0, cxzc0, uxzc0, dxzc0, h1, f1⟩ := hd.out 1 (mem_of (by kernel_rfl)) (by decide)
    obtain ⟨sxzc1, cxzc1, uxzc1, dxzc1, h3, f3⟩ := hd.out 3 (mem_of (by kernel_rfl)) (by decide)
    have h4 : vs 4 = .int .i64 x2 := hd.out 4 (mem_of (by kernel_rfl)) (by decide)
    go_wp2_with fail
    refine (implMixAutomata_i (f1.rds).two.1 (f1.rds).two.2 (f3.rds).two.1 (f3.rds).two.2).mono ?_
    rintro e w2 ⟨zca, zcc, zcb, zcd, rfl, hf, hb⟩
    go_wp2_with fail
    exact Onward.mk (hK (.tuple #[.agg #[.int .i64 (mixT t0 a0 t1 a1 x2 ac0 ac1 nx0 nx1 t0), .int .i64 (mixT t0 a0 t1 a1 x2 ac0 ac1 nx0 nx1 a0), .slice zca (mixA t0 a0 t1 a1 x2 ac0 ac1 nx0 nx1).length zcc, .slice zcb (mixX t0 a0 t1 a1 x2 ac0 ac1 nx0 nx1).length zcd], .int .i64 (mixC t0 a0 t1 a1 x2 ac0 ac1 nx0 nx1)]) _ _ (by simp only [putFrom, puts, h1, h3, h4]) hb (fun iv' _ hi => ⟨zca, zcc, zcb, zcd, rfl, by rw [hi]; exact Freshs.stretch (hf)⟩))
   ·
    obtain ⟨zca, zcc, zcb, zcd, h5, f5⟩ := hd.out 5 (mem_of (by kernel_rfl)) (by decide)
    go_wp2_with fail
    exact Onward.mk (hK (.tuple #[.agg #[.int .i64 (mixT t0 a0 t1 a1 x2 ac0 ac1 nx0 nx1 t0), .int .i64 (mixT t0 a0 t1 a1 x2 ac0 ac1 nx0 nx1 a0), .slice zca (mixA t0 a0 t1 a1 x2 ac0 ac1 nx0 nx1).length zcc, .slice zcb (mixX t0 a0 t1 a1 x2 ac0 ac1 nx0 nx1).length zcd], .int .i64 (mixC t0 a0 t1 a1 x2 ac0 ac1 nx0 nx1)]) _ _ (by simp only [putFrom, puts, h5]) (Below.refl _ _) (fun iv' _ _ => by
     show (.tuple #[.agg #[.int .i64 (mixT t0 a0 t1 a1 x2 ac0 ac1 nx0 nx1 t0), .int .i64 (mixT t0 a0 t1 a1 x2 ac0 ac1 nx0 nx1 a0), .slice zca (mixA t0 a0 t1 a1 x2 ac0 ac1 nx0 nx1).length zcc, .slice zcb (mixX t0 a0 t1 a1 x2 ac0 ac1 nx0 nx1).length zcd], .int .i64 (mixC t0 a0 t1 a1 x2 ac0 ac1 nx0 nx1)] : Value) = vs 5 ∧ ∃ arr, (.tuple #[.agg #[.int .i64 (mixT t0 a0 t1 a1 x2 ac0 ac1 nx0 nx1 t0), .int .i64 (mixT t0 a0 t1 a1 x2 ac0 ac1 nx0 nx1 a0), .slice zca (mixA t0 a0 t1 a1 x2 ac0 ac1 nx0 nx1).length zcc, .slice zcb (mixX t0 a0 t1 a1 x2 ac0 ac1 nx0 nx1).length zcd], .int .i64 (mixC t0 a0 t1 a1 x2 ac0 ac1 nx0 nx1)] : Value) = .tuple arr ∧ 1 < arr.size
     exact ⟨by simp only [h5], _, rfl, by simp⟩))
   ·
    obtain ⟨zca, zcc, zcb, zcd, h5, f5⟩ := hd.out 5 (mem_of (by kernel_rfl)) (by decide)
    obtain ⟨h6, s6⟩ := hd.out 6 (mem_of (by kernel_rfl)) (by decide)
    go_wp2_with fail
    exact Onward.mk (hK (.agg #[.int .i64 (mixT t0 a0 t1 a1 x2 ac0 ac1 nx0 nx1 t0), .int .i64 (mixT t0 a0 t1 a1 x2 ac0 ac1 nx0 nx1 a0), .slice zca (mixA t0 a0 t1 a1 x2 ac0 ac1 nx0 nx1).length zcc, .slice zcb (mixX t0 a0 t1 a1 x2 ac0 ac1 nx0 nx1).length zcd]) _ _ (by simp only [putFrom, puts, h5, h6]) (Below.refl _ _) (fun iv' _ _ => by
     show (.agg #[.int .i64 (mixT t0 a0 t1 a1 x2 ac0 ac1 nx0 nx1 t0), .int .i64 (mixT t0 a0 t1 a1 x2 ac0 ac1 nx0 nx1 a0), .slice zca (mixA t0 a0 t1 a1 x2 ac0 ac1 nx0 nx1).length zcc, .slice zcb (mixX t0 a0 t1 a1 x2 ac0 ac1 nx0 nx1).length zcd] : Value) = tupAt (vs 6) 0
     simp only [h5, h6, tupAt]; rfl))
   ·
    go_wp2_with fail
    exact Onward.mk (hK (.pointer (some ⟨w1.heap.size, 0, none⟩)) _ _ (by simp only [putFrom, puts]) (Below.alloc (Below.refl _ _) (Nat.le_refl _) _) (fun iv' _ hi => by
     show Value.pointer (some ⟨w1.heap.size, 0, none⟩) = .pointer (some ⟨(iv' 9).1, 0, none⟩) ∧ (iv' 9).2 = (iv' 9).1 + 1 ∧ Blk _ (iv' 9).1 31 [.int .i64 0, .int .i64 0, .slice none 0 0, .slice none 0 0]
     rw [hi]
     exact ⟨rfl, by simp, Blk.new4 _ _ _ _ _ _⟩))
  case hstore =>
   intro o ho iv vs w1 hB hd hsep K hK
   simp at ho
   subst ho
   simp only [putFrom, puts]
   have h0 : vs 0 = .agg #[.int .i64 t0, .int .i64 a0, .slice s0 ac0.length c0, .slice nu0 nx0.length d0] := (hd.out 0 (mem_of (by kernel_rfl))).1
   obtain ⟨⟨sxzc0, cxzc0, uxzc0, dxzc0, h1, f1⟩, b1, -, u1⟩ := hd.out 1 (mem_of (by kernel_rfl))
   have h2 : vs 2 = .agg #[.int .i64 t1, .int .i64 a1, .slice s1 ac1.length c1, .slice nu1 nx1.length d1] := (hd.out 2 (mem_of (by kernel_rfl))).1
   obtain ⟨⟨sxzc1, cxzc1, uxzc1, dxzc1, h3, f3⟩, b3, -, u3⟩ := hd.out 3 (mem_of (by kernel_rfl))
   have h4 : vs 4 = .int .i64 x2 := (hd.out 4 (mem_of (by kernel_rfl))).1
   obtain ⟨⟨zca, zcc, zcb, zcd, h5, f5⟩, b5, -, u5⟩ := hd.out 5 (mem_of (by kernel_rfl))
   obtain ⟨⟨h6, s6⟩, b6, -, u6⟩ := hd.out 6 (mem_of (by kernel_rfl))
   have h7 : vs 7 = tupAt (vs 6) 0 := (hd.out 7 (mem_of (by kernel_rfl))).1
   obtain ⟨⟨h9, q9, f9⟩, b9, -, u9⟩ := hd.out 9 (mem_of (by kernel_rfl))
   have k7 : vs 7 = .agg #[.int .i64 (mixT t0 a0 t1 a1 x2 ac0 ac1 nx0 nx1 t0), .int .i64 (mixT t0 a0 t1 a1 x2 ac0 ac1 nx0 nx1 a0), .slice zca (mixA t0 a0 t1 a1 x2 ac0 ac1 nx0 nx1).length zcc, .slice zcb (mixX t0 a0 t1 a1 x2 ac0 ac1 nx0 nx1).length zcd] := by rw [h7, h6, h5]; rfl
   have K6 : Hid (vs 6 = .tuple #[.agg #[.int .i64 (mixT t0 a0 t1 a1 x2 ac0 ac1 nx0 nx1 t0), .int .i64 (mixT t0 a0 t1 a1 x2 ac0 ac1 nx0 nx1 a0), .slice zca (mixA t0 a0 t1 a1 x2 ac0 ac1 nx0 nx1).length zcc, .slice zcb (mixX t0 a0 t1 a1 x2 ac0 ac1 nx0 nx1).length zcd], .int .i64 (mixC t0 a0 t1 a1 x2 ac0 ac1 nx0 nx1)]) := by show _ = _; rw [h6, h5]
   obtain ⟨p, hp⟩ : ∃ p, (iv 9).1 = p := ⟨_, rfl⟩
   have hsep2 := hsep.out 5 (mem_of (by kernel_rfl)) 9 (mem_of (by kernel_rfl)) (by decide)
   unfold Sep at hsep2
   rw [hp] at h9 q9 f9 b9 hsep2
   obtain ⟨F, oF, nF, lF⟩ := f5
   have r0 := f9.c0
   have y0 := f9.frozen 0
   have r1 := f9.c1
   have y1 := f9.frozen 1
   have r2 := f9.c2
   have y2 := f9.frozen 2
   have r3 := f9.c3
   have y3 := f9.frozen 3
   clear h0 h1 h2 h3 h4 h5 h6 h7 s6
   go_wp2_with fail
   refine Onward.mk (hK _ _ (by simp only [putFrom, puts, h9, k7]) ⟨p, zca, zcc, zcb, zcd, h9, K6.out, b9, ((((f9.set 0 _).set 1 _).set 2 _).set 3 _), ⟨F, oF.keep fun b hm => ?_, nF, fun b hm => ?_⟩, ?_⟩)
   ·
    have h1 := lF b hm
    have h2 : b ≠ p := by omega
    repeat rw [Below.heap_setCell _ _ _ _ h2]
   ·
    have h1 := lF b hm
    have h2 := oF.lt b hm
    simp only [World.setCell, Array.size_modify]
    omega
   ·
    exact Below.setCell (Below.setCell (Below.setCell (Below.setCell (hB) (by simp; omega) _) (by simp; omega) _) (by simp; omega) _) (by simp; omega) _
  case hQ =>
   rintro zcs v18 hE ⟨zcp, zca, zcc, zcb, zcd, h8, h7, lpzc, ZC, ⟨Fzc, ozc, nzc, luzc⟩, hb⟩
   have h9 : zcs 8 = tupAt (zcs 6) 1 := hE 8 (mem_of (by kernel_rfl))
   have h10 : zcs 11 = zcs 8 := hE 11 (mem_of (by kernel_rfl))
   rw [h9, h7] at h10
   replace h10 : zcs 11 = .int .i64 (mixC t0 a0 t1 a1 x2 ac0 ac1 nx0 nx1) := h10
   simp only [putFrom, puts, h8, h10]
   clear h7 h8 h9 h10 hE
   have sz_v17_v18 := (hb).size
   replace L0 := L0.below hb
   replace L1 := L1.below hb
   replace ZA := ZA.below hb
   replace X0 := X0.below hb
   replace X1 := X1.below hb
   replace ZB := ZB.below hb
   replace oza := oza.keep fun b hm => (hb).block b (oza.lt b hm)
   replace oX0 := oX0.keep fun b hm => (hb).block b (oX0.lt b hm)
   replace oX1 := oX1.keep fun b hm => (hb).block b (oX1.lt b hm)
   replace ozb := ozb.keep fun b hm => (hb).block b (ozb.lt b hm)
   replace hB := Below.on hB hb hB.size
   clear hb
   have lzc : ∀ b ∈ Fzc, v17.heap.size ≤ b ∧ b ≠ zcp := fun b hm => ⟨(luzc b hm).1, (luzc b hm).2.1⟩
   have uzc : ∀ b ∈ Fzc, b < v18.heap.size := fun b hm => (luzc b hm).2.2
   clear luzc
   have lt_v18_L0 := L0.lt
   have lt_v18_L1 := L1.lt
   have lt_v18_ZA := ZA.lt
   have lt_v18_X0 := X0.lt
   have lt_v18_X1 := X1.lt
   have lt_v18_ZB := ZB.lt
   have lt_v18_ZC := ZC.lt
   have l0c0 := L0.c0
   have l0c1 := L0.c1
   have l0c2 := L0.c2
   have l0c3 := L0.c3
   have l1c0 := L1.c0
   have l1c1 := L1.c1
   have l1c2 := L1.c2
   have l1c3 := L1.c3
   have zac0 := ZA.c0
   have zac1 := ZA.c1
   have zac2 := ZA.c2
   have zac3 := ZA.c3
   have x0c0 := X0.c0
   have x0c1 := X0.c1
   have x0c2 := X0.c2
   have x0c3 := X0.c3
   have x1c0 := X1.c0
   have x1c1 := X1.c1
   have x1c2 := X1.c2
   have x1c3 := X1.c3
   have zbc0 := ZB.c0
   have zbc1 := ZB.c1
   have zbc2 := ZB.c2
   have zbc3 := ZB.c3
   have zcc0 := ZC.c0
   have zcc1 := ZC.c1
   have zcc2 := ZC.c2
   have zcc3 := ZC.c3
   have ltL0 := L0.lt
   have ltL1 := L1.lt
   have ltZA := ZA.lt
   have ltX0 := X0.lt
   have ltX1 := X1.lt
   have ltZB := ZB.lt
   have ltZC := ZC.lt
   go_wp2_with fail
   refine (eqAutomaton_i ((ozc.rds).two.1) ((ozc.rds).two.2) ((oza.rds).two.1) ((oza.rds).two.2)).mono ?_
   rintro e v19 ⟨rfl, hb⟩
   clear l0c0 l0c1 l0c2 l0c3 l1c0 l1c1 l1c2 l1c3 zac0 zac1 zac2 zac3 x0c0 x0c1 x0c2 x0c3 x1c0 x1c1 x1c2 x1c3 zbc0 zbc1 zbc2 zbc3 zcc0 zcc1 zcc2 zcc3 ltL0 ltL1 ltZA ltX0 ltX1 ltZB ltZC
   have sz_v18_v19 := (hb).size
   replace L0 := L0.below hb
   replace L1 := L1.below hb
   replace ZA := ZA.below hb
   replace X0 := X0.below hb
   replace X1 := X1.below hb
   replace ZB := ZB.below hb
   replace ZC := ZC.below hb
   replace oza := oza.keep fun b hm => (hb).block b (oza.lt b hm)
   replace oX0 := oX0.keep fun b hm => (hb).block b (oX0.lt b hm)
   replace oX1 := oX1.keep fun b hm => (hb).block b (oX1.lt b hm)
   replace ozb := ozb.keep fun b hm => (hb).block b (ozb.lt b hm)
   replace ozc := ozc.keep fun b hm => (hb).block b (ozc.lt b hm)
   replace hB := Below.on hB hb hB.size
   clear hb
   rw [efR]
   have l0c0 := L0.c0
   have l0c1 := L0.c1
   have l0c2 := L0.c2
   have l0c3 := L0.c3
   have l1c0 := L1.c0
   have l1c1 := L1.c1
   have l1c2 := L1.c2
   have l1c3 := L1.c3
   have zac0 := ZA.c0
   have zac1 := ZA.c1
   have zac2 := ZA.c2
   have zac3 := ZA.c3
   have x0c0 := X0.c0
   have x0c1 := X0.c1
   have x0c2 := X0.c2
   have x0c3 := X0.c3
   have x1c0 := X1.c0
   have x1c1 := X1.c1
   have x1c2 := X1.c2
   have x1c3 := X1.c3
   have zbc0 := ZB.c0
   have zbc1 := ZB.c1
   have zbc2 := ZB.c2
   have zbc3 := ZB.c3
   have zcc0 := ZC.c0
   have zcc1 := ZC.c1
   have zcc2 := ZC.c2
   have zcc3 := ZC.c3
   have ltL0 := L0.lt
   have ltL1 := L1.lt
   have ltZA := ZA.lt
   have ltX0 := X0.lt
   have ltX1 := X1.lt
   have ltZB := ZB.lt
   have ltZC := ZC.lt
   go_wp2_with fail
   refine (heldAutomaton_i (k := 1) ozb.rds (by omega)).mono ?_
   rintro e v20 ⟨rfl, hb⟩
   clear l0c0 l0c1 l0c2 l0c3 l1c0 l1c1 l1c2 l1c3 zac0 zac1 zac2 zac3 x0c0 x0c1 x0c2 x0c3 x1c0 x1c1 x1c2 x1c3 zbc0 zbc1 zbc2 zbc3 zcc0 zcc1 zcc2 zcc3 ltL0 ltL1 ltZA ltX0 ltX1 ltZB ltZC
   have sz_v19_v20 := (hb).size
   replace L0 := L0.below hb
   replace L1 := L1.below hb
   replace ZA := ZA.below hb
   replace X0 := X0.below hb
   replace X1 := X1.below hb
   replace ZB := ZB.below hb
   replace ZC := ZC.below hb
   replace oza := oza.keep fun b hm => (hb).block b (oza.lt b hm)
   replace oX0 := oX0.keep fun b hm => (hb).block b (oX0.lt b hm)
   replace oX1 := oX1.keep fun b hm => (hb).block b (oX1.lt b hm)
   replace ozb := ozb.keep fun b hm => (hb).block b (ozb.lt b hm)
   replace ozc := ozc.keep fun b hm => (hb).block b (ozc.lt b hm)
   replace hB := Below.on hB hb hB.size
   clear hb
   have l0c0 := L0.c0
   have l0c1 := L0.c1
   have l0c2 := L0.c2
   have l0c3 := L0.c3
   have l1c0 := L1.c0
   have l1c1 := L1.c1
   have l1c2 := L1.c2
   have l1c3 := L1.c3
   have zac0 := ZA.c0
   have zac1 := ZA.c1
   have zac2 := ZA.c2
   have zac3 := ZA.c3
   have x0c0 := X0.c0
   have x0c1 := X0.c1
   have x0c2 := X0.c2
   have x0c3 := X0.c3
   have x1c0 := X1.c0
   have x1c1 := X1.c1
   have x1c2 := X1.c2
   have x1c3 := X1.c3
   have zbc0 := ZB.c0
   have zbc1 := ZB.c1
   have zbc2 := ZB.c2
   have zbc3 := ZB.c3
   have zcc0 := ZC.c0
   have zcc1 := ZC.c1
   have zcc2 := ZC.c2
   have zcc3 := ZC.c3
   have ltL0 := L0.lt
   have ltL1 := L1.lt
   have ltZA := ZA.lt
   have ltX0 := X0.lt
   have ltX1 := X1.lt
   have ltZB := ZB.lt
   have ltZC := ZC.lt
   go_wp2_with fail
   go_ret
   exact ⟨rfl, hB⟩
set_option maxRecDepth 100000 in
theorem law_MixAutomata_of {H : Type} {enc : TypeId × Value → H} (W : World) (args : Array Value) (ds : List (DataW H)) (ps : List MemPlace) (hA : DataW.TrodAll enc Try.prog W 0 (fun _ => true) true Try.f3.params.toList args.toList ds ps)
  (hval : ∀ (j : Nat) t v, Try.f3.params[j]? = some t → args[j]? = some v → ∃ base, Value.okWide Try.prog W .any base t v) :
  Calls Try.prog 3 args W fun e W' => e = .returned (.bool true) ∧ Below W.heap.size W W' := by
 rw [Try.params3] at hA hval
 obtain ⟨v0, vs0, d0', ds0, p0, q0, hargs, rfl, rfl, h0, ra0⟩ := trodAll_cons hA
 obtain ⟨v1, vs1, d1', ds1, p1, q1, rfl, rfl, rfl, h1, ra1⟩ := trodAll_cons ra0
 obtain ⟨v2, vs2, d2', ds2, p2, q2, rfl, rfl, rfl, h2, ra2⟩ := trodAll_cons ra1
 obtain ⟨rfl, rfl, rfl⟩ := trodAll_nil ra2
 obtain rfl : args = #[v0, v1, v2] := Array.toList_inj.1 hargs
 obtain ⟨t0, a0, ac0, nx0, s0, c0, nu0, d0, rfl, hr0, hq0⟩ := open_lawsAutomaton h0
 obtain ⟨t1, a1, ac1, nx1, s1, c1, nu1, d1, rfl, hr1, hq1⟩ := open_lawsAutomaton h1
 obtain ⟨base2, hv2⟩ := hval 2 2 v2 rfl rfl
 obtain ⟨x2, rfl, rfl, rfl, -⟩ := open_int Try.underlying2 hv2 h2
 exact law_MixAutomata t0 a0 ac0 nx0 s0 c0 nu0 d0 t1 a1 ac1 nx1 s1 c1 nu1 d1 x2 W hr0 hq0 hr1 hq1
end Go.Proofs.Ytfhlddbngjlhbaa
