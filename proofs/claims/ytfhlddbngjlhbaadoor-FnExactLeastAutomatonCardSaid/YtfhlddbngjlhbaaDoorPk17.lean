/-
  Parts of a proof, joined: LeT, LawLeastAutomaton. No condition.
-/
import Derived.Test.YtfhlddbngjlhbaaDoorPk16
namespace Go.Proofs.YtfhlddbngjlhbaaDoor
set_option linter.unusedVariables false
set_option linter.unusedSimpArgs false
open Go.ChangeShapes Go.WideShapes Go.ChangeAt Go.RowKit Go.Deep
section
variable (t a : Int) (ac : List (List Bool)) (nx : List (List (List Int)))
noncomputable def leV (v : Int) : Int := if autB t a ac nx = true then v else 0
noncomputable def leA : List (List Bool) := if autB t a ac nx = true then lsA (lgN ac nx (atomsN t).toNat a.toNat 0) (atomsN t).toNat a.toNat else []
noncomputable def leX : List (List (List Int)) := if autB t a ac nx = true then lsX (lgN ac nx (atomsN t).toNat a.toNat 0) (atomsN t).toNat a.toNat else []
noncomputable def leC : Int := if autB t a ac nx = true then 0 else 1
end
section
variable {t a : Int} {ac : List (List Bool)} {nx : List (List (List Int))}
theorem le_bad (h : autB t a ac nx = false) : (∀ v, leV t a ac nx v = 0) ∧ leA t a ac nx = [] ∧ leX t a ac nx = [] ∧ leC t a ac nx = 1 := by
 have hn : ¬ autB t a ac nx = true := by rw [h]; decide
 exact ⟨fun v => if_neg hn, if_neg hn, if_neg hn, if_neg hn⟩
theorem le_good (h : autB t a ac nx = true) : (∀ v, leV t a ac nx v = v) ∧ leA t a ac nx = lsA (lgN ac nx (atomsN t).toNat a.toNat 0) (atomsN t).toNat a.toNat ∧ leX t a ac nx = lsX (lgN ac nx (atomsN t).toNat a.toNat 0) (atomsN t).toNat a.toNat ∧ leC t a ac nx = 0 :=
 ⟨fun v => if_pos h, if_pos h, if_pos h, if_pos h⟩
end
theorem le_marks (t a : Int) (ac : List (List Bool)) (nx : List (List (List Int))) : (bbD (leA t a ac nx)).marks + (iiiD (leX t a ac nx)).marks ≤ 2400 := by
 cases hb : autB t a ac nx
 ·
  obtain ⟨-, e2, e3, -⟩ := le_bad hb
  rw [e2, e3]
  simp [bbD, iiiD, nestD, D.marks, D.marksL]
 ·
  obtain ⟨-, e2, e3, -⟩ := le_good hb
  have hok := autB_true.1 hb
  obtain ⟨d1, d2, d3, d4⟩ := hok.dims
  have h60 := hok.hi
  have hl : (lsF (lgN ac nx (atomsN t).toNat a.toNat 0) (atomsN t).toNat a.toNat).length ≤ ac.length := lsL_len hok 60
  rw [e2, e3]
  have h1 : (bbD (lsA (lgN ac nx (atomsN t).toNat a.toNat 0) (atomsN t).toNat a.toNat)).marks ≤ 60 * 8 := nest_marks_le (fun x hx => by
   unfold lsA at hx
   obtain ⟨l, -, rfl⟩ := List.mem_map.1 hx
   rw [bools_marks]
   simp only [accLs, List.length_map, List.length_range]
   omega) (by unfold lsA; rw [List.length_map]; omega)
  have h2 : (iiiD (lsX (lgN ac nx (atomsN t).toNat a.toNat 0) (atomsN t).toNat a.toNat)).marks ≤ 60 * (8 * (4 * 1)) := nest_marks_le (fun x hx => by
   unfold lsX at hx
   obtain ⟨l, -, rfl⟩ := List.mem_map.1 hx
   refine nest_marks_le (fun row hrow => ?_) (by rw [rowsR_len]; omega)
   unfold rowsR at hrow
   obtain ⟨m, -, rfl⟩ := List.mem_map.1 hrow
   exact nest_marks_le (fun z _ => by simp [D.marks]) (by rw [rowR_len]; omega)) (by unfold lsX; rw [List.length_map]; omega)
  omega
theorem accL_congr {α : Type} {f g : α → Nat} (h : ∀ x, f x = g x) : ∀ xs : List α, accL f xs = accL g xs
 | [] => rfl
 | x :: r => by simp only [accL]; rw [h x, accL_congr h r]
theorem accL_mono {α : Type} {f g : α → Nat} (h : ∀ x, f x ≤ g x) : ∀ xs : List α, accL f xs ≤ accL g xs
 | [] => Nat.le_refl _
 | x :: r => by have := h x; have := accL_mono h r; simp only [accL]; omega
theorem ints_marks' : ∀ zs : List Int, (intsD zs).marks = zs.length := by
 intro zs
 show D.marksL (zs.map D.int) = zs.length
 induction zs with
 | nil => rfl
 | cons z r ih => simp only [List.map_cons, D.marksL, D.marks, ih, List.length_cons]; omega
theorem marks_cntA (ac : List (List Bool)) (nx : List (List (List Int))) : (bbD ac).marks + (iiiD nx).marks ≤ cntA ac nx := by
 have h1 : (bbD ac).marks = accL List.length ac := by
  show D.marksL (ac.map boolsD) = _
  rw [marksL_map]
  exact accL_congr bools_marks ac
 have h2 : (iiiD nx).marks ≤ accL cntII nx := by
  show D.marksL (nx.map iiD) ≤ _
  rw [marksL_map]
  refine accL_mono (fun x => ?_) nx
  show D.marksL (x.map intsD) ≤ _
  rw [marksL_map, accL_congr ints_marks' x]
  unfold cntII
  omega
 unfold cntA
 omega
set_option maxRecDepth 100000 in
set_option maxHeartbeats 8000000 in
theorem specLeastAutomaton_i {t a : Int} {ac : List (List Bool)} {nx : List (List (List Int))} {s u : Option Addr} {c d : Nat} {w : World} (hr : Rd w (bbD ac) (.slice s ac.length c)) (hq : Rd w (iiiD nx) (.slice u nx.length d)) :
  Calls Tryd.prog 5 #[.agg #[.int .i64 t, .int .i64 a, .slice s ac.length c, .slice u nx.length d]] w fun e w' => ∃ s1 c1 s2 c2, e = .returned (.tuple #[.agg #[.int .i64 (leV t a ac nx t), .int .i64 (leV t a ac nx a), .slice s1 (leA t a ac nx).length c1, .slice s2 (leX t a ac nx).length c2], .int .i64 (leC t a ac nx)]) ∧
   Freshs w w' (autD (leA t a ac nx) (leX t a ac nx)) [.slice s1 (leA t a ac nx).length c1, .slice s2 (leX t a ac nx).length c2] ∧ Below w.heap.size w w' := by
 go_enter Tryd.func5, Tryd.ntmps5
 go_upto_region 1 with fail
 obtain ⟨w1, e1, X, hb1, hz1⟩ := box4 w 31 (.int .i64 t) (.int .i64 a) (.slice s ac.length c) (.slice u nx.length d)
 rw [e1]
 obtain ⟨w2, e2, R, hb2, hz2⟩ := box4 w1 31 (.int .i64 0) (.int .i64 0) (.slice none 0 0) (.slice none 0 0)
 rw [e2]
 rw [hz1] at R
 have hB : Below w.heap.size w w2 := hb1.trans (hb2.mono (by omega))
 replace X := X.below hb2
 have hA := X.autAt' (hr.below hB) (hq.below hB)
 have hz : w.heap.size + 2 ≤ w2.heap.size := by omega
 clear e1 e2 hb1 hb2 hz1 hz2 hr hq X
 obtain ⟨g0, g1, g2, g3, -, -⟩ := id hA
 go_wp2_with fail
 refine (l02Ok_i hA).mono ?_
 rintro f w4 ⟨rfl, hb⟩
 clear g0 g1 g2 g3
 replace hB := Below.on hB hb hB.size
 replace R := R.below hb
 replace hA := hA.below hb
 have hz4 := hb.size
 clear hb
 obtain ⟨v1, h1⟩ : ∃ v, autB t a ac nx = v := ⟨_, rfl⟩
 rw [h1]
 cases v1
 ·
  have HG1 := Lib.hid (le_bad h1)
  clear h1 hA
  obtain ⟨r0, r1, r2, r3, z0, z1, z2, z3, ltR⟩ := R.all4
  go_wp2_with fail
  obtain ⟨w5, e5, T2, hs5⟩ := set4 R (.int .i64 0) (.int .i64 0) (.slice none 0 0) (.slice none 0 0)
  rw [e5]
  clear e5 r0 r1 r2 r3 z0 z1 z2 z3 ltR
  obtain ⟨t0, t1, t2, t3, -, -, -, -, -⟩ := T2.all4
  have hzB5 := hB.size
  have hB5 := hB.trans (hs5.below (B := w.heap.size) (by omega) (fun y hy => by omega))
  refine bodyPost_ret (v := .tuple #[.agg #[.int .i64 0, .int .i64 0, .slice none 0 0, .slice none 0 0], .int .i64 1]) (by simp [results, Tryd.results5, go_sem, t0, t1, t2, t3]) rfl ?_
  rw [HG1.out.1, HG1.out.1, HG1.out.2.1, HG1.out.2.2.1, HG1.out.2.2.2]
  exact ⟨none, 0, none, 0, rfl, nil_au, hB5⟩
 have H1 := Lib.hid h1
 clear h1
 obtain ⟨g0, g1, g2, g3, -, -⟩ := id hA
 go_wp2_with fail
 clear g0 g1 g2 g3
 refine (l02Least_i hA (autB_true.1 H1.out)).mono ?_
 rintro f w7 ⟨s1, c1, s2, c2, rfl, hf, hb⟩
 have hB7 := Below.on hB hb hB.size
 have R7 := R.below hb
 have Hf := Lib.hid hf
 have hz7 := hb.size
 obtain ⟨e1, e2, e3, e4⟩ := le_good H1.out
 have E0 := Lib.hid (e1 t)
 have E1 := Lib.hid (e1 a)
 have E2 := Lib.hid e2
 have E3 := Lib.hid e3
 have E4 := Lib.hid e4
 clear hb hf hA hB R e1 e2 e3 e4
 generalize lsA (lgN ac nx (atomsN t).toNat a.toNat 0) (atomsN t).toNat a.toNat = RA at *
 generalize lsX (lgN ac nx (atomsN t).toNat a.toNat 0) (atomsN t).toNat a.toNat = RX at *
 obtain ⟨r0, r1, r2, r3, z0, z1, z2, z3, ltR⟩ := R7.all4
 go_wp2_with fail
 obtain ⟨w8, e8, T2', hs5⟩ := set4 R7 (.int .i64 t) (.int .i64 a) (.slice s1 RA.length c1) (.slice s2 RX.length c2)
 rw [e8]
 clear e8 r0 r1 r2 r3 z0 z1 z2 z3 ltR
 obtain ⟨t0, t1, t2, t3, -, -, -, -, -⟩ := T2'.all4
 have hzB5 := hB7.size
 refine bodyPost_ret (v := .tuple #[.agg #[.int .i64 t, .int .i64 a, .slice s1 RA.length c1, .slice s2 RX.length c2], .int .i64 0]) (by simp [results, Tryd.results5, go_sem, t0, t1, t2, t3]) rfl ?_
 rw [E0.out, E1.out, E2.out, E3.out, E4.out]
 exact ⟨s1, c1, s2, c2, rfl, (Hf.out.keep fun b hb1 hb2 => hs5.block b hb2 (fun hy => by omega)).from (w0 := w) (by omega), hB7.trans (hs5.below (B := w.heap.size) (by omega) (fun y hy => by omega))⟩
set_option maxRecDepth 100000 in
set_option maxHeartbeats 8000000 in
theorem implLeastAutomaton_i {t a : Int} {ac : List (List Bool)} {nx : List (List (List Int))} {s u : Option Addr} {c d : Nat} {w : World} (hr : Rd w (bbD ac) (.slice s ac.length c)) (hq : Rd w (iiiD nx) (.slice u nx.length d)) :
  Calls Tryd.prog 7 #[.agg #[.int .i64 t, .int .i64 a, .slice s ac.length c, .slice u nx.length d]] w fun e w' => ∃ s1 c1 s2 c2, e = .returned (.tuple #[.agg #[.int .i64 (leV t a ac nx t), .int .i64 (leV t a ac nx a), .slice s1 (leA t a ac nx).length c1, .slice s2 (leX t a ac nx).length c2], .int .i64 (leC t a ac nx)]) ∧
   Freshs w w' (autD (leA t a ac nx) (leX t a ac nx)) [.slice s1 (leA t a ac nx).length c1, .slice s2 (leX t a ac nx).length c2] ∧ Below w.heap.size w w' := by
 go_enter Tryd.func7, Tryd.ntmps7
 go_upto_region 1 with fail
 obtain ⟨w1, e1, X, hb1, hz1⟩ := box4 w 31 (.int .i64 t) (.int .i64 a) (.slice s ac.length c) (.slice u nx.length d)
 rw [e1]
 obtain ⟨w2, e2, R, hb2, hz2⟩ := box4 w1 31 (.int .i64 0) (.int .i64 0) (.slice none 0 0) (.slice none 0 0)
 rw [e2]
 rw [hz1] at R
 have hB : Below w.heap.size w w2 := hb1.trans (hb2.mono (by omega))
 replace X := X.below hb2
 have hA := X.autAt' (hr.below hB) (hq.below hB)
 have hz : w.heap.size + 2 ≤ w2.heap.size := by omega
 clear e1 e2 hb1 hb2 hz1 hz2 hr hq X
 obtain ⟨g0, g1, g2, g3, -, -⟩ := id hA
 go_wp2_with fail
 refine (implValidAutomaton_i hA.2.2.2.2.1 hA.2.2.2.2.2).mono ?_
 rintro f w4 ⟨rfl, hb⟩
 clear g0 g1 g2 g3
 replace hB := Below.on hB hb hB.size
 replace R := R.below hb
 replace hA := hA.below hb
 have hz4 := hb.size
 clear hb
 obtain ⟨v1, h1⟩ : ∃ v, autB t a ac nx = v := ⟨_, rfl⟩
 rw [h1]
 cases v1
 ·
  have HG1 := Lib.hid (le_bad h1)
  clear h1 hA
  obtain ⟨r0, r1, r2, r3, z0, z1, z2, z3, ltR⟩ := R.all4
  go_wp2_with fail
  obtain ⟨w5, e5, T2, hs5⟩ := set4 R (.int .i64 0) (.int .i64 0) (.slice none 0 0) (.slice none 0 0)
  rw [e5]
  clear e5 r0 r1 r2 r3 z0 z1 z2 z3 ltR
  obtain ⟨t0, t1, t2, t3, -, -, -, -, -⟩ := T2.all4
  have hzB5 := hB.size
  have hB5 := hB.trans (hs5.below (B := w.heap.size) (by omega) (fun y hy => by omega))
  refine bodyPost_ret (v := .tuple #[.agg #[.int .i64 0, .int .i64 0, .slice none 0 0, .slice none 0 0], .int .i64 1]) (by simp [results, Tryd.results7, go_sem, t0, t1, t2, t3]) rfl ?_
  rw [HG1.out.1, HG1.out.1, HG1.out.2.1, HG1.out.2.2.1, HG1.out.2.2.2]
  exact ⟨none, 0, none, 0, rfl, nil_au, hB5⟩
 have H1 := Lib.hid h1
 clear h1
 obtain ⟨g0, g1, g2, g3, -, -⟩ := id hA
 go_wp2_with fail
 clear g0 g1 g2 g3
 refine (least_i hA.2.2.2.2.1 hA.2.2.2.2.2 (autB_true.1 H1.out)).mono ?_
 rintro f w7 ⟨s1, c1, s2, c2, rfl, hf, hb⟩
 have hB7 := Below.on hB hb hB.size
 have R7 := R.below hb
 have Hf := Lib.hid hf
 have hz7 := hb.size
 obtain ⟨e1, e2, e3, e4⟩ := le_good H1.out
 have E0 := Lib.hid (e1 t)
 have E1 := Lib.hid (e1 a)
 have E2 := Lib.hid e2
 have E3 := Lib.hid e3
 have E4 := Lib.hid e4
 clear hb hf hA hB R e1 e2 e3 e4
 generalize lsA (lgN ac nx (atomsN t).toNat a.toNat 0) (atomsN t).toNat a.toNat = RA at *
 generalize lsX (lgN ac nx (atomsN t).toNat a.toNat 0) (atomsN t).toNat a.toNat = RX at *
 obtain ⟨r0, r1, r2, r3, z0, z1, z2, z3, ltR⟩ := R7.all4
 go_wp2_with fail
 obtain ⟨w8, e8, T2', hs5⟩ := set4 R7 (.int .i64 t) (.int .i64 a) (.slice s1 RA.length c1) (.slice s2 RX.length c2)
 rw [e8]
 clear e8 r0 r1 r2 r3 z0 z1 z2 z3 ltR
 obtain ⟨t0, t1, t2, t3, -, -, -, -, -⟩ := T2'.all4
 have hzB5 := hB7.size
 refine bodyPost_ret (v := .tuple #[.agg #[.int .i64 t, .int .i64 a, .slice s1 RA.length c1, .slice s2 RX.length c2], .int .i64 0]) (by simp [results, Tryd.results7, go_sem, t0, t1, t2, t3]) rfl ?_
 rw [E0.out, E1.out, E2.out, E3.out, E4.out]
 exact ⟨s1, c1, s2, c2, rfl, (Hf.out.keep fun b hb1 hb2 => hs5.block b hb2 (fun hy => by omega)).from (w0 := w) (by omega), hB7.trans (hs5.below (B := w.heap.size) (by omega) (fun y hy => by omega))⟩
end Go.Proofs.YtfhlddbngjlhbaaDoor

namespace Go.Proofs.YtfhlddbngjlhbaaDoor
set_option linter.unusedVariables false
set_option linter.unusedSimpArgs false
open Go.ChangeShapes Go.WideShapes Go.ChangeAt Go.RowKit
set_option maxRecDepth 100000 in
set_option maxHeartbeats 16000000 in
theorem law_LeastAutomaton (t0 a0 : Int) (ac0 : List (List Bool)) (nx0 : List (List (List Int))) (s0 : Option Addr) (c0 : Nat) (nu0 : Option Addr) (d0 : Nat) (w : World) (hr0 : Rd w (bbD ac0) (.slice s0 ac0.length c0)) (hq0 : Rd w (iiiD nx0) (.slice nu0 nx0.length d0)) :
  Calls Tryd.prog 3 #[.agg #[.int .i64 t0, .int .i64 a0, .slice s0 ac0.length c0, .slice nu0 nx0.length d0]] w fun e w' => e = .returned (.bool true) ∧ Below w.heap.size w w' := by
 have ef0 : eqb ac0 ac0 = true ∧ eqb nx0 nx0 = true := by simp [eqb_true]
 have efR : (((leV t0 a0 ac0 nx0 t0) == (leV t0 a0 ac0 nx0 t0) && (leV t0 a0 ac0 nx0 a0) == (leV t0 a0 ac0 nx0 a0)) && (eqb (leA t0 a0 ac0 nx0) (leA t0 a0 ac0 nx0) && eqb (leX t0 a0 ac0 nx0) (leX t0 a0 ac0 nx0))) = true := by simp [eqb_true]
 go_enter Tryd.func3, Tryd.ntmps3
 go_wp2_with fail
 have L0 := Blk.new4 w 27 (.int .i64 t0) (.int .i64 a0) (.slice s0 ac0.length c0) (.slice nu0 nx0.length d0)
 have hB : Below w.heap.size w (w.alloc (.cells #[.int .i64 t0, .int .i64 a0, .slice s0 ac0.length c0, .slice nu0 nx0.length d0] 27)) := by (repeat' first | exact Below.refl _ _ | assumption | apply Below.alloc | apply Below.drew | apply Below.setCell | omega | (simp; done) | (simp; omega))
 generalize (w.alloc (.cells #[.int .i64 t0, .int .i64 a0, .slice s0 ac0.length c0, .slice nu0 nx0.length d0] 27)) = v0 at L0 hB ⊢
 have lt_v0_L0 := L0.lt
 have szB := hB.size
 have l0c0 := L0.c0
 have l0c1 := L0.c1
 have l0c2 := L0.c2
 have l0c3 := L0.c3
 have ltL0 := L0.lt
 go_wp2_with fail
 refine (szAutomaton_i (hr0.below hB) (hq0.below hB) (by omega) (by omega)).mono ?_
 rintro e v1 ⟨⟨r1, rfl, ra1, rb1, rc1⟩, hb⟩
 clear l0c0 l0c1 l0c2 l0c3 ltL0
 have sz_v0_v1 := (hb).size
 replace L0 := L0.below hb
 replace hB := Below.on hB hb hB.size
 clear hb
 have l0c0 := L0.c0
 have l0c1 := L0.c1
 have l0c2 := L0.c2
 have l0c3 := L0.c3
 have ltL0 := L0.lt
 by_cases hneg1 : r1 < 0
 ·
  go_wp2_with fail
  go_ret
  exact ⟨rfl, hB⟩
 have hd1 : decide (r1 < 0) = false := by simpa using hneg1
 have rd1 := rc1 (by omega)
 clear rc1
 have hsz0 : cntA ac0 nx0 ≤ 1048576 := by omega
 have bX := le_marks t0 a0 ac0 nx0
 clear l0c0 l0c1 l0c2 l0c3 ltL0
 have l0c0 := L0.c0
 have l0c1 := L0.c1
 have l0c2 := L0.c2
 have l0c3 := L0.c3
 have ltL0 := L0.lt
 go_wp2_with fail
 go_wp2_with fail
 refine (toAutomaton_i (hr0.below hB) (hq0.below hB) hsz0).mono ?_
 rintro e v2 ⟨sxza0, cxza0, uxza0, dxza0, rfl, hfTza0, hb⟩
 clear l0c0 l0c1 l0c2 l0c3 ltL0
 have sz_v1_v2 := (hb).size
 replace L0 := L0.below hb
 replace hB := Below.on hB hb hB.size
 clear hb
 have l0c0 := L0.c0
 have l0c1 := L0.c1
 have l0c2 := L0.c2
 have l0c3 := L0.c3
 have ltL0 := L0.lt
 go_wp2_with fail
 refine (specLeastAutomaton_i (hfTza0.rds).two.1 (hfTza0.rds).two.2).mono ?_
 rintro e v3 ⟨zaa, zac, zab, zad, rfl, ⟨Fza, oza, nza, lza⟩, hb⟩
 have uza := oza.lt
 clear l0c0 l0c1 l0c2 l0c3 ltL0
 have sz_v2_v3 := (hb).size
 replace L0 := L0.below hb
 replace hB := Below.on hB hb hB.size
 clear hb
 have l0c0 := L0.c0
 have l0c1 := L0.c1
 have l0c2 := L0.c2
 have l0c3 := L0.c3
 have ltL0 := L0.lt
 go_wp2_with fail
 have ZA := Blk.new4 v3 31 (.int .i64 (leV t0 a0 ac0 nx0 t0)) (.int .i64 (leV t0 a0 ac0 nx0 a0)) (.slice zaa (leA t0 a0 ac0 nx0).length zac) (.slice zab (leX t0 a0 ac0 nx0).length zad)
 clear l0c0 l0c1 l0c2 l0c3 ltL0
 replace L0 := L0.alloc (.cells #[.int .i64 (leV t0 a0 ac0 nx0 t0), .int .i64 (leV t0 a0 ac0 nx0 a0), .slice zaa (leA t0 a0 ac0 nx0).length zac, .slice zab (leX t0 a0 ac0 nx0).length zad] 31)
 replace oza := oza.keep (w' := v3.alloc (.cells #[.int .i64 (leV t0 a0 ac0 nx0 t0), .int .i64 (leV t0 a0 ac0 nx0 a0), .slice zaa (leA t0 a0 ac0 nx0).length zac, .slice zab (leX t0 a0 ac0 nx0).length zad] 31)) fun b hm => Below.heap_alloc v3 _ b (oza.lt b hm)
 replace hB := hB.alloc hB.size (.cells #[.int .i64 (leV t0 a0 ac0 nx0 t0), .int .i64 (leV t0 a0 ac0 nx0 a0), .slice zaa (leA t0 a0 ac0 nx0).length zac, .slice zab (leX t0 a0 ac0 nx0).length zad] 31)
 have szA : (v3.alloc (.cells #[.int .i64 (leV t0 a0 ac0 nx0 t0), .int .i64 (leV t0 a0 ac0 nx0 a0), .slice zaa (leA t0 a0 ac0 nx0).length zac, .slice zab (leX t0 a0 ac0 nx0).length zad] 31)).heap.size = v3.heap.size + 1 := by simp
 generalize v3.alloc (.cells #[.int .i64 (leV t0 a0 ac0 nx0 t0), .int .i64 (leV t0 a0 ac0 nx0 a0), .slice zaa (leA t0 a0 ac0 nx0).length zac, .slice zab (leX t0 a0 ac0 nx0).length zad] 31) = v4 at L0 ZA oza hB szA ⊢
 have sz_v4 := szA
 clear szA
 have lt_v4_L0 := L0.lt
 have lt_v4_ZA := ZA.lt
 have l0c0 := L0.c0
 have l0c1 := L0.c1
 have l0c2 := L0.c2
 have l0c3 := L0.c3
 have zac0 := ZA.c0
 have zac1 := ZA.c1
 have zac2 := ZA.c2
 have zac3 := ZA.c3
 have ltL0 := L0.lt
 have ltZA := ZA.lt
 go_wp2_with fail
 refine (toAutomaton_i (hr0.below hB) (hq0.below hB) hsz0).mono ?_
 rintro e v5 ⟨sxx0, cxx0, uxx0, dxx0, rfl, ⟨FX0, oX0, nX0, lX0⟩, hb⟩
 have uX0 := oX0.lt
 clear l0c0 l0c1 l0c2 l0c3 zac0 zac1 zac2 zac3 ltL0 ltZA
 have sz_v4_v5 := (hb).size
 replace L0 := L0.below hb
 replace ZA := ZA.below hb
 replace oza := oza.keep fun b hm => (hb).block b (oza.lt b hm)
 replace hB := Below.on hB hb hB.size
 clear hb
 have l0c0 := L0.c0
 have l0c1 := L0.c1
 have l0c2 := L0.c2
 have l0c3 := L0.c3
 have zac0 := ZA.c0
 have zac1 := ZA.c1
 have zac2 := ZA.c2
 have zac3 := ZA.c3
 have ltL0 := L0.lt
 have ltZA := ZA.lt
 go_wp2_with fail
 have X0 := Blk.new4 v5 31 (.int .i64 t0) (.int .i64 a0) (.slice sxx0 ac0.length cxx0) (.slice uxx0 nx0.length dxx0)
 clear l0c0 l0c1 l0c2 l0c3 zac0 zac1 zac2 zac3 ltL0 ltZA
 replace L0 := L0.alloc (.cells #[.int .i64 t0, .int .i64 a0, .slice sxx0 ac0.length cxx0, .slice uxx0 nx0.length dxx0] 31)
 replace ZA := ZA.alloc (.cells #[.int .i64 t0, .int .i64 a0, .slice sxx0 ac0.length cxx0, .slice uxx0 nx0.length dxx0] 31)
 replace oza := oza.keep (w' := v5.alloc (.cells #[.int .i64 t0, .int .i64 a0, .slice sxx0 ac0.length cxx0, .slice uxx0 nx0.length dxx0] 31)) fun b hm => Below.heap_alloc v5 _ b (oza.lt b hm)
 replace oX0 := oX0.keep (w' := v5.alloc (.cells #[.int .i64 t0, .int .i64 a0, .slice sxx0 ac0.length cxx0, .slice uxx0 nx0.length dxx0] 31)) fun b hm => Below.heap_alloc v5 _ b (oX0.lt b hm)
 replace hB := hB.alloc hB.size (.cells #[.int .i64 t0, .int .i64 a0, .slice sxx0 ac0.length cxx0, .slice uxx0 nx0.length dxx0] 31)
 have szA : (v5.alloc (.cells #[.int .i64 t0, .int .i64 a0, .slice sxx0 ac0.length cxx0, .slice uxx0 nx0.length dxx0] 31)).heap.size = v5.heap.size + 1 := by simp
 generalize v5.alloc (.cells #[.int .i64 t0, .int .i64 a0, .slice sxx0 ac0.length cxx0, .slice uxx0 nx0.length dxx0] 31) = v6 at L0 ZA X0 oza oX0 hB szA ⊢
 have sz_v6 := szA
 clear szA
 have lt_v6_L0 := L0.lt
 have lt_v6_ZA := ZA.lt
 have lt_v6_X0 := X0.lt
 have l0c0 := L0.c0
 have l0c1 := L0.c1
 have l0c2 := L0.c2
 have l0c3 := L0.c3
 have zac0 := ZA.c0
 have zac1 := ZA.c1
 have zac2 := ZA.c2
 have zac3 := ZA.c3
 have x0c0 := X0.c0
 have x0c1 := X0.c1
 have x0c2 := X0.c2
 have x0c3 := X0.c3
 have ltL0 := L0.lt
 have ltZA := ZA.lt
 have ltX0 := X0.lt
 go_wp2_with fail
 refine (implLeastAutomaton_i (oX0.rds).two.1 (oX0.rds).two.2).mono ?_
 rintro e v7 ⟨zba, zbc, zbb, zbd, rfl, ⟨Fzb, ozb, nzb, lzb⟩, hb⟩
 have uzb := ozb.lt
 clear l0c0 l0c1 l0c2 l0c3 zac0 zac1 zac2 zac3 x0c0 x0c1 x0c2 x0c3 ltL0 ltZA ltX0
 have sz_v6_v7 := (hb).size
 replace L0 := L0.below hb
 replace ZA := ZA.below hb
 replace X0 := X0.below hb
 replace oza := oza.keep fun b hm => (hb).block b (oza.lt b hm)
 replace oX0 := oX0.keep fun b hm => (hb).block b (oX0.lt b hm)
 replace hB := Below.on hB hb hB.size
 clear hb
 have l0c0 := L0.c0
 have l0c1 := L0.c1
 have l0c2 := L0.c2
 have l0c3 := L0.c3
 have zac0 := ZA.c0
 have zac1 := ZA.c1
 have zac2 := ZA.c2
 have zac3 := ZA.c3
 have x0c0 := X0.c0
 have x0c1 := X0.c1
 have x0c2 := X0.c2
 have x0c3 := X0.c3
 have ltL0 := L0.lt
 have ltZA := ZA.lt
 have ltX0 := X0.lt
 go_wp2_with fail
 have ZB := Blk.new4 v7 31 (.int .i64 (leV t0 a0 ac0 nx0 t0)) (.int .i64 (leV t0 a0 ac0 nx0 a0)) (.slice zba (leA t0 a0 ac0 nx0).length zbc) (.slice zbb (leX t0 a0 ac0 nx0).length zbd)
 clear l0c0 l0c1 l0c2 l0c3 zac0 zac1 zac2 zac3 x0c0 x0c1 x0c2 x0c3 ltL0 ltZA ltX0
 replace L0 := L0.alloc (.cells #[.int .i64 (leV t0 a0 ac0 nx0 t0), .int .i64 (leV t0 a0 ac0 nx0 a0), .slice zba (leA t0 a0 ac0 nx0).length zbc, .slice zbb (leX t0 a0 ac0 nx0).length zbd] 31)
 replace ZA := ZA.alloc (.cells #[.int .i64 (leV t0 a0 ac0 nx0 t0), .int .i64 (leV t0 a0 ac0 nx0 a0), .slice zba (leA t0 a0 ac0 nx0).length zbc, .slice zbb (leX t0 a0 ac0 nx0).length zbd] 31)
 replace X0 := X0.alloc (.cells #[.int .i64 (leV t0 a0 ac0 nx0 t0), .int .i64 (leV t0 a0 ac0 nx0 a0), .slice zba (leA t0 a0 ac0 nx0).length zbc, .slice zbb (leX t0 a0 ac0 nx0).length zbd] 31)
 replace oza := oza.keep (w' := v7.alloc (.cells #[.int .i64 (leV t0 a0 ac0 nx0 t0), .int .i64 (leV t0 a0 ac0 nx0 a0), .slice zba (leA t0 a0 ac0 nx0).length zbc, .slice zbb (leX t0 a0 ac0 nx0).length zbd] 31)) fun b hm => Below.heap_alloc v7 _ b (oza.lt b hm)
 replace oX0 := oX0.keep (w' := v7.alloc (.cells #[.int .i64 (leV t0 a0 ac0 nx0 t0), .int .i64 (leV t0 a0 ac0 nx0 a0), .slice zba (leA t0 a0 ac0 nx0).length zbc, .slice zbb (leX t0 a0 ac0 nx0).length zbd] 31)) fun b hm => Below.heap_alloc v7 _ b (oX0.lt b hm)
 replace ozb := ozb.keep (w' := v7.alloc (.cells #[.int .i64 (leV t0 a0 ac0 nx0 t0), .int .i64 (leV t0 a0 ac0 nx0 a0), .slice zba (leA t0 a0 ac0 nx0).length zbc, .slice zbb (leX t0 a0 ac0 nx0).length zbd] 31)) fun b hm => Below.heap_alloc v7 _ b (ozb.lt b hm)
 replace hB := hB.alloc hB.size (.cells #[.int .i64 (leV t0 a0 ac0 nx0 t0), .int .i64 (leV t0 a0 ac0 nx0 a0), .slice zba (leA t0 a0 ac0 nx0).length zbc, .slice zbb (leX t0 a0 ac0 nx0).length zbd] 31)
 have szA : (v7.alloc (.cells #[.int .i64 (leV t0 a0 ac0 nx0 t0), .int .i64 (leV t0 a0 ac0 nx0 a0), .slice zba (leA t0 a0 ac0 nx0).length zbc, .slice zbb (leX t0 a0 ac0 nx0).length zbd] 31)).heap.size = v7.heap.size + 1 := by simp
 generalize v7.alloc (.cells #[.int .i64 (leV t0 a0 ac0 nx0 t0), .int .i64 (leV t0 a0 ac0 nx0 a0), .slice zba (leA t0 a0 ac0 nx0).length zbc, .slice zbb (leX t0 a0 ac0 nx0).length zbd] 31) = v8 at L0 ZA X0 ZB oza oX0 ozb hB szA ⊢
 have sz_v8 := szA
 clear szA
 have lt_v8_L0 := L0.lt
 have lt_v8_ZA := ZA.lt
 have lt_v8_X0 := X0.lt
 have lt_v8_ZB := ZB.lt
 have l0c0 := L0.c0
 have l0c1 := L0.c1
 have l0c2 := L0.c2
 have l0c3 := L0.c3
 have zac0 := ZA.c0
 have zac1 := ZA.c1
 have zac2 := ZA.c2
 have zac3 := ZA.c3
 have x0c0 := X0.c0
 have x0c1 := X0.c1
 have x0c2 := X0.c2
 have x0c3 := X0.c3
 have zbc0 := ZB.c0
 have zbc1 := ZB.c1
 have zbc2 := ZB.c2
 have zbc3 := ZB.c3
 have ltL0 := L0.lt
 have ltZA := ZA.lt
 have ltX0 := X0.lt
 have ltZB := ZB.lt
 go_wp2_with fail
 refine (eqAutomaton_i ((ozb.rds).two.1) ((ozb.rds).two.2) ((oza.rds).two.1) ((oza.rds).two.2)).mono ?_
 rintro e v9 ⟨rfl, hb⟩
 clear l0c0 l0c1 l0c2 l0c3 zac0 zac1 zac2 zac3 x0c0 x0c1 x0c2 x0c3 zbc0 zbc1 zbc2 zbc3 ltL0 ltZA ltX0 ltZB
 have sz_v8_v9 := (hb).size
 replace L0 := L0.below hb
 replace ZA := ZA.below hb
 replace X0 := X0.below hb
 replace ZB := ZB.below hb
 replace oza := oza.keep fun b hm => (hb).block b (oza.lt b hm)
 replace oX0 := oX0.keep fun b hm => (hb).block b (oX0.lt b hm)
 replace ozb := ozb.keep fun b hm => (hb).block b (ozb.lt b hm)
 replace hB := Below.on hB hb hB.size
 clear hb
 rw [efR]
 have l0c0 := L0.c0
 have l0c1 := L0.c1
 have l0c2 := L0.c2
 have l0c3 := L0.c3
 have zac0 := ZA.c0
 have zac1 := ZA.c1
 have zac2 := ZA.c2
 have zac3 := ZA.c3
 have x0c0 := X0.c0
 have x0c1 := X0.c1
 have x0c2 := X0.c2
 have x0c3 := X0.c3
 have zbc0 := ZB.c0
 have zbc1 := ZB.c1
 have zbc2 := ZB.c2
 have zbc3 := ZB.c3
 have ltL0 := L0.lt
 have ltZA := ZA.lt
 have ltX0 := X0.lt
 have ltZB := ZB.lt
 go_wp2_with fail
 go_region_held3 (fun w' => (∀ b o, b < v9.heap.size → w'.cell? ⟨b, o, none⟩ = v9.cell? ⟨b, o, none⟩) ∧ Below v9.heap.size v9 w')
  (first | exact kp_drew v9 | exact kp_on ‹_› hb)
  (first
   | (go_at_call 6; have hK := ‹(∀ b o, b < v9.heap.size → _) ∧ Below v9.heap.size v9 _›; ((with_reducible refine (toAutomaton_i (hr0.below (Below.on hB hK.2 hB.size)) (hq0.below (Below.on hB hK.2 hB.size)) hsz0).mono ?_); rintro e wy0 ⟨sxy0, cxy0, uxy0, dxy0, rfl, hfy0, hb⟩))
   | (go_at_call 8; have hK := ‹(∀ b o, b < v9.heap.size → _) ∧ Below v9.heap.size v9 _›; ((with_reducible refine (eqAutomaton_i (((oX0.rds).two.1).below hK.2) (((oX0.rds).two.2).below hK.2) ((hfy0.rds).two.1) ((hfy0.rds).two.2)).mono ?_); rintro e v10 ⟨rfl, hb⟩)))
 have hK := ‹(∀ b o, b < v9.heap.size → _) ∧ Below v9.heap.size v9 _›
 clear l0c0 l0c1 l0c2 l0c3 zac0 zac1 zac2 zac3 x0c0 x0c1 x0c2 x0c3 zbc0 zbc1 zbc2 zbc3 ltL0 ltZA ltX0 ltZB
 have sz_v9_v10 := (hK.2).size
 replace L0 := L0.below hK.2
 replace ZA := ZA.below hK.2
 replace X0 := X0.below hK.2
 replace ZB := ZB.below hK.2
 replace oza := oza.keep fun b hm => (hK.2).block b (oza.lt b hm)
 replace oX0 := oX0.keep fun b hm => (hK.2).block b (oX0.lt b hm)
 replace ozb := ozb.keep fun b hm => (hK.2).block b (ozb.lt b hm)
 replace hB := Below.on hB hK.2 hB.size
 clear hK
 try simp only [ef0, Bool.not_true, Bool.and_self, Bool.or_self, BEq.rfl]
 have l0c0 := L0.c0
 have l0c1 := L0.c1
 have l0c2 := L0.c2
 have l0c3 := L0.c3
 have zac0 := ZA.c0
 have zac1 := ZA.c1
 have zac2 := ZA.c2
 have zac3 := ZA.c3
 have x0c0 := X0.c0
 have x0c1 := X0.c1
 have x0c2 := X0.c2
 have x0c3 := X0.c3
 have zbc0 := ZB.c0
 have zbc1 := ZB.c1
 have zbc2 := ZB.c2
 have zbc3 := ZB.c3
 have ltL0 := L0.lt
 have ltZA := ZA.lt
 have ltX0 := X0.lt
 have ltZB := ZB.lt
 go_wp2_with fail
 refine (markAutomaton_i (k := 1) oX0 nX0 (by have am0 := marks_cntA ac0 nx0; omega)).mono ?_
 rintro e v11 ⟨rfl, om, hO⟩
 clear l0c0 l0c1 l0c2 l0c3 zac0 zac1 zac2 zac3 x0c0 x0c1 x0c2 x0c3 zbc0 zbc1 zbc2 zbc3 ltL0 ltZA ltX0 ltZB
 have sz_v10_v11 := (hO).size
 replace L0 := L0.keep ((hO).block _ L0.lt (fun hm => by have h1 := lX0 _ hm; have h2 := uX0 _ hm; omega))
 replace ZA := ZA.keep ((hO).block _ ZA.lt (fun hm => by have h1 := lX0 _ hm; have h2 := uX0 _ hm; omega))
 replace X0 := X0.keep ((hO).block _ X0.lt (fun hm => by have h1 := lX0 _ hm; have h2 := uX0 _ hm; omega))
 replace ZB := ZB.keep ((hO).block _ ZB.lt (fun hm => by have h1 := lX0 _ hm; have h2 := uX0 _ hm; omega))
 replace oza := oza.keep fun b hm => (hO).block b (oza.lt b hm) (fun hm' => by have h1 := lX0 _ hm'; have h2 := uX0 _ hm'; have h3 := lza _ hm; have h4 := uza _ hm; omega)
 replace ozb := ozb.keep fun b hm => (hO).block b (ozb.lt b hm) (fun hm' => by have h1 := lX0 _ hm'; have h2 := uX0 _ hm'; have h3 := lzb _ hm; have h4 := uzb _ hm; omega)
 replace hB := hB.trans ((hO).below hB.size (fun b hm => by have h1 := lX0 _ hm; have h2 := hB.size; omega))
 replace oX0 := om
 clear om hO
 have l0c0 := L0.c0
 have l0c1 := L0.c1
 have l0c2 := L0.c2
 have l0c3 := L0.c3
 have zac0 := ZA.c0
 have zac1 := ZA.c1
 have zac2 := ZA.c2
 have zac3 := ZA.c3
 have x0c0 := X0.c0
 have x0c1 := X0.c1
 have x0c2 := X0.c2
 have x0c3 := X0.c3
 have zbc0 := ZB.c0
 have zbc1 := ZB.c1
 have zbc2 := ZB.c2
 have zbc3 := ZB.c3
 have ltL0 := L0.lt
 have ltZA := ZA.lt
 have ltX0 := X0.lt
 have ltZB := ZB.lt
 go_wp2_with fail
 refine (eqAutomaton_i ((ozb.rds).two.1) ((ozb.rds).two.2) ((oza.rds).two.1) ((oza.rds).two.2)).mono ?_
 rintro e v12 ⟨rfl, hb⟩
 clear l0c0 l0c1 l0c2 l0c3 zac0 zac1 zac2 zac3 x0c0 x0c1 x0c2 x0c3 zbc0 zbc1 zbc2 zbc3 ltL0 ltZA ltX0 ltZB
 have sz_v11_v12 := (hb).size
 replace L0 := L0.below hb
 replace ZA := ZA.below hb
 replace X0 := X0.below hb
 replace ZB := ZB.below hb
 replace oza := oza.keep fun b hm => (hb).block b (oza.lt b hm)
 replace oX0 := oX0.keep fun b hm => (hb).block b (oX0.lt b hm)
 replace ozb := ozb.keep fun b hm => (hb).block b (ozb.lt b hm)
 replace hB := Below.on hB hb hB.size
 clear hb
 rw [efR]
 have l0c0 := L0.c0
 have l0c1 := L0.c1
 have l0c2 := L0.c2
 have l0c3 := L0.c3
 have zac0 := ZA.c0
 have zac1 := ZA.c1
 have zac2 := ZA.c2
 have zac3 := ZA.c3
 have x0c0 := X0.c0
 have x0c1 := X0.c1
 have x0c2 := X0.c2
 have x0c3 := X0.c3
 have zbc0 := ZB.c0
 have zbc1 := ZB.c1
 have zbc2 := ZB.c2
 have zbc3 := ZB.c3
 have ltL0 := L0.lt
 have ltZA := ZA.lt
 have ltX0 := X0.lt
 have ltZB := ZB.lt
 go_wp2_with fail
 refine (markAutomaton_i (k := 1) ozb nzb (by omega)).mono ?_
 rintro e v13 ⟨rfl, om, hO⟩
 clear l0c0 l0c1 l0c2 l0c3 zac0 zac1 zac2 zac3 x0c0 x0c1 x0c2 x0c3 zbc0 zbc1 zbc2 zbc3 ltL0 ltZA ltX0 ltZB
 have sz_v12_v13 := (hO).size
 replace L0 := L0.keep ((hO).block _ L0.lt (fun hm => by have h1 := lzb _ hm; have h2 := uzb _ hm; omega))
 replace ZA := ZA.keep ((hO).block _ ZA.lt (fun hm => by have h1 := lzb _ hm; have h2 := uzb _ hm; omega))
 replace X0 := X0.keep ((hO).block _ X0.lt (fun hm => by have h1 := lzb _ hm; have h2 := uzb _ hm; omega))
 replace ZB := ZB.keep ((hO).block _ ZB.lt (fun hm => by have h1 := lzb _ hm; have h2 := uzb _ hm; omega))
 replace oza := oza.keep fun b hm => (hO).block b (oza.lt b hm) (fun hm' => by have h1 := lzb _ hm'; have h2 := uzb _ hm'; have h3 := lza _ hm; have h4 := uza _ hm; omega)
 replace oX0 := oX0.keep fun b hm => (hO).block b (oX0.lt b hm) (fun hm' => by have h1 := lzb _ hm'; have h2 := uzb _ hm'; have h3 := lX0 _ hm; have h4 := uX0 _ hm; omega)
 replace hB := hB.trans ((hO).below hB.size (fun b hm => by have h1 := lzb _ hm; have h2 := hB.size; omega))
 replace ozb := om
 clear om hO
 have l0c0 := L0.c0
 have l0c1 := L0.c1
 have l0c2 := L0.c2
 have l0c3 := L0.c3
 have zac0 := ZA.c0
 have zac1 := ZA.c1
 have zac2 := ZA.c2
 have zac3 := ZA.c3
 have x0c0 := X0.c0
 have x0c1 := X0.c1
 have x0c2 := X0.c2
 have x0c3 := X0.c3
 have zbc0 := ZB.c0
 have zbc1 := ZB.c1
 have zbc2 := ZB.c2
 have zbc3 := ZB.c3
 have ltL0 := L0.lt
 have ltZA := ZA.lt
 have ltX0 := X0.lt
 have ltZB := ZB.lt
 go_wp2_with fail
 refine (heldAutomaton_i (k := 1) ozb.rds (by omega)).mono ?_
 rintro e v14 ⟨rfl, hb⟩
 clear l0c0 l0c1 l0c2 l0c3 zac0 zac1 zac2 zac3 x0c0 x0c1 x0c2 x0c3 zbc0 zbc1 zbc2 zbc3 ltL0 ltZA ltX0 ltZB
 have sz_v13_v14 := (hb).size
 replace L0 := L0.below hb
 replace ZA := ZA.below hb
 replace X0 := X0.below hb
 replace ZB := ZB.below hb
 replace oza := oza.keep fun b hm => (hb).block b (oza.lt b hm)
 replace oX0 := oX0.keep fun b hm => (hb).block b (oX0.lt b hm)
 replace ozb := ozb.keep fun b hm => (hb).block b (ozb.lt b hm)
 replace hB := Below.on hB hb hB.size
 clear hb
 have l0c0 := L0.c0
 have l0c1 := L0.c1
 have l0c2 := L0.c2
 have l0c3 := L0.c3
 have zac0 := ZA.c0
 have zac1 := ZA.c1
 have zac2 := ZA.c2
 have zac3 := ZA.c3
 have x0c0 := X0.c0
 have x0c1 := X0.c1
 have x0c2 := X0.c2
 have x0c3 := X0.c3
 have zbc0 := ZB.c0
 have zbc1 := ZB.c1
 have zbc2 := ZB.c2
 have zbc3 := ZB.c3
 have ltL0 := L0.lt
 have ltZA := ZA.lt
 have ltX0 := X0.lt
 have ltZB := ZB.lt
 go_wp2_with fail
 refine (toAutomaton_i (hr0.below hB) (hq0.below hB) hsz0).mono ?_
 rintro e v15 ⟨sxzc0, cxzc0, uxzc0, dxzc0, rfl, hfTzc0, hb⟩
 clear l0c0 l0c1 l0c2 l0c3 zac0 zac1 zac2 zac3 x0c0 x0c1 x0c2 x0c3 zbc0 zbc1 zbc2 zbc3 ltL0 ltZA ltX0 ltZB
 have sz_v14_v15 := (hb).size
 replace L0 := L0.below hb
 replace ZA := ZA.below hb
 replace X0 := X0.below hb
 replace ZB := ZB.below hb
 replace oza := oza.keep fun b hm => (hb).block b (oza.lt b hm)
 replace oX0 := oX0.keep fun b hm => (hb).block b (oX0.lt b hm)
 replace ozb := ozb.keep fun b hm => (hb).block b (ozb.lt b hm)
 replace hB := Below.on hB hb hB.size
 clear hb
 have l0c0 := L0.c0
 have l0c1 := L0.c1
 have l0c2 := L0.c2
 have l0c3 := L0.c3
 have zac0 := ZA.c0
 have zac1 := ZA.c1
 have zac2 := ZA.c2
 have zac3 := ZA.c3
 have x0c0 := X0.c0
 have x0c1 := X0.c1
 have x0c2 := X0.c2
 have x0c3 := X0.c3
 have zbc0 := ZB.c0
 have zbc1 := ZB.c1
 have zbc2 := ZB.c2
 have zbc3 := ZB.c3
 have ltL0 := L0.lt
 have ltZA := ZA.lt
 have ltX0 := X0.lt
 have ltZB := ZB.lt
 go_wp2_with fail
 refine (implLeastAutomaton_i (hfTzc0.rds).two.1 (hfTzc0.rds).two.2).mono ?_
 rintro e v16 ⟨zca, zcc, zcb, zcd, rfl, ⟨Fzc, ozc, nzc, lzc⟩, hb⟩
 have uzc := ozc.lt
 clear l0c0 l0c1 l0c2 l0c3 zac0 zac1 zac2 zac3 x0c0 x0c1 x0c2 x0c3 zbc0 zbc1 zbc2 zbc3 ltL0 ltZA ltX0 ltZB
 have sz_v15_v16 := (hb).size
 replace L0 := L0.below hb
 replace ZA := ZA.below hb
 replace X0 := X0.below hb
 replace ZB := ZB.below hb
 replace oza := oza.keep fun b hm => (hb).block b (oza.lt b hm)
 replace oX0 := oX0.keep fun b hm => (hb).block b (oX0.lt b hm)
 replace ozb := ozb.keep fun b hm => (hb).block b (ozb.lt b hm)
 replace hB := Below.on hB hb hB.size
 clear hb
 have l0c0 := L0.c0
 have l0c1 := L0.c1
 have l0c2 := L0.c2
 have l0c3 := L0.c3
 have zac0 := ZA.c0
 have zac1 := ZA.c1
 have zac2 := ZA.c2
 have zac3 := ZA.c3
 have x0c0 := X0.c0
 have x0c1 := X0.c1
 have x0c2 := X0.c2
 have x0c3 := X0.c3
 have zbc0 := ZB.c0
 have zbc1 := ZB.c1
 have zbc2 := ZB.c2
 have zbc3 := ZB.c3
 have ltL0 := L0.lt
 have ltZA := ZA.lt
 have ltX0 := X0.lt
 have ltZB := ZB.lt
 go_wp2_with fail
 have ZC := Blk.new4 v16 31 (.int .i64 (leV t0 a0 ac0 nx0 t0)) (.int .i64 (leV t0 a0 ac0 nx0 a0)) (.slice zca (leA t0 a0 ac0 nx0).length zcc) (.slice zcb (leX t0 a0 ac0 nx0).length zcd)
 clear l0c0 l0c1 l0c2 l0c3 zac0 zac1 zac2 zac3 x0c0 x0c1 x0c2 x0c3 zbc0 zbc1 zbc2 zbc3 ltL0 ltZA ltX0 ltZB
 replace L0 := L0.alloc (.cells #[.int .i64 (leV t0 a0 ac0 nx0 t0), .int .i64 (leV t0 a0 ac0 nx0 a0), .slice zca (leA t0 a0 ac0 nx0).length zcc, .slice zcb (leX t0 a0 ac0 nx0).length zcd] 31)
 replace ZA := ZA.alloc (.cells #[.int .i64 (leV t0 a0 ac0 nx0 t0), .int .i64 (leV t0 a0 ac0 nx0 a0), .slice zca (leA t0 a0 ac0 nx0).length zcc, .slice zcb (leX t0 a0 ac0 nx0).length zcd] 31)
 replace X0 := X0.alloc (.cells #[.int .i64 (leV t0 a0 ac0 nx0 t0), .int .i64 (leV t0 a0 ac0 nx0 a0), .slice zca (leA t0 a0 ac0 nx0).length zcc, .slice zcb (leX t0 a0 ac0 nx0).length zcd] 31)
 replace ZB := ZB.alloc (.cells #[.int .i64 (leV t0 a0 ac0 nx0 t0), .int .i64 (leV t0 a0 ac0 nx0 a0), .slice zca (leA t0 a0 ac0 nx0).length zcc, .slice zcb (leX t0 a0 ac0 nx0).length zcd] 31)
 replace oza := oza.keep (w' := v16.alloc (.cells #[.int .i64 (leV t0 a0 ac0 nx0 t0), .int .i64 (leV t0 a0 ac0 nx0 a0), .slice zca (leA t0 a0 ac0 nx0).length zcc, .slice zcb (leX t0 a0 ac0 nx0).length zcd] 31)) fun b hm => Below.heap_alloc v16 _ b (oza.lt b hm)
 replace oX0 := oX0.keep (w' := v16.alloc (.cells #[.int .i64 (leV t0 a0 ac0 nx0 t0), .int .i64 (leV t0 a0 ac0 nx0 a0), .slice zca (leA t0 a0 ac0 nx0).length zcc, .slice zcb (leX t0 a0 ac0 nx0).length zcd] 31)) fun b hm => Below.heap_alloc v16 _ b (oX0.lt b hm)
 replace ozb := ozb.keep (w' := v16.alloc (.cells #[.int .i64 (leV t0 a0 ac0 nx0 t0), .int .i64 (leV t0 a0 ac0 nx0 a0), .slice zca (leA t0 a0 ac0 nx0).length zcc, .slice zcb (leX t0 a0 ac0 nx0).length zcd] 31)) fun b hm => Below.heap_alloc v16 _ b (ozb.lt b hm)
 replace ozc := ozc.keep (w' := v16.alloc (.cells #[.int .i64 (leV t0 a0 ac0 nx0 t0), .int .i64 (leV t0 a0 ac0 nx0 a0), .slice zca (leA t0 a0 ac0 nx0).length zcc, .slice zcb (leX t0 a0 ac0 nx0).length zcd] 31)) fun b hm => Below.heap_alloc v16 _ b (ozc.lt b hm)
 replace hB := hB.alloc hB.size (.cells #[.int .i64 (leV t0 a0 ac0 nx0 t0), .int .i64 (leV t0 a0 ac0 nx0 a0), .slice zca (leA t0 a0 ac0 nx0).length zcc, .slice zcb (leX t0 a0 ac0 nx0).length zcd] 31)
 have szA : (v16.alloc (.cells #[.int .i64 (leV t0 a0 ac0 nx0 t0), .int .i64 (leV t0 a0 ac0 nx0 a0), .slice zca (leA t0 a0 ac0 nx0).length zcc, .slice zcb (leX t0 a0 ac0 nx0).length zcd] 31)).heap.size = v16.heap.size + 1 := by simp
 generalize v16.alloc (.cells #[.int .i64 (leV t0 a0 ac0 nx0 t0), .int .i64 (leV t0 a0 ac0 nx0 a0), .slice zca (leA t0 a0 ac0 nx0).length zcc, .slice zcb (leX t0 a0 ac0 nx0).length zcd] 31) = v17 at L0 ZA X0 ZB ZC oza oX0 ozb ozc hB szA ⊢
 have sz_v17 := szA
 clear szA
 have lt_v17_L0 := L0.lt
 have lt_v17_ZA := ZA.lt
 have lt_v17_X0 := X0.lt
 have lt_v17_ZB := ZB.lt
 have lt_v17_ZC := ZC.lt
 have l0c0 := L0.c0
 have l0c1 := L0.c1
 have l0c2 := L0.c2
 have l0c3 := L0.c3
 have zac0 := ZA.c0
 have zac1 := ZA.c1
 have zac2 := ZA.c2
 have zac3 := ZA.c3
 have x0c0 := X0.c0
 have x0c1 := X0.c1
 have x0c2 := X0.c2
 have x0c3 := X0.c3
 have zbc0 := ZB.c0
 have zbc1 := ZB.c1
 have zbc2 := ZB.c2
 have zbc3 := ZB.c3
 have zcc0 := ZC.c0
 have zcc1 := ZC.c1
 have zcc2 := ZC.c2
 have zcc3 := ZC.c3
 have ltL0 := L0.lt
 have ltZA := ZA.lt
 have ltX0 := X0.lt
 have ltZB := ZB.lt
 have ltZC := ZC.lt
 go_wp2_with fail
 refine (eqAutomaton_i ((ozc.rds).two.1) ((ozc.rds).two.2) ((oza.rds).two.1) ((oza.rds).two.2)).mono ?_
 rintro e v18 ⟨rfl, hb⟩
 clear l0c0 l0c1 l0c2 l0c3 zac0 zac1 zac2 zac3 x0c0 x0c1 x0c2 x0c3 zbc0 zbc1 zbc2 zbc3 zcc0 zcc1 zcc2 zcc3 ltL0 ltZA ltX0 ltZB ltZC
 have sz_v17_v18 := (hb).size
 replace L0 := L0.below hb
 replace ZA := ZA.below hb
 replace X0 := X0.below hb
 replace ZB := ZB.below hb
 replace ZC := ZC.below hb
 replace oza := oza.keep fun b hm => (hb).block b (oza.lt b hm)
 replace oX0 := oX0.keep fun b hm => (hb).block b (oX0.lt b hm)
 replace ozb := ozb.keep fun b hm => (hb).block b (ozb.lt b hm)
 replace ozc := ozc.keep fun b hm => (hb).block b (ozc.lt b hm)
 replace hB := Below.on hB hb hB.size
 clear hb
 rw [efR]
 have l0c0 := L0.c0
 have l0c1 := L0.c1
 have l0c2 := L0.c2
 have l0c3 := L0.c3
 have zac0 := ZA.c0
 have zac1 := ZA.c1
 have zac2 := ZA.c2
 have zac3 := ZA.c3
 have x0c0 := X0.c0
 have x0c1 := X0.c1
 have x0c2 := X0.c2
 have x0c3 := X0.c3
 have zbc0 := ZB.c0
 have zbc1 := ZB.c1
 have zbc2 := ZB.c2
 have zbc3 := ZB.c3
 have zcc0 := ZC.c0
 have zcc1 := ZC.c1
 have zcc2 := ZC.c2
 have zcc3 := ZC.c3
 have ltL0 := L0.lt
 have ltZA := ZA.lt
 have ltX0 := X0.lt
 have ltZB := ZB.lt
 have ltZC := ZC.lt
 go_wp2_with fail
 refine (heldAutomaton_i (k := 1) ozb.rds (by omega)).mono ?_
 rintro e v19 ⟨rfl, hb⟩
 clear l0c0 l0c1 l0c2 l0c3 zac0 zac1 zac2 zac3 x0c0 x0c1 x0c2 x0c3 zbc0 zbc1 zbc2 zbc3 zcc0 zcc1 zcc2 zcc3 ltL0 ltZA ltX0 ltZB ltZC
 have sz_v18_v19 := (hb).size
 replace L0 := L0.below hb
 replace ZA := ZA.below hb
 replace X0 := X0.below hb
 replace ZB := ZB.below hb
 replace ZC := ZC.below hb
 replace oza := oza.keep fun b hm => (hb).block b (oza.lt b hm)
 replace oX0 := oX0.keep fun b hm => (hb).block b (oX0.lt b hm)
 replace ozb := ozb.keep fun b hm => (hb).block b (ozb.lt b hm)
 replace ozc := ozc.keep fun b hm => (hb).block b (ozc.lt b hm)
 replace hB := Below.on hB hb hB.size
 clear hb
 have l0c0 := L0.c0
 have l0c1 := L0.c1
 have l0c2 := L0.c2
 have l0c3 := L0.c3
 have zac0 := ZA.c0
 have zac1 := ZA.c1
 have zac2 := ZA.c2
 have zac3 := ZA.c3
 have x0c0 := X0.c0
 have x0c1 := X0.c1
 have x0c2 := X0.c2
 have x0c3 := X0.c3
 have zbc0 := ZB.c0
 have zbc1 := ZB.c1
 have zbc2 := ZB.c2
 have zbc3 := ZB.c3
 have zcc0 := ZC.c0
 have zcc1 := ZC.c1
 have zcc2 := ZC.c2
 have zcc3 := ZC.c3
 have ltL0 := L0.lt
 have ltZA := ZA.lt
 have ltX0 := X0.lt
 have ltZB := ZB.lt
 have ltZC := ZC.lt
 go_wp2_with fail
 go_ret
 exact ⟨rfl, hB⟩
set_option maxRecDepth 100000 in
theorem law_LeastAutomaton_of {H : Type} {enc : TypeId × Value → H} (W : World) (args : Array Value) (ds : List (DataW H)) (ps : List MemPlace) (hA : DataW.TrodAll enc Tryd.prog W 0 (fun _ => true) true Tryd.f3.params.toList args.toList ds ps)
  (hval : ∀ (j : Nat) t v, Tryd.f3.params[j]? = some t → args[j]? = some v → ∃ base, Value.okWide Tryd.prog W .any base t v) :
  Calls Tryd.prog 3 args W fun e W' => e = .returned (.bool true) ∧ Below W.heap.size W W' := by
 rw [Tryd.params3] at hA hval
 obtain ⟨v0, vs0, d0', ds0, p0, q0, hargs, rfl, rfl, h0, ra0⟩ := trodAll_cons hA
 obtain ⟨rfl, rfl, rfl⟩ := trodAll_nil ra0
 obtain rfl : args = #[v0] := Array.toList_inj.1 hargs
 obtain ⟨t0, a0, ac0, nx0, s0, c0, nu0, d0, rfl, hr0, hq0⟩ := open_lawsAutomaton h0
 exact law_LeastAutomaton t0 a0 ac0 nx0 s0 c0 nu0 d0 W hr0 hq0
end Go.Proofs.YtfhlddbngjlhbaaDoor
