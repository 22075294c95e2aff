/-
  Parts of a proof, joined: MixT, MixU, MixM, FstT. No condition.
-/
import Derived.Test.YtfhlddbngjlhbaaPk12
namespace Go.Proofs.Ytfhlddbngjlhbaa
set_option linter.unusedVariables false
set_option linter.unusedSimpArgs false
open Go.ChangeShapes Go.WideShapes Go.ChangeAt Go.RowKit Go.Deep
structure MixG (t a t' a' k : Int) (ac bc : List (List Bool)) (nx ny : List (List (List Int))) : Prop where
 one : autB t a ac nx = true
 two : autB t' a' bc ny = true
 rng : inB k 1 3 = true
 sig : t = t' ∧ a = a'
section
variable (t a t' a' k : Int) (ac bc : List (List Bool)) (nx ny : List (List (List Int)))
open Classical in
noncomputable def mixT (v : Int) : Int := if MixG t a t' a' k ac bc nx ny then mxT nx ny (atomsN t).toNat a.toNat v else 0
open Classical in
noncomputable def mixA : List (List Bool) := if MixG t a t' a' k ac bc nx ny then mxA k ac bc nx ny (atomsN t).toNat a.toNat else []
open Classical in
noncomputable def mixX : List (List (List Int)) := if MixG t a t' a' k ac bc nx ny then mxX nx ny (atomsN t).toNat a.toNat else []
open Classical in
noncomputable def mixC : Int := if autB t a ac nx = true ∧ autB t' a' bc ny = true then (if MixG t a t' a' k ac bc nx ny then mxC nx ny (atomsN t).toNat a.toNat else 2) else 1
end
section
variable {t a t' a' k : Int} {ac bc : List (List Bool)} {nx ny : List (List (List Int))}
theorem mix_bad (h : ¬ MixG t a t' a' k ac bc nx ny) : (∀ v, mixT t a t' a' k ac bc nx ny v = 0) ∧ mixA t a t' a' k ac bc nx ny = [] ∧ mixX t a t' a' k ac bc nx ny = [] :=
 ⟨fun v => by unfold mixT; rw [if_neg h], by unfold mixA; rw [if_neg h], by unfold mixX; rw [if_neg h]⟩
theorem mix_inv (h : ¬ (autB t a ac nx = true ∧ autB t' a' bc ny = true)) : ¬ MixG t a t' a' k ac bc nx ny ∧ mixC t a t' a' k ac bc nx ny = 1 :=
 ⟨fun g => h ⟨g.one, g.two⟩, by unfold mixC; rw [if_neg h]⟩
theorem mix_rng (h1 : autB t a ac nx = true) (h2 : autB t' a' bc ny = true) (h : ¬ (inB k 1 3 = true ∧ t = t' ∧ a = a')) : ¬ MixG t a t' a' k ac bc nx ny ∧ mixC t a t' a' k ac bc nx ny = 2 := by
 have hg : ¬ MixG t a t' a' k ac bc nx ny := fun g => h ⟨g.rng, g.sig⟩
 exact ⟨hg, by unfold mixC; rw [if_pos ⟨h1, h2⟩, if_neg hg]⟩
theorem mix_good (h : MixG t a t' a' k ac bc nx ny) : (∀ v, mixT t a t' a' k ac bc nx ny v = mxT nx ny (atomsN t).toNat a.toNat v) ∧ mixA t a t' a' k ac bc nx ny = mxA k ac bc nx ny (atomsN t).toNat a.toNat ∧ mixX t a t' a' k ac bc nx ny = mxX nx ny (atomsN t).toNat a.toNat ∧ mixC t a t' a' k ac bc nx ny = mxC nx ny (atomsN t).toNat a.toNat :=
 ⟨fun v => by unfold mixT; rw [if_pos h], by unfold mixA; rw [if_pos h], by unfold mixX; rw [if_pos h], by unfold mixC; rw [if_pos ⟨h.one, h.two⟩, if_pos h]⟩
end
theorem Rds.mk2 {w : World} {d e : D} {u v : Value} (h : Rd w d u) (k : Rd w e v) : Rds w [d, e] [u, v] := by simp only [Rds]; exact ⟨u, [v], rfl, h, v, [], rfl, k, rfl⟩
set_option maxRecDepth 100000 in
set_option maxHeartbeats 8000000 in
theorem implMixAutomata_i {t a t' a' k : Int} {ac bc : List (List Bool)} {nx ny : List (List (List Int))} {s u s' u' : Option Addr} {c d c' d' : Nat} {w : World} (hr : Rd w (bbD ac) (.slice s ac.length c)) (hq : Rd w (iiiD nx) (.slice u nx.length d)) (hr' : Rd w (bbD bc) (.slice s' bc.length c')) (hq' : Rd w (iiiD ny) (.slice u' ny.length d')) :
  Calls Try.prog 8 #[.agg #[.int .i64 t, .int .i64 a, .slice s ac.length c, .slice u nx.length d], .agg #[.int .i64 t', .int .i64 a', .slice s' bc.length c', .slice u' ny.length d'], .int .i64 k] w fun e w' => ∃ s1 c1 s2 c2, e = .returned (.tuple #[.agg #[.int .i64 (mixT t a t' a' k ac bc nx ny t), .int .i64 (mixT t a t' a' k ac bc nx ny a), .slice s1 (mixA t a t' a' k ac bc nx ny).length c1, .slice s2 (mixX t a t' a' k ac bc nx ny).length c2], .int .i64 (mixC t a t' a' k ac bc nx ny)]) ∧
   Freshs w w' (autD (mixA t a t' a' k ac bc nx ny) (mixX t a t' a' k ac bc nx ny)) [.slice s1 (mixA t a t' a' k ac bc nx ny).length c1, .slice s2 (mixX t a t' a' k ac bc nx ny).length c2] ∧ Below w.heap.size w w' := by
 go_enter Try.func8, Try.ntmps8
 have hb1 : Below w.heap.size w (w.alloc (.cells #[.int .i64 t, .int .i64 a, .slice s ac.length c, .slice u nx.length d] 31)) := Below.alloc (Below.refl _ _) (Nat.le_refl _) _
 go_upto_region 1 with fail
 obtain ⟨w1, e1, X, hb1, hz1⟩ := box4 w 31 (.int .i64 t) (.int .i64 a) (.slice s ac.length c) (.slice u nx.length d)
 rw [e1]
 obtain ⟨w2, e2, Y, hb2, hz2⟩ := box4 w1 31 (.int .i64 t') (.int .i64 a') (.slice s' bc.length c') (.slice u' ny.length d')
 rw [e2]
 obtain ⟨w3, e3, R, hb3, hz3⟩ := box4 w2 31 (.int .i64 0) (.int .i64 0) (.slice none 0 0) (.slice none 0 0)
 rw [e3]
 rw [hz1] at Y
 rw [hz2, hz1] at R
 have hB : Below w.heap.size w w3 := (hb1.trans (hb2.mono (by omega))).trans (hb3.mono (by omega))
 replace X := (X.below hb2).below hb3
 replace Y := Y.below hb3
 have hA := X.autAt' (hr.below hB) (hq.below hB)
 have hA' := Y.autAt' (hr'.below hB) (hq'.below hB)
 have hz : w3.heap.size = w.heap.size + 1 + 1 + 1 := by omega
 clear e1 e2 e3 hb1 hb2 hb3 hz1 hz2 hz3 hr hq hr' hq' X Y
 obtain ⟨g0, g1, g2, g3, -, -⟩ := id hA
 obtain ⟨k0, k1, k2, k3, -, -⟩ := id hA'
 go_wp2_with fail
 refine (implValidAutomaton_i hA.2.2.2.2.1 hA.2.2.2.2.2).mono ?_
 rintro f w4 ⟨rfl, hb⟩
 clear g0 g1 g2 g3 k0 k1 k2 k3
 replace hB := Below.on hB hb hB.size
 replace R := R.below hb
 replace hA := hA.below hb
 replace hA' := hA'.below hb
 have hz4 := hb.size
 clear hb
 obtain ⟨v1, h1⟩ : ∃ v, autB t a ac nx = v := ⟨_, rfl⟩
 rw [h1]
 cases v1
 ·
  skip
  have hg0 := mix_inv (t' := t') (a' := a') (k := k) (bc := bc) (ny := ny) (fun q => by rw [h1] at q; cases q.1)
  have hg1 := mix_bad hg0.1
  have HG0 := Lib.hid hg0
  have HG1 := Lib.hid hg1
  clear hg0 hg1 h1 hA hA'
  obtain ⟨r0, r1, r2, r3, z0, z1, z2, z3, ltR⟩ := R.all4
  go_wp2_with fail
  obtain ⟨w5, e5, T2, hs5⟩ := set4 R (.int .i64 0) (.int .i64 0) (.slice none 0 0) (.slice none 0 0)
  rw [e5]
  clear e5 r0 r1 r2 r3 z0 z1 z2 z3 ltR
  obtain ⟨t0, t1, t2, t3, -, -, -, -, -⟩ := T2.all4
  have hzB5 := hB.size
  have hB5 := hB.trans (hs5.below (B := w.heap.size) (by omega) (fun y hy => by omega))
  refine bodyPost_ret (v := .tuple #[.agg #[.int .i64 0, .int .i64 0, .slice none 0 0, .slice none 0 0], .int .i64 1]) (by simp [results, Try.results8, go_sem, t0, t1, t2, t3]) rfl ?_
  rw [HG1.out.1, HG1.out.1, HG1.out.2.1, HG1.out.2.2, HG0.out.2]
  exact ⟨none, 0, none, 0, rfl, nil_au, hB5⟩
 have H1 := Lib.hid h1
 clear h1
 obtain ⟨k0, k1, k2, k3, -, -⟩ := id hA'
 go_wp2_with fail
 refine (implValidAutomaton_i hA'.2.2.2.2.1 hA'.2.2.2.2.2).mono ?_
 rintro f w5 ⟨rfl, hb⟩
 clear k0 k1 k2 k3
 replace hB := Below.on hB hb hB.size
 replace R := R.below hb
 replace hA := hA.below hb
 replace hA' := hA'.below hb
 have hz5 := hb.size
 clear hb
 obtain ⟨v2, h2⟩ : ∃ v, autB t' a' bc ny = v := ⟨_, rfl⟩
 rw [h2]
 cases v2
 ·
  skip
  have hg0 := mix_inv (t := t) (a := a) (k := k) (ac := ac) (nx := nx) (fun q => by rw [h2] at q; cases q.2)
  have hg1 := mix_bad hg0.1
  have HG0 := Lib.hid hg0
  have HG1 := Lib.hid hg1
  clear hg0 hg1 h2 hA hA'
  obtain ⟨r0, r1, r2, r3, z0, z1, z2, z3, ltR⟩ := R.all4
  go_wp2_with fail
  obtain ⟨w5, e5, T2, hs5⟩ := set4 R (.int .i64 0) (.int .i64 0) (.slice none 0 0) (.slice none 0 0)
  rw [e5]
  clear e5 r0 r1 r2 r3 z0 z1 z2 z3 ltR
  obtain ⟨t0, t1, t2, t3, -, -, -, -, -⟩ := T2.all4
  have hzB5 := hB.size
  have hB5 := hB.trans (hs5.below (B := w.heap.size) (by omega) (fun y hy => by omega))
  refine bodyPost_ret (v := .tuple #[.agg #[.int .i64 0, .int .i64 0, .slice none 0 0, .slice none 0 0], .int .i64 1]) (by simp [results, Try.results8, go_sem, t0, t1, t2, t3]) rfl ?_
  rw [HG1.out.1, HG1.out.1, HG1.out.2.1, HG1.out.2.2, HG0.out.2]
  exact ⟨none, 0, none, 0, rfl, nil_au, hB5⟩
 have H2 := Lib.hid h2
 clear h2
 go_wp2_with fail
 refine (within_B _ _ _ _).mono ?_
 rintro f w6 ⟨rfl, hb⟩
 replace hB := Below.on hB hb hB.size
 replace R := R.below hb
 replace hA := hA.below hb
 replace hA' := hA'.below hb
 have hz6 := hb.size
 clear hb
 obtain ⟨v3, h3⟩ : ∃ v, inB k 1 3 = v := ⟨_, rfl⟩
 rw [h3]
 cases v3
 ·
  skip
  have hg0 := mix_rng (k := k) H1.out H2.out (fun q => by rw [h3] at q; cases q.1)
  have hg1 := mix_bad hg0.1
  have HG0 := Lib.hid hg0
  have HG1 := Lib.hid hg1
  clear hg0 hg1 h3 hA hA'
  obtain ⟨r0, r1, r2, r3, z0, z1, z2, z3, ltR⟩ := R.all4
  go_wp2_with fail
  obtain ⟨w5, e5, T2, hs5⟩ := set4 R (.int .i64 0) (.int .i64 0) (.slice none 0 0) (.slice none 0 0)
  rw [e5]
  clear e5 r0 r1 r2 r3 z0 z1 z2 z3 ltR
  obtain ⟨t0, t1, t2, t3, -, -, -, -, -⟩ := T2.all4
  have hzB5 := hB.size
  have hB5 := hB.trans (hs5.below (B := w.heap.size) (by omega) (fun y hy => by omega))
  refine bodyPost_ret (v := .tuple #[.agg #[.int .i64 0, .int .i64 0, .slice none 0 0, .slice none 0 0], .int .i64 2]) (by simp [results, Try.results8, go_sem, t0, t1, t2, t3]) rfl ?_
  rw [HG1.out.1, HG1.out.1, HG1.out.2.1, HG1.out.2.2, HG0.out.2]
  exact ⟨none, 0, none, 0, rfl, nil_au, hB5⟩
 have H3 := Lib.hid h3
 clear h3
 obtain ⟨g0, g1, g2, g3, -, -⟩ := id hA
 obtain ⟨k0, k1, k2, k3, -, -⟩ := id hA'
 by_cases ht : t = t'
 rotate_left
 ·
  have hs : (t == t') = false := by simpa using ht
  have Hs := Lib.hid (fun q : inB k 1 3 = true ∧ t = t' ∧ a = a' => ht q.2.1)
  have hg0 := mix_rng (k := k) H1.out H2.out Hs.out
  have hg1 := mix_bad hg0.1
  have HG0 := Lib.hid hg0
  have HG1 := Lib.hid hg1
  clear hg0 hg1 hA hA'
  obtain ⟨r0, r1, r2, r3, z0, z1, z2, z3, ltR⟩ := R.all4
  go_wp2_with fail
  obtain ⟨w5, e5, T2, hs5⟩ := set4 R (.int .i64 0) (.int .i64 0) (.slice none 0 0) (.slice none 0 0)
  rw [e5]
  clear e5 r0 r1 r2 r3 z0 z1 z2 z3 ltR
  obtain ⟨t0, t1, t2, t3, -, -, -, -, -⟩ := T2.all4
  have hzB5 := hB.size
  have hB5 := hB.trans (hs5.below (B := w.heap.size) (by omega) (fun y hy => by omega))
  refine bodyPost_ret (v := .tuple #[.agg #[.int .i64 0, .int .i64 0, .slice none 0 0, .slice none 0 0], .int .i64 2]) (by simp [results, Try.results8, go_sem, t0, t1, t2, t3]) rfl ?_
  rw [HG1.out.1, HG1.out.1, HG1.out.2.1, HG1.out.2.2, HG0.out.2]
  exact ⟨none, 0, none, 0, rfl, nil_au, hB5⟩
 subst ht
 by_cases ha : a = a'
 rotate_left
 ·
  have hs : (a == a') = false := by simpa using ha
  have Hs := Lib.hid (fun q : inB k 1 3 = true ∧ t = t ∧ a = a' => ha q.2.2)
  have hg0 := mix_rng (k := k) H1.out H2.out Hs.out
  have hg1 := mix_bad hg0.1
  have HG0 := Lib.hid hg0
  have HG1 := Lib.hid hg1
  clear hg0 hg1 hA hA'
  obtain ⟨r0, r1, r2, r3, z0, z1, z2, z3, ltR⟩ := R.all4
  go_wp2_with fail
  obtain ⟨w5, e5, T2, hs5⟩ := set4 R (.int .i64 0) (.int .i64 0) (.slice none 0 0) (.slice none 0 0)
  rw [e5]
  clear e5 r0 r1 r2 r3 z0 z1 z2 z3 ltR
  obtain ⟨t0, t1, t2, t3, -, -, -, -, -⟩ := T2.all4
  have hzB5 := hB.size
  have hB5 := hB.trans (hs5.below (B := w.heap.size) (by omega) (fun y hy => by omega))
  refine bodyPost_ret (v := .tuple #[.agg #[.int .i64 0, .int .i64 0, .slice none 0 0, .slice none 0 0], .int .i64 2]) (by simp [results, Try.results8, go_sem, t0, t1, t2, t3]) rfl ?_
  rw [HG1.out.1, HG1.out.1, HG1.out.2.1, HG1.out.2.2, HG0.out.2]
  exact ⟨none, 0, none, 0, rfl, nil_au, hB5⟩
 subst ha
 have HG := Lib.hid (show MixG t a t a k ac bc nx ny from ⟨H1.out, H2.out, H3.out, rfl, rfl⟩)
 go_wp2_with fail
 clear g0 g1 g2 g3 k0 k1 k2 k3
 refine (mixAutomata_i (mix := k) (Rds.mk2 hA.2.2.2.2.1 hA.2.2.2.2.2) (Rds.mk2 hA'.2.2.2.2.1 hA'.2.2.2.2.2) (autB_true.1 H1.out) (autB_true.1 H2.out)).mono ?_
 rintro f w7 ⟨s1, c1, s2, c2, rfl, hf, hb⟩
 have hB7 := Below.on hB hb hB.size
 have R7 := R.below hb
 have Hf := Lib.hid hf
 have hz7 := hb.size
 obtain ⟨e1, e2, e3, e4⟩ := mix_good HG.out
 have E0 := Lib.hid (e1 t)
 have E1 := Lib.hid (e1 a)
 have E2 := Lib.hid e2
 have E3 := Lib.hid e3
 have E4 := Lib.hid e4
 clear hb hf hA hA' hB R e1 e2 e3 e4
 generalize mxT nx ny (atomsN t).toNat a.toNat t = T1 at *
 generalize mxT nx ny (atomsN t).toNat a.toNat a = T2 at *
 generalize mxA k ac bc nx ny (atomsN t).toNat a.toNat = RA at *
 generalize mxX nx ny (atomsN t).toNat a.toNat = RX at *
 generalize mxC nx ny (atomsN t).toNat a.toNat = RC at *
 obtain ⟨r0, r1, r2, r3, z0, z1, z2, z3, ltR⟩ := R7.all4
 go_wp2_with fail
 obtain ⟨w8, e8, T2', hs5⟩ := set4 R7 (.int .i64 T1) (.int .i64 T2) (.slice s1 RA.length c1) (.slice s2 RX.length c2)
 rw [e8]
 clear e8 r0 r1 r2 r3 z0 z1 z2 z3 ltR
 obtain ⟨t0, t1, t2, t3, -, -, -, -, -⟩ := T2'.all4
 have hzB5 := hB7.size
 refine bodyPost_ret (v := .tuple #[.agg #[.int .i64 T1, .int .i64 T2, .slice s1 RA.length c1, .slice s2 RX.length c2], .int .i64 RC]) (by simp [results, Try.results8, go_sem, t0, t1, t2, t3]) rfl ?_
 rw [E0.out, E1.out, E2.out, E3.out, E4.out]
 exact ⟨s1, c1, s2, c2, rfl, (Hf.out.keep fun b hb1 hb2 => hs5.block b hb2 (fun hy => by omega)).from (w0 := w) (by omega), hB7.trans (hs5.below (B := w.heap.size) (by omega) (fun y hy => by omega))⟩
end Go.Proofs.Ytfhlddbngjlhbaa

namespace Go.Proofs.Ytfhlddbngjlhbaa
set_option linter.unusedVariables false
set_option linter.unusedSimpArgs false
open Go.ChangeShapes Go.WideShapes Go.ChangeAt Go.RowKit Go.Deep
set_option maxRecDepth 100000 in
set_option maxHeartbeats 8000000 in
theorem specMixAutomata_i {t a t' a' k : Int} {ac bc : List (List Bool)} {nx ny : List (List (List Int))} {s u s' u' : Option Addr} {c d c' d' : Nat} {w : World} (hr : Rd w (bbD ac) (.slice s ac.length c)) (hq : Rd w (iiiD nx) (.slice u nx.length d)) (hr' : Rd w (bbD bc) (.slice s' bc.length c')) (hq' : Rd w (iiiD ny) (.slice u' ny.length d')) :
  Calls Try.prog 6 #[.agg #[.int .i64 t, .int .i64 a, .slice s ac.length c, .slice u nx.length d], .agg #[.int .i64 t', .int .i64 a', .slice s' bc.length c', .slice u' ny.length d'], .int .i64 k] w fun e w' => ∃ s1 c1 s2 c2, e = .returned (.tuple #[.agg #[.int .i64 (mixT t a t' a' k ac bc nx ny t), .int .i64 (mixT t a t' a' k ac bc nx ny a), .slice s1 (mixA t a t' a' k ac bc nx ny).length c1, .slice s2 (mixX t a t' a' k ac bc nx ny).length c2], .int .i64 (mixC t a t' a' k ac bc nx ny)]) ∧
   Freshs w w' (autD (mixA t a t' a' k ac bc nx ny) (mixX t a t' a' k ac bc nx ny)) [.slice s1 (mixA t a t' a' k ac bc nx ny).length c1, .slice s2 (mixX t a t' a' k ac bc nx ny).length c2] ∧ Below w.heap.size w w' := by
 go_enter Try.func6, Try.ntmps6
 have hb1 : Below w.heap.size w (w.alloc (.cells #[.int .i64 t, .int .i64 a, .slice s ac.length c, .slice u nx.length d] 31)) := Below.alloc (Below.refl _ _) (Nat.le_refl _) _
 go_upto_region 1 with fail
 obtain ⟨w1, e1, X, hb1, hz1⟩ := box4 w 31 (.int .i64 t) (.int .i64 a) (.slice s ac.length c) (.slice u nx.length d)
 rw [e1]
 obtain ⟨w2, e2, Y, hb2, hz2⟩ := box4 w1 31 (.int .i64 t') (.int .i64 a') (.slice s' bc.length c') (.slice u' ny.length d')
 rw [e2]
 obtain ⟨w3, e3, R, hb3, hz3⟩ := box4 w2 31 (.int .i64 0) (.int .i64 0) (.slice none 0 0) (.slice none 0 0)
 rw [e3]
 rw [hz1] at Y
 rw [hz2, hz1] at R
 have hB : Below w.heap.size w w3 := (hb1.trans (hb2.mono (by omega))).trans (hb3.mono (by omega))
 replace X := (X.below hb2).below hb3
 replace Y := Y.below hb3
 have hA := X.autAt' (hr.below hB) (hq.below hB)
 have hA' := Y.autAt' (hr'.below hB) (hq'.below hB)
 have hz : w3.heap.size = w.heap.size + 1 + 1 + 1 := by omega
 clear e1 e2 e3 hb1 hb2 hb3 hz1 hz2 hz3 hr hq hr' hq' X Y
 obtain ⟨g0, g1, g2, g3, -, -⟩ := id hA
 obtain ⟨k0, k1, k2, k3, -, -⟩ := id hA'
 go_wp2_with fail
 refine (l02Ok_i hA).mono ?_
 rintro f w4 ⟨rfl, hb⟩
 clear g0 g1 g2 g3 k0 k1 k2 k3
 replace hB := Below.on hB hb hB.size
 replace R := R.below hb
 replace hA := hA.below hb
 replace hA' := hA'.below hb
 have hz4 := hb.size
 clear hb
 obtain ⟨v1, h1⟩ : ∃ v, autB t a ac nx = v := ⟨_, rfl⟩
 rw [h1]
 cases v1
 ·
  skip
  have hg0 := mix_inv (t' := t') (a' := a') (k := k) (bc := bc) (ny := ny) (fun q => by rw [h1] at q; cases q.1)
  have hg1 := mix_bad hg0.1
  have HG0 := Lib.hid hg0
  have HG1 := Lib.hid hg1
  clear hg0 hg1 h1 hA hA'
  obtain ⟨r0, r1, r2, r3, z0, z1, z2, z3, ltR⟩ := R.all4
  go_wp2_with fail
  obtain ⟨w5, e5, T2, hs5⟩ := set4 R (.int .i64 0) (.int .i64 0) (.slice none 0 0) (.slice none 0 0)
  rw [e5]
  clear e5 r0 r1 r2 r3 z0 z1 z2 z3 ltR
  obtain ⟨t0, t1, t2, t3, -, -, -, -, -⟩ := T2.all4
  have hzB5 := hB.size
  have hB5 := hB.trans (hs5.below (B := w.heap.size) (by omega) (fun y hy => by omega))
  refine bodyPost_ret (v := .tuple #[.agg #[.int .i64 0, .int .i64 0, .slice none 0 0, .slice none 0 0], .int .i64 1]) (by simp [results, Try.results6, go_sem, t0, t1, t2, t3]) rfl ?_
  rw [HG1.out.1, HG1.out.1, HG1.out.2.1, HG1.out.2.2, HG0.out.2]
  exact ⟨none, 0, none, 0, rfl, nil_au, hB5⟩
 have H1 := Lib.hid h1
 clear h1
 obtain ⟨k0, k1, k2, k3, -, -⟩ := id hA'
 go_wp2_with fail
 refine (l02Ok_i hA').mono ?_
 rintro f w5 ⟨rfl, hb⟩
 clear k0 k1 k2 k3
 replace hB := Below.on hB hb hB.size
 replace R := R.below hb
 replace hA := hA.below hb
 replace hA' := hA'.below hb
 have hz5 := hb.size
 clear hb
 obtain ⟨v2, h2⟩ : ∃ v, autB t' a' bc ny = v := ⟨_, rfl⟩
 rw [h2]
 cases v2
 ·
  skip
  have hg0 := mix_inv (t := t) (a := a) (k := k) (ac := ac) (nx := nx) (fun q => by rw [h2] at q; cases q.2)
  have hg1 := mix_bad hg0.1
  have HG0 := Lib.hid hg0
  have HG1 := Lib.hid hg1
  clear hg0 hg1 h2 hA hA'
  obtain ⟨r0, r1, r2, r3, z0, z1, z2, z3, ltR⟩ := R.all4
  go_wp2_with fail
  obtain ⟨w5, e5, T2, hs5⟩ := set4 R (.int .i64 0) (.int .i64 0) (.slice none 0 0) (.slice none 0 0)
  rw [e5]
  clear e5 r0 r1 r2 r3 z0 z1 z2 z3 ltR
  obtain ⟨t0, t1, t2, t3, -, -, -, -, -⟩ := T2.all4
  have hzB5 := hB.size
  have hB5 := hB.trans (hs5.below (B := w.heap.size) (by omega) (fun y hy => by omega))
  refine bodyPost_ret (v := .tuple #[.agg #[.int .i64 0, .int .i64 0, .slice none 0 0, .slice none 0 0], .int .i64 1]) (by simp [results, Try.results6, go_sem, t0, t1, t2, t3]) rfl ?_
  rw [HG1.out.1, HG1.out.1, HG1.out.2.1, HG1.out.2.2, HG0.out.2]
  exact ⟨none, 0, none, 0, rfl, nil_au, hB5⟩
 have H2 := Lib.hid h2
 clear h2
 go_wp2_with fail
 refine (in_B _ _ _ _).mono ?_
 rintro f w6 ⟨rfl, hb⟩
 replace hB := Below.on hB hb hB.size
 replace R := R.below hb
 replace hA := hA.below hb
 replace hA' := hA'.below hb
 have hz6 := hb.size
 clear hb
 obtain ⟨v3, h3⟩ : ∃ v, inB k 1 3 = v := ⟨_, rfl⟩
 rw [h3]
 cases v3
 ·
  skip
  have hg0 := mix_rng (k := k) H1.out H2.out (fun q => by rw [h3] at q; cases q.1)
  have hg1 := mix_bad hg0.1
  have HG0 := Lib.hid hg0
  have HG1 := Lib.hid hg1
  clear hg0 hg1 h3 hA hA'
  obtain ⟨r0, r1, r2, r3, z0, z1, z2, z3, ltR⟩ := R.all4
  go_wp2_with fail
  obtain ⟨w5, e5, T2, hs5⟩ := set4 R (.int .i64 0) (.int .i64 0) (.slice none 0 0) (.slice none 0 0)
  rw [e5]
  clear e5 r0 r1 r2 r3 z0 z1 z2 z3 ltR
  obtain ⟨t0, t1, t2, t3, -, -, -, -, -⟩ := T2.all4
  have hzB5 := hB.size
  have hB5 := hB.trans (hs5.below (B := w.heap.size) (by omega) (fun y hy => by omega))
  refine bodyPost_ret (v := .tuple #[.agg #[.int .i64 0, .int .i64 0, .slice none 0 0, .slice none 0 0], .int .i64 2]) (by simp [results, Try.results6, go_sem, t0, t1, t2, t3]) rfl ?_
  rw [HG1.out.1, HG1.out.1, HG1.out.2.1, HG1.out.2.2, HG0.out.2]
  exact ⟨none, 0, none, 0, rfl, nil_au, hB5⟩
 have H3 := Lib.hid h3
 clear h3
 obtain ⟨g0, g1, g2, g3, -, -⟩ := id hA
 obtain ⟨k0, k1, k2, k3, -, -⟩ := id hA'
 by_cases ht : t = t'
 rotate_left
 ·
  have hs : (t == t') = false := by simpa using ht
  have Hs := Lib.hid (fun q : inB k 1 3 = true ∧ t = t' ∧ a = a' => ht q.2.1)
  have hg0 := mix_rng (k := k) H1.out H2.out Hs.out
  have hg1 := mix_bad hg0.1
  have HG0 := Lib.hid hg0
  have HG1 := Lib.hid hg1
  clear hg0 hg1 hA hA'
  obtain ⟨r0, r1, r2, r3, z0, z1, z2, z3, ltR⟩ := R.all4
  go_wp2_with fail
  obtain ⟨w5, e5, T2, hs5⟩ := set4 R (.int .i64 0) (.int .i64 0) (.slice none 0 0) (.slice none 0 0)
  rw [e5]
  clear e5 r0 r1 r2 r3 z0 z1 z2 z3 ltR
  obtain ⟨t0, t1, t2, t3, -, -, -, -, -⟩ := T2.all4
  have hzB5 := hB.size
  have hB5 := hB.trans (hs5.below (B := w.heap.size) (by omega) (fun y hy => by omega))
  refine bodyPost_ret (v := .tuple #[.agg #[.int .i64 0, .int .i64 0, .slice none 0 0, .slice none 0 0], .int .i64 2]) (by simp [results, Try.results6, go_sem, t0, t1, t2, t3]) rfl ?_
  rw [HG1.out.1, HG1.out.1, HG1.out.2.1, HG1.out.2.2, HG0.out.2]
  exact ⟨none, 0, none, 0, rfl, nil_au, hB5⟩
 subst ht
 by_cases ha : a = a'
 rotate_left
 ·
  have hs : (a == a') = false := by simpa using ha
  have Hs := Lib.hid (fun q : inB k 1 3 = true ∧ t = t ∧ a = a' => ha q.2.2)
  have hg0 := mix_rng (k := k) H1.out H2.out Hs.out
  have hg1 := mix_bad hg0.1
  have HG0 := Lib.hid hg0
  have HG1 := Lib.hid hg1
  clear hg0 hg1 hA hA'
  obtain ⟨r0, r1, r2, r3, z0, z1, z2, z3, ltR⟩ := R.all4
  go_wp2_with fail
  obtain ⟨w5, e5, T2, hs5⟩ := set4 R (.int .i64 0) (.int .i64 0) (.slice none 0 0) (.slice none 0 0)
  rw [e5]
  clear e5 r0 r1 r2 r3 z0 z1 z2 z3 ltR
  obtain ⟨t0, t1, t2, t3, -, -, -, -, -⟩ := T2.all4
  have hzB5 := hB.size
  have hB5 := hB.trans (hs5.below (B := w.heap.size) (by omega) (fun y hy => by omega))
  refine bodyPost_ret (v := .tuple #[.agg #[.int .i64 0, .int .i64 0, .slice none 0 0, .slice none 0 0], .int .i64 2]) (by simp [results, Try.results6, go_sem, t0, t1, t2, t3]) rfl ?_
  rw [HG1.out.1, HG1.out.1, HG1.out.2.1, HG1.out.2.2, HG0.out.2]
  exact ⟨none, 0, none, 0, rfl, nil_au, hB5⟩
 subst ha
 have HG := Lib.hid (show MixG t a t a k ac bc nx ny from ⟨H1.out, H2.out, H3.out, rfl, rfl⟩)
 go_wp2_with fail
 clear g0 g1 g2 g3 k0 k1 k2 k3
 refine (l02Mix_i (mix := k) hA hA' (autB_true.1 H1.out) (autB_true.1 H2.out)).mono ?_
 rintro f w7 ⟨s1, c1, s2, c2, rfl, hf, hb⟩
 have hB7 := Below.on hB hb hB.size
 have R7 := R.below hb
 have Hf := Lib.hid hf
 have hz7 := hb.size
 obtain ⟨e1, e2, e3, e4⟩ := mix_good HG.out
 have E0 := Lib.hid (e1 t)
 have E1 := Lib.hid (e1 a)
 have E2 := Lib.hid e2
 have E3 := Lib.hid e3
 have E4 := Lib.hid e4
 clear hb hf hA hA' hB R e1 e2 e3 e4
 generalize mxT nx ny (atomsN t).toNat a.toNat t = T1 at *
 generalize mxT nx ny (atomsN t).toNat a.toNat a = T2 at *
 generalize mxA k ac bc nx ny (atomsN t).toNat a.toNat = RA at *
 generalize mxX nx ny (atomsN t).toNat a.toNat = RX at *
 generalize mxC nx ny (atomsN t).toNat a.toNat = RC at *
 obtain ⟨r0, r1, r2, r3, z0, z1, z2, z3, ltR⟩ := R7.all4
 go_wp2_with fail
 obtain ⟨w8, e8, T2', hs5⟩ := set4 R7 (.int .i64 T1) (.int .i64 T2) (.slice s1 RA.length c1) (.slice s2 RX.length c2)
 rw [e8]
 clear e8 r0 r1 r2 r3 z0 z1 z2 z3 ltR
 obtain ⟨t0, t1, t2, t3, -, -, -, -, -⟩ := T2'.all4
 have hzB5 := hB7.size
 refine bodyPost_ret (v := .tuple #[.agg #[.int .i64 T1, .int .i64 T2, .slice s1 RA.length c1, .slice s2 RX.length c2], .int .i64 RC]) (by simp [results, Try.results6, go_sem, t0, t1, t2, t3]) rfl ?_
 rw [E0.out, E1.out, E2.out, E3.out, E4.out]
 exact ⟨s1, c1, s2, c2, rfl, (Hf.out.keep fun b hb1 hb2 => hs5.block b hb2 (fun hy => by omega)).from (w0 := w) (by omega), hB7.trans (hs5.below (B := w.heap.size) (by omega) (fun y hy => by omega))⟩
end Go.Proofs.Ytfhlddbngjlhbaa

namespace Go.Proofs.Ytfhlddbngjlhbaa
set_option linter.unusedVariables false
set_option linter.unusedSimpArgs false
open Go.ChangeShapes Go.WideShapes Go.ChangeAt Go.RowKit Go.Deep
theorem ok_marks {t a : Int} {ac : List (List Bool)} {nx : List (List (List Int))} (hA : AutOk t a ac nx) : (bbD ac).marks + (iiiD nx).marks ≤ 2400 := by
 obtain ⟨d1, d2, d3, d4⟩ := hA.dims
 have h60 := hA.hi
 have hl := hA.len
 have h1 : (bbD ac).marks ≤ 60 * 8 := nest_marks_le (fun x hx => by
  obtain ⟨i, hi⟩ := List.mem_iff_getElem?.1 hx
  have := hA.acc_row hi
  rw [bools_marks]
  omega) h60
 have h2 : (iiiD nx).marks ≤ 60 * (8 * (4 * 1)) := nest_marks_le (fun x hx => by
  obtain ⟨i, hi⟩ := List.mem_iff_getElem?.1 hx
  obtain ⟨r1, r2⟩ := hA.row hi
  refine nest_marks_le (fun row hrow => ?_) (by omega)
  obtain ⟨j, hj⟩ := List.mem_iff_getElem?.1 hrow
  have := (r2 j row hj).1
  exact nest_marks_le (fun z _ => by simp [D.marks]) (by omega)) (by omega)
 omega
theorem nil_marks : (bbD []).marks + (iiiD []).marks ≤ 2400 := by simp [bbD, iiiD, nestD, D.marks, D.marksL]
theorem mix_marks (t a t' a' k : Int) (ac bc : List (List Bool)) (nx ny : List (List (List Int))) : (bbD (mixA t a t' a' k ac bc nx ny)).marks + (iiiD (mixX t a t' a' k ac bc nx ny)).marks ≤ 2400 := by
 by_cases h : MixG t a t' a' k ac bc nx ny
 ·
  obtain ⟨-, e2, e3, -⟩ := mix_good h
  rw [e2, e3]
  obtain ⟨s1, s2⟩ := h.sig
  have h1 := autB_true.1 h.one
  have h2 := autB_true.1 h.two
  rw [← s1, ← s2] at h2
  by_cases hok : mxOk nx ny (atomsN t).toNat a.toNat
  ·
   exact ok_marks (mix_ok h1 h2 hok)
  ·
   obtain ⟨-, f2, f3, -⟩ := mx_no (k := k) (ac := ac) (bc := bc) hok
   rw [f2, f3]
   exact nil_marks
 ·
  obtain ⟨-, e2, e3⟩ := mix_bad h
  rw [e2, e3]
  exact nil_marks
end Go.Proofs.Ytfhlddbngjlhbaa

namespace Go.Proofs.Ytfhlddbngjlhbaa
set_option linter.unusedVariables false
set_option linter.unusedSimpArgs false
open Go.ChangeShapes Go.WideShapes Go.ChangeAt Go.RowKit Go.Deep Go.Sort
theorem accL_congr {α : Type} {f g : α → Nat} (h : ∀ x, f x = g x) : ∀ xs : List α, accL f xs = accL g xs
 | [] => rfl
 | x :: r => by simp only [accL]; rw [h x, accL_congr h r]
theorem accL_mono {α : Type} {f g : α → Nat} (h : ∀ x, f x ≤ g x) : ∀ xs : List α, accL f xs ≤ accL g xs
 | [] => Nat.le_refl _
 | x :: r => by have := h x; have := accL_mono h r; simp only [accL]; omega
theorem ints_marks' : ∀ zs : List Int, (intsD zs).marks = zs.length := by
 intro zs
 show D.marksL (zs.map D.int) = zs.length
 induction zs with
 | nil => rfl
 | cons z r ih => simp only [List.map_cons, D.marksL, D.marks, ih, List.length_cons]; omega
theorem marks_cntA (ac : List (List Bool)) (nx : List (List (List Int))) : (bbD ac).marks + (iiiD nx).marks ≤ cntA ac nx := by
 have h1 : (bbD ac).marks = accL List.length ac := by
  show D.marksL (ac.map boolsD) = _
  rw [marksL_map]
  exact accL_congr bools_marks ac
 have h2 : (iiiD nx).marks ≤ accL cntII nx := by
  show D.marksL (nx.map iiD) ≤ _
  rw [marksL_map]
  refine accL_mono (fun x => ?_) nx
  show D.marksL (x.map intsD) ≤ _
  rw [marksL_map, accL_congr ints_marks' x]
  unfold cntII
  omega
 unfold cntA
 omega
end Go.Proofs.Ytfhlddbngjlhbaa
