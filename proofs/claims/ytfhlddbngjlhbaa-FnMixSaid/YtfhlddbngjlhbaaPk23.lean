/-
  Parts of a proof, joined: MixT, Mxl. No condition.
-/
import Derived.Test.YtfhlddbngjlhbaaPk22
namespace Go.Proofs.Ytfhlddbngjlhbaa
set_option linter.unusedVariables false
set_option linter.unusedSimpArgs false
open Go.ChangeShapes Go.WideShapes Go.ChangeAt Go.RowKit Go.Deep
structure MixG (t a t' a' k : Int) (ac bc : List (List Bool)) (nx ny : List (List (List Int))) : Prop where
 one : autB t a ac nx = true
 two : autB t' a' bc ny = true
 rng : inB k 1 3 = true
 sig : t = t' ∧ a = a'
section
variable (t a t' a' k : Int) (ac bc : List (List Bool)) (nx ny : List (List (List Int)))
open Classical in
noncomputable def mixT (v : Int) : Int := if MixG t a t' a' k ac bc nx ny then mxT nx ny (atomsN t).toNat a.toNat v else 0
open Classical in
noncomputable def mixA : List (List Bool) := if MixG t a t' a' k ac bc nx ny then mxA k ac bc nx ny (atomsN t).toNat a.toNat else []
open Classical in
noncomputable def mixX : List (List (List Int)) := if MixG t a t' a' k ac bc nx ny then mxX nx ny (atomsN t).toNat a.toNat else []
open Classical in
noncomputable def mixC : Int := if autB t a ac nx = true ∧ autB t' a' bc ny = true then (if MixG t a t' a' k ac bc nx ny then mxC nx ny (atomsN t).toNat a.toNat else 2) else 1
end
section
variable {t a t' a' k : Int} {ac bc : List (List Bool)} {nx ny : List (List (List Int))}
theorem mix_bad (h : ¬ MixG t a t' a' k ac bc nx ny) : (∀ v, mixT t a t' a' k ac bc nx ny v = 0) ∧ mixA t a t' a' k ac bc nx ny = [] ∧ mixX t a t' a' k ac bc nx ny = [] :=
 ⟨fun v => by unfold mixT; rw [if_neg h], by unfold mixA; rw [if_neg h], by unfold mixX; rw [if_neg h]⟩
theorem mix_inv (h : ¬ (autB t a ac nx = true ∧ autB t' a' bc ny = true)) : ¬ MixG t a t' a' k ac bc nx ny ∧ mixC t a t' a' k ac bc nx ny = 1 :=
 ⟨fun g => h ⟨g.one, g.two⟩, by unfold mixC; rw [if_neg h]⟩
theorem mix_rng (h1 : autB t a ac nx = true) (h2 : autB t' a' bc ny = true) (h : ¬ (inB k 1 3 = true ∧ t = t' ∧ a = a')) : ¬ MixG t a t' a' k ac bc nx ny ∧ mixC t a t' a' k ac bc nx ny = 2 := by
 have hg : ¬ MixG t a t' a' k ac bc nx ny := fun g => h ⟨g.rng, g.sig⟩
 exact ⟨hg, by unfold mixC; rw [if_pos ⟨h1, h2⟩, if_neg hg]⟩
theorem mix_good (h : MixG t a t' a' k ac bc nx ny) : (∀ v, mixT t a t' a' k ac bc nx ny v = mxT nx ny (atomsN t).toNat a.toNat v) ∧ mixA t a t' a' k ac bc nx ny = mxA k ac bc nx ny (atomsN t).toNat a.toNat ∧ mixX t a t' a' k ac bc nx ny = mxX nx ny (atomsN t).toNat a.toNat ∧ mixC t a t' a' k ac bc nx ny = mxC nx ny (atomsN t).toNat a.toNat :=
 ⟨fun v => by unfold mixT; rw [if_pos h], by unfold mixA; rw [if_pos h], by unfold mixX; rw [if_pos h], by unfold mixC; rw [if_pos ⟨h.one, h.two⟩, if_pos h]⟩
end
theorem Rds.mk2 {w : World} {d e : D} {u v : Value} (h : Rd w d u) (k : Rd w e v) : Rds w [d, e] [u, v] := by simp only [Rds]; exact ⟨u, [v], rfl, h, v, [], rfl, k, rfl⟩
set_option maxRecDepth 100000 in
set_option maxHeartbeats 8000000 in
theorem implMixAutomata_i {t a t' a' k : Int} {ac bc : List (List Bool)} {nx ny : List (List (List Int))} {s u s' u' : Option Addr} {c d c' d' : Nat} {w : World} (hr : Rd w (bbD ac) (.slice s ac.length c)) (hq : Rd w (iiiD nx) (.slice u nx.length d)) (hr' : Rd w (bbD bc) (.slice s' bc.length c')) (hq' : Rd w (iiiD ny) (.slice u' ny.length d')) :
  Calls Try.prog 8 #[.agg #[.int .i64 t, .int .i64 a, .slice s ac.length c, .slice u nx.length d], .agg #[.int .i64 t', .int .i64 a', .slice s' bc.length c', .slice u' ny.length d'], .int .i64 k] w fun e w' => ∃ s1 c1 s2 c2, e = .returned (.tuple #[.agg #[.int .i64 (mixT t a t' a' k ac bc nx ny t), .int .i64 (mixT t a t' a' k ac bc nx ny a), .slice s1 (mixA t a t' a' k ac bc nx ny).length c1, .slice s2 (mixX t a t' a' k ac bc nx ny).length c2], .int .i64 (mixC t a t' a' k ac bc nx ny)]) ∧
   Freshs w w' (autD (mixA t a t' a' k ac bc nx ny) (mixX t a t' a' k ac bc nx ny)) [.slice s1 (mixA t a t' a' k ac bc nx ny).length c1, .slice s2 (mixX t a t' a' k ac bc nx ny).length c2] ∧ Below w.heap.size w w' := by
 go_enter Try.func8, Try.ntmps8
 have hb1 : Below w.heap.size w (w.alloc (.cells #[.int .i64 t, .int .i64 a, .slice s ac.length c, .slice u nx.length d] 31)) := Below.alloc (Below.refl _ _) (Nat.le_refl _) _
 go_upto_region 1 with fail
 obtain ⟨w1, e1, X, hb1, hz1⟩ := box4 w 31 (.int .i64 t) (.int .i64 a) (.slice s ac.length c) (.slice u nx.length d)
 rw [e1]
 obtain ⟨w2, e2, Y, hb2, hz2⟩ := box4 w1 31 (.int .i64 t') (.int .i64 a') (.slice s' bc.length c') (.slice u' ny.length d')
 rw [e2]
 obtain ⟨w3, e3, R, hb3, hz3⟩ := box4 w2 31 (.int .i64 0) (.int .i64 0) (.slice none 0 0) (.slice none 0 0)
 rw [e3]
 rw [hz1] at Y
 rw [hz2, hz1] at R
 have hB : Below w.heap.size w w3 := (hb1.trans (hb2.mono (by omega))).trans (hb3.mono (by omega))
 replace X := (X.below hb2).below hb3
 replace Y := Y.below hb3
 have hA := X.autAt' (hr.below hB) (hq.below hB)
 have hA' := Y.autAt' (hr'.below hB) (hq'.below hB)
 have hz : w3.heap.size = w.heap.size + 1 + 1 + 1 := by omega
 clear e1 e2 e3 hb1 hb2 hb3 hz1 hz2 hz3 hr hq hr' hq' X Y
 obtain ⟨g0, g1, g2, g3, -, -⟩ := id hA
 obtain ⟨k0, k1, k2, k3, -, -⟩ := id hA'
 go_wp2_with fail
 refine (implValidAutomaton_i hA.2.2.2.2.1 hA.2.2.2.2.2).mono ?_
 rintro f w4 ⟨rfl, hb⟩
 clear g0 g1 g2 g3 k0 k1 k2 k3
 replace hB := Below.on hB hb hB.size
 replace R := R.below hb
 replace hA := hA.below hb
 replace hA' := hA'.below hb
 have hz4 := hb.size
 clear hb
 obtain ⟨v1, h1⟩ : ∃ v, autB t a ac nx = v := ⟨_, rfl⟩
 rw [h1]
 cases v1
 ·
  skip
  have hg0 := mix_inv (t' := t') (a' := a') (k := k) (bc := bc) (ny := ny) (fun q => by rw [h1] at q; cases q.1)
  have hg1 := mix_bad hg0.1
  have HG0 := Lib.hid hg0
  have HG1 := Lib.hid hg1
  clear hg0 hg1 h1 hA hA'
  obtain ⟨r0, r1, r2, r3, z0, z1, z2, z3, ltR⟩ := R.all4
  go_wp2_with fail
  obtain ⟨w5, e5, T2, hs5⟩ := set4 R (.int .i64 0) (.int .i64 0) (.slice none 0 0) (.slice none 0 0)
  rw [e5]
  clear e5 r0 r1 r2 r3 z0 z1 z2 z3 ltR
  obtain ⟨t0, t1, t2, t3, -, -, -, -, -⟩ := T2.all4
  have hzB5 := hB.size
  have hB5 := hB.trans (hs5.below (B := w.heap.size) (by omega) (fun y hy => by omega))
  refine bodyPost_ret (v := .tuple #[.agg #[.int .i64 0, .int .i64 0, .slice none 0 0, .slice none 0 0], .int .i64 1]) (by simp [results, Try.results8, go_sem, t0, t1, t2, t3]) rfl ?_
  rw [HG1.out.1, HG1.out.1, HG1.out.2.1, HG1.out.2.2, HG0.out.2]
  exact ⟨none, 0, none, 0, rfl, nil_au, hB5⟩
 have H1 := Lib.hid h1
 clear h1
 obtain ⟨k0, k1, k2, k3, -, -⟩ := id hA'
 go_wp2_with fail
 refine (implValidAutomaton_i hA'.2.2.2.2.1 hA'.2.2.2.2.2).mono ?_
 rintro f w5 ⟨rfl, hb⟩
 clear k0 k1 k2 k3
 replace hB := Below.on hB hb hB.size
 replace R := R.below hb
 replace hA := hA.below hb
 replace hA' := hA'.below hb
 have hz5 := hb.size
 clear hb
 obtain ⟨v2, h2⟩ : ∃ v, autB t' a' bc ny = v := ⟨_, rfl⟩
 rw [h2]
 cases v2
 ·
  skip
  have hg0 := mix_inv (t := t) (a := a) (k := k) (ac := ac) (nx := nx) (fun q => by rw [h2] at q; cases q.2)
  have hg1 := mix_bad hg0.1
  have HG0 := Lib.hid hg0
  have HG1 := Lib.hid hg1
  clear hg0 hg1 h2 hA hA'
  obtain ⟨r0, r1, r2, r3, z0, z1, z2, z3, ltR⟩ := R.all4
  go_wp2_with fail
  obtain ⟨w5, e5, T2, hs5⟩ := set4 R (.int .i64 0) (.int .i64 0) (.slice none 0 0) (.slice none 0 0)
  rw [e5]
  clear e5 r0 r1 r2 r3 z0 z1 z2 z3 ltR
  obtain ⟨t0, t1, t2, t3, -, -, -, -, -⟩ := T2.all4
  have hzB5 := hB.size
  have hB5 := hB.trans (hs5.below (B := w.heap.size) (by omega) (fun y hy => by omega))
  refine bodyPost_ret (v := .tuple #[.agg #[.int .i64 0, .int .i64 0, .slice none 0 0, .slice none 0 0], .int .i64 1]) (by simp [results, Try.results8, go_sem, t0, t1, t2, t3]) rfl ?_
  rw [HG1.out.1, HG1.out.1, HG1.out.2.1, HG1.out.2.2, HG0.out.2]
  exact ⟨none, 0, none, 0, rfl, nil_au, hB5⟩
 have H2 := Lib.hid h2
 clear h2
 go_wp2_with fail
 refine (within_B _ _ _ _).mono ?_
 rintro f w6 ⟨rfl, hb⟩
 replace hB := Below.on hB hb hB.size
 replace R := R.below hb
 replace hA := hA.below hb
 replace hA' := hA'.below hb
 have hz6 := hb.size
 clear hb
 obtain ⟨v3, h3⟩ : ∃ v, inB k 1 3 = v := ⟨_, rfl⟩
 rw [h3]
 cases v3
 ·
  skip
  have hg0 := mix_rng (k := k) H1.out H2.out (fun q => by rw [h3] at q; cases q.1)
  have hg1 := mix_bad hg0.1
  have HG0 := Lib.hid hg0
  have HG1 := Lib.hid hg1
  clear hg0 hg1 h3 hA hA'
  obtain ⟨r0, r1, r2, r3, z0, z1, z2, z3, ltR⟩ := R.all4
  go_wp2_with fail
  obtain ⟨w5, e5, T2, hs5⟩ := set4 R (.int .i64 0) (.int .i64 0) (.slice none 0 0) (.slice none 0 0)
  rw [e5]
  clear e5 r0 r1 r2 r3 z0 z1 z2 z3 ltR
  obtain ⟨t0, t1, t2, t3, -, -, -, -, -⟩ := T2.all4
  have hzB5 := hB.size
  have hB5 := hB.trans (hs5.below (B := w.heap.size) (by omega) (fun y hy => by omega))
  refine bodyPost_ret (v := .tuple #[.agg #[.int .i64 0, .int .i64 0, .slice none 0 0, .slice none 0 0], .int .i64 2]) (by simp [results, Try.results8, go_sem, t0, t1, t2, t3]) rfl ?_
  rw [HG1.out.1, HG1.out.1, HG1.out.2.1, HG1.out.2.2, HG0.out.2]
  exact ⟨none, 0, none, 0, rfl, nil_au, hB5⟩
 have H3 := Lib.hid h3
 clear h3
 obtain ⟨g0, g1, g2, g3, -, -⟩ := id hA
 obtain ⟨k0, k1, k2, k3, -, -⟩ := id hA'
 by_cases ht : t = t'
 rotate_left
 ·
  have hs : (t == t') = false := by simpa using ht
  have Hs := Lib.hid (fun q : inB k 1 3 = true ∧ t = t' ∧ a = a' => ht q.2.1)
  have hg0 := mix_rng (k := k) H1.out H2.out Hs.out
  have hg1 := mix_bad hg0.1
  have HG0 := Lib.hid hg0
  have HG1 := Lib.hid hg1
  clear hg0 hg1 hA hA'
  obtain ⟨r0, r1, r2, r3, z0, z1, z2, z3, ltR⟩ := R.all4
  go_wp2_with fail
  obtain ⟨w5, e5, T2, hs5⟩ := set4 R (.int .i64 0) (.int .i64 0) (.slice none 0 0) (.slice none 0 0)
  rw [e5]
  clear e5 r0 r1 r2 r3 z0 z1 z2 z3 ltR
  obtain ⟨t0, t1, t2, t3, -, -, -, -, -⟩ := T2.all4
  have hzB5 := hB.size
  have hB5 := hB.trans (hs5.below (B := w.heap.size) (by omega) (fun y hy => by omega))
  refine bodyPost_ret (v := .tuple #[.agg #[.int .i64 0, .int .i64 0, .slice none 0 0, .slice none 0 0], .int .i64 2]) (by simp [results, Try.results8, go_sem, t0, t1, t2, t3]) rfl ?_
  rw [HG1.out.1, HG1.out.1, HG1.out.2.1, HG1.out.2.2, HG0.out.2]
  exact ⟨none, 0, none, 0, rfl, nil_au, hB5⟩
 subst ht
 by_cases ha : a = a'
 rotate_left
 ·
  have hs : (a == a') = false := by simpa using ha
  have Hs := Lib.hid (fun q : inB k 1 3 = true ∧ t = t ∧ a = a' => ha q.2.2)
  have hg0 := mix_rng (k := k) H1.out H2.out Hs.out
  have hg1 := mix_bad hg0.1
  have HG0 := Lib.hid hg0
  have HG1 := Lib.hid hg1
  clear hg0 hg1 hA hA'
  obtain ⟨r0, r1, r2, r3, z0, z1, z2, z3, ltR⟩ := R.all4
  go_wp2_with fail
  obtain ⟨w5, e5, T2, hs5⟩ := set4 R (.int .i64 0) (.int .i64 0) (.slice none 0 0) (.slice none 0 0)
  rw [e5]
  clear e5 r0 r1 r2 r3 z0 z1 z2 z3 ltR
  obtain ⟨t0, t1, t2, t3, -, -, -, -, -⟩ := T2.all4
  have hzB5 := hB.size
  have hB5 := hB.trans (hs5.below (B := w.heap.size) (by omega) (fun y hy => by omega))
  refine bodyPost_ret (v := .tuple #[.agg #[.int .i64 0, .int .i64 0, .slice none 0 0, .slice none 0 0], .int .i64 2]) (by simp [results, Try.results8, go_sem, t0, t1, t2, t3]) rfl ?_
  rw [HG1.out.1, HG1.out.1, HG1.out.2.1, HG1.out.2.2, HG0.out.2]
  exact ⟨none, 0, none, 0, rfl, nil_au, hB5⟩
 subst ha
 have HG := Lib.hid (show MixG t a t a k ac bc nx ny from ⟨H1.out, H2.out, H3.out, rfl, rfl⟩)
 go_wp2_with fail
 clear g0 g1 g2 g3 k0 k1 k2 k3
 refine (mixAutomata_i (mix := k) (Rds.mk2 hA.2.2.2.2.1 hA.2.2.2.2.2) (Rds.mk2 hA'.2.2.2.2.1 hA'.2.2.2.2.2) (autB_true.1 H1.out) (autB_true.1 H2.out)).mono ?_
 rintro f w7 ⟨s1, c1, s2, c2, rfl, hf, hb⟩
 have hB7 := Below.on hB hb hB.size
 have R7 := R.below hb
 have Hf := Lib.hid hf
 have hz7 := hb.size
 obtain ⟨e1, e2, e3, e4⟩ := mix_good HG.out
 have E0 := Lib.hid (e1 t)
 have E1 := Lib.hid (e1 a)
 have E2 := Lib.hid e2
 have E3 := Lib.hid e3
 have E4 := Lib.hid e4
 clear hb hf hA hA' hB R e1 e2 e3 e4
 generalize mxT nx ny (atomsN t).toNat a.toNat t = T1 at *
 generalize mxT nx ny (atomsN t).toNat a.toNat a = T2 at *
 generalize mxA k ac bc nx ny (atomsN t).toNat a.toNat = RA at *
 generalize mxX nx ny (atomsN t).toNat a.toNat = RX at *
 generalize mxC nx ny (atomsN t).toNat a.toNat = RC at *
 obtain ⟨r0, r1, r2, r3, z0, z1, z2, z3, ltR⟩ := R7.all4
 go_wp2_with fail
 obtain ⟨w8, e8, T2', hs5⟩ := set4 R7 (.int .i64 T1) (.int .i64 T2) (.slice s1 RA.length c1) (.slice s2 RX.length c2)
 rw [e8]
 clear e8 r0 r1 r2 r3 z0 z1 z2 z3 ltR
 obtain ⟨t0, t1, t2, t3, -, -, -, -, -⟩ := T2'.all4
 have hzB5 := hB7.size
 refine bodyPost_ret (v := .tuple #[.agg #[.int .i64 T1, .int .i64 T2, .slice s1 RA.length c1, .slice s2 RX.length c2], .int .i64 RC]) (by simp [results, Try.results8, go_sem, t0, t1, t2, t3]) rfl ?_
 rw [E0.out, E1.out, E2.out, E3.out, E4.out]
 exact ⟨s1, c1, s2, c2, rfl, (Hf.out.keep fun b hb1 hb2 => hs5.block b hb2 (fun hy => by omega)).from (w0 := w) (by omega), hB7.trans (hs5.below (B := w.heap.size) (by omega) (fun y hy => by omega))⟩
end Go.Proofs.Ytfhlddbngjlhbaa

namespace Go.Proofs.Ytfhlddbngjlhbaa
set_option linter.unusedVariables false
set_option linter.unusedSimpArgs false
open Go.ChangeShapes Go.WideShapes Go.ChangeAt Go.RowKit Go.Deep Go.Sort
theorem mix_l {t a k : Int} {ac bc : List (List Bool)} {nx ny : List (List (List Int))} {s u s' u' : Option Addr} {c d c' d' : Nat} {w : World} (hA : Rds w (autD ac nx) [.slice s ac.length c, .slice u nx.length d]) (hB : Rds w (autD bc ny) [.slice s' bc.length c', .slice u' ny.length d']) (hok : AutOk t a ac nx) (hok' : AutOk t a bc ny) (hm : mxOk nx ny (atomsN t).toNat a.toNat) (hk : inB k 1 3 = true) :
  Calls Try.prog 8 #[.agg #[.int .i64 t, .int .i64 a, .slice s ac.length c, .slice u nx.length d], .agg #[.int .i64 t, .int .i64 a, .slice s' bc.length c', .slice u' ny.length d'], .int .i64 k] w fun z w' => ∃ (mA : List (List Bool)) (mX : List (List (List Int))) (s1 : Option Addr) (c1 : Nat) (s2 : Option Addr) (c2 : Nat),
   z = .returned (.tuple #[.agg #[.int .i64 t, .int .i64 a, .slice s1 mA.length c1, .slice s2 mX.length c2], .int .i64 0]) ∧ (mA = mxA k ac bc nx ny (atomsN t).toNat a.toNat ∧ mX = mxX nx ny (atomsN t).toNat a.toNat) ∧ Rds w' (autD mA mX) [.slice s1 mA.length c1, .slice s2 mX.length c2] ∧ Below w.heap.size w w' := by
 refine (implMixAutomata_i (t := t) (a := a) (t' := t) (a' := a) (k := k) hA.two.1 hA.two.2 hB.two.1 hB.two.2).mono ?_
 rintro z w' ⟨s1, c1, s2, c2, h1, h2, h3⟩
 have hg : MixG t a t a k ac bc nx ny := ⟨autB_yes hok, autB_yes hok', hk, rfl, rfl⟩
 obtain ⟨e1, e2, e3, e4⟩ := mix_good hg
 obtain ⟨f1, -, -, f4⟩ := mx_yes (k := k) (ac := ac) (bc := bc) hm
 rw [e1, e1, e2, e3, e4, f1, f1, f4] at h1
 rw [e2, e3] at h2
 exact ⟨_, _, s1, c1, s2, c2, h1, ⟨rfl, rfl⟩, h2.rds, h3⟩
theorem atF_bd (xs : List Int) (i : Int) {n : Int} (h : 1 ≤ n) : 0 ≤ atF xs i n ∧ atF xs i n < n := by
 unfold atF
 split
 ·
  omega
 ·
  exact ⟨Int.emod_nonneg _ (by omega), Int.emod_lt_of_pos _ (by omega)⟩
theorem runS_l {t a : Int} {ac : List (List Bool)} {nx : List (List (List Int))} {xs ys : List Int} {s u p q : Option Addr} {c d pc qc : Nat} {w : World} (hA : Rds w (autD ac nx) [.slice s ac.length c, .slice u nx.length d]) (hx : Rd w (intsD xs) (.slice p xs.length pc)) (hy : Rd w (intsD ys) (.slice q ys.length qc)) (hok : AutOk t a ac nx) (hw : wordB t a xs ys = true) {v : Bool} (hv : runsB ac nx xs ys = v) :
  Calls Try.prog 19 #[.agg #[.int .i64 t, .int .i64 a, .slice s ac.length c, .slice u nx.length d], .agg #[.slice p xs.length pc, .slice q ys.length qc]] w fun z w' => z = .returned (.tuple #[.bool v, .int .i64 0]) ∧ Below w.heap.size w w' := by
 refine (specRunAutomaton_i (t := t) (a := a) hA.two.1 hA.two.2 hx hy).mono ?_
 rintro z w' ⟨h1, h2⟩
 have e1 : runR t a ac nx xs ys = v := by unfold runR; rw [autB_yes hok, hw, hv]; rfl
 have e2 : runK t a ac nx xs ys = 0 := by unfold runK; rw [autB_yes hok, hw]; rfl
 rw [e1, e2] at h1
 exact ⟨h1, h2⟩
theorem cntS_l {t a x : Int} {ac : List (List Bool)} {nx : List (List (List Int))} {s u : Option Addr} {c d : Nat} {w : World} (hA : Rds w (autD ac nx) [.slice s ac.length c, .slice u nx.length d]) {v : Int} (hv : accR t a ac nx x = v) (hk : accK t a ac nx x = 0) :
  Calls Try.prog 18 #[.agg #[.int .i64 t, .int .i64 a, .slice s ac.length c, .slice u nx.length d], .int .i64 x] w fun z w' => z = .returned (.tuple #[.int .i64 v, .int .i64 0]) ∧ Below w.heap.size w w' := by
 refine (specAcceptedCount_i (t := t) (a := a) (x := x) hA.two.1 hA.two.2).mono ?_
 rintro z w' ⟨h1, h2⟩
 rw [hv, hk] at h1
 exact ⟨h1, h2⟩
set_option maxRecDepth 100000 in
set_option maxHeartbeats 16000000 in
theorem law_Mix {xs ys : List Int} {s s' : Option Addr} {c c' : Nat} {w : World} (hr : Rd w (bytesD xs) (.slice s xs.length c)) (hx : ∀ x ∈ xs, 0 ≤ x ∧ x ≤ 255) (hr' : Rd w (bytesD ys) (.slice s' ys.length c')) (hx' : ∀ x ∈ ys, 0 ≤ x ∧ x ≤ 255) :
  Calls Try.prog 4 #[.slice s xs.length c, .slice s' ys.length c'] w fun f w' => f = .returned (.bool true) ∧ Below w.heap.size w w' := by
 obtain ⟨-, hl1, hl2, -⟩ := hr.sl_at
 obtain ⟨-, hl3, hl4, -⟩ := hr'.sl_at
 have HX := Lib.hid hx
 have HX' := Lib.hid hx'
 have HR := Lib.hid hr
 have HR' := Lib.hid hr'
 have HL := Lib.hid (And.intro hl1 (And.intro hl2 (And.intro hl3 hl4)))
 clear hx hx' hr hr' hl1 hl2 hl3 hl4
 go_enter Try.func4, Try.ntmps4
 go_wp2_with fail
 refine (a2Long_i HL.out.1 HL.out.2.1 HL.out.2.2.1 HL.out.2.2.2).mono ?_
 rintro z wq ⟨rfl, hwq⟩
 subst hwq
 obtain ⟨v, hv⟩ : ∃ v, (decide (3000 < xs.length) || decide (3000 < ys.length)) = v := ⟨_, rfl⟩
 rw [hv]
 clear hv
 cases v
 rotate_left
 ·
  go_wp2_with fail
  go_ret
  exact ⟨rfl, Below.refl _ _⟩
 go_wp2_with fail
 refine (a2Automata_i HR.out HX.out).mono ?_
 rintro z wa ⟨t, a, ac, bc, nx, ny, s1, s2, s3, s4, c1, c2, c3, c4, rfl, ⟨hok1, hok2, hl1, hl2⟩, hA, hB, hb⟩
 have Hok1 := Lib.hid hok1
 have Hok2 := Lib.hid hok2
 have HE := Lib.hid (((Later.rds hA).and (Later.rds hB)).and (Later.rd (HR'.out.below hb)))
 have HB0 := Lib.hid hb
 have hza := hb.size
 clear hA hB hb hok1 hok2
 go_wp2_with fail
 obtain ⟨w2, e2, B5, hb2, hz2⟩ := box4 wa 31 (.int .i64 t) (.int .i64 a) (.slice s1 ac.length c1) (.slice s2 nx.length c2)
 rw [e2]
 obtain ⟨wb, e3, B6, hb3, hz3⟩ := box4 w2 31 (.int .i64 t) (.int .i64 a) (.slice s3 bc.length c3) (.slice s4 ny.length c4)
 rw [e3]
 rw [hz2] at B6
 have hbB2 := hb2.trans (hb3.mono (by omega))
 replace B5 := B5.below hb3
 have HB2 := Lib.hid (HB0.out.trans (hbB2.mono hza))
 have HG := Lib.hid (((HE.out.on hbB2).and (Later.blk B5)).and (Later.blk B6))
 clear e2 e3 hb2 hb3 hz2 hz3 hbB2 B5 B6 HE HB0
 have HMx := Lib.hid (mx_small Hok1.out Hok2.out hl1 hl2)
 clear hl1 hl2
 obtain ⟨⟨⟨⟨rA, rB⟩, -⟩, g5⟩, g6⟩ := HG.out.now
 obtain ⟨g50, g51, g52, g53, -, -, -, -, l5⟩ := g5.all4
 obtain ⟨g60, g61, g62, g63, -, -, -, -, l6⟩ := g6.all4
 clear g5 g6
 go_wp2_with fail
 clear g50 g51 g52 g53 l5 g60 g61 g62 g63 l6
 refine (mix_l (k := 1) rA rB Hok1.out Hok2.out HMx.out (by decide)).mono ?_
 rintro z v1 ⟨mA1, mX1, p1, pc1, q1, qc1, rfl, hx1, hr1, hb⟩
 have HE1 := Lib.hid hx1
 have HO1 : Hid (AutOk t a mA1 mX1) := by show AutOk ..; rw [hx1.1, hx1.2]; exact mix_ok Hok1.out Hok2.out HMx.out
 clear hx1 rA rB
 obtain ⟨v2, eb, K, hbz, hzz⟩ := box4 v1 31 (.int .i64 t) (.int .i64 a) (.slice p1 mA1.length pc1) (.slice q1 mX1.length qc1)
 have ltz : v1.heap.size < v2.heap.size := by omega
 clear hzz
 replace HB2 := Lib.hid ((HB2.out.trans (hb.mono HB2.out.size)).trans (hbz.mono (by have := HB2.out.size; have := hb.size; omega)))
 replace HG := Lib.hid ((((HG.out.on hb).on hbz).and ((Later.rds hr1).on hbz)).and (Later.blk K))
 clear hb hbz K hr1
 obtain ⟨⟨⟨⟨⟨⟨rA, rB⟩, -⟩, g5⟩, g6⟩, -⟩, -⟩ := HG.out.now
 obtain ⟨g50, g51, g52, g53, -, -, -, -, l5⟩ := g5.all4
 obtain ⟨g60, g61, g62, g63, -, -, -, -, l6⟩ := g6.all4
 clear g5 g6
 go_wp2_with fail
 clear eb g50 g51 g52 g53 l5 g60 g61 g62 g63 l6
 refine (mix_l (k := 2) rA rB Hok1.out Hok2.out HMx.out (by decide)).mono ?_
 rintro z v3 ⟨mA2, mX2, p2, pc2, q2, qc2, rfl, hx2, hr2, hb⟩
 have HE2 := Lib.hid hx2
 have HO2 : Hid (AutOk t a mA2 mX2) := by show AutOk ..; rw [hx2.1, hx2.2]; exact mix_ok Hok1.out Hok2.out HMx.out
 clear hx2 rA rB
 obtain ⟨v4, eb, K, hbz, hzz⟩ := box4 v3 31 (.int .i64 t) (.int .i64 a) (.slice p2 mA2.length pc2) (.slice q2 mX2.length qc2)
 have ltz : v3.heap.size < v4.heap.size := by omega
 clear hzz
 replace HB2 := Lib.hid ((HB2.out.trans (hb.mono HB2.out.size)).trans (hbz.mono (by have := HB2.out.size; have := hb.size; omega)))
 replace HG := Lib.hid ((((HG.out.on hb).on hbz).and ((Later.rds hr2).on hbz)).and (Later.blk K))
 clear hb hbz K hr2
 obtain ⟨⟨⟨⟨⟨⟨⟨⟨rA, rB⟩, -⟩, g5⟩, g6⟩, -⟩, -⟩, -⟩, -⟩ := HG.out.now
 obtain ⟨g50, g51, g52, g53, -, -, -, -, l5⟩ := g5.all4
 obtain ⟨g60, g61, g62, g63, -, -, -, -, l6⟩ := g6.all4
 clear g5 g6
 go_wp2_with fail
 clear eb g50 g51 g52 g53 l5 g60 g61 g62 g63 l6
 refine (mix_l (k := 3) rA rB Hok1.out Hok2.out HMx.out (by decide)).mono ?_
 rintro z v5 ⟨mA3, mX3, p3, pc3, q3, qc3, rfl, hx3, hr3, hb⟩
 have HE3 := Lib.hid hx3
 have HO3 : Hid (AutOk t a mA3 mX3) := by show AutOk ..; rw [hx3.1, hx3.2]; exact mix_ok Hok1.out Hok2.out HMx.out
 clear hx3 rA rB
 obtain ⟨v6, eb, K, hbz, hzz⟩ := box4 v5 31 (.int .i64 t) (.int .i64 a) (.slice p3 mA3.length pc3) (.slice q3 mX3.length qc3)
 have ltz : v5.heap.size < v6.heap.size := by omega
 clear hzz
 replace HB2 := Lib.hid ((HB2.out.trans (hb.mono HB2.out.size)).trans (hbz.mono (by have := HB2.out.size; have := hb.size; omega)))
 replace HG := Lib.hid ((((HG.out.on hb).on hbz).and ((Later.rds hr3).on hbz)).and (Later.blk K))
 clear hb hbz K hr3
 obtain ⟨⟨⟨⟨⟨⟨⟨⟨⟨⟨-, -⟩, ry⟩, g5⟩, -⟩, -⟩, -⟩, -⟩, -⟩, -⟩, -⟩ := HG.out.now
 obtain ⟨g50, g51, g52, g53, -, -, -, -, l5⟩ := g5.all4
 clear g5
 go_wp2_with fail
 clear eb g50 g51 g52 g53 l5
 refine (a2Word_l ry HX'.out (e := .mk 2 0 []) kids_none (okB_one Hok1.out.sig)).mono ?_
 rintro z v7 ⟨ps, qs, s9, c9, u9, d9, rfl, hw, hp, hq, hb⟩
 have Hw := Lib.hid hw
 clear hw ry
 obtain ⟨v8, eb, K, hbz, hzz⟩ := box2 v7 44 (.slice s9 ps.length c9) (.slice u9 qs.length d9)
 have ltz : v7.heap.size < v8.heap.size := by omega
 clear hzz
 replace HB2 := Lib.hid ((HB2.out.trans (hb.mono HB2.out.size)).trans (hbz.mono (by have := HB2.out.size; have := hb.size; omega)))
 replace HG := Lib.hid ((((HG.out.on hb).on hbz).and (((Later.rd hp).and (Later.rd hq)).on hbz)).and (Later.blk K))
 clear hb hbz K hp hq
 obtain ⟨X, hX⟩ : ∃ b, runsB ac nx ps qs = b := ⟨_, rfl⟩
 obtain ⟨Y, hY⟩ : ∃ b, runsB bc ny ps qs = b := ⟨_, rfl⟩
 have HR1 : Hid (runsB mA1 mX1 ps qs = (X || Y)) := by show _ = _; rw [HE1.out.1, HE1.out.2, mx_runs Hok1.out Hok2.out HMx.out Hw.out, hX, hY]; rfl
 have HR2 : Hid (runsB mA2 mX2 ps qs = (X && Y)) := by show _ = _; rw [HE2.out.1, HE2.out.2, mx_runs Hok1.out Hok2.out HMx.out Hw.out, hX, hY]; rfl
 have HR3 : Hid (runsB mA3 mX3 ps qs = (X && !Y)) := by show _ = _; rw [HE3.out.1, HE3.out.2, mx_runs Hok1.out Hok2.out HMx.out Hw.out, hX, hY]; rfl
 have HX1 := Lib.hid hX
 have HX2 := Lib.hid hY
 clear hX hY
 obtain ⟨⟨⟨⟨⟨⟨⟨⟨⟨⟨⟨⟨rA, -⟩, -⟩, g5⟩, -⟩, -⟩, -⟩, -⟩, -⟩, -⟩, -⟩, r9⟩, g9⟩ := HG.out.now
 obtain ⟨g50, g51, g52, g53, -, -, -, -, l5⟩ := g5.all4
 obtain ⟨g90, g91, l9⟩ := g9.all2
 clear g5 g9
 go_wp2_with fail
 clear eb g50 g51 g52 g53 l5 g90 g91 l9
 refine (run_l rA r9.1 r9.2 Hok1.out Hw.out HX1.out).mono ?_
 rintro z v9 ⟨rfl, hb⟩
 clear rA r9
 replace HB2 := Lib.hid (HB2.out.trans (hb.mono HB2.out.size))
 replace HG := Lib.hid (HG.out.on hb)
 clear hb
 obtain ⟨⟨⟨⟨⟨⟨⟨⟨⟨⟨⟨⟨-, rB⟩, -⟩, -⟩, g6⟩, -⟩, -⟩, -⟩, -⟩, -⟩, -⟩, r9⟩, g9⟩ := HG.out.now
 obtain ⟨g60, g61, g62, g63, -, -, -, -, l6⟩ := g6.all4
 obtain ⟨g90, g91, l9⟩ := g9.all2
 clear g6 g9
 go_wp2_with fail
 clear g60 g61 g62 g63 l6 g90 g91 l9
 refine (run_l rB r9.1 r9.2 Hok2.out Hw.out HX2.out).mono ?_
 rintro z v10 ⟨rfl, hb⟩
 clear rB r9
 replace HB2 := Lib.hid (HB2.out.trans (hb.mono HB2.out.size))
 replace HG := Lib.hid (HG.out.on hb)
 clear hb
 obtain ⟨U1, hU1⟩ : ∃ b, (X || Y) = b := ⟨_, rfl⟩
 have HU1 := Lib.hid hU1
 clear hU1
 obtain ⟨U2, hU2⟩ : ∃ b, (X && Y) = b := ⟨_, rfl⟩
 have HU2 := Lib.hid hU2
 clear hU2
 obtain ⟨U3, hU3⟩ : ∃ b, (X && !Y) = b := ⟨_, rfl⟩
 have HU3 := Lib.hid hU3
 clear hU3
 obtain ⟨⟨⟨⟨⟨⟨⟨⟨⟨⟨⟨⟨-, -⟩, -⟩, -⟩, -⟩, r1⟩, k1⟩, -⟩, -⟩, -⟩, -⟩, r9⟩, g9⟩ := HG.out.now
 obtain ⟨k10, k11, k12, k13, -, -, -, -, l1⟩ := k1.all4
 obtain ⟨g90, g91, l9⟩ := g9.all2
 clear k1 g9
 go_wp2_with fail
 clear k10 k11 k12 k13 l1 g90 g91 l9
 refine (run_l r1 r9.1 r9.2 HO1.out Hw.out (HR1.out.trans HU1.out)).mono ?_
 rintro z v11 ⟨rfl, hb⟩
 clear r1 r9
 replace HB2 := Lib.hid (HB2.out.trans (hb.mono HB2.out.size))
 replace HG := Lib.hid (HG.out.on hb)
 clear hb
 obtain ⟨⟨⟨⟨⟨⟨⟨⟨⟨⟨⟨⟨-, -⟩, -⟩, -⟩, -⟩, -⟩, -⟩, r2⟩, k2⟩, -⟩, -⟩, r9⟩, g9⟩ := HG.out.now
 obtain ⟨k20, k21, k22, k23, -, -, -, -, l2⟩ := k2.all4
 obtain ⟨g90, g91, l9⟩ := g9.all2
 clear k2 g9
 go_wp2_with fail
 clear k20 k21 k22 k23 l2 g90 g91 l9
 refine (run_l r2 r9.1 r9.2 HO2.out Hw.out (HR2.out.trans HU2.out)).mono ?_
 rintro z v12 ⟨rfl, hb⟩
 clear r2 r9
 replace HB2 := Lib.hid (HB2.out.trans (hb.mono HB2.out.size))
 replace HG := Lib.hid (HG.out.on hb)
 clear hb
 obtain ⟨⟨⟨⟨⟨⟨⟨⟨⟨⟨⟨⟨-, -⟩, -⟩, -⟩, -⟩, -⟩, -⟩, -⟩, -⟩, r3⟩, k3⟩, r9⟩, g9⟩ := HG.out.now
 obtain ⟨k30, k31, k32, k33, -, -, -, -, l3⟩ := k3.all4
 obtain ⟨g90, g91, l9⟩ := g9.all2
 clear k3 g9
 go_wp2_with fail
 clear k30 k31 k32 k33 l3 g90 g91 l9
 refine (run_l r3 r9.1 r9.2 HO3.out Hw.out (HR3.out.trans HU3.out)).mono ?_
 rintro z v13 ⟨rfl, hb⟩
 clear r3 r9
 replace HB2 := Lib.hid (HB2.out.trans (hb.mono HB2.out.size))
 replace HG := Lib.hid (HG.out.on hb)
 clear hb
 go_upto_region 15 with fail
 go_cut [152] from 118 to 152 (fun v wx => v = .bool false ∧ wx = v13)
 case first =>
  have h1 := HU1.out
  have h2 := HU2.out
  have h3 := HU3.out
  clear HG HB2
  cases X <;> cases Y
  all_goals
   simp only [Bool.or_true, Bool.true_or, Bool.or_false, Bool.false_or, Bool.and_true, Bool.true_and, Bool.and_false, Bool.false_and, Bool.not_true, Bool.not_false] at h1 h2 h3
   subst h1 h2 h3
   go_wp2_with fail
   go_meet
   case rel => exact ⟨rfl, rfl⟩
 case rest =>
 obtain ⟨rfl, rfl⟩ := hcut
 obtain ⟨⟨⟨⟨⟨⟨⟨⟨⟨⟨⟨⟨-, -⟩, ry⟩, -⟩, -⟩, -⟩, -⟩, -⟩, -⟩, -⟩, -⟩, -⟩, -⟩ := HG.out.now
 go_wp2_with fail
 refine (a2At_i ry HX'.out (by omega) (by omega) (by omega) (by omega)).mono ?_
 rintro z wq ⟨rfl, hwq⟩
 subst hwq
 obtain ⟨hn0, hn6⟩ := atF_bd ys 0 (n := 6) (by omega)
 obtain ⟨N, hN⟩ : ∃ N : Nat, atF ys 0 6 = (N : Int) := ⟨(atF ys 0 6).toNat, by omega⟩
 rw [hN]
 have hN5 : N ≤ 5 := by omega
 have hmc := mx_counts Hok1.out Hok2.out HMx.out (n := N) (by omega)
 obtain ⟨C1, hC1⟩ : ∃ v, accR t a ac nx (N : Int) = v := ⟨_, rfl⟩
 obtain ⟨C2, hC2⟩ : ∃ v, accR t a bc ny (N : Int) = v := ⟨_, rfl⟩
 obtain ⟨C3, hC3⟩ : ∃ v, accR t a mA1 mX1 (N : Int) = v := ⟨_, rfl⟩
 obtain ⟨C4, hC4⟩ : ∃ v, accR t a mA2 mX2 (N : Int) = v := ⟨_, rfl⟩
 obtain ⟨C5, hC5⟩ : ∃ v, accR t a mA3 mX3 (N : Int) = v := ⟨_, rfl⟩
 have hmd : C1 + C2 = C3 + C4 ∧ C1 = C4 + C5 := by rw [← hC1, ← hC2, ← hC3, ← hC4, ← hC5, HE1.out.1, HE1.out.2, HE2.out.1, HE2.out.2, HE3.out.1, HE3.out.2]; exact hmc
 have hbd1 := accR_bd Hok1.out (n := N) (by omega)
 rw [hC1] at hbd1
 have HC1 := Lib.hid hC1
 have HK1 := Lib.hid (accR_cntS Hok1.out (n := N) (by omega)).2
 obtain ⟨lo1, hi1⟩ := hbd1
 have hbd2 := accR_bd Hok2.out (n := N) (by omega)
 rw [hC2] at hbd2
 have HC2 := Lib.hid hC2
 have HK2 := Lib.hid (accR_cntS Hok2.out (n := N) (by omega)).2
 obtain ⟨lo2, hi2⟩ := hbd2
 have hbd3 := accR_bd HO1.out (n := N) (by omega)
 rw [hC3] at hbd3
 have HC3 := Lib.hid hC3
 have HK3 := Lib.hid (accR_cntS HO1.out (n := N) (by omega)).2
 obtain ⟨lo3, hi3⟩ := hbd3
 have hbd4 := accR_bd HO2.out (n := N) (by omega)
 rw [hC4] at hbd4
 have HC4 := Lib.hid hC4
 have HK4 := Lib.hid (accR_cntS HO2.out (n := N) (by omega)).2
 obtain ⟨lo4, hi4⟩ := hbd4
 have hbd5 := accR_bd HO3.out (n := N) (by omega)
 rw [hC5] at hbd5
 have HC5 := Lib.hid hC5
 have HK5 := Lib.hid (accR_cntS HO3.out (n := N) (by omega)).2
 obtain ⟨lo5, hi5⟩ := hbd5
 have hq1 : (C1 + C2 == C3 + C4) = true := by simpa using hmd.1
 have hq2 : (C1 == C4 + C5) = true := by simpa using hmd.2
 clear hmc hmd hN hn0 hn6 hC1 hC2 hC3 hC4 hC5 ry
 obtain ⟨⟨⟨⟨⟨⟨⟨⟨⟨⟨⟨⟨rA, -⟩, -⟩, g5⟩, -⟩, -⟩, -⟩, -⟩, -⟩, -⟩, -⟩, -⟩, -⟩ := HG.out.now
 obtain ⟨g50, g51, g52, g53, -, -, -, -, l5⟩ := g5.all4
 clear g5
 go_wp2_with fail
 clear g50 g51 g52 g53 l5
 refine (cnt_l rA HC1.out HK1.out).mono ?_
 rintro z v20 ⟨rfl, hb⟩
 clear rA
 replace HB2 := Lib.hid (HB2.out.trans (hb.mono HB2.out.size))
 replace HG := Lib.hid (HG.out.on hb)
 clear hb
 obtain ⟨⟨⟨⟨⟨⟨⟨⟨⟨⟨⟨⟨-, rB⟩, -⟩, -⟩, g6⟩, -⟩, -⟩, -⟩, -⟩, -⟩, -⟩, -⟩, -⟩ := HG.out.now
 obtain ⟨g60, g61, g62, g63, -, -, -, -, l6⟩ := g6.all4
 clear g6
 go_wp2_with fail
 clear g60 g61 g62 g63 l6
 refine (cnt_l rB HC2.out HK2.out).mono ?_
 rintro z v21 ⟨rfl, hb⟩
 clear rB
 replace HB2 := Lib.hid (HB2.out.trans (hb.mono HB2.out.size))
 replace HG := Lib.hid (HG.out.on hb)
 clear hb
 obtain ⟨⟨⟨⟨⟨⟨⟨⟨⟨⟨⟨⟨-, -⟩, -⟩, -⟩, -⟩, r1⟩, k1⟩, -⟩, -⟩, -⟩, -⟩, -⟩, -⟩ := HG.out.now
 obtain ⟨k10, k11, k12, k13, -, -, -, -, l1⟩ := k1.all4
 clear k1
 go_wp2_with fail
 clear k10 k11 k12 k13 l1
 refine (cnt_l r1 HC3.out HK3.out).mono ?_
 rintro z v22 ⟨rfl, hb⟩
 clear r1
 replace HB2 := Lib.hid (HB2.out.trans (hb.mono HB2.out.size))
 replace HG := Lib.hid (HG.out.on hb)
 clear hb
 obtain ⟨⟨⟨⟨⟨⟨⟨⟨⟨⟨⟨⟨-, -⟩, -⟩, -⟩, -⟩, -⟩, -⟩, r2⟩, k2⟩, -⟩, -⟩, -⟩, -⟩ := HG.out.now
 obtain ⟨k20, k21, k22, k23, -, -, -, -, l2⟩ := k2.all4
 clear k2
 go_wp2_with fail
 clear k20 k21 k22 k23 l2
 refine (cnt_l r2 HC4.out HK4.out).mono ?_
 rintro z v23 ⟨rfl, hb⟩
 clear r2
 replace HB2 := Lib.hid (HB2.out.trans (hb.mono HB2.out.size))
 replace HG := Lib.hid (HG.out.on hb)
 clear hb
 obtain ⟨⟨⟨⟨⟨⟨⟨⟨⟨⟨⟨⟨-, -⟩, -⟩, -⟩, -⟩, -⟩, -⟩, -⟩, -⟩, r3⟩, k3⟩, -⟩, -⟩ := HG.out.now
 obtain ⟨k30, k31, k32, k33, -, -, -, -, l3⟩ := k3.all4
 clear k3
 go_wp2_with fail
 clear k30 k31 k32 k33 l3
 refine (cnt_l r3 HC5.out HK5.out).mono ?_
 rintro z v24 ⟨rfl, hb⟩
 clear r3
 replace HB2 := Lib.hid (HB2.out.trans (hb.mono HB2.out.size))
 replace HG := Lib.hid (HG.out.on hb)
 clear hb
 obtain ⟨⟨⟨⟨⟨⟨⟨⟨⟨⟨⟨⟨rA, -⟩, -⟩, g5⟩, -⟩, -⟩, -⟩, -⟩, -⟩, -⟩, -⟩, -⟩, -⟩ := HG.out.now
 obtain ⟨g50, g51, g52, g53, -, -, -, -, l5⟩ := g5.all4
 clear g5
 go_wp2_with fail
 clear g50 g51 g52 g53 l5
 refine (cntS_l rA HC1.out HK1.out).mono ?_
 rintro z v25 ⟨rfl, hb⟩
 clear rA
 replace HB2 := Lib.hid (HB2.out.trans (hb.mono HB2.out.size))
 replace HG := Lib.hid (HG.out.on hb)
 clear hb
 obtain ⟨⟨⟨⟨⟨⟨⟨⟨⟨⟨⟨⟨rA, -⟩, -⟩, g5⟩, -⟩, -⟩, -⟩, -⟩, -⟩, -⟩, -⟩, r9⟩, g9⟩ := HG.out.now
 obtain ⟨g50, g51, g52, g53, -, -, -, -, l5⟩ := g5.all4
 obtain ⟨g90, g91, l9⟩ := g9.all2
 clear g5 g9
 go_wp2_with fail
 clear g50 g51 g52 g53 l5 g90 g91 l9
 refine (runS_l rA r9.1 r9.2 Hok1.out Hw.out HX1.out).mono ?_
 rintro z v26 ⟨rfl, hb⟩
 clear rA r9
 replace HB2 := Lib.hid (HB2.out.trans (hb.mono HB2.out.size))
 replace HG := Lib.hid (HG.out.on hb)
 clear hb
 go_wp2_with fail
 go_ret
 exact ⟨rfl, HB2.out⟩
set_option maxRecDepth 100000 in
theorem law_Mix_of {H : Type} {enc : TypeId × Value → H} (W : World) (args : Array Value) (ds : List (DataW H)) (ps : List MemPlace) (hA : DataW.TrodAll enc Try.prog W 0 (fun _ => true) true Try.f4.params.toList args.toList ds ps)
  (hval : ∀ (j : Nat) t v, Try.f4.params[j]? = some t → args[j]? = some v → ∃ base, Value.okWide Try.prog W .any base t v) :
  Calls Try.prog 4 args W fun e W' => e = .returned (.bool true) ∧ Below W.heap.size W W' := by
 rw [Try.params4] at hA hval
 obtain ⟨v0, vs0, d0', ds0, p0, q0, hargs, rfl, rfl, h0, ra0⟩ := trodAll_cons hA
 obtain ⟨v1, vs1, d1', ds1, p1, q1, rfl, rfl, rfl, h1, ra1⟩ := trodAll_cons ra0
 obtain ⟨rfl, rfl, rfl⟩ := trodAll_nil ra1
 obtain rfl : args = #[v0, v1] := Array.toList_inj.1 hargs
 obtain ⟨b0, hv0⟩ := hval 0 38 v0 rfl rfl
 obtain ⟨b1, hv1⟩ := hval 1 38 v1 rfl rfl
 obtain ⟨xs, s, c, rfl, hr, hx⟩ := open_byteS hv0 h0
 obtain ⟨ys, s', c', rfl, hr', hx'⟩ := open_byteS hv1 h1
 exact law_Mix hr hx hr' hx'
end Go.Proofs.Ytfhlddbngjlhbaa
