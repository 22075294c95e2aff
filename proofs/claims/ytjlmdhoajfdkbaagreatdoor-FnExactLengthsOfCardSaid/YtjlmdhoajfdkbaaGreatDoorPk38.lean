/-
  Parts of a proof, joined: LenT, MarkE, MarkI. No condition.
-/
import Derived.Test.YtjlmdhoajfdkbaaGreatDoorPk37
namespace Go.Proofs.YtjlmdhoajfdkbaaGreatDoor
set_option linter.unusedVariables false
set_option linter.unusedSimpArgs false
open Go.ChangeShapes Go.WideShapes Go.ChangeAt Go.RowKit Go.Deep
def lenTo (ac : List (List Bool)) (nx : List (List (List Int))) (k : Nat) : List Int := ((List.range k).filter fun n => accW ac nx n 0).map fun n : Nat => (n : Int)
theorem lenTo_yes {ac : List (List Bool)} {nx : List (List (List Int))} {k : Nat} (h : accW ac nx k 0 = true) : lenTo ac nx (k + 1) = lenTo ac nx k ++ [(k : Int)] := by
 simp [lenTo, List.range_succ, h]
theorem lenTo_no {ac : List (List Bool)} {nx : List (List (List Int))} {k : Nat} (h : accW ac nx k 0 = false) : lenTo ac nx (k + 1) = lenTo ac nx k := by
 simp [lenTo, List.range_succ, h]
theorem lenTo_len (ac : List (List Bool)) (nx : List (List (List Int))) (k : Nat) : (lenTo ac nx k).length ≤ k := by
 unfold lenTo
 rw [List.length_map]
 exact Nat.le_trans (List.length_filter_le _ _) (by simp)
noncomputable def lnR (t a : Int) (e : Ex) : List Int := if auC t a e = 0 then lenTo (auA t a e) (auX t a e) 11 else []
theorem lnR_len (t a : Int) (e : Ex) : (lnR t a e).length ≤ 11 := by
 unfold lnR
 split
 ·
  exact lenTo_len _ _ _
 ·
  simp
theorem none_ints {w w' : World} : Freshs w w' [intsD []] [.slice none 0 0] :=
 Freshs.one ⟨[], by simp only [intsD, Ow]; exact ⟨none, 0, rfl, by simp, by simp [maxLen], by simp, by simp, Or.inl (by simp)⟩, by simp, by simp⟩
theorem some_ints {w w' : World} (p : Addr) : Freshs w w' [intsD []] [.slice (some p) 0 0] :=
 Freshs.one ⟨[], by simp only [intsD, Ow]; exact ⟨some p, 0, rfl, by simp, by simp [maxLen], by simp, by simp, Or.inl (by simp)⟩, by simp, by simp⟩
set_option maxHeartbeats 8000000 in
theorem specLengthsOf_i {t a k n : Int} {ks : List Ex} {s : Option Addr} {c : Nat} {w : World} (hr : Rd w (kidsD ks) (.slice s ks.length c)) (h1 : Ex.sizeL ks ≤ 1048576) :
  Calls Tryz.prog 44 #[.agg #[.int .i64 t, .int .i64 a], .agg #[.int .i64 k, .int .i64 n, .slice s ks.length c]] w fun e w' => ∃ s' c', e = .returned (.tuple #[.slice s' (lnR t a (.mk k n ks)).length c', .int .i64 (auC t a (.mk k n ks))]) ∧
   Freshs w w' [intsD (lnR t a (.mk k n ks))] [.slice s' (lnR t a (.mk k n ks)).length c'] ∧ Below w.heap.size w w' := by
 have Hsz : Hid (Ex.size (.mk k n ks) ≤ 1073741824) := by show _ ≤ _; rw [Ex.size_eq]; simp only [Ex.kids]; omega
 have H1 := Lib.hid h1
 cases hcb : (auC t a (.mk k n ks) != 0)
 rotate_left
 ·
  have HE : Hid (lnR t a (.mk k n ks) = []) := by show _ = _; unfold lnR; rw [if_neg (by simpa using hcb)]
  go_enter Tryz.func44, Tryz.ntmps44
  go_wp2_with fail
  have L := (Blk.new2 w 33 (.int .i64 t) (.int .i64 a)).alloc (.cells #[.int .i64 k, .int .i64 n, .slice s ks.length c] 30)
  have M := Blk.new3 (w.alloc (.cells #[.int .i64 t, .int .i64 a] 33)) 30 (.int .i64 k) (.int .i64 n) (.slice s ks.length c)
  simp at M
  have hB : Below w.heap.size w ((w.alloc (.cells #[.int .i64 t, .int .i64 a] 33)).alloc (.cells #[.int .i64 k, .int .i64 n, .slice s ks.length c] 30)) := by (repeat' first | exact Below.refl _ _ | assumption | apply Below.alloc | apply Below.drew | apply Below.setCell | omega | (simp; done) | (simp; omega))
  have hB0 := hB
  generalize ((w.alloc (.cells #[.int .i64 t, .int .i64 a] 33)).alloc (.cells #[.int .i64 k, .int .i64 n, .slice s ks.length c] 30)) = v0 at L M hB hB0 ⊢
  have l0 := L.c0
  have l1 := L.c1
  have m0 := M.c0
  have m1 := M.c1
  have m2 := M.c2
  have ltL := L.lt
  have ltM := M.lt
  go_wp2_with fail
  refine ((l03One_au (M.exAt (hr.below hB)) Hsz.out).mono fun _ _ h => h.no).mono ?_
  rintro x w1 ⟨t', a', s', u', l', c', m', d', rfl, hb⟩
  clear l0 l1 m0 m1 m2 ltL ltM
  replace hB := Below.on hB hb hB.size
  replace L := L.below hb
  replace M := M.below hb
  clear hb
  have szW1 := hB.size
  have l0 := L.c0
  have l1 := L.c1
  have m0 := M.c0
  have m1 := M.c1
  have m2 := M.c2
  have ltL := L.lt
  have ltM := M.lt
  go_wp2_with fail
  go_ret2
  rw [HE.out]
  exact ⟨_, _, rfl, some_ints _, by (repeat' first | exact Below.refl _ _ | assumption | apply Below.alloc | apply Below.drew | apply Below.setCell | omega | (simp; done) | (simp; omega))⟩
 ·
  skip
  have hc : auC t a (.mk k n ks) = 0 := by simpa using hcb
  obtain ⟨-, -, -, hok⟩ := au_ok hc
  have hlo := hok.lo
  have hhi := hok.hi
  have HE : Hid (lnR t a (.mk k n ks) = lenTo (auA t a (.mk k n ks)) (auX t a (.mk k n ks)) 11) := by show _ = _; unfold lnR; rw [if_pos hc]
  have Hok := Lib.hid hok
  have Hc := Lib.hid hc
  have Hll := Lib.hid (lenTo_len (auA t a (.mk k n ks)) (auX t a (.mk k n ks)))
  clear hcb hc hok
  go_enter Tryz.func44, Tryz.ntmps44
  go_wp2_with fail
  have L := (Blk.new2 w 33 (.int .i64 t) (.int .i64 a)).alloc (.cells #[.int .i64 k, .int .i64 n, .slice s ks.length c] 30)
  have M := Blk.new3 (w.alloc (.cells #[.int .i64 t, .int .i64 a] 33)) 30 (.int .i64 k) (.int .i64 n) (.slice s ks.length c)
  simp at M
  have hB : Below w.heap.size w ((w.alloc (.cells #[.int .i64 t, .int .i64 a] 33)).alloc (.cells #[.int .i64 k, .int .i64 n, .slice s ks.length c] 30)) := by (repeat' first | exact Below.refl _ _ | assumption | apply Below.alloc | apply Below.drew | apply Below.setCell | omega | (simp; done) | (simp; omega))
  have hB0 := hB
  generalize ((w.alloc (.cells #[.int .i64 t, .int .i64 a] 33)).alloc (.cells #[.int .i64 k, .int .i64 n, .slice s ks.length c] 30)) = v0 at L M hB hB0 ⊢
  have l0 := L.c0
  have l1 := L.c1
  have m0 := M.c0
  have m1 := M.c1
  have m2 := M.c2
  have ltL := L.lt
  have ltM := M.lt
  go_wp2_with fail
  refine ((l03One_au (M.exAt (hr.below hB)) Hsz.out).mono fun _ _ h => h.yes Hc.out).mono ?_
  rintro x w1 ⟨sb, cb, sd, cd, rfl, hf, hb⟩
  clear l0 l1 m0 m1 m2 ltL ltM
  replace hB := Below.on hB hb hB.size
  replace L := L.below hb
  replace M := M.below hb
  clear hb
  have szW1 := hB.size
  have l0 := L.c0
  have l1 := L.c1
  have m0 := M.c0
  have m1 := M.c1
  have m2 := M.c2
  have ltL := L.lt
  have ltM := M.lt
  go_wp2_with fail
  obtain ⟨w2, e2, A, hb2, hz2⟩ := box4 w1 75 (.int .i64 t) (.int .i64 a) (.slice sb (auA t a (.mk k n ks)).length cb) (.slice sd (auX t a (.mk k n ks)).length cd)
  rw [e2]
  have hB2 := hB.trans (hb2.mono hB.size)
  have hAt := autAt_box A (hf.rds.below hb2)
  clear e2 hf hb2 l0 l1 m0 m1 m2 ltL ltM L M A hr
  refine (l02Reach_i (n := 10) hAt Hok.out (by omega)).mono ?_
  rintro x w3 ⟨s3, c3, rfl, hfl, hb3⟩
  have hB3 := hB2.trans (hb3.mono hB2.size)
  have hz3 := hB3.size
  have hrd := hfl.rd
  obtain ⟨b1, b2⟩ := nest_bd hrd
  unfold maxLen at b2
  rw [rchL_length] at b1
  obtain ⟨pb, po, rfl⟩ := nest_some hrd (by rw [rchL_length]; omega)
  have Hrd := Lib.hid hrd
  clear hAt hB2 hb3 hfl hrd
  go_wp2_with fail
  have hBn := (Bun.nil (B := w3.heap.size) (w := w3)).push_empty (Nat.le_refl _) 2 1
  have hbe := (Below.refl w3.heap.size w3).alloc (Nat.le_refl _) (.cells #[] 2)
  go_loopw [9, 10] (fun v i wr => ∃ k' : Nat, i = .int .i64 k' ∧ k' ≤ 11 ∧ Bun w3.heap.size wr [.app 2 1 (lenTo (auA t a (.mk k n ks)) (auX t a (.mk k n ks)) k').length ((lenTo (auA t a (.mk k n ks)) (auX t a (.mk k n ks)) k').map D.int) v] ∧ Below w3.heap.size w3 wr) (fun _ i _ => 11 - (intOf i).toNat)
  case atStart => exact ⟨0, rfl, by omega, by simpa [lenTo] using hBn, hbe⟩
  case round =>
   clear hBn hbe
   obtain ⟨k', rfl, hk, hbun, hbe⟩ := hrel
   obtain ⟨wo, rfl⟩ : ∃ v, v = wr := ⟨_, rfl⟩
   obtain ⟨av, cv, rfl, hv1, hv2⟩ := hbun.shape 0 rfl
   unfold maxLen at hv2
   have hk0 := Int.natCast_nonneg k'
   have hll := Hll.out k'
   have hzo := hbe.size
   have HB2 := Lib.hid hbun
   have HBe2 := Lib.hid hbe
   by_cases hkl : k' ≤ 10
   rotate_left
   ·
    obtain rfl : k' = 11 := by omega
    have Hf := Lib.hid (hbun.fresh (W := w) (by omega) 0 rfl)
    clear hbun hbe
    go_wp2_with fail
    go_ret2
    rw [HE.out, Hc.out]
    exact ⟨_, _, rfl, Freshs.one Hf.out, hB3.trans (HBe2.out.mono hz3)⟩
   obtain ⟨-, sp, cp, p0, rp⟩ := nest_sl (g := D.bool) (Hrd.out.below hbe) (rchL_at (ac := auA t a (.mk k n ks)) (nx := auX t a (.mk k n ks)) (k := 11) (i := k') (by omega))
   obtain ⟨q, hq⟩ : ∃ q, accW (auA t a (.mk k n ks)) (auX t a (.mk k n ks)) k' 0 = q := ⟨_, rfl⟩
   have hqr := reachL_at (ac := auA t a (.mk k n ks)) (nx := auX t a (.mk k n ks)) (n := k') (s := 0) (by omega)
   rw [hq] at hqr
   have hrl := reachL_len (ac := auA t a (.mk k n ks)) (nx := auX t a (.mk k n ks)) k'
   obtain ⟨qb, qo, rfl⟩ := nest_some (f := D.bool) rp (by omega)
   obtain ⟨-, q0⟩ := bool_in rp hqr
   simp only [Nat.add_zero] at q0
   obtain ⟨b3, b4⟩ := nest_bd rp
   unfold maxLen at b4
   have b5 : (1 : Nat) ≤ (reachL (auA t a (.mk k n ks)) (auX t a (.mk k n ks)) k').length := by omega
   have Hacc := Lib.hid hq
   have hk10 : (k' : Int) ≤ 10 := by omega
   clear hq hqr hrl rp hbun hbe
   cases q
   ·
    go_wp2_with fail
    go_roundw
    case rel => exact ⟨k' + 1, by go_num, by omega, by rw [lenTo_no Hacc.out]; exact HB2.out, HBe2.out⟩
    case measure => simp [intOf]; omega
   ·
    skip
    have hBu := HB2.out.alloc (.cells #[.int .i64 k'] 2)
    have hNb := Blk.new1 wo 2 (.int .i64 k')
    go_wp2_with (at_builtin; go_must (refine wpList_append_bun _ rfl _ _ 52 rfl 2 (.int .i64 0) 1 8 Tryz.underlying52 info_int64 rfl (by decide) hBu (by simp <;> omega) 0 _ rfl rfl ⟨wo.heap.size, 0, none⟩ 1 1 [.int .i64 k'] rfl (news_blk hNb) none_own rfl (by simp [Value.oneCell']) (by omega) (by omega) (by unfold maxLen; omega) ?_); intro g7 cap7 w7 hbun7 hb7)
    have Hfin := Lib.hid (And.intro hbun7 ((HBe2.out.alloc (by omega) (.cells #[.int .i64 k'] 2)).trans hb7))
    clear hbun7 hb7 hBu hNb
    go_wp2_with fail
    go_roundw
    case rel =>
     refine ⟨k' + 1, by go_num, by omega, ?_, Hfin.out.2⟩
     have h := Hfin.out.1
     rw [lenTo_yes Hacc.out, List.map_append, List.length_append]
     exact h
    case measure => simp [intOf]; omega
set_option maxHeartbeats 8000000 in
theorem implLengthsOf_i {t a k n : Int} {ks : List Ex} {s : Option Addr} {c : Nat} {w : World} (hr : Rd w (kidsD ks) (.slice s ks.length c)) (h1 : Ex.sizeL ks ≤ 1048576) :
  Calls Tryz.prog 45 #[.agg #[.int .i64 t, .int .i64 a], .agg #[.int .i64 k, .int .i64 n, .slice s ks.length c]] w fun e w' => ∃ s' c', e = .returned (.tuple #[.slice s' (lnR t a (.mk k n ks)).length c', .int .i64 (auC t a (.mk k n ks))]) ∧
   Freshs w w' [intsD (lnR t a (.mk k n ks))] [.slice s' (lnR t a (.mk k n ks)).length c'] ∧ Below w.heap.size w w' := by
 have Hsz : Hid (Ex.size (.mk k n ks) ≤ 1073741824) := by show _ ≤ _; rw [Ex.size_eq]; simp only [Ex.kids]; omega
 have H1 := Lib.hid h1
 cases hcb : (auC t a (.mk k n ks) != 0)
 rotate_left
 ·
  have HE : Hid (lnR t a (.mk k n ks) = []) := by show _ = _; unfold lnR; rw [if_neg (by simpa using hcb)]
  go_enter Tryz.func45, Tryz.ntmps45
  go_wp2_with fail
  have L := (Blk.new2 w 33 (.int .i64 t) (.int .i64 a)).alloc (.cells #[.int .i64 k, .int .i64 n, .slice s ks.length c] 30)
  have M := Blk.new3 (w.alloc (.cells #[.int .i64 t, .int .i64 a] 33)) 30 (.int .i64 k) (.int .i64 n) (.slice s ks.length c)
  simp at M
  have hB : Below w.heap.size w ((w.alloc (.cells #[.int .i64 t, .int .i64 a] 33)).alloc (.cells #[.int .i64 k, .int .i64 n, .slice s ks.length c] 30)) := by (repeat' first | exact Below.refl _ _ | assumption | apply Below.alloc | apply Below.drew | apply Below.setCell | omega | (simp; done) | (simp; omega))
  have hB0 := hB
  generalize ((w.alloc (.cells #[.int .i64 t, .int .i64 a] 33)).alloc (.cells #[.int .i64 k, .int .i64 n, .slice s ks.length c] 30)) = v0 at L M hB hB0 ⊢
  have l0 := L.c0
  have l1 := L.c1
  have m0 := M.c0
  have m1 := M.c1
  have m2 := M.c2
  have ltL := L.lt
  have ltM := M.lt
  go_wp2_with fail
  refine ((oneAutomaton_au (t := t) (a := a) (k := k) (n := n) (hr.below hB) H1.out).mono fun _ _ h => h.no).mono ?_
  rintro x w1 ⟨t', a', s', u', l', c', m', d', rfl, hb⟩
  clear l0 l1 m0 m1 m2 ltL ltM
  replace hB := Below.on hB hb hB.size
  replace L := L.below hb
  replace M := M.below hb
  clear hb
  have szW1 := hB.size
  have l0 := L.c0
  have l1 := L.c1
  have m0 := M.c0
  have m1 := M.c1
  have m2 := M.c2
  have ltL := L.lt
  have ltM := M.lt
  go_wp2_with fail
  go_ret2
  rw [HE.out]
  exact ⟨none, 0, rfl, none_ints, by (repeat' first | exact Below.refl _ _ | assumption | apply Below.alloc | apply Below.drew | apply Below.setCell | omega | (simp; done) | (simp; omega))⟩
 ·
  skip
  have hc : auC t a (.mk k n ks) = 0 := by simpa using hcb
  obtain ⟨-, -, -, hok⟩ := au_ok hc
  have hlo := hok.lo
  have hhi := hok.hi
  have HE : Hid (lnR t a (.mk k n ks) = lenTo (auA t a (.mk k n ks)) (auX t a (.mk k n ks)) 11) := by show _ = _; unfold lnR; rw [if_pos hc]
  have Hok := Lib.hid hok
  have Hc := Lib.hid hc
  have Hll := Lib.hid (lenTo_len (auA t a (.mk k n ks)) (auX t a (.mk k n ks)))
  clear hcb hc hok
  go_enter Tryz.func45, Tryz.ntmps45
  go_wp2_with fail
  have L := (Blk.new2 w 33 (.int .i64 t) (.int .i64 a)).alloc (.cells #[.int .i64 k, .int .i64 n, .slice s ks.length c] 30)
  have M := Blk.new3 (w.alloc (.cells #[.int .i64 t, .int .i64 a] 33)) 30 (.int .i64 k) (.int .i64 n) (.slice s ks.length c)
  simp at M
  have hB : Below w.heap.size w ((w.alloc (.cells #[.int .i64 t, .int .i64 a] 33)).alloc (.cells #[.int .i64 k, .int .i64 n, .slice s ks.length c] 30)) := by (repeat' first | exact Below.refl _ _ | assumption | apply Below.alloc | apply Below.drew | apply Below.setCell | omega | (simp; done) | (simp; omega))
  have hB0 := hB
  generalize ((w.alloc (.cells #[.int .i64 t, .int .i64 a] 33)).alloc (.cells #[.int .i64 k, .int .i64 n, .slice s ks.length c] 30)) = v0 at L M hB hB0 ⊢
  have l0 := L.c0
  have l1 := L.c1
  have m0 := M.c0
  have m1 := M.c1
  have m2 := M.c2
  have ltL := L.lt
  have ltM := M.lt
  go_wp2_with fail
  refine ((oneAutomaton_au (t := t) (a := a) (k := k) (n := n) (hr.below hB) H1.out).mono fun _ _ h => h.yes Hc.out).mono ?_
  rintro x w1 ⟨sb, cb, sd, cd, rfl, hf, hb⟩
  clear l0 l1 m0 m1 m2 ltL ltM
  replace hB := Below.on hB hb hB.size
  replace L := L.below hb
  replace M := M.below hb
  clear hb
  have szW1 := hB.size
  have l0 := L.c0
  have l1 := L.c1
  have m0 := M.c0
  have m1 := M.c1
  have m2 := M.c2
  have ltL := L.lt
  have ltM := M.lt
  go_wp2_with fail
  obtain ⟨w2, e2, A, hb2, hz2⟩ := box4 w1 75 (.int .i64 t) (.int .i64 a) (.slice sb (auA t a (.mk k n ks)).length cb) (.slice sd (auX t a (.mk k n ks)).length cd)
  rw [e2]
  have hB2 := hB.trans (hb2.mono hB.size)
  have hrd := hf.rds.below hb2
  have HA := Lib.hid A
  have Hrd := Lib.hid hrd
  have hz2' := hB2.size
  have hBn := (Bun.nil (B := w2.heap.size) (w := w2)).push_empty (Nat.le_refl _) 2 1
  have hbe := (Below.refl w2.heap.size w2).alloc (Nat.le_refl _) (.cells #[] 2)
  clear e2 hf hb2 l0 l1 m0 m1 m2 ltL ltM L M A hr hrd
  go_loopw [8, 9] (fun v i wr => ∃ k' : Nat, i = .int .i64 k' ∧ k' ≤ 11 ∧ Bun w2.heap.size wr [.app 2 1 (lenTo (auA t a (.mk k n ks)) (auX t a (.mk k n ks)) k').length ((lenTo (auA t a (.mk k n ks)) (auX t a (.mk k n ks)) k').map D.int) v] ∧ Below w2.heap.size w2 wr) (fun _ i _ => 11 - (intOf i).toNat)
  case atStart => exact ⟨0, rfl, by omega, by rw [← hz2]; simpa [lenTo] using hBn, hbe⟩
  case round =>
   clear hBn hbe
   obtain ⟨k', rfl, hk, hbun, hbe⟩ := hrel
   obtain ⟨wo, rfl⟩ : ∃ v, v = wr := ⟨_, rfl⟩
   obtain ⟨av, cv, rfl, hv1, hv2⟩ := hbun.shape 0 rfl
   unfold maxLen at hv2
   have hk0 := Int.natCast_nonneg k'
   have hll := Hll.out k'
   have hzo := hbe.size
   have HB1 := Lib.hid hbun
   have HBe1 := Lib.hid hbe
   by_cases hkl : k' ≤ 10
   rotate_left
   ·
    obtain rfl : k' = 11 := by omega
    have Hf := Lib.hid (hbun.fresh (W := w) (by omega) 0 rfl)
    clear hbun hbe
    go_wp2_with fail
    go_ret2
    rw [HE.out, Hc.out]
    exact ⟨_, _, rfl, Freshs.one Hf.out, hB2.trans (HBe1.out.mono hz2')⟩
   obtain ⟨x0, x1, x2, x3, -, -, -, -, ltx⟩ := (HA.out.below hbe).all4
   have hk10 : (k' : Int) ≤ 10 := by omega
   have hrw := Hrd.out.below hbe
   have Hrw := Lib.hid hrw
   clear hbun hbe hrw
   go_wp2_with fail
   refine (countFrom_i (n := k') (Rds.two Hrw.out).1 (Rds.two Hrw.out).2 Hok.out hkl).mono ?_
   rintro x w5 ⟨g, rfl, hfl, hb5⟩
   obtain ⟨q, hq⟩ : ∃ q, accW (auA t a (.mk k n ks)) (auX t a (.mk k n ks)) k' 0 = q := ⟨_, rfl⟩
   obtain ⟨v, hv, hv0, hvq⟩ := cnt_pos Hok.out k' 0 (by omega)
   obtain ⟨hgl, q0⟩ := int_in hfl.rd hv
   simp only [Nat.add_zero] at q0
   rw [hq] at hvq
   have Hacc := Lib.hid hq
   have HB2 := Lib.hid (HB1.out.below hb5)
   have HBe2 := Lib.hid (HBe1.out.trans (hb5.mono hzo))
   have hz5 := hb5.size
   clear hq hv hfl hb5 x0 x1 x2 x3 ltx HB1 HBe1
   cases q
   ·
    have hng : decide ((0 : Int) < v) = false := by
     have h : ¬ (0 < v) := fun h => by have := hvq.1 h; cases this
     simpa using h
    clear hvq
    go_wp2_with fail
    go_roundw
    case rel => exact ⟨k' + 1, by go_num, by omega, by rw [lenTo_no Hacc.out]; exact HB2.out, HBe2.out⟩
    case measure => simp [intOf]; omega
   ·
    have hng : decide ((0 : Int) < v) = true := by
     have h : 0 < v := hvq.2 rfl
     simpa using h
    clear hvq
    have hBu := HB2.out.alloc (.cells #[.int .i64 k'] 2)
    have hNb := Blk.new1 w5 2 (.int .i64 k')
    go_wp2_with (at_builtin; go_must (refine wpList_append_bun _ rfl _ _ 52 rfl 2 (.int .i64 0) 1 8 Tryz.underlying52 info_int64 rfl (by decide) hBu (by simp <;> omega) 0 _ rfl rfl ⟨w5.heap.size, 0, none⟩ 1 1 [.int .i64 k'] rfl (news_blk hNb) none_own rfl (by simp [Value.oneCell']) (by omega) (by omega) (by unfold maxLen; omega) ?_); intro g7 cap7 w7 hbun7 hb7)
    have Hfin := Lib.hid (And.intro hbun7 ((HBe2.out.alloc (by omega) (.cells #[.int .i64 k'] 2)).trans hb7))
    clear hbun7 hb7 hBu hNb
    go_wp2_with fail
    go_roundw
    case rel =>
     refine ⟨k' + 1, by go_num, by omega, ?_, Hfin.out.2⟩
     have h := Hfin.out.1
     rw [lenTo_yes Hacc.out, List.map_append, List.length_append]
     exact h
    case measure => simp [intOf]; omega
end Go.Proofs.YtjlmdhoajfdkbaaGreatDoor

namespace Go.Proofs.YtjlmdhoajfdkbaaGreatDoor
set_option linter.unusedVariables false
set_option linter.unusedSimpArgs false
open Go.ChangeShapes Go.WideShapes Go.ChangeAt Go.RowKit Go.Sort
theorem marksL_cells : ∀ ks : List Ex, D.marksL (Ex.cellsL ks) = 2 * Ex.sizeL ks
 | [] => by simp [Ex.cellsL, D.marksL, Ex.sizeL]
 | .mk k n us :: r => by
  have h1 := marksL_cells us
  have h2 := marksL_cells r
  simp only [Ex.cellsL, Ex.cells, List.cons_append, List.nil_append, D.marksL, D.marks, Ex.sizeL, Ex.size, h1, h2]
  omega
theorem cellsL_take : ∀ (ks : List Ex) (j : Nat), (Ex.cellsL ks).take (j * 3) = Ex.cellsL (ks.take j)
 | [], j => by simp [Ex.cellsL]
 | e :: r, 0 => by simp [Ex.cellsL]
 | e :: r, j + 1 => by
  simp only [List.take_succ_cons, Ex.cellsL]
  rw [← cellsL_take r j, List.take_append, Ex.cells_length, List.take_of_length_le (by rw [Ex.cells_length]; omega)]
  congr 2
  omega
set_option maxHeartbeats 2000000 in
theorem markExprS_all (N : Nat) : ∀ (ks : List Ex) (s : Option Addr) (c k : Nat) (F : List Nat) (w : World), Ex.sizeL ks ≤ N → Ow w (kidsD ks) (.slice s ks.length c) F → F.Nodup → k + 2 * Ex.sizeL ks ≤ 1000000000000 →
  Calls Tryz.prog 25 #[.slice s ks.length c, .int .i64 k] w fun e w' => e = .returned (.int .i64 (k + 2 * Ex.sizeL ks : Nat)) ∧ Ow w' (D.mark (kidsD ks) k) (.slice s ks.length c) F ∧ Only F w w' := by
 induction N using Nat.strongRecOn with
 | _ N ih =>
 intro ks s c k F w hN h hn hk
 have hkl := Ex.length_le_sizeL ks
 have H0 : Ow w (.sl 3 ks.length (mkd (Ex.cellsL ks) (0 * 3) k)) (.slice s ks.length c) F := by rw [Nat.zero_mul, mkd_zero]; exact h
 go_enter Tryz.func25, Tryz.ntmps25
 go_wp2_with fail
 go_loopw [1, 5] (fun q i wr => ∃ j : Nat, j ≤ ks.length ∧ i = .int .i64 j ∧ q = .int .i64 (k + 2 * Ex.sizeL (ks.take j) : Nat) ∧ Ow wr (.sl 3 ks.length (mkd (Ex.cellsL ks) (j * 3) k)) (.slice s ks.length c) F ∧ Only F w wr) (fun _ i _ => ks.length - (intOf i).toNat)
 case atStart => exact ⟨0, by omega, rfl, by simp [Ex.sizeL], H0, Only.refl _ _⟩
 case round =>
  clear h H0
  obtain ⟨j, hj, rfl, rfl, h, hO⟩ := hrel
  by_cases hlt : j < ks.length
  ·
   obtain ⟨x, hx⟩ : ∃ e, ks[j]? = some e := ⟨_, List.getElem?_eq_getElem hlt⟩
   obtain ⟨b, o, rfl⟩ := h.spot (by omega)
   have hxs := Ex.size_eq x
   have hxm := Ex.sizeL_mem (List.mem_of_getElem? hx)
   have htk := Ex.sizeL_take_succ hx
   have htl := Ex.sizeL_take_le ks (j + 1)
   have c0 := Ex.cellsL_at ks j x hx 0 (by omega)
   have c1 := Ex.cellsL_at ks j x hx 1 (by omega)
   have c2 := Ex.cellsL_at ks j x hx 2 (by omega)
   rw [Ex.cells_eq] at c0 c1 c2
   rw [show 3 * j + 0 = j * 3 by omega] at c0
   rw [show 3 * j + 1 = j * 3 + 1 by omega] at c1
   rw [show 3 * j + 2 = j * 3 + 2 by omega] at c2
   simp only [List.getElem?_cons_zero, List.getElem?_cons_succ] at c0 c1 c2
   obtain ⟨q, hq⟩ : ∃ q, k + 2 * Ex.sizeL (ks.take j) = q := ⟨_, rfl⟩
   have m0 : D.marksL ((Ex.cellsL ks).take (j * 3)) = 2 * Ex.sizeL (ks.take j) := by rw [cellsL_take, marksL_cells]
   have m1 : D.marksL ((Ex.cellsL ks).take (j * 3 + 1)) = 2 * Ex.sizeL (ks.take j) + 1 := by rw [marks_step c0, m0]; rfl
   have m2 : D.marksL ((Ex.cellsL ks).take (j * 3 + 2)) = 2 * Ex.sizeL (ks.take j) + 2 := by rw [marks_step c1, m1]; rfl
   obtain ⟨g0, z0, gl, s0⟩ := h.int_cell hn (mkd_at c0 (Nat.le_refl _) k)
   obtain ⟨p1, p2⟩ := s0 (q : Int)
   have e1 := mkd_step c0 k
   rw [m0, hq] at e1
   rw [show D.mark (D.int x.kind) q = D.int (q : Int) from by simp only [D.mark]] at e1
   rw [e1] at p1
   obtain ⟨g1, z1, -, s1⟩ := p1.int_cell hn (mkd_at c1 (Nat.le_refl _) k)
   obtain ⟨q1, q2⟩ := s1 ((q : Int) + 1)
   have e2 := mkd_step c1 k
   rw [m1, show k + (2 * Ex.sizeL (ks.take j) + 1) = q + 1 by omega] at e2
   rw [show D.mark (D.int x.num) (q + 1) = D.int ((q : Int) + 1) from by simp only [D.mark]; congr 1] at e2
   rw [e2] at q1
   obtain ⟨a', c', G, g2, z2, -, -, hGF, hGn, hG, s2⟩ := q1.sl_cell hn (mkd_at c2 (Nat.le_refl _) k)
   have e3 := mkd_step c2 k
   rw [m2, show k + (2 * Ex.sizeL (ks.take j) + 2) = q + 2 by omega] at e3
   rw [show j * 3 + 2 + 1 = (j + 1) * 3 by omega] at e3
   have He3 := Lib.hid e3
   have q12 := hO.trans (p2.trans q2)
   simp only [← Nat.add_assoc] at s2 q12
   have Hs2 := Lib.hid s2
   have Hq12 := Lib.hid q12
   have Hq : Hid (q + 2 + 2 * Ex.sizeL x.kids = k + 2 * Ex.sizeL (ks.take (j + 1))) := by show _ = _; omega
   have hqb : q + 2 + 2 * Ex.sizeL x.kids ≤ 1000000000000 := by omega
   have hxN : Ex.sizeL x.kids < N := by omega
   rw [← Nat.add_assoc] at g1 z1 g2 z2
   rw [hq]
   simp only [← Nat.add_assoc] at hG g2 z2
   clear q12 e1 e2 e3 m0 m1 m2 c0 c1 c2 hq p1 p2 q1 q2 s0 s1 s2 hxs hxm htk htl hO h hx
   go_wp2_with fail
   rw [show ((q : Int) + 1 + 1) = ((q + 2 : Nat) : Int) from by omega]
   refine (ih _ hxN x.kids a' c' (q + 2) G _ (Nat.le_refl _) hG hGn hqb).mono ?_
   rintro e w1 ⟨rfl, hm, hO2⟩
   obtain ⟨t1, t2⟩ := Hs2.out w1 _ hm hO2
   have t3 : Ow w1 (.sl 3 ks.length (mkd (Ex.cellsL ks) ((j + 1) * 3) k)) (.slice (some ⟨b, o, none⟩) ks.length c) F := by rw [← He3.out]; exact t1
   have Hfin := Lib.hid (And.intro t3 (Hq12.out.trans t2))
   clear t1 t2 t3 hm hO2 hG g2 z2 g0 z0 g1 z1
   rw [Hq.out]
   go_wp2_with fail
   go_roundw
   case rel => exact ⟨j + 1, by omega, by go_num, rfl, Hfin.out.1, Hfin.out.2⟩
   case measure => simp [intOf]; omega
  ·
   obtain rfl : j = ks.length := by omega
   have e := mkd_all (Ex.cellsL ks) k
   rw [Ex.cellsL_length] at e
   rw [e] at h
   rw [List.take_length] at *
   go_wp2_with fail
   go_ret
   exact ⟨rfl, h, hO⟩
theorem markExpr_i {kd n : Int} {ks : List Ex} {s : Option Addr} {c k : Nat} {F : List Nat} {w : World} (h : Ow w (kidsD ks) (.slice s ks.length c) F) (hn : F.Nodup) (hk : k + 2 * Ex.sizeL ks ≤ 1000000000000) :
  Calls Tryz.prog 20 #[.agg #[.int .i64 kd, .int .i64 n, .slice s ks.length c], .int .i64 k] w fun e w' => e = .returned (.int .i64 (k + 2 * Ex.sizeL ks : Nat)) ∧ Ow w' (D.mark (kidsD ks) k) (.slice s ks.length c) F ∧ Only F w w' := by
 have hO : Only F w (w.alloc (.cells #[.int .i64 kd, .int .i64 n, .slice s ks.length c] 30)) := (Only.refl _ _).alloc _
 have h' := h.keep (w' := w.alloc (.cells #[.int .i64 kd, .int .i64 n, .slice s ks.length c] 30)) fun b hb => Below.heap_alloc w _ b (h.lt b hb)
 go_enter Tryz.func20, Tryz.ntmps20
 go_wp2_with fail
 refine (markExprS_all _ ks s c k F _ (Nat.le_refl _) h' hn hk).mono ?_
 rintro e w1 ⟨rfl, hm, hO2⟩
 go_wp2_with fail
 go_ret
 exact ⟨rfl, hm, hO.trans hO2⟩
theorem Ows.single {w : World} {d : D} {v : Value} {F : List Nat} (h : Ows w [d] [v] F) : Ow w d v F := by
 simp only [Ows] at h
 obtain ⟨x, r, G, K, e1, e2, h1, e3, rfl⟩ := h
 simp only [List.cons.injEq] at e1
 obtain ⟨rfl, -⟩ := e1
 rw [e2, List.append_nil]
 exact h1
theorem Ow.single {w : World} {d : D} {v : Value} {F : List Nat} (h : Ow w d v F) : Ows w [d] [v] F := by
 have := Ows.cons h Ows.nil
 simpa using this
theorem markExprL_i {kd n : Int} {ks : List Ex} {s : Option Addr} {c k : Nat} {F : List Nat} {w : World} (h : Ows w [kidsD ks] [.slice s ks.length c] F) (hn : F.Nodup) (hk : k + 2 * Ex.sizeL ks ≤ 1000000000000) :
  Calls Tryz.prog 20 #[.agg #[.int .i64 kd, .int .i64 n, .slice s ks.length c], .int .i64 k] w fun e w' => e = .returned (.int .i64 (k + 2 * Ex.sizeL ks : Nat)) ∧ Ows w' (D.markL [kidsD ks] k) [.slice s ks.length c] F ∧ Only F w w' :=
 (markExpr_i h.single hn hk).mono fun _ _ ⟨h1, h2, h3⟩ => ⟨h1, h2.single, h3⟩
end Go.Proofs.YtjlmdhoajfdkbaaGreatDoor

namespace Go.Proofs.YtjlmdhoajfdkbaaGreatDoor
set_option linter.unusedVariables false
set_option linter.unusedSimpArgs false
open Go.ChangeShapes Go.WideShapes Go.ChangeAt Go.RowKit Go.Sort
theorem eqIntsL_i {zs ys : List Int} {s t : Option Addr} {c d : Nat} {w : World} (hr : Rd w (intsD zs) (.slice s zs.length c)) (hr' : Rd w (intsD ys) (.slice t ys.length d)) :
  Calls Tryz.prog 46 #[.slice s zs.length c, .slice t ys.length d] w fun e w' => e = .returned (.bool (eqb zs ys)) ∧ Below w.heap.size w w' := eqInt64S_any zs ys s t c d w hr hr'
theorem markIntsL_i {zs : List Int} {s : Option Addr} {c k : Nat} {F : List Nat} {w : World} (h : Ows w [intsD zs] [.slice s zs.length c] F) (hn : F.Nodup) (hk : k + zs.length ≤ 1000000000000) :
  Calls Tryz.prog 47 #[.slice s zs.length c, .int .i64 k] w fun e w' => e = .returned (.int .i64 (k + zs.length : Nat)) ∧ Ows w' (D.markL [intsD zs] k) [.slice s zs.length c] F ∧ Only F w w' :=
 (markInt64S_i h.single hn (by omega) (by omega)).mono fun _ _ ⟨h1, h2, h3⟩ => ⟨h1, h2.single, h3⟩
theorem heldIntsL_i {zs : List Int} {s : Option Addr} {c k : Nat} {w : World} (h : Rds w (D.markL [intsD zs] k) [.slice s zs.length c]) (hk : k + zs.length ≤ 1000000000000) :
  Calls Tryz.prog 48 #[.slice s zs.length c, .int .i64 k] w fun e w' => e = .returned (.int .i64 (k + zs.length : Nat)) ∧ Below w.heap.size w w' :=
 (heldInt64S_i (Rds.one h) (by omega) (by omega)).mono fun _ _ ⟨h1, h2⟩ => ⟨h1, below_self h2⟩
end Go.Proofs.YtjlmdhoajfdkbaaGreatDoor
