/-
  Parts of a proof, joined: BothI, BothJ, Rch. No condition.
-/
import Derived.Test.YtjlmdhoajfdkbaaGreatDoorPk44
namespace Go.Proofs.YtjlmdhoajfdkbaaGreatDoor
set_option linter.unusedVariables false
set_option linter.unusedSimpArgs false
open Go.ChangeShapes Go.WideShapes Go.ChangeAt Go.RowKit Go.Deep
def vE (t a : Int) (e : Ex) : Bool := shF (IntKind.i64.wrap (t - 1)) (IntKind.i64.wrap (a - 1)) e 200 40
theorem vE_ok {t a : Int} {e : Ex} : (sigB t a && vE t a e) = okB t a e := by
 cases hs : sigB t a
 ·
  unfold okB
  rw [hs]
  rfl
 ·
  obtain ⟨h0, h1, h2, h3⟩ := sigB_bd hs
  rw [Bool.true_and, ← okB_sh hs]
  unfold vE
  rw [wrap_of (by omega) (by omega), wrap_of (by omega) (by omega)]
def VTo (t a : Int) (L : List Ex) (k : Nat) : Prop := ∀ (j : Nat) (e : Ex), j < k → L[j]? = some e → vE t a e = true
theorem VTo.succ {t a : Int} {L : List Ex} {k : Nat} {e : Ex} (h : VTo t a L k) (he : L[k]? = some e) (hv : vE t a e = true) : VTo t a L (k + 1) := fun j f hj hf => by
 by_cases hjk : j = k
 ·
  rw [hjk, he] at hf
  rw [← Option.some.inj hf]
  exact hv
 ·
  exact h j f (by omega) hf
theorem vall_yes {t a : Int} {L : List Ex} (h : VTo t a L L.length) : L.all (vE t a) = true := by
 rw [List.all_eq_true]
 intro x hx
 obtain ⟨i, hi⟩ := List.mem_iff_getElem?.1 hx
 exact h i x (List.getElem?_eq_some_iff.1 hi).1 hi
theorem vall_no {t a : Int} {L : List Ex} {k : Nat} {e : Ex} (he : L[k]? = some e) (hv : vE t a e = false) : L.all (vE t a) = false := by
 rw [List.all_eq_false]
 exact ⟨e, List.mem_of_getElem? he, by rw [hv]; simp⟩
set_option maxRecDepth 100000 in
set_option maxHeartbeats 8000000 in
theorem validExprs_i {t a : Int} {L : List Ex} {b o c : Nat} {w : World} (hr : Rd w (kidsD L) (.slice (some ⟨b, o, none⟩) L.length c)) :
  Calls Tryz.prog 81 #[.agg #[.int .i64 t, .int .i64 a], .slice (some ⟨b, o, none⟩) L.length c] w fun e w' => e = .returned (.bool (sigB t a && L.all (vE t a))) ∧ Below w.heap.size w w' := by
 obtain ⟨-, hl2, hl3, -⟩ := kid_at hr
 unfold maxLen at hl3
 have Hr := Lib.hid hr
 clear hr
 go_enter Tryz.func81, Tryz.ntmps81
 go_wp2_with fail
 obtain ⟨w1, e1, G, hb1, hz1⟩ := box2 w 33 (.int .i64 t) (.int .i64 a)
 rw [e1]
 have hz1' := hb1.size
 have HB1 := Lib.hid hb1
 clear e1 hb1
 go_loopw [9] (fun i wr => ∃ k : Nat, i = .int .i64 k ∧ k ≤ L.length ∧ Hid (VTo t a L k) ∧ Below w1.heap.size w1 wr) (fun i _ => L.length - (intOf i).toNat)
 case atStart => exact ⟨0, rfl, by omega, fun j e hj => by omega, Below.refl _ _⟩
 case round =>
  obtain ⟨k, rfl, hk, HV, hbe⟩ := hrel
  obtain ⟨wo, rfl⟩ : ∃ v, v = wr := ⟨_, rfl⟩
  have hk0 := Int.natCast_nonneg k
  have hzo := hbe.size
  obtain ⟨g0, g1, ltG⟩ := (G.below hbe).all2
  have HBe := Lib.hid hbe
  by_cases hlt : k < L.length
  rotate_left
  ·
   obtain rfl : k = L.length := by omega
   have HA : Hid (L.all (vE t a) = true) := vall_yes HV.out
   clear hbe
   go_wp2_with fail
   refine (implValidSig_any t a _).mono ?_
   rintro e w2 ⟨rfl, hb2⟩
   go_wp2_with fail
   go_ret
   exact ⟨ret_bool (by rw [HA.out]; simp), (HB1.out.trans (HBe.out.mono hz1')).trans (hb2.mono (by omega))⟩
  obtain ⟨x, hx⟩ : ∃ x, L[k]? = some x := ⟨_, List.getElem?_eq_getElem hlt⟩
  obtain ⟨hkb, sx, cx, i0, i1, i2, hxr⟩ := kid_in (Hr.out.below (HB1.out.trans (hbe.mono hz1'))) hx
  have hkL : (k : Int) < (L.length : Int) := by omega
  have Hx := Lib.hid hx
  have G4 := G.below hbe
  clear hx hbe
  go_wp2_with fail
  clear i0 i1 i2 g0 g1 ltG
  obtain ⟨w4, e4, X, hb4, hz4⟩ := box3 wo 30 (.int .i64 x.kind) (.int .i64 x.num) (.slice sx x.kids.length cx)
  rw [e4]
  have HBe4 := Lib.hid (HBe.out.trans (hb4.mono hzo))
  have hxr4 := hxr.below hb4
  clear e4 hb4 hxr
  refine (isExpr_w _ _ rfl rfl hxr4).mono ?_
  rintro e w5 ⟨rfl, hb5⟩
  have HBe5 := Lib.hid (HBe4.out.trans (hb5.mono (by omega)))
  have HEV : Hid (shF (IntKind.i64.wrap (t - 1)) (IntKind.i64.wrap (a - 1)) (.mk x.kind x.num x.kids) 200 40 = vE t a x) := by show _ = _; rw [← Ex.eta]; rfl
  rw [HEV.out]
  clear hb5 hxr4 HEV
  cases hv : vE t a x
  ·
   have HA : Hid (L.all (vE t a) = false) := vall_no Hx.out hv
   clear hv
   go_wp2_with fail
   go_ret
   exact ⟨ret_bool (by rw [HA.out]; simp), HB1.out.trans (HBe5.out.mono hz1')⟩
  ·
   have HV2 := Lib.hid (HV.out.succ Hx.out hv)
   clear hv
   go_wp2_with fail
   go_roundw
   case rel => exact ⟨k + 1, by go_num, by omega, HV2.out, HBe5.out⟩
   case measure => simp [intOf]; omega
theorem rd_pair {w : World} {g T : Nat} {e f : Ex} {s s' : Option Addr} {c c' : Nat} (h : Blk w g T [.int .i64 e.kind, .int .i64 e.num, .slice s e.kids.length c, .int .i64 f.kind, .int .i64 f.num, .slice s' f.kids.length c']) (h1 : Rd w (kidsD e.kids) (.slice s e.kids.length c)) (h2 : Rd w (kidsD f.kids) (.slice s' f.kids.length c')) :
  Rd w (kidsD [e, f]) (.slice (some ⟨g, 0, none⟩) 2 2) := by
 show Rd w (.sl 3 2 (Ex.cellsL [e, f])) _
 have hc : Ex.cellsL [e, f] = [.int e.kind, .int e.num, kidsD e.kids, .int f.kind, .int f.num, kidsD f.kids] := by
  simp only [Ex.cellsL, List.append_nil]
  rw [Ex.cells_eq, Ex.cells_eq]
  rfl
 rw [hc]
 simp only [Rd]
 refine ⟨some ⟨g, 0, none⟩, 2, rfl, by omega, by simp [maxLen], by simp, by simp, Or.inr ⟨g, 0, _, rfl, h.row (List.take_length ..), ?_⟩⟩
 simp only [Rds, Rd]
 exact ⟨_, _, rfl, rfl, _, _, rfl, rfl, _, _, rfl, h1, _, _, rfl, rfl, _, _, rfl, rfl, _, _, rfl, h2, rfl⟩
end Go.Proofs.YtjlmdhoajfdkbaaGreatDoor

namespace Go.Proofs.YtjlmdhoajfdkbaaGreatDoor
set_option linter.unusedVariables false
set_option linter.unusedSimpArgs false
open Go.ChangeShapes Go.WideShapes Go.ChangeAt Go.RowKit Go.Deep
theorem both_valid {t a : Int} {e f : Ex} : (sigB t a && [e, f].all (vE t a)) = (okB t a e && okB t a f) := by
 rw [← vE_ok, ← vE_ok]
 simp only [List.all_cons, List.all_nil, Bool.and_true]
 cases sigB t a <;> simp
set_option maxRecDepth 100000 in
set_option maxHeartbeats 8000000 in
theorem bothAutomata_i {t a : Int} {e f : Ex} {s s' : Option Addr} {c c' : Nat} {w : World} (hr : Rd w (kidsD e.kids) (.slice s e.kids.length c)) (hr' : Rd w (kidsD f.kids) (.slice s' f.kids.length c')) :
  Calls Tryz.prog 103 #[.agg #[.int .i64 t, .int .i64 a], .agg #[.int .i64 e.kind, .int .i64 e.num, .slice s e.kids.length c], .agg #[.int .i64 f.kind, .int .i64 f.num, .slice s' f.kids.length c']] w (BothPost t a e f w) := by
 go_enter Tryz.func103, Tryz.ntmps103
 go_wp2_with fail
 obtain ⟨w1, e1, G, hb1, hz1⟩ := box2 w 33 (.int .i64 t) (.int .i64 a)
 rw [e1]
 obtain ⟨w2, e2, X, hb2, hz2⟩ := box3 w1 30 (.int .i64 e.kind) (.int .i64 e.num) (.slice s e.kids.length c)
 rw [e2]
 obtain ⟨w3, e3, Y, hb3, hz3⟩ := box3 w2 30 (.int .i64 f.kind) (.int .i64 f.num) (.slice s' f.kids.length c')
 rw [e3]
 obtain ⟨w4, e4, R, hb4, hz4⟩ := box4 w3 75 (.int .i64 0) (.int .i64 0) (.slice none 0 0) (.slice none 0 0)
 rw [e4]
 obtain ⟨w0, e0, Q, hb5, hz5⟩ := box4 w4 75 (.int .i64 0) (.int .i64 0) (.slice none 0 0) (.slice none 0 0)
 rw [e0]
 have hB : Below w.heap.size w w0 := (((hb1.trans (hb2.mono (by omega))).trans (hb3.mono (by omega))).trans (hb4.mono (by omega))).trans (hb5.mono (by omega))
 replace R := R.below hb5
 replace Y := (Y.below hb4).below hb5
 replace X := ((X.below hb3).below hb4).below hb5
 replace G := (((G.below hb2).below hb3).below hb4).below hb5
 clear e1 e2 e3 e4 e0
 have S := Blk.new6 w0 30 (.int .i64 e.kind) (.int .i64 e.num) (.slice s e.kids.length c) (.int .i64 f.kind) (.int .i64 f.num) (.slice s' f.kids.length c')
 have hb6 : Below w0.heap.size w0 (w0.alloc (.cells #[.int .i64 e.kind, .int .i64 e.num, .slice s e.kids.length c, .int .i64 f.kind, .int .i64 f.num, .slice s' f.kids.length c'] 30)) := Below.alloc (Below.refl _ _) (Nat.le_refl _) _
 generalize w0.alloc (.cells #[.int .i64 e.kind, .int .i64 e.num, .slice s e.kids.length c, .int .i64 f.kind, .int .i64 f.num, .slice s' f.kids.length c'] 30) = w5 at S hb6 ⊢
 have hzz : w0.heap.size = w.heap.size + 5 := by omega
 rw [show w1.heap.size = w.heap.size + 1 by omega] at X
 rw [show w2.heap.size = w.heap.size + 1 + 1 by omega] at Y
 rw [show w3.heap.size = w.heap.size + 1 + 1 + 1 by omega] at R
 rw [show w4.heap.size = w.heap.size + 1 + 1 + 1 + 1 by omega] at Q
 rw [show w0.heap.size = w.heap.size + 1 + 1 + 1 + 1 + 1 by omega] at S
 have hz6 := hb6.size
 have hB6 := Below.on hB hb6 hB.size
 replace R := R.below hb6
 replace Q := Q.below hb6
 replace X := X.below hb6
 replace Y := Y.below hb6
 replace G := G.below hb6
 clear hb1 hb2 hb3 hb4 hb5 hz1 hz2 hz3 hz4 hz5 hb6 hB
 refine (validExprs_i (L := [e, f]) (rd_pair S (hr.below hB6) (hr'.below hB6))).mono ?_
 rintro g w6 ⟨rfl, hb⟩
 have hB := Below.on hB6 hb hB6.size
 replace R := R.below hb
 replace Q := Q.below hb
 replace X := X.below hb
 replace Y := Y.below hb
 replace G := G.below hb
 have hz7 := hb.size
 clear hb S hB6
 rw [both_valid]
 obtain ⟨g0, g1, ltG⟩ := G.all2
 obtain ⟨x0, x1, x2, -, -, -, ltX⟩ := X.all3
 cases h1 : (okB t a e && okB t a f)
 ·
  have HC : Hid (bothC t a e f = 1) := both_bad (by
   cases h2 : okB t a e
   ·
    exact Or.inl rfl
   ·
    rw [h2] at h1; exact Or.inr (by simpa using h1))
  clear h1
  obtain ⟨r0, r1, r2, r3, z0, z1, z2, z3, ltR⟩ := R.all4
  obtain ⟨p0, p1, p2, p3, y0, y1, y2, y3, ltQ⟩ := Q.all4
  go_wp2_with fail
  obtain ⟨w5, e5, T1, hs5⟩ := set4 R (.int .i64 0) (.int .i64 0) (.slice none 0 0) (.slice none 0 0)
  rw [e5]
  have Q5 := Q.keep (hs5.block _ Q.lt (by simp))
  obtain ⟨w6, e6, T2, hs6⟩ := set4 Q5 (.int .i64 0) (.int .i64 0) (.slice none 0 0) (.slice none 0 0)
  rw [e6]
  have T3 := T1.keep (hs6.block _ T1.lt (by simp))
  clear e5 e6 T1
  obtain ⟨t0, t1, t2, t3, -, -, -, -, -⟩ := T3.all4
  obtain ⟨ss0, ss1, ss2, ss3, -, -, -, -, -⟩ := T2.all4
  have hzB5 := hB.size
  have hB5 := (hB.trans (hs5.below (B := w.heap.size) (by omega) (fun y hy => by omega))).trans (hs6.below (B := w.heap.size) (by have := hs5.size; omega) (fun y hy => by omega))
  refine bodyPost_ret (v := .tuple #[.agg #[.int .i64 0, .int .i64 0, .slice none 0 0, .slice none 0 0], .agg #[.int .i64 0, .int .i64 0, .slice none 0 0, .slice none 0 0], .int .i64 1]) (by simp [results, Tryz.results103, go_sem, t0, t1, t2, t3, ss0, ss1, ss2, ss3]) rfl ?_
  exact ⟨_, _, by rw [HC.out], zero_autV, zero_autV, hB5, fun h => by rw [HC.out] at h; omega⟩
 rw [Bool.and_eq_true] at h1
 have H1 := Lib.hid h1.1
 have H2 := Lib.hid h1.2
 clear h1
 go_wp2_with fail
 clear g0 g1 ltG x0 x1 x2 ltX
 have ltQ4 := Q.lt
 refine (automatonOf_au H1.out (hr.below hB)).mono ?_
 intro g w8 hpost
 cases hcb : (auC t a e != 0)
 rotate_left
 ·
  have hc0 : ¬ auC t a e = 0 := by simpa using hcb
  have HC : Hid (bothC t a e f = auC t a e) := both_one H1.out H2.out hc0
  have Hc0 := Lib.hid hc0
  obtain ⟨t', a', s9, u9, l', c9, m', d9, rfl, hb⟩ := hpost.no
  have ltR0 := R.lt
  have ltQ0 := Q.lt
  replace hB := Below.on hB hb hB.size
  replace R := R.below hb
  replace Q := Q.below hb
  clear hb hc0
  obtain ⟨r0, r1, r2, r3, z0, z1, z2, z3, ltR⟩ := R.all4
  obtain ⟨p0, p1, p2, p3, y0, y1, y2, y3, ltQ⟩ := Q.all4
  go_wp2_with fail
  obtain ⟨w5', e5, T1, hs5⟩ := set4 R (.int .i64 0) (.int .i64 0) (.slice none 0 0) (.slice none 0 0)
  rw [e5]
  have Q5 := Q.keep (hs5.block _ Q.lt (by simp))
  obtain ⟨wz, e6, T2, hs6⟩ := set4 Q5 (.int .i64 0) (.int .i64 0) (.slice none 0 0) (.slice none 0 0)
  rw [e6]
  have T3 := (T1.keep (hs6.block _ T1.lt (by simp))).alloc (.cells #[.int .i64 t', .int .i64 a', .slice s9 l' c9, .slice u9 m' d9] 75)
  have T4 := T2.alloc (.cells #[.int .i64 t', .int .i64 a', .slice s9 l' c9, .slice u9 m' d9] 75)
  clear e5 e6 T1 T2
  obtain ⟨t0, t1, t2, t3, -, -, -, -, -⟩ := T3.all4
  obtain ⟨ss0, ss1, ss2, ss3, -, -, -, -, -⟩ := T4.all4
  have hzB5 := hB.size
  have hB4 := (hB.trans (hs5.below (B := w.heap.size) (by omega) (fun y hy => by omega))).trans (hs6.below (B := w.heap.size) (by have := hs5.size; omega) (fun y hy => by omega))
  have hB5 : Below w.heap.size w (wz.alloc (.cells #[.int .i64 t', .int .i64 a', .slice s9 l' c9, .slice u9 m' d9] 75)) := hB4.alloc hB4.size _
  generalize wz.alloc (.cells #[.int .i64 t', .int .i64 a', .slice s9 l' c9, .slice u9 m' d9] 75) = wy at t0 t1 t2 t3 ss0 ss1 ss2 ss3 hB5 ⊢
  refine bodyPost_ret (v := .tuple #[.agg #[.int .i64 0, .int .i64 0, .slice none 0 0, .slice none 0 0], .agg #[.int .i64 0, .int .i64 0, .slice none 0 0, .slice none 0 0], .int .i64 (auC t a e)]) (by simp [results, Tryz.results103, go_sem, t0, t1, t2, t3, ss0, ss1, ss2, ss3]) rfl ?_
  exact ⟨_, _, by rw [HC.out], zero_autV, zero_autV, hB5, fun h => by rw [HC.out] at h; exact absurd h Hc0.out⟩
 ·
  have hc0 : auC t a e = 0 := by simpa using hcb
  have HC : Hid (bothC t a e f = auC t a f) := both_two H1.out H2.out hc0
  obtain ⟨s1, c1, u1, d1, rfl, hf, hb⟩ := hpost.yes hc0
  have Hrd := Lib.hid hf
  have hz6' := hb.size
  replace hB := Below.on hB hb hB.size
  replace R := R.below hb
  replace Q := Q.below hb
  replace G := G.below hb
  replace Y := Y.below hb
  obtain ⟨g0, g1, ltG⟩ := G.all2
  obtain ⟨y0', y1', y2', -, -, -, ltY'⟩ := Y.all3
  clear hb hcb hc0 hf
  go_wp2_with fail
  clear g0 g1 ltG y0' y1' y2' ltY'
  obtain ⟨w7, e7, X7, hb7, hz7'⟩ := box4 w8 75 (.int .i64 t) (.int .i64 a) (.slice s1 (auA t a e).length c1) (.slice u1 (auX t a e).length d1)
  rw [e7]
  replace hB := Below.on hB hb7 hB.size
  have ltR6 := R.lt
  have ltQ6 := Q.lt
  replace R := R.below hb7
  replace Q := Q.below hb7
  have Hrd7 := Lib.hid (Hrd.out.on hb7)
  obtain ⟨xb, hxb⟩ : ∃ xb, w8.heap.size = xb := ⟨_, rfl⟩
  rw [hxb] at X7 ltR6 ltQ6 ⊢
  clear e7 hb7 hxb Hrd G Y X
  refine (automatonOf_au H2.out (hr'.below hB)).mono ?_
  rintro g w9 ⟨s2, c2, u2, d2, rfl, hf2, hb⟩
  have Hrd2 := Lib.hid hf2
  have Hrd8 := Lib.hid (Hrd7.out.on hb)
  replace hB := Below.on hB hb hB.size
  replace R := R.below hb
  replace Q := Q.below hb
  have X8 := X7.below hb
  have ltX8 := X8.lt
  have ltR8 := R.lt
  have ltQ8 := Q.lt
  clear hb hf2 Hrd7 X7
  cases hcb : (auC t a f != 0)
  rotate_left
  ·
   have Hc0 : Hid (¬ auC t a f = 0) := by show ¬ _; simpa using hcb
   obtain ⟨r0, r1, r2, r3, z0, z1, z2, z3, ltR⟩ := R.all4
   obtain ⟨p0, p1, p2, p3, y0, y1, y2, y3, ltQ⟩ := Q.all4
   go_wp2_with fail
   obtain ⟨w5', e5, T1, hs5⟩ := set4 R (.int .i64 0) (.int .i64 0) (.slice none 0 0) (.slice none 0 0)
   rw [e5]
   have Q5 := Q.keep (hs5.block _ Q.lt (by simp))
   obtain ⟨wz, e6, T2, hs6⟩ := set4 Q5 (.int .i64 0) (.int .i64 0) (.slice none 0 0) (.slice none 0 0)
   rw [e6]
   have T3 := (T1.keep (hs6.block _ T1.lt (by simp))).alloc (.cells #[.int .i64 (auT t a f), .int .i64 (auN t a f), .slice s2 (auA t a f).length c2, .slice u2 (auX t a f).length d2] 75)
   have T4 := T2.alloc (.cells #[.int .i64 (auT t a f), .int .i64 (auN t a f), .slice s2 (auA t a f).length c2, .slice u2 (auX t a f).length d2] 75)
   clear e5 e6 T1 T2
   obtain ⟨t0, t1, t2, t3, -, -, -, -, -⟩ := T3.all4
   obtain ⟨ss0, ss1, ss2, ss3, -, -, -, -, -⟩ := T4.all4
   have hzB5 := hB.size
   have hB4 := (hB.trans (hs5.below (B := w.heap.size) (by omega) (fun y hy => by omega))).trans (hs6.below (B := w.heap.size) (by have := hs5.size; omega) (fun y hy => by omega))
   have hB5 : Below w.heap.size w (wz.alloc (.cells #[.int .i64 (auT t a f), .int .i64 (auN t a f), .slice s2 (auA t a f).length c2, .slice u2 (auX t a f).length d2] 75)) := hB4.alloc hB4.size _
   generalize wz.alloc (.cells #[.int .i64 (auT t a f), .int .i64 (auN t a f), .slice s2 (auA t a f).length c2, .slice u2 (auX t a f).length d2] 75) = wy at t0 t1 t2 t3 ss0 ss1 ss2 ss3 hB5 ⊢
   refine bodyPost_ret (v := .tuple #[.agg #[.int .i64 0, .int .i64 0, .slice none 0 0, .slice none 0 0], .agg #[.int .i64 0, .int .i64 0, .slice none 0 0, .slice none 0 0], .int .i64 (auC t a f)]) (by simp [results, Tryz.results103, go_sem, t0, t1, t2, t3, ss0, ss1, ss2, ss3]) rfl ?_
   exact ⟨_, _, by rw [HC.out], zero_autV, zero_autV, hB5, fun h => by rw [HC.out] at h; exact absurd h Hc0.out⟩
  ·
   have hc0 : auC t a f = 0 := by simpa using hcb
   obtain ⟨-, e1, e2, -⟩ := au_ok hc0
   rw [hc0] at HC
   rw [e1, e2, hc0]
   clear hcb e1 e2 hc0
   go_wp2_with fail
   obtain ⟨w10, e9, Y9, hb9, hz9⟩ := box4 w9 75 (.int .i64 t) (.int .i64 a) (.slice s2 (auA t a f).length c2) (.slice u2 (auX t a f).length d2)
   rw [e9]
   replace hB := Below.on hB hb9 hB.size
   replace R := R.below hb9
   replace Q := Q.below hb9
   replace X8 := X8.below hb9
   have Hf1 := Lib.hid (Hrd8.out.on hb9)
   have Hf2 := Lib.hid (Hrd2.out.on hb9)
   obtain ⟨yb, hyb⟩ : ∃ yb, w9.heap.size = yb := ⟨_, rfl⟩
   rw [hyb] at Y9 ltR8 ltQ8 ltX8 ⊢
   clear e9 hb9 hyb Hrd8 Hrd2
   obtain ⟨x0, x1, x2, x3, -, -, -, -, ltX⟩ := X8.all4
   obtain ⟨v0, v1, v2, v3, -, -, -, -, ltY⟩ := Y9.all4
   obtain ⟨r0, r1, r2, r3, z0, z1, z2, z3, ltR⟩ := R.all4
   obtain ⟨p0, p1, p2, p3, y0, y1, y2, y3, ltQ⟩ := Q.all4
   have n1 : w.heap.size + 1 + 1 + 1 ≠ xb := by omega
   have n2 : w.heap.size + 1 + 1 + 1 + 1 ≠ xb := by omega
   have n3 : w.heap.size + 1 + 1 + 1 ≠ yb := by omega
   have n4 : w.heap.size + 1 + 1 + 1 + 1 ≠ yb := by omega
   go_region
   go_wp2_with fail
   obtain ⟨w5, e5, T1, hs5⟩ := set4 R (.int .i64 t) (.int .i64 a) (.slice s1 (auA t a e).length c1) (.slice u1 (auX t a e).length d1)
   rw [e5]
   have Q5 := Q.keep (hs5.block _ Q.lt (by simp))
   obtain ⟨wz, e6, T2, hs6⟩ := set4 Q5 (.int .i64 t) (.int .i64 a) (.slice s2 (auA t a f).length c2) (.slice u2 (auX t a f).length d2)
   rw [e6]
   have T3 := (T1.keep (hs6.block _ T1.lt (by simp))).drew
   have T4 := T2.drew
   clear e5 e6 T1 T2
   obtain ⟨t0, t1, t2, t3, -, -, -, -, -⟩ := T3.all4
   obtain ⟨ss0, ss1, ss2, ss3, -, -, -, -, -⟩ := T4.all4
   have hzB5 := hB.size
   have hB4 := (hB.trans (hs5.below (B := w.heap.size) (by omega) (fun y hy => by omega))).trans (hs6.below (B := w.heap.size) (by have := hs5.size; omega) (fun y hy => by omega))
   have hB5 : Below w.heap.size w wz.drew := hB4.drew
   refine bodyPost_ret (v := .tuple #[.agg #[.int .i64 t, .int .i64 a, .slice s1 (auA t a e).length c1, .slice u1 (auX t a e).length d1], .agg #[.int .i64 t, .int .i64 a, .slice s2 (auA t a f).length c2, .slice u2 (auX t a f).length d2], .int .i64 0]) (by simp [results, Tryz.results103, go_sem, t0, t1, t2, t3, ss0, ss1, ss2, ss3]) rfl ?_
   have hk : ∀ y, w6.heap.size ≤ y → y < w10.heap.size → wz.drew.heap[y]? = w10.heap[y]? := fun y hy1 hy2 => (hs6.block y (by have := hs5.size; omega) (fun h => by omega)).trans (hs5.block y hy2 (fun h => by omega))
   exact ⟨_, _, by rw [HC.out], ⟨_, _, _, _, _, _, _, _, rfl⟩, ⟨_, _, _, _, _, _, _, _, rfl⟩, hB5, fun h => ⟨s1, c1, u1, d1, s2, c2, u2, d2, rfl, rfl, (Hf1.out.keep hk).rds, (Hf2.out.keep fun y hy1 hy2 => hk y (by omega) hy2).rds⟩⟩
end Go.Proofs.YtjlmdhoajfdkbaaGreatDoor

namespace Go.Proofs.YtjlmdhoajfdkbaaGreatDoor
set_option linter.unusedVariables false
set_option linter.unusedSimpArgs false
open Go.ChangeShapes Go.WideShapes Go.ChangeAt Go.RowKit Go.Deep Go.ChangeMaps Go.MapKept
structure Rch where
 p : Int × Int
 f : Int
 m : Int
 k : Int
def Rch.cells (r : Rch) : List Value := [.int .i64 r.p.1, .int .i64 r.p.2, .int .i64 r.f, .int .i64 r.m, .int .i64 r.k]
def Rch.ds (r : Rch) : List D := [.int r.p.1, .int r.p.2, .int r.f, .int r.m, .int r.k]
def rchD (R : List Rch) : List D := R.flatMap Rch.ds
theorem rchD_snoc (R : List Rch) (r : Rch) : rchD (R ++ [r]) = rchD R ++ r.ds := by simp [rchD]
theorem rchD_at : ∀ (R : List Rch) (i : Nat) (r : Rch), R[i]? = some r → ∀ j, j < 5 → (rchD R)[i * 5 + j]? = r.ds[j]?
 | [], i, r, h => by simp at h
 | x :: R, 0, r, h => by
  simp at h
  subst h
  intro j hj
  rw [Nat.zero_mul, Nat.zero_add]
  show (x.ds ++ rchD R)[j]? = _
  rw [List.getElem?_append_left (by simp [Rch.ds]; omega)]
 | x :: R, i + 1, r, h => by
  intro j hj
  have := rchD_at R i r (by simpa using h) j hj
  show (x.ds ++ rchD R)[(i + 1) * 5 + j]? = _
  rw [List.getElem?_append_right (by simp [Rch.ds]; omega)]
  rw [show (i + 1) * 5 + j - x.ds.length = i * 5 + j by simp [Rch.ds]; omega]
  exact this
theorem rch_in {w : World} {R : List Rch} {b o n cap : Nat} (h : Rd w (.sl 5 R.length (rchD R)) (.slice (some ⟨b, o, none⟩) n cap)) {i : Nat} {r : Rch} (hr : R[i]? = some r) :
  b < w.heap.size ∧ w.cell? ⟨b, o + i * 5, none⟩ = some (.int .i64 r.p.1) ∧ w.cell? ⟨b, o + i * 5 + 1, none⟩ = some (.int .i64 r.p.2) ∧ w.cell? ⟨b, o + i * 5 + 2, none⟩ = some (.int .i64 r.f) ∧ w.cell? ⟨b, o + i * 5 + 3, none⟩ = some (.int .i64 r.m) ∧ w.cell? ⟨b, o + i * 5 + 4, none⟩ = some (.int .i64 r.k) := by
 obtain ⟨_, _, _, _, _, h4⟩ := h.sl_at
 have hi := (List.getElem?_eq_some_iff.1 hr).1
 rcases h4 with h4 | ⟨b', o', e1, h4⟩
 ·
  omega
 ·
  simp only [Option.some.injEq, Addr.mk.injEq, and_true] at e1
  obtain ⟨rfl, rfl⟩ := e1
  have c : ∀ j, j < 5 → ∀ v : Int, r.ds[j]? = some (.int v) → w.cell? ⟨b, o + (i * 5 + j), none⟩ = some (.int .i64 v) := by
   intro j hj v hv
   obtain ⟨x, h5, h6⟩ := h4 (i * 5 + j) (.int v) (by rw [rchD_at R i r hr j hj, hv])
   simp only [Rd] at h6
   rw [h6] at h5
   exact h5
  have c0 := c 0 (by omega) _ rfl
  have c1 := c 1 (by omega) _ rfl
  have c2 := c 2 (by omega) _ rfl
  have c3 := c 3 (by omega) _ rfl
  have c4 := c 4 (by omega) _ rfl
  exact ⟨World.block_lt_of_cell? w _ c0, by simpa using c0, by rw [← c1]; congr 2, by rw [← c2]; congr 2, by rw [← c3]; congr 2, by rw [← c4]; congr 2⟩
theorem none_own5 {w : World} (r : Rch) : OwS (fun _ => False) w r.ds r.cells :=
 ⟨[], Ows.cons (F := []) (by simp [Ow]) (Ows.cons (F := []) (by simp [Ow]) (Ows.cons (F := []) (by simp [Ow]) (Ows.cons (F := []) (by simp [Ow]) (Ows.cons (F := []) (by simp [Ow]) Ows.nil)))), by simp, by simp⟩
def SeenAt (g : Nat) (L : List (Int × Int)) (w : World) : Prop := ∃ M, MapAt Tryz.prog 136 kfP Value.bool w g M ∧ ∀ q, findM M q = if q ∈ L ∨ q = (-1, -1) then some true else none
theorem SeenAt.hold {g : Nat} {L : List (Int × Int)} {w : World} (h : SeenAt g L w) : ∀ w1 : World, w1.heap[g]? = w.heap[g]? → SeenAt g L w1 := fun w1 h1 => by
 obtain ⟨M, hm, hf⟩ := h
 exact ⟨M, hm.keep h1, hf⟩
theorem seen_put {L : List (Int × Int)} {M : List ((Int × Int) × Bool)} {z : Int × Int} (hf : ∀ q, findM M q = if q ∈ L ∨ q = (-1, -1) then some true else none) : ∀ q, findM (putM M z true) q = if q ∈ L ++ [z] ∨ q = (-1, -1) then some true else none := by
 intro q
 rw [findM_putM, hf]
 by_cases h : z = q
 ·
  subst h
  simp
 ·
  rw [if_neg h]
  have h' : ¬ q = z := fun e => h e.symm
  simp [h']
theorem zeroBl (w : World) : (zeroValue 4).run Tryz.prog w = .ok (.bool false) w := by kernel_rfl
theorem info_rch : (Tryz.prog.info? 138).map (fun i => (i.zero, i.size, i.bytes)) = some (some (.agg #[.int .i64 0, .int .i64 0, .int .i64 0, .int .i64 0, .int .i64 0]), 5, 40) := by kernel_rfl
theorem bun_row {B : Nat} {w : World} {items : List Item} (h : Bun B w items) (hB : B ≤ w.heap.size) {t : Nat} (r : Rch) : Bun B (w.alloc (.cells r.cells.toArray t)) (items ++ [.app t 5 1 r.ds (.slice (some ⟨w.heap.size, 0, none⟩) 1 1)]) := by
 refine h.push (Below.alloc (Below.refl _ _) (Nat.le_refl _) _) ?_
 refine AppS.more (AppS.made (t := t) (size := 5) (m := 1) (S := fun _ => False) (none_own5 (w := w) r) (fun b h => h.elim) rfl (by unfold maxLen; omega)) fun b _ hc => ?_
 have hz : (w.alloc (.cells r.cells.toArray t)).heap.size = w.heap.size + 1 := by simp
 rcases hc with hc | hc
 ·
  exact hc.elim
 ·
  omega
def FromOk (R : List Rch) : Prop := ∀ (j : Nat) (r : Rch), R[j]? = some r → -1 ≤ r.f ∧ r.f < j
theorem FromOk.snoc {R : List Rch} {r : Rch} (h : FromOk R) (h1 : -1 ≤ r.f) (h2 : r.f < R.length) : FromOk (R ++ [r]) := fun j q hq => by
 by_cases hj : j < R.length
 ·
  rw [List.getElem?_append_left hj] at hq
  exact h j q hq
 ·
  have hl := (List.getElem?_eq_some_iff.1 hq).1
  simp at hl
  obtain rfl : j = R.length := by omega
  simp at hq
  subst hq
  exact ⟨h1, h2⟩
def RchW (B g T : Nat) (w0 wr : World) (L : List (Int × Int)) (v : Value) : Prop :=
 ∃ R : List Rch, Bun B wr [.app T 5 R.length (rchD R) v, .one g (SeenAt g L)] ∧ R.map Rch.p = L ∧ FromOk R ∧ Below B w0 wr
def RchX (B g T pb Tp : Nat) (x : Int × Int) (w0 wr : World) (L : List (Int × Int)) (v : Value) : Prop :=
 ∃ R : List Rch, Bun B wr [.app T 5 R.length (rchD R) v, .one g (SeenAt g L), .box pb Tp [.int .i64 x.1, .int .i64 x.2]] ∧ R.map Rch.p = L ∧ FromOk R ∧ Below B w0 wr
theorem RchX.drop {B g T pb Tp : Nat} {x : Int × Int} {w0 wr : World} {L : List (Int × Int)} {v : Value} (h : RchX B g T pb Tp x w0 wr L v) : RchW B g T w0 wr L v := by
 obtain ⟨R, h1, h2⟩ := h
 exact ⟨R, h1.take 2, h2⟩
theorem RchX.below {B g T pb Tp : Nat} {x : Int × Int} {w0 wr w2 : World} {L : List (Int × Int)} {v : Value} (h : RchX B g T pb Tp x w0 wr L v) (hB : B ≤ wr.heap.size) (hb : Below wr.heap.size wr w2) : RchX B g T pb Tp x w0 w2 L v := by
 obtain ⟨R, h1, h2, h3, h4⟩ := h
 exact ⟨R, h1.below hb, h2, h3, h4.trans (hb.mono hB)⟩
theorem start_seen : ∀ q : Int × Int, findM (putM (putM ([] : List ((Int × Int) × Bool)) (0, 0) true) (-1, -1) true) q = if q ∈ [((0 : Int), (0 : Int))] ∨ q = (-1, -1) then some true else none := by
 intro q
 rw [findM_putM, findM_putM]
 by_cases h1 : ((-1 : Int), (-1 : Int)) = q
 ·
  subst h1; simp
 ·
  by_cases h2 : ((0 : Int), (0 : Int)) = q
  ·
   subst h2; simp
  ·
   have h1' : ¬ q = (-1, -1) := fun e => h1 e.symm
   have h2' : ¬ q = (0, 0) := fun e => h2 e.symm
   simp [h1, h2, h1', h2', findM]
theorem start_seen' : ∀ q : Int × Int, findM (putM (putM ([] : List ((Int × Int) × Bool)) (-1, -1) true) (0, 0) true) q = if q ∈ [((0 : Int), (0 : Int))] ∨ q = (-1, -1) then some true else none := by
 intro q
 rw [findM_putM, findM_putM]
 by_cases h1 : ((-1 : Int), (-1 : Int)) = q
 ·
  subst h1; simp
 ·
  by_cases h2 : ((0 : Int), (0 : Int)) = q
  ·
   subst h2; simp
  ·
   have h1' : ¬ q = (-1, -1) := fun e => h1 e.symm
   have h2' : ¬ q = (0, 0) := fun e => h2 e.symm
   simp [h1, h2, h1', h2', findM]
set_option maxRecDepth 100000 in
set_option maxHeartbeats 16000000 in
theorem reach_i {t a : Int} {ac bc : List (List Bool)} {nx ny : List (List (List Int))} {s u s' u' : Option Addr} {c d c' d' : Nat} {w : World} (hr : Rds w (autD ac nx) [.slice s ac.length c, .slice u nx.length d]) (hr' : Rds w (autD bc ny) [.slice s' bc.length c', .slice u' ny.length d']) (hok : AutOk t a ac nx) (hok' : AutOk t a bc ny) :
  Calls Tryz.prog 104 #[.agg #[.int .i64 t, .int .i64 a, .slice s ac.length c, .slice u nx.length d], .agg #[.int .i64 t, .int .i64 a, .slice s' bc.length c', .slice u' ny.length d']] w fun e w' => ∃ (R : List Rch) (sa : Option Addr) (ca : Nat), e = .returned (.slice sa R.length ca) ∧ Rd w' (.sl 5 R.length (rchD R)) (.slice sa R.length ca) ∧ R.map Rch.p = prF nx ny (atomsN t).toNat a.toNat ∧ FromOk R ∧ Below w.heap.size w w' := by
 obtain ⟨ht0, ht3, ha0, ha4⟩ := sigB_bd hok.sig
 obtain ⟨hat1, hat8⟩ := atomsN_bd t
 have hP1 := fun (i : Nat) (h : (prL nx ny (atomsN t).toNat a.toNat i).length ≤ i) => prL_all hok hok' h
 have hP2 := fun (i : Nat) (x : Int × Int) (m k : Nat) (hx : (prL nx ny (atomsN t).toNat a.toNat i)[i]? = some x) => prC_ok (m := m) (k := k) hok hok' hx
 have hP3 := fun (i : Nat) => prL_many hok hok' i
 obtain ⟨n, hn⟩ : ∃ n : Nat, a = (n : Int) := ⟨a.toNat, by omega⟩
 obtain ⟨A, hA⟩ : ∃ A : Nat, atomsN t = (A : Int) := ⟨(atomsN t).toNat, by omega⟩
 rw [show (atomsN t).toNat = A by omega, show a.toNat = n by omega] at *
 have HA := Lib.hid hA
 have Hn := Lib.hid hn
 have HP1 := Lib.hid hP1
 have HP2 := Lib.hid hP2
 have HP3 := Lib.hid hP3
 have Hok := Lib.hid hok
 have Hok' := Lib.hid hok'
 have Hr := Lib.hid hr
 have Hr' := Lib.hid hr'
 have hA8 : A ≤ 8 := by omega
 have hn4 : n ≤ 4 := by omega
 have hhi1 := hok.hi
 have hhi2 := hok'.hi
 clear hP1 hP2 hP3 hok hok' hr hr' hA hat1 hat8
 have hn1 : a ≤ (n : Int) := by omega
 have hn2 : (n : Int) ≤ a := by omega
 clear hn
 have hmm := @run_makeMap Tryz.prog
 go_enter Tryz.func104, Tryz.ntmps104
 go_wp2_with fail
 obtain ⟨w1, e1, X, hb1, hz1⟩ := box4 w 75 (.int .i64 t) (.int .i64 a) (.slice s ac.length c) (.slice u nx.length d)
 rw [e1]
 obtain ⟨w2, e2, Y, hb2, hz2⟩ := box4 w1 75 (.int .i64 t) (.int .i64 a) (.slice s' bc.length c') (.slice u' ny.length d')
 rw [e2]
 rw [hz1] at Y
 have hB2 : Below w.heap.size w w2 := hb1.trans (hb2.mono (by omega))
 replace X := X.below hb2
 have hBun := bun_row (Bun.nil (B := w2.heap.size) (w := w2)) (Nat.le_refl _) (t := 138) ⟨(0, 0), -1, 0, 0⟩
 obtain ⟨w3, e3⟩ : ∃ w3, w2.alloc (.cells #[.int .i64 0, .int .i64 0, .int .i64 (-1), .int .i64 0, .int .i64 0] 138) = w3 := ⟨_, rfl⟩
 have hb3 : Below w2.heap.size w2 w3 := by rw [← e3]; exact Below.alloc (Below.refl _ _) (Nat.le_refl _) _
 have hz3 : w3.heap.size = w2.heap.size + 1 := by rw [← e3]; simp
 have ha2 : w2.heap.size = w.heap.size + 1 + 1 := by omega
 have hBun2 : Bun w2.heap.size w3 [.app 138 5 1 (rchD [⟨(0, 0), -1, 0, 0⟩]) (.slice (some ⟨w.heap.size + 1 + 1, 0, none⟩) 1 1)] := by rw [← e3, ← ha2]; exact hBun
 rw [e3]
 clear e1 e2 e3 hb1 hb2 hBun ha2
 have hM0 : MapAt Tryz.prog 136 kfP Value.bool (w3.alloc (.map #[] 0)) w3.heap.size ([] : List ((Int × Int) × Bool)) := MapAt.made w3
 have hM : MapAt Tryz.prog 136 kfP Value.bool (w3.alloc (.map #[] 0)).drew (w.heap.size + 1 + 1 + 1) ([] : List ((Int × Int) × Bool)) := by
  rw [show w.heap.size + 1 + 1 + 1 = w3.heap.size by omega]
  exact hM0.keep rfl
 have k0 : ∃ l, keyOf Tryz.prog 136 (kfP (0, 0)) = some l := keyP (by simp) (by simp)
 have k1 : ∃ l, keyOf Tryz.prog 136 (kfP (-1, -1)) = some l := keyP (by simp) (by simp)
 obtain ⟨wA, rA, mA, oA⟩ := hM.update lawP kfP_inj Tryz.underlying174 k0 true
 obtain ⟨wB, rB, mB, oB⟩ := mA.update lawP kfP_inj Tryz.underlying174 k1 true
 obtain ⟨wC, rC, mC, oC⟩ := hM.update lawP kfP_inj Tryz.underlying174 k1 true
 obtain ⟨wD, rD, mD, oD⟩ := mC.update lawP kfP_inj Tryz.underlying174 k0 true
 simp only [kfP] at rA rB rC rD
 have MB := Lib.hid mB
 have OB := Lib.hid (oA.trans oB)
 have MD := Lib.hid mD
 have OD := Lib.hid (oC.trans oD)
 have hBun3 := hBun2.push_one (P := fun _ => True) (by omega) (Below.alloc (Below.refl _ _) (Nat.le_refl _) (.map #[] 0)) (by simp) (fun _ _ => trivial)
 rw [show w3.heap.size = w.heap.size + 1 + 1 + 1 by omega] at hBun3
 have hBun4 := Bun.keep (w' := (w3.alloc (.map #[] 0)).drew) hBun3 (Nat.le_refl _) (fun _ _ _ => rfl)
 have hbe4 : Below w2.heap.size w2 (w3.alloc (.map #[] 0)).drew := (hb3.alloc hb3.size _).drew
 have hgl : w2.heap.size ≤ w.heap.size + 1 + 1 + 1 := by omega
 have hgl2 : w2.heap.size ≤ (w3.alloc (.map #[] 0)).drew.heap.size := hbe4.size
 have HB : Hid (RchW w2.heap.size (w.heap.size + 1 + 1 + 1) 138 w2 wB (prL nx ny A n 0) (.slice (some ⟨w.heap.size + 1 + 1, 0, none⟩) 1 1)) :=
  ⟨[⟨(0, 0), -1, 0, 0⟩], hBun4.turn_one 1 rfl OB.out (SeenAt.hold ⟨_, MB.out, start_seen⟩), rfl, (fun j r hr => by
   cases j with
   | zero => simp at hr; subst hr; simp
   | succ j => simp at hr), hbe4.trans (OB.out.below hgl2 (fun b hb => by simp at hb; omega))⟩
 have HD : Hid (RchW w2.heap.size (w.heap.size + 1 + 1 + 1) 138 w2 wD (prL nx ny A n 0) (.slice (some ⟨w.heap.size + 1 + 1, 0, none⟩) 1 1)) :=
  ⟨[⟨(0, 0), -1, 0, 0⟩], hBun4.turn_one 1 rfl OD.out (SeenAt.hold ⟨_, MD.out, start_seen'⟩), rfl, (fun j r hr => by
   cases j with
   | zero => simp at hr; subst hr; simp
   | succ j => simp at hr), hbe4.trans (OD.out.below hgl2 (fun b hb => by simp at hb; omega))⟩
 clear hM hM0 mA mB mC mD oA oB oC oD k0 k1 MB MD OB OD hBun2 hBun3 hBun4 hbe4 hgl2
 have HX := Lib.hid X
 have HY := Lib.hid Y
 clear X Y
 go_region
 rotate_left
 revert HD
 generalize wD = wz
 clear rA rB rC rD HB
 rotate_left
 revert HB
 generalize wB = wz
 clear rA rB rC rD HD
 all_goals
  intro Hst
  obtain ⟨g, hg⟩ : ∃ g, w.heap.size + 1 + 1 + 1 = g := ⟨_, rfl⟩
  rw [hg] at Hst ⊢
  go_wp2_with fail
  go_loopw [5, 7] (fun v0 i wr => ∃ k : Nat, i = .int .i64 k ∧ k ≤ (prL nx ny A n k).length ∧ RchW w2.heap.size g 138 w2 wr (prL nx ny A n k) v0) (fun _ i _ => 3722 - (intOf i).toNat)
  case atStart => exact ⟨0, rfl, by omega, Hst.out⟩
  case round =>
   clear Hst
   obtain ⟨i, rfl, hil, R, hbun, hRm, hfo, hbe⟩ := hrel
   obtain ⟨wo, rfl⟩ : ∃ v, v = wr := ⟨_, rfl⟩
   have hmany := HP3.out i
   obtain ⟨a0, c0, rfl, q1, q2⟩ := hbun.shape 0 rfl
   unfold maxLen at q2
   have hRl : R.length = (prL nx ny A n i).length := by rw [← hRm, List.length_map]
   have hmany2 : R.length ≤ 3721 := by omega
   have HRm := Lib.hid hRm
   have Hfo := Lib.hid hfo
   have HB := Lib.hid hbun
   have HBe := Lib.hid hbe
   have hi0 := Int.natCast_nonneg i
   have hzo := hbe.size
   clear hRm hfo
   by_cases hlt : i < R.length
   rotate_left
   ·
    have hd : (prL nx ny A n i).length ≤ i := by omega
    have HF : Hid (R.map Rch.p = prF nx ny A n) := by show _ = _; unfold prF; rw [← HP1.out i hd, HRm.out]
    have Hrd := Lib.hid (hbun.rd 0 rfl)
    clear hd hbun hbe hRl
    go_wp2_with fail
    go_ret
    exact ⟨R, a0, c0, rfl, Hrd.out, HF.out, Hfo.out, hB2.trans (HBe.out.mono hB2.size)⟩
   obtain ⟨r, hrr⟩ : ∃ r, R[i]? = some r := ⟨_, List.getElem?_eq_getElem hlt⟩
   obtain ⟨x, hxe⟩ : ∃ x, r.p = x := ⟨_, rfl⟩
   have hX : (prL nx ny A n i)[i]? = some x := by rw [← HRm.out, List.getElem?_map, hrr, ← hxe]; rfl
   have HXi := Lib.hid hX
   have hxok := (HP2.out i x 0 0 hX).1 x (List.mem_of_getElem? (prL_at hX))
   have hrd := hbun.rd 0 rfl
   obtain ⟨b0, o0, rfl⟩ : ∃ b0 o0, a0 = some ⟨b0, o0, none⟩ := by
    obtain ⟨_, _, _, _, _, h4⟩ := hrd.sl_at
    rcases h4 with h4 | ⟨b, o, e, _⟩
    ·
     omega
    ·
     exact ⟨b, o, e⟩
   obtain ⟨hbl, y0, y1, -, -, -⟩ := rch_in hrd hrr
   rw [hxe] at y0 y1
   have hil2 : (i : Int) < (R.length : Int) := by omega
   have X4 := HX.out.below hbe
   obtain ⟨g0, g1, -, -, -, -, -, -, ltX⟩ := X4.all4
   clear hrr hxe hX hrd hbun hbe hRl X4
   go_wp2_with fail
   clear y0 y1 g0 g1 ltX
   have hBp := HB.out.push_box hzo 136 #[.int .i64 x.1, .int .i64 x.2]
   obtain ⟨w4, e4, -, hb4, hz4⟩ := box2 wo 136 (.int .i64 x.1) (.int .i64 x.2)
   rw [e4] at hBp ⊢
   obtain ⟨pb, hpb⟩ : ∃ pb, wo.heap.size = pb := ⟨_, rfl⟩
   rw [hpb] at hBp ⊢
   have hst : RchX w2.heap.size g 138 pb 136 x w2 w4 (prL nx ny A n i) (.slice (some ⟨b0, o0, none⟩) R.length c0) := ⟨R, by simpa using hBp, HRm.out, Hfo.out, HBe.out.trans (hb4.mono hzo)⟩
   refine (atomsIn_i ht0 ht3).mono ?_
   rintro f w5 ⟨rfl, hb5⟩
   rw [HA.out]
   have Hst5 := Lib.hid (hst.below (by omega) hb5)
   clear e4 hb4 hBp hst hb5 hpb HB HRm Hfo HBe
   go_wp2_with fail
   go_loopw [5, 33] (fun v0 j wr => ∃ m : Nat, j = .int .i64 m ∧ m ≤ A ∧ RchX w2.heap.size g 138 pb 136 x w2 wr (prC nx ny A n i x m 0) v0) (fun _ j _ => A - (intOf j).toNat)
   case atStart => exact ⟨0, rfl, by omega, by rw [prC_zero]; exact Hst5.out⟩
   case round =>
    clear Hst5
    obtain ⟨m, rfl, hmA, hW⟩ := hrel
    obtain ⟨wm, rfl⟩ : ∃ v, v = wr := ⟨_, rfl⟩
    have hm0 := Int.natCast_nonneg m
    obtain ⟨R1, hbun1, hR1, hf1, hbe1⟩ := hW
    obtain ⟨a1, c1, rfl, q3, q4⟩ := hbun1.shape 0 rfl
    have HW : Hid (RchX w2.heap.size g 138 pb 136 x w2 wm (prC nx ny A n i x m 0) (.slice a1 R1.length c1)) := ⟨R1, hbun1, hR1, hf1, hbe1⟩
    by_cases hmlt : m < A
    rotate_left
    ·
     obtain rfl : A = m := by omega
     have HW6 : Hid (RchW w2.heap.size g 138 w2 wm (prL nx ny A n (i + 1)) (.slice a1 R1.length c1)) := by show RchW ..; rw [← prC_all HXi.out]; exact HW.out.drop
     have hi1 : i + 1 ≤ (prL nx ny A n (i + 1)).length := by
      have h1 := prL_at (m := A) (k := 0) HXi.out
      rw [prC_all HXi.out] at h1
      exact (List.getElem?_eq_some_iff.1 h1).1
     clear hbun1 hR1 hf1 hbe1
     go_wp2_with fail
     go_roundw
     case rel => exact ⟨i + 1, by go_num, hi1, HW6.out⟩
     case measure => simp [intOf]; omega
    have hm1 : (m : Int) < (A : Int) := by omega
    have hmat : (m : Int) < atomsN t := by rw [HA.out]; exact hm1
    obtain ⟨g0, g1, -, -, -, -, -, -, ltX⟩ := (HX.out.below hbe1).all4
    clear hbun1 hR1 hf1 hbe1
    go_wp2_with fail
    clear g0 g1 ltX
    go_loopw [5, 39] (fun v0 j wr => ∃ q : Nat, j = .int .i64 q ∧ q ≤ n ∧ RchX w2.heap.size g 138 pb 136 x w2 wr (prC nx ny A n i x m q) v0) (fun _ j _ => n - (intOf j).toNat)
    case atStart => exact ⟨0, rfl, by omega, HW.out⟩
    case round =>
     clear HW
     obtain ⟨q, rfl, hqn, R2, hbun2, hR2, hf2, hbe2⟩ := hrel
     obtain ⟨wq, rfl⟩ : ∃ v, v = wr := ⟨_, rfl⟩
     obtain ⟨a2, c2, rfl, q5, q6⟩ := hbun2.shape 0 rfl
     unfold maxLen at q6
     have hq0 := Int.natCast_nonneg q
     have hzq := hbe2.size
     by_cases hqlt : q < n
     rotate_left
     ·
      obtain rfl : n = q := by omega
      have HW6 : Hid (RchX w2.heap.size g 138 pb 136 x w2 wq (prC nx ny A n i x (m + 1) 0) (.slice a2 R2.length c2)) := by show RchX ..; rw [← prC_line]; exact ⟨R2, hbun2, hR2, hf2, hbe2⟩
      clear hbun2 hR2 hf2 hbe2
      go_wp2_with fail
      go_roundw
      case rel => exact ⟨m + 1, by go_num, by omega, HW6.out⟩
      case measure => simp [intOf]; omega
     have hqa : (q : Int) < a := by omega
     obtain ⟨hall, hmany3⟩ := HP2.out i x m q HXi.out
     have hat := prL_at (m := m) (k := q) HXi.out
     have hR2l : R2.length = (prC nx ny A n i x m q).length := by rw [← hR2, List.length_map]
     have hR2m : R2.length ≤ 3721 := by omega
     have hilR : i < R2.length := by rw [hR2l]; exact (List.getElem?_eq_some_iff.1 hat).1
     have Hpb := Lib.hid (hbun2.box 2 rfl).1
     have HB2 := Lib.hid hbun2
     have HBe2 := Lib.hid hbe2
     have HR2 := Lib.hid hR2
     have Hf2 := Lib.hid hf2
     have hgb := (hbun2.one 1 rfl).2
     clear hbun2 hR2 hf2 hbe2 hall hat hR2l
     go_wp2_with fail
     refine region_rg 14 [] [0, 1, 2, 3, 4, 5, 6, 7, 8, 9, 10, 11, 12, 13] (fun i iv vs wx => match i with
      | 0 => vs 0 = .agg #[.int .i64 t, .int .i64 a, .slice s ac.length c, .slice u nx.length d]
      | 1 => vs 1 = .pointer (some ⟨pb, 0, none⟩)
      | 2 => vs 2 = .int .i64 x.1
      | 3 => vs 3 = .int .i64 m
      | 4 => vs 4 = .int .i64 q
      | 5 => vs 5 = .int .i64 (goN nx x.1 m q)
      | 6 => vs 6 = .agg #[.int .i64 t, .int .i64 a, .slice s' bc.length c', .slice u' ny.length d']
      | 7 => vs 7 = .pointer (some ⟨pb, 1, none⟩)
      | 8 => vs 8 = .int .i64 x.2
      | 9 => vs 9 = .int .i64 m
      | 10 => vs 10 = .int .i64 q
      | 11 => vs 11 = .int .i64 (goN ny x.2 m q)
      | 12 => vs 12 = .agg #[vs 5, vs 11]
      | 13 => vs 13 = .pointer (some ⟨(iv 13).1, 0, none⟩) ∧ (iv 13).2 = (iv 13).1 + 1 ∧ Blk wx (iv 13).1 136 [.int .i64 0, .int .i64 0]
      | _ => True) (fun vs wx => ∃ p, vs 13 = .pointer (some ⟨p, 0, none⟩) ∧ wq.heap.size ≤ p ∧ Blk wx p 136 [.int .i64 (goN nx x.1 m q), .int .i64 (goN ny x.2 m q)] ∧ Below wq.heap.size wq wx)
      (by kernel_rfl) (by kernel_rfl) (by kernel_rfl) (by kernel_rfl) ?hJ ?hX ?hF ?hstep ?hstore ?hQ (by kernel_rfl)
     case hX =>
      intro i o t k hi ho hop iv vs w hj
      simp at hi
     case hF =>
      intro vs vs' wx h hf
      have e13 := h 13 (mem_of (by kernel_rfl))
      show ∃ p, vs' 13 = .pointer (some ⟨p, 0, none⟩) ∧ wq.heap.size ≤ p ∧ Blk wx p 136 [.int .i64 (goN nx x.1 m q), .int .i64 (goN ny x.2 m q)] ∧ Below wq.heap.size wq wx
      rw [← e13]
      exact hf
     case hJ =>
      intro i hi iv iv' vs vs' wx wx' ha hv hb hj
      simp only [List.mem_cons, List.not_mem_nil, or_false] at hi
      rcases hi with rfl | rfl | rfl | rfl | rfl | rfl | rfl | rfl | rfl | rfl | rfl | rfl | rfl | rfl
      ·
       have e0 := hv.out 0 (mem_of (by kernel_rfl))
       have hj' : vs 0 = .agg #[.int .i64 t, .int .i64 a, .slice s ac.length c, .slice u nx.length d] := hj
       show vs' 0 = .agg #[.int .i64 t, .int .i64 a, .slice s ac.length c, .slice u nx.length d]
       rw [← e0]
       exact hj'
      ·
       have e1 := hv.out 1 (mem_of (by kernel_rfl))
       have hj' : vs 1 = .pointer (some ⟨pb, 0, none⟩) := hj
       show vs' 1 = .pointer (some ⟨pb, 0, none⟩)
       rw [← e1]
       exact hj'
      ·
       have e2 := hv.out 2 (mem_of (by kernel_rfl))
       have hj' : vs 2 = .int .i64 x.1 := hj
       show vs' 2 = .int .i64 x.1
       rw [← e2]
       exact hj'
      ·
       have e3 := hv.out 3 (mem_of (by kernel_rfl))
       have hj' : vs 3 = .int .i64 m := hj
       show vs' 3 = .int .i64 m
       rw [← e3]
       exact hj'
      ·
       have e4 := hv.out 4 (mem_of (by kernel_rfl))
       have hj' : vs 4 = .int .i64 q := hj
       show vs' 4 = .int .i64 q
       rw [← e4]
       exact hj'
      ·
       have e5 := hv.out 5 (mem_of (by kernel_rfl))
       have hj' : vs 5 = .int .i64 (goN nx x.1 m q) := hj
       show vs' 5 = .int .i64 (goN nx x.1 m q)
       rw [← e5]
       exact hj'
      ·
       have e6 := hv.out 6 (mem_of (by kernel_rfl))
       have hj' : vs 6 = .agg #[.int .i64 t, .int .i64 a, .slice s' bc.length c', .slice u' ny.length d'] := hj
       show vs' 6 = .agg #[.int .i64 t, .int .i64 a, .slice s' bc.length c', .slice u' ny.length d']
       rw [← e6]
       exact hj'
      ·
       have e7 := hv.out 7 (mem_of (by kernel_rfl))
       have hj' : vs 7 = .pointer (some ⟨pb, 1, none⟩) := hj
       show vs' 7 = .pointer (some ⟨pb, 1, none⟩)
       rw [← e7]
       exact hj'
      ·
       have e8 := hv.out 8 (mem_of (by kernel_rfl))
       have hj' : vs 8 = .int .i64 x.2 := hj
       show vs' 8 = .int .i64 x.2
       rw [← e8]
       exact hj'
      ·
       have e9 := hv.out 9 (mem_of (by kernel_rfl))
       have hj' : vs 9 = .int .i64 m := hj
       show vs' 9 = .int .i64 m
       rw [← e9]
       exact hj'
      ·
       have e10 := hv.out 10 (mem_of (by kernel_rfl))
       have hj' : vs 10 = .int .i64 q := hj
       show vs' 10 = .int .i64 q
       rw [← e10]
       exact hj'
      ·
       have e11 := hv.out 11 (mem_of (by kernel_rfl))
       have hj' : vs 11 = .int .i64 (goN ny x.2 m q) := hj
       show vs' 11 = .int .i64 (goN ny x.2 m q)
       rw [← e11]
       exact hj'
      ·
       have e12 := hv.out 12 (mem_of (by kernel_rfl))
       have e5 := hv.out 5 (mem_of (by kernel_rfl))
       have e11 := hv.out 11 (mem_of (by kernel_rfl))
       have hj' : vs 12 = .agg #[vs 5, vs 11] := hj
       show vs' 12 = .agg #[vs' 5, vs' 11]
       rw [← e5, ← e11, ← e12]
       exact hj'
      ·
       have e13 := hv.out 13 (mem_of (by kernel_rfl))
       have g13 := ha.out 13 (mem_of (by kernel_rfl))
       obtain ⟨q1, q3, q2⟩ := hj
       show vs' 13 = .pointer (some ⟨(iv' 13).1, 0, none⟩) ∧ (iv' 13).2 = (iv' 13).1 + 1 ∧ Blk wx' (iv' 13).1 136 [.int .i64 0, .int .i64 0]
       rw [← e13, ← g13]
       exact ⟨q1, q3, q2.below hb⟩
     case hstep =>
      intro i hi o ho iv vs w1 hB hd hbd hsep K hK
      simp only [List.mem_cons, List.not_mem_nil, or_false] at hi
      have hbw := HBe2.out.trans (hB.mono hzq)
      have hrA := Hr.out.below (hB2.trans (hbw.mono hB2.size))
      have hrB := Hr'.out.below (hB2.trans (hbw.mono hB2.size))
      obtain ⟨xa0, xa1, xa2, xa3, -, -, -, -, ltA⟩ := (HX.out.below hbw).all4
      obtain ⟨ya0, ya1, ya2, ya3, -, -, -, -, ltB⟩ := (HY.out.below hbw).all4
      obtain ⟨pp0, pp1, ltP⟩ := (Hpb.out.below hB).all2
      rcases hi with rfl | rfl | rfl | rfl | rfl | rfl | rfl | rfl | rfl | rfl | rfl | rfl | rfl | rfl
      all_goals
       simp at ho
       subst ho
       simp only [putFrom, puts]
      ·
       go_wp2_with fail
       exact Onward.mk (hK (.agg #[.int .i64 t, .int .i64 a, .slice s ac.length c, .slice u nx.length d]) _ _ (by simp only [putFrom, puts]) (Below.refl _ _) (fun iv' _ _ => rfl))
      ·
       go_wp2_with fail
       exact Onward.mk (hK (.pointer (some ⟨pb, 0, none⟩)) _ _ (by simp only [putFrom, puts]) (Below.refl _ _) (fun iv' _ _ => rfl))
      ·
       have h1 : vs 1 = .pointer (some ⟨pb, 0, none⟩) := hd.out 1 (mem_of (by kernel_rfl)) (by decide)
       go_wp2_with fail
       exact Onward.mk (hK (.int .i64 x.1) _ _ (by simp only [putFrom, puts, h1]) (Below.refl _ _) (fun iv' _ _ => rfl))
      ·
       go_wp2_with fail
       exact Onward.mk (hK (.int .i64 m) _ _ (by simp only [putFrom, puts]) (Below.refl _ _) (fun iv' _ _ => rfl))
      ·
       go_wp2_with fail
       exact Onward.mk (hK (.int .i64 q) _ _ (by simp only [putFrom, puts]) (Below.refl _ _) (fun iv' _ _ => rfl))
      ·
       have h0 : vs 0 = .agg #[.int .i64 t, .int .i64 a, .slice s ac.length c, .slice u nx.length d] := hd.out 0 (mem_of (by kernel_rfl)) (by decide)
       have h2 : vs 2 = .int .i64 x.1 := hd.out 2 (mem_of (by kernel_rfl)) (by decide)
       have h3 : vs 3 = .int .i64 m := hd.out 3 (mem_of (by kernel_rfl)) (by decide)
       have h4 : vs 4 = .int .i64 q := hd.out 4 (mem_of (by kernel_rfl)) (by decide)
       go_wp2_with fail
       refine (nextOf_i (Rds.two hrA).1 (Rds.two hrA).2 Hok.out hxok.2.1 hmat hqa).mono ?_
       rintro e w2 ⟨rfl, hb⟩
       go_wp2_with fail
       exact Onward.mk (hK (.int .i64 (goN nx x.1 m q)) _ _ (by simp only [putFrom, puts, h0, h2, h3, h4]) hb (fun iv' _ _ => rfl))
      ·
       go_wp2_with fail
       exact Onward.mk (hK (.agg #[.int .i64 t, .int .i64 a, .slice s' bc.length c', .slice u' ny.length d']) _ _ (by simp only [putFrom, puts]) (Below.refl _ _) (fun iv' _ _ => rfl))
      ·
       go_wp2_with fail
       exact Onward.mk (hK (.pointer (some ⟨pb, 1, none⟩)) _ _ (by simp only [putFrom, puts]) (Below.refl _ _) (fun iv' _ _ => rfl))
      ·
       have h7 : vs 7 = .pointer (some ⟨pb, 1, none⟩) := hd.out 7 (mem_of (by kernel_rfl)) (by decide)
       go_wp2_with fail
       exact Onward.mk (hK (.int .i64 x.2) _ _ (by simp only [putFrom, puts, h7]) (Below.refl _ _) (fun iv' _ _ => rfl))
      ·
       go_wp2_with fail
       exact Onward.mk (hK (.int .i64 m) _ _ (by simp only [putFrom, puts]) (Below.refl _ _) (fun iv' _ _ => rfl))
      ·
       go_wp2_with fail
       exact Onward.mk (hK (.int .i64 q) _ _ (by simp only [putFrom, puts]) (Below.refl _ _) (fun iv' _ _ => rfl))
      ·
       have h6 : vs 6 = .agg #[.int .i64 t, .int .i64 a, .slice s' bc.length c', .slice u' ny.length d'] := hd.out 6 (mem_of (by kernel_rfl)) (by decide)
       have h8 : vs 8 = .int .i64 x.2 := hd.out 8 (mem_of (by kernel_rfl)) (by decide)
       have h9 : vs 9 = .int .i64 m := hd.out 9 (mem_of (by kernel_rfl)) (by decide)
       have h10 : vs 10 = .int .i64 q := hd.out 10 (mem_of (by kernel_rfl)) (by decide)
       go_wp2_with fail
       refine (nextOf_i (Rds.two hrB).1 (Rds.two hrB).2 Hok'.out hxok.2.2.2 hmat hqa).mono ?_
       rintro e w2 ⟨rfl, hb⟩
       go_wp2_with fail
       exact Onward.mk (hK (.int .i64 (goN ny x.2 m q)) _ _ (by simp only [putFrom, puts, h6, h8, h9, h10]) hb (fun iv' _ _ => rfl))
      ·
       have h5 : vs 5 = .int .i64 (goN nx x.1 m q) := hd.out 5 (mem_of (by kernel_rfl)) (by decide)
       have h11 : vs 11 = .int .i64 (goN ny x.2 m q) := hd.out 11 (mem_of (by kernel_rfl)) (by decide)
       go_wp2_with fail
       exact Onward.mk (hK (.agg #[.int .i64 (goN nx x.1 m q), .int .i64 (goN ny x.2 m q)]) _ _ (by simp only [putFrom, puts, h5, h11]) (Below.refl _ _) (fun iv' _ _ => by
        show (.agg #[.int .i64 (goN nx x.1 m q), .int .i64 (goN ny x.2 m q)] : Value) = .agg #[vs 5, vs 11]
        simp only [h5, h11]))
      ·
       go_wp2_with fail
       exact Onward.mk (hK (.pointer (some ⟨w1.heap.size, 0, none⟩)) _ _ (by simp only [putFrom, puts]) (Below.alloc (Below.refl _ _) (Nat.le_refl _) _) (fun iv' _ hi => by
        show Value.pointer (some ⟨w1.heap.size, 0, none⟩) = .pointer (some ⟨(iv' 13).1, 0, none⟩) ∧ (iv' 13).2 = (iv' 13).1 + 1 ∧ Blk _ (iv' 13).1 136 [.int .i64 0, .int .i64 0]
        rw [hi]
        exact ⟨rfl, by simp, Blk.new2 _ _ _ _⟩))
     case hstore =>
      intro o ho iv vs w1 hB hd hsep K hK
      simp at ho
      subst ho
      simp only [putFrom, puts]
      have h0 : vs 0 = .agg #[.int .i64 t, .int .i64 a, .slice s ac.length c, .slice u nx.length d] := (hd.out 0 (mem_of (by kernel_rfl))).1
      have h1 : vs 1 = .pointer (some ⟨pb, 0, none⟩) := (hd.out 1 (mem_of (by kernel_rfl))).1
      have h2 : vs 2 = .int .i64 x.1 := (hd.out 2 (mem_of (by kernel_rfl))).1
      have h3 : vs 3 = .int .i64 m := (hd.out 3 (mem_of (by kernel_rfl))).1
      have h4 : vs 4 = .int .i64 q := (hd.out 4 (mem_of (by kernel_rfl))).1
      have h5 : vs 5 = .int .i64 (goN nx x.1 m q) := (hd.out 5 (mem_of (by kernel_rfl))).1
      have h6 : vs 6 = .agg #[.int .i64 t, .int .i64 a, .slice s' bc.length c', .slice u' ny.length d'] := (hd.out 6 (mem_of (by kernel_rfl))).1
      have h7 : vs 7 = .pointer (some ⟨pb, 1, none⟩) := (hd.out 7 (mem_of (by kernel_rfl))).1
      have h8 : vs 8 = .int .i64 x.2 := (hd.out 8 (mem_of (by kernel_rfl))).1
      have h9 : vs 9 = .int .i64 m := (hd.out 9 (mem_of (by kernel_rfl))).1
      have h10 : vs 10 = .int .i64 q := (hd.out 10 (mem_of (by kernel_rfl))).1
      have h11 : vs 11 = .int .i64 (goN ny x.2 m q) := (hd.out 11 (mem_of (by kernel_rfl))).1
      have h12 : vs 12 = .agg #[vs 5, vs 11] := (hd.out 12 (mem_of (by kernel_rfl))).1
      obtain ⟨⟨h13, q13, f13⟩, b13, -, u13⟩ := hd.out 13 (mem_of (by kernel_rfl))
      have k12 : vs 12 = .agg #[.int .i64 (goN nx x.1 m q), .int .i64 (goN ny x.2 m q)] := by rw [h12, h5, h11]
      obtain ⟨p, hp⟩ : ∃ p, (iv 13).1 = p := ⟨_, rfl⟩
      rw [hp] at h13 f13 b13
      have r0 := f13.c0
      have r1 := f13.c1
      have z0 := f13.frozen 0
      have z1 := f13.frozen 1
      have ltF := f13.lt
      clear h0 h1 h2 h3 h4 h5 h6 h7 h8 h9 h10 h11 h12
      go_wp2_with fail
      refine Onward.mk (hK _ _ (by simp only [putFrom, puts, h13, k12]) ⟨p, h13, b13, (f13.set 0 _).set 1 _, ?_⟩)
      exact Below.setCell (Below.setCell hB (by simp; omega) _) (by simp; omega) _
     case hQ =>
      rintro zs wn hE ⟨p, h8, lp, hP, hb⟩
      simp only [putFrom, puts, h8]
      clear h8 hE
      obtain ⟨X0, hXe⟩ : ∃ X0, goN nx x.1 m q = X0 := ⟨_, rfl⟩
      obtain ⟨Y0, hYe⟩ : ∃ Y0, goN ny x.2 m q = Y0 := ⟨_, rfl⟩
      have hXb := goN_bd Hok.out (s := x.1) (m := m) (k := q) hxok.2.1 hmat hqa
      have hYb := goN_bd Hok'.out (s := x.2) (m := m) (k := q) hxok.2.2.2 hmat hqa
      rw [hXe] at hP hXb
      rw [hYe] at hP hYb
      have HXe := Lib.hid hXe
      have HYe := Lib.hid hYe
      have Hkey := Lib.hid (keyP (p := (X0, Y0)) ⟨hXb.1, by omega⟩ ⟨hYb.1, by omega⟩)
      have HB3 := Lib.hid (HB2.out.below hb)
      have HBe3 := Lib.hid (HBe2.out.trans (hb.mono hzq))
      have hz3 := hb.size
      have n0 := hP.c0
      have n1 := hP.c1
      have ltN := hP.lt
      have HN := Lib.hid hP
      obtain ⟨M, hM, hfd⟩ := (HB3.out.one 1 rfl).1
      obtain ⟨Lc, hLc⟩ : ∃ Lc, prC nx ny A n i x m q = Lc := ⟨_, rfl⟩
      rw [hLc] at hfd HR2 HB3
      have Hfd := Lib.hid hfd
      have HLc := Lib.hid hLc
      clear hXe hYe hb hP hLc HB2 HBe2 Hpb
      by_cases hsn : (X0, Y0) ∈ Lc ∨ (X0, Y0) = (-1, -1)
      ·
       have HEL : Hid (prC nx ny A n i x m (q + 1) = Lc) := by
        show _ = _
        by_cases hneg : X0 < 0 ∧ Y0 < 0
        ·
         rw [prC_none hmlt hqlt (nxtP_none HXe.out HYe.out hneg.1 hneg.2), HLc.out]
        ·
         rcases hsn with hin | he
         ·
          rw [prC_was hmlt hqlt (nxtP_some HXe.out HYe.out hneg) (by rw [HLc.out]; exact hin), HLc.out]
         ·
          simp only [Prod.mk.injEq] at he
          exact absurd (by omega) hneg
       have Hfind : Hid (findM M (X0, Y0) = some true) := by show _ = _; rw [Hfd.out, if_pos hsn]
       clear hsn hfd
       go_wp2_with (at_lookup; refine wpList_lookup_at _ rfl _ _ 174 false rfl 136 4 lawP Tryz.underlying174 (.bool false) (zeroBl _) kfP_inj g hM (X0, Y0) Hkey.out rfl rfl (some true) Hfind.out ?_; simp only [lookV, Bool.false_eq_true, if_false])
       go_roundw
       case rel => exact ⟨q + 1, by go_num, by omega, R2, by rw [HEL.out]; exact HB3.out, by rw [HEL.out]; exact HR2.out, Hf2.out, HBe3.out⟩
       case measure => simp [intOf]; omega
      ·
       have hneg : ¬ (X0 < 0 ∧ Y0 < 0) := fun h => hsn (Or.inr (Prod.ext (show X0 = -1 by omega) (show Y0 = -1 by omega)))
       have HEL : Hid (prC nx ny A n i x m (q + 1) = Lc ++ [(X0, Y0)]) := by
        show _ = _
        rw [prC_new hmlt hqlt (nxtP_some HXe.out HYe.out hneg) (by rw [HLc.out]; exact fun h => hsn (Or.inl h)), HLc.out]
       have Hfind : Hid (findM M (X0, Y0) = none) := by show _ = _; rw [Hfd.out, if_neg hsn]
       clear hsn hfd hneg
       go_wp2_with (first
        | (at_lookup; refine wpList_lookup_at _ rfl _ _ 174 false rfl 136 4 lawP Tryz.underlying174 (.bool false) (zeroBl _) kfP_inj g hM (X0, Y0) Hkey.out rfl rfl none Hfind.out ?_; simp only [lookV, Bool.false_eq_true, if_false])
        | (at_mapUpdate; (refine wpList_mapUpdate_at _ rfl _ _ _ 174 rfl 136 4 lawP Tryz.underlying174 kfP_inj g hM (X0, Y0) Hkey.out true rfl rfl rfl ?_); intro w10 hM10 ho10; have hz10 := ho10.size; have N3 := HN.out.keep (ho10.block _ HN.out.lt (by simp; omega)); have n0 := N3.c0; have n1 := N3.c1; have ltN := N3.lt; have hBl := (HB3.out.turn_one (Q := SeenAt g (Lc ++ [(X0, Y0)])) 1 rfl ho10 (SeenAt.hold ⟨_, hM10, seen_put Hfd.out⟩)).alloc (.cells #[.int .i64 X0, .int .i64 Y0, .int .i64 i, .int .i64 m, .int .i64 q] 138); have hNl := Blk.made w10 138 #[.int .i64 X0, .int .i64 Y0, .int .i64 i, .int .i64 m, .int .i64 q]; have Hbe10 := Lib.hid (HBe3.out.trans (ho10.below (by omega) (fun b hb => by simp at hb; omega))); have hzB := Hbe10.out.size; clear hM10 ho10)
        | (at_builtin; go_must (refine wpList_append_bun _ rfl _ _ 134 rfl 138 (.agg #[.int .i64 0, .int .i64 0, .int .i64 0, .int .i64 0, .int .i64 0]) 5 40 Tryz.underlying134 info_rch rfl (by decide) hBl (by simp; omega) 0 _ rfl rfl ⟨w10.heap.size, 0, none⟩ 1 1 (Rch.cells ⟨(X0, Y0), i, m, q⟩) rfl (news_blk hNl) (none_own5 _) rfl (by simp [Rch.cells, Value.oneCell']) (by omega) (by omega) (by unfold maxLen; omega) ?_); intro g7 cap7 w7 hbun7 hb7))
       have Hfin := Lib.hid (And.intro hbun7 ((Hbe10.out.alloc (by omega) (.cells #[.int .i64 X0, .int .i64 Y0, .int .i64 i, .int .i64 m, .int .i64 q] 138)).trans hb7))
       clear hbun7 hb7 hBl hNl hM
       go_wp2_with fail
       go_roundw
       case rel =>
        refine ⟨q + 1, by go_num, by omega, R2 ++ [⟨(X0, Y0), i, m, q⟩], ?_, by rw [HEL.out, List.map_append, HR2.out]; rfl, Hf2.out.snoc (by show (-1 : Int) ≤ (i : Int); omega) (by show (i : Int) < _; omega), Hfin.out.2⟩
        rw [HEL.out, rchD_snoc, List.length_append]
        exact Hfin.out.1
       case measure => simp [intOf]; omega
end Go.Proofs.YtjlmdhoajfdkbaaGreatDoor
