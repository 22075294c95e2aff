/-
  Parts of a proof, joined: AtS, AtI, Lw. No condition.
-/
import Derived.Laws.BitsLemmas
import Derived.Laws.Bits64
import Derived.Test.YtfopdcdbelaapaaGreatDoorPk29
namespace Go.Proofs.YtfopdcdbelaapaaGreatDoor
set_option linter.unusedVariables false
set_option linter.unusedSimpArgs false
open Go.ChangeShapes Go.WideShapes Go.ChangeAt Go.RowKit Go.Deep
noncomputable def atB (t a : Int) (e f : Ex) : Bool := withinB (auA t a e) (auA t a f) (auX t a e) (auX t a f) (atomsN t).toNat a.toNat
noncomputable def atR (t a : Int) (e f : Ex) : Bool := if bothC t a e f = 0 then atB t a e f else false
noncomputable def eqR (t a : Int) (e f : Ex) : Bool := if bothC t a e f = 0 then (atB t a e f && atB t a f e) else false
set_option maxHeartbeats 8000000 in
theorem specAtMost_i {t a k n k' n' : Int} {ks ks' : List Ex} {s s' : Option Addr} {c c' : Nat} {w : World} (hr : Rd w (kidsD ks) (.slice s ks.length c)) (hr' : Rd w (kidsD ks') (.slice s' ks'.length c')) (h1 : Ex.sizeL ks ≤ 1048576) (h2 : Ex.sizeL ks' ≤ 1048576) :
  Calls Tryz.prog 62 #[.agg #[.int .i64 t, .int .i64 a], .agg #[.int .i64 k, .int .i64 n, .slice s ks.length c], .agg #[.int .i64 k', .int .i64 n', .slice s' ks'.length c']] w fun e w' => e = .returned (.tuple #[.bool (atR t a (.mk k n ks) (.mk k' n' ks')), .int .i64 (bothC t a (.mk k n ks) (.mk k' n' ks'))]) ∧ Below w.heap.size w w' := by
 have Hsz : Hid (Ex.size (.mk k n ks) ≤ 1073741824) := by show _ ≤ _; rw [Ex.size_eq]; simp only [Ex.kids]; omega
 have Hsz' : Hid (Ex.size (.mk k' n' ks') ≤ 1073741824) := by show _ ≤ _; rw [Ex.size_eq]; simp only [Ex.kids]; omega
 obtain ⟨e, he⟩ : ∃ e, Ex.mk k n ks = e := ⟨_, rfl⟩
 obtain ⟨f, hf⟩ : ∃ f, Ex.mk k' n' ks' = f := ⟨_, rfl⟩
 rw [he] at Hsz ⊢
 rw [hf] at Hsz' ⊢
 have He := Lib.hid he
 have Hf := Lib.hid hf
 clear he hf h1 h2
 cases hcb : (bothC t a e f != 0)
 rotate_left
 ·
  have HE : Hid (atR t a e f = false) := by show _ = _; unfold atR; rw [if_neg (by simpa using hcb)]
  go_enter Tryz.func62, Tryz.ntmps62
  go_wp2_with fail
  obtain ⟨w1, e1, G, hb1, hz1⟩ := box2 w 37 (.int .i64 t) (.int .i64 a)
  rw [e1]
  obtain ⟨w2, e2, X, hb2, hz2⟩ := box3 w1 34 (.int .i64 k) (.int .i64 n) (.slice s ks.length c)
  rw [e2]
  obtain ⟨w0, e0, Y, hb3, hz3⟩ := box3 w2 34 (.int .i64 k') (.int .i64 n') (.slice s' ks'.length c')
  rw [e0]
  have hB : Below w.heap.size w w0 := (hb1.trans (hb2.mono (by omega))).trans (hb3.mono (by omega))
  rw [hz1] at X
  rw [show w2.heap.size = w.heap.size + 1 + 1 by omega] at Y
  replace X := X.below hb3
  replace G := (G.below hb2).below hb3
  clear e1 e2 e0 hb1 hb2 hb3 hz1 hz2 hz3
  have hxa : ExAt w0 (w.heap.size + 1) 0 e := by rw [← He.out]; exact X.exAt (hr.below hB)
  have hya : ExAt w0 (w.heap.size + 1 + 1) 0 f := by rw [← Hf.out]; exact Y.exAt (hr'.below hB)
  clear X Y G
  refine (l03Both_i hxa hya Hsz.out Hsz'.out).mono ?_
  rintro g w3 ⟨v1, v2, rfl, ⟨t1, a1, s1, u1, l1, c1, m1, d1, rfl⟩, ⟨t2, a2, s2, u2, l2, c2, m2, d2, rfl⟩, hb, -⟩
  replace hB := Below.on hB hb hB.size
  have hzB := hB.size
  clear hb hxa hya
  go_wp2_with fail
  go_ret2
  exact ⟨ret_bi HE.out.symm rfl, by (repeat' first | exact Below.refl _ _ | assumption | apply Below.alloc | apply Below.drew | apply Below.setCell | omega | (simp; done) | (simp; omega))⟩
 ·
  skip
  have hc : bothC t a e f = 0 := by simpa using hcb
  obtain ⟨hce, hcf⟩ := both_ok hc
  obtain ⟨-, -, -, hoke⟩ := au_ok hce
  obtain ⟨-, -, -, hokf⟩ := au_ok hcf
  have Hoke := Lib.hid hoke
  have Hokf := Lib.hid hokf
  have Hc := Lib.hid hc
  clear hcb hc hce hcf hoke hokf
  have HE : Hid (atR t a e f = atB t a e f) := by show _ = _; unfold atR; rw [if_pos Hc.out]
  go_enter Tryz.func62, Tryz.ntmps62
  go_wp2_with fail
  obtain ⟨w1, e1, G, hb1, hz1⟩ := box2 w 37 (.int .i64 t) (.int .i64 a)
  rw [e1]
  obtain ⟨w2, e2, X, hb2, hz2⟩ := box3 w1 34 (.int .i64 k) (.int .i64 n) (.slice s ks.length c)
  rw [e2]
  obtain ⟨w0, e0, Y, hb3, hz3⟩ := box3 w2 34 (.int .i64 k') (.int .i64 n') (.slice s' ks'.length c')
  rw [e0]
  have hB : Below w.heap.size w w0 := (hb1.trans (hb2.mono (by omega))).trans (hb3.mono (by omega))
  rw [hz1] at X
  rw [show w2.heap.size = w.heap.size + 1 + 1 by omega] at Y
  replace X := X.below hb3
  replace G := (G.below hb2).below hb3
  clear e1 e2 e0 hb1 hb2 hb3 hz1 hz2 hz3
  have hxa : ExAt w0 (w.heap.size + 1) 0 e := by rw [← He.out]; exact X.exAt (hr.below hB)
  have hya : ExAt w0 (w.heap.size + 1 + 1) 0 f := by rw [← Hf.out]; exact Y.exAt (hr'.below hB)
  clear X Y G
  refine (l03Both_i hxa hya Hsz.out Hsz'.out).mono ?_
  rintro g w3 ⟨v1, v2, rfl, -, -, hb, hgot⟩
  obtain ⟨s1, c1, u1, d1, s2, c2, u2, d2, rfl, rfl, hd1, hd2⟩ := hgot Hc.out
  rw [Hc.out]
  replace hB := Below.on hB hb hB.size
  clear hb hxa hya hgot
  go_wp2_with fail
  obtain ⟨w4, e4, A1, hb4, hz4⟩ := box4 w3 107 (.int .i64 t) (.int .i64 a) (.slice s1 (auA t a e).length c1) (.slice u1 (auX t a e).length d1)
  rw [e4]
  obtain ⟨w5, e5, A2, hb5, hz5⟩ := box4 w4 107 (.int .i64 t) (.int .i64 a) (.slice s2 (auA t a f).length c2) (.slice u2 (auX t a f).length d2)
  rw [e5]
  replace hB := (hB.trans (hb4.mono hB.size)).trans (hb5.mono (by have := hB.size; omega))
  rw [hz4] at A2
  have HA1 := Lib.hid (autAt_box (A1.below hb5) ((hd1.below hb4).below hb5))
  have HA2 := Lib.hid (autAt_box A2 ((hd2.below hb4).below hb5))
  clear e4 e5 hb4 hb5 hd1 hd2 A1 A2 hz5
  refine (l03Within_i HA1.out HA2.out Hoke.out Hokf.out).mono ?_
  rintro g w6 ⟨rfl, hb6⟩
  have hB6 := hB.trans (hb6.mono hB.size)
  have HE2 : Hid (withinB (auA t a e) (auA t a f) (auX t a e) (auX t a f) (atomsN t).toNat a.toNat = atR t a e f) := HE.out.symm
  rw [HE2.out]
  clear hb6
  go_wp2_with fail
  go_ret2
  exact ⟨ret_bi rfl Hc.out.symm, hB6⟩
set_option maxHeartbeats 8000000 in
theorem specEqualExprs_i {t a k n k' n' : Int} {ks ks' : List Ex} {s s' : Option Addr} {c c' : Nat} {w : World} (hr : Rd w (kidsD ks) (.slice s ks.length c)) (hr' : Rd w (kidsD ks') (.slice s' ks'.length c')) (h1 : Ex.sizeL ks ≤ 1048576) (h2 : Ex.sizeL ks' ≤ 1048576) :
  Calls Tryz.prog 26 #[.agg #[.int .i64 t, .int .i64 a], .agg #[.int .i64 k, .int .i64 n, .slice s ks.length c], .agg #[.int .i64 k', .int .i64 n', .slice s' ks'.length c']] w fun e w' => e = .returned (.tuple #[.bool (eqR t a (.mk k n ks) (.mk k' n' ks')), .int .i64 (bothC t a (.mk k n ks) (.mk k' n' ks'))]) ∧ Below w.heap.size w w' := by
 have Hsz : Hid (Ex.size (.mk k n ks) ≤ 1073741824) := by show _ ≤ _; rw [Ex.size_eq]; simp only [Ex.kids]; omega
 have Hsz' : Hid (Ex.size (.mk k' n' ks') ≤ 1073741824) := by show _ ≤ _; rw [Ex.size_eq]; simp only [Ex.kids]; omega
 obtain ⟨e, he⟩ : ∃ e, Ex.mk k n ks = e := ⟨_, rfl⟩
 obtain ⟨f, hf⟩ : ∃ f, Ex.mk k' n' ks' = f := ⟨_, rfl⟩
 rw [he] at Hsz ⊢
 rw [hf] at Hsz' ⊢
 have He := Lib.hid he
 have Hf := Lib.hid hf
 clear he hf h1 h2
 cases hcb : (bothC t a e f != 0)
 rotate_left
 ·
  have HE : Hid (eqR t a e f = false) := by show _ = _; unfold eqR; rw [if_neg (by simpa using hcb)]
  go_enter Tryz.func26, Tryz.ntmps26
  go_wp2_with fail
  obtain ⟨w1, e1, G, hb1, hz1⟩ := box2 w 37 (.int .i64 t) (.int .i64 a)
  rw [e1]
  obtain ⟨w2, e2, X, hb2, hz2⟩ := box3 w1 34 (.int .i64 k) (.int .i64 n) (.slice s ks.length c)
  rw [e2]
  obtain ⟨w0, e0, Y, hb3, hz3⟩ := box3 w2 34 (.int .i64 k') (.int .i64 n') (.slice s' ks'.length c')
  rw [e0]
  have hB : Below w.heap.size w w0 := (hb1.trans (hb2.mono (by omega))).trans (hb3.mono (by omega))
  rw [hz1] at X
  rw [show w2.heap.size = w.heap.size + 1 + 1 by omega] at Y
  replace X := X.below hb3
  replace G := (G.below hb2).below hb3
  clear e1 e2 e0 hb1 hb2 hb3 hz1 hz2 hz3
  have hxa : ExAt w0 (w.heap.size + 1) 0 e := by rw [← He.out]; exact X.exAt (hr.below hB)
  have hya : ExAt w0 (w.heap.size + 1 + 1) 0 f := by rw [← Hf.out]; exact Y.exAt (hr'.below hB)
  clear X Y G
  refine (l03Both_i hxa hya Hsz.out Hsz'.out).mono ?_
  rintro g w3 ⟨v1, v2, rfl, ⟨t1, a1, s1, u1, l1, c1, m1, d1, rfl⟩, ⟨t2, a2, s2, u2, l2, c2, m2, d2, rfl⟩, hb, -⟩
  replace hB := Below.on hB hb hB.size
  have hzB := hB.size
  clear hb hxa hya
  go_wp2_with fail
  go_ret2
  exact ⟨ret_bi HE.out.symm rfl, by (repeat' first | exact Below.refl _ _ | assumption | apply Below.alloc | apply Below.drew | apply Below.setCell | omega | (simp; done) | (simp; omega))⟩
 ·
  skip
  have hc : bothC t a e f = 0 := by simpa using hcb
  obtain ⟨hce, hcf⟩ := both_ok hc
  obtain ⟨-, -, -, hoke⟩ := au_ok hce
  obtain ⟨-, -, -, hokf⟩ := au_ok hcf
  have Hoke := Lib.hid hoke
  have Hokf := Lib.hid hokf
  have Hc := Lib.hid hc
  clear hcb hc hce hcf hoke hokf
  have HE : Hid (eqR t a e f = (atB t a e f && atB t a f e)) := by show _ = _; unfold eqR; rw [if_pos Hc.out]
  go_enter Tryz.func26, Tryz.ntmps26
  go_wp2_with fail
  obtain ⟨w1, e1, G, hb1, hz1⟩ := box2 w 37 (.int .i64 t) (.int .i64 a)
  rw [e1]
  obtain ⟨w2, e2, X, hb2, hz2⟩ := box3 w1 34 (.int .i64 k) (.int .i64 n) (.slice s ks.length c)
  rw [e2]
  obtain ⟨w0, e0, Y, hb3, hz3⟩ := box3 w2 34 (.int .i64 k') (.int .i64 n') (.slice s' ks'.length c')
  rw [e0]
  have hB : Below w.heap.size w w0 := (hb1.trans (hb2.mono (by omega))).trans (hb3.mono (by omega))
  rw [hz1] at X
  rw [show w2.heap.size = w.heap.size + 1 + 1 by omega] at Y
  replace X := X.below hb3
  replace G := (G.below hb2).below hb3
  clear e1 e2 e0 hb1 hb2 hb3 hz1 hz2 hz3
  have hxa : ExAt w0 (w.heap.size + 1) 0 e := by rw [← He.out]; exact X.exAt (hr.below hB)
  have hya : ExAt w0 (w.heap.size + 1 + 1) 0 f := by rw [← Hf.out]; exact Y.exAt (hr'.below hB)
  clear X Y G
  refine (l03Both_i hxa hya Hsz.out Hsz'.out).mono ?_
  rintro g w3 ⟨v1, v2, rfl, -, -, hb, hgot⟩
  obtain ⟨s1, c1, u1, d1, s2, c2, u2, d2, rfl, rfl, hd1, hd2⟩ := hgot Hc.out
  rw [Hc.out]
  replace hB := Below.on hB hb hB.size
  clear hb hxa hya hgot
  go_wp2_with fail
  obtain ⟨w4, e4, A1, hb4, hz4⟩ := box4 w3 107 (.int .i64 t) (.int .i64 a) (.slice s1 (auA t a e).length c1) (.slice u1 (auX t a e).length d1)
  rw [e4]
  obtain ⟨w5, e5, A2, hb5, hz5⟩ := box4 w4 107 (.int .i64 t) (.int .i64 a) (.slice s2 (auA t a f).length c2) (.slice u2 (auX t a f).length d2)
  rw [e5]
  replace hB := (hB.trans (hb4.mono hB.size)).trans (hb5.mono (by have := hB.size; omega))
  rw [hz4] at A2
  have HA1 := Lib.hid (autAt_box (A1.below hb5) ((hd1.below hb4).below hb5))
  have HA2 := Lib.hid (autAt_box A2 ((hd2.below hb4).below hb5))
  clear e4 e5 hb4 hb5 hd1 hd2 A1 A2 hz5
  refine (l03Within_i HA1.out HA2.out Hoke.out Hokf.out).mono ?_
  rintro g w6 ⟨rfl, hb6⟩
  have hB6 := hB.trans (hb6.mono hB.size)
  have HA1' := Lib.hid (HA1.out.below hb6)
  have HA2' := Lib.hid (HA2.out.below hb6)
  clear hb6
  cases h1 : withinB (auA t a e) (auA t a f) (auX t a e) (auX t a f) (atomsN t).toNat a.toNat
  ·
   have HE2 : Hid (eqR t a e f = false) := by show _ = _; rw [HE.out]; unfold atB; rw [h1, Bool.false_and]
   clear h1
   go_wp2_with fail
   go_ret2
   exact ⟨ret_bi HE2.out.symm Hc.out.symm, hB6⟩
  ·
   have HE2 : Hid (eqR t a e f = withinB (auA t a f) (auA t a e) (auX t a f) (auX t a e) (atomsN t).toNat a.toNat) := by show _ = _; rw [HE.out]; unfold atB; rw [h1, Bool.true_and]
   clear h1
   go_wp2_with fail
   refine (l03Within_i HA2'.out HA1'.out Hokf.out Hoke.out).mono ?_
   rintro g w7 ⟨rfl, hb7⟩
   have hB7 := hB6.trans (hb7.mono hB6.size)
   rw [← HE2.out]
   clear hb7
   go_wp2_with fail
   go_ret2
   exact ⟨ret_bi rfl Hc.out.symm, hB7⟩
end Go.Proofs.YtfopdcdbelaapaaGreatDoor

namespace Go.Proofs.YtfopdcdbelaapaaGreatDoor
set_option linter.unusedVariables false
set_option linter.unusedSimpArgs false
open Go.ChangeShapes Go.WideShapes Go.ChangeAt Go.RowKit Go.Deep
theorem box5 (w : World) (t : TypeId) (a b c d e : Value) : ∃ w', w.alloc (.cells #[a, b, c, d, e] t) = w' ∧ Blk w' w.heap.size t [a, b, c, d, e] ∧ Below w.heap.size w w' ∧ w'.heap.size = w.heap.size + 1 :=
 ⟨_, rfl, Blk.made w t _, Below.alloc (Below.refl _ _) (Nat.le_refl _) _, by simp⟩
end Go.Proofs.YtfopdcdbelaapaaGreatDoor

namespace Go.Proofs.YtfopdcdbelaapaaGreatDoor
set_option linter.unusedVariables false
set_option linter.unusedSimpArgs false
open Go.ChangeShapes Go.WideShapes Go.ChangeAt Go.RowKit Go.Deep Go.Sort
structure Later (w : World) (F : World → Prop) : Prop where
 ok : ∀ w', Below w.heap.size w w' → F w'
theorem Later.on {w w' : World} {F : World → Prop} (h : Later w F) (hb : Below w.heap.size w w') : Later w' F := ⟨fun w2 k => h.ok w2 (hb.trans (k.mono hb.size))⟩
theorem Later.rd {w : World} {d : D} {v : Value} (h : Rd w d v) : Later w (fun w => Rd w d v) := ⟨fun _ b => h.below b⟩
section
variable {H : Type} {enc : TypeId × Value → H} {W : World} {base : Nat} {sp : Nat → Bool} {hd : Bool} {v : Value} {d : DataW H} {ps : List MemPlace}
end
end Go.Proofs.YtfopdcdbelaapaaGreatDoor
