/-
  Parts of a proof, joined: MatT, LwW, Flp, RvP, Rvs. No condition.
-/
import Derived.Test.YtbflhjjnemdecaaPk13
import Derived.Test.YtbflhjjnemdecaaPk25
namespace Go.Proofs.Ytbflhjjnemdecaa
set_option linter.unusedVariables false
set_option linter.unusedSimpArgs false
open Go.ChangeShapes Go.WideShapes Go.ChangeAt Go.RowKit Go.Deep Go.Sort
theorem spans_whole {tm am : Int} (htm : tm ≤ 2) {e : Ex} {xs ys : List Int} {s p q : Option Addr} {c pc qc : Nat} {w : World} (hr : Rd w (kidsD e.kids) (.slice s e.kids.length c)) (htr : e.tree tm am = true) (rx : Rd w (intsD xs) (.slice p xs.length pc)) (ry : Rd w (intsD ys) (.slice q ys.length qc)) (hok : WOk xs ys) :
  Calls Try.prog 110 #[.agg #[.int .i64 e.kind, .int .i64 e.num, .slice s e.kids.length c], .agg #[.slice p xs.length pc, .slice q ys.length qc]] w fun f w' => ∃ g b2 o2 c2, f = .returned (.slice (some ⟨g, 0, none⟩) xs.length xs.length) ∧ w'.cell? ⟨g, 0, none⟩ = some (.slice (some ⟨b2, o2, none⟩) xs.length c2) ∧ w'.cell? ⟨b2, o2 + ys.length, none⟩ = some (.bool (mtB e xs ys)) ∧ xs.length ≤ c2 ∧ c2 ≤ 9223372036854775807 ∧ Below w.heap.size w w' := by
 refine (spansOf_all am htm _ e xs ys s p q c pc qc w (Nat.le_refl _) hr htr rx ry hok).mono ?_
 rintro f w' ⟨g, rfl, hf, hb⟩
 have hl := hok.len
 obtain ⟨-, s1, c1, h1, r1⟩ := nest_sl (g := D.bool) hf.rd (sqL_at (n := xs.length) (M := spB e xs ys) (i := 0) (by omega))
 rw [rowOf_len] at h1 r1
 obtain ⟨b1, o1, rfl⟩ := nest_some (f := D.bool) r1 (by rw [rowOf_len]; omega)
 obtain ⟨k1, k2⟩ := nest_bd r1
 rw [rowOf_len] at k1
 obtain ⟨-, h3⟩ := bool_in r1 (rowOf_at (n := xs.length) (f := spB e xs ys 0) (k := ys.length) (by omega))
 rw [Nat.zero_add] at h1
 exact ⟨g, b1, o1, c1, rfl, h1, h3, k1, by unfold maxLen at k2; omega, hb⟩
set_option maxHeartbeats 8000000 in
theorem matches_i {tm am k num : Int} (htm : tm ≤ 2) {ks : List Ex} {xs ys : List Int} {s p q : Option Addr} {c pc qc : Nat} {w : World} (hr : Rd w (kidsD ks) (.slice s ks.length c)) (htr : Ex.tree tm am (.mk k num ks) = true) (rx : Rd w (intsD xs) (.slice p xs.length pc)) (ry : Rd w (intsD ys) (.slice q ys.length qc)) (hok : WOk xs ys) :
  Calls Try.prog 57 #[.agg #[.int .i64 k, .int .i64 num, .slice s ks.length c], .agg #[.slice p xs.length pc, .slice q ys.length qc]] w fun f w' => f = .returned (.bool (mtB (.mk k num ks) xs ys)) ∧ Below w.heap.size w w' := by
 have hl := hok.len
 have hsh := hok.short
 obtain ⟨-, hly, hcy, -⟩ := ry.sl_at
 unfold maxLen at hcy
 have hcall := fun W (hW : Below w.heap.size w W) => spans_whole (am := am) htm (e := .mk k num ks) (hr.below hW) htr (rx.below hW) (ry.below hW) hok
 simp only [Ex.kind, Ex.num, Ex.kids] at hcall
 obtain ⟨n, hn⟩ : ∃ n, xs.length = n := ⟨_, rfl⟩
 rw [hn] at hcall rx hl ⊢
 have Hcall := Lib.hid hcall
 have hny : ys.length < n := by omega
 have hnz : (0 : Int) < (n : Int) := by omega
 have hnyz : (ys.length : Int) < (n : Int) := by omega
 have hy0 := Int.natCast_nonneg ys.length
 clear hcall hr htr rx ry hok hl hn
 go_enter Try.func57, Try.ntmps57
 go_wp2_with fail
 obtain ⟨w0, e0, E, hb0, hz0⟩ := box3 w 38 (.int .i64 k) (.int .i64 num) (.slice s ks.length c)
 rw [e0]
 obtain ⟨w1, e1, Q, hb1, hz1⟩ := box2 w0 40 (.slice p n pc) (.slice q ys.length qc)
 rw [e1]
 rw [hz0] at Q
 have hB1 := hb0.trans (hb1.mono (by omega))
 replace E := E.below hb1
 have HE := Lib.hid E
 have HQ := Lib.hid Q
 have HB := Lib.hid hB1
 obtain ⟨x0, x1, x2, -, -, -, ltx⟩ := E.all3
 obtain ⟨y0, y1, lty⟩ := Q.all2
 clear e0 e1 hb0 hb1 hB1 E Q
 go_region_with (go_at_call 110; refine (Hcall.out _ HB.out.drew).mono ?_; rintro f w3 ⟨g, b2, o2, c2, rfl, m1, m2, m3, m4, hb3⟩; have z1 := (hb3.cell (p := ⟨w.heap.size + 1, 1, none⟩) lty).trans y1; have hB3 := HB.out.drew.trans (hb3.mono HB.out.drew.size))
 all_goals
  go_wp2_with fail
  go_ret
  exact ⟨rfl, hB3⟩
theorem wordB_ok {t a : Int} {xs ys : List Int} (h : wordB t a xs ys = true) : WOk xs ys := by
 obtain ⟨h1, h2, h3, h4⟩ := wordB_parts h
 have hs : sigB t a = true := (wordB_bd h).1
 obtain ⟨ht0, ht1, ha0, ha1⟩ := sigB_bd hs
 have hat := atomsN_bd t
 refine ⟨h2, h1, fun x hx => ?_, fun y hy => ?_⟩
 ·
  unfold allIn at h3
  rw [List.all_eq_true] at h3
  have := h3 x hx
  simp only [inB, Bool.and_eq_true, decide_eq_true_eq] at this
  omega
 ·
  unfold allIn at h4
  rw [List.all_eq_true] at h4
  have := h4 y hy
  simp only [inB, Bool.and_eq_true, decide_eq_true_eq] at this
  omega
noncomputable def maR (t a k n : Int) (ks : List Ex) (xs ys : List Int) : Bool := okB t a (.mk k n ks) && (wordB t a xs ys && mtB (.mk k n ks) xs ys)
def maK (t a k n : Int) (ks : List Ex) (xs ys : List Int) : Int := if okB t a (.mk k n ks) = true then (if wordB t a xs ys = true then 0 else 1) else 1
theorem okB_tm {t a : Int} {e : Ex} (h : okB t a e = true) : t - 1 ≤ 2 := by
 obtain ⟨ht0, ht1, ha0, ha1⟩ := sigB_bd (okB_sig h)
 omega
set_option maxHeartbeats 4000000 in
theorem implMatches_i {t a k n : Int} {ks : List Ex} {xs ys : List Int} {s p q : Option Addr} {c pc qc : Nat} {w : World} (hr : Rd w (kidsD ks) (.slice s ks.length c)) (rx : Rd w (intsD xs) (.slice p xs.length pc)) (ry : Rd w (intsD ys) (.slice q ys.length qc)) :
  Calls Try.prog 16 #[.agg #[.int .i64 t, .int .i64 a], .agg #[.int .i64 k, .int .i64 n, .slice s ks.length c], .agg #[.slice p xs.length pc, .slice q ys.length qc]] w fun e w' => e = .returned (.tuple #[.bool (maR t a k n ks xs ys), .int .i64 (maK t a k n ks xs ys)]) ∧ Below w.heap.size w w' := by
 go_enter Try.func16, Try.ntmps16
 go_wp2_with fail
 have L := ((Blk.new2 w 34 (.int .i64 t) (.int .i64 a)).alloc (.cells #[.int .i64 k, .int .i64 n, .slice s ks.length c] 38)).alloc (.cells #[.slice p xs.length pc, .slice q ys.length qc] 40)
 have M := (Blk.new3 (w.alloc (.cells #[.int .i64 t, .int .i64 a] 34)) 38 (.int .i64 k) (.int .i64 n) (.slice s ks.length c)).alloc (.cells #[.slice p xs.length pc, .slice q ys.length qc] 40)
 simp at M
 have V := Blk.new2 ((w.alloc (.cells #[.int .i64 t, .int .i64 a] 34)).alloc (.cells #[.int .i64 k, .int .i64 n, .slice s ks.length c] 38)) 40 (.slice p xs.length pc) (.slice q ys.length qc)
 simp at V
 have hB : Below w.heap.size w (((w.alloc (.cells #[.int .i64 t, .int .i64 a] 34)).alloc (.cells #[.int .i64 k, .int .i64 n, .slice s ks.length c] 38)).alloc (.cells #[.slice p xs.length pc, .slice q ys.length qc] 40)) := by (repeat' first | exact Below.refl _ _ | assumption | apply Below.alloc | apply Below.drew | apply Below.setCell | omega | (simp; done) | (simp; omega))
 have hB0 := hB
 generalize (((w.alloc (.cells #[.int .i64 t, .int .i64 a] 34)).alloc (.cells #[.int .i64 k, .int .i64 n, .slice s ks.length c] 38)).alloc (.cells #[.slice p xs.length pc, .slice q ys.length qc] 40)) = v0 at L M V hB hB0 ⊢
 have l0 := L.c0
 have l1 := L.c1
 have m0 := M.c0
 have m1 := M.c1
 have m2 := M.c2
 have v0 := V.c0
 have v1 := V.c1
 have ltL := L.lt
 have ltM := M.lt
 have ltV := V.lt
 go_wp2_with fail
 refine (implValidExpr_i (hr.below hB)).mono ?_
 rintro x w1 ⟨rfl, hb⟩
 clear l0 l1 m0 m1 m2 v0 v1 ltL ltM ltV
 replace hB := Below.on hB hb hB.size
 replace L := L.below hb
 replace M := M.below hb
 replace V := V.below hb
 clear hb
 have szW1 := hB.size
 cases hs1 : okB t a (.mk k n ks)
 ·
  have l0 := L.c0
  have l1 := L.c1
  have ltL := L.lt
  have m0 := M.c0
  have m1 := M.c1
  have m2 := M.c2
  have ltM := M.lt
  have v0 := V.c0
  have v1 := V.c1
  have ltV := V.lt
  go_wp2_with fail
  go_ret2
  exact ⟨ret_bi (by simp [maR, hs1]) (by simp [maK, hs1]), hB⟩
 have Hs1 := Lib.hid hs1
 clear hs1
 have l0 := L.c0
 have l1 := L.c1
 have m0 := M.c0
 have m1 := M.c1
 have m2 := M.c2
 have v0 := V.c0
 have v1 := V.c1
 have ltL := L.lt
 have ltM := M.lt
 have ltV := V.lt
 go_wp2_with fail
 refine (isWord_i (rx.below hB) (ry.below hB) (okB_sig Hs1.out)).mono ?_
 rintro x w2 ⟨rfl, hb⟩
 clear l0 l1 m0 m1 m2 v0 v1 ltL ltM ltV
 replace hB := Below.on hB hb hB.size
 replace L := L.below hb
 replace M := M.below hb
 replace V := V.below hb
 clear hb
 have szW2 := hB.size
 cases hs2 : wordB t a xs ys
 ·
  have l0 := L.c0
  have l1 := L.c1
  have ltL := L.lt
  have m0 := M.c0
  have m1 := M.c1
  have m2 := M.c2
  have ltM := M.lt
  have v0 := V.c0
  have v1 := V.c1
  have ltV := V.lt
  go_wp2_with fail
  go_ret2
  exact ⟨ret_bi (by simp [maR, Hs1.out, hs2]) (by simp [maK, Hs1.out, hs2]), hB⟩
 have Hs2 := Lib.hid hs2
 clear hs2
 have l0 := L.c0
 have l1 := L.c1
 have m0 := M.c0
 have m1 := M.c1
 have m2 := M.c2
 have v0 := V.c0
 have v1 := V.c1
 have ltL := L.lt
 have ltM := M.lt
 have ltV := V.lt
 go_wp2_with fail
 refine (matches_i (okB_tm Hs1.out) (hr.below hB) (okB_tree Hs1.out) (rx.below hB) (ry.below hB) (wordB_ok Hs2.out)).mono ?_
 rintro x w3 ⟨rfl, hb⟩
 clear l0 l1 m0 m1 m2 v0 v1 ltL ltM ltV
 replace hB := Below.on hB hb hB.size
 replace L := L.below hb
 replace M := M.below hb
 replace V := V.below hb
 clear hb
 have szW3 := hB.size
 have l0 := L.c0
 have l1 := L.c1
 have m0 := M.c0
 have m1 := M.c1
 have m2 := M.c2
 have v0 := V.c0
 have v1 := V.c1
 have ltL := L.lt
 have ltM := M.lt
 have ltV := V.lt
 go_wp2_with fail
 go_ret2
 exact ⟨ret_bi (by simp [maR, Hs1.out, Hs2.out]) (by simp [maK, Hs1.out, Hs2.out]), hB⟩
end Go.Proofs.Ytbflhjjnemdecaa

namespace Go.Proofs.Ytbflhjjnemdecaa
set_option linter.unusedVariables false
set_option linter.unusedSimpArgs false
open Go.ChangeShapes Go.WideShapes Go.ChangeAt Go.RowKit Go.Deep Go.Sort
theorem word_rds {w : World} {ps qs : List Int} {v1 v2 : Value} (h : Rds w (wordD ps qs) [v1, v2]) : Rd w (intsD ps) v1 ∧ Rd w (intsD qs) v2 := by
 simp only [wordD, Rds] at h
 obtain ⟨x1, q1, e1, r1, x2, q2, e2, r2, e3⟩ := h
 simp only [List.cons.injEq] at e1 e2
 obtain ⟨rfl, rfl⟩ := e1
 simp only [List.cons.injEq] at e2
 obtain ⟨rfl, -⟩ := e2
 exact ⟨r1, r2⟩
theorem a2Word_l {xs : List Int} {s : Option Addr} {c : Nat} {t a : Int} {e : Ex} {se : Option Addr} {ce : Nat} {w : World} (hr : Rd w (bytesD xs) (.slice s xs.length c)) (hx : ∀ x ∈ xs, 0 ≤ x ∧ x ≤ 255) (he : Rd w (kidsD e.kids) (.slice se e.kids.length ce)) (hok : okB t a e = true) :
  Calls Try.prog 32 #[.slice s xs.length c, .agg #[.int .i64 t, .int .i64 a], .agg #[.int .i64 e.kind, .int .i64 e.num, .slice se e.kids.length ce]] w fun z w' => ∃ (ps qs : List Int) (s' : Option Addr) (c' : Nat) (u' : Option Addr) (d' : Nat), z = .returned (.agg #[.slice s' ps.length c', .slice u' qs.length d']) ∧ wordB t a ps qs = true ∧
   Rd w' (intsD ps) (.slice s' ps.length c') ∧ Rd w' (intsD qs) (.slice u' qs.length d') ∧ Below w.heap.size w w' :=
 (a2Word_i hr hx he hok).mono fun _ _ ⟨ps, qs, s', c', u', d', h1, h2, h3, h4⟩ => ⟨ps, qs, s', c', u', d', h1, h3, (word_rds h2).1, (word_rds h2).2, h4⟩
theorem revExpr_l {t a : Int} {e : Ex} {s : Option Addr} {c : Nat} {w : World} (hr : Rd w (kidsD e.kids) (.slice s e.kids.length c)) (hok : okB t a e = true) (h1 : e.size ≤ 1000) :
  Calls Try.prog 43 #[.agg #[.int .i64 t, .int .i64 a], .agg #[.int .i64 e.kind, .int .i64 e.num, .slice s e.kids.length c]] w fun z w' => ∃ (x : Ex) (s' : Option Addr) (c' : Nat), z = .returned (.tuple #[.agg #[.int .i64 x.kind, .int .i64 x.num, .slice s' x.kids.length c'], .int .i64 0]) ∧ x = e.rev ∧
   Rd w' (kidsD x.kids) (.slice s' x.kids.length c') ∧ Below w.heap.size w w' := by
 cases e with
 | mk k n ks =>
  have hs := Ex.size_eq (.mk k n ks)
  simp only [Ex.kids] at hs
  refine (implReverseExpr_i (t := t) (a := a) (k := k) (n := n) (ks := ks) hr (by omega)).mono ?_
  rintro f w' ⟨s', c', h1, h2, h3⟩
  have e1 : revE t a k n ks = Ex.rev (.mk k n ks) := by unfold revE; rw [if_pos hok]
  have e2 : revEK t a k n ks = 0 := by unfold revEK; rw [if_pos hok]
  rw [e1, e2] at h1
  rw [e1] at h2
  exact ⟨_, s', c', h1, rfl, h2.rd1, h3⟩
theorem revWord_l {t a : Int} {xs ys : List Int} {s u : Option Addr} {c d : Nat} {w : World} (hr : Rd w (intsD xs) (.slice s xs.length c)) (hq : Rd w (intsD ys) (.slice u ys.length d)) (hw : wordB t a xs ys = true) :
  Calls Try.prog 44 #[.agg #[.int .i64 t, .int .i64 a], .agg #[.slice s xs.length c, .slice u ys.length d]] w fun z w' => ∃ (ps qs : List Int) (s' : Option Addr) (c' : Nat) (u' : Option Addr) (d' : Nat), z = .returned (.tuple #[.agg #[.slice s' ps.length c', .slice u' qs.length d'], .int .i64 0]) ∧ (ps = xs.reverse ∧ qs = ys.reverse) ∧
   Rd w' (intsD ps) (.slice s' ps.length c') ∧ Rd w' (intsD qs) (.slice u' qs.length d') ∧ Below w.heap.size w w' := by
 obtain ⟨-, hy, hx⟩ := wordB_bd hw
 refine (implReverseWord_i (t := t) (a := a) hr hq (by omega) (by omega)).mono ?_
 rintro f w' ⟨s', c', u', d', h1, h2, h3⟩
 have e1 : revX t a xs ys = xs.reverse := by unfold revX; rw [if_pos hw]
 have e2 : revY t a xs ys = ys.reverse := by unfold revY; rw [if_pos hw]
 have e3 : revC t a xs ys = 0 := by unfold revC; rw [if_pos hw]
 rw [e1, e2, e3] at h1
 rw [e1, e2] at h2
 obtain ⟨r1, r2⟩ := word_rds h2.rds
 exact ⟨_, _, s', c', u', d', h1, ⟨rfl, rfl⟩, r1, r2, h3⟩
theorem matches_l {t a : Int} {e : Ex} {xs ys : List Int} {s p q : Option Addr} {c pc qc : Nat} {w : World} (hr : Rd w (kidsD e.kids) (.slice s e.kids.length c)) (rx : Rd w (intsD xs) (.slice p xs.length pc)) (ry : Rd w (intsD ys) (.slice q ys.length qc)) (hok : okB t a e = true) (hw : wordB t a xs ys = true) :
  Calls Try.prog 16 #[.agg #[.int .i64 t, .int .i64 a], .agg #[.int .i64 e.kind, .int .i64 e.num, .slice s e.kids.length c], .agg #[.slice p xs.length pc, .slice q ys.length qc]] w fun z w' => ∃ v : Bool, z = .returned (.tuple #[.bool v, .int .i64 0]) ∧ v = mtB e xs ys ∧ Below w.heap.size w w' := by
 cases e with
 | mk k n ks =>
  refine (implMatches_i (t := t) (a := a) (k := k) (n := n) (ks := ks) hr rx ry).mono ?_
  rintro f w' ⟨h1, h2⟩
  have e1 : maR t a k n ks xs ys = mtB (.mk k n ks) xs ys := by unfold maR; rw [hok, hw]; rfl
  have e2 : maK t a k n ks xs ys = 0 := by unfold maK; rw [if_pos hok, if_pos hw]
  rw [e1, e2] at h1
  exact ⟨_, h1, rfl, h2⟩
theorem same_l {e f : Ex} {s s' : Option Addr} {c c' : Nat} {w : World} (hr : Rd w (kidsD e.kids) (.slice s e.kids.length c)) (hr' : Rd w (kidsD f.kids) (.slice s' f.kids.length c')) (h : e = f) :
  Calls Try.prog 45 #[.agg #[.int .i64 e.kind, .int .i64 e.num, .slice s e.kids.length c], .agg #[.int .i64 f.kind, .int .i64 f.num, .slice s' f.kids.length c']] w fun z w' => z = .returned (.bool true) ∧ Below w.heap.size w w' := by
 cases e with
 | mk k n ks =>
  cases f with
  | mk k' n' ks' =>
   refine (specSameExpr_i (k := k) (n := n) (k' := k') (n' := n') hr hr').mono ?_
   rintro z w' ⟨h1, h2⟩
   have e1 : eqb (Ex.mk k n ks) (Ex.mk k' n' ks') = true := by rw [h]; exact eqb_true rfl
   replace h1 : z = .returned (.bool (eqb (Ex.mk k n ks) (Ex.mk k' n' ks'))) := h1
   rw [e1] at h1
   exact ⟨h1, h2⟩
theorem sameW_l {xs ys xs' ys' : List Int} {s t s' t' : Option Addr} {c d c' d' : Nat} {w : World} (hr : Rd w (intsD xs) (.slice s xs.length c)) (hr2 : Rd w (intsD ys) (.slice t ys.length d))
  (hr' : Rd w (intsD xs') (.slice s' xs'.length c')) (hr2' : Rd w (intsD ys') (.slice t' ys'.length d')) (h : xs = xs') (h' : ys = ys') :
  Calls Try.prog 46 #[.agg #[.slice s xs.length c, .slice t ys.length d], .agg #[.slice s' xs'.length c', .slice t' ys'.length d']] w fun e w' => e = .returned (.bool true) ∧ Below w.heap.size w w' := by
 refine (specSameWord_i hr hr2 hr' hr2').mono ?_
 rintro z w' ⟨h1, h2⟩
 have e1 : (eqb xs xs' && eqb ys ys') = true := by rw [eqb_true h, eqb_true h']; rfl
 rw [e1] at h1
 exact ⟨h1, h2⟩
end Go.Proofs.Ytbflhjjnemdecaa

namespace Go.Proofs.Ytbflhjjnemdecaa
set_option linter.unusedVariables false
set_option linter.unusedSimpArgs false
def revS : List (Nat × Nat) → Nat → List (Nat × Nat)
 | [], _ => []
 | q :: r, m => revS r m ++ [(hdA r m, q.2)]
theorem revS_append : ∀ (u v : List (Nat × Nat)) (m : Nat), revS (u ++ v) m = revS v m ++ revS u (hdA v m)
 | [], v, m => by simp [revS]
 | q :: u, v, m => by
  rw [List.cons_append]
  show revS (u ++ v) m ++ [(hdA (u ++ v) m, q.2)] = _
  rw [revS_append u v m, List.append_assoc, hdA_append]
  rfl
theorem revS_hd : ∀ (u : List (Nat × Nat)) (m : Nat), hdA (revS u m) (hdA u m) = m
 | [], m => rfl
 | q :: r, m => by
  show hdA (revS r m ++ [(hdA r m, q.2)]) q.1 = m
  rw [hdA_append]
  exact revS_hd r m
theorem revS_revS : ∀ (u : List (Nat × Nat)) (m : Nat), revS (revS u m) (hdA u m) = u
 | [], m => rfl
 | q :: r, m => by
  show revS (revS r m ++ [(hdA r m, q.2)]) q.1 = q :: r
  rw [revS_append]
  show revS [(hdA r m, q.2)] q.1 ++ revS (revS r m) (hdA r m) = _
  rw [revS_revS r m]
  rfl
def turnG (K : Lng) : Lng := fun ws m => K (revS ws m) (hdA ws m)
theorem turnG_turnG (K : Lng) : turnG (turnG K) = K := Lng.ext fun ws m => by unfold turnG; rw [revS_revS, revS_hd]
theorem turnG_sum (K L : Lng) : turnG (sumG K L) = sumG (turnG K) (turnG L) := rfl
theorem turnG_dot (K L : Lng) : turnG (dotG K L) = dotG (turnG L) (turnG K) := Lng.ext fun ws m => by
 constructor
 ·
  rintro ⟨u, v, e, hu, hv⟩
  have e' : ws = revS v (hdA ws m) ++ revS u (hdA v (hdA ws m)) := by rw [← revS_append, ← e, revS_revS]
  have e2 := revS_hd ws m
  rw [e, hdA_append] at e2
  refine ⟨revS v (hdA ws m), revS u (hdA v (hdA ws m)), e', ?_, ?_⟩
  ·
   unfold turnG
   have e3 : hdA (revS u (hdA v (hdA ws m))) m = hdA v (hdA ws m) := (congrArg (fun y => hdA (revS u (hdA v (hdA ws m))) y) e2.symm).trans (revS_hd u _)
   rw [e3, revS_revS, revS_hd]
   exact hv
  ·
   unfold turnG
   have e3 : m = hdA u (hdA v (hdA ws m)) := e2.symm
   have e4 : revS (revS u (hdA v (hdA ws m))) m = u := (congrArg (fun y => revS (revS u (hdA v (hdA ws m))) y) e3).trans (revS_revS u _)
   have e5 : hdA (revS u (hdA v (hdA ws m))) m = hdA v (hdA ws m) := (congrArg (fun y => hdA (revS u (hdA v (hdA ws m))) y) e3).trans (revS_hd u _)
   rw [e4, e5]
   exact hu
 ·
  rintro ⟨u, v, rfl, hu, hv⟩
  refine ⟨revS v m, revS u (hdA v m), revS_append u v m, ?_, ?_⟩
  ·
   unfold turnG at hv
   rw [hdA_append, revS_hd]
   exact hv
  ·
   unfold turnG at hu
   rw [hdA_append]
   exact hu
theorem turnG_cnd (e : Ex) : turnG (cndG e) = cndG e := Lng.ext fun ws m => by
 unfold turnG cndG
 cases ws with
 | nil => exact Iff.rfl
 | cons q r =>
  constructor
  ·
   rintro ⟨h, -⟩; simp [revS] at h
  ·
   rintro ⟨h, -⟩; cases h
theorem turnG_act (n : Int) : turnG (actG n) = actG n := Lng.ext fun ws m => by
 unfold turnG actG
 constructor
 ·
  rintro ⟨p, y, e, h⟩
  match ws, e with
  | [], e => cases e
  | [q], e =>
   simp only [revS, List.nil_append, List.cons.injEq, Prod.mk.injEq, and_true] at e
   exact ⟨q.1, q.2, rfl, by rw [e.2]; exact h⟩
  | q :: q' :: r, e =>
   have := congrArg List.length e
   simp [revS] at this
 ·
  rintro ⟨p, y, rfl, h⟩
  exact ⟨m, y, rfl, h⟩
theorem turnG_star_le (K : Lng) {ws : List (Nat × Nat)} {m : Nat} (h : StarG (turnG K) ws m) : turnG (StarG K) ws m := by
 induction h with
 | nil => exact StarG.nil _
 | cons u v m hu _ ih =>
  unfold turnG at hu ih ⊢
  rw [revS_append, hdA_append]
  exact StarG.append (by rw [revS_hd]; exact ih) (StarG.one hu)
theorem turnG_star (K : Lng) : turnG (StarG K) = StarG (turnG K) := Lng.ext fun ws m => by
 constructor
 ·
  intro h
  have h' : StarG (turnG (turnG K)) (revS ws m) (hdA ws m) := by rw [turnG_turnG]; exact h
  have := turnG_star_le (turnG K) h'
  unfold turnG at this
  rw [revS_revS, revS_hd] at this
  exact this
 ·
  exact turnG_star_le K
theorem kid_less {k n : Int} {ks : List Ex} {x : Ex} (h : x ∈ ks) : x.size < (Ex.mk k n ks).size := by
 have h1 := Ex.sizeL_mem h
 have h2 := Ex.size_eq (Ex.mk k n ks)
 simp only [Ex.kids] at h2
 omega
theorem emp_rev (tm am m : Int) (N : Nat) : ∀ e : Ex, e.size ≤ N → e.tree tm am = true → e.rev.tru m = e.tru m ∧ e.rev.emp m = e.emp m := by
 induction N with
 | zero => intro e h; have := Ex.size_eq e; omega
 | succ N ih =>
  rintro ⟨k, n, ks⟩ hs ht
  obtain ⟨hk, hn, hc, hl⟩ := tree_parts ht
  have kid : ∀ x ∈ ks, x.rev.tru m = x.tru m ∧ x.rev.emp m = x.emp m := fun x hx => ih x (by have := kid_less (k := k) (n := n) hx; omega) (Ex.treeL_mem hl hx)
  by_cases h67 : k = 6 ∨ k = 7
  ·
   obtain ⟨x, y, rfl⟩ := two_kids hk h67
   obtain ⟨x1, x2⟩ := kid x (by simp)
   obtain ⟨y1, y2⟩ := kid y (by simp)
   rcases h67 with rfl | rfl
   ·
    simp [Ex.rev, Ex.revL, Ex.tru, Ex.truL, truC, Ex.emp, Ex.empL, empC, x1, x2, y1, y2]
   ·
    simp [Ex.rev, Ex.revL, Ex.tru, Ex.truL, truC, Ex.emp, Ex.empL, empC, x1, x2, y1, y2, Bool.and_comm]
  by_cases h58 : k = 5 ∨ k = 8
  ·
   obtain ⟨x, rfl⟩ := one_kid hk h58
   obtain ⟨x1, x2⟩ := kid x (by simp)
   rcases h58 with rfl | rfl
   ·
    simp [Ex.rev, Ex.revL, Ex.tru, Ex.truL, truC, Ex.emp, Ex.empL, empC, x1, x2]
   ·
    simp [Ex.rev, Ex.revL, Ex.tru, Ex.truL, truC, Ex.emp, Ex.empL, empC, x1, x2]
  ·
   have h0 : ks.length = 0 := by
    unfold kidsN at hk
    rw [if_neg h58, if_neg h67] at hk
    split at hk <;> omega
   rw [List.eq_nil_of_length_eq_zero h0]
   have e1 : (Ex.mk k n []).rev = .mk k n [] := by simp only [Ex.rev, Ex.revL, List.reverse_nil, ite_self]
   rw [e1]
   exact ⟨rfl, rfl⟩
theorem rev_lng (tm am : Int) (N : Nat) : ∀ e : Ex, e.size ≤ N → e.tree tm am = true → e.rev.lng = turnG e.lng := by
 induction N with
 | zero => intro e h; have := Ex.size_eq e; omega
 | succ N ih =>
  rintro ⟨k, n, ks⟩ hs ht
  obtain ⟨hk, hn, hc, hl⟩ := tree_parts ht
  have kid : ∀ x ∈ ks, x.rev.lng = turnG x.lng := fun x hx => ih x (by have := kid_less (k := k) (n := n) hx; omega) (Ex.treeL_mem hl hx)
  by_cases h4 : k = 4
  ·
   subst h4
   simp only [Ex.rev]
   rw [Ex.lng_act, Ex.lng_act, turnG_act]
  by_cases h67 : k = 6 ∨ k = 7
  ·
   obtain ⟨x, y, rfl⟩ := two_kids hk h67
   have hx := kid x (by simp)
   have hy := kid y (by simp)
   rcases h67 with rfl | rfl
   ·
    simp only [Ex.rev, Ex.revL, if_neg (show ¬ (6 : Int) = 7 by omega)]
    rw [Ex.lng_sum, Ex.lng_sum, turnG_sum, hx, hy]
   ·
    simp only [Ex.rev, Ex.revL, if_true, List.reverse_cons, List.reverse_nil, List.nil_append, List.cons_append]
    rw [Ex.lng_dot, Ex.lng_dot, turnG_dot, hx, hy]
  by_cases h8 : k = 8
  ·
   subst h8
   obtain ⟨x, rfl⟩ := one_kid hk (Or.inr rfl)
   simp only [Ex.rev, Ex.revL, if_neg (show ¬ (8 : Int) = 7 by omega)]
   rw [Ex.lng_star, Ex.lng_star, turnG_star, kid x (by simp)]
  ·
   have e1 : ∀ m : Nat, (Ex.mk k n ks).rev.emp (m : Int) = (Ex.mk k n ks).emp (m : Int) := fun m => (emp_rev tm am m _ _ (Nat.le_refl _) ht).2
   rw [Ex.lng_else h4 (by omega) (by omega) h8, turnG_cnd]
   have e2 : (Ex.mk k n ks).rev = .mk k n (Ex.revL ks) := by simp only [Ex.rev, if_neg (show ¬ k = 7 by omega)]
   rw [e2] at e1 ⊢
   rw [Ex.lng_else h4 (by omega) (by omega) h8]
   exact Lng.ext fun ws m => by unfold cndG; rw [e1]
theorem segW_rev {xs ys : List Int} (hl : xs.length = ys.length + 1) : ∀ k, k ≤ ys.length → segW xs.reverse ys.reverse 0 k = revS (segW xs ys (ys.length - k) ys.length) (atW xs ys.length) := by
 intro k
 induction k with
 | zero => intro _; rw [Nat.sub_zero, segW_self, segW_self]; rfl
 | succ k ih =>
  intro hk
  have hj : ys.length - (k + 1) + 1 = ys.length - k := by omega
  rw [segW_succ _ _ (Nat.zero_le k), ih (by omega), segW_append xs ys (show ys.length - (k + 1) ≤ ys.length - (k + 1) + 1 by omega) (show ys.length - (k + 1) + 1 ≤ ys.length by omega), segW_one, hj, revS_append]
  congr 1
  show _ = [(hdA [] _, (ys.getD (ys.length - (k + 1)) 0).toNat)]
  have e1 : atW xs.reverse k = atW xs (ys.length - k) := by
   unfold atW
   simp only [List.getD_eq_getElem?_getD]
   rw [List.getElem?_reverse (by omega), show xs.length - 1 - k = ys.length - k by omega]
  have e2 : ys.reverse.getD k 0 = ys.getD (ys.length - (k + 1)) 0 := by
   simp only [List.getD_eq_getElem?_getD]
   rw [List.getElem?_reverse (by omega), show ys.length - 1 - k = ys.length - (k + 1) by omega]
  rw [e1, e2]
  show [_] = [(hdA (segW xs ys (ys.length - k) ys.length) (atW xs ys.length), _)]
  rw [hdA_seg xs ys (by omega)]
theorem mtB_rev {tm am : Int} {e : Ex} {xs ys : List Int} (ht : e.tree tm am = true) (hl : xs.length = ys.length + 1) : mtB e.rev xs.reverse ys.reverse = mtB e xs ys := by
 unfold mtB
 rw [Bool.eq_iff_iff, spB_iff, spB_iff, List.length_reverse, rev_lng tm am _ e (Nat.le_refl _) ht]
 unfold spP
 rw [segW_rev hl _ (Nat.le_refl _), Nat.sub_self]
 have e1 : atW xs.reverse ys.length = atW xs 0 := by
  unfold atW
  simp only [List.getD_eq_getElem?_getD]
  rw [List.getElem?_reverse (by omega), show xs.length - 1 - ys.length = 0 by omega]
 rw [e1, ← hdA_seg xs ys (Nat.zero_le ys.length)]
 unfold turnG
 rw [revS_revS, revS_hd]
mutual
theorem rev_rev : ∀ e : Ex, e.rev.rev = e
 | .mk k n ks => by
  simp only [Ex.rev]
  by_cases h7 : k = 7
  ·
   rw [if_pos h7, if_pos h7, revL_reverse, List.reverse_reverse, revL_revL ks]
  ·
   rw [if_neg h7, if_neg h7, revL_revL ks]
theorem revL_revL : ∀ ks : List Ex, Ex.revL (Ex.revL ks) = ks
 | [] => rfl
 | e :: r => by simp only [Ex.revL]; rw [rev_rev e, revL_revL r]
theorem revL_append : ∀ a b : List Ex, Ex.revL (a ++ b) = Ex.revL a ++ Ex.revL b
 | [], _ => rfl
 | e :: r, b => by simp only [List.cons_append, Ex.revL, revL_append r b]
theorem revL_reverse : ∀ ks : List Ex, Ex.revL ks.reverse = (Ex.revL ks).reverse
 | [] => rfl
 | e :: r => by rw [List.reverse_cons, revL_append, revL_reverse r]; simp only [Ex.revL, List.reverse_cons]
end
end Go.Proofs.Ytbflhjjnemdecaa

namespace Go.Proofs.Ytbflhjjnemdecaa
set_option linter.unusedVariables false
set_option linter.unusedSimpArgs false
open Go.ChangeShapes Go.WideShapes Go.ChangeAt Go.RowKit Go.Deep Go.Sort
theorem condL_app : ∀ a b : List Ex, Ex.condL (a ++ b) = (Ex.condL a && Ex.condL b)
 | [], b => by simp [Ex.condL]
 | e :: r, b => by simp only [List.cons_append, Ex.condL, condL_app r b, Bool.and_assoc]
theorem condL_rev : ∀ a : List Ex, Ex.condL a.reverse = Ex.condL a
 | [] => rfl
 | e :: r => by rw [List.reverse_cons, condL_app, condL_rev r]; simp only [Ex.condL, Bool.and_true]; exact Bool.and_comm _ _
theorem treeL_rev (tm am : Int) : ∀ a : List Ex, Ex.treeL tm am a.reverse = Ex.treeL tm am a
 | [] => rfl
 | e :: r => by rw [List.reverse_cons, Ex.treeL_append, treeL_rev tm am r]; simp only [Ex.treeL, Bool.and_true]; exact Bool.and_comm _ _
mutual
theorem cond_rev : ∀ e : Ex, e.rev.cond = e.cond
 | .mk k n ks => by
  simp only [Ex.rev, Ex.cond]
  split
  ·
   rw [condL_rev, condL_revL ks]
  ·
   rw [condL_revL ks]
theorem condL_revL : ∀ a : List Ex, Ex.condL (Ex.revL a) = Ex.condL a
 | [] => rfl
 | e :: r => by simp only [Ex.revL, Ex.condL, cond_rev e, condL_revL r]
end
mutual
theorem tree_rev (tm am : Int) : ∀ e : Ex, e.rev.tree tm am = e.tree tm am
 | .mk k n ks => by
  simp only [Ex.rev, Ex.tree, nodeB]
  split
  ·
   rw [List.length_reverse, condL_rev, treeL_rev, condL_revL ks, treeL_revL tm am ks, Ex.revL_length]
  ·
   rw [condL_revL ks, treeL_revL tm am ks, Ex.revL_length]
theorem treeL_revL (tm am : Int) : ∀ a : List Ex, Ex.treeL tm am (Ex.revL a) = Ex.treeL tm am a
 | [] => rfl
 | e :: r => by simp only [Ex.revL, Ex.treeL, tree_rev tm am e, treeL_revL tm am r]
end
theorem allIn_rev (xs : List Int) (n : Int) : allIn xs.reverse n = allIn xs n := by unfold allIn; rw [List.all_reverse]
theorem wordB_rev (t a : Int) (xs ys : List Int) : wordB t a xs.reverse ys.reverse = wordB t a xs ys := by unfold wordB; rw [allIn_rev, allIn_rev, List.length_reverse, List.length_reverse]
end Go.Proofs.Ytbflhjjnemdecaa

namespace Go.Proofs.Ytbflhjjnemdecaa
set_option linter.unusedVariables false
set_option linter.unusedSimpArgs false
open Go.ChangeShapes Go.WideShapes Go.ChangeAt Go.RowKit Go.Deep Go.Sort
set_option maxRecDepth 100000 in
set_option maxHeartbeats 16000000 in
theorem law_Reverse {xs ys : List Int} {s s' : Option Addr} {c c' : Nat} {w : World} (hr : Rd w (bytesD xs) (.slice s xs.length c)) (hx : ∀ x ∈ xs, 0 ≤ x ∧ x ≤ 255) (hr' : Rd w (bytesD ys) (.slice s' ys.length c')) (hx' : ∀ x ∈ ys, 0 ≤ x ∧ x ≤ 255) :
  Calls Try.prog 8 #[.slice s xs.length c, .slice s' ys.length c'] w fun f w' => f = .returned (.bool true) ∧ Below w.heap.size w w' := by
 obtain ⟨-, hl1, hl2, -⟩ := hr.sl_at
 obtain ⟨-, hl3, hl4, -⟩ := hr'.sl_at
 have HX := Lib.hid hx
 have HX' := Lib.hid hx'
 have HR := Lib.hid hr
 have HR' := Lib.hid hr'
 have HL := Lib.hid (And.intro hl1 (And.intro hl2 (And.intro hl3 hl4)))
 clear hx hx' hr hr' hl1 hl2 hl3 hl4
 go_enter Try.func8, Try.ntmps8
 go_wp2_with fail
 refine (a2Long_i HL.out.1 HL.out.2.1 HL.out.2.2.1 HL.out.2.2.2).mono ?_
 rintro z wq ⟨rfl, hwq⟩
 subst hwq
 obtain ⟨v, hv⟩ : ∃ v, (decide (3000 < xs.length) || decide (3000 < ys.length)) = v := ⟨_, rfl⟩
 rw [hv]
 clear hv
 cases v
 rotate_left
 ·
  go_wp2_with fail
  go_ret
  exact ⟨rfl, Below.refl _ _⟩
 go_wp2_with fail
 refine (a2Expr_i HR.out HX.out).mono ?_
 rintro z wa ⟨t, a, e, s1, c1, rfl, he, ⟨hsig, hok, hez⟩, hb⟩
 have Hsig := Lib.hid hsig
 have Hok := Lib.hid hok
 have HE := Lib.hid (((Later.rd he).and (Later.rd (HR'.out.below hb))).and (Later.rd (HR.out.below hb)))
 have HB0 := Lib.hid hb
 have hza := hb.size
 clear he hb hsig hok
 go_wp2_with fail
 obtain ⟨w2, e2, B5, hb2, hz2⟩ := box2 wa 34 (.int .i64 t) (.int .i64 a)
 rw [e2]
 obtain ⟨wb, e3, B6, hb3, hz3⟩ := box3 w2 38 (.int .i64 e.kind) (.int .i64 e.num) (.slice s1 e.kids.length c1)
 rw [e3]
 rw [hz2] at B6
 have hbB2 := hb2.trans (hb3.mono (by omega))
 replace B5 := B5.below hb3
 have HB2 := Lib.hid (HB0.out.trans (hbB2.mono hza))
 have HG := Lib.hid (((HE.out.on hbB2).and (Later.blk B5)).and (Later.blk B6))
 clear e2 e3 hb2 hb3 hz2 hz3 hbB2 B5 B6 HE HB0
 obtain ⟨⟨⟨⟨re, ry⟩, rx⟩, g5⟩, g6⟩ := HG.out.now
 obtain ⟨g50, g51, l5⟩ := g5.all2
 obtain ⟨g60, g61, g62, -, -, -, l6⟩ := g6.all3
 clear g5 g6
 go_wp2_with fail
 clear g50 g51 l5 g60 g61 g62 l6
 refine (a2Word_l ry HX'.out re Hok.out).mono ?_
 rintro z v1 ⟨ps, qs, s7, c7, u7, d7, rfl, hw, hp, hq, hb⟩
 have Hw := Lib.hid hw
 clear hw re ry rx
 obtain ⟨v2, eb, K, hbz, hzz⟩ := box2 v1 40 (.slice s7 ps.length c7) (.slice u7 qs.length d7)
 have ltz : v1.heap.size < v2.heap.size := by omega
 clear hzz
 replace HB2 := Lib.hid ((HB2.out.trans (hb.mono HB2.out.size)).trans (hbz.mono (by have := HB2.out.size; have := hb.size; omega)))
 replace HG := Lib.hid ((((HG.out.on hb).on hbz).and (((Later.rd hp).and (Later.rd hq)).on hbz)).and (Later.blk K))
 clear hb hbz K hp hq
 obtain ⟨⟨⟨⟨⟨⟨re, -⟩, -⟩, g5⟩, g6⟩, -⟩, -⟩ := HG.out.now
 obtain ⟨g50, g51, l5⟩ := g5.all2
 obtain ⟨g60, g61, g62, -, -, -, l6⟩ := g6.all3
 clear g5 g6
 go_wp2_with fail
 clear eb g50 g51 l5 g60 g61 g62 l6
 refine (revExpr_l re Hok.out (by omega)).mono ?_
 rintro z v3 ⟨x, s8, c8, rfl, hx8, hr8, hb⟩
 have Hx8 := Lib.hid hx8
 clear re hx8
 obtain ⟨v4, eb, K, hbz, hzz⟩ := box3 v3 38 (.int .i64 x.kind) (.int .i64 x.num) (.slice s8 x.kids.length c8)
 have ltz : v3.heap.size < v4.heap.size := by omega
 clear hzz
 replace HB2 := Lib.hid ((HB2.out.trans (hb.mono HB2.out.size)).trans (hbz.mono (by have := HB2.out.size; have := hb.size; omega)))
 replace HG := Lib.hid ((((HG.out.on hb).on hbz).and ((Later.rd hr8).on hbz)).and (Later.blk K))
 clear hb hbz K hr8
 obtain ⟨⟨⟨⟨⟨⟨⟨⟨-, -⟩, -⟩, g5⟩, -⟩, r7⟩, g7⟩, -⟩, -⟩ := HG.out.now
 obtain ⟨g50, g51, l5⟩ := g5.all2
 obtain ⟨g70, g71, l7⟩ := g7.all2
 clear g5 g7
 go_wp2_with fail
 clear eb g50 g51 l5 g70 g71 l7
 refine (revWord_l r7.1 r7.2 Hw.out).mono ?_
 rintro z v5 ⟨ps1, qs1, s10, c10, u10, d10, rfl, hx10, hp, hq, hb⟩
 have Hx10 := Lib.hid hx10
 clear hx10 r7
 obtain ⟨v6, eb, K, hbz, hzz⟩ := box2 v5 40 (.slice s10 ps1.length c10) (.slice u10 qs1.length d10)
 have ltz : v5.heap.size < v6.heap.size := by omega
 clear hzz
 replace HB2 := Lib.hid ((HB2.out.trans (hb.mono HB2.out.size)).trans (hbz.mono (by have := HB2.out.size; have := hb.size; omega)))
 replace HG := Lib.hid ((((HG.out.on hb).on hbz).and (((Later.rd hp).and (Later.rd hq)).on hbz)).and (Later.blk K))
 clear hb hbz K hp hq
 have Hok8 : Hid (okB t a x = true) := okB_of Hsig.out (by rw [Hx8.out, tree_rev]; exact okB_tree Hok.out) (by rw [Hx8.out, Ex.rev_size]; omega)
 have hz8 : x.size ≤ 1000 := by rw [Hx8.out, Ex.rev_size]; omega
 have Hw10 : Hid (wordB t a ps1 qs1 = true) := by show _ = _; rw [Hx10.out.1, Hx10.out.2, wordB_rev]; exact Hw.out
 obtain ⟨⟨⟨⟨⟨⟨⟨⟨⟨⟨-, -⟩, -⟩, g5⟩, -⟩, -⟩, -⟩, r8⟩, g8⟩, -⟩, -⟩ := HG.out.now
 obtain ⟨g50, g51, l5⟩ := g5.all2
 obtain ⟨g80, g81, g82, -, -, -, l8⟩ := g8.all3
 clear g5 g8
 go_wp2_with fail
 clear eb g50 g51 l5 g80 g81 g82 l8
 refine (revExpr_l r8 Hok8.out hz8).mono ?_
 rintro z v7 ⟨x2, s12, c12, rfl, hx12, hr12, hb⟩
 have Hx12 : Hid (x2 = e) := by show _ = _; rw [hx12, Hx8.out, rev_rev]
 clear hx12 r8
 obtain ⟨v8, eb, K, hbz, hzz⟩ := box3 v7 38 (.int .i64 x2.kind) (.int .i64 x2.num) (.slice s12 x2.kids.length c12)
 have ltz : v7.heap.size < v8.heap.size := by omega
 clear hzz
 replace HB2 := Lib.hid ((HB2.out.trans (hb.mono HB2.out.size)).trans (hbz.mono (by have := HB2.out.size; have := hb.size; omega)))
 replace HG := Lib.hid ((((HG.out.on hb).on hbz).and ((Later.rd hr12).on hbz)).and (Later.blk K))
 clear hb hbz K hr12
 obtain ⟨⟨⟨⟨⟨⟨⟨⟨⟨⟨⟨⟨-, -⟩, -⟩, g5⟩, -⟩, -⟩, -⟩, -⟩, -⟩, r10⟩, g10⟩, -⟩, -⟩ := HG.out.now
 obtain ⟨g50, g51, l5⟩ := g5.all2
 obtain ⟨g100, g101, l10⟩ := g10.all2
 clear g5 g10
 go_wp2_with fail
 clear eb g50 g51 l5 g100 g101 l10
 refine (revWord_l r10.1 r10.2 Hw10.out).mono ?_
 rintro z v9 ⟨ps2, qs2, s14, c14, u14, d14, rfl, hx14, hp, hq, hb⟩
 have Hx14 : Hid (ps2 = ps ∧ qs2 = qs) := by show _ ∧ _; rw [hx14.1, hx14.2, Hx10.out.1, Hx10.out.2, List.reverse_reverse, List.reverse_reverse]; exact ⟨rfl, rfl⟩
 clear hx14 r10
 obtain ⟨v10, eb, K, hbz, hzz⟩ := box2 v9 40 (.slice s14 ps2.length c14) (.slice u14 qs2.length d14)
 have ltz : v9.heap.size < v10.heap.size := by omega
 clear hzz
 replace HB2 := Lib.hid ((HB2.out.trans (hb.mono HB2.out.size)).trans (hbz.mono (by have := HB2.out.size; have := hb.size; omega)))
 replace HG := Lib.hid ((((HG.out.on hb).on hbz).and (((Later.rd hp).and (Later.rd hq)).on hbz)).and (Later.blk K))
 clear hb hbz K hp hq
 obtain ⟨⟨⟨⟨⟨⟨⟨⟨⟨⟨⟨⟨⟨⟨re, -⟩, -⟩, g5⟩, g6⟩, r7⟩, g7⟩, -⟩, -⟩, -⟩, -⟩, -⟩, -⟩, -⟩, -⟩ := HG.out.now
 obtain ⟨g50, g51, l5⟩ := g5.all2
 obtain ⟨g60, g61, g62, -, -, -, l6⟩ := g6.all3
 obtain ⟨g70, g71, l7⟩ := g7.all2
 clear g5 g6 g7
 go_wp2_with fail
 clear eb g50 g51 l5 g60 g61 g62 l6 g70 g71 l7
 refine (matches_l re r7.1 r7.2 Hok.out Hw.out).mono ?_
 rintro z v11 ⟨q1, rfl, hq1, hb⟩
 have Hq1 := Lib.hid hq1
 clear hq1 re r7
 replace HB2 := Lib.hid (HB2.out.trans (hb.mono HB2.out.size))
 replace HG := Lib.hid (HG.out.on hb)
 clear hb
 obtain ⟨⟨⟨⟨⟨⟨⟨⟨⟨⟨⟨⟨⟨⟨-, -⟩, -⟩, g5⟩, -⟩, -⟩, -⟩, r8⟩, g8⟩, r10⟩, g10⟩, -⟩, -⟩, -⟩, -⟩ := HG.out.now
 obtain ⟨g50, g51, l5⟩ := g5.all2
 obtain ⟨g80, g81, g82, -, -, -, l8⟩ := g8.all3
 obtain ⟨g100, g101, l10⟩ := g10.all2
 clear g5 g8 g10
 go_wp2_with fail
 clear g50 g51 l5 g80 g81 g82 l8 g100 g101 l10
 refine (matches_l r8 r10.1 r10.2 Hok8.out Hw10.out).mono ?_
 rintro z v12 ⟨q2, rfl, hq2, hb⟩
 have Hq2 := Lib.hid hq2
 clear hq2 r8 r10
 replace HB2 := Lib.hid (HB2.out.trans (hb.mono HB2.out.size))
 replace HG := Lib.hid (HG.out.on hb)
 clear hb
 obtain ⟨⟨⟨⟨⟨⟨⟨⟨⟨⟨⟨⟨⟨⟨re, -⟩, -⟩, -⟩, g6⟩, -⟩, -⟩, -⟩, -⟩, -⟩, -⟩, r12⟩, g12⟩, -⟩, -⟩ := HG.out.now
 obtain ⟨g60, g61, g62, -, -, -, l6⟩ := g6.all3
 obtain ⟨g120, g121, g122, -, -, -, l12⟩ := g12.all3
 clear g6 g12
 go_wp2_with fail
 clear g60 g61 g62 l6 g120 g121 g122 l12
 refine (same_l r12 re Hx12.out).mono ?_
 rintro z v13 ⟨rfl, hb⟩
 clear r12 re
 replace HB2 := Lib.hid (HB2.out.trans (hb.mono HB2.out.size))
 replace HG := Lib.hid (HG.out.on hb)
 clear hb
 obtain ⟨⟨⟨⟨⟨⟨⟨⟨⟨⟨⟨⟨⟨⟨-, -⟩, -⟩, -⟩, -⟩, r7⟩, g7⟩, -⟩, -⟩, -⟩, -⟩, -⟩, -⟩, r14⟩, g14⟩ := HG.out.now
 obtain ⟨g70, g71, l7⟩ := g7.all2
 obtain ⟨g140, g141, l14⟩ := g14.all2
 clear g7 g14
 go_wp2_with fail
 clear g70 g71 l7 g140 g141 l14
 refine (sameW_l r14.1 r14.2 r7.1 r7.2 Hx14.out.1 Hx14.out.2).mono ?_
 rintro z v15 ⟨rfl, hb⟩
 clear r7 r14
 replace HB2 := Lib.hid (HB2.out.trans (hb.mono HB2.out.size))
 replace HG := Lib.hid (HG.out.on hb)
 clear hb
 have Hqq : (q1 == q2) = true := by rw [Hq1.out, Hq2.out, Hx10.out.1, Hx10.out.2, Hx8.out, mtB_rev (okB_tree Hok.out) (wordB_bd Hw.out).2.2]; simp
 go_wp2_with fail
 go_ret
 exact ⟨rfl, HB2.out⟩
set_option maxRecDepth 100000 in
theorem law_Reverse_of {H : Type} {enc : TypeId × Value → H} (W : World) (args : Array Value) (ds : List (DataW H)) (ps : List MemPlace) (hA : DataW.TrodAll enc Try.prog W 0 (fun _ => true) true Try.f8.params.toList args.toList ds ps)
  (hval : ∀ (j : Nat) t v, Try.f8.params[j]? = some t → args[j]? = some v → ∃ base, Value.okWide Try.prog W .any base t v) :
  Calls Try.prog 8 args W fun e W' => e = .returned (.bool true) ∧ Below W.heap.size W W' := by
 rw [Try.params8] at hA hval
 obtain ⟨v0, vs0, d0', ds0, p0, q0, hargs, rfl, rfl, h0, ra0⟩ := trodAll_cons hA
 obtain ⟨v1, vs1, d1', ds1, p1, q1, rfl, rfl, rfl, h1, ra1⟩ := trodAll_cons ra0
 obtain ⟨rfl, rfl, rfl⟩ := trodAll_nil ra1
 obtain rfl : args = #[v0, v1] := Array.toList_inj.1 hargs
 obtain ⟨b0, hv0⟩ := hval 0 62 v0 rfl rfl
 obtain ⟨b1, hv1⟩ := hval 1 62 v1 rfl rfl
 obtain ⟨xs, s, c, rfl, hr, hx⟩ := open_byteS hv0 h0
 obtain ⟨ys, s', c', rfl, hr', hx'⟩ := open_byteS hv1 h1
 exact law_Reverse hr hx hr' hx'
end Go.Proofs.Ytbflhjjnemdecaa
