/-
  Parts of a proof, joined: MatT, Sz, To, Eq, LawMatches. No condition.
-/
import Derived.Test.YtbflhjjnemdecaaPk9
namespace Go.Proofs.Ytbflhjjnemdecaa
set_option linter.unusedVariables false
set_option linter.unusedSimpArgs false
open Go.ChangeShapes Go.WideShapes Go.ChangeAt Go.RowKit Go.Deep Go.Sort
theorem spans_whole {tm am : Int} (htm : tm ≤ 2) {e : Ex} {xs ys : List Int} {s p q : Option Addr} {c pc qc : Nat} {w : World} (hr : Rd w (kidsD e.kids) (.slice s e.kids.length c)) (htr : e.tree tm am = true) (rx : Rd w (intsD xs) (.slice p xs.length pc)) (ry : Rd w (intsD ys) (.slice q ys.length qc)) (hok : WOk xs ys) :
  Calls Try.prog 110 #[.agg #[.int .i64 e.kind, .int .i64 e.num, .slice s e.kids.length c], .agg #[.slice p xs.length pc, .slice q ys.length qc]] w fun f w' => ∃ g b2 o2 c2, f = .returned (.slice (some ⟨g, 0, none⟩) xs.length xs.length) ∧ w'.cell? ⟨g, 0, none⟩ = some (.slice (some ⟨b2, o2, none⟩) xs.length c2) ∧ w'.cell? ⟨b2, o2 + ys.length, none⟩ = some (.bool (mtB e xs ys)) ∧ xs.length ≤ c2 ∧ c2 ≤ 9223372036854775807 ∧ Below w.heap.size w w' := by
 refine (spansOf_all am htm _ e xs ys s p q c pc qc w (Nat.le_refl _) hr htr rx ry hok).mono ?_
 rintro f w' ⟨g, rfl, hf, hb⟩
 have hl := hok.len
 obtain ⟨-, s1, c1, h1, r1⟩ := nest_sl (g := D.bool) hf.rd (sqL_at (n := xs.length) (M := spB e xs ys) (i := 0) (by omega))
 rw [rowOf_len] at h1 r1
 obtain ⟨b1, o1, rfl⟩ := nest_some (f := D.bool) r1 (by rw [rowOf_len]; omega)
 obtain ⟨k1, k2⟩ := nest_bd r1
 rw [rowOf_len] at k1
 obtain ⟨-, h3⟩ := bool_in r1 (rowOf_at (n := xs.length) (f := spB e xs ys 0) (k := ys.length) (by omega))
 rw [Nat.zero_add] at h1
 exact ⟨g, b1, o1, c1, rfl, h1, h3, k1, by unfold maxLen at k2; omega, hb⟩
set_option maxHeartbeats 8000000 in
theorem matches_i {tm am k num : Int} (htm : tm ≤ 2) {ks : List Ex} {xs ys : List Int} {s p q : Option Addr} {c pc qc : Nat} {w : World} (hr : Rd w (kidsD ks) (.slice s ks.length c)) (htr : Ex.tree tm am (.mk k num ks) = true) (rx : Rd w (intsD xs) (.slice p xs.length pc)) (ry : Rd w (intsD ys) (.slice q ys.length qc)) (hok : WOk xs ys) :
  Calls Try.prog 57 #[.agg #[.int .i64 k, .int .i64 num, .slice s ks.length c], .agg #[.slice p xs.length pc, .slice q ys.length qc]] w fun f w' => f = .returned (.bool (mtB (.mk k num ks) xs ys)) ∧ Below w.heap.size w w' := by
 have hl := hok.len
 have hsh := hok.short
 obtain ⟨-, hly, hcy, -⟩ := ry.sl_at
 unfold maxLen at hcy
 have hcall := fun W (hW : Below w.heap.size w W) => spans_whole (am := am) htm (e := .mk k num ks) (hr.below hW) htr (rx.below hW) (ry.below hW) hok
 simp only [Ex.kind, Ex.num, Ex.kids] at hcall
 obtain ⟨n, hn⟩ : ∃ n, xs.length = n := ⟨_, rfl⟩
 rw [hn] at hcall rx hl ⊢
 have Hcall := Lib.hid hcall
 have hny : ys.length < n := by omega
 have hnz : (0 : Int) < (n : Int) := by omega
 have hnyz : (ys.length : Int) < (n : Int) := by omega
 have hy0 := Int.natCast_nonneg ys.length
 clear hcall hr htr rx ry hok hl hn
 go_enter Try.func57, Try.ntmps57
 go_wp2_with fail
 obtain ⟨w0, e0, E, hb0, hz0⟩ := box3 w 38 (.int .i64 k) (.int .i64 num) (.slice s ks.length c)
 rw [e0]
 obtain ⟨w1, e1, Q, hb1, hz1⟩ := box2 w0 40 (.slice p n pc) (.slice q ys.length qc)
 rw [e1]
 rw [hz0] at Q
 have hB1 := hb0.trans (hb1.mono (by omega))
 replace E := E.below hb1
 have HE := Lib.hid E
 have HQ := Lib.hid Q
 have HB := Lib.hid hB1
 obtain ⟨x0, x1, x2, -, -, -, ltx⟩ := E.all3
 obtain ⟨y0, y1, lty⟩ := Q.all2
 clear e0 e1 hb0 hb1 hB1 E Q
 go_region_with (go_at_call 110; refine (Hcall.out _ HB.out.drew).mono ?_; rintro f w3 ⟨g, b2, o2, c2, rfl, m1, m2, m3, m4, hb3⟩; have z1 := (hb3.cell (p := ⟨w.heap.size + 1, 1, none⟩) lty).trans y1; have hB3 := HB.out.drew.trans (hb3.mono HB.out.drew.size))
 all_goals
  go_wp2_with fail
  go_ret
  exact ⟨rfl, hB3⟩
theorem wordB_ok {t a : Int} {xs ys : List Int} (h : wordB t a xs ys = true) : WOk xs ys := by
 obtain ⟨h1, h2, h3, h4⟩ := wordB_parts h
 have hs : sigB t a = true := (wordB_bd h).1
 obtain ⟨ht0, ht1, ha0, ha1⟩ := sigB_bd hs
 have hat := atomsN_bd t
 refine ⟨h2, h1, fun x hx => ?_, fun y hy => ?_⟩
 ·
  unfold allIn at h3
  rw [List.all_eq_true] at h3
  have := h3 x hx
  simp only [inB, Bool.and_eq_true, decide_eq_true_eq] at this
  omega
 ·
  unfold allIn at h4
  rw [List.all_eq_true] at h4
  have := h4 y hy
  simp only [inB, Bool.and_eq_true, decide_eq_true_eq] at this
  omega
noncomputable def maR (t a k n : Int) (ks : List Ex) (xs ys : List Int) : Bool := okB t a (.mk k n ks) && (wordB t a xs ys && mtB (.mk k n ks) xs ys)
def maK (t a k n : Int) (ks : List Ex) (xs ys : List Int) : Int := if okB t a (.mk k n ks) = true then (if wordB t a xs ys = true then 0 else 1) else 1
theorem okB_tm {t a : Int} {e : Ex} (h : okB t a e = true) : t - 1 ≤ 2 := by
 obtain ⟨ht0, ht1, ha0, ha1⟩ := sigB_bd (okB_sig h)
 omega
set_option maxHeartbeats 4000000 in
theorem implMatches_i {t a k n : Int} {ks : List Ex} {xs ys : List Int} {s p q : Option Addr} {c pc qc : Nat} {w : World} (hr : Rd w (kidsD ks) (.slice s ks.length c)) (rx : Rd w (intsD xs) (.slice p xs.length pc)) (ry : Rd w (intsD ys) (.slice q ys.length qc)) :
  Calls Try.prog 16 #[.agg #[.int .i64 t, .int .i64 a], .agg #[.int .i64 k, .int .i64 n, .slice s ks.length c], .agg #[.slice p xs.length pc, .slice q ys.length qc]] w fun e w' => e = .returned (.tuple #[.bool (maR t a k n ks xs ys), .int .i64 (maK t a k n ks xs ys)]) ∧ Below w.heap.size w w' := by
 go_enter Try.func16, Try.ntmps16
 go_wp2_with fail
 have L := ((Blk.new2 w 34 (.int .i64 t) (.int .i64 a)).alloc (.cells #[.int .i64 k, .int .i64 n, .slice s ks.length c] 38)).alloc (.cells #[.slice p xs.length pc, .slice q ys.length qc] 40)
 have M := (Blk.new3 (w.alloc (.cells #[.int .i64 t, .int .i64 a] 34)) 38 (.int .i64 k) (.int .i64 n) (.slice s ks.length c)).alloc (.cells #[.slice p xs.length pc, .slice q ys.length qc] 40)
 simp at M
 have V := Blk.new2 ((w.alloc (.cells #[.int .i64 t, .int .i64 a] 34)).alloc (.cells #[.int .i64 k, .int .i64 n, .slice s ks.length c] 38)) 40 (.slice p xs.length pc) (.slice q ys.length qc)
 simp at V
 have hB : Below w.heap.size w (((w.alloc (.cells #[.int .i64 t, .int .i64 a] 34)).alloc (.cells #[.int .i64 k, .int .i64 n, .slice s ks.length c] 38)).alloc (.cells #[.slice p xs.length pc, .slice q ys.length qc] 40)) := by (repeat' first | exact Below.refl _ _ | assumption | apply Below.alloc | apply Below.drew | apply Below.setCell | omega | (simp; done) | (simp; omega))
 have hB0 := hB
 generalize (((w.alloc (.cells #[.int .i64 t, .int .i64 a] 34)).alloc (.cells #[.int .i64 k, .int .i64 n, .slice s ks.length c] 38)).alloc (.cells #[.slice p xs.length pc, .slice q ys.length qc] 40)) = v0 at L M V hB hB0 ⊢
 have l0 := L.c0
 have l1 := L.c1
 have m0 := M.c0
 have m1 := M.c1
 have m2 := M.c2
 have v0 := V.c0
 have v1 := V.c1
 have ltL := L.lt
 have ltM := M.lt
 have ltV := V.lt
 go_wp2_with fail
 refine (implValidExpr_i (hr.below hB)).mono ?_
 rintro x w1 ⟨rfl, hb⟩
 clear l0 l1 m0 m1 m2 v0 v1 ltL ltM ltV
 replace hB := Below.on hB hb hB.size
 replace L := L.below hb
 replace M := M.below hb
 replace V := V.below hb
 clear hb
 have szW1 := hB.size
 cases hs1 : okB t a (.mk k n ks)
 ·
  have l0 := L.c0
  have l1 := L.c1
  have ltL := L.lt
  have m0 := M.c0
  have m1 := M.c1
  have m2 := M.c2
  have ltM := M.lt
  have v0 := V.c0
  have v1 := V.c1
  have ltV := V.lt
  go_wp2_with fail
  go_ret2
  exact ⟨ret_bi (by simp [maR, hs1]) (by simp [maK, hs1]), hB⟩
 have Hs1 := Lib.hid hs1
 clear hs1
 have l0 := L.c0
 have l1 := L.c1
 have m0 := M.c0
 have m1 := M.c1
 have m2 := M.c2
 have v0 := V.c0
 have v1 := V.c1
 have ltL := L.lt
 have ltM := M.lt
 have ltV := V.lt
 go_wp2_with fail
 refine (isWord_i (rx.below hB) (ry.below hB) (okB_sig Hs1.out)).mono ?_
 rintro x w2 ⟨rfl, hb⟩
 clear l0 l1 m0 m1 m2 v0 v1 ltL ltM ltV
 replace hB := Below.on hB hb hB.size
 replace L := L.below hb
 replace M := M.below hb
 replace V := V.below hb
 clear hb
 have szW2 := hB.size
 cases hs2 : wordB t a xs ys
 ·
  have l0 := L.c0
  have l1 := L.c1
  have ltL := L.lt
  have m0 := M.c0
  have m1 := M.c1
  have m2 := M.c2
  have ltM := M.lt
  have v0 := V.c0
  have v1 := V.c1
  have ltV := V.lt
  go_wp2_with fail
  go_ret2
  exact ⟨ret_bi (by simp [maR, Hs1.out, hs2]) (by simp [maK, Hs1.out, hs2]), hB⟩
 have Hs2 := Lib.hid hs2
 clear hs2
 have l0 := L.c0
 have l1 := L.c1
 have m0 := M.c0
 have m1 := M.c1
 have m2 := M.c2
 have v0 := V.c0
 have v1 := V.c1
 have ltL := L.lt
 have ltM := M.lt
 have ltV := V.lt
 go_wp2_with fail
 refine (matches_i (okB_tm Hs1.out) (hr.below hB) (okB_tree Hs1.out) (rx.below hB) (ry.below hB) (wordB_ok Hs2.out)).mono ?_
 rintro x w3 ⟨rfl, hb⟩
 clear l0 l1 m0 m1 m2 v0 v1 ltL ltM ltV
 replace hB := Below.on hB hb hB.size
 replace L := L.below hb
 replace M := M.below hb
 replace V := V.below hb
 clear hb
 have szW3 := hB.size
 have l0 := L.c0
 have l1 := L.c1
 have m0 := M.c0
 have m1 := M.c1
 have m2 := M.c2
 have v0 := V.c0
 have v1 := V.c1
 have ltL := L.lt
 have ltM := M.lt
 have ltV := V.lt
 go_wp2_with fail
 go_ret2
 exact ⟨ret_bi (by simp [maR, Hs1.out, Hs2.out]) (by simp [maK, Hs1.out, Hs2.out]), hB⟩
set_option maxHeartbeats 4000000 in
theorem specMatches_i {t a k n : Int} {ks : List Ex} {xs ys : List Int} {s p q : Option Addr} {c pc qc : Nat} {w : World} (hr : Rd w (kidsD ks) (.slice s ks.length c)) (rx : Rd w (intsD xs) (.slice p xs.length pc)) (ry : Rd w (intsD ys) (.slice q ys.length qc)) (h1 : Ex.sizeL ks ≤ 1048576) :
  Calls Try.prog 12 #[.agg #[.int .i64 t, .int .i64 a], .agg #[.int .i64 k, .int .i64 n, .slice s ks.length c], .agg #[.slice p xs.length pc, .slice q ys.length qc]] w fun e w' => e = .returned (.tuple #[.bool (maR t a k n ks xs ys), .int .i64 (maK t a k n ks xs ys)]) ∧ Below w.heap.size w w' := by
 have Hsz : Hid (Ex.size (.mk k n ks) ≤ 1073741824) := by show _ ≤ _; rw [Ex.size_eq]; simp only [Ex.kids]; omega
 go_enter Try.func12, Try.ntmps12
 go_wp2_with fail
 have L := ((Blk.new2 w 34 (.int .i64 t) (.int .i64 a)).alloc (.cells #[.int .i64 k, .int .i64 n, .slice s ks.length c] 38)).alloc (.cells #[.slice p xs.length pc, .slice q ys.length qc] 40)
 have M := (Blk.new3 (w.alloc (.cells #[.int .i64 t, .int .i64 a] 34)) 38 (.int .i64 k) (.int .i64 n) (.slice s ks.length c)).alloc (.cells #[.slice p xs.length pc, .slice q ys.length qc] 40)
 simp at M
 have V := Blk.new2 ((w.alloc (.cells #[.int .i64 t, .int .i64 a] 34)).alloc (.cells #[.int .i64 k, .int .i64 n, .slice s ks.length c] 38)) 40 (.slice p xs.length pc) (.slice q ys.length qc)
 simp at V
 have hB : Below w.heap.size w (((w.alloc (.cells #[.int .i64 t, .int .i64 a] 34)).alloc (.cells #[.int .i64 k, .int .i64 n, .slice s ks.length c] 38)).alloc (.cells #[.slice p xs.length pc, .slice q ys.length qc] 40)) := by (repeat' first | exact Below.refl _ _ | assumption | apply Below.alloc | apply Below.drew | apply Below.setCell | omega | (simp; done) | (simp; omega))
 have hB0 := hB
 generalize (((w.alloc (.cells #[.int .i64 t, .int .i64 a] 34)).alloc (.cells #[.int .i64 k, .int .i64 n, .slice s ks.length c] 38)).alloc (.cells #[.slice p xs.length pc, .slice q ys.length qc] 40)) = v0 at L M V hB hB0 ⊢
 have l0 := L.c0
 have l1 := L.c1
 have m0 := M.c0
 have m1 := M.c1
 have m2 := M.c2
 have v0 := V.c0
 have v1 := V.c1
 have ltL := L.lt
 have ltM := M.lt
 have ltV := V.lt
 go_wp2_with fail
 refine (l01Ok_i (M.exAt (hr.below hB)) Hsz.out).mono ?_
 rintro x w1 ⟨rfl, hb⟩
 clear l0 l1 m0 m1 m2 v0 v1 ltL ltM ltV
 replace hB := Below.on hB hb hB.size
 replace L := L.below hb
 replace M := M.below hb
 replace V := V.below hb
 clear hb
 have szW1 := hB.size
 cases hs1 : okB t a (.mk k n ks)
 ·
  have l0 := L.c0
  have l1 := L.c1
  have ltL := L.lt
  have m0 := M.c0
  have m1 := M.c1
  have m2 := M.c2
  have ltM := M.lt
  have v0 := V.c0
  have v1 := V.c1
  have ltV := V.lt
  go_wp2_with fail
  go_ret2
  exact ⟨ret_bi (by simp [maR, hs1]) (by simp [maK, hs1]), hB⟩
 have Hs1 := Lib.hid hs1
 clear hs1
 have l0 := L.c0
 have l1 := L.c1
 have m0 := M.c0
 have m1 := M.c1
 have m2 := M.c2
 have v0 := V.c0
 have v1 := V.c1
 have ltL := L.lt
 have ltM := M.lt
 have ltV := V.lt
 go_wp2_with fail
 refine (l01Word_i (V.wdAt (rx.below hB) (ry.below hB))).mono ?_
 rintro x w2 ⟨rfl, hb⟩
 clear l0 l1 m0 m1 m2 v0 v1 ltL ltM ltV
 replace hB := Below.on hB hb hB.size
 replace L := L.below hb
 replace M := M.below hb
 replace V := V.below hb
 clear hb
 have szW2 := hB.size
 cases hs2 : wordB t a xs ys
 ·
  have l0 := L.c0
  have l1 := L.c1
  have ltL := L.lt
  have m0 := M.c0
  have m1 := M.c1
  have m2 := M.c2
  have ltM := M.lt
  have v0 := V.c0
  have v1 := V.c1
  have ltV := V.lt
  go_wp2_with fail
  go_ret2
  exact ⟨ret_bi (by simp [maR, Hs1.out, hs2]) (by simp [maK, Hs1.out, hs2]), hB⟩
 have Hs2 := Lib.hid hs2
 clear hs2
 have l0 := L.c0
 have l1 := L.c1
 have m0 := M.c0
 have m1 := M.c1
 have m2 := M.c2
 have v0 := V.c0
 have v1 := V.c1
 have ltL := L.lt
 have ltM := M.lt
 have ltV := V.lt
 go_wp2_with fail
 refine (l01Match_all (t - 1) (a - 1) (okB_tm Hs1.out) _ (.mk k n ks) _ _ xs ys _ _ _ (Nat.le_refl _) (M.exAt (hr.below hB)) (okB_tree Hs1.out) (V.wdAt (rx.below hB) (ry.below hB)) (wordB_ok Hs2.out)).mono ?_
 rintro x w3 ⟨rfl, hb⟩
 clear l0 l1 m0 m1 m2 v0 v1 ltL ltM ltV
 replace hB := Below.on hB hb hB.size
 replace L := L.below hb
 replace M := M.below hb
 replace V := V.below hb
 clear hb
 have szW3 := hB.size
 have l0 := L.c0
 have l1 := L.c1
 have m0 := M.c0
 have m1 := M.c1
 have m2 := M.c2
 have v0 := V.c0
 have v1 := V.c1
 have ltL := L.lt
 have ltM := M.lt
 have ltV := V.lt
 go_wp2_with fail
 go_ret2
 exact ⟨ret_bi (by simp [maR, Hs1.out, Hs2.out]) (by simp [maK, Hs1.out, Hs2.out]), hB⟩
end Go.Proofs.Ytbflhjjnemdecaa

namespace Go.Proofs.Ytbflhjjnemdecaa
set_option linter.unusedVariables false
set_option linter.unusedSimpArgs false
open Go.ChangeShapes Go.WideShapes Go.ChangeAt Go.RowKit
def Szd (n : Nat) (left : Int) (e : Ending) : Prop := ∃ r : Int, e = .returned (.int .i64 r) ∧ r ≤ left ∧ -1 ≤ r ∧ (0 ≤ r → (n : Int) + r ≤ left)
def SzS (N : Nat) : Prop := ∀ (ks : List Ex) (s : Option Addr) (cap : Nat) (left : Int) (w : World), Ex.sizeL ks ≤ N → Rd w (kidsD ks) (.slice s ks.length cap) → 0 ≤ left → left ≤ 1048576 →
  Calls Try.prog 48 #[.slice s ks.length cap, .int .i64 left] w fun e w' => Szd (Ex.sizeL ks) left e ∧ Below w.heap.size w w'
theorem szExpr_of {N : Nat} (hS : SzS N) (k n : Int) (ks : List Ex) (s : Option Addr) (cap : Nat) (left : Int) (w : World) (hN : Ex.sizeL ks ≤ N) (hr : Rd w (kidsD ks) (.slice s ks.length cap)) (h0 : 0 ≤ left) (h1 : left ≤ 1048576) :
  Calls Try.prog 10 #[.agg #[.int .i64 k, .int .i64 n, .slice s ks.length cap], .int .i64 left] w fun e w' => Szd (Ex.sizeL ks) left e ∧ Below w.heap.size w w' := by
 go_enter Try.func10, Try.ntmps10
 go_wp2_with fail
 refine (hS ks s cap left _ hN (hr.alloc _) h0 h1).mono ?_
 rintro e w1 ⟨⟨r, rfl, r1, r2, r3⟩, hb⟩
 have hB : Below w.heap.size w w1 := Below.on (by (repeat' first | exact Below.refl _ _ | assumption | apply Below.alloc | apply Below.drew | apply Below.setCell | omega | (simp; done) | (simp; omega))) hb (by simp)
 clear hb
 go_wp2
 ·
  go_ret
  exact ⟨⟨-1, rfl, by omega, by omega, by omega⟩, hB⟩
 ·
  go_ret
  exact ⟨⟨r, rfl, r1, r2, r3⟩, hB⟩
set_option maxHeartbeats 400000 in
theorem szExprS_all (N : Nat) : SzS N := by
 induction N using Nat.strongRecOn with
 | _ N ih =>
 intro ks s cap left w hN hr h0 h1
 obtain ⟨-, hlen, hcap, -, -⟩ := kid_at hr
 unfold maxLen at hcap
 have hsz := Ex.length_le_sizeL ks
 by_cases hneg : left - (ks.length : Int) < 0
 ·
  go_enter Try.func48, Try.ntmps48
  go_wp2_with fail
  go_ret
  exact ⟨⟨-1, rfl, by omega, by omega, by omega⟩, Below.refl _ _⟩
 ·
  have hd : decide (left - (ks.length : Int) < 0) = false := by simpa using hneg
  go_enter Try.func48, Try.ntmps48
  go_wp2_with fail
  go_loopw [1, 5] (fun l i wr => ∃ (k : Nat) (r : Int), k ≤ ks.length ∧ i = .int .i64 k ∧ l = .int .i64 r ∧ 0 ≤ r ∧ (ks.length : Int) + (Ex.sizeL (ks.take k) : Int) - k + r ≤ left ∧ r ≤ left ∧ Below w.heap.size w wr) (fun _ i _ => ks.length - (intOf i).toNat)
  case atStart => exact ⟨0, _, by omega, rfl, rfl, by omega, by simp [Ex.sizeL]; omega, by omega, Below.refl _ _⟩
  case round =>
   obtain ⟨k, r, hk, rfl, rfl, hr0, hr1, hr2, hB⟩ := hrel
   by_cases hlt : k < ks.length
   ·
    obtain ⟨e, he⟩ : ∃ e, ks[k]? = some e := ⟨_, List.getElem?_eq_getElem hlt⟩
    obtain ⟨b, o, rfl⟩ := kid_some hr (by intro h; simp [h] at hlt)
    obtain ⟨hbl, s', c', g0, g1, g2, gr⟩ := kid_in (hr.below hB) he
    have hse := Ex.size_eq e
    have hmem := Ex.sizeL_mem (List.mem_of_getElem? he)
    have htk := Ex.sizeL_take_succ he
    have Htk := Lib.hid htk
    have Hse := Lib.hid hse
    have hlt' : Ex.sizeL e.kids < N := by omega
    clear htk hse
    go_wp2_with fail
    refine (szExpr_of (ih _ hlt') _ _ _ _ _ _ _ (Nat.le_refl _) gr hr0 (by omega)).mono ?_
    rintro e1 w1 ⟨⟨r', rfl, r1, r2, r3⟩, hb⟩
    have hB1 : Below w.heap.size w w1 := Below.on hB hb hB.size
    by_cases hr' : r' < 0
    ·
     go_wp2_with fail
     go_ret
     exact ⟨⟨-1, rfl, by omega, by omega, by omega⟩, hB1⟩
    ·
     have hd' : decide (r' < 0) = false := by simpa using hr'
     go_wp2_with fail
     go_roundw
     case rel =>
      have := Htk.out
      have := Hse.out
      exact ⟨k + 1, r', by omega, by go_num, rfl, by omega, by omega, by omega, hB1⟩
     case measure => simp [intOf]; omega
   ·
    obtain rfl : k = ks.length := by omega
    have hfull : Ex.sizeL (ks.take ks.length) = Ex.sizeL ks := by rw [List.take_length]
    have H := Lib.hid hfull
    clear hfull
    go_wp2_with fail
    go_ret
    have := H.out
    exact ⟨⟨r, rfl, by omega, by omega, by omega⟩, hB⟩
theorem szExpr_i {k n : Int} {ks : List Ex} {s : Option Addr} {cap : Nat} {left : Int} {w : World} (hr : Rd w (kidsD ks) (.slice s ks.length cap)) (h0 : 0 ≤ left) (h1 : left ≤ 1048576) :
  Calls Try.prog 10 #[.agg #[.int .i64 k, .int .i64 n, .slice s ks.length cap], .int .i64 left] w fun e w' => Szd (Ex.sizeL ks) left e ∧ Below w.heap.size w w' :=
 szExpr_of (szExprS_all _) k n ks s cap left w (Nat.le_refl _) hr h0 h1
end Go.Proofs.Ytbflhjjnemdecaa

namespace Go.Proofs.Ytbflhjjnemdecaa
set_option linter.unusedVariables false
set_option linter.unusedSimpArgs false
open Go.ChangeShapes Go.WideShapes Go.ChangeAt Go.RowKit
theorem info_implExpr : (Try.prog.info? 38).map (fun i => (i.zero, i.size, i.bytes)) = some (some (.agg #[.int .i64 0, .int .i64 0, .slice none 0 0]), 3, 40) := by kernel_rfl
def ToS (N : Nat) : Prop := ∀ (ks : List Ex) (s : Option Addr) (cap : Nat) (w : World), Ex.sizeL ks ≤ N → Rd w (kidsD ks) (.slice s ks.length cap) → Ex.sizeL ks ≤ 1048576 →
  Calls Try.prog 53 #[.slice s ks.length cap] w fun e w' => ∃ s' c', e = .returned (.slice s' ks.length c') ∧ Fresh w w' (kidsD ks) (.slice s' ks.length c') ∧ Below w.heap.size w w'
theorem toExpr_of {N : Nat} (hS : ToS N) (k n : Int) (ks : List Ex) (s : Option Addr) (cap : Nat) (w : World) (hN : Ex.sizeL ks ≤ N) (hr : Rd w (kidsD ks) (.slice s ks.length cap)) (h1 : Ex.sizeL ks ≤ 1048576) :
  Calls Try.prog 14 #[.agg #[.int .i64 k, .int .i64 n, .slice s ks.length cap]] w fun e w' => ∃ s' c', e = .returned (.agg #[.int .i64 k, .int .i64 n, .slice s' ks.length c']) ∧ Fresh w w' (kidsD ks) (.slice s' ks.length c') ∧ Below w.heap.size w w' := by
 go_enter Try.func14, Try.ntmps14
 go_wp2_with fail
 refine (hS ks s cap _ hN (by repeat (first | exact hr | apply Rd.alloc)) h1).mono ?_
 rintro e w1 ⟨s', c', rfl, hfr, hb⟩
 obtain ⟨hc, hf, hz⟩ := bcell hb
 simp at hz
 have q0 : w.heap.size < w1.heap.size := by omega
 have q1 : w.heap.size + 1 < w1.heap.size := by omega
 have q2 : w.heap.size + 1 + 1 < w1.heap.size := by omega
 have hB : Below w.heap.size w w1 := Below.on (by (repeat' first | exact Below.refl _ _ | assumption | apply Below.alloc | apply Below.drew | apply Below.setCell | omega | (simp; done) | (simp; omega))) hb (by simp; omega)
 clear hb
 go_wp2
 refine bodyPost_ret (v := .agg #[.int .i64 k, .int .i64 n, .slice s' ks.length c']) (by simp [results, Try.results14, go_sem, hc]) rfl ⟨s', c', rfl, ?_, by (repeat' first | exact Below.refl _ _ | assumption | apply Below.alloc | apply Below.drew | apply Below.setCell | omega | (simp; done) | (simp; omega))⟩
 refine Fresh.from (hfr.keep fun b h1 _ => ?_) (by simp; omega)
 simp at h1
 rw [Below.heap_setCell _ _ _ _ (by simp; omega), Below.heap_setCell _ _ _ _ (by simp; omega), Below.heap_setCell _ _ _ _ (by simp; omega), Below.heap_setCell _ _ _ _ (by simp; omega)]
theorem toExprS_all (N : Nat) : ToS N := by
 induction N using Nat.strongRecOn with
 | _ N ih =>
 intro ks s cap w hN hr h1
 obtain ⟨-, hlen, hcap, -, -⟩ := kid_at hr
 unfold maxLen at hcap
 have hsz := Ex.length_le_sizeL ks
 obtain ⟨i0, hi, hz0, hz1, hz2⟩ := info_parts info_implExpr
 go_enter Try.func53, Try.ntmps53
 go_wp2_with (at_make; refine wpList_make_full _ rfl _ _ 36 rfl w.heap.size 38 i0 (.agg #[.int .i64 0, .int .i64 0, .slice none 0 0]) 3 Try.underlying36 hi hz0 hz1 .i64 .i64 _ _ ks.length rfl rfl rfl rfl (by rw [hz2]; omega) (by unfold maxLen; omega) (Nat.le_refl _) ?_; intro w0 hown hgrow)
 have hp := Part.start hown
 have hB0 : Below w.heap.size w w0 := Below.grown (Below.refl _ _) hgrow (Nat.le_refl _) (by simp)
 have hz0' := hp.lt
 clear hown hgrow
 go_loopw [4] (fun i wr => ∃ k : Nat, k ≤ ks.length ∧ i = .int .i64 k ∧ Part wr w.heap.size 38 (Ex.cellsL (ks.take k)) (ks.length * 3) ∧ Below w.heap.size w wr) (fun i _ => ks.length - (intOf i).toNat)
 case atStart => exact ⟨0, by omega, rfl, by simpa [Ex.cellsL] using hp, hB0⟩
 case round =>
  clear hp hB0 hz0'
  obtain ⟨k, hk, rfl, hp, hB⟩ := hrel
  by_cases hlt : k < ks.length
  ·
   obtain ⟨e, he⟩ : ∃ e, ks[k]? = some e := ⟨_, List.getElem?_eq_getElem hlt⟩
   obtain ⟨b, o, rfl⟩ := kid_some hr (by intro h; simp [h] at hlt)
   obtain ⟨hbl, s', c', g0, g1, g2, gr⟩ := kid_in (hr.below hB) he
   have hlt' : Ex.sizeL e.kids < N := by
    have := Ex.size_eq e
    have := Ex.sizeL_mem (List.mem_of_getElem? he)
    omega
   have hle : Ex.sizeL e.kids ≤ 1048576 := by
    have := Ex.size_eq e
    have := Ex.sizeL_mem (List.mem_of_getElem? he)
    omega
   go_wp2_with fail
   refine (toExpr_of (ih _ hlt') _ _ _ _ _ _ (Nat.le_refl _) gr hle).mono ?_
   rintro e1 w1 ⟨s2, c2, rfl, ⟨G, hG1, hG2, hG3⟩, hb⟩
   have hlt2 := hp.lt
   have hz := hb.size
   obtain ⟨y0, d0⟩ := (hp.below hb).cell (k * 3) (by omega)
   obtain ⟨y1, d1⟩ := (hp.below hb).cell (k * 3 + 1) (by omega)
   obtain ⟨y2, d2⟩ := (hp.below hb).cell (k * 3 + 2) (by omega)
   have z0 := (hp.below hb).frozen (k * 3)
   have z1 := (hp.below hb).frozen (k * 3 + 1)
   have z2 := (hp.below hb).frozen (k * 3 + 2)
   have hst := hp.step hb (Ows.three (k := e.kind) (n := e.num) hG1) hG2 hG3 (o := k * 3) (by rw [Ex.cellsL_length, List.length_take, Nat.min_eq_left hk]) (by simp; omega)
   rw [← Ex.cellsL_take_succ he] at hst
   have Hst : Hid (Part (((w1.setCell ⟨w.heap.size, k * 3, none⟩ (.int .i64 e.kind)).setCell ⟨w.heap.size, k * 3 + 1, none⟩ (.int .i64 e.num)).setCell ⟨w.heap.size, k * 3 + 2, none⟩ (.slice s2 e.kids.length c2)) w.heap.size 38 (Ex.cellsL (ks.take (k + 1))) (ks.length * 3)) := hst
   have hB1 : Below w.heap.size w w1 := Below.on hB hb (by omega)
   clear hst
   go_wp2_with fail
   go_roundw
   case rel => exact ⟨k + 1, by omega, by go_num, Hst.out, by (repeat' first | exact Below.refl _ _ | assumption | apply Below.alloc | apply Below.drew | apply Below.setCell | omega | (simp; done) | (simp; omega))⟩
   case measure => simp [intOf]; omega
  ·
   obtain rfl : k = ks.length := by omega
   rw [List.take_length] at hp
   go_wp2_with fail
   go_ret
   exact ⟨_, _, rfl, hp.done (Nat.le_refl _) (Ex.cellsL_length ks) (Nat.le_refl _) (by unfold maxLen; omega), hB⟩
theorem toExpr_any (k n : Int) (ks : List Ex) (s : Option Addr) (cap : Nat) (w : World) (hr : Rd w (kidsD ks) (.slice s ks.length cap)) (h1 : Ex.sizeL ks ≤ 1048576) :
  Calls Try.prog 14 #[.agg #[.int .i64 k, .int .i64 n, .slice s ks.length cap]] w fun e w' => ∃ s' c', e = .returned (.agg #[.int .i64 k, .int .i64 n, .slice s' ks.length c']) ∧ Fresh w w' (kidsD ks) (.slice s' ks.length c') ∧ Below w.heap.size w w' :=
 toExpr_of (toExprS_all _) k n ks s cap w (Nat.le_refl _) hr h1
theorem toExpr_i {k n : Int} {ks : List Ex} {s : Option Addr} {cap : Nat} {w : World} (hr : Rd w (kidsD ks) (.slice s ks.length cap)) (h1 : Ex.sizeL ks ≤ 1048576) :
  Calls Try.prog 14 #[.agg #[.int .i64 k, .int .i64 n, .slice s ks.length cap]] w fun e w' => ∃ s' c', e = .returned (.agg #[.int .i64 k, .int .i64 n, .slice s' ks.length c']) ∧ Freshs w w' [kidsD ks] [.slice s' ks.length c'] ∧ Below w.heap.size w w' :=
 (toExpr_any k n ks s cap w hr h1).mono fun _ _ ⟨s', c', he, hf, hb⟩ => ⟨s', c', he, Freshs.one hf, hb⟩
end Go.Proofs.Ytbflhjjnemdecaa

namespace Go.Proofs.Ytbflhjjnemdecaa
set_option linter.unusedVariables false
set_option linter.unusedSimpArgs false
open Go.ChangeShapes Go.WideShapes Go.ChangeAt Go.RowKit Go.Sort
def EqS (N : Nat) : Prop := ∀ (ks js : List Ex) (s t : Option Addr) (cap cap' : Nat) (w : World), Ex.sizeL ks ≤ N → Rd w (kidsD ks) (.slice s ks.length cap) → Rd w (kidsD js) (.slice t js.length cap') →
  Calls Try.prog 58 #[.slice s ks.length cap, .slice t js.length cap'] w fun e w' => e = .returned (.bool (eqb ks js)) ∧ Below w.heap.size w w'
theorem eqExpr_of {N : Nat} (hS : EqS N) (k n k' n' : Int) (ks js : List Ex) (s t : Option Addr) (cap cap' : Nat) (w : World) (hN : Ex.sizeL ks ≤ N) (hr : Rd w (kidsD ks) (.slice s ks.length cap)) (hr' : Rd w (kidsD js) (.slice t js.length cap')) :
  Calls Try.prog 17 #[.agg #[.int .i64 k, .int .i64 n, .slice s ks.length cap], .agg #[.int .i64 k', .int .i64 n', .slice t js.length cap']] w fun e w' => e = .returned (.bool (eqb (Ex.mk k n ks) (Ex.mk k' n' js))) ∧ Below w.heap.size w w' := by
 by_cases h1 : k = k'
 ·
  subst h1
  by_cases h2 : n = n'
  ·
   subst h2
   have b1 : (k != k) = false := by simp
   have b2 : (n != n) = false := by simp
   have e1 : eqb (Ex.mk k n ks) (Ex.mk k n js) = eqb ks js := by
    by_cases h : ks = js
    ·
     rw [eqb_true h, eqb_true (by rw [h])]
    ·
     rw [eqb_false h, eqb_false (by simp [h])]
   rw [e1]
   clear e1
   go_enter Try.func17, Try.ntmps17
   go_wp2_with fail
   refine (hS ks js s t cap cap' _ hN (by repeat (first | exact hr | apply Rd.alloc)) (by repeat (first | exact hr' | apply Rd.alloc))).mono ?_
   rintro e w1 ⟨rfl, hb⟩
   have hB : Below w.heap.size w w1 := Below.on (by (repeat' first | exact Below.refl _ _ | assumption | apply Below.alloc | apply Below.drew | apply Below.setCell | omega | (simp; done) | (simp; omega))) hb (by simp; omega)
   clear hb
   go_wp2
   all_goals go_ret
   all_goals exact ⟨by simp_all, hB⟩
  ·
   have b1 : (k != k) = false := by simp
   have b2 : (n != n') = true := by simp [h2]
   have e1 : eqb (Ex.mk k n ks) (Ex.mk k n' js) = false := eqb_false (by simp [h2])
   rw [e1]
   go_enter Try.func17, Try.ntmps17
   go_wp2_with fail
   go_ret
   exact ⟨rfl, by (repeat' first | exact Below.refl _ _ | assumption | apply Below.alloc | apply Below.drew | apply Below.setCell | omega | (simp; done) | (simp; omega))⟩
 ·
  have b1 : (k != k') = true := by simp [h1]
  have e1 : eqb (Ex.mk k n ks) (Ex.mk k' n' js) = false := eqb_false (by simp [h1])
  rw [e1]
  go_enter Try.func17, Try.ntmps17
  go_wp2_with fail
  go_ret
  exact ⟨rfl, by (repeat' first | exact Below.refl _ _ | assumption | apply Below.alloc | apply Below.drew | apply Below.setCell | omega | (simp; done) | (simp; omega))⟩
theorem eqExprS_all (N : Nat) : EqS N := by
 induction N using Nat.strongRecOn with
 | _ N ih =>
 intro ks js s t cap cap' w hN hr hr'
 obtain ⟨-, hlen, hcap, -, -⟩ := kid_at hr
 obtain ⟨-, hlen', hcap', -, -⟩ := kid_at hr'
 unfold maxLen at hcap hcap'
 by_cases hl : ks.length = js.length
 ·
  have b1 : ((ks.length : Int) != (js.length : Int)) = false := by simp [hl]
  have Hl := Lib.hid hl
  clear hl
  go_enter Try.func58, Try.ntmps58
  go_wp2_with fail
  go_loopw [5] (fun i wr => ∃ k : Nat, k ≤ ks.length ∧ i = .int .i64 k ∧ ks.take k = js.take k ∧ Below w.heap.size w wr) (fun i _ => ks.length - (intOf i).toNat)
  case atStart => exact ⟨0, by omega, rfl, by simp, Below.refl _ _⟩
  case round =>
   obtain ⟨k, hk, rfl, hpre, hB⟩ := hrel
   have Hpre := Lib.hid hpre
   clear hpre
   by_cases hlt : k < ks.length
   ·
    have hlt' : k < js.length := by have := Hl.out; omega
    obtain ⟨e, he⟩ : ∃ e, ks[k]? = some e := ⟨_, List.getElem?_eq_getElem hlt⟩
    obtain ⟨f, hf⟩ : ∃ e, js[k]? = some e := ⟨_, List.getElem?_eq_getElem hlt'⟩
    obtain ⟨b, o, rfl⟩ := kid_some hr (by intro h; simp [h] at hlt)
    obtain ⟨c, p, rfl⟩ := kid_some hr' (by intro h; simp [h] at hlt')
    obtain ⟨-, s', c', g0, g1, g2, gr⟩ := kid_in (hr.below hB) he
    obtain ⟨-, t', d', k0, k1, k2, kr⟩ := kid_in (hr'.below hB) hf
    have hltN : Ex.sizeL e.kids < N := by
     have := Ex.size_eq e
     have := Ex.sizeL_mem (List.mem_of_getElem? he)
     omega
    have ha := Int.natCast_nonneg k
    have hb : (k : Int) < (ks.length : Int) := by omega
    have hb' : (k : Int) < (js.length : Int) := by omega
    have i0 := fun d os => cell_regrown g0 d os
    have i1 := fun d os => cell_regrown g1 d os
    have i2 := fun d os => cell_regrown g2 d os
    have j0 := fun d os => cell_regrown k0 d os
    have j1 := fun d os => cell_regrown k1 d os
    have j2 := fun d os => cell_regrown k2 d os
    clear g0 g1 g2 k0 k1 k2
    go_wp2_with fail
    refine Go.wp_region_quiet_below (by kernel_rfl) (by kernel_rfl) ?_
    repeat (quiet_step (exact Calls.regrown_of (eqExpr_of (ih _ hltN) _ _ _ _ _ _ _ _ _ _ _ (Nat.le_refl _) (gr.below (below_regrown _ _ _)) (kr.below (below_regrown _ _ _)))))
    refine wpQuiet_nil ?_; intro _ hw'; obtain ⟨⟨dq, osq⟩, hw''⟩ := hw'; subst hw''; have hq := below_regrown wr dq osq; revert hq; generalize grow (redrawn wr dq) osq = w1; intro hq
    have hB1 : Below w.heap.size w w1 := Below.on hB hq hB.size
    clear hq i0 i1 i2 j0 j1 j2
    by_cases hef : e = f
    ·
     have c1 : eqb (Ex.mk e.kind e.num e.kids) (Ex.mk f.kind f.num f.kids) = true := eqb_true (by rw [hef])
     have Hst : Hid (ks.take (k + 1) = js.take (k + 1)) := by
      have h1 := List.getElem?_eq_some_iff.1 he
      have h2 := List.getElem?_eq_some_iff.1 hf
      show _ = _
      rw [List.take_succ_eq_append_getElem hlt, List.take_succ_eq_append_getElem hlt', Hpre.out, h1.2, h2.2, hef]
     clear hef
     simp only [c1, Bool.not_true]
     go_wp2_with fail
     go_roundw
     case rel => exact ⟨k + 1, by omega, by go_num, Hst.out, hB1⟩
     case measure => simp [intOf]; omega
    ·
     have c1 : eqb (Ex.mk e.kind e.num e.kids) (Ex.mk f.kind f.num f.kids) = false := eqb_false (by rw [← Ex.eta, ← Ex.eta]; exact hef)
     have c2 : eqb ks js = false := eqb_false (by
      intro h
      rw [h] at he
      exact hef (Option.some.inj (he.symm.trans hf)))
     simp only [c1, Bool.not_false]
     go_wp2_with fail
     go_ret
     exact ⟨by first | rfl | (rw [c2]; rfl), hB1⟩
   ·
    obtain rfl : k = ks.length := by omega
    have c2 : eqb ks js = true := eqb_true (by
     have := Hpre.out
     rwa [List.take_length, Hl.out, List.take_length] at this)
    go_wp2_with fail
    go_ret
    exact ⟨by first | rfl | (rw [c2]; rfl), hB⟩
 ·
  have b1 : ((ks.length : Int) != (js.length : Int)) = true := by simp; omega
  have c2 : eqb ks js = false := eqb_false (by intro h; rw [h] at hl; exact hl rfl)
  go_enter Try.func58, Try.ntmps58
  go_wp2_with fail
  go_ret
  exact ⟨by first | rfl | (rw [c2]; rfl), Below.refl _ _⟩
theorem eqExpr_i {k n k' n' : Int} {ks js : List Ex} {s t : Option Addr} {cap cap' : Nat} {w : World} (hr : Rd w (kidsD ks) (.slice s ks.length cap)) (hr' : Rd w (kidsD js) (.slice t js.length cap')) :
  Calls Try.prog 17 #[.agg #[.int .i64 k, .int .i64 n, .slice s ks.length cap], .agg #[.int .i64 k', .int .i64 n', .slice t js.length cap']] w fun e w' => e = .returned (.bool (eqb (Ex.mk k n ks) (Ex.mk k' n' js))) ∧ Below w.heap.size w w' :=
 eqExpr_of (eqExprS_all _) k n k' n' ks js s t cap cap' w (Nat.le_refl _) hr hr'
end Go.Proofs.Ytbflhjjnemdecaa

namespace Go.Proofs.Ytbflhjjnemdecaa
set_option linter.unusedVariables false
set_option linter.unusedSimpArgs false
open Go.ChangeShapes Go.WideShapes Go.ChangeAt Go.RowKit
set_option maxRecDepth 100000 in
set_option maxHeartbeats 4000000 in
theorem law_Matches (t0 a0 : Int) (k1 n1 : Int) (ks1 : List Ex) (s1 : Option Addr) (c1 : Nat) (xs2 ys2 : List Int) (s2 : Option Addr) (c2 : Nat) (t2 : Option Addr) (d2 : Nat) (w : World) (hr1 : Rd w (kidsD ks1) (.slice s1 ks1.length c1)) (hr2 : Rd w (intsD xs2) (.slice s2 xs2.length c2)) (hq2 : Rd w (intsD ys2) (.slice t2 ys2.length d2)) :
  Calls Try.prog 3 #[.agg #[.int .i64 t0, .int .i64 a0], .agg #[.int .i64 k1, .int .i64 n1, .slice s1 ks1.length c1], .agg #[.slice s2 xs2.length c2, .slice t2 ys2.length d2]] w fun e w' => e = .returned (.bool true) ∧ Below w.heap.size w w' := by
 have ef1 : eqb (Ex.mk k1 n1 ks1) (Ex.mk k1 n1 ks1) = true := by simp [eqb_true]
 have ef2 : (eqb xs2 xs2 && eqb ys2 ys2) = true := by simp [eqb_true]
 go_enter Try.func3, Try.ntmps3
 go_wp2_with fail
 have L0 := ((Blk.new2 w 23 (.int .i64 t0) (.int .i64 a0)).alloc (.cells #[.int .i64 k1, .int .i64 n1, .slice s1 ks1.length c1] 26)).alloc (.cells #[.slice s2 xs2.length c2, .slice t2 ys2.length d2] 29)
 have L1 := (Blk.new3 (w.alloc (.cells #[.int .i64 t0, .int .i64 a0] 23)) 26 (.int .i64 k1) (.int .i64 n1) (.slice s1 ks1.length c1)).alloc (.cells #[.slice s2 xs2.length c2, .slice t2 ys2.length d2] 29)
 simp at L1
 have L2 := Blk.new2 ((w.alloc (.cells #[.int .i64 t0, .int .i64 a0] 23)).alloc (.cells #[.int .i64 k1, .int .i64 n1, .slice s1 ks1.length c1] 26)) 29 (.slice s2 xs2.length c2) (.slice t2 ys2.length d2)
 simp at L2
 refine (szExpr_i (by repeat (first | exact hr1 | apply Rd.alloc)) (by omega) (by omega)).mono ?_
 rintro e w1 ⟨⟨r1, rfl, ra1, rb1, rc1⟩, hb⟩
 replace L0 := L0.below hb
 replace L1 := L1.below hb
 replace L2 := L2.below hb
 have hB : Below w.heap.size w w1 := Below.on (by (repeat' first | exact Below.refl _ _ | assumption | apply Below.alloc | apply Below.drew | apply Below.setCell | omega | (simp; done) | (simp; omega))) hb (by simp <;> omega)
 have l0c0 := L0.c0
 have l0c1 := L0.c1
 have ltL0 := L0.lt
 have l1c0 := L1.c0
 have l1c1 := L1.c1
 have l1c2 := L1.c2
 have ltL1 := L1.lt
 have l2c0 := L2.c0
 have l2c1 := L2.c1
 have ltL2 := L2.lt
 clear hb
 by_cases hneg1 : r1 < 0
 ·
  go_wp2_with fail
  go_ret
  exact ⟨rfl, hB⟩
 have hd1 : decide (r1 < 0) = false := by simpa using hneg1
 have rd1 := rc1 (by omega)
 clear rc1
 go_wp2_with fail
 refine (szWord_i (hr2.below hB) (hq2.below hB) (by omega) (by omega)).mono ?_
 rintro e w2 ⟨⟨r2, rfl, ra2, rb2, rc2⟩, hb⟩
 clear l0c0 l0c1 ltL0 l1c0 l1c1 l1c2 ltL1 l2c0 l2c1 ltL2
 replace L0 := L0.below hb
 replace L1 := L1.below hb
 replace L2 := L2.below hb
 replace hB := Below.on hB hb hB.size
 have l0c0 := L0.c0
 have l0c1 := L0.c1
 have ltL0 := L0.lt
 have l1c0 := L1.c0
 have l1c1 := L1.c1
 have l1c2 := L1.c2
 have ltL1 := L1.lt
 have l2c0 := L2.c0
 have l2c1 := L2.c1
 have ltL2 := L2.lt
 clear hb
 by_cases hneg2 : r2 < 0
 ·
  go_wp2_with fail
  go_ret
  exact ⟨rfl, hB⟩
 have hd2 : decide (r2 < 0) = false := by simpa using hneg2
 have rd2 := rc2 (by omega)
 clear rc2
 have hsz1 : Ex.sizeL ks1 ≤ 1048576 := by omega
 have hsz2 : xs2.length + ys2.length ≤ 1048576 := by omega
 -- wa
 go_wp2_with fail
 go_region_held3 (fun w' => (∀ b o, b < w2.heap.size → w'.cell? ⟨b, o, none⟩ = w2.cell? ⟨b, o, none⟩) ∧ Below w2.heap.size w2 w')
  (first | exact kp_drew w2 | exact kp_on ‹_› hb)
  (first
   | (go_at_call 13; ((with_reducible refine (toSig_any t0 a0 _).mono ?_); rintro e wa0 ⟨rfl, hb⟩))
   | (go_at_call 14; have hK := ‹(∀ b o, b < w2.heap.size → _) ∧ Below w2.heap.size w2 _›; ((with_reducible refine (toExpr_i (hr1.below (Below.on hB hK.2 hB.size)) hsz1).mono ?_); rintro e wa1 ⟨sxwa1, cxwa1, rfl, hfwa1, hb⟩))
   | (go_at_call 15; have hK := ‹(∀ b o, b < w2.heap.size → _) ∧ Below w2.heap.size w2 _›; ((with_reducible refine (toWord_i (hr2.below (Below.on hB hK.2 hB.size)) (hq2.below (Below.on hB hK.2 hB.size)) hsz2).mono ?_); rintro e wa2 ⟨sxwa2, cxwa2, txwa2, dxwa2, rfl, hfwa2, hb⟩; replace hfwa1 := hfwa1.on hb))
   | (go_at_call 12; have hK := ‹(∀ b o, b < w2.heap.size → _) ∧ Below w2.heap.size w2 _›; ((with_reducible refine (specMatches_i (hfwa1.rds.one) (hfwa2.rds.two.1) (hfwa2.rds.two.2) hsz1).mono ?_); rintro e waz ⟨rfl, hb⟩)))
 have hK := ‹(∀ b o, b < w2.heap.size → _) ∧ Below w2.heap.size w2 _›
 clear l0c0 l0c1 ltL0 l1c0 l1c1 l1c2 ltL1 l2c0 l2c1 ltL2
 replace L0 := L0.below hK.2
 replace L1 := L1.below hK.2
 replace L2 := L2.below hK.2
 replace hB := Below.on hB hK.2 hB.size
 have l0c0 := L0.c0
 have l0c1 := L0.c1
 have ltL0 := L0.lt
 have l1c0 := L1.c0
 have l1c1 := L1.c1
 have l1c2 := L1.c2
 have ltL1 := L1.lt
 have l2c0 := L2.c0
 have l2c1 := L2.c1
 have ltL2 := L2.lt
 clear hK
 go_wp2_with fail
 refine (toExpr_i (hr1.below hB) hsz1).mono ?_
 rintro e wx1 ⟨sxx1, cxx1, rfl, hfx1, hb⟩
 clear l0c0 l0c1 ltL0 l1c0 l1c1 l1c2 ltL1 l2c0 l2c1 ltL2
 replace L0 := L0.below hb
 replace L1 := L1.below hb
 replace L2 := L2.below hb
 replace hB := Below.on hB hb hB.size
 have l0c0 := L0.c0
 have l0c1 := L0.c1
 have ltL0 := L0.lt
 have l1c0 := L1.c0
 have l1c1 := L1.c1
 have l1c2 := L1.c2
 have ltL1 := L1.lt
 have l2c0 := L2.c0
 have l2c1 := L2.c1
 have ltL2 := L2.lt
 clear hb
 go_wp2_with fail
 have X1 := Blk.new3 wx1 38 (.int .i64 k1) (.int .i64 n1) (.slice sxx1 ks1.length cxx1)
 clear l0c0 l0c1 ltL0 l1c0 l1c1 l1c2 ltL1 l2c0 l2c1 ltL2
 replace L0 := L0.alloc (.cells #[.int .i64 k1, .int .i64 n1, .slice sxx1 ks1.length cxx1] 38)
 replace L1 := L1.alloc (.cells #[.int .i64 k1, .int .i64 n1, .slice sxx1 ks1.length cxx1] 38)
 replace L2 := L2.alloc (.cells #[.int .i64 k1, .int .i64 n1, .slice sxx1 ks1.length cxx1] 38)
 replace hfx1 := hfx1.on (Below.alloc (Below.refl _ _) (Nat.le_refl _) (.cells #[.int .i64 k1, .int .i64 n1, .slice sxx1 ks1.length cxx1] 38))
 replace hB := hB.alloc hB.size (.cells #[.int .i64 k1, .int .i64 n1, .slice sxx1 ks1.length cxx1] 38)
 generalize wx1.alloc (.cells #[.int .i64 k1, .int .i64 n1, .slice sxx1 ks1.length cxx1] 38) = wb1 at L0 L1 L2 hfx1 X1 hB ⊢
 have l0c0 := L0.c0
 have l0c1 := L0.c1
 have ltL0 := L0.lt
 have l1c0 := L1.c0
 have l1c1 := L1.c1
 have l1c2 := L1.c2
 have ltL1 := L1.lt
 have l2c0 := L2.c0
 have l2c1 := L2.c1
 have ltL2 := L2.lt
 have x1c0 := X1.c0
 have x1c1 := X1.c1
 have x1c2 := X1.c2
 have ltX1 := X1.lt
 go_wp2_with fail
 refine (toWord_i (hr2.below hB) (hq2.below hB) hsz2).mono ?_
 rintro e wx2 ⟨sxx2, cxx2, txx2, dxx2, rfl, hfx2, hb⟩
 clear l0c0 l0c1 ltL0 l1c0 l1c1 l1c2 ltL1 l2c0 l2c1 ltL2 x1c0 x1c1 x1c2 ltX1
 replace L0 := L0.below hb
 replace L1 := L1.below hb
 replace L2 := L2.below hb
 replace hfx1 := hfx1.on hb
 replace X1 := X1.below hb
 replace hB := Below.on hB hb hB.size
 have l0c0 := L0.c0
 have l0c1 := L0.c1
 have ltL0 := L0.lt
 have l1c0 := L1.c0
 have l1c1 := L1.c1
 have l1c2 := L1.c2
 have ltL1 := L1.lt
 have l2c0 := L2.c0
 have l2c1 := L2.c1
 have ltL2 := L2.lt
 have x1c0 := X1.c0
 have x1c1 := X1.c1
 have x1c2 := X1.c2
 have ltX1 := X1.lt
 clear hb
 go_wp2_with fail
 have X2 := Blk.new2 wx2 40 (.slice sxx2 xs2.length cxx2) (.slice txx2 ys2.length dxx2)
 clear l0c0 l0c1 ltL0 l1c0 l1c1 l1c2 ltL1 l2c0 l2c1 ltL2 x1c0 x1c1 x1c2 ltX1
 replace L0 := L0.alloc (.cells #[.slice sxx2 xs2.length cxx2, .slice txx2 ys2.length dxx2] 40)
 replace L1 := L1.alloc (.cells #[.slice sxx2 xs2.length cxx2, .slice txx2 ys2.length dxx2] 40)
 replace L2 := L2.alloc (.cells #[.slice sxx2 xs2.length cxx2, .slice txx2 ys2.length dxx2] 40)
 replace hfx1 := hfx1.on (Below.alloc (Below.refl _ _) (Nat.le_refl _) (.cells #[.slice sxx2 xs2.length cxx2, .slice txx2 ys2.length dxx2] 40))
 replace X1 := X1.alloc (.cells #[.slice sxx2 xs2.length cxx2, .slice txx2 ys2.length dxx2] 40)
 replace hfx2 := hfx2.on (Below.alloc (Below.refl _ _) (Nat.le_refl _) (.cells #[.slice sxx2 xs2.length cxx2, .slice txx2 ys2.length dxx2] 40))
 replace hB := hB.alloc hB.size (.cells #[.slice sxx2 xs2.length cxx2, .slice txx2 ys2.length dxx2] 40)
 generalize wx2.alloc (.cells #[.slice sxx2 xs2.length cxx2, .slice txx2 ys2.length dxx2] 40) = wb2 at L0 L1 L2 hfx1 X1 hfx2 X2 hB ⊢
 have l0c0 := L0.c0
 have l0c1 := L0.c1
 have ltL0 := L0.lt
 have l1c0 := L1.c0
 have l1c1 := L1.c1
 have l1c2 := L1.c2
 have ltL1 := L1.lt
 have l2c0 := L2.c0
 have l2c1 := L2.c1
 have ltL2 := L2.lt
 have x1c0 := X1.c0
 have x1c1 := X1.c1
 have x1c2 := X1.c2
 have ltX1 := X1.lt
 have x2c0 := X2.c0
 have x2c1 := X2.c1
 have ltX2 := X2.lt
 -- wi
 go_wp2_with fail
 go_region_held3 (fun w' => (∀ b o, b < wb2.heap.size → w'.cell? ⟨b, o, none⟩ = wb2.cell? ⟨b, o, none⟩) ∧ Below wb2.heap.size wb2 w')
  (first | exact kp_drew wb2 | exact kp_on ‹_› hb)
  (first
   | (go_at_call 13; ((with_reducible refine (toSig_any t0 a0 _).mono ?_); rintro e wi0 ⟨rfl, hb⟩))
   | (go_at_call 16; have hK := ‹(∀ b o, b < wb2.heap.size → _) ∧ Below wb2.heap.size wb2 _›; ((with_reducible refine (implMatches_i (hfx1.rds.one.below hK.2) (hfx2.rds.two.1.below hK.2) (hfx2.rds.two.2.below hK.2)).mono ?_); rintro e wiz ⟨rfl, hb⟩)))
 have hK := ‹(∀ b o, b < wb2.heap.size → _) ∧ Below wb2.heap.size wb2 _›
 clear l0c0 l0c1 ltL0 l1c0 l1c1 l1c2 ltL1 l2c0 l2c1 ltL2 x1c0 x1c1 x1c2 ltX1 x2c0 x2c1 ltX2
 replace L0 := L0.below hK.2
 replace L1 := L1.below hK.2
 replace L2 := L2.below hK.2
 replace hfx1 := hfx1.on hK.2
 replace X1 := X1.below hK.2
 replace hfx2 := hfx2.on hK.2
 replace X2 := X2.below hK.2
 replace hB := Below.on hB hK.2 hB.size
 have l0c0 := L0.c0
 have l0c1 := L0.c1
 have ltL0 := L0.lt
 have l1c0 := L1.c0
 have l1c1 := L1.c1
 have l1c2 := L1.c2
 have ltL1 := L1.lt
 have l2c0 := L2.c0
 have l2c1 := L2.c1
 have ltL2 := L2.lt
 have x1c0 := X1.c0
 have x1c1 := X1.c1
 have x1c2 := X1.c2
 have ltX1 := X1.lt
 have x2c0 := X2.c0
 have x2c1 := X2.c1
 have ltX2 := X2.lt
 clear hK
 go_wp2_with fail
 -- is the copy 1 as it was?
 go_region_held3 (fun w' => (∀ b o, b < wiz.heap.size → w'.cell? ⟨b, o, none⟩ = wiz.cell? ⟨b, o, none⟩) ∧ Below wiz.heap.size wiz w')
  (first | exact kp_drew wiz | exact kp_on ‹_› hb)
  (first
   | (go_at_call 14; have hK := ‹(∀ b o, b < wiz.heap.size → _) ∧ Below wiz.heap.size wiz _›; ((with_reducible refine (toExpr_i (hr1.below (Below.on hB hK.2 hB.size)) hsz1).mono ?_); rintro e wy1 ⟨sxy1, cxy1, rfl, hfy1, hb⟩))
   | (go_at_call 17; have hK := ‹(∀ b o, b < wiz.heap.size → _) ∧ Below wiz.heap.size wiz _›; ((with_reducible refine (eqExpr_i ((hfx1.rds.one).below hK.2) (hfy1.rds.one)).mono ?_); rintro e wz1 ⟨rfl, hb⟩)))
 have hK := ‹(∀ b o, b < wiz.heap.size → _) ∧ Below wiz.heap.size wiz _›
 clear l0c0 l0c1 ltL0 l1c0 l1c1 l1c2 ltL1 l2c0 l2c1 ltL2 x1c0 x1c1 x1c2 ltX1 x2c0 x2c1 ltX2
 replace L0 := L0.below hK.2
 replace L1 := L1.below hK.2
 replace L2 := L2.below hK.2
 replace hfx1 := hfx1.on hK.2
 replace X1 := X1.below hK.2
 replace hfx2 := hfx2.on hK.2
 replace X2 := X2.below hK.2
 replace hB := Below.on hB hK.2 hB.size
 have l0c0 := L0.c0
 have l0c1 := L0.c1
 have ltL0 := L0.lt
 have l1c0 := L1.c0
 have l1c1 := L1.c1
 have l1c2 := L1.c2
 have ltL1 := L1.lt
 have l2c0 := L2.c0
 have l2c1 := L2.c1
 have ltL2 := L2.lt
 have x1c0 := X1.c0
 have x1c1 := X1.c1
 have x1c2 := X1.c2
 have ltX1 := X1.lt
 have x2c0 := X2.c0
 have x2c1 := X2.c1
 have ltX2 := X2.lt
 clear hK
 try simp only [ef1, Bool.not_true]
 go_wp2_with fail
 -- is the copy 2 as it was?
 go_region_held3 (fun w' => (∀ b o, b < wz1.heap.size → w'.cell? ⟨b, o, none⟩ = wz1.cell? ⟨b, o, none⟩) ∧ Below wz1.heap.size wz1 w')
  (first | exact kp_drew wz1 | exact kp_on ‹_› hb)
  (first
   | (go_at_call 15; have hK := ‹(∀ b o, b < wz1.heap.size → _) ∧ Below wz1.heap.size wz1 _›; ((with_reducible refine (toWord_i (hr2.below (Below.on hB hK.2 hB.size)) (hq2.below (Below.on hB hK.2 hB.size)) hsz2).mono ?_); rintro e wy2 ⟨sxy2, cxy2, txy2, dxy2, rfl, hfy2, hb⟩))
   | (go_at_call 18; have hK := ‹(∀ b o, b < wz1.heap.size → _) ∧ Below wz1.heap.size wz1 _›; ((with_reducible refine (eqWord_i ((hfx2.rds.two.1).below hK.2) ((hfx2.rds.two.2).below hK.2) (hfy2.rds.two.1) (hfy2.rds.two.2)).mono ?_); rintro e wz2 ⟨rfl, hb⟩)))
 have hK := ‹(∀ b o, b < wz1.heap.size → _) ∧ Below wz1.heap.size wz1 _›
 clear l0c0 l0c1 ltL0 l1c0 l1c1 l1c2 ltL1 l2c0 l2c1 ltL2 x1c0 x1c1 x1c2 ltX1 x2c0 x2c1 ltX2
 replace L0 := L0.below hK.2
 replace L1 := L1.below hK.2
 replace L2 := L2.below hK.2
 replace hfx1 := hfx1.on hK.2
 replace X1 := X1.below hK.2
 replace hfx2 := hfx2.on hK.2
 replace X2 := X2.below hK.2
 replace hB := Below.on hB hK.2 hB.size
 have l0c0 := L0.c0
 have l0c1 := L0.c1
 have ltL0 := L0.lt
 have l1c0 := L1.c0
 have l1c1 := L1.c1
 have l1c2 := L1.c2
 have ltL1 := L1.lt
 have l2c0 := L2.c0
 have l2c1 := L2.c1
 have ltL2 := L2.lt
 have x1c0 := X1.c0
 have x1c1 := X1.c1
 have x1c2 := X1.c2
 have ltX1 := X1.lt
 have x2c0 := X2.c0
 have x2c1 := X2.c1
 have ltX2 := X2.lt
 clear hK
 try simp only [ef2, Bool.not_true]
 go_wp2_with fail
 go_ret
 exact ⟨rfl, hB⟩
set_option maxRecDepth 100000 in
theorem law_Matches_of {H : Type} {enc : TypeId × Value → H} (W : World) (args : Array Value) (ds : List (DataW H)) (ps : List MemPlace) (hA : DataW.TrodAll enc Try.prog W 0 (fun _ => true) true Try.f3.params.toList args.toList ds ps)
  (hval : ∀ (j : Nat) t v, Try.f3.params[j]? = some t → args[j]? = some v → ∃ base, Value.okWide Try.prog W .any base t v) :
  Calls Try.prog 3 args W fun e W' => e = .returned (.bool true) ∧ Below W.heap.size W W' := by
 rw [Try.params3] at hA hval
 obtain ⟨v0, vs0, d0', ds0, p0, q0, hargs, rfl, rfl, h0, ra0⟩ := trodAll_cons hA
 obtain ⟨v1, vs1, d1', ds1, p1, q1, rfl, rfl, rfl, h1, ra1⟩ := trodAll_cons ra0
 obtain ⟨v2, vs2, d2', ds2, p2, q2, rfl, rfl, rfl, h2, ra2⟩ := trodAll_cons ra1
 obtain ⟨rfl, rfl, rfl⟩ := trodAll_nil ra2
 obtain rfl : args = #[v0, v1, v2] := Array.toList_inj.1 hargs
 obtain ⟨t0, a0, rfl⟩ := open_lawsSig h0
 obtain ⟨k1, n1, ks1, s1, c1, rfl, hr1⟩ := open_lawsExpr h1
 obtain ⟨xs2, ys2, s2, c2, t2, d2, rfl, hr2, hq2⟩ := open_lawsWord h2
 exact law_Matches t0 a0 k1 n1 ks1 s1 c1 xs2 ys2 s2 c2 t2 d2 W hr1 hr2 hq2
end Go.Proofs.Ytbflhjjnemdecaa
