/-
  ReverseExpr of both.
-/
import Derived.Test.YtjjcidfpjgmgcaaTurn2
namespace Go.Proofs.Ytjjcidfpjgmgcaa
open Go.ChangeShapes Go.WideShapes Go.ChangeAt Go.RowKit Go.Deep Go.Sort

mutual
theorem Ex.rev_size : ∀ e : Ex, e.rev.size = e.size
  | .mk k n ks => by
    simp only [Ex.rev, Ex.size]
    split
    · rw [Ex.sizeL_reverse, Ex.revL_size ks]
    · rw [Ex.revL_size ks]
theorem Ex.revL_size : ∀ ks : List Ex, Ex.sizeL (Ex.revL ks) = Ex.sizeL ks
  | [] => rfl
  | e :: r => by simp only [Ex.revL, Ex.sizeL, Ex.rev_size e, Ex.revL_size r]
theorem Ex.sizeL_reverse : ∀ ks : List Ex, Ex.sizeL ks.reverse = Ex.sizeL ks
  | [] => rfl
  | e :: r => by simp only [List.reverse_cons, Ex.sizeL_append, Ex.sizeL_reverse r, Ex.sizeL]; omega
end
def Ex.zero : Ex := .mk 0 0 []
def revE (t a k n : Int) (ks : List Ex) : Ex := if okB t a (.mk k n ks) = true then Ex.rev (.mk k n ks) else Ex.zero
def revEK (t a k n : Int) (ks : List Ex) : Int := if okB t a (.mk k n ks) = true then 0 else 1
theorem revE_size (t a k n : Int) (ks : List Ex) : Ex.sizeL (revE t a k n ks).kids ≤ Ex.sizeL ks := by
  unfold revE
  split
  · have h1 := Ex.rev_size (.mk k n ks)
    have h2 := Ex.size_eq (Ex.rev (.mk k n ks))
    have h3 : (Ex.mk k n ks).size = 1 + Ex.sizeL ks := by simp only [Ex.size]
    omega
  · simp [Ex.zero, Ex.kids, Ex.sizeL]
theorem fresh_nil1 (w w' : World) : Freshs w w' [kidsD []] [.slice none 0 0] :=
  Freshs.one ⟨[], by simp only [kidsD, Ow]; exact ⟨none, 0, rfl, by simp, by simp [maxLen], by simp [Ex.cellsL], by simp, Or.inl (by simp)⟩, by simp, by simp⟩

set_option maxHeartbeats 4000000 in
theorem implReverseExpr_i {t a k n : Int} {ks : List Ex} {s : Option Addr} {c : Nat} {w : World} (hr : Rd w (kidsD ks) (.slice s ks.length c)) (h1 : Ex.sizeL ks ≤ 1048576) :
    Calls Try.prog 30 #[.agg #[.int .i64 t, .int .i64 a], .agg #[.int .i64 k, .int .i64 n, .slice s ks.length c]] w fun e w' => ∃ s' c', e = .returned (.tuple #[.agg #[.int .i64 (revE t a k n ks).kind, .int .i64 (revE t a k n ks).num, .slice s' (revE t a k n ks).kids.length c'], .int .i64 (revEK t a k n ks)]) ∧
      Freshs w w' [kidsD (revE t a k n ks).kids] [.slice s' (revE t a k n ks).kids.length c'] ∧ Below w.heap.size w w' := by
  have Hsz : Hid (Ex.size (.mk k n ks) ≤ 1073741824) := by show _ ≤ _; rw [Ex.size_eq]; simp only [Ex.kids]; omega
  have Hsl : Hid (Ex.sizeL ks ≤ 1073741824) := by show _ ≤ _; omega
  go_enter Try.func30, Try.ntmps30
  go_wp2_with fail
  have L := ((Blk.new2 w 31 (.int .i64 t) (.int .i64 a)).alloc (.cells #[.int .i64 k, .int .i64 n, .slice s ks.length c] 45)).alloc (.cells #[.int .i64 0, .int .i64 0, .slice none 0 0] 45)
  have M := (Blk.new3 (w.alloc (.cells #[.int .i64 t, .int .i64 a] 31)) 45 (.int .i64 k) (.int .i64 n) (.slice s ks.length c)).alloc (.cells #[.int .i64 0, .int .i64 0, .slice none 0 0] 45)
  simp at M
  have R := Blk.new3 ((w.alloc (.cells #[.int .i64 t, .int .i64 a] 31)).alloc (.cells #[.int .i64 k, .int .i64 n, .slice s ks.length c] 45)) 45 (.int .i64 0) (.int .i64 0) (.slice none 0 0)
  simp at R
  have hB : Below w.heap.size w (((w.alloc (.cells #[.int .i64 t, .int .i64 a] 31)).alloc (.cells #[.int .i64 k, .int .i64 n, .slice s ks.length c] 45)).alloc (.cells #[.int .i64 0, .int .i64 0, .slice none 0 0] 45)) := by (repeat' (first | exact Below.refl _ _ | assumption | (refine Below.alloc ?_ (by first | omega | (simp; done) | (simp; omega)) _) | (refine Below.drew ?_) | (refine Below.setCell ?_ (by first | omega | (simp; done) | (simp; omega)) _)))
  have hB0 := hB
  generalize (((w.alloc (.cells #[.int .i64 t, .int .i64 a] 31)).alloc (.cells #[.int .i64 k, .int .i64 n, .slice s ks.length c] 45)).alloc (.cells #[.int .i64 0, .int .i64 0, .slice none 0 0] 45)) = v0 at L M R hB hB0 ⊢
  have l0 := L.c0
  have l1 := L.c1
  have m0 := M.c0
  have m1 := M.c1
  have m2 := M.c2
  have r0 := R.c0
  have r1 := R.c1
  have r2 := R.c2
  have ltL := L.lt
  have ltM := M.lt
  have ltR := R.lt
  have zz0 := R.frozen 0
  have zz1 := R.frozen 1
  have zz2 := R.frozen 2
  go_wp2_with fail
  refine (implValidExpr_i (hr.below hB)).mono ?_
  rintro x w1 ⟨rfl, hb⟩
  clear l0 l1 m0 m1 m2 r0 r1 r2 ltL ltM ltR zz0 zz1 zz2
  replace hB := Below.on hB hb hB.size
  replace L := L.below hb
  replace M := M.below hb
  replace R := R.below hb
  clear hb
  have szW1 := hB.size
  have rlt1 := R.lt
  cases hs1 : okB t a (.mk k n ks)
  · have l0 := L.c0
    have l1 := L.c1
    have ltL := L.lt
    have m0 := M.c0
    have m1 := M.c1
    have m2 := M.c2
    have ltM := M.lt
    have r0 := R.c0
    have zz0 := R.frozen 0
    have r1 := R.c1
    have zz1 := R.frozen 1
    have r2 := R.c2
    have zz2 := R.frozen 2
    have ltR := R.lt
    go_wp2_with fail
    have R' := (((R.set 0 (.int .i64 0)).set 1 (.int .i64 0)).set 2 (.slice none 0 0))
    have c0 := R'.c0
    have c1 := R'.c1
    have c2 := R'.c2
    refine bodyPost_ret (v := .tuple #[.agg #[.int .i64 0, .int .i64 0, .slice none 0 0], .int .i64 1]) (by simp [results, Try.results30, go_sem, c0, c1, c2]) rfl ?_
    have e1 : revE t a k n ks = .mk 0 0 [] := by simp [revE, hs1, Ex.zero]
    have e2 : revEK t a k n ks = 1 := by simp [revEK, hs1]
    rw [e1, e2]
    exact ⟨none, 0, rfl, fresh_nil1 _ _, by (repeat' (first | exact Below.refl _ _ | assumption | (refine Below.alloc ?_ (by first | omega | (simp; done) | (simp; omega)) _) | (refine Below.drew ?_) | (refine Below.setCell ?_ (by first | omega | (simp; done) | (simp; omega)) _)))⟩
  have Hs1 := Lib.hid hs1
  clear hs1
  have l0 := L.c0
  have l1 := L.c1
  have m0 := M.c0
  have m1 := M.c1
  have m2 := M.c2
  have r0 := R.c0
  have r1 := R.c1
  have r2 := R.c2
  have ltL := L.lt
  have ltM := M.lt
  have ltR := R.lt
  have zz0 := R.frozen 0
  have zz1 := R.frozen 1
  have zz2 := R.frozen 2
  go_wp2_with fail
  refine (reversedExpr_all _ _ _ _ _ _ _ (Nat.le_refl _) (hr.below hB) Hsl.out _ _ (okB_tree Hs1.out)).mono ?_
  rintro x w2 ⟨sb, cb, rfl, hf, hb⟩
  clear l0 l1 m0 m1 m2 r0 r1 r2 ltL ltM ltR zz0 zz1 zz2
  replace hB := Below.on hB hb hB.size
  replace L := L.below hb
  replace M := M.below hb
  replace R := R.below hb
  clear hb
  have szW2 := hB.size
  have rlt2 := R.lt
  have l0 := L.c0
  have l1 := L.c1
  have m0 := M.c0
  have m1 := M.c1
  have m2 := M.c2
  have r0 := R.c0
  have r1 := R.c1
  have r2 := R.c2
  have ltL := L.lt
  have ltM := M.lt
  have ltR := R.lt
  have zz0 := R.frozen 0
  have zz1 := R.frozen 1
  have zz2 := R.frozen 2
  go_wp2_with fail
  have R' := (((R.set 0 (.int .i64 (Ex.rev (.mk k n ks)).kind)).set 1 (.int .i64 (Ex.rev (.mk k n ks)).num)).set 2 (.slice sb (Ex.rev (.mk k n ks)).kids.length cb))
  have c0 := R'.c0
  have c1 := R'.c1
  have c2 := R'.c2
  refine bodyPost_ret (v := .tuple #[.agg #[.int .i64 (Ex.rev (.mk k n ks)).kind, .int .i64 (Ex.rev (.mk k n ks)).num, .slice sb (Ex.rev (.mk k n ks)).kids.length cb], .int .i64 0]) (by simp [results, Try.results30, go_sem, c0, c1, c2]) rfl ?_
  have e1 : revE t a k n ks = Ex.rev (.mk k n ks) := by simp [revE, Hs1.out]
  have e2 : revEK t a k n ks = 0 := by simp [revEK, Hs1.out]
  rw [e1, e2]
  refine ⟨sb, cb, rfl, (hf.keep fun b hb1 hb2 => ?_).from szW1, by (repeat' (first | exact Below.refl _ _ | assumption | (refine Below.alloc ?_ (by first | omega | (simp; done) | (simp; omega)) _) | (refine Below.drew ?_) | (refine Below.setCell ?_ (by first | omega | (simp; done) | (simp; omega)) _)))⟩
  repeat rw [Below.heap_setCell _ _ _ _ (by show b ≠ w.heap.size + 1 + 1; omega)]
set_option maxHeartbeats 4000000 in
theorem specReverseExpr_i {t a k n : Int} {ks : List Ex} {s : Option Addr} {c : Nat} {w : World} (hr : Rd w (kidsD ks) (.slice s ks.length c)) (h1 : Ex.sizeL ks ≤ 1048576) :
    Calls Try.prog 29 #[.agg #[.int .i64 t, .int .i64 a], .agg #[.int .i64 k, .int .i64 n, .slice s ks.length c]] w fun e w' => ∃ s' c', e = .returned (.tuple #[.agg #[.int .i64 (revE t a k n ks).kind, .int .i64 (revE t a k n ks).num, .slice s' (revE t a k n ks).kids.length c'], .int .i64 (revEK t a k n ks)]) ∧
      Freshs w w' [kidsD (revE t a k n ks).kids] [.slice s' (revE t a k n ks).kids.length c'] ∧ Below w.heap.size w w' := by
  have Hsz : Hid (Ex.size (.mk k n ks) ≤ 1073741824) := by show _ ≤ _; rw [Ex.size_eq]; simp only [Ex.kids]; omega
  have Hsl : Hid (Ex.sizeL ks ≤ 1073741824) := by show _ ≤ _; omega
  go_enter Try.func29, Try.ntmps29
  go_wp2_with fail
  have L := ((Blk.new2 w 31 (.int .i64 t) (.int .i64 a)).alloc (.cells #[.int .i64 k, .int .i64 n, .slice s ks.length c] 45)).alloc (.cells #[.int .i64 0, .int .i64 0, .slice none 0 0] 45)
  have M := (Blk.new3 (w.alloc (.cells #[.int .i64 t, .int .i64 a] 31)) 45 (.int .i64 k) (.int .i64 n) (.slice s ks.length c)).alloc (.cells #[.int .i64 0, .int .i64 0, .slice none 0 0] 45)
  simp at M
  have R := Blk.new3 ((w.alloc (.cells #[.int .i64 t, .int .i64 a] 31)).alloc (.cells #[.int .i64 k, .int .i64 n, .slice s ks.length c] 45)) 45 (.int .i64 0) (.int .i64 0) (.slice none 0 0)
  simp at R
  have hB : Below w.heap.size w (((w.alloc (.cells #[.int .i64 t, .int .i64 a] 31)).alloc (.cells #[.int .i64 k, .int .i64 n, .slice s ks.length c] 45)).alloc (.cells #[.int .i64 0, .int .i64 0, .slice none 0 0] 45)) := by (repeat' (first | exact Below.refl _ _ | assumption | (refine Below.alloc ?_ (by first | omega | (simp; done) | (simp; omega)) _) | (refine Below.drew ?_) | (refine Below.setCell ?_ (by first | omega | (simp; done) | (simp; omega)) _)))
  have hB0 := hB
  generalize (((w.alloc (.cells #[.int .i64 t, .int .i64 a] 31)).alloc (.cells #[.int .i64 k, .int .i64 n, .slice s ks.length c] 45)).alloc (.cells #[.int .i64 0, .int .i64 0, .slice none 0 0] 45)) = v0 at L M R hB hB0 ⊢
  have l0 := L.c0
  have l1 := L.c1
  have m0 := M.c0
  have m1 := M.c1
  have m2 := M.c2
  have r0 := R.c0
  have r1 := R.c1
  have r2 := R.c2
  have ltL := L.lt
  have ltM := M.lt
  have ltR := R.lt
  have zz0 := R.frozen 0
  have zz1 := R.frozen 1
  have zz2 := R.frozen 2
  go_wp2_with fail
  refine (l01Ok_i (M.exAt (hr.below hB)) Hsz.out).mono ?_
  rintro x w1 ⟨rfl, hb⟩
  clear l0 l1 m0 m1 m2 r0 r1 r2 ltL ltM ltR zz0 zz1 zz2
  replace hB := Below.on hB hb hB.size
  replace L := L.below hb
  replace M := M.below hb
  replace R := R.below hb
  clear hb
  have szW1 := hB.size
  have rlt1 := R.lt
  cases hs1 : okB t a (.mk k n ks)
  · have l0 := L.c0
    have l1 := L.c1
    have ltL := L.lt
    have m0 := M.c0
    have m1 := M.c1
    have m2 := M.c2
    have ltM := M.lt
    have r0 := R.c0
    have zz0 := R.frozen 0
    have r1 := R.c1
    have zz1 := R.frozen 1
    have r2 := R.c2
    have zz2 := R.frozen 2
    have ltR := R.lt
    go_wp2_with fail
    have R' := (((R.set 0 (.int .i64 0)).set 1 (.int .i64 0)).set 2 (.slice none 0 0))
    have c0 := R'.c0
    have c1 := R'.c1
    have c2 := R'.c2
    refine bodyPost_ret (v := .tuple #[.agg #[.int .i64 0, .int .i64 0, .slice none 0 0], .int .i64 1]) (by simp [results, Try.results29, go_sem, c0, c1, c2]) rfl ?_
    have e1 : revE t a k n ks = .mk 0 0 [] := by simp [revE, hs1, Ex.zero]
    have e2 : revEK t a k n ks = 1 := by simp [revEK, hs1]
    rw [e1, e2]
    exact ⟨none, 0, rfl, fresh_nil1 _ _, by (repeat' (first | exact Below.refl _ _ | assumption | (refine Below.alloc ?_ (by first | omega | (simp; done) | (simp; omega)) _) | (refine Below.drew ?_) | (refine Below.setCell ?_ (by first | omega | (simp; done) | (simp; omega)) _)))⟩
  have Hs1 := Lib.hid hs1
  clear hs1
  have l0 := L.c0
  have l1 := L.c1
  have m0 := M.c0
  have m1 := M.c1
  have m2 := M.c2
  have r0 := R.c0
  have r1 := R.c1
  have r2 := R.c2
  have ltL := L.lt
  have ltM := M.lt
  have ltR := R.lt
  have zz0 := R.frozen 0
  have zz1 := R.frozen 1
  have zz2 := R.frozen 2
  go_wp2_with fail
  refine (l01Turn_all _ _ _ _ _ (Nat.le_refl _) (M.exAt (hr.below hB)) Hsz.out _ _ (okB_tree Hs1.out)).mono ?_
  rintro x w2 ⟨sb, cb, rfl, hf, hb⟩
  clear l0 l1 m0 m1 m2 r0 r1 r2 ltL ltM ltR zz0 zz1 zz2
  replace hB := Below.on hB hb hB.size
  replace L := L.below hb
  replace M := M.below hb
  replace R := R.below hb
  clear hb
  have szW2 := hB.size
  have rlt2 := R.lt
  have l0 := L.c0
  have l1 := L.c1
  have m0 := M.c0
  have m1 := M.c1
  have m2 := M.c2
  have r0 := R.c0
  have r1 := R.c1
  have r2 := R.c2
  have ltL := L.lt
  have ltM := M.lt
  have ltR := R.lt
  have zz0 := R.frozen 0
  have zz1 := R.frozen 1
  have zz2 := R.frozen 2
  go_wp2_with fail
  have R' := (((R.set 0 (.int .i64 (Ex.rev (.mk k n ks)).kind)).set 1 (.int .i64 (Ex.rev (.mk k n ks)).num)).set 2 (.slice sb (Ex.rev (.mk k n ks)).kids.length cb))
  have c0 := R'.c0
  have c1 := R'.c1
  have c2 := R'.c2
  refine bodyPost_ret (v := .tuple #[.agg #[.int .i64 (Ex.rev (.mk k n ks)).kind, .int .i64 (Ex.rev (.mk k n ks)).num, .slice sb (Ex.rev (.mk k n ks)).kids.length cb], .int .i64 0]) (by simp [results, Try.results29, go_sem, c0, c1, c2]) rfl ?_
  have e1 : revE t a k n ks = Ex.rev (.mk k n ks) := by simp [revE, Hs1.out]
  have e2 : revEK t a k n ks = 0 := by simp [revEK, Hs1.out]
  rw [e1, e2]
  refine ⟨sb, cb, rfl, (hf.keep fun b hb1 hb2 => ?_).from szW1, by (repeat' (first | exact Below.refl _ _ | assumption | (refine Below.alloc ?_ (by first | omega | (simp; done) | (simp; omega)) _) | (refine Below.drew ?_) | (refine Below.setCell ?_ (by first | omega | (simp; done) | (simp; omega)) _)))⟩
  repeat rw [Below.heap_setCell _ _ _ _ (by show b ≠ w.heap.size + 1 + 1; omega)]
end Go.Proofs.Ytjjcidfpjgmgcaa
