/-
  TidyExpr of both.
-/
import Derived.Test.YtlnojmmjpgpjdaaDoorSpTidy2
namespace Go.Proofs.YtlnojmmjpgpjdaaDoor
open Go.ChangeShapes Go.WideShapes Go.ChangeAt Go.RowKit Go.Deep Go.Sort

theorem okB_bd2 {t a : Int} {e : Ex} (h : okB t a e = true) : t - 1 ≤ 8 ∧ a - 1 ≤ 8 ∧ e.size ≤ 200 ∧ e.tree (t - 1) (a - 1) = true := by
  obtain ⟨h1, h2, h3⟩ := okB_bd h
  exact ⟨by omega, by omega, h3, okB_tree h⟩
set_option maxHeartbeats 4000000 in
theorem implTidyExpr_i {t a k n : Int} {ks : List Ex} {s : Option Addr} {c : Nat} {w : World} (hr : Rd w (kidsD ks) (.slice s ks.length c)) (h1 : Ex.sizeL ks ≤ 1048576) :
    Calls Tryd.prog 16 #[.agg #[.int .i64 t, .int .i64 a], .agg #[.int .i64 k, .int .i64 n, .slice s ks.length c]] w fun e w' => ∃ s' c', e = .returned (.tuple #[.agg #[.int .i64 (tidE t a (.mk k n ks)).kind, .int .i64 (tidE t a (.mk k n ks)).num, .slice s' (tidE t a (.mk k n ks)).kids.length c'], .int .i64 (tidC t a (.mk k n ks))]) ∧
      Freshs w w' [kidsD (tidE t a (.mk k n ks)).kids] [.slice s' (tidE t a (.mk k n ks)).kids.length c'] ∧ Below w.heap.size w w' := by
  have Hsz : Hid (Ex.size (.mk k n ks) ≤ 1073741824) := by show _ ≤ _; rw [Ex.size_eq]; simp only [Ex.kids]; omega
  go_enter Tryd.func16, Tryd.ntmps16
  go_wp2_with fail
  have L := ((Blk.new2 w 29 (.int .i64 t) (.int .i64 a)).alloc (.cells #[.int .i64 k, .int .i64 n, .slice s ks.length c] 44)).alloc (.cells #[.int .i64 0, .int .i64 0, .slice none 0 0] 44)
  have M := (Blk.new3 (w.alloc (.cells #[.int .i64 t, .int .i64 a] 29)) 44 (.int .i64 k) (.int .i64 n) (.slice s ks.length c)).alloc (.cells #[.int .i64 0, .int .i64 0, .slice none 0 0] 44)
  simp at M
  have R := Blk.new3 ((w.alloc (.cells #[.int .i64 t, .int .i64 a] 29)).alloc (.cells #[.int .i64 k, .int .i64 n, .slice s ks.length c] 44)) 44 (.int .i64 0) (.int .i64 0) (.slice none 0 0)
  simp at R
  have hB : Below w.heap.size w (((w.alloc (.cells #[.int .i64 t, .int .i64 a] 29)).alloc (.cells #[.int .i64 k, .int .i64 n, .slice s ks.length c] 44)).alloc (.cells #[.int .i64 0, .int .i64 0, .slice none 0 0] 44)) := by (repeat' (first | exact Below.refl _ _ | assumption | (refine Below.alloc ?_ (by first | omega | (simp; done) | (simp; omega)) _) | (refine Below.drew ?_) | (refine Below.setCell ?_ (by first | omega | (simp; done) | (simp; omega)) _)))
  have hB0 := hB
  generalize (((w.alloc (.cells #[.int .i64 t, .int .i64 a] 29)).alloc (.cells #[.int .i64 k, .int .i64 n, .slice s ks.length c] 44)).alloc (.cells #[.int .i64 0, .int .i64 0, .slice none 0 0] 44)) = v0 at L M R hB hB0 ⊢
  have l0 := L.c0
  have l1 := L.c1
  have m0 := M.c0
  have m1 := M.c1
  have m2 := M.c2
  have r0 := R.c0
  have r1 := R.c1
  have r2 := R.c2
  have ltL := L.lt
  have ltM := M.lt
  have ltR := R.lt
  have zz0 := R.frozen 0
  have zz1 := R.frozen 1
  have zz2 := R.frozen 2
  go_wp2_with fail
  refine (implValidExpr_i (hr.below hB)).mono ?_
  rintro x w1 ⟨rfl, hb⟩
  clear l0 l1 m0 m1 m2 r0 r1 r2 ltL ltM ltR zz0 zz1 zz2
  replace hB := Below.on hB hb hB.size
  replace L := L.below hb
  replace M := M.below hb
  replace R := R.below hb
  clear hb
  have szW1 := hB.size
  have rlt1 := R.lt
  cases hs1 : okB t a (.mk k n ks)
  · have l0 := L.c0
    have l1 := L.c1
    have ltL := L.lt
    have m0 := M.c0
    have m1 := M.c1
    have m2 := M.c2
    have ltM := M.lt
    have r0 := R.c0
    have zz0 := R.frozen 0
    have r1 := R.c1
    have zz1 := R.frozen 1
    have r2 := R.c2
    have zz2 := R.frozen 2
    have ltR := R.lt
    go_wp2_with fail
    have R' := (((R.set 0 (.int .i64 0)).set 1 (.int .i64 0)).set 2 (.slice none 0 0))
    have c0 := R'.c0
    have c1 := R'.c1
    have c2 := R'.c2
    refine bodyPost_ret (v := .tuple #[.agg #[.int .i64 0, .int .i64 0, .slice none 0 0], .int .i64 1]) (by simp [results, Tryd.results16, go_sem, c0, c1, c2]) rfl ?_
    have e1 : tidE t a (.mk k n ks) = .mk 0 0 [] := by simp [tidE, hs1, Ex.zero]
    have e2 : tidC t a (.mk k n ks) = 1 := by simp [tidC, hs1]
    rw [e1, e2]
    exact ⟨none, 0, rfl, fresh_nil1 _ _, by (repeat' (first | exact Below.refl _ _ | assumption | (refine Below.alloc ?_ (by first | omega | (simp; done) | (simp; omega)) _) | (refine Below.drew ?_) | (refine Below.setCell ?_ (by first | omega | (simp; done) | (simp; omega)) _)))⟩
  have Hs1 := Lib.hid hs1
  clear hs1
  have l0 := L.c0
  have l1 := L.c1
  have m0 := M.c0
  have m1 := M.c1
  have m2 := M.c2
  have r0 := R.c0
  have r1 := R.c1
  have r2 := R.c2
  have ltL := L.lt
  have ltM := M.lt
  have ltR := R.lt
  have zz0 := R.frozen 0
  have zz1 := R.frozen 1
  have zz2 := R.frozen 2
  go_wp2_with fail
  refine (tidy_all (t - 1) (a - 1) (okB_bd2 Hs1.out).1 (okB_bd2 Hs1.out).2.1 _ (.mk k n ks) (fun _ => False) s c _ (Nat.le_refl _) (fun _ h => h.elim) (RdX.all (hr.below hB)) (okB_bd2 Hs1.out).2.2.2 (by have := (okB_bd2 Hs1.out).2.2.1; omega)).mono ?_
  rintro x w2 ⟨sb, cb, rfl, hx, hb⟩
  clear l0 l1 m0 m1 m2 r0 r1 r2 ltL ltM ltR zz0 zz1 zz2
  replace hB := Below.on hB hb hB.size
  replace L := L.below hb
  replace M := M.below hb
  replace R := R.below hb
  clear hb
  have szW2 := hB.size
  have rlt2 := R.lt
  have l0 := L.c0
  have l1 := L.c1
  have m0 := M.c0
  have m1 := M.c1
  have m2 := M.c2
  have r0 := R.c0
  have r1 := R.c1
  have r2 := R.c2
  have ltL := L.lt
  have ltM := M.lt
  have ltR := R.lt
  have zz0 := R.frozen 0
  have zz1 := R.frozen 1
  have zz2 := R.frozen 2
  go_wp2_with fail
  refine (copy_k hx.rd (by have h2 := (tidy_spec _ _ _ (.mk k n ks) (Nat.le_refl _) (okB_bd2 Hs1.out).2.2.2).2; have h3 := (okB_bd2 Hs1.out).2.2.1; rw [Ex.size_eq] at h2; omega)).mono ?_
  rintro x w3 ⟨sd, cd, rfl, hf, hb⟩
  clear l0 l1 m0 m1 m2 r0 r1 r2 ltL ltM ltR zz0 zz1 zz2
  replace hB := Below.on hB hb hB.size
  replace L := L.below hb
  replace M := M.below hb
  replace R := R.below hb
  clear hb
  have szW3 := hB.size
  have rlt3 := R.lt
  have l0 := L.c0
  have l1 := L.c1
  have m0 := M.c0
  have m1 := M.c1
  have m2 := M.c2
  have r0 := R.c0
  have r1 := R.c1
  have r2 := R.c2
  have ltL := L.lt
  have ltM := M.lt
  have ltR := R.lt
  have zz0 := R.frozen 0
  have zz1 := R.frozen 1
  have zz2 := R.frozen 2
  go_wp2_with fail
  have R' := (((R.set 0 (.int .i64 (Ex.tidy (.mk k n ks)).kind)).set 1 (.int .i64 (Ex.tidy (.mk k n ks)).num)).set 2 (.slice sd (Ex.tidy (.mk k n ks)).kids.length cd))
  have c0 := R'.c0
  have c1 := R'.c1
  have c2 := R'.c2
  refine bodyPost_ret (v := .tuple #[.agg #[.int .i64 (Ex.tidy (.mk k n ks)).kind, .int .i64 (Ex.tidy (.mk k n ks)).num, .slice sd (Ex.tidy (.mk k n ks)).kids.length cd], .int .i64 0]) (by simp [results, Tryd.results16, go_sem, c0, c1, c2]) rfl ?_
  have e1 : tidE t a (.mk k n ks) = Ex.tidy (.mk k n ks) := by simp [tidE, Hs1.out]
  have e2 : tidC t a (.mk k n ks) = 0 := by simp [tidC, Hs1.out]
  rw [e1, e2]
  refine ⟨sd, cd, rfl, (hf.keep fun b hb1 hb2 => ?_).from szW2, by (repeat' (first | exact Below.refl _ _ | assumption | (refine Below.alloc ?_ (by first | omega | (simp; done) | (simp; omega)) _) | (refine Below.drew ?_) | (refine Below.setCell ?_ (by first | omega | (simp; done) | (simp; omega)) _)))⟩
  repeat rw [Below.heap_setCell _ _ _ _ (by show b ≠ w.heap.size + 1 + 1; omega)]
set_option maxHeartbeats 4000000 in
theorem specTidyExpr_i {t a k n : Int} {ks : List Ex} {s : Option Addr} {c : Nat} {w : World} (hr : Rd w (kidsD ks) (.slice s ks.length c)) (h1 : Ex.sizeL ks ≤ 1048576) :
    Calls Tryd.prog 13 #[.agg #[.int .i64 t, .int .i64 a], .agg #[.int .i64 k, .int .i64 n, .slice s ks.length c]] w fun e w' => ∃ s' c', e = .returned (.tuple #[.agg #[.int .i64 (tidE t a (.mk k n ks)).kind, .int .i64 (tidE t a (.mk k n ks)).num, .slice s' (tidE t a (.mk k n ks)).kids.length c'], .int .i64 (tidC t a (.mk k n ks))]) ∧
      Freshs w w' [kidsD (tidE t a (.mk k n ks)).kids] [.slice s' (tidE t a (.mk k n ks)).kids.length c'] ∧ Below w.heap.size w w' := by
  have Hsz : Hid (Ex.size (.mk k n ks) ≤ 1073741824) := by show _ ≤ _; rw [Ex.size_eq]; simp only [Ex.kids]; omega
  go_enter Tryd.func13, Tryd.ntmps13
  go_wp2_with fail
  have L := ((Blk.new2 w 29 (.int .i64 t) (.int .i64 a)).alloc (.cells #[.int .i64 k, .int .i64 n, .slice s ks.length c] 44)).alloc (.cells #[.int .i64 0, .int .i64 0, .slice none 0 0] 44)
  have M := (Blk.new3 (w.alloc (.cells #[.int .i64 t, .int .i64 a] 29)) 44 (.int .i64 k) (.int .i64 n) (.slice s ks.length c)).alloc (.cells #[.int .i64 0, .int .i64 0, .slice none 0 0] 44)
  simp at M
  have R := Blk.new3 ((w.alloc (.cells #[.int .i64 t, .int .i64 a] 29)).alloc (.cells #[.int .i64 k, .int .i64 n, .slice s ks.length c] 44)) 44 (.int .i64 0) (.int .i64 0) (.slice none 0 0)
  simp at R
  have hB : Below w.heap.size w (((w.alloc (.cells #[.int .i64 t, .int .i64 a] 29)).alloc (.cells #[.int .i64 k, .int .i64 n, .slice s ks.length c] 44)).alloc (.cells #[.int .i64 0, .int .i64 0, .slice none 0 0] 44)) := by (repeat' (first | exact Below.refl _ _ | assumption | (refine Below.alloc ?_ (by first | omega | (simp; done) | (simp; omega)) _) | (refine Below.drew ?_) | (refine Below.setCell ?_ (by first | omega | (simp; done) | (simp; omega)) _)))
  have hB0 := hB
  generalize (((w.alloc (.cells #[.int .i64 t, .int .i64 a] 29)).alloc (.cells #[.int .i64 k, .int .i64 n, .slice s ks.length c] 44)).alloc (.cells #[.int .i64 0, .int .i64 0, .slice none 0 0] 44)) = v0 at L M R hB hB0 ⊢
  have l0 := L.c0
  have l1 := L.c1
  have m0 := M.c0
  have m1 := M.c1
  have m2 := M.c2
  have r0 := R.c0
  have r1 := R.c1
  have r2 := R.c2
  have ltL := L.lt
  have ltM := M.lt
  have ltR := R.lt
  have zz0 := R.frozen 0
  have zz1 := R.frozen 1
  have zz2 := R.frozen 2
  go_wp2_with fail
  refine (l01Ok_i (M.exAt (hr.below hB)) Hsz.out).mono ?_
  rintro x w1 ⟨rfl, hb⟩
  clear l0 l1 m0 m1 m2 r0 r1 r2 ltL ltM ltR zz0 zz1 zz2
  replace hB := Below.on hB hb hB.size
  replace L := L.below hb
  replace M := M.below hb
  replace R := R.below hb
  clear hb
  have szW1 := hB.size
  have rlt1 := R.lt
  cases hs1 : okB t a (.mk k n ks)
  · have l0 := L.c0
    have l1 := L.c1
    have ltL := L.lt
    have m0 := M.c0
    have m1 := M.c1
    have m2 := M.c2
    have ltM := M.lt
    have r0 := R.c0
    have zz0 := R.frozen 0
    have r1 := R.c1
    have zz1 := R.frozen 1
    have r2 := R.c2
    have zz2 := R.frozen 2
    have ltR := R.lt
    go_wp2_with fail
    have R' := (((R.set 0 (.int .i64 0)).set 1 (.int .i64 0)).set 2 (.slice none 0 0))
    have c0 := R'.c0
    have c1 := R'.c1
    have c2 := R'.c2
    refine bodyPost_ret (v := .tuple #[.agg #[.int .i64 0, .int .i64 0, .slice none 0 0], .int .i64 1]) (by simp [results, Tryd.results13, go_sem, c0, c1, c2]) rfl ?_
    have e1 : tidE t a (.mk k n ks) = .mk 0 0 [] := by simp [tidE, hs1, Ex.zero]
    have e2 : tidC t a (.mk k n ks) = 1 := by simp [tidC, hs1]
    rw [e1, e2]
    exact ⟨none, 0, rfl, fresh_nil1 _ _, by (repeat' (first | exact Below.refl _ _ | assumption | (refine Below.alloc ?_ (by first | omega | (simp; done) | (simp; omega)) _) | (refine Below.drew ?_) | (refine Below.setCell ?_ (by first | omega | (simp; done) | (simp; omega)) _)))⟩
  have Hs1 := Lib.hid hs1
  clear hs1
  have l0 := L.c0
  have l1 := L.c1
  have m0 := M.c0
  have m1 := M.c1
  have m2 := M.c2
  have r0 := R.c0
  have r1 := R.c1
  have r2 := R.c2
  have ltL := L.lt
  have ltM := M.lt
  have ltR := R.lt
  have zz0 := R.frozen 0
  have zz1 := R.frozen 1
  have zz2 := R.frozen 2
  go_wp2_with fail
  refine (l02Tidy_all (t - 1) (a - 1) (okB_bd2 Hs1.out).1 (okB_bd2 Hs1.out).2.1 _ (.mk k n ks) _ _ _ (Nat.le_refl _) (M.exAt (hr.below hB)) (okB_bd2 Hs1.out).2.2.2 (by have := (okB_bd2 Hs1.out).2.2.1; omega)).mono ?_
  rintro x w2 ⟨sb, cb, rfl, hf, hb⟩
  clear l0 l1 m0 m1 m2 r0 r1 r2 ltL ltM ltR zz0 zz1 zz2
  replace hB := Below.on hB hb hB.size
  replace L := L.below hb
  replace M := M.below hb
  replace R := R.below hb
  clear hb
  have szW2 := hB.size
  have rlt2 := R.lt
  have l0 := L.c0
  have l1 := L.c1
  have m0 := M.c0
  have m1 := M.c1
  have m2 := M.c2
  have r0 := R.c0
  have r1 := R.c1
  have r2 := R.c2
  have ltL := L.lt
  have ltM := M.lt
  have ltR := R.lt
  have zz0 := R.frozen 0
  have zz1 := R.frozen 1
  have zz2 := R.frozen 2
  go_wp2_with fail
  have R' := (((R.set 0 (.int .i64 (Ex.tidy (.mk k n ks)).kind)).set 1 (.int .i64 (Ex.tidy (.mk k n ks)).num)).set 2 (.slice sb (Ex.tidy (.mk k n ks)).kids.length cb))
  have c0 := R'.c0
  have c1 := R'.c1
  have c2 := R'.c2
  refine bodyPost_ret (v := .tuple #[.agg #[.int .i64 (Ex.tidy (.mk k n ks)).kind, .int .i64 (Ex.tidy (.mk k n ks)).num, .slice sb (Ex.tidy (.mk k n ks)).kids.length cb], .int .i64 0]) (by simp [results, Tryd.results13, go_sem, c0, c1, c2]) rfl ?_
  have e1 : tidE t a (.mk k n ks) = Ex.tidy (.mk k n ks) := by simp [tidE, Hs1.out]
  have e2 : tidC t a (.mk k n ks) = 0 := by simp [tidC, Hs1.out]
  rw [e1, e2]
  refine ⟨sb, cb, rfl, (hf.keep fun b hb1 hb2 => ?_).from szW1, by (repeat' (first | exact Below.refl _ _ | assumption | (refine Below.alloc ?_ (by first | omega | (simp; done) | (simp; omega)) _) | (refine Below.drew ?_) | (refine Below.setCell ?_ (by first | omega | (simp; done) | (simp; omega)) _)))⟩
  repeat rw [Below.heap_setCell _ _ _ _ (by show b ≠ w.heap.size + 1 + 1; omega)]
end Go.Proofs.YtlnojmmjpgpjdaaDoor
