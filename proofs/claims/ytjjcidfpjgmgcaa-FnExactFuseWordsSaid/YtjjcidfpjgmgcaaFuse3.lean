/-
  FuseWords of both.
-/
import Derived.Test.YtjjcidfpjgmgcaaFuse2
namespace Go.Proofs.Ytjjcidfpjgmgcaa
open Go.ChangeShapes Go.WideShapes Go.ChangeAt Go.RowKit Go.Deep Go.Sort

theorem fresh_nils (w w' : World) : Freshs w w' (wordD [] []) [.slice none 0 0, .slice none 0 0] := by
  have h : Ow w' (intsD []) (.slice none 0 0) [] := by simp only [intsD, Ow]; exact ⟨none, 0, rfl, by simp, by simp [maxLen], by simp, by simp, Or.inl (by simp)⟩
  exact ⟨[], by simpa [wordD] using Ows.mk2 h h, by simp, by simp⟩
def fuG (t a : Int) (xs ys us vv : List Int) : Prop := wordB t a xs ys = true ∧ wordB t a us vv = true ∧ xs[ys.length]? = us[0]? ∧ ys.length + vv.length ≤ 10
open Classical in
noncomputable def fuX (t a : Int) (xs ys us vv : List Int) : List Int := if fuG t a xs ys us vv then xs ++ us.drop 1 else []
open Classical in
noncomputable def fuY (t a : Int) (xs ys us vv : List Int) : List Int := if fuG t a xs ys us vv then ys ++ vv else []
open Classical in
noncomputable def fuC (t a : Int) (xs ys us vv : List Int) : Int := if wordB t a xs ys = true ∧ wordB t a us vv = true then (if xs[ys.length]? = us[0]? then (if ys.length + vv.length ≤ 10 then 0 else 3) else 4) else 1
theorem fuX_len (t a : Int) (xs ys us vv : List Int) : (fuX t a xs ys us vv).length ≤ xs.length + us.length := by
  unfold fuX
  split <;> simp
theorem fuY_len (t a : Int) (xs ys us vv : List Int) : (fuY t a xs ys us vv).length ≤ ys.length + vv.length := by
  unfold fuY
  split <;> simp
theorem fu_bad {t a : Int} {xs ys us vv : List Int} (h : ¬ fuG t a xs ys us vv) : fuX t a xs ys us vv = [] ∧ fuY t a xs ys us vv = [] := by
  unfold fuX fuY
  rw [if_neg h, if_neg h]
  exact ⟨rfl, rfl⟩
theorem fu_good {t a : Int} {xs ys us vv : List Int} (h : fuG t a xs ys us vv) : fuX t a xs ys us vv = xs ++ us.drop 1 ∧ fuY t a xs ys us vv = ys ++ vv ∧ fuC t a xs ys us vv = 0 := by
  unfold fuX fuY fuC
  rw [if_pos h, if_pos h, if_pos ⟨h.1, h.2.1⟩, if_pos h.2.2.1, if_pos h.2.2.2]
  exact ⟨rfl, rfl, rfl⟩
theorem wordB_bd {t a : Int} {xs ys : List Int} (h : wordB t a xs ys = true) : sigB t a = true ∧ ys.length ≤ 10 ∧ xs.length = ys.length + 1 := by
  simp only [wordB, Bool.and_eq_true, decide_eq_true_eq] at h
  exact ⟨h.1.1.1.1, h.1.1.1.2, h.1.1.2⟩

set_option maxHeartbeats 16000000 in
theorem implFuseWords_i {t a : Int} {xs ys us vv : List Int} {s u p q : Option Addr} {c d c2 d2 : Nat} {w : World} (hr : Rd w (intsD xs) (.slice s xs.length c)) (hq : Rd w (intsD ys) (.slice u ys.length d))
    (hr2 : Rd w (intsD us) (.slice p us.length c2)) (hq2 : Rd w (intsD vv) (.slice q vv.length d2)) :
    Calls Try.prog 18 #[.agg #[.int .i64 t, .int .i64 a], .agg #[.slice s xs.length c, .slice u ys.length d], .agg #[.slice p us.length c2, .slice q vv.length d2]] w fun e w' => ∃ s' c' u' d', e = .returned (.tuple #[.agg #[.slice s' (fuX t a xs ys us vv).length c', .slice u' (fuY t a xs ys us vv).length d'], .int .i64 (fuC t a xs ys us vv)]) ∧
      Freshs w w' (wordD (fuX t a xs ys us vv) (fuY t a xs ys us vv)) [.slice s' (fuX t a xs ys us vv).length c', .slice u' (fuY t a xs ys us vv).length d'] ∧ Below w.heap.size w w' := by
  go_enter Try.func18, Try.ntmps18
  go_wp2_with fail
  have L := (((Blk.new2 w 31 (.int .i64 t) (.int .i64 a)).alloc (.cells #[.slice s xs.length c, .slice u ys.length d] 28)).alloc (.cells #[.slice p us.length c2, .slice q vv.length d2] 28)).alloc (.cells #[.slice none 0 0, .slice none 0 0] 28)
  have M := ((Blk.new2 (w.alloc (.cells #[.int .i64 t, .int .i64 a] 31)) 28 (.slice s xs.length c) (.slice u ys.length d)).alloc (.cells #[.slice p us.length c2, .slice q vv.length d2] 28)).alloc (.cells #[.slice none 0 0, .slice none 0 0] 28)
  simp at M
  have N := (Blk.new2 ((w.alloc (.cells #[.int .i64 t, .int .i64 a] 31)).alloc (.cells #[.slice s xs.length c, .slice u ys.length d] 28)) 28 (.slice p us.length c2) (.slice q vv.length d2)).alloc (.cells #[.slice none 0 0, .slice none 0 0] 28)
  simp at N
  have R := Blk.new2 (((w.alloc (.cells #[.int .i64 t, .int .i64 a] 31)).alloc (.cells #[.slice s xs.length c, .slice u ys.length d] 28)).alloc (.cells #[.slice p us.length c2, .slice q vv.length d2] 28)) 28 (.slice none 0 0) (.slice none 0 0)
  simp at R
  have hB : Below w.heap.size w ((((w.alloc (.cells #[.int .i64 t, .int .i64 a] 31)).alloc (.cells #[.slice s xs.length c, .slice u ys.length d] 28)).alloc (.cells #[.slice p us.length c2, .slice q vv.length d2] 28)).alloc (.cells #[.slice none 0 0, .slice none 0 0] 28)) := by (repeat' (first | exact Below.refl _ _ | assumption | (refine Below.alloc ?_ (by first | omega | (simp; done) | (simp; omega)) _) | (refine Below.drew ?_) | (refine Below.setCell ?_ (by first | omega | (simp; done) | (simp; omega)) _)))
  have hB0 := hB
  generalize ((((w.alloc (.cells #[.int .i64 t, .int .i64 a] 31)).alloc (.cells #[.slice s xs.length c, .slice u ys.length d] 28)).alloc (.cells #[.slice p us.length c2, .slice q vv.length d2] 28)).alloc (.cells #[.slice none 0 0, .slice none 0 0] 28)) = v0 at L M N R hB hB0 ⊢
  have l0 := L.c0
  have l1 := L.c1
  have m0 := M.c0
  have m1 := M.c1
  have n0 := N.c0
  have n1 := N.c1
  have r0 := R.c0
  have r1 := R.c1
  have ltL := L.lt
  have ltM := M.lt
  have ltN := N.lt
  have ltR := R.lt
  have zz0 := R.frozen 0
  have zz1 := R.frozen 1
  go_wp2_with fail
  refine (implValidWord_i (hr.below hB) (hq.below hB)).mono ?_
  rintro x w1 ⟨rfl, hb⟩
  clear l0 l1 m0 m1 n0 n1 r0 r1 ltL ltM ltN ltR zz0 zz1
  replace hB := Below.on hB hb hB.size
  replace L := L.below hb
  replace M := M.below hb
  replace N := N.below hb
  replace R := R.below hb
  clear hb
  have szW1 := hB.size
  have rlt1 := R.lt
  cases hs1 : wordB t a xs ys
  · have l0 := L.c0
    have l1 := L.c1
    have ltL := L.lt
    have m0 := M.c0
    have m1 := M.c1
    have ltM := M.lt
    have n0 := N.c0
    have n1 := N.c1
    have ltN := N.lt
    have r0 := R.c0
    have zz0 := R.frozen 0
    have r1 := R.c1
    have zz1 := R.frozen 1
    have ltR := R.lt
    clear r0 r1
    have e1 := fu_bad (t := t) (a := a) (xs := xs) (ys := ys) (us := us) (vv := vv) (fun h => by rw [h.1] at hs1; cases hs1)
    have e2 : fuC t a xs ys us vv = 1 := by unfold fuC; rw [if_neg (fun h => by rw [h.1] at hs1; cases hs1)]
    have E1 := Lib.hid e1
    have E2 := Lib.hid e2
    clear e1 e2
    have r0' := R.c0
    have r1' := R.c1
    have y0 := R.frozen 0
    have y1 := R.frozen 1
    have rl' := R.lt
    skip
    go_wp2_with fail
    have R' := (R.set 0 (.slice none 0 0)).set 1 (.slice none 0 0)
    have d0 := R'.c0
    have d1 := R'.c1
    refine bodyPost_ret (v := .tuple #[.agg #[.slice none 0 0, .slice none 0 0], .int .i64 1]) (by simp [results, Try.results18, go_sem, d0, d1]) rfl ?_
    rw [E1.out.1, E1.out.2, E2.out]
    exact ⟨none, 0, none, 0, rfl, fresh_nils _ _, by (repeat' (first | exact Below.refl _ _ | assumption | (refine Below.alloc ?_ (by first | omega | (simp; done) | (simp; omega)) _) | (refine Below.drew ?_) | (refine Below.setCell ?_ (by first | omega | (simp; done) | (simp; omega)) _)))⟩
  have Hs1 := Lib.hid hs1
  clear hs1
  have l0 := L.c0
  have l1 := L.c1
  have m0 := M.c0
  have m1 := M.c1
  have n0 := N.c0
  have n1 := N.c1
  have r0 := R.c0
  have r1 := R.c1
  have ltL := L.lt
  have ltM := M.lt
  have ltN := N.lt
  have ltR := R.lt
  have zz0 := R.frozen 0
  have zz1 := R.frozen 1
  go_wp2_with fail
  refine (isWord_i (hr2.below hB) (hq2.below hB) (wordB_bd Hs1.out).1).mono ?_
  rintro x w2 ⟨rfl, hb⟩
  clear l0 l1 m0 m1 n0 n1 r0 r1 ltL ltM ltN ltR zz0 zz1
  replace hB := Below.on hB hb hB.size
  replace L := L.below hb
  replace M := M.below hb
  replace N := N.below hb
  replace R := R.below hb
  clear hb
  have szW2 := hB.size
  have rlt2 := R.lt
  cases hs2 : wordB t a us vv
  · have l0 := L.c0
    have l1 := L.c1
    have ltL := L.lt
    have m0 := M.c0
    have m1 := M.c1
    have ltM := M.lt
    have n0 := N.c0
    have n1 := N.c1
    have ltN := N.lt
    have r0 := R.c0
    have zz0 := R.frozen 0
    have r1 := R.c1
    have zz1 := R.frozen 1
    have ltR := R.lt
    clear r0 r1
    have e1 := fu_bad (t := t) (a := a) (xs := xs) (ys := ys) (us := us) (vv := vv) (fun h => by rw [h.2.1] at hs2; cases hs2)
    have e2 : fuC t a xs ys us vv = 1 := by unfold fuC; rw [if_neg (fun h => by rw [h.2] at hs2; cases hs2)]
    have E1 := Lib.hid e1
    have E2 := Lib.hid e2
    clear e1 e2
    have r0' := R.c0
    have r1' := R.c1
    have y0 := R.frozen 0
    have y1 := R.frozen 1
    have rl' := R.lt
    skip
    go_wp2_with fail
    have R' := (R.set 0 (.slice none 0 0)).set 1 (.slice none 0 0)
    have d0 := R'.c0
    have d1 := R'.c1
    refine bodyPost_ret (v := .tuple #[.agg #[.slice none 0 0, .slice none 0 0], .int .i64 1]) (by simp [results, Try.results18, go_sem, d0, d1]) rfl ?_
    rw [E1.out.1, E1.out.2, E2.out]
    exact ⟨none, 0, none, 0, rfl, fresh_nils _ _, by (repeat' (first | exact Below.refl _ _ | assumption | (refine Below.alloc ?_ (by first | omega | (simp; done) | (simp; omega)) _) | (refine Below.drew ?_) | (refine Below.setCell ?_ (by first | omega | (simp; done) | (simp; omega)) _)))⟩
  have Hs2 := Lib.hid hs2
  clear hs2
  have l0 := L.c0
  have l1 := L.c1
  have m0 := M.c0
  have m1 := M.c1
  have n0 := N.c0
  have n1 := N.c1
  have r0 := R.c0
  have r1 := R.c1
  have ltL := L.lt
  have ltM := M.lt
  have ltN := N.lt
  have ltR := R.lt
  have zz0 := R.frozen 0
  have zz1 := R.frozen 1
  go_wp2_with fail
  obtain ⟨-, by1, bx1⟩ := wordB_bd Hs1.out
  obtain ⟨-, by2, bx2⟩ := wordB_bd Hs2.out
  have Hbx1 := Lib.hid bx1
  have Hbx2 := Lib.hid bx2
  have hx1 : ys.length < xs.length := by omega
  have hx1' : (ys.length : Int) < (xs.length : Int) := by omega
  have hu1 : 1 ≤ us.length := by omega
  have hx2 : xs.length ≤ 11 := by omega
  have hu2 : us.length ≤ 11 := by omega
  clear bx1 bx2
  obtain ⟨x, hxx⟩ : ∃ x, xs[ys.length]? = some x := ⟨_, List.getElem?_eq_getElem (by omega)⟩
  obtain ⟨y, hyy⟩ : ∃ y, us[0]? = some y := ⟨_, List.getElem?_eq_getElem (by omega)⟩
  obtain ⟨xb, xo, rfl⟩ := int_some hr (by omega)
  obtain ⟨ub, uo, rfl⟩ := int_some hr2 (by omega)
  obtain ⟨-, x1, x2, -⟩ := hr.sl_at
  obtain ⟨-, u3, u2, -⟩ := hr2.sl_at
  unfold maxLen at x2 u2
  have hU := (int_in hr2 hyy).2
  simp only [Nat.add_zero] at hU
  have hG := (int_in hr hxx).2
  have hxl := World.block_lt_of_cell? w _ hG
  have hul := World.block_lt_of_cell? w _ hU
  have HG := Lib.hid hG
  have HU := Lib.hid hU
  have HX := Lib.hid hxx
  have HY := Lib.hid hyy
  have hy0 : (0 : Int) ≤ (ys.length : Int) := by omega
  clear hG hU hxx hyy l0 l1 m0 m1 n0 n1 ltL ltM ltN
  have Hb2 := Lib.hid hB
  refine region_rs [] [] (fun _ _ => False) (w2.heap.size) (fun i iv vs wx => match i with
    | 0 => vs 0 = .pointer (some ⟨w.heap.size + 1, 0, none⟩)
    | 1 => vs 1 = .slice (some ⟨xb, xo, none⟩) xs.length c
    | 2 => vs 2 = .pointer (some ⟨w.heap.size + 1, 1, none⟩)
    | 3 => vs 3 = .slice u ys.length d
    | 4 => vs 4 = .int .i64 ys.length
    | 5 => vs 5 = .pointer (some ⟨xb, xo + ys.length, none⟩)
    | 6 => vs 6 = .int .i64 x
    | 7 => vs 7 = .pointer (some ⟨w.heap.size + 1 + 1, 0, none⟩)
    | 8 => vs 8 = .slice (some ⟨ub, uo, none⟩) us.length c2
    | 9 => vs 9 = .pointer (some ⟨ub, uo, none⟩)
    | 10 => vs 10 = .int .i64 y
    | 11 => vs 11 = .bool (x != y)
    | 12 => vs 12 = .bool (x != y)
    | _ => True) (fun i iv vs => match i with
    | 0 => vs 0 = .pointer (some ⟨w.heap.size + 1, 0, none⟩)
    | 1 => vs 1 = .slice (some ⟨xb, xo, none⟩) xs.length c
    | 2 => vs 2 = .pointer (some ⟨w.heap.size + 1, 1, none⟩)
    | 3 => vs 3 = .slice u ys.length d
    | 4 => vs 4 = .int .i64 ys.length
    | 5 => vs 5 = .pointer (some ⟨xb, xo + ys.length, none⟩)
    | 6 => vs 6 = .int .i64 x
    | 7 => vs 7 = .pointer (some ⟨w.heap.size + 1 + 1, 0, none⟩)
    | 8 => vs 8 = .slice (some ⟨ub, uo, none⟩) us.length c2
    | 9 => vs 9 = .pointer (some ⟨ub, uo, none⟩)
    | 10 => vs 10 = .int .i64 y
    | 11 => vs 11 = .bool (x != y)
    | 12 => vs 12 = .bool (x != y)
    | _ => True) (by kernel_rfl) (by kernel_rfl) [0, 1, 2, 3, 4, 5, 6, 7, 8, 9, 10, 11, 12] (by kernel_rfl) ?hbase ?hGb ?hG ?hJ ?hE ?hEE ?hstep ?hQ
  case hbase => first | exact Nat.le_refl _ | omega | (simp; omega)
  case hGb =>
    exact fun _ _ h => h.elim
  case hG =>
    exact fun _ _ _ h => h.elim
  case hJ =>
    intro i hi iv iv' vs vs' wx wx' ha hv hz hk hj
    simp only [List.mem_cons, List.not_mem_nil, or_false] at hi
    rcases hi with rfl | rfl | rfl | rfl | rfl | rfl | rfl | rfl | rfl | rfl | rfl | rfl | rfl
    · have e0 := hv.out 0 (mem_of (by kernel_rfl))
      have hj' : vs 0 = .pointer (some ⟨w.heap.size + 1, 0, none⟩) := hj
      show vs' 0 = .pointer (some ⟨w.heap.size + 1, 0, none⟩)
      rw [← e0]
      exact hj'
    · have e1 := hv.out 1 (mem_of (by kernel_rfl))
      have hj' : vs 1 = .slice (some ⟨xb, xo, none⟩) xs.length c := hj
      show vs' 1 = .slice (some ⟨xb, xo, none⟩) xs.length c
      rw [← e1]
      exact hj'
    · have e2 := hv.out 2 (mem_of (by kernel_rfl))
      have hj' : vs 2 = .pointer (some ⟨w.heap.size + 1, 1, none⟩) := hj
      show vs' 2 = .pointer (some ⟨w.heap.size + 1, 1, none⟩)
      rw [← e2]
      exact hj'
    · have e3 := hv.out 3 (mem_of (by kernel_rfl))
      have hj' : vs 3 = .slice u ys.length d := hj
      show vs' 3 = .slice u ys.length d
      rw [← e3]
      exact hj'
    · have e4 := hv.out 4 (mem_of (by kernel_rfl))
      have hj' : vs 4 = .int .i64 ys.length := hj
      show vs' 4 = .int .i64 ys.length
      rw [← e4]
      exact hj'
    · have e5 := hv.out 5 (mem_of (by kernel_rfl))
      have hj' : vs 5 = .pointer (some ⟨xb, xo + ys.length, none⟩) := hj
      show vs' 5 = .pointer (some ⟨xb, xo + ys.length, none⟩)
      rw [← e5]
      exact hj'
    · have e6 := hv.out 6 (mem_of (by kernel_rfl))
      have hj' : vs 6 = .int .i64 x := hj
      show vs' 6 = .int .i64 x
      rw [← e6]
      exact hj'
    · have e7 := hv.out 7 (mem_of (by kernel_rfl))
      have hj' : vs 7 = .pointer (some ⟨w.heap.size + 1 + 1, 0, none⟩) := hj
      show vs' 7 = .pointer (some ⟨w.heap.size + 1 + 1, 0, none⟩)
      rw [← e7]
      exact hj'
    · have e8 := hv.out 8 (mem_of (by kernel_rfl))
      have hj' : vs 8 = .slice (some ⟨ub, uo, none⟩) us.length c2 := hj
      show vs' 8 = .slice (some ⟨ub, uo, none⟩) us.length c2
      rw [← e8]
      exact hj'
    · have e9 := hv.out 9 (mem_of (by kernel_rfl))
      have hj' : vs 9 = .pointer (some ⟨ub, uo, none⟩) := hj
      show vs' 9 = .pointer (some ⟨ub, uo, none⟩)
      rw [← e9]
      exact hj'
    · have e10 := hv.out 10 (mem_of (by kernel_rfl))
      have hj' : vs 10 = .int .i64 y := hj
      show vs' 10 = .int .i64 y
      rw [← e10]
      exact hj'
    · have e11 := hv.out 11 (mem_of (by kernel_rfl))
      have hj' : vs 11 = .bool (x != y) := hj
      show vs' 11 = .bool (x != y)
      rw [← e11]
      exact hj'
    · have e12 := hv.out 12 (mem_of (by kernel_rfl))
      have hj' : vs 12 = .bool (x != y) := hj
      show vs' 12 = .bool (x != y)
      rw [← e12]
      exact hj'
  case hE =>
    intro i hi iv vs wx hj
    simp only [List.mem_cons, List.not_mem_nil, or_false] at hi
    rcases hi with rfl | rfl | rfl | rfl | rfl | rfl | rfl | rfl | rfl | rfl | rfl | rfl | rfl
    · exact hj
    · exact hj
    · exact hj
    · exact hj
    · exact hj
    · exact hj
    · exact hj
    · exact hj
    · exact hj
    · exact hj
    · exact hj
    · exact hj
    · exact hj
  case hEE =>
    intro i hi iv iv' vs vs' ha hv hj
    simp only [List.mem_cons, List.not_mem_nil, or_false] at hi
    rcases hi with rfl | rfl | rfl | rfl | rfl | rfl | rfl | rfl | rfl | rfl | rfl | rfl | rfl
    · have e0 := hv.out 0 (mem_of (by kernel_rfl))
      have hj' : vs 0 = .pointer (some ⟨w.heap.size + 1, 0, none⟩) := hj
      show vs' 0 = .pointer (some ⟨w.heap.size + 1, 0, none⟩)
      rw [← e0]
      exact hj'
    · have e1 := hv.out 1 (mem_of (by kernel_rfl))
      have hj' : vs 1 = .slice (some ⟨xb, xo, none⟩) xs.length c := hj
      show vs' 1 = .slice (some ⟨xb, xo, none⟩) xs.length c
      rw [← e1]
      exact hj'
    · have e2 := hv.out 2 (mem_of (by kernel_rfl))
      have hj' : vs 2 = .pointer (some ⟨w.heap.size + 1, 1, none⟩) := hj
      show vs' 2 = .pointer (some ⟨w.heap.size + 1, 1, none⟩)
      rw [← e2]
      exact hj'
    · have e3 := hv.out 3 (mem_of (by kernel_rfl))
      have hj' : vs 3 = .slice u ys.length d := hj
      show vs' 3 = .slice u ys.length d
      rw [← e3]
      exact hj'
    · have e4 := hv.out 4 (mem_of (by kernel_rfl))
      have hj' : vs 4 = .int .i64 ys.length := hj
      show vs' 4 = .int .i64 ys.length
      rw [← e4]
      exact hj'
    · have e5 := hv.out 5 (mem_of (by kernel_rfl))
      have hj' : vs 5 = .pointer (some ⟨xb, xo + ys.length, none⟩) := hj
      show vs' 5 = .pointer (some ⟨xb, xo + ys.length, none⟩)
      rw [← e5]
      exact hj'
    · have e6 := hv.out 6 (mem_of (by kernel_rfl))
      have hj' : vs 6 = .int .i64 x := hj
      show vs' 6 = .int .i64 x
      rw [← e6]
      exact hj'
    · have e7 := hv.out 7 (mem_of (by kernel_rfl))
      have hj' : vs 7 = .pointer (some ⟨w.heap.size + 1 + 1, 0, none⟩) := hj
      show vs' 7 = .pointer (some ⟨w.heap.size + 1 + 1, 0, none⟩)
      rw [← e7]
      exact hj'
    · have e8 := hv.out 8 (mem_of (by kernel_rfl))
      have hj' : vs 8 = .slice (some ⟨ub, uo, none⟩) us.length c2 := hj
      show vs' 8 = .slice (some ⟨ub, uo, none⟩) us.length c2
      rw [← e8]
      exact hj'
    · have e9 := hv.out 9 (mem_of (by kernel_rfl))
      have hj' : vs 9 = .pointer (some ⟨ub, uo, none⟩) := hj
      show vs' 9 = .pointer (some ⟨ub, uo, none⟩)
      rw [← e9]
      exact hj'
    · have e10 := hv.out 10 (mem_of (by kernel_rfl))
      have hj' : vs 10 = .int .i64 y := hj
      show vs' 10 = .int .i64 y
      rw [← e10]
      exact hj'
    · have e11 := hv.out 11 (mem_of (by kernel_rfl))
      have hj' : vs 11 = .bool (x != y) := hj
      show vs' 11 = .bool (x != y)
      rw [← e11]
      exact hj'
    · have e12 := hv.out 12 (mem_of (by kernel_rfl))
      have hj' : vs 12 = .bool (x != y) := hj
      show vs' 12 = .bool (x != y)
      rw [← e12]
      exact hj'
  case hstep =>
    intro i hi opr ho iv vs w1 hB hS hd he hbd hsep K hK
    simp only [List.mem_cons, List.not_mem_nil, or_false] at hi
    have hzB := hB.size
    have hBw1 : Below w.heap.size w w1 := Hb2.out.trans (hB.mono Hb2.out.size)
    have gx := (hBw1.cell (p := ⟨xb, xo + ys.length, none⟩) hxl).trans HG.out
    have gu := (hBw1.cell (p := ⟨ub, uo, none⟩) hul).trans HU.out
    have M1 := M.below hB
    have N1 := N.below hB
    have m0 := M1.c0
    have m1 := M1.c1
    have n0 := N1.c0
    have n1 := N1.c1
    rcases hi with rfl | rfl | rfl | rfl | rfl | rfl | rfl | rfl | rfl | rfl | rfl | rfl | rfl
    all_goals
      simp at ho
      subst ho
      simp only [putFrom, Act.put, List.setIfInBounds_toArray, List.set_cons_succ, List.set_cons_zero]
    · go_wp2_with fail
      exact Onward.mk (hK (.pointer (some ⟨w.heap.size + 1, 0, none⟩)) _ _ (by simp) (by simp only [putFrom, Act.put, List.setIfInBounds_toArray, List.set_cons_succ, List.set_cons_zero]) (Spares.of_below (Below.refl _ _)) (fun iv' _ _ => rfl))
    · have h0 : vs 0 = .pointer (some ⟨w.heap.size + 1, 0, none⟩) := hd.out 0 (mem_of (by kernel_rfl)) (by decide) (by kernel_rfl)
      go_wp2_with fail
      exact Onward.mk (hK (.slice (some ⟨xb, xo, none⟩) xs.length c) _ _ (by simp) (by simp only [putFrom, Act.put, List.setIfInBounds_toArray, List.set_cons_succ, List.set_cons_zero, h0]) (Spares.of_below (Below.refl _ _)) (fun iv' _ _ => rfl))
    · go_wp2_with fail
      exact Onward.mk (hK (.pointer (some ⟨w.heap.size + 1, 1, none⟩)) _ _ (by simp) (by simp only [putFrom, Act.put, List.setIfInBounds_toArray, List.set_cons_succ, List.set_cons_zero]) (Spares.of_below (Below.refl _ _)) (fun iv' _ _ => rfl))
    · have h2 : vs 2 = .pointer (some ⟨w.heap.size + 1, 1, none⟩) := hd.out 2 (mem_of (by kernel_rfl)) (by decide) (by kernel_rfl)
      go_wp2_with fail
      exact Onward.mk (hK (.slice u ys.length d) _ _ (by simp) (by simp only [putFrom, Act.put, List.setIfInBounds_toArray, List.set_cons_succ, List.set_cons_zero, h2]) (Spares.of_below (Below.refl _ _)) (fun iv' _ _ => rfl))
    · have h3 : vs 3 = .slice u ys.length d := hd.out 3 (mem_of (by kernel_rfl)) (by decide) (by kernel_rfl)
      go_wp2_with fail
      exact Onward.mk (hK (.int .i64 ys.length) _ _ (by simp) (by simp only [putFrom, Act.put, List.setIfInBounds_toArray, List.set_cons_succ, List.set_cons_zero, h3]) (Spares.of_below (Below.refl _ _)) (fun iv' _ _ => rfl))
    · have h1 : vs 1 = .slice (some ⟨xb, xo, none⟩) xs.length c := hd.out 1 (mem_of (by kernel_rfl)) (by decide) (by kernel_rfl)
      have h4 : vs 4 = .int .i64 ys.length := hd.out 4 (mem_of (by kernel_rfl)) (by decide) (by kernel_rfl)
      go_wp2_with fail
      exact Onward.mk (hK (.pointer (some ⟨xb, xo + ys.length, none⟩)) _ _ (by simp) (by simp only [putFrom, Act.put, List.setIfInBounds_toArray, List.set_cons_succ, List.set_cons_zero, h1, h4]) (Spares.of_below (Below.refl _ _)) (fun iv' _ _ => rfl))
    · have h5 : vs 5 = .pointer (some ⟨xb, xo + ys.length, none⟩) := hd.out 5 (mem_of (by kernel_rfl)) (by decide) (by kernel_rfl)
      go_wp2_with fail
      exact Onward.mk (hK (.int .i64 x) _ _ (by simp) (by simp only [putFrom, Act.put, List.setIfInBounds_toArray, List.set_cons_succ, List.set_cons_zero, h5]) (Spares.of_below (Below.refl _ _)) (fun iv' _ _ => rfl))
    · go_wp2_with fail
      exact Onward.mk (hK (.pointer (some ⟨w.heap.size + 1 + 1, 0, none⟩)) _ _ (by simp) (by simp only [putFrom, Act.put, List.setIfInBounds_toArray, List.set_cons_succ, List.set_cons_zero]) (Spares.of_below (Below.refl _ _)) (fun iv' _ _ => rfl))
    · have h7 : vs 7 = .pointer (some ⟨w.heap.size + 1 + 1, 0, none⟩) := hd.out 7 (mem_of (by kernel_rfl)) (by decide) (by kernel_rfl)
      go_wp2_with fail
      exact Onward.mk (hK (.slice (some ⟨ub, uo, none⟩) us.length c2) _ _ (by simp) (by simp only [putFrom, Act.put, List.setIfInBounds_toArray, List.set_cons_succ, List.set_cons_zero, h7]) (Spares.of_below (Below.refl _ _)) (fun iv' _ _ => rfl))
    · have h8 : vs 8 = .slice (some ⟨ub, uo, none⟩) us.length c2 := hd.out 8 (mem_of (by kernel_rfl)) (by decide) (by kernel_rfl)
      go_wp2_with fail
      exact Onward.mk (hK (.pointer (some ⟨ub, uo, none⟩)) _ _ (by simp) (by simp only [putFrom, Act.put, List.setIfInBounds_toArray, List.set_cons_succ, List.set_cons_zero, h8]) (Spares.of_below (Below.refl _ _)) (fun iv' _ _ => rfl))
    · have h9 : vs 9 = .pointer (some ⟨ub, uo, none⟩) := hd.out 9 (mem_of (by kernel_rfl)) (by decide) (by kernel_rfl)
      go_wp2_with fail
      exact Onward.mk (hK (.int .i64 y) _ _ (by simp) (by simp only [putFrom, Act.put, List.setIfInBounds_toArray, List.set_cons_succ, List.set_cons_zero, h9]) (Spares.of_below (Below.refl _ _)) (fun iv' _ _ => rfl))
    · have h6 : vs 6 = .int .i64 x := hd.out 6 (mem_of (by kernel_rfl)) (by decide) (by kernel_rfl)
      have h10 : vs 10 = .int .i64 y := hd.out 10 (mem_of (by kernel_rfl)) (by decide) (by kernel_rfl)
      go_wp2_with fail
      exact Onward.mk (hK (.bool (x != y)) _ _ (by simp) (by simp only [putFrom, Act.put, List.setIfInBounds_toArray, List.set_cons_succ, List.set_cons_zero, h6, h10]) (Spares.of_below (Below.refl _ _)) (fun iv' _ _ => rfl))
    · have h11 : vs 11 = .bool (x != y) := hd.out 11 (mem_of (by kernel_rfl)) (by decide) (by kernel_rfl)
      go_wp2_with fail
      exact Onward.mk (hK (.bool (x != y)) _ _ (by simp) (by simp only [putFrom, Act.put, List.setIfInBounds_toArray, List.set_cons_succ, List.set_cons_zero, h11]) (Spares.of_below (Below.refl _ _)) (fun iv' _ _ => rfl))
  case hQ =>
    intro iv vs wx hB hSp hd he hbd hsep
    have hzB := hB.size
    have h0 : vs 0 = .pointer (some ⟨w.heap.size + 1, 0, none⟩) := hd.out 0 (mem_of (by kernel_rfl)) (not_eaten (by kernel_rfl))
    have h1 : vs 1 = .slice (some ⟨xb, xo, none⟩) xs.length c := hd.out 1 (mem_of (by kernel_rfl)) (not_eaten (by kernel_rfl))
    have h2 : vs 2 = .pointer (some ⟨w.heap.size + 1, 1, none⟩) := hd.out 2 (mem_of (by kernel_rfl)) (not_eaten (by kernel_rfl))
    have h3 : vs 3 = .slice u ys.length d := hd.out 3 (mem_of (by kernel_rfl)) (not_eaten (by kernel_rfl))
    have h4 : vs 4 = .int .i64 ys.length := hd.out 4 (mem_of (by kernel_rfl)) (not_eaten (by kernel_rfl))
    have h5 : vs 5 = .pointer (some ⟨xb, xo + ys.length, none⟩) := hd.out 5 (mem_of (by kernel_rfl)) (not_eaten (by kernel_rfl))
    have h6 : vs 6 = .int .i64 x := hd.out 6 (mem_of (by kernel_rfl)) (not_eaten (by kernel_rfl))
    have h7 : vs 7 = .pointer (some ⟨w.heap.size + 1 + 1, 0, none⟩) := hd.out 7 (mem_of (by kernel_rfl)) (not_eaten (by kernel_rfl))
    have h8 : vs 8 = .slice (some ⟨ub, uo, none⟩) us.length c2 := hd.out 8 (mem_of (by kernel_rfl)) (not_eaten (by kernel_rfl))
    have h9 : vs 9 = .pointer (some ⟨ub, uo, none⟩) := hd.out 9 (mem_of (by kernel_rfl)) (not_eaten (by kernel_rfl))
    have h10 : vs 10 = .int .i64 y := hd.out 10 (mem_of (by kernel_rfl)) (not_eaten (by kernel_rfl))
    have h11 : vs 11 = .bool (x != y) := hd.out 11 (mem_of (by kernel_rfl)) (not_eaten (by kernel_rfl))
    have h12 : vs 12 = .bool (x != y) := hd.out 12 (mem_of (by kernel_rfl)) (not_eaten (by kernel_rfl))
    simp only [putFrom, Act.put, List.setIfInBounds_toArray, List.set_cons_succ, List.set_cons_zero]
    simp only [h12]
    replace L := L.below hB
    replace M := M.below hB
    replace N := N.below hB
    replace R := R.below hB
    have hBx : Below w.heap.size w wx := Hb2.out.trans (hB.mono Hb2.out.size)
    clear hd he hbd hsep h0 h1 h2 h3 h4 h5 h6 h7 h8 h9 h10 h11 h12 Hb2 hB r0 r1 zz0 zz1 ltR
    by_cases hxy : x = y
    rotate_left
    · have hne : (x != y) = true := by simp [hxy]
      rw [hne]
      have hq : ¬ xs[ys.length]? = us[0]? := by rw [HX.out, HY.out]; simpa using hxy
      clear by1 by2
      have e1 := fu_bad (t := t) (a := a) (xs := xs) (ys := ys) (us := us) (vv := vv) (fun h => hq h.2.2.1)
      have e2 : fuC t a xs ys us vv = 4 := by unfold fuC; rw [if_pos ⟨Hs1.out, Hs2.out⟩, if_neg hq]
      have E1 := Lib.hid e1
      have E2 := Lib.hid e2
      clear e1 e2
      have r0' := R.c0
      have r1' := R.c1
      have y0 := R.frozen 0
      have y1 := R.frozen 1
      have rl' := R.lt
      clear hq hxy hne
      go_wp2_with fail
      have R' := (R.set 0 (.slice none 0 0)).set 1 (.slice none 0 0)
      have d0 := R'.c0
      have d1 := R'.c1
      refine bodyPost_ret (v := .tuple #[.agg #[.slice none 0 0, .slice none 0 0], .int .i64 4]) (by simp [results, Try.results18, go_sem, d0, d1]) rfl ?_
      rw [E1.out.1, E1.out.2, E2.out]
      exact ⟨none, 0, none, 0, rfl, fresh_nils _ _, by (repeat' (first | exact Below.refl _ _ | assumption | (refine Below.alloc ?_ (by first | omega | (simp; done) | (simp; omega)) _) | (refine Below.drew ?_) | (refine Below.setCell ?_ (by first | omega | (simp; done) | (simp; omega)) _)))⟩
    have hne : (x != y) = false := by simp [hxy]
    rw [hne]
    have Hq : Hid (xs[ys.length]? = us[0]?) := by show _ = _; rw [HX.out, HY.out, hxy]
    clear hne hxy
    by_cases h10 : ys.length + vv.length ≤ 10
    rotate_left
    · have m1 := M.c1
      have n1 := N.c1
      clear by1
      have e1 := fu_bad (t := t) (a := a) (xs := xs) (ys := ys) (us := us) (vv := vv) (fun h => h10 h.2.2.2)
      have e2 : fuC t a xs ys us vv = 3 := by unfold fuC; rw [if_pos ⟨Hs1.out, Hs2.out⟩, if_pos Hq.out, if_neg h10]
      have E1 := Lib.hid e1
      have E2 := Lib.hid e2
      clear e1 e2
      have r0' := R.c0
      have r1' := R.c1
      have y0 := R.frozen 0
      have y1 := R.frozen 1
      have rl' := R.lt
      skip
      go_wp2_with fail
      have R' := (R.set 0 (.slice none 0 0)).set 1 (.slice none 0 0)
      have d0 := R'.c0
      have d1 := R'.c1
      refine bodyPost_ret (v := .tuple #[.agg #[.slice none 0 0, .slice none 0 0], .int .i64 3]) (by simp [results, Try.results18, go_sem, d0, d1]) rfl ?_
      rw [E1.out.1, E1.out.2, E2.out]
      exact ⟨none, 0, none, 0, rfl, fresh_nils _ _, by (repeat' (first | exact Below.refl _ _ | assumption | (refine Below.alloc ?_ (by first | omega | (simp; done) | (simp; omega)) _) | (refine Below.drew ?_) | (refine Below.setCell ?_ (by first | omega | (simp; done) | (simp; omega)) _)))⟩
    have eg := fu_good (t := t) (a := a) (xs := xs) (ys := ys) (us := us) (vv := vv) ⟨Hs1.out, Hs2.out, Hq.out, h10⟩
    have Eg := Lib.hid eg
    clear eg
    have m0 := M.c0
    have m1 := M.c1
    have n0 := N.c0
    have n1 := N.c1
    go_wp2_with fail
    refine (fused_i (hr.below hBx) (hq.below hBx) (hr2.below hBx) (hq2.below hBx) (by omega) (by omega) (by omega) (by omega) hu1).mono ?_
    rintro e w4 ⟨sa, ca, sb, cb, rfl, hf, hb⟩
    have rlx := R.lt
    have szx := hBx.size
    replace R := R.below hb
    have hB4 : Below w.heap.size w w4 := hBx.trans (hb.mono szx)
    clear m0 m1 n0 n1
    have r0 := R.c0
    have r1 := R.c1
    have y0 := R.frozen 0
    have y1 := R.frozen 1
    have rl := R.lt
    go_wp2_with fail
    have R' := (R.set 0 (.slice sa (xs.length + (us.length - 1)) ca)).set 1 (.slice sb (ys.length + vv.length) cb)
    have d0 := R'.c0
    have d1 := R'.c1
    refine bodyPost_ret (v := .tuple #[.agg #[.slice sa (xs.length + (us.length - 1)) ca, .slice sb (ys.length + vv.length) cb], .int .i64 0]) (by simp [results, Try.results18, go_sem, d0, d1]) rfl ?_
    rw [Eg.out.1, Eg.out.2.1, Eg.out.2.2]
    refine ⟨sa, ca, sb, cb, by simp, ?_, by (repeat' (first | exact Below.refl _ _ | assumption | (refine Below.alloc ?_ (by first | omega | (simp; done) | (simp; omega)) _) | (refine Below.drew ?_) | (refine Below.setCell ?_ (by first | omega | (simp; done) | (simp; omega)) _)))⟩
    refine (hf.keep fun b hb1 hb2 => ?_).from szx
    repeat rw [Below.heap_setCell _ _ _ _ (by show b ≠ w.heap.size + 1 + 1 + 1; omega)]

set_option maxHeartbeats 16000000 in
theorem specFuseWords_i {t a : Int} {xs ys us vv : List Int} {s u p q : Option Addr} {c d c2 d2 : Nat} {w : World} (hr : Rd w (intsD xs) (.slice s xs.length c)) (hq : Rd w (intsD ys) (.slice u ys.length d))
    (hr2 : Rd w (intsD us) (.slice p us.length c2)) (hq2 : Rd w (intsD vv) (.slice q vv.length d2)) :
    Calls Try.prog 15 #[.agg #[.int .i64 t, .int .i64 a], .agg #[.slice s xs.length c, .slice u ys.length d], .agg #[.slice p us.length c2, .slice q vv.length d2]] w fun e w' => ∃ s' c' u' d', e = .returned (.tuple #[.agg #[.slice s' (fuX t a xs ys us vv).length c', .slice u' (fuY t a xs ys us vv).length d'], .int .i64 (fuC t a xs ys us vv)]) ∧
      Freshs w w' (wordD (fuX t a xs ys us vv) (fuY t a xs ys us vv)) [.slice s' (fuX t a xs ys us vv).length c', .slice u' (fuY t a xs ys us vv).length d'] ∧ Below w.heap.size w w' := by
  go_enter Try.func15, Try.ntmps15
  go_wp2_with fail
  have L := (((Blk.new2 w 31 (.int .i64 t) (.int .i64 a)).alloc (.cells #[.slice s xs.length c, .slice u ys.length d] 28)).alloc (.cells #[.slice p us.length c2, .slice q vv.length d2] 28)).alloc (.cells #[.slice none 0 0, .slice none 0 0] 28)
  have M := ((Blk.new2 (w.alloc (.cells #[.int .i64 t, .int .i64 a] 31)) 28 (.slice s xs.length c) (.slice u ys.length d)).alloc (.cells #[.slice p us.length c2, .slice q vv.length d2] 28)).alloc (.cells #[.slice none 0 0, .slice none 0 0] 28)
  simp at M
  have N := (Blk.new2 ((w.alloc (.cells #[.int .i64 t, .int .i64 a] 31)).alloc (.cells #[.slice s xs.length c, .slice u ys.length d] 28)) 28 (.slice p us.length c2) (.slice q vv.length d2)).alloc (.cells #[.slice none 0 0, .slice none 0 0] 28)
  simp at N
  have R := Blk.new2 (((w.alloc (.cells #[.int .i64 t, .int .i64 a] 31)).alloc (.cells #[.slice s xs.length c, .slice u ys.length d] 28)).alloc (.cells #[.slice p us.length c2, .slice q vv.length d2] 28)) 28 (.slice none 0 0) (.slice none 0 0)
  simp at R
  have hB : Below w.heap.size w ((((w.alloc (.cells #[.int .i64 t, .int .i64 a] 31)).alloc (.cells #[.slice s xs.length c, .slice u ys.length d] 28)).alloc (.cells #[.slice p us.length c2, .slice q vv.length d2] 28)).alloc (.cells #[.slice none 0 0, .slice none 0 0] 28)) := by (repeat' (first | exact Below.refl _ _ | assumption | (refine Below.alloc ?_ (by first | omega | (simp; done) | (simp; omega)) _) | (refine Below.drew ?_) | (refine Below.setCell ?_ (by first | omega | (simp; done) | (simp; omega)) _)))
  have hB0 := hB
  generalize ((((w.alloc (.cells #[.int .i64 t, .int .i64 a] 31)).alloc (.cells #[.slice s xs.length c, .slice u ys.length d] 28)).alloc (.cells #[.slice p us.length c2, .slice q vv.length d2] 28)).alloc (.cells #[.slice none 0 0, .slice none 0 0] 28)) = v0 at L M N R hB hB0 ⊢
  have l0 := L.c0
  have l1 := L.c1
  have m0 := M.c0
  have m1 := M.c1
  have n0 := N.c0
  have n1 := N.c1
  have r0 := R.c0
  have r1 := R.c1
  have ltL := L.lt
  have ltM := M.lt
  have ltN := N.lt
  have ltR := R.lt
  have zz0 := R.frozen 0
  have zz1 := R.frozen 1
  go_wp2_with fail
  refine (l01Word_i (xs := xs) (ys := ys) ⟨s, c, u, d, M.c0, M.c1, hr.below hB, hq.below hB⟩).mono ?_
  rintro x w1 ⟨rfl, hb⟩
  clear l0 l1 m0 m1 n0 n1 r0 r1 ltL ltM ltN ltR zz0 zz1
  replace hB := Below.on hB hb hB.size
  replace L := L.below hb
  replace M := M.below hb
  replace N := N.below hb
  replace R := R.below hb
  clear hb
  have szW1 := hB.size
  have rlt1 := R.lt
  cases hs1 : wordB t a xs ys
  · have l0 := L.c0
    have l1 := L.c1
    have ltL := L.lt
    have m0 := M.c0
    have m1 := M.c1
    have ltM := M.lt
    have n0 := N.c0
    have n1 := N.c1
    have ltN := N.lt
    have r0 := R.c0
    have zz0 := R.frozen 0
    have r1 := R.c1
    have zz1 := R.frozen 1
    have ltR := R.lt
    clear r0 r1
    have e1 := fu_bad (t := t) (a := a) (xs := xs) (ys := ys) (us := us) (vv := vv) (fun h => by rw [h.1] at hs1; cases hs1)
    have e2 : fuC t a xs ys us vv = 1 := by unfold fuC; rw [if_neg (fun h => by rw [h.1] at hs1; cases hs1)]
    have E1 := Lib.hid e1
    have E2 := Lib.hid e2
    clear e1 e2
    have r0' := R.c0
    have r1' := R.c1
    have y0 := R.frozen 0
    have y1 := R.frozen 1
    have rl' := R.lt
    skip
    go_wp2_with fail
    have R' := (R.set 0 (.slice none 0 0)).set 1 (.slice none 0 0)
    have d0 := R'.c0
    have d1 := R'.c1
    refine bodyPost_ret (v := .tuple #[.agg #[.slice none 0 0, .slice none 0 0], .int .i64 1]) (by simp [results, Try.results15, go_sem, d0, d1]) rfl ?_
    rw [E1.out.1, E1.out.2, E2.out]
    exact ⟨none, 0, none, 0, rfl, fresh_nils _ _, by (repeat' (first | exact Below.refl _ _ | assumption | (refine Below.alloc ?_ (by first | omega | (simp; done) | (simp; omega)) _) | (refine Below.drew ?_) | (refine Below.setCell ?_ (by first | omega | (simp; done) | (simp; omega)) _)))⟩
  have Hs1 := Lib.hid hs1
  clear hs1
  have l0 := L.c0
  have l1 := L.c1
  have m0 := M.c0
  have m1 := M.c1
  have n0 := N.c0
  have n1 := N.c1
  have r0 := R.c0
  have r1 := R.c1
  have ltL := L.lt
  have ltM := M.lt
  have ltN := N.lt
  have ltR := R.lt
  have zz0 := R.frozen 0
  have zz1 := R.frozen 1
  go_wp2_with fail
  refine (l01Word_i (xs := us) (ys := vv) ⟨p, c2, q, d2, N.c0, N.c1, hr2.below hB, hq2.below hB⟩).mono ?_
  rintro x w2 ⟨rfl, hb⟩
  clear l0 l1 m0 m1 n0 n1 r0 r1 ltL ltM ltN ltR zz0 zz1
  replace hB := Below.on hB hb hB.size
  replace L := L.below hb
  replace M := M.below hb
  replace N := N.below hb
  replace R := R.below hb
  clear hb
  have szW2 := hB.size
  have rlt2 := R.lt
  cases hs2 : wordB t a us vv
  · have l0 := L.c0
    have l1 := L.c1
    have ltL := L.lt
    have m0 := M.c0
    have m1 := M.c1
    have ltM := M.lt
    have n0 := N.c0
    have n1 := N.c1
    have ltN := N.lt
    have r0 := R.c0
    have zz0 := R.frozen 0
    have r1 := R.c1
    have zz1 := R.frozen 1
    have ltR := R.lt
    clear r0 r1
    have e1 := fu_bad (t := t) (a := a) (xs := xs) (ys := ys) (us := us) (vv := vv) (fun h => by rw [h.2.1] at hs2; cases hs2)
    have e2 : fuC t a xs ys us vv = 1 := by unfold fuC; rw [if_neg (fun h => by rw [h.2] at hs2; cases hs2)]
    have E1 := Lib.hid e1
    have E2 := Lib.hid e2
    clear e1 e2
    have r0' := R.c0
    have r1' := R.c1
    have y0 := R.frozen 0
    have y1 := R.frozen 1
    have rl' := R.lt
    skip
    go_wp2_with fail
    have R' := (R.set 0 (.slice none 0 0)).set 1 (.slice none 0 0)
    have d0 := R'.c0
    have d1 := R'.c1
    refine bodyPost_ret (v := .tuple #[.agg #[.slice none 0 0, .slice none 0 0], .int .i64 1]) (by simp [results, Try.results15, go_sem, d0, d1]) rfl ?_
    rw [E1.out.1, E1.out.2, E2.out]
    exact ⟨none, 0, none, 0, rfl, fresh_nils _ _, by (repeat' (first | exact Below.refl _ _ | assumption | (refine Below.alloc ?_ (by first | omega | (simp; done) | (simp; omega)) _) | (refine Below.drew ?_) | (refine Below.setCell ?_ (by first | omega | (simp; done) | (simp; omega)) _)))⟩
  have Hs2 := Lib.hid hs2
  clear hs2
  have l0 := L.c0
  have l1 := L.c1
  have m0 := M.c0
  have m1 := M.c1
  have n0 := N.c0
  have n1 := N.c1
  have r0 := R.c0
  have r1 := R.c1
  have ltL := L.lt
  have ltM := M.lt
  have ltN := N.lt
  have ltR := R.lt
  have zz0 := R.frozen 0
  have zz1 := R.frozen 1
  go_wp2_with fail
  obtain ⟨-, by1, bx1⟩ := wordB_bd Hs1.out
  obtain ⟨-, by2, bx2⟩ := wordB_bd Hs2.out
  have Hbx1 := Lib.hid bx1
  have Hbx2 := Lib.hid bx2
  have hu2 : us.length ≤ 11 := by omega
  have hx2 : xs.length ≤ 11 := by omega
  clear bx1 bx2 l0 l1 m0 m1 n0 n1 r0 r1 zz0 zz1
  by_cases heq : xs[ys.length]? = us[0]?
  rotate_left
  · refine (l01Fuse_no (xs := xs) (ys := ys) (us := us) (vv := vv) ⟨s, c, u, d, M.c0, M.c1, hr.below hB, hq.below hB⟩ ⟨p, c2, q, d2, N.c0, N.c1, hr2.below hB, hq2.below hB⟩ Hbx1.out Hbx2.out by1 by2 heq).mono ?_
    rintro e w3 ⟨rfl, hb⟩
    replace hB := Below.on hB hb hB.size
    replace R := R.below hb
    have e2 : fuC t a xs ys us vv = 4 := by unfold fuC; rw [if_pos ⟨Hs1.out, Hs2.out⟩, if_neg heq]
    have e1 := fu_bad (t := t) (a := a) (xs := xs) (ys := ys) (us := us) (vv := vv) (fun h => heq h.2.2.1)
    have E1 := Lib.hid e1
    have E2 := Lib.hid e2
    clear e1 e2 heq hb
    have r0' := R.c0
    have r1' := R.c1
    have y0 := R.frozen 0
    have y1 := R.frozen 1
    have rl' := R.lt
    go_wp2_with fail
    have R' := ((R.set 0 (.slice none 0 0)).set 1 (.slice none 0 0)).alloc (.cells #[.slice none 0 0, .slice none 0 0] 28)
    have d0 := R'.c0
    have d1 := R'.c1
    refine bodyPost_ret (v := .tuple #[.agg #[.slice none 0 0, .slice none 0 0], .int .i64 4]) (by simp [results, Try.results15, go_sem, d0, d1]) rfl ?_
    rw [E1.out.1, E1.out.2, E2.out]
    exact ⟨none, 0, none, 0, rfl, fresh_nils _ _, by (repeat' (first | exact Below.refl _ _ | assumption | (refine Below.alloc ?_ (by first | omega | (simp; done) | (simp; omega)) _) | (refine Below.drew ?_) | (refine Below.setCell ?_ (by first | omega | (simp; done) | (simp; omega)) _)))⟩
  refine (l01Fuse_yes (xs := xs) (ys := ys) (us := us) (vv := vv) ⟨s, c, u, d, M.c0, M.c1, hr.below hB, hq.below hB⟩ ⟨p, c2, q, d2, N.c0, N.c1, hr2.below hB, hq2.below hB⟩ Hbx1.out Hbx2.out by1 by2 heq).mono ?_
  rintro e w3 ⟨sa, ca, sb, cb, rfl, hf, hb⟩
  have Hq := Lib.hid heq
  have rl2 := R.lt
  have sz2 := hB.size
  have hB3 : Below w.heap.size w w3 := Below.on hB hb hB.size
  replace R := R.below hb
  clear heq hB hb
  have r0' := R.c0
  have r1' := R.c1
  have y0 := R.frozen 0
  have y1 := R.frozen 1
  have rl' := R.lt
  by_cases h10 : ys.length + vv.length ≤ 10
  rotate_left
  · have e2 : fuC t a xs ys us vv = 3 := by unfold fuC; rw [if_pos ⟨Hs1.out, Hs2.out⟩, if_pos Hq.out, if_neg h10]
    have e1 := fu_bad (t := t) (a := a) (xs := xs) (ys := ys) (us := us) (vv := vv) (fun h => h10 h.2.2.2)
    have E1 := Lib.hid e1
    have E2 := Lib.hid e2
    clear e1 e2 hf
    go_wp2_with fail
    have R' := ((R.set 0 (.slice none 0 0)).set 1 (.slice none 0 0)).alloc (.cells #[.slice sa (xs.length + (us.length - 1)) ca, .slice sb (ys.length + vv.length) cb] 28)
    have d0 := R'.c0
    have d1 := R'.c1
    refine bodyPost_ret (v := .tuple #[.agg #[.slice none 0 0, .slice none 0 0], .int .i64 3]) (by simp [results, Try.results15, go_sem, d0, d1]) rfl ?_
    rw [E1.out.1, E1.out.2, E2.out]
    exact ⟨none, 0, none, 0, rfl, fresh_nils _ _, by (repeat' (first | exact Below.refl _ _ | assumption | (refine Below.alloc ?_ (by first | omega | (simp; done) | (simp; omega)) _) | (refine Below.drew ?_) | (refine Below.setCell ?_ (by first | omega | (simp; done) | (simp; omega)) _)))⟩
  have eg := fu_good (t := t) (a := a) (xs := xs) (ys := ys) (us := us) (vv := vv) ⟨Hs1.out, Hs2.out, Hq.out, h10⟩
  have Eg := Lib.hid eg
  clear eg
  go_wp2_with fail
  have R' := ((R.set 0 (.slice sa (xs.length + (us.length - 1)) ca)).set 1 (.slice sb (ys.length + vv.length) cb)).alloc (.cells #[.slice sa (xs.length + (us.length - 1)) ca, .slice sb (ys.length + vv.length) cb] 28)
  have d0 := R'.c0
  have d1 := R'.c1
  refine bodyPost_ret (v := .tuple #[.agg #[.slice sa (xs.length + (us.length - 1)) ca, .slice sb (ys.length + vv.length) cb], .int .i64 0]) (by simp [results, Try.results15, go_sem, d0, d1]) rfl ?_
  rw [Eg.out.1, Eg.out.2.1, Eg.out.2.2]
  refine ⟨sa, ca, sb, cb, by simp, ?_, by (repeat' (first | exact Below.refl _ _ | assumption | (refine Below.alloc ?_ (by first | omega | (simp; done) | (simp; omega)) _) | (refine Below.drew ?_) | (refine Below.setCell ?_ (by first | omega | (simp; done) | (simp; omega)) _)))⟩
  refine (hf.keep fun b hb1 hb2 => ?_).from sz2
  refine (Below.heap_alloc _ _ _ (by simpa [World.setCell] using hb2)).trans ?_
  rw [Below.heap_setCell _ _ _ _ (by show b ≠ w.heap.size + 1 + 1 + 1; omega), Below.heap_setCell _ _ _ _ (by show b ≠ w.heap.size + 1 + 1 + 1; omega)]
end Go.Proofs.Ytjjcidfpjgmgcaa
