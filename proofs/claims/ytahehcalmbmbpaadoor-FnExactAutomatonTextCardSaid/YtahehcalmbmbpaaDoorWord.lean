/-
  Words: the law's helpers szWord, toWord, eqWord; SameWord of both.
-/
import Derived.Test.YtahehcalmbmbpaaDoorInts
namespace Go.Proofs.YtahehcalmbmbpaaDoor
open Go.ChangeShapes Go.WideShapes Go.ChangeAt Go.RowKit

/-- What is left of a number when n are counted. -/
def SzR (n : Nat) (left : Int) (e : Ending) : Prop := ∃ r : Int, e = .returned (.int .i64 r) ∧ r ≤ left ∧ -1 ≤ r ∧ (0 ≤ r → (n : Int) + r ≤ left)

theorem szWord_i {xs ys : List Int} {s t : Option Addr} {c d : Nat} {left : Int} {w : World} (hr : Rd w (intsD xs) (.slice s xs.length c)) (hr' : Rd w (intsD ys) (.slice t ys.length d)) (h0 : 0 ≤ left) (h1 : left ≤ 1048576) :
    Calls Tryd.prog 7 #[.agg #[.slice s xs.length c, .slice t ys.length d], .int .i64 left] w fun e w' => SzR (xs.length + ys.length) left e ∧ Below w.heap.size w w' := by
  go_enter Tryd.func7, Tryd.ntmps7
  go_wp2_with fail
  refine (szInt64S_any _ _ _ _ _ (hr.alloc _) h0 h1).mono ?_
  rintro e w1 ⟨⟨r, rfl, r1, r2, r3⟩, rfl⟩
  by_cases hneg : r < 0
  · go_wp2_with fail
    go_ret
    exact ⟨⟨-1, rfl, by omega, by omega, by omega⟩, by (repeat' (first | exact Below.refl _ _ | assumption | (refine Below.alloc ?_ (by first | omega | (simp; done) | (simp; omega)) _) | (refine Below.drew ?_) | (refine Below.setCell ?_ (by first | omega | (simp; done) | (simp; omega)) _)))⟩
  · have hd : decide (r < 0) = false := by simpa using hneg
    have r4 := r3 (by omega)
    clear r3
    go_wp2_with fail
    refine (szInt64S_any _ _ _ _ _ (hr'.alloc _) (by omega) (by omega)).mono ?_
    rintro e w1 ⟨⟨q, rfl, q1, q2, q3⟩, rfl⟩
    by_cases hneg' : q < 0
    · go_wp2_with fail
      go_ret
      exact ⟨⟨-1, rfl, by omega, by omega, by omega⟩, by (repeat' (first | exact Below.refl _ _ | assumption | (refine Below.alloc ?_ (by first | omega | (simp; done) | (simp; omega)) _) | (refine Below.drew ?_) | (refine Below.setCell ?_ (by first | omega | (simp; done) | (simp; omega)) _)))⟩
    · have hd' : decide (q < 0) = false := by simpa using hneg'
      have q4 := q3 (by omega)
      clear q3
      go_wp2_with fail
      go_ret
      exact ⟨⟨q, rfl, by omega, by omega, by omega⟩, by (repeat' (first | exact Below.refl _ _ | assumption | (refine Below.alloc ?_ (by first | omega | (simp; done) | (simp; omega)) _) | (refine Below.drew ?_) | (refine Below.setCell ?_ (by first | omega | (simp; done) | (simp; omega)) _)))⟩

theorem toWord_i {xs ys : List Int} {s t : Option Addr} {c d : Nat} {w : World} (hr : Rd w (intsD xs) (.slice s xs.length c)) (hr' : Rd w (intsD ys) (.slice t ys.length d)) (h1 : xs.length + ys.length ≤ 1048576) :
    Calls Tryd.prog 10 #[.agg #[.slice s xs.length c, .slice t ys.length d]] w fun e w' => ∃ s' c' t' d', e = .returned (.agg #[.slice s' xs.length c', .slice t' ys.length d']) ∧
      Freshs w w' [intsD xs, intsD ys] [.slice s' xs.length c', .slice t' ys.length d'] ∧ Below w.heap.size w w' := by
  go_enter Tryd.func10, Tryd.ntmps10
  go_wp2_with fail
  have L := ((Blk.new2 w 26 (.slice s xs.length c) (.slice t ys.length d)).alloc (.cells #[.slice none 0 0, .slice none 0 0] 31)).alloc (.cells #[.slice none 0 0, .slice none 0 0] 31)
  have M := (Blk.new2 (w.alloc (.cells #[.slice s xs.length c, .slice t ys.length d] 26)) 31 (.slice none 0 0) (.slice none 0 0)).alloc (.cells #[.slice none 0 0, .slice none 0 0] 31)
  have N := (Blk.new2 ((w.alloc (.cells #[.slice s xs.length c, .slice t ys.length d] 26)).alloc (.cells #[.slice none 0 0, .slice none 0 0] 31)) 31 (.slice none 0 0) (.slice none 0 0))
  refine (toInt64S_any xs s c _ (by repeat (first | exact hr | apply Rd.alloc)) (by omega)).mono ?_
  rintro e w1 ⟨s1, c1, rfl, hf1, hb⟩
  have hB : Below w.heap.size w w1 := Below.on (by (repeat' (first | exact Below.refl _ _ | assumption | (refine Below.alloc ?_ (by first | omega | (simp; done) | (simp; omega)) _) | (refine Below.drew ?_) | (refine Below.setCell ?_ (by first | omega | (simp; done) | (simp; omega)) _)))) hb (by simp; omega)
  have hz1 := hb.size
  simp at hz1
  replace L := L.below hb
  replace M := M.below hb
  replace N := N.below hb
  simp at M N
  clear hb
  have l1 := L.c1
  have n0 := N.c0
  have z0 := N.frozen 0
  go_wp2_with fail
  have hB1 : Below w.heap.size w (w1.setCell ⟨w.heap.size + 1 + 1, 0, none⟩ (.slice s1 xs.length c1)) := by (repeat' (first | exact Below.refl _ _ | assumption | (refine Below.alloc ?_ (by first | omega | (simp; done) | (simp; omega)) _) | (refine Below.drew ?_) | (refine Below.setCell ?_ (by first | omega | (simp; done) | (simp; omega)) _)))
  obtain ⟨wa, hwa, hf1⟩ : ∃ wa : World, wa.heap.size = w.heap.size + 1 + 1 + 1 ∧ Fresh wa w1 (intsD xs) (.slice s1 xs.length c1) := ⟨_, by simp, hf1⟩
  have hf1' : Fresh wa (w1.setCell ⟨w.heap.size + 1 + 1, 0, none⟩ (.slice s1 xs.length c1)) (intsD xs) (.slice s1 xs.length c1) :=
    hf1.keep fun b h1 _ => Below.heap_setCell _ _ _ _ (by simp; omega)
  have Hwa := Lib.hid hwa
  clear hwa
  replace M := M.other (p := ⟨w.heap.size + 1 + 1, 0, none⟩) (by simp) (.slice s1 xs.length c1)
  replace N := N.set 0 (.slice s1 xs.length c1)
  simp at N
  have hz2 : w.heap.size + 1 + 1 + 1 ≤ (w1.setCell ⟨w.heap.size + 1 + 1, 0, none⟩ (.slice s1 xs.length c1)).heap.size := by simpa [World.setCell] using hz1
  clear l1 n0 z0 hf1 hB L hz1
  revert hB1 hf1' M N hz2
  generalize w1.setCell ⟨w.heap.size + 1 + 1, 0, none⟩ (.slice s1 xs.length c1) = w2
  intro hB1 hf1 M N hz2
  refine (toInt64S_any ys t d _ (hr'.below hB1) (by omega)).mono ?_
  rintro e w3 ⟨s2, c2, rfl, hf2, hb⟩
  replace hf2 := Freshs.cons hf1 (Freshs.one hf2) hb (by have := Hwa.out; omega)
  have hB := Below.on hB1 hb hB1.size
  have hz3 := hb.size
  replace M := M.below hb
  replace N := N.below hb
  clear hb hB1 hf1
  have n1 := N.c1
  have n0 := N.c0
  have m0 := M.c0
  have m1 := M.c1
  have z1 := N.frozen 1
  have y0 := M.frozen 0
  have y1 := M.frozen 1
  go_wp2
  refine bodyPost_ret (v := .agg #[.slice s1 xs.length c1, .slice s2 ys.length c2]) (by simp [results, Tryd.results10, go_sem, m0, m1]) rfl ⟨s1, c1, s2, c2, rfl, ?_, by (repeat' (first | exact Below.refl _ _ | assumption | (refine Below.alloc ?_ (by first | omega | (simp; done) | (simp; omega)) _) | (refine Below.drew ?_) | (refine Below.setCell ?_ (by first | omega | (simp; done) | (simp; omega)) _)))⟩
  have hwa := Hwa.out
  refine Freshs.from (hf2.keep fun b h1 _ => ?_) (by omega)
  rw [Below.heap_setCell _ _ _ _ (by simp; omega), Below.heap_setCell _ _ _ _ (by simp; omega), Below.heap_setCell _ _ _ _ (by simp; omega)]

theorem eqWord_i {xs ys xs' ys' : List Int} {s t s' t' : Option Addr} {c d c' d' : Nat} {w : World} (hr : Rd w (intsD xs) (.slice s xs.length c)) (hr2 : Rd w (intsD ys) (.slice t ys.length d))
    (hr' : Rd w (intsD xs') (.slice s' xs'.length c')) (hr2' : Rd w (intsD ys') (.slice t' ys'.length d')) :
    Calls Tryd.prog 12 #[.agg #[.slice s xs.length c, .slice t ys.length d], .agg #[.slice s' xs'.length c', .slice t' ys'.length d']] w fun e w' => e = .returned (.bool (eqb xs xs' && eqb ys ys')) ∧ Below w.heap.size w w' := by
  go_enter Tryd.func12, Tryd.ntmps12
  go_wp2_with fail
  have L := (Blk.new2 w 31 (.slice s xs.length c) (.slice t ys.length d)).alloc (.cells #[.slice s' xs'.length c', .slice t' ys'.length d'] 31)
  have M := Blk.new2 (w.alloc (.cells #[.slice s xs.length c, .slice t ys.length d] 31)) 31 (.slice s' xs'.length c') (.slice t' ys'.length d')
  refine (eqInt64S_any xs xs' _ _ _ _ _ (by repeat (first | exact hr | apply Rd.alloc)) (by repeat (first | exact hr' | apply Rd.alloc))).mono ?_
  rintro e w1 ⟨rfl, hb⟩
  have hB : Below w.heap.size w w1 := Below.on (by (repeat' (first | exact Below.refl _ _ | assumption | (refine Below.alloc ?_ (by first | omega | (simp; done) | (simp; omega)) _) | (refine Below.drew ?_) | (refine Below.setCell ?_ (by first | omega | (simp; done) | (simp; omega)) _)))) hb (by simp; omega)
  replace L := L.below hb
  replace M := M.below hb
  simp at M
  clear hb
  have l1 := L.c1
  have m1 := M.c1
  cases h1 : eqb xs xs'
  · go_wp2_with fail
    go_ret
    exact ⟨ret_bool (by rw [h1]; rfl), hB⟩
  · go_wp2_with fail
    refine (eqInt64S_any ys ys' _ _ _ _ _ (hr2.below hB) (hr2'.below hB)).mono ?_
    rintro e w2 ⟨rfl, hb⟩
    replace hB := Below.on hB hb hB.size
    clear hb
    cases h2 : eqb ys ys'
    all_goals
      go_wp2_with fail
      go_ret
      exact ⟨ret_bool (by rw [h1, h2]; rfl), hB⟩

end Go.Proofs.YtahehcalmbmbpaaDoor
