/-
  Automata: what the law makes of an automaton; how it is read.
-/
import Derived.Test.YtahehcalmbmbpaaDoorAut2
namespace Go.Proofs.YtahehcalmbmbpaaDoor
open Go.ChangeShapes Go.WideShapes Go.ChangeAt Go.RowKit Go.Sort

theorem cells_laws_Automaton : Tryd.prog.cellsOf 49 = 4 := by kernel_rfl
theorem cells_laws_Sig' : Tryd.prog.cellsOf 23 = 2 := by kernel_rfl
theorem cells_bool : Tryd.prog.cellsOf 4 = 1 := by kernel_rfl
theorem cells_bools : Tryd.prog.cellsOf 84 = 1 := by kernel_rfl
theorem cells_boolss : Tryd.prog.cellsOf 46 = 1 := by kernel_rfl
theorem cells_int64ss : Tryd.prog.cellsOf 85 = 1 := by kernel_rfl
theorem cells_int64sss : Tryd.prog.cellsOf 47 = 1 := by kernel_rfl

/-- How much the law counts of an automaton. -/
def cntA (ac : List (List Bool)) (nx : List (List (List Int))) : Nat := (ac.length + accL List.length ac) + (nx.length + accL cntII nx)
/-- The two slices of an automaton. -/
def autD (ac : List (List Bool)) (nx : List (List (List Int))) : List D := [bbD ac, iiiD nx]

theorem szAutomaton_i {t a : Int} {ac : List (List Bool)} {nx : List (List (List Int))} {s u : Option Addr} {c d : Nat} {left : Int} {w : World} (hr : Rd w (bbD ac) (.slice s ac.length c)) (hr' : Rd w (iiiD nx) (.slice u nx.length d)) (h0 : 0 ≤ left) (h1 : left ≤ 1048576) :
    Calls Tryd.prog 18 #[.agg #[.int .i64 t, .int .i64 a, .slice s ac.length c, .slice u nx.length d], .int .i64 left] w fun e w' => SzR (cntA ac nx) left e ∧ Below w.heap.size w w' := by
  have Hc : Hid (cntA ac nx = (ac.length + accL List.length ac) + (nx.length + accL cntII nx)) := rfl
  go_enter Tryd.func18, Tryd.ntmps18
  go_wp2_with fail
  refine (szBoolSS_any _ _ _ _ _ (hr.alloc _) h0 h1).mono ?_
  rintro e w1 ⟨⟨r, rfl, r1, r2, r3⟩, rfl⟩
  by_cases hneg : r < 0
  · go_wp2_with fail
    go_ret
    exact ⟨⟨-1, rfl, by omega, by omega, by omega⟩, by (repeat' (first | exact Below.refl _ _ | assumption | (refine Below.alloc ?_ (by first | omega | (simp; done) | (simp; omega)) _) | (refine Below.drew ?_) | (refine Below.setCell ?_ (by first | omega | (simp; done) | (simp; omega)) _)))⟩
  · have hd : decide (r < 0) = false := by simpa using hneg
    have r4 := r3 (by omega)
    clear r3
    go_wp2_with fail
    refine (szInt64SSS_any _ _ _ _ _ (hr'.alloc _) (by omega) (by omega)).mono ?_
    rintro e w1 ⟨⟨q, rfl, q1, q2, q3⟩, rfl⟩
    by_cases hneg' : q < 0
    · go_wp2_with fail
      go_ret
      exact ⟨⟨-1, rfl, by omega, by omega, by omega⟩, by (repeat' (first | exact Below.refl _ _ | assumption | (refine Below.alloc ?_ (by first | omega | (simp; done) | (simp; omega)) _) | (refine Below.drew ?_) | (refine Below.setCell ?_ (by first | omega | (simp; done) | (simp; omega)) _)))⟩
    · have hd' : decide (q < 0) = false := by simpa using hneg'
      have q4 := q3 (by omega)
      clear q3
      go_wp2_with fail
      go_ret
      have := Hc.out
      exact ⟨⟨q, rfl, by omega, by omega, by omega⟩, by (repeat' (first | exact Below.refl _ _ | assumption | (refine Below.alloc ?_ (by first | omega | (simp; done) | (simp; omega)) _) | (refine Below.drew ?_) | (refine Below.setCell ?_ (by first | omega | (simp; done) | (simp; omega)) _)))⟩

set_option maxHeartbeats 4000000 in
theorem toAutomaton_i {t a : Int} {ac : List (List Bool)} {nx : List (List (List Int))} {s u : Option Addr} {c d : Nat} {w : World} (hr : Rd w (bbD ac) (.slice s ac.length c)) (hr' : Rd w (iiiD nx) (.slice u nx.length d)) (h1 : cntA ac nx ≤ 1048576) :
    Calls Tryd.prog 20 #[.agg #[.int .i64 t, .int .i64 a, .slice s ac.length c, .slice u nx.length d]] w fun e w' => ∃ s' c' u' d', e = .returned (.agg #[.int .i64 t, .int .i64 a, .slice s' ac.length c', .slice u' nx.length d']) ∧
      Freshs w w' (autD ac nx) [.slice s' ac.length c', .slice u' nx.length d'] ∧ Below w.heap.size w w' := by
  have hc1 : ac.length + accL List.length ac ≤ 1048576 := by unfold cntA at h1; omega
  have hc2 : nx.length + accL cntII nx ≤ 1048576 := by unfold cntA at h1; omega
  clear h1
  go_enter Tryd.func20, Tryd.ntmps20
  go_wp2_with fail
  have L := ((Blk.new4 w 49 (.int .i64 t) (.int .i64 a) (.slice s ac.length c) (.slice u nx.length d)).alloc (.cells #[.int .i64 0, .int .i64 0, .slice none 0 0, .slice none 0 0] 53)).alloc (.cells #[.int .i64 0, .int .i64 0, .slice none 0 0, .slice none 0 0] 53)
  have M := (Blk.new4 (w.alloc (.cells #[.int .i64 t, .int .i64 a, .slice s ac.length c, .slice u nx.length d] 49)) 53 (.int .i64 0) (.int .i64 0) (.slice none 0 0) (.slice none 0 0)).alloc (.cells #[.int .i64 0, .int .i64 0, .slice none 0 0, .slice none 0 0] 53)
  have N := Blk.new4 ((w.alloc (.cells #[.int .i64 t, .int .i64 a, .slice s ac.length c, .slice u nx.length d] 49)).alloc (.cells #[.int .i64 0, .int .i64 0, .slice none 0 0, .slice none 0 0] 53)) 53 (.int .i64 0) (.int .i64 0) (.slice none 0 0) (.slice none 0 0)
  simp at M N
  have hB : Below w.heap.size w (((w.alloc (.cells #[.int .i64 t, .int .i64 a, .slice s ac.length c, .slice u nx.length d] 49)).alloc (.cells #[.int .i64 0, .int .i64 0, .slice none 0 0, .slice none 0 0] 53)).alloc (.cells #[.int .i64 0, .int .i64 0, .slice none 0 0, .slice none 0 0] 53)) := by (repeat' (first | exact Below.refl _ _ | assumption | (refine Below.alloc ?_ (by first | omega | (simp; done) | (simp; omega)) _) | (refine Below.drew ?_) | (refine Below.setCell ?_ (by first | omega | (simp; done) | (simp; omega)) _)))
  generalize (((w.alloc (.cells #[.int .i64 t, .int .i64 a, .slice s ac.length c, .slice u nx.length d] 49)).alloc (.cells #[.int .i64 0, .int .i64 0, .slice none 0 0, .slice none 0 0] 53)).alloc (.cells #[.int .i64 0, .int .i64 0, .slice none 0 0, .slice none 0 0] 53)) = v0 at L M N hB ⊢
  refine (toSig_any t a _).mono ?_
  rintro e v1 ⟨rfl, hb⟩
  replace hB := Below.on hB hb hB.size
  replace L := L.below hb
  replace M := M.below hb
  replace N := N.below hb
  clear hb
  have l2 := L.c2
  have n0 := N.c0
  have n1 := N.c1
  have z0 := N.frozen 0
  have z1 := N.frozen 1
  have nl := N.lt
  have ll := L.lt
  go_wp2_with fail
  clear l2 n0 n1 z0 z1
  replace L := (L.other (p := ⟨w.heap.size + 1 + 1, 0, none⟩) (by simp <;> omega) (.int .i64 t)).other (p := ⟨w.heap.size + 1 + 1, 1, none⟩) (by simp <;> omega) (.int .i64 a)
  replace M := (M.other (p := ⟨w.heap.size + 1 + 1, 0, none⟩) (by simp <;> omega) (.int .i64 t)).other (p := ⟨w.heap.size + 1 + 1, 1, none⟩) (by simp <;> omega) (.int .i64 a)
  replace N := (N.set 0 (.int .i64 t)).set 1 (.int .i64 a)
  simp at N
  replace hB : Below w.heap.size w ((v1.setCell ⟨w.heap.size + 1 + 1, 0, none⟩ (.int .i64 t)).setCell ⟨w.heap.size + 1 + 1, 1, none⟩ (.int .i64 a)) := by (repeat' (first | exact Below.refl _ _ | assumption | (refine Below.alloc ?_ (by first | omega | (simp; done) | (simp; omega)) _) | (refine Below.drew ?_) | (refine Below.setCell ?_ (by first | omega | (simp; done) | (simp; omega)) _)))
  clear nl ll
  generalize ((v1.setCell ⟨w.heap.size + 1 + 1, 0, none⟩ (.int .i64 t)).setCell ⟨w.heap.size + 1 + 1, 1, none⟩ (.int .i64 a)) = v2 at L M N hB ⊢
  have nl2 := N.lt
  have sz2 := hB.size
  refine (toBoolSS_any ac s c _ (hr.below hB) hc1).mono ?_
  rintro e v3 ⟨s1, c1, rfl, hf1, hb⟩
  replace hB := Below.on hB hb hB.size
  replace L := L.below hb
  replace M := M.below hb
  replace N := N.below hb
  have sz3 := hb.size
  clear hb
  have l3 := L.c3
  have n2 := N.c2
  have z2 := N.frozen 2
  have nl := N.lt
  have ll := L.lt
  go_wp2_with fail
  clear l3 n2 z2
  replace hf1 : Fresh v2 (v3.setCell ⟨w.heap.size + 1 + 1, 2, none⟩ (.slice s1 ac.length c1)) (bbD ac) (.slice s1 ac.length c1) := hf1.keep fun b h1 _ => Below.heap_setCell _ _ _ _ (by show b ≠ w.heap.size + 1 + 1; omega)
  replace L := L.other (p := ⟨w.heap.size + 1 + 1, 2, none⟩) (by simp <;> omega) (.slice s1 ac.length c1)
  replace M := M.other (p := ⟨w.heap.size + 1 + 1, 2, none⟩) (by simp <;> omega) (.slice s1 ac.length c1)
  replace N := N.set 2 (.slice s1 ac.length c1)
  simp at N
  replace hB : Below w.heap.size w (v3.setCell ⟨w.heap.size + 1 + 1, 2, none⟩ (.slice s1 ac.length c1)) := by (repeat' (first | exact Below.refl _ _ | assumption | (refine Below.alloc ?_ (by first | omega | (simp; done) | (simp; omega)) _) | (refine Below.drew ?_) | (refine Below.setCell ?_ (by first | omega | (simp; done) | (simp; omega)) _)))
  replace sz3 : v2.heap.size ≤ (v3.setCell ⟨w.heap.size + 1 + 1, 2, none⟩ (.slice s1 ac.length c1)).heap.size := by simpa [World.setCell] using sz3
  clear nl ll
  generalize (v3.setCell ⟨w.heap.size + 1 + 1, 2, none⟩ (.slice s1 ac.length c1)) = v4 at L M N hB hf1 sz3 ⊢
  have nl4 := N.lt
  refine (toInt64SSS_any nx u d _ (hr'.below hB) hc2).mono ?_
  rintro e v5 ⟨s2, c2, rfl, hf2, hb⟩
  replace hf2 := Freshs.cons hf1 (Freshs.one hf2) hb sz3
  replace hB := Below.on hB hb hB.size
  replace M := M.below hb
  replace N := N.below hb
  clear hb hf1 L
  have n0 := N.c0
  have n1 := N.c1
  have n2 := N.c2
  have n3 := N.c3
  have m0 := M.c0
  have m1 := M.c1
  have m2 := M.c2
  have m3 := M.c3
  have z3 := N.frozen 3
  have y0 := M.frozen 0
  have y1 := M.frozen 1
  have y2 := M.frozen 2
  have y3 := M.frozen 3
  have nl := N.lt
  have ml := M.lt
  go_wp2_with fail
  have M' := ((((M.other (p := ⟨w.heap.size + 1 + 1, 3, none⟩) (by simp <;> omega) (.slice s2 nx.length c2)).set 0 (.int .i64 t)).set 1 (.int .i64 a)).set 2 (.slice s1 ac.length c1)).set 3 (.slice s2 nx.length c2)
  have d0 := M'.c0
  have d1 := M'.c1
  have d2 := M'.c2
  have d3 := M'.c3
  refine bodyPost_ret (v := .agg #[.int .i64 t, .int .i64 a, .slice s1 ac.length c1, .slice s2 nx.length c2]) (by simp [results, Tryd.results20, go_sem, d0, d1, d2, d3]) rfl ⟨s1, c1, s2, c2, rfl, ?_, by (repeat' (first | exact Below.refl _ _ | assumption | (refine Below.alloc ?_ (by first | omega | (simp; done) | (simp; omega)) _) | (refine Below.drew ?_) | (refine Below.setCell ?_ (by first | omega | (simp; done) | (simp; omega)) _)))⟩
  refine Freshs.from (hf2.keep fun b h1 _ => ?_) sz2
  rw [Below.heap_setCell _ _ _ _ (by show b ≠ w.heap.size + 1; omega), Below.heap_setCell _ _ _ _ (by show b ≠ w.heap.size + 1; omega), Below.heap_setCell _ _ _ _ (by show b ≠ w.heap.size + 1; omega), Below.heap_setCell _ _ _ _ (by show b ≠ w.heap.size + 1; omega), Below.heap_setCell _ _ _ _ (by show b ≠ w.heap.size + 1 + 1; omega)]

theorem eqSig_i {t a t' a' : Int} {w : World} : Calls Tryd.prog 49 #[.agg #[.int .i64 t, .int .i64 a], .agg #[.int .i64 t', .int .i64 a']] w fun e w' => e = .returned (.bool (t == t' && a == a')) ∧ Below w.heap.size w w' := by
  by_cases h1 : t = t'
  · have b1 : (t != t') = false := by simp [h1]
    by_cases h2 : a = a'
    · have b2 : (a != a') = false := by simp [h2]
      have e1 : (t == t' && a == a') = true := by simp [h1, h2]
      rw [e1]
      clear h1 h2 e1
      go_enter Tryd.func49, Tryd.ntmps49
      go_wp2_with fail
      go_ret
      exact ⟨rfl, by (repeat' (first | exact Below.refl _ _ | assumption | (refine Below.alloc ?_ (by first | omega | (simp; done) | (simp; omega)) _) | (refine Below.drew ?_) | (refine Below.setCell ?_ (by first | omega | (simp; done) | (simp; omega)) _)))⟩
    · have b2 : (a != a') = true := by simp [h2]
      have e1 : (t == t' && a == a') = false := by simp [h2]
      rw [e1]
      clear h1 h2 e1
      go_enter Tryd.func49, Tryd.ntmps49
      go_wp2_with fail
      go_ret
      exact ⟨rfl, by (repeat' (first | exact Below.refl _ _ | assumption | (refine Below.alloc ?_ (by first | omega | (simp; done) | (simp; omega)) _) | (refine Below.drew ?_) | (refine Below.setCell ?_ (by first | omega | (simp; done) | (simp; omega)) _)))⟩
  · have b1 : (t != t') = true := by simp [h1]
    have e1 : (t == t' && a == a') = false := by simp [h1]
    rw [e1]
    clear h1 e1
    go_enter Tryd.func49, Tryd.ntmps49
    go_wp2_with fail
    go_ret
    exact ⟨rfl, by (repeat' (first | exact Below.refl _ _ | assumption | (refine Below.alloc ?_ (by first | omega | (simp; done) | (simp; omega)) _) | (refine Below.drew ?_) | (refine Below.setCell ?_ (by first | omega | (simp; done) | (simp; omega)) _)))⟩

theorem eqAutomaton_i {t a t' a' : Int} {ac ac' : List (List Bool)} {nx nx' : List (List (List Int))} {s u s' u' : Option Addr} {c d c' d' : Nat} {w : World} (hr : Rd w (bbD ac) (.slice s ac.length c)) (hq : Rd w (iiiD nx) (.slice u nx.length d))
    (hr' : Rd w (bbD ac') (.slice s' ac'.length c')) (hq' : Rd w (iiiD nx') (.slice u' nx'.length d')) :
    Calls Tryd.prog 22 #[.agg #[.int .i64 t, .int .i64 a, .slice s ac.length c, .slice u nx.length d], .agg #[.int .i64 t', .int .i64 a', .slice s' ac'.length c', .slice u' nx'.length d']] w
      fun e w' => e = .returned (.bool ((t == t' && a == a') && (eqb ac ac' && eqb nx nx'))) ∧ Below w.heap.size w w' := by
  go_enter Tryd.func22, Tryd.ntmps22
  go_wp2_with fail
  have L := (Blk.new4 w 53 (.int .i64 t) (.int .i64 a) (.slice s ac.length c) (.slice u nx.length d)).alloc (.cells #[.int .i64 t', .int .i64 a', .slice s' ac'.length c', .slice u' nx'.length d'] 53)
  have M := Blk.new4 (w.alloc (.cells #[.int .i64 t, .int .i64 a, .slice s ac.length c, .slice u nx.length d] 53)) 53 (.int .i64 t') (.int .i64 a') (.slice s' ac'.length c') (.slice u' nx'.length d')
  simp at M
  have hB : Below w.heap.size w ((w.alloc (.cells #[.int .i64 t, .int .i64 a, .slice s ac.length c, .slice u nx.length d] 53)).alloc (.cells #[.int .i64 t', .int .i64 a', .slice s' ac'.length c', .slice u' nx'.length d'] 53)) := by (repeat' (first | exact Below.refl _ _ | assumption | (refine Below.alloc ?_ (by first | omega | (simp; done) | (simp; omega)) _) | (refine Below.drew ?_) | (refine Below.setCell ?_ (by first | omega | (simp; done) | (simp; omega)) _)))
  have hB0 := hB
  generalize ((w.alloc (.cells #[.int .i64 t, .int .i64 a, .slice s ac.length c, .slice u nx.length d] 53)).alloc (.cells #[.int .i64 t', .int .i64 a', .slice s' ac'.length c', .slice u' nx'.length d'] 53)) = v0 at L M hB hB0 ⊢
  have l0 := L.c0
  have l1 := L.c1
  have l2 := L.c2
  have l3 := L.c3
  have m0 := M.c0
  have m1 := M.c1
  have m2 := M.c2
  have m3 := M.c3
  have ltL := L.lt
  have ltM := M.lt
  go_wp2_with fail
  refine (eqSig_i).mono ?_
  rintro x w1 ⟨rfl, hb⟩
  clear l0 l1 l2 l3 m0 m1 m2 m3 ltL ltM
  replace hB := Below.on hB hb hB.size
  replace L := L.below hb
  replace M := M.below hb
  clear hb
  have szW1 := hB.size
  cases hs1 : (t == t' && a == a')
  · have l0 := L.c0
    have l1 := L.c1
    have l2 := L.c2
    have l3 := L.c3
    have ltL := L.lt
    have m0 := M.c0
    have m1 := M.c1
    have m2 := M.c2
    have m3 := M.c3
    have ltM := M.lt
    go_wp2_with fail
    go_ret
    exact ⟨ret_bool (by rw [hs1]; rfl), hB⟩
  have Hs1 := Lib.hid hs1
  clear hs1
  have l0 := L.c0
  have l1 := L.c1
  have l2 := L.c2
  have l3 := L.c3
  have m0 := M.c0
  have m1 := M.c1
  have m2 := M.c2
  have m3 := M.c3
  have ltL := L.lt
  have ltM := M.lt
  go_wp2_with fail
  refine (eqBoolSS_any ac ac' _ _ _ _ _ (hr.below hB) (hr'.below hB)).mono ?_
  rintro x w2 ⟨rfl, hb⟩
  clear l0 l1 l2 l3 m0 m1 m2 m3 ltL ltM
  replace hB := Below.on hB hb hB.size
  replace L := L.below hb
  replace M := M.below hb
  clear hb
  have szW2 := hB.size
  cases hs2 : eqb ac ac'
  · have l0 := L.c0
    have l1 := L.c1
    have l2 := L.c2
    have l3 := L.c3
    have ltL := L.lt
    have m0 := M.c0
    have m1 := M.c1
    have m2 := M.c2
    have m3 := M.c3
    have ltM := M.lt
    go_wp2_with fail
    go_ret
    exact ⟨ret_bool (by rw [Hs1.out, hs2]; rfl), hB⟩
  have Hs2 := Lib.hid hs2
  clear hs2
  have l0 := L.c0
  have l1 := L.c1
  have l2 := L.c2
  have l3 := L.c3
  have m0 := M.c0
  have m1 := M.c1
  have m2 := M.c2
  have m3 := M.c3
  have ltL := L.lt
  have ltM := M.lt
  go_wp2_with fail
  refine (eqInt64SSS_any nx nx' _ _ _ _ _ (hq.below hB) (hq'.below hB)).mono ?_
  rintro x w3 ⟨rfl, hb⟩
  clear l0 l1 l2 l3 m0 m1 m2 m3 ltL ltM
  replace hB := Below.on hB hb hB.size
  replace L := L.below hb
  replace M := M.below hb
  clear hb
  have szW3 := hB.size
  cases hs3 : eqb nx nx'
  · have l0 := L.c0
    have l1 := L.c1
    have l2 := L.c2
    have l3 := L.c3
    have ltL := L.lt
    have m0 := M.c0
    have m1 := M.c1
    have m2 := M.c2
    have m3 := M.c3
    have ltM := M.lt
    go_wp2_with fail
    go_ret
    exact ⟨ret_bool (by rw [Hs1.out, Hs2.out, hs3]; rfl), hB⟩
  have Hs3 := Lib.hid hs3
  clear hs3
  have l0 := L.c0
  have l1 := L.c1
  have l2 := L.c2
  have l3 := L.c3
  have m0 := M.c0
  have m1 := M.c1
  have m2 := M.c2
  have m3 := M.c3
  have ltL := L.lt
  have ltM := M.lt
  go_wp2_with fail
  go_ret
  exact ⟨ret_bool (by rw [Hs1.out, Hs2.out, Hs3.out]; rfl), hB⟩
end Go.Proofs.YtahehcalmbmbpaaDoor
