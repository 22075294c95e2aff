/-
  Numbers of accepted words: AcceptedCount of both.
-/
import Derived.Test.YtlnojmmjpgpjdaaCountF
namespace Go.Proofs.Ytlnojmmjpgpjdaa
open Go.ChangeShapes Go.WideShapes Go.ChangeAt Go.RowKit Go.Sort

noncomputable def accR (t a : Int) (ac : List (List Bool)) (nx : List (List (List Int))) (x : Int) : Int := if autB t a ac nx && inB x 0 10 then (cntN ac nx x.toNat).getD 0 0 else 0
noncomputable def accK (t a : Int) (ac : List (List Bool)) (nx : List (List (List Int))) (x : Int) : Int := if autB t a ac nx then (if inB x 0 10 then 0 else 2) else 1
theorem inB_nat {x : Int} {m : Nat} (h : inB x 0 m = true) : ∃ n : Nat, x = (n : Int) ∧ n ≤ m := by
  simp only [inB, Bool.and_eq_true, decide_eq_true_eq] at h
  exact ⟨x.toNat, by omega, by omega⟩
theorem cntN_first {t a : Int} {ac : List (List Bool)} {nx : List (List (List Int))} (h : AutOk t a ac nx) (n : Nat) : ∃ v, (cntN ac nx n)[0]? = some v ∧ (cntN ac nx n).getD 0 0 = v := by
  obtain ⟨v, hv⟩ : ∃ v, (cntN ac nx n)[0]? = some v := ⟨_, List.getElem?_eq_getElem (by rw [cntN_length h]; exact h.lo)⟩
  exact ⟨v, hv, by rw [List.getD_eq_getElem?_getD, hv]; rfl⟩

set_option maxHeartbeats 4000000 in
theorem specAcceptedCount_i {t a x : Int} {ac : List (List Bool)} {nx : List (List (List Int))} {s u : Option Addr} {c d : Nat} {w : World} (hr : Rd w (bbD ac) (.slice s ac.length c)) (hq : Rd w (iiiD nx) (.slice u nx.length d)) :
    Calls Try.prog 18 #[.agg #[.int .i64 t, .int .i64 a, .slice s ac.length c, .slice u nx.length d], .int .i64 x] w
      fun e w' => e = .returned (.tuple #[.int .i64 (accR t a ac nx x), .int .i64 (accK t a ac nx x)]) ∧ Below w.heap.size w w' := by
  go_enter Try.func18, Try.ntmps18
  go_wp2_with fail
  have L := Blk.new4 w 32 (.int .i64 t) (.int .i64 a) (.slice s ac.length c) (.slice u nx.length d)
  have hB : Below w.heap.size w (w.alloc (.cells #[.int .i64 t, .int .i64 a, .slice s ac.length c, .slice u nx.length d] 32)) := by (repeat' (first | exact Below.refl _ _ | assumption | (refine Below.alloc ?_ (by first | omega | (simp; done) | (simp; omega)) _) | (refine Below.drew ?_) | (refine Below.setCell ?_ (by first | omega | (simp; done) | (simp; omega)) _)))
  have hB0 := hB
  generalize (w.alloc (.cells #[.int .i64 t, .int .i64 a, .slice s ac.length c, .slice u nx.length d] 32)) = v0 at L hB hB0 ⊢
  have l0 := L.c0
  have l1 := L.c1
  have l2 := L.c2
  have l3 := L.c3
  have ltL := L.lt
  go_wp2_with fail
  refine (l02Ok_i (L.autAt' (hr.below hB) (hq.below hB))).mono ?_
  rintro x w1 ⟨rfl, hb⟩
  clear l0 l1 l2 l3 ltL
  replace hB := Below.on hB hb hB.size
  replace L := L.below hb
  clear hb
  have szW1 := hB.size
  cases hs1 : autB t a ac nx
  · have l0 := L.c0
    have l1 := L.c1
    have l2 := L.c2
    have l3 := L.c3
    have ltL := L.lt
    go_wp2_with fail
    go_ret2
    exact ⟨ret_ii (by simp [accR, hs1]) (by simp [accK, hs1]), hB⟩
  have Hs1 := Lib.hid hs1
  clear hs1
  have l0 := L.c0
  have l1 := L.c1
  have l2 := L.c2
  have l3 := L.c3
  have ltL := L.lt
  go_wp2_with fail
  refine (in_any x 0 10 _).mono ?_
  rintro x w2 ⟨rfl, rfl⟩
  clear l0 l1 l2 l3 ltL
  cases hs2 : inB x 0 10
  · have l0 := L.c0
    have l1 := L.c1
    have l2 := L.c2
    have l3 := L.c3
    have ltL := L.lt
    go_wp2_with fail
    go_ret2
    exact ⟨ret_ii (by simp [accR, hs2]) (by simp [accK, Hs1.out, hs2]), hB⟩
  have Hs2 := Lib.hid hs2
  clear hs2
  have l0 := L.c0
  have l1 := L.c1
  have l2 := L.c2
  have l3 := L.c3
  have ltL := L.lt
  go_wp2_with fail
  have HR : Hid (accR t a ac nx x = (cntN ac nx x.toNat).getD 0 0) := by show _ = _; simp [accR, Hs1.out, Hs2.out]
  have HK : Hid (accK t a ac nx x = 0) := by show _ = _; simp [accK, Hs1.out, Hs2.out]
  obtain ⟨m, rfl, hm⟩ := inB_nat (m := 10) Hs2.out
  have hok := autB_true.1 Hs1.out
  refine (l02Counts_i (L.autAt' (hr.below hB) (hq.below hB)) hok hm).mono ?_
  rintro e w2 ⟨s', c', rfl, hf, hb⟩
  replace hB := Below.on hB hb hB.size
  have hrd := hf.rd
  obtain ⟨b1, b2⟩ := nest_bd hrd
  unfold maxLen at b2
  rw [cntsL_length] at b1
  obtain ⟨pb, po, rfl⟩ := nest_some hrd (by rw [cntsL_length]; omega)
  obtain ⟨-, sp, cp, p0, rp⟩ := nest_sl (g := D.int) hrd (cntsL_at (ac := ac) (nx := nx) (show m < m + 1 by omega))
  obtain ⟨v, hv, hv2⟩ := cntN_first hok m
  have hpl := cntN_length hok m
  have hlo := hok.lo
  obtain ⟨qb, qo, rfl⟩ := nest_some (f := D.int) rp (by omega)
  obtain ⟨-, q0⟩ := int_in rp hv
  simp only [Nat.add_zero] at q0
  obtain ⟨b3, b4⟩ := nest_bd rp
  unfold maxLen at b4
  have b5 : (1 : Nat) ≤ (cntN ac nx m).length := by omega
  have HV : Hid (accR t a ac nx m = v) := by show _ = _; rw [HR.out, Int.toNat_natCast, hv2]
  have hmz := Int.natCast_nonneg m
  clear hb hf hrd rp hv hv2 hok hr hq hpl HR l0 l1 l2 l3
  go_wp2_with fail
  go_ret2
  exact ⟨ret_ii HV.out.symm HK.out.symm, hB⟩

set_option maxHeartbeats 4000000 in
theorem implAcceptedCount_i {t a x : Int} {ac : List (List Bool)} {nx : List (List (List Int))} {s u : Option Addr} {c d : Nat} {w : World} (hr : Rd w (bbD ac) (.slice s ac.length c)) (hq : Rd w (iiiD nx) (.slice u nx.length d)) :
    Calls Try.prog 19 #[.agg #[.int .i64 t, .int .i64 a, .slice s ac.length c, .slice u nx.length d], .int .i64 x] w
      fun e w' => e = .returned (.tuple #[.int .i64 (accR t a ac nx x), .int .i64 (accK t a ac nx x)]) ∧ Below w.heap.size w w' := by
  go_enter Try.func19, Try.ntmps19
  go_wp2_with fail
  have L := Blk.new4 w 32 (.int .i64 t) (.int .i64 a) (.slice s ac.length c) (.slice u nx.length d)
  have hB : Below w.heap.size w (w.alloc (.cells #[.int .i64 t, .int .i64 a, .slice s ac.length c, .slice u nx.length d] 32)) := by (repeat' (first | exact Below.refl _ _ | assumption | (refine Below.alloc ?_ (by first | omega | (simp; done) | (simp; omega)) _) | (refine Below.drew ?_) | (refine Below.setCell ?_ (by first | omega | (simp; done) | (simp; omega)) _)))
  have hB0 := hB
  generalize (w.alloc (.cells #[.int .i64 t, .int .i64 a, .slice s ac.length c, .slice u nx.length d] 32)) = v0 at L hB hB0 ⊢
  have l0 := L.c0
  have l1 := L.c1
  have l2 := L.c2
  have l3 := L.c3
  have ltL := L.lt
  go_wp2_with fail
  refine (implValidAutomaton_i (hr.below hB) (hq.below hB)).mono ?_
  rintro x w1 ⟨rfl, hb⟩
  clear l0 l1 l2 l3 ltL
  replace hB := Below.on hB hb hB.size
  replace L := L.below hb
  clear hb
  have szW1 := hB.size
  cases hs1 : autB t a ac nx
  · have l0 := L.c0
    have l1 := L.c1
    have l2 := L.c2
    have l3 := L.c3
    have ltL := L.lt
    go_wp2_with fail
    go_ret2
    exact ⟨ret_ii (by simp [accR, hs1]) (by simp [accK, hs1]), hB⟩
  have Hs1 := Lib.hid hs1
  clear hs1
  have l0 := L.c0
  have l1 := L.c1
  have l2 := L.c2
  have l3 := L.c3
  have ltL := L.lt
  go_wp2_with fail
  refine (within_any x 0 10 _).mono ?_
  rintro x w2 ⟨rfl, rfl⟩
  clear l0 l1 l2 l3 ltL
  cases hs2 : inB x 0 10
  · have l0 := L.c0
    have l1 := L.c1
    have l2 := L.c2
    have l3 := L.c3
    have ltL := L.lt
    go_wp2_with fail
    go_ret2
    exact ⟨ret_ii (by simp [accR, hs2]) (by simp [accK, Hs1.out, hs2]), hB⟩
  have Hs2 := Lib.hid hs2
  clear hs2
  have l0 := L.c0
  have l1 := L.c1
  have l2 := L.c2
  have l3 := L.c3
  have ltL := L.lt
  go_wp2_with fail
  have HR : Hid (accR t a ac nx x = (cntN ac nx x.toNat).getD 0 0) := by show _ = _; simp [accR, Hs1.out, Hs2.out]
  have HK : Hid (accK t a ac nx x = 0) := by show _ = _; simp [accK, Hs1.out, Hs2.out]
  obtain ⟨m, rfl, hm⟩ := inB_nat (m := 10) Hs2.out
  have hok := autB_true.1 Hs1.out
  refine (countFrom_i (hr.below hB) (hq.below hB) hok hm).mono ?_
  rintro e w2 ⟨g, rfl, hf, hb⟩
  replace hB := Below.on hB hb hB.size
  obtain ⟨v, hv, hv2⟩ := cntN_first hok m
  obtain ⟨-, q0⟩ := int_in hf.rd hv
  simp only [Nat.add_zero] at q0
  have hlo := hok.lo
  have hhi := hok.hi
  have HV : Hid (accR t a ac nx m = v) := by show _ = _; rw [HR.out, Int.toNat_natCast, hv2]
  clear hb hf hv hv2 hok hr hq HR l0 l1 l2 l3
  go_wp2_with fail
  go_ret2
  exact ⟨ret_ii HV.out.symm HK.out.symm, hB⟩
end Go.Proofs.Ytlnojmmjpgpjdaa
