/-
  Parts of a proof, joined: CntT, LawCountWords. No condition.
-/
import Derived.Test.YtjlmdhoajfdkbaaGreatDoorPk24
import Derived.Test.YtjlmdhoajfdkbaaGreatDoorPk30
import Derived.Test.YtjlmdhoajfdkbaaGreatDoorPk32
namespace Go.Proofs.YtjlmdhoajfdkbaaGreatDoor
set_option linter.unusedVariables false
set_option linter.unusedSimpArgs false
open Go.ChangeShapes Go.WideShapes Go.ChangeAt Go.RowKit Go.Deep Go.Sort
noncomputable def cwR (t a : Int) (e : Ex) (x : Int) : Int := if okB t a e && inB x 0 10 then (if auC t a e = 0 then (cntN (auA t a e) (auX t a e) x.toNat).getD 0 0 else 0) else 0
noncomputable def cwC (t a : Int) (e : Ex) (x : Int) : Int := if okB t a e then (if inB x 0 10 then auC t a e else 2) else 1
set_option maxHeartbeats 4000000 in
theorem specCountWords_i {t a k n x : Int} {ks : List Ex} {s : Option Addr} {c : Nat} {w : World} (hr : Rd w (kidsD ks) (.slice s ks.length c)) (h1 : Ex.sizeL ks ≤ 1048576) :
  Calls Tryz.prog 38 #[.agg #[.int .i64 t, .int .i64 a], .agg #[.int .i64 k, .int .i64 n, .slice s ks.length c], .int .i64 x] w fun e w' => e = .returned (.tuple #[.int .i64 (cwR t a (.mk k n ks) x), .int .i64 (cwC t a (.mk k n ks) x)]) ∧ Below w.heap.size w w' := by
 have Hsz : Hid (Ex.size (.mk k n ks) ≤ 1073741824) := by show _ ≤ _; rw [Ex.size_eq]; simp only [Ex.kids]; omega
 have H1 := Lib.hid h1
 cases hcb : (auC t a (.mk k n ks) != 0)
 rotate_left
 ·
  have Hc : Hid (¬ auC t a (.mk k n ks) = 0) := by show ¬ _; simpa using hcb
  go_enter Tryz.func38, Tryz.ntmps38
  go_wp2_with fail
  have L := (Blk.new2 w 33 (.int .i64 t) (.int .i64 a)).alloc (.cells #[.int .i64 k, .int .i64 n, .slice s ks.length c] 30)
  have M := Blk.new3 (w.alloc (.cells #[.int .i64 t, .int .i64 a] 33)) 30 (.int .i64 k) (.int .i64 n) (.slice s ks.length c)
  simp at M
  have hB : Below w.heap.size w ((w.alloc (.cells #[.int .i64 t, .int .i64 a] 33)).alloc (.cells #[.int .i64 k, .int .i64 n, .slice s ks.length c] 30)) := by (repeat' first | exact Below.refl _ _ | assumption | apply Below.alloc | apply Below.drew | apply Below.setCell | omega | (simp; done) | (simp; omega))
  have hB0 := hB
  generalize ((w.alloc (.cells #[.int .i64 t, .int .i64 a] 33)).alloc (.cells #[.int .i64 k, .int .i64 n, .slice s ks.length c] 30)) = v0 at L M hB hB0 ⊢
  have l0 := L.c0
  have l1 := L.c1
  have m0 := M.c0
  have m1 := M.c1
  have m2 := M.c2
  have ltL := L.lt
  have ltM := M.lt
  go_wp2_with fail
  refine (l01Ok_i (M.exAt (hr.below hB)) Hsz.out).mono ?_
  rintro x w1 ⟨rfl, hb⟩
  clear l0 l1 m0 m1 m2 ltL ltM
  replace hB := Below.on hB hb hB.size
  replace L := L.below hb
  replace M := M.below hb
  clear hb
  have szW1 := hB.size
  cases hs1 : okB t a (.mk k n ks)
  ·
   have l0 := L.c0
   have l1 := L.c1
   have ltL := L.lt
   have m0 := M.c0
   have m1 := M.c1
   have m2 := M.c2
   have ltM := M.lt
   go_wp2_with fail
   go_ret2
   exact ⟨ret_ii (by simp [cwR, hs1]) (by simp [cwC, hs1]), hB⟩
  have Hs1 := Lib.hid hs1
  clear hs1
  have l0 := L.c0
  have l1 := L.c1
  have m0 := M.c0
  have m1 := M.c1
  have m2 := M.c2
  have ltL := L.lt
  have ltM := M.lt
  go_wp2_with fail
  refine (in_any x 0 10 _).mono ?_
  rintro x w2 ⟨rfl, rfl⟩
  clear l0 l1 m0 m1 m2 ltL ltM
  cases hs2 : inB x 0 10
  ·
   have l0 := L.c0
   have l1 := L.c1
   have ltL := L.lt
   have m0 := M.c0
   have m1 := M.c1
   have m2 := M.c2
   have ltM := M.lt
   go_wp2_with fail
   go_ret2
   exact ⟨ret_ii (by simp [cwR, hs2]) (by simp [cwC, Hs1.out, hs2]), hB⟩
  have Hs2 := Lib.hid hs2
  clear hs2
  have l0 := L.c0
  have l1 := L.c1
  have m0 := M.c0
  have m1 := M.c1
  have m2 := M.c2
  have ltL := L.lt
  have ltM := M.lt
  go_wp2_with fail
  refine ((l02Made_au Hs1.out (M.exAt (hr.below hB))).mono fun _ _ h => h.no).mono ?_
  rintro x w3 ⟨t', a', s', u', l', c', m', d', rfl, hb⟩
  clear l0 l1 m0 m1 m2 ltL ltM
  replace hB := Below.on hB hb hB.size
  replace L := L.below hb
  replace M := M.below hb
  clear hb
  have szW3 := hB.size
  have l0 := L.c0
  have l1 := L.c1
  have m0 := M.c0
  have m1 := M.c1
  have m2 := M.c2
  have ltL := L.lt
  have ltM := M.lt
  go_wp2_with fail
  go_ret2
  exact ⟨ret_ii (by simp [cwR, Hc.out]) (by simp [cwC, Hs1.out, Hs2.out]), by (repeat' first | exact Below.refl _ _ | assumption | apply Below.alloc | apply Below.drew | apply Below.setCell | omega | (simp; done) | (simp; omega))⟩
 ·
  skip
  have hc : auC t a (.mk k n ks) = 0 := by simpa using hcb
  obtain ⟨-, -, -, hok⟩ := au_ok hc
  have hlo := hok.lo
  have hhi := hok.hi
  have Hok := Lib.hid hok
  have Hc := Lib.hid hc
  clear hcb hc hok
  go_enter Tryz.func38, Tryz.ntmps38
  go_wp2_with fail
  have L := (Blk.new2 w 33 (.int .i64 t) (.int .i64 a)).alloc (.cells #[.int .i64 k, .int .i64 n, .slice s ks.length c] 30)
  have M := Blk.new3 (w.alloc (.cells #[.int .i64 t, .int .i64 a] 33)) 30 (.int .i64 k) (.int .i64 n) (.slice s ks.length c)
  simp at M
  have hB : Below w.heap.size w ((w.alloc (.cells #[.int .i64 t, .int .i64 a] 33)).alloc (.cells #[.int .i64 k, .int .i64 n, .slice s ks.length c] 30)) := by (repeat' first | exact Below.refl _ _ | assumption | apply Below.alloc | apply Below.drew | apply Below.setCell | omega | (simp; done) | (simp; omega))
  have hB0 := hB
  generalize ((w.alloc (.cells #[.int .i64 t, .int .i64 a] 33)).alloc (.cells #[.int .i64 k, .int .i64 n, .slice s ks.length c] 30)) = v0 at L M hB hB0 ⊢
  have l0 := L.c0
  have l1 := L.c1
  have m0 := M.c0
  have m1 := M.c1
  have m2 := M.c2
  have ltL := L.lt
  have ltM := M.lt
  go_wp2_with fail
  refine (l01Ok_i (M.exAt (hr.below hB)) Hsz.out).mono ?_
  rintro x w1 ⟨rfl, hb⟩
  clear l0 l1 m0 m1 m2 ltL ltM
  replace hB := Below.on hB hb hB.size
  replace L := L.below hb
  replace M := M.below hb
  clear hb
  have szW1 := hB.size
  cases hs1 : okB t a (.mk k n ks)
  ·
   have l0 := L.c0
   have l1 := L.c1
   have ltL := L.lt
   have m0 := M.c0
   have m1 := M.c1
   have m2 := M.c2
   have ltM := M.lt
   go_wp2_with fail
   go_ret2
   exact ⟨ret_ii (by simp [cwR, hs1]) (by simp [cwC, hs1]), hB⟩
  have Hs1 := Lib.hid hs1
  clear hs1
  have l0 := L.c0
  have l1 := L.c1
  have m0 := M.c0
  have m1 := M.c1
  have m2 := M.c2
  have ltL := L.lt
  have ltM := M.lt
  go_wp2_with fail
  refine (in_any x 0 10 _).mono ?_
  rintro x w2 ⟨rfl, rfl⟩
  clear l0 l1 m0 m1 m2 ltL ltM
  cases hs2 : inB x 0 10
  ·
   have l0 := L.c0
   have l1 := L.c1
   have ltL := L.lt
   have m0 := M.c0
   have m1 := M.c1
   have m2 := M.c2
   have ltM := M.lt
   go_wp2_with fail
   go_ret2
   exact ⟨ret_ii (by simp [cwR, hs2]) (by simp [cwC, Hs1.out, hs2]), hB⟩
  have Hs2 := Lib.hid hs2
  clear hs2
  have l0 := L.c0
  have l1 := L.c1
  have m0 := M.c0
  have m1 := M.c1
  have m2 := M.c2
  have ltL := L.lt
  have ltM := M.lt
  go_wp2_with fail
  refine ((l02Made_au Hs1.out (M.exAt (hr.below hB))).mono fun _ _ h => h.yes Hc.out).mono ?_
  rintro x w3 ⟨sb, cb, sd, cd, rfl, hf, hb⟩
  clear l0 l1 m0 m1 m2 ltL ltM
  replace hB := Below.on hB hb hB.size
  replace L := L.below hb
  replace M := M.below hb
  clear hb
  have szW3 := hB.size
  have l0 := L.c0
  have l1 := L.c1
  have m0 := M.c0
  have m1 := M.c1
  have m2 := M.c2
  have ltL := L.lt
  have ltM := M.lt
  go_wp2_with fail
  have HR : Hid (cwR t a (.mk k n ks) x = (cntN (auA t a (.mk k n ks)) (auX t a (.mk k n ks)) x.toNat).getD 0 0) := by show _ = _; simp [cwR, Hs1.out, Hs2.out, Hc.out]
  have HK : Hid (cwC t a (.mk k n ks) x = 0) := by show _ = _; simp [cwC, Hs1.out, Hs2.out, Hc.out]
  obtain ⟨m, rfl, hm⟩ := inB_nat (m := 10) Hs2.out
  obtain ⟨v, hv, hv2⟩ := cntN_first Hok.out m
  have hpl := cntN_length Hok.out m
  have HV : Hid (cwR t a (.mk k n ks) m = v) := by show _ = _; rw [HR.out, Int.toNat_natCast, hv2]
  have hmz := Int.natCast_nonneg m
  obtain ⟨w5, e5, A, hb5, hz5⟩ := box4 w3 75 (.int .i64 t) (.int .i64 a) (.slice sb (auA t a (.mk k n ks)).length cb) (.slice sd (auX t a (.mk k n ks)).length cd)
  rw [e5]
  have hB5 := hB.trans (hb5.mono hB.size)
  have hrd := hf.rds.below hb5
  have hAt := autAt_box A hrd
  clear e5 hf hb5 l0 l1 m0 m1 m2 ltL ltM L M A hrd
  refine (l02Counts_i hAt Hok.out hm).mono ?_
  rintro x w6 ⟨s', c', rfl, hfl, hb6⟩
  have HB6 := Lib.hid (hB5.trans (hb6.mono hB5.size))
  have hrd := hfl.rd
  obtain ⟨b1, b2⟩ := nest_bd hrd
  unfold maxLen at b2
  rw [cntsL_length] at b1
  obtain ⟨pb, po, rfl⟩ := nest_some hrd (by rw [cntsL_length]; omega)
  obtain ⟨-, sp, cp, p0, rp⟩ := nest_sl (g := D.int) hrd (cntsL_at (ac := auA t a (.mk k n ks)) (nx := auX t a (.mk k n ks)) (show m < m + 1 by omega))
  obtain ⟨qb, qo, rfl⟩ := nest_some (f := D.int) rp (by omega)
  obtain ⟨-, q0⟩ := int_in rp hv
  simp only [Nat.add_zero] at q0
  obtain ⟨b3, b4⟩ := nest_bd rp
  unfold maxLen at b4
  have b5 : (1 : Nat) ≤ (cntN (auA t a (.mk k n ks)) (auX t a (.mk k n ks)) m).length := by omega
  clear hb6 hfl hrd rp hv hv2 hpl HR hAt hB5 hr
  go_wp2_with fail
  go_ret2
  exact ⟨ret_ii HV.out.symm HK.out.symm, HB6.out⟩
set_option maxHeartbeats 4000000 in
theorem implCountWords_i {t a k n x : Int} {ks : List Ex} {s : Option Addr} {c : Nat} {w : World} (hr : Rd w (kidsD ks) (.slice s ks.length c)) (h1 : Ex.sizeL ks ≤ 1048576) :
  Calls Tryz.prog 39 #[.agg #[.int .i64 t, .int .i64 a], .agg #[.int .i64 k, .int .i64 n, .slice s ks.length c], .int .i64 x] w fun e w' => e = .returned (.tuple #[.int .i64 (cwR t a (.mk k n ks) x), .int .i64 (cwC t a (.mk k n ks) x)]) ∧ Below w.heap.size w w' := by
 have Hsz : Hid (Ex.size (.mk k n ks) ≤ 1073741824) := by show _ ≤ _; rw [Ex.size_eq]; simp only [Ex.kids]; omega
 have H1 := Lib.hid h1
 cases hcb : (auC t a (.mk k n ks) != 0)
 rotate_left
 ·
  have Hc : Hid (¬ auC t a (.mk k n ks) = 0) := by show ¬ _; simpa using hcb
  go_enter Tryz.func39, Tryz.ntmps39
  go_wp2_with fail
  have L := (Blk.new2 w 33 (.int .i64 t) (.int .i64 a)).alloc (.cells #[.int .i64 k, .int .i64 n, .slice s ks.length c] 30)
  have M := Blk.new3 (w.alloc (.cells #[.int .i64 t, .int .i64 a] 33)) 30 (.int .i64 k) (.int .i64 n) (.slice s ks.length c)
  simp at M
  have hB : Below w.heap.size w ((w.alloc (.cells #[.int .i64 t, .int .i64 a] 33)).alloc (.cells #[.int .i64 k, .int .i64 n, .slice s ks.length c] 30)) := by (repeat' first | exact Below.refl _ _ | assumption | apply Below.alloc | apply Below.drew | apply Below.setCell | omega | (simp; done) | (simp; omega))
  have hB0 := hB
  generalize ((w.alloc (.cells #[.int .i64 t, .int .i64 a] 33)).alloc (.cells #[.int .i64 k, .int .i64 n, .slice s ks.length c] 30)) = v0 at L M hB hB0 ⊢
  have l0 := L.c0
  have l1 := L.c1
  have m0 := M.c0
  have m1 := M.c1
  have m2 := M.c2
  have ltL := L.lt
  have ltM := M.lt
  go_wp2_with fail
  refine (implValidExpr_i (hr.below hB)).mono ?_
  rintro x w1 ⟨rfl, hb⟩
  clear l0 l1 m0 m1 m2 ltL ltM
  replace hB := Below.on hB hb hB.size
  replace L := L.below hb
  replace M := M.below hb
  clear hb
  have szW1 := hB.size
  cases hs1 : okB t a (.mk k n ks)
  ·
   have l0 := L.c0
   have l1 := L.c1
   have ltL := L.lt
   have m0 := M.c0
   have m1 := M.c1
   have m2 := M.c2
   have ltM := M.lt
   go_wp2_with fail
   go_ret2
   exact ⟨ret_ii (by simp [cwR, hs1]) (by simp [cwC, hs1]), hB⟩
  have Hs1 := Lib.hid hs1
  clear hs1
  have l0 := L.c0
  have l1 := L.c1
  have m0 := M.c0
  have m1 := M.c1
  have m2 := M.c2
  have ltL := L.lt
  have ltM := M.lt
  go_wp2_with fail
  refine (within_any x 0 10 _).mono ?_
  rintro x w2 ⟨rfl, rfl⟩
  clear l0 l1 m0 m1 m2 ltL ltM
  cases hs2 : inB x 0 10
  ·
   have l0 := L.c0
   have l1 := L.c1
   have ltL := L.lt
   have m0 := M.c0
   have m1 := M.c1
   have m2 := M.c2
   have ltM := M.lt
   go_wp2_with fail
   go_ret2
   exact ⟨ret_ii (by simp [cwR, hs2]) (by simp [cwC, Hs1.out, hs2]), hB⟩
  have Hs2 := Lib.hid hs2
  clear hs2
  have l0 := L.c0
  have l1 := L.c1
  have m0 := M.c0
  have m1 := M.c1
  have m2 := M.c2
  have ltL := L.lt
  have ltM := M.lt
  go_wp2_with fail
  refine ((implAutomatonOf_au (t := t) (a := a) (k := k) (n := n) (hr.below hB) H1.out).mono fun _ _ h => h.no).mono ?_
  rintro x w3 ⟨t', a', s', u', l', c', m', d', rfl, hb⟩
  clear l0 l1 m0 m1 m2 ltL ltM
  replace hB := Below.on hB hb hB.size
  replace L := L.below hb
  replace M := M.below hb
  clear hb
  have szW3 := hB.size
  have l0 := L.c0
  have l1 := L.c1
  have m0 := M.c0
  have m1 := M.c1
  have m2 := M.c2
  have ltL := L.lt
  have ltM := M.lt
  go_wp2_with fail
  go_ret2
  exact ⟨ret_ii (by simp [cwR, Hc.out]) (by simp [cwC, Hs1.out, Hs2.out]), by (repeat' first | exact Below.refl _ _ | assumption | apply Below.alloc | apply Below.drew | apply Below.setCell | omega | (simp; done) | (simp; omega))⟩
 ·
  skip
  have hc : auC t a (.mk k n ks) = 0 := by simpa using hcb
  obtain ⟨-, -, -, hok⟩ := au_ok hc
  have hlo := hok.lo
  have hhi := hok.hi
  have Hok := Lib.hid hok
  have Hc := Lib.hid hc
  clear hcb hc hok
  go_enter Tryz.func39, Tryz.ntmps39
  go_wp2_with fail
  have L := (Blk.new2 w 33 (.int .i64 t) (.int .i64 a)).alloc (.cells #[.int .i64 k, .int .i64 n, .slice s ks.length c] 30)
  have M := Blk.new3 (w.alloc (.cells #[.int .i64 t, .int .i64 a] 33)) 30 (.int .i64 k) (.int .i64 n) (.slice s ks.length c)
  simp at M
  have hB : Below w.heap.size w ((w.alloc (.cells #[.int .i64 t, .int .i64 a] 33)).alloc (.cells #[.int .i64 k, .int .i64 n, .slice s ks.length c] 30)) := by (repeat' first | exact Below.refl _ _ | assumption | apply Below.alloc | apply Below.drew | apply Below.setCell | omega | (simp; done) | (simp; omega))
  have hB0 := hB
  generalize ((w.alloc (.cells #[.int .i64 t, .int .i64 a] 33)).alloc (.cells #[.int .i64 k, .int .i64 n, .slice s ks.length c] 30)) = v0 at L M hB hB0 ⊢
  have l0 := L.c0
  have l1 := L.c1
  have m0 := M.c0
  have m1 := M.c1
  have m2 := M.c2
  have ltL := L.lt
  have ltM := M.lt
  go_wp2_with fail
  refine (implValidExpr_i (hr.below hB)).mono ?_
  rintro x w1 ⟨rfl, hb⟩
  clear l0 l1 m0 m1 m2 ltL ltM
  replace hB := Below.on hB hb hB.size
  replace L := L.below hb
  replace M := M.below hb
  clear hb
  have szW1 := hB.size
  cases hs1 : okB t a (.mk k n ks)
  ·
   have l0 := L.c0
   have l1 := L.c1
   have ltL := L.lt
   have m0 := M.c0
   have m1 := M.c1
   have m2 := M.c2
   have ltM := M.lt
   go_wp2_with fail
   go_ret2
   exact ⟨ret_ii (by simp [cwR, hs1]) (by simp [cwC, hs1]), hB⟩
  have Hs1 := Lib.hid hs1
  clear hs1
  have l0 := L.c0
  have l1 := L.c1
  have m0 := M.c0
  have m1 := M.c1
  have m2 := M.c2
  have ltL := L.lt
  have ltM := M.lt
  go_wp2_with fail
  refine (within_any x 0 10 _).mono ?_
  rintro x w2 ⟨rfl, rfl⟩
  clear l0 l1 m0 m1 m2 ltL ltM
  cases hs2 : inB x 0 10
  ·
   have l0 := L.c0
   have l1 := L.c1
   have ltL := L.lt
   have m0 := M.c0
   have m1 := M.c1
   have m2 := M.c2
   have ltM := M.lt
   go_wp2_with fail
   go_ret2
   exact ⟨ret_ii (by simp [cwR, hs2]) (by simp [cwC, Hs1.out, hs2]), hB⟩
  have Hs2 := Lib.hid hs2
  clear hs2
  have l0 := L.c0
  have l1 := L.c1
  have m0 := M.c0
  have m1 := M.c1
  have m2 := M.c2
  have ltL := L.lt
  have ltM := M.lt
  go_wp2_with fail
  refine ((implAutomatonOf_au (t := t) (a := a) (k := k) (n := n) (hr.below hB) H1.out).mono fun _ _ h => h.yes Hc.out).mono ?_
  rintro x w3 ⟨sb, cb, sd, cd, rfl, hf, hb⟩
  clear l0 l1 m0 m1 m2 ltL ltM
  replace hB := Below.on hB hb hB.size
  replace L := L.below hb
  replace M := M.below hb
  clear hb
  have szW3 := hB.size
  have l0 := L.c0
  have l1 := L.c1
  have m0 := M.c0
  have m1 := M.c1
  have m2 := M.c2
  have ltL := L.lt
  have ltM := M.lt
  go_wp2_with fail
  have HR : Hid (cwR t a (.mk k n ks) x = (cntN (auA t a (.mk k n ks)) (auX t a (.mk k n ks)) x.toNat).getD 0 0) := by show _ = _; simp [cwR, Hs1.out, Hs2.out, Hc.out]
  have HK : Hid (cwC t a (.mk k n ks) x = 0) := by show _ = _; simp [cwC, Hs1.out, Hs2.out, Hc.out]
  obtain ⟨m, rfl, hm⟩ := inB_nat (m := 10) Hs2.out
  obtain ⟨v, hv, hv2⟩ := cntN_first Hok.out m
  have hpl := cntN_length Hok.out m
  have HV : Hid (cwR t a (.mk k n ks) m = v) := by show _ = _; rw [HR.out, Int.toNat_natCast, hv2]
  have hmz := Int.natCast_nonneg m
  obtain ⟨w5, e5, A, hb5, hz5⟩ := box4 w3 75 (.int .i64 t) (.int .i64 a) (.slice sb (auA t a (.mk k n ks)).length cb) (.slice sd (auX t a (.mk k n ks)).length cd)
  rw [e5]
  have hB5 := hB.trans (hb5.mono hB.size)
  have hrd := hf.rds.below hb5
  clear e5 hf hb5 l0 l1 m0 m1 m2 ltL ltM L M A
  refine (countFrom_i (Rds.two hrd).1 (Rds.two hrd).2 Hok.out hm).mono ?_
  rintro e w6 ⟨g, rfl, hfl, hb6⟩
  have HB6 := Lib.hid (hB5.trans (hb6.mono hB5.size))
  obtain ⟨-, q0⟩ := int_in hfl.rd hv
  simp only [Nat.add_zero] at q0
  clear hb6 hfl hrd hv hv2 hpl HR hB5 hr
  go_wp2_with fail
  go_ret2
  exact ⟨ret_ii HV.out.symm HK.out.symm, HB6.out⟩
end Go.Proofs.YtjlmdhoajfdkbaaGreatDoor

namespace Go.Proofs.YtjlmdhoajfdkbaaGreatDoor
set_option linter.unusedVariables false
set_option linter.unusedSimpArgs false
open Go.ChangeShapes Go.WideShapes Go.ChangeAt Go.RowKit
set_option maxRecDepth 100000 in
set_option maxHeartbeats 4000000 in
theorem law_CountWords (t0 a0 : Int) (k1 n1 : Int) (ks1 : List Ex) (s1 : Option Addr) (c1 : Nat) (x2 : Int) (w : World) (hr1 : Rd w (kidsD ks1) (.slice s1 ks1.length c1)) :
  Calls Tryz.prog 7 #[.agg #[.int .i64 t0, .int .i64 a0], .agg #[.int .i64 k1, .int .i64 n1, .slice s1 ks1.length c1], .int .i64 x2] w fun e w' => e = .returned (.bool true) ∧ Below w.heap.size w w' := by
 have ef1 : eqb (Ex.mk k1 n1 ks1) (Ex.mk k1 n1 ks1) = true := by simp [eqb_true]
 go_enter Tryz.func7, Tryz.ntmps7
 go_wp2_with fail
 have L0 := (Blk.new2 w 23 (.int .i64 t0) (.int .i64 a0)).alloc (.cells #[.int .i64 k1, .int .i64 n1, .slice s1 ks1.length c1] 26)
 have L1 := Blk.new3 (w.alloc (.cells #[.int .i64 t0, .int .i64 a0] 23)) 26 (.int .i64 k1) (.int .i64 n1) (.slice s1 ks1.length c1)
 simp at L1
 refine (szExpr_i (by repeat (first | exact hr1 | apply Rd.alloc)) (by omega) (by omega)).mono ?_
 rintro e w1 ⟨⟨r1, rfl, ra1, rb1, rc1⟩, hb⟩
 replace L0 := L0.below hb
 replace L1 := L1.below hb
 have hB : Below w.heap.size w w1 := Below.on (by (repeat' first | exact Below.refl _ _ | assumption | apply Below.alloc | apply Below.drew | apply Below.setCell | omega | (simp; done) | (simp; omega))) hb (by simp <;> omega)
 have l0c0 := L0.c0
 have l0c1 := L0.c1
 have ltL0 := L0.lt
 have l1c0 := L1.c0
 have l1c1 := L1.c1
 have l1c2 := L1.c2
 have ltL1 := L1.lt
 clear hb
 by_cases hneg1 : r1 < 0
 ·
  go_wp2_with fail
  go_ret
  exact ⟨rfl, hB⟩
 have hd1 : decide (r1 < 0) = false := by simpa using hneg1
 have rd1 := rc1 (by omega)
 clear rc1
 have hsz1 : Ex.sizeL ks1 ≤ 1048576 := by omega
 -- wa
 go_wp2_with fail
 go_region_held3 (fun w' => (∀ b o, b < w1.heap.size → w'.cell? ⟨b, o, none⟩ = w1.cell? ⟨b, o, none⟩) ∧ Below w1.heap.size w1 w')
  (first | exact kp_drew w1 | exact kp_on ‹_› hb)
  (first
   | (go_at_call 16; ((with_reducible refine (toSig_any t0 a0 _).mono ?_); rintro e wa0 ⟨rfl, hb⟩))
   | (go_at_call 17; have hK := ‹(∀ b o, b < w1.heap.size → _) ∧ Below w1.heap.size w1 _›; ((with_reducible refine (toExpr_i (hr1.below (Below.on hB hK.2 hB.size)) hsz1).mono ?_); rintro e wa1 ⟨sxwa1, cxwa1, rfl, hfwa1, hb⟩))
   | (go_at_call 38; have hK := ‹(∀ b o, b < w1.heap.size → _) ∧ Below w1.heap.size w1 _›; ((with_reducible refine (specCountWords_i (hfwa1.rds.one) hsz1).mono ?_); rintro e waz ⟨rfl, hb⟩)))
 have hK := ‹(∀ b o, b < w1.heap.size → _) ∧ Below w1.heap.size w1 _›
 clear l0c0 l0c1 ltL0 l1c0 l1c1 l1c2 ltL1
 replace L0 := L0.below hK.2
 replace L1 := L1.below hK.2
 replace hB := Below.on hB hK.2 hB.size
 have l0c0 := L0.c0
 have l0c1 := L0.c1
 have ltL0 := L0.lt
 have l1c0 := L1.c0
 have l1c1 := L1.c1
 have l1c2 := L1.c2
 have ltL1 := L1.lt
 clear hK
 go_wp2_with fail
 refine (toExpr_i (hr1.below hB) hsz1).mono ?_
 rintro e wx1 ⟨sxx1, cxx1, rfl, hfx1, hb⟩
 clear l0c0 l0c1 ltL0 l1c0 l1c1 l1c2 ltL1
 replace L0 := L0.below hb
 replace L1 := L1.below hb
 replace hB := Below.on hB hb hB.size
 have l0c0 := L0.c0
 have l0c1 := L0.c1
 have ltL0 := L0.lt
 have l1c0 := L1.c0
 have l1c1 := L1.c1
 have l1c2 := L1.c2
 have ltL1 := L1.lt
 clear hb
 go_wp2_with fail
 have X1 := Blk.new3 wx1 30 (.int .i64 k1) (.int .i64 n1) (.slice sxx1 ks1.length cxx1)
 clear l0c0 l0c1 ltL0 l1c0 l1c1 l1c2 ltL1
 replace L0 := L0.alloc (.cells #[.int .i64 k1, .int .i64 n1, .slice sxx1 ks1.length cxx1] 30)
 replace L1 := L1.alloc (.cells #[.int .i64 k1, .int .i64 n1, .slice sxx1 ks1.length cxx1] 30)
 replace hfx1 := hfx1.on (Below.alloc (Below.refl _ _) (Nat.le_refl _) (.cells #[.int .i64 k1, .int .i64 n1, .slice sxx1 ks1.length cxx1] 30))
 replace hB := hB.alloc hB.size (.cells #[.int .i64 k1, .int .i64 n1, .slice sxx1 ks1.length cxx1] 30)
 generalize wx1.alloc (.cells #[.int .i64 k1, .int .i64 n1, .slice sxx1 ks1.length cxx1] 30) = wb1 at L0 L1 hfx1 X1 hB ⊢
 have l0c0 := L0.c0
 have l0c1 := L0.c1
 have ltL0 := L0.lt
 have l1c0 := L1.c0
 have l1c1 := L1.c1
 have l1c2 := L1.c2
 have ltL1 := L1.lt
 have x1c0 := X1.c0
 have x1c1 := X1.c1
 have x1c2 := X1.c2
 have ltX1 := X1.lt
 -- wi
 go_wp2_with fail
 go_region_held3 (fun w' => (∀ b o, b < wb1.heap.size → w'.cell? ⟨b, o, none⟩ = wb1.cell? ⟨b, o, none⟩) ∧ Below wb1.heap.size wb1 w')
  (first | exact kp_drew wb1 | exact kp_on ‹_› hb)
  (first
   | (go_at_call 16; ((with_reducible refine (toSig_any t0 a0 _).mono ?_); rintro e wi0 ⟨rfl, hb⟩))
   | (go_at_call 39; have hK := ‹(∀ b o, b < wb1.heap.size → _) ∧ Below wb1.heap.size wb1 _›; ((with_reducible refine (implCountWords_i (hfx1.rds.one.below hK.2) hsz1).mono ?_); rintro e wiz ⟨rfl, hb⟩)))
 have hK := ‹(∀ b o, b < wb1.heap.size → _) ∧ Below wb1.heap.size wb1 _›
 clear l0c0 l0c1 ltL0 l1c0 l1c1 l1c2 ltL1 x1c0 x1c1 x1c2 ltX1
 replace L0 := L0.below hK.2
 replace L1 := L1.below hK.2
 replace hfx1 := hfx1.on hK.2
 replace X1 := X1.below hK.2
 replace hB := Below.on hB hK.2 hB.size
 have l0c0 := L0.c0
 have l0c1 := L0.c1
 have ltL0 := L0.lt
 have l1c0 := L1.c0
 have l1c1 := L1.c1
 have l1c2 := L1.c2
 have ltL1 := L1.lt
 have x1c0 := X1.c0
 have x1c1 := X1.c1
 have x1c2 := X1.c2
 have ltX1 := X1.lt
 clear hK
 go_wp2_with fail
 -- is the copy 1 as it was?
 go_region_held3 (fun w' => (∀ b o, b < wiz.heap.size → w'.cell? ⟨b, o, none⟩ = wiz.cell? ⟨b, o, none⟩) ∧ Below wiz.heap.size wiz w')
  (first | exact kp_drew wiz | exact kp_on ‹_› hb)
  (first
   | (go_at_call 17; have hK := ‹(∀ b o, b < wiz.heap.size → _) ∧ Below wiz.heap.size wiz _›; ((with_reducible refine (toExpr_i (hr1.below (Below.on hB hK.2 hB.size)) hsz1).mono ?_); rintro e wy1 ⟨sxy1, cxy1, rfl, hfy1, hb⟩))
   | (go_at_call 19; have hK := ‹(∀ b o, b < wiz.heap.size → _) ∧ Below wiz.heap.size wiz _›; ((with_reducible refine (eqExpr_i ((hfx1.rds.one).below hK.2) (hfy1.rds.one)).mono ?_); rintro e wz1 ⟨rfl, hb⟩)))
 have hK := ‹(∀ b o, b < wiz.heap.size → _) ∧ Below wiz.heap.size wiz _›
 clear l0c0 l0c1 ltL0 l1c0 l1c1 l1c2 ltL1 x1c0 x1c1 x1c2 ltX1
 replace L0 := L0.below hK.2
 replace L1 := L1.below hK.2
 replace hfx1 := hfx1.on hK.2
 replace X1 := X1.below hK.2
 replace hB := Below.on hB hK.2 hB.size
 have l0c0 := L0.c0
 have l0c1 := L0.c1
 have ltL0 := L0.lt
 have l1c0 := L1.c0
 have l1c1 := L1.c1
 have l1c2 := L1.c2
 have ltL1 := L1.lt
 have x1c0 := X1.c0
 have x1c1 := X1.c1
 have x1c2 := X1.c2
 have ltX1 := X1.lt
 clear hK
 try simp only [ef1, Bool.not_true]
 go_wp2_with fail
 go_ret
 exact ⟨rfl, hB⟩
set_option maxRecDepth 100000 in
theorem law_CountWords_of {H : Type} {enc : TypeId × Value → H} (W : World) (args : Array Value) (ds : List (DataW H)) (ps : List MemPlace) (hA : DataW.TrodAll enc Tryz.prog W 0 (fun _ => true) true Tryz.f7.params.toList args.toList ds ps)
  (hval : ∀ (j : Nat) t v, Tryz.f7.params[j]? = some t → args[j]? = some v → ∃ base, Value.okWide Tryz.prog W .any base t v) :
  Calls Tryz.prog 7 args W fun e W' => e = .returned (.bool true) ∧ Below W.heap.size W W' := by
 rw [Tryz.params7] at hA hval
 obtain ⟨v0, vs0, d0', ds0, p0, q0, hargs, rfl, rfl, h0, ra0⟩ := trodAll_cons hA
 obtain ⟨v1, vs1, d1', ds1, p1, q1, rfl, rfl, rfl, h1, ra1⟩ := trodAll_cons ra0
 obtain ⟨v2, vs2, d2', ds2, p2, q2, rfl, rfl, rfl, h2, ra2⟩ := trodAll_cons ra1
 obtain ⟨rfl, rfl, rfl⟩ := trodAll_nil ra2
 obtain rfl : args = #[v0, v1, v2] := Array.toList_inj.1 hargs
 obtain ⟨t0, a0, rfl⟩ := open_lawsSig h0
 obtain ⟨k1, n1, ks1, s1, c1, rfl, hr1⟩ := open_lawsExpr h1
 obtain ⟨base2, hv2⟩ := hval 2 2 v2 rfl rfl
 obtain ⟨x2, rfl, rfl, rfl, -⟩ := open_int Tryz.underlying2 hv2 h2
 exact law_CountWords t0 a0 k1 n1 ks1 s1 c1 x2 W hr1
end Go.Proofs.YtjlmdhoajfdkbaaGreatDoor
