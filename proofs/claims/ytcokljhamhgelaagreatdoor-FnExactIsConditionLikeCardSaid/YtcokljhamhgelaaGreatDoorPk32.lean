/-
  Parts of a proof, joined: CkT, Sz, To, Eq, LawIsConditionLike. No condition.
-/
import Derived.Test.YtcokljhamhgelaaGreatDoorPk31
namespace Go.Proofs.YtcokljhamhgelaaGreatDoor
set_option linter.unusedVariables false
set_option linter.unusedSimpArgs false
open Go.ChangeShapes Go.WideShapes Go.ChangeAt Go.RowKit Go.Deep
theorem ck_any {α : Type} {p : α → Bool} {L : List α} {j : Nat} {x : α} (h : L[j]? = some x) : (L.take (j + 1)).any p = ((L.take j).any p || p x) := by
 obtain ⟨h1, rfl⟩ := List.getElem?_eq_some_iff.1 h
 rw [List.take_succ_eq_append_getElem h1, List.any_append]
 simp
section
variable {t a : Int} {ac : List (List Bool)} {nx : List (List (List Int))}
theorem ck_left {PF : List WL} {A n : Nat} {l : WL} : ((rowsR PF A n l).any fun row => row.any fun z => decide (0 ≤ z)) = true ↔ ∃ m k, m < A ∧ k < n ∧ derW m k l ≠ none := by
 unfold rowsR
 rw [List.any_eq_true]
 constructor
 ·
  rintro ⟨row, hr, hz⟩
  obtain ⟨m, hm, rfl⟩ := List.mem_map.1 hr
  rw [List.any_eq_true] at hz
  obtain ⟨z, hz, h0⟩ := hz
  unfold rowR at hz
  obtain ⟨k, hk, rfl⟩ := List.mem_map.1 hz
  refine ⟨m, k, List.mem_range.1 hm, List.mem_range.1 hk, fun e => ?_⟩
  rw [e] at h0
  simp [numO] at h0
 ·
  rintro ⟨m, k, hm, hk, hd⟩
  refine ⟨_, List.mem_map.2 ⟨m, List.mem_range.2 hm, rfl⟩, ?_⟩
  rw [List.any_eq_true]
  unfold rowR
  refine ⟨_, List.mem_map.2 ⟨k, List.mem_range.2 hk, rfl⟩, ?_⟩
  cases he : derW m k l with
  | none => exact absurd he hd
  | some x => simp [numO]
theorem ck_right (h : AutOk t a ac nx) : (nx.getD 0 []).any (hitR (liveB ac nx)) = true ↔ ∃ m k, m < (atomsN t).toNat ∧ k < a.toNat ∧ lgN ac nx (atomsN t).toNat a.toNat (goN nx 0 m k) ≠ noW := by
 have hlo := h.lo
 obtain ⟨nr, hnr⟩ : ∃ e, nx[0]? = some e := ⟨_, List.getElem?_eq_getElem (by rw [h.len]; omega)⟩
 obtain ⟨l1, l2⟩ := h.row hnr
 have hd := h.dims
 have hgo : ∀ (m k : Nat) (row : List Int) (z : Int), nr[m]? = some row → row[k]? = some z → goN nx 0 m k = z := fun m k row z h1 h2 => by
  have := goN_nat (nx := nx) (s := 0) (m := m) (k := k)
  rw [getD_of hnr, getD_of h1, getD_of h2] at this
  exact this
 rw [getD_of hnr, List.any_eq_true]
 constructor
 ·
  rintro ⟨row, hr, hz⟩
  obtain ⟨z, hz, h0, hlv⟩ := hitR_true.1 hz
  obtain ⟨m, hm⟩ := List.mem_iff_getElem?.1 hr
  obtain ⟨k, hk⟩ := List.mem_iff_getElem?.1 hz
  obtain ⟨r1, r2⟩ := l2 m row hm
  have hml := (List.getElem?_eq_some_iff.1 hm).1
  have hkl := (List.getElem?_eq_some_iff.1 hk).1
  have hzb := r2 k z hk
  refine ⟨m, k, by omega, by omega, ?_⟩
  rw [hgo m k row z hm hk]
  have := (live_iff h (s := z.toNat) (by omega)).1 (liveB_true.1 hlv)
  rwa [Int.toNat_of_nonneg h0] at this
 ·
  rintro ⟨m, k, hm, hk, hne⟩
  obtain ⟨row, hrow⟩ : ∃ e, nr[m]? = some e := ⟨_, List.getElem?_eq_getElem (by omega)⟩
  obtain ⟨r1, r2⟩ := l2 m row hrow
  obtain ⟨z, hz⟩ : ∃ e, row[k]? = some e := ⟨_, List.getElem?_eq_getElem (by omega)⟩
  rw [hgo m k row z hrow hz] at hne
  have hzb := r2 k z hz
  have h0 : 0 ≤ z := by
   rcases Int.lt_or_le z 0 with q | q
   ·
    exact absurd (lgN_neg q) hne
   ·
    exact q
  refine ⟨row, List.mem_of_getElem? hrow, hitR_true.2 ⟨z, List.mem_of_getElem? hz, h0, liveB_true.2 ((live_iff h (s := z.toNat) (by omega)).2 ?_)⟩⟩
  rwa [Int.toNat_of_nonneg h0]
theorem ck_eq (h : AutOk t a ac nx) (PF : List WL) : ((rowsR PF (atomsN t).toNat a.toNat (lgN ac nx (atomsN t).toNat a.toNat 0)).any fun row => row.any fun z => decide (0 ≤ z)) = (nx.getD 0 []).any (hitR (liveB ac nx)) := by
 rw [Bool.eq_iff_iff, ck_left, ck_right h]
 have hd := fun (m k : Nat) (hm : m < (atomsN t).toNat) (hk : k < a.toNat) => derW_lgN (ac := ac) (nx := nx) (s := 0) hm hk
 constructor
 ·
  rintro ⟨m, k, hm, hk, hne⟩
  refine ⟨m, k, hm, hk, fun e => hne ?_⟩
  rw [hd m k hm hk, if_pos e]
 ·
  rintro ⟨m, k, hm, hk, hne⟩
  refine ⟨m, k, hm, hk, ?_⟩
  rw [hd m k hm hk, if_neg hne]
  simp
theorem lsF_first (l : WL) (A a : Nat) : (lsF l A a)[0]? = some l := by
 unfold lsF lsL
 exact prefix_get (expl_prefix l (fun y => grid (fun m k => derW m k y) A a) (k := 0) (m := 60) (by omega)) (show ([l] : List WL)[0]? = some l from rfl)
end
noncomputable def condE (t a : Int) (e : Ex) : Bool := if auC t a e = 0 then !((auX t a e).getD 0 []).any (hitR (liveB (auA t a e) (auX t a e))) else false
set_option maxHeartbeats 8000000 in
theorem specIsConditionLike_i {t a k n : Int} {ks : List Ex} {s : Option Addr} {c : Nat} {w : World} (hr : Rd w (kidsD ks) (.slice s ks.length c)) (h1 : Ex.sizeL ks ≤ 1048576) :
  Calls Tryz.prog 6 #[.agg #[.int .i64 t, .int .i64 a], .agg #[.int .i64 k, .int .i64 n, .slice s ks.length c]] w fun e w' => e = .returned (.tuple #[.bool (condE t a (.mk k n ks)), .int .i64 (auC t a (.mk k n ks))]) ∧ Below w.heap.size w w' := by
 have Hsz : Hid (Ex.size (.mk k n ks) ≤ 1073741824) := by show _ ≤ _; rw [Ex.size_eq]; simp only [Ex.kids]; omega
 have H1 := Lib.hid h1
 cases hcb : (auC t a (.mk k n ks) != 0)
 rotate_left
 ·
  have HE : Hid (condE t a (.mk k n ks) = false) := by show _ = _; unfold condE; rw [if_neg (by simpa using hcb)]
  go_enter Tryz.func6, Tryz.ntmps6
  go_wp2_with fail
  have L := (Blk.new2 w 30 (.int .i64 t) (.int .i64 a)).alloc (.cells #[.int .i64 k, .int .i64 n, .slice s ks.length c] 34)
  have M := Blk.new3 (w.alloc (.cells #[.int .i64 t, .int .i64 a] 30)) 34 (.int .i64 k) (.int .i64 n) (.slice s ks.length c)
  simp at M
  have hB : Below w.heap.size w ((w.alloc (.cells #[.int .i64 t, .int .i64 a] 30)).alloc (.cells #[.int .i64 k, .int .i64 n, .slice s ks.length c] 34)) := by (repeat' first | exact Below.refl _ _ | assumption | apply Below.alloc | apply Below.drew | apply Below.setCell | omega | (simp; done) | (simp; omega))
  have hB0 := hB
  generalize ((w.alloc (.cells #[.int .i64 t, .int .i64 a] 30)).alloc (.cells #[.int .i64 k, .int .i64 n, .slice s ks.length c] 34)) = v0 at L M hB hB0 ⊢
  have l0 := L.c0
  have l1 := L.c1
  have m0 := M.c0
  have m1 := M.c1
  have m2 := M.c2
  have ltL := L.lt
  have ltM := M.lt
  go_wp2_with fail
  refine ((l03One_au (M.exAt (hr.below hB)) Hsz.out).mono fun _ _ h => h.no).mono ?_
  rintro x w1 ⟨t', a', s', u', l', c', m', d', rfl, hb⟩
  clear l0 l1 m0 m1 m2 ltL ltM
  replace hB := Below.on hB hb hB.size
  replace L := L.below hb
  replace M := M.below hb
  clear hb
  have szW1 := hB.size
  have l0 := L.c0
  have l1 := L.c1
  have m0 := M.c0
  have m1 := M.c1
  have m2 := M.c2
  have ltL := L.lt
  have ltM := M.lt
  go_wp2_with fail
  go_ret2
  exact ⟨ret_bi HE.out.symm rfl, by (repeat' first | exact Below.refl _ _ | assumption | apply Below.alloc | apply Below.drew | apply Below.setCell | omega | (simp; done) | (simp; omega))⟩
 ·
  skip
  have hc : auC t a (.mk k n ks) = 0 := by simpa using hcb
  obtain ⟨-, -, -, hok⟩ := au_ok hc
  have hlo := hok.lo
  have hhi := hok.hi
  have hck := ck_eq hok (lsF (lgN (auA t a (.mk k n ks)) (auX t a (.mk k n ks)) (atomsN t).toNat a.toNat 0) (atomsN t).toNat a.toNat)
  have HE : Hid (condE t a (.mk k n ks) = !((auX t a (.mk k n ks)).getD 0 []).any (hitR (liveB (auA t a (.mk k n ks)) (auX t a (.mk k n ks))))) := by show _ = _; unfold condE; rw [if_pos hc]
  have Hok := Lib.hid hok
  have Hc := Lib.hid hc
  clear hcb hc hok
  go_enter Tryz.func6, Tryz.ntmps6
  go_wp2_with fail
  have L := (Blk.new2 w 30 (.int .i64 t) (.int .i64 a)).alloc (.cells #[.int .i64 k, .int .i64 n, .slice s ks.length c] 34)
  have M := Blk.new3 (w.alloc (.cells #[.int .i64 t, .int .i64 a] 30)) 34 (.int .i64 k) (.int .i64 n) (.slice s ks.length c)
  simp at M
  have hB : Below w.heap.size w ((w.alloc (.cells #[.int .i64 t, .int .i64 a] 30)).alloc (.cells #[.int .i64 k, .int .i64 n, .slice s ks.length c] 34)) := by (repeat' first | exact Below.refl _ _ | assumption | apply Below.alloc | apply Below.drew | apply Below.setCell | omega | (simp; done) | (simp; omega))
  have hB0 := hB
  generalize ((w.alloc (.cells #[.int .i64 t, .int .i64 a] 30)).alloc (.cells #[.int .i64 k, .int .i64 n, .slice s ks.length c] 34)) = v0 at L M hB hB0 ⊢
  have l0 := L.c0
  have l1 := L.c1
  have m0 := M.c0
  have m1 := M.c1
  have m2 := M.c2
  have ltL := L.lt
  have ltM := M.lt
  go_wp2_with fail
  refine ((l03One_au (M.exAt (hr.below hB)) Hsz.out).mono fun _ _ h => h.yes Hc.out).mono ?_
  rintro x w1 ⟨sb, cb, sd, cd, rfl, hf, hb⟩
  clear l0 l1 m0 m1 m2 ltL ltM
  replace hB := Below.on hB hb hB.size
  replace L := L.below hb
  replace M := M.below hb
  clear hb
  have szW1 := hB.size
  have l0 := L.c0
  have l1 := L.c1
  have m0 := M.c0
  have m1 := M.c1
  have m2 := M.c2
  have ltL := L.lt
  have ltM := M.lt
  go_wp2_with fail
  obtain ⟨w2, e2, A, hb2, hz2⟩ := box4 w1 49 (.int .i64 t) (.int .i64 a) (.slice sb (auA t a (.mk k n ks)).length cb) (.slice sd (auX t a (.mk k n ks)).length cd)
  rw [e2]
  have hB2 := hB.trans (hb2.mono hB.size)
  have hAt := autAt_box A (hf.rds.below hb2)
  clear e2 hf hb2 l0 l1 m0 m1 m2 ltL ltM L M A
  refine (l02Least_i hAt Hok.out).mono ?_
  rintro x w3 ⟨s1, c1, s2, c2, rfl, hfl, hb3⟩
  have hrx := (Rds.two hfl.rds).2
  have hB3 := hB2.trans (hb3.mono hB2.size)
  obtain ⟨PF, hPF⟩ : ∃ PF, lsF (lgN (auA t a (.mk k n ks)) (auX t a (.mk k n ks)) (atomsN t).toNat a.toNat 0) (atomsN t).toNat a.toNat = PF := ⟨_, rfl⟩
  have hX0 : (lsX (lgN (auA t a (.mk k n ks)) (auX t a (.mk k n ks)) (atomsN t).toNat a.toNat 0) (atomsN t).toNat a.toNat)[0]? = some (rowsR PF (atomsN t).toNat a.toNat (lgN (auA t a (.mk k n ks)) (auX t a (.mk k n ks)) (atomsN t).toNat a.toNat 0)) := by
   unfold lsX
   rw [List.getElem?_map, lsF_first, hPF]
   rfl
  rw [hPF] at hck
  obtain ⟨R0, hR0⟩ : ∃ R0, rowsR PF (atomsN t).toNat a.toNat (lgN (auA t a (.mk k n ks)) (auX t a (.mk k n ks)) (atomsN t).toNat a.toNat 0) = R0 := ⟨_, rfl⟩
  rw [hR0] at hX0 hck
  obtain ⟨X, hX⟩ : ∃ X, lsX (lgN (auA t a (.mk k n ks)) (auX t a (.mk k n ks)) (atomsN t).toNat a.toNat 0) (atomsN t).toNat a.toNat = X := ⟨_, rfl⟩
  rw [hX] at hX0 hrx ⊢
  rw [← hck] at HE
  have hXl := (List.getElem?_eq_some_iff.1 hX0).1
  have hXi : (0 : Int) < (X.length : Int) := by omega
  obtain ⟨x1, x2⟩ := nest_bd hrx
  unfold maxLen at x2
  obtain ⟨ub, uo, rfl⟩ := nest_some (f := iiD) hrx hXl
  obtain ⟨lA, hlA⟩ : ∃ lA, (lsA (lgN (auA t a (.mk k n ks)) (auX t a (.mk k n ks)) (atomsN t).toNat a.toNat 0) (atomsN t).toNat a.toNat).length = lA := ⟨_, rfl⟩
  rw [hlA]
  clear hlA
  obtain ⟨w4, e4, B8, hb4, hz4⟩ := box4 w3 49 (.int .i64 t) (.int .i64 a) (.slice s1 lA c1) (.slice (some ⟨ub, uo, none⟩) X.length c2)
  have hB4 := Lib.hid (hB3.trans (hb4.mono hB3.size))
  obtain ⟨-, un, cn, b0, rb⟩ := nest_sl (g := intsD) (hrx.below hb4) hX0
  simp only [Nat.add_zero] at b0
  obtain ⟨rb1, rb2⟩ := nest_bd rb
  unfold maxLen at rb2
  obtain ⟨y0, y1, y2, y3, -, -, -, -, ltB⟩ := B8.all4
  clear hfl hb3 hAt hB2 hB3 hPF hX0 hck hR0 hX hrx
  go_wp2_with fail
  (try rw [e4])
  clear e4 hb4 hz4
  go_loop [9] (fun i => ∃ m : Nat, m ≤ R0.length ∧ i = .int .i64 m ∧ Hid (((R0.take m).any fun row => row.any fun z => decide (0 ≤ z)) = false)) (fun i => R0.length - (intOf i).toNat)
  case atStart => exact ⟨0, by omega, rfl, by show _ = _; simp⟩
  case round =>
   obtain ⟨m, hm, rfl, HN⟩ := hrel
   have hm0 := Int.natCast_nonneg m
   by_cases hml : m < R0.length
   rotate_left
   ·
    obtain rfl : m = R0.length := by omega
    have hE : Hid (condE t a (.mk k n ks) = true) := by
     show _ = _
     have h := HN.out
     rw [List.take_length] at h
     rw [HE.out, h]
     rfl
    clear HN
    go_wp2_with fail
    go_ret2
    exact ⟨ret_bi hE.out.symm Hc.out.symm, hB4.out⟩
   obtain ⟨row, hrow⟩ : ∃ e, R0[m]? = some e := ⟨_, List.getElem?_eq_getElem hml⟩
   obtain ⟨nb, no, rfl⟩ := nest_some (f := intsD) rb (by omega)
   obtain ⟨-, sr, cr, p0, rr⟩ := nest_sl (g := D.int) rb hrow
   obtain ⟨rr1, rr2⟩ := nest_bd (f := D.int) rr
   unfold maxLen at rr2
   have hmb : (m : Int) < (R0.length : Int) := by omega
   have Hsu := Lib.hid (ck_any (p := fun row : List Int => row.any fun z => decide (0 ≤ z)) hrow)
   have Hrow := Lib.hid hrow
   clear hrow
   go_wp2_with fail
   go_loop [10] (fun i => ∃ q : Nat, q ≤ row.length ∧ i = .int .i64 q ∧ Hid (((row.take q).any fun z => decide (0 ≤ z)) = false)) (fun i => row.length - (intOf i).toNat)
   case atStart => exact ⟨0, by omega, rfl, by show _ = _; simp⟩
   case round =>
    obtain ⟨q, hq, rfl, HQ⟩ := hrel
    have hq0 := Int.natCast_nonneg q
    by_cases hql : q < row.length
    rotate_left
    ·
     obtain rfl : q = row.length := by omega
     have HN2 : Hid (((R0.take (m + 1)).any fun row => row.any fun z => decide (0 ≤ z)) = false) := by
      show _ = _
      have h := HQ.out
      rw [List.take_length] at h
      rw [Hsu.out, HN.out, h]
      rfl
     clear HQ HN
     go_wp2_with fail
     go_round
     case rel => exact ⟨m + 1, by omega, by go_num, HN2⟩
     case measure => simp [intOf]; omega
    obtain ⟨z, hz⟩ : ∃ e, row[q]? = some e := ⟨_, List.getElem?_eq_getElem hql⟩
    obtain ⟨tb, to', rfl⟩ := nest_some (f := D.int) rr (by omega)
    obtain ⟨-, v0⟩ := int_in rr hz
    have hqb : (q : Int) < (row.length : Int) := by omega
    have Hs2 := Lib.hid (ck_any (p := fun z : Int => decide (0 ≤ z)) hz)
    clear hz
    by_cases h0 : 0 ≤ z
    ·
     have hd : decide (0 ≤ z) = true := decide_eq_true h0
     have hE : Hid (condE t a (.mk k n ks) = false) := by
      show _ = _
      have h1 : (row.any fun z => decide (0 ≤ z)) = true := by
       rw [List.any_eq_true]
       have h := Hs2.out
       rw [hd, Bool.or_true, List.any_eq_true] at h
       obtain ⟨y, hy, hy2⟩ := h
       exact ⟨y, List.mem_of_mem_take hy, hy2⟩
      have h2 : (R0.any fun row => row.any fun z => decide (0 ≤ z)) = true := List.any_eq_true.2 ⟨row, List.mem_of_getElem? Hrow.out, h1⟩
      rw [HE.out, h2]
      rfl
     clear HQ HN Hs2
     go_wp2_with fail
     go_ret2
     exact ⟨ret_bi hE.out.symm Hc.out.symm, hB4.out⟩
    ·
     have hd : decide (0 ≤ z) = false := decide_eq_false h0
     have HQ2 : Hid (((row.take (q + 1)).any fun z => decide (0 ≤ z)) = false) := by show _ = _; rw [Hs2.out, HQ.out, hd]; rfl
     clear HQ Hs2
     go_wp2_with fail
     go_round
     case rel => exact ⟨q + 1, by omega, by go_num, HQ2⟩
     case measure => simp [intOf]; omega
set_option maxHeartbeats 8000000 in
theorem implIsConditionLike_i {t a k n : Int} {ks : List Ex} {s : Option Addr} {c : Nat} {w : World} (hr : Rd w (kidsD ks) (.slice s ks.length c)) (h1 : Ex.sizeL ks ≤ 1048576) :
  Calls Tryz.prog 9 #[.agg #[.int .i64 t, .int .i64 a], .agg #[.int .i64 k, .int .i64 n, .slice s ks.length c]] w fun e w' => e = .returned (.tuple #[.bool (condE t a (.mk k n ks)), .int .i64 (auC t a (.mk k n ks))]) ∧ Below w.heap.size w w' := by
 have Hsz : Hid (Ex.size (.mk k n ks) ≤ 1073741824) := by show _ ≤ _; rw [Ex.size_eq]; simp only [Ex.kids]; omega
 have H1 := Lib.hid h1
 cases hcb : (auC t a (.mk k n ks) != 0)
 rotate_left
 ·
  have HE : Hid (condE t a (.mk k n ks) = false) := by show _ = _; unfold condE; rw [if_neg (by simpa using hcb)]
  go_enter Tryz.func9, Tryz.ntmps9
  go_wp2_with fail
  have L := (Blk.new2 w 30 (.int .i64 t) (.int .i64 a)).alloc (.cells #[.int .i64 k, .int .i64 n, .slice s ks.length c] 34)
  have M := Blk.new3 (w.alloc (.cells #[.int .i64 t, .int .i64 a] 30)) 34 (.int .i64 k) (.int .i64 n) (.slice s ks.length c)
  simp at M
  have hB : Below w.heap.size w ((w.alloc (.cells #[.int .i64 t, .int .i64 a] 30)).alloc (.cells #[.int .i64 k, .int .i64 n, .slice s ks.length c] 34)) := by (repeat' first | exact Below.refl _ _ | assumption | apply Below.alloc | apply Below.drew | apply Below.setCell | omega | (simp; done) | (simp; omega))
  have hB0 := hB
  generalize ((w.alloc (.cells #[.int .i64 t, .int .i64 a] 30)).alloc (.cells #[.int .i64 k, .int .i64 n, .slice s ks.length c] 34)) = v0 at L M hB hB0 ⊢
  have l0 := L.c0
  have l1 := L.c1
  have m0 := M.c0
  have m1 := M.c1
  have m2 := M.c2
  have ltL := L.lt
  have ltM := M.lt
  go_wp2_with fail
  refine ((oneAutomaton_au (t := t) (a := a) (k := k) (n := n) (hr.below hB) H1.out).mono fun _ _ h => h.no).mono ?_
  rintro x w1 ⟨t', a', s', u', l', c', m', d', rfl, hb⟩
  clear l0 l1 m0 m1 m2 ltL ltM
  replace hB := Below.on hB hb hB.size
  replace L := L.below hb
  replace M := M.below hb
  clear hb
  have szW1 := hB.size
  have l0 := L.c0
  have l1 := L.c1
  have m0 := M.c0
  have m1 := M.c1
  have m2 := M.c2
  have ltL := L.lt
  have ltM := M.lt
  go_wp2_with fail
  go_ret2
  exact ⟨ret_bi HE.out.symm rfl, by (repeat' first | exact Below.refl _ _ | assumption | apply Below.alloc | apply Below.drew | apply Below.setCell | omega | (simp; done) | (simp; omega))⟩
 ·
  skip
  have hc : auC t a (.mk k n ks) = 0 := by simpa using hcb
  obtain ⟨-, -, -, hok⟩ := au_ok hc
  have hlo := hok.lo
  have hhi := hok.hi
  have hck := ck_eq hok (lsF (lgN (auA t a (.mk k n ks)) (auX t a (.mk k n ks)) (atomsN t).toNat a.toNat 0) (atomsN t).toNat a.toNat)
  have HE : Hid (condE t a (.mk k n ks) = !((auX t a (.mk k n ks)).getD 0 []).any (hitR (liveB (auA t a (.mk k n ks)) (auX t a (.mk k n ks))))) := by show _ = _; unfold condE; rw [if_pos hc]
  have Hok := Lib.hid hok
  have Hc := Lib.hid hc
  clear hcb hc hok
  go_enter Tryz.func9, Tryz.ntmps9
  go_wp2_with fail
  have L := (Blk.new2 w 30 (.int .i64 t) (.int .i64 a)).alloc (.cells #[.int .i64 k, .int .i64 n, .slice s ks.length c] 34)
  have M := Blk.new3 (w.alloc (.cells #[.int .i64 t, .int .i64 a] 30)) 34 (.int .i64 k) (.int .i64 n) (.slice s ks.length c)
  simp at M
  have hB : Below w.heap.size w ((w.alloc (.cells #[.int .i64 t, .int .i64 a] 30)).alloc (.cells #[.int .i64 k, .int .i64 n, .slice s ks.length c] 34)) := by (repeat' first | exact Below.refl _ _ | assumption | apply Below.alloc | apply Below.drew | apply Below.setCell | omega | (simp; done) | (simp; omega))
  have hB0 := hB
  generalize ((w.alloc (.cells #[.int .i64 t, .int .i64 a] 30)).alloc (.cells #[.int .i64 k, .int .i64 n, .slice s ks.length c] 34)) = v0 at L M hB hB0 ⊢
  have l0 := L.c0
  have l1 := L.c1
  have m0 := M.c0
  have m1 := M.c1
  have m2 := M.c2
  have ltL := L.lt
  have ltM := M.lt
  go_wp2_with fail
  refine ((oneAutomaton_au (t := t) (a := a) (k := k) (n := n) (hr.below hB) H1.out).mono fun _ _ h => h.yes Hc.out).mono ?_
  rintro x w1 ⟨sb, cb, sd, cd, rfl, hf, hb⟩
  clear l0 l1 m0 m1 m2 ltL ltM
  replace hB := Below.on hB hb hB.size
  replace L := L.below hb
  replace M := M.below hb
  clear hb
  have szW1 := hB.size
  have l0 := L.c0
  have l1 := L.c1
  have m0 := M.c0
  have m1 := M.c1
  have m2 := M.c2
  have ltL := L.lt
  have ltM := M.lt
  go_wp2_with fail
  obtain ⟨w2, e2, A, hb2, hz2⟩ := box4 w1 49 (.int .i64 t) (.int .i64 a) (.slice sb (auA t a (.mk k n ks)).length cb) (.slice sd (auX t a (.mk k n ks)).length cd)
  rw [e2]
  have hB2 := hB.trans (hb2.mono hB.size)
  have hrd := hf.rds.below hb2
  have A2 := A
  clear e2 hf hb2 l0 l1 m0 m1 m2 ltL ltM L M A hck
  obtain ⟨ac, hac⟩ : ∃ ac, auA t a (.mk k n ks) = ac := ⟨_, rfl⟩
  obtain ⟨nx, hnx⟩ : ∃ nx, auX t a (.mk k n ks) = nx := ⟨_, rfl⟩
  rw [hac, hnx] at hrd A2 Hok HE ⊢
  rw [hac] at hlo hhi
  have hrx := (Rds.two hrd).2
  have hnl1 : nx.length ≤ ac.length := by rw [Hok.out.len]; exact Nat.le_refl _
  have hnl2 : ac.length ≤ nx.length := by rw [Hok.out.len]; exact Nat.le_refl _
  obtain ⟨ub, uo, rfl⟩ := nest_some (f := iiD) hrx (by omega)
  refine (alive_i (Rds.two hrd).1 hrx Hok.out).mono ?_
  rintro x w3 ⟨g, rfl, hfl, hb3⟩
  have hrf := hfl.rd
  have hB3 := Lib.hid (hB2.trans (hb3.mono hB2.size))
  obtain ⟨y0, y1, y2, y3, -, -, -, -, ltB⟩ := (A2.below hb3).all4
  obtain ⟨nr, hnr⟩ : ∃ e, nx[0]? = some e := ⟨_, List.getElem?_eq_getElem (by omega)⟩
  obtain ⟨x1, x2⟩ := nest_bd hrx
  unfold maxLen at x2
  obtain ⟨-, un, cn, b0, rb⟩ := nest_sl (g := intsD) (hrx.below hb3) hnr
  simp only [Nat.add_zero] at b0
  obtain ⟨rb1, rb2⟩ := nest_bd rb
  unfold maxLen at rb2
  obtain ⟨l1', l2'⟩ := Hok.out.row hnr
  have Hl2 := Lib.hid l2'
  have hXi : (0 : Int) < (nx.length : Int) := by omega
  have HE2 : Hid (condE t a (.mk k n ks) = !nr.any (hitR (liveB ac nx))) := by show _ = _; rw [HE.out, getD_of hnr]
  clear hfl hb3 hB2 hrd hrx hnr l1' l2' A2 hac hnx HE
  go_wp2_with fail
  go_loop [29] (fun i => ∃ m : Nat, m ≤ nr.length ∧ i = .int .i64 m ∧ Hid ((nr.take m).any (hitR (liveB ac nx)) = false)) (fun i => nr.length - (intOf i).toNat)
  case atStart => exact ⟨0, by omega, rfl, by show _ = _; simp⟩
  case round =>
   obtain ⟨m, hm, rfl, HN⟩ := hrel
   have hm0 := Int.natCast_nonneg m
   by_cases hml : m < nr.length
   rotate_left
   ·
    obtain rfl : m = nr.length := by omega
    have hE : Hid (condE t a (.mk k n ks) = true) := by
     show _ = _
     have h := HN.out
     rw [List.take_length] at h
     rw [HE2.out, h]
     rfl
    clear HN
    go_wp2_with fail
    go_ret2
    exact ⟨ret_bi hE.out.symm Hc.out.symm, hB3.out⟩
   obtain ⟨row, hrow⟩ : ∃ e, nr[m]? = some e := ⟨_, List.getElem?_eq_getElem hml⟩
   obtain ⟨nb, no, rfl⟩ := nest_some (f := intsD) rb (by omega)
   obtain ⟨-, sr, cr, p0, rr⟩ := nest_sl (g := D.int) rb hrow
   obtain ⟨rr1, rr2⟩ := nest_bd (f := D.int) rr
   unfold maxLen at rr2
   have hmb : (m : Int) < (nr.length : Int) := by omega
   have Hsu := Lib.hid (ck_any (p := hitR (liveB ac nx)) hrow)
   have Hrow := Lib.hid hrow
   have Hr2 := Lib.hid (Hl2.out m row hrow).2
   clear hrow
   go_wp2_with fail
   go_loop [35] (fun i => ∃ q : Nat, q ≤ row.length ∧ i = .int .i64 q ∧ Hid (hitR (liveB ac nx) (row.take q) = false)) (fun i => row.length - (intOf i).toNat)
   case atStart => exact ⟨0, by omega, rfl, hitR_zero⟩
   case round =>
    obtain ⟨q, hq, rfl, HQ⟩ := hrel
    have hq0 := Int.natCast_nonneg q
    by_cases hql : q < row.length
    rotate_left
    ·
     obtain rfl : q = row.length := by omega
     have HN2 : Hid ((nr.take (m + 1)).any (hitR (liveB ac nx)) = false) := by
      show _ = _
      have h := HQ.out
      rw [List.take_length] at h
      rw [Hsu.out, HN.out, h]
      rfl
     clear HQ HN
     go_wp2_with fail
     go_round
     case rel => exact ⟨m + 1, by omega, by go_num, HN2⟩
     case measure => simp [intOf]; omega
    obtain ⟨z, hz⟩ : ∃ e, row[q]? = some e := ⟨_, List.getElem?_eq_getElem hql⟩
    obtain ⟨tb, to', rfl⟩ := nest_some (f := D.int) rr (by omega)
    obtain ⟨-, v0⟩ := int_in rr hz
    have hzb := Hr2.out q z hz
    have hqb : (q : Int) < (row.length : Int) := by omega
    have Hs2 := Lib.hid (hitR_succ (P := liveB ac nx) hz)
    have Hz := Lib.hid hz
    clear hz
    by_cases h0 : 0 ≤ z
    ·
     have hd : decide (0 ≤ z) = true := decide_eq_true h0
     obtain ⟨zn, rfl⟩ : ∃ zn : Nat, z = (zn : Int) := ⟨z.toNat, by omega⟩
     have hzl : (zn : Int) < (ac.length : Int) := by omega
     obtain ⟨-, f0⟩ := int_in hrf (farL_at (nx := nx) (n := ac.length - 1) (s := zn) (by omega))
     rw [Nat.zero_add] at f0
     have hfl := far_live Hok.out (s := zn) (by omega)
     obtain ⟨fv, hfv⟩ : ∃ v, farV ac nx (ac.length - 1) zn = v := ⟨_, rfl⟩
     rw [hfv] at f0 hfl
     have Hfl := Lib.hid hfl
     clear hfl hfv
     by_cases hfz : 0 ≤ fv
     ·
      have hd2 : decide (0 ≤ fv) = true := decide_eq_true hfz
      have hE : Hid (condE t a (.mk k n ks) = false) := by
       show _ = _
       have h1 : hitR (liveB ac nx) row = true := hitR_true.2 ⟨(zn : Int), List.mem_of_getElem? Hz.out, h0, by rw [Int.toNat_natCast, Hfl.out, hd2]⟩
       have h2 : nr.any (hitR (liveB ac nx)) = true := List.any_eq_true.2 ⟨row, List.mem_of_getElem? Hrow.out, h1⟩
       rw [HE2.out, h2]
       rfl
      clear HQ HN Hs2
      go_wp2_with fail
      go_ret2
      exact ⟨ret_bi hE.out.symm Hc.out.symm, hB3.out⟩
     ·
      have hd2 : decide (0 ≤ fv) = false := decide_eq_false hfz
      have HQ2 : Hid (hitR (liveB ac nx) (row.take (q + 1)) = false) := by show _ = _; rw [Hs2.out, HQ.out, Int.toNat_natCast, Hfl.out, hd2, Bool.and_false]; rfl
      clear HQ Hs2
      go_wp2_with fail
      go_round
      case rel => exact ⟨q + 1, by omega, by go_num, HQ2⟩
      case measure => simp [intOf]; omega
    ·
     have hd : decide (0 ≤ z) = false := decide_eq_false h0
     have HQ2 : Hid (hitR (liveB ac nx) (row.take (q + 1)) = false) := by show _ = _; rw [Hs2.out, HQ.out, hd, Bool.false_and]; rfl
     clear HQ Hs2
     go_wp2_with fail
     go_round
     case rel => exact ⟨q + 1, by omega, by go_num, HQ2⟩
     case measure => simp [intOf]; omega
end Go.Proofs.YtcokljhamhgelaaGreatDoor

namespace Go.Proofs.YtcokljhamhgelaaGreatDoor
set_option linter.unusedVariables false
set_option linter.unusedSimpArgs false
open Go.ChangeShapes Go.WideShapes Go.ChangeAt Go.RowKit
def Szd (n : Nat) (left : Int) (e : Ending) : Prop := ∃ r : Int, e = .returned (.int .i64 r) ∧ r ≤ left ∧ -1 ≤ r ∧ (0 ≤ r → (n : Int) + r ≤ left)
def SzS (N : Nat) : Prop := ∀ (ks : List Ex) (s : Option Addr) (cap : Nat) (left : Int) (w : World), Ex.sizeL ks ≤ N → Rd w (kidsD ks) (.slice s ks.length cap) → 0 ≤ left → left ≤ 1048576 →
  Calls Tryz.prog 16 #[.slice s ks.length cap, .int .i64 left] w fun e w' => Szd (Ex.sizeL ks) left e ∧ Below w.heap.size w w'
theorem szExpr_of {N : Nat} (hS : SzS N) (k n : Int) (ks : List Ex) (s : Option Addr) (cap : Nat) (left : Int) (w : World) (hN : Ex.sizeL ks ≤ N) (hr : Rd w (kidsD ks) (.slice s ks.length cap)) (h0 : 0 ≤ left) (h1 : left ≤ 1048576) :
  Calls Tryz.prog 5 #[.agg #[.int .i64 k, .int .i64 n, .slice s ks.length cap], .int .i64 left] w fun e w' => Szd (Ex.sizeL ks) left e ∧ Below w.heap.size w w' := by
 go_enter Tryz.func5, Tryz.ntmps5
 go_wp2_with fail
 refine (hS ks s cap left _ hN (hr.alloc _) h0 h1).mono ?_
 rintro e w1 ⟨⟨r, rfl, r1, r2, r3⟩, hb⟩
 have hB : Below w.heap.size w w1 := Below.on (by (repeat' first | exact Below.refl _ _ | assumption | apply Below.alloc | apply Below.drew | apply Below.setCell | omega | (simp; done) | (simp; omega))) hb (by simp)
 clear hb
 go_wp2
 ·
  go_ret
  exact ⟨⟨-1, rfl, by omega, by omega, by omega⟩, hB⟩
 ·
  go_ret
  exact ⟨⟨r, rfl, r1, r2, r3⟩, hB⟩
set_option maxHeartbeats 400000 in
theorem szExprS_all (N : Nat) : SzS N := by
 induction N using Nat.strongRecOn with
 | _ N ih =>
 intro ks s cap left w hN hr h0 h1
 obtain ⟨-, hlen, hcap, -, -⟩ := kid_at hr
 unfold maxLen at hcap
 have hsz := Ex.length_le_sizeL ks
 by_cases hneg : left - (ks.length : Int) < 0
 ·
  go_enter Tryz.func16, Tryz.ntmps16
  go_wp2_with fail
  go_ret
  exact ⟨⟨-1, rfl, by omega, by omega, by omega⟩, Below.refl _ _⟩
 ·
  have hd : decide (left - (ks.length : Int) < 0) = false := by simpa using hneg
  go_enter Tryz.func16, Tryz.ntmps16
  go_wp2_with fail
  go_loopw [1, 5] (fun l i wr => ∃ (k : Nat) (r : Int), k ≤ ks.length ∧ i = .int .i64 k ∧ l = .int .i64 r ∧ 0 ≤ r ∧ (ks.length : Int) + (Ex.sizeL (ks.take k) : Int) - k + r ≤ left ∧ r ≤ left ∧ Below w.heap.size w wr) (fun _ i _ => ks.length - (intOf i).toNat)
  case atStart => exact ⟨0, _, by omega, rfl, rfl, by omega, by simp [Ex.sizeL]; omega, by omega, Below.refl _ _⟩
  case round =>
   obtain ⟨k, r, hk, rfl, rfl, hr0, hr1, hr2, hB⟩ := hrel
   by_cases hlt : k < ks.length
   ·
    obtain ⟨e, he⟩ : ∃ e, ks[k]? = some e := ⟨_, List.getElem?_eq_getElem hlt⟩
    obtain ⟨b, o, rfl⟩ := kid_some hr (by intro h; simp [h] at hlt)
    obtain ⟨hbl, s', c', g0, g1, g2, gr⟩ := kid_in (hr.below hB) he
    have hse := Ex.size_eq e
    have hmem := Ex.sizeL_mem (List.mem_of_getElem? he)
    have htk := Ex.sizeL_take_succ he
    have Htk := Lib.hid htk
    have Hse := Lib.hid hse
    have hlt' : Ex.sizeL e.kids < N := by omega
    clear htk hse
    go_wp2_with fail
    refine (szExpr_of (ih _ hlt') _ _ _ _ _ _ _ (Nat.le_refl _) gr hr0 (by omega)).mono ?_
    rintro e1 w1 ⟨⟨r', rfl, r1, r2, r3⟩, hb⟩
    have hB1 : Below w.heap.size w w1 := Below.on hB hb hB.size
    by_cases hr' : r' < 0
    ·
     go_wp2_with fail
     go_ret
     exact ⟨⟨-1, rfl, by omega, by omega, by omega⟩, hB1⟩
    ·
     have hd' : decide (r' < 0) = false := by simpa using hr'
     go_wp2_with fail
     go_roundw
     case rel =>
      have := Htk.out
      have := Hse.out
      exact ⟨k + 1, r', by omega, by go_num, rfl, by omega, by omega, by omega, hB1⟩
     case measure => simp [intOf]; omega
   ·
    obtain rfl : k = ks.length := by omega
    have hfull : Ex.sizeL (ks.take ks.length) = Ex.sizeL ks := by rw [List.take_length]
    have H := Lib.hid hfull
    clear hfull
    go_wp2_with fail
    go_ret
    have := H.out
    exact ⟨⟨r, rfl, by omega, by omega, by omega⟩, hB⟩
theorem szExpr_i {k n : Int} {ks : List Ex} {s : Option Addr} {cap : Nat} {left : Int} {w : World} (hr : Rd w (kidsD ks) (.slice s ks.length cap)) (h0 : 0 ≤ left) (h1 : left ≤ 1048576) :
  Calls Tryz.prog 5 #[.agg #[.int .i64 k, .int .i64 n, .slice s ks.length cap], .int .i64 left] w fun e w' => Szd (Ex.sizeL ks) left e ∧ Below w.heap.size w w' :=
 szExpr_of (szExprS_all _) k n ks s cap left w (Nat.le_refl _) hr h0 h1
end Go.Proofs.YtcokljhamhgelaaGreatDoor

namespace Go.Proofs.YtcokljhamhgelaaGreatDoor
set_option linter.unusedVariables false
set_option linter.unusedSimpArgs false
open Go.ChangeShapes Go.WideShapes Go.ChangeAt Go.RowKit
theorem info_implExpr : (Tryz.prog.info? 34).map (fun i => (i.zero, i.size, i.bytes)) = some (some (.agg #[.int .i64 0, .int .i64 0, .slice none 0 0]), 3, 40) := by kernel_rfl
def ToS (N : Nat) : Prop := ∀ (ks : List Ex) (s : Option Addr) (cap : Nat) (w : World), Ex.sizeL ks ≤ N → Rd w (kidsD ks) (.slice s ks.length cap) → Ex.sizeL ks ≤ 1048576 →
  Calls Tryz.prog 19 #[.slice s ks.length cap] w fun e w' => ∃ s' c', e = .returned (.slice s' ks.length c') ∧ Fresh w w' (kidsD ks) (.slice s' ks.length c') ∧ Below w.heap.size w w'
theorem toExpr_of {N : Nat} (hS : ToS N) (k n : Int) (ks : List Ex) (s : Option Addr) (cap : Nat) (w : World) (hN : Ex.sizeL ks ≤ N) (hr : Rd w (kidsD ks) (.slice s ks.length cap)) (h1 : Ex.sizeL ks ≤ 1048576) :
  Calls Tryz.prog 8 #[.agg #[.int .i64 k, .int .i64 n, .slice s ks.length cap]] w fun e w' => ∃ s' c', e = .returned (.agg #[.int .i64 k, .int .i64 n, .slice s' ks.length c']) ∧ Fresh w w' (kidsD ks) (.slice s' ks.length c') ∧ Below w.heap.size w w' := by
 go_enter Tryz.func8, Tryz.ntmps8
 go_wp2_with fail
 refine (hS ks s cap _ hN (by repeat (first | exact hr | apply Rd.alloc)) h1).mono ?_
 rintro e w1 ⟨s', c', rfl, hfr, hb⟩
 obtain ⟨hc, hf, hz⟩ := bcell hb
 simp at hz
 have q0 : w.heap.size < w1.heap.size := by omega
 have q1 : w.heap.size + 1 < w1.heap.size := by omega
 have q2 : w.heap.size + 1 + 1 < w1.heap.size := by omega
 have hB : Below w.heap.size w w1 := Below.on (by (repeat' first | exact Below.refl _ _ | assumption | apply Below.alloc | apply Below.drew | apply Below.setCell | omega | (simp; done) | (simp; omega))) hb (by simp; omega)
 clear hb
 go_wp2
 refine bodyPost_ret (v := .agg #[.int .i64 k, .int .i64 n, .slice s' ks.length c']) (by simp [results, Tryz.results8, go_sem, hc]) rfl ⟨s', c', rfl, ?_, by (repeat' first | exact Below.refl _ _ | assumption | apply Below.alloc | apply Below.drew | apply Below.setCell | omega | (simp; done) | (simp; omega))⟩
 refine Fresh.from (hfr.keep fun b h1 _ => ?_) (by simp; omega)
 simp at h1
 rw [Below.heap_setCell _ _ _ _ (by simp; omega), Below.heap_setCell _ _ _ _ (by simp; omega), Below.heap_setCell _ _ _ _ (by simp; omega), Below.heap_setCell _ _ _ _ (by simp; omega)]
theorem toExprS_all (N : Nat) : ToS N := by
 induction N using Nat.strongRecOn with
 | _ N ih =>
 intro ks s cap w hN hr h1
 obtain ⟨-, hlen, hcap, -, -⟩ := kid_at hr
 unfold maxLen at hcap
 have hsz := Ex.length_le_sizeL ks
 obtain ⟨i0, hi, hz0, hz1, hz2⟩ := info_parts info_implExpr
 go_enter Tryz.func19, Tryz.ntmps19
 go_wp2_with (at_make; refine wpList_make_full _ rfl _ _ 32 rfl w.heap.size 34 i0 (.agg #[.int .i64 0, .int .i64 0, .slice none 0 0]) 3 Tryz.underlying32 hi hz0 hz1 .i64 .i64 _ _ ks.length rfl rfl rfl rfl (by rw [hz2]; omega) (by unfold maxLen; omega) (Nat.le_refl _) ?_; intro w0 hown hgrow)
 have hp := Part.start hown
 have hB0 : Below w.heap.size w w0 := Below.grown (Below.refl _ _) hgrow (Nat.le_refl _) (by simp)
 have hz0' := hp.lt
 clear hown hgrow
 go_loopw [4] (fun i wr => ∃ k : Nat, k ≤ ks.length ∧ i = .int .i64 k ∧ Part wr w.heap.size 34 (Ex.cellsL (ks.take k)) (ks.length * 3) ∧ Below w.heap.size w wr) (fun i _ => ks.length - (intOf i).toNat)
 case atStart => exact ⟨0, by omega, rfl, by simpa [Ex.cellsL] using hp, hB0⟩
 case round =>
  clear hp hB0 hz0'
  obtain ⟨k, hk, rfl, hp, hB⟩ := hrel
  by_cases hlt : k < ks.length
  ·
   obtain ⟨e, he⟩ : ∃ e, ks[k]? = some e := ⟨_, List.getElem?_eq_getElem hlt⟩
   obtain ⟨b, o, rfl⟩ := kid_some hr (by intro h; simp [h] at hlt)
   obtain ⟨hbl, s', c', g0, g1, g2, gr⟩ := kid_in (hr.below hB) he
   have hlt' : Ex.sizeL e.kids < N := by
    have := Ex.size_eq e
    have := Ex.sizeL_mem (List.mem_of_getElem? he)
    omega
   have hle : Ex.sizeL e.kids ≤ 1048576 := by
    have := Ex.size_eq e
    have := Ex.sizeL_mem (List.mem_of_getElem? he)
    omega
   go_wp2_with fail
   refine (toExpr_of (ih _ hlt') _ _ _ _ _ _ (Nat.le_refl _) gr hle).mono ?_
   rintro e1 w1 ⟨s2, c2, rfl, ⟨G, hG1, hG2, hG3⟩, hb⟩
   have hlt2 := hp.lt
   have hz := hb.size
   obtain ⟨y0, d0⟩ := (hp.below hb).cell (k * 3) (by omega)
   obtain ⟨y1, d1⟩ := (hp.below hb).cell (k * 3 + 1) (by omega)
   obtain ⟨y2, d2⟩ := (hp.below hb).cell (k * 3 + 2) (by omega)
   have z0 := (hp.below hb).frozen (k * 3)
   have z1 := (hp.below hb).frozen (k * 3 + 1)
   have z2 := (hp.below hb).frozen (k * 3 + 2)
   have hst := hp.step hb (Ows.three (k := e.kind) (n := e.num) hG1) hG2 hG3 (o := k * 3) (by rw [Ex.cellsL_length, List.length_take, Nat.min_eq_left hk]) (by simp; omega)
   rw [← Ex.cellsL_take_succ he] at hst
   have Hst : Hid (Part (((w1.setCell ⟨w.heap.size, k * 3, none⟩ (.int .i64 e.kind)).setCell ⟨w.heap.size, k * 3 + 1, none⟩ (.int .i64 e.num)).setCell ⟨w.heap.size, k * 3 + 2, none⟩ (.slice s2 e.kids.length c2)) w.heap.size 34 (Ex.cellsL (ks.take (k + 1))) (ks.length * 3)) := hst
   have hB1 : Below w.heap.size w w1 := Below.on hB hb (by omega)
   clear hst
   go_wp2_with fail
   go_roundw
   case rel => exact ⟨k + 1, by omega, by go_num, Hst.out, by (repeat' first | exact Below.refl _ _ | assumption | apply Below.alloc | apply Below.drew | apply Below.setCell | omega | (simp; done) | (simp; omega))⟩
   case measure => simp [intOf]; omega
  ·
   obtain rfl : k = ks.length := by omega
   rw [List.take_length] at hp
   go_wp2_with fail
   go_ret
   exact ⟨_, _, rfl, hp.done (Nat.le_refl _) (Ex.cellsL_length ks) (Nat.le_refl _) (by unfold maxLen; omega), hB⟩
theorem toExpr_any (k n : Int) (ks : List Ex) (s : Option Addr) (cap : Nat) (w : World) (hr : Rd w (kidsD ks) (.slice s ks.length cap)) (h1 : Ex.sizeL ks ≤ 1048576) :
  Calls Tryz.prog 8 #[.agg #[.int .i64 k, .int .i64 n, .slice s ks.length cap]] w fun e w' => ∃ s' c', e = .returned (.agg #[.int .i64 k, .int .i64 n, .slice s' ks.length c']) ∧ Fresh w w' (kidsD ks) (.slice s' ks.length c') ∧ Below w.heap.size w w' :=
 toExpr_of (toExprS_all _) k n ks s cap w (Nat.le_refl _) hr h1
theorem toExpr_i {k n : Int} {ks : List Ex} {s : Option Addr} {cap : Nat} {w : World} (hr : Rd w (kidsD ks) (.slice s ks.length cap)) (h1 : Ex.sizeL ks ≤ 1048576) :
  Calls Tryz.prog 8 #[.agg #[.int .i64 k, .int .i64 n, .slice s ks.length cap]] w fun e w' => ∃ s' c', e = .returned (.agg #[.int .i64 k, .int .i64 n, .slice s' ks.length c']) ∧ Freshs w w' [kidsD ks] [.slice s' ks.length c'] ∧ Below w.heap.size w w' :=
 (toExpr_any k n ks s cap w hr h1).mono fun _ _ ⟨s', c', he, hf, hb⟩ => ⟨s', c', he, Freshs.one hf, hb⟩
end Go.Proofs.YtcokljhamhgelaaGreatDoor

namespace Go.Proofs.YtcokljhamhgelaaGreatDoor
set_option linter.unusedVariables false
set_option linter.unusedSimpArgs false
open Go.ChangeShapes Go.WideShapes Go.ChangeAt Go.RowKit Go.Sort
def EqS (N : Nat) : Prop := ∀ (ks js : List Ex) (s t : Option Addr) (cap cap' : Nat) (w : World), Ex.sizeL ks ≤ N → Rd w (kidsD ks) (.slice s ks.length cap) → Rd w (kidsD js) (.slice t js.length cap') →
  Calls Tryz.prog 22 #[.slice s ks.length cap, .slice t js.length cap'] w fun e w' => e = .returned (.bool (eqb ks js)) ∧ Below w.heap.size w w'
theorem eqExpr_of {N : Nat} (hS : EqS N) (k n k' n' : Int) (ks js : List Ex) (s t : Option Addr) (cap cap' : Nat) (w : World) (hN : Ex.sizeL ks ≤ N) (hr : Rd w (kidsD ks) (.slice s ks.length cap)) (hr' : Rd w (kidsD js) (.slice t js.length cap')) :
  Calls Tryz.prog 10 #[.agg #[.int .i64 k, .int .i64 n, .slice s ks.length cap], .agg #[.int .i64 k', .int .i64 n', .slice t js.length cap']] w fun e w' => e = .returned (.bool (eqb (Ex.mk k n ks) (Ex.mk k' n' js))) ∧ Below w.heap.size w w' := by
 by_cases h1 : k = k'
 ·
  subst h1
  by_cases h2 : n = n'
  ·
   subst h2
   have b1 : (k != k) = false := by simp
   have b2 : (n != n) = false := by simp
   have e1 : eqb (Ex.mk k n ks) (Ex.mk k n js) = eqb ks js := by
    by_cases h : ks = js
    ·
     rw [eqb_true h, eqb_true (by rw [h])]
    ·
     rw [eqb_false h, eqb_false (by simp [h])]
   rw [e1]
   clear e1
   go_enter Tryz.func10, Tryz.ntmps10
   go_wp2_with fail
   refine (hS ks js s t cap cap' _ hN (by repeat (first | exact hr | apply Rd.alloc)) (by repeat (first | exact hr' | apply Rd.alloc))).mono ?_
   rintro e w1 ⟨rfl, hb⟩
   have hB : Below w.heap.size w w1 := Below.on (by (repeat' first | exact Below.refl _ _ | assumption | apply Below.alloc | apply Below.drew | apply Below.setCell | omega | (simp; done) | (simp; omega))) hb (by simp; omega)
   clear hb
   go_wp2
   all_goals go_ret
   all_goals exact ⟨by simp_all, hB⟩
  ·
   have b1 : (k != k) = false := by simp
   have b2 : (n != n') = true := by simp [h2]
   have e1 : eqb (Ex.mk k n ks) (Ex.mk k n' js) = false := eqb_false (by simp [h2])
   rw [e1]
   go_enter Tryz.func10, Tryz.ntmps10
   go_wp2_with fail
   go_ret
   exact ⟨rfl, by (repeat' first | exact Below.refl _ _ | assumption | apply Below.alloc | apply Below.drew | apply Below.setCell | omega | (simp; done) | (simp; omega))⟩
 ·
  have b1 : (k != k') = true := by simp [h1]
  have e1 : eqb (Ex.mk k n ks) (Ex.mk k' n' js) = false := eqb_false (by simp [h1])
  rw [e1]
  go_enter Tryz.func10, Tryz.ntmps10
  go_wp2_with fail
  go_ret
  exact ⟨rfl, by (repeat' first | exact Below.refl _ _ | assumption | apply Below.alloc | apply Below.drew | apply Below.setCell | omega | (simp; done) | (simp; omega))⟩
theorem eqExprS_all (N : Nat) : EqS N := by
 induction N using Nat.strongRecOn with
 | _ N ih =>
 intro ks js s t cap cap' w hN hr hr'
 obtain ⟨-, hlen, hcap, -, -⟩ := kid_at hr
 obtain ⟨-, hlen', hcap', -, -⟩ := kid_at hr'
 unfold maxLen at hcap hcap'
 by_cases hl : ks.length = js.length
 ·
  have b1 : ((ks.length : Int) != (js.length : Int)) = false := by simp [hl]
  have Hl := Lib.hid hl
  clear hl
  go_enter Tryz.func22, Tryz.ntmps22
  go_wp2_with fail
  go_loopw [5] (fun i wr => ∃ k : Nat, k ≤ ks.length ∧ i = .int .i64 k ∧ ks.take k = js.take k ∧ Below w.heap.size w wr) (fun i _ => ks.length - (intOf i).toNat)
  case atStart => exact ⟨0, by omega, rfl, by simp, Below.refl _ _⟩
  case round =>
   obtain ⟨k, hk, rfl, hpre, hB⟩ := hrel
   have Hpre := Lib.hid hpre
   clear hpre
   by_cases hlt : k < ks.length
   ·
    have hlt' : k < js.length := by have := Hl.out; omega
    obtain ⟨e, he⟩ : ∃ e, ks[k]? = some e := ⟨_, List.getElem?_eq_getElem hlt⟩
    obtain ⟨f, hf⟩ : ∃ e, js[k]? = some e := ⟨_, List.getElem?_eq_getElem hlt'⟩
    obtain ⟨b, o, rfl⟩ := kid_some hr (by intro h; simp [h] at hlt)
    obtain ⟨c, p, rfl⟩ := kid_some hr' (by intro h; simp [h] at hlt')
    obtain ⟨-, s', c', g0, g1, g2, gr⟩ := kid_in (hr.below hB) he
    obtain ⟨-, t', d', k0, k1, k2, kr⟩ := kid_in (hr'.below hB) hf
    have hltN : Ex.sizeL e.kids < N := by
     have := Ex.size_eq e
     have := Ex.sizeL_mem (List.mem_of_getElem? he)
     omega
    have ha := Int.natCast_nonneg k
    have hb : (k : Int) < (ks.length : Int) := by omega
    have hb' : (k : Int) < (js.length : Int) := by omega
    have i0 := fun d os => cell_regrown g0 d os
    have i1 := fun d os => cell_regrown g1 d os
    have i2 := fun d os => cell_regrown g2 d os
    have j0 := fun d os => cell_regrown k0 d os
    have j1 := fun d os => cell_regrown k1 d os
    have j2 := fun d os => cell_regrown k2 d os
    clear g0 g1 g2 k0 k1 k2
    go_wp2_with fail
    refine Go.wp_region_quiet_below (by kernel_rfl) (by kernel_rfl) ?_
    repeat (quiet_step (exact Calls.regrown_of (eqExpr_of (ih _ hltN) _ _ _ _ _ _ _ _ _ _ _ (Nat.le_refl _) (gr.below (below_regrown _ _ _)) (kr.below (below_regrown _ _ _)))))
    refine wpQuiet_nil ?_; intro _ hw'; obtain ⟨⟨dq, osq⟩, hw''⟩ := hw'; subst hw''; have hq := below_regrown wr dq osq; revert hq; generalize grow (redrawn wr dq) osq = w1; intro hq
    have hB1 : Below w.heap.size w w1 := Below.on hB hq hB.size
    clear hq i0 i1 i2 j0 j1 j2
    by_cases hef : e = f
    ·
     have c1 : eqb (Ex.mk e.kind e.num e.kids) (Ex.mk f.kind f.num f.kids) = true := eqb_true (by rw [hef])
     have Hst : Hid (ks.take (k + 1) = js.take (k + 1)) := by
      have h1 := List.getElem?_eq_some_iff.1 he
      have h2 := List.getElem?_eq_some_iff.1 hf
      show _ = _
      rw [List.take_succ_eq_append_getElem hlt, List.take_succ_eq_append_getElem hlt', Hpre.out, h1.2, h2.2, hef]
     clear hef
     simp only [c1, Bool.not_true]
     go_wp2_with fail
     go_roundw
     case rel => exact ⟨k + 1, by omega, by go_num, Hst.out, hB1⟩
     case measure => simp [intOf]; omega
    ·
     have c1 : eqb (Ex.mk e.kind e.num e.kids) (Ex.mk f.kind f.num f.kids) = false := eqb_false (by rw [← Ex.eta, ← Ex.eta]; exact hef)
     have c2 : eqb ks js = false := eqb_false (by
      intro h
      rw [h] at he
      exact hef (Option.some.inj (he.symm.trans hf)))
     simp only [c1, Bool.not_false]
     go_wp2_with fail
     go_ret
     exact ⟨by first | rfl | (rw [c2]; rfl), hB1⟩
   ·
    obtain rfl : k = ks.length := by omega
    have c2 : eqb ks js = true := eqb_true (by
     have := Hpre.out
     rwa [List.take_length, Hl.out, List.take_length] at this)
    go_wp2_with fail
    go_ret
    exact ⟨by first | rfl | (rw [c2]; rfl), hB⟩
 ·
  have b1 : ((ks.length : Int) != (js.length : Int)) = true := by simp; omega
  have c2 : eqb ks js = false := eqb_false (by intro h; rw [h] at hl; exact hl rfl)
  go_enter Tryz.func22, Tryz.ntmps22
  go_wp2_with fail
  go_ret
  exact ⟨by first | rfl | (rw [c2]; rfl), Below.refl _ _⟩
theorem eqExpr_i {k n k' n' : Int} {ks js : List Ex} {s t : Option Addr} {cap cap' : Nat} {w : World} (hr : Rd w (kidsD ks) (.slice s ks.length cap)) (hr' : Rd w (kidsD js) (.slice t js.length cap')) :
  Calls Tryz.prog 10 #[.agg #[.int .i64 k, .int .i64 n, .slice s ks.length cap], .agg #[.int .i64 k', .int .i64 n', .slice t js.length cap']] w fun e w' => e = .returned (.bool (eqb (Ex.mk k n ks) (Ex.mk k' n' js))) ∧ Below w.heap.size w w' :=
 eqExpr_of (eqExprS_all _) k n k' n' ks js s t cap cap' w (Nat.le_refl _) hr hr'
end Go.Proofs.YtcokljhamhgelaaGreatDoor

namespace Go.Proofs.YtcokljhamhgelaaGreatDoor
set_option linter.unusedVariables false
set_option linter.unusedSimpArgs false
open Go.ChangeShapes Go.WideShapes Go.ChangeAt Go.RowKit
set_option maxRecDepth 100000 in
set_option maxHeartbeats 4000000 in
theorem law_IsConditionLike (t0 a0 : Int) (k1 n1 : Int) (ks1 : List Ex) (s1 : Option Addr) (c1 : Nat) (w : World) (hr1 : Rd w (kidsD ks1) (.slice s1 ks1.length c1)) :
  Calls Tryz.prog 3 #[.agg #[.int .i64 t0, .int .i64 a0], .agg #[.int .i64 k1, .int .i64 n1, .slice s1 ks1.length c1]] w fun e w' => e = .returned (.bool true) ∧ Below w.heap.size w w' := by
 have ef1 : eqb (Ex.mk k1 n1 ks1) (Ex.mk k1 n1 ks1) = true := by simp [eqb_true]
 go_enter Tryz.func3, Tryz.ntmps3
 go_wp2_with fail
 have L0 := (Blk.new2 w 23 (.int .i64 t0) (.int .i64 a0)).alloc (.cells #[.int .i64 k1, .int .i64 n1, .slice s1 ks1.length c1] 26)
 have L1 := Blk.new3 (w.alloc (.cells #[.int .i64 t0, .int .i64 a0] 23)) 26 (.int .i64 k1) (.int .i64 n1) (.slice s1 ks1.length c1)
 simp at L1
 refine (szExpr_i (by repeat (first | exact hr1 | apply Rd.alloc)) (by omega) (by omega)).mono ?_
 rintro e w1 ⟨⟨r1, rfl, ra1, rb1, rc1⟩, hb⟩
 replace L0 := L0.below hb
 replace L1 := L1.below hb
 have hB : Below w.heap.size w w1 := Below.on (by (repeat' first | exact Below.refl _ _ | assumption | apply Below.alloc | apply Below.drew | apply Below.setCell | omega | (simp; done) | (simp; omega))) hb (by simp <;> omega)
 have l0c0 := L0.c0
 have l0c1 := L0.c1
 have ltL0 := L0.lt
 have l1c0 := L1.c0
 have l1c1 := L1.c1
 have l1c2 := L1.c2
 have ltL1 := L1.lt
 clear hb
 by_cases hneg1 : r1 < 0
 ·
  go_wp2_with fail
  go_ret
  exact ⟨rfl, hB⟩
 have hd1 : decide (r1 < 0) = false := by simpa using hneg1
 have rd1 := rc1 (by omega)
 clear rc1
 have hsz1 : Ex.sizeL ks1 ≤ 1048576 := by omega
 -- wa
 go_wp2_with fail
 go_region_held3 (fun w' => (∀ b o, b < w1.heap.size → w'.cell? ⟨b, o, none⟩ = w1.cell? ⟨b, o, none⟩) ∧ Below w1.heap.size w1 w')
  (first | exact kp_drew w1 | exact kp_on ‹_› hb)
  (first
   | (go_at_call 7; ((with_reducible refine (toSig_any t0 a0 _).mono ?_); rintro e wa0 ⟨rfl, hb⟩))
   | (go_at_call 8; have hK := ‹(∀ b o, b < w1.heap.size → _) ∧ Below w1.heap.size w1 _›; ((with_reducible refine (toExpr_i (hr1.below (Below.on hB hK.2 hB.size)) hsz1).mono ?_); rintro e wa1 ⟨sxwa1, cxwa1, rfl, hfwa1, hb⟩))
   | (go_at_call 6; have hK := ‹(∀ b o, b < w1.heap.size → _) ∧ Below w1.heap.size w1 _›; ((with_reducible refine (specIsConditionLike_i (hfwa1.rds.one) hsz1).mono ?_); rintro e waz ⟨rfl, hb⟩)))
 have hK := ‹(∀ b o, b < w1.heap.size → _) ∧ Below w1.heap.size w1 _›
 clear l0c0 l0c1 ltL0 l1c0 l1c1 l1c2 ltL1
 replace L0 := L0.below hK.2
 replace L1 := L1.below hK.2
 replace hB := Below.on hB hK.2 hB.size
 have l0c0 := L0.c0
 have l0c1 := L0.c1
 have ltL0 := L0.lt
 have l1c0 := L1.c0
 have l1c1 := L1.c1
 have l1c2 := L1.c2
 have ltL1 := L1.lt
 clear hK
 go_wp2_with fail
 refine (toExpr_i (hr1.below hB) hsz1).mono ?_
 rintro e wx1 ⟨sxx1, cxx1, rfl, hfx1, hb⟩
 clear l0c0 l0c1 ltL0 l1c0 l1c1 l1c2 ltL1
 replace L0 := L0.below hb
 replace L1 := L1.below hb
 replace hB := Below.on hB hb hB.size
 have l0c0 := L0.c0
 have l0c1 := L0.c1
 have ltL0 := L0.lt
 have l1c0 := L1.c0
 have l1c1 := L1.c1
 have l1c2 := L1.c2
 have ltL1 := L1.lt
 clear hb
 go_wp2_with fail
 have X1 := Blk.new3 wx1 34 (.int .i64 k1) (.int .i64 n1) (.slice sxx1 ks1.length cxx1)
 clear l0c0 l0c1 ltL0 l1c0 l1c1 l1c2 ltL1
 replace L0 := L0.alloc (.cells #[.int .i64 k1, .int .i64 n1, .slice sxx1 ks1.length cxx1] 34)
 replace L1 := L1.alloc (.cells #[.int .i64 k1, .int .i64 n1, .slice sxx1 ks1.length cxx1] 34)
 replace hfx1 := hfx1.on (Below.alloc (Below.refl _ _) (Nat.le_refl _) (.cells #[.int .i64 k1, .int .i64 n1, .slice sxx1 ks1.length cxx1] 34))
 replace hB := hB.alloc hB.size (.cells #[.int .i64 k1, .int .i64 n1, .slice sxx1 ks1.length cxx1] 34)
 generalize wx1.alloc (.cells #[.int .i64 k1, .int .i64 n1, .slice sxx1 ks1.length cxx1] 34) = wb1 at L0 L1 hfx1 X1 hB ⊢
 have l0c0 := L0.c0
 have l0c1 := L0.c1
 have ltL0 := L0.lt
 have l1c0 := L1.c0
 have l1c1 := L1.c1
 have l1c2 := L1.c2
 have ltL1 := L1.lt
 have x1c0 := X1.c0
 have x1c1 := X1.c1
 have x1c2 := X1.c2
 have ltX1 := X1.lt
 -- wi
 go_wp2_with fail
 go_region_held3 (fun w' => (∀ b o, b < wb1.heap.size → w'.cell? ⟨b, o, none⟩ = wb1.cell? ⟨b, o, none⟩) ∧ Below wb1.heap.size wb1 w')
  (first | exact kp_drew wb1 | exact kp_on ‹_› hb)
  (first
   | (go_at_call 7; ((with_reducible refine (toSig_any t0 a0 _).mono ?_); rintro e wi0 ⟨rfl, hb⟩))
   | (go_at_call 9; have hK := ‹(∀ b o, b < wb1.heap.size → _) ∧ Below wb1.heap.size wb1 _›; ((with_reducible refine (implIsConditionLike_i (hfx1.rds.one.below hK.2) hsz1).mono ?_); rintro e wiz ⟨rfl, hb⟩)))
 have hK := ‹(∀ b o, b < wb1.heap.size → _) ∧ Below wb1.heap.size wb1 _›
 clear l0c0 l0c1 ltL0 l1c0 l1c1 l1c2 ltL1 x1c0 x1c1 x1c2 ltX1
 replace L0 := L0.below hK.2
 replace L1 := L1.below hK.2
 replace hfx1 := hfx1.on hK.2
 replace X1 := X1.below hK.2
 replace hB := Below.on hB hK.2 hB.size
 have l0c0 := L0.c0
 have l0c1 := L0.c1
 have ltL0 := L0.lt
 have l1c0 := L1.c0
 have l1c1 := L1.c1
 have l1c2 := L1.c2
 have ltL1 := L1.lt
 have x1c0 := X1.c0
 have x1c1 := X1.c1
 have x1c2 := X1.c2
 have ltX1 := X1.lt
 clear hK
 go_wp2_with fail
 -- is the copy 1 as it was?
 go_region_held3 (fun w' => (∀ b o, b < wiz.heap.size → w'.cell? ⟨b, o, none⟩ = wiz.cell? ⟨b, o, none⟩) ∧ Below wiz.heap.size wiz w')
  (first | exact kp_drew wiz | exact kp_on ‹_› hb)
  (first
   | (go_at_call 8; have hK := ‹(∀ b o, b < wiz.heap.size → _) ∧ Below wiz.heap.size wiz _›; ((with_reducible refine (toExpr_i (hr1.below (Below.on hB hK.2 hB.size)) hsz1).mono ?_); rintro e wy1 ⟨sxy1, cxy1, rfl, hfy1, hb⟩))
   | (go_at_call 10; have hK := ‹(∀ b o, b < wiz.heap.size → _) ∧ Below wiz.heap.size wiz _›; ((with_reducible refine (eqExpr_i ((hfx1.rds.one).below hK.2) (hfy1.rds.one)).mono ?_); rintro e wz1 ⟨rfl, hb⟩)))
 have hK := ‹(∀ b o, b < wiz.heap.size → _) ∧ Below wiz.heap.size wiz _›
 clear l0c0 l0c1 ltL0 l1c0 l1c1 l1c2 ltL1 x1c0 x1c1 x1c2 ltX1
 replace L0 := L0.below hK.2
 replace L1 := L1.below hK.2
 replace hfx1 := hfx1.on hK.2
 replace X1 := X1.below hK.2
 replace hB := Below.on hB hK.2 hB.size
 have l0c0 := L0.c0
 have l0c1 := L0.c1
 have ltL0 := L0.lt
 have l1c0 := L1.c0
 have l1c1 := L1.c1
 have l1c2 := L1.c2
 have ltL1 := L1.lt
 have x1c0 := X1.c0
 have x1c1 := X1.c1
 have x1c2 := X1.c2
 have ltX1 := X1.lt
 clear hK
 try simp only [ef1, Bool.not_true]
 go_wp2_with fail
 go_ret
 exact ⟨rfl, hB⟩
set_option maxRecDepth 100000 in
theorem law_IsConditionLike_of {H : Type} {enc : TypeId × Value → H} (W : World) (args : Array Value) (ds : List (DataW H)) (ps : List MemPlace) (hA : DataW.TrodAll enc Tryz.prog W 0 (fun _ => true) true Tryz.f3.params.toList args.toList ds ps)
  (hval : ∀ (j : Nat) t v, Tryz.f3.params[j]? = some t → args[j]? = some v → ∃ base, Value.okWide Tryz.prog W .any base t v) :
  Calls Tryz.prog 3 args W fun e W' => e = .returned (.bool true) ∧ Below W.heap.size W W' := by
 rw [Tryz.params3] at hA hval
 obtain ⟨v0, vs0, d0', ds0, p0, q0, hargs, rfl, rfl, h0, ra0⟩ := trodAll_cons hA
 obtain ⟨v1, vs1, d1', ds1, p1, q1, rfl, rfl, rfl, h1, ra1⟩ := trodAll_cons ra0
 obtain ⟨rfl, rfl, rfl⟩ := trodAll_nil ra1
 obtain rfl : args = #[v0, v1] := Array.toList_inj.1 hargs
 obtain ⟨t0, a0, rfl⟩ := open_lawsSig h0
 obtain ⟨k1, n1, ks1, s1, c1, rfl, hr1⟩ := open_lawsExpr h1
 exact law_IsConditionLike t0 a0 k1 n1 ks1 s1 c1 W hr1
end Go.Proofs.YtcokljhamhgelaaGreatDoor
