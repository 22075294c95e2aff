/-
  Parts of a proof, joined: LeI, SameA. No condition.
-/
import Derived.Test.YtfhlddbngjlhbaaDoorPk11
namespace Go.Proofs.YtfhlddbngjlhbaaDoor
set_option linter.unusedVariables false
set_option linter.unusedSimpArgs false
open Go.ChangeShapes Go.WideShapes Go.ChangeAt Go.RowKit Go.Sort
theorem kc_l {P : Program} {s : ByteArray} (a b : List UInt8) (hs : s = bs a) (h : a.length + b.length ≤ 1000000000) : ∃ z, Hid (z = a ++ b) ∧ ∀ w, (Op.stringOp .add s (bs b)).run P w = .ok (.string (bs z)) w := by
 subst hs
 exact ⟨_, rfl, run_cat a b h⟩
theorem kc_r {P : Program} {s : ByteArray} (a b : List UInt8) (hs : s = bs b) (h : a.length + b.length ≤ 1000000000) : ∃ z, Hid (z = a ++ b) ∧ ∀ w, (Op.stringOp .add (bs a) s).run P w = .ok (.string (bs z)) w := by
 subst hs
 exact ⟨_, rfl, run_cat a b h⟩
theorem kc_2 {P : Program} (a b : List UInt8) (h : a.length + b.length ≤ 1000000000) : ∃ z, Hid (z = a ++ b) ∧ ∀ w, (Op.stringOp .add (bs a) (bs b)).run P w = .ok (.string (bs z)) w := ⟨_, rfl, run_cat a b h⟩
theorem decimal_k {z : Int} {w : World} (h : Sm z) : Calls Tryd.prog 54 #[.int .i64 z] w fun e w' => e = .returned (.string (bs (dgt z))) ∧ w' = w := by
 obtain ⟨m, rfl⟩ : ∃ m : Nat, z = (m : Int) := ⟨z.toNat, by have := h.1; omega⟩
 have hm : m < 100 := by have := h.2; omega
 exact (decimal_i hm).mono fun e w' ⟨h1, h2⟩ => ⟨by rw [h1]; unfold dgt; rw [Int.toNat_natCast], h2.symm⟩
theorem dgt_len {z : Int} (h : Sm z) : (dgt z).length ≤ 2 := by
 obtain ⟨m, rfl⟩ : ∃ m : Nat, z = (m : Int) := ⟨z.toNat, by have := h.1; omega⟩
 have hm : m < 100 := by have := h.2; omega
 unfold dgt
 rw [Int.toNat_natCast]
 by_cases h1 : m < 10
 ·
  rw [Lib.decDigits_one h1]; simp
 ·
  rw [Lib.decDigits_two h1 hm]; simp
def akT (kt : Nat → Bool × List Int) (m : Nat) : List UInt8 := (List.range m).flatMap fun m => atT (kt m)
theorem akT_succ (kt : Nat → Bool × List Int) (m : Nat) : akT kt (m + 1) = akT kt m ++ atT (kt m) := by simp [akT, List.range_succ]
theorem rwT_len : ∀ {xs : List Int}, (∀ x ∈ xs, Sm x) → (rwT xs).length ≤ 3 * xs.length
 | [], _ => by simp [rwT]
 | x :: r, h => by
  have h1 := dgt_len (h x (List.mem_cons_self ..))
  have h2 := rwT_len (xs := r) fun y hy => h y (List.mem_cons_of_mem _ hy)
  rw [rwT_cons]
  simp only [List.length_cons, List.length_append]
  omega
set_option maxRecDepth 100000 in
set_option maxHeartbeats 16000000 in
theorem key_i {t a : Int} {ac : List (List Bool)} {nx : List (List (List Int))} {s u : Option Addr} {c d b1 b2 b3 N1 co i : Nat} {so : Option Addr} {O : List Int} {sv : Int} {w : World}
  (L : Blk w b1 31 [.int .i64 t, .int .i64 a, .slice s ac.length c, .slice u nx.length d]) (hr : Rd w (bbD ac) (.slice s ac.length c)) (hq : Rd w (iiiD nx) (.slice u nx.length d)) (hok : AutOk t a ac nx)
  (L2 : Blk w b2 3 [.int .i64 ac.length]) (L3 : Blk w b3 58 [.slice so N1 co]) (hO : Rd w (intsD O) (.slice so N1 co)) (hOl : O.length = N1) (hN1 : N1 = ac.length + 1) (hsm : ∀ x ∈ O, Sm x) (hsv : (i < ac.length ∧ sv = (i : Int)) ∨ (i = ac.length ∧ sv = -1)) :
  Calls Tryd.prog 52 #[.int .i64 i, .pointer (some ⟨b1, 0, none⟩), .pointer (some ⟨b2, 0, none⟩), .pointer (some ⟨b3, 0, none⟩)] w fun e w' => e = .returned (.string (bs (skT ac nx (atomsN t).toNat a.toNat O sv))) ∧ Below w.heap.size w w' := by
 obtain ⟨hdm1, hdm2, hdm3, hdm4⟩ := hok.dims
 obtain ⟨ht0, ht3, -, -⟩ := sigB_bd hok.sig
 obtain ⟨hlen, hcap⟩ := nest_bd hr
 obtain ⟨hlen', hcap'⟩ := nest_bd hq
 unfold maxLen at hcap hcap'
 have hn1 := hok.lo
 have hn2 := hok.hi
 have hnl1 : nx.length ≤ ac.length := by rw [hok.len]; exact Nat.le_refl _
 have hnl2 : ac.length ≤ nx.length := by rw [hok.len]; exact Nat.le_refl _
 obtain ⟨sb, sO, rfl⟩ := nest_some (f := boolsD) hr (by omega)
 obtain ⟨ub, uo, rfl⟩ := nest_some (f := iiD) hq (by omega)
 obtain ⟨ob, oo, rfl⟩ := nest_some (f := D.int) hO (by omega)
 obtain ⟨A, hA⟩ : ∃ A : Nat, atomsN t = (A : Int) := ⟨(atomsN t).toNat, by omega⟩
 obtain ⟨n, rfl⟩ : ∃ n : Nat, a = (n : Int) := ⟨a.toNat, by omega⟩
 rw [show (atomsN t).toNat = A by omega, Int.toNat_natCast]
 have HA := Lib.hid hA
 have hA8 : A ≤ 8 := by omega
 have hn4 : n ≤ 4 := by omega
 have hNlt : ac.length < N1 := by omega
 have hNle : N1 ≤ ac.length + 1 := by omega
 have hNI : (ac.length : Int) < (N1 : Int) := by omega
 have hile : i ≤ ac.length := by omega
 have hi0 := Int.natCast_nonneg i
 have hic : (i : Int) < (N1 : Int) := by omega
 obtain ⟨kt, hkt⟩ : ∃ kt : Nat → Bool × List Int, kt = fun m => (hasN ac sv m, (List.range n).map fun k => clN O ac.length (goN nx sv m k)) := ⟨_, rfl⟩
 have HK1 := Lib.hid (fun m => by rw [hkt] : ∀ m, (kt m).1 = hasN ac sv m)
 have HK2 := Lib.hid (fun m => by rw [hkt] : ∀ m, (kt m).2 = (List.range n).map fun k => clN O ac.length (goN nx sv m k))
 have Hkey : Hid (skT ac nx A n O sv = dgt (clN O ac.length sv) ++ 124 :: akT kt A) := by
  show _ = _
  unfold skT kyT keyI akT
  rw [hkt, List.flatMap_map]
 have Hsm := Lib.hid hsm
 have HOl := Lib.hid hOl
 have HO := Lib.hid hO
 have HL := Lib.hid L
 have HL2 := Lib.hid L2
 have HL3 := Lib.hid L3
 have Hr := Lib.hid hr
 have Hq := Lib.hid hq
 have Hrow := Lib.hid (fun (j : Nat) (nr : List (List Int)) (h : nx[j]? = some nr) => hok.row h)
 have Hacc := Lib.hid (fun (j : Nat) (ar : List Bool) (h : ac[j]? = some ar) => hok.acc_row h)
 have Hsv := Lib.hid hsv
 have hN1' : N1 ≤ 61 := by omega
 clear hA hkt hsm hOl hO hr hq hok hN1 hsv hdm1 hdm2
 rw [Hkey.out]
 go_enter Tryd.func52, Tryd.ntmps52
 have hB0 : Below w.heap.size w (w.alloc (.cells #[.pointer none, .slice none 0 0] 78)) := Below.alloc (Below.refl _ _) (Nat.le_refl _) _
 have BL := BldAt.made (w := w) (B := w.heap.size) (Nat.le_refl _)
 have hz1 : (w.alloc (.cells #[.pointer none, .slice none 0 0] 78)).heap.size = w.heap.size + 1 := by simp
 obtain ⟨l0, l1, l2, l3, -, -, -, -, ltL⟩ := (L.below hB0).all4
 go_wp2_with fail
 clear l0 l1 l2 l3 ltL L L2 L3
 refine (atomsIn_i ht0 ht3).mono ?_
 rintro e w2 ⟨rfl, hb2⟩
 rw [HA.out]
 have hz2 := hb2.size
 have hB2 := hB0.trans (hb2.mono (by omega))
 have hbl2 : ∃ T, BldAt w.heap.size T w.heap.size [] w2 := ⟨_, BL.below hb2⟩
 have hwz2 : w.heap.size < w2.heap.size := by omega
 clear BL hB0 hb2 hz1 hz2
 go_wp2_with fail
 go_loopw [15] (fun i wr => ∃ (m : Nat) (y : List UInt8), m ≤ A ∧ i = .int .i64 m ∧ Hid (y = akT kt m) ∧ y.length ≤ 100 + 100 * m ∧ (∃ T, BldAt w.heap.size T w.heap.size y wr) ∧ w.heap.size < wr.heap.size ∧ Below w.heap.size w wr) (fun i _ => A - (intOf i).toNat)
 case atStart => exact ⟨0, [], by omega, rfl, rfl, by simp, hbl2, hwz2, hB2⟩
 case round =>
  clear hbl2 hwz2 hB2
  obtain ⟨m, y, hm, rfl, HY, hyl, hbl, hwz, hB⟩ := hrel
  have hm0 := Int.natCast_nonneg m
  by_cases hml : m < A
  rotate_left
  ·
   -- dev(
   obtain rfl : A = m := by omega
   obtain ⟨vv, hvv, hvc⟩ : ∃ vv, O[i]? = some vv ∧ clN O ac.length sv = vv := by
    obtain ⟨vv, hvv⟩ : ∃ v, O[i]? = some v := ⟨_, List.getElem?_eq_getElem (by have := HOl.out; omega)⟩
    refine ⟨vv, hvv, ?_⟩
    rcases Hsv.out with ⟨h1, h2⟩ | ⟨h1, h2⟩
    ·
     rw [h2]
     unfold clN
     rw [if_neg (by omega), Int.toNat_natCast]
     exact getD_of hvv
    ·
     rw [h2]
     unfold clN
     rw [if_pos (by omega), ← h1]
     exact getD_of hvv
   have hvs := Hsm.out vv (List.mem_of_getElem? hvv)
   have Hvc := Lib.hid hvc
   obtain ⟨-, x0⟩ := int_in (HO.out.below hB) hvv
   obtain ⟨q1, HQ1, Hc1⟩ := kc_r (P := Tryd.prog) (s := { data := #[124] }) (dgt vv) [124] rfl (by have := dgt_len hvs; simp only [List.length_cons, List.length_nil]; omega)
   have hq1 : q1.length ≤ 3 := by have := dgt_len hvs; rw [HQ1.out]; simp only [List.length_append, List.length_cons, List.length_nil]; omega
   obtain ⟨q2, HQ2, Hc2⟩ := kc_2 (P := Tryd.prog) q1 y (by omega)
   obtain ⟨l0, l1, l2, l3, -, -, -, -, ltL⟩ := (HL.out.below hB).all4
   have n0 := (HL2.out.below hB).c0
   have o0 := (HL3.out.below hB).c0
   clear hvv hvc
   go_wp2_with fail
   refine (decimal_k hvs).mono ?_
   rintro e w9 ⟨rfl, hw9⟩
   rw [hw9]
   clear hw9 x0 l0 l1 l2 l3 ltL n0 o0
   go_wp2_with fail
   obtain ⟨T, hT⟩ := hbl
   refine (String_i hT (by omega)).mono ?_
   rintro e w8 ⟨rfl, hb8⟩
   have hB8 := hB.trans (hb8.mono (by omega))
   clear hT
   go_wp2_with fail
   go_ret
   refine ⟨?_, hB8⟩
   rw [show dgt (clN O ac.length sv) ++ 124 :: akT kt A = q2 by rw [HQ2.out, HQ1.out, HY.out, Hvc.out]; simp]
   rfl
   -- dev)
  have hmb : (m : Int) < (A : Int) := by omega
  obtain ⟨rs, hrs⟩ : ∃ rs, (kt m).2 = rs := ⟨_, rfl⟩
  have hrs2 : rs = (List.range n).map fun k => clN O ac.length (goN nx sv m k) := by rw [← hrs, HK2.out m]
  have Hat := Lib.hid (fun (k : Nat) (hk : k < n) => by rw [hrs2]; simp [hk] : ∀ k, k < n → rs[k]? = some (clN O ac.length (goN nx sv m k)))
  have Hrs := Lib.hid (fun (k : Nat) (v : Int) (h : rs[k]? = some v) => by
   obtain ⟨h1, h2⟩ := List.getElem?_eq_some_iff.1 h
   rw [List.take_succ_eq_append_getElem h1, h2] : ∀ (k : Nat) (v : Int), rs[k]? = some v → rs.take (k + 1) = rs.take k ++ [v])
  have Hall : Hid (rs.take n = rs) := by show _ = _; rw [List.take_of_length_le]; rw [hrs2]; simp
  have hk1 := HK1.out m
  have Hrs0 := Lib.hid hrs
  clear hrs hrs2
  rcases Hsv.out with ⟨hin, hsv⟩ | ⟨hin, hsv⟩
  ·
   obtain ⟨ar, har⟩ : ∃ e, ac[i]? = some e := ⟨_, List.getElem?_eq_getElem hin⟩
   obtain ⟨nr, hnr⟩ : ∃ e, nx[i]? = some e := ⟨_, List.getElem?_eq_getElem (by omega)⟩
   have hal := Hacc.out i ar har
   obtain ⟨l1', l2'⟩ := Hrow.out i nr hnr
   have hmar : m < ar.length := by have := HA.out; omega
   have hmnr : m < nr.length := by have := HA.out; omega
   obtain ⟨v, hv⟩ : ∃ e, ar[m]? = some e := ⟨_, List.getElem?_eq_getElem hmar⟩
   obtain ⟨row, hrow⟩ : ∃ e, nr[m]? = some e := ⟨_, List.getElem?_eq_getElem hmnr⟩
   obtain ⟨r1', r2'⟩ := l2' m row hrow
   have hrn : n ≤ row.length := by omega
   have hrn4 : row.length ≤ 4 := by omega
   have hgo := fun (k : Nat) (z : Int) (hz : row[k]? = some z) => (by rw [hsv, goN_nat, getD_of hnr, getD_of hrow, getD_of hz] : goN nx sv m k = z)
   have hka : (kt m).1 = v := by rw [hk1, hsv, hasN_nat, getD_of har, getD_of hv]
   have Hgo := Lib.hid hgo
   have Hr2 := Lib.hid r2'
   have Har := Lib.hid har
   have Hv := Lib.hid hv
   have Hnr := Lib.hid hnr
   have Hrow2 := Lib.hid hrow
   have hid : decide ((i : Int) < (ac.length : Int)) = true := by apply decide_eq_true; omega
   have hib : (i : Int) < (ac.length : Int) := by omega
   have hib2 : (i : Int) < (nx.length : Int) := by omega
   have hmab : (m : Int) < (ar.length : Int) := by omega
   have hmnb : (m : Int) < (nr.length : Int) := by omega
   have HE : Hid (kt m = (v, rs)) := by show _ = _; exact Prod.ext hka Hrs0.out
   have hnr8 : nr.length ≤ 8 := by have := HA.out; omega
   clear hal l1' l2' r1' r2' hgo har hv hnr hrow hk1 hka hsv
   obtain ⟨-, sa, ca, a0, ra⟩ := nest_sl (g := D.bool) (Hr.out.below hB) Har.out
   obtain ⟨ab, ao, rfl⟩ := nest_some (f := D.bool) ra (by omega)
   obtain ⟨-, z0⟩ := bool_in ra Hv.out
   obtain ⟨ra1, ra2⟩ := nest_bd ra
   unfold maxLen at ra2
   obtain ⟨l0, l1, l2, l3, -, -, -, -, ltL⟩ := (HL.out.below hB).all4
   have n0 := (HL2.out.below hB).c0
   have o0 := (HL3.out.below hB).c0
   clear ra
   cases v
   ·
    go_wp2_with fail
    clear l0 l1 l2 l3 ltL n0 o0 a0 z0
    have HX0 : Hid (y = akT kt m ++ [] ++ rwT (rs.take 0)) := by show _ = _; rw [HY.out]; simp [rwT]
    obtain ⟨l0, l1, l2, l3, -, -, -, -, ltL⟩ := (HL.out.below hB).all4
    have n0 := (HL2.out.below hB).c0
    have o0 := (HL3.out.below hB).c0
    go_wp2_with fail
    clear l0 l1 l2 l3 ltL n0 o0
    obtain ⟨wm, rfl⟩ : ∃ v, v = wr := ⟨_, rfl⟩
    go_loopw [36] (fun i wr => ∃ (k : Nat) (x : List UInt8), k ≤ n ∧ i = .int .i64 k ∧ Hid (x = akT kt m ++ [] ++ rwT (rs.take k)) ∧ x.length ≤ 101 + 100 * m + 3 * k ∧ (∃ T, BldAt w.heap.size T w.heap.size x wr) ∧ w.heap.size < wr.heap.size ∧ Below w.heap.size w wr) (fun i _ => n - (intOf i).toNat)
    case atStart => exact ⟨0, y, by omega, rfl, HX0, by omega, hbl, by omega, hB⟩
    case round =>
     clear hB HX0 hbl
     obtain ⟨k, x, hk, rfl, HX, hxl, hbl, hwz, hB⟩ := hrel
     have hk0 := Int.natCast_nonneg k
     by_cases hkn : k < n
     rotate_left
     ·
      obtain rfl : n = k := by omega
      go_wp2_with fail
      obtain ⟨T, hT⟩ := hbl
      have hTB := hT.set.2
      refine (WriteString_i (s := [59]) hT (by simp only [List.length_cons, List.length_nil]; omega) (by omega)).mono ?_
      rintro e w4 ⟨⟨u, rfl⟩, hb', hs'⟩
      have hszw4 := hs'.size
      replace hB := hB.trans (hs'.below (by omega) (fun x hx => by have := hTB x hx; omega))
      replace hbl : ∃ T, BldAt w.heap.size T w.heap.size (x ++ [59]) w4 := ⟨_, hb'⟩
      have hwzw4 : w.heap.size < w4.heap.size := by omega
      clear hT hTB hb' hs' T
      obtain ⟨x', HYx'⟩ : ∃ yv : List UInt8, Hid (yv = x ++ [59]) := ⟨_, Lib.hid rfl⟩
      rw [← HYx'.out] at hbl
      have hxl' : x'.length ≤ 100 + 100 * (m + 1) := by rw [HYx'.out]; simp only [List.length_append, List.length_cons, List.length_nil]; omega
      have HN : Hid (x' = akT kt (m + 1)) := by
       show _ = _
       rw [HYx'.out, HX.out, Hall.out, akT_succ, HE.out, show atT (false, rs) = rwT rs ++ [59] from rfl]
       simp only [List.append_assoc, List.nil_append]
      clear HYx' HX
      go_wp2_with fail
      go_roundw
      case rel => exact ⟨m + 1, x', by omega, by go_num, HN, hxl', hbl, by omega, hB⟩
      case measure => simp [intOf]; omega
     have hkb : (k : Int) < (n : Int) := by omega
     have hvat := Hat.out k hkn
     obtain ⟨l0, l1, l2, l3, -, -, -, -, ltL⟩ := (HL.out.below hB).all4
     have n0 := (HL2.out.below hB).c0
     have o0 := (HL3.out.below hB).c0
     obtain ⟨-, sn, cn, b0, rb⟩ := nest_sl (g := intsD) (Hq.out.below hB) Hnr.out
     obtain ⟨nb, no, rfl⟩ := nest_some (f := intsD) rb (by omega)
     obtain ⟨rb1, rb2⟩ := nest_bd rb
     unfold maxLen at rb2
     obtain ⟨-, sr, cr, p0, rr⟩ := nest_sl (g := D.int) rb Hrow2.out
     obtain ⟨tb, to', rfl⟩ := nest_some (f := D.int) rr (by omega)
     obtain ⟨rr1, rr2⟩ := nest_bd (f := D.int) rr
     unfold maxLen at rr2
     obtain ⟨z, hz⟩ : ∃ e, row[k]? = some e := ⟨_, List.getElem?_eq_getElem (by omega)⟩
     obtain ⟨-, v0⟩ := int_in rr hz
     have hzb := Hr2.out k z hz
     have hgz := Hgo.out k z hz
     have hkrow : (k : Int) < (row.length : Int) := by omega
     rw [hgz] at hvat
     clear rb rr hz hgz
     by_cases h0 : z < 0
     ·
      obtain ⟨vv, hvv⟩ : ∃ v, O[ac.length]? = some v := ⟨_, List.getElem?_eq_getElem (by have := HOl.out; omega)⟩
      rw [show clN O ac.length z = vv by unfold clN; rw [if_pos h0]; exact getD_of hvv] at hvat
      have hvs := Hsm.out vv (List.mem_of_getElem? hvv)
      obtain ⟨-, x0⟩ := int_in (HO.out.below hB) hvv
      clear hvv
      -- the class's number is written: the list's cell x0 holds vv
      obtain ⟨q1, HQ1, Hc1⟩ := kc_l (P := Tryd.prog) (s := { data := #[32] }) [32] (dgt vv) rfl (by have := dgt_len hvs; simp only [List.length_cons, List.length_nil]; omega)
      have hq1 : q1.length ≤ 3 := by have := dgt_len hvs; rw [HQ1.out]; simp only [List.length_append, List.length_cons, List.length_nil]; omega
      go_wp2_with fail
      refine (decimal_k hvs).mono ?_
      rintro e w9 ⟨rfl, hw9⟩
      rw [hw9]
      clear hw9 x0
      go_wp2_with fail
      clear l0 l1 l2 l3 ltL n0 o0
      obtain ⟨T, hT⟩ := hbl
      have hTB := hT.set.2
      refine (WriteString_i (s := q1) hT (by omega) (by omega)).mono ?_
      rintro e w4 ⟨⟨u, rfl⟩, hb', hs'⟩
      have hszw4 := hs'.size
      replace hB := hB.trans (hs'.below (by omega) (fun x hx => by have := hTB x hx; omega))
      replace hbl : ∃ T, BldAt w.heap.size T w.heap.size (x ++ q1) w4 := ⟨_, hb'⟩
      have hwzw4 : w.heap.size < w4.heap.size := by omega
      clear hT hTB hb' hs' T
      obtain ⟨x', HYx'⟩ : ∃ yv : List UInt8, Hid (yv = x ++ q1) := ⟨_, Lib.hid rfl⟩
      rw [← HYx'.out] at hbl
      have hxl' : x'.length ≤ 101 + 100 * m + 3 * (k + 1) := by rw [HYx'.out]; simp only [List.length_append]; omega
      have HN : Hid (x' = akT kt m ++ [] ++ rwT (rs.take (k + 1))) := by
       show _ = _
       rw [HYx'.out, HX.out, HQ1.out, Hrs.out k vv hvat, rwT_snoc]
       simp only [List.append_assoc, List.cons_append, List.nil_append]
      clear HYx' HX HQ1 hvat
      go_wp2_with fail
      go_roundw
      case rel => exact ⟨k + 1, x', by omega, by go_num, HN, hxl', hbl, by omega, hB⟩
      case measure => simp [intOf]; omega
     ·
      obtain ⟨zn, rfl⟩ : ∃ zn : Nat, z = (zn : Int) := ⟨z.toNat, by omega⟩
      obtain ⟨vv, hvv⟩ : ∃ v, O[zn]? = some v := ⟨_, List.getElem?_eq_getElem (by have := HOl.out; omega)⟩
      rw [show clN O ac.length (zn : Int) = vv by unfold clN; rw [if_neg (by omega), Int.toNat_natCast]; exact getD_of hvv] at hvat
      have hvs := Hsm.out vv (List.mem_of_getElem? hvv)
      have hzb2 : (zn : Int) < (N1 : Int) := by omega
      obtain ⟨-, x0⟩ := int_in (HO.out.below hB) hvv
      clear hvv
      -- the class's number is written: the list's cell x0 holds vv
      obtain ⟨q1, HQ1, Hc1⟩ := kc_l (P := Tryd.prog) (s := { data := #[32] }) [32] (dgt vv) rfl (by have := dgt_len hvs; simp only [List.length_cons, List.length_nil]; omega)
      have hq1 : q1.length ≤ 3 := by have := dgt_len hvs; rw [HQ1.out]; simp only [List.length_append, List.length_cons, List.length_nil]; omega
      go_wp2_with fail
      refine (decimal_k hvs).mono ?_
      rintro e w9 ⟨rfl, hw9⟩
      rw [hw9]
      clear hw9 x0
      go_wp2_with fail
      clear l0 l1 l2 l3 ltL n0 o0
      obtain ⟨T, hT⟩ := hbl
      have hTB := hT.set.2
      refine (WriteString_i (s := q1) hT (by omega) (by omega)).mono ?_
      rintro e w4 ⟨⟨u, rfl⟩, hb', hs'⟩
      have hszw4 := hs'.size
      replace hB := hB.trans (hs'.below (by omega) (fun x hx => by have := hTB x hx; omega))
      replace hbl : ∃ T, BldAt w.heap.size T w.heap.size (x ++ q1) w4 := ⟨_, hb'⟩
      have hwzw4 : w.heap.size < w4.heap.size := by omega
      clear hT hTB hb' hs' T
      obtain ⟨x', HYx'⟩ : ∃ yv : List UInt8, Hid (yv = x ++ q1) := ⟨_, Lib.hid rfl⟩
      rw [← HYx'.out] at hbl
      have hxl' : x'.length ≤ 101 + 100 * m + 3 * (k + 1) := by rw [HYx'.out]; simp only [List.length_append]; omega
      have HN : Hid (x' = akT kt m ++ [] ++ rwT (rs.take (k + 1))) := by
       show _ = _
       rw [HYx'.out, HX.out, HQ1.out, Hrs.out k vv hvat, rwT_snoc]
       simp only [List.append_assoc, List.cons_append, List.nil_append]
      clear HYx' HX HQ1 hvat
      go_wp2_with fail
      go_roundw
      case rel => exact ⟨k + 1, x', by omega, by go_num, HN, hxl', hbl, by omega, hB⟩
      case measure => simp [intOf]; omega
   ·
    go_wp2_with fail
    clear l0 l1 l2 l3 ltL n0 o0 a0 z0
    obtain ⟨T, hT⟩ := hbl
    have hTB := hT.set.2
    refine (WriteString_i (s := [43]) hT (by simp only [List.length_cons, List.length_nil]; omega) (by omega)).mono ?_
    rintro e w3 ⟨⟨u, rfl⟩, hb', hs'⟩
    have hszw3 := hs'.size
    replace hB := hB.trans (hs'.below (by omega) (fun x hx => by have := hTB x hx; omega))
    replace hbl : ∃ T, BldAt w.heap.size T w.heap.size (y ++ [43]) w3 := ⟨_, hb'⟩
    have hwzw3 : w.heap.size < w3.heap.size := by omega
    clear hT hTB hb' hs' T
    obtain ⟨y1, HYy1⟩ : ∃ yv : List UInt8, Hid (yv = y ++ [43]) := ⟨_, Lib.hid rfl⟩
    rw [← HYy1.out] at hbl
    obtain ⟨wr, rfl⟩ : ∃ v, v = w3 := ⟨_, rfl⟩
    have hyl1 : y1.length ≤ 101 + 100 * m := by rw [HYy1.out]; simp only [List.length_append, List.length_cons, List.length_nil]; omega
    have HX0 : Hid (y1 = akT kt m ++ [43] ++ rwT (rs.take 0)) := by show _ = _; rw [HYy1.out, HY.out]; simp [rwT]
    obtain ⟨l0, l1, l2, l3, -, -, -, -, ltL⟩ := (HL.out.below hB).all4
    have n0 := (HL2.out.below hB).c0
    have o0 := (HL3.out.below hB).c0
    go_wp2_with fail
    clear l0 l1 l2 l3 ltL n0 o0
    obtain ⟨wm, rfl⟩ : ∃ v, v = wr := ⟨_, rfl⟩
    go_loopw [36] (fun i wr => ∃ (k : Nat) (x : List UInt8), k ≤ n ∧ i = .int .i64 k ∧ Hid (x = akT kt m ++ [43] ++ rwT (rs.take k)) ∧ x.length ≤ 101 + 100 * m + 3 * k ∧ (∃ T, BldAt w.heap.size T w.heap.size x wr) ∧ w.heap.size < wr.heap.size ∧ Below w.heap.size w wr) (fun i _ => n - (intOf i).toNat)
    case atStart => exact ⟨0, y1, by omega, rfl, HX0, by omega, hbl, by omega, hB⟩
    case round =>
     clear hB HX0 hbl
     obtain ⟨k, x, hk, rfl, HX, hxl, hbl, hwz, hB⟩ := hrel
     have hk0 := Int.natCast_nonneg k
     by_cases hkn : k < n
     rotate_left
     ·
      obtain rfl : n = k := by omega
      go_wp2_with fail
      obtain ⟨T, hT⟩ := hbl
      have hTB := hT.set.2
      refine (WriteString_i (s := [59]) hT (by simp only [List.length_cons, List.length_nil]; omega) (by omega)).mono ?_
      rintro e w4 ⟨⟨u, rfl⟩, hb', hs'⟩
      have hszw4 := hs'.size
      replace hB := hB.trans (hs'.below (by omega) (fun x hx => by have := hTB x hx; omega))
      replace hbl : ∃ T, BldAt w.heap.size T w.heap.size (x ++ [59]) w4 := ⟨_, hb'⟩
      have hwzw4 : w.heap.size < w4.heap.size := by omega
      clear hT hTB hb' hs' T
      obtain ⟨x', HYx'⟩ : ∃ yv : List UInt8, Hid (yv = x ++ [59]) := ⟨_, Lib.hid rfl⟩
      rw [← HYx'.out] at hbl
      have hxl' : x'.length ≤ 100 + 100 * (m + 1) := by rw [HYx'.out]; simp only [List.length_append, List.length_cons, List.length_nil]; omega
      have HN : Hid (x' = akT kt (m + 1)) := by
       show _ = _
       rw [HYx'.out, HX.out, Hall.out, akT_succ, HE.out, show atT (true, rs) = [43] ++ rwT rs ++ [59] from rfl]
       simp only [List.append_assoc, List.nil_append]
      clear HYx' HX
      go_wp2_with fail
      go_roundw
      case rel => exact ⟨m + 1, x', by omega, by go_num, HN, hxl', hbl, by omega, hB⟩
      case measure => simp [intOf]; omega
     have hkb : (k : Int) < (n : Int) := by omega
     have hvat := Hat.out k hkn
     obtain ⟨l0, l1, l2, l3, -, -, -, -, ltL⟩ := (HL.out.below hB).all4
     have n0 := (HL2.out.below hB).c0
     have o0 := (HL3.out.below hB).c0
     obtain ⟨-, sn, cn, b0, rb⟩ := nest_sl (g := intsD) (Hq.out.below hB) Hnr.out
     obtain ⟨nb, no, rfl⟩ := nest_some (f := intsD) rb (by omega)
     obtain ⟨rb1, rb2⟩ := nest_bd rb
     unfold maxLen at rb2
     obtain ⟨-, sr, cr, p0, rr⟩ := nest_sl (g := D.int) rb Hrow2.out
     obtain ⟨tb, to', rfl⟩ := nest_some (f := D.int) rr (by omega)
     obtain ⟨rr1, rr2⟩ := nest_bd (f := D.int) rr
     unfold maxLen at rr2
     obtain ⟨z, hz⟩ : ∃ e, row[k]? = some e := ⟨_, List.getElem?_eq_getElem (by omega)⟩
     obtain ⟨-, v0⟩ := int_in rr hz
     have hzb := Hr2.out k z hz
     have hgz := Hgo.out k z hz
     have hkrow : (k : Int) < (row.length : Int) := by omega
     rw [hgz] at hvat
     clear rb rr hz hgz
     by_cases h0 : z < 0
     ·
      obtain ⟨vv, hvv⟩ : ∃ v, O[ac.length]? = some v := ⟨_, List.getElem?_eq_getElem (by have := HOl.out; omega)⟩
      rw [show clN O ac.length z = vv by unfold clN; rw [if_pos h0]; exact getD_of hvv] at hvat
      have hvs := Hsm.out vv (List.mem_of_getElem? hvv)
      obtain ⟨-, x0⟩ := int_in (HO.out.below hB) hvv
      clear hvv
      -- the class's number is written: the list's cell x0 holds vv
      obtain ⟨q1, HQ1, Hc1⟩ := kc_l (P := Tryd.prog) (s := { data := #[32] }) [32] (dgt vv) rfl (by have := dgt_len hvs; simp only [List.length_cons, List.length_nil]; omega)
      have hq1 : q1.length ≤ 3 := by have := dgt_len hvs; rw [HQ1.out]; simp only [List.length_append, List.length_cons, List.length_nil]; omega
      go_wp2_with fail
      refine (decimal_k hvs).mono ?_
      rintro e w9 ⟨rfl, hw9⟩
      rw [hw9]
      clear hw9 x0
      go_wp2_with fail
      clear l0 l1 l2 l3 ltL n0 o0
      obtain ⟨T, hT⟩ := hbl
      have hTB := hT.set.2
      refine (WriteString_i (s := q1) hT (by omega) (by omega)).mono ?_
      rintro e w4 ⟨⟨u, rfl⟩, hb', hs'⟩
      have hszw4 := hs'.size
      replace hB := hB.trans (hs'.below (by omega) (fun x hx => by have := hTB x hx; omega))
      replace hbl : ∃ T, BldAt w.heap.size T w.heap.size (x ++ q1) w4 := ⟨_, hb'⟩
      have hwzw4 : w.heap.size < w4.heap.size := by omega
      clear hT hTB hb' hs' T
      obtain ⟨x', HYx'⟩ : ∃ yv : List UInt8, Hid (yv = x ++ q1) := ⟨_, Lib.hid rfl⟩
      rw [← HYx'.out] at hbl
      have hxl' : x'.length ≤ 101 + 100 * m + 3 * (k + 1) := by rw [HYx'.out]; simp only [List.length_append]; omega
      have HN : Hid (x' = akT kt m ++ [43] ++ rwT (rs.take (k + 1))) := by
       show _ = _
       rw [HYx'.out, HX.out, HQ1.out, Hrs.out k vv hvat, rwT_snoc]
       simp only [List.append_assoc, List.cons_append, List.nil_append]
      clear HYx' HX HQ1 hvat
      go_wp2_with fail
      go_roundw
      case rel => exact ⟨k + 1, x', by omega, by go_num, HN, hxl', hbl, by omega, hB⟩
      case measure => simp [intOf]; omega
     ·
      obtain ⟨zn, rfl⟩ : ∃ zn : Nat, z = (zn : Int) := ⟨z.toNat, by omega⟩
      obtain ⟨vv, hvv⟩ : ∃ v, O[zn]? = some v := ⟨_, List.getElem?_eq_getElem (by have := HOl.out; omega)⟩
      rw [show clN O ac.length (zn : Int) = vv by unfold clN; rw [if_neg (by omega), Int.toNat_natCast]; exact getD_of hvv] at hvat
      have hvs := Hsm.out vv (List.mem_of_getElem? hvv)
      have hzb2 : (zn : Int) < (N1 : Int) := by omega
      obtain ⟨-, x0⟩ := int_in (HO.out.below hB) hvv
      clear hvv
      -- the class's number is written: the list's cell x0 holds vv
      obtain ⟨q1, HQ1, Hc1⟩ := kc_l (P := Tryd.prog) (s := { data := #[32] }) [32] (dgt vv) rfl (by have := dgt_len hvs; simp only [List.length_cons, List.length_nil]; omega)
      have hq1 : q1.length ≤ 3 := by have := dgt_len hvs; rw [HQ1.out]; simp only [List.length_append, List.length_cons, List.length_nil]; omega
      go_wp2_with fail
      refine (decimal_k hvs).mono ?_
      rintro e w9 ⟨rfl, hw9⟩
      rw [hw9]
      clear hw9 x0
      go_wp2_with fail
      clear l0 l1 l2 l3 ltL n0 o0
      obtain ⟨T, hT⟩ := hbl
      have hTB := hT.set.2
      refine (WriteString_i (s := q1) hT (by omega) (by omega)).mono ?_
      rintro e w4 ⟨⟨u, rfl⟩, hb', hs'⟩
      have hszw4 := hs'.size
      replace hB := hB.trans (hs'.below (by omega) (fun x hx => by have := hTB x hx; omega))
      replace hbl : ∃ T, BldAt w.heap.size T w.heap.size (x ++ q1) w4 := ⟨_, hb'⟩
      have hwzw4 : w.heap.size < w4.heap.size := by omega
      clear hT hTB hb' hs' T
      obtain ⟨x', HYx'⟩ : ∃ yv : List UInt8, Hid (yv = x ++ q1) := ⟨_, Lib.hid rfl⟩
      rw [← HYx'.out] at hbl
      have hxl' : x'.length ≤ 101 + 100 * m + 3 * (k + 1) := by rw [HYx'.out]; simp only [List.length_append]; omega
      have HN : Hid (x' = akT kt m ++ [43] ++ rwT (rs.take (k + 1))) := by
       show _ = _
       rw [HYx'.out, HX.out, HQ1.out, Hrs.out k vv hvat, rwT_snoc]
       simp only [List.append_assoc, List.cons_append, List.nil_append]
      clear HYx' HX HQ1 hvat
      go_wp2_with fail
      go_roundw
      case rel => exact ⟨k + 1, x', by omega, by go_num, HN, hxl', hbl, by omega, hB⟩
      case measure => simp [intOf]; omega
  ·
   have hid : decide ((i : Int) < (ac.length : Int)) = false := by apply decide_eq_false; omega
   have hka : (kt m).1 = false := by rw [hk1, hsv]; unfold hasN; rw [decide_eq_false (by omega), Bool.false_and]
   have HE : Hid (kt m = (false, rs)) := by show _ = _; exact Prod.ext hka Hrs0.out
   have HGN : Hid (∀ k, goN nx sv m k = -1) := fun k => by rw [hsv]; unfold goN; rw [if_pos (by omega)]
   have hib : ¬ (i : Int) < (ac.length : Int) := by omega
   clear hk1 hka hsv hin
   obtain ⟨l0, l1, l2, l3, -, -, -, -, ltL⟩ := (HL.out.below hB).all4
   have n0 := (HL2.out.below hB).c0
   have o0 := (HL3.out.below hB).c0
   go_wp2_with fail
   clear l0 l1 l2 l3 ltL n0 o0
   have HX0 : Hid (y = akT kt m ++ [] ++ rwT (rs.take 0)) := by show _ = _; rw [HY.out]; simp [rwT]
   obtain ⟨l0, l1, l2, l3, -, -, -, -, ltL⟩ := (HL.out.below hB).all4
   have n0 := (HL2.out.below hB).c0
   have o0 := (HL3.out.below hB).c0
   go_wp2_with fail
   clear l0 l1 l2 l3 ltL n0 o0
   obtain ⟨wm, rfl⟩ : ∃ v, v = wr := ⟨_, rfl⟩
   go_loopw [36] (fun i wr => ∃ (k : Nat) (x : List UInt8), k ≤ n ∧ i = .int .i64 k ∧ Hid (x = akT kt m ++ [] ++ rwT (rs.take k)) ∧ x.length ≤ 101 + 100 * m + 3 * k ∧ (∃ T, BldAt w.heap.size T w.heap.size x wr) ∧ w.heap.size < wr.heap.size ∧ Below w.heap.size w wr) (fun i _ => n - (intOf i).toNat)
   case atStart => exact ⟨0, y, by omega, rfl, HX0, by omega, hbl, by omega, hB⟩
   case round =>
    clear hB HX0 hbl
    obtain ⟨k, x, hk, rfl, HX, hxl, hbl, hwz, hB⟩ := hrel
    have hk0 := Int.natCast_nonneg k
    by_cases hkn : k < n
    rotate_left
    ·
     obtain rfl : n = k := by omega
     go_wp2_with fail
     obtain ⟨T, hT⟩ := hbl
     have hTB := hT.set.2
     refine (WriteString_i (s := [59]) hT (by simp only [List.length_cons, List.length_nil]; omega) (by omega)).mono ?_
     rintro e w4 ⟨⟨u, rfl⟩, hb', hs'⟩
     have hszw4 := hs'.size
     replace hB := hB.trans (hs'.below (by omega) (fun x hx => by have := hTB x hx; omega))
     replace hbl : ∃ T, BldAt w.heap.size T w.heap.size (x ++ [59]) w4 := ⟨_, hb'⟩
     have hwzw4 : w.heap.size < w4.heap.size := by omega
     clear hT hTB hb' hs' T
     obtain ⟨x', HYx'⟩ : ∃ yv : List UInt8, Hid (yv = x ++ [59]) := ⟨_, Lib.hid rfl⟩
     rw [← HYx'.out] at hbl
     have hxl' : x'.length ≤ 100 + 100 * (m + 1) := by rw [HYx'.out]; simp only [List.length_append, List.length_cons, List.length_nil]; omega
     have HN : Hid (x' = akT kt (m + 1)) := by
      show _ = _
      rw [HYx'.out, HX.out, Hall.out, akT_succ, HE.out, show atT (false, rs) = rwT rs ++ [59] from rfl]
      simp only [List.append_assoc, List.nil_append]
     clear HYx' HX
     go_wp2_with fail
     go_roundw
     case rel => exact ⟨m + 1, x', by omega, by go_num, HN, hxl', hbl, by omega, hB⟩
     case measure => simp [intOf]; omega
    have hkb : (k : Int) < (n : Int) := by omega
    have hvat := Hat.out k hkn
    obtain ⟨l0, l1, l2, l3, -, -, -, -, ltL⟩ := (HL.out.below hB).all4
    have n0 := (HL2.out.below hB).c0
    have o0 := (HL3.out.below hB).c0
    have hgz := HGN.out k
    rw [hgz] at hvat
    clear hgz
    obtain ⟨vv, hvv⟩ : ∃ v, O[ac.length]? = some v := ⟨_, List.getElem?_eq_getElem (by have := HOl.out; omega)⟩
    rw [show clN O ac.length (-1) = vv by unfold clN; rw [if_pos (by omega)]; exact getD_of hvv] at hvat
    have hvs := Hsm.out vv (List.mem_of_getElem? hvv)
    obtain ⟨-, x0⟩ := int_in (HO.out.below hB) hvv
    clear hvv
    -- the class's number is written: the list's cell x0 holds vv
    obtain ⟨q1, HQ1, Hc1⟩ := kc_l (P := Tryd.prog) (s := { data := #[32] }) [32] (dgt vv) rfl (by have := dgt_len hvs; simp only [List.length_cons, List.length_nil]; omega)
    have hq1 : q1.length ≤ 3 := by have := dgt_len hvs; rw [HQ1.out]; simp only [List.length_append, List.length_cons, List.length_nil]; omega
    go_wp2_with fail
    refine (decimal_k hvs).mono ?_
    rintro e w9 ⟨rfl, hw9⟩
    rw [hw9]
    clear hw9 x0
    go_wp2_with fail
    clear l0 l1 l2 l3 ltL n0 o0
    obtain ⟨T, hT⟩ := hbl
    have hTB := hT.set.2
    refine (WriteString_i (s := q1) hT (by omega) (by omega)).mono ?_
    rintro e w4 ⟨⟨u, rfl⟩, hb', hs'⟩
    have hszw4 := hs'.size
    replace hB := hB.trans (hs'.below (by omega) (fun x hx => by have := hTB x hx; omega))
    replace hbl : ∃ T, BldAt w.heap.size T w.heap.size (x ++ q1) w4 := ⟨_, hb'⟩
    have hwzw4 : w.heap.size < w4.heap.size := by omega
    clear hT hTB hb' hs' T
    obtain ⟨x', HYx'⟩ : ∃ yv : List UInt8, Hid (yv = x ++ q1) := ⟨_, Lib.hid rfl⟩
    rw [← HYx'.out] at hbl
    have hxl' : x'.length ≤ 101 + 100 * m + 3 * (k + 1) := by rw [HYx'.out]; simp only [List.length_append]; omega
    have HN : Hid (x' = akT kt m ++ [] ++ rwT (rs.take (k + 1))) := by
     show _ = _
     rw [HYx'.out, HX.out, HQ1.out, Hrs.out k vv hvat, rwT_snoc]
     simp only [List.append_assoc, List.cons_append, List.nil_append]
    clear HYx' HX HQ1 hvat
    go_wp2_with fail
    go_roundw
    case rel => exact ⟨k + 1, x', by omega, by go_num, HN, hxl', hbl, by omega, hB⟩
    case measure => simp [intOf]; omega
end Go.Proofs.YtfhlddbngjlhbaaDoor

namespace Go.Proofs.YtfhlddbngjlhbaaDoor
set_option linter.unusedVariables false
set_option linter.unusedSimpArgs false
open Go.ChangeShapes Go.WideShapes Go.ChangeAt Go.RowKit Go.Sort
set_option maxHeartbeats 4000000 in
theorem l02SameRow_any (xs ys : List Bool) (s t : Option Addr) (c d : Nat) (w : World) (hr : Rd w (boolsD xs) (.slice s xs.length c)) (hr' : Rd w (boolsD ys) (.slice t ys.length d)) :
  Calls Tryd.prog 62 #[.slice s xs.length c, .slice t ys.length d] w fun e w' => e = .returned (.bool (eqb xs ys)) ∧ Below w.heap.size w w' := by
 obtain ⟨hlen, hcap⟩ := nest_bd hr
 obtain ⟨hlen', hcap'⟩ := nest_bd hr'
 unfold maxLen at hcap hcap'
 by_cases hl : xs.length = ys.length
 ·
  have b1 : ((xs.length : Int) != (ys.length : Int)) = false := by simp [hl]
  have Hl := Lib.hid hl
  clear hl
  go_enter Tryd.func62, Tryd.ntmps62
  go_wp2_with fail
  go_loopw [5] (fun i wr => ∃ k : Nat, k ≤ xs.length ∧ i = .int .i64 k ∧ xs.take k = ys.take k ∧ Below w.heap.size w wr) (fun i _ => xs.length - (intOf i).toNat)
  case atStart => exact ⟨0, by omega, rfl, by simp, Below.refl _ _⟩
  case round =>
   obtain ⟨k, hk, rfl, hpre, hB⟩ := hrel
   have Hpre := Lib.hid hpre
   clear hpre
   by_cases hlt : k < xs.length
   ·
    have hlt' : k < ys.length := by have := Hl.out; omega
    obtain ⟨x, hx⟩ : ∃ e, xs[k]? = some e := ⟨_, List.getElem?_eq_getElem hlt⟩
    obtain ⟨y, hy⟩ : ∃ e, ys[k]? = some e := ⟨_, List.getElem?_eq_getElem hlt'⟩
    obtain ⟨b, o, rfl⟩ := nest_some hr (by omega)
    obtain ⟨b', o', rfl⟩ := nest_some hr' (by omega)
    obtain ⟨hbl, g0⟩ := bool_in hr hx
    obtain ⟨hbl', k0⟩ := bool_in hr' hy
    have ha := Int.natCast_nonneg k
    have hb : (k : Int) < (xs.length : Int) := by omega
    have hb' : (k : Int) < (ys.length : Int) := by omega
    have HB := Lib.hid hB
    have G0 := Lib.hid g0
    have K0 := Lib.hid k0
    clear g0 k0
    have szB := hB.size
    have Hx := Lib.hid hx
    have Hy := Lib.hid hy
    clear hx hy
    go_wp2_with fail
    refine region_rs [] [] (fun _ _ => False) (wr.heap.size) (fun i iv vs wx => match i with
     | 0 => vs 0 = .slice (some ⟨b, o, none⟩) xs.length c
     | 1 => vs 1 = .int .i64 k
     | 2 => vs 2 = .pointer (some ⟨b, o + k, none⟩)
     | 3 => vs 3 = .bool x
     | 4 => vs 4 = .slice (some ⟨b', o', none⟩) ys.length d
     | 5 => vs 5 = .int .i64 k
     | 6 => vs 6 = .pointer (some ⟨b', o' + k, none⟩)
     | 7 => vs 7 = .bool y
     | 8 => vs 8 = .bool (x != y)
     | _ => True) (fun i iv vs => match i with
     | 0 => vs 0 = .slice (some ⟨b, o, none⟩) xs.length c
     | 1 => vs 1 = .int .i64 k
     | 2 => vs 2 = .pointer (some ⟨b, o + k, none⟩)
     | 3 => vs 3 = .bool x
     | 4 => vs 4 = .slice (some ⟨b', o', none⟩) ys.length d
     | 5 => vs 5 = .int .i64 k
     | 6 => vs 6 = .pointer (some ⟨b', o' + k, none⟩)
     | 7 => vs 7 = .bool y
     | 8 => vs 8 = .bool (x != y)
     | _ => True) (by kernel_rfl) (by kernel_rfl) [0, 1, 2, 3, 4, 5, 6, 7, 8] (by kernel_rfl) ?hbase ?hGb ?hG ?hJ ?hE ?hEE ?hstep ?hQ
    case hbase => first | exact Nat.le_refl _ | omega | (simp; omega)
    case hGb =>
     exact fun _ _ h => h.elim
    case hG =>
     exact fun _ _ _ h => h.elim
    case hJ =>
     intro i hi iv iv' vs vs' wx wx' ha hv hz hk hj
     simp only [List.mem_cons, List.not_mem_nil, or_false] at hi
     rcases hi with rfl | rfl | rfl | rfl | rfl | rfl | rfl | rfl | rfl
     ·
      exact (hv.out 0 (mem_of (by kernel_rfl))).symm.trans hj
     ·
      exact (hv.out 1 (mem_of (by kernel_rfl))).symm.trans hj
     ·
      exact (hv.out 2 (mem_of (by kernel_rfl))).symm.trans hj
     ·
      exact (hv.out 3 (mem_of (by kernel_rfl))).symm.trans hj
     ·
      exact (hv.out 4 (mem_of (by kernel_rfl))).symm.trans hj
     ·
      exact (hv.out 5 (mem_of (by kernel_rfl))).symm.trans hj
     ·
      exact (hv.out 6 (mem_of (by kernel_rfl))).symm.trans hj
     ·
      exact (hv.out 7 (mem_of (by kernel_rfl))).symm.trans hj
     ·
      exact (hv.out 8 (mem_of (by kernel_rfl))).symm.trans hj
    case hE =>
     intro i hi iv vs wx hj
     simp only [List.mem_cons, List.not_mem_nil, or_false] at hi
     rcases hi with rfl | rfl | rfl | rfl | rfl | rfl | rfl | rfl | rfl
     ·
      exact hj
     ·
      exact hj
     ·
      exact hj
     ·
      exact hj
     ·
      exact hj
     ·
      exact hj
     ·
      exact hj
     ·
      exact hj
     ·
      exact hj
    case hEE =>
     intro i hi iv iv' vs vs' ha hv hj
     simp only [List.mem_cons, List.not_mem_nil, or_false] at hi
     rcases hi with rfl | rfl | rfl | rfl | rfl | rfl | rfl | rfl | rfl
     ·
      exact (hv.out 0 (mem_of (by kernel_rfl))).symm.trans hj
     ·
      exact (hv.out 1 (mem_of (by kernel_rfl))).symm.trans hj
     ·
      exact (hv.out 2 (mem_of (by kernel_rfl))).symm.trans hj
     ·
      exact (hv.out 3 (mem_of (by kernel_rfl))).symm.trans hj
     ·
      exact (hv.out 4 (mem_of (by kernel_rfl))).symm.trans hj
     ·
      exact (hv.out 5 (mem_of (by kernel_rfl))).symm.trans hj
     ·
      exact (hv.out 6 (mem_of (by kernel_rfl))).symm.trans hj
     ·
      exact (hv.out 7 (mem_of (by kernel_rfl))).symm.trans hj
     ·
      exact (hv.out 8 (mem_of (by kernel_rfl))).symm.trans hj
    case hstep =>
     intro i hi opr ho iv vs w1 hB hS hSo hd he hbd hsep hun K hK
     simp only [List.mem_cons, List.not_mem_nil, or_false] at hi
     have hzB := hB.size
     have hBw1 : Below w.heap.size w w1 := HB.out.trans (hB.mono szB)
     have g0 := (hBw1.cell (p := ⟨b, o + k, none⟩) hbl).trans G0.out
     have k0 := (hBw1.cell (p := ⟨b', o' + k, none⟩) hbl').trans K0.out
     generalize hA : putFrom _ 0 vs _ = A at hK ⊢
     simp only [putFrom, puts] at hA
     rcases hi with rfl | rfl | rfl | rfl | rfl | rfl | rfl | rfl | rfl
     all_goals
      simp at ho
      subst ho
      subst hA
     ·
      go_wp2_with fail
      exact Onward.mk (hK (.slice (some ⟨b, o, none⟩) xs.length c) _ _ (fun h => by cases h) (by first | rfl | (simp only [puts])) (Spares.refl _) (fun iv' _ _ => rfl))
     ·
      go_wp2_with fail
      exact Onward.mk (hK (.int .i64 k) _ _ (fun h => by cases h) (by first | rfl | (simp only [puts])) (Spares.refl _) (fun iv' _ _ => rfl))
     ·
      have h0 : vs 0 = .slice (some ⟨b, o, none⟩) xs.length c := hd.out 0 (mem_of (by kernel_rfl)) (by decide) (by kernel_rfl)
      have h1 : vs 1 = .int .i64 k := hd.out 1 (mem_of (by kernel_rfl)) (by decide) (by kernel_rfl)
      go_wp2_with fail
      exact Onward.mk (hK (.pointer (some ⟨b, o + k, none⟩)) _ _ (fun h => by cases h) (by first | rfl | (simp only [puts, h0, h1])) (Spares.refl _) (fun iv' _ _ => rfl))
     ·
      have h2 : vs 2 = .pointer (some ⟨b, o + k, none⟩) := hd.out 2 (mem_of (by kernel_rfl)) (by decide) (by kernel_rfl)
      go_wp2_with fail
      exact Onward.mk (hK (.bool x) _ _ (fun h => by cases h) (by first | rfl | (simp only [puts, h2])) (Spares.refl _) (fun iv' _ _ => rfl))
     ·
      go_wp2_with fail
      exact Onward.mk (hK (.slice (some ⟨b', o', none⟩) ys.length d) _ _ (fun h => by cases h) (by first | rfl | (simp only [puts])) (Spares.refl _) (fun iv' _ _ => rfl))
     ·
      go_wp2_with fail
      exact Onward.mk (hK (.int .i64 k) _ _ (fun h => by cases h) (by first | rfl | (simp only [puts])) (Spares.refl _) (fun iv' _ _ => rfl))
     ·
      have h4 : vs 4 = .slice (some ⟨b', o', none⟩) ys.length d := hd.out 4 (mem_of (by kernel_rfl)) (by decide) (by kernel_rfl)
      have h5 : vs 5 = .int .i64 k := hd.out 5 (mem_of (by kernel_rfl)) (by decide) (by kernel_rfl)
      go_wp2_with fail
      exact Onward.mk (hK (.pointer (some ⟨b', o' + k, none⟩)) _ _ (fun h => by cases h) (by first | rfl | (simp only [puts, h4, h5])) (Spares.refl _) (fun iv' _ _ => rfl))
     ·
      have h6 : vs 6 = .pointer (some ⟨b', o' + k, none⟩) := hd.out 6 (mem_of (by kernel_rfl)) (by decide) (by kernel_rfl)
      go_wp2_with fail
      exact Onward.mk (hK (.bool y) _ _ (fun h => by cases h) (by first | rfl | (simp only [puts, h6])) (Spares.refl _) (fun iv' _ _ => rfl))
     ·
      have h3 : vs 3 = .bool x := hd.out 3 (mem_of (by kernel_rfl)) (by decide) (by kernel_rfl)
      have h7 : vs 7 = .bool y := hd.out 7 (mem_of (by kernel_rfl)) (by decide) (by kernel_rfl)
      rcases x with _ | _ <;> rcases y with _ | _ <;> (go_wp2_with fail; first
       | exact Onward.mk (hK (.bool true) _ _ (by simp) (by simp only [putFrom, puts, h3, h7]) (Spares.of_below (Below.refl _ _)) (fun iv' _ _ => rfl))
       | exact Onward.mk (hK (.bool false) _ _ (by simp) (by simp only [putFrom, puts, h3, h7]) (Spares.of_below (Below.refl _ _)) (fun iv' _ _ => rfl)))
    case hQ =>
     intro iv vs wx hB hSp hd he hbd hsep
     have hzB := hB.size
     have h0 : vs 0 = .slice (some ⟨b, o, none⟩) xs.length c := hd.out 0 (mem_of (by kernel_rfl)) (not_eaten (by kernel_rfl))
     have h1 : vs 1 = .int .i64 k := hd.out 1 (mem_of (by kernel_rfl)) (not_eaten (by kernel_rfl))
     have h2 : vs 2 = .pointer (some ⟨b, o + k, none⟩) := hd.out 2 (mem_of (by kernel_rfl)) (not_eaten (by kernel_rfl))
     have h3 : vs 3 = .bool x := hd.out 3 (mem_of (by kernel_rfl)) (not_eaten (by kernel_rfl))
     have h4 : vs 4 = .slice (some ⟨b', o', none⟩) ys.length d := hd.out 4 (mem_of (by kernel_rfl)) (not_eaten (by kernel_rfl))
     have h5 : vs 5 = .int .i64 k := hd.out 5 (mem_of (by kernel_rfl)) (not_eaten (by kernel_rfl))
     have h6 : vs 6 = .pointer (some ⟨b', o' + k, none⟩) := hd.out 6 (mem_of (by kernel_rfl)) (not_eaten (by kernel_rfl))
     have h7 : vs 7 = .bool y := hd.out 7 (mem_of (by kernel_rfl)) (not_eaten (by kernel_rfl))
     have h8 : vs 8 = .bool (x != y) := hd.out 8 (mem_of (by kernel_rfl)) (not_eaten (by kernel_rfl))
     simp only [putFrom, puts]
     have hBx : Below w.heap.size w wx := HB.out.trans (hB.mono szB)
     simp only [h8]
     clear hd he hbd hsep h0 h1 h2 h3 h4 h5 h6 h7 h8 hB
     by_cases hxy : x = y
     ·
      subst hxy
      have b2 : (x != x) = false := by simp
      have Hst : Hid (xs.take (k + 1) = ys.take (k + 1)) := take_same Hx.out Hy.out Hpre.out
      rw [b2]
      clear b2
      go_wp2_with fail
      go_roundw
      case rel => exact ⟨k + 1, by omega, by go_num, Hst.out, hBx⟩
      case measure => simp [intOf]; omega
     ·
      have b2 : (x != y) = true := by simp [hxy]
      have c2 : eqb xs ys = false := eqb_false (by
       intro h
       have := Hx.out
       rw [h] at this
       exact hxy (Option.some.inj (this.symm.trans Hy.out)))
      have C2 := Lib.hid c2
      rw [b2]
      clear b2 c2 hxy
      go_wp2_with fail
      go_ret
      exact ⟨ret_bool (by rw [C2.out]), hBx⟩
   ·
    obtain rfl : k = xs.length := by omega
    have c2 : eqb xs ys = true := eqb_true (by
     have := Hpre.out
     rwa [List.take_length, Hl.out, List.take_length] at this)
    have C2 := Lib.hid c2
    clear c2
    go_wp2_with fail
    go_ret
    exact ⟨ret_bool (by rw [C2.out]), hB⟩
 ·
  have b1 : ((xs.length : Int) != (ys.length : Int)) = true := by simp; omega
  have c2 : eqb xs ys = false := eqb_false (by intro h; rw [h] at hl; exact hl rfl)
  rw [c2]
  clear c2 hl
  go_enter Tryd.func62, Tryd.ntmps62
  go_wp2_with fail
  go_ret
  exact ⟨rfl, Below.refl _ _⟩
end Go.Proofs.YtfhlddbngjlhbaaDoor
