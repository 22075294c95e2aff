/-
  Parts of a proof, joined: CountF, LiveS, Reach. No condition.
-/
import Derived.Test.YtjlmdhoajfdkbaaGreatDoorPk36
namespace Go.Proofs.YtjlmdhoajfdkbaaGreatDoor
set_option linter.unusedVariables false
set_option linter.unusedSimpArgs false
open Go.ChangeShapes Go.WideShapes Go.ChangeAt Go.RowKit Go.Sort
set_option maxRecDepth 100000 in
set_option maxHeartbeats 16000000 in
theorem countFrom_i {t a : Int} {ac : List (List Bool)} {nx : List (List (List Int))} {s u : Option Addr} {c d n : Nat} {w : World} (hr : Rd w (bbD ac) (.slice s ac.length c)) (hq : Rd w (iiiD nx) (.slice u nx.length d)) (hok : AutOk t a ac nx) (hn : n ≤ 10) :
  Calls Tryz.prog 96 #[.agg #[.int .i64 t, .int .i64 a, .slice s ac.length c, .slice u nx.length d], .int .i64 n] w fun e w' => ∃ g, e = .returned (.slice (some ⟨g, 0, none⟩) ac.length ac.length) ∧ Fresh w w' (intsD (cntN ac nx n)) (.slice (some ⟨g, 0, none⟩) ac.length ac.length) ∧ Below w.heap.size w w' := by
 obtain ⟨hlen, hcap⟩ := nest_bd hr
 obtain ⟨hlen', hcap'⟩ := nest_bd hq
 unfold maxLen at hcap hcap'
 have hn1 := hok.lo
 have hn2 := hok.hi
 have hnl := Lib.hid hok.len
 have Hok := Lib.hid hok
 have Hr := Lib.hid hr
 have Hq := Lib.hid hq
 obtain ⟨i0, hi, hz0, hz1, hz2⟩ := info_parts info_int64
 have L := Blk.new4 w 75 (.int .i64 t) (.int .i64 a) (.slice s ac.length c) (.slice u nx.length d)
 have HL := Lib.hid L
 have l2 := L.c2
 clear hok L
 go_enter Tryz.func96, Tryz.ntmps96
 go_wp2_with (at_make; refine wpList_make_full _ rfl _ _ 52 rfl w.heap.size 2 i0 (.int .i64 0) 1 Tryz.underlying52 hi hz0 hz1 .i64 .i64 _ _ ac.length rfl rfl rfl rfl (by rw [hz2]; omega) (by unfold maxLen; omega) (by simp) ?_; intro w1 hown hgrow; have hbx := HL.out.keep (hgrow.block _ HL.out.lt (by simp)); have c2' := hbx.c2)
 have hB0 : Below w.heap.size w w1 := Below.grown (Below.alloc (Below.refl _ _) (Nat.le_refl _) _) hgrow (by simp) (by simp)
 clear c2'
 rw [show (w.alloc (.cells #[.int .i64 t, .int .i64 a, .slice s ac.length c, .slice u nx.length d] 75)).heap.size = w.heap.size + 1 by simp] at hown
 obtain ⟨hb0, -⟩ := made_blk (z := .int .i64 0) rfl hown
 have hfill := FillL.start (z := (0 : Int)) (cntN_length Hok.out 0)
 have hb1 : Blk w1 (w.heap.size + 1) 2 ((List.replicate ac.length (0 : Int)).map (Value.int .i64)) := by simpa using hb0
 have Hst := Lib.hid (And.intro hb1 (And.intro hfill (And.intro hbx hB0)))
 have HBx := Lib.hid hbx
 clear hown hgrow hb0 hb1 hfill hbx hB0 HL l2
 go_loopw [24] (fun i wr => ∃ (k : Nat) (L : List Int), k ≤ ac.length ∧ i = .int .i64 k ∧ Blk wr (w.heap.size + 1) 2 (L.map (Value.int .i64)) ∧ FillL (0 : Int) (cntN ac nx 0) k L ∧ Blk wr w.heap.size 75 [.int .i64 t, .int .i64 a, .slice s ac.length c, .slice u nx.length d] ∧ Below w.heap.size w wr) (fun i _ => ac.length - (intOf i).toNat)
 case atStart => exact ⟨0, _, by omega, rfl, Hst.out⟩
 case round =>
  clear Hst HBx
  obtain ⟨k, L, hk, rfl, hb, hfill, hbx, hB⟩ := hrel
  obtain ⟨wo, rfl⟩ : ∃ v, v = wr := ⟨_, rfl⟩
  have szB := hB.size
  have HBx := Lib.hid hbx
  have HB := Lib.hid hB
  by_cases hlt : k < ac.length
  ·
   obtain ⟨ar, har⟩ : ∃ e, ac[k]? = some e := ⟨_, List.getElem?_eq_getElem hlt⟩
   obtain ⟨sb, so, rfl⟩ := nest_some (f := boolsD) Hr.out (by omega)
   obtain ⟨hsl, sa, ca, a0, ra⟩ := nest_sl (g := D.bool) Hr.out har
   replace a0 := (HB.out.cell (p := ⟨sb, so + k, none⟩) hsl).trans a0
   obtain ⟨ra1, ra2⟩ := nest_bd ra
   unfold maxLen at ra2
   have Hra := Lib.hid ra
   have hkz := Int.natCast_nonneg k
   have hkb : (k : Int) < (ac.length : Int) := by omega
   have hkL : k < L.length := by have := hfill.1; rw [cntN_length Hok.out] at this; omega
   have hb' : Blk wo (w.heap.size + 1) 2 ((L.set k 0).map (Value.int .i64)) := by rw [set_zero_same (hfill.at (by rw [cntN_length Hok.out]; exact hlt))]; exact hb
   have HB' := Lib.hid hb'
   have Hfill := Lib.hid (fun v => hfill.step (v := v))
   have Hat := Lib.hid (cntN_zero_at (nx := nx) har)
   have Hbd := Lib.hid (fun l => cnt0_bd Hok.out har l)
   have Hsu := Lib.hid (fun j b => cnt0_succ (ar := ar) (j := j) (b := b))
   clear hb hfill hbx hB hb' har ra
   have c2' := HBx.out.c2
   have c3' := HBx.out.c3
   have hbl := HBx.out.lt
   go_wp2_with fail
   clear c2' c3' hbl a0
   go_loopw [31] (fun i wr => ∃ (m : Nat) (p : Int), m ≤ ar.length ∧ i = .int .i64 m ∧ Hid (p = cnt0 (ar.take m)) ∧ Blk wr (w.heap.size + 1) 2 ((L.set k p).map (Value.int .i64)) ∧ Blk wr w.heap.size 75 [.int .i64 t, .int .i64 a, .slice (some ⟨sb, so, none⟩) ac.length c, .slice u nx.length d] ∧ Below w.heap.size w wr) (fun i _ => ar.length - (intOf i).toNat)
   case atStart => exact ⟨0, 0, by omega, rfl, by show (0 : Int) = _; simp [cnt0, sumI], HB'.out, HBx.out, HB.out⟩
   case round =>
    clear HB' HBx HB
    obtain ⟨m, p, hm, rfl, Hp, hb, hbx, hB⟩ := hrel
    have HBx := Lib.hid hbx
    have HB := Lib.hid hB
    by_cases hml : m < ar.length
    ·
     obtain ⟨z, hz⟩ : ∃ e, ar[m]? = some e := ⟨_, List.getElem?_eq_getElem hml⟩
     obtain ⟨rb, ro, rfl⟩ := nest_some (f := D.bool) Hra.out (by omega)
     obtain ⟨-, z0⟩ := bool_in (Hra.out.below HB.out) hz
     have hmz := Int.natCast_nonneg m
     have hmb : (m : Int) < (ar.length : Int) := by omega
     have x0 := arr_cell hb (set_at (x := p) hkL)
     have f0 := hb.frozen k
     obtain ⟨p1, p2⟩ := Hbd.out m
     rw [← Hp.out] at p1 p2
     have Hp2 := Lib.hid (Hsu.out m z hz)
     have gl := hb.lt
     have Hset := Lib.hid (arr_set hb k (p + 1))
     clear hbx hB hz
     have c2' := HBx.out.c2
     have c3' := HBx.out.c3
     have hbl := HBx.out.lt
     cases z
     ·
      have Hp3 : Hid (p = cnt0 (ar.take (m + 1))) := by show _ = _; rw [Hp2.out, Hp.out]; simp
      have Hb := Lib.hid hb
      clear Hp2 x0 f0 gl Hset hb
      go_wp2_with fail
      go_roundw
      case rel => exact ⟨m + 1, p, by omega, by go_num, Hp3, Hb.out, HBx.out, HB.out⟩
      case measure => simp [intOf]; omega
     ·
      have Hp3 : Hid (p + 1 = cnt0 (ar.take (m + 1))) := by show _ = _; rw [Hp2.out, ← Hp.out]; simp
      have Hfin := Lib.hid (And.intro Hset.out (And.intro (HBx.out.other (p := ⟨w.heap.size + 1, k, none⟩) (by simp) (.int .i64 (p + 1))) (Below.setCell (p := ⟨w.heap.size + 1, k, none⟩) HB.out (by simp) (.int .i64 (p + 1)))))
      clear Hp2 Hset hb
      go_wp2_with fail
      go_roundw
      case rel => exact ⟨m + 1, p + 1, by omega, by go_num, Hp3, by rw [← set_twice] ; exact Hfin.out.1, Hfin.out.2⟩
      case measure => simp [intOf]; omega
    ·
     obtain rfl : m = ar.length := by omega
     have hst := Hfill.out p (by rw [Hp.out, List.take_length]; exact Hat.out)
     have Hst := Lib.hid hst
     have Hb := Lib.hid hb
     clear hst hb hbx hB
     go_wp2_with fail
     go_roundw
     case rel => exact ⟨k + 1, _, by omega, by go_num, Hb.out, Hst.out, HBx.out, HB.out⟩
     case measure => simp [intOf]; omega
  ·
   obtain rfl : k = ac.length := by omega
   obtain rfl : L = cntN ac nx 0 := FillL.all (by rw [cntN_length Hok.out]; exact hfill)
   have Hst : Hid (Blk wo (w.heap.size + 1) 2 ((cntN ac nx 0).map (Value.int .i64)) ∧ w.heap.size < w.heap.size + 1 ∧ Blk wo w.heap.size 75 [.int .i64 t, .int .i64 a, .slice s ac.length c, .slice u nx.length d] ∧ Below w.heap.size w wo) := ⟨hb, by omega, hbx, hB⟩
   have hW := hB.size
   have HW := Lib.hid hW
   clear hb hfill hbx hB hW
   go_wp2_with fail
   go_loopw [5, 45] (fun v i wr => ∃ (k g : Nat), k ≤ n ∧ i = .int .i64 k ∧ v = .slice (some ⟨g, 0, none⟩) ac.length ac.length ∧ Blk wr g 2 ((cntN ac nx k).map (Value.int .i64)) ∧ w.heap.size < g ∧ Blk wr w.heap.size 75 [.int .i64 t, .int .i64 a, .slice s ac.length c, .slice u nx.length d] ∧ Below w.heap.size w wr) (fun _ i _ => n - (intOf i).toNat)
   case atStart => exact ⟨0, _, by omega, rfl, rfl, Hst.out⟩
   case round =>
    clear Hst
    obtain ⟨k, g, hk, rfl, rfl, hb, hg, hbx, hB⟩ := hrel
    obtain ⟨w2, rfl⟩ : ∃ v, v = wr := ⟨_, rfl⟩
    have HBx := Lib.hid hbx
    have HB := Lib.hid hB
    have Hb := Lib.hid hb
    have sz2 := hB.size
    have gl2 := hb.lt
    clear hb hbx hB
    by_cases hkn : k < n
    rotate_left
    ·
     obtain rfl : k = n := by omega
     have Hfr := Lib.hid (arr_fresh (fd := D.int) (W := w) Hb.out (by omega) (fun x => Ow.int x) (cntN_length Hok.out k) (by unfold maxLen; omega))
     go_wp2_with fail
     go_ret
     exact ⟨g, rfl, Hfr.out, HB.out⟩
    have hm10 : k + 1 ≤ 10 := by omega
    go_wp2_with (at_make; refine wpList_make_full _ rfl _ _ 52 rfl w.heap.size 2 i0 (.int .i64 0) 1 Tryz.underlying52 hi hz0 hz1 .i64 .i64 _ _ ac.length rfl rfl rfl rfl (by rw [hz2]; omega) (by unfold maxLen; omega) (by omega) ?_; intro w3 hown hgrow; have hbx := HBx.out.keep (hgrow.block _ HBx.out.lt (by simp)); have c3' := hbx.c3)
    have hB3 : Below w.heap.size w w3 := Below.grown HB.out hgrow sz2 (by simp)
    have hb3 := Hb.out.keep (hgrow.block _ Hb.out.lt (by simp))
    obtain ⟨hb0, -⟩ := made_blk (z := .int .i64 0) rfl hown
    have hfill := FillL.start (z := (0 : Int)) (cntN_length Hok.out (k + 1))
    have hb1 : Blk w3 w2.heap.size 2 ((List.replicate ac.length (0 : Int)).map (Value.int .i64)) := by simpa using hb0
    obtain ⟨g2, hg2⟩ : ∃ v, v = w2.heap.size := ⟨_, rfl⟩
    rw [← hg2] at hb1 sz2 gl2 ⊢
    have hgg : g ≠ g2 := by omega
    have hg3 : w.heap.size < g2 := by omega
    have Hst : Hid (Blk w3 g2 2 ((List.replicate ac.length (0 : Int)).map (Value.int .i64)) ∧ FillL (0 : Int) (cntN ac nx (k + 1)) 0 (List.replicate ac.length 0) ∧ Blk w3 g 2 ((cntN ac nx k).map (Value.int .i64)) ∧ Blk w3 w.heap.size 75 [.int .i64 t, .int .i64 a, .slice s ac.length c, .slice u nx.length d] ∧ Below w.heap.size w w3) := ⟨hb1, hfill, hb3, hbx, hB3⟩
    have hcl := Lib.hid (cntN_length Hok.out k)
    have hcl2 := Lib.hid (cntN_length Hok.out (k + 1))
    clear hown hgrow hb0 hb1 hfill hbx hB3 hb3 Hb HBx HB c3' hg2 sz2 gl2
    go_loopw [53] (fun i wr => ∃ (j : Nat) (L : List Int), j ≤ nx.length ∧ i = .int .i64 j ∧ Blk wr g2 2 (L.map (Value.int .i64)) ∧ FillL (0 : Int) (cntN ac nx (k + 1)) j L ∧ Blk wr g 2 ((cntN ac nx k).map (Value.int .i64)) ∧ Blk wr w.heap.size 75 [.int .i64 t, .int .i64 a, .slice s ac.length c, .slice u nx.length d] ∧ Below w.heap.size w wr) (fun i _ => nx.length - (intOf i).toNat)
    case atStart => exact ⟨0, _, by omega, rfl, Hst.out⟩
    case round =>
     clear Hst
     obtain ⟨j, L, hj, rfl, hb, hfill, hb3, hbx, hB⟩ := hrel
     obtain ⟨w4, rfl⟩ : ∃ v, v = wr := ⟨_, rfl⟩
     have HBx := Lib.hid hbx
     have HB := Lib.hid hB
     have Hb3 := Lib.hid hb3
     clear hbx hB hb3
     by_cases hjl : j < nx.length
     rotate_left
     ·
      obtain rfl : j = nx.length := by omega
      obtain rfl : L = cntN ac nx (k + 1) := FillL.all (by rw [hcl2.out, ← hnl.out]; exact hfill)
      have Hb := Lib.hid hb
      clear hb hfill
      go_wp2_with fail
      go_roundw
      case rel => exact ⟨k + 1, g2, by omega, by go_num, rfl, Hb.out, hg3, HBx.out, HB.out⟩
      case measure => simp [intOf]; omega
     obtain ⟨nr, hnr⟩ : ∃ e, nx[j]? = some e := ⟨_, List.getElem?_eq_getElem hjl⟩
     obtain ⟨ub, uo, rfl⟩ := nest_some (f := iiD) Hq.out (by omega)
     obtain ⟨hul, sn, cn, b0, rb⟩ := nest_sl (g := intsD) Hq.out hnr
     replace b0 := (HB.out.cell (p := ⟨ub, uo + j, none⟩) hul).trans b0
     obtain ⟨rb1, rb2⟩ := nest_bd rb
     unfold maxLen at rb2
     have Hrb := Lib.hid rb
     have hjz := Int.natCast_nonneg j
     have hjb : (j : Int) < (nx.length : Int) := by omega
     have hjL : j < L.length := by have := hfill.1; rw [hcl2.out] at this; have := hnl.out; omega
     have hjL2 : j < ac.length := by have := hnl.out; omega
     have hb' : Blk w4 g2 2 ((L.set j 0).map (Value.int .i64)) := by rw [set_zero_same (hfill.at (by rw [hcl2.out]; exact hjL2))]; exact hb
     have HB' := Lib.hid hb'
     have Hfill := Lib.hid (fun v => hfill.step (v := v))
     have Hat := Lib.hid (cntN_at (ac := ac) (n := k) hnr)
     have Hbd := Lib.hid (fun (i l : Nat) (row : List Int) (hi : nr[i]? = some row) => cnt_round Hok.out hm10 hnr hi l)
     have Hce := Lib.hid (fun (i l : Nat) (row : List Int) (z : Int) (hi : nr[i]? = some row) (hl : row[l]? = some z) => cnt_cell Hok.out hm10 hnr hi hl)
     clear hb hfill hb' hnr rb
     go_wp2_with fail
     clear b0
     go_loopw [60] (fun i wr => ∃ (l : Nat) (S : Int), l ≤ nr.length ∧ i = .int .i64 l ∧ Hid (S = cntRows (cntN ac nx k) (nr.take l)) ∧ Blk wr g2 2 ((L.set j S).map (Value.int .i64)) ∧ Blk wr g 2 ((cntN ac nx k).map (Value.int .i64)) ∧ Blk wr w.heap.size 75 [.int .i64 t, .int .i64 a, .slice s ac.length c, .slice (some ⟨ub, uo, none⟩) nx.length d] ∧ Below w.heap.size w wr) (fun i _ => nr.length - (intOf i).toNat)
     case atStart => exact ⟨0, 0, by omega, rfl, by show (0 : Int) = _; simp [cntRows, sumI], HB'.out, Hb3.out, HBx.out, HB.out⟩
     case round =>
      clear HB' HBx HB Hb3
      obtain ⟨l, S, hl, rfl, HS, hb, hb3, hbx, hB⟩ := hrel
      obtain ⟨w5, rfl⟩ : ∃ v, v = wr := ⟨_, rfl⟩
      have HBx := Lib.hid hbx
      have HB := Lib.hid hB
      have Hb3 := Lib.hid hb3
      have Hb := Lib.hid hb
      clear hbx hB hb3 hb
      by_cases hll : l < nr.length
      rotate_left
      ·
       obtain rfl : l = nr.length := by omega
       have hst := Hfill.out S (by rw [HS.out, List.take_length]; exact Hat.out)
       have Hst := Lib.hid hst
       clear hst
       go_wp2_with fail
       go_roundw
       case rel => exact ⟨j + 1, _, by omega, by go_num, Hb.out, Hst.out, Hb3.out, HBx.out, HB.out⟩
       case measure => simp [intOf]; omega
      obtain ⟨row, hrow⟩ : ∃ e, nr[l]? = some e := ⟨_, List.getElem?_eq_getElem hll⟩
      obtain ⟨vb, vo, rfl⟩ := nest_some (f := intsD) Hrb.out (by omega)
      obtain ⟨hvl, sr, cr, r0, rr⟩ := nest_sl (g := D.int) Hrb.out hrow
      replace r0 := (HB.out.cell (p := ⟨vb, vo + l, none⟩) hvl).trans r0
      obtain ⟨rr1, rr2⟩ := nest_bd rr
      unfold maxLen at rr2
      have hlz := Int.natCast_nonneg l
      have hlb : (l : Int) < (nr.length : Int) := by omega
      have Hrow := Lib.hid hrow
      have Hrr := Lib.hid rr
      have Hs := Lib.hid (cntRows_succ (c := cntN ac nx k) hrow)
      have HS2 : Hid (S = cntRows (cntN ac nx k) (nr.take l) + cntRow (cntN ac nx k) (row.take 0)) := by show _ = _; rw [HS.out]; simp [cntRow, sumI]
      clear hrow rr
      go_wp2_with fail
      clear r0
      go_loopw [66] (fun i wr => ∃ (m : Nat) (T : Int), m ≤ row.length ∧ i = .int .i64 m ∧ Hid (T = cntRows (cntN ac nx k) (nr.take l) + cntRow (cntN ac nx k) (row.take m)) ∧ Blk wr g2 2 ((L.set j T).map (Value.int .i64)) ∧ Blk wr g 2 ((cntN ac nx k).map (Value.int .i64)) ∧ Blk wr w.heap.size 75 [.int .i64 t, .int .i64 a, .slice s ac.length c, .slice (some ⟨ub, uo, none⟩) nx.length d] ∧ Below w.heap.size w wr) (fun i _ => row.length - (intOf i).toNat)
      case atStart => exact ⟨0, S, by omega, rfl, HS2, Hb.out, Hb3.out, HBx.out, HB.out⟩
      case round =>
       clear Hb HBx HB Hb3 HS2
       obtain ⟨m, T, hm, rfl, HT, hb, hb3, hbx, hB⟩ := hrel
       have HBx := Lib.hid hbx
       have HB := Lib.hid hB
       have Hb3 := Lib.hid hb3
       have Hb := Lib.hid hb
       clear hbx hB hb3 hb
       by_cases hml : m < row.length
       rotate_left
       ·
        obtain rfl : m = row.length := by omega
        have HT2 : Hid (T = cntRows (cntN ac nx k) (nr.take (l + 1))) := by show _ = _; rw [HT.out, List.take_length, Hs.out]
        go_wp2_with fail
        go_roundw
        case rel => exact ⟨l + 1, T, by omega, by go_num, HT2, Hb.out, Hb3.out, HBx.out, HB.out⟩
        case measure => simp [intOf]; omega
       obtain ⟨z, hz⟩ : ∃ e, row[m]? = some e := ⟨_, List.getElem?_eq_getElem hml⟩
       obtain ⟨tb, to', rfl⟩ := nest_some (f := D.int) Hrr.out (by omega)
       obtain ⟨-, z0⟩ := int_in (Hrr.out.below HB.out) hz
       have hmz := Int.natCast_nonneg m
       have hmb : (m : Int) < (row.length : Int) := by omega
       obtain ⟨t1, t2⟩ := Hbd.out l m row Hrow.out
       rw [← HT.out] at t1 t2
       obtain ⟨z1, z2, z3, z4⟩ := Hce.out l m row z Hrow.out hz
       clear hz
       by_cases hneg : z < 0
       ·
        have HT2 : Hid (T = cntRows (cntN ac nx k) (nr.take l) + cntRow (cntN ac nx k) (row.take (m + 1))) := by show _ = _; rw [HT.out, z4 hneg]
        clear z3 z4
        go_wp2_with fail
        go_roundw
        case rel => exact ⟨m + 1, T, by omega, by go_num, HT2, Hb.out, Hb3.out, HBx.out, HB.out⟩
        case measure => simp [intOf]; omega
       ·
        obtain ⟨zn, rfl⟩ : ∃ zn : Nat, z = (zn : Int) := ⟨z.toNat, by omega⟩
        obtain ⟨v, hv, v1, v2, v3⟩ := z3 (by omega)
        rw [Int.toNat_natCast] at hv
        have x0 := arr_cell Hb3.out hv
        have y0 := arr_cell Hb.out (set_at (x := T) hjL)
        have f0 := Hb.out.frozen j
        have gl := Hb.out.lt
        have HT2 : Hid (T + v = cntRows (cntN ac nx k) (nr.take l) + cntRow (cntN ac nx k) (row.take (m + 1))) := by show _ = _; rw [HT.out, v3]; omega
        have Hset := arr_set Hb.out j (T + v)
        rw [set_twice] at Hset
        have Hfin := Lib.hid (And.intro Hset (And.intro (Hb3.out.other (p := ⟨g2, j, none⟩) hgg (.int .i64 (T + v))) (And.intro (HBx.out.other (p := ⟨g2, j, none⟩) (by simp; omega) (.int .i64 (T + v))) (Below.setCell (p := ⟨g2, j, none⟩) HB.out (by simp; omega) (.int .i64 (T + v))))))
        have hzn := Int.natCast_nonneg zn
        have hznb : (zn : Int) < (ac.length : Int) := by omega
        clear z3 z4 hv v3 Hset
        go_wp2_with fail
        go_region
        go_wp2_with fail
        go_roundw
        case rel => exact ⟨m + 1, T + v, by omega, by go_num, HT2, Hfin.out.1, Hfin.out.2.1, Hfin.out.2.2.1, Hfin.out.2.2.2.drew⟩
        case measure => simp [intOf]; omega
end Go.Proofs.YtjlmdhoajfdkbaaGreatDoor

namespace Go.Proofs.YtjlmdhoajfdkbaaGreatDoor
set_option linter.unusedVariables false
set_option linter.unusedSimpArgs false
open Go.ChangeShapes Go.WideShapes Go.ChangeAt Go.RowKit Go.Sort
section
variable {ac : List (List Bool)} {nx : List (List (List Int))} {L : List Bool}
theorem or_step {y B h x : Bool} (e : y = (B || h)) : (y || x) = (B || (h || x)) := by rw [e, Bool.or_assoc]
theorem hitR_zero {P : Nat → Bool} {row : List Int} : hitR P (row.take 0) = false := by simp [hitR]
theorem hitR_succ {P : Nat → Bool} {row : List Int} {k : Nat} {z : Int} (hz : row[k]? = some z) : hitR P (row.take (k + 1)) = (hitR P (row.take k) || (decide (0 ≤ z) && P z.toNat)) := by
 obtain ⟨hk, rfl⟩ := List.getElem?_eq_some_iff.1 hz
 unfold hitR
 rw [List.take_succ_eq_append_getElem hk, List.any_append]
 simp
end
end Go.Proofs.YtjlmdhoajfdkbaaGreatDoor

namespace Go.Proofs.YtjlmdhoajfdkbaaGreatDoor
set_option linter.unusedVariables false
set_option linter.unusedSimpArgs false
open Go.ChangeShapes Go.WideShapes Go.ChangeAt Go.RowKit Go.Sort
def rchL (ac : List (List Bool)) (nx : List (List (List Int))) (k : Nat) : List (List Bool) := (List.range k).map (reachL ac nx)
theorem rchL_length (ac : List (List Bool)) (nx : List (List (List Int))) (k : Nat) : (rchL ac nx k).length = k := by simp [rchL]
theorem rchL_at {ac : List (List Bool)} {nx : List (List (List Int))} {k i : Nat} (h : i < k) : (rchL ac nx k)[i]? = some (reachL ac nx i) := by simp [rchL, h]
theorem rchL_succ (ac : List (List Bool)) (nx : List (List (List Int))) (k : Nat) : rchL ac nx (k + 1) = rchL ac nx k ++ [reachL ac nx k] := by simp [rchL, List.range_succ]
theorem App.bbd {W w : World} {t : TypeId} {xss : List (List Bool)} {n : Nat} {v : Value} (h : App W w t 1 n (xss.map boolsD) v) (hn : xss.length = n) : Rd w (nestD boolsD xss) v := by
 subst hn
 exact h.rd
theorem any_succ {α : Type} {p : α → Bool} {L : List α} {j : Nat} {x : α} (h : L[j]? = some x) : (L.take (j + 1)).any p = ((L.take j).any p || p x) := by
 obtain ⟨h1, rfl⟩ := List.getElem?_eq_some_iff.1 h
 rw [List.take_succ_eq_append_getElem h1, List.any_append]
 simp
theorem accW_zero_at {ac : List (List Bool)} {nx : List (List (List Int))} {s : Nat} {ar : List Bool} (h : ac[s]? = some ar) : accW ac nx 0 s = ar.any id := by
 show (ac.getD s []).any id = _
 rw [List.getD_eq_getElem?_getD, h]
 rfl
theorem accW_succ_at {ac : List (List Bool)} {nx : List (List (List Int))} {n s : Nat} {nr : List (List Int)} (h : nx[s]? = some nr) : accW ac nx (n + 1) s = nr.any (hitR (accW ac nx n)) := by
 show (nx.getD s []).any _ = _
 rw [List.getD_eq_getElem?_getD, h]
 rfl
set_option maxRecDepth 100000 in
set_option maxHeartbeats 16000000 in
theorem l02Reach_i {t a : Int} {ac : List (List Bool)} {nx : List (List (List Int))} {s u : Option Addr} {c d b o n : Nat} {w0 : World} (h : AutAt w0 b o t a ac nx s u c d) (hok : AutOk t a ac nx) (hn : n ≤ 1000) :
  Calls Tryz.prog 106 #[.pointer (some ⟨b, o, none⟩), .int .i64 n] w0 fun e w' => ∃ s' c', e = .returned (.slice s' (n + 1) c') ∧ Fresh w0 w' (nestD boolsD (rchL ac nx (n + 1))) (.slice s' (n + 1) c') ∧ Below w0.heap.size w0 w' := by
 have g4 := h.2.2.2.2.1
 have g5 := h.2.2.2.2.2
 obtain ⟨hlen, hcap⟩ := nest_bd g4
 obtain ⟨hlen', hcap'⟩ := nest_bd g5
 unfold maxLen at hcap hcap'
 have hn1 := hok.lo
 have hn2 := hok.hi
 have hnl := Lib.hid hok.len
 have Hok := Lib.hid hok
 have Hh := Lib.hid h
 have HG4 := Lib.hid g4
 have HG5 := Lib.hid g5
 obtain ⟨i0, hi, hz0, hz1, hz2'⟩ := info_parts info_bl
 have h0 := App.empty (W := w0) (size := 1) (Blk.made w0 127 #[]) (Nat.le_refl _)
 clear hok h g4 g5
 go_enter Tryz.func106, Tryz.ntmps106
 go_wp2_with fail
 go_loopw [5, 6] (fun v i wr => ∃ k : Nat, k ≤ n + 1 ∧ i = .int .i64 k ∧ App w0 wr 127 1 k ((rchL ac nx k).map boolsD) v ∧ Below w0.heap.size w0 wr) (fun _ i _ => n + 1 - (intOf i).toNat)
 case atStart => exact ⟨0, by omega, rfl, by simpa [rchL] using h0, by (repeat' first | exact Below.refl _ _ | assumption | apply Below.alloc | apply Below.drew | apply Below.setCell | omega | (simp; done) | (simp; omega))⟩
 case round =>
  clear h0
  obtain ⟨k, hk, rfl, happ, hB⟩ := hrel
  have szB := hB.size
  obtain ⟨a', cap', rfl, hcap1, hcap2⟩ := happ.shape
  unfold maxLen at hcap2
  have hk0' := Int.natCast_nonneg k
  by_cases hkn : k ≤ n
  rotate_left
  ·
   obtain rfl : k = n + 1 := by omega
   have hf := happ.freshN (rchL_length ac nx (n + 1))
   go_wp2_with fail
   go_ret
   exact ⟨a', cap', rfl, hf, hB⟩
  obtain ⟨wo, rfl⟩ : ∃ v, v = wr := ⟨_, rfl⟩
  have hrd := happ.bbd (rchL_length ac nx k)
  obtain ⟨c0, c1', c2', c3', -, -⟩ := Hh.out.below hB
  have HA := Lib.hid happ
  have HB := Lib.hid hB
  have HR := Lib.hid hrd
  have hkb : (k : Int) ≤ (n : Int) := by omega
  clear happ hB hrd
  go_wp2_with (at_make; refine wpList_make_full _ rfl _ _ 127 rfl wo.heap.size 4 i0 (.bool false) 1 Tryz.underlying127 hi hz0 hz1 .i64 .i64 _ _ ac.length rfl rfl rfl rfl (by rw [hz2']; omega) (by unfold maxLen; omega) (by simp) ?_; intro w1 hown hgrow)
  have hB1 : Below wo.heap.size wo w1 := Below.grown (Below.refl _ _) hgrow (by simp) (by simp)
  obtain ⟨hb0, -⟩ := made_blk (z := .bool false) rfl hown
  have hb1 : Blk w1 wo.heap.size 4 ((List.replicate ac.length false).map Value.bool) := by simpa using hb0
  have hfill := FillL.start (z := false) (reachL_len (ac := ac) (nx := nx) k)
  have Hst := Lib.hid (And.intro hb1 (And.intro hfill hB1))
  clear hown hgrow hb0 hb1 hB1 hfill c0 c1' c2' c3'
  go_loopw [8] (fun i wr => ∃ (x : Nat) (M : List Bool), x ≤ ac.length ∧ i = .int .i64 x ∧ Blk wr wo.heap.size 4 (M.map Value.bool) ∧ FillL false (reachL ac nx k) x M ∧ Below wo.heap.size wo wr) (fun i _ => ac.length - (intOf i).toNat)
  case atStart => exact ⟨0, _, by omega, rfl, Hst.out⟩
  case round =>
   clear Hst
   obtain ⟨x, M, hx, rfl, hb, hfill, hBx⟩ := hrel
   obtain ⟨wx, rfl⟩ : ∃ v, v = wr := ⟨_, rfl⟩
   have hx0 := Int.natCast_nonneg x
   have szx := hBx.size
   have hMl : M.length = ac.length := by have := hfill.1; rw [reachL_len] at this; exact this
   have Hb := Lib.hid hb
   have HBx := Lib.hid hBx
   by_cases hlt : x < ac.length
   rotate_left
   ·
    obtain rfl : x = ac.length := by omega
    obtain rfl : M = reachL ac nx k := FillL.all (by rw [reachL_len]; exact hfill)
    have HC := Lib.hid (rchL_succ ac nx k)
    have hf : Freshs wo wx [boolsD (reachL ac nx k)] [.slice (some ⟨wo.heap.size, 0, none⟩) ac.length ac.length] := Freshs.one (arr_fresh (fd := D.bool) (W := wo) hb (Nat.le_refl _) (fun x => Ow.bool x) hMl (by unfold maxLen; omega))
    have hf2 := hf.on (Below.alloc (Below.refl _ _) (Nat.le_refl _) (.cells #[.slice (some ⟨wo.heap.size, 0, none⟩) ac.length ac.length] 127))
    have happ := HA.out
    obtain ⟨c0, c1', c2', c3', -, -⟩ := Hh.out.below (HB.out.trans ((hBx).mono szB))
    clear hb hfill hf hBx
    go_wp2_with (at_builtin; go_must (refine wpList_append_app _ rfl _ _ 72 rfl 127 (.slice none 0 0) 1 24 Tryz.underlying72 info_bls rfl (by decide) _ rfl happ (HBx.out.alloc szx _) szB ⟨wx.heap.size, 0, none⟩ 1 1 [.slice (some ⟨wo.heap.size, 0, none⟩) ac.length ac.length] rfl (news_blk (Blk.made _ _ _)) hf2 rfl (by simp [Value.oneCell']) (by omega) (by omega) (by unfold maxLen; omega) ?_); intro g3 cap3 w3 happ3 hb3)
    have hB3 : Below w0.heap.size w0 w3 := ((HB.out.trans (HBx.out.mono szB)).alloc (by omega) _).trans hb3
    have Hfin := Lib.hid (And.intro (happ3.sized (show _ = ((rchL ac nx (k + 1)).map boolsD) by rw [HC.out, List.map_append]; rfl) rfl) hB3)
    clear happ3 hb3 hB3 happ hf2
    go_wp2_with fail
    go_roundw
    case rel => exact ⟨k + 1, by omega, by go_num, Hfin.out.1, Hfin.out.2⟩
    case measure => simp [intOf]; omega
   obtain ⟨ar, har⟩ : ∃ e, ac[x]? = some e := ⟨_, List.getElem?_eq_getElem hlt⟩
   obtain ⟨nr, hnr⟩ : ∃ e, nx[x]? = some e := ⟨_, List.getElem?_eq_getElem (by have := hnl.out; omega)⟩
   obtain ⟨sb, so, rfl⟩ := nest_some (f := boolsD) HG4.out (by omega)
   obtain ⟨ub, uo, rfl⟩ := nest_some (f := iiD) HG5.out (by have := hnl.out; omega)
   obtain ⟨hsl, sa, ca, a0, ra⟩ := nest_sl (g := D.bool) HG4.out har
   obtain ⟨hul, sn, cn, b0, rb⟩ := nest_sl (g := intsD) HG5.out hnr
   obtain ⟨ra1, ra2⟩ := nest_bd ra
   obtain ⟨rb1, rb2⟩ := nest_bd rb
   unfold maxLen at ra2 rb2
   have hal : nr.length = ar.length := by
    have h1 := Hok.out.acc_row har
    have h2 := (Hok.out.row hnr).1
    omega
   have Htg := Lib.hid (fun (l : Nat) (row : List Int) (h : nr[l]? = some row) (z : Int) (hz : z ∈ row) => Hok.out.targets x row z (by rw [List.getD_eq_getElem?_getD, hnr]; exact List.mem_of_getElem? h) hz)
   have hal1 : ar.length ≤ nr.length := by omega
   have hxb : (x : Int) < (ac.length : Int) := by omega
   have hxc : (x : Int) < (nx.length : Int) := by have := hnl.out; omega
   have hxM : x < M.length := by omega
   have hb' : Blk wx wo.heap.size 4 ((M.set x false).map Value.bool) := by rw [set_zero_same (hfill.at (by rw [reachL_len]; exact hlt))]; exact hb
   have Hb' := Lib.hid hb'
   have Hfill := Lib.hid (fun v h => hfill.step (v := v) h)
   have Hra := Lib.hid ra
   have Hrb := Lib.hid rb
   have Ha0 := Lib.hid a0
   have Hb0 := Lib.hid b0
   have Hrz := Lib.hid (reachL_at (ac := ac) (nx := nx) (n := k) hlt)
   by_cases hk0 : k = 0
   ·
    have e0 : ((k : Int) == 0) = true := by simp [hk0]
    have e1 : decide ((0 : Int) < (k : Int)) = false := by simp [hk0]
    have e2 : decide (0 < k) = false := by simp [hk0]
    have Hlast : Hid ((reachL ac nx k)[x]? = some ((ar.take ar.length).any id)) := by show _ = _; rw [Hrz.out, List.take_length, hk0, accW_zero_at har]
    obtain ⟨c0, c1', c2', c3', -, -⟩ := Hh.out.below (HB.out.trans ((hBx).mono szB))
    clear hb hfill hBx hb' hnr hal ra rb hk0 har
    go_wp2_with fail
    go_loopw [9] (fun i wr => ∃ (j : Nat) (y : Bool), j ≤ ar.length ∧ i = .int .i64 j ∧ Hid (y = (ar.take j).any id) ∧ Blk wr wo.heap.size 4 ((M.set x y).map Value.bool) ∧ Below wo.heap.size wo wr) (fun i _ => ar.length - (intOf i).toNat)
    case atStart => exact ⟨0, false, by omega, rfl, by show _ = _; simp, Hb'.out, HBx.out⟩
    case round =>
     clear c0 c1' c2' c3' a0 b0
     obtain ⟨j, y, hj, rfl, HY, hbj, hBj⟩ := hrel
     obtain ⟨wj, rfl⟩ : ∃ v, v = wr := ⟨_, rfl⟩
     have hj0 := Int.natCast_nonneg j
     have HBj := Lib.hid hBj
     have Hbj := Lib.hid hbj
     have szj := hBj.size
     have lg := hbj.lt
     have x0 := arr_cell hbj (set_at (x := y) (i := x) (by omega))
     have f0 := hbj.frozen x
     have hBw := HB.out.trans (hBj.mono szB)
     have a0 := (hBw.cell (p := ⟨sb, so + x, none⟩) hsl).trans Ha0.out
     have b0 := (hBw.cell (p := ⟨ub, uo + x, none⟩) hul).trans Hb0.out
     by_cases hjl : j < ar.length
     rotate_left
     ·
      obtain rfl : j = ar.length := by omega
      have HF2 := Lib.hid (Hfill.out y (by rw [HY.out]; exact Hlast.out))
      obtain ⟨c0, c1', c2', c3', -, -⟩ := Hh.out.below (HB.out.trans ((hBj).mono szB))
      clear hbj hBj x0 f0 HY hBw
      go_wp2_with fail
      go_roundw
      case rel => exact ⟨x + 1, _, by omega, by go_num, Hbj.out, HF2.out, HBj.out⟩
      case measure => simp [intOf]; omega
     obtain ⟨z, hz⟩ : ∃ e, ar[j]? = some e := ⟨_, List.getElem?_eq_getElem hjl⟩
     obtain ⟨rb', ro, rfl⟩ := nest_some (f := D.bool) Hra.out (by omega)
     obtain ⟨-, z0⟩ := bool_in (Hra.out.below hBw) hz
     have hjb : (j : Int) < (ar.length : Int) := by omega
     have HY2 : Hid ((y || z) = (ar.take (j + 1)).any id) := by show _ = _; rw [any_succ hz, HY.out]; rfl
     have Hnx := Lib.hid (fun v : Bool => And.intro (show Blk (wj.setCell ⟨wo.heap.size, x, none⟩ (.bool v)) wo.heap.size 4 ((M.set x v).map Value.bool) by have h := arr_set hbj x v; rw [set_twice] at h; exact h) (Below.setCell (p := ⟨wo.heap.size, x, none⟩) hBj (Nat.le_refl _) (.bool v)))
     obtain ⟨c0, c1', c2', c3', -, -⟩ := Hh.out.below (HB.out.trans ((hBj).mono szB))
     clear hbj hBj hz hBw HY
     cases y
     all_goals
      go_wp2_with fail
      go_loop [10] (fun i => i = .int .i64 0) (fun _ => 0)
      case atStart => rfl
      case round =>
       obtain rfl := hrel
       go_wp2_with fail
       go_roundw
       case rel => exact ⟨j + 1, _, by omega, by go_num, HY2, (Hnx.out _).1, (Hnx.out _).2⟩
       case measure => simp [intOf]; omega
   ·
    obtain ⟨m0, hm0⟩ : ∃ m, k = m + 1 := ⟨k - 1, by omega⟩
    have e0 : ((k : Int) == 0) = false := by simp [hk0]
    have e1 : decide ((0 : Int) < (k : Int)) = true := by simp; omega
    have e2 : decide (0 < k) = true := by simp; omega
    have hmk : m0 < k := by omega
    obtain ⟨pb, po, rfl⟩ := nest_some HR.out (by rw [rchL_length]; omega)
    obtain ⟨hpl, sp, cp, p0, rp⟩ := nest_sl (g := D.bool) HR.out (rchL_at (ac := ac) (nx := nx) hmk)
    obtain ⟨sp', so', rfl⟩ := nest_some (f := D.bool) rp (by rw [reachL_len]; omega)
    obtain ⟨rp1, rp2⟩ := nest_bd rp
    unfold maxLen at rp2
    rw [reachL_len] at rp1
    have q1 : IntKind.i64.wrap ((k : Int) - 1) = (m0 : Int) := by rw [show (k : Int) - 1 = (m0 : Int) by omega]; exact wrap_of (by omega) (by omega)
    have hm0z := Int.natCast_nonneg m0
    have hm0k : (m0 : Int) < (k : Int) := by omega
    have Hp0 := Lib.hid p0
    have Hrp := Lib.hid rp
    have Hlast : Hid ((reachL ac nx k)[x]? = some ((nr.take ar.length).any (hitR (accW ac nx m0)))) := by show _ = _; rw [Hrz.out, hm0, accW_succ_at hnr, ← hal, List.take_length]
    obtain ⟨c0, c1', c2', c3', -, -⟩ := Hh.out.below (HB.out.trans ((hBx).mono szB))
    clear hb hfill hBx hb' hnr hal ra rb hk0 har hm0 p0 rp
    go_wp2_with fail
    go_loopw [9] (fun i wr => ∃ (j : Nat) (y : Bool), j ≤ ar.length ∧ i = .int .i64 j ∧ Hid (y = (nr.take j).any (hitR (accW ac nx m0))) ∧ Blk wr wo.heap.size 4 ((M.set x y).map Value.bool) ∧ Below wo.heap.size wo wr) (fun i _ => ar.length - (intOf i).toNat)
    case atStart => exact ⟨0, false, by omega, rfl, by show _ = _; simp, Hb'.out, HBx.out⟩
    case round =>
     clear c0 c1' c2' c3' a0 b0
     obtain ⟨j, y, hj, rfl, HY, hbj, hBj⟩ := hrel
     obtain ⟨wj, rfl⟩ : ∃ v, v = wr := ⟨_, rfl⟩
     have hj0 := Int.natCast_nonneg j
     have HBj := Lib.hid hBj
     have Hbj := Lib.hid hbj
     have szj := hBj.size
     have lg := hbj.lt
     have x0 := arr_cell hbj (set_at (x := y) (i := x) (by omega))
     have f0 := hbj.frozen x
     have hBw := HB.out.trans (hBj.mono szB)
     have a0 := (hBw.cell (p := ⟨sb, so + x, none⟩) hsl).trans Ha0.out
     have b0 := (hBw.cell (p := ⟨ub, uo + x, none⟩) hul).trans Hb0.out
     by_cases hjl : j < ar.length
     rotate_left
     ·
      obtain rfl : j = ar.length := by omega
      have HF2 := Lib.hid (Hfill.out y (by rw [HY.out]; exact Hlast.out))
      obtain ⟨c0, c1', c2', c3', -, -⟩ := Hh.out.below (HB.out.trans ((hBj).mono szB))
      clear hbj hBj x0 f0 HY hBw
      go_wp2_with fail
      go_roundw
      case rel => exact ⟨x + 1, _, by omega, by go_num, Hbj.out, HF2.out, HBj.out⟩
      case measure => simp [intOf]; omega
     obtain ⟨row, hrow⟩ : ∃ e, nr[j]? = some e := ⟨_, List.getElem?_eq_getElem (by omega)⟩
     obtain ⟨vb, vo, rfl⟩ := nest_some (f := intsD) Hrb.out (by omega)
     obtain ⟨hvl, sr, cr, r0, rr⟩ := nest_sl (g := D.int) Hrb.out hrow
     obtain ⟨rr1, rr2⟩ := nest_bd rr
     unfold maxLen at rr2
     have Hr0 := Lib.hid r0
     have Hrr := Lib.hid rr
     have hjb : (j : Int) < (ar.length : Int) := by omega
     have hjc : (j : Int) < (nr.length : Int) := by omega
     have hzr := Lib.hid (Htg.out j row hrow)
     have Hsu := Lib.hid (any_succ (p := hitR (accW ac nx m0)) hrow)
     have HE : Hid (y = ((nr.take j).any (hitR (accW ac nx m0)) || hitR (accW ac nx m0) (row.take 0))) := by show _ = _; rw [hitR_zero, HY.out]; simp
     have Hnx := Lib.hid (fun v : Bool => And.intro (show Blk (wj.setCell ⟨wo.heap.size, x, none⟩ (.bool v)) wo.heap.size 4 ((M.set x v).map Value.bool) by have h := arr_set hbj x v; rw [set_twice] at h; exact h) (Below.setCell (p := ⟨wo.heap.size, x, none⟩) hBj (Nat.le_refl _) (.bool v)))
     obtain ⟨c0, c1', c2', c3', -, -⟩ := Hh.out.below (HB.out.trans ((hBj).mono szB))
     clear hbj hBj hrow hBw HY r0 rr
     cases y
     all_goals
      go_wp2_with fail
      go_loopw [10] (fun i wr => ∃ (l : Nat) (y3 : Bool), l ≤ row.length ∧ i = .int .i64 l ∧ Hid (y3 = ((nr.take j).any (hitR (accW ac nx m0)) || hitR (accW ac nx m0) (row.take l))) ∧ Blk wr wo.heap.size 4 ((M.set x y3).map Value.bool) ∧ Below wo.heap.size wo wr) (fun i _ => row.length - (intOf i).toNat)
      case atStart => exact ⟨0, _, by omega, rfl, HE, (Hnx.out _).1, (Hnx.out _).2⟩
      case round =>
       clear c0 c1' c2' c3' a0 b0 HE Hnx x0 f0 lg
       obtain ⟨l, y3, hl, rfl, HE, hbl, hBl⟩ := hrel
       obtain ⟨wl, rfl⟩ : ∃ v, v = wr := ⟨_, rfl⟩
       have hl0 := Int.natCast_nonneg l
       have szl := hBl.size
       have lg := hbl.lt
       have x0 := arr_cell hbl (set_at (x := y3) (i := x) (by omega))
       have f0 := hbl.frozen x
       have hBw := HB.out.trans (hBl.mono szB)
       have b0 := (hBw.cell (p := ⟨ub, uo + x, none⟩) hul).trans Hb0.out
       have r0 := (hBw.cell (p := ⟨vb, vo + j, none⟩) hvl).trans Hr0.out
       obtain ⟨c0, c1', c2', c3', -, -⟩ := Hh.out.below (HB.out.trans ((hBl).mono szB))
       have HBl := Lib.hid hBl
       have Hbl := Lib.hid hbl
       by_cases hll : l < row.length
       rotate_left
       ·
        obtain rfl : l = row.length := by omega
        have HY2 : Hid (y3 = (nr.take (j + 1)).any (hitR (accW ac nx m0))) := by show _ = _; rw [Hsu.out, HE.out, List.take_length]
        clear hbl hBl hBw HE
        go_wp2_with fail
        go_roundw
        case rel => exact ⟨j + 1, y3, by omega, by go_num, HY2, Hbl.out, HBl.out⟩
        case measure => simp [intOf]; omega
       obtain ⟨q, hq⟩ : ∃ e, row[l]? = some e := ⟨_, List.getElem?_eq_getElem hll⟩
       obtain ⟨tb, to', rfl⟩ := nest_some (f := D.int) Hrr.out (by omega)
       obtain ⟨-, q0⟩ := int_in (Hrr.out.below hBw) hq
       have p0 := (hBl.cell (p := ⟨pb, po + m0, none⟩) hpl).trans Hp0.out
       have hlb : (l : Int) < (row.length : Int) := by omega
       have hql := hzr.out q (List.mem_of_getElem? hq)
       have Hs2 := Lib.hid (hitR_succ (P := accW ac nx m0) hq)
       have Hor := Lib.hid (fun x => or_step (x := x) HE.out)
       have Hnx := Lib.hid (fun v : Bool => And.intro (show Blk (wl.setCell ⟨wo.heap.size, x, none⟩ (.bool v)) wo.heap.size 4 ((M.set x v).map Value.bool) by have h := arr_set hbl x v; rw [set_twice] at h; exact h) (Below.setCell (p := ⟨wo.heap.size, x, none⟩) hBl (Nat.le_refl _) (.bool v)))
       have hrp := Hrp.out.below hBl
       have Hrpl := Lib.hid hrp
       clear hq HE hbl hBl hBw hrp
       cases y3
       ·
        by_cases hneg : q < 0
        ·
         have hge : decide ((0 : Int) ≤ q) = false := by simp; omega
         have HE2 : Hid (false = ((nr.take j).any (hitR (accW ac nx m0)) || hitR (accW ac nx m0) (row.take (l + 1)))) := by
          show _ = _
          have h := Hor.out (decide (0 ≤ q) && accW ac nx m0 q.toNat)
          rw [Hs2.out, ← h, hge]
          rfl
         clear Hor Hs2
         go_wp2_with fail
         go_roundw
         case rel => exact ⟨l + 1, false, by omega, by go_num, HE2, (Hnx.out _).1, (Hnx.out _).2⟩
         case measure => simp [intOf]; omega
        ·
         have hge : decide ((0 : Int) ≤ q) = true := by simp; omega
         obtain ⟨qn, rfl⟩ : ∃ qn : Nat, q = (qn : Int) := ⟨q.toNat, by omega⟩
         obtain ⟨v, hv⟩ : ∃ v, accW ac nx m0 qn = v := ⟨_, rfl⟩
         have hvr := reachL_at (ac := ac) (nx := nx) (n := m0) (s := qn) (by omega)
         rw [hv] at hvr
         obtain ⟨-, y0⟩ := bool_in Hrpl.out hvr
         have HE2 : Hid (v = ((nr.take j).any (hitR (accW ac nx m0)) || hitR (accW ac nx m0) (row.take (l + 1)))) := by
          show _ = _
          have h := Hor.out (decide ((0 : Int) ≤ (qn : Int)) && accW ac nx m0 (qn : Int).toNat)
          rw [Hs2.out, ← h, hge, Int.toNat_natCast, hv]
          simp
         have hqn := Int.natCast_nonneg qn
         have hqb : (qn : Int) < ((reachL ac nx m0).length : Int) := by rw [reachL_len]; omega
         clear Hor Hs2 hv hvr
         go_wp2_with fail
         go_roundw
         case rel => exact ⟨l + 1, v, by omega, by go_num, HE2, (Hnx.out _).1, (Hnx.out _).2⟩
         case measure => simp [intOf]; omega
       ·
        have HE2 : Hid (true = ((nr.take j).any (hitR (accW ac nx m0)) || hitR (accW ac nx m0) (row.take (l + 1)))) := by
         show _ = _
         have h := Hor.out (decide (0 ≤ q) && accW ac nx m0 q.toNat)
         rw [Hs2.out, ← h]
         simp
        clear Hor Hs2
        go_wp2_with fail
        go_roundw
        case rel => exact ⟨l + 1, true, by omega, by go_num, HE2, (Hnx.out _).1, (Hnx.out _).2⟩
        case measure => simp [intOf]; omega
end Go.Proofs.YtjlmdhoajfdkbaaGreatDoor
