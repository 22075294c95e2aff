/-
  Parts of a proof, joined: CountF. No condition.
-/
import Derived.Test.YtfhlddbngjlhbaaPk14
namespace Go.Proofs.Ytfhlddbngjlhbaa
set_option linter.unusedVariables false
set_option linter.unusedSimpArgs false
open Go.ChangeShapes Go.WideShapes Go.ChangeAt Go.RowKit Go.Sort
theorem Blk.autAt' {w : World} {g T : Nat} {t a : Int} {ac : List (List Bool)} {nx : List (List (List Int))} {s u : Option Addr} {c d : Nat} (L : Blk w g T [.int .i64 t, .int .i64 a, .slice s ac.length c, .slice u nx.length d]) (hr : Rd w (bbD ac) (.slice s ac.length c)) (hq : Rd w (iiiD nx) (.slice u nx.length d)) : AutAt w g 0 t a ac nx s u c d :=
 ⟨L.c0, L.c1, L.c2, L.c3, hr, hq⟩
set_option maxRecDepth 100000 in
set_option maxHeartbeats 16000000 in
theorem countFrom_i {t a : Int} {ac : List (List Bool)} {nx : List (List (List Int))} {s u : Option Addr} {c d n : Nat} {w : World} (hr : Rd w (bbD ac) (.slice s ac.length c)) (hq : Rd w (iiiD nx) (.slice u nx.length d)) (hok : AutOk t a ac nx) (hn : n ≤ 10) :
  Calls Try.prog 44 #[.agg #[.int .i64 t, .int .i64 a, .slice s ac.length c, .slice u nx.length d], .int .i64 n] w fun e w' => ∃ g, e = .returned (.slice (some ⟨g, 0, none⟩) ac.length ac.length) ∧ Fresh w w' (intsD (cntN ac nx n)) (.slice (some ⟨g, 0, none⟩) ac.length ac.length) ∧ Below w.heap.size w w' := by
 obtain ⟨hlen, hcap⟩ := nest_bd hr
 obtain ⟨hlen', hcap'⟩ := nest_bd hq
 unfold maxLen at hcap hcap'
 have hn1 := hok.lo
 have hn2 := hok.hi
 have hnl := Lib.hid hok.len
 have Hok := Lib.hid hok
 have Hr := Lib.hid hr
 have Hq := Lib.hid hq
 obtain ⟨i0, hi, hz0, hz1, hz2⟩ := info_parts info_int64
 have L := Blk.new4 w 31 (.int .i64 t) (.int .i64 a) (.slice s ac.length c) (.slice u nx.length d)
 have HL := Lib.hid L
 have l2 := L.c2
 clear hok L
 go_enter Try.func44, Try.ntmps44
 go_wp2_with (at_make; refine wpList_make_full _ rfl _ _ 42 rfl w.heap.size 2 i0 (.int .i64 0) 1 Try.underlying42 hi hz0 hz1 .i64 .i64 _ _ ac.length rfl rfl rfl rfl (by rw [hz2]; omega) (by unfold maxLen; omega) (by simp) ?_; intro w1 hown hgrow; have hbx := HL.out.keep (hgrow.block _ HL.out.lt (by simp)); have c2' := hbx.c2)
 have hB0 : Below w.heap.size w w1 := Below.grown (Below.alloc (Below.refl _ _) (Nat.le_refl _) _) hgrow (by simp) (by simp)
 clear c2'
 rw [show (w.alloc (.cells #[.int .i64 t, .int .i64 a, .slice s ac.length c, .slice u nx.length d] 31)).heap.size = w.heap.size + 1 by simp] at hown
 obtain ⟨hb0, -⟩ := made_blk (z := .int .i64 0) rfl hown
 have hfill := FillL.start (z := (0 : Int)) (cntN_length Hok.out 0)
 have hb1 : Blk w1 (w.heap.size + 1) 2 ((List.replicate ac.length (0 : Int)).map (Value.int .i64)) := by simpa using hb0
 have Hst := Lib.hid (And.intro hb1 (And.intro hfill (And.intro hbx hB0)))
 have HBx := Lib.hid hbx
 clear hown hgrow hb0 hb1 hfill hbx hB0 HL l2
 go_loopw [24] (fun i wr => ∃ (k : Nat) (L : List Int), k ≤ ac.length ∧ i = .int .i64 k ∧ Blk wr (w.heap.size + 1) 2 (L.map (Value.int .i64)) ∧ FillL (0 : Int) (cntN ac nx 0) k L ∧ Blk wr w.heap.size 31 [.int .i64 t, .int .i64 a, .slice s ac.length c, .slice u nx.length d] ∧ Below w.heap.size w wr) (fun i _ => ac.length - (intOf i).toNat)
 case atStart => exact ⟨0, _, by omega, rfl, Hst.out⟩
 case round =>
  clear Hst HBx
  obtain ⟨k, L, hk, rfl, hb, hfill, hbx, hB⟩ := hrel
  obtain ⟨wo, rfl⟩ : ∃ v, v = wr := ⟨_, rfl⟩
  have szB := hB.size
  have HBx := Lib.hid hbx
  have HB := Lib.hid hB
  by_cases hlt : k < ac.length
  ·
   obtain ⟨ar, har⟩ : ∃ e, ac[k]? = some e := ⟨_, List.getElem?_eq_getElem hlt⟩
   obtain ⟨sb, so, rfl⟩ := nest_some (f := boolsD) Hr.out (by omega)
   obtain ⟨hsl, sa, ca, a0, ra⟩ := nest_sl (g := D.bool) Hr.out har
   replace a0 := (HB.out.cell (p := ⟨sb, so + k, none⟩) hsl).trans a0
   obtain ⟨ra1, ra2⟩ := nest_bd ra
   unfold maxLen at ra2
   have Hra := Lib.hid ra
   have hkz := Int.natCast_nonneg k
   have hkb : (k : Int) < (ac.length : Int) := by omega
   have hkL : k < L.length := by have := hfill.1; rw [cntN_length Hok.out] at this; omega
   have hb' : Blk wo (w.heap.size + 1) 2 ((L.set k 0).map (Value.int .i64)) := by rw [set_zero_same (hfill.at (by rw [cntN_length Hok.out]; exact hlt))]; exact hb
   have HB' := Lib.hid hb'
   have Hfill := Lib.hid (fun v => hfill.step (v := v))
   have Hat := Lib.hid (cntN_zero_at (nx := nx) har)
   have Hbd := Lib.hid (fun l => cnt0_bd Hok.out har l)
   have Hsu := Lib.hid (fun j b => cnt0_succ (ar := ar) (j := j) (b := b))
   clear hb hfill hbx hB hb' har ra
   have c2' := HBx.out.c2
   have c3' := HBx.out.c3
   have hbl := HBx.out.lt
   go_wp2_with fail
   clear c2' c3' hbl a0
   go_loopw [31] (fun i wr => ∃ (m : Nat) (p : Int), m ≤ ar.length ∧ i = .int .i64 m ∧ Hid (p = cnt0 (ar.take m)) ∧ Blk wr (w.heap.size + 1) 2 ((L.set k p).map (Value.int .i64)) ∧ Blk wr w.heap.size 31 [.int .i64 t, .int .i64 a, .slice (some ⟨sb, so, none⟩) ac.length c, .slice u nx.length d] ∧ Below w.heap.size w wr) (fun i _ => ar.length - (intOf i).toNat)
   case atStart => exact ⟨0, 0, by omega, rfl, by show (0 : Int) = _; simp [cnt0, sumI], HB'.out, HBx.out, HB.out⟩
   case round =>
    clear HB' HBx HB
    obtain ⟨m, p, hm, rfl, Hp, hb, hbx, hB⟩ := hrel
    have HBx := Lib.hid hbx
    have HB := Lib.hid hB
    by_cases hml : m < ar.length
    ·
     obtain ⟨z, hz⟩ : ∃ e, ar[m]? = some e := ⟨_, List.getElem?_eq_getElem hml⟩
     obtain ⟨rb, ro, rfl⟩ := nest_some (f := D.bool) Hra.out (by omega)
     obtain ⟨-, z0⟩ := bool_in (Hra.out.below HB.out) hz
     have hmz := Int.natCast_nonneg m
     have hmb : (m : Int) < (ar.length : Int) := by omega
     have x0 := arr_cell hb (set_at (x := p) hkL)
     have f0 := hb.frozen k
     obtain ⟨p1, p2⟩ := Hbd.out m
     rw [← Hp.out] at p1 p2
     have Hp2 := Lib.hid (Hsu.out m z hz)
     have gl := hb.lt
     have Hset := Lib.hid (arr_set hb k (p + 1))
     clear hbx hB hz
     have c2' := HBx.out.c2
     have c3' := HBx.out.c3
     have hbl := HBx.out.lt
     cases z
     ·
      have Hp3 : Hid (p = cnt0 (ar.take (m + 1))) := by show _ = _; rw [Hp2.out, Hp.out]; simp
      have Hb := Lib.hid hb
      clear Hp2 x0 f0 gl Hset hb
      go_wp2_with fail
      go_roundw
      case rel => exact ⟨m + 1, p, by omega, by go_num, Hp3, Hb.out, HBx.out, HB.out⟩
      case measure => simp [intOf]; omega
     ·
      have Hp3 : Hid (p + 1 = cnt0 (ar.take (m + 1))) := by show _ = _; rw [Hp2.out, ← Hp.out]; simp
      have Hfin := Lib.hid (And.intro Hset.out (And.intro (HBx.out.other (p := ⟨w.heap.size + 1, k, none⟩) (by simp) (.int .i64 (p + 1))) (Below.setCell (p := ⟨w.heap.size + 1, k, none⟩) HB.out (by simp) (.int .i64 (p + 1)))))
      clear Hp2 Hset hb
      go_wp2_with fail
      go_roundw
      case rel => exact ⟨m + 1, p + 1, by omega, by go_num, Hp3, by rw [← set_twice] ; exact Hfin.out.1, Hfin.out.2⟩
      case measure => simp [intOf]; omega
    ·
     obtain rfl : m = ar.length := by omega
     have hst := Hfill.out p (by rw [Hp.out, List.take_length]; exact Hat.out)
     have Hst := Lib.hid hst
     have Hb := Lib.hid hb
     clear hst hb hbx hB
     go_wp2_with fail
     go_roundw
     case rel => exact ⟨k + 1, _, by omega, by go_num, Hb.out, Hst.out, HBx.out, HB.out⟩
     case measure => simp [intOf]; omega
  ·
   obtain rfl : k = ac.length := by omega
   obtain rfl : L = cntN ac nx 0 := FillL.all (by rw [cntN_length Hok.out]; exact hfill)
   have Hst : Hid (Blk wo (w.heap.size + 1) 2 ((cntN ac nx 0).map (Value.int .i64)) ∧ w.heap.size < w.heap.size + 1 ∧ Blk wo w.heap.size 31 [.int .i64 t, .int .i64 a, .slice s ac.length c, .slice u nx.length d] ∧ Below w.heap.size w wo) := ⟨hb, by omega, hbx, hB⟩
   have hW := hB.size
   have HW := Lib.hid hW
   clear hb hfill hbx hB hW
   go_wp2_with fail
   go_loopw [5, 45] (fun v i wr => ∃ (k g : Nat), k ≤ n ∧ i = .int .i64 k ∧ v = .slice (some ⟨g, 0, none⟩) ac.length ac.length ∧ Blk wr g 2 ((cntN ac nx k).map (Value.int .i64)) ∧ w.heap.size < g ∧ Blk wr w.heap.size 31 [.int .i64 t, .int .i64 a, .slice s ac.length c, .slice u nx.length d] ∧ Below w.heap.size w wr) (fun _ i _ => n - (intOf i).toNat)
   case atStart => exact ⟨0, _, by omega, rfl, rfl, Hst.out⟩
   case round =>
    clear Hst
    obtain ⟨k, g, hk, rfl, rfl, hb, hg, hbx, hB⟩ := hrel
    obtain ⟨w2, rfl⟩ : ∃ v, v = wr := ⟨_, rfl⟩
    have HBx := Lib.hid hbx
    have HB := Lib.hid hB
    have Hb := Lib.hid hb
    have sz2 := hB.size
    have gl2 := hb.lt
    clear hb hbx hB
    by_cases hkn : k < n
    rotate_left
    ·
     obtain rfl : k = n := by omega
     have Hfr := Lib.hid (arr_fresh (fd := D.int) (W := w) Hb.out (by omega) (fun x => Ow.int x) (cntN_length Hok.out k) (by unfold maxLen; omega))
     go_wp2_with fail
     go_ret
     exact ⟨g, rfl, Hfr.out, HB.out⟩
    have hm10 : k + 1 ≤ 10 := by omega
    go_wp2_with (at_make; refine wpList_make_full _ rfl _ _ 42 rfl w.heap.size 2 i0 (.int .i64 0) 1 Try.underlying42 hi hz0 hz1 .i64 .i64 _ _ ac.length rfl rfl rfl rfl (by rw [hz2]; omega) (by unfold maxLen; omega) (by omega) ?_; intro w3 hown hgrow; have hbx := HBx.out.keep (hgrow.block _ HBx.out.lt (by simp)); have c3' := hbx.c3)
    have hB3 : Below w.heap.size w w3 := Below.grown HB.out hgrow sz2 (by simp)
    have hb3 := Hb.out.keep (hgrow.block _ Hb.out.lt (by simp))
    obtain ⟨hb0, -⟩ := made_blk (z := .int .i64 0) rfl hown
    have hfill := FillL.start (z := (0 : Int)) (cntN_length Hok.out (k + 1))
    have hb1 : Blk w3 w2.heap.size 2 ((List.replicate ac.length (0 : Int)).map (Value.int .i64)) := by simpa using hb0
    obtain ⟨g2, hg2⟩ : ∃ v, v = w2.heap.size := ⟨_, rfl⟩
    rw [← hg2] at hb1 sz2 gl2 ⊢
    have hgg : g ≠ g2 := by omega
    have hg3 : w.heap.size < g2 := by omega
    have Hst : Hid (Blk w3 g2 2 ((List.replicate ac.length (0 : Int)).map (Value.int .i64)) ∧ FillL (0 : Int) (cntN ac nx (k + 1)) 0 (List.replicate ac.length 0) ∧ Blk w3 g 2 ((cntN ac nx k).map (Value.int .i64)) ∧ Blk w3 w.heap.size 31 [.int .i64 t, .int .i64 a, .slice s ac.length c, .slice u nx.length d] ∧ Below w.heap.size w w3) := ⟨hb1, hfill, hb3, hbx, hB3⟩
    have hcl := Lib.hid (cntN_length Hok.out k)
    have hcl2 := Lib.hid (cntN_length Hok.out (k + 1))
    clear hown hgrow hb0 hb1 hfill hbx hB3 hb3 Hb HBx HB c3' hg2 sz2 gl2
    go_loopw [53] (fun i wr => ∃ (j : Nat) (L : List Int), j ≤ nx.length ∧ i = .int .i64 j ∧ Blk wr g2 2 (L.map (Value.int .i64)) ∧ FillL (0 : Int) (cntN ac nx (k + 1)) j L ∧ Blk wr g 2 ((cntN ac nx k).map (Value.int .i64)) ∧ Blk wr w.heap.size 31 [.int .i64 t, .int .i64 a, .slice s ac.length c, .slice u nx.length d] ∧ Below w.heap.size w wr) (fun i _ => nx.length - (intOf i).toNat)
    case atStart => exact ⟨0, _, by omega, rfl, Hst.out⟩
    case round =>
     clear Hst
     obtain ⟨j, L, hj, rfl, hb, hfill, hb3, hbx, hB⟩ := hrel
     obtain ⟨w4, rfl⟩ : ∃ v, v = wr := ⟨_, rfl⟩
     have HBx := Lib.hid hbx
     have HB := Lib.hid hB
     have Hb3 := Lib.hid hb3
     clear hbx hB hb3
     by_cases hjl : j < nx.length
     rotate_left
     ·
      obtain rfl : j = nx.length := by omega
      obtain rfl : L = cntN ac nx (k + 1) := FillL.all (by rw [hcl2.out, ← hnl.out]; exact hfill)
      have Hb := Lib.hid hb
      clear hb hfill
      go_wp2_with fail
      go_roundw
      case rel => exact ⟨k + 1, g2, by omega, by go_num, rfl, Hb.out, hg3, HBx.out, HB.out⟩
      case measure => simp [intOf]; omega
     obtain ⟨nr, hnr⟩ : ∃ e, nx[j]? = some e := ⟨_, List.getElem?_eq_getElem hjl⟩
     obtain ⟨ub, uo, rfl⟩ := nest_some (f := iiD) Hq.out (by omega)
     obtain ⟨hul, sn, cn, b0, rb⟩ := nest_sl (g := intsD) Hq.out hnr
     replace b0 := (HB.out.cell (p := ⟨ub, uo + j, none⟩) hul).trans b0
     obtain ⟨rb1, rb2⟩ := nest_bd rb
     unfold maxLen at rb2
     have Hrb := Lib.hid rb
     have hjz := Int.natCast_nonneg j
     have hjb : (j : Int) < (nx.length : Int) := by omega
     have hjL : j < L.length := by have := hfill.1; rw [hcl2.out] at this; have := hnl.out; omega
     have hjL2 : j < ac.length := by have := hnl.out; omega
     have hb' : Blk w4 g2 2 ((L.set j 0).map (Value.int .i64)) := by rw [set_zero_same (hfill.at (by rw [hcl2.out]; exact hjL2))]; exact hb
     have HB' := Lib.hid hb'
     have Hfill := Lib.hid (fun v => hfill.step (v := v))
     have Hat := Lib.hid (cntN_at (ac := ac) (n := k) hnr)
     have Hbd := Lib.hid (fun (i l : Nat) (row : List Int) (hi : nr[i]? = some row) => cnt_round Hok.out hm10 hnr hi l)
     have Hce := Lib.hid (fun (i l : Nat) (row : List Int) (z : Int) (hi : nr[i]? = some row) (hl : row[l]? = some z) => cnt_cell Hok.out hm10 hnr hi hl)
     clear hb hfill hb' hnr rb
     go_wp2_with fail
     clear b0
     go_loopw [60] (fun i wr => ∃ (l : Nat) (S : Int), l ≤ nr.length ∧ i = .int .i64 l ∧ Hid (S = cntRows (cntN ac nx k) (nr.take l)) ∧ Blk wr g2 2 ((L.set j S).map (Value.int .i64)) ∧ Blk wr g 2 ((cntN ac nx k).map (Value.int .i64)) ∧ Blk wr w.heap.size 31 [.int .i64 t, .int .i64 a, .slice s ac.length c, .slice (some ⟨ub, uo, none⟩) nx.length d] ∧ Below w.heap.size w wr) (fun i _ => nr.length - (intOf i).toNat)
     case atStart => exact ⟨0, 0, by omega, rfl, by show (0 : Int) = _; simp [cntRows, sumI], HB'.out, Hb3.out, HBx.out, HB.out⟩
     case round =>
      clear HB' HBx HB Hb3
      obtain ⟨l, S, hl, rfl, HS, hb, hb3, hbx, hB⟩ := hrel
      obtain ⟨w5, rfl⟩ : ∃ v, v = wr := ⟨_, rfl⟩
      have HBx := Lib.hid hbx
      have HB := Lib.hid hB
      have Hb3 := Lib.hid hb3
      have Hb := Lib.hid hb
      clear hbx hB hb3 hb
      by_cases hll : l < nr.length
      rotate_left
      ·
       obtain rfl : l = nr.length := by omega
       have hst := Hfill.out S (by rw [HS.out, List.take_length]; exact Hat.out)
       have Hst := Lib.hid hst
       clear hst
       go_wp2_with fail
       go_roundw
       case rel => exact ⟨j + 1, _, by omega, by go_num, Hb.out, Hst.out, Hb3.out, HBx.out, HB.out⟩
       case measure => simp [intOf]; omega
      obtain ⟨row, hrow⟩ : ∃ e, nr[l]? = some e := ⟨_, List.getElem?_eq_getElem hll⟩
      obtain ⟨vb, vo, rfl⟩ := nest_some (f := intsD) Hrb.out (by omega)
      obtain ⟨hvl, sr, cr, r0, rr⟩ := nest_sl (g := D.int) Hrb.out hrow
      replace r0 := (HB.out.cell (p := ⟨vb, vo + l, none⟩) hvl).trans r0
      obtain ⟨rr1, rr2⟩ := nest_bd rr
      unfold maxLen at rr2
      have hlz := Int.natCast_nonneg l
      have hlb : (l : Int) < (nr.length : Int) := by omega
      have Hrow := Lib.hid hrow
      have Hrr := Lib.hid rr
      have Hs := Lib.hid (cntRows_succ (c := cntN ac nx k) hrow)
      have HS2 : Hid (S = cntRows (cntN ac nx k) (nr.take l) + cntRow (cntN ac nx k) (row.take 0)) := by show _ = _; rw [HS.out]; simp [cntRow, sumI]
      clear hrow rr
      go_wp2_with fail
      clear r0
      go_loopw [66] (fun i wr => ∃ (m : Nat) (T : Int), m ≤ row.length ∧ i = .int .i64 m ∧ Hid (T = cntRows (cntN ac nx k) (nr.take l) + cntRow (cntN ac nx k) (row.take m)) ∧ Blk wr g2 2 ((L.set j T).map (Value.int .i64)) ∧ Blk wr g 2 ((cntN ac nx k).map (Value.int .i64)) ∧ Blk wr w.heap.size 31 [.int .i64 t, .int .i64 a, .slice s ac.length c, .slice (some ⟨ub, uo, none⟩) nx.length d] ∧ Below w.heap.size w wr) (fun i _ => row.length - (intOf i).toNat)
      case atStart => exact ⟨0, S, by omega, rfl, HS2, Hb.out, Hb3.out, HBx.out, HB.out⟩
      case round =>
       clear Hb HBx HB Hb3 HS2
       obtain ⟨m, T, hm, rfl, HT, hb, hb3, hbx, hB⟩ := hrel
       have HBx := Lib.hid hbx
       have HB := Lib.hid hB
       have Hb3 := Lib.hid hb3
       have Hb := Lib.hid hb
       clear hbx hB hb3 hb
       by_cases hml : m < row.length
       rotate_left
       ·
        obtain rfl : m = row.length := by omega
        have HT2 : Hid (T = cntRows (cntN ac nx k) (nr.take (l + 1))) := by show _ = _; rw [HT.out, List.take_length, Hs.out]
        go_wp2_with fail
        go_roundw
        case rel => exact ⟨l + 1, T, by omega, by go_num, HT2, Hb.out, Hb3.out, HBx.out, HB.out⟩
        case measure => simp [intOf]; omega
       obtain ⟨z, hz⟩ : ∃ e, row[m]? = some e := ⟨_, List.getElem?_eq_getElem hml⟩
       obtain ⟨tb, to', rfl⟩ := nest_some (f := D.int) Hrr.out (by omega)
       obtain ⟨-, z0⟩ := int_in (Hrr.out.below HB.out) hz
       have hmz := Int.natCast_nonneg m
       have hmb : (m : Int) < (row.length : Int) := by omega
       obtain ⟨t1, t2⟩ := Hbd.out l m row Hrow.out
       rw [← HT.out] at t1 t2
       obtain ⟨z1, z2, z3, z4⟩ := Hce.out l m row z Hrow.out hz
       clear hz
       by_cases hneg : z < 0
       ·
        have HT2 : Hid (T = cntRows (cntN ac nx k) (nr.take l) + cntRow (cntN ac nx k) (row.take (m + 1))) := by show _ = _; rw [HT.out, z4 hneg]
        clear z3 z4
        go_wp2_with fail
        go_roundw
        case rel => exact ⟨m + 1, T, by omega, by go_num, HT2, Hb.out, Hb3.out, HBx.out, HB.out⟩
        case measure => simp [intOf]; omega
       ·
        obtain ⟨zn, rfl⟩ : ∃ zn : Nat, z = (zn : Int) := ⟨z.toNat, by omega⟩
        obtain ⟨v, hv, v1, v2, v3⟩ := z3 (by omega)
        rw [Int.toNat_natCast] at hv
        have x0 := arr_cell Hb3.out hv
        have y0 := arr_cell Hb.out (set_at (x := T) hjL)
        have f0 := Hb.out.frozen j
        have gl := Hb.out.lt
        have HT2 : Hid (T + v = cntRows (cntN ac nx k) (nr.take l) + cntRow (cntN ac nx k) (row.take (m + 1))) := by show _ = _; rw [HT.out, v3]; omega
        have Hset := arr_set Hb.out j (T + v)
        rw [set_twice] at Hset
        have Hfin := Lib.hid (And.intro Hset (And.intro (Hb3.out.other (p := ⟨g2, j, none⟩) hgg (.int .i64 (T + v))) (And.intro (HBx.out.other (p := ⟨g2, j, none⟩) (by simp; omega) (.int .i64 (T + v))) (Below.setCell (p := ⟨g2, j, none⟩) HB.out (by simp; omega) (.int .i64 (T + v))))))
        have hzn := Int.natCast_nonneg zn
        have hznb : (zn : Int) < (ac.length : Int) := by omega
        clear z3 z4 hv v3 Hset
        go_wp2_with fail
        go_region
        go_wp2_with fail
        go_roundw
        case rel => exact ⟨m + 1, T + v, by omega, by go_num, HT2, Hfin.out.1, Hfin.out.2.1, Hfin.out.2.2.1, Hfin.out.2.2.2.drew⟩
        case measure => simp [intOf]; omega
end Go.Proofs.Ytfhlddbngjlhbaa
