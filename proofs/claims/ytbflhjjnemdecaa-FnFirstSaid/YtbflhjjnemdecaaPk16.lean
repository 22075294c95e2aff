/-
  Parts of a proof, joined: CountF, Far, FarI. No condition.
-/
import Derived.Test.YtbflhjjnemdecaaPk13
namespace Go.Proofs.Ytbflhjjnemdecaa
set_option linter.unusedVariables false
set_option linter.unusedSimpArgs false
open Go.ChangeShapes Go.WideShapes Go.ChangeAt Go.RowKit Go.Sort
theorem Blk.autAt' {w : World} {g T : Nat} {t a : Int} {ac : List (List Bool)} {nx : List (List (List Int))} {s u : Option Addr} {c d : Nat} (L : Blk w g T [.int .i64 t, .int .i64 a, .slice s ac.length c, .slice u nx.length d]) (hr : Rd w (bbD ac) (.slice s ac.length c)) (hq : Rd w (iiiD nx) (.slice u nx.length d)) : AutAt w g 0 t a ac nx s u c d :=
 ⟨L.c0, L.c1, L.c2, L.c3, hr, hq⟩
set_option maxRecDepth 100000 in
set_option maxHeartbeats 16000000 in
theorem countFrom_i {t a : Int} {ac : List (List Bool)} {nx : List (List (List Int))} {s u : Option Addr} {c d n : Nat} {w : World} (hr : Rd w (bbD ac) (.slice s ac.length c)) (hq : Rd w (iiiD nx) (.slice u nx.length d)) (hok : AutOk t a ac nx) (hn : n ≤ 10) :
  Calls Try.prog 85 #[.agg #[.int .i64 t, .int .i64 a, .slice s ac.length c, .slice u nx.length d], .int .i64 n] w fun e w' => ∃ g, e = .returned (.slice (some ⟨g, 0, none⟩) ac.length ac.length) ∧ Fresh w w' (intsD (cntN ac nx n)) (.slice (some ⟨g, 0, none⟩) ac.length ac.length) ∧ Below w.heap.size w w' := by
 obtain ⟨hlen, hcap⟩ := nest_bd hr
 obtain ⟨hlen', hcap'⟩ := nest_bd hq
 unfold maxLen at hcap hcap'
 have hn1 := hok.lo
 have hn2 := hok.hi
 have hnl := Lib.hid hok.len
 have Hok := Lib.hid hok
 have Hr := Lib.hid hr
 have Hq := Lib.hid hq
 obtain ⟨i0, hi, hz0, hz1, hz2⟩ := info_parts info_int64
 have L := Blk.new4 w 51 (.int .i64 t) (.int .i64 a) (.slice s ac.length c) (.slice u nx.length d)
 have HL := Lib.hid L
 have l2 := L.c2
 clear hok L
 go_enter Try.func85, Try.ntmps85
 go_wp2_with (at_make; refine wpList_make_full _ rfl _ _ 27 rfl w.heap.size 2 i0 (.int .i64 0) 1 Try.underlying27 hi hz0 hz1 .i64 .i64 _ _ ac.length rfl rfl rfl rfl (by rw [hz2]; omega) (by unfold maxLen; omega) (by simp) ?_; intro w1 hown hgrow; have hbx := HL.out.keep (hgrow.block _ HL.out.lt (by simp)); have c2' := hbx.c2)
 have hB0 : Below w.heap.size w w1 := Below.grown (Below.alloc (Below.refl _ _) (Nat.le_refl _) _) hgrow (by simp) (by simp)
 clear c2'
 rw [show (w.alloc (.cells #[.int .i64 t, .int .i64 a, .slice s ac.length c, .slice u nx.length d] 51)).heap.size = w.heap.size + 1 by simp] at hown
 obtain ⟨hb0, -⟩ := made_blk (z := .int .i64 0) rfl hown
 have hfill := FillL.start (z := (0 : Int)) (cntN_length Hok.out 0)
 have hb1 : Blk w1 (w.heap.size + 1) 2 ((List.replicate ac.length (0 : Int)).map (Value.int .i64)) := by simpa using hb0
 have Hst := Lib.hid (And.intro hb1 (And.intro hfill (And.intro hbx hB0)))
 have HBx := Lib.hid hbx
 clear hown hgrow hb0 hb1 hfill hbx hB0 HL l2
 go_loopw [24] (fun i wr => ∃ (k : Nat) (L : List Int), k ≤ ac.length ∧ i = .int .i64 k ∧ Blk wr (w.heap.size + 1) 2 (L.map (Value.int .i64)) ∧ FillL (0 : Int) (cntN ac nx 0) k L ∧ Blk wr w.heap.size 51 [.int .i64 t, .int .i64 a, .slice s ac.length c, .slice u nx.length d] ∧ Below w.heap.size w wr) (fun i _ => ac.length - (intOf i).toNat)
 case atStart => exact ⟨0, _, by omega, rfl, Hst.out⟩
 case round =>
  clear Hst HBx
  obtain ⟨k, L, hk, rfl, hb, hfill, hbx, hB⟩ := hrel
  obtain ⟨wo, rfl⟩ : ∃ v, v = wr := ⟨_, rfl⟩
  have szB := hB.size
  have HBx := Lib.hid hbx
  have HB := Lib.hid hB
  by_cases hlt : k < ac.length
  ·
   obtain ⟨ar, har⟩ : ∃ e, ac[k]? = some e := ⟨_, List.getElem?_eq_getElem hlt⟩
   obtain ⟨sb, so, rfl⟩ := nest_some (f := boolsD) Hr.out (by omega)
   obtain ⟨hsl, sa, ca, a0, ra⟩ := nest_sl (g := D.bool) Hr.out har
   replace a0 := (HB.out.cell (p := ⟨sb, so + k, none⟩) hsl).trans a0
   obtain ⟨ra1, ra2⟩ := nest_bd ra
   unfold maxLen at ra2
   have Hra := Lib.hid ra
   have hkz := Int.natCast_nonneg k
   have hkb : (k : Int) < (ac.length : Int) := by omega
   have hkL : k < L.length := by have := hfill.1; rw [cntN_length Hok.out] at this; omega
   have hb' : Blk wo (w.heap.size + 1) 2 ((L.set k 0).map (Value.int .i64)) := by rw [set_zero_same (hfill.at (by rw [cntN_length Hok.out]; exact hlt))]; exact hb
   have HB' := Lib.hid hb'
   have Hfill := Lib.hid (fun v => hfill.step (v := v))
   have Hat := Lib.hid (cntN_zero_at (nx := nx) har)
   have Hbd := Lib.hid (fun l => cnt0_bd Hok.out har l)
   have Hsu := Lib.hid (fun j b => cnt0_succ (ar := ar) (j := j) (b := b))
   clear hb hfill hbx hB hb' har ra
   have c2' := HBx.out.c2
   have c3' := HBx.out.c3
   have hbl := HBx.out.lt
   go_wp2_with fail
   clear c2' c3' hbl a0
   go_loopw [31] (fun i wr => ∃ (m : Nat) (p : Int), m ≤ ar.length ∧ i = .int .i64 m ∧ Hid (p = cnt0 (ar.take m)) ∧ Blk wr (w.heap.size + 1) 2 ((L.set k p).map (Value.int .i64)) ∧ Blk wr w.heap.size 51 [.int .i64 t, .int .i64 a, .slice (some ⟨sb, so, none⟩) ac.length c, .slice u nx.length d] ∧ Below w.heap.size w wr) (fun i _ => ar.length - (intOf i).toNat)
   case atStart => exact ⟨0, 0, by omega, rfl, by show (0 : Int) = _; simp [cnt0, sumI], HB'.out, HBx.out, HB.out⟩
   case round =>
    clear HB' HBx HB
    obtain ⟨m, p, hm, rfl, Hp, hb, hbx, hB⟩ := hrel
    have HBx := Lib.hid hbx
    have HB := Lib.hid hB
    by_cases hml : m < ar.length
    ·
     obtain ⟨z, hz⟩ : ∃ e, ar[m]? = some e := ⟨_, List.getElem?_eq_getElem hml⟩
     obtain ⟨rb, ro, rfl⟩ := nest_some (f := D.bool) Hra.out (by omega)
     obtain ⟨-, z0⟩ := bool_in (Hra.out.below HB.out) hz
     have hmz := Int.natCast_nonneg m
     have hmb : (m : Int) < (ar.length : Int) := by omega
     have x0 := arr_cell hb (set_at (x := p) hkL)
     have f0 := hb.frozen k
     obtain ⟨p1, p2⟩ := Hbd.out m
     rw [← Hp.out] at p1 p2
     have Hp2 := Lib.hid (Hsu.out m z hz)
     have gl := hb.lt
     have Hset := Lib.hid (arr_set hb k (p + 1))
     clear hbx hB hz
     have c2' := HBx.out.c2
     have c3' := HBx.out.c3
     have hbl := HBx.out.lt
     cases z
     ·
      have Hp3 : Hid (p = cnt0 (ar.take (m + 1))) := by show _ = _; rw [Hp2.out, Hp.out]; simp
      have Hb := Lib.hid hb
      clear Hp2 x0 f0 gl Hset hb
      go_wp2_with fail
      go_roundw
      case rel => exact ⟨m + 1, p, by omega, by go_num, Hp3, Hb.out, HBx.out, HB.out⟩
      case measure => simp [intOf]; omega
     ·
      have Hp3 : Hid (p + 1 = cnt0 (ar.take (m + 1))) := by show _ = _; rw [Hp2.out, ← Hp.out]; simp
      have Hfin := Lib.hid (And.intro Hset.out (And.intro (HBx.out.other (p := ⟨w.heap.size + 1, k, none⟩) (by simp) (.int .i64 (p + 1))) (Below.setCell (p := ⟨w.heap.size + 1, k, none⟩) HB.out (by simp) (.int .i64 (p + 1)))))
      clear Hp2 Hset hb
      go_wp2_with fail
      go_roundw
      case rel => exact ⟨m + 1, p + 1, by omega, by go_num, Hp3, by rw [← set_twice] ; exact Hfin.out.1, Hfin.out.2⟩
      case measure => simp [intOf]; omega
    ·
     obtain rfl : m = ar.length := by omega
     have hst := Hfill.out p (by rw [Hp.out, List.take_length]; exact Hat.out)
     have Hst := Lib.hid hst
     have Hb := Lib.hid hb
     clear hst hb hbx hB
     go_wp2_with fail
     go_roundw
     case rel => exact ⟨k + 1, _, by omega, by go_num, Hb.out, Hst.out, HBx.out, HB.out⟩
     case measure => simp [intOf]; omega
  ·
   obtain rfl : k = ac.length := by omega
   obtain rfl : L = cntN ac nx 0 := FillL.all (by rw [cntN_length Hok.out]; exact hfill)
   have Hst : Hid (Blk wo (w.heap.size + 1) 2 ((cntN ac nx 0).map (Value.int .i64)) ∧ w.heap.size < w.heap.size + 1 ∧ Blk wo w.heap.size 51 [.int .i64 t, .int .i64 a, .slice s ac.length c, .slice u nx.length d] ∧ Below w.heap.size w wo) := ⟨hb, by omega, hbx, hB⟩
   have hW := hB.size
   have HW := Lib.hid hW
   clear hb hfill hbx hB hW
   go_wp2_with fail
   go_loopw [5, 45] (fun v i wr => ∃ (k g : Nat), k ≤ n ∧ i = .int .i64 k ∧ v = .slice (some ⟨g, 0, none⟩) ac.length ac.length ∧ Blk wr g 2 ((cntN ac nx k).map (Value.int .i64)) ∧ w.heap.size < g ∧ Blk wr w.heap.size 51 [.int .i64 t, .int .i64 a, .slice s ac.length c, .slice u nx.length d] ∧ Below w.heap.size w wr) (fun _ i _ => n - (intOf i).toNat)
   case atStart => exact ⟨0, _, by omega, rfl, rfl, Hst.out⟩
   case round =>
    clear Hst
    obtain ⟨k, g, hk, rfl, rfl, hb, hg, hbx, hB⟩ := hrel
    obtain ⟨w2, rfl⟩ : ∃ v, v = wr := ⟨_, rfl⟩
    have HBx := Lib.hid hbx
    have HB := Lib.hid hB
    have Hb := Lib.hid hb
    have sz2 := hB.size
    have gl2 := hb.lt
    clear hb hbx hB
    by_cases hkn : k < n
    rotate_left
    ·
     obtain rfl : k = n := by omega
     have Hfr := Lib.hid (arr_fresh (fd := D.int) (W := w) Hb.out (by omega) (fun x => Ow.int x) (cntN_length Hok.out k) (by unfold maxLen; omega))
     go_wp2_with fail
     go_ret
     exact ⟨g, rfl, Hfr.out, HB.out⟩
    have hm10 : k + 1 ≤ 10 := by omega
    go_wp2_with (at_make; refine wpList_make_full _ rfl _ _ 27 rfl w.heap.size 2 i0 (.int .i64 0) 1 Try.underlying27 hi hz0 hz1 .i64 .i64 _ _ ac.length rfl rfl rfl rfl (by rw [hz2]; omega) (by unfold maxLen; omega) (by omega) ?_; intro w3 hown hgrow; have hbx := HBx.out.keep (hgrow.block _ HBx.out.lt (by simp)); have c3' := hbx.c3)
    have hB3 : Below w.heap.size w w3 := Below.grown HB.out hgrow sz2 (by simp)
    have hb3 := Hb.out.keep (hgrow.block _ Hb.out.lt (by simp))
    obtain ⟨hb0, -⟩ := made_blk (z := .int .i64 0) rfl hown
    have hfill := FillL.start (z := (0 : Int)) (cntN_length Hok.out (k + 1))
    have hb1 : Blk w3 w2.heap.size 2 ((List.replicate ac.length (0 : Int)).map (Value.int .i64)) := by simpa using hb0
    obtain ⟨g2, hg2⟩ : ∃ v, v = w2.heap.size := ⟨_, rfl⟩
    rw [← hg2] at hb1 sz2 gl2 ⊢
    have hgg : g ≠ g2 := by omega
    have hg3 : w.heap.size < g2 := by omega
    have Hst : Hid (Blk w3 g2 2 ((List.replicate ac.length (0 : Int)).map (Value.int .i64)) ∧ FillL (0 : Int) (cntN ac nx (k + 1)) 0 (List.replicate ac.length 0) ∧ Blk w3 g 2 ((cntN ac nx k).map (Value.int .i64)) ∧ Blk w3 w.heap.size 51 [.int .i64 t, .int .i64 a, .slice s ac.length c, .slice u nx.length d] ∧ Below w.heap.size w w3) := ⟨hb1, hfill, hb3, hbx, hB3⟩
    have hcl := Lib.hid (cntN_length Hok.out k)
    have hcl2 := Lib.hid (cntN_length Hok.out (k + 1))
    clear hown hgrow hb0 hb1 hfill hbx hB3 hb3 Hb HBx HB c3' hg2 sz2 gl2
    go_loopw [53] (fun i wr => ∃ (j : Nat) (L : List Int), j ≤ nx.length ∧ i = .int .i64 j ∧ Blk wr g2 2 (L.map (Value.int .i64)) ∧ FillL (0 : Int) (cntN ac nx (k + 1)) j L ∧ Blk wr g 2 ((cntN ac nx k).map (Value.int .i64)) ∧ Blk wr w.heap.size 51 [.int .i64 t, .int .i64 a, .slice s ac.length c, .slice u nx.length d] ∧ Below w.heap.size w wr) (fun i _ => nx.length - (intOf i).toNat)
    case atStart => exact ⟨0, _, by omega, rfl, Hst.out⟩
    case round =>
     clear Hst
     obtain ⟨j, L, hj, rfl, hb, hfill, hb3, hbx, hB⟩ := hrel
     obtain ⟨w4, rfl⟩ : ∃ v, v = wr := ⟨_, rfl⟩
     have HBx := Lib.hid hbx
     have HB := Lib.hid hB
     have Hb3 := Lib.hid hb3
     clear hbx hB hb3
     by_cases hjl : j < nx.length
     rotate_left
     ·
      obtain rfl : j = nx.length := by omega
      obtain rfl : L = cntN ac nx (k + 1) := FillL.all (by rw [hcl2.out, ← hnl.out]; exact hfill)
      have Hb := Lib.hid hb
      clear hb hfill
      go_wp2_with fail
      go_roundw
      case rel => exact ⟨k + 1, g2, by omega, by go_num, rfl, Hb.out, hg3, HBx.out, HB.out⟩
      case measure => simp [intOf]; omega
     obtain ⟨nr, hnr⟩ : ∃ e, nx[j]? = some e := ⟨_, List.getElem?_eq_getElem hjl⟩
     obtain ⟨ub, uo, rfl⟩ := nest_some (f := iiD) Hq.out (by omega)
     obtain ⟨hul, sn, cn, b0, rb⟩ := nest_sl (g := intsD) Hq.out hnr
     replace b0 := (HB.out.cell (p := ⟨ub, uo + j, none⟩) hul).trans b0
     obtain ⟨rb1, rb2⟩ := nest_bd rb
     unfold maxLen at rb2
     have Hrb := Lib.hid rb
     have hjz := Int.natCast_nonneg j
     have hjb : (j : Int) < (nx.length : Int) := by omega
     have hjL : j < L.length := by have := hfill.1; rw [hcl2.out] at this; have := hnl.out; omega
     have hjL2 : j < ac.length := by have := hnl.out; omega
     have hb' : Blk w4 g2 2 ((L.set j 0).map (Value.int .i64)) := by rw [set_zero_same (hfill.at (by rw [hcl2.out]; exact hjL2))]; exact hb
     have HB' := Lib.hid hb'
     have Hfill := Lib.hid (fun v => hfill.step (v := v))
     have Hat := Lib.hid (cntN_at (ac := ac) (n := k) hnr)
     have Hbd := Lib.hid (fun (i l : Nat) (row : List Int) (hi : nr[i]? = some row) => cnt_round Hok.out hm10 hnr hi l)
     have Hce := Lib.hid (fun (i l : Nat) (row : List Int) (z : Int) (hi : nr[i]? = some row) (hl : row[l]? = some z) => cnt_cell Hok.out hm10 hnr hi hl)
     clear hb hfill hb' hnr rb
     go_wp2_with fail
     clear b0
     go_loopw [60] (fun i wr => ∃ (l : Nat) (S : Int), l ≤ nr.length ∧ i = .int .i64 l ∧ Hid (S = cntRows (cntN ac nx k) (nr.take l)) ∧ Blk wr g2 2 ((L.set j S).map (Value.int .i64)) ∧ Blk wr g 2 ((cntN ac nx k).map (Value.int .i64)) ∧ Blk wr w.heap.size 51 [.int .i64 t, .int .i64 a, .slice s ac.length c, .slice (some ⟨ub, uo, none⟩) nx.length d] ∧ Below w.heap.size w wr) (fun i _ => nr.length - (intOf i).toNat)
     case atStart => exact ⟨0, 0, by omega, rfl, by show (0 : Int) = _; simp [cntRows, sumI], HB'.out, Hb3.out, HBx.out, HB.out⟩
     case round =>
      clear HB' HBx HB Hb3
      obtain ⟨l, S, hl, rfl, HS, hb, hb3, hbx, hB⟩ := hrel
      obtain ⟨w5, rfl⟩ : ∃ v, v = wr := ⟨_, rfl⟩
      have HBx := Lib.hid hbx
      have HB := Lib.hid hB
      have Hb3 := Lib.hid hb3
      have Hb := Lib.hid hb
      clear hbx hB hb3 hb
      by_cases hll : l < nr.length
      rotate_left
      ·
       obtain rfl : l = nr.length := by omega
       have hst := Hfill.out S (by rw [HS.out, List.take_length]; exact Hat.out)
       have Hst := Lib.hid hst
       clear hst
       go_wp2_with fail
       go_roundw
       case rel => exact ⟨j + 1, _, by omega, by go_num, Hb.out, Hst.out, Hb3.out, HBx.out, HB.out⟩
       case measure => simp [intOf]; omega
      obtain ⟨row, hrow⟩ : ∃ e, nr[l]? = some e := ⟨_, List.getElem?_eq_getElem hll⟩
      obtain ⟨vb, vo, rfl⟩ := nest_some (f := intsD) Hrb.out (by omega)
      obtain ⟨hvl, sr, cr, r0, rr⟩ := nest_sl (g := D.int) Hrb.out hrow
      replace r0 := (HB.out.cell (p := ⟨vb, vo + l, none⟩) hvl).trans r0
      obtain ⟨rr1, rr2⟩ := nest_bd rr
      unfold maxLen at rr2
      have hlz := Int.natCast_nonneg l
      have hlb : (l : Int) < (nr.length : Int) := by omega
      have Hrow := Lib.hid hrow
      have Hrr := Lib.hid rr
      have Hs := Lib.hid (cntRows_succ (c := cntN ac nx k) hrow)
      have HS2 : Hid (S = cntRows (cntN ac nx k) (nr.take l) + cntRow (cntN ac nx k) (row.take 0)) := by show _ = _; rw [HS.out]; simp [cntRow, sumI]
      clear hrow rr
      go_wp2_with fail
      clear r0
      go_loopw [66] (fun i wr => ∃ (m : Nat) (T : Int), m ≤ row.length ∧ i = .int .i64 m ∧ Hid (T = cntRows (cntN ac nx k) (nr.take l) + cntRow (cntN ac nx k) (row.take m)) ∧ Blk wr g2 2 ((L.set j T).map (Value.int .i64)) ∧ Blk wr g 2 ((cntN ac nx k).map (Value.int .i64)) ∧ Blk wr w.heap.size 51 [.int .i64 t, .int .i64 a, .slice s ac.length c, .slice (some ⟨ub, uo, none⟩) nx.length d] ∧ Below w.heap.size w wr) (fun i _ => row.length - (intOf i).toNat)
      case atStart => exact ⟨0, S, by omega, rfl, HS2, Hb.out, Hb3.out, HBx.out, HB.out⟩
      case round =>
       clear Hb HBx HB Hb3 HS2
       obtain ⟨m, T, hm, rfl, HT, hb, hb3, hbx, hB⟩ := hrel
       have HBx := Lib.hid hbx
       have HB := Lib.hid hB
       have Hb3 := Lib.hid hb3
       have Hb := Lib.hid hb
       clear hbx hB hb3 hb
       by_cases hml : m < row.length
       rotate_left
       ·
        obtain rfl : m = row.length := by omega
        have HT2 : Hid (T = cntRows (cntN ac nx k) (nr.take (l + 1))) := by show _ = _; rw [HT.out, List.take_length, Hs.out]
        go_wp2_with fail
        go_roundw
        case rel => exact ⟨l + 1, T, by omega, by go_num, HT2, Hb.out, Hb3.out, HBx.out, HB.out⟩
        case measure => simp [intOf]; omega
       obtain ⟨z, hz⟩ : ∃ e, row[m]? = some e := ⟨_, List.getElem?_eq_getElem hml⟩
       obtain ⟨tb, to', rfl⟩ := nest_some (f := D.int) Hrr.out (by omega)
       obtain ⟨-, z0⟩ := int_in (Hrr.out.below HB.out) hz
       have hmz := Int.natCast_nonneg m
       have hmb : (m : Int) < (row.length : Int) := by omega
       obtain ⟨t1, t2⟩ := Hbd.out l m row Hrow.out
       rw [← HT.out] at t1 t2
       obtain ⟨z1, z2, z3, z4⟩ := Hce.out l m row z Hrow.out hz
       clear hz
       by_cases hneg : z < 0
       ·
        have HT2 : Hid (T = cntRows (cntN ac nx k) (nr.take l) + cntRow (cntN ac nx k) (row.take (m + 1))) := by show _ = _; rw [HT.out, z4 hneg]
        clear z3 z4
        go_wp2_with fail
        go_roundw
        case rel => exact ⟨m + 1, T, by omega, by go_num, HT2, Hb.out, Hb3.out, HBx.out, HB.out⟩
        case measure => simp [intOf]; omega
       ·
        obtain ⟨zn, rfl⟩ : ∃ zn : Nat, z = (zn : Int) := ⟨z.toNat, by omega⟩
        obtain ⟨v, hv, v1, v2, v3⟩ := z3 (by omega)
        rw [Int.toNat_natCast] at hv
        have x0 := arr_cell Hb3.out hv
        have y0 := arr_cell Hb.out (set_at (x := T) hjL)
        have f0 := Hb.out.frozen j
        have gl := Hb.out.lt
        have HT2 : Hid (T + v = cntRows (cntN ac nx k) (nr.take l) + cntRow (cntN ac nx k) (row.take (m + 1))) := by show _ = _; rw [HT.out, v3]; omega
        have Hset := arr_set Hb.out j (T + v)
        rw [set_twice] at Hset
        have Hfin := Lib.hid (And.intro Hset (And.intro (Hb3.out.other (p := ⟨g2, j, none⟩) hgg (.int .i64 (T + v))) (And.intro (HBx.out.other (p := ⟨g2, j, none⟩) (by simp; omega) (.int .i64 (T + v))) (Below.setCell (p := ⟨g2, j, none⟩) HB.out (by simp; omega) (.int .i64 (T + v))))))
        have hzn := Int.natCast_nonneg zn
        have hznb : (zn : Int) < (ac.length : Int) := by omega
        clear z3 z4 hv v3 Hset
        go_wp2_with fail
        go_region
        go_wp2_with fail
        go_roundw
        case rel => exact ⟨m + 1, T + v, by omega, by go_num, HT2, Hfin.out.1, Hfin.out.2.1, Hfin.out.2.2.1, Hfin.out.2.2.2.drew⟩
        case measure => simp [intOf]; omega
end Go.Proofs.Ytbflhjjnemdecaa

namespace Go.Proofs.Ytbflhjjnemdecaa
set_option linter.unusedVariables false
set_option linter.unusedSimpArgs false
open Go.ChangeShapes Go.WideShapes Go.ChangeAt Go.RowKit Go.Sort
set_option maxHeartbeats 4000000 in
theorem indexTrue_i {bs : List Bool} {s : Option Addr} {c : Nat} {w : World} (hr : Rd w (boolsD bs) (.slice s bs.length c)) :
  Calls Try.prog 149 #[.slice s bs.length c, .bool true] w fun e w' => ∃ r, e = .returned (.int .i64 r) ∧ IdxT bs r ∧ w' = w := by
 obtain ⟨hlen, hcap⟩ := nest_bd hr
 unfold maxLen at hcap
 go_enter Try.func149, Try.ntmps149
 go_wp2_with fail
 go_loop [8] (fun i => ∃ k : Nat, k ≤ bs.length ∧ i = .int .i64 k ∧ Hid (∀ j : Nat, j < k → bs[j]? = some false)) (fun i => bs.length - (intOf i).toNat)
 case atStart => exact ⟨0, by omega, rfl, fun j hj => by omega⟩
 case round =>
  obtain ⟨k, hk, rfl, HA⟩ := hrel
  have hk0 := Int.natCast_nonneg k
  by_cases hlt : k < bs.length
  ·
   obtain ⟨z, hz⟩ : ∃ z, bs[k]? = some z := ⟨_, List.getElem?_eq_getElem hlt⟩
   obtain ⟨sb, so, rfl⟩ := nest_some (f := D.bool) hr (by omega)
   obtain ⟨hbl, z0⟩ := bool_in hr hz
   have hkb : (k : Int) < (bs.length : Int) := by omega
   have Hz := Lib.hid hz
   clear hz
   cases z
   ·
    have HA2 : Hid (∀ j : Nat, j < k + 1 → bs[j]? = some false) := fun j hj => by
     by_cases he : j = k
     ·
      rw [he]; exact Hz.out
     ·
      exact HA.out j (by omega)
    go_wp2_with fail
    go_round
    case rel => exact ⟨k + 1, by omega, by go_num, HA2⟩
    case measure => simp [intOf]; omega
   ·
    go_wp2_with fail
    go_ret
    exact ⟨_, rfl, Or.inr ⟨k, rfl, Hz.out, HA.out⟩, rfl⟩
  ·
   obtain rfl : k = bs.length := by omega
   go_wp2_with fail
   go_ret
   exact ⟨_, rfl, Or.inl ⟨rfl, HA.out⟩, rfl⟩
theorem containsTrue_i {bs : List Bool} {s : Option Addr} {c : Nat} {w : World} (hr : Rd w (boolsD bs) (.slice s bs.length c)) :
  Calls Try.prog 160 #[.slice s bs.length c, .bool true] w fun e w' => e = .returned (.bool (bs.any id)) ∧ w' = w := by
 go_enter Try.func160, Try.ntmps160
 go_wp2_with fail
 refine (indexTrue_i hr).mono ?_
 rintro e w1 ⟨r, rfl, hidx, rfl⟩
 have Hr := Lib.hid hidx.any
 clear hidx
 go_wp2_with fail
 go_ret
 exact ⟨ret_bool Hr.out, rfl⟩
set_option maxHeartbeats 4000000 in
theorem aliveC_i {z n : Int} {bo bn g T1 T2 T3 : Nat} {L : List Int} {w : World} (ho : Blk w bo T1 [.slice (some ⟨g, 0, none⟩) L.length L.length]) (hn : Blk w bn T2 [.int .i64 n]) (hg : Blk w g T3 (L.map (Value.int .i64))) (hz : z < L.length) (hn1 : 1 ≤ n) (hn2 : n ≤ 1000) (hL : L.length ≤ 1000) :
  Calls Try.prog 162 #[.int .i64 z, .pointer (some ⟨bo, 0, none⟩), .pointer (some ⟨bn, 0, none⟩)] w fun e w' => e = .returned (.bool (decide (0 ≤ z) && (L.getD z.toNat 0 == n - 1))) ∧ Below w.heap.size w w' := by
 have o0 := ho.c0
 have n0 := hn.c0
 have lo := ho.lt
 have ln := hn.lt
 have lg := hg.lt
 by_cases h0 : 0 ≤ z
 ·
  obtain ⟨k, rfl⟩ : ∃ k : Nat, z = (k : Int) := ⟨z.toNat, by omega⟩
  obtain ⟨v, hv⟩ : ∃ v, L[k]? = some v := ⟨_, List.getElem?_eq_getElem (by omega)⟩
  have x0 := arr_cell hg hv
  have HV : Hid (L.getD ((k : Int)).toNat 0 = v) := by show _ = _; rw [Int.toNat_natCast, List.getD_eq_getElem?_getD, hv]; rfl
  rw [HV.out]
  have ge : decide ((0 : Int) ≤ (k : Int)) = true := by simp
  rw [ge]
  have go0 := fun d os => cell_regrown o0 d os
  have gn0 := fun d os => cell_regrown n0 d os
  have gx0 := fun d os => cell_regrown x0 d os
  clear hv HV ho hn hg
  go_enter Try.func162, Try.ntmps162
  go_wp2_with fail
  refine Go.wp_region_quiet_below (by kernel_rfl) (by kernel_rfl) ?_
  repeat (first | go_big_quiet_step ((fail)) | quiet_step ((fail)))
  refine wpQuiet_nil ?_; intro _ hw'; obtain ⟨⟨dq, osq⟩, hw''⟩ := hw'; subst hw''; have hq := below_regrown w dq osq; revert hq; generalize grow (redrawn w dq) osq = w2; intro hq
  go_wp2_with fail
  go_ret
  exact ⟨ret_bool (by simp), hq⟩
 ·
  have ge : decide ((0 : Int) ≤ z) = false := by simp; omega
  rw [ge]
  clear ho hn hg
  go_enter Try.func162, Try.ntmps162
  go_wp2_with fail
  refine Go.wp_region_quiet_below (by kernel_rfl) (by kernel_rfl) ?_
  repeat (first | go_big_quiet_step ((fail)) | quiet_step ((fail)))
  refine wpQuiet_nil ?_; intro _ hw'; obtain ⟨⟨dq, osq⟩, hw''⟩ := hw'; subst hw''; have hq := below_regrown w dq osq; revert hq; generalize grow (redrawn w dq) osq = w2; intro hq
  go_wp2_with fail
  go_ret
  exact ⟨ret_bool (by simp), hq⟩
set_option maxHeartbeats 4000000 in
theorem indexAlive_i {n : Int} {bo bn g T1 T2 T3 : Nat} {L row : List Int} {s : Option Addr} {c : Nat} {w : World} (ho : Blk w bo T1 [.slice (some ⟨g, 0, none⟩) L.length L.length]) (hn : Blk w bn T2 [.int .i64 n]) (hg : Blk w g T3 (L.map (Value.int .i64))) (hz : ∀ z ∈ row, z < L.length) (hn1 : 1 ≤ n) (hn2 : n ≤ 1000) (hL : L.length ≤ 1000)
  (hr : Rd w (intsD row) (.slice s row.length c)) :
  Calls Try.prog 166 #[.slice s row.length c, .func (.func 162) #[] #[.pointer (some ⟨bo, 0, none⟩), .pointer (some ⟨bn, 0, none⟩)]] w fun e w' => ∃ r : Int, e = .returned (.int .i64 r) ∧ decide (0 ≤ r) = hitR (fun z => L.getD z 0 == n - 1) row ∧ Below w.heap.size w w' := by
 obtain ⟨hlen, hcap⟩ := nest_bd hr
 unfold maxLen at hcap
 have Ho := Lib.hid ho
 have Hn := Lib.hid hn
 have Hg := Lib.hid hg
 have Hz := Lib.hid hz
 clear ho hn hg hz
 go_enter Try.func166, Try.ntmps166
 go_wp2_with fail
 go_loopw [8] (fun i wr => ∃ k : Nat, k ≤ row.length ∧ i = .int .i64 k ∧ Hid (hitR (fun z => L.getD z 0 == n - 1) (row.take k) = false) ∧ Below w.heap.size w wr) (fun i _ => row.length - (intOf i).toNat)
 case atStart => exact ⟨0, by omega, rfl, by show _ = _; simp [hitR], Below.refl _ _⟩
 case round =>
  obtain ⟨k, hk, rfl, HA, hB⟩ := hrel
  have hk0 := Int.natCast_nonneg k
  by_cases hlt : k < row.length
  ·
   obtain ⟨z, hz⟩ : ∃ z, row[k]? = some z := ⟨_, List.getElem?_eq_getElem hlt⟩
   obtain ⟨sb, so, rfl⟩ := nest_some (f := D.int) hr (by omega)
   obtain ⟨hbl, z0⟩ := int_in (hr.below hB) hz
   have hkb : (k : Int) < (row.length : Int) := by omega
   have hzl := Hz.out z (List.mem_of_getElem? hz)
   have HRz := Lib.hid hz
   have HB := Lib.hid hB
   clear hz hB
   go_wp2_with fail
   refine (aliveC_i (Ho.out.below HB.out) (Hn.out.below HB.out) (Hg.out.below HB.out) hzl hn1 hn2 hL).mono ?_
   rintro e w2 ⟨rfl, hb2⟩
   have hBx : Below w.heap.size w w2 := Below.on HB.out hb2 HB.out.size
   have HBx := Lib.hid hBx
   clear hb2 hBx z0
   cases hp : (decide (0 ≤ z) && (L.getD z.toNat 0 == n - 1))
   ·
    have HA2 : Hid (hitR (fun z => L.getD z 0 == n - 1) (row.take (k + 1)) = false) := hitR_none HA.out HRz.out hp
    clear hp
    go_wp2_with fail
    go_roundw
    case rel => exact ⟨k + 1, by omega, by go_num, HA2, HBx.out⟩
    case measure => simp [intOf]; omega
   ·
    have HA2 : Hid (hitR (fun z => L.getD z 0 == n - 1) row = true) := hitR_found HRz.out hp
    clear hp
    go_wp2_with fail
    go_ret
    exact ⟨_, rfl, by rw [HA2.out]; simp, HBx.out⟩
  ·
   obtain rfl : k = row.length := by omega
   have HA2 : Hid (hitR (fun z => L.getD z 0 == n - 1) row = false) := by show _ = _; have := HA.out; rwa [List.take_length] at this
   go_wp2_with fail
   go_ret
   exact ⟨_, rfl, by rw [HA2.out]; decide, hB⟩
theorem containsAlive_i {n : Int} {bo bn g T1 T2 T3 : Nat} {L row : List Int} {s : Option Addr} {c : Nat} {w : World} (ho : Blk w bo T1 [.slice (some ⟨g, 0, none⟩) L.length L.length]) (hn : Blk w bn T2 [.int .i64 n]) (hg : Blk w g T3 (L.map (Value.int .i64))) (hz : ∀ z ∈ row, z < L.length) (hn1 : 1 ≤ n) (hn2 : n ≤ 1000) (hL : L.length ≤ 1000)
  (hr : Rd w (intsD row) (.slice s row.length c)) :
  Calls Try.prog 161 #[.slice s row.length c, .func (.func 162) #[] #[.pointer (some ⟨bo, 0, none⟩), .pointer (some ⟨bn, 0, none⟩)]] w fun e w' => e = .returned (.bool (hitR (fun z => L.getD z 0 == n - 1) row)) ∧ Below w.heap.size w w' := by
 go_enter Try.func161, Try.ntmps161
 go_wp2_with fail
 refine (indexAlive_i ho hn hg hz hn1 hn2 hL hr).mono ?_
 rintro e w1 ⟨r, rfl, hh, hb⟩
 have Hr := Lib.hid hh
 clear hh
 go_wp2_with fail
 go_ret
 exact ⟨ret_bool Hr.out, hb⟩
end Go.Proofs.Ytbflhjjnemdecaa

namespace Go.Proofs.Ytbflhjjnemdecaa
set_option linter.unusedVariables false
set_option linter.unusedSimpArgs false
open Go.ChangeShapes Go.WideShapes Go.ChangeAt Go.RowKit Go.Sort
structure FarB (w : World) (T1 T2 T3 N g ob : Nat) (box : List Value) (wr : World) (L : List Int) : Prop where
 hg : Blk wr g T3 (L.map (Value.int .i64))
 ho : Blk wr ob T2 [.slice (some ⟨g, 0, none⟩) N N]
 hx : Blk wr w.heap.size T1 box
 o1 : w.heap.size < g
 o2 : g < ob
 bl : Below w.heap.size w wr
 ln : L.length = N
section
variable {w wr : World} {T1 T2 T3 N g ob : Nat} {box : List Value} {L : List Int}
theorem FarB.set (h : FarB w T1 T2 T3 N g ob box wr L) (k : Nat) (x : Int) : FarB w T1 T2 T3 N g ob box (wr.setCell ⟨g, k, none⟩ (.int .i64 x)) (L.set k x) :=
 ⟨arr_set h.hg k x, h.ho.other (p := ⟨g, k, none⟩) (by have := h.o2; simp; omega) _, h.hx.other (p := ⟨g, k, none⟩) (by have := h.o1; simp; omega) _, h.o1, h.o2, Below.setCell (p := ⟨g, k, none⟩) h.bl (by have := h.o1; simp; omega) _, by simpa using h.ln⟩
theorem FarB.below {w2 : World} (h : FarB w T1 T2 T3 N g ob box wr L) (hb : Below wr.heap.size wr w2) : FarB w T1 T2 T3 N g ob box w2 L :=
 ⟨h.hg.below hb, h.ho.below hb, h.hx.below hb, h.o1, h.o2, h.bl.trans (hb.mono h.bl.size), h.ln⟩
theorem FarB.alloc (h : FarB w T1 T2 T3 N g ob box wr L) (o : Obj) : FarB w T1 T2 T3 N g ob box (wr.alloc o) L := h.below (Below.alloc (Below.refl _ _) (Nat.le_refl _) o)
end
def ptrInt (p : Value) (w : World) : Nat :=
 match p with
 | .pointer (some a) => match w.cell? a with
  | some v => (intOf v).toNat
  | none => 0
 | _ => 0
theorem ptrInt_eq {w : World} {b t : Nat} {x : Int} (h : Blk w b t [.int .i64 x]) : ptrInt (.pointer (some ⟨b, 0, none⟩)) w = x.toNat := by
 unfold ptrInt
 simp only [h.c0]
 rfl
set_option maxRecDepth 100000 in
set_option maxHeartbeats 16000000 in
theorem alive_i {t a : Int} {ac : List (List Bool)} {nx : List (List (List Int))} {s u : Option Addr} {c d : Nat} {w : World} (hr : Rd w (bbD ac) (.slice s ac.length c)) (hq : Rd w (iiiD nx) (.slice u nx.length d)) (hok : AutOk t a ac nx) :
  Calls Try.prog 147 #[.agg #[.int .i64 t, .int .i64 a, .slice s ac.length c, .slice u nx.length d]] w fun e w' => ∃ g, e = .returned (.slice (some ⟨g, 0, none⟩) ac.length ac.length) ∧ Fresh w w' (intsD (farL ac nx (ac.length - 1))) (.slice (some ⟨g, 0, none⟩) ac.length ac.length) ∧ Below w.heap.size w w' := by
 obtain ⟨hlen, hcap⟩ := nest_bd hr
 obtain ⟨hlen', hcap'⟩ := nest_bd hq
 unfold maxLen at hcap hcap'
 have hn1 := hok.lo
 have hn2 := hok.hi
 have hnl1 : nx.length ≤ ac.length := by have := hok.len; omega
 have hnl2 : ac.length ≤ nx.length := by have := hok.len; omega
 have Hok := Lib.hid hok
 have Hr := Lib.hid hr
 have Hq := Lib.hid hq
 obtain ⟨i0, hi, hz0, hz1, hz2⟩ := info_parts info_int64
 have L := Blk.new4 w 51 (.int .i64 t) (.int .i64 a) (.slice s ac.length c) (.slice u nx.length d)
 have HL := Lib.hid L
 have l2 := L.c2
 clear hok L hr hq
 go_enter Try.func147, Try.ntmps147
 go_wp2_with (at_make; refine wpList_make_full _ rfl _ _ 27 rfl w.heap.size 2 i0 (.int .i64 0) 1 Try.underlying27 hi hz0 hz1 .i64 .i64 _ _ ac.length rfl rfl rfl rfl (by rw [hz2]; omega) (by unfold maxLen; omega) (by simp) ?_; intro w1 hown hgrow; have hbx := HL.out.keep (hgrow.block _ HL.out.lt (by simp)); have c2' := hbx.c2; have lx := hbx.lt)
 have hB0 : Below w.heap.size w w1 := Below.grown (Below.alloc (Below.refl _ _) (Nat.le_refl _) _) hgrow (by simp) (by simp)
 clear c2' lx
 rw [show (w.alloc (.cells #[.int .i64 t, .int .i64 a, .slice s ac.length c, .slice u nx.length d] 51)).heap.size = w.heap.size + 1 by simp] at hown
 obtain ⟨hb0, -⟩ := made_blk (z := .int .i64 0) rfl hown
 have hfill := FillL.start (z := (0 : Int)) (farL_len (ac := ac) (nx := nx) 0)
 have hb1 : Blk w1 (w.heap.size + 1) 2 ((List.replicate ac.length (0 : Int)).map (Value.int .i64)) := by simpa using hb0
 obtain ⟨g, hg⟩ : ∃ g, w.heap.size + 1 = g := ⟨_, rfl⟩
 rw [hg] at hb1 ⊢
 obtain ⟨w2, e2, hob, hb2, hz2'⟩ := box1 w1 27 (.slice (some ⟨g, 0, none⟩) ac.length ac.length)
 rw [e2]
 have hlg := hb1.lt
 obtain ⟨ob, hob'⟩ : ∃ ob, w1.heap.size = ob := ⟨_, rfl⟩
 have HF : Hid (FarB w 51 27 2 ac.length g ob [.int .i64 t, .int .i64 a, .slice s ac.length c, .slice u nx.length d] w2 (List.replicate ac.length 0)) :=
  ⟨hb1.below hb2, by rw [← hob']; exact hob, hbx.below hb2, by omega, by omega, hB0.trans (hb2.mono hB0.size), by simp⟩
 rw [hob'] at ⊢
 have Hfill := Lib.hid hfill
 clear hown hgrow hb0 hb1 hfill hbx hB0 HL l2 e2 hob hb2 hz2' hlg hg hob'
 go_loopw [18] (fun i wr => ∃ (k : Nat) (L : List Int), k ≤ ac.length ∧ i = .int .i64 k ∧ FarB w 51 27 2 ac.length g ob [.int .i64 t, .int .i64 a, .slice s ac.length c, .slice u nx.length d] wr L ∧ FillL (0 : Int) (farL ac nx 0) k L) (fun i _ => ac.length - (intOf i).toNat)
 case atStart => exact ⟨0, _, by omega, rfl, HF.out, Hfill.out⟩
 case round =>
  clear HF Hfill
  obtain ⟨k, L, hk, rfl, hF, hfill⟩ := hrel
  obtain ⟨wo, rfl⟩ : ∃ v, v = wr := ⟨_, rfl⟩
  have HF := Lib.hid hF
  have hk0 := Int.natCast_nonneg k
  have hLl := hF.ln
  by_cases hlt : k < ac.length
  ·
   obtain ⟨ar, har⟩ : ∃ e, ac[k]? = some e := ⟨_, List.getElem?_eq_getElem hlt⟩
   obtain ⟨sb, so, rfl⟩ := nest_some (f := boolsD) Hr.out (by omega)
   obtain ⟨hsl, sa, ca, a0, ra⟩ := nest_sl (g := D.bool) Hr.out har
   replace a0 := (hF.bl.cell (p := ⟨sb, so + k, none⟩) hsl).trans a0
   have Hst := Lib.hid (fun v h => hfill.step (v := v) h)
   have Hfar : Hid ((farL ac nx 0)[k]? = some (if ar.any id then (0 : Int) else -1)) := by show _ = _; rw [farL_at hlt, farV_zero har]
   have hkb : (k : Int) < (ac.length : Int) := by omega
   obtain ⟨xv, hxv⟩ : ∃ xv, L[k]? = some xv := ⟨_, List.getElem?_eq_getElem (by omega)⟩
   have x0 := arr_cell hF.hg hxv
   have f0 := hF.hg.frozen k
   clear hfill har hF hxv
   have q0 := HF.out.ho.c0
   have q2 := HF.out.hx.c2
   have q3 := HF.out.hx.c3
   have lo := HF.out.ho.lt
   have lx := HF.out.hx.lt
   have lg := HF.out.hg.lt
   have nab := HF.out.o1
   have ngb := HF.out.o2
   go_wp2_with fail
   clear q0 q2 q3 lo lx lg a0 x0 f0
   have hF2 := HF.out.set k (-1)
   generalize wo.setCell ⟨g, k, none⟩ (.int .i64 (-1)) = w5 at hF2 ⊢
   have HF2 := Lib.hid hF2
   have ra2 := ra.below hF2.bl
   have f0 := hF2.hg.frozen k
   have x0 := arr_cell hF2.hg (set_at (x := (-1 : Int)) (i := k) (by omega))
   clear hF2
   refine (containsTrue_i ra2).mono ?_
   rintro e w6 ⟨rfl, rfl⟩
   have q0 := HF2.out.ho.c0
   have q2 := HF2.out.hx.c2
   have q3 := HF2.out.hx.c3
   have lo := HF2.out.ho.lt
   have lx := HF2.out.hx.lt
   have lg := HF2.out.hg.lt
   have nab := HF2.out.o1
   have ngb := HF2.out.o2
   cases hany : ar.any id
   ·
    rw [hany] at Hfar
    have HF3 := Lib.hid (And.intro HF2.out (Hst.out (-1) (by rw [Hfar.out]; rfl)))
    clear hany Hfar Hst ra ra2
    go_wp2_with fail
    go_roundw
    case rel => exact ⟨k + 1, _, by omega, by go_num, HF3.out⟩
    case measure => simp [intOf]; omega
   ·
    rw [hany] at Hfar
    have HF3 := Lib.hid (And.intro (by have h := HF2.out.set k 0; rw [set_twice] at h; exact h) (Hst.out 0 (by rw [Hfar.out]; rfl)) : FarB w 51 27 2 ac.length g ob [.int .i64 t, .int .i64 a, .slice (some ⟨sb, so, none⟩) ac.length c, .slice u nx.length d] (w6.setCell ⟨g, k, none⟩ (.int .i64 0)) (L.set k 0) ∧ FillL (0 : Int) (farL ac nx 0) (k + 1) (L.set k 0))
    clear hany Hfar Hst ra ra2
    go_wp2_with fail
    go_roundw
    case rel => exact ⟨k + 1, _, by omega, by go_num, HF3.out⟩
    case measure => simp [intOf]; omega
  ·
   obtain rfl : k = ac.length := by omega
   obtain rfl : L = farL ac nx 0 := FillL.all (by rw [farL_len]; exact hfill)
   clear hF hfill
   have q0 := HF.out.ho.c0
   have q2 := HF.out.hx.c2
   have q3 := HF.out.hx.c3
   have lo := HF.out.ho.lt
   have lx := HF.out.hx.lt
   have lg := HF.out.hg.lt
   have nab := HF.out.o1
   have ngb := HF.out.o2
   go_wp2_with fail
   clear q0 q2 q3 lo lx lg
   obtain ⟨w3, e3, hbn, hb3, hz3⟩ := box1 wo 2 (.int .i64 1)
   rw [e3]
   have Hst : Hid (FarB w 51 27 2 ac.length g ob [.int .i64 t, .int .i64 a, .slice s ac.length c, .slice u nx.length d] w3 (farL ac nx 0) ∧ Blk w3 wo.heap.size 2 [.int .i64 (((0 : Nat) : Int) + 1)] ∧ ob < wo.heap.size) := ⟨HF.out.below hb3, hbn, HF.out.ho.lt⟩
   clear e3 hbn hb3 hz3 HF
   go_loopw [6] (fun p wr => ∃ m bn : Nat, p = .pointer (some ⟨bn, 0, none⟩) ∧ m + 1 ≤ ac.length ∧ FarB w 51 27 2 ac.length g ob [.int .i64 t, .int .i64 a, .slice s ac.length c, .slice u nx.length d] wr (farL ac nx m) ∧ Blk wr bn 2 [.int .i64 ((m : Int) + 1)] ∧ ob < bn) (fun p wr => ac.length - ptrInt p wr)
   case atStart => exact ⟨0, _, rfl, by omega, Hst.out⟩
   case round =>
    clear Hst
    obtain ⟨m, bn, rfl, hm, hF, hbn, hobn⟩ := hrel
    obtain ⟨wm, rfl⟩ : ∃ v, v = wr := ⟨_, rfl⟩
    have Hms := Lib.hid (ptrInt_eq hbn)
    have HF := Lib.hid hF
    have HBn := Lib.hid hbn
    have hm0 := Int.natCast_nonneg m
    have hm100 : m ≤ 100 := by omega
    have n0 := hbn.c0
    have ln := hbn.lt
    have q0 := HF.out.ho.c0
    have q2 := HF.out.hx.c2
    have q3 := HF.out.hx.c3
    have lo := HF.out.ho.lt
    have lx := HF.out.hx.lt
    have lg := HF.out.hg.lt
    have nab := HF.out.o1
    have ngb := HF.out.o2
    by_cases hml : m + 1 < ac.length
    rotate_left
    ·
     obtain rfl : m = ac.length - 1 := by omega
     have hnlt : ¬ (((ac.length - 1 : Nat) : Int) + 1 < (ac.length : Int)) := by omega
     have Hfr := Lib.hid (arr_fresh (fd := D.int) (W := w) hF.hg (by omega) (fun x => Ow.int x) (farL_len _) (by unfold maxLen; omega))
     clear hF hbn
     go_wp2_with fail
     go_ret
     exact ⟨g, rfl, Hfr.out, HF.out.bl⟩
    have hmb : (m : Int) + 1 < (ac.length : Int) := by omega
    have HM0 := Lib.hid (MidL.zero (ac := ac) (nx := nx) (m := m))
    clear hF hbn
    go_wp2_with fail
    clear n0 ln q0 q2 q3 lo lx lg
    go_loopw [41] (fun i wr => ∃ (j : Nat) (L : List Int), j ≤ nx.length ∧ i = .int .i64 j ∧ FarB w 51 27 2 ac.length g ob [.int .i64 t, .int .i64 a, .slice s ac.length c, .slice u nx.length d] wr L ∧ MidL ac nx m j L ∧ Blk wr bn 2 [.int .i64 ((m : Int) + 1)]) (fun i _ => nx.length - (intOf i).toNat)
    case atStart => exact ⟨0, _, by omega, rfl, HF.out, HM0.out, HBn.out⟩
    case round =>
     clear HF HM0 HBn
     obtain ⟨j, L, hj, rfl, hF, hM, hbn⟩ := hrel
     obtain ⟨wj, rfl⟩ : ∃ v, v = wr := ⟨_, rfl⟩
     have HF := Lib.hid hF
     have HBn := Lib.hid hbn
     have hj0 := Int.natCast_nonneg j
     have hLl := hF.ln
     by_cases hjl : j < nx.length
     rotate_left
     ·
      obtain rfl : j = nx.length := by omega
      have HL2 : Hid (L = farL ac nx (m + 1)) := MidL.all (by rw [← show nx.length = ac.length by omega]; exact hM)
      have n0 := hbn.c0
      have ln := hbn.lt
      have q0 := HF.out.ho.c0
      have q2 := HF.out.hx.c2
      have q3 := HF.out.hx.c3
      have lo := HF.out.ho.lt
      have lx := HF.out.hx.lt
      have lg := HF.out.hg.lt
      have nab := HF.out.o1
      have ngb := HF.out.o2
      have Hfin : Hid (FarB w 51 27 2 ac.length g ob [.int .i64 t, .int .i64 a, .slice s ac.length c, .slice u nx.length d] (wj.alloc (.cells #[.int .i64 ((m : Int) + 1 + 1)] 2)) (farL ac nx (m + 1)) ∧
        Blk (wj.alloc (.cells #[.int .i64 ((m : Int) + 1 + 1)] 2)) wj.heap.size 2 [.int .i64 (((m + 1 : Nat) : Int) + 1)] ∧ ob < wj.heap.size) := by
       refine ⟨?_, Blk.new1 wj 2 (.int .i64 ((m : Int) + 1 + 1)), lo⟩
       rw [← HL2.out]
       exact HF.out.alloc _
      have Hm3 := Lib.hid (ptrInt_eq Hfin.out.2.1)
      clear hF hM hbn
      go_wp2_with fail
      clear n0 ln q0 q2 q3 lo lx lg
      go_roundw
      case rel => exact ⟨m + 1, _, rfl, by omega, Hfin.out⟩
      case measure => rw [Hms.out, Hm3.out]; omega
     obtain ⟨nr, hnr⟩ : ∃ e, nx[j]? = some e := ⟨_, List.getElem?_eq_getElem hjl⟩
     obtain ⟨ub, uo, rfl⟩ := nest_some (f := iiD) Hq.out (by omega)
     obtain ⟨hul, sn, cn, b0, rb⟩ := nest_sl (g := intsD) Hq.out hnr
     replace b0 := (hF.bl.cell (p := ⟨ub, uo + j, none⟩) hul).trans b0
     obtain ⟨rb1, rb2⟩ := nest_bd rb
     unfold maxLen at rb2
     have Hrb := Lib.hid rb
     have hjb : (j : Int) < (nx.length : Int) := by omega
     have hjc : j < ac.length := by omega
     have HM := Lib.hid hM
     have Hall := Lib.hid (midV_all (ac := ac) (m := m) hnr)
     have Htg := Lib.hid (fun (l : Nat) (row : List Int) (h : nr[l]? = some row) (z : Int) (hz : z ∈ row) => Hok.out.targets j row z (by rw [List.getD_eq_getElem?_getD, hnr]; exact List.mem_of_getElem? h) hz)
     have Hst : Hid (FarB w 51 27 2 ac.length g ob [.int .i64 t, .int .i64 a, .slice s ac.length c, .slice (some ⟨ub, uo, none⟩) nx.length d] wj (L.set j (midV ac nx m j nr 0)) ∧ Blk wj bn 2 [.int .i64 ((m : Int) + 1)]) := by
      refine ⟨?_, hbn⟩
      rw [midV_zero, set_zero_same (hM.at hjc)]
      exact hF
     have q0 := HF.out.ho.c0
     have q2 := HF.out.hx.c2
     have q3 := HF.out.hx.c3
     have lo := HF.out.ho.lt
     have lx := HF.out.hx.lt
     have lg := HF.out.hg.lt
     have nab := HF.out.o1
     have ngb := HF.out.o2
     clear hF hM hbn hnr rb
     go_wp2_with fail
     clear q0 q2 q3 lo lx lg b0
     go_loopw [48] (fun i wr => ∃ l : Nat, l ≤ nr.length ∧ i = .int .i64 l ∧ FarB w 51 27 2 ac.length g ob [.int .i64 t, .int .i64 a, .slice s ac.length c, .slice (some ⟨ub, uo, none⟩) nx.length d] wr (L.set j (midV ac nx m j nr l)) ∧ Blk wr bn 2 [.int .i64 ((m : Int) + 1)]) (fun i _ => nr.length - (intOf i).toNat)
     case atStart => exact ⟨0, by omega, rfl, Hst.out⟩
     case round =>
      clear Hst HF HBn
      obtain ⟨l, hl, rfl, hF, hbn⟩ := hrel
      obtain ⟨wl, rfl⟩ : ∃ v, v = wr := ⟨_, rfl⟩
      have HF := Lib.hid hF
      have HBn := Lib.hid hbn
      have hl0 := Int.natCast_nonneg l
      by_cases hll : l < nr.length
      rotate_left
      ·
       obtain rfl : l = nr.length := by omega
       have Hst2 := Lib.hid (HM.out.step hjc)
       have Hfin : Hid (FarB w 51 27 2 ac.length g ob [.int .i64 t, .int .i64 a, .slice s ac.length c, .slice (some ⟨ub, uo, none⟩) nx.length d] wl (L.set j (farV ac nx (m + 1) j))) := by show FarB ..; rw [← Hall.out]; exact hF
       clear hF hbn
       go_wp2_with fail
       go_roundw
       case rel => exact ⟨j + 1, _, by omega, by go_num, Hfin.out, Hst2.out, HBn.out⟩
       case measure => simp [intOf]; omega
      obtain ⟨row, hrow⟩ : ∃ e, nr[l]? = some e := ⟨_, List.getElem?_eq_getElem hll⟩
      obtain ⟨vb, vo, rfl⟩ := nest_some (f := intsD) Hrb.out (by omega)
      obtain ⟨hvl, sr, cr, r0, rr⟩ := nest_sl (g := D.int) Hrb.out hrow
      replace r0 := (hF.bl.cell (p := ⟨vb, vo + l, none⟩) hvl).trans r0
      replace rr := rr.below hF.bl
      have hlb : (l : Int) < (nr.length : Int) := by omega
      have hzr := Htg.out l row hrow
      have hskip := fun h => midV_skip (ac := ac) (nx := nx) (m := m) (j := j) (nr := nr) (l := l) h
      have hstep := fun h => midV_step (ac := ac) (nx := nx) (m := m) (j := j) (nr := nr) (l := l) h hrow
      have hhit := fun h => HM.out.hit hjc (nr := nr) (l := l) h hzr
      have hvb := midV_bd (ac := ac) (nx := nx) (m := m) (j := j) (nr := nr) hm100 l
      obtain ⟨v, hv⟩ : ∃ v, midV ac nx m j nr l = v := ⟨_, rfl⟩
      rw [hv] at hskip hstep hhit hvb HF hF
      have x0 := arr_cell hF.hg (set_at (x := v) (i := j) (by omega))
      have f0 := hF.hg.frozen j
      have n0 := hbn.c0
      have ln := hbn.lt
      have hLl2 : (L.set j v).length = ac.length := by simpa using hLl
      have Hho : Hid (Blk wl ob 27 [.slice (some ⟨g, 0, none⟩) (L.set j v).length (L.set j v).length]) := by show Blk ..; rw [hLl2]; exact hF.ho
      have Hhg := Lib.hid hF.hg
      have Hzr : Hid (∀ z ∈ row, z < ((L.set j v).length : Int)) := by show ∀ z ∈ row, _; intro z hz; rw [hLl2]; exact hzr z hz
      have Hrr := Lib.hid rr
      have Hhit := Lib.hid hhit
      have Hstep := Lib.hid hstep
      have Hskip := Lib.hid hskip
      have q0 := HF.out.ho.c0
      have q2 := HF.out.hx.c2
      have q3 := HF.out.hx.c3
      have lo := HF.out.ho.lt
      have lx := HF.out.hx.lt
      have lg := HF.out.hg.lt
      have nab := HF.out.o1
      have ngb := HF.out.o2
      clear hF hbn hv hrow rr hzr hhit hstep hskip
      by_cases hneg : v < 0
      rotate_left
      ·
       have hnl : decide (v < 0) = false := by simpa using hneg
       have HF2 : Hid (FarB w 51 27 2 ac.length g ob [.int .i64 t, .int .i64 a, .slice s ac.length c, .slice (some ⟨ub, uo, none⟩) nx.length d] wl (L.set j (midV ac nx m j nr (l + 1)))) := by show FarB ..; rw [Hskip.out hneg]; exact HF.out
       go_wp2_with fail
       go_roundw
       case rel => exact ⟨l + 1, by omega, by go_num, HF2.out, HBn.out⟩
       case measure => simp [intOf]; omega
      have hnl : decide (v < 0) = true := by simpa using hneg
      have Hst2 := Lib.hid (Hstep.out hneg)
      have Hh2 := Lib.hid (Hhit.out hneg)
      clear Hstep Hhit Hskip
      go_wp2_with fail
      refine (containsAlive_i (n := (m : Int) + 1) Hho.out HBn.out Hhg.out Hzr.out (by omega) (by omega) (by omega) Hrr.out).mono ?_
      rintro e w5 ⟨rfl, hb5⟩
      rw [show (m : Int) + 1 - 1 = (m : Int) by omega, Hh2.out]
      have HF5 := Lib.hid (HF.out.below hb5)
      have HBn5 := Lib.hid (HBn.out.below hb5)
      have n5 := HBn5.out.c0
      have ln5 := HBn5.out.lt
      have f5 := HF5.out.hg.frozen j
      have x5 := arr_cell HF5.out.hg (set_at (x := v) (i := j) (by omega))
      clear q0 q2 q3 lo lx lg n0 ln f0 x0 r0 hb5
      have q0 := HF5.out.ho.c0
      have q2 := HF5.out.hx.c2
      have q3 := HF5.out.hx.c3
      have lo := HF5.out.ho.lt
      have lx := HF5.out.hx.lt
      have lg := HF5.out.hg.lt
      have nab := HF5.out.o1
      have ngb := HF5.out.o2
      cases hH : hitR (fun z => farV ac nx m z == (m : Int)) row
      ·
       rw [hH] at Hst2
       have HF2 : Hid (FarB w 51 27 2 ac.length g ob [.int .i64 t, .int .i64 a, .slice s ac.length c, .slice (some ⟨ub, uo, none⟩) nx.length d] w5 (L.set j (midV ac nx m j nr (l + 1)))) := by show FarB ..; rw [Hst2.out]; exact HF5.out
       clear hH Hst2
       go_wp2_with fail
       go_roundw
       case rel => exact ⟨l + 1, by omega, by go_num, HF2.out, HBn5.out⟩
       case measure => simp [intOf]; omega
      ·
       rw [hH] at Hst2
       have HF2 : Hid (FarB w 51 27 2 ac.length g ob [.int .i64 t, .int .i64 a, .slice s ac.length c, .slice (some ⟨ub, uo, none⟩) nx.length d] (w5.setCell ⟨g, j, none⟩ (.int .i64 ((m : Int) + 1))) (L.set j (midV ac nx m j nr (l + 1))) ∧ Blk (w5.setCell ⟨g, j, none⟩ (.int .i64 ((m : Int) + 1))) bn 2 [.int .i64 ((m : Int) + 1)]) := by
        refine ⟨?_, HBn5.out.other (p := ⟨g, j, none⟩) (by simp; omega) _⟩
        have h := HF5.out.set j ((m : Int) + 1)
        rw [set_twice] at h
        rw [Hst2.out]
        exact h
       clear hH Hst2
       go_wp2_with fail
       go_roundw
       case rel => exact ⟨l + 1, by omega, by go_num, HF2.out⟩
       case measure => simp [intOf]; omega
end Go.Proofs.Ytbflhjjnemdecaa
