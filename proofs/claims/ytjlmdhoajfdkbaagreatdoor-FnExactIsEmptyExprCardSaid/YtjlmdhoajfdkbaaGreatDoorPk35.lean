/-
  Parts of a proof, joined: FarI, LiveS, LiveT. No condition.
-/
import Derived.Test.YtjlmdhoajfdkbaaGreatDoorPk32
import Derived.Test.YtjlmdhoajfdkbaaGreatDoorPk34
namespace Go.Proofs.YtjlmdhoajfdkbaaGreatDoor
set_option linter.unusedVariables false
set_option linter.unusedSimpArgs false
open Go.ChangeShapes Go.WideShapes Go.ChangeAt Go.RowKit Go.Sort
structure FarB (w : World) (T1 T2 T3 N g ob : Nat) (box : List Value) (wr : World) (L : List Int) : Prop where
 hg : Blk wr g T3 (L.map (Value.int .i64))
 ho : Blk wr ob T2 [.slice (some ⟨g, 0, none⟩) N N]
 hx : Blk wr w.heap.size T1 box
 o1 : w.heap.size < g
 o2 : g < ob
 bl : Below w.heap.size w wr
 ln : L.length = N
section
variable {w wr : World} {T1 T2 T3 N g ob : Nat} {box : List Value} {L : List Int}
theorem FarB.set (h : FarB w T1 T2 T3 N g ob box wr L) (k : Nat) (x : Int) : FarB w T1 T2 T3 N g ob box (wr.setCell ⟨g, k, none⟩ (.int .i64 x)) (L.set k x) :=
 ⟨arr_set h.hg k x, h.ho.other (p := ⟨g, k, none⟩) (by have := h.o2; simp; omega) _, h.hx.other (p := ⟨g, k, none⟩) (by have := h.o1; simp; omega) _, h.o1, h.o2, Below.setCell (p := ⟨g, k, none⟩) h.bl (by have := h.o1; simp; omega) _, by simpa using h.ln⟩
theorem FarB.below {w2 : World} (h : FarB w T1 T2 T3 N g ob box wr L) (hb : Below wr.heap.size wr w2) : FarB w T1 T2 T3 N g ob box w2 L :=
 ⟨h.hg.below hb, h.ho.below hb, h.hx.below hb, h.o1, h.o2, h.bl.trans (hb.mono h.bl.size), h.ln⟩
theorem FarB.alloc (h : FarB w T1 T2 T3 N g ob box wr L) (o : Obj) : FarB w T1 T2 T3 N g ob box (wr.alloc o) L := h.below (Below.alloc (Below.refl _ _) (Nat.le_refl _) o)
end
def ptrInt (p : Value) (w : World) : Nat :=
 match p with
 | .pointer (some a) => match w.cell? a with
  | some v => (intOf v).toNat
  | none => 0
 | _ => 0
theorem ptrInt_eq {w : World} {b t : Nat} {x : Int} (h : Blk w b t [.int .i64 x]) : ptrInt (.pointer (some ⟨b, 0, none⟩)) w = x.toNat := by
 unfold ptrInt
 simp only [h.c0]
 rfl
set_option maxRecDepth 100000 in
set_option maxHeartbeats 16000000 in
theorem alive_i {t a : Int} {ac : List (List Bool)} {nx : List (List (List Int))} {s u : Option Addr} {c d : Nat} {w : World} (hr : Rd w (bbD ac) (.slice s ac.length c)) (hq : Rd w (iiiD nx) (.slice u nx.length d)) (hok : AutOk t a ac nx) :
  Calls Tryz.prog 100 #[.agg #[.int .i64 t, .int .i64 a, .slice s ac.length c, .slice u nx.length d]] w fun e w' => ∃ g, e = .returned (.slice (some ⟨g, 0, none⟩) ac.length ac.length) ∧ Fresh w w' (intsD (farL ac nx (ac.length - 1))) (.slice (some ⟨g, 0, none⟩) ac.length ac.length) ∧ Below w.heap.size w w' := by
 obtain ⟨hlen, hcap⟩ := nest_bd hr
 obtain ⟨hlen', hcap'⟩ := nest_bd hq
 unfold maxLen at hcap hcap'
 have hn1 := hok.lo
 have hn2 := hok.hi
 have hnl1 : nx.length ≤ ac.length := by have := hok.len; omega
 have hnl2 : ac.length ≤ nx.length := by have := hok.len; omega
 have Hok := Lib.hid hok
 have Hr := Lib.hid hr
 have Hq := Lib.hid hq
 obtain ⟨i0, hi, hz0, hz1, hz2⟩ := info_parts info_int64
 have L := Blk.new4 w 75 (.int .i64 t) (.int .i64 a) (.slice s ac.length c) (.slice u nx.length d)
 have HL := Lib.hid L
 have l2 := L.c2
 clear hok L hr hq
 go_enter Tryz.func100, Tryz.ntmps100
 go_wp2_with (at_make; refine wpList_make_full _ rfl _ _ 52 rfl w.heap.size 2 i0 (.int .i64 0) 1 Tryz.underlying52 hi hz0 hz1 .i64 .i64 _ _ ac.length rfl rfl rfl rfl (by rw [hz2]; omega) (by unfold maxLen; omega) (by simp) ?_; intro w1 hown hgrow; have hbx := HL.out.keep (hgrow.block _ HL.out.lt (by simp)); have c2' := hbx.c2; have lx := hbx.lt)
 have hB0 : Below w.heap.size w w1 := Below.grown (Below.alloc (Below.refl _ _) (Nat.le_refl _) _) hgrow (by simp) (by simp)
 clear c2' lx
 rw [show (w.alloc (.cells #[.int .i64 t, .int .i64 a, .slice s ac.length c, .slice u nx.length d] 75)).heap.size = w.heap.size + 1 by simp] at hown
 obtain ⟨hb0, -⟩ := made_blk (z := .int .i64 0) rfl hown
 have hfill := FillL.start (z := (0 : Int)) (farL_len (ac := ac) (nx := nx) 0)
 have hb1 : Blk w1 (w.heap.size + 1) 2 ((List.replicate ac.length (0 : Int)).map (Value.int .i64)) := by simpa using hb0
 obtain ⟨g, hg⟩ : ∃ g, w.heap.size + 1 = g := ⟨_, rfl⟩
 rw [hg] at hb1 ⊢
 obtain ⟨w2, e2, hob, hb2, hz2'⟩ := box1 w1 52 (.slice (some ⟨g, 0, none⟩) ac.length ac.length)
 rw [e2]
 have hlg := hb1.lt
 obtain ⟨ob, hob'⟩ : ∃ ob, w1.heap.size = ob := ⟨_, rfl⟩
 have HF : Hid (FarB w 75 52 2 ac.length g ob [.int .i64 t, .int .i64 a, .slice s ac.length c, .slice u nx.length d] w2 (List.replicate ac.length 0)) :=
  ⟨hb1.below hb2, by rw [← hob']; exact hob, hbx.below hb2, by omega, by omega, hB0.trans (hb2.mono hB0.size), by simp⟩
 rw [hob'] at ⊢
 have Hfill := Lib.hid hfill
 clear hown hgrow hb0 hb1 hfill hbx hB0 HL l2 e2 hob hb2 hz2' hlg hg hob'
 go_loopw [18] (fun i wr => ∃ (k : Nat) (L : List Int), k ≤ ac.length ∧ i = .int .i64 k ∧ FarB w 75 52 2 ac.length g ob [.int .i64 t, .int .i64 a, .slice s ac.length c, .slice u nx.length d] wr L ∧ FillL (0 : Int) (farL ac nx 0) k L) (fun i _ => ac.length - (intOf i).toNat)
 case atStart => exact ⟨0, _, by omega, rfl, HF.out, Hfill.out⟩
 case round =>
  clear HF Hfill
  obtain ⟨k, L, hk, rfl, hF, hfill⟩ := hrel
  obtain ⟨wo, rfl⟩ : ∃ v, v = wr := ⟨_, rfl⟩
  have HF := Lib.hid hF
  have hk0 := Int.natCast_nonneg k
  have hLl := hF.ln
  by_cases hlt : k < ac.length
  ·
   obtain ⟨ar, har⟩ : ∃ e, ac[k]? = some e := ⟨_, List.getElem?_eq_getElem hlt⟩
   obtain ⟨sb, so, rfl⟩ := nest_some (f := boolsD) Hr.out (by omega)
   obtain ⟨hsl, sa, ca, a0, ra⟩ := nest_sl (g := D.bool) Hr.out har
   replace a0 := (hF.bl.cell (p := ⟨sb, so + k, none⟩) hsl).trans a0
   have Hst := Lib.hid (fun v h => hfill.step (v := v) h)
   have Hfar : Hid ((farL ac nx 0)[k]? = some (if ar.any id then (0 : Int) else -1)) := by show _ = _; rw [farL_at hlt, farV_zero har]
   have hkb : (k : Int) < (ac.length : Int) := by omega
   obtain ⟨xv, hxv⟩ : ∃ xv, L[k]? = some xv := ⟨_, List.getElem?_eq_getElem (by omega)⟩
   have x0 := arr_cell hF.hg hxv
   have f0 := hF.hg.frozen k
   clear hfill har hF hxv
   have q0 := HF.out.ho.c0
   have q2 := HF.out.hx.c2
   have q3 := HF.out.hx.c3
   have lo := HF.out.ho.lt
   have lx := HF.out.hx.lt
   have lg := HF.out.hg.lt
   have nab := HF.out.o1
   have ngb := HF.out.o2
   go_wp2_with fail
   clear q0 q2 q3 lo lx lg a0 x0 f0
   have hF2 := HF.out.set k (-1)
   generalize wo.setCell ⟨g, k, none⟩ (.int .i64 (-1)) = w5 at hF2 ⊢
   have HF2 := Lib.hid hF2
   have ra2 := ra.below hF2.bl
   have f0 := hF2.hg.frozen k
   have x0 := arr_cell hF2.hg (set_at (x := (-1 : Int)) (i := k) (by omega))
   clear hF2
   refine (containsTrue_i ra2).mono ?_
   rintro e w6 ⟨rfl, rfl⟩
   have q0 := HF2.out.ho.c0
   have q2 := HF2.out.hx.c2
   have q3 := HF2.out.hx.c3
   have lo := HF2.out.ho.lt
   have lx := HF2.out.hx.lt
   have lg := HF2.out.hg.lt
   have nab := HF2.out.o1
   have ngb := HF2.out.o2
   cases hany : ar.any id
   ·
    rw [hany] at Hfar
    have HF3 := Lib.hid (And.intro HF2.out (Hst.out (-1) (by rw [Hfar.out]; rfl)))
    clear hany Hfar Hst ra ra2
    go_wp2_with fail
    go_roundw
    case rel => exact ⟨k + 1, _, by omega, by go_num, HF3.out⟩
    case measure => simp [intOf]; omega
   ·
    rw [hany] at Hfar
    have HF3 := Lib.hid (And.intro (by have h := HF2.out.set k 0; rw [set_twice] at h; exact h) (Hst.out 0 (by rw [Hfar.out]; rfl)) : FarB w 75 52 2 ac.length g ob [.int .i64 t, .int .i64 a, .slice (some ⟨sb, so, none⟩) ac.length c, .slice u nx.length d] (w6.setCell ⟨g, k, none⟩ (.int .i64 0)) (L.set k 0) ∧ FillL (0 : Int) (farL ac nx 0) (k + 1) (L.set k 0))
    clear hany Hfar Hst ra ra2
    go_wp2_with fail
    go_roundw
    case rel => exact ⟨k + 1, _, by omega, by go_num, HF3.out⟩
    case measure => simp [intOf]; omega
  ·
   obtain rfl : k = ac.length := by omega
   obtain rfl : L = farL ac nx 0 := FillL.all (by rw [farL_len]; exact hfill)
   clear hF hfill
   have q0 := HF.out.ho.c0
   have q2 := HF.out.hx.c2
   have q3 := HF.out.hx.c3
   have lo := HF.out.ho.lt
   have lx := HF.out.hx.lt
   have lg := HF.out.hg.lt
   have nab := HF.out.o1
   have ngb := HF.out.o2
   go_wp2_with fail
   clear q0 q2 q3 lo lx lg
   obtain ⟨w3, e3, hbn, hb3, hz3⟩ := box1 wo 2 (.int .i64 1)
   rw [e3]
   have Hst : Hid (FarB w 75 52 2 ac.length g ob [.int .i64 t, .int .i64 a, .slice s ac.length c, .slice u nx.length d] w3 (farL ac nx 0) ∧ Blk w3 wo.heap.size 2 [.int .i64 (((0 : Nat) : Int) + 1)] ∧ ob < wo.heap.size) := ⟨HF.out.below hb3, hbn, HF.out.ho.lt⟩
   clear e3 hbn hb3 hz3 HF
   go_loopw [6] (fun p wr => ∃ m bn : Nat, p = .pointer (some ⟨bn, 0, none⟩) ∧ m + 1 ≤ ac.length ∧ FarB w 75 52 2 ac.length g ob [.int .i64 t, .int .i64 a, .slice s ac.length c, .slice u nx.length d] wr (farL ac nx m) ∧ Blk wr bn 2 [.int .i64 ((m : Int) + 1)] ∧ ob < bn) (fun p wr => ac.length - ptrInt p wr)
   case atStart => exact ⟨0, _, rfl, by omega, Hst.out⟩
   case round =>
    clear Hst
    obtain ⟨m, bn, rfl, hm, hF, hbn, hobn⟩ := hrel
    obtain ⟨wm, rfl⟩ : ∃ v, v = wr := ⟨_, rfl⟩
    have Hms := Lib.hid (ptrInt_eq hbn)
    have HF := Lib.hid hF
    have HBn := Lib.hid hbn
    have hm0 := Int.natCast_nonneg m
    have hm100 : m ≤ 100 := by omega
    have n0 := hbn.c0
    have ln := hbn.lt
    have q0 := HF.out.ho.c0
    have q2 := HF.out.hx.c2
    have q3 := HF.out.hx.c3
    have lo := HF.out.ho.lt
    have lx := HF.out.hx.lt
    have lg := HF.out.hg.lt
    have nab := HF.out.o1
    have ngb := HF.out.o2
    by_cases hml : m + 1 < ac.length
    rotate_left
    ·
     obtain rfl : m = ac.length - 1 := by omega
     have hnlt : ¬ (((ac.length - 1 : Nat) : Int) + 1 < (ac.length : Int)) := by omega
     have Hfr := Lib.hid (arr_fresh (fd := D.int) (W := w) hF.hg (by omega) (fun x => Ow.int x) (farL_len _) (by unfold maxLen; omega))
     clear hF hbn
     go_wp2_with fail
     go_ret
     exact ⟨g, rfl, Hfr.out, HF.out.bl⟩
    have hmb : (m : Int) + 1 < (ac.length : Int) := by omega
    have HM0 := Lib.hid (MidL.zero (ac := ac) (nx := nx) (m := m))
    clear hF hbn
    go_wp2_with fail
    clear n0 ln q0 q2 q3 lo lx lg
    go_loopw [41] (fun i wr => ∃ (j : Nat) (L : List Int), j ≤ nx.length ∧ i = .int .i64 j ∧ FarB w 75 52 2 ac.length g ob [.int .i64 t, .int .i64 a, .slice s ac.length c, .slice u nx.length d] wr L ∧ MidL ac nx m j L ∧ Blk wr bn 2 [.int .i64 ((m : Int) + 1)]) (fun i _ => nx.length - (intOf i).toNat)
    case atStart => exact ⟨0, _, by omega, rfl, HF.out, HM0.out, HBn.out⟩
    case round =>
     clear HF HM0 HBn
     obtain ⟨j, L, hj, rfl, hF, hM, hbn⟩ := hrel
     obtain ⟨wj, rfl⟩ : ∃ v, v = wr := ⟨_, rfl⟩
     have HF := Lib.hid hF
     have HBn := Lib.hid hbn
     have hj0 := Int.natCast_nonneg j
     have hLl := hF.ln
     by_cases hjl : j < nx.length
     rotate_left
     ·
      obtain rfl : j = nx.length := by omega
      have HL2 : Hid (L = farL ac nx (m + 1)) := MidL.all (by rw [← show nx.length = ac.length by omega]; exact hM)
      have n0 := hbn.c0
      have ln := hbn.lt
      have q0 := HF.out.ho.c0
      have q2 := HF.out.hx.c2
      have q3 := HF.out.hx.c3
      have lo := HF.out.ho.lt
      have lx := HF.out.hx.lt
      have lg := HF.out.hg.lt
      have nab := HF.out.o1
      have ngb := HF.out.o2
      have Hfin : Hid (FarB w 75 52 2 ac.length g ob [.int .i64 t, .int .i64 a, .slice s ac.length c, .slice u nx.length d] (wj.alloc (.cells #[.int .i64 ((m : Int) + 1 + 1)] 2)) (farL ac nx (m + 1)) ∧
        Blk (wj.alloc (.cells #[.int .i64 ((m : Int) + 1 + 1)] 2)) wj.heap.size 2 [.int .i64 (((m + 1 : Nat) : Int) + 1)] ∧ ob < wj.heap.size) := by
       refine ⟨?_, Blk.new1 wj 2 (.int .i64 ((m : Int) + 1 + 1)), lo⟩
       rw [← HL2.out]
       exact HF.out.alloc _
      have Hm3 := Lib.hid (ptrInt_eq Hfin.out.2.1)
      clear hF hM hbn
      go_wp2_with fail
      clear n0 ln q0 q2 q3 lo lx lg
      go_roundw
      case rel => exact ⟨m + 1, _, rfl, by omega, Hfin.out⟩
      case measure => rw [Hms.out, Hm3.out]; omega
     obtain ⟨nr, hnr⟩ : ∃ e, nx[j]? = some e := ⟨_, List.getElem?_eq_getElem hjl⟩
     obtain ⟨ub, uo, rfl⟩ := nest_some (f := iiD) Hq.out (by omega)
     obtain ⟨hul, sn, cn, b0, rb⟩ := nest_sl (g := intsD) Hq.out hnr
     replace b0 := (hF.bl.cell (p := ⟨ub, uo + j, none⟩) hul).trans b0
     obtain ⟨rb1, rb2⟩ := nest_bd rb
     unfold maxLen at rb2
     have Hrb := Lib.hid rb
     have hjb : (j : Int) < (nx.length : Int) := by omega
     have hjc : j < ac.length := by omega
     have HM := Lib.hid hM
     have Hall := Lib.hid (midV_all (ac := ac) (m := m) hnr)
     have Htg := Lib.hid (fun (l : Nat) (row : List Int) (h : nr[l]? = some row) (z : Int) (hz : z ∈ row) => Hok.out.targets j row z (by rw [List.getD_eq_getElem?_getD, hnr]; exact List.mem_of_getElem? h) hz)
     have Hst : Hid (FarB w 75 52 2 ac.length g ob [.int .i64 t, .int .i64 a, .slice s ac.length c, .slice (some ⟨ub, uo, none⟩) nx.length d] wj (L.set j (midV ac nx m j nr 0)) ∧ Blk wj bn 2 [.int .i64 ((m : Int) + 1)]) := by
      refine ⟨?_, hbn⟩
      rw [midV_zero, set_zero_same (hM.at hjc)]
      exact hF
     have q0 := HF.out.ho.c0
     have q2 := HF.out.hx.c2
     have q3 := HF.out.hx.c3
     have lo := HF.out.ho.lt
     have lx := HF.out.hx.lt
     have lg := HF.out.hg.lt
     have nab := HF.out.o1
     have ngb := HF.out.o2
     clear hF hM hbn hnr rb
     go_wp2_with fail
     clear q0 q2 q3 lo lx lg b0
     go_loopw [48] (fun i wr => ∃ l : Nat, l ≤ nr.length ∧ i = .int .i64 l ∧ FarB w 75 52 2 ac.length g ob [.int .i64 t, .int .i64 a, .slice s ac.length c, .slice (some ⟨ub, uo, none⟩) nx.length d] wr (L.set j (midV ac nx m j nr l)) ∧ Blk wr bn 2 [.int .i64 ((m : Int) + 1)]) (fun i _ => nr.length - (intOf i).toNat)
     case atStart => exact ⟨0, by omega, rfl, Hst.out⟩
     case round =>
      clear Hst HF HBn
      obtain ⟨l, hl, rfl, hF, hbn⟩ := hrel
      obtain ⟨wl, rfl⟩ : ∃ v, v = wr := ⟨_, rfl⟩
      have HF := Lib.hid hF
      have HBn := Lib.hid hbn
      have hl0 := Int.natCast_nonneg l
      by_cases hll : l < nr.length
      rotate_left
      ·
       obtain rfl : l = nr.length := by omega
       have Hst2 := Lib.hid (HM.out.step hjc)
       have Hfin : Hid (FarB w 75 52 2 ac.length g ob [.int .i64 t, .int .i64 a, .slice s ac.length c, .slice (some ⟨ub, uo, none⟩) nx.length d] wl (L.set j (farV ac nx (m + 1) j))) := by show FarB ..; rw [← Hall.out]; exact hF
       clear hF hbn
       go_wp2_with fail
       go_roundw
       case rel => exact ⟨j + 1, _, by omega, by go_num, Hfin.out, Hst2.out, HBn.out⟩
       case measure => simp [intOf]; omega
      obtain ⟨row, hrow⟩ : ∃ e, nr[l]? = some e := ⟨_, List.getElem?_eq_getElem hll⟩
      obtain ⟨vb, vo, rfl⟩ := nest_some (f := intsD) Hrb.out (by omega)
      obtain ⟨hvl, sr, cr, r0, rr⟩ := nest_sl (g := D.int) Hrb.out hrow
      replace r0 := (hF.bl.cell (p := ⟨vb, vo + l, none⟩) hvl).trans r0
      replace rr := rr.below hF.bl
      have hlb : (l : Int) < (nr.length : Int) := by omega
      have hzr := Htg.out l row hrow
      have hskip := fun h => midV_skip (ac := ac) (nx := nx) (m := m) (j := j) (nr := nr) (l := l) h
      have hstep := fun h => midV_step (ac := ac) (nx := nx) (m := m) (j := j) (nr := nr) (l := l) h hrow
      have hhit := fun h => HM.out.hit hjc (nr := nr) (l := l) h hzr
      have hvb := midV_bd (ac := ac) (nx := nx) (m := m) (j := j) (nr := nr) hm100 l
      obtain ⟨v, hv⟩ : ∃ v, midV ac nx m j nr l = v := ⟨_, rfl⟩
      rw [hv] at hskip hstep hhit hvb HF hF
      have x0 := arr_cell hF.hg (set_at (x := v) (i := j) (by omega))
      have f0 := hF.hg.frozen j
      have n0 := hbn.c0
      have ln := hbn.lt
      have hLl2 : (L.set j v).length = ac.length := by simpa using hLl
      have Hho : Hid (Blk wl ob 52 [.slice (some ⟨g, 0, none⟩) (L.set j v).length (L.set j v).length]) := by show Blk ..; rw [hLl2]; exact hF.ho
      have Hhg := Lib.hid hF.hg
      have Hzr : Hid (∀ z ∈ row, z < ((L.set j v).length : Int)) := by show ∀ z ∈ row, _; intro z hz; rw [hLl2]; exact hzr z hz
      have Hrr := Lib.hid rr
      have Hhit := Lib.hid hhit
      have Hstep := Lib.hid hstep
      have Hskip := Lib.hid hskip
      have q0 := HF.out.ho.c0
      have q2 := HF.out.hx.c2
      have q3 := HF.out.hx.c3
      have lo := HF.out.ho.lt
      have lx := HF.out.hx.lt
      have lg := HF.out.hg.lt
      have nab := HF.out.o1
      have ngb := HF.out.o2
      clear hF hbn hv hrow rr hzr hhit hstep hskip
      by_cases hneg : v < 0
      rotate_left
      ·
       have hnl : decide (v < 0) = false := by simpa using hneg
       have HF2 : Hid (FarB w 75 52 2 ac.length g ob [.int .i64 t, .int .i64 a, .slice s ac.length c, .slice (some ⟨ub, uo, none⟩) nx.length d] wl (L.set j (midV ac nx m j nr (l + 1)))) := by show FarB ..; rw [Hskip.out hneg]; exact HF.out
       go_wp2_with fail
       go_roundw
       case rel => exact ⟨l + 1, by omega, by go_num, HF2.out, HBn.out⟩
       case measure => simp [intOf]; omega
      have hnl : decide (v < 0) = true := by simpa using hneg
      have Hst2 := Lib.hid (Hstep.out hneg)
      have Hh2 := Lib.hid (Hhit.out hneg)
      clear Hstep Hhit Hskip
      go_wp2_with fail
      refine (containsAlive_i (n := (m : Int) + 1) Hho.out HBn.out Hhg.out Hzr.out (by omega) (by omega) (by omega) Hrr.out).mono ?_
      rintro e w5 ⟨rfl, hb5⟩
      rw [show (m : Int) + 1 - 1 = (m : Int) by omega, Hh2.out]
      have HF5 := Lib.hid (HF.out.below hb5)
      have HBn5 := Lib.hid (HBn.out.below hb5)
      have n5 := HBn5.out.c0
      have ln5 := HBn5.out.lt
      have f5 := HF5.out.hg.frozen j
      have x5 := arr_cell HF5.out.hg (set_at (x := v) (i := j) (by omega))
      clear q0 q2 q3 lo lx lg n0 ln f0 x0 r0 hb5
      have q0 := HF5.out.ho.c0
      have q2 := HF5.out.hx.c2
      have q3 := HF5.out.hx.c3
      have lo := HF5.out.ho.lt
      have lx := HF5.out.hx.lt
      have lg := HF5.out.hg.lt
      have nab := HF5.out.o1
      have ngb := HF5.out.o2
      cases hH : hitR (fun z => farV ac nx m z == (m : Int)) row
      ·
       rw [hH] at Hst2
       have HF2 : Hid (FarB w 75 52 2 ac.length g ob [.int .i64 t, .int .i64 a, .slice s ac.length c, .slice (some ⟨ub, uo, none⟩) nx.length d] w5 (L.set j (midV ac nx m j nr (l + 1)))) := by show FarB ..; rw [Hst2.out]; exact HF5.out
       clear hH Hst2
       go_wp2_with fail
       go_roundw
       case rel => exact ⟨l + 1, by omega, by go_num, HF2.out, HBn5.out⟩
       case measure => simp [intOf]; omega
      ·
       rw [hH] at Hst2
       have HF2 : Hid (FarB w 75 52 2 ac.length g ob [.int .i64 t, .int .i64 a, .slice s ac.length c, .slice (some ⟨ub, uo, none⟩) nx.length d] (w5.setCell ⟨g, j, none⟩ (.int .i64 ((m : Int) + 1))) (L.set j (midV ac nx m j nr (l + 1))) ∧ Blk (w5.setCell ⟨g, j, none⟩ (.int .i64 ((m : Int) + 1))) bn 2 [.int .i64 ((m : Int) + 1)]) := by
        refine ⟨?_, HBn5.out.other (p := ⟨g, j, none⟩) (by simp; omega) _⟩
        have h := HF5.out.set j ((m : Int) + 1)
        rw [set_twice] at h
        rw [Hst2.out]
        exact h
       clear hH Hst2
       go_wp2_with fail
       go_roundw
       case rel => exact ⟨l + 1, by omega, by go_num, HF2.out⟩
       case measure => simp [intOf]; omega
end Go.Proofs.YtjlmdhoajfdkbaaGreatDoor

namespace Go.Proofs.YtjlmdhoajfdkbaaGreatDoor
set_option linter.unusedVariables false
set_option linter.unusedSimpArgs false
open Go.ChangeShapes Go.WideShapes Go.ChangeAt Go.RowKit Go.Sort
def lookB (ac : List (List Bool)) (nx : List (List (List Int))) (L : List Bool) (s : Nat) : Bool := (ac.getD s []).any id || (nx.getD s []).any (hitR fun z => L.getD z false)
def lookTo (ar : List Bool) (nr : List (List Int)) (L : List Bool) (j : Nat) : Bool := (ar.take j).any id || (nr.take j).any (hitR fun z => L.getD z false)
def SoundL (ac : List (List Bool)) (nx : List (List (List Int))) (L : List Bool) : Prop := ∀ s : Nat, L[s]? = some true → Live ac nx s
def ClosedTo (ac : List (List Bool)) (nx : List (List (List Int))) (L : List Bool) (n : Nat) : Prop := ∀ s : Nat, s < n → lookB ac nx L s = true → L[s]? = some true
section
variable {ac : List (List Bool)} {nx : List (List (List Int))} {L : List Bool}
theorem look_sound (h : SoundL ac nx L) {s : Nat} (hl : lookB ac nx L s = true) : Live ac nx s := by
 unfold lookB at hl
 rw [Bool.or_eq_true] at hl
 rcases hl with hl | hl
 ·
  exact ⟨0, hl⟩
 ·
  rw [List.any_eq_true] at hl
  obtain ⟨row, hr, hh⟩ := hl
  rw [hitR_true] at hh
  obtain ⟨z, hz, h0, h1⟩ := hh
  have h2 : L[z.toNat]? = some true := by
   rw [List.getD_eq_getElem?_getD] at h1
   cases he : L[z.toNat]? with
   | none => rw [he] at h1; simp at h1
   | some x => rw [he] at h1; simp at h1; rw [h1]
  obtain ⟨n, hn⟩ := h z.toNat h2
  exact ⟨n + 1, accW_succ.2 ⟨row, hr, z, hz, h0, hn⟩⟩
theorem closed_live (h : ClosedTo ac nx L ac.length) (ht : ∀ s row z, row ∈ nx.getD s [] → z ∈ row → z < ac.length) : ∀ n s, s < ac.length → accW ac nx n s = true → L[s]? = some true
 | 0, s, hs, ha => h s hs (by unfold lookB; rw [Bool.or_eq_true]; exact Or.inl ha)
 | n + 1, s, hs, ha => by
  refine h s hs ?_
  obtain ⟨row, hr, z, hz, h0, h1⟩ := accW_succ.1 ha
  have hlt := ht s row z hr hz
  have := closed_live h ht n z.toNat (by omega) h1
  unfold lookB
  rw [Bool.or_eq_true]
  right
  rw [List.any_eq_true]
  refine ⟨row, hr, ?_⟩
  rw [hitR_true]
  exact ⟨z, hz, h0, by rw [List.getD_eq_getElem?_getD, this]; rfl⟩
theorem live_eq (hs : SoundL ac nx L) (hc : ClosedTo ac nx L ac.length) (hl : L.length = ac.length) (ht : ∀ s row z, row ∈ nx.getD s [] → z ∈ row → z < ac.length) : L = liveL ac nx := by
 apply List.ext_getElem?
 intro s
 by_cases h : s < ac.length
 ·
  rw [liveL_at h]
  obtain ⟨x, hx⟩ : ∃ x, L[s]? = some x := ⟨_, List.getElem?_eq_getElem (by omega)⟩
  rw [hx]
  congr 1
  rw [Bool.eq_iff_iff, liveB_true]
  constructor
  ·
   rintro rfl
   exact hs s hx
  ·
   rintro ⟨n, hn⟩
   rw [closed_live hc ht n s h hn] at hx
   exact (Option.some.inj hx).symm
 ·
  rw [List.getElem?_eq_none (by omega), List.getElem?_eq_none (by rw [liveL_len]; omega)]
theorem SoundL.set (h : SoundL ac nx L) {s : Nat} (hs : Live ac nx s) : SoundL ac nx (L.set s true) := by
 intro k hk
 by_cases he : s = k
 ·
  rw [← he]; exact hs
 ·
  rw [List.getElem?_set_ne he] at hk
  exact h k hk
theorem SoundL.start {n : Nat} : SoundL ac nx (List.replicate n false) := by
 intro s hs
 have := List.mem_of_getElem? hs
 simp at this
theorem lookTo_zero {ar : List Bool} {nr : List (List Int)} : lookTo ar nr L 0 = false := by simp [lookTo]
theorem lookTo_all {ar : List Bool} {nr : List (List Int)} {s : Nat} (ha : ac[s]? = some ar) (hn : nx[s]? = some nr) (hl : nr.length = ar.length) : lookTo ar nr L ar.length = lookB ac nx L s := by
 unfold lookTo lookB
 rw [List.take_length, ← hl, List.take_length, List.getD_eq_getElem?_getD, List.getD_eq_getElem?_getD, ha, hn]
 rfl
theorem lookTo_succ {ar : List Bool} {nr : List (List Int)} {j : Nat} {b : Bool} {row : List Int} (ha : ar[j]? = some b) (hn : nr[j]? = some row) : lookTo ar nr L (j + 1) = (lookTo ar nr L j || b || hitR (fun z => L.getD z false) row) := by
 obtain ⟨h1, rfl⟩ := List.getElem?_eq_some_iff.1 ha
 obtain ⟨h2, rfl⟩ := List.getElem?_eq_some_iff.1 hn
 unfold lookTo
 rw [List.take_succ_eq_append_getElem h1, List.take_succ_eq_append_getElem h2, List.any_append, List.any_append]
 simp only [List.any_cons, List.any_nil, Bool.or_false, id]
 cases (ar.take j).any id <;> cases (nr.take j).any (hitR fun z => L.getD z false) <;> cases ar[j] <;> simp
theorem or_step {y B h x : Bool} (e : y = (B || h)) : (y || x) = (B || (h || x)) := by rw [e, Bool.or_assoc]
theorem ClosedTo.succ {n : Nat} (h : ClosedTo ac nx L n) (hs : lookB ac nx L n = true → L[n]? = some true) : ClosedTo ac nx L (n + 1) := fun s hsn hl => by
 by_cases he : s = n
 ·
  rw [he] at hl ⊢; exact hs hl
 ·
  exact h s (by omega) hl
theorem hitR_zero {P : Nat → Bool} {row : List Int} : hitR P (row.take 0) = false := by simp [hitR]
theorem hitR_succ {P : Nat → Bool} {row : List Int} {k : Nat} {z : Int} (hz : row[k]? = some z) : hitR P (row.take (k + 1)) = (hitR P (row.take k) || (decide (0 ≤ z) && P z.toNat)) := by
 obtain ⟨hk, rfl⟩ := List.getElem?_eq_some_iff.1 hz
 unfold hitR
 rw [List.take_succ_eq_append_getElem hk, List.any_append]
 simp
end
def falses (L : List Bool) : Nat := L.countP fun b => !b
theorem falses_set {L : List Bool} {s : Nat} (h : L[s]? = some false) : falses (L.set s true) < falses L := by
 unfold falses
 induction L generalizing s with
 | nil => simp at h
 | cons x r ih =>
  cases s with
  | zero =>
   simp at h
   subst h
   simp
  | succ s =>
   have h' : r[s]? = some false := by simpa using h
   have := ih h'
   simp only [List.set_cons_succ, List.countP_cons]
   omega
def falsesW (w : World) (g : Nat) : Nat :=
 match w.heap[g]? with
 | some (.cells cur _ _) => cur.toList.countP fun v => match v with | .bool b => !b | _ => false
 | _ => 0
theorem falsesW_eq {w : World} {g t : Nat} {L : List Bool} (h : Blk w g t (L.map Value.bool)) : falsesW w g = falses L := by
 unfold falsesW falses
 have h' : w.heap[g]? = some (.cells (L.map Value.bool).toArray t (0, 0)) := h
 rw [h']
 simp only
 rw [List.countP_map]
 rfl
def b2n (v : Value) : Nat := match v with | .bool true => 1 | _ => 0
set_option maxRecDepth 100000 in
set_option maxHeartbeats 16000000 in
theorem l02Live_i {t a : Int} {ac : List (List Bool)} {nx : List (List (List Int))} {s u : Option Addr} {c d b o : Nat} {w0 : World} (h : AutAt w0 b o t a ac nx s u c d) (hok : AutOk t a ac nx) :
  Calls Tryz.prog 98 #[.pointer (some ⟨b, o, none⟩)] w0 fun e w' => ∃ g, e = .returned (.slice (some ⟨g, 0, none⟩) ac.length ac.length) ∧ Fresh w0 w' (boolsD (liveL ac nx)) (.slice (some ⟨g, 0, none⟩) ac.length ac.length) ∧ Below w0.heap.size w0 w' := by
 have g4 := h.2.2.2.2.1
 have g5 := h.2.2.2.2.2
 obtain ⟨hlen, hcap⟩ := nest_bd g4
 obtain ⟨hlen', hcap'⟩ := nest_bd g5
 unfold maxLen at hcap hcap'
 have hn1 := hok.lo
 have hn2 := hok.hi
 have hnl := Lib.hid hok.len
 have Hok := Lib.hid hok
 have Hh := Lib.hid h
 have HG4 := Lib.hid g4
 have HG5 := Lib.hid g5
 obtain ⟨i0, hi, hz0, hz1, hz2⟩ := info_parts info_bl
 obtain ⟨c0, c1', c2', c3', -, -⟩ := h
 clear hok g4 g5
 go_enter Tryz.func98, Tryz.ntmps98
 go_wp2_with (at_make; refine wpList_make_full _ rfl _ _ 127 rfl w0.heap.size 4 i0 (.bool false) 1 Tryz.underlying127 hi hz0 hz1 .i64 .i64 _ _ ac.length rfl rfl rfl rfl (by rw [hz2]; omega) (by unfold maxLen; omega) (by simp) ?_; intro w1 hown hgrow)
 have hB0 : Below w0.heap.size w0 w1 := Below.grown (Below.refl _ _) hgrow (by simp) (by simp)
 obtain ⟨hb0, -⟩ := made_blk (z := .bool false) rfl hown
 have hb1 : Blk w1 w0.heap.size 4 ((List.replicate ac.length false).map Value.bool) := by simpa using hb0
 have Hst := Lib.hid (And.intro hb1 hB0)
 clear hown hgrow hb0 hb1 hB0 c0 c1' c2' c3'
 go_loopw [4] (fun v wr => ∃ (gr : Bool) (L : List Bool), v = .bool gr ∧ L.length = ac.length ∧ Blk wr w0.heap.size 4 (L.map Value.bool) ∧ Below w0.heap.size w0 wr ∧ SoundL ac nx L ∧ (gr = false → ClosedTo ac nx L ac.length)) (fun v wr => 2 * falsesW wr w0.heap.size + b2n v)
 case atStart => exact ⟨true, _, rfl, by simp, Hst.out.1, Hst.out.2, SoundL.start, fun h => by cases h⟩
 case round =>
  clear Hst
  obtain ⟨gr, L, rfl, hLl, hb, hB, hsd, hcl⟩ := hrel
  obtain ⟨wo, rfl⟩ : ∃ v, v = wr := ⟨_, rfl⟩
  have Hms := Lib.hid (falsesW_eq hb)
  have Hsd := Lib.hid hsd
  have Hcl := Lib.hid hcl
  have Hb := Lib.hid hb
  have HB := Lib.hid hB
  clear hb hB hsd hcl
  cases gr
  ·
   have HL : Hid (L = liveL ac nx) := live_eq Hsd.out (Hcl.out rfl) hLl Hok.out.targets
   have Hfr := Lib.hid (arr_fresh (fd := D.bool) (W := w0) Hb.out (Nat.le_refl _) (fun x => Ow.bool x) hLl (by unfold maxLen; omega))
   go_wp2_with fail
   go_ret
   exact ⟨_, rfl, by have h := Hfr.out; rw [HL.out] at h; exact h, HB.out⟩
  clear Hcl
  go_wp2_with fail
  go_loopw [4, 5] (fun v i wr => ∃ (gr : Bool) (x : Nat) (M : List Bool), v = .bool gr ∧ i = .int .i64 x ∧ x ≤ ac.length ∧ M.length = ac.length ∧ Blk wr w0.heap.size 4 (M.map Value.bool) ∧ Below w0.heap.size w0 wr ∧ SoundL ac nx M ∧ (gr = false → M = L ∧ ClosedTo ac nx L x) ∧ (gr = true → falses M < falses L)) (fun _ i _ => ac.length - (intOf i).toNat)
  case atStart => exact ⟨false, 0, L, rfl, rfl, by omega, hLl, Hb.out, HB.out, Hsd.out, fun _ => ⟨rfl, fun s hs => by omega⟩, fun h => by cases h⟩
  case round =>
   clear Hb HB Hsd
   obtain ⟨gr, x, M, rfl, rfl, hx, hMl, hb, hB, hsd, hno, hyes⟩ := hrel
   obtain ⟨wx, rfl⟩ : ∃ v, v = wr := ⟨_, rfl⟩
   have hx0 := Int.natCast_nonneg x
   have Hsd := Lib.hid hsd
   have Hno := Lib.hid hno
   have Hyes := Lib.hid hyes
   have Hb := Lib.hid hb
   have HB := Lib.hid hB
   have lg := hb.lt
   clear hb hB hsd hno hyes
   by_cases hlt : x < ac.length
   rotate_left
   ·
    obtain rfl : x = ac.length := by omega
    have Hm2 := Lib.hid (falsesW_eq Hb.out)
    go_wp2_with fail
    go_roundw
    case rel => exact ⟨gr, M, rfl, hMl, Hb.out, HB.out, Hsd.out, fun h => by obtain ⟨e1, e2⟩ := Hno.out h; rw [e1]; exact e2⟩
    case measure =>
     rw [Hms.out, Hm2.out]
     cases gr
     ·
      obtain ⟨e1, -⟩ := Hno.out rfl
      rw [e1]
      simp [b2n]
     ·
      have := Hyes.out rfl
      simp [b2n]
      omega
   obtain ⟨ar, har⟩ : ∃ e, ac[x]? = some e := ⟨_, List.getElem?_eq_getElem hlt⟩
   obtain ⟨nr, hnr⟩ : ∃ e, nx[x]? = some e := ⟨_, List.getElem?_eq_getElem (by have := hnl.out; omega)⟩
   obtain ⟨sb, so, rfl⟩ := nest_some (f := boolsD) HG4.out (by omega)
   obtain ⟨ub, uo, rfl⟩ := nest_some (f := iiD) HG5.out (by have := hnl.out; omega)
   obtain ⟨hsl, sa, ca, a0, ra⟩ := nest_sl (g := D.bool) (HG4.out.below HB.out) har
   obtain ⟨hul, sn, cn, b0, rb⟩ := nest_sl (g := intsD) (HG5.out.below HB.out) hnr
   obtain ⟨ra1, ra2⟩ := nest_bd ra
   obtain ⟨rb1, rb2⟩ := nest_bd rb
   unfold maxLen at ra2 rb2
   have hal : nr.length = ar.length := by
    have h1 := Hok.out.acc_row har
    have h2 := (Hok.out.row hnr).1
    omega
   have Hall := Lib.hid (lookTo_all (L := M) har hnr hal)
   have Htg := Lib.hid (fun (l : Nat) (row : List Int) (h : nr[l]? = some row) (z : Int) (hz : z ∈ row) => Hok.out.targets x row z (by rw [List.getD_eq_getElem?_getD, hnr]; exact List.mem_of_getElem? h) hz)
   have hal1 : ar.length ≤ nr.length := by omega
   have hxb : (x : Int) < (ac.length : Int) := by omega
   have hxc : (x : Int) < (nx.length : Int) := by have := hnl.out; omega
   have HL0 : Hid (false = lookTo ar nr M 0) := lookTo_zero.symm
   obtain ⟨c0, c1', c2', c3', -, -⟩ := Hh.out.below HB.out
   clear har hnr hal
   go_wp2_with fail
   go_loop [6, 7] (fun y i => ∃ (j : Nat) (yb : Bool), j ≤ ar.length ∧ i = .int .i64 j ∧ y = .bool yb ∧ Hid (yb = lookTo ar nr M j)) (fun _ i => ar.length - (intOf i).toNat)
   case atStart => exact ⟨0, false, by omega, rfl, rfl, HL0⟩
   case round =>
    clear HL0
    obtain ⟨j, yb, hj, rfl, rfl, HY⟩ := hrel
    have hj0 := Int.natCast_nonneg j
    by_cases hjl : j < ar.length
    rotate_left
    ·
     obtain rfl : j = ar.length := by omega
     have HY2 : Hid (yb = lookB ac nx M x) := by show _ = _; rw [HY.out, Hall.out]
     obtain ⟨mb, hmb⟩ : ∃ e, M[x]? = some e := ⟨_, List.getElem?_eq_getElem (by omega)⟩
     have x0 := arr_cell Hb.out hmb
     have f0 := Hb.out.frozen x
     have HMb := Lib.hid hmb
     clear hmb HY Hall
     cases yb
     ·
      have Hnx : Hid ((gr = false → M = L ∧ ClosedTo ac nx L (x + 1))) := fun h => by
       obtain ⟨e1, e2⟩ := Hno.out h
       refine ⟨e1, e2.succ fun hl => ?_⟩
       have h2 := HY2.out
       rw [e1, hl] at h2
       cases h2
      clear HY2 Hno
      go_wp2_with fail
      go_roundw
      case rel => exact ⟨gr, x + 1, M, rfl, by go_num, by omega, hMl, Hb.out, HB.out, Hsd.out, Hnx.out, Hyes.out⟩
      case measure => simp [intOf]; omega
     ·
      cases mb
      ·
       have Hnx : Hid (falses (M.set x true) < falses L) := by
        show _ < _
        have h1 := falses_set HMb.out
        cases hg : gr with
        | false => have := (Hno.out hg).1; rw [this] at h1 ⊢; exact h1
        | true => have := Hyes.out hg; omega
       have Hs2 := Lib.hid (Hsd.out.set (look_sound Hsd.out HY2.out.symm))
       have Hb2 : Hid (Blk (wx.setCell ⟨w0.heap.size, x, none⟩ (.bool true)) w0.heap.size 4 ((M.set x true).map Value.bool)) := arr_set Hb.out x true
       have HB2 := Lib.hid (Below.setCell (p := ⟨w0.heap.size, x, none⟩) HB.out (Nat.le_refl _) (.bool true))
       have hl2 : (M.set x true).length = ac.length := by simpa using hMl
       clear HY2 Hno Hyes
       go_wp2_with fail
       go_roundw
       case rel => exact ⟨true, x + 1, _, rfl, by go_num, by omega, hl2, Hb2.out, HB2.out, Hs2.out, fun h => (by cases h), fun _ => Hnx.out⟩
       case measure => simp [intOf]; omega
      ·
       have Hnx : Hid ((gr = false → M = L ∧ ClosedTo ac nx L (x + 1))) := fun h => by
        obtain ⟨e1, e2⟩ := Hno.out h
        refine ⟨e1, e2.succ fun hl => ?_⟩
        rw [← e1]
        exact HMb.out
       clear HY2 Hno
       go_wp2_with fail
       go_roundw
       case rel => exact ⟨gr, x + 1, M, rfl, by go_num, by omega, hMl, Hb.out, HB.out, Hsd.out, Hnx.out, Hyes.out⟩
       case measure => simp [intOf]; omega
    obtain ⟨z, hz⟩ : ∃ e, ar[j]? = some e := ⟨_, List.getElem?_eq_getElem hjl⟩
    obtain ⟨row, hrow⟩ : ∃ e, nr[j]? = some e := ⟨_, List.getElem?_eq_getElem (by omega)⟩
    obtain ⟨rb', ro, rfl⟩ := nest_some (f := D.bool) ra (by omega)
    obtain ⟨vb, vo, rfl⟩ := nest_some (f := intsD) rb (by omega)
    obtain ⟨-, z0⟩ := bool_in ra hz
    obtain ⟨-, sr, cr, r0, rr⟩ := nest_sl (g := D.int) rb hrow
    obtain ⟨rr1, rr2⟩ := nest_bd rr
    unfold maxLen at rr2
    have hjb : (j : Int) < (ar.length : Int) := by omega
    have hjc : (j : Int) < (nr.length : Int) := by omega
    have Hsu := Lib.hid (lookTo_succ (L := M) hz hrow)
    have hzr := Lib.hid (Htg.out j row hrow)
    obtain ⟨y2, hy2⟩ : ∃ y2, y2 = (yb || z) := ⟨_, rfl⟩
    have HE : Hid (y2 = (lookTo ar nr M j || z || hitR (fun z => M.getD z false) (row.take 0))) := by show _ = _; rw [hitR_zero, hy2, HY.out]; simp
    have hsp : (yb = true ∧ y2 = true) ∨ (yb = false ∧ z = y2) := by
     cases yb
     ·
      exact Or.inr ⟨rfl, by rw [hy2]; simp⟩
     ·
      exact Or.inl ⟨rfl, by rw [hy2]; simp⟩
    have Hsp := Lib.hid hsp
    clear hz hrow hy2 HY hsp
    rcases Hsp.out with ⟨rfl, rfl⟩ | ⟨rfl, rfl⟩
    all_goals
     clear Hsp
     go_wp2_with fail
     go_loop [6, 8] (fun y i => ∃ (k : Nat) (y3 : Bool), k ≤ row.length ∧ i = .int .i64 k ∧ y = .bool y3 ∧ Hid (y3 = (lookTo ar nr M j || z || hitR (fun z => M.getD z false) (row.take k)))) (fun _ i => row.length - (intOf i).toNat)
     case atStart => exact ⟨0, _, by omega, rfl, rfl, HE⟩
     case round =>
      clear HE
      obtain ⟨k, y3, hk, rfl, rfl, HE⟩ := hrel
      have hk0 := Int.natCast_nonneg k
      by_cases hkl : k < row.length
      rotate_left
      ·
       obtain rfl : k = row.length := by omega
       have HY3 : Hid (y3 = lookTo ar nr M (j + 1)) := by show _ = _; rw [Hsu.out, HE.out, List.take_length]
       clear HE Hsu
       go_wp2_with fail
       go_round
       case rel => exact ⟨j + 1, y3, by omega, by go_num, rfl, HY3⟩
       case measure => simp [intOf]; omega
      obtain ⟨q, hq⟩ : ∃ e, row[k]? = some e := ⟨_, List.getElem?_eq_getElem hkl⟩
      obtain ⟨tb, to', rfl⟩ := nest_some (f := D.int) rr (by omega)
      obtain ⟨-, q0⟩ := int_in rr hq
      have hkb : (k : Int) < (row.length : Int) := by omega
      have hql := hzr.out q (List.mem_of_getElem? hq)
      have Hs2 := Lib.hid (hitR_succ (P := fun z => M.getD z false) hq)
      have Hor := Lib.hid (fun x => or_step (x := x) HE.out)
      clear hq HE
      cases y3
      ·
       by_cases hneg : q < 0
       ·
        have hge : decide ((0 : Int) ≤ q) = false := by simp; omega
        have HE2 : Hid (false = (lookTo ar nr M j || z || hitR (fun z => M.getD z false) (row.take (k + 1)))) := by
         show _ = _
         have h := Hor.out (decide (0 ≤ q) && M.getD q.toNat false)
         rw [Hs2.out, ← h, hge]
         rfl
        clear Hor Hs2
        go_wp2_with fail
        go_round
        case rel => exact ⟨k + 1, false, by omega, by go_num, rfl, HE2⟩
        case measure => simp [intOf]; omega
       ·
        have hge : decide ((0 : Int) ≤ q) = true := by simp; omega
        obtain ⟨qn, rfl⟩ : ∃ qn : Nat, q = (qn : Int) := ⟨q.toNat, by omega⟩
        obtain ⟨v, hv⟩ : ∃ e, M[qn]? = some e := ⟨_, List.getElem?_eq_getElem (by omega)⟩
        have x0 := arr_cell Hb.out hv
        have HE2 : Hid (v = (lookTo ar nr M j || z || hitR (fun z => M.getD z false) (row.take (k + 1)))) := by
         show _ = _
         have h := Hor.out (decide ((0 : Int) ≤ (qn : Int)) && M.getD (qn : Int).toNat false)
         rw [Hs2.out, ← h, hge, Int.toNat_natCast, List.getD_eq_getElem?_getD, hv]
         simp
        have hqn := Int.natCast_nonneg qn
        clear Hor Hs2 hv
        go_wp2_with fail
        go_round
        case rel => exact ⟨k + 1, v, by omega, by go_num, rfl, HE2⟩
        case measure => simp [intOf]; omega
      ·
       have HE2 : Hid (true = (lookTo ar nr M j || z || hitR (fun z => M.getD z false) (row.take (k + 1)))) := by
        show _ = _
        have h := Hor.out (decide (0 ≤ q) && M.getD q.toNat false)
        rw [Hs2.out, ← h]
        simp
       clear Hor Hs2
       go_wp2_with fail
       go_round
       case rel => exact ⟨k + 1, true, by omega, by go_num, rfl, HE2⟩
       case measure => simp [intOf]; omega
end Go.Proofs.YtjlmdhoajfdkbaaGreatDoor

namespace Go.Proofs.YtjlmdhoajfdkbaaGreatDoor
set_option linter.unusedVariables false
set_option linter.unusedSimpArgs false
open Go.ChangeShapes Go.WideShapes Go.ChangeAt Go.RowKit Go.Deep
noncomputable def emptyE (t a : Int) (e : Ex) : Bool := if auC t a e = 0 then !liveB (auA t a e) (auX t a e) 0 else false
theorem autAt_box {w : World} {g T : Nat} {t a : Int} {ac : List (List Bool)} {nx : List (List (List Int))} {s u : Option Addr} {c d : Nat} (L : Blk w g T [.int .i64 t, .int .i64 a, .slice s ac.length c, .slice u nx.length d]) (h : Rds w (autD ac nx) [.slice s ac.length c, .slice u nx.length d]) : AutAt w g 0 t a ac nx s u c d :=
 L.autAt' (Rds.two h).1 (Rds.two h).2
set_option maxHeartbeats 4000000 in
theorem specIsEmptyExpr_i {t a k n : Int} {ks : List Ex} {s : Option Addr} {c : Nat} {w : World} (hr : Rd w (kidsD ks) (.slice s ks.length c)) (h1 : Ex.sizeL ks ≤ 1048576) :
  Calls Tryz.prog 40 #[.agg #[.int .i64 t, .int .i64 a], .agg #[.int .i64 k, .int .i64 n, .slice s ks.length c]] w fun e w' => e = .returned (.tuple #[.bool (emptyE t a (.mk k n ks)), .int .i64 (auC t a (.mk k n ks))]) ∧ Below w.heap.size w w' := by
 have Hsz : Hid (Ex.size (.mk k n ks) ≤ 1073741824) := by show _ ≤ _; rw [Ex.size_eq]; simp only [Ex.kids]; omega
 have H1 := Lib.hid h1
 cases hcb : (auC t a (.mk k n ks) != 0)
 rotate_left
 ·
  have HE : Hid (emptyE t a (.mk k n ks) = false) := by show _ = _; unfold emptyE; rw [if_neg (by simpa using hcb)]
  go_enter Tryz.func40, Tryz.ntmps40
  go_wp2_with fail
  have L := (Blk.new2 w 33 (.int .i64 t) (.int .i64 a)).alloc (.cells #[.int .i64 k, .int .i64 n, .slice s ks.length c] 30)
  have M := Blk.new3 (w.alloc (.cells #[.int .i64 t, .int .i64 a] 33)) 30 (.int .i64 k) (.int .i64 n) (.slice s ks.length c)
  simp at M
  have hB : Below w.heap.size w ((w.alloc (.cells #[.int .i64 t, .int .i64 a] 33)).alloc (.cells #[.int .i64 k, .int .i64 n, .slice s ks.length c] 30)) := by (repeat' first | exact Below.refl _ _ | assumption | apply Below.alloc | apply Below.drew | apply Below.setCell | omega | (simp; done) | (simp; omega))
  have hB0 := hB
  generalize ((w.alloc (.cells #[.int .i64 t, .int .i64 a] 33)).alloc (.cells #[.int .i64 k, .int .i64 n, .slice s ks.length c] 30)) = v0 at L M hB hB0 ⊢
  have l0 := L.c0
  have l1 := L.c1
  have m0 := M.c0
  have m1 := M.c1
  have m2 := M.c2
  have ltL := L.lt
  have ltM := M.lt
  go_wp2_with fail
  refine ((l03One_au (M.exAt (hr.below hB)) Hsz.out).mono fun _ _ h => h.no).mono ?_
  rintro x w1 ⟨t', a', s', u', l', c', m', d', rfl, hb⟩
  clear l0 l1 m0 m1 m2 ltL ltM
  replace hB := Below.on hB hb hB.size
  replace L := L.below hb
  replace M := M.below hb
  clear hb
  have szW1 := hB.size
  have l0 := L.c0
  have l1 := L.c1
  have m0 := M.c0
  have m1 := M.c1
  have m2 := M.c2
  have ltL := L.lt
  have ltM := M.lt
  go_wp2_with fail
  go_ret2
  exact ⟨ret_bi HE.out.symm rfl, by (repeat' first | exact Below.refl _ _ | assumption | apply Below.alloc | apply Below.drew | apply Below.setCell | omega | (simp; done) | (simp; omega))⟩
 ·
  skip
  have hc : auC t a (.mk k n ks) = 0 := by simpa using hcb
  obtain ⟨-, -, -, hok⟩ := au_ok hc
  have hlo := hok.lo
  have hhi := hok.hi
  have HE : Hid (emptyE t a (.mk k n ks) = !liveB (auA t a (.mk k n ks)) (auX t a (.mk k n ks)) 0) := by show _ = _; unfold emptyE; rw [if_pos hc]
  have HL := Lib.hid (far_live hok (s := 0) hlo)
  have Hok := Lib.hid hok
  have Hc := Lib.hid hc
  clear hcb hc hok
  go_enter Tryz.func40, Tryz.ntmps40
  go_wp2_with fail
  have L := (Blk.new2 w 33 (.int .i64 t) (.int .i64 a)).alloc (.cells #[.int .i64 k, .int .i64 n, .slice s ks.length c] 30)
  have M := Blk.new3 (w.alloc (.cells #[.int .i64 t, .int .i64 a] 33)) 30 (.int .i64 k) (.int .i64 n) (.slice s ks.length c)
  simp at M
  have hB : Below w.heap.size w ((w.alloc (.cells #[.int .i64 t, .int .i64 a] 33)).alloc (.cells #[.int .i64 k, .int .i64 n, .slice s ks.length c] 30)) := by (repeat' first | exact Below.refl _ _ | assumption | apply Below.alloc | apply Below.drew | apply Below.setCell | omega | (simp; done) | (simp; omega))
  have hB0 := hB
  generalize ((w.alloc (.cells #[.int .i64 t, .int .i64 a] 33)).alloc (.cells #[.int .i64 k, .int .i64 n, .slice s ks.length c] 30)) = v0 at L M hB hB0 ⊢
  have l0 := L.c0
  have l1 := L.c1
  have m0 := M.c0
  have m1 := M.c1
  have m2 := M.c2
  have ltL := L.lt
  have ltM := M.lt
  go_wp2_with fail
  refine ((l03One_au (M.exAt (hr.below hB)) Hsz.out).mono fun _ _ h => h.yes Hc.out).mono ?_
  rintro x w1 ⟨sb, cb, sd, cd, rfl, hf, hb⟩
  clear l0 l1 m0 m1 m2 ltL ltM
  replace hB := Below.on hB hb hB.size
  replace L := L.below hb
  replace M := M.below hb
  clear hb
  have szW1 := hB.size
  have l0 := L.c0
  have l1 := L.c1
  have m0 := M.c0
  have m1 := M.c1
  have m2 := M.c2
  have ltL := L.lt
  have ltM := M.lt
  go_wp2_with fail
  obtain ⟨w2, e2, A, hb2, hz2⟩ := box4 w1 75 (.int .i64 t) (.int .i64 a) (.slice sb (auA t a (.mk k n ks)).length cb) (.slice sd (auX t a (.mk k n ks)).length cd)
  rw [e2]
  have hB2 := hB.trans (hb2.mono hB.size)
  have hAt := autAt_box A (hf.rds.below hb2)
  clear e2 hf hb2 l0 l1 m0 m1 m2 ltL ltM L M A
  refine (l02Live_i hAt Hok.out).mono ?_
  rintro x w3 ⟨g, rfl, hfl, hb3⟩
  obtain ⟨hgl, q0⟩ := bool_in hfl.rd (liveL_at hlo)
  simp only [Nat.add_zero] at q0
  have HB3 := Lib.hid (hB2.trans (hb3.mono hB2.size))
  clear hfl hb3 hAt hB2
  go_wp2_with fail
  go_ret2
  exact ⟨ret_bi HE.out.symm Hc.out.symm, HB3.out⟩
set_option maxHeartbeats 4000000 in
theorem implIsEmptyExpr_i {t a k n : Int} {ks : List Ex} {s : Option Addr} {c : Nat} {w : World} (hr : Rd w (kidsD ks) (.slice s ks.length c)) (h1 : Ex.sizeL ks ≤ 1048576) :
  Calls Tryz.prog 41 #[.agg #[.int .i64 t, .int .i64 a], .agg #[.int .i64 k, .int .i64 n, .slice s ks.length c]] w fun e w' => e = .returned (.tuple #[.bool (emptyE t a (.mk k n ks)), .int .i64 (auC t a (.mk k n ks))]) ∧ Below w.heap.size w w' := by
 have Hsz : Hid (Ex.size (.mk k n ks) ≤ 1073741824) := by show _ ≤ _; rw [Ex.size_eq]; simp only [Ex.kids]; omega
 have H1 := Lib.hid h1
 cases hcb : (auC t a (.mk k n ks) != 0)
 rotate_left
 ·
  have HE : Hid (emptyE t a (.mk k n ks) = false) := by show _ = _; unfold emptyE; rw [if_neg (by simpa using hcb)]
  go_enter Tryz.func41, Tryz.ntmps41
  go_wp2_with fail
  have L := (Blk.new2 w 33 (.int .i64 t) (.int .i64 a)).alloc (.cells #[.int .i64 k, .int .i64 n, .slice s ks.length c] 30)
  have M := Blk.new3 (w.alloc (.cells #[.int .i64 t, .int .i64 a] 33)) 30 (.int .i64 k) (.int .i64 n) (.slice s ks.length c)
  simp at M
  have hB : Below w.heap.size w ((w.alloc (.cells #[.int .i64 t, .int .i64 a] 33)).alloc (.cells #[.int .i64 k, .int .i64 n, .slice s ks.length c] 30)) := by (repeat' first | exact Below.refl _ _ | assumption | apply Below.alloc | apply Below.drew | apply Below.setCell | omega | (simp; done) | (simp; omega))
  have hB0 := hB
  generalize ((w.alloc (.cells #[.int .i64 t, .int .i64 a] 33)).alloc (.cells #[.int .i64 k, .int .i64 n, .slice s ks.length c] 30)) = v0 at L M hB hB0 ⊢
  have l0 := L.c0
  have l1 := L.c1
  have m0 := M.c0
  have m1 := M.c1
  have m2 := M.c2
  have ltL := L.lt
  have ltM := M.lt
  go_wp2_with fail
  refine ((oneAutomaton_au (t := t) (a := a) (k := k) (n := n) (hr.below hB) H1.out).mono fun _ _ h => h.no).mono ?_
  rintro x w1 ⟨t', a', s', u', l', c', m', d', rfl, hb⟩
  clear l0 l1 m0 m1 m2 ltL ltM
  replace hB := Below.on hB hb hB.size
  replace L := L.below hb
  replace M := M.below hb
  clear hb
  have szW1 := hB.size
  have l0 := L.c0
  have l1 := L.c1
  have m0 := M.c0
  have m1 := M.c1
  have m2 := M.c2
  have ltL := L.lt
  have ltM := M.lt
  go_wp2_with fail
  go_ret2
  exact ⟨ret_bi HE.out.symm rfl, by (repeat' first | exact Below.refl _ _ | assumption | apply Below.alloc | apply Below.drew | apply Below.setCell | omega | (simp; done) | (simp; omega))⟩
 ·
  skip
  have hc : auC t a (.mk k n ks) = 0 := by simpa using hcb
  obtain ⟨-, -, -, hok⟩ := au_ok hc
  have hlo := hok.lo
  have hhi := hok.hi
  have HE : Hid (emptyE t a (.mk k n ks) = !liveB (auA t a (.mk k n ks)) (auX t a (.mk k n ks)) 0) := by show _ = _; unfold emptyE; rw [if_pos hc]
  have HL := Lib.hid (far_live hok (s := 0) hlo)
  have Hok := Lib.hid hok
  have Hc := Lib.hid hc
  clear hcb hc hok
  go_enter Tryz.func41, Tryz.ntmps41
  go_wp2_with fail
  have L := (Blk.new2 w 33 (.int .i64 t) (.int .i64 a)).alloc (.cells #[.int .i64 k, .int .i64 n, .slice s ks.length c] 30)
  have M := Blk.new3 (w.alloc (.cells #[.int .i64 t, .int .i64 a] 33)) 30 (.int .i64 k) (.int .i64 n) (.slice s ks.length c)
  simp at M
  have hB : Below w.heap.size w ((w.alloc (.cells #[.int .i64 t, .int .i64 a] 33)).alloc (.cells #[.int .i64 k, .int .i64 n, .slice s ks.length c] 30)) := by (repeat' first | exact Below.refl _ _ | assumption | apply Below.alloc | apply Below.drew | apply Below.setCell | omega | (simp; done) | (simp; omega))
  have hB0 := hB
  generalize ((w.alloc (.cells #[.int .i64 t, .int .i64 a] 33)).alloc (.cells #[.int .i64 k, .int .i64 n, .slice s ks.length c] 30)) = v0 at L M hB hB0 ⊢
  have l0 := L.c0
  have l1 := L.c1
  have m0 := M.c0
  have m1 := M.c1
  have m2 := M.c2
  have ltL := L.lt
  have ltM := M.lt
  go_wp2_with fail
  refine ((oneAutomaton_au (t := t) (a := a) (k := k) (n := n) (hr.below hB) H1.out).mono fun _ _ h => h.yes Hc.out).mono ?_
  rintro x w1 ⟨sb, cb, sd, cd, rfl, hf, hb⟩
  clear l0 l1 m0 m1 m2 ltL ltM
  replace hB := Below.on hB hb hB.size
  replace L := L.below hb
  replace M := M.below hb
  clear hb
  have szW1 := hB.size
  have l0 := L.c0
  have l1 := L.c1
  have m0 := M.c0
  have m1 := M.c1
  have m2 := M.c2
  have ltL := L.lt
  have ltM := M.lt
  go_wp2_with fail
  obtain ⟨w2, e2, A, hb2, hz2⟩ := box4 w1 75 (.int .i64 t) (.int .i64 a) (.slice sb (auA t a (.mk k n ks)).length cb) (.slice sd (auX t a (.mk k n ks)).length cd)
  rw [e2]
  have hB2 := hB.trans (hb2.mono hB.size)
  have hrd := hf.rds.below hb2
  clear e2 hf hb2 l0 l1 m0 m1 m2 ltL ltM L M A
  refine (alive_i (Rds.two hrd).1 (Rds.two hrd).2 Hok.out).mono ?_
  rintro x w3 ⟨g, rfl, hfl, hb3⟩
  obtain ⟨hgl, q0⟩ := int_in hfl.rd (farL_at hlo)
  simp only [Nat.add_zero] at q0
  obtain ⟨v, hv⟩ : ∃ v, farV (auA t a (.mk k n ks)) (auX t a (.mk k n ks)) ((auA t a (.mk k n ks)).length - 1) 0 = v := ⟨_, rfl⟩
  have hvb := farV_bd (ac := auA t a (.mk k n ks)) (nx := auX t a (.mk k n ks)) ((auA t a (.mk k n ks)).length - 1) 0
  rw [hv] at q0 HL hvb
  have HE2 : Hid (decide (v < 0) = emptyE t a (.mk k n ks)) := by
   show _ = _
   rw [HE.out, HL.out]
   by_cases h0 : v < 0
   ·
    simp [h0]
   ·
    have h1 : 0 ≤ v := by omega
    simp [h0, h1]
  have HB3 := Lib.hid (hB2.trans (hb3.mono hB2.size))
  clear hfl hb3 hrd hB2 hv HE HL
  go_wp2_with fail
  go_ret2
  exact ⟨ret_bi HE2.out Hc.out.symm, HB3.out⟩
end Go.Proofs.YtjlmdhoajfdkbaaGreatDoor
