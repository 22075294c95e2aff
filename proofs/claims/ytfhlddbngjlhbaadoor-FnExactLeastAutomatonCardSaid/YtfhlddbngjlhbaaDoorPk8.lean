/-
  Parts of a proof, joined: ValidI, Run, PrP, Shr, SortN, Map, Bun, InfoA, StS, MadP, BunP, MapL, MadO. No condition.
-/
import Derived.Lib.ItoaNum
import Derived.Lib.Bytealg
import Derived.Shelf.SlSortCmp.WholeK
import Derived.Maps.OwnOps
import Derived.DeepKeys4
import Derived.Test.YtfhlddbngjlhbaaDoorPk7
namespace Go.Proofs.YtfhlddbngjlhbaaDoor
set_option linter.unusedVariables false
set_option linter.unusedSimpArgs false
open Go.ChangeShapes Go.WideShapes Go.ChangeAt Go.RowKit Go.Sort
theorem AutAt.box {t a : Int} {ac : List (List Bool)} {nx : List (List (List Int))} {s u : Option Addr} {c d : Nat} {w : World} (hr : Rd w (bbD ac) (.slice s ac.length c)) (hq : Rd w (iiiD nx) (.slice u nx.length d)) (T : TypeId) :
  AutAt (w.alloc (.cells #[.int .i64 t, .int .i64 a, .slice s ac.length c, .slice u nx.length d] T)) w.heap.size 0 t a ac nx s u c d := by
 have L := Blk.new4 w T (.int .i64 t) (.int .i64 a) (.slice s ac.length c) (.slice u nx.length d)
 exact ⟨L.c0, L.c1, L.c2, L.c3, hr.alloc _, hq.alloc _⟩
set_option maxRecDepth 100000 in
set_option maxHeartbeats 16000000 in
theorem implValidAutomaton_i {t a : Int} {ac : List (List Bool)} {nx : List (List (List Int))} {s u : Option Addr} {c d : Nat} {w : World} (hr : Rd w (bbD ac) (.slice s ac.length c)) (hq : Rd w (iiiD nx) (.slice u nx.length d)) :
  Calls Tryd.prog 18 #[.agg #[.int .i64 t, .int .i64 a, .slice s ac.length c, .slice u nx.length d]] w fun e w' => e = .returned (.bool (autB t a ac nx)) ∧ Below w.heap.size w w' := by
 obtain ⟨hlen, hcap⟩ := nest_bd hr
 obtain ⟨hlen', hcap'⟩ := nest_bd hq
 unfold maxLen at hcap hcap'
 go_enter Tryd.func18, Tryd.ntmps18
 go_wp2_with fail
 have h := AutAt.box (t := t) (a := a) hr hq 31
 have hB0 : Below w.heap.size w (w.alloc (.cells #[.int .i64 t, .int .i64 a, .slice s ac.length c, .slice u nx.length d] 31)) := by (repeat' first | exact Below.refl _ _ | assumption | apply Below.alloc | apply Below.drew | apply Below.setCell | omega | (simp; done) | (simp; omega))
 have hz : w.heap.size ≤ (w.alloc (.cells #[.int .i64 t, .int .i64 a, .slice s ac.length c, .slice u nx.length d] 31)).heap.size := by simp
 generalize w.alloc (.cells #[.int .i64 t, .int .i64 a, .slice s ac.length c, .slice u nx.length d] 31) = w0 at h hB0 hz ⊢
 have g4 := h.2.2.2.2.1
 have g5 := h.2.2.2.2.2
 have hbl := h.lt
 have Hh := Lib.hid h
 have HB0 := Lib.hid hB0
 have HZ := Lib.hid hz
 clear hr hq hB0 hz h
 refine (implValidSig_any t a _).mono ?_
 rintro e w1 ⟨rfl, hB⟩
 have hBw := Lib.hid (HB0.out.trans (hB.mono HZ.out))
 have HB := Lib.hid hB
 clear hB
 cases hs : sigB t a
 ·
  have C1 := Lib.hid (show autB t a ac nx = false from autB_no fun q => by rw [q.sig] at hs; cases hs)
  clear hs
  obtain ⟨c0, c1', c2', c3', -, -⟩ := Hh.out.below HB.out
  simp only [Nat.zero_add] at c1' c2' c3'
  go_wp2_with fail
  go_ret
  exact ⟨ret_bool (by rw [C1.out]), hBw.out⟩
 have Hs := Lib.hid hs
 clear hs
 by_cases hn1 : 1 ≤ ac.length
 rotate_left
 ·
  have C1 := Lib.hid (show autB t a ac nx = false from autB_no fun q => hn1 q.lo)
  obtain ⟨c0, c1', c2', c3', -, -⟩ := Hh.out.below HB.out
  simp only [Nat.zero_add] at c1' c2' c3'
  go_wp2_with fail
  go_ret
  exact ⟨ret_bool (by rw [C1.out]), hBw.out⟩
 by_cases hn2 : ac.length ≤ 60
 rotate_left
 ·
  have C1 := Lib.hid (show autB t a ac nx = false from autB_no fun q => hn2 q.hi)
  obtain ⟨c0, c1', c2', c3', -, -⟩ := Hh.out.below HB.out
  simp only [Nat.zero_add] at c1' c2' c3'
  go_wp2_with fail
  go_ret
  exact ⟨ret_bool (by rw [C1.out]), hBw.out⟩
 by_cases hl : nx.length = ac.length
 rotate_left
 ·
  have C1 := Lib.hid (show autB t a ac nx = false from autB_no fun q => hl q.len)
  have c2 : ((nx.length : Int) != (ac.length : Int)) = true := by simp; omega
  clear hl
  obtain ⟨c0, c1', c2', c3', -, -⟩ := Hh.out.below HB.out
  simp only [Nat.zero_add] at c1' c2' c3'
  go_wp2_with fail
  go_ret
  exact ⟨ret_bool (by rw [C1.out]), hBw.out⟩
 have c2 : ((nx.length : Int) != (ac.length : Int)) = false := by simp [hl]
 have Hl := Lib.hid hl
 have hl1 : nx.length ≤ ac.length := by omega
 have hl2 : ac.length ≤ nx.length := by omega
 clear hl
 obtain ⟨ht0, ht1, ha0, ha1⟩ := sigB_bd Hs.out
 have hat := atomsN_bd t
 obtain ⟨sb, so, rfl⟩ := nest_some (f := boolsD) g4 (by omega)
 obtain ⟨ub, uo, rfl⟩ := nest_some (f := iiD) g5 (by omega)
 obtain ⟨c0, c1', c2', c3', -, -⟩ := Hh.out.below HB.out
 simp only [Nat.zero_add] at c1' c2' c3'
 go_wp2_with fail
 clear c2 c0 c1' c2' c3'
 go_loopw [32] (fun i wr => ∃ k : Nat, k ≤ ac.length ∧ i = .int .i64 k ∧ StsOk t a ac nx k ∧ Below w0.heap.size w0 wr) (fun i _ => ac.length - (intOf i).toNat)
 case atStart => exact ⟨0, by omega, rfl, StsOk.zero, HB.out⟩
 case round =>
  clear HB hBw
  obtain ⟨k, hk, rfl, hst, hB⟩ := hrel
  have szB := hB.size
  have Hst := Lib.hid hst
  have HB := Lib.hid hB
  clear hst hB
  by_cases hlt : k < ac.length
  rotate_left
  ·
   have C1 := Lib.hid (show autB t a ac nx = true from autB_yes ⟨Hs.out, hn1, hn2, Hl.out, fun i ar nr h1 h2 => Hst.out i ar nr (by have := (List.getElem?_eq_some_iff.1 h1).1; omega) h1 h2⟩)
   have hBw := Lib.hid (HB0.out.trans (HB.out.mono HZ.out))
   go_wp2_with fail
   go_ret
   exact ⟨ret_bool (by rw [C1.out]), hBw.out⟩
  obtain ⟨ar, har⟩ : ∃ e, ac[k]? = some e := ⟨_, List.getElem?_eq_getElem hlt⟩
  obtain ⟨nr, hnr⟩ : ∃ e, nx[k]? = some e := ⟨_, List.getElem?_eq_getElem (by omega)⟩
  obtain ⟨hsl, sa, ca, a0, ra⟩ := nest_sl (g := D.bool) g4 har
  obtain ⟨hul, sn, cn, b0, rb⟩ := nest_sl (g := intsD) g5 hnr
  obtain ⟨ra1, ra2⟩ := nest_bd ra
  obtain ⟨rb1, rb2⟩ := nest_bd rb
  unfold maxLen at ra2 rb2
  have A0 := Lib.hid a0
  have B0 := Lib.hid b0
  have Har := Lib.hid har
  have Hnr := Lib.hid hnr
  have hkz := Int.natCast_nonneg k
  have hkb : (k : Int) < (ac.length : Int) := by omega
  have hkc : (k : Int) < (nx.length : Int) := by omega
  clear a0 b0 har hnr
  by_cases hA : (ar.length : Int) = atomsN t
  rotate_left
  ·
   have C1 := Lib.hid (show autB t a ac nx = false from autB_no fun q => hA (q.st k ar nr Har.out Hnr.out).1)
   have bA : ((ar.length : Int) != atomsN t) = true := by simp [hA]
   clear hA
   obtain ⟨c0, c1', c2', c3', -, -⟩ := Hh.out.below HB.out
   simp only [Nat.zero_add] at c1' c2' c3'
   have a0 := (HB.out.cell (p := ⟨sb, so + k, none⟩) hsl).trans A0.out
   have b0 := (HB.out.cell (p := ⟨ub, uo + k, none⟩) hul).trans B0.out
   have gc0 := fun d os => cell_regrown c0 d os
   have gc1 := fun d os => cell_regrown c1' d os
   have gc2 := fun d os => cell_regrown c2' d os
   have gc3 := fun d os => cell_regrown c3' d os
   have ga0 := fun d os => cell_regrown a0 d os
   have gb0 := fun d os => cell_regrown b0 d os
   go_wp2_with fail
   refine Go.wp_region_quiet_below (by kernel_rfl) (by kernel_rfl) ?_
   repeat (first | go_big_quiet_step ((exact Calls.regrown_of (atomsIn_i ht0 ht1))) | quiet_step ((exact Calls.regrown_of (atomsIn_i ht0 ht1))))
   refine wpQuiet_nil ?_; intro _ hw'; obtain ⟨⟨dq, osq⟩, hw''⟩ := hw'; subst hw''; have hq := below_regrown wr dq osq; revert hq; generalize grow (redrawn wr dq) osq = w2; intro hq
   have HB2 := Lib.hid (show Below w0.heap.size w0 w2 from Below.on HB.out hq HB.out.size)
   have hBw := Lib.hid (HB0.out.trans (HB2.out.mono HZ.out))
   clear hq c0 c1' c2' c3' a0 b0 gc0 gc1 gc2 gc3 ga0 gb0
   go_wp2_with fail
   go_ret
   exact ⟨ret_bool (by rw [C1.out]), hBw.out⟩
  have bA : ((ar.length : Int) != atomsN t) = false := by simp [hA]
  have HA := Lib.hid hA
  clear hA
  by_cases hN : (nr.length : Int) = atomsN t
  rotate_left
  ·
   have C1 := Lib.hid (show autB t a ac nx = false from autB_no fun q => hN (q.st k ar nr Har.out Hnr.out).2.1)
   have bN : ((nr.length : Int) != atomsN t) = true := by simp [hN]
   clear hN
   obtain ⟨c0, c1', c2', c3', -, -⟩ := Hh.out.below HB.out
   simp only [Nat.zero_add] at c1' c2' c3'
   have a0 := (HB.out.cell (p := ⟨sb, so + k, none⟩) hsl).trans A0.out
   have b0 := (HB.out.cell (p := ⟨ub, uo + k, none⟩) hul).trans B0.out
   have gc0 := fun d os => cell_regrown c0 d os
   have gc1 := fun d os => cell_regrown c1' d os
   have gc2 := fun d os => cell_regrown c2' d os
   have gc3 := fun d os => cell_regrown c3' d os
   have ga0 := fun d os => cell_regrown a0 d os
   have gb0 := fun d os => cell_regrown b0 d os
   go_wp2_with fail
   refine Go.wp_region_quiet_below (by kernel_rfl) (by kernel_rfl) ?_
   repeat (first | go_big_quiet_step ((exact Calls.regrown_of (atomsIn_i ht0 ht1))) | quiet_step ((exact Calls.regrown_of (atomsIn_i ht0 ht1))))
   refine wpQuiet_nil ?_; intro _ hw'; obtain ⟨⟨dq, osq⟩, hw''⟩ := hw'; subst hw''; have hq := below_regrown wr dq osq; revert hq; generalize grow (redrawn wr dq) osq = w2; intro hq
   have HB2 := Lib.hid (show Below w0.heap.size w0 w2 from Below.on HB.out hq HB.out.size)
   have hBw := Lib.hid (HB0.out.trans (HB2.out.mono HZ.out))
   clear hq c0 c1' c2' c3' a0 b0 gc0 gc1 gc2 gc3 ga0 gb0
   go_wp2_with fail
   go_ret
   exact ⟨ret_bool (by rw [C1.out]), hBw.out⟩
  have bN : ((nr.length : Int) != atomsN t) = false := by simp [hN]
  have HN := Lib.hid hN
  clear hN
  obtain ⟨c0, c1', c2', c3', -, -⟩ := Hh.out.below HB.out
  simp only [Nat.zero_add] at c1' c2' c3'
  have a0 := (HB.out.cell (p := ⟨sb, so + k, none⟩) hsl).trans A0.out
  have b0 := (HB.out.cell (p := ⟨ub, uo + k, none⟩) hul).trans B0.out
  have gc0 := fun d os => cell_regrown c0 d os
  have gc1 := fun d os => cell_regrown c1' d os
  have gc2 := fun d os => cell_regrown c2' d os
  have gc3 := fun d os => cell_regrown c3' d os
  have ga0 := fun d os => cell_regrown a0 d os
  have gb0 := fun d os => cell_regrown b0 d os
  go_wp2_with fail
  refine Go.wp_region_quiet_below (by kernel_rfl) (by kernel_rfl) ?_
  repeat (first | go_big_quiet_step ((exact Calls.regrown_of (atomsIn_i ht0 ht1))) | quiet_step ((exact Calls.regrown_of (atomsIn_i ht0 ht1))))
  refine wpQuiet_nil ?_; intro _ hw'; obtain ⟨⟨dq, osq⟩, hw''⟩ := hw'; subst hw''; have hq := below_regrown wr dq osq; revert hq; generalize grow (redrawn wr dq) osq = w2; intro hq
  have HB2 := Lib.hid (show Below w0.heap.size w0 w2 from Below.on HB.out hq HB.out.size)
  have hBw := Lib.hid (HB0.out.trans (HB2.out.mono HZ.out))
  clear hq c0 c1' c2' c3' a0 b0 gc0 gc1 gc2 gc3 ga0 gb0
  clear bA bN HB hBw
  have HB := HB2
  clear HB2
  have hnp : 0 < nr.length := by have := HN.out; omega
  obtain ⟨vb, vo, rfl⟩ := nest_some (f := intsD) rb hnp
  have q1 : IntKind.i64.wrap ((ac.length : Int) - 1) = ac.length - 1 := wrap_of (by omega) (by omega)
  obtain ⟨c0, c1', c2', c3', -, -⟩ := Hh.out.below HB.out
  simp only [Nat.zero_add] at c1' c2' c3'
  have b0 := (HB.out.cell (p := ⟨ub, uo + k, none⟩) hul).trans B0.out
  go_wp2_with fail
  clear c0 c1' c2' c3' b0
  go_loopw [63] (fun i wr => ∃ j : Nat, j ≤ nr.length ∧ i = .int .i64 j ∧ RowsOk a ac.length nr j ∧ Below w0.heap.size w0 wr) (fun i _ => nr.length - (intOf i).toNat)
  case atStart => exact ⟨0, by omega, rfl, RowsOk.zero, HB.out⟩
  case round =>
   clear HB
   obtain ⟨j, hj, rfl, hro, hB⟩ := hrel
   have szB := hB.size
   have Hro := Lib.hid hro
   have HB := Lib.hid hB
   clear hro hB
   by_cases hjl : j < nr.length
   rotate_left
   ·
    have Hs' := Lib.hid (Hst.out.succ Har.out Hnr.out ⟨HA.out, HN.out, fun i row h => Hro.out i row (by have := (List.getElem?_eq_some_iff.1 h).1; omega) h⟩)
    go_wp2_with fail
    go_roundw
    case rel => exact ⟨k + 1, by omega, by go_num, Hs'.out, HB.out⟩
    case measure => simp [intOf]; omega
   obtain ⟨row, hrow⟩ : ∃ e, nr[j]? = some e := ⟨_, List.getElem?_eq_getElem hjl⟩
   obtain ⟨hvl, sr, cr, r0, rr⟩ := nest_sl (g := D.int) rb hrow
   obtain ⟨rr1, rr2⟩ := nest_bd rr
   unfold maxLen at rr2
   replace r0 := (HB.out.cell (p := ⟨vb, vo + j, none⟩) hvl).trans r0
   have Hrow := Lib.hid hrow
   have hjz := Int.natCast_nonneg j
   have hjb : (j : Int) < (nr.length : Int) := by omega
   clear hrow
   by_cases hA2 : (row.length : Int) = a
   rotate_left
   ·
    have C1 := Lib.hid (show autB t a ac nx = false from autB_no fun q => hA2 ((q.st k ar nr Har.out Hnr.out).2.2 j row Hrow.out).1)
    have bA : ((row.length : Int) != a) = true := by simp [hA2]
    have hBw := Lib.hid (HB0.out.trans (HB.out.mono HZ.out))
    clear hA2
    obtain ⟨c0, c1', c2', c3', -, -⟩ := Hh.out.below HB.out
    simp only [Nat.zero_add] at c1' c2' c3'
    go_wp2_with fail
    go_ret
    exact ⟨ret_bool (by rw [C1.out]), hBw.out⟩
   have bA : ((row.length : Int) != a) = false := by simp [hA2]
   have HA2 := Lib.hid hA2
   clear hA2
   obtain ⟨c0, c1', c2', c3', -, -⟩ := Hh.out.below HB.out
   simp only [Nat.zero_add] at c1' c2' c3'
   go_wp2_with fail
   clear bA r0 c0 c1' c2' c3'
   go_loopw [75] (fun i wr => ∃ l : Nat, l ≤ row.length ∧ i = .int .i64 l ∧ CellsOk ac.length row l ∧ Below w0.heap.size w0 wr) (fun i _ => row.length - (intOf i).toNat)
   case atStart => exact ⟨0, by omega, rfl, CellsOk.zero, HB.out⟩
   case round =>
    clear HB
    obtain ⟨l, hl, rfl, hce, hB⟩ := hrel
    have szB := hB.size
    have Hce := Lib.hid hce
    have HB := Lib.hid hB
    clear hce hB
    have hlz := Int.natCast_nonneg l
    by_cases hll : l < row.length
    rotate_left
    ·
     have Hs' := Lib.hid (Hro.out.succ Hrow.out ⟨HA2.out, fun i z h => Hce.out i z (by have := (List.getElem?_eq_some_iff.1 h).1; omega) h⟩)
     go_wp2_with fail
     go_roundw
     case rel => exact ⟨j + 1, by omega, by go_num, Hs'.out, HB.out⟩
     case measure => simp [intOf]; omega
    have hlb : (l : Int) < (row.length : Int) := by omega
    obtain ⟨z, hz⟩ : ∃ e, row[l]? = some e := ⟨_, List.getElem?_eq_getElem hll⟩
    obtain ⟨tb, to', rfl⟩ := nest_some (f := D.int) rr (by omega)
    obtain ⟨-, z0⟩ := int_in (rr.below HB.out) hz
    have Hz := Lib.hid hz
    clear hz
    go_wp2_with fail
    refine (within_any _ _ _ _).mono ?_
    rintro e w' ⟨rfl, rfl⟩
    cases hin : inB z (-1) (ac.length - 1)
    ·
     have C1 := Lib.hid (show autB t a ac nx = false from autB_no fun q => by
      have h1 := ((q.st k ar nr Har.out Hnr.out).2.2 j row Hrow.out).2 l z Hz.out
      have h2 : inB z (-1) (ac.length - 1) = true := by simp only [inB, Bool.and_eq_true, decide_eq_true_eq]; exact h1
      rw [h2] at hin
      cases hin)
     have hBw := Lib.hid (HB0.out.trans (HB.out.mono HZ.out))
     clear hin
     go_wp2_with fail
     go_ret
     exact ⟨ret_bool (by rw [C1.out]), hBw.out⟩
    ·
     have Hs' := Lib.hid (Hce.out.succ Hz.out hin)
     clear hin
     go_wp2_with fail
     go_roundw
     case rel => exact ⟨l + 1, by omega, by go_num, Hs'.out, HB.out⟩
     case measure => simp [intOf]; omega
end Go.Proofs.YtfhlddbngjlhbaaDoor

namespace Go.Proofs.YtfhlddbngjlhbaaDoor
set_option linter.unusedVariables false
set_option linter.unusedSimpArgs false
open Go.ChangeShapes Go.WideShapes Go.ChangeAt Go.RowKit Go.Sort
def stepN (nx : List (List (List Int))) (s x y : Nat) : Int := ((nx.getD s []).getD x []).getD y (-1)
theorem AutOk.next {t a : Int} {ac : List (List Bool)} {nx : List (List (List Int))} (h : AutOk t a ac nx) {s x y : Nat} (hs : s < ac.length) (hx : (x : Int) < atomsN t) (hy : (y : Int) < a) :
  ∃ nr row z, nx[s]? = some nr ∧ nr[x]? = some row ∧ row[y]? = some z ∧ -1 ≤ z ∧ z ≤ (ac.length : Int) - 1 ∧ stepN nx s x y = z := by
 obtain ⟨ar, har⟩ : ∃ e, ac[s]? = some e := ⟨_, List.getElem?_eq_getElem hs⟩
 obtain ⟨nr, hnr⟩ : ∃ e, nx[s]? = some e := ⟨_, List.getElem?_eq_getElem (by rw [h.len]; exact hs)⟩
 obtain ⟨_, h2, h3⟩ := h.st s ar nr har hnr
 obtain ⟨row, hrow⟩ : ∃ e, nr[x]? = some e := ⟨_, List.getElem?_eq_getElem (by omega)⟩
 obtain ⟨h4, h5⟩ := h3 x row hrow
 obtain ⟨z, hz⟩ : ∃ e, row[y]? = some e := ⟨_, List.getElem?_eq_getElem (by omega)⟩
 obtain ⟨h6, h7⟩ := h5 y z hz
 refine ⟨nr, row, z, hnr, hrow, hz, h6, h7, ?_⟩
 unfold stepN
 rw [List.getD_eq_getElem?_getD, List.getD_eq_getElem?_getD, List.getD_eq_getElem?_getD, hnr]
 simp [hrow, hz]
end Go.Proofs.YtfhlddbngjlhbaaDoor

namespace Go.Proofs.YtfhlddbngjlhbaaDoor
set_option linter.unusedVariables false
set_option linter.unusedSimpArgs false
open Go.ChangeShapes Go.WideShapes Go.ChangeAt Go.RowKit Go.Deep
def goN (nx : List (List (List Int))) (s : Int) (m k : Nat) : Int := if s < 0 then -1 else stepN nx s.toNat m k
def hasN (ac : List (List Bool)) (s : Int) (m : Nat) : Bool := decide (0 ≤ s) && (ac.getD s.toNat []).getD m false
section
variable {nx ny : List (List (List Int))} {A a i : Nat} {x : Int × Int} {m k : Nat}
end
theorem goN_bd {t a : Int} {ac : List (List Bool)} {nx : List (List (List Int))} (h : AutOk t a ac nx) {s : Int} {m k : Nat} (h1 : s < ac.length) (hm : (m : Int) < atomsN t) (hk : (k : Int) < a) : -1 ≤ goN nx s m k ∧ goN nx s m k < ac.length := by
 unfold goN
 split
 ·
  exact ⟨by omega, by have := h.lo; omega⟩
 ·
  obtain ⟨nr, row, z, -, -, -, h3, h4, h5⟩ := h.next (s := s.toNat) (x := m) (y := k) (by omega) hm hk
  rw [h5]
  exact ⟨h3, by omega⟩
section
variable {t a : Int} {ac bc : List (List Bool)} {nx ny : List (List (List Int))}
end
end Go.Proofs.YtfhlddbngjlhbaaDoor

namespace Go.Proofs.YtfhlddbngjlhbaaDoor
set_option linter.unusedVariables false
set_option linter.unusedSimpArgs false
open Go.ChangeShapes Go.WideShapes Go.ChangeAt Go.RowKit Go.Deep Go.Sort
structure Sh where
 e : Ex
 s : Option Addr
 c : Nat
end Go.Proofs.YtfhlddbngjlhbaaDoor

namespace Go.Proofs.YtfhlddbngjlhbaaDoor
set_option linter.unusedVariables false
set_option linter.unusedSimpArgs false
open Go.ChangeShapes Go.WideShapes Go.ChangeAt Go.RowKit Go.Deep Go.Sort
instance shInh : Inhabited Sh := ⟨⟨.mk 0 0 [], none, 0⟩⟩
end Go.Proofs.YtfhlddbngjlhbaaDoor

namespace Go.Proofs.YtfhlddbngjlhbaaDoor
set_option linter.unusedVariables false
set_option linter.unusedSimpArgs false
open Go.ChangeShapes Go.WideShapes Go.ChangeAt Go.RowKit Go.Deep Go.ChangeMaps Go.MapKept
open Go.Maps (Keyed)
section
variable {κ ν : Type} [DecidableEq κ]
def findM : List (κ × ν) → κ → Option ν
 | [], _ => none
 | p :: r, k => if p.1 = k then some p.2 else findM r k
def putM : List (κ × ν) → κ → ν → List (κ × ν)
 | [], k, v => [(k, v)]
 | p :: r, k, v => if p.1 = k then (k, v) :: r else p :: putM r k v
theorem findM_putM (k : κ) (v : ν) (k' : κ) : ∀ L : List (κ × ν), findM (putM L k v) k' = if k = k' then some v else findM L k'
 | [] => by simp [putM, findM]
 | p :: r => by
  have ih := findM_putM k v k' r
  unfold putM
  split
  ·
   rename_i h
   simp only [findM]
   by_cases hk : k = k'
   ·
    simp [hk]
   ·
    rw [if_neg hk, if_neg hk, if_neg (by rw [h]; exact hk)]
  ·
   rename_i h
   simp only [findM, ih]
   by_cases hk : k = k'
   ·
    subst hk
    simp [h]
   ·
    simp [hk]
theorem findM_none {k : κ} : ∀ {L : List (κ × ν)}, findM L k = none ↔ ∀ p ∈ L, p.1 ≠ k
 | [] => by simp [findM]
 | p :: r => by
  simp only [findM, List.mem_cons]
  by_cases h : p.1 = k
  ·
   simp [h]
  ·
   rw [if_neg h, findM_none]
   constructor
   ·
    rintro h1 q (rfl | hq)
    ·
     exact h
    ·
     exact h1 q hq
   ·
    exact fun h1 q hq => h1 q (Or.inr hq)
theorem findM_at {k : κ} {v : ν} : ∀ {L : List (κ × ν)} {j : Nat}, (L.map (·.1)).Nodup → L[j]? = some (k, v) → findM L k = some v
 | [], _, _, h => by simp at h
 | p :: r, 0, _, h => by
  simp at h
  subst h
  simp [findM]
 | p :: r, j + 1, hn, h => by
  simp only [List.map_cons, List.nodup_cons] at hn
  have hr : r[j]? = some (k, v) := by simpa using h
  have hne : p.1 ≠ k := fun e => hn.1 (by rw [e]; exact List.mem_map.2 ⟨(k, v), List.mem_of_getElem? hr, rfl⟩)
  simp only [findM]
  rw [if_neg hne]
  exact findM_at hn.2 hr
theorem findM_mem {k : κ} {v : ν} : ∀ {L : List (κ × ν)}, findM L k = some v → (k, v) ∈ L
 | [], h => by simp [findM] at h
 | p :: r, h => by
  simp only [findM] at h
  split at h
  ·
   rename_i hk
   simp only [Option.some.injEq] at h
   subst h
   exact List.mem_cons.2 (Or.inl (by rw [← hk]))
  ·
   exact List.mem_cons_of_mem _ (findM_mem h)
theorem putM_new {k : κ} {v : ν} : ∀ {L : List (κ × ν)}, findM L k = none → putM L k v = L ++ [(k, v)]
 | [], _ => rfl
 | p :: r, h => by
  simp only [findM] at h
  split at h
  ·
   cases h
  ·
   rename_i hk
   unfold putM
   rw [if_neg hk, putM_new h]
   rfl
theorem putM_set {k : κ} {v : ν} : ∀ {L : List (κ × ν)} {j : Nat} {u : ν}, (L.map (·.1)).Nodup → L[j]? = some (k, u) → putM L k v = L.set j (k, v)
 | [], _, _, _, h => by simp at h
 | p :: r, 0, _, _, h => by
  simp at h
  subst h
  simp [putM]
 | p :: r, j + 1, u, hn, h => by
  simp only [List.map_cons, List.nodup_cons] at hn
  have hr : r[j]? = some (k, u) := by simpa using h
  have hne : p.1 ≠ k := fun e => hn.1 (by rw [e]; exact List.mem_map.2 ⟨(k, u), List.mem_of_getElem? hr, rfl⟩)
  unfold putM
  rw [if_neg hne, putM_set hn.2 hr]
  rfl
theorem putM_nodup {k : κ} {v : ν} {L : List (κ × ν)} (hn : (L.map (·.1)).Nodup) : ((putM L k v).map (·.1)).Nodup := by
 cases h : findM L k with
 | none =>
  rw [putM_new h, List.map_append, List.nodup_append]
  refine ⟨hn, by simp, ?_⟩
  intro a ha b hb hab
  simp only [List.map_cons, List.map_nil, List.mem_singleton] at hb
  obtain ⟨p, hp, rfl⟩ := List.mem_map.1 ha
  exact findM_none.1 h p hp (by rw [hab, hb])
 | some u =>
  obtain ⟨j, hj⟩ := List.mem_iff_getElem?.1 (findM_mem h)
  rw [putM_set hn hj]
  have : (L.set j (k, v)).map (·.1) = L.map (·.1) := by
   rw [List.map_set]
   apply List.ext_getElem?
   intro i
   by_cases hij : j = i
   ·
    subst hij
    obtain ⟨h1, h2⟩ := List.getElem?_eq_some_iff.1 hj
    rw [List.getElem?_set_self (by simpa using h1), List.getElem?_map, hj]
    rfl
   ·
    rw [List.getElem?_set_ne hij]
  rw [this]
  exact hn
theorem putM_keys {k : κ} {v : ν} {L : List (κ × ν)} {q : κ} (h : q ∈ (putM L k v).map (·.1)) : q = k ∨ q ∈ L.map (·.1) := by
 induction L with
 | nil => simp [putM] at h; exact Or.inl h
 | cons p r ih =>
  unfold putM at h
  split at h
  ·
   simp only [List.map_cons, List.mem_cons] at h ⊢
   rcases h with h | h
   ·
    exact Or.inl h
   ·
    exact Or.inr (Or.inr h)
  ·
   simp only [List.map_cons, List.mem_cons] at h ⊢
   rcases h with h | h
   ·
    exact Or.inr (Or.inl h)
   ·
    rcases ih h with h | h
    ·
     exact Or.inl h
    ·
     exact Or.inr (Or.inr h)
def MapAt (P : Program) (kt : TypeId) (kf : κ → Value) (vf : ν → Value) (w : World) (b : Nat) (L : List (κ × ν)) : Prop :=
 ∃ es clock, w.heap[b]? = some (.map es clock) ∧ es.toList.map (fun e => (e.key, e.val)) = L.map (fun p => (kf p.1, vf p.2)) ∧ (L.map (·.1)).Nodup ∧ ∀ p ∈ L, ∃ l, keyOf P kt (kf p.1) = some l
variable {P : Program} {kt : TypeId} {kf : κ → Value} {vf : ν → Value} {w : World} {b : Nat} {L : List (κ × ν)}
omit [DecidableEq κ] in
theorem MapAt.made (w : World) : MapAt P kt kf vf (w.alloc (.map #[] 0)) w.heap.size ([] : List (κ × ν)) := ⟨#[], 0, (MapKept.heap_alloc w _).1, by simp, by simp, by simp⟩
omit [DecidableEq κ] in
theorem MapAt.lt (h : MapAt P kt kf vf w b L) : b < w.heap.size := by
 obtain ⟨es, clock, hb, _⟩ := h
 exact (Array.getElem?_eq_some_iff.1 hb).1
omit [DecidableEq κ] in
theorem MapAt.keep {w' : World} (h : MapAt P kt kf vf w b L) (hk : w'.heap[b]? = w.heap[b]?) : MapAt P kt kf vf w' b L := by
 obtain ⟨es, clock, hb, h2⟩ := h
 exact ⟨es, clock, hk.trans hb, h2⟩
omit [DecidableEq κ] in
theorem MapAt.below {w' : World} (h : MapAt P kt kf vf w b L) (hb : Below w.heap.size w w') : MapAt P kt kf vf w' b L := h.keep (hb.block _ h.lt)
omit [DecidableEq κ] in
theorem MapAt.nodup (h : MapAt P kt kf vf w b L) : (L.map (·.1)).Nodup := by
 obtain ⟨_, _, _, _, h, _⟩ := h
 exact h
theorem MapAt.find (h : MapAt P kt kf vf w b L) (K : Keyed P kt) (hinj : ∀ x y, kf x = kf y → x = y) {k : κ} (hk : ∃ l, keyOf P kt (kf k) = some l) : ∃ es clock, w.heap[b]? = some (.map es clock) ∧ es.toList.map (fun e => (e.key, e.val)) = L.map (fun p => (kf p.1, vf p.2)) ∧
  (((Instr.findKey kt (kf k) es.toList).run P w = .ok none w ∧ findM L k = none) ∨ ∃ j e v, (Instr.findKey kt (kf k) es.toList).run P w = .ok (some (j, e.val)) w ∧ es.toList[j]? = some e ∧ e.key = kf k ∧ e.val = vf v ∧ L[j]? = some (k, v) ∧ findM L k = some v) := by
 obtain ⟨es, clock, hb, he, hn, hl⟩ := h
 obtain ⟨l, hkl⟩ := hk
 refine ⟨es, clock, hb, he, ?_⟩
 have pair : ∀ (j : Nat) (e : MapEntry), es.toList[j]? = some e → ∃ p, L[j]? = some p ∧ e.key = kf p.1 ∧ e.val = vf p.2 := by
  intro j e h1
  have h2 : (es.toList.map (fun e => (e.key, e.val)))[j]? = some (e.key, e.val) := by rw [List.getElem?_map, h1]; rfl
  rw [he, List.getElem?_map, Option.map_eq_some_iff] at h2
  obtain ⟨p, h3, h4⟩ := h2
  simp only [Prod.mk.injEq] at h4
  exact ⟨p, h3, h4.1.symm, h4.2.symm⟩
 have pair' : ∀ p ∈ L, ∃ e ∈ es.toList, e.key = kf p.1 := by
  intro p hp
  have h2 : (kf p.1, vf p.2) ∈ L.map (fun p => (kf p.1, vf p.2)) := List.mem_map.2 ⟨p, hp, rfl⟩
  rw [← he] at h2
  obtain ⟨e, h3, h4⟩ := List.mem_map.1 h2
  simp only [Prod.mk.injEq] at h4
  exact ⟨e, h3, h4.1⟩
 rcases K.find w hkl es.toList (fun e he' => by
  obtain ⟨j, hj⟩ := List.mem_iff_getElem?.1 he'
  obtain ⟨p, h1, h2, _⟩ := pair j e hj
  rw [h2]
  exact hl p (List.mem_of_getElem? h1)) with ⟨h1, h2⟩ | ⟨j, e, h1, h2, h3⟩
 ·
  refine Or.inl ⟨h1, findM_none.2 fun p hp hpk => ?_⟩
  obtain ⟨e, h3, h4⟩ := pair' p hp
  exact h2 e h3 (by rw [h4, hpk])
 ·
  obtain ⟨p, h4, h5, h6⟩ := pair j e h2
  have hpk : p.1 = k := hinj _ _ (h5.symm.trans h3)
  have h7 : L[j]? = some (k, p.2) := by rw [h4, ← hpk]
  exact Or.inr ⟨j, e, p.2, h1, h2, h3, h6, h7, findM_at hn h7⟩
def lookV (c : Bool) (z : Value) (vf : ν → Value) : Option ν → Value
 | none => if c then .tuple #[z, .bool false] else z
 | some v => if c then .tuple #[vf v, .bool true] else vf v
theorem MapAt.lookup (h : MapAt P kt kf vf w b L) (c : Bool) (K : Keyed P kt) (hinj : ∀ x y, kf x = kf y → x = y) {t e : TypeId} (ht : P.underlying t = some (.map kt e)) {z : Value} (hz : (zeroValue e).run P w = .ok z w) {k : κ} (hk : ∃ l, keyOf P kt (kf k) = some l) :
  (Instr.lookup t (.map (some b)) (kf k) c).run P w = .ok (lookV c z vf (findM L k)) w := by
 obtain ⟨l, hkl⟩ := hk
 obtain ⟨es, clock, hb, he, h | ⟨j, e, v, h1, h2, h3, h4, _, h5⟩⟩ := h.find K hinj ⟨l, hkl⟩
 ·
  rw [h.2]
  simp [lookV, Instr.lookup, run_underlying ht, MapKept.run_getObj_map hb, K.check w _ hkl, h.1, hz, Result.andThen]
 ·
  rw [h5]
  simp [lookV, Instr.lookup, run_underlying ht, MapKept.run_getObj_map hb, K.check w _ hkl, h1, h4, Result.andThen]
theorem MapAt.update (h : MapAt P kt kf vf w b L) (K : Keyed P kt) (hinj : ∀ x y, kf x = kf y → x = y) {t e : TypeId} (ht : P.underlying t = some (.map kt e)) {k : κ} (hk : ∃ l, keyOf P kt (kf k) = some l) (v : ν) :
  ∃ w', (Instr.mapUpdate t (.map (some b)) (kf k) (vf v)).run P w = .ok () w' ∧ MapAt P kt kf vf w' b (putM L k v) ∧ Only [b] w w' := by
 obtain ⟨l, hkl⟩ := hk
 have hn := h.nodup
 have hl : ∀ p ∈ L, ∃ l, keyOf P kt (kf p.1) = some l := by obtain ⟨_, _, _, _, _, h⟩ := h; exact h
 have hl' : ∀ p ∈ putM L k v, ∃ l, keyOf P kt (kf p.1) = some l := by
  intro p hp
  rcases putM_keys (List.mem_map.2 ⟨p, hp, rfl⟩) with h | h
  ·
   rw [h]; exact ⟨l, hkl⟩
  ·
   obtain ⟨q, hq, he⟩ := List.mem_map.1 h
   rw [← he]
   exact hl q hq
 obtain ⟨es, clock, hb, he, h | ⟨j, e, u, h1, h2, h3, h4, h6, h5⟩⟩ := h.find K hinj ⟨l, hkl⟩
 ·
  refine ⟨setBlock w b (.map (es.push ⟨kf k, vf v, clock⟩) (clock + 1)), ?_, ⟨_, _, heap_setBlock_same hb _, ?_, putM_nodup hn, hl'⟩, ⟨rfl, rfl, rfl, by simp [setBlock], fun i _ hi => heap_setBlock_other hb _ (by simpa using hi)⟩⟩
  ·
   simp [Instr.mapUpdate, run_underlying ht, MapKept.run_getObj_map hb, K.check w false hkl, h.1, MapKept.run_setObj_map _ hb, Result.andThen, setBlock]
  ·
   rw [putM_new h.2, Array.toList_push, List.map_append, List.map_append, he]
   rfl
 ·
  have hj : es[j]? = some e := by rw [← Array.getElem?_toList]; exact h2
  refine ⟨setBlock w b (.map (es.modify j fun e => { e with key := kf k, val := vf v }) clock), ?_, ⟨_, _, heap_setBlock_same hb _, ?_, putM_nodup hn, hl'⟩, ⟨rfl, rfl, rfl, by simp [setBlock], fun i _ hi => heap_setBlock_other hb _ (by simpa using hi)⟩⟩
  ·
   simp [Instr.mapUpdate, run_underlying ht, MapKept.run_getObj_map hb, K.check w false hkl, h1, MapKept.run_setObj_map _ hb, Result.andThen, setBlock, hj, h3, K.stays w hkl]
  ·
   rw [putM_set hn h6, List.map_set, ← he, Array.toList_modify]
   apply List.ext_getElem?
   intro i
   rw [List.getElem?_map, List.getElem?_modify]
   by_cases hij : j = i
   ·
    subst hij
    rw [List.getElem?_set_self (by have := (List.getElem?_eq_some_iff.1 h2).1; simpa using this)]
    simp [hj]
   ·
    rw [List.getElem?_set_ne hij, List.getElem?_map]
    simp [hij]
theorem wpList_lookup_at (w : World) {ops : Array Oper} {rest : List Oper} {o : Oper} {a : Act} {Q : Exit → Act → World → Prop} (hg : o.guard = none) (m x : Operand) (t : TypeId) (c : Bool) (hop : o.op = Op.lookup t m x c)
  (kt e : TypeId) (K : Keyed P kt) (ht : P.underlying t = some (.map kt e)) (z : Value) (hz : (zeroValue e).run P w = .ok z w) {kf : κ → Value} (hinj : ∀ x y, kf x = kf y → x = y) {vf : ν → Value} {L : List (κ × ν)} (b : Nat)
  (hM : MapAt P kt kf vf w b L) (k : κ) (hk : ∃ l, keyOf P kt (kf k) = some l) (hm : a.eval m = .map (some b)) (hx : a.eval x = kf k) (r : Option ν) (hr : findM L k = r)
  (hK : wpList P ops Q rest (a.put o.dst (lookV c z vf r)) w) : wpList P ops Q (o :: rest) a w := by
 subst hr
 refine wpList_plain hg fun K' hK' => ?_
 have hrun := hM.lookup c K hinj ht hz hk
 unfold Oper.wp
 simp [execOp, hop, hm, hx, hrun, Result.andThen]
 exact hK' _ _ hK
theorem wpList_mapUpdate_at (w : World) {ops : Array Oper} {rest : List Oper} {o : Oper} {a : Act} {Q : Exit → Act → World → Prop} (hg : o.guard = none) (m x y : Operand) (t : TypeId) (hop : o.op = Op.mapUpdate t m x y)
  (kt e : TypeId) (K : Keyed P kt) (ht : P.underlying t = some (.map kt e)) {kf : κ → Value} (hinj : ∀ x y, kf x = kf y → x = y) {vf : ν → Value} {L : List (κ × ν)} (b : Nat)
  (hM : MapAt P kt kf vf w b L) (k : κ) (hk : ∃ l, keyOf P kt (kf k) = some l) (v : ν) (hm : a.eval m = .map (some b)) (hx : a.eval x = kf k) (hy : a.eval y = vf v)
  (hK : ∀ w', MapAt P kt kf vf w' b (putM L k v) → Only [b] w w' → wpList P ops Q rest (a.put o.dst undef) w') : wpList P ops Q (o :: rest) a w := by
 refine wpList_plain hg fun K' hK' => ?_
 obtain ⟨w', hrun, r1, r2⟩ := hM.update K hinj ht hk v
 unfold Oper.wp
 simp [execOp, hop, hm, hx, hy, hrun, Result.andThen]
 exact hK' _ _ (hK w' r1 r2)
end
end Go.Proofs.YtfhlddbngjlhbaaDoor

namespace Go.Proofs.YtfhlddbngjlhbaaDoor
set_option linter.unusedVariables false
set_option linter.unusedSimpArgs false
open Go.ChangeShapes Go.WideShapes Go.ChangeAt Go.RowKit Go.Deep
inductive Item where
 | app (t : TypeId) (size n : Nat) (ds : List D) (v : Value)
 | box (g t : Nat) (cur : List Value)
 | one (g : Nat) (P : World → Prop)
 | own (ds : List D) (vs : List Value)
 | pool (w0 : World) (E : List (D × Value))
 | gone
def Item.on (S : Nat → Prop) (w : World) : Item → Prop
 | .app t size n ds v => AppS S w t size n ds v
 | .box g t cur => S g ∧ Blk w g t cur
 | .one g P => S g ∧ g < w.heap.size ∧ ∀ w', w'.heap[g]? = w.heap[g]? → P w'
 | .own ds vs => OwS S w ds vs
 | .pool w0 E => ∀ w', w.heap.size ≤ w'.heap.size → (∀ b, b < w0.heap.size → w'.heap[b]? = w0.heap[b]?) → (∀ b, b < w.heap.size → S b → w'.heap[b]? = w.heap[b]?) → ∀ x ∈ E, Rd w' x.1 x.2
 | .gone => True
theorem Item.keep {S : Nat → Prop} {w w' : World} (hz : w.heap.size ≤ w'.heap.size) : ∀ {it : Item}, it.on S w → (∀ b, b < w.heap.size → S b → w'.heap[b]? = w.heap[b]?) → it.on S w'
 | .app .., h, hk => AppS.keep h hk
 | .box .., h, hk => ⟨h.1, h.2.keep (hk _ h.2.lt h.1)⟩
 | .one g P, h, hk => by
  have e := hk g h.2.1 h.1
  refine ⟨h.1, ?_, fun w1 h1 => h.2.2 w1 (h1.trans e)⟩
  have hs : (w.heap[g]?).isSome = true := by simp [h.2.1]
  rw [← e] at hs
  simpa using hs
 | .own .., h, hk => OwS.keep h hk
 | .pool .., h, hk => fun w2 h1 h2 h3 => h w2 (Nat.le_trans hz h1) h2 fun b hb hs => (h3 b (Nat.lt_of_lt_of_le hb hz) hs).trans (hk b hb hs)
 | .gone, _, _ => trivial
theorem Item.more {S T : Nat → Prop} {w : World} : ∀ {it : Item}, it.on S w → (∀ b, b < w.heap.size → S b → T b) → it.on T w
 | .app .., h, hs => AppS.more h hs
 | .box .., h, hs => ⟨hs _ h.2.lt h.1, h.2⟩
 | .one .., h, hs => ⟨hs _ h.2.1 h.1, h.2⟩
 | .own .., h, hs => OwS.more h hs
 | .pool .., h, hs => fun w2 h1 h2 h3 => h w2 h1 h2 fun b hb hS => h3 b hb (hs b hb hS)
 | .gone, _, _ => trivial
def Bun (B : Nat) (w : World) (items : List Item) : Prop := ∃ own : Nat → Nat, ∀ (i : Nat) (it : Item), items[i]? = some it → it.on (fun b => B ≤ b ∧ b < w.heap.size ∧ own b = i) w
theorem Bun.nil {B : Nat} {w : World} : Bun B w [] := ⟨fun _ => 0, fun i it h => by simp at h⟩
theorem set_none {items : List Item} : items.set items.length .gone = items := List.set_eq_of_length_le (Nat.le_refl _)
theorem bun_turn {B : Nat} {w w' : World} {items : List Item} {own : Nat → Nat} (h : ∀ (i : Nat) (it : Item), items[i]? = some it → it.on (fun b => B ≤ b ∧ b < w.heap.size ∧ own b = i) w) (hz : w.heap.size ≤ w'.heap.size) (k j : Nat) {it' : Item}
  (ho : ∀ b, b < w.heap.size → own b ≠ k → own b ≠ j → w'.heap[b]? = w.heap[b]?) (hn : it'.on (fun b => B ≤ b ∧ b < w'.heap.size ∧ (w.heap.size ≤ b ∨ own b = k ∨ own b = j)) w') :
  Bun B w' ((items.set j .gone).set k it') := by
 refine ⟨fun b => if w.heap.size ≤ b ∨ own b = j then k else own b, fun i it hi => ?_⟩
 by_cases hik : k = i
 ·
  subst hik
  have hl : k < (items.set j .gone).length := by have := (List.getElem?_eq_some_iff.1 hi).1; simpa using this
  rw [List.getElem?_set_self hl] at hi
  obtain rfl := Option.some.inj hi
  refine Item.more hn fun b _ hb => ⟨hb.1, hb.2.1, ?_⟩
  by_cases hc : w.heap.size ≤ b ∨ own b = j
  ·
   dsimp only; rw [if_pos hc]
  ·
   dsimp only; rw [if_neg hc]
   omega
 ·
  rw [List.getElem?_set_ne hik] at hi
  by_cases hij : j = i
  ·
   subst hij
   have hl : j < items.length := by have := (List.getElem?_eq_some_iff.1 hi).1; simpa using this
   rw [List.getElem?_set_self hl] at hi
   obtain rfl := Option.some.inj hi
   trivial
  ·
   rw [List.getElem?_set_ne hij] at hi
   have h1 := Item.keep (w' := w') hz (h i it hi) fun b hb hs => ho b hb (by rw [hs.2.2]; omega) (by rw [hs.2.2]; omega)
   refine Item.more h1 fun b _ hb => ⟨hb.1, by omega, ?_⟩
   have : ¬ (w.heap.size ≤ b ∨ own b = j) := by omega
   dsimp only
   rw [if_neg this]
   exact hb.2.2
theorem Bun.keep {B : Nat} {w w' : World} {items : List Item} (h : Bun B w items) (hz : w.heap.size ≤ w'.heap.size) (hk : ∀ b, B ≤ b → b < w.heap.size → w'.heap[b]? = w.heap[b]?) : Bun B w' items := by
 obtain ⟨own, h⟩ := h
 refine ⟨fun b => if w.heap.size ≤ b then items.length else own b, fun i it hi => ?_⟩
 have hl := (List.getElem?_eq_some_iff.1 hi).1
 have h1 := Item.keep (w' := w') hz (h i it hi) fun b hb hs => hk b hs.1 hb
 refine Item.more h1 fun b _ hb => ⟨hb.1, by omega, ?_⟩
 dsimp only
 rw [if_neg (by omega)]
 exact hb.2.2
theorem Bun.below {B : Nat} {w w' : World} {items : List Item} (h : Bun B w items) (hb : Below w.heap.size w w') : Bun B w' items := h.keep hb.size fun b _ hl => hb.block b hl
theorem Bun.alloc {B : Nat} {w : World} {items : List Item} (h : Bun B w items) (o : Obj) : Bun B (w.alloc o) items := h.below (Below.alloc (Below.refl _ _) (Nat.le_refl _) o)
theorem Bun.push {B : Nat} {w w' : World} {items : List Item} {it : Item} (h : Bun B w items) (hb : Below w.heap.size w w') (hi : it.on (fun b => B ≤ b ∧ b < w'.heap.size ∧ w.heap.size ≤ b) w') : Bun B w' (items ++ [it]) := by
 have hz := hb.size
 obtain ⟨own, h⟩ := h
 refine ⟨fun b => if w.heap.size ≤ b then items.length else own b, fun i it' h' => ?_⟩
 by_cases hl : i < items.length
 ·
  rw [List.getElem?_append_left hl] at h'
  have h1 := Item.keep (w' := w') hz (h i it' h') fun b hb' _ => hb.block b hb'
  refine Item.more h1 fun b _ hb' => ⟨hb'.1, by omega, ?_⟩
  dsimp only
  rw [if_neg (by omega)]
  exact hb'.2.2
 ·
  have hi' := (List.getElem?_eq_some_iff.1 h').1
  simp only [List.length_append, List.length_cons, List.length_nil] at hi'
  obtain rfl : i = items.length := by omega
  simp only [List.getElem?_append_right (Nat.le_refl _), Nat.sub_self, List.getElem?_cons_zero, Option.some.injEq] at h'
  subst h'
  exact Item.more hi fun b _ hb' => ⟨hb'.1, hb'.2.1, by dsimp only; rw [if_pos hb'.2.2]⟩
theorem Bun.push_box {B : Nat} {w : World} {items : List Item} (h : Bun B w items) (hB : B ≤ w.heap.size) (t : TypeId) (cur : Array Value) : Bun B (w.alloc (.cells cur t)) (items ++ [.box w.heap.size t cur.toList]) :=
 h.push (Below.alloc (Below.refl _ _) (Nat.le_refl _) _) ⟨⟨hB, by simp, Nat.le_refl _⟩, Blk.made w t cur⟩
theorem Bun.push_empty {B : Nat} {w : World} {items : List Item} (h : Bun B w items) (hB : B ≤ w.heap.size) (t : TypeId) (size : Nat) : Bun B (w.alloc (.cells #[] t)) (items ++ [.app t size 0 [] (.slice (some ⟨w.heap.size, 0, none⟩) 0 0)]) :=
 h.push (Below.alloc (Below.refl _ _) (Nat.le_refl _) _) ⟨[], [], ⟨by simp, Or.inr ⟨w.heap.size, 0, #[], rfl, Nat.zero_le _, by simpa [Blk] using Blk.made w t #[], by omega, by simp [maxLen], by simp, by simp⟩⟩, Ows.nil, by simp, by simp, fun b hb => by
  simp only [Value.ownBlock, Option.some.injEq] at hb
  subst hb
  exact ⟨hB, by simp, Nat.le_refl _⟩⟩
theorem Bun.push_nil {B : Nat} {w : World} {items : List Item} (h : Bun B w items) (t : TypeId) (size : Nat) : Bun B w (items ++ [.app t size 0 [] (.slice none 0 0)]) :=
 h.push (Below.refl _ _) ⟨[], [], World.ownsRow_nil _ _ _ _, Ows.nil, by simp, by simp, fun b hb => by simp [Value.ownBlock] at hb⟩
theorem Bun.take {B : Nat} {w : World} {items : List Item} (h : Bun B w items) (n : Nat) : Bun B w (items.take n) := by
 obtain ⟨own, h⟩ := h
 refine ⟨own, fun i it hi => h i it ?_⟩
 rw [List.getElem?_take] at hi
 split at hi
 ·
  exact hi
 ·
  cases hi
theorem AppS.rd {S : Nat → Prop} {w : World} {t size n : Nat} {ds : List D} {v : Value} (h : AppS S w t size n ds v) : Rd w (.sl size n ds) v :=
 (AppS.app (W := { w with heap := #[] }) h fun b _ => Nat.zero_le _).rd
theorem Bun.app {B : Nat} {w : World} {items : List Item} (h : Bun B w items) (k : Nat) {t size n : Nat} {ds : List D} {v : Value} (hk : items[k]? = some (.app t size n ds v)) : ∃ own : Nat → Nat, AppS (fun b => B ≤ b ∧ b < w.heap.size ∧ own b = k) w t size n ds v := by
 obtain ⟨own, h⟩ := h
 exact ⟨own, h k _ hk⟩
theorem Bun.rd {B : Nat} {w : World} {items : List Item} (h : Bun B w items) (k : Nat) {t size n : Nat} {ds : List D} {v : Value} (hk : items[k]? = some (.app t size n ds v)) : Rd w (.sl size n ds) v := by
 obtain ⟨own, h1⟩ := h.app k hk
 exact h1.rd
theorem Bun.shape {B : Nat} {w : World} {items : List Item} (h : Bun B w items) (k : Nat) {t size n : Nat} {ds : List D} {v : Value} (hk : items[k]? = some (.app t size n ds v)) : ∃ a cap, v = .slice a n cap ∧ n ≤ cap ∧ cap ≤ maxLen := by
 obtain ⟨own, h1⟩ := h.app k hk
 exact h1.shape
theorem Bun.box {B : Nat} {w : World} {items : List Item} (h : Bun B w items) (k : Nat) {g t : Nat} {cur : List Value} (hk : items[k]? = some (.box g t cur)) : Blk w g t cur ∧ B ≤ g := by
 obtain ⟨own, h⟩ := h
 have := h k _ hk
 exact ⟨this.2, this.1.1⟩
theorem Bun.one {B : Nat} {w : World} {items : List Item} (h : Bun B w items) (k : Nat) {g : Nat} {P : World → Prop} (hk : items[k]? = some (.one g P)) : P w ∧ B ≤ g ∧ g < w.heap.size := by
 obtain ⟨own, h⟩ := h
 have := h k _ hk
 exact ⟨this.2.2 w rfl, this.1.1, this.2.1⟩
theorem AppS.foot {S : Nat → Prop} {w : World} {t size n : Nat} {ds : List D} {v : Value} (h1 : AppS S w t size n ds v) : ∃ F, Ow w (.sl size n ds) v F ∧ F.Nodup ∧ ∀ b ∈ F, S b := by
 have hlen := (AppS.app (W := { w with heap := #[] }) h1 fun b _ => Nat.zero_le _).len
 obtain ⟨xs, F, a1, a2, a3, a4, a5⟩ := h1
 have hxl := a1.1
 rcases a1.2 with ⟨rfl, rfl⟩ | ⟨g, cap, cur, rfl, hg, hb, h5, h6, h7, h8⟩
 ·
  exact ⟨[], by simp only [Ow]; exact ⟨_, 0, rfl, by omega, by simp [maxLen], hlen, by simp, Or.inl (by simp)⟩, by simp, by simp⟩
 ·
  by_cases h0 : n = 0
  ·
   exact ⟨[], by simp only [Ow]; exact ⟨_, cap, rfl, h5, h6, hlen, by simp, Or.inl (by simp [h0])⟩, by simp, by simp⟩
  ·
   have hblk : Blk w g t cur.toList := by simpa [Blk] using hb
   refine ⟨g :: F, by simp only [Ow]; exact ⟨_, cap, rfl, h5, h6, hlen, by simp, Or.inr ⟨g, 0, xs, F, rfl, rfl, hblk.free, hblk.row (by rw [hxl]; exact h8), a2⟩⟩, ?_, ?_⟩
   ·
    rw [List.nodup_cons]
    exact ⟨fun hm => (a4 g hm).2 rfl, a3⟩
   ·
    intro b hm
    rcases List.mem_cons.1 hm with rfl | hm
    ·
     exact a5 _ rfl
    ·
     exact (a4 b hm).1
theorem Bun.fresh2 {B : Nat} {W w : World} {items : List Item} (h : Bun B w items) (hB : W.heap.size ≤ B) (i k : Nat) (hne : i ≠ k) {t size n : Nat} {ds : List D} {v : Value} (hi : items[i]? = some (.app t size n ds v)) {t' size' n' : Nat} {ds' : List D} {v' : Value}
  (hk : items[k]? = some (.app t' size' n' ds' v')) : Freshs W w [.sl size n ds, .sl size' n' ds'] [v, v'] := by
 obtain ⟨own, h⟩ := h
 obtain ⟨F, f1, f2, f3⟩ := AppS.foot (h i _ hi)
 obtain ⟨G, g1, g2, g3⟩ := AppS.foot (h k _ hk)
 refine ⟨F ++ (G ++ []), Ows.cons f1 (Ows.cons g1 Ows.nil), ?_, ?_⟩
 ·
  rw [List.append_nil, List.nodup_append]
  refine ⟨f2, g2, fun p hp q hq hpq => ?_⟩
  have h1 := (f3 p hp).2.2
  have h2 := (g3 q hq).2.2
  rw [hpq] at h1
  omega
 ·
  intro b hb
  rw [List.append_nil] at hb
  rcases List.mem_append.1 hb with hb | hb
  ·
   have := (f3 b hb).1; omega
  ·
   have := (g3 b hb).1; omega
theorem Bun.store {B : Nat} {w : World} {items : List Item} (h : Bun B w items) (k : Nat) {g t : Nat} {cur : List Value} (hk : items[k]? = some (.box g t cur)) (i : Nat) (v : Value) : Bun B (w.setCell ⟨g, i, none⟩ v) (items.set k (.box g t (cur.set i v))) := by
 obtain ⟨own, h⟩ := h
 have hit := h k _ hk
 have hsz : (w.setCell ⟨g, i, none⟩ v).heap.size = w.heap.size := by simp [World.setCell]
 have := bun_turn (w' := w.setCell ⟨g, i, none⟩ v) h (by omega) k (items.length) (it' := .box g t (cur.set i v)) (fun b hb h1 _ => Below.heap_setCell _ _ _ _ (fun e => h1 (by rw [e]; exact hit.1.2.2)))
  ⟨⟨hit.1.1, by rw [hsz]; exact hit.1.2.1, Or.inr (Or.inl hit.1.2.2)⟩, hit.2.set i v⟩
 rwa [set_none] at this
theorem Bun.turn_one {B : Nat} {w w' : World} {items : List Item} (h : Bun B w items) (k : Nat) {g : Nat} {P Q : World → Prop} (hk : items[k]? = some (.one g P)) (ho : Only [g] w w') (hQ : ∀ w1, w1.heap[g]? = w'.heap[g]? → Q w1) : Bun B w' (items.set k (.one g Q)) := by
 obtain ⟨own, h⟩ := h
 have hit := h k _ hk
 have := bun_turn (w' := w') h ho.size k (items.length) (it' := .one g Q) (fun b hb h1 _ => ho.block b hb (by
   simp only [List.mem_singleton]
   intro e
   exact h1 (by rw [e]; exact hit.1.2.2)))
  ⟨⟨hit.1.1, Nat.lt_of_lt_of_le hit.1.2.1 ho.size, Or.inr (Or.inl hit.1.2.2)⟩, Nat.lt_of_lt_of_le hit.2.1 ho.size, hQ⟩
 rwa [set_none] at this
theorem wpList_append_bun {P : Program} (w : World) {ops : Array Oper} {rest : List Oper} {o : Oper} {a : Act} {Q : Exit → Act → World → Prop} (hgd : o.guard = none) (s x : Operand) (t : TypeId)
  (ho : o.op = .call { callee := .builtin .append, args := #[s, x], argTypes := #[t, t] })
  (e : TypeId) (z : Value) (size bytes : Nat) (ht : P.underlying t = some (.slice e)) (hinfo : (P.info? e).map (fun i => (i.zero, i.size, i.bytes)) = some (some z, size, bytes)) (hzs : z.cells.size = size) (hsz : 0 < size)
  {B : Nat} {items : List Item} (hb : Bun B w items) (hB : B ≤ w.heap.size) (k : Nat) (v : Value) {n : Nat} {ds : List D} (hk : items[k]? = some (.app e size n ds v)) (hs : a.eval s = v)
  (ad : Addr) (m c : Nat) {es : List D} (news : List Value) (hx : a.eval x = .slice (some ad) m c) (hnews : ∀ j u, news[j]? = some u → w.cell? (ad.add j) = some u) (hes : OwS (fun _ => False) w es news)
  (hl : news.length = m * size) (h1 : ∀ u ∈ news, u.oneCell' = true) (hm : 0 < m) (hbytes : (n + m) * bytes ≤ 140737488355328) (h63 : n + m ≤ maxLen)
  (h : ∀ g cap w', Bun B w' (items.set k (.app e size (n + m) (ds ++ es) (.slice (some ⟨g, 0, none⟩) (n + m) cap))) → Below B w w' → wpList P ops Q rest (a.put o.dst (.slice (some ⟨g, 0, none⟩) (n + m) cap)) w') : wpList P ops Q (o :: rest) a w := by
 obtain ⟨own, hb⟩ := hb
 refine wpList_append_s w hgd s x t ho e z size bytes ht hinfo hzs hsz (S := fun b => B ≤ b ∧ b < w.heap.size ∧ own b = k) (T := fun _ => False) v hs (hb k _ hk) ad m c news hx hnews hes (fun _ _ _ h => h) hl h1 hm hbytes h63 ?_
 intro g cap w' hap hsp
 refine h g cap w' ?_ (hsp.below hB fun b hb' => hb'.1)
 have := bun_turn (w' := w') hb hsp.size k (items.length) (it' := .app e size (n + m) (ds ++ es) (.slice (some ⟨g, 0, none⟩) (n + m) cap)) (fun b hb' h2 _ => hsp.block b hb' (fun h3 => h2 h3.2.2))
  (AppS.more hap fun b hb' hc => by
   have hz := hsp.size
   rcases hc with hc | hc | hc
   ·
    exact ⟨hc.1, hb', Or.inr (Or.inl hc.2.2)⟩
   ·
    exact hc.elim
   ·
    exact ⟨by omega, hb', Or.inl hc.1⟩)
 rwa [set_none] at this
theorem wpList_append_bun_own {P : Program} (w : World) {ops : Array Oper} {rest : List Oper} {o : Oper} {a : Act} {Q : Exit → Act → World → Prop} (hgd : o.guard = none) (s x : Operand) (t : TypeId)
  (ho : o.op = .call { callee := .builtin .append, args := #[s, x], argTypes := #[t, t] })
  (e : TypeId) (bytes : Nat) (ht : P.underlying t = some (.slice e)) (hinfo : (P.info? e).map (fun i => (i.zero, i.size, i.bytes)) = some (some (.slice none 0 0), 1, bytes))
  {B : Nat} {items : List Item} (hb : Bun B w items) (hB : B ≤ w.heap.size) (k : Nat) (v : Value) {n : Nat} {ds : List D} (hk : items[k]? = some (.app e 1 n ds v)) (hs : a.eval s = v)
  (j : Nat) (hjk : j ≠ k) (u : Value) {t' size' n' : Nat} {ds' : List D} (hj : items[j]? = some (.app t' size' n' ds' u))
  (ad : Addr) (hx : a.eval x = .slice (some ad) 1 1) (hnews : ∀ i q, [u][i]? = some q → w.cell? (ad.add i) = some q) (hbytes : (n + 1) * bytes ≤ 140737488355328) (h63 : n + 1 ≤ maxLen)
  (h : ∀ g cap w', Bun B w' ((items.set j .gone).set k (.app e 1 (n + 1) (ds ++ [.sl size' n' ds']) (.slice (some ⟨g, 0, none⟩) (n + 1) cap))) → Below B w w' → wpList P ops Q rest (a.put o.dst (.slice (some ⟨g, 0, none⟩) (n + 1) cap)) w') : wpList P ops Q (o :: rest) a w := by
 obtain ⟨own, hb⟩ := hb
 have hap' := hb j _ hj
 obtain ⟨a', cap', e1, _⟩ := hap'.shape
 subst e1
 have hows : OwS (fun b => B ≤ b ∧ b < w.heap.size ∧ own b = j) w [.sl size' n' ds'] [.slice a' n' cap'] := by
  obtain ⟨F, f1, f2, f3⟩ := AppS.foot hap'
  exact ⟨F ++ [], Ows.cons f1 Ows.nil, by simpa using f2, by simpa using f3⟩
 refine wpList_append_s w hgd s x t ho e (.slice none 0 0) 1 bytes ht hinfo rfl (by omega) (S := fun b => B ≤ b ∧ b < w.heap.size ∧ own b = k) (T := fun b => B ≤ b ∧ b < w.heap.size ∧ own b = j) v hs (hb k _ hk) ad 1 1 [.slice a' n' cap'] hx hnews hows (fun b _ h1 h2 => hjk (h2.2.2.symm.trans h1.2.2)) rfl (by simp [Value.oneCell']) (by omega) hbytes h63 ?_
 intro g cap w' hap hsp
 refine h g cap w' ?_ (hsp.below hB fun b hb' => hb'.1)
 exact bun_turn (w' := w') hb hsp.size k j (it' := .app e 1 (n + 1) (ds ++ [.sl size' n' ds']) (.slice (some ⟨g, 0, none⟩) (n + 1) cap)) (fun b hb' h2 _ => hsp.block b hb' (fun h3 => h2 h3.2.2))
  (AppS.more hap fun b hb' hc => by
   have hz := hsp.size
   rcases hc with hc | hc | hc
   ·
    exact ⟨hc.1, hb', Or.inr (Or.inl hc.2.2)⟩
   ·
    exact ⟨hc.1, hb', Or.inr (Or.inr hc.2.2)⟩
   ·
    exact ⟨by omega, hb', Or.inl hc.1⟩)
end Go.Proofs.YtfhlddbngjlhbaaDoor

namespace Go.Proofs.YtfhlddbngjlhbaaDoor
set_option linter.unusedVariables false
set_option linter.unusedSimpArgs false
open Go.ChangeShapes Go.WideShapes Go.ChangeAt Go.RowKit Go.Deep
theorem info_i64s : (Tryd.prog.info? 58).map (fun i => (i.zero, i.size, i.bytes)) = some (some (.slice none 0 0), 1, 24) := by kernel_rfl
theorem info_i64ss : (Tryd.prog.info? 54).map (fun i => (i.zero, i.size, i.bytes)) = some (some (.slice none 0 0), 1, 24) := by kernel_rfl
end Go.Proofs.YtfhlddbngjlhbaaDoor

namespace Go.Proofs.YtfhlddbngjlhbaaDoor
set_option linter.unusedVariables false
set_option linter.unusedSimpArgs false
open Go.ChangeShapes Go.WideShapes Go.ChangeAt Go.RowKit Go.Deep
theorem AppS.made {S : Nat → Prop} {w : World} {t size m : Nat} {es : List D} {news : List Value} (h : OwS S w es news) (hS : ∀ b, S b → b < w.heap.size) (hl : news.length = m * size) (hm : m ≤ maxLen) :
  AppS (fun b => S b ∨ b = w.heap.size) (w.alloc (.cells news.toArray t)) t size m es (.slice (some ⟨w.heap.size, 0, none⟩) m m) := by
 obtain ⟨F, h1, h2, h3⟩ := h
 have hb := Blk.made w t news.toArray
 refine ⟨news, F, ⟨hl, Or.inr ⟨w.heap.size, m, news.toArray, rfl, Nat.zero_le _, by simpa [Blk] using hb, Nat.le_refl _, hm, by simp [hl], ?_⟩⟩, h1.keep fun b hm => Below.heap_alloc w _ b (h1.lt b hm), h2, fun b hb' => ⟨Or.inl (h3 b hb'), ?_⟩, fun b hb' => ?_⟩
 ·
  rw [← hl]; simp
 ·
  have := hS b (h3 b hb')
  simp only [Value.ownBlock, ne_eq, Option.some.injEq]
  omega
 ·
  simp only [Value.ownBlock, Option.some.injEq] at hb'
  exact Or.inr hb'.symm
theorem none_own {w : World} {v : Int} : OwS (fun _ => False) w [D.int v] [.int .i64 v] := ⟨[], Ows.cons (F := []) (by simp [Ow]) Ows.nil, by simp, by simp⟩
end Go.Proofs.YtfhlddbngjlhbaaDoor

namespace Go.Proofs.YtfhlddbngjlhbaaDoor
set_option linter.unusedVariables false
set_option linter.unusedSimpArgs false
open Go.ChangeShapes Go.WideShapes Go.ChangeAt Go.RowKit Go.Deep
theorem box4 (w : World) (t : TypeId) (a b c d : Value) : ∃ w', w.alloc (.cells #[a, b, c, d] t) = w' ∧ Blk w' w.heap.size t [a, b, c, d] ∧ Below w.heap.size w w' ∧ w'.heap.size = w.heap.size + 1 :=
 ⟨_, rfl, Blk.new4 w t a b c d, Below.alloc (Below.refl _ _) (Nat.le_refl _) _, by simp⟩
theorem Blk.all4 {w : World} {g t : Nat} {a b c d : Value} (h : Blk w g t [a, b, c, d]) : w.cell? ⟨g, 0, none⟩ = some a ∧ w.cell? ⟨g, 1, none⟩ = some b ∧ w.cell? ⟨g, 2, none⟩ = some c ∧ w.cell? ⟨g, 3, none⟩ = some d ∧
  w.frozen? ⟨g, 0, none⟩ = false ∧ w.frozen? ⟨g, 1, none⟩ = false ∧ w.frozen? ⟨g, 2, none⟩ = false ∧ w.frozen? ⟨g, 3, none⟩ = false ∧ g < w.heap.size :=
 ⟨h.c0, h.c1, h.c2, h.c3, h.frozen 0, h.frozen 1, h.frozen 2, h.frozen 3, h.lt⟩
theorem set4 {w : World} {g t : Nat} {a b c d : Value} (h : Blk w g t [a, b, c, d]) (x y z u : Value) : ∃ w', (((w.setCell ⟨g, 0, none⟩ x).setCell ⟨g, 1, none⟩ y).setCell ⟨g, 2, none⟩ z).setCell ⟨g, 3, none⟩ u = w' ∧ Blk w' g t [x, y, z, u] ∧ Spares (fun i => i = g) w w' :=
 ⟨_, rfl, (((h.set 0 x).set 1 y).set 2 z).set 3 u, Spares.set (Spares.set (Spares.set (Spares.set (Spares.refl w))))⟩
end Go.Proofs.YtfhlddbngjlhbaaDoor

namespace Go.Proofs.YtfhlddbngjlhbaaDoor
set_option linter.unusedVariables false
set_option linter.unusedSimpArgs false
open Go.ChangeShapes Go.WideShapes Go.ChangeAt Go.RowKit Go.Deep Go.ChangeMaps Go.MapKept
open Go.Maps (Keyed)
section
variable {κ ν : Type} [DecidableEq κ] {P : Program} {kt : TypeId} {kf : κ → Value} {vf : ν → Value}
theorem wpList_insert_at (w : World) {ops : Array Oper} {rest : List Oper} {o : Oper} {a : Act} {Q : Exit → Act → World → Prop} (hg : o.guard = none) (m x y : Operand) (t : TypeId) (hop : o.op = Op.insert t m x y)
  (kt e : TypeId) (K : Keyed P kt) (ht : P.underlying t = some (.map kt e)) {kf : κ → Value} (hinj : ∀ x y, kf x = kf y → x = y) {vf : ν → Value} {L : List (κ × ν)} (b : Nat)
  (hM : MapAt P kt kf vf w b L) (k : κ) (hk : ∃ l, keyOf P kt (kf k) = some l) (v : ν) (hm : a.eval m = .map (some b)) (hx : a.eval x = kf k) (hy : a.eval y = vf v)
  (hK : ∀ w', MapAt P kt kf vf w' b (putM L k v) → Only [b] w w' → wpList P ops Q rest (a.put o.dst undef) w') : wpList P ops Q (o :: rest) a w := by
 refine wpList_plain hg fun K' hK' => ?_
 obtain ⟨w', hrun, r1, r2⟩ := hM.update K hinj ht hk v
 unfold Oper.wp
 simp [execOp, hop, hm, hx, hy, hrun, Result.andThen]
 exact hK' _ _ (hK w' r1 r2)
end
end Go.Proofs.YtfhlddbngjlhbaaDoor

namespace Go.Proofs.YtfhlddbngjlhbaaDoor
set_option linter.unusedVariables false
set_option linter.unusedSimpArgs false
open Go.ChangeShapes Go.WideShapes Go.ChangeAt Go.RowKit Go.Deep Go.ChangeMaps Go.MapKept
theorem Bun.push_one {B : Nat} {w w' : World} {items : List Item} (h : Bun B w items) (hB : B ≤ w.heap.size) (hb : Below w.heap.size w w') {P : World → Prop} (hg : w.heap.size < w'.heap.size) (hP : ∀ w1, w1.heap[w.heap.size]? = w'.heap[w.heap.size]? → P w1) : Bun B w' (items ++ [.one w.heap.size P]) :=
 h.push hb ⟨⟨hB, hg, Nat.le_refl _⟩, hg, hP⟩
end Go.Proofs.YtfhlddbngjlhbaaDoor

namespace Go.Proofs.YtfhlddbngjlhbaaDoor
set_option linter.unusedVariables false
set_option linter.unusedSimpArgs false
open Go.ChangeShapes Go.WideShapes Go.ChangeAt Go.RowKit Go.Deep
theorem accL_le {α : Type} {c : α → Nat} {k : Nat} : ∀ {xs : List α}, (∀ x ∈ xs, c x ≤ k) → accL c xs ≤ xs.length * k
 | [], _ => by simp [accL]
 | x :: r, h => by
  have h1 := accL_le (xs := r) fun y hy => h y (List.mem_cons_of_mem _ hy)
  have h2 := h x (List.mem_cons_self ..)
  simp only [accL, List.length_cons, Nat.succ_mul]
  omega
theorem nest_marks {α : Type} {f : α → D} (xs : List α) : (nestD f xs).marks = accL (fun x => (f x).marks) xs := by
 show D.marksL (xs.map f) = _
 exact marksL_map xs
theorem nest_marks_le {α : Type} {f : α → D} {xs : List α} {k n : Nat} (h : ∀ x ∈ xs, (f x).marks ≤ k) (hn : xs.length ≤ n) : (nestD f xs).marks ≤ n * k := by
 rw [nest_marks]
 exact Nat.le_trans (accL_le h) (Nat.mul_le_mul_right k hn)
end Go.Proofs.YtfhlddbngjlhbaaDoor
