/-
  Automata that are valid: impl.ValidAutomaton, spec.ValidAutomaton.
-/
import Derived.Test.YtahehcalmbmbpaaDoorValid
namespace Go.Proofs.YtahehcalmbmbpaaDoor
open Go.ChangeShapes Go.WideShapes Go.ChangeAt Go.RowKit Go.Sort

/-- An automaton in a box of its own. -/
theorem AutAt.box {t a : Int} {ac : List (List Bool)} {nx : List (List (List Int))} {s u : Option Addr} {c d : Nat} {w : World} (hr : Rd w (bbD ac) (.slice s ac.length c)) (hq : Rd w (iiiD nx) (.slice u nx.length d)) (T : TypeId) :
    AutAt (w.alloc (.cells #[.int .i64 t, .int .i64 a, .slice s ac.length c, .slice u nx.length d] T)) w.heap.size 0 t a ac nx s u c d := by
  have L := Blk.new4 w T (.int .i64 t) (.int .i64 a) (.slice s ac.length c) (.slice u nx.length d)
  exact ⟨L.c0, L.c1, L.c2, L.c3, hr.alloc _, hq.alloc _⟩

set_option maxRecDepth 100000 in
set_option maxHeartbeats 16000000 in
theorem implValidAutomaton_i {t a : Int} {ac : List (List Bool)} {nx : List (List (List Int))} {s u : Option Addr} {c d : Nat} {w : World} (hr : Rd w (bbD ac) (.slice s ac.length c)) (hq : Rd w (iiiD nx) (.slice u nx.length d)) :
    Calls Tryd.prog 47 #[.agg #[.int .i64 t, .int .i64 a, .slice s ac.length c, .slice u nx.length d]] w fun e w' => e = .returned (.bool (autB t a ac nx)) ∧ Below w.heap.size w w' := by
  obtain ⟨hlen, hcap⟩ := nest_bd hr
  obtain ⟨hlen', hcap'⟩ := nest_bd hq
  unfold maxLen at hcap hcap'
  go_enter Tryd.func47, Tryd.ntmps47
  go_wp2_with fail
  have h := AutAt.box (t := t) (a := a) hr hq 53
  have hB0 : Below w.heap.size w (w.alloc (.cells #[.int .i64 t, .int .i64 a, .slice s ac.length c, .slice u nx.length d] 53)) := by (repeat' (first | exact Below.refl _ _ | assumption | (refine Below.alloc ?_ (by first | omega | (simp; done) | (simp; omega)) _) | (refine Below.drew ?_) | (refine Below.setCell ?_ (by first | omega | (simp; done) | (simp; omega)) _)))
  have hz : w.heap.size ≤ (w.alloc (.cells #[.int .i64 t, .int .i64 a, .slice s ac.length c, .slice u nx.length d] 53)).heap.size := by simp
  generalize w.alloc (.cells #[.int .i64 t, .int .i64 a, .slice s ac.length c, .slice u nx.length d] 53) = w0 at h hB0 hz ⊢
  have g4 := h.2.2.2.2.1
  have g5 := h.2.2.2.2.2
  have hbl := h.lt
  have Hh := Lib.hid h
  have HB0 := Lib.hid hB0
  have HZ := Lib.hid hz
  clear hr hq hB0 hz h
  refine (implValidSig_any t a _).mono ?_
  rintro e w1 ⟨rfl, hB⟩
  have hBw := Lib.hid (HB0.out.trans (hB.mono HZ.out))
  have HB := Lib.hid hB
  clear hB
  cases hs : sigB t a
  · have C1 := Lib.hid (show autB t a ac nx = false from autB_no fun q => by rw [q.sig] at hs; cases hs)
    clear hs
    obtain ⟨c0, c1', c2', c3', -, -⟩ := Hh.out.below HB.out
    simp only [Nat.zero_add] at c1' c2' c3'
    go_wp2_with fail
    go_ret
    exact ⟨ret_bool (by rw [C1.out]), hBw.out⟩
  have Hs := Lib.hid hs
  clear hs
  by_cases hn1 : 1 ≤ ac.length
  rotate_left
  · have C1 := Lib.hid (show autB t a ac nx = false from autB_no fun q => hn1 q.lo)
    obtain ⟨c0, c1', c2', c3', -, -⟩ := Hh.out.below HB.out
    simp only [Nat.zero_add] at c1' c2' c3'
    go_wp2_with fail
    go_ret
    exact ⟨ret_bool (by rw [C1.out]), hBw.out⟩
  by_cases hn2 : ac.length ≤ 60
  rotate_left
  · have C1 := Lib.hid (show autB t a ac nx = false from autB_no fun q => hn2 q.hi)
    obtain ⟨c0, c1', c2', c3', -, -⟩ := Hh.out.below HB.out
    simp only [Nat.zero_add] at c1' c2' c3'
    go_wp2_with fail
    go_ret
    exact ⟨ret_bool (by rw [C1.out]), hBw.out⟩
  by_cases hl : nx.length = ac.length
  rotate_left
  · have C1 := Lib.hid (show autB t a ac nx = false from autB_no fun q => hl q.len)
    have c2 : ((nx.length : Int) != (ac.length : Int)) = true := by simp; omega
    clear hl
    obtain ⟨c0, c1', c2', c3', -, -⟩ := Hh.out.below HB.out
    simp only [Nat.zero_add] at c1' c2' c3'
    go_wp2_with fail
    go_ret
    exact ⟨ret_bool (by rw [C1.out]), hBw.out⟩
  have c2 : ((nx.length : Int) != (ac.length : Int)) = false := by simp [hl]
  have Hl := Lib.hid hl
  have hl1 : nx.length ≤ ac.length := by omega
  have hl2 : ac.length ≤ nx.length := by omega
  clear hl
  obtain ⟨ht0, ht1, ha0, ha1⟩ := sigB_bd Hs.out
  have hat := atomsN_bd t
  obtain ⟨sb, so, rfl⟩ := nest_some (f := boolsD) g4 (by omega)
  obtain ⟨ub, uo, rfl⟩ := nest_some (f := iiD) g5 (by omega)
  obtain ⟨c0, c1', c2', c3', -, -⟩ := Hh.out.below HB.out
  simp only [Nat.zero_add] at c1' c2' c3'
  go_wp2_with fail
  clear c2 c0 c1' c2' c3'
  go_loopw [32] (fun i wr => ∃ k : Nat, k ≤ ac.length ∧ i = .int .i64 k ∧ StsOk t a ac nx k ∧ Below w0.heap.size w0 wr) (fun i _ => ac.length - (intOf i).toNat)
  case atStart => exact ⟨0, by omega, rfl, StsOk.zero, HB.out⟩
  case round =>
    clear HB hBw
    obtain ⟨k, hk, rfl, hst, hB⟩ := hrel
    have szB := hB.size
    have Hst := Lib.hid hst
    have HB := Lib.hid hB
    clear hst hB
    by_cases hlt : k < ac.length
    rotate_left
    · have C1 := Lib.hid (show autB t a ac nx = true from autB_yes ⟨Hs.out, hn1, hn2, Hl.out, fun i ar nr h1 h2 => Hst.out i ar nr (by have := (List.getElem?_eq_some_iff.1 h1).1; omega) h1 h2⟩)
      have hBw := Lib.hid (HB0.out.trans (HB.out.mono HZ.out))
      go_wp2_with fail
      go_ret
      exact ⟨ret_bool (by rw [C1.out]), hBw.out⟩
    obtain ⟨ar, har⟩ : ∃ e, ac[k]? = some e := ⟨_, List.getElem?_eq_getElem hlt⟩
    obtain ⟨nr, hnr⟩ : ∃ e, nx[k]? = some e := ⟨_, List.getElem?_eq_getElem (by omega)⟩
    obtain ⟨hsl, sa, ca, a0, ra⟩ := nest_sl (g := D.bool) g4 har
    obtain ⟨hul, sn, cn, b0, rb⟩ := nest_sl (g := intsD) g5 hnr
    obtain ⟨ra1, ra2⟩ := nest_bd ra
    obtain ⟨rb1, rb2⟩ := nest_bd rb
    unfold maxLen at ra2 rb2
    have A0 := Lib.hid a0
    have B0 := Lib.hid b0
    have Har := Lib.hid har
    have Hnr := Lib.hid hnr
    have hkz := Int.natCast_nonneg k
    have hkb : (k : Int) < (ac.length : Int) := by omega
    have hkc : (k : Int) < (nx.length : Int) := by omega
    clear a0 b0 har hnr
    by_cases hA : (ar.length : Int) = atomsN t
    rotate_left
    · have C1 := Lib.hid (show autB t a ac nx = false from autB_no fun q => hA (q.st k ar nr Har.out Hnr.out).1)
      have bA : ((ar.length : Int) != atomsN t) = true := by simp [hA]
      clear hA
      obtain ⟨c0, c1', c2', c3', -, -⟩ := Hh.out.below HB.out
      simp only [Nat.zero_add] at c1' c2' c3'
      have a0 := (HB.out.cell (p := ⟨sb, so + k, none⟩) hsl).trans A0.out
      have b0 := (HB.out.cell (p := ⟨ub, uo + k, none⟩) hul).trans B0.out
      have gc0 := fun d os => cell_regrown c0 d os
      have gc1 := fun d os => cell_regrown c1' d os
      have gc2 := fun d os => cell_regrown c2' d os
      have gc3 := fun d os => cell_regrown c3' d os
      have ga0 := fun d os => cell_regrown a0 d os
      have gb0 := fun d os => cell_regrown b0 d os
      go_wp2_with fail
      refine Go.wp_region_quiet_below (by kernel_rfl) (by kernel_rfl) ?_
      repeat (first | go_big_quiet_step ((exact Calls.regrown_of (atomsIn_i ht0 ht1))) | quiet_step ((exact Calls.regrown_of (atomsIn_i ht0 ht1))))
      refine wpQuiet_nil ?_; intro _ hw'; obtain ⟨⟨dq, osq⟩, hw''⟩ := hw'; subst hw''; have hq := below_regrown wr dq osq; revert hq; generalize grow (redrawn wr dq) osq = w2; intro hq
      have HB2 := Lib.hid (show Below w0.heap.size w0 w2 from Below.on HB.out hq HB.out.size)
      have hBw := Lib.hid (HB0.out.trans (HB2.out.mono HZ.out))
      clear hq c0 c1' c2' c3' a0 b0 gc0 gc1 gc2 gc3 ga0 gb0
      go_wp2_with fail
      go_ret
      exact ⟨ret_bool (by rw [C1.out]), hBw.out⟩
    have bA : ((ar.length : Int) != atomsN t) = false := by simp [hA]
    have HA := Lib.hid hA
    clear hA
    by_cases hN : (nr.length : Int) = atomsN t
    rotate_left
    · have C1 := Lib.hid (show autB t a ac nx = false from autB_no fun q => hN (q.st k ar nr Har.out Hnr.out).2.1)
      have bN : ((nr.length : Int) != atomsN t) = true := by simp [hN]
      clear hN
      obtain ⟨c0, c1', c2', c3', -, -⟩ := Hh.out.below HB.out
      simp only [Nat.zero_add] at c1' c2' c3'
      have a0 := (HB.out.cell (p := ⟨sb, so + k, none⟩) hsl).trans A0.out
      have b0 := (HB.out.cell (p := ⟨ub, uo + k, none⟩) hul).trans B0.out
      have gc0 := fun d os => cell_regrown c0 d os
      have gc1 := fun d os => cell_regrown c1' d os
      have gc2 := fun d os => cell_regrown c2' d os
      have gc3 := fun d os => cell_regrown c3' d os
      have ga0 := fun d os => cell_regrown a0 d os
      have gb0 := fun d os => cell_regrown b0 d os
      go_wp2_with fail
      refine Go.wp_region_quiet_below (by kernel_rfl) (by kernel_rfl) ?_
      repeat (first | go_big_quiet_step ((exact Calls.regrown_of (atomsIn_i ht0 ht1))) | quiet_step ((exact Calls.regrown_of (atomsIn_i ht0 ht1))))
      refine wpQuiet_nil ?_; intro _ hw'; obtain ⟨⟨dq, osq⟩, hw''⟩ := hw'; subst hw''; have hq := below_regrown wr dq osq; revert hq; generalize grow (redrawn wr dq) osq = w2; intro hq
      have HB2 := Lib.hid (show Below w0.heap.size w0 w2 from Below.on HB.out hq HB.out.size)
      have hBw := Lib.hid (HB0.out.trans (HB2.out.mono HZ.out))
      clear hq c0 c1' c2' c3' a0 b0 gc0 gc1 gc2 gc3 ga0 gb0
      go_wp2_with fail
      go_ret
      exact ⟨ret_bool (by rw [C1.out]), hBw.out⟩
    have bN : ((nr.length : Int) != atomsN t) = false := by simp [hN]
    have HN := Lib.hid hN
    clear hN
    obtain ⟨c0, c1', c2', c3', -, -⟩ := Hh.out.below HB.out
    simp only [Nat.zero_add] at c1' c2' c3'
    have a0 := (HB.out.cell (p := ⟨sb, so + k, none⟩) hsl).trans A0.out
    have b0 := (HB.out.cell (p := ⟨ub, uo + k, none⟩) hul).trans B0.out
    have gc0 := fun d os => cell_regrown c0 d os
    have gc1 := fun d os => cell_regrown c1' d os
    have gc2 := fun d os => cell_regrown c2' d os
    have gc3 := fun d os => cell_regrown c3' d os
    have ga0 := fun d os => cell_regrown a0 d os
    have gb0 := fun d os => cell_regrown b0 d os
    go_wp2_with fail
    refine Go.wp_region_quiet_below (by kernel_rfl) (by kernel_rfl) ?_
    repeat (first | go_big_quiet_step ((exact Calls.regrown_of (atomsIn_i ht0 ht1))) | quiet_step ((exact Calls.regrown_of (atomsIn_i ht0 ht1))))
    refine wpQuiet_nil ?_; intro _ hw'; obtain ⟨⟨dq, osq⟩, hw''⟩ := hw'; subst hw''; have hq := below_regrown wr dq osq; revert hq; generalize grow (redrawn wr dq) osq = w2; intro hq
    have HB2 := Lib.hid (show Below w0.heap.size w0 w2 from Below.on HB.out hq HB.out.size)
    have hBw := Lib.hid (HB0.out.trans (HB2.out.mono HZ.out))
    clear hq c0 c1' c2' c3' a0 b0 gc0 gc1 gc2 gc3 ga0 gb0
    clear bA bN HB hBw
    have HB := HB2
    clear HB2
    have hnp : 0 < nr.length := by have := HN.out; omega
    obtain ⟨vb, vo, rfl⟩ := nest_some (f := intsD) rb hnp
    have q1 : IntKind.i64.wrap ((ac.length : Int) - 1) = ac.length - 1 := wrap_of (by omega) (by omega)
    obtain ⟨c0, c1', c2', c3', -, -⟩ := Hh.out.below HB.out
    simp only [Nat.zero_add] at c1' c2' c3'
    have b0 := (HB.out.cell (p := ⟨ub, uo + k, none⟩) hul).trans B0.out
    go_wp2_with fail
    clear c0 c1' c2' c3' b0
    go_loopw [63] (fun i wr => ∃ j : Nat, j ≤ nr.length ∧ i = .int .i64 j ∧ RowsOk a ac.length nr j ∧ Below w0.heap.size w0 wr) (fun i _ => nr.length - (intOf i).toNat)
    case atStart => exact ⟨0, by omega, rfl, RowsOk.zero, HB.out⟩
    case round =>
      clear HB
      obtain ⟨j, hj, rfl, hro, hB⟩ := hrel
      have szB := hB.size
      have Hro := Lib.hid hro
      have HB := Lib.hid hB
      clear hro hB
      by_cases hjl : j < nr.length
      rotate_left
      · have Hs' := Lib.hid (Hst.out.succ Har.out Hnr.out ⟨HA.out, HN.out, fun i row h => Hro.out i row (by have := (List.getElem?_eq_some_iff.1 h).1; omega) h⟩)
        go_wp2_with fail
        go_roundw
        case rel => exact ⟨k + 1, by omega, by go_num, Hs'.out, HB.out⟩
        case measure => simp [intOf]; omega
      obtain ⟨row, hrow⟩ : ∃ e, nr[j]? = some e := ⟨_, List.getElem?_eq_getElem hjl⟩
      obtain ⟨hvl, sr, cr, r0, rr⟩ := nest_sl (g := D.int) rb hrow
      obtain ⟨rr1, rr2⟩ := nest_bd rr
      unfold maxLen at rr2
      replace r0 := (HB.out.cell (p := ⟨vb, vo + j, none⟩) hvl).trans r0
      have Hrow := Lib.hid hrow
      have hjz := Int.natCast_nonneg j
      have hjb : (j : Int) < (nr.length : Int) := by omega
      clear hrow
      by_cases hA2 : (row.length : Int) = a
      rotate_left
      · have C1 := Lib.hid (show autB t a ac nx = false from autB_no fun q => hA2 ((q.st k ar nr Har.out Hnr.out).2.2 j row Hrow.out).1)
        have bA : ((row.length : Int) != a) = true := by simp [hA2]
        have hBw := Lib.hid (HB0.out.trans (HB.out.mono HZ.out))
        clear hA2
        obtain ⟨c0, c1', c2', c3', -, -⟩ := Hh.out.below HB.out
        simp only [Nat.zero_add] at c1' c2' c3'
        go_wp2_with fail
        go_ret
        exact ⟨ret_bool (by rw [C1.out]), hBw.out⟩
      have bA : ((row.length : Int) != a) = false := by simp [hA2]
      have HA2 := Lib.hid hA2
      clear hA2
      obtain ⟨c0, c1', c2', c3', -, -⟩ := Hh.out.below HB.out
      simp only [Nat.zero_add] at c1' c2' c3'
      go_wp2_with fail
      clear bA r0 c0 c1' c2' c3'
      go_loopw [75] (fun i wr => ∃ l : Nat, l ≤ row.length ∧ i = .int .i64 l ∧ CellsOk ac.length row l ∧ Below w0.heap.size w0 wr) (fun i _ => row.length - (intOf i).toNat)
      case atStart => exact ⟨0, by omega, rfl, CellsOk.zero, HB.out⟩
      case round =>
        clear HB
        obtain ⟨l, hl, rfl, hce, hB⟩ := hrel
        have szB := hB.size
        have Hce := Lib.hid hce
        have HB := Lib.hid hB
        clear hce hB
        have hlz := Int.natCast_nonneg l
        by_cases hll : l < row.length
        rotate_left
        · have Hs' := Lib.hid (Hro.out.succ Hrow.out ⟨HA2.out, fun i z h => Hce.out i z (by have := (List.getElem?_eq_some_iff.1 h).1; omega) h⟩)
          go_wp2_with fail
          go_roundw
          case rel => exact ⟨j + 1, by omega, by go_num, Hs'.out, HB.out⟩
          case measure => simp [intOf]; omega
        have hlb : (l : Int) < (row.length : Int) := by omega
        obtain ⟨z, hz⟩ : ∃ e, row[l]? = some e := ⟨_, List.getElem?_eq_getElem hll⟩
        obtain ⟨tb, to', rfl⟩ := nest_some (f := D.int) rr (by omega)
        obtain ⟨-, z0⟩ := int_in (rr.below HB.out) hz
        have Hz := Lib.hid hz
        clear hz
        go_wp2_with fail
        refine (within_any _ _ _ _).mono ?_
        rintro e w' ⟨rfl, rfl⟩
        cases hin : inB z (-1) (ac.length - 1)
        · have C1 := Lib.hid (show autB t a ac nx = false from autB_no fun q => by
            have h1 := ((q.st k ar nr Har.out Hnr.out).2.2 j row Hrow.out).2 l z Hz.out
            have h2 : inB z (-1) (ac.length - 1) = true := by simp only [inB, Bool.and_eq_true, decide_eq_true_eq]; exact h1
            rw [h2] at hin
            cases hin)
          have hBw := Lib.hid (HB0.out.trans (HB.out.mono HZ.out))
          clear hin
          go_wp2_with fail
          go_ret
          exact ⟨ret_bool (by rw [C1.out]), hBw.out⟩
        · have Hs' := Lib.hid (Hce.out.succ Hz.out hin)
          clear hin
          go_wp2_with fail
          go_roundw
          case rel => exact ⟨l + 1, by omega, by go_num, Hs'.out, HB.out⟩
          case measure => simp [intOf]; omega
end Go.Proofs.YtahehcalmbmbpaaDoor
