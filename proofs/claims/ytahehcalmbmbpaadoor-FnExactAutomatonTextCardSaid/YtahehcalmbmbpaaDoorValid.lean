/-
  Automata that are valid: l02Ok.
-/
import Derived.Test.YtahehcalmbmbpaaDoorAut4
import Derived.Test.YtahehcalmbmbpaaDoorTrace
namespace Go.Proofs.YtahehcalmbmbpaaDoor
open Go.ChangeShapes Go.WideShapes Go.ChangeAt Go.RowKit Go.Sort

/-- A row of next states. -/
def RowOk (a n : Int) (row : List Int) : Prop := (row.length : Int) = a ∧ ∀ (l : Nat) (z : Int), row[l]? = some z → -1 ≤ z ∧ z ≤ n - 1
/-- A state: whether it accepts each atom, and where it leads. -/
def StOk (t a n : Int) (ar : List Bool) (nr : List (List Int)) : Prop := (ar.length : Int) = atomsN t ∧ (nr.length : Int) = atomsN t ∧ ∀ (j : Nat) (row : List Int), nr[j]? = some row → RowOk a n row
/-- A valid automaton. -/
structure AutOk (t a : Int) (ac : List (List Bool)) (nx : List (List (List Int))) : Prop where
  sig : sigB t a = true
  lo : 1 ≤ ac.length
  hi : ac.length ≤ 60
  len : nx.length = ac.length
  st : ∀ (i : Nat) (ar : List Bool) (nr : List (List Int)), ac[i]? = some ar → nx[i]? = some nr → StOk t a ac.length ar nr
noncomputable def autB (t a : Int) (ac : List (List Bool)) (nx : List (List (List Int))) : Bool := @decide (AutOk t a ac nx) (Classical.propDecidable _)
theorem autB_true {t a : Int} {ac : List (List Bool)} {nx : List (List (List Int))} : autB t a ac nx = true ↔ AutOk t a ac nx := by unfold autB; exact @decide_eq_true_iff _ (Classical.propDecidable _)
theorem autB_yes {t a : Int} {ac : List (List Bool)} {nx : List (List (List Int))} (h : AutOk t a ac nx) : autB t a ac nx = true := autB_true.2 h
theorem autB_no {t a : Int} {ac : List (List Bool)} {nx : List (List (List Int))} (h : ¬ AutOk t a ac nx) : autB t a ac nx = false := by
  cases hb : autB t a ac nx
  · rfl
  · exact absurd (autB_true.1 hb) h

/-- The states ahead of one are in order. -/
def StsOk (t a : Int) (ac : List (List Bool)) (nx : List (List (List Int))) (k : Nat) : Prop := ∀ (i : Nat) (ar : List Bool) (nr : List (List Int)), i < k → ac[i]? = some ar → nx[i]? = some nr → StOk t a ac.length ar nr
theorem StsOk.zero {t a : Int} {ac : List (List Bool)} {nx : List (List (List Int))} : StsOk t a ac nx 0 := fun _ _ _ h => by omega
theorem StsOk.succ {t a : Int} {ac : List (List Bool)} {nx : List (List (List Int))} {k : Nat} {ar : List Bool} {nr : List (List Int)} (h : StsOk t a ac nx k) (h1 : ac[k]? = some ar) (h2 : nx[k]? = some nr) (hs : StOk t a ac.length ar nr) : StsOk t a ac nx (k + 1) := by
  intro i ar' nr' hi h3 h4
  by_cases hik : i = k
  · subst hik
    rw [h1] at h3
    rw [h2] at h4
    cases h3
    cases h4
    exact hs
  · exact h i ar' nr' (by omega) h3 h4
def RowsOk (a n : Int) (nr : List (List Int)) (k : Nat) : Prop := ∀ (j : Nat) (row : List Int), j < k → nr[j]? = some row → RowOk a n row
theorem RowsOk.zero {a n : Int} {nr : List (List Int)} : RowsOk a n nr 0 := fun _ _ h => by omega
theorem RowsOk.succ {a n : Int} {nr : List (List Int)} {k : Nat} {row : List Int} (h : RowsOk a n nr k) (h1 : nr[k]? = some row) (hs : RowOk a n row) : RowsOk a n nr (k + 1) := by
  intro j row' hj h2
  by_cases hjk : j = k
  · subst hjk
    rw [h1] at h2
    cases h2
    exact hs
  · exact h j row' (by omega) h2
def CellsOk (n : Int) (row : List Int) (k : Nat) : Prop := ∀ (l : Nat) (z : Int), l < k → row[l]? = some z → -1 ≤ z ∧ z ≤ n - 1
theorem CellsOk.zero {n : Int} {row : List Int} : CellsOk n row 0 := fun _ _ h => by omega
theorem CellsOk.succ {n : Int} {row : List Int} {k : Nat} {z : Int} (h : CellsOk n row k) (h1 : row[k]? = some z) (hs : inB z (-1) (n - 1) = true) : CellsOk n row (k + 1) := by
  intro l z' hl h2
  by_cases hlk : l = k
  · subst hlk
    rw [h1] at h2
    cases h2
    simp only [inB, Bool.and_eq_true, decide_eq_true_eq] at hs
    exact hs
  · exact h l z' (by omega) h2

/-- An automaton lies at an address. -/
def AutAt (w : World) (b o : Nat) (t a : Int) (ac : List (List Bool)) (nx : List (List (List Int))) (s u : Option Addr) (c d : Nat) : Prop :=
  w.cell? ⟨b, o, none⟩ = some (.int .i64 t) ∧ w.cell? ⟨b, o + 1, none⟩ = some (.int .i64 a) ∧ w.cell? ⟨b, o + 2, none⟩ = some (.slice s ac.length c) ∧ w.cell? ⟨b, o + 3, none⟩ = some (.slice u nx.length d) ∧
    Rd w (bbD ac) (.slice s ac.length c) ∧ Rd w (iiiD nx) (.slice u nx.length d)
theorem AutAt.lt {w : World} {b o : Nat} {t a : Int} {ac : List (List Bool)} {nx : List (List (List Int))} {s u : Option Addr} {c d : Nat} (h : AutAt w b o t a ac nx s u c d) : b < w.heap.size := World.block_lt_of_cell? w _ h.1
theorem AutAt.below {w w' : World} {b o : Nat} {t a : Int} {ac : List (List Bool)} {nx : List (List (List Int))} {s u : Option Addr} {c d : Nat} (h : AutAt w b o t a ac nx s u c d) (hb : Below w.heap.size w w') : AutAt w' b o t a ac nx s u c d := by
  have hl := h.lt
  obtain ⟨h0, h1, h2, h3, h4, h5⟩ := h
  exact ⟨(hb.cell (p := ⟨b, o, none⟩) hl).trans h0, (hb.cell (p := ⟨b, o + 1, none⟩) hl).trans h1, (hb.cell (p := ⟨b, o + 2, none⟩) hl).trans h2, (hb.cell (p := ⟨b, o + 3, none⟩) hl).trans h3, h4.below hb, h5.below hb⟩

set_option maxRecDepth 100000 in
set_option maxHeartbeats 16000000 in
theorem l02Ok_i {t a : Int} {ac : List (List Bool)} {nx : List (List (List Int))} {s u : Option Addr} {c d b o : Nat} {w : World} (h : AutAt w b o t a ac nx s u c d) :
    Calls Tryd.prog 44 #[.pointer (some ⟨b, o, none⟩)] w fun e w' => e = .returned (.bool (autB t a ac nx)) ∧ Below w.heap.size w w' := by
  obtain ⟨hlen, hcap⟩ := nest_bd h.2.2.2.2.1
  obtain ⟨hlen', hcap'⟩ := nest_bd h.2.2.2.2.2
  unfold maxLen at hcap hcap'
  obtain ⟨g0, g1, g2, g3, g4, g5⟩ := h
  have h : AutAt w b o t a ac nx s u c d := ⟨g0, g1, g2, g3, g4, g5⟩
  have hbl := h.lt
  go_enter Tryd.func44, Tryd.ntmps44
  go_wp2_with fail
  refine (l01Sig_any t a _).mono ?_
  rintro e w1 ⟨rfl, hB⟩
  cases hs : sigB t a
  · have c1 : autB t a ac nx = false := autB_no fun q => by rw [q.sig] at hs; cases hs
    have C1 := Lib.hid c1
    clear c1 hs
    go_wp2_with fail
    go_ret
    exact ⟨ret_bool (by rw [C1.out]), hB⟩
  have Hs := Lib.hid hs
  clear hs
  go_wp2_with fail
  refine (in_any _ _ _ _).mono ?_
  rintro e w' ⟨rfl, rfl⟩
  by_cases hn : 1 ≤ ac.length ∧ ac.length ≤ 60
  rotate_left
  · have c1 : autB t a ac nx = false := autB_no fun q => hn ⟨q.lo, q.hi⟩
    have c2 : inB (ac.length : Int) 1 60 = false := by simp [inB]; omega
    have C1 := Lib.hid c1
    rw [c2]
    clear c1 c2 hn
    go_wp2_with fail
    go_ret
    exact ⟨ret_bool (by rw [C1.out]), hB⟩
  obtain ⟨hn1, hn2⟩ := hn
  have c2 : inB (ac.length : Int) 1 60 = true := by simp [inB]; omega
  rw [c2]
  clear c2
  have h1 := h.below hB
  have k3 := h1.2.2.2.1
  by_cases hl : nx.length = ac.length
  rotate_left
  · have c1 : autB t a ac nx = false := autB_no fun q => hl q.len
    have c2 : ((nx.length : Int) != (ac.length : Int)) = true := by simp; omega
    have C1 := Lib.hid c1
    clear c1 hl
    go_wp2_with fail
    go_ret
    exact ⟨ret_bool (by rw [C1.out]), hB⟩
  have c2 : ((nx.length : Int) != (ac.length : Int)) = false := by simp [hl]
  have Hl := Lib.hid hl
  have hl1 : nx.length ≤ ac.length := by omega
  have hl2 : ac.length ≤ nx.length := by omega
  clear hl
  obtain ⟨ht0, ht1, ha0, ha1⟩ := sigB_bd Hs.out
  have hat := atomsN_bd t
  obtain ⟨sb, so, rfl⟩ := nest_some (f := boolsD) g4 (by omega)
  obtain ⟨ub, uo, rfl⟩ := nest_some (f := iiD) g5 (by omega)
  have HB1 := Lib.hid hB
  have Hh := Lib.hid h
  clear h1 g0 g1 g2 g3 h
  go_wp2_with fail
  clear k3 c2
  go_loopw [4] (fun i wr => ∃ k : Nat, k ≤ ac.length ∧ i = .int .i64 k ∧ StsOk t a ac nx k ∧ Below w.heap.size w wr) (fun i _ => ac.length - (intOf i).toNat)
  case atStart => exact ⟨0, by omega, rfl, StsOk.zero, HB1.out⟩
  case round =>
    clear HB1 hB
    obtain ⟨k, hk, rfl, hst, hB⟩ := hrel
    have szB := hB.size
    have Hst := Lib.hid hst
    have HB := Lib.hid hB
    clear hst hB
    by_cases hlt : k < ac.length
    rotate_left
    · have c1 : autB t a ac nx = true := autB_yes ⟨Hs.out, hn1, hn2, Hl.out, fun i ar nr h1 h2 => Hst.out i ar nr (by have := (List.getElem?_eq_some_iff.1 h1).1; omega) h1 h2⟩
      have C1 := Lib.hid c1
      clear c1
      go_wp2_with fail
      go_ret
      exact ⟨ret_bool (by rw [C1.out]), HB.out⟩
    obtain ⟨ar, har⟩ : ∃ e, ac[k]? = some e := ⟨_, List.getElem?_eq_getElem hlt⟩
    obtain ⟨nr, hnr⟩ : ∃ e, nx[k]? = some e := ⟨_, List.getElem?_eq_getElem (by omega)⟩
    obtain ⟨hsl, sa, ca, a0, ra⟩ := nest_sl (g := D.bool) g4 har
    obtain ⟨hul, sn, cn, b0, rb⟩ := nest_sl (g := intsD) g5 hnr
    obtain ⟨ra1, ra2⟩ := nest_bd ra
    obtain ⟨rb1, rb2⟩ := nest_bd rb
    unfold maxLen at ra2 rb2
    have A0 := Lib.hid a0
    have B0 := Lib.hid b0
    have Har := Lib.hid har
    have Hnr := Lib.hid hnr
    have hkz := Int.natCast_nonneg k
    have hkb : (k : Int) < (ac.length : Int) := by omega
    have hkc : (k : Int) < (nx.length : Int) := by omega
    clear a0 b0 har hnr
    by_cases hA : (ar.length : Int) = atomsN t
    rotate_left
    · have c1 : autB t a ac nx = false := autB_no fun q => hA (q.st k ar nr Har.out Hnr.out).1
      have C1 := Lib.hid c1
      have bA : ((ar.length : Int) != atomsN t) = true := by simp [hA]
      clear c1 hA
      obtain ⟨c0, c1', c2', c3', -, -⟩ := Hh.out.below HB.out
      have a0 := (HB.out.cell (p := ⟨sb, so + k, none⟩) hsl).trans A0.out
      have b0 := (HB.out.cell (p := ⟨ub, uo + k, none⟩) hul).trans B0.out
      have gc0 := fun d os => cell_regrown c0 d os
      have gc1 := fun d os => cell_regrown c1' d os
      have gc2 := fun d os => cell_regrown c2' d os
      have gc3 := fun d os => cell_regrown c3' d os
      have ga0 := fun d os => cell_regrown a0 d os
      have gb0 := fun d os => cell_regrown b0 d os
      go_wp2_with fail
      refine Go.wp_region_quiet_below (by kernel_rfl) (by kernel_rfl) ?_
      repeat (first | go_big_quiet_step ((exact Calls.regrown_of (l01Atoms_i ht0 ht1))) | quiet_step ((exact Calls.regrown_of (l01Atoms_i ht0 ht1))))
      refine wpQuiet_nil ?_; intro _ hw'; obtain ⟨⟨dq, osq⟩, hw''⟩ := hw'; subst hw''; have hq := below_regrown wr dq osq; revert hq; generalize grow (redrawn wr dq) osq = w2; intro hq
      have hB2 : Below w.heap.size w w2 := Below.on HB.out hq HB.out.size
      clear hq c0 c1' c2' c3' a0 b0 gc0 gc1 gc2 gc3 ga0 gb0
      go_wp2_with fail
      go_ret
      exact ⟨ret_bool (by rw [C1.out]), hB2⟩
    have bA : ((ar.length : Int) != atomsN t) = false := by simp [hA]
    have HA := Lib.hid hA
    clear hA
    by_cases hN : (nr.length : Int) = atomsN t
    rotate_left
    · have c1 : autB t a ac nx = false := autB_no fun q => hN (q.st k ar nr Har.out Hnr.out).2.1
      have C1 := Lib.hid c1
      have bN : ((nr.length : Int) != atomsN t) = true := by simp [hN]
      clear c1 hN
      obtain ⟨c0, c1', c2', c3', -, -⟩ := Hh.out.below HB.out
      have a0 := (HB.out.cell (p := ⟨sb, so + k, none⟩) hsl).trans A0.out
      have b0 := (HB.out.cell (p := ⟨ub, uo + k, none⟩) hul).trans B0.out
      have gc0 := fun d os => cell_regrown c0 d os
      have gc1 := fun d os => cell_regrown c1' d os
      have gc2 := fun d os => cell_regrown c2' d os
      have gc3 := fun d os => cell_regrown c3' d os
      have ga0 := fun d os => cell_regrown a0 d os
      have gb0 := fun d os => cell_regrown b0 d os
      go_wp2_with fail
      refine Go.wp_region_quiet_below (by kernel_rfl) (by kernel_rfl) ?_
      repeat (first | go_big_quiet_step ((exact Calls.regrown_of (l01Atoms_i ht0 ht1))) | quiet_step ((exact Calls.regrown_of (l01Atoms_i ht0 ht1))))
      refine wpQuiet_nil ?_; intro _ hw'; obtain ⟨⟨dq, osq⟩, hw''⟩ := hw'; subst hw''; have hq := below_regrown wr dq osq; revert hq; generalize grow (redrawn wr dq) osq = w2; intro hq
      have hB2 : Below w.heap.size w w2 := Below.on HB.out hq HB.out.size
      clear hq c0 c1' c2' c3' a0 b0 gc0 gc1 gc2 gc3 ga0 gb0
      go_wp2_with fail
      go_ret
      exact ⟨ret_bool (by rw [C1.out]), hB2⟩
    have bN : ((nr.length : Int) != atomsN t) = false := by simp [hN]
    have HN := Lib.hid hN
    clear hN
    obtain ⟨c0, c1', c2', c3', -, -⟩ := Hh.out.below HB.out
    have a0 := (HB.out.cell (p := ⟨sb, so + k, none⟩) hsl).trans A0.out
    have b0 := (HB.out.cell (p := ⟨ub, uo + k, none⟩) hul).trans B0.out
    have gc0 := fun d os => cell_regrown c0 d os
    have gc1 := fun d os => cell_regrown c1' d os
    have gc2 := fun d os => cell_regrown c2' d os
    have gc3 := fun d os => cell_regrown c3' d os
    have ga0 := fun d os => cell_regrown a0 d os
    have gb0 := fun d os => cell_regrown b0 d os
    go_wp2_with fail
    refine Go.wp_region_quiet_below (by kernel_rfl) (by kernel_rfl) ?_
    repeat (first | go_big_quiet_step ((exact Calls.regrown_of (l01Atoms_i ht0 ht1))) | quiet_step ((exact Calls.regrown_of (l01Atoms_i ht0 ht1))))
    refine wpQuiet_nil ?_; intro _ hw'; obtain ⟨⟨dq, osq⟩, hw''⟩ := hw'; subst hw''; have hq := below_regrown wr dq osq; revert hq; generalize grow (redrawn wr dq) osq = w2; intro hq
    have hB2 : Below w.heap.size w w2 := Below.on HB.out hq HB.out.size
    clear hq c0 c1' c2' c3' a0 b0 gc0 gc1 gc2 gc3 ga0 gb0
    clear bA bN HB
    have hnp : 0 < nr.length := by have := HN.out; omega
    obtain ⟨vb, vo, rfl⟩ := nest_some (f := intsD) rb hnp
    have q1 : IntKind.i64.wrap ((ac.length : Int) - 1) = ac.length - 1 := wrap_of (by omega) (by omega)
    go_wp2_with fail
    go_loopw [5] (fun i wr => ∃ j : Nat, j ≤ nr.length ∧ i = .int .i64 j ∧ RowsOk a ac.length nr j ∧ Below w.heap.size w wr) (fun i _ => nr.length - (intOf i).toNat)
    case atStart => exact ⟨0, by omega, rfl, RowsOk.zero, hB2⟩
    case round =>
      clear hB2
      obtain ⟨j, hj, rfl, hro, hB⟩ := hrel
      have szB := hB.size
      have Hro := Lib.hid hro
      have HB := Lib.hid hB
      clear hro hB
      by_cases hjl : j < nr.length
      rotate_left
      · have Hs' := Lib.hid (Hst.out.succ Har.out Hnr.out ⟨HA.out, HN.out, fun i row h => Hro.out i row (by have := (List.getElem?_eq_some_iff.1 h).1; omega) h⟩)
        obtain ⟨c0, c1', c2', c3', -, -⟩ := Hh.out.below HB.out
        have a0 := (HB.out.cell (p := ⟨sb, so + k, none⟩) hsl).trans A0.out
        have b0 := (HB.out.cell (p := ⟨ub, uo + k, none⟩) hul).trans B0.out
        have gc0 := fun d os => cell_regrown c0 d os
        have gc1 := fun d os => cell_regrown c1' d os
        have gc2 := fun d os => cell_regrown c2' d os
        have gc3 := fun d os => cell_regrown c3' d os
        have ga0 := fun d os => cell_regrown a0 d os
        have gb0 := fun d os => cell_regrown b0 d os
        clear gc0 gc1 gc2 gc3 ga0 gb0
        go_wp2_with fail
        go_roundw
        case rel => exact ⟨k + 1, by omega, by go_num, Hs'.out, HB.out⟩
        case measure => simp [intOf]; omega
      obtain ⟨row, hrow⟩ : ∃ e, nr[j]? = some e := ⟨_, List.getElem?_eq_getElem hjl⟩
      obtain ⟨hvl, sr, cr, r0, rr⟩ := nest_sl (g := D.int) rb hrow
      obtain ⟨rr1, rr2⟩ := nest_bd rr
      unfold maxLen at rr2
      have R0 := Lib.hid r0
      have Hrow := Lib.hid hrow
      have hjz := Int.natCast_nonneg j
      have hjb : (j : Int) < (nr.length : Int) := by omega
      clear r0 hrow
      by_cases hA2 : (row.length : Int) = a
      rotate_left
      · have C1 := Lib.hid (show autB t a ac nx = false from autB_no fun q => hA2 ((q.st k ar nr Har.out Hnr.out).2.2 j row Hrow.out).1)
        have bA : ((row.length : Int) != a) = true := by simp [hA2]
        clear hA2
        obtain ⟨c0, c1', c2', c3', -, -⟩ := Hh.out.below HB.out
        have a0 := (HB.out.cell (p := ⟨sb, so + k, none⟩) hsl).trans A0.out
        have b0 := (HB.out.cell (p := ⟨ub, uo + k, none⟩) hul).trans B0.out
        have gc0 := fun d os => cell_regrown c0 d os
        have gc1 := fun d os => cell_regrown c1' d os
        have gc2 := fun d os => cell_regrown c2' d os
        have gc3 := fun d os => cell_regrown c3' d os
        have ga0 := fun d os => cell_regrown a0 d os
        have gb0 := fun d os => cell_regrown b0 d os
        have r0 := (HB.out.cell (p := ⟨vb, vo + j, none⟩) hvl).trans R0.out
        have gr0 := fun d os => cell_regrown r0 d os
        go_wp2_with fail
        refine Go.wp_region_quiet_below (by kernel_rfl) (by kernel_rfl) ?_
        repeat (first | go_big_quiet_step ((fail)) | quiet_step ((fail)))
        refine wpQuiet_nil ?_; intro _ hw'; obtain ⟨⟨dq, osq⟩, hw''⟩ := hw'; subst hw''; have hq := below_regrown wr dq osq; revert hq; generalize grow (redrawn wr dq) osq = w2; intro hq
        have hB2 : Below w.heap.size w w2 := Below.on HB.out hq HB.out.size
        clear hq c0 c1' c2' c3' a0 b0 r0 gc0 gc1 gc2 gc3 ga0 gb0 gr0
        go_wp2_with fail
        go_wp2_with fail
        go_ret
        exact ⟨ret_bool (by rw [C1.out]), hB2⟩
      have bA : ((row.length : Int) != a) = false := by simp [hA2]
      have HA2 := Lib.hid hA2
      clear hA2
      obtain ⟨c0, c1', c2', c3', -, -⟩ := Hh.out.below HB.out
      have a0 := (HB.out.cell (p := ⟨sb, so + k, none⟩) hsl).trans A0.out
      have b0 := (HB.out.cell (p := ⟨ub, uo + k, none⟩) hul).trans B0.out
      have gc0 := fun d os => cell_regrown c0 d os
      have gc1 := fun d os => cell_regrown c1' d os
      have gc2 := fun d os => cell_regrown c2' d os
      have gc3 := fun d os => cell_regrown c3' d os
      have ga0 := fun d os => cell_regrown a0 d os
      have gb0 := fun d os => cell_regrown b0 d os
      have r0 := (HB.out.cell (p := ⟨vb, vo + j, none⟩) hvl).trans R0.out
      have gr0 := fun d os => cell_regrown r0 d os
      go_wp2_with fail
      refine Go.wp_region_quiet_below (by kernel_rfl) (by kernel_rfl) ?_
      repeat (first | go_big_quiet_step ((fail)) | quiet_step ((fail)))
      refine wpQuiet_nil ?_; intro _ hw'; obtain ⟨⟨dq, osq⟩, hw''⟩ := hw'; subst hw''; have hq := below_regrown wr dq osq; revert hq; generalize grow (redrawn wr dq) osq = w2; intro hq
      have hB2 : Below w.heap.size w w2 := Below.on HB.out hq HB.out.size
      clear hq c0 c1' c2' c3' a0 b0 r0 gc0 gc1 gc2 gc3 ga0 gb0 gr0
      go_wp2_with fail
      clear bA HB
      go_loopw [6] (fun i wr => ∃ l : Nat, l ≤ row.length ∧ i = .int .i64 l ∧ CellsOk ac.length row l ∧ Below w.heap.size w wr) (fun i _ => row.length - (intOf i).toNat)
      case atStart => exact ⟨0, by omega, rfl, CellsOk.zero, hB2⟩
      case round =>
        clear hB2
        obtain ⟨l, hl, rfl, hce, hB⟩ := hrel
        have szB := hB.size
        have Hce := Lib.hid hce
        have HB := Lib.hid hB
        clear hce hB
        have hlz := Int.natCast_nonneg l
        obtain ⟨c0, c1', c2', c3', -, -⟩ := Hh.out.below HB.out
        have b0 := (HB.out.cell (p := ⟨ub, uo + k, none⟩) hul).trans B0.out
        have r0 := (HB.out.cell (p := ⟨vb, vo + j, none⟩) hvl).trans R0.out
        by_cases hll : l < row.length
        rotate_left
        · have Hs' := Lib.hid (Hro.out.succ Hrow.out ⟨HA2.out, fun i z h => Hce.out i z (by have := (List.getElem?_eq_some_iff.1 h).1; omega) h⟩)
          go_wp2_with fail
          go_roundw
          case rel => exact ⟨j + 1, by omega, by go_num, Hs'.out, HB.out⟩
          case measure => simp [intOf]; omega
        have hlb : (l : Int) < (row.length : Int) := by omega
        obtain ⟨z, hz⟩ : ∃ e, row[l]? = some e := ⟨_, List.getElem?_eq_getElem hll⟩
        obtain ⟨tb, to', rfl⟩ := nest_some (f := D.int) rr (by omega)
        obtain ⟨-, z0⟩ := int_in (rr.below HB.out) hz
        have Hz := Lib.hid hz
        clear hz
        go_wp2_with fail
        refine (in_any _ _ _ _).mono ?_
        rintro e w' ⟨rfl, rfl⟩
        cases hin : inB z (-1) (ac.length - 1)
        · have C1 := Lib.hid (show autB t a ac nx = false from autB_no fun q => by
            have h1 := ((q.st k ar nr Har.out Hnr.out).2.2 j row Hrow.out).2 l z Hz.out
            have h2 : inB z (-1) (ac.length - 1) = true := by simp only [inB, Bool.and_eq_true, decide_eq_true_eq]; exact h1
            rw [h2] at hin
            cases hin)
          clear hin
          go_wp2_with fail
          go_ret
          exact ⟨ret_bool (by rw [C1.out]), HB.out⟩
        · have Hs' := Lib.hid (Hce.out.succ Hz.out hin)
          clear hin
          go_wp2_with fail
          go_roundw
          case rel => exact ⟨l + 1, by omega, by go_num, Hs'.out, HB.out⟩
          case measure => simp [intOf]; omega
end Go.Proofs.YtahehcalmbmbpaaDoor
