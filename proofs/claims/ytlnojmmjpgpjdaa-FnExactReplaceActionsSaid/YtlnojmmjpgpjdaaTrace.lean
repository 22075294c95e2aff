/-
  Words of a signature: atoms, inRange, isTrace, isWord, l01Word, ValidWord of both.
-/
import Derived.Test.YtlnojmmjpgpjdaaInts
import Derived.Test.YtlnojmmjpgpjdaaSig
namespace Go.Proofs.Ytlnojmmjpgpjdaa
open Go.ChangeShapes Go.WideShapes Go.ChangeAt Go.RowKit Go.Sort

/-- The number of atoms. -/
def atomsN (t : Int) : Int := if t = 0 then 1 else if t = 1 then 2 else if t = 2 then 4 else 8
theorem atomsN_bd (t : Int) : 1 ≤ atomsN t ∧ atomsN t ≤ 8 := by unfold atomsN; split <;> (try split) <;> (try split) <;> omega

/-- All numbers from 0 to one less than a number. -/
def allIn (zs : List Int) (n : Int) : Bool := zs.all fun z => inB z 0 (n - 1)
theorem allIn_take_succ {zs : List Int} {n : Int} {i : Nat} {z : Int} (h : zs[i]? = some z) : allIn (zs.take (i + 1)) n = (allIn (zs.take i) n && inB z 0 (n - 1)) := by
  obtain ⟨hi, rfl⟩ := List.getElem?_eq_some_iff.1 h
  unfold allIn
  rw [List.take_succ_eq_append_getElem hi, List.all_append]
  congr 1
  simp
theorem allIn_false {zs : List Int} {n : Int} {i : Nat} {z : Int} (h : zs[i]? = some z) (hc : inB z 0 (n - 1) = false) : allIn zs n = false := by
  unfold allIn
  rw [List.all_eq_false]
  exact ⟨z, List.mem_of_getElem? h, by simp [hc]⟩

/-- A word of a signature. -/
def wordB (t a : Int) (xs ys : List Int) : Bool := sigB t a && decide (ys.length ≤ 10) && decide (xs.length = ys.length + 1) && allIn xs (atomsN t) && allIn ys a

theorem sigB_bd {t a : Int} (h : sigB t a = true) : 0 ≤ t ∧ t ≤ 3 ∧ 0 ≤ a ∧ a ≤ 4 := by
  simp [sigB, inB] at h
  omega

theorem within_B (n lo hi : Int) (w : World) : Calls Try.prog 54 #[.int .i64 n, .int .i64 lo, .int .i64 hi] w fun e w' => e = .returned (.bool (inB n lo hi)) ∧ Below w.heap.size w w' :=
  (within_any n lo hi w).mono fun _ _ ⟨h1, h2⟩ => ⟨h1, below_self h2⟩
theorem in_B (n lo hi : Int) (w : World) : Calls Try.prog 63 #[.int .i64 n, .int .i64 lo, .int .i64 hi] w fun e w' => e = .returned (.bool (inB n lo hi)) ∧ Below w.heap.size w w' :=
  (in_any n lo hi w).mono fun _ _ ⟨h1, h2⟩ => ⟨h1, below_self h2⟩

theorem atomsIn_i {t a : Int} {w : World} (h0 : 0 ≤ t) (h1 : t ≤ 3) : Calls Try.prog 53 #[.agg #[.int .i64 t, .int .i64 a]] w fun e w' => e = .returned (.int .i64 (atomsN t)) ∧ Below w.heap.size w w' := by
  have h : t = 0 ∨ t = 1 ∨ t = 2 ∨ t = 3 := by omega
  rcases h with h | h | h | h
  all_goals
    subst h
    go_enter Try.func53, Try.ntmps53
    go_wp2
    go_ret
    exact ⟨rfl, by (repeat' (first | exact Below.refl _ _ | assumption | (refine Below.alloc ?_ (by first | omega | (simp; done) | (simp; omega)) _) | (refine Below.drew ?_) | (refine Below.setCell ?_ (by first | omega | (simp; done) | (simp; omega)) _)))⟩

theorem l01Atoms_i {t a : Int} {w : World} (h0 : 0 ≤ t) (h1 : t ≤ 3) : Calls Try.prog 94 #[.agg #[.int .i64 t, .int .i64 a]] w fun e w' => e = .returned (.int .i64 (atomsN t)) ∧ Below w.heap.size w w' := by
  have h : t = 0 ∨ t = 1 ∨ t = 2 ∨ t = 3 := by omega
  rcases h with h | h | h | h
  all_goals
    subst h
    go_enter Try.func94, Try.ntmps94
    go_wp2
    go_ret
    exact ⟨rfl, by (repeat' (first | exact Below.refl _ _ | assumption | (refine Below.alloc ?_ (by first | omega | (simp; done) | (simp; omega)) _) | (refine Below.drew ?_) | (refine Below.setCell ?_ (by first | omega | (simp; done) | (simp; omega)) _)))⟩

theorem inRange_i {zs : List Int} {s : Option Addr} {c : Nat} {n : Int} {w : World} (hr : Rd w (intsD zs) (.slice s zs.length c)) (h0 : 0 ≤ n) (h1 : n ≤ 100) :
    Calls Try.prog 133 #[.slice s zs.length c, .int .i64 n] w fun e w' => e = .returned (.bool (allIn zs n)) ∧ w = w' := by
  obtain ⟨-, hlen, hcap, -⟩ := hr.sl_at
  unfold maxLen at hcap
  go_enter Try.func133, Try.ntmps133
  go_wp2_with fail
  go_loop [9] (fun i => ∃ k : Nat, k ≤ zs.length ∧ i = .int .i64 k ∧ allIn (zs.take k) n = true) (fun i => zs.length - (intOf i).toNat)
  case atStart => exact ⟨0, by omega, rfl, by simp [allIn]⟩
  case round =>
    obtain ⟨k, hk, rfl, hpre⟩ := hrel
    have Hpre := Lib.hid hpre
    clear hpre
    by_cases hlt : k < zs.length
    · obtain ⟨z, hz⟩ : ∃ e, zs[k]? = some e := ⟨_, List.getElem?_eq_getElem hlt⟩
      obtain ⟨b, o, rfl⟩ := int_some hr (by omega)
      obtain ⟨-, g0⟩ := int_in hr hz
      have Htk := Lib.hid (@allIn_take_succ zs n k z hz)
      have Hfl := Lib.hid (@allIn_false zs n k z hz)
      go_wp2_with ((go_at_call 54; ((with_reducible refine (within_any _ _ _ _).mono ?_); rintro e w' ⟨rfl, rfl⟩)))
      · go_ret
        exact ⟨ret_bool (by rw [Hfl.out (by simp_all)]), rfl⟩
      · go_round
        case rel => exact ⟨k + 1, by omega, by go_num, by rw [Htk.out, Hpre.out]; simp_all⟩
        case measure => simp [intOf]; omega
    · obtain rfl : k = zs.length := by omega
      have c2 : allIn zs n = true := by have := Hpre.out; rwa [List.take_length] at this
      go_wp2_with fail
      go_ret
      exact ⟨by first | rfl | (rw [c2]; rfl), rfl⟩

theorem inRange_B {zs : List Int} {s : Option Addr} {c : Nat} {n : Int} {w : World} (hr : Rd w (intsD zs) (.slice s zs.length c)) (h0 : 0 ≤ n) (h1 : n ≤ 100) :
    Calls Try.prog 133 #[.slice s zs.length c, .int .i64 n] w fun e w' => e = .returned (.bool (allIn zs n)) ∧ Below w.heap.size w w' :=
  (inRange_i hr h0 h1).mono fun _ _ ⟨h1, h2⟩ => ⟨h1, below_self h2⟩

/-- A word lies at an address. -/
def WdAt (w : World) (b o : Nat) (xs ys : List Int) : Prop := ∃ s c t d, w.cell? ⟨b, o, none⟩ = some (.slice s xs.length c) ∧ w.cell? ⟨b, o + 1, none⟩ = some (.slice t ys.length d) ∧
  Rd w (intsD xs) (.slice s xs.length c) ∧ Rd w (intsD ys) (.slice t ys.length d)
theorem WdAt.below {w w' : World} {b o : Nat} {xs ys : List Int} (h : WdAt w b o xs ys) (hb : Below w.heap.size w w') : WdAt w' b o xs ys := by
  obtain ⟨s, c, t, d, h0, h1, h2, h3⟩ := h
  have hl : b < w.heap.size := World.block_lt_of_cell? w _ h0
  exact ⟨s, c, t, d, (hb.cell (p := ⟨b, o, none⟩) hl).trans h0, (hb.cell (p := ⟨b, o + 1, none⟩) hl).trans h1, h2.below hb, h3.below hb⟩

theorem wrap_of {n : Int} (h0 : -1000000 ≤ n) (h1 : n ≤ 1000000000000000000) : IntKind.i64.wrap n = n := IntWalk.i64_in n (by omega)

set_option maxHeartbeats 1000000 in
theorem l01Word_i {t a : Int} {xs ys : List Int} {b o : Nat} {w : World} (hw : WdAt w b o xs ys) :
    Calls Try.prog 74 #[.agg #[.int .i64 t, .int .i64 a], .pointer (some ⟨b, o, none⟩)] w fun e w' => e = .returned (.bool (wordB t a xs ys)) ∧ Below w.heap.size w w' := by
  have hW := hw
  obtain ⟨s, c, u, d, g0, g1, hr, hr'⟩ := hw
  obtain ⟨-, hlen, hcap, -⟩ := hr.sl_at
  obtain ⟨-, hlen', hcap', -⟩ := hr'.sl_at
  unfold maxLen at hcap hcap'
  have hbl : b < w.heap.size := World.block_lt_of_cell? w _ g0
  go_enter Try.func74, Try.ntmps74
  go_wp2_with fail
  have hW0 := hW.below (Below.alloc (Below.refl _ _) (Nat.le_refl _) (.cells #[.int .i64 t, .int .i64 a] 30))
  have L := Blk.new2 w 30 (.int .i64 t) (.int .i64 a)
  have hB : Below w.heap.size w (w.alloc (.cells #[.int .i64 t, .int .i64 a] 30)) := by (repeat' (first | exact Below.refl _ _ | assumption | (refine Below.alloc ?_ (by first | omega | (simp; done) | (simp; omega)) _) | (refine Below.drew ?_) | (refine Below.setCell ?_ (by first | omega | (simp; done) | (simp; omega)) _)))
  generalize w.alloc (.cells #[.int .i64 t, .int .i64 a] 30) = w0 at hW0 L hB ⊢
  clear hW g0 g1 hr hr'
  obtain ⟨s, c, u, d, g0, g1, hr, hr'⟩ := hW0
  have gg0 := fun d os => cell_regrown g0 d os
  have gg1 := fun d os => cell_regrown g1 d os
  have gl0 := fun d os => cell_regrown L.c0 d os
  have gl1 := fun d os => cell_regrown L.c1 d os
  cases hs : sigB t a
  · have c2 : wordB t a xs ys = false := by simp [wordB, hs]
    refine Go.wp_region_quiet_below (by kernel_rfl) (by kernel_rfl) ?_
    repeat (first | go_big_quiet_step ((exact Calls.regrown_of (l01Sig_any _ _ _))) | quiet_step ((exact Calls.regrown_of (l01Sig_any _ _ _))))
    refine wpQuiet_nil ?_; intro _ hw'; obtain ⟨⟨dq, osq⟩, hw''⟩ := hw'; subst hw''; have hq := below_regrown w0 dq osq; revert hq; generalize grow (redrawn w0 dq) osq = w1; intro hq
    replace hB := Below.on hB hq hB.size
    clear hq gg0 gg1 gl0 gl1
    go_wp2_with fail
    go_ret
    exact ⟨by first | rfl | (rw [c2]; rfl), hB⟩
  obtain ⟨ht0, ht1, ha0, ha1⟩ := sigB_bd hs
  by_cases h10 : ys.length ≤ 10
  rotate_left
  · have c2 : wordB t a xs ys = false := by simp [wordB, h10]
    have d1 : decide (10 < (ys.length : Int)) = true := by simp; omega
    refine Go.wp_region_quiet_below (by kernel_rfl) (by kernel_rfl) ?_
    repeat (first | go_big_quiet_step ((exact Calls.regrown_of (l01Sig_any _ _ _))) | quiet_step ((exact Calls.regrown_of (l01Sig_any _ _ _))))
    refine wpQuiet_nil ?_; intro _ hw'; obtain ⟨⟨dq, osq⟩, hw''⟩ := hw'; subst hw''; have hq := below_regrown w0 dq osq; revert hq; generalize grow (redrawn w0 dq) osq = w1; intro hq
    replace hB := Below.on hB hq hB.size
    clear hq gg0 gg1 gl0 gl1
    go_wp2_with fail
    go_ret
    exact ⟨by first | rfl | (rw [c2]; rfl), hB⟩
  have d1 : decide (10 < (ys.length : Int)) = false := by simp; omega
  have q1 : IntKind.i64.wrap ((ys.length : Int) + 1) = (ys.length : Int) + 1 := wrap_of (by omega) (by omega)
  by_cases h11 : xs.length = ys.length + 1
  rotate_left
  · have c2 : wordB t a xs ys = false := by simp [wordB, h11]
    have d2 : ((xs.length : Int) != (ys.length : Int) + 1) = true := by simp; omega
    clear h11
    refine Go.wp_region_quiet_below (by kernel_rfl) (by kernel_rfl) ?_
    repeat (first | go_big_quiet_step ((exact Calls.regrown_of (l01Sig_any _ _ _))) | quiet_step ((exact Calls.regrown_of (l01Sig_any _ _ _))))
    refine wpQuiet_nil ?_; intro _ hw'; obtain ⟨⟨dq, osq⟩, hw''⟩ := hw'; subst hw''; have hq := below_regrown w0 dq osq; revert hq; generalize grow (redrawn w0 dq) osq = w1; intro hq
    replace hB := Below.on hB hq hB.size
    clear hq gg0 gg1 gl0 gl1
    go_wp2_with fail
    go_ret
    exact ⟨by first | rfl | (rw [c2]; rfl), hB⟩
  have d2 : ((xs.length : Int) != (ys.length : Int) + 1) = false := by simp [h11]
  have Hc : Hid (wordB t a xs ys = (allIn xs (atomsN t) && allIn ys a)) := by show _ = _; simp [wordB, hs, h10, h11]
  have hxl : xs.length ≤ 11 := by omega
  have hat := atomsN_bd t
  have q2 : IntKind.i64.wrap (atomsN t - 1) = atomsN t - 1 := wrap_of (by omega) (by omega)
  have q3 : IntKind.i64.wrap (a - 1) = a - 1 := wrap_of (by omega) (by omega)
  clear h11
  refine Go.wp_region_quiet_below (by kernel_rfl) (by kernel_rfl) ?_
  repeat (first | go_big_quiet_step ((exact Calls.regrown_of (l01Sig_any _ _ _))) | quiet_step ((exact Calls.regrown_of (l01Sig_any _ _ _))))
  refine wpQuiet_nil ?_; intro _ hw'; obtain ⟨⟨dq, osq⟩, hw''⟩ := hw'; subst hw''; have hq := below_regrown w0 dq osq; revert hq; generalize grow (redrawn w0 dq) osq = w1; intro hq
  have hWE : WdAt w0 b o xs ys := ⟨s, c, u, d, g0, g1, hr, hr'⟩
  replace hWE := hWE.below hq
  replace L := L.below hq
  replace hB := Below.on hB hq hB.size
  clear hq gg0 gg1 gl0 gl1 d1 d2 q1 hs g0 g1 hr hr'
  go_wp2_with fail
  go_loopw [5] (fun i wr => ∃ k : Nat, k ≤ xs.length ∧ i = .int .i64 k ∧ allIn (xs.take k) (atomsN t) = true ∧ WdAt wr b o xs ys ∧ Blk wr w.heap.size 30 [.int .i64 t, .int .i64 a] ∧ Below w.heap.size w wr) (fun i _ => xs.length - (intOf i).toNat)
  case atStart => exact ⟨0, by omega, rfl, by simp [allIn], hWE, L, hB⟩
  case round =>
    clear hWE L hB
    obtain ⟨k, hk, rfl, hpre, hWE, L, hB⟩ := hrel
    have Hpre := Lib.hid hpre
    clear hpre
    have hWE' := hWE
    obtain ⟨s1, c1, u1, d1, g0, g1, hr, hr'⟩ := hWE'
    have hzB := hB.size
    by_cases hlt : k < xs.length
    · obtain ⟨z, hz⟩ : ∃ e, xs[k]? = some e := ⟨_, List.getElem?_eq_getElem hlt⟩
      obtain ⟨p, q, rfl⟩ := int_some hr (by omega)
      obtain ⟨-, gz⟩ := int_in hr hz
      have ha := Int.natCast_nonneg k
      have hb : (k : Int) < (xs.length : Int) := by omega
      have gg0 := fun d os => cell_regrown g0 d os
      have ggz := fun d os => cell_regrown gz d os
      have gl0 := fun d os => cell_regrown L.c0 d os
      have gl1 := fun d os => cell_regrown L.c1 d os
      have Htk := Lib.hid (@allIn_take_succ xs (atomsN t) k z hz)
      have Hfl := Lib.hid (@allIn_false xs (atomsN t) k z hz)
      go_wp2_with fail
      refine Go.wp_region_quiet_below (by kernel_rfl) (by kernel_rfl) ?_
      repeat (first | go_big_quiet_step ((first | exact Calls.regrown_of (l01Atoms_i ht0 ht1) | exact Calls.regrown_of (in_B _ _ _ _))) | quiet_step ((first | exact Calls.regrown_of (l01Atoms_i ht0 ht1) | exact Calls.regrown_of (in_B _ _ _ _))))
      refine wpQuiet_nil ?_; intro _ hw'; obtain ⟨⟨dq, osq⟩, hw''⟩ := hw'; subst hw''; have hq := below_regrown wr dq osq; revert hq; generalize grow (redrawn wr dq) osq = w1; intro hq
      replace hWE := hWE.below hq
      replace L := L.below hq
      replace hB := Below.on hB hq hB.size
      clear hq gg0 ggz gl0 gl1 g0 g1 gz
      cases hz1 : inB z 0 (atomsN t - 1)
      · have c2 : wordB t a xs ys = false := by rw [Hc.out, Hfl.out hz1]; rfl
        simp only [Bool.not_false]
        go_wp2_with fail
        go_ret
        exact ⟨by first | rfl | (rw [c2]; rfl), hB⟩
      · have Hst : Hid (allIn (xs.take (k + 1)) (atomsN t) = true) := by show _ = _; rw [Htk.out, Hpre.out, hz1]; rfl
        simp only [Bool.not_true]
        go_wp2_with fail
        go_roundw
        case rel => exact ⟨k + 1, by omega, by go_num, Hst.out, hWE, L, hB⟩
        case measure => simp [intOf]; omega
    · obtain rfl : k = xs.length := by omega
      have Hx : Hid (allIn xs (atomsN t) = true) := by have := Hpre.out; rw [List.take_length] at this; exact this
      clear Hpre
      go_wp2_with fail
      go_loopw [6] (fun i wr => ∃ k : Nat, k ≤ ys.length ∧ i = .int .i64 k ∧ allIn (ys.take k) a = true ∧ WdAt wr b o xs ys ∧ Blk wr w.heap.size 30 [.int .i64 t, .int .i64 a] ∧ Below w.heap.size w wr) (fun i _ => ys.length - (intOf i).toNat)
      case atStart => exact ⟨0, by omega, rfl, by simp [allIn], hWE, L, hB⟩
      case round =>
        clear hWE L hB g0 g1 hr hr'
        obtain ⟨k, hk, rfl, hpre, hWE, L, hB⟩ := hrel
        have Hpre := Lib.hid hpre
        clear hpre
        have hWE' := hWE
        obtain ⟨s1, c1, u1, d1, g0, g1, hr, hr'⟩ := hWE'
        by_cases hlt : k < ys.length
        · obtain ⟨z, hz⟩ : ∃ e, ys[k]? = some e := ⟨_, List.getElem?_eq_getElem hlt⟩
          obtain ⟨p, q, rfl⟩ := int_some hr' (by omega)
          obtain ⟨-, gz⟩ := int_in hr' hz
          have ha := Int.natCast_nonneg k
          have hb : (k : Int) < (ys.length : Int) := by omega
          have gg1 := fun d os => cell_regrown g1 d os
          have ggz := fun d os => cell_regrown gz d os
          have gl1 := fun d os => cell_regrown L.c1 d os
          have Htk := Lib.hid (@allIn_take_succ ys a k z hz)
          have Hfl := Lib.hid (@allIn_false ys a k z hz)
          go_wp2_with fail
          refine Go.wp_region_quiet_below (by kernel_rfl) (by kernel_rfl) ?_
          repeat (first | go_big_quiet_step ((exact Calls.regrown_of (in_B _ _ _ _))) | quiet_step ((exact Calls.regrown_of (in_B _ _ _ _))))
          refine wpQuiet_nil ?_; intro _ hw'; obtain ⟨⟨dq, osq⟩, hw''⟩ := hw'; subst hw''; have hq := below_regrown wr dq osq; revert hq; generalize grow (redrawn wr dq) osq = w1; intro hq
          replace hWE := hWE.below hq
          replace L := L.below hq
          replace hB := Below.on hB hq hB.size
          clear hq gg1 ggz gl1 g0 g1 gz
          cases hz1 : inB z 0 (a - 1)
          · have c2 : wordB t a xs ys = false := by rw [Hc.out, Hfl.out hz1]; simp
            simp only [Bool.not_false]
            go_wp2_with fail
            go_ret
            exact ⟨by first | rfl | (rw [c2]; rfl), hB⟩
          · have Hst : Hid (allIn (ys.take (k + 1)) a = true) := by show _ = _; rw [Htk.out, Hpre.out, hz1]; rfl
            simp only [Bool.not_true]
            go_wp2_with fail
            go_roundw
            case rel => exact ⟨k + 1, by omega, by go_num, Hst.out, hWE, L, hB⟩
            case measure => simp [intOf]; omega
        · obtain rfl : k = ys.length := by omega
          have c2 : wordB t a xs ys = true := by
            have := Hpre.out
            rw [List.take_length] at this
            rw [Hc.out, Hx.out, this]
            rfl
          go_wp2_with fail
          go_ret
          exact ⟨by first | rfl | (rw [c2]; rfl), hB⟩

/-- A word of a signature that is valid. -/
def traceB (t a : Int) (xs ys : List Int) : Bool := decide (xs.length = ys.length + 1) && (allIn xs (atomsN t) && allIn ys a)

set_option maxHeartbeats 1000000 in
theorem isTrace_i {t a : Int} {xs ys : List Int} {s u : Option Addr} {c d : Nat} {w : World} (hr : Rd w (intsD xs) (.slice s xs.length c)) (hr' : Rd w (intsD ys) (.slice u ys.length d)) (h10 : ys.length ≤ 100000) (hs : sigB t a = true) :
    Calls Try.prog 110 #[.agg #[.int .i64 t, .int .i64 a], .agg #[.slice s xs.length c, .slice u ys.length d]] w fun e w' => e = .returned (.bool (traceB t a xs ys)) ∧ Below w.heap.size w w' := by
  obtain ⟨ht0, ht1, ha0, ha1⟩ := sigB_bd hs
  obtain ⟨-, hlen, hcap, -⟩ := hr.sl_at
  obtain ⟨-, hlen', hcap', -⟩ := hr'.sl_at
  unfold maxLen at hcap hcap'
  have hat := atomsN_bd t
  have q1 : IntKind.i64.wrap ((ys.length : Int) + 1) = (ys.length : Int) + 1 := wrap_of (by omega) (by omega)
  go_enter Try.func110, Try.ntmps110
  go_wp2_with fail
  have L := (Blk.new2 w 30 (.int .i64 t) (.int .i64 a)).alloc (.cells #[.slice s xs.length c, .slice u ys.length d] 64)
  have M := Blk.new2 (w.alloc (.cells #[.int .i64 t, .int .i64 a] 30)) 64 (.slice s xs.length c) (.slice u ys.length d)
  simp at M
  have hB : Below w.heap.size w ((w.alloc (.cells #[.int .i64 t, .int .i64 a] 30)).alloc (.cells #[.slice s xs.length c, .slice u ys.length d] 64)) := by (repeat' (first | exact Below.refl _ _ | assumption | (refine Below.alloc ?_ (by first | omega | (simp; done) | (simp; omega)) _) | (refine Below.drew ?_) | (refine Below.setCell ?_ (by first | omega | (simp; done) | (simp; omega)) _)))
  replace hr := (hr.alloc (.cells #[.int .i64 t, .int .i64 a] 30)).alloc (.cells #[.slice s xs.length c, .slice u ys.length d] 64)
  replace hr' := (hr'.alloc (.cells #[.int .i64 t, .int .i64 a] 30)).alloc (.cells #[.slice s xs.length c, .slice u ys.length d] 64)
  generalize (w.alloc (.cells #[.int .i64 t, .int .i64 a] 30)).alloc (.cells #[.slice s xs.length c, .slice u ys.length d] 64) = w0 at L M hB hr hr' ⊢
  have gl0 := fun d os => cell_regrown L.c0 d os
  have gl1 := fun d os => cell_regrown L.c1 d os
  have gm0 := fun d os => cell_regrown M.c0 d os
  have gm1 := fun d os => cell_regrown M.c1 d os
  by_cases h11 : xs.length = ys.length + 1
  · have d2 : ((xs.length : Int) == (ys.length : Int) + 1) = true := by simp [h11]
    have Hc : Hid (traceB t a xs ys = (allIn xs (atomsN t) && allIn ys a)) := by show _ = _; simp [traceB, h11]
    have hb0 : 0 ≤ atomsN t := by omega
    have hb1 : atomsN t ≤ 100 := by omega
    have hb2 : 0 ≤ a := ha0
    have hb3 : a ≤ 100 := by omega
    clear h11
    cases h1 : allIn xs (atomsN t)
    all_goals
      refine Go.wp_region_quiet_below (by kernel_rfl) (by kernel_rfl) ?_
      repeat (first | go_big_quiet_step ((first | (go_at_call 53; exact Calls.regrown_of (atomsIn_i ht0 ht1)) | (go_at_call 133; exact Calls.regrown_of (inRange_B (hr.below (below_regrown _ _ _)) hb0 hb1)) | (go_at_call 133; exact Calls.regrown_of (inRange_B (hr'.below (below_regrown _ _ _)) hb2 hb3)))) | quiet_step (fail))
      refine wpQuiet_nil ?_; intro _ hw'; obtain ⟨⟨dq, osq⟩, hw''⟩ := hw'; subst hw''; have hq := below_regrown w0 dq osq; revert hq; generalize grow (redrawn w0 dq) osq = w1; intro hq
      replace hB := Below.on hB hq hB.size
      clear hq gl0 gl1 gm0 gm1
      go_wp2_with fail
      go_ret
      exact ⟨ret_bool (by rw [Hc.out, h1]; rfl), hB⟩
  · have d2 : ((xs.length : Int) == (ys.length : Int) + 1) = false := by simp; omega
    have c2 : traceB t a xs ys = false := by simp [traceB, h11]
    clear h11
    refine Go.wp_region_quiet_below (by kernel_rfl) (by kernel_rfl) ?_
    repeat (first | go_big_quiet_step (fail) | quiet_step (fail))
    refine wpQuiet_nil ?_; intro _ hw'; obtain ⟨⟨dq, osq⟩, hw''⟩ := hw'; subst hw''; have hq := below_regrown w0 dq osq; revert hq; generalize grow (redrawn w0 dq) osq = w1; intro hq
    replace hB := Below.on hB hq hB.size
    clear hq gl0 gl1 gm0 gm1
    go_wp2_with fail
    go_ret
    exact ⟨by first | rfl | (rw [c2]; rfl), hB⟩

theorem isWord_i {t a : Int} {xs ys : List Int} {s u : Option Addr} {c d : Nat} {w : World} (hr : Rd w (intsD xs) (.slice s xs.length c)) (hr' : Rd w (intsD ys) (.slice u ys.length d)) (hs : sigB t a = true) :
    Calls Try.prog 77 #[.agg #[.int .i64 t, .int .i64 a], .agg #[.slice s xs.length c, .slice u ys.length d]] w fun e w' => e = .returned (.bool (wordB t a xs ys)) ∧ Below w.heap.size w w' := by
  obtain ⟨-, hlen, hcap, -⟩ := hr.sl_at
  obtain ⟨-, hlen', hcap', -⟩ := hr'.sl_at
  unfold maxLen at hcap hcap'
  by_cases h10 : ys.length ≤ 10
  · have Hc : Hid (wordB t a xs ys = traceB t a xs ys) := by show _ = _; simp [wordB, traceB, hs, h10, Bool.and_assoc]
    have d1 : decide ((ys.length : Int) ≤ 10) = true := by simp; omega
    go_enter Try.func77, Try.ntmps77
    go_wp2_with fail
    refine (isTrace_i ((hr.alloc _).alloc _) ((hr'.alloc _).alloc _) (by omega) hs).mono ?_
    rintro x w1 ⟨rfl, hb⟩
    have hB : Below w.heap.size w w1 := Below.on (by (repeat' (first | exact Below.refl _ _ | assumption | (refine Below.alloc ?_ (by first | omega | (simp; done) | (simp; omega)) _) | (refine Below.drew ?_) | (refine Below.setCell ?_ (by first | omega | (simp; done) | (simp; omega)) _)))) hb (by simp; omega)
    go_wp2_with fail
    go_ret
    exact ⟨ret_bool (by rw [Hc.out]), hB⟩
  · have c2 : wordB t a xs ys = false := by simp [wordB, h10]
    have d1 : decide ((ys.length : Int) ≤ 10) = false := by simp; omega
    rw [c2]
    go_enter Try.func77, Try.ntmps77
    go_wp2_with fail
    go_ret
    exact ⟨rfl, by (repeat' (first | exact Below.refl _ _ | assumption | (refine Below.alloc ?_ (by first | omega | (simp; done) | (simp; omega)) _) | (refine Below.drew ?_) | (refine Below.setCell ?_ (by first | omega | (simp; done) | (simp; omega)) _)))⟩

end Go.Proofs.Ytlnojmmjpgpjdaa
