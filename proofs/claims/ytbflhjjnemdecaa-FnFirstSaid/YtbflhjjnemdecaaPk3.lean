/-
  Parts of a proof, joined: Trace, Shape, Ok. No condition.
-/
import Derived.Test.YtbflhjjnemdecaaPk2
namespace Go.Proofs.Ytbflhjjnemdecaa
set_option linter.unusedVariables false
set_option linter.unusedSimpArgs false
open Go.ChangeShapes Go.WideShapes Go.ChangeAt Go.RowKit Go.Sort
def atomsN (t : Int) : Int := if t = 0 then 1 else if t = 1 then 2 else if t = 2 then 4 else 8
theorem atomsN_bd (t : Int) : 1 ≤ atomsN t ∧ atomsN t ≤ 8 := by unfold atomsN; split <;> (try split) <;> (try split) <;> omega
def allIn (zs : List Int) (n : Int) : Bool := zs.all fun z => inB z 0 (n - 1)
theorem allIn_take_succ {zs : List Int} {n : Int} {i : Nat} {z : Int} (h : zs[i]? = some z) : allIn (zs.take (i + 1)) n = (allIn (zs.take i) n && inB z 0 (n - 1)) := by
 obtain ⟨hi, rfl⟩ := List.getElem?_eq_some_iff.1 h
 unfold allIn
 rw [List.take_succ_eq_append_getElem hi, List.all_append]
 congr 1
 simp
theorem allIn_false {zs : List Int} {n : Int} {i : Nat} {z : Int} (h : zs[i]? = some z) (hc : inB z 0 (n - 1) = false) : allIn zs n = false := by
 unfold allIn
 rw [List.all_eq_false]
 exact ⟨z, List.mem_of_getElem? h, by simp [hc]⟩
def wordB (t a : Int) (xs ys : List Int) : Bool := sigB t a && decide (ys.length ≤ 10) && decide (xs.length = ys.length + 1) && allIn xs (atomsN t) && allIn ys a
theorem sigB_bd {t a : Int} (h : sigB t a = true) : 0 ≤ t ∧ t ≤ 3 ∧ 0 ≤ a ∧ a ≤ 4 := by
 simp [sigB, inB] at h
 omega
theorem within_B (n lo hi : Int) (w : World) : Calls Try.prog 68 #[.int .i64 n, .int .i64 lo, .int .i64 hi] w fun e w' => e = .returned (.bool (inB n lo hi)) ∧ Below w.heap.size w w' :=
 (within_any n lo hi w).mono fun _ _ ⟨h1, h2⟩ => ⟨h1, below_self h2⟩
theorem in_B (n lo hi : Int) (w : World) : Calls Try.prog 63 #[.int .i64 n, .int .i64 lo, .int .i64 hi] w fun e w' => e = .returned (.bool (inB n lo hi)) ∧ Below w.heap.size w w' :=
 (in_any n lo hi w).mono fun _ _ ⟨h1, h2⟩ => ⟨h1, below_self h2⟩
theorem atomsIn_i {t a : Int} {w : World} (h0 : 0 ≤ t) (h1 : t ≤ 3) : Calls Try.prog 118 #[.agg #[.int .i64 t, .int .i64 a]] w fun e w' => e = .returned (.int .i64 (atomsN t)) ∧ Below w.heap.size w w' := by
 have h : t = 0 ∨ t = 1 ∨ t = 2 ∨ t = 3 := by omega
 rcases h with h | h | h | h
 all_goals
  subst h
  go_enter Try.func118, Try.ntmps118
  go_wp2
  go_ret
  exact ⟨rfl, by (repeat' first | exact Below.refl _ _ | assumption | apply Below.alloc | apply Below.drew | apply Below.setCell | omega | (simp; done) | (simp; omega))⟩
theorem l01Atoms_i {t a : Int} {w : World} (h0 : 0 ≤ t) (h1 : t ≤ 3) : Calls Try.prog 103 #[.agg #[.int .i64 t, .int .i64 a]] w fun e w' => e = .returned (.int .i64 (atomsN t)) ∧ Below w.heap.size w w' := by
 have h : t = 0 ∨ t = 1 ∨ t = 2 ∨ t = 3 := by omega
 rcases h with h | h | h | h
 all_goals
  subst h
  go_enter Try.func103, Try.ntmps103
  go_wp2
  go_ret
  exact ⟨rfl, by (repeat' first | exact Below.refl _ _ | assumption | apply Below.alloc | apply Below.drew | apply Below.setCell | omega | (simp; done) | (simp; omega))⟩
theorem inRange_i {zs : List Int} {s : Option Addr} {c : Nat} {n : Int} {w : World} (hr : Rd w (intsD zs) (.slice s zs.length c)) (h0 : 0 ≤ n) (h1 : n ≤ 100) :
  Calls Try.prog 144 #[.slice s zs.length c, .int .i64 n] w fun e w' => e = .returned (.bool (allIn zs n)) ∧ w = w' := by
 obtain ⟨-, hlen, hcap, -⟩ := hr.sl_at
 unfold maxLen at hcap
 go_enter Try.func144, Try.ntmps144
 go_wp2_with fail
 go_loop [9] (fun i => ∃ k : Nat, k ≤ zs.length ∧ i = .int .i64 k ∧ allIn (zs.take k) n = true) (fun i => zs.length - (intOf i).toNat)
 case atStart => exact ⟨0, by omega, rfl, by simp [allIn]⟩
 case round =>
  obtain ⟨k, hk, rfl, hpre⟩ := hrel
  have Hpre := Lib.hid hpre
  clear hpre
  by_cases hlt : k < zs.length
  ·
   obtain ⟨z, hz⟩ : ∃ e, zs[k]? = some e := ⟨_, List.getElem?_eq_getElem hlt⟩
   obtain ⟨b, o, rfl⟩ := int_some hr (by omega)
   obtain ⟨-, g0⟩ := int_in hr hz
   have Htk := Lib.hid (@allIn_take_succ zs n k z hz)
   have Hfl := Lib.hid (@allIn_false zs n k z hz)
   go_wp2_with ((go_at_call 68; ((with_reducible refine (within_any _ _ _ _).mono ?_); rintro e w' ⟨rfl, rfl⟩)))
   ·
    go_ret
    exact ⟨ret_bool (by rw [Hfl.out (by simp_all)]), rfl⟩
   ·
    go_round
    case rel => exact ⟨k + 1, by omega, by go_num, by rw [Htk.out, Hpre.out]; simp_all⟩
    case measure => simp [intOf]; omega
  ·
   obtain rfl : k = zs.length := by omega
   have c2 : allIn zs n = true := by have := Hpre.out; rwa [List.take_length] at this
   go_wp2_with fail
   go_ret
   exact ⟨by first | rfl | (rw [c2]; rfl), rfl⟩
theorem inRange_B {zs : List Int} {s : Option Addr} {c : Nat} {n : Int} {w : World} (hr : Rd w (intsD zs) (.slice s zs.length c)) (h0 : 0 ≤ n) (h1 : n ≤ 100) :
  Calls Try.prog 144 #[.slice s zs.length c, .int .i64 n] w fun e w' => e = .returned (.bool (allIn zs n)) ∧ Below w.heap.size w w' :=
 (inRange_i hr h0 h1).mono fun _ _ ⟨h1, h2⟩ => ⟨h1, below_self h2⟩
def WdAt (w : World) (b o : Nat) (xs ys : List Int) : Prop := ∃ s c t d, w.cell? ⟨b, o, none⟩ = some (.slice s xs.length c) ∧ w.cell? ⟨b, o + 1, none⟩ = some (.slice t ys.length d) ∧
 Rd w (intsD xs) (.slice s xs.length c) ∧ Rd w (intsD ys) (.slice t ys.length d)
theorem WdAt.below {w w' : World} {b o : Nat} {xs ys : List Int} (h : WdAt w b o xs ys) (hb : Below w.heap.size w w') : WdAt w' b o xs ys := by
 obtain ⟨s, c, t, d, h0, h1, h2, h3⟩ := h
 have hl : b < w.heap.size := World.block_lt_of_cell? w _ h0
 exact ⟨s, c, t, d, (hb.cell (p := ⟨b, o, none⟩) hl).trans h0, (hb.cell (p := ⟨b, o + 1, none⟩) hl).trans h1, h2.below hb, h3.below hb⟩
theorem wrap_of {n : Int} (h0 : -1000000 ≤ n) (h1 : n ≤ 1000000000000000000) : IntKind.i64.wrap n = n := IntWalk.i64_in n (by omega)
set_option maxHeartbeats 1000000 in
theorem l01Word_i {t a : Int} {xs ys : List Int} {b o : Nat} {w : World} (hw : WdAt w b o xs ys) :
  Calls Try.prog 51 #[.agg #[.int .i64 t, .int .i64 a], .pointer (some ⟨b, o, none⟩)] w fun e w' => e = .returned (.bool (wordB t a xs ys)) ∧ Below w.heap.size w w' := by
 have hW := hw
 obtain ⟨s, c, u, d, g0, g1, hr, hr'⟩ := hw
 obtain ⟨-, hlen, hcap, -⟩ := hr.sl_at
 obtain ⟨-, hlen', hcap', -⟩ := hr'.sl_at
 unfold maxLen at hcap hcap'
 have hbl : b < w.heap.size := World.block_lt_of_cell? w _ g0
 go_enter Try.func51, Try.ntmps51
 go_wp2_with fail
 have hW0 := hW.below (Below.alloc (Below.refl _ _) (Nat.le_refl _) (.cells #[.int .i64 t, .int .i64 a] 34))
 have L := Blk.new2 w 34 (.int .i64 t) (.int .i64 a)
 have hB : Below w.heap.size w (w.alloc (.cells #[.int .i64 t, .int .i64 a] 34)) := by (repeat' first | exact Below.refl _ _ | assumption | apply Below.alloc | apply Below.drew | apply Below.setCell | omega | (simp; done) | (simp; omega))
 generalize w.alloc (.cells #[.int .i64 t, .int .i64 a] 34) = w0 at hW0 L hB ⊢
 clear hW g0 g1 hr hr'
 obtain ⟨s, c, u, d, g0, g1, hr, hr'⟩ := hW0
 have gg0 := fun d os => cell_regrown g0 d os
 have gg1 := fun d os => cell_regrown g1 d os
 have gl0 := fun d os => cell_regrown L.c0 d os
 have gl1 := fun d os => cell_regrown L.c1 d os
 cases hs : sigB t a
 ·
  have c2 : wordB t a xs ys = false := by simp [wordB, hs]
  refine Go.wp_region_quiet_below (by kernel_rfl) (by kernel_rfl) ?_
  repeat (first | go_big_quiet_step ((exact Calls.regrown_of (l01Sig_any _ _ _))) | quiet_step ((exact Calls.regrown_of (l01Sig_any _ _ _))))
  refine wpQuiet_nil ?_; intro _ hw'; obtain ⟨⟨dq, osq⟩, hw''⟩ := hw'; subst hw''; have hq := below_regrown w0 dq osq; revert hq; generalize grow (redrawn w0 dq) osq = w1; intro hq
  replace hB := Below.on hB hq hB.size
  clear hq gg0 gg1 gl0 gl1
  go_wp2_with fail
  go_ret
  exact ⟨by first | rfl | (rw [c2]; rfl), hB⟩
 obtain ⟨ht0, ht1, ha0, ha1⟩ := sigB_bd hs
 by_cases h10 : ys.length ≤ 10
 rotate_left
 ·
  have c2 : wordB t a xs ys = false := by simp [wordB, h10]
  have d1 : decide (10 < (ys.length : Int)) = true := by simp; omega
  refine Go.wp_region_quiet_below (by kernel_rfl) (by kernel_rfl) ?_
  repeat (first | go_big_quiet_step ((exact Calls.regrown_of (l01Sig_any _ _ _))) | quiet_step ((exact Calls.regrown_of (l01Sig_any _ _ _))))
  refine wpQuiet_nil ?_; intro _ hw'; obtain ⟨⟨dq, osq⟩, hw''⟩ := hw'; subst hw''; have hq := below_regrown w0 dq osq; revert hq; generalize grow (redrawn w0 dq) osq = w1; intro hq
  replace hB := Below.on hB hq hB.size
  clear hq gg0 gg1 gl0 gl1
  go_wp2_with fail
  go_ret
  exact ⟨by first | rfl | (rw [c2]; rfl), hB⟩
 have d1 : decide (10 < (ys.length : Int)) = false := by simp; omega
 have q1 : IntKind.i64.wrap ((ys.length : Int) + 1) = (ys.length : Int) + 1 := wrap_of (by omega) (by omega)
 by_cases h11 : xs.length = ys.length + 1
 rotate_left
 ·
  have c2 : wordB t a xs ys = false := by simp [wordB, h11]
  have d2 : ((xs.length : Int) != (ys.length : Int) + 1) = true := by simp; omega
  clear h11
  refine Go.wp_region_quiet_below (by kernel_rfl) (by kernel_rfl) ?_
  repeat (first | go_big_quiet_step ((exact Calls.regrown_of (l01Sig_any _ _ _))) | quiet_step ((exact Calls.regrown_of (l01Sig_any _ _ _))))
  refine wpQuiet_nil ?_; intro _ hw'; obtain ⟨⟨dq, osq⟩, hw''⟩ := hw'; subst hw''; have hq := below_regrown w0 dq osq; revert hq; generalize grow (redrawn w0 dq) osq = w1; intro hq
  replace hB := Below.on hB hq hB.size
  clear hq gg0 gg1 gl0 gl1
  go_wp2_with fail
  go_ret
  exact ⟨by first | rfl | (rw [c2]; rfl), hB⟩
 have d2 : ((xs.length : Int) != (ys.length : Int) + 1) = false := by simp [h11]
 have Hc : Hid (wordB t a xs ys = (allIn xs (atomsN t) && allIn ys a)) := by show _ = _; simp [wordB, hs, h10, h11]
 have hxl : xs.length ≤ 11 := by omega
 have hat := atomsN_bd t
 have q2 : IntKind.i64.wrap (atomsN t - 1) = atomsN t - 1 := wrap_of (by omega) (by omega)
 have q3 : IntKind.i64.wrap (a - 1) = a - 1 := wrap_of (by omega) (by omega)
 clear h11
 refine Go.wp_region_quiet_below (by kernel_rfl) (by kernel_rfl) ?_
 repeat (first | go_big_quiet_step ((exact Calls.regrown_of (l01Sig_any _ _ _))) | quiet_step ((exact Calls.regrown_of (l01Sig_any _ _ _))))
 refine wpQuiet_nil ?_; intro _ hw'; obtain ⟨⟨dq, osq⟩, hw''⟩ := hw'; subst hw''; have hq := below_regrown w0 dq osq; revert hq; generalize grow (redrawn w0 dq) osq = w1; intro hq
 have hWE : WdAt w0 b o xs ys := ⟨s, c, u, d, g0, g1, hr, hr'⟩
 replace hWE := hWE.below hq
 replace L := L.below hq
 replace hB := Below.on hB hq hB.size
 clear hq gg0 gg1 gl0 gl1 d1 d2 q1 hs g0 g1 hr hr'
 go_wp2_with fail
 go_loopw [5] (fun i wr => ∃ k : Nat, k ≤ xs.length ∧ i = .int .i64 k ∧ allIn (xs.take k) (atomsN t) = true ∧ WdAt wr b o xs ys ∧ Blk wr w.heap.size 34 [.int .i64 t, .int .i64 a] ∧ Below w.heap.size w wr) (fun i _ => xs.length - (intOf i).toNat)
 case atStart => exact ⟨0, by omega, rfl, by simp [allIn], hWE, L, hB⟩
 case round =>
  clear hWE L hB
  obtain ⟨k, hk, rfl, hpre, hWE, L, hB⟩ := hrel
  have Hpre := Lib.hid hpre
  clear hpre
  have hWE' := hWE
  obtain ⟨s1, c1, u1, d1, g0, g1, hr, hr'⟩ := hWE'
  have hzB := hB.size
  by_cases hlt : k < xs.length
  ·
   obtain ⟨z, hz⟩ : ∃ e, xs[k]? = some e := ⟨_, List.getElem?_eq_getElem hlt⟩
   obtain ⟨p, q, rfl⟩ := int_some hr (by omega)
   obtain ⟨-, gz⟩ := int_in hr hz
   have ha := Int.natCast_nonneg k
   have hb : (k : Int) < (xs.length : Int) := by omega
   have gg0 := fun d os => cell_regrown g0 d os
   have ggz := fun d os => cell_regrown gz d os
   have gl0 := fun d os => cell_regrown L.c0 d os
   have gl1 := fun d os => cell_regrown L.c1 d os
   have Htk := Lib.hid (@allIn_take_succ xs (atomsN t) k z hz)
   have Hfl := Lib.hid (@allIn_false xs (atomsN t) k z hz)
   go_wp2_with fail
   refine Go.wp_region_quiet_below (by kernel_rfl) (by kernel_rfl) ?_
   repeat (first | go_big_quiet_step ((first | exact Calls.regrown_of (l01Atoms_i ht0 ht1) | exact Calls.regrown_of (in_B _ _ _ _))) | quiet_step ((first | exact Calls.regrown_of (l01Atoms_i ht0 ht1) | exact Calls.regrown_of (in_B _ _ _ _))))
   refine wpQuiet_nil ?_; intro _ hw'; obtain ⟨⟨dq, osq⟩, hw''⟩ := hw'; subst hw''; have hq := below_regrown wr dq osq; revert hq; generalize grow (redrawn wr dq) osq = w1; intro hq
   replace hWE := hWE.below hq
   replace L := L.below hq
   replace hB := Below.on hB hq hB.size
   clear hq gg0 ggz gl0 gl1 g0 g1 gz
   cases hz1 : inB z 0 (atomsN t - 1)
   ·
    have c2 : wordB t a xs ys = false := by rw [Hc.out, Hfl.out hz1]; rfl
    simp only [Bool.not_false]
    go_wp2_with fail
    go_ret
    exact ⟨by first | rfl | (rw [c2]; rfl), hB⟩
   ·
    have Hst : Hid (allIn (xs.take (k + 1)) (atomsN t) = true) := by show _ = _; rw [Htk.out, Hpre.out, hz1]; rfl
    simp only [Bool.not_true]
    go_wp2_with fail
    go_roundw
    case rel => exact ⟨k + 1, by omega, by go_num, Hst.out, hWE, L, hB⟩
    case measure => simp [intOf]; omega
  ·
   obtain rfl : k = xs.length := by omega
   have Hx : Hid (allIn xs (atomsN t) = true) := by have := Hpre.out; rw [List.take_length] at this; exact this
   clear Hpre
   go_wp2_with fail
   go_loopw [6] (fun i wr => ∃ k : Nat, k ≤ ys.length ∧ i = .int .i64 k ∧ allIn (ys.take k) a = true ∧ WdAt wr b o xs ys ∧ Blk wr w.heap.size 34 [.int .i64 t, .int .i64 a] ∧ Below w.heap.size w wr) (fun i _ => ys.length - (intOf i).toNat)
   case atStart => exact ⟨0, by omega, rfl, by simp [allIn], hWE, L, hB⟩
   case round =>
    clear hWE L hB g0 g1 hr hr'
    obtain ⟨k, hk, rfl, hpre, hWE, L, hB⟩ := hrel
    have Hpre := Lib.hid hpre
    clear hpre
    have hWE' := hWE
    obtain ⟨s1, c1, u1, d1, g0, g1, hr, hr'⟩ := hWE'
    by_cases hlt : k < ys.length
    ·
     obtain ⟨z, hz⟩ : ∃ e, ys[k]? = some e := ⟨_, List.getElem?_eq_getElem hlt⟩
     obtain ⟨p, q, rfl⟩ := int_some hr' (by omega)
     obtain ⟨-, gz⟩ := int_in hr' hz
     have ha := Int.natCast_nonneg k
     have hb : (k : Int) < (ys.length : Int) := by omega
     have gg1 := fun d os => cell_regrown g1 d os
     have ggz := fun d os => cell_regrown gz d os
     have gl1 := fun d os => cell_regrown L.c1 d os
     have Htk := Lib.hid (@allIn_take_succ ys a k z hz)
     have Hfl := Lib.hid (@allIn_false ys a k z hz)
     go_wp2_with fail
     refine Go.wp_region_quiet_below (by kernel_rfl) (by kernel_rfl) ?_
     repeat (first | go_big_quiet_step ((exact Calls.regrown_of (in_B _ _ _ _))) | quiet_step ((exact Calls.regrown_of (in_B _ _ _ _))))
     refine wpQuiet_nil ?_; intro _ hw'; obtain ⟨⟨dq, osq⟩, hw''⟩ := hw'; subst hw''; have hq := below_regrown wr dq osq; revert hq; generalize grow (redrawn wr dq) osq = w1; intro hq
     replace hWE := hWE.below hq
     replace L := L.below hq
     replace hB := Below.on hB hq hB.size
     clear hq gg1 ggz gl1 g0 g1 gz
     cases hz1 : inB z 0 (a - 1)
     ·
      have c2 : wordB t a xs ys = false := by rw [Hc.out, Hfl.out hz1]; simp
      simp only [Bool.not_false]
      go_wp2_with fail
      go_ret
      exact ⟨by first | rfl | (rw [c2]; rfl), hB⟩
     ·
      have Hst : Hid (allIn (ys.take (k + 1)) a = true) := by show _ = _; rw [Htk.out, Hpre.out, hz1]; rfl
      simp only [Bool.not_true]
      go_wp2_with fail
      go_roundw
      case rel => exact ⟨k + 1, by omega, by go_num, Hst.out, hWE, L, hB⟩
      case measure => simp [intOf]; omega
    ·
     obtain rfl : k = ys.length := by omega
     have c2 : wordB t a xs ys = true := by
      have := Hpre.out
      rw [List.take_length] at this
      rw [Hc.out, Hx.out, this]
      rfl
     go_wp2_with fail
     go_ret
     exact ⟨by first | rfl | (rw [c2]; rfl), hB⟩
def traceB (t a : Int) (xs ys : List Int) : Bool := decide (xs.length = ys.length + 1) && (allIn xs (atomsN t) && allIn ys a)
set_option maxHeartbeats 1000000 in
theorem isTrace_i {t a : Int} {xs ys : List Int} {s u : Option Addr} {c d : Nat} {w : World} (hr : Rd w (intsD xs) (.slice s xs.length c)) (hr' : Rd w (intsD ys) (.slice u ys.length d)) (h10 : ys.length ≤ 100000) (hs : sigB t a = true) :
  Calls Try.prog 109 #[.agg #[.int .i64 t, .int .i64 a], .agg #[.slice s xs.length c, .slice u ys.length d]] w fun e w' => e = .returned (.bool (traceB t a xs ys)) ∧ Below w.heap.size w w' := by
 obtain ⟨ht0, ht1, ha0, ha1⟩ := sigB_bd hs
 obtain ⟨-, hlen, hcap, -⟩ := hr.sl_at
 obtain ⟨-, hlen', hcap', -⟩ := hr'.sl_at
 unfold maxLen at hcap hcap'
 have hat := atomsN_bd t
 have q1 : IntKind.i64.wrap ((ys.length : Int) + 1) = (ys.length : Int) + 1 := wrap_of (by omega) (by omega)
 go_enter Try.func109, Try.ntmps109
 go_wp2_with fail
 have L := (Blk.new2 w 34 (.int .i64 t) (.int .i64 a)).alloc (.cells #[.slice s xs.length c, .slice u ys.length d] 40)
 have M := Blk.new2 (w.alloc (.cells #[.int .i64 t, .int .i64 a] 34)) 40 (.slice s xs.length c) (.slice u ys.length d)
 simp at M
 have hB : Below w.heap.size w ((w.alloc (.cells #[.int .i64 t, .int .i64 a] 34)).alloc (.cells #[.slice s xs.length c, .slice u ys.length d] 40)) := by (repeat' first | exact Below.refl _ _ | assumption | apply Below.alloc | apply Below.drew | apply Below.setCell | omega | (simp; done) | (simp; omega))
 replace hr := (hr.alloc (.cells #[.int .i64 t, .int .i64 a] 34)).alloc (.cells #[.slice s xs.length c, .slice u ys.length d] 40)
 replace hr' := (hr'.alloc (.cells #[.int .i64 t, .int .i64 a] 34)).alloc (.cells #[.slice s xs.length c, .slice u ys.length d] 40)
 generalize (w.alloc (.cells #[.int .i64 t, .int .i64 a] 34)).alloc (.cells #[.slice s xs.length c, .slice u ys.length d] 40) = w0 at L M hB hr hr' ⊢
 have gl0 := fun d os => cell_regrown L.c0 d os
 have gl1 := fun d os => cell_regrown L.c1 d os
 have gm0 := fun d os => cell_regrown M.c0 d os
 have gm1 := fun d os => cell_regrown M.c1 d os
 by_cases h11 : xs.length = ys.length + 1
 ·
  have d2 : ((xs.length : Int) == (ys.length : Int) + 1) = true := by simp [h11]
  have Hc : Hid (traceB t a xs ys = (allIn xs (atomsN t) && allIn ys a)) := by show _ = _; simp [traceB, h11]
  have hb0 : 0 ≤ atomsN t := by omega
  have hb1 : atomsN t ≤ 100 := by omega
  have hb2 : 0 ≤ a := ha0
  have hb3 : a ≤ 100 := by omega
  clear h11
  cases h1 : allIn xs (atomsN t)
  all_goals
   refine Go.wp_region_quiet_below (by kernel_rfl) (by kernel_rfl) ?_
   repeat (first | go_big_quiet_step ((first | (go_at_call 118; exact Calls.regrown_of (atomsIn_i ht0 ht1)) | (go_at_call 144; exact Calls.regrown_of (inRange_B (hr.below (below_regrown _ _ _)) hb0 hb1)) | (go_at_call 144; exact Calls.regrown_of (inRange_B (hr'.below (below_regrown _ _ _)) hb2 hb3)))) | quiet_step (fail))
   refine wpQuiet_nil ?_; intro _ hw'; obtain ⟨⟨dq, osq⟩, hw''⟩ := hw'; subst hw''; have hq := below_regrown w0 dq osq; revert hq; generalize grow (redrawn w0 dq) osq = w1; intro hq
   replace hB := Below.on hB hq hB.size
   clear hq gl0 gl1 gm0 gm1
   go_wp2_with fail
   go_ret
   exact ⟨ret_bool (by rw [Hc.out, h1]; rfl), hB⟩
 ·
  have d2 : ((xs.length : Int) == (ys.length : Int) + 1) = false := by simp; omega
  have c2 : traceB t a xs ys = false := by simp [traceB, h11]
  clear h11
  refine Go.wp_region_quiet_below (by kernel_rfl) (by kernel_rfl) ?_
  repeat (first | go_big_quiet_step (fail) | quiet_step (fail))
  refine wpQuiet_nil ?_; intro _ hw'; obtain ⟨⟨dq, osq⟩, hw''⟩ := hw'; subst hw''; have hq := below_regrown w0 dq osq; revert hq; generalize grow (redrawn w0 dq) osq = w1; intro hq
  replace hB := Below.on hB hq hB.size
  clear hq gl0 gl1 gm0 gm1
  go_wp2_with fail
  go_ret
  exact ⟨by first | rfl | (rw [c2]; rfl), hB⟩
theorem isWord_i {t a : Int} {xs ys : List Int} {s u : Option Addr} {c d : Nat} {w : World} (hr : Rd w (intsD xs) (.slice s xs.length c)) (hr' : Rd w (intsD ys) (.slice u ys.length d)) (hs : sigB t a = true) :
  Calls Try.prog 56 #[.agg #[.int .i64 t, .int .i64 a], .agg #[.slice s xs.length c, .slice u ys.length d]] w fun e w' => e = .returned (.bool (wordB t a xs ys)) ∧ Below w.heap.size w w' := by
 obtain ⟨-, hlen, hcap, -⟩ := hr.sl_at
 obtain ⟨-, hlen', hcap', -⟩ := hr'.sl_at
 unfold maxLen at hcap hcap'
 by_cases h10 : ys.length ≤ 10
 ·
  have Hc : Hid (wordB t a xs ys = traceB t a xs ys) := by show _ = _; simp [wordB, traceB, hs, h10, Bool.and_assoc]
  have d1 : decide ((ys.length : Int) ≤ 10) = true := by simp; omega
  go_enter Try.func56, Try.ntmps56
  go_wp2_with fail
  refine (isTrace_i ((hr.alloc _).alloc _) ((hr'.alloc _).alloc _) (by omega) hs).mono ?_
  rintro x w1 ⟨rfl, hb⟩
  have hB : Below w.heap.size w w1 := Below.on (by (repeat' first | exact Below.refl _ _ | assumption | apply Below.alloc | apply Below.drew | apply Below.setCell | omega | (simp; done) | (simp; omega))) hb (by simp; omega)
  go_wp2_with fail
  go_ret
  exact ⟨ret_bool (by rw [Hc.out]), hB⟩
 ·
  have c2 : wordB t a xs ys = false := by simp [wordB, h10]
  have d1 : decide ((ys.length : Int) ≤ 10) = false := by simp; omega
  rw [c2]
  go_enter Try.func56, Try.ntmps56
  go_wp2_with fail
  go_ret
  exact ⟨rfl, by (repeat' first | exact Below.refl _ _ | assumption | apply Below.alloc | apply Below.drew | apply Below.setCell | omega | (simp; done) | (simp; omega))⟩
end Go.Proofs.Ytbflhjjnemdecaa

namespace Go.Proofs.Ytbflhjjnemdecaa
set_option linter.unusedVariables false
set_option linter.unusedSimpArgs false
open Go.ChangeShapes Go.WideShapes Go.ChangeAt Go.RowKit Go.Sort
mutual
def Ex.depth : Ex → Nat
 | .mk _ _ ks => 1 + Ex.depthL ks
def Ex.depthL : List Ex → Nat
 | [] => 0
 | e :: r => max e.depth (Ex.depthL r)
end
theorem Ex.depth_eq (e : Ex) : e.depth = 1 + Ex.depthL e.kids := by cases e; simp only [Ex.depth, Ex.kids]
theorem Ex.depthL_append : ∀ a b : List Ex, Ex.depthL (a ++ b) = max (Ex.depthL a) (Ex.depthL b)
 | [], b => by simp [Ex.depthL]
 | e :: r, b => by simp only [List.cons_append, Ex.depthL, Ex.depthL_append r b]; omega
theorem Ex.depthL_take_succ {ks : List Ex} {i : Nat} {e : Ex} (h : ks[i]? = some e) : Ex.depthL (ks.take (i + 1)) = max (Ex.depthL (ks.take i)) e.depth := by
 obtain ⟨hi, rfl⟩ := List.getElem?_eq_some_iff.1 h
 rw [List.take_succ_eq_append_getElem hi, Ex.depthL_append]
 simp [Ex.depthL]
mutual
theorem Ex.depth_le : ∀ e : Ex, e.depth ≤ e.size
 | .mk _ _ ks => by simp only [Ex.depth, Ex.size]; have := Ex.depthL_le ks; omega
theorem Ex.depthL_le : ∀ ks : List Ex, Ex.depthL ks ≤ Ex.sizeL ks
 | [] => by simp [Ex.depthL, Ex.sizeL]
 | e :: r => by simp only [Ex.depthL, Ex.sizeL]; have := Ex.depth_le e; have := Ex.depthL_le r; omega
end
def kidsN (k : Int) : Int := if k = 1 ∨ k = 2 ∨ k = 3 ∨ k = 4 then 0 else if k = 5 ∨ k = 8 then 1 else if k = 6 ∨ k = 7 then 2 else -1
def numB (tm am k n : Int) : Bool := if k = 3 then inB n 0 tm else if k = 4 then inB n 0 am else n == 0
def nodeB (tm am k n : Int) (ks : List Ex) : Bool := (kidsN k == (ks.length : Int)) && numB tm am k n && (k != 5 || Ex.condL ks)
mutual
def Ex.tree (tm am : Int) : Ex → Bool
 | .mk k n ks => nodeB tm am k n ks && Ex.treeL tm am ks
def Ex.treeL (tm am : Int) : List Ex → Bool
 | [] => true
 | e :: r => Ex.tree tm am e && Ex.treeL tm am r
end
theorem Ex.tree_eq (tm am : Int) (e : Ex) : e.tree tm am = (nodeB tm am e.kind e.num e.kids && Ex.treeL tm am e.kids) := by cases e; simp only [Ex.tree, Ex.kind, Ex.num, Ex.kids]
theorem Ex.treeL_append (tm am : Int) : ∀ a b : List Ex, Ex.treeL tm am (a ++ b) = (Ex.treeL tm am a && Ex.treeL tm am b)
 | [], b => by simp [Ex.treeL]
 | e :: r, b => by simp only [List.cons_append, Ex.treeL, Ex.treeL_append tm am r b, Bool.and_assoc]
theorem Ex.treeL_take_succ {tm am : Int} {ks : List Ex} {i : Nat} {e : Ex} (h : ks[i]? = some e) : Ex.treeL tm am (ks.take (i + 1)) = (Ex.treeL tm am (ks.take i) && e.tree tm am) := by
 obtain ⟨hi, rfl⟩ := List.getElem?_eq_some_iff.1 h
 rw [List.take_succ_eq_append_getElem hi, Ex.treeL_append]
 simp [Ex.treeL]
theorem Ex.treeL_false {tm am : Int} {ks : List Ex} {i : Nat} {e : Ex} (h : ks[i]? = some e) (hc : e.tree tm am = false) : Ex.treeL tm am ks = false := by
 have := Ex.treeL_append tm am (ks.take (i + 1)) (ks.drop (i + 1))
 rw [List.take_append_drop, Ex.treeL_take_succ h, hc] at this
 simpa using this
def leftF (n : Nat) (left : Int) : Int := if (n : Int) ≤ left then left - n else -1
theorem leftF_pos {n : Nat} {left : Int} (h : 0 ≤ leftF n left) : (n : Int) ≤ left ∧ leftF n left = left - n := by
 unfold leftF at h ⊢
 split at h
 ·
  rename_i hh; exact ⟨hh, by rw [if_pos hh]⟩
 ·
  omega
theorem leftF_neg {n : Nat} {left : Int} (h : ¬ 0 ≤ leftF n left) : left < (n : Int) ∧ leftF n left = -1 := by
 unfold leftF at h ⊢
 split at h
 ·
  omega
 ·
  rename_i hh; exact ⟨by omega, by rw [if_neg hh]⟩
theorem l01Left_all (N : Nat) : ∀ (e : Ex) (b o : Nat) (left : Int) (w : World), e.size ≤ N → ExAt w b o e → 0 ≤ left → left ≤ 1000000 →
  Calls Try.prog 100 #[.pointer (some ⟨b, o, none⟩), .int .i64 left] w fun f w' => f = .returned (.int .i64 (leftF e.size left)) ∧ w = w' := by
 induction N using Nat.strongRecOn with
 | _ N ih =>
 intro e b o left w hN hr h0 h1
 obtain ⟨_, _, s, c, g2, g3⟩ := hr
 obtain ⟨-, hlen, hcap, -, -⟩ := kid_at g3
 unfold maxLen at hcap
 have hse := Ex.size_eq e
 have hks : Ex.sizeL e.kids < N := by omega
 have Hse := Lib.hid hse
 clear hse
 go_enter Try.func100, Try.ntmps100
 go_wp2_with fail
 go_loop [1, 5] (fun l i => ∃ k : Nat, k ≤ e.kids.length ∧ i = .int .i64 k ∧ l = .int .i64 (leftF (1 + Ex.sizeL (e.kids.take k)) left)) (fun _ i => e.kids.length - (intOf i).toNat)
 case atStart => exact ⟨0, by omega, rfl, by congr 1; simp [Ex.sizeL, leftF]; omega⟩
 case round =>
  obtain ⟨k, hk, rfl, rfl⟩ := hrel
  by_cases hlt : k < e.kids.length
  ·
   by_cases hpos : 0 ≤ leftF (1 + Ex.sizeL (e.kids.take k)) left
   ·
    obtain ⟨p1, p2⟩ := leftF_pos hpos
    have hd : decide (0 ≤ leftF (1 + Ex.sizeL (e.kids.take k)) left) = true := by simpa using hpos
    obtain ⟨f, hf⟩ : ∃ f, e.kids[k]? = some f := ⟨_, List.getElem?_eq_getElem hlt⟩
    obtain ⟨b', o', rfl⟩ := kid_some g3 (by intro h; simp [h] at hlt)
    have hat := kid_exAt g3 hf
    have hltN : f.size < N := by
     have := Ex.sizeL_mem (List.mem_of_getElem? hf)
     omega
    have Hst : Hid (leftF f.size (leftF (1 + Ex.sizeL (e.kids.take k)) left) = leftF (1 + Ex.sizeL (e.kids.take (k + 1))) left) := by
     show _ = _
     rw [p2, Ex.sizeL_take_succ hf]
     unfold leftF
     by_cases hh : (f.size : Int) ≤ left - ((1 + Ex.sizeL (e.kids.take k) : Nat) : Int)
     ·
      rw [if_pos hh, if_pos (by omega)]; omega
     ·
      rw [if_neg hh, if_neg (by omega)]
    have hle : leftF (1 + Ex.sizeL (e.kids.take k)) left ≤ 1000000 := by omega
    clear p2 p1
    go_wp2_with fail
    refine (ih _ hltN f _ _ _ _ (Nat.le_refl _) hat hpos hle).mono ?_
    rintro x w' ⟨rfl, rfl⟩
    rw [Hst.out]
    go_wp2_with fail
    go_round
    case rel => exact ⟨k + 1, by omega, by go_num, rfl⟩
    case measure => simp [intOf]; omega
   ·
    obtain ⟨p1, p2⟩ := leftF_neg hpos
    have hd : decide (0 ≤ leftF (1 + Ex.sizeL (e.kids.take k)) left) = false := by simpa using hpos
    have Hst : Hid (leftF (1 + Ex.sizeL (e.kids.take k)) left = leftF e.size left) := by
     show _ = _
     rw [p2]
     have := Ex.sizeL_take_le e.kids k
     have := Hse.out
     unfold leftF
     rw [if_neg (by omega)]
    clear p2 hpos
    go_wp2_with fail
    go_ret
    exact ⟨ret_int Hst.out, rfl⟩
  ·
   obtain rfl : k = e.kids.length := by omega
   go_wp2_with fail
   go_ret
   exact ⟨ret_int (by rw [Hse.out]), rfl⟩
theorem l00Max_i {a b : Int} {w : World} : Calls Try.prog 134 #[.int .i64 a, .int .i64 b] w fun e w' => e = .returned (.int .i64 (max a b)) ∧ w = w' := by
 by_cases h : b < a
 ·
  go_enter Try.func134, Try.ntmps134
  go_wp2_with fail
  go_ret
  exact ⟨ret_int (by omega), rfl⟩
 ·
  go_enter Try.func134, Try.ntmps134
  go_wp2_with fail
  go_ret
  exact ⟨ret_int (by omega), rfl⟩
theorem l01Depth_all (N : Nat) : ∀ (e : Ex) (b o : Nat) (w : World), e.size ≤ N → ExAt w b o e → e.size ≤ 1073741824 →
  Calls Try.prog 101 #[.pointer (some ⟨b, o, none⟩)] w fun f w' => f = .returned (.int .i64 e.depth) ∧ w = w' := by
 induction N using Nat.strongRecOn with
 | _ N ih =>
 intro e b o w hN hr h1
 obtain ⟨_, _, s, c, g2, g3⟩ := hr
 obtain ⟨-, hlen, hcap, -, -⟩ := kid_at g3
 unfold maxLen at hcap
 have hse := Ex.size_eq e
 have hks : Ex.sizeL e.kids < N := by omega
 have hks' : Ex.sizeL e.kids ≤ 1073741824 := by omega
 have Hde := Lib.hid (Ex.depth_eq e)
 clear hse
 go_enter Try.func101, Try.ntmps101
 go_wp2_with fail
 go_loop [3, 4] (fun n i => ∃ k : Nat, k ≤ e.kids.length ∧ i = .int .i64 k ∧ n = .int .i64 (Ex.depthL (e.kids.take k) : Nat)) (fun _ i => e.kids.length - (intOf i).toNat)
 case atStart => exact ⟨0, by omega, rfl, by simp [Ex.depthL]⟩
 case round =>
  obtain ⟨k, hk, rfl, rfl⟩ := hrel
  have hdl := Ex.depthL_le (e.kids.take k)
  have hsl := Ex.sizeL_take_le e.kids k
  by_cases hlt : k < e.kids.length
  ·
   obtain ⟨f, hf⟩ : ∃ f, e.kids[k]? = some f := ⟨_, List.getElem?_eq_getElem hlt⟩
   obtain ⟨b', o', rfl⟩ := kid_some g3 (by intro h; simp [h] at hlt)
   have hat := kid_exAt g3 hf
   have hmem := Ex.sizeL_mem (List.mem_of_getElem? hf)
   have Htk := Lib.hid (Ex.depthL_take_succ hf)
   go_wp2_with fail
   refine (ih _ (by omega) f _ _ _ (Nat.le_refl _) hat (by omega)).mono ?_
   rintro x w' ⟨rfl, rfl⟩
   go_wp2_with fail
   refine (l00Max_i).mono ?_
   rintro x w' ⟨rfl, rfl⟩
   go_wp2_with fail
   go_round
   case rel => exact ⟨k + 1, by omega, by go_num, by rw [Htk.out]; congr 1; omega⟩
   case measure => simp [intOf]; omega
  ·
   obtain rfl : k = e.kids.length := by omega
   rw [List.take_length] at hdl hsl
   go_wp2_with fail
   go_ret
   exact ⟨ret_int (by rw [Hde.out]; simp; omega), rfl⟩
theorem l01Kids_i {k : Int} {w : World} : Calls Try.prog 141 #[.int .i64 k] w fun e w' => e = .returned (.int .i64 (kidsN k)) ∧ w = w' := by
 have h : k = 1 ∨ k = 2 ∨ k = 3 ∨ k = 4 ∨ k = 5 ∨ k = 6 ∨ k = 7 ∨ k = 8 ∨ (k < 1 ∨ 8 < k) := by omega
 rcases h with h | h | h | h | h | h | h | h | h
 case inr.inr.inr.inr.inr.inr.inr.inr =>
  have t1 : (k == 1) = false := by simp; omega
  have t2 : (k == 2) = false := by simp; omega
  have t3 : (k == 3) = false := by simp; omega
  have t4 : (k == 4) = false := by simp; omega
  have t5 : (k == 5) = false := by simp; omega
  have t6 : (k == 6) = false := by simp; omega
  have t7 : (k == 7) = false := by simp; omega
  have t8 : (k == 8) = false := by simp; omega
  have e1 : kidsN k = -1 := by unfold kidsN; rw [if_neg (by omega), if_neg (by omega), if_neg (by omega)]
  rw [e1]
  clear h
  go_enter Try.func141, Try.ntmps141
  go_wp2_with fail
  go_ret
  exact ⟨rfl, rfl⟩
 all_goals
  subst h
  go_enter Try.func141, Try.ntmps141
  go_wp2_with fail
  go_ret
  exact ⟨rfl, rfl⟩
end Go.Proofs.Ytbflhjjnemdecaa

namespace Go.Proofs.Ytbflhjjnemdecaa
set_option linter.unusedVariables false
set_option linter.unusedSimpArgs false
open Go.ChangeShapes Go.WideShapes Go.ChangeAt Go.RowKit Go.Sort
theorem kidsN_zero {k : Int} {ks : List Ex} (h : kidsN k = (ks.length : Int)) (hk : k = 3 ∨ k = 4) : ks = [] := by
 have : kidsN k = 0 := by unfold kidsN; rw [if_pos (by omega)]
 exact List.eq_nil_of_length_eq_zero (by omega)
theorem condL_one {ks : List Ex} (h : ks.length = 1) : ∃ e, ks[0]? = some e ∧ Ex.condL ks = e.cond := by
 match ks, h with
 | [e], _ => exact ⟨e, rfl, by simp [Ex.condL]⟩
theorem kidsN_five : kidsN 5 = 1 := by unfold kidsN; rw [if_neg (by omega), if_pos (by omega)]
set_option maxHeartbeats 2000000 in
theorem l01Tree_w (t a tm am : Int) (q1 : IntKind.i64.wrap (t - 1) = tm) (q2 : IntKind.i64.wrap (a - 1) = am) (N : Nat) : ∀ (e : Ex) (b o : Nat) (w : World), e.size ≤ N → ExAt w b o e →
  Calls Try.prog 102 #[.agg #[.int .i64 t, .int .i64 a], .pointer (some ⟨b, o, none⟩)] w fun f w' => f = .returned (.bool (e.tree tm am)) ∧ Below w.heap.size w w' := by
 induction N using Nat.strongRecOn with
 | _ N ih =>
 intro e b o w hN hr
 have hbl := hr.lt
 have Hte := Lib.hid (Ex.tree_eq tm am e)
 have hks : Ex.sizeL e.kids < N := by have := Ex.size_eq e; omega
 have hgen : ∀ o, ExAt (w.alloc o) b _ e := fun o => hr.below (Below.alloc (Below.refl _ _) (Nat.le_refl _) o)
 go_enter Try.func102, Try.ntmps102
 go_wp2_with fail
 have L := Blk.new2 w 34 (.int .i64 t) (.int .i64 a)
 have hE := hgen (.cells #[.int .i64 t, .int .i64 a] 34)
 have hB : Below w.heap.size w (w.alloc (.cells #[.int .i64 t, .int .i64 a] 34)) := by (repeat' first | exact Below.refl _ _ | assumption | apply Below.alloc | apply Below.drew | apply Below.setCell | omega | (simp; done) | (simp; omega))
 generalize w.alloc (.cells #[.int .i64 t, .int .i64 a] 34) = w0 at L hE hB ⊢
 clear hgen hr
 have hE' := hE
 obtain ⟨g0, g1, s, c, g2, g3⟩ := hE'
 obtain ⟨-, hlen, hcap, -, -⟩ := kid_at g3
 unfold maxLen at hcap
 have gg0 := fun d os => cell_regrown g0 d os
 have gg1 := fun d os => cell_regrown g1 d os
 have gg2 := fun d os => cell_regrown g2 d os
 by_cases hk : kidsN e.kind = (e.kids.length : Int)
 rotate_left
 ·
  have d1 : ((e.kids.length : Int) != kidsN e.kind) = true := by simp; omega
  have c2 : e.tree tm am = false := by rw [Hte.out]; simp [nodeB, hk]
  clear hk
  refine Go.wp_region_quiet_below (by kernel_rfl) (by kernel_rfl) ?_
  repeat (first | go_big_quiet_step ((exact Calls.regrown_of ((l01Kids_i).mono fun _ _ ⟨h1, h2⟩ => ⟨h1, below_self h2⟩))) | quiet_step ((exact Calls.regrown_of ((l01Kids_i).mono fun _ _ ⟨h1, h2⟩ => ⟨h1, below_self h2⟩))))
  refine wpQuiet_nil ?_; intro _ hw'; obtain ⟨⟨dq, osq⟩, hw''⟩ := hw'; subst hw''; have hq := below_regrown w0 dq osq; revert hq; generalize grow (redrawn w0 dq) osq = w1; intro hq
  replace hB := Below.on hB hq hB.size
  clear hq gg0 gg1 gg2 g0 g1 g2
  go_wp2_with fail
  go_ret
  exact ⟨by first | rfl | (rw [c2]; rfl), hB⟩
 have d1 : ((e.kids.length : Int) != kidsN e.kind) = false := by simp [hk]
 have Hk := Lib.hid hk
 clear hk
 refine Go.wp_region_quiet_below (by kernel_rfl) (by kernel_rfl) ?_
 repeat (first | go_big_quiet_step ((exact Calls.regrown_of ((l01Kids_i).mono fun _ _ ⟨h1, h2⟩ => ⟨h1, below_self h2⟩))) | quiet_step ((exact Calls.regrown_of ((l01Kids_i).mono fun _ _ ⟨h1, h2⟩ => ⟨h1, below_self h2⟩))))
 refine wpQuiet_nil ?_; intro _ hw'; obtain ⟨⟨dq, osq⟩, hw''⟩ := hw'; subst hw''; have hq := below_regrown w0 dq osq; revert hq; generalize grow (redrawn w0 dq) osq = w1; intro hq
 replace L := L.below hq
 replace hE := hE.below hq
 replace hB := Below.on hB hq hB.size
 clear hq gg0 gg1 gg2 g0 g1 g2 g3 d1
 have hE' := hE
 obtain ⟨g0, g1, s, c, g2, g3⟩ := hE'
 have gg1 := fun d os => cell_regrown g1 d os
 have gl0 := fun d os => cell_regrown L.c0 d os
 have gl1 := fun d os => cell_regrown L.c1 d os
 by_cases h3 : e.kind = 3
 ·
  have t3 : (e.kind == 3) = true := by simp [h3]
  have hnil := kidsN_zero Hk.out (Or.inl h3)
  have c2 : e.tree tm am = inB e.num 0 tm := by
   have := Hk.out
   rw [Hte.out, hnil]
   rw [hnil] at this
   simp [nodeB, numB, h3, Ex.treeL]
   intro _
   rw [← h3]; simpa using this
  have C2 := Lib.hid c2
  clear hnil h3 c2
  go_wp2_with fail
  refine Go.wp_region_quiet_below (by kernel_rfl) (by kernel_rfl) ?_
  repeat (first | go_big_quiet_step ((exact Calls.regrown_of (in_B _ _ _ _))) | quiet_step ((exact Calls.regrown_of (in_B _ _ _ _))))
  refine wpQuiet_nil ?_; intro _ hw'; obtain ⟨⟨dq, osq⟩, hw''⟩ := hw'; subst hw''; have hq := below_regrown w1 dq osq; revert hq; generalize grow (redrawn w1 dq) osq = w2; intro hq
  replace hB := Below.on hB hq hB.size
  clear hq gg1 gl0 gl1 g0 g1 g2
  go_wp2_with fail
  go_ret
  exact ⟨ret_bool (by rw [C2.out]), hB⟩
 by_cases h4 : e.kind = 4
 ·
  have t3 : (e.kind == 3) = false := by simp [h3]
  have t4 : (e.kind == 4) = true := by simp [h4]
  have hnil := kidsN_zero Hk.out (Or.inr h4)
  have c2 : e.tree tm am = inB e.num 0 am := by
   have := Hk.out
   rw [Hte.out, hnil]
   rw [hnil] at this
   simp [nodeB, numB, h4, Ex.treeL]
   intro _
   rw [← h4]; simpa using this
  have C2 := Lib.hid c2
  clear hnil h3 h4 c2
  go_wp2_with fail
  refine Go.wp_region_quiet_below (by kernel_rfl) (by kernel_rfl) ?_
  repeat (first | go_big_quiet_step ((exact Calls.regrown_of (in_B _ _ _ _))) | quiet_step ((exact Calls.regrown_of (in_B _ _ _ _))))
  refine wpQuiet_nil ?_; intro _ hw'; obtain ⟨⟨dq, osq⟩, hw''⟩ := hw'; subst hw''; have hq := below_regrown w1 dq osq; revert hq; generalize grow (redrawn w1 dq) osq = w2; intro hq
  replace hB := Below.on hB hq hB.size
  clear hq gg1 gl0 gl1 g0 g1 g2
  go_wp2_with fail
  go_ret
  exact ⟨ret_bool (by rw [C2.out]), hB⟩
 have t3 : (e.kind == 3) = false := by simp [h3]
 have t4 : (e.kind == 4) = false := by simp [h4]
 by_cases h0 : e.num = 0
 rotate_left
 ·
  have t0 : (e.num != 0) = true := by simp [h0]
  have c2 : e.tree tm am = false := by rw [Hte.out]; simp [nodeB, numB, h3, h4, h0]
  clear h3 h4 h0 gg1 gl0 gl1
  go_wp2_with fail
  go_ret
  exact ⟨by first | rfl | (rw [c2]; rfl), hB⟩
 have t0 : (e.num != 0) = false := by simp [h0]
 -- the loop over the kids, where the node itself has the form
 have loop : ∀ (h5 : (e.kind != 5 || Ex.condL e.kids) = true), Hid (e.tree tm am = Ex.treeL tm am e.kids) := by
  intro h5
  have := Hk.out
  show _ = _
  rw [Hte.out]
  have hn : nodeB tm am e.kind e.num e.kids = true := by
   unfold nodeB numB
   rw [h5, if_neg h3, if_neg h4, h0, this]
   simp
  rw [hn, Bool.true_and]
 by_cases h5 : e.kind = 5
 ·
  have t5 : (e.kind == 5) = true := by simp [h5]
  have hone : e.kids.length = 1 := by have := Hk.out; rw [h5, kidsN_five] at this; omega
  obtain ⟨f, hf, hcl⟩ := condL_one hone
  obtain ⟨b', o', rfl⟩ := kid_some g3 (by intro h; simp [h] at hone)
  have hat := kid_exAt g3 hf
  simp only [Nat.zero_mul, Nat.add_zero] at hat
  cases hfc : f.cond
  ·
   have c2 : e.tree tm am = false := by rw [Hte.out]; simp [nodeB, h5, hcl, hfc]
   have hpos : 0 < e.kids.length := by omega
   clear h3 h4 h0 h5 hone hcl loop gg1 gl0 gl1
   go_wp2_with fail
   refine (l01Condition_all _ f _ _ _ (Nat.le_refl _) hat).mono ?_
   rintro x w' ⟨rfl, rfl⟩
   go_wp2_with fail
   go_ret
   exact ⟨by first | rfl | (rw [c2]; rfl), hB⟩
  ·
   have Hc := loop (by rw [hcl, hfc]; simp)
   have hpos : 0 < e.kids.length := by omega
   clear h3 h4 h0 h5 hone hcl loop gg1 gl0 gl1
   go_wp2_with fail
   refine (l01Condition_all _ f _ _ _ (Nat.le_refl _) hat).mono ?_
   rintro x w' ⟨rfl, rfl⟩
   go_wp2_with fail
   go_loopw [5] (fun i wr => ∃ k : Nat, k ≤ e.kids.length ∧ i = .int .i64 k ∧ Ex.treeL tm am (e.kids.take k) = true ∧ ExAt wr b o e ∧ Blk wr w.heap.size 34 [.int .i64 t, .int .i64 a] ∧ Below w.heap.size w wr) (fun i _ => e.kids.length - (intOf i).toNat)
   case atStart => exact ⟨0, by omega, rfl, by simp [Ex.treeL], hE, L, hB⟩
   case round =>
    clear hE L hB g0 g1 g2 g3
    obtain ⟨k, hk, rfl, hpre, hE, L, hB⟩ := hrel
    have Hpre := Lib.hid hpre
    clear hpre
    have hE' := hE
    obtain ⟨g0, g1, s3, c3, g2, g3⟩ := hE'
    by_cases hlt : k < e.kids.length
    ·
     obtain ⟨x, hx⟩ : ∃ z, e.kids[k]? = some z := ⟨_, List.getElem?_eq_getElem hlt⟩
     obtain ⟨p, q, rfl⟩ := kid_some g3 (by intro h; simp [h] at hlt)
     have hat := kid_exAt g3 hx
     have hltN : x.size < N := by
      have := Ex.sizeL_mem (List.mem_of_getElem? hx)
      omega
     have ha := Int.natCast_nonneg k
     have hb : (k : Int) < (e.kids.length : Int) := by omega
     have gg2 := fun d os => cell_regrown g2 d os
     have gl0 := fun d os => cell_regrown L.c0 d os
     have gl1 := fun d os => cell_regrown L.c1 d os
     have Htk := Lib.hid (@Ex.treeL_take_succ tm am _ _ _ hx)
     have Hfl := Lib.hid (@Ex.treeL_false tm am _ _ _ hx)
     go_wp2_with fail
     refine Go.wp_region_quiet_below (by kernel_rfl) (by kernel_rfl) ?_
     repeat (first | go_big_quiet_step ((exact Calls.regrown_of (ih _ hltN x _ _ _ (Nat.le_refl _) (hat.below (below_regrown _ _ _))))) | quiet_step ((exact Calls.regrown_of (ih _ hltN x _ _ _ (Nat.le_refl _) (hat.below (below_regrown _ _ _))))))
     refine wpQuiet_nil ?_; intro _ hw'; obtain ⟨⟨dq, osq⟩, hw''⟩ := hw'; subst hw''; have hq := below_regrown wr dq osq; revert hq; generalize grow (redrawn wr dq) osq = w9; intro hq
     replace L := L.below hq
     replace hE := hE.below hq
     replace hB := Below.on hB hq hB.size
     clear hq gg2 gl0 gl1 g0 g1 g2
     cases hz1 : x.tree tm am
     ·
      have c2 : e.tree tm am = false := by rw [Hc.out, Hfl.out hz1]
      simp only [Bool.not_false]
      go_wp2_with fail
      go_ret
      exact ⟨by first | rfl | (rw [c2]; rfl), hB⟩
     ·
      have Hst : Hid (Ex.treeL tm am (e.kids.take (k + 1)) = true) := by show _ = _; rw [Htk.out, Hpre.out, hz1]; rfl
      simp only [Bool.not_true]
      go_wp2_with fail
      go_roundw
      case rel => exact ⟨k + 1, by omega, by go_num, Hst.out, hE, L, hB⟩
      case measure => simp [intOf]; omega
    ·
     obtain rfl : k = e.kids.length := by omega
     have c2 : e.tree tm am = true := by
      have := Hpre.out
      rw [List.take_length] at this
      rw [Hc.out, this]
     go_wp2_with fail
     go_ret
     exact ⟨by first | rfl | (rw [c2]; rfl), hB⟩
 ·
  have t5 : (e.kind == 5) = false := by simp [h5]
  have Hc := loop (by simp [h5])
  clear h3 h4 h0 h5 loop gg1 gl0 gl1
  go_wp2_with fail
  go_loopw [5] (fun i wr => ∃ k : Nat, k ≤ e.kids.length ∧ i = .int .i64 k ∧ Ex.treeL tm am (e.kids.take k) = true ∧ ExAt wr b o e ∧ Blk wr w.heap.size 34 [.int .i64 t, .int .i64 a] ∧ Below w.heap.size w wr) (fun i _ => e.kids.length - (intOf i).toNat)
  case atStart => exact ⟨0, by omega, rfl, by simp [Ex.treeL], hE, L, hB⟩
  case round =>
   clear hE L hB g0 g1 g2 g3
   obtain ⟨k, hk, rfl, hpre, hE, L, hB⟩ := hrel
   have Hpre := Lib.hid hpre
   clear hpre
   have hE' := hE
   obtain ⟨g0, g1, s3, c3, g2, g3⟩ := hE'
   by_cases hlt : k < e.kids.length
   ·
    obtain ⟨x, hx⟩ : ∃ z, e.kids[k]? = some z := ⟨_, List.getElem?_eq_getElem hlt⟩
    obtain ⟨p, q, rfl⟩ := kid_some g3 (by intro h; simp [h] at hlt)
    have hat := kid_exAt g3 hx
    have hltN : x.size < N := by
     have := Ex.sizeL_mem (List.mem_of_getElem? hx)
     omega
    have ha := Int.natCast_nonneg k
    have hb : (k : Int) < (e.kids.length : Int) := by omega
    have gg2 := fun d os => cell_regrown g2 d os
    have gl0 := fun d os => cell_regrown L.c0 d os
    have gl1 := fun d os => cell_regrown L.c1 d os
    have Htk := Lib.hid (@Ex.treeL_take_succ tm am _ _ _ hx)
    have Hfl := Lib.hid (@Ex.treeL_false tm am _ _ _ hx)
    go_wp2_with fail
    refine Go.wp_region_quiet_below (by kernel_rfl) (by kernel_rfl) ?_
    repeat (first | go_big_quiet_step ((exact Calls.regrown_of (ih _ hltN x _ _ _ (Nat.le_refl _) (hat.below (below_regrown _ _ _))))) | quiet_step ((exact Calls.regrown_of (ih _ hltN x _ _ _ (Nat.le_refl _) (hat.below (below_regrown _ _ _))))))
    refine wpQuiet_nil ?_; intro _ hw'; obtain ⟨⟨dq, osq⟩, hw''⟩ := hw'; subst hw''; have hq := below_regrown wr dq osq; revert hq; generalize grow (redrawn wr dq) osq = w9; intro hq
    replace L := L.below hq
    replace hE := hE.below hq
    replace hB := Below.on hB hq hB.size
    clear hq gg2 gl0 gl1 g0 g1 g2
    cases hz1 : x.tree tm am
    ·
     have c2 : e.tree tm am = false := by rw [Hc.out, Hfl.out hz1]
     simp only [Bool.not_false]
     go_wp2_with fail
     go_ret
     exact ⟨by first | rfl | (rw [c2]; rfl), hB⟩
    ·
     have Hst : Hid (Ex.treeL tm am (e.kids.take (k + 1)) = true) := by show _ = _; rw [Htk.out, Hpre.out, hz1]; rfl
     simp only [Bool.not_true]
     go_wp2_with fail
     go_roundw
     case rel => exact ⟨k + 1, by omega, by go_num, Hst.out, hE, L, hB⟩
     case measure => simp [intOf]; omega
   ·
    obtain rfl : k = e.kids.length := by omega
    have c2 : e.tree tm am = true := by
     have := Hpre.out
     rw [List.take_length] at this
     rw [Hc.out, this]
    go_wp2_with fail
    go_ret
    exact ⟨by first | rfl | (rw [c2]; rfl), hB⟩
theorem l01Tree_all (t a : Int) (hs : sigB t a = true) (N : Nat) : ∀ (e : Ex) (b o : Nat) (w : World), e.size ≤ N → ExAt w b o e →
  Calls Try.prog 102 #[.agg #[.int .i64 t, .int .i64 a], .pointer (some ⟨b, o, none⟩)] w fun f w' => f = .returned (.bool (e.tree (t - 1) (a - 1))) ∧ Below w.heap.size w w' :=
 have h := sigB_bd hs
 l01Tree_w t a _ _ (wrap_of (by omega) (by omega)) (wrap_of (by omega) (by omega)) N
def okB (t a : Int) (e : Ex) : Bool := sigB t a && (decide (e.size ≤ 200) && decide (e.depth ≤ 40) && e.tree (t - 1) (a - 1))
theorem l01Ok_i {t a : Int} {e : Ex} {b o : Nat} {w : World} (hr : ExAt w b o e) (h1 : e.size ≤ 1073741824) :
  Calls Try.prog 50 #[.agg #[.int .i64 t, .int .i64 a], .pointer (some ⟨b, o, none⟩)] w fun f w' => f = .returned (.bool (okB t a e)) ∧ Below w.heap.size w w' := by
 go_enter Try.func50, Try.ntmps50
 go_wp2_with fail
 have L := Blk.new2 w 34 (.int .i64 t) (.int .i64 a)
 refine (l01Sig_any _ _ _).mono ?_
 rintro x w1 ⟨rfl, hb⟩
 have hB : Below w.heap.size w w1 := Below.on (by (repeat' first | exact Below.refl _ _ | assumption | apply Below.alloc | apply Below.drew | apply Below.setCell | omega | (simp; done) | (simp; omega))) hb (by simp)
 replace L := L.below hb
 clear hb
 cases hs : sigB t a
 ·
  go_wp2_with fail
  go_ret
  exact ⟨ret_bool (by simp [okB, hs]), hB⟩
 have Hs := Lib.hid hs
 have Hok : Hid (okB t a e = (decide (e.size ≤ 200) && decide (e.depth ≤ 40) && e.tree (t - 1) (a - 1))) := by show _ = _; simp [okB, hs]
 clear hs
 go_wp2_with fail
 refine (l01Left_all _ e _ _ _ _ (Nat.le_refl _) (hr.below hB) (by omega) (by omega)).mono ?_
 rintro x w' ⟨rfl, rfl⟩
 by_cases hsz : e.size ≤ 200
 rotate_left
 ·
  have hd : decide (0 ≤ leftF e.size 200) = false := by unfold leftF; rw [if_neg (by omega)]; rfl
  go_wp2_with fail
  go_ret
  exact ⟨ret_bool (by rw [Hok.out]; simp [hsz]), hB⟩
 have hd : decide (0 ≤ leftF e.size 200) = true := by unfold leftF; rw [if_pos (by omega)]; simp; omega
 go_wp2_with fail
 refine (l01Depth_all _ e _ _ _ (Nat.le_refl _) (hr.below hB) h1).mono ?_
 rintro x w' ⟨rfl, rfl⟩
 by_cases hdp : e.depth ≤ 40
 rotate_left
 ·
  have hd2 : decide ((e.depth : Int) ≤ 40) = false := by simp; omega
  go_wp2_with fail
  go_ret
  exact ⟨ret_bool (by rw [Hok.out]; simp [hdp]), hB⟩
 have hd2 : decide ((e.depth : Int) ≤ 40) = true := by simp; omega
 have l0 := L.c0
 have l1 := L.c1
 go_wp2_with fail
 refine (l01Tree_all t a Hs.out _ e _ _ _ (Nat.le_refl _) (hr.below hB)).mono ?_
 rintro x w2 ⟨rfl, hb⟩
 replace hB := Below.on hB hb hB.size
 clear hb l0 l1
 go_wp2_with fail
 go_ret
 exact ⟨ret_bool (by rw [Hok.out]; simp [hsz, hdp]), hB⟩
end Go.Proofs.Ytbflhjjnemdecaa
