/-
  Texts of lists of pairs: l03Form, isShaped, l03Listed; BisimText of both.
-/
import Derived.Test.YtahehcalmbmbpaaDoorTextI
import Derived.Test.YtahehcalmbmbpaaDoorPairO
namespace Go.Proofs.YtahehcalmbmbpaaDoor
open Go.ChangeShapes Go.WideShapes Go.ChangeAt Go.RowKit Go.Sort

/-- An expression that is shaped, of at most 800 nodes. -/
def formB (tm am : Int) (e : Ex) : Bool := decide (e.size ≤ 800) && e.tree tm am
theorem formB_sh {tm am : Int} {e : Ex} : shF tm am e 800 800 = formB tm am e := by
  unfold shF formB
  have := e.depth_le
  rw [Bool.eq_iff_iff]
  simp
  constructor
  · rintro ⟨h1, h2, h3⟩; exact ⟨by omega, h1⟩
  · rintro ⟨h1, h2⟩; exact ⟨h2, by omega, by omega⟩
theorem isShaped_i {t a tm am k m : Int} {ks : List Ex} {s : Option Addr} {c : Nat} {w : World} (q1 : IntKind.i64.wrap (t - 1) = tm) (q2 : IntKind.i64.wrap (a - 1) = am) (hr : Rd w (kidsD ks) (.slice s ks.length c)) :
    Calls Tryd.prog 56 #[.agg #[.int .i64 t, .int .i64 a], .agg #[.int .i64 k, .int .i64 m, .slice s ks.length c], .int .i64 800] w fun f w' => f = .returned (.bool (formB tm am (.mk k m ks))) ∧ Below w.heap.size w w' := by
  rw [← formB_sh]
  go_enter Tryd.func56, Tryd.ntmps56
  go_wp2_with fail
  refine (shaped_all t a tm am q1 q2 _ k m ks s c 800 800 _ (Nat.le_refl _) ((hr.alloc _).alloc _) (by omega) (by omega) (by omega) (by omega)).mono ?_
  rintro x w1 ⟨rfl, hb⟩
  have hB : Below w.heap.size w w1 := Below.on (by (repeat' (first | exact Below.refl _ _ | assumption | (refine Below.alloc ?_ (by first | omega | (simp; done) | (simp; omega)) _) | (refine Below.drew ?_) | (refine Below.setCell ?_ (by first | omega | (simp; done) | (simp; omega)) _)))) hb (by simp; omega)
  clear hb
  cases h : shF tm am (.mk k m ks) 800 800
  · rw [shV_false h]
    go_wp2_with fail
    go_ret
    exact ⟨ret_bool (by rw [h]), hB⟩
  · rw [shV_true h]
    go_wp2_with fail
    go_ret
    exact ⟨ret_bool (by rw [h]), hB⟩
theorem l03Form_i {t a tm am : Int} {e : Ex} {b o : Nat} {w : World} (q1 : IntKind.i64.wrap (t - 1) = tm) (q2 : IntKind.i64.wrap (a - 1) = am) (hr : ExAt w b o e) :
    Calls Tryd.prog 78 #[.agg #[.int .i64 t, .int .i64 a], .pointer (some ⟨b, o, none⟩)] w fun f w' => f = .returned (.bool (formB tm am e)) ∧ Below w.heap.size w w' := by
  have Hq1 := Lib.hid q1
  have Hq2 := Lib.hid q2
  clear q1 q2
  go_enter Tryd.func78, Tryd.ntmps78
  go_wp2_with fail
  have L := Blk.new2 w 29 (.int .i64 t) (.int .i64 a)
  have hB : Below w.heap.size w (w.alloc (.cells #[.int .i64 t, .int .i64 a] 29)) := by (repeat' (first | exact Below.refl _ _ | assumption | (refine Below.alloc ?_ (by first | omega | (simp; done) | (simp; omega)) _) | (refine Below.drew ?_) | (refine Below.setCell ?_ (by first | omega | (simp; done) | (simp; omega)) _)))
  generalize w.alloc (.cells #[.int .i64 t, .int .i64 a] 29) = w1 at L hB ⊢
  refine (l01Left_all _ e _ _ _ _ (Nat.le_refl _) (hr.below hB) (by omega) (by omega)).mono ?_
  rintro x w' ⟨rfl, rfl⟩
  by_cases hsz : e.size ≤ 800
  rotate_left
  · have hd : decide (0 ≤ leftF e.size 800) = false := by unfold leftF; rw [if_neg (by omega)]; rfl
    go_wp2_with fail
    go_ret
    exact ⟨ret_bool (by simp [formB, hsz]), hB⟩
  have hd : decide (0 ≤ leftF e.size 800) = true := by unfold leftF; rw [if_pos (by omega)]; simp; omega
  have l0 := L.c0
  have l1 := L.c1
  have ef : formB tm am e = e.tree tm am := by simp [formB, hsz]
  have Hef := Lib.hid ef
  clear ef
  go_wp2_with fail
  refine (l01Tree_w t a tm am Hq1.out Hq2.out _ e _ _ _ (Nat.le_refl _) (hr.below hB)).mono ?_
  rintro x w2 ⟨rfl, hb⟩
  have hB2 := Below.on hB hb hB.size
  go_wp2_with fail
  go_ret
  exact ⟨by rw [Hef.out]; rfl, hB2⟩

def pairB (tm am : Int) (p : Ex × Ex) : Bool := formB tm am p.1 && formB tm am p.2
def pairsB (tm am : Int) (ps : List (Ex × Ex)) : Bool := ps.all (pairB tm am)
theorem pairsB_false {tm am : Int} {ps : List (Ex × Ex)} {k : Nat} {p : Ex × Ex} (h : ps[k]? = some p) (hp : pairB tm am p = false) : pairsB tm am ps = false := by
  unfold pairsB
  rw [List.all_eq_false]
  exact ⟨p, List.mem_of_getElem? h, by simp [hp]⟩
theorem pairsB_all {tm am : Int} {ps : List (Ex × Ex)} (h : ∀ (k : Nat) (p : Ex × Ex), k < ps.length → ps[k]? = some p → pairB tm am p = true) : pairsB tm am ps = true := by
  unfold pairsB
  rw [List.all_eq_true]
  intro p hp
  obtain ⟨k, hk⟩ := List.mem_iff_getElem?.1 hp
  exact h k p (List.getElem?_eq_some_iff.1 hk).1 hk
theorem pr_ex {w : World} {ps : List (Ex × Ex)} {b o len cap : Nat} (h : Rd w (prD ps) (.slice (some ⟨b, o, none⟩) len cap)) {i : Nat} {p : Ex × Ex} (hp : ps[i]? = some p) : ExAt w b (o + i * 6) p.1 ∧ ExAt w b (o + i * 6 + 3) p.2 := by
  obtain ⟨-, s, c, t, d, g0, g1, g2, g3, g4, g5, r1, r2⟩ := pr_in h hp
  exact ⟨⟨g0, g1, s, c, g2, r1⟩, ⟨g3, g4, t, d, g5, r2⟩⟩

set_option maxHeartbeats 4000000 in
theorem l03Listed_i {t a tm am : Int} {ps : List (Ex × Ex)} {s : Option Addr} {c : Nat} {w : World} (q1 : IntKind.i64.wrap (t - 1) = tm) (q2 : IntKind.i64.wrap (a - 1) = am) (hr : Rd w (prD ps) (.slice s ps.length c)) :
    Calls Tryd.prog 53 #[.agg #[.int .i64 t, .int .i64 a], .slice s ps.length c] w fun f w' => f = .returned (.bool (pairsB tm am ps && sigB t a)) ∧ Below w.heap.size w w' := by
  have Hq1 := Lib.hid q1
  have Hq2 := Lib.hid q2
  clear q1 q2
  obtain ⟨-, hlen, hcap⟩ := pr_bd hr
  unfold maxLen at hcap
  go_enter Tryd.func53, Tryd.ntmps53
  go_wp2_with fail
  have L := Blk.new2 w 29 (.int .i64 t) (.int .i64 a)
  have hB0 : Below w.heap.size w (w.alloc (.cells #[.int .i64 t, .int .i64 a] 29)) := by (repeat' (first | exact Below.refl _ _ | assumption | (refine Below.alloc ?_ (by first | omega | (simp; done) | (simp; omega)) _) | (refine Below.drew ?_) | (refine Below.setCell ?_ (by first | omega | (simp; done) | (simp; omega)) _)))
  generalize w.alloc (.cells #[.int .i64 t, .int .i64 a] 29) = w1 at L hB0 ⊢
  go_loopw [5] (fun i wr => ∃ k : Nat, k ≤ ps.length ∧ i = .int .i64 k ∧ Hid (∀ (j : Nat) (p : Ex × Ex), j < k → ps[j]? = some p → pairB tm am p = true) ∧ Blk wr w.heap.size 29 [.int .i64 t, .int .i64 a] ∧ Below w.heap.size w wr) (fun i _ => ps.length - (intOf i).toNat)
  case atStart => exact ⟨0, by omega, rfl, fun j p hj => by omega, L, hB0⟩
  case round =>
    clear L hB0
    obtain ⟨k, hk, rfl, Hpre, L, hB⟩ := hrel
    by_cases hlt : k < ps.length
    rotate_left
    · obtain rfl : k = ps.length := by omega
      have c2 : pairsB tm am ps = true := pairsB_all Hpre.out
      have C2 := Lib.hid c2
      clear c2
      have l0 := L.c0
      have l1 := L.c1
      go_wp2_with fail
      refine (l01Sig_any _ _ _).mono ?_
      rintro x w2 ⟨rfl, hb⟩
      have hB2 := Below.on hB hb hB.size
      go_wp2_with fail
      go_ret
      exact ⟨by rw [C2.out]; rfl, hB2⟩
    obtain ⟨p, hp⟩ : ∃ e, ps[k]? = some e := ⟨_, List.getElem?_eq_getElem hlt⟩
    obtain ⟨b, o, rfl⟩ := pr_some hr (by omega)
    obtain ⟨e1, e2⟩ := pr_ex (hr.below hB) hp
    have ha := Int.natCast_nonneg k
    have hb0 : (k : Int) < (ps.length : Int) := by omega
    have gl0 := fun d os => cell_regrown L.c0 d os
    have gl1 := fun d os => cell_regrown L.c1 d os
    have Hp := Lib.hid hp
    clear hp
    cases h1 : formB tm am p.1
    · have C1 : Hid (pairsB tm am ps = false) := pairsB_false Hp.out (by simp [pairB, h1])
      go_wp2_with fail
      refine Go.wp_region_quiet_below (by kernel_rfl) (by kernel_rfl) ?_
      repeat (first | go_big_quiet_step ((exact Calls.regrown_of (l03Form_i Hq1.out Hq2.out (e1.below (below_regrown _ _ _))))) | quiet_step ((exact Calls.regrown_of (l03Form_i Hq1.out Hq2.out (e1.below (below_regrown _ _ _))))))
      refine wpQuiet_nil ?_; intro _ hw'; obtain ⟨⟨dq, osq⟩, hw''⟩ := hw'; subst hw''; have hq := below_regrown wr dq osq; revert hq; generalize grow (redrawn wr dq) osq = w2; intro hq
      have hB2 := Below.on hB hq hB.size
      clear hq gl0 gl1
      go_wp2_with fail
      go_ret
      exact ⟨by rw [C1.out]; rfl, hB2⟩
    cases h2 : formB tm am p.2
    · have C1 : Hid (pairsB tm am ps = false) := pairsB_false Hp.out (by simp [pairB, h2])
      go_wp2_with fail
      refine Go.wp_region_quiet_below (by kernel_rfl) (by kernel_rfl) ?_
      repeat (first | go_big_quiet_step ((first | exact Calls.regrown_of (l03Form_i Hq1.out Hq2.out (e1.below (below_regrown _ _ _))) | exact Calls.regrown_of (l03Form_i Hq1.out Hq2.out (e2.below (below_regrown _ _ _))))) | quiet_step ((first | exact Calls.regrown_of (l03Form_i Hq1.out Hq2.out (e1.below (below_regrown _ _ _))) | exact Calls.regrown_of (l03Form_i Hq1.out Hq2.out (e2.below (below_regrown _ _ _))))))
      refine wpQuiet_nil ?_; intro _ hw'; obtain ⟨⟨dq, osq⟩, hw''⟩ := hw'; subst hw''; have hq := below_regrown wr dq osq; revert hq; generalize grow (redrawn wr dq) osq = w2; intro hq
      have hB2 := Below.on hB hq hB.size
      clear hq gl0 gl1
      go_wp2_with fail
      go_ret
      exact ⟨by rw [C1.out]; rfl, hB2⟩
    have Hpre2 : Hid (∀ (j : Nat) (p : Ex × Ex), j < k + 1 → ps[j]? = some p → pairB tm am p = true) := by
      show ∀ (j : Nat) (p : Ex × Ex), _
      intro j q hj hq
      by_cases hjk : j = k
      · subst hjk
        have := Hp.out
        rw [hq] at this
        cases this
        simp [pairB, h1, h2]
      · exact Hpre.out j q (by omega) hq
    clear Hpre
    go_wp2_with fail
    refine Go.wp_region_quiet_below (by kernel_rfl) (by kernel_rfl) ?_
    repeat (first | go_big_quiet_step ((first | exact Calls.regrown_of (l03Form_i Hq1.out Hq2.out (e1.below (below_regrown _ _ _))) | exact Calls.regrown_of (l03Form_i Hq1.out Hq2.out (e2.below (below_regrown _ _ _))))) | quiet_step ((first | exact Calls.regrown_of (l03Form_i Hq1.out Hq2.out (e1.below (below_regrown _ _ _))) | exact Calls.regrown_of (l03Form_i Hq1.out Hq2.out (e2.below (below_regrown _ _ _))))))
    refine wpQuiet_nil ?_; intro _ hw'; obtain ⟨⟨dq, osq⟩, hw''⟩ := hw'; subst hw''; have hq := below_regrown wr dq osq; revert hq; generalize grow (redrawn wr dq) osq = w2; intro hq
    have hB2 := Below.on hB hq hB.size
    have L2 := L.below hq
    clear hq gl0 gl1
    go_wp2_with fail
    go_roundw
    case rel => exact ⟨k + 1, by omega, by go_num, Hpre2, L2, hB2⟩
    case measure => simp [intOf]; omega
end Go.Proofs.YtahehcalmbmbpaaDoor
