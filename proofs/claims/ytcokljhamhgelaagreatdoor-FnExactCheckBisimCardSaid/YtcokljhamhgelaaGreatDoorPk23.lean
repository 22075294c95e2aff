/-
  Parts of a proof, joined: CbS. No condition.
-/
import Derived.Test.YtcokljhamhgelaaGreatDoorPk20
import Derived.Test.YtcokljhamhgelaaGreatDoorPk22
namespace Go.Proofs.YtcokljhamhgelaaGreatDoor
set_option linter.unusedVariables false
set_option linter.unusedSimpArgs false
open Go.ChangeShapes Go.WideShapes Go.ChangeAt Go.RowKit Go.Sort Go.Deep
theorem exAt_of {w : World} {g T : Nat} {e : Ex} {s : Option Addr} {c : Nat} (h : Blk w g T [.int .i64 e.kind, .int .i64 e.num, .slice s e.kids.length c]) (hr : Rd w (kidsD e.kids) (.slice s e.kids.length c)) : ExAt w g 0 e :=
 ⟨h.c0, h.c1, s, c, h.c2, hr⟩
set_option maxHeartbeats 4000000 in
theorem l03Spot_i {L : List (Ex × Ex)} {x y : Ex} {s : Option Addr} {c b1 o1 b2 o2 : Nat} {w : World} (hr : Rd w (prD L) (.slice s L.length c)) (hx : ExAt w b1 o1 x) (hy : ExAt w b2 o2 y) :
  Calls Tryz.prog 27 #[.slice s L.length c, .pointer (some ⟨b1, o1, none⟩), .pointer (some ⟨b2, o2, none⟩)] w fun e w' => ∃ v : Int, e = .returned (.int .i64 v) ∧ decide (0 ≤ v) = inL L x y ∧ Below w.heap.size w w' := by
 obtain ⟨-, hlen, hcap⟩ := pr_bd hr
 unfold maxLen at hcap
 go_enter Tryz.func27, Tryz.ntmps27
 go_wp2_with fail
 go_loopw [7] (fun i wr => ∃ k : Nat, k ≤ L.length ∧ i = .int .i64 k ∧ Hid (∀ j, j < k → L[j]? ≠ some (x, y)) ∧ Below w.heap.size w wr) (fun i _ => L.length - (intOf i).toNat)
 case atStart => exact ⟨0, by omega, rfl, fun j hj => by omega, Below.refl _ _⟩
 case round =>
  obtain ⟨k, hk, rfl, Hno, hB⟩ := hrel
  have hk0 := Int.natCast_nonneg k
  by_cases hlt : k < L.length
  rotate_left
  ·
   obtain rfl : k = L.length := by omega
   have E1 : Hid (inL L x y = false) := inL_false.2 fun h => by
    obtain ⟨j, hj⟩ := List.mem_iff_getElem?.1 h
    exact Hno.out j (List.getElem?_eq_some_iff.1 hj).1 hj
   go_wp2_with fail
   go_ret
   exact ⟨-1, rfl, by rw [E1.out]; decide, hB⟩
  obtain ⟨p, hp⟩ : ∃ e, L[k]? = some e := ⟨_, List.getElem?_eq_getElem hlt⟩
  obtain ⟨b, o, rfl⟩ := pr_some hr (by omega)
  obtain ⟨e1, e2⟩ := pr_ex (hr.below hB) hp
  have hk1 : (k : Int) < (L.length : Int) := by omega
  have Hp := Lib.hid hp
  clear hp
  go_wp2_with fail
  refine (l01Same_all _ p.1 x _ _ _ _ _ (Nat.le_refl _) e1 (hx.below hB)).mono ?_
  rintro f w2 ⟨rfl, hb⟩
  have hB2 := Below.on hB hb hB.size
  cases he : eqb p.1 x
  ·
   have Hno2 : Hid (∀ j, j < k + 1 → L[j]? ≠ some (x, y)) := fun j hj => by
    by_cases hjk : j = k
    ·
     subst hjk
     rw [Hp.out]
     intro h
     have h' := Option.some.inj h
     rw [h'] at he
     rw [eqb_true rfl] at he
     cases he
    ·
     exact Hno.out j (by omega)
   clear he hb e1 e2 Hno
   go_wp2_with fail
   go_roundw
   case rel => exact ⟨k + 1, by omega, by go_num, Hno2, hB2⟩
   case measure => simp [intOf]; omega
  have e2' := e2.below hb
  clear hb e1 e2
  go_wp2_with fail
  refine (l01Same_all _ p.2 y _ _ _ _ _ (Nat.le_refl _) e2' (hy.below hB2)).mono ?_
  rintro f w3 ⟨rfl, hb3⟩
  have hB3 := Below.on hB2 hb3 hB2.size
  cases he2 : eqb p.2 y
  ·
   have Hno2 : Hid (∀ j, j < k + 1 → L[j]? ≠ some (x, y)) := fun j hj => by
    by_cases hjk : j = k
    ·
     subst hjk
     rw [Hp.out]
     intro h
     have h' := Option.some.inj h
     rw [h'] at he2
     rw [eqb_true rfl] at he2
     cases he2
    ·
     exact Hno.out j (by omega)
   clear he he2 hb3 e2' Hno
   go_wp2_with fail
   go_roundw
   case rel => exact ⟨k + 1, by omega, by go_num, Hno2, hB3⟩
   case measure => simp [intOf]; omega
  ·
   have E1 : Hid (inL L x y = true) := inL_true.2 (List.mem_of_getElem? (by rw [Hp.out]; exact congrArg some (Prod.ext (eqb_iff.1 he) (eqb_iff.1 he2))))
   clear he he2 hb3 e2' Hno
   go_wp2_with fail
   go_ret
   exact ⟨(k : Int), rfl, by rw [E1.out]; exact decide_eq_true hk0, hB3⟩
theorem l02Empty_b {tm am : Int} {m : Nat} (ht : tm ≤ 2) (h7 : (m : Int) ≤ 7) {e : Ex} {b o : Nat} {w : World} (hr : ExAt w b o e) (htr : e.tree tm am = true) :
  Calls Tryz.prog 57 #[.pointer (some ⟨b, o, none⟩), .int .i64 (m : Int)] w fun f w' => f = .returned (.bool (e.emp m)) ∧ Below w.heap.size w w' :=
 (l02Empty_all tm am m ht (by omega) h7 _ e b o w (Nat.le_refl _) hr htr).mono fun f w' ⟨h1, h2⟩ => ⟨h1, by rw [← h2]; exact Below.refl _ _⟩
set_option maxRecDepth 100000 in
set_option maxHeartbeats 16000000 in
theorem l03Follows_i {t : Int} {n : Nat} {L : List (Ex × Ex)} {p : Ex × Ex} {s : Option Addr} {c b o : Nat} {w : World} (ht0 : 0 ≤ t) (ht3 : t ≤ 3) (hn : n ≤ 4) (hr : Rd w (prD L) (.slice s L.length c)) (h1 : ExAt w b o p.1) (h2 : ExAt w b (o + 3) p.2)
  (ht1 : p.1.tree (t - 1) ((n : Int) - 1) = true) (ht2 : p.2.tree (t - 1) ((n : Int) - 1) = true) (hs1 : p.1.size ≤ 10000) (hs2 : p.2.size ≤ 10000) :
  Calls Tryz.prog 28 #[.agg #[.int .i64 t, .int .i64 (n : Int)], .slice s L.length c, .pointer (some ⟨b, o, none⟩)] w fun e w' => e = .returned (.tuple #[.bool (fwB L (atomsN t).toNat n p), .int .i64 (fwC (atomsN t).toNat n p)]) ∧ Below w.heap.size w w' := by
 obtain ⟨hat1, hat8⟩ := atomsN_bd t
 obtain ⟨A, hA⟩ : ∃ A : Nat, atomsN t = (A : Int) := ⟨(atomsN t).toNat, by omega⟩
 rw [show (atomsN t).toNat = A by omega]
 have HA := Lib.hid hA
 have hA8 : A ≤ 8 := by omega
 have Hr := Lib.hid hr
 have H1 := Lib.hid h1
 have H2 := Lib.hid h2
 have Ht1 := Lib.hid ht1
 have Ht2 := Lib.hid ht2
 have htm : t - 1 ≤ 2 := by omega
 have ham : (n : Int) - 1 ≤ 8 := by omega
 clear hA hat1 hat8 hr h1 h2 ht1 ht2
 go_enter Tryz.func28, Tryz.ntmps28
 go_wp2_with fail
 obtain ⟨w1, e1, G, hb1, hz1⟩ := box2 w 30 (.int .i64 t) (.int .i64 (n : Int))
 rw [e1]
 clear e1 hz1
 go_loopw [8, 9] (fun g i wr => ∃ (m : Nat) (gb : Bool), m ≤ A ∧ i = .int .i64 m ∧ g = .bool gb ∧ Hid (gb = gM L n p m) ∧ Hid (okM n p m) ∧ Blk wr w.heap.size 30 [.int .i64 t, .int .i64 (n : Int)] ∧ Below w.heap.size w wr) (fun _ i _ => A - (intOf i).toNat)
 case atStart => exact ⟨0, true, by omega, rfl, rfl, rfl, fun j hj => by omega, G, hb1⟩
 case round =>
  clear G hb1
  obtain ⟨m, gb, hm, rfl, rfl, HG, HO, G, hB⟩ := hrel
  have hm0 := Int.natCast_nonneg m
  obtain ⟨l0, l1, ltG⟩ := G.all2
  go_wp2_with fail
  clear l0 l1 ltG
  refine (l01Atoms_i ht0 ht3).mono ?_
  rintro f w2 ⟨rfl, hb2⟩
  rw [HA.out]
  replace G := G.below hb2
  replace hB := Below.on hB hb2 hB.size
  clear hb2
  by_cases hml : m < A
  rotate_left
  ·
   obtain rfl : m = A := by omega
   obtain ⟨f1, f2⟩ := fw_yes (L := L) HO.out
   have F1 : Hid (fwB L m n p = gb) := by show _ = _; rw [f2, HG.out]
   have F2 := Lib.hid f1
   clear f1 f2 HG
   go_wp2_with fail
   go_ret2
   exact ⟨by rw [F1.out, F2.out]; rfl, hB⟩
  have hmb : (m : Int) < (A : Int) := by omega
  have hm7 : (m : Int) ≤ 7 := by omega
  have HG2 : Hid ((gb && (p.1.emp m == p.2.emp m)) = (gM L n p m && ((p.1.emp m == p.2.emp m) && gK L p m 0))) := by show _ = _; rw [HG.out, gK_zero, Bool.and_true]
  have hr1 := H1.out.below hB
  have hr2 := H2.out.below hB
  have hemp := fun (ws : World) (hb : Below w2.heap.size w2 ws) => l02Empty_b (m := m) htm hm7 (hr1.below hb) Ht1.out
  have hemp2 := fun (ws : World) (hb : Below w2.heap.size w2 ws) => l02Empty_b (m := m) htm hm7 (hr2.below hb) Ht2.out
  obtain ⟨em1, hem1⟩ : ∃ v, p.1.emp m = v := ⟨_, rfl⟩
  obtain ⟨em2, hem2⟩ : ∃ v, p.2.emp m = v := ⟨_, rfl⟩
  rw [hem1] at hemp
  rw [hem2] at hemp2
  have hempG : ∀ (ws : World) (q : Nat) (v : Bool), (q = o ∧ v = em1) ∨ (q = o + 3 ∧ v = em2) → Below w2.heap.size w2 ws → Calls Tryz.prog 57 #[.pointer (some ⟨b, q, none⟩), .int .i64 (m : Int)] ws fun f w' => f = .returned (.bool v) ∧ Below ws.heap.size ws w' := fun ws q v hq hb => by
   rcases hq with ⟨rfl, rfl⟩ | ⟨rfl, rfl⟩
   ·
    exact hemp ws hb
   ·
    exact hemp2 ws hb
  have HM1 := Lib.hid hem1
  have HM2 := Lib.hid hem2
  clear hr1 hr2 HG hemp hemp2 hem1 hem2
  cases gb
  ·
   skip
   go_wp2_with fail
   refine Go.wp_region_quiet_below (by kernel_rfl) (by kernel_rfl) ?_
   repeat (first | go_big_quiet_step ((fail)) | quiet_step ((fail)))
   refine wpQuiet_nil ?_; intro _ hw'; obtain ⟨⟨dq, osq⟩, hw''⟩ := hw'; subst hw''; have hq := below_regrown w2 dq osq; revert hq; generalize grow (redrawn w2 dq) osq = w3; intro hq
   clear hempG
   replace hB := Below.on hB hq hB.size
   replace G := G.below hq
   clear hq
   have HG3 : Hid (false = (gM L n p m && ((p.1.emp m == p.2.emp m) && gK L p m 0))) := by show _ = _; rw [← HG2.out]; (try rw [HM1.out, HM2.out]); (try rfl)
   clear HG2 HM1 HM2
   go_wp2_with fail
   go_loopw [8, 10] (fun g i wr => ∃ (k : Nat) (gb : Bool), k ≤ n ∧ i = .int .i64 k ∧ g = .bool gb ∧ Hid (gb = (gM L n p m && ((p.1.emp m == p.2.emp m) && gK L p m k))) ∧ Hid (okK p m k) ∧ Blk wr w.heap.size 30 [.int .i64 t, .int .i64 (n : Int)] ∧ Below w.heap.size w wr) (fun _ i _ => n - (intOf i).toNat)
   case atStart => exact ⟨0, _, by omega, rfl, rfl, HG3, fun q hq => by omega, G, hB⟩
   case round =>
    clear HG3 G hB
    obtain ⟨k, gb, hk, rfl, rfl, HGk, HOk, G, hB⟩ := hrel
    obtain ⟨wk, rfl⟩ : ∃ v, v = wr := ⟨_, rfl⟩
    have hk0 := Int.natCast_nonneg k
    obtain ⟨l0, l1, ltG⟩ := G.all2
    by_cases hkn : k < n
    rotate_left
    ·
     obtain rfl : k = n := by omega
     have HN : Hid (gb = gM L k p (m + 1)) := by show _ = _; rw [gM_succ]; exact HGk.out
     have HO2 : Hid (okM k p (m + 1)) := HO.out.succ HOk.out
     clear HGk HOk
     go_wp2_with fail
     go_roundw
     case rel => exact ⟨m + 1, gb, by omega, by go_num, rfl, HN, HO2, G, hB⟩
     case measure => simp [intOf]; omega
    have hkb : (k : Int) < (n : Int) := by omega
    have hr1 := H1.out.below hB
    go_wp2_with fail
    clear l0 l1 ltG
    refine (l02Step_all (t - 1) ((n : Int) - 1) m k htm ham hm0 hm7 _ p.1 b o _ (Nat.le_refl _) hr1 Ht1.out hs1).mono ?_
    rintro f w4 ⟨y1, s1, c1, rfl, hy1, hb4⟩
    have hB4 := Below.on hB hb4 hB.size
    have G4 := G.below hb4
    clear hr1 hb4 G hB
    go_wp2_with fail
    obtain ⟨w5, e5, X1, hb5, hz5⟩ := box3 w4 34 (.int .i64 y1.kind) (.int .i64 y1.num) (.slice s1 y1.kids.length c1)
    rw [e5]
    have hB5 := hB4.trans (hb5.mono hB4.size)
    have G5 := G4.below hb5
    have hz45 := hb5.size
    clear e5 hz5 G4
    refine (l02Step_all (t - 1) ((n : Int) - 1) m k htm ham hm0 hm7 _ p.2 b (o + 3) _ (Nat.le_refl _) (H2.out.below hB5) Ht2.out hs2).mono ?_
    rintro f w6 ⟨y2, s2, c2, rfl, hy2, hb6⟩
    have hB6 := Below.on hB5 hb6 hB5.size
    have G6 := G5.below hb6
    have X6 := X1.below hb6
    clear G5 X1
    obtain ⟨i1, hi1⟩ : ∃ v, (p.1.step m k).isSome = v := ⟨_, rfl⟩
    obtain ⟨i2, hi2⟩ : ∃ v, (p.2.step m k).isSome = v := ⟨_, rfl⟩
    rw [hi2]
    (try rw [hi1])
    (try simp only [hi1])
    cases i1
    ·
     cases i2
     all_goals
      have hst : st2 p m k = false := by unfold st2; rw [hi1, hi2]; rfl
      obtain ⟨f1, f2⟩ := fw_no (L := L) hml hkn hst
      have F1 := Lib.hid f1
      have F2 := Lib.hid f2
      clear f1 f2 hst hi1 hi2 hy1 hy2 HGk
      go_wp2_with fail
      obtain ⟨w7, e7, X2, hb7, hz7⟩ := box3 w6 34 (.int .i64 y2.kind) (.int .i64 y2.num) (.slice s2 y2.kids.length c2)
      rw [e7]
      go_ret2
      exact ⟨by rw [F1.out, F2.out]; rfl, hB6.trans (hb7.mono hB6.size)⟩
    cases i2
    ·
     skip
     have hst : st2 p m k = false := by unfold st2; rw [hi1, hi2]; rfl
     obtain ⟨f1, f2⟩ := fw_no (L := L) hml hkn hst
     have F1 := Lib.hid f1
     have F2 := Lib.hid f2
     clear f1 f2 hst hi1 hi2 hy1 hy2 HGk
     go_wp2_with fail
     obtain ⟨w7, e7, X2, hb7, hz7⟩ := box3 w6 34 (.int .i64 y2.kind) (.int .i64 y2.num) (.slice s2 y2.kids.length c2)
     rw [e7]
     go_ret2
     exact ⟨by rw [F1.out, F2.out]; rfl, hB6.trans (hb7.mono hB6.size)⟩
    obtain ⟨x, hx⟩ := Option.isSome_iff_exists.1 hi1
    obtain ⟨y, hy⟩ := Option.isSome_iff_exists.1 hi2
    obtain ⟨rfl, hf1⟩ := hy1 x hx
    obtain ⟨rfl, hf2⟩ := hy2 y hy
    have HOn : Hid (okK p m (k + 1)) := HOk.out.succ (st2_yes hx hy)
    have HIN := Lib.hid (in2_some (L := L) hx hy)
    have hrx := (hf1.rds.one.below hb5).below hb6
    have hry := hf2.rds.one
    clear hy1 hy2 hi1 hi2 hx hy hf1 hf2 HOk hb5 hb6
    cases gb
    ·
     have HN : Hid (false = (gM L n p m && ((p.1.emp m == p.2.emp m) && gK L p m (k + 1)))) := by
      show _ = _
      rw [gK_succ, ← Bool.and_assoc, ← Bool.and_assoc]
      rw [← Bool.and_assoc] at HGk
      exact (by have h := HGk.out; rw [← h]; rfl)
     clear HGk
     go_wp2_with fail
     obtain ⟨w7, e7, X2, hb7, hz7⟩ := box3 w6 34 (.int .i64 y2.kind) (.int .i64 y2.num) (.slice s2 y2.kids.length c2)
     rw [e7]
     have hB7 := hB6.trans (hb7.mono hB6.size)
     have G7 := G6.below hb7
     clear e7
     go_roundw
     case rel => exact ⟨k + 1, false, by omega, by go_num, rfl, HN, HOn, G7, hB7⟩
     case measure => simp [intOf]; omega
    ·
     go_wp2_with fail
     obtain ⟨w7, e7, X2, hb7, hz7⟩ := box3 w6 34 (.int .i64 y2.kind) (.int .i64 y2.num) (.slice s2 y2.kids.length c2)
     rw [e7]
     have hB7 := hB6.trans (hb7.mono hB6.size)
     have G7 := G6.below hb7
     clear e7
     refine (l03Spot_i (Hr.out.below hB7) (exAt_of (X6.below hb7) (hrx.below hb7)) (exAt_of X2 (hry.below hb7))).mono ?_
     rintro f w8 ⟨v, rfl, hv, hb8⟩
     have hB8 := Below.on hB7 hb8 hB7.size
     have G8 := G7.below hb8
     obtain ⟨bv, hbv⟩ : ∃ bv, inL L y1 y2 = bv := ⟨_, rfl⟩
     rw [hbv] at hv
     have HN : Hid (bv = (gM L n p m && ((p.1.emp m == p.2.emp m) && gK L p m (k + 1)))) := by
      show _ = _
      rw [gK_succ, HIN.out, hbv, ← Bool.and_assoc, ← Bool.and_assoc]
      rw [← Bool.and_assoc] at HGk
      exact (by have h := HGk.out; rw [← h]; rfl)
     clear HGk hbv HIN hb8 hb7 X2 X6 hrx hry
     go_wp2_with fail
     go_roundw
     case rel => exact ⟨k + 1, bv, by omega, by go_num, rfl, HN, HOn, G8, hB8⟩
     case measure => simp [intOf]; omega
  ·
   skip
   go_wp2_with fail
   refine Go.wp_region_quiet_below (by kernel_rfl) (by kernel_rfl) ?_
   repeat (first | go_big_quiet_step ((exact Calls.regrown_of (hempG _ _ _ (by first | exact Or.inl ⟨rfl, rfl⟩ | exact Or.inr ⟨rfl, rfl⟩) (below_regrown _ _ _)))) | quiet_step ((exact Calls.regrown_of (hempG _ _ _ (by first | exact Or.inl ⟨rfl, rfl⟩ | exact Or.inr ⟨rfl, rfl⟩) (below_regrown _ _ _)))))
   refine wpQuiet_nil ?_; intro _ hw'; obtain ⟨⟨dq, osq⟩, hw''⟩ := hw'; subst hw''; have hq := below_regrown w2 dq osq; revert hq; generalize grow (redrawn w2 dq) osq = w3; intro hq
   clear hempG
   replace hB := Below.on hB hq hB.size
   replace G := G.below hq
   clear hq
   have HG3 : Hid ((em1 == em2) = (gM L n p m && ((p.1.emp m == p.2.emp m) && gK L p m 0))) := by show _ = _; rw [← HG2.out]; (try rw [HM1.out, HM2.out]); (try rfl)
   clear HG2 HM1 HM2
   go_wp2_with fail
   go_loopw [8, 10] (fun g i wr => ∃ (k : Nat) (gb : Bool), k ≤ n ∧ i = .int .i64 k ∧ g = .bool gb ∧ Hid (gb = (gM L n p m && ((p.1.emp m == p.2.emp m) && gK L p m k))) ∧ Hid (okK p m k) ∧ Blk wr w.heap.size 30 [.int .i64 t, .int .i64 (n : Int)] ∧ Below w.heap.size w wr) (fun _ i _ => n - (intOf i).toNat)
   case atStart => exact ⟨0, _, by omega, rfl, rfl, HG3, fun q hq => by omega, G, hB⟩
   case round =>
    clear HG3 G hB
    obtain ⟨k, gb, hk, rfl, rfl, HGk, HOk, G, hB⟩ := hrel
    obtain ⟨wk, rfl⟩ : ∃ v, v = wr := ⟨_, rfl⟩
    have hk0 := Int.natCast_nonneg k
    obtain ⟨l0, l1, ltG⟩ := G.all2
    by_cases hkn : k < n
    rotate_left
    ·
     obtain rfl : k = n := by omega
     have HN : Hid (gb = gM L k p (m + 1)) := by show _ = _; rw [gM_succ]; exact HGk.out
     have HO2 : Hid (okM k p (m + 1)) := HO.out.succ HOk.out
     clear HGk HOk
     go_wp2_with fail
     go_roundw
     case rel => exact ⟨m + 1, gb, by omega, by go_num, rfl, HN, HO2, G, hB⟩
     case measure => simp [intOf]; omega
    have hkb : (k : Int) < (n : Int) := by omega
    have hr1 := H1.out.below hB
    go_wp2_with fail
    clear l0 l1 ltG
    refine (l02Step_all (t - 1) ((n : Int) - 1) m k htm ham hm0 hm7 _ p.1 b o _ (Nat.le_refl _) hr1 Ht1.out hs1).mono ?_
    rintro f w4 ⟨y1, s1, c1, rfl, hy1, hb4⟩
    have hB4 := Below.on hB hb4 hB.size
    have G4 := G.below hb4
    clear hr1 hb4 G hB
    go_wp2_with fail
    obtain ⟨w5, e5, X1, hb5, hz5⟩ := box3 w4 34 (.int .i64 y1.kind) (.int .i64 y1.num) (.slice s1 y1.kids.length c1)
    rw [e5]
    have hB5 := hB4.trans (hb5.mono hB4.size)
    have G5 := G4.below hb5
    have hz45 := hb5.size
    clear e5 hz5 G4
    refine (l02Step_all (t - 1) ((n : Int) - 1) m k htm ham hm0 hm7 _ p.2 b (o + 3) _ (Nat.le_refl _) (H2.out.below hB5) Ht2.out hs2).mono ?_
    rintro f w6 ⟨y2, s2, c2, rfl, hy2, hb6⟩
    have hB6 := Below.on hB5 hb6 hB5.size
    have G6 := G5.below hb6
    have X6 := X1.below hb6
    clear G5 X1
    obtain ⟨i1, hi1⟩ : ∃ v, (p.1.step m k).isSome = v := ⟨_, rfl⟩
    obtain ⟨i2, hi2⟩ : ∃ v, (p.2.step m k).isSome = v := ⟨_, rfl⟩
    rw [hi2]
    (try rw [hi1])
    (try simp only [hi1])
    cases i1
    ·
     cases i2
     all_goals
      have hst : st2 p m k = false := by unfold st2; rw [hi1, hi2]; rfl
      obtain ⟨f1, f2⟩ := fw_no (L := L) hml hkn hst
      have F1 := Lib.hid f1
      have F2 := Lib.hid f2
      clear f1 f2 hst hi1 hi2 hy1 hy2 HGk
      go_wp2_with fail
      obtain ⟨w7, e7, X2, hb7, hz7⟩ := box3 w6 34 (.int .i64 y2.kind) (.int .i64 y2.num) (.slice s2 y2.kids.length c2)
      rw [e7]
      go_ret2
      exact ⟨by rw [F1.out, F2.out]; rfl, hB6.trans (hb7.mono hB6.size)⟩
    cases i2
    ·
     skip
     have hst : st2 p m k = false := by unfold st2; rw [hi1, hi2]; rfl
     obtain ⟨f1, f2⟩ := fw_no (L := L) hml hkn hst
     have F1 := Lib.hid f1
     have F2 := Lib.hid f2
     clear f1 f2 hst hi1 hi2 hy1 hy2 HGk
     go_wp2_with fail
     obtain ⟨w7, e7, X2, hb7, hz7⟩ := box3 w6 34 (.int .i64 y2.kind) (.int .i64 y2.num) (.slice s2 y2.kids.length c2)
     rw [e7]
     go_ret2
     exact ⟨by rw [F1.out, F2.out]; rfl, hB6.trans (hb7.mono hB6.size)⟩
    obtain ⟨x, hx⟩ := Option.isSome_iff_exists.1 hi1
    obtain ⟨y, hy⟩ := Option.isSome_iff_exists.1 hi2
    obtain ⟨rfl, hf1⟩ := hy1 x hx
    obtain ⟨rfl, hf2⟩ := hy2 y hy
    have HOn : Hid (okK p m (k + 1)) := HOk.out.succ (st2_yes hx hy)
    have HIN := Lib.hid (in2_some (L := L) hx hy)
    have hrx := (hf1.rds.one.below hb5).below hb6
    have hry := hf2.rds.one
    clear hy1 hy2 hi1 hi2 hx hy hf1 hf2 HOk hb5 hb6
    cases gb
    ·
     have HN : Hid (false = (gM L n p m && ((p.1.emp m == p.2.emp m) && gK L p m (k + 1)))) := by
      show _ = _
      rw [gK_succ, ← Bool.and_assoc, ← Bool.and_assoc]
      rw [← Bool.and_assoc] at HGk
      exact (by have h := HGk.out; rw [← h]; rfl)
     clear HGk
     go_wp2_with fail
     obtain ⟨w7, e7, X2, hb7, hz7⟩ := box3 w6 34 (.int .i64 y2.kind) (.int .i64 y2.num) (.slice s2 y2.kids.length c2)
     rw [e7]
     have hB7 := hB6.trans (hb7.mono hB6.size)
     have G7 := G6.below hb7
     clear e7
     go_roundw
     case rel => exact ⟨k + 1, false, by omega, by go_num, rfl, HN, HOn, G7, hB7⟩
     case measure => simp [intOf]; omega
    ·
     go_wp2_with fail
     obtain ⟨w7, e7, X2, hb7, hz7⟩ := box3 w6 34 (.int .i64 y2.kind) (.int .i64 y2.num) (.slice s2 y2.kids.length c2)
     rw [e7]
     have hB7 := hB6.trans (hb7.mono hB6.size)
     have G7 := G6.below hb7
     clear e7
     refine (l03Spot_i (Hr.out.below hB7) (exAt_of (X6.below hb7) (hrx.below hb7)) (exAt_of X2 (hry.below hb7))).mono ?_
     rintro f w8 ⟨v, rfl, hv, hb8⟩
     have hB8 := Below.on hB7 hb8 hB7.size
     have G8 := G7.below hb8
     obtain ⟨bv, hbv⟩ : ∃ bv, inL L y1 y2 = bv := ⟨_, rfl⟩
     rw [hbv] at hv
     have HN : Hid (bv = (gM L n p m && ((p.1.emp m == p.2.emp m) && gK L p m (k + 1)))) := by
      show _ = _
      rw [gK_succ, HIN.out, hbv, ← Bool.and_assoc, ← Bool.and_assoc]
      rw [← Bool.and_assoc] at HGk
      exact (by have h := HGk.out; rw [← h]; rfl)
     clear HGk hbv HIN hb8 hb7 X2 X6 hrx hry
     go_wp2_with fail
     go_roundw
     case rel => exact ⟨k + 1, bv, by omega, by go_num, rfl, HN, HOn, G8, hB8⟩
     case measure => simp [intOf]; omega
noncomputable def cbV (t a : Int) (e f : Ex) (L : List (Ex × Ex)) : Bool := okB t a e && okB t a f && pairsB (t - 1) (a - 1) L
open Classical in
noncomputable def cbC (t a : Int) (e f : Ex) (L : List (Ex × Ex)) : Int := if cbV t a e f L = true then (if 400 < L.length then 2 else if okL L (atomsN t).toNat a.toNat L.length then 0 else 3) else 1
open Classical in
noncomputable def cbR (t a : Int) (e f : Ex) (L : List (Ex × Ex)) : Bool := if cbV t a e f L = true ∧ ¬ 400 < L.length ∧ okL L (atomsN t).toNat a.toNat L.length then inL L e.tidy f.tidy && gL L (atomsN t).toNat a.toNat L.length else false
section
variable {t a : Int} {e f : Ex} {L : List (Ex × Ex)}
theorem cb_bad (h : cbV t a e f L = false) : cbC t a e f L = 1 ∧ cbR t a e f L = false := by
 have hn : ¬ cbV t a e f L = true := by rw [h]; decide
 exact ⟨if_neg hn, if_neg fun q => hn q.1⟩
theorem cb_many (h : cbV t a e f L = true) (h4 : 400 < L.length) : cbC t a e f L = 2 ∧ cbR t a e f L = false := by
 refine ⟨?_, if_neg fun q => q.2.1 h4⟩
 unfold cbC
 rw [if_pos h, if_pos h4]
theorem cb_lim (h : cbV t a e f L = true) (h4 : ¬ 400 < L.length) {p : Ex × Ex} (hp : p ∈ L) (ho : ¬ okM a.toNat p (atomsN t).toNat) : cbC t a e f L = 3 ∧ cbR t a e f L = false := by
 have hn : ¬ okL L (atomsN t).toNat a.toNat L.length := fun q => ho (q p (by rw [List.take_length]; exact hp))
 refine ⟨?_, if_neg fun q => hn q.2.2⟩
 unfold cbC
 rw [if_pos h, if_neg h4, if_neg hn]
theorem cb_yes (h : cbV t a e f L = true) (h4 : ¬ 400 < L.length) (ho : okL L (atomsN t).toNat a.toNat L.length) : cbC t a e f L = 0 ∧ cbR t a e f L = (inL L e.tidy f.tidy && gL L (atomsN t).toNat a.toNat L.length) := by
 refine ⟨?_, if_pos ⟨h, h4, ho⟩⟩
 unfold cbC
 rw [if_pos h, if_neg h4, if_pos ho]
theorem pair_form {tm am : Int} (h : pairsB tm am L = true) {i : Nat} {p : Ex × Ex} (hp : L[i]? = some p) : p.1.tree tm am = true ∧ p.2.tree tm am = true ∧ p.1.size ≤ 800 ∧ p.2.size ≤ 800 := by
 unfold pairsB at h
 have q := List.all_eq_true.1 h p (List.mem_of_getElem? hp)
 simp only [pairB, formB, Bool.and_eq_true, decide_eq_true_eq] at q
 exact ⟨q.1.2, q.2.2, q.1.1, q.2.1⟩
end
theorem box6 (w : World) (t : TypeId) (a b c d e f : Value) : ∃ w', w.alloc (.cells #[a, b, c, d, e, f] t) = w' ∧ Blk w' w.heap.size t [a, b, c, d, e, f] ∧ Below w.heap.size w w' ∧ w'.heap.size = w.heap.size + 1 :=
 ⟨_, rfl, Blk.new6 .., Below.alloc (Below.refl _ _) (Nat.le_refl _) _, by simp⟩
theorem pair_at {w : World} {g T : Nat} {p : Ex × Ex} {s u : Option Addr} {c d : Nat} (h : Blk w g T [.int .i64 p.1.kind, .int .i64 p.1.num, .slice s p.1.kids.length c, .int .i64 p.2.kind, .int .i64 p.2.num, .slice u p.2.kids.length d]) (h1 : Rd w (kidsD p.1.kids) (.slice s p.1.kids.length c)) (h2 : Rd w (kidsD p.2.kids) (.slice u p.2.kids.length d)) :
  ExAt w g 0 p.1 ∧ ExAt w g (0 + 3) p.2 :=
 ⟨⟨h.c0, h.c1, s, c, h.c2, h1⟩, ⟨h.c3, h.c4, u, d, h.c5, h2⟩⟩
set_option maxRecDepth 100000 in
set_option maxHeartbeats 16000000 in
theorem specCheckBisim_i {t a k n k' n' : Int} {ks js : List Ex} {L : List (Ex × Ex)} {s s' sp : Option Addr} {c c' cp : Nat} {w : World} (hr : Rd w (kidsD ks) (.slice s ks.length c)) (hr' : Rd w (kidsD js) (.slice s' js.length c')) (hp : Rd w (prD L) (.slice sp L.length cp)) (h1 : Ex.sizeL ks ≤ 1048576) (h2 : Ex.sizeL js ≤ 1048576) :
  Calls Tryz.prog 12 #[.agg #[.int .i64 t, .int .i64 a], .agg #[.int .i64 k, .int .i64 n, .slice s ks.length c], .agg #[.int .i64 k', .int .i64 n', .slice s' js.length c'], .slice sp L.length cp] w fun e w' => e = .returned (.tuple #[.bool (cbR t a (.mk k n ks) (.mk k' n' js) L), .int .i64 (cbC t a (.mk k n ks) (.mk k' n' js) L)]) ∧ Below w.heap.size w w' := by
 have Hsz1 : Hid (Ex.size (.mk k n ks) ≤ 1073741824) := by show _ ≤ _; rw [Ex.size_eq]; simp only [Ex.kids]; omega
 have Hsz2 : Hid (Ex.size (.mk k' n' js) ≤ 1073741824) := by show _ ≤ _; rw [Ex.size_eq]; simp only [Ex.kids]; omega
 obtain ⟨-, hlen, hcap⟩ := pr_bd hp
 unfold maxLen at hcap
 go_enter Tryz.func12, Tryz.ntmps12
 go_upto_region 1 with fail
 obtain ⟨w1, e1, G, hb1, hz1⟩ := box2 w 30 (.int .i64 t) (.int .i64 a)
 rw [e1]
 obtain ⟨w2, e2, M, hb2, hz2⟩ := box3 w1 34 (.int .i64 k) (.int .i64 n) (.slice s ks.length c)
 rw [e2]
 obtain ⟨w3, e3, N, hb3, hz3⟩ := box3 w2 34 (.int .i64 k') (.int .i64 n') (.slice s' js.length c')
 rw [e3]
 rw [hz1] at M
 rw [hz2, hz1] at N
 have hB : Below w.heap.size w w3 := (hb1.trans (hb2.mono (by omega))).trans (hb3.mono (by omega))
 replace G := (G.below hb2).below hb3
 replace M := M.below hb3
 have HE := Lib.hid (M.exAt (hr.below hB))
 have HF := Lib.hid (N.exAt (hr'.below hB))
 have HP := Lib.hid hp
 have HB := Lib.hid hB
 have HG := Lib.hid G
 have hz : w3.heap.size = w.heap.size + 1 + 1 + 1 := by omega
 clear e1 e2 e3 hb1 hb2 hb3 hz1 hz2 hz3 hr hr' M N h1 h2 hp hB
 obtain ⟨l0, l1, ltL⟩ := G.all2
 clear G
 go_wp2_with fail
 clear l0 l1 ltL
 refine (l01Ok_i HE.out Hsz1.out).mono ?_
 rintro f w4 ⟨rfl, hb4⟩
 obtain ⟨v1, hv1⟩ : ∃ v, okB t a (.mk k n ks) = v := ⟨_, rfl⟩
 rw [hv1]
 cases v1
 ·
  skip
  have hcb := cb_bad (t := t) (a := a) (e := .mk k n ks) (f := .mk k' n' js) (L := L) (by unfold cbV; rw [hv1]; rfl)
  have F1 := Lib.hid hcb.1
  have F2 := Lib.hid hcb.2
  clear hcb
  go_wp2_with fail
  go_ret2
  exact ⟨by rw [F1.out, F2.out]; rfl, HB.out.trans (hb4.mono (by omega))⟩
 obtain ⟨l0, l1, ltL⟩ := (HG.out.below hb4).all2
 go_wp2_with fail
 clear l0 l1 ltL
 refine (l01Ok_i (HF.out.below hb4) Hsz2.out).mono ?_
 rintro f w5 ⟨rfl, hb5⟩
 have hb35 := hb4.trans (hb5.mono hb4.size)
 obtain ⟨v2, hv2⟩ : ∃ v, okB t a (.mk k' n' js) = v := ⟨_, rfl⟩
 rw [hv2]
 cases v2
 ·
  skip
  have hcb := cb_bad (t := t) (a := a) (e := .mk k n ks) (f := .mk k' n' js) (L := L) (by unfold cbV; rw [hv1, hv2]; rfl)
  have F1 := Lib.hid hcb.1
  have F2 := Lib.hid hcb.2
  clear hcb
  go_wp2_with fail
  go_ret2
  exact ⟨by rw [F1.out, F2.out]; rfl, HB.out.trans (hb35.mono (by omega))⟩
 obtain ⟨ht0, ht3, ha0, ha4, hs1, htr1⟩ := okB_bd4 hv1
 obtain ⟨-, -, -, -, hs2, htr2⟩ := okB_bd4 hv2
 have hsig := okB_sig hv1
 have q1 : IntKind.i64.wrap (t - 1) = t - 1 := wrap_of (by omega) (by omega)
 have q2 : IntKind.i64.wrap (a - 1) = a - 1 := wrap_of (by omega) (by omega)
 have hlist := fun (ws : World) (hb : Below w.heap.size w ws) => l03Listed_i (w := ws) q1 q2 (HP.out.below hb)
 obtain ⟨v3, hv3⟩ : ∃ v, pairsB (t - 1) (a - 1) L = v := ⟨_, rfl⟩
 rw [hv3, hsig, Bool.and_true] at hlist
 obtain ⟨l0, l1, ltL⟩ := (HG.out.below hb35).all2
 clear q1 q2 hsig
 go_wp2_with fail
 clear l0 l1 ltL
 refine (hlist _ (HB.out.trans (hb35.mono (by omega)))).mono ?_
 rintro f w6 ⟨rfl, hb6⟩
 have hb36 := hb35.trans (hb6.mono hb35.size)
 clear hlist
 cases v3
 ·
  skip
  have hcb := cb_bad (t := t) (a := a) (e := .mk k n ks) (f := .mk k' n' js) (L := L) (by unfold cbV; rw [hv1, hv2, hv3]; rfl)
  have F1 := Lib.hid hcb.1
  have F2 := Lib.hid hcb.2
  clear hcb
  go_wp2_with fail
  go_ret2
  exact ⟨by rw [F1.out, F2.out]; rfl, HB.out.trans (hb36.mono (by omega))⟩
 have HV : Hid (cbV t a (.mk k n ks) (.mk k' n' js) L = true) := by show _ = _; unfold cbV; rw [hv1, hv2, hv3]; rfl
 have HPF := Lib.hid (fun (i : Nat) (p : Ex × Ex) (h : L[i]? = some p) => pair_form hv3 h)
 have Htr1 := Lib.hid htr1
 have Htr2 := Lib.hid htr2
 clear hv1 hv2 hv3 htr1 htr2 hb4 hb5 hb6 hb35
 by_cases h4 : 400 < L.length
 ·
  have hd4 : decide ((400 : Int) < (L.length : Int)) = true := by apply decide_eq_true; omega
  have hcb := cb_many HV.out h4
  have F1 := Lib.hid hcb.1
  have F2 := Lib.hid hcb.2
  clear hcb
  go_wp2_with fail
  go_ret2
  exact ⟨by rw [F1.out, F2.out]; rfl, HB.out.trans (hb36.mono (by omega))⟩
 have hd4 : decide ((400 : Int) < (L.length : Int)) = false := by apply decide_eq_false; omega
 go_wp2_with fail
 refine (l02Tidy_all (t - 1) (a - 1) (by omega) (by omega) _ (.mk k n ks) _ _ _ (Nat.le_refl _) (HE.out.below hb36) Htr1.out (by omega)).mono ?_
 rintro f w7 ⟨s1, c1, rfl, hf1, hb7⟩
 have hb37 := hb36.trans (hb7.mono hb36.size)
 go_wp2_with fail
 obtain ⟨w8, e8, X1, hb8, hz8⟩ := box3 w7 34 (.int .i64 (Ex.mk k n ks).tidy.kind) (.int .i64 (Ex.mk k n ks).tidy.num) (.slice s1 (Ex.mk k n ks).tidy.kids.length c1)
 rw [e8]
 have hb38 := hb37.trans (hb8.mono hb37.size)
 clear e8 hz8
 refine (l02Tidy_all (t - 1) (a - 1) (by omega) (by omega) _ (.mk k' n' js) _ _ _ (Nat.le_refl _) (HF.out.below hb38) Htr2.out (by omega)).mono ?_
 rintro f w9 ⟨s2, c2, rfl, hf2, hb9⟩
 have hb39 := hb38.trans (hb9.mono hb38.size)
 go_wp2_with fail
 obtain ⟨w10, e10, X2, hb10, hz10⟩ := box3 w9 34 (.int .i64 (Ex.mk k' n' js).tidy.kind) (.int .i64 (Ex.mk k' n' js).tidy.num) (.slice s2 (Ex.mk k' n' js).tidy.kids.length c2)
 rw [e10]
 have hb310 := hb39.trans (hb10.mono hb39.size)
 clear e10 hz10
 refine (l03Spot_i (HP.out.below (HB.out.trans (hb310.mono (by omega)))) (exAt_of ((X1.below hb9).below hb10) (((hf1.rds.one.below hb8).below hb9).below hb10)) (exAt_of X2 (hf2.rds.one.below hb10))).mono ?_
 rintro f w11 ⟨v, rfl, hv, hb11⟩
 have hb311 := hb310.trans (hb11.mono hb310.size)
 obtain ⟨bt, hbt⟩ : ∃ b, inL L (Ex.mk k n ks).tidy (Ex.mk k' n' js).tidy = b := ⟨_, rfl⟩
 rw [hbt] at hv
 have HBT := Lib.hid hbt
 obtain ⟨n0, rfl⟩ : ∃ n0 : Nat, a = (n0 : Int) := ⟨a.toNat, by omega⟩
 have hn0 : n0 ≤ 4 := by omega
 clear X1 X2 hf1 hf2 hb7 hb8 hb9 hb10 hb11 hb36 hb37 hb38 hb39 hb310 hbt
 go_wp2_with fail
 go_loopw [12, 13] (fun g i wr => ∃ (j : Nat) (gb : Bool), j ≤ L.length ∧ i = .int .i64 j ∧ g = .bool gb ∧ Hid (gb = (bt && gL L (atomsN t).toNat n0 j)) ∧ Hid (okL L (atomsN t).toNat n0 j) ∧ Below w3.heap.size w3 wr) (fun _ i _ => L.length - (intOf i).toNat)
 case atStart => exact ⟨0, bt, by omega, rfl, rfl, by show _ = _; rw [gL_zero, Bool.and_true], fun p hp => by simp at hp, hb311⟩
 case round =>
  clear hb311 hv
  obtain ⟨j, gb, hj, rfl, rfl, HGB, HOK, hBj⟩ := hrel
  obtain ⟨wj, rfl⟩ : ∃ v, v = wr := ⟨_, rfl⟩
  have hj0 := Int.natCast_nonneg j
  have hBw := HB.out.trans (hBj.mono (by omega : w.heap.size ≤ w3.heap.size))
  by_cases hjl : j < L.length
  rotate_left
  ·
   obtain rfl : j = L.length := by omega
   have hcb := cb_yes (t := t) (a := (n0 : Int)) HV.out h4 (by rw [Int.toNat_natCast]; exact HOK.out)
   rw [Int.toNat_natCast, HBT.out, ← HGB.out] at hcb
   have F1 := Lib.hid hcb.1
   have F2 := Lib.hid hcb.2
   clear hcb HGB
   go_wp2_with fail
   go_ret2
   exact ⟨by rw [F1.out, F2.out]; rfl, hBw⟩
  obtain ⟨p, hp⟩ : ∃ e, L[j]? = some e := ⟨_, List.getElem?_eq_getElem hjl⟩
  obtain ⟨pb, po, rfl⟩ := pr_some HP.out (by omega)
  obtain ⟨-, s3, c3, s4, c4, g0, g1, g2, g3, g4, g5, r1, r2⟩ := pr_in (HP.out.below hBw) hp
  obtain ⟨tr1, tr2, sz1, sz2⟩ := HPF.out j p hp
  have hjb : (j : Int) < (L.length : Int) := by omega
  have Hp := Lib.hid hp
  have Hr1 := Lib.hid r1
  have Hr2 := Lib.hid r2
  have Htr3 := Lib.hid tr1
  have Htr4 := Lib.hid tr2
  obtain ⟨l0, l1, ltL⟩ := (HG.out.below (hBj.alloc hBj.size (.cells #[.int .i64 p.1.kind, .int .i64 p.1.num, .slice s3 p.1.kids.length c3, .int .i64 p.2.kind, .int .i64 p.2.num, .slice s4 p.2.kids.length c4] 69))).all2
  clear hp r1 r2 tr1 tr2
  go_wp2_with fail
  clear g0 g1 g2 g3 g4 g5 l0 l1 ltL
  obtain ⟨w12, e12, X, hb12, hz12⟩ := box6 wj 69 (.int .i64 p.1.kind) (.int .i64 p.1.num) (.slice s3 p.1.kids.length c3) (.int .i64 p.2.kind) (.int .i64 p.2.num) (.slice s4 p.2.kids.length c4)
  rw [e12]
  have hB12 := hBj.trans (hb12.mono hBj.size)
  obtain ⟨x1, x2⟩ := pair_at X (Hr1.out.below hb12) (Hr2.out.below hb12)
  clear e12 hz12
  refine (l03Follows_i (L := L) (n := n0) ht0 ht3 hn0 (HP.out.below (HB.out.trans (hB12.mono (by omega)))) x1 x2 Htr3.out Htr4.out (by omega) (by omega)).mono ?_
  rintro f w13 ⟨rfl, hb13⟩
  have hB13 := hB12.trans (hb13.mono hB12.size)
  by_cases ho : okM n0 p (atomsN t).toNat
  ·
   obtain ⟨f1, f2⟩ := fw_yes (L := L) ho
   have HN : Hid ((gb && gM L n0 p (atomsN t).toNat) = (bt && gL L (atomsN t).toNat n0 (j + 1))) := by show _ = _; rw [gL_succ Hp.out, HGB.out, Bool.and_assoc]
   have HO2 := Lib.hid (HOK.out.succ Hp.out ho)
   rw [f1, f2]
   clear f1 f2 HGB HOK ho hb13 hb12 X x1 x2
   obtain ⟨gv, hgv⟩ : ∃ v, gM L n0 p (atomsN t).toNat = v := ⟨_, rfl⟩
   rw [hgv] at HN ⊢
   clear hgv
   cases gb
   all_goals
    go_wp2_with fail
    go_roundw
    case rel => exact ⟨j + 1, _, by omega, by go_num, rfl, HN, HO2, hB13⟩
    case measure => simp [intOf]; omega
  ·
   have f1 : fwC (atomsN t).toNat n0 p = 3 := if_neg ho
   have f2 : fwB L (atomsN t).toNat n0 p = false := if_neg ho
   have hcb := cb_lim HV.out h4 (List.mem_of_getElem? Hp.out) (by rw [Int.toNat_natCast]; exact ho)
   have F1 := Lib.hid hcb.1
   have F2 := Lib.hid hcb.2
   rw [f1, f2]
   clear f1 f2 HGB HOK ho hb13 hb12 X x1 x2 hcb
   go_wp2_with fail
   go_ret2
   exact ⟨by rw [F1.out, F2.out]; rfl, HB.out.trans (hB13.mono (by omega))⟩
end Go.Proofs.YtcokljhamhgelaaGreatDoor
