/-
  Parts of a proof, joined: CbI. No condition.
-/
import Derived.Test.YtcokljhamhgelaaGreatDoorPk15
import Derived.Test.YtcokljhamhgelaaGreatDoorPk23
namespace Go.Proofs.YtcokljhamhgelaaGreatDoor
set_option linter.unusedVariables false
set_option linter.unusedSimpArgs false
open Go.ChangeShapes Go.WideShapes Go.ChangeAt Go.RowKit Go.Sort Go.Deep
theorem ga_next {gb q E K I ga : Bool} (h : ga = (gb && (q && (E && K)))) : (ga && I) = (gb && (q && (E && (K && I)))) := by
 subst h
 simp only [Bool.and_assoc]
set_option maxRecDepth 100000 in
set_option maxHeartbeats 32000000 in
theorem implCheckBisim_e {t a : Int} {e f : Ex} {L : List (Ex × Ex)} {s s' sp : Option Addr} {c c' cp : Nat} {w : World} (hr : Rd w (kidsD e.kids) (.slice s e.kids.length c)) (hr' : Rd w (kidsD f.kids) (.slice s' f.kids.length c')) (hp : Rd w (prD L) (.slice sp L.length cp)) :
  Calls Tryz.prog 14 #[.agg #[.int .i64 t, .int .i64 a], .agg #[.int .i64 e.kind, .int .i64 e.num, .slice s e.kids.length c], .agg #[.int .i64 f.kind, .int .i64 f.num, .slice s' f.kids.length c'], .slice sp L.length cp] w fun e' w' => e' = .returned (.tuple #[.bool (cbR t a e f L), .int .i64 (cbC t a e f L)]) ∧ Below w.heap.size w w' := by
 obtain ⟨-, hlen, hcap⟩ := pr_bd hp
 unfold maxLen at hcap
 have hmm := @run_makeMap Tryz.prog
 go_enter Tryz.func14, Tryz.ntmps14
 go_upto_region 1 with fail
 obtain ⟨w1, e1, G, hb1, hz1⟩ := box2 w 30 (.int .i64 t) (.int .i64 a)
 rw [e1]
 obtain ⟨w2, e2, M, hb2, hz2⟩ := box3 w1 34 (.int .i64 e.kind) (.int .i64 e.num) (.slice s e.kids.length c)
 rw [e2]
 obtain ⟨w3, e3, N, hb3, hz3⟩ := box3 w2 34 (.int .i64 f.kind) (.int .i64 f.num) (.slice s' f.kids.length c')
 rw [e3]
 rw [hz1] at M
 rw [hz2, hz1] at N
 have hB : Below w.heap.size w w3 := (hb1.trans (hb2.mono (by omega))).trans (hb3.mono (by omega))
 replace G := (G.below hb2).below hb3
 replace M := M.below hb3
 have HE := Lib.hid (hr.below hB)
 have HF := Lib.hid (hr'.below hB)
 have HP := Lib.hid (hp.below hB)
 have HB := Lib.hid hB
 have HG := Lib.hid G
 have HM := Lib.hid M
 have HN := Lib.hid N
 have hz : w.heap.size + 3 ≤ w3.heap.size := by omega
 obtain ⟨l0, l1, ltL⟩ := G.all2
 obtain ⟨m0, m1, m2, -, -, -, ltM⟩ := M.all3
 obtain ⟨n0, n1, n2, -, -, -, ltN⟩ := N.all3
 clear e1 e2 e3 hb1 hb2 hb3 hz1 hz2 hz3 hr hr' hp hB G M N
 go_wp2_with fail
 clear l0 l1 ltL m0 m1 m2 ltM n0 n1 n2 ltN
 obtain ⟨w4, e4, S, hb4, hz4⟩ := box6 w3 34 (.int .i64 e.kind) (.int .i64 e.num) (.slice s e.kids.length c) (.int .i64 f.kind) (.int .i64 f.num) (.slice s' f.kids.length c')
 rw [e4]
 clear e4
 refine (validExprs_i (L := [e, f]) (rd_pair S (HE.out.below hb4) (HF.out.below hb4))).mono ?_
 rintro g w5 ⟨rfl, hb5⟩
 have hb35 := hb4.trans (hb5.mono (by omega))
 rw [cb_valid]
 clear S hb4 hb5 hz4
 obtain ⟨v1, hv1⟩ : ∃ v, (okB t a e && okB t a f) = v := ⟨_, rfl⟩
 rw [hv1]
 cases v1
 ·
  skip
  have hcb := cb_bad (t := t) (a := a) (e := e) (f := f) (L := L) (by unfold cbV; rw [hv1]; rfl)
  have F1 := Lib.hid hcb.1
  have F2 := Lib.hid hcb.2
  clear hcb
  go_wp2_with fail
  go_ret2
  exact ⟨by rw [F1.out, F2.out]; rfl, HB.out.trans (hb35.mono (by omega))⟩
 have hv12 := hv1
 rw [Bool.and_eq_true] at hv12
 obtain ⟨ht0, ht3, ha0, ha4, hs1, htr1⟩ := okB_bd4 hv12.1
 obtain ⟨-, -, -, -, hs2, htr2⟩ := okB_bd4 hv12.2
 have Hv1 := Lib.hid hv1
 have Htr1 := Lib.hid htr1
 have Htr2 := Lib.hid htr2
 have q1 : IntKind.i64.wrap (t - 1) = t - 1 := wrap_of (by omega) (by omega)
 have q2 : IntKind.i64.wrap (a - 1) = a - 1 := wrap_of (by omega) (by omega)
 have Hq1 := Lib.hid q1
 have Hq2 := Lib.hid q2
 have ht8 : t - 1 ≤ 8 := by omega
 have ha8 : a - 1 ≤ 8 := by omega
 have hz35 := hb35.size
 have HB5 := Lib.hid hb35
 clear hv1 hv12 htr1 htr2 q1 q2 hb35
 go_upto_region 5 with fail
 obtain ⟨w6, e6, hM0, hb6, hz6⟩ := newMap w5
 rw [e6]
 obtain ⟨gMp, hgM⟩ : ∃ g, w5.heap.size = g := ⟨_, rfl⟩
 rw [hgM] at hM0 ⊢
 have hgM1 : w5.heap.size ≤ gMp := by omega
 have hgM2 : gMp ≤ w5.heap.size := by omega
 have hgM3 : w3.heap.size ≤ gMp := by omega
 clear e6 hz6 hgM
 go_loopw [31] (fun i wr => ∃ (k : Nat) (Mp : List (List UInt8 × Bool)), k ≤ L.length ∧ i = .int .i64 k ∧ MapAt Tryz.prog 9 kfS Value.bool wr gMp Mp ∧ Hid (InMap (L.take k) Mp) ∧ Hid (∀ (j : Nat) (p : Ex × Ex), j < k → L[j]? = some p → pairB (t - 1) (a - 1) p = true) ∧ Below w5.heap.size w5 wr) (fun i _ => L.length - (intOf i).toNat)
 case atStart => exact ⟨0, [], by omega, rfl, hM0, InMap.nil, fun j p hj => by omega, hb6⟩
 case round =>
  clear hM0 hb6
  obtain ⟨k, Mp, hk, rfl, hM, HI, Hpre, hB⟩ := hrel
  obtain ⟨wk, rfl⟩ : ∃ v, v = wr := ⟨_, rfl⟩
  have hk0 := Int.natCast_nonneg k
  have hzk := hB.size
  have hB3 := HB5.out.trans (hB.mono hz35)
  by_cases hlt : k < L.length
  rotate_left
  ·
   obtain rfl : k = L.length := by omega
   have hpb : pairsB (t - 1) (a - 1) L = true := pairsB_all Hpre.out
   have HV : Hid (cbV t a e f L = true) := by show _ = _; unfold cbV; rw [Hv1.out, hpb]; rfl
   have HPF := Lib.hid (fun (i : Nat) (p : Ex × Ex) (h : L[i]? = some p) => pair_form hpb h)
   have hI := HI.out
   rw [List.take_length] at hI
   have HPT := Lib.hid (fun (p : Ex × Ex) (h : p ∈ L) => (by
    obtain ⟨i, hi⟩ := List.mem_iff_getElem?.1 h
    exact ⟨(pair_form hpb hi).1, (pair_form hpb hi).2.1⟩ : PairT (t - 1) (a - 1) p))
   have HL := Lib.hid (fun (x y : Ex) (hx : x.tree (t - 1) (a - 1) = true) (hy : y.tree (t - 1) (a - 1) = true) => look_in ht8 ha8 hI HPT.out hx hy)
   have HMp := Lib.hid hM
   have HB3 := Lib.hid hB3
   clear Hpre HI hI hpb hM hB hB3 Hv1 HPT hk hlt
   by_cases hN4 : 400 < L.length
   ·
    have hd4 : decide ((400 : Int) < (L.length : Int)) = true := by apply decide_eq_true; omega
    have hcb := cb_many HV.out hN4
    have F1 := Lib.hid hcb.1
    have F2 := Lib.hid hcb.2
    clear hcb
    go_wp2_with fail
    go_ret2
    exact ⟨by rw [F1.out, F2.out]; rfl, HB.out.trans (HB3.out.mono (by omega))⟩
   have hd4 : decide ((400 : Int) < (L.length : Int)) = false := by apply decide_eq_false; omega
   -- dev( 1
   go_upto_region 13 with fail
   have HE9 := Lib.hid (HE.out.below HB3.out)
   have HF9 := Lib.hid (HF.out.below HB3.out)
   have HME := Lib.hid (HM.out.below HB3.out)
   have HNE := Lib.hid (HN.out.below HB3.out)
   obtain ⟨te1, te2⟩ := tidy_spec (t - 1) (a - 1) _ e (Nat.le_refl _) Htr1.out
   obtain ⟨tf1, tf2⟩ := tidy_spec (t - 1) (a - 1) _ f (Nat.le_refl _) Htr2.out
   obtain ⟨bt, hbt⟩ : ∃ b, inL L e.tidy f.tidy = b := ⟨_, rfl⟩
   have Hlk := Lib.hid (HL.out e.tidy f.tidy te1 tf1)
   rw [hbt] at Hlk
   have HBT := Lib.hid hbt
   obtain ⟨-, -, hkl⟩ := pkey_len ht8 ha8 te1 tf1 (by omega) (by omega)
   have Hkey := Lib.hid (keyS (t := pkey (e.tidy, f.tidy)) (by omega))
   have Hte := Lib.hid te1
   have Htf := Lib.hid tf1
   have hse : e.tidy.size ≤ 100000 := by omega
   have hsf : f.tidy.size ≤ 100000 := by omega
   have hXW : ∀ b : Nat, (fun _ : Nat => False) b → b < wk.heap.size := fun _ h => h.elim
   clear hbt te1 tf1 hkl te2 tf2
   have hGX : ∀ m b, (fun (_ _ : Nat) => False) m b → (fun _ => False) b := by
    exact fun _ _ h => h.elim
   refine region_rs [] [] (fun (_ _ : Nat) => False) (wk.heap.size) (fun i iv vs wx => match i with
    | 0 => vs 0 = .map (some gMp)
    | 1 => vs 1 = .agg #[.int .i64 e.kind, .int .i64 e.num, .slice s e.kids.length c]
    | 2 => ∃ sa ca, vs 2 = .agg #[.int .i64 e.tidy.kind, .int .i64 e.tidy.num, .slice sa e.tidy.kids.length ca] ∧ RdO wk (fun _ => False) (foot [] [] (fun (_ _ : Nat) => False) 8 2 iv) wx (kidsD e.tidy.kids) (.slice sa e.tidy.kids.length ca)
    | 3 => vs 3 = .agg #[.int .i64 f.kind, .int .i64 f.num, .slice s' f.kids.length c']
    | 4 => ∃ sb cb, vs 4 = .agg #[.int .i64 f.tidy.kind, .int .i64 f.tidy.num, .slice sb f.tidy.kids.length cb] ∧ RdO wk (fun _ => False) (foot [] [] (fun (_ _ : Nat) => False) 8 4 iv) wx (kidsD f.tidy.kids) (.slice sb f.tidy.kids.length cb)
    | 5 => vs 5 = .string (bs (pkey (e.tidy, f.tidy)))
    | 6 => vs 6 = .bool bt
    | 7 => vs 7 = .bool bt
    | _ => True) (fun i iv vs => match i with
    | 0 => vs 0 = .map (some gMp)
    | 1 => vs 1 = .agg #[.int .i64 e.kind, .int .i64 e.num, .slice s e.kids.length c]
    | 2 => ∃ sa ca, vs 2 = .agg #[.int .i64 e.tidy.kind, .int .i64 e.tidy.num, .slice sa e.tidy.kids.length ca]
    | 3 => vs 3 = .agg #[.int .i64 f.kind, .int .i64 f.num, .slice s' f.kids.length c']
    | 4 => ∃ sb cb, vs 4 = .agg #[.int .i64 f.tidy.kind, .int .i64 f.tidy.num, .slice sb f.tidy.kids.length cb]
    | 5 => vs 5 = .string (bs (pkey (e.tidy, f.tidy)))
    | 6 => vs 6 = .bool bt
    | 7 => vs 7 = .bool bt
    | _ => True) (by kernel_rfl) (by kernel_rfl) [0, 1, 2, 3, 4, 5, 6, 7] (by kernel_rfl) ?hbase ?hGb ?hG ?hJ ?hE ?hEE ?hstep ?hQ
   case hbase => first | exact Nat.le_refl _ | omega | (simp; omega)
   case hGb =>
    exact fun _ _ h => h.elim
   case hG =>
    exact fun _ _ _ h => h.elim
   case hJ =>
    intro i hi iv iv' vs vs' wx wx' ha hv hz hk hj
    simp only [List.mem_cons, List.not_mem_nil, or_false] at hi
    rcases hi with rfl | rfl | rfl | rfl | rfl | rfl | rfl | rfl
    ·
     exact (hv.out 0 (mem_of (by kernel_rfl))).symm.trans hj
    ·
     exact (hv.out 1 (mem_of (by kernel_rfl))).symm.trans hj
    ·
     have e2 := hv.out 2 (mem_of (by kernel_rfl))
     obtain ⟨sa, ca, q1, q2⟩ := hj
     exact ⟨sa, ca, e2 ▸ q1, q2.keep hz (fun b hb h1 => hk.out b hb h1) (fun b h1 => foot_agree (l := ancs _ 8 2) (by exact of_decide_eq_true (by kernel_rfl)) ha.out h1)⟩
    ·
     exact (hv.out 3 (mem_of (by kernel_rfl))).symm.trans hj
    ·
     have e4 := hv.out 4 (mem_of (by kernel_rfl))
     obtain ⟨sb, cb, q1, q2⟩ := hj
     exact ⟨sb, cb, e4 ▸ q1, q2.keep hz (fun b hb h1 => hk.out b hb h1) (fun b h1 => foot_agree (l := ancs _ 8 4) (by exact of_decide_eq_true (by kernel_rfl)) ha.out h1)⟩
    ·
     exact (hv.out 5 (mem_of (by kernel_rfl))).symm.trans hj
    ·
     exact (hv.out 6 (mem_of (by kernel_rfl))).symm.trans hj
    ·
     exact (hv.out 7 (mem_of (by kernel_rfl))).symm.trans hj
   case hE =>
    intro i hi iv vs wx hj
    simp only [List.mem_cons, List.not_mem_nil, or_false] at hi
    rcases hi with rfl | rfl | rfl | rfl | rfl | rfl | rfl | rfl
    ·
     exact hj
    ·
     exact hj
    ·
     obtain ⟨sa, ca, q1, -⟩ := hj
     exact ⟨sa, ca, q1⟩
    ·
     exact hj
    ·
     obtain ⟨sb, cb, q1, -⟩ := hj
     exact ⟨sb, cb, q1⟩
    ·
     exact hj
    ·
     exact hj
    ·
     exact hj
   case hEE =>
    intro i hi iv iv' vs vs' ha hv hj
    simp only [List.mem_cons, List.not_mem_nil, or_false] at hi
    rcases hi with rfl | rfl | rfl | rfl | rfl | rfl | rfl | rfl
    ·
     exact (hv.out 0 (mem_of (by kernel_rfl))).symm.trans hj
    ·
     exact (hv.out 1 (mem_of (by kernel_rfl))).symm.trans hj
    ·
     have e2 := hv.out 2 (mem_of (by kernel_rfl))
     have hj' : ∃ sa ca, vs 2 = .agg #[.int .i64 e.tidy.kind, .int .i64 e.tidy.num, .slice sa e.tidy.kids.length ca] := hj
     show ∃ sa ca, vs' 2 = .agg #[.int .i64 e.tidy.kind, .int .i64 e.tidy.num, .slice sa e.tidy.kids.length ca]
     rw [← e2]
     exact hj'
    ·
     exact (hv.out 3 (mem_of (by kernel_rfl))).symm.trans hj
    ·
     have e4 := hv.out 4 (mem_of (by kernel_rfl))
     have hj' : ∃ sb cb, vs 4 = .agg #[.int .i64 f.tidy.kind, .int .i64 f.tidy.num, .slice sb f.tidy.kids.length cb] := hj
     show ∃ sb cb, vs' 4 = .agg #[.int .i64 f.tidy.kind, .int .i64 f.tidy.num, .slice sb f.tidy.kids.length cb]
     rw [← e4]
     exact hj'
    ·
     exact (hv.out 5 (mem_of (by kernel_rfl))).symm.trans hj
    ·
     exact (hv.out 6 (mem_of (by kernel_rfl))).symm.trans hj
    ·
     exact (hv.out 7 (mem_of (by kernel_rfl))).symm.trans hj
   case hstep =>
    intro i hi opr ho iv vs w1 hB hS hSo hd he hbd hsep hun K hK
    simp only [List.mem_cons, List.not_mem_nil, or_false] at hi
    have hzB := hB.size
    have hM1 := HMp.out.below hB
    have P1 := HME.out.below hB
    have P2 := HNE.out.below hB
    obtain ⟨p0, p1, p2, -, -, -, ltP⟩ := P1.all3
    obtain ⟨r0, r1, r2, -, -, -, ltQ⟩ := P2.all3
    generalize hA : putFrom _ 0 vs _ = A at hK ⊢
    simp only [putFrom, puts] at hA
    rcases hi with rfl | rfl | rfl | rfl | rfl | rfl | rfl | rfl
    all_goals
     simp at ho
     subst ho
     subst hA
    ·
     go_wp2_with fail
     exact Onward.mk (hK (.map (some gMp)) _ _ (fun h => by cases h) (by first | rfl | (simp only [puts])) (Spares.refl _) (fun iv' _ _ => rfl))
    ·
     go_wp2_with fail
     exact Onward.mk (hK (.agg #[.int .i64 e.kind, .int .i64 e.num, .slice s e.kids.length c]) _ _ (fun h => by cases h) (by first | rfl | (simp only [puts])) (Spares.refl _) (fun iv' _ _ => rfl))
    ·
     have h1 : vs 1 = .agg #[.int .i64 e.kind, .int .i64 e.num, .slice s e.kids.length c] := hd.out 1 (mem_of (by kernel_rfl)) (by decide) (by kernel_rfl)
     go_wp2_with fail
     have hO : KeptX (fun _ => False) wk w1 := KeptX.of_spares hSo.out (fun b _ ⟨m, hg⟩ => hGX m b hg)
     obtain ⟨XQ, hXQ⟩ : ∃ XQ, XQ = OutX wk (fun _ => False) (fun b => False) w1 := ⟨_, rfl⟩
     have hXl : ∀ b, XQ b → b < w1.heap.size := by rw [hXQ]; exact OutX.lt
     have hOld : ∀ (d : D) (v : Value), RdX (fun _ => False) wk d v → RdX XQ w1 d v := by rw [hXQ]; exact fun d v h => h.toOut hO
     refine (tidy_all (t - 1) (a - 1) ht8 ha8 _ e XQ _ _ _ (Nat.le_refl _) hXl (hOld _ _ (RdX.all HE9.out)) Htr1.out (by omega)).mono ?_
     rintro e w2 ⟨sa, ca, rfl, hr, hb⟩
     go_wp2_with fail
     rw [hXQ] at hr
     exact Onward.mk (hK (.agg #[.int .i64 e.tidy.kind, .int .i64 e.tidy.num, .slice sa e.tidy.kids.length ca]) _ _ (fun h => by cases h) (by first | rfl | (simp only [puts, h1])) (Spares.of_below hb) (fun iv' ag hi => ⟨sa, ca, rfl, RdO.ofX hr hb hO (fun b h => by exact h.elim) (fun b h1 h2 => foot_new hi h1 h2)⟩))
    ·
     go_wp2_with fail
     exact Onward.mk (hK (.agg #[.int .i64 f.kind, .int .i64 f.num, .slice s' f.kids.length c']) _ _ (fun h => by cases h) (by first | rfl | (simp only [puts])) (Spares.refl _) (fun iv' _ _ => rfl))
    ·
     have h3 : vs 3 = .agg #[.int .i64 f.kind, .int .i64 f.num, .slice s' f.kids.length c'] := hd.out 3 (mem_of (by kernel_rfl)) (by decide) (by kernel_rfl)
     go_wp2_with fail
     have hO : KeptX (fun _ => False) wk w1 := KeptX.of_spares hSo.out (fun b _ ⟨m, hg⟩ => hGX m b hg)
     obtain ⟨XQ, hXQ⟩ : ∃ XQ, XQ = OutX wk (fun _ => False) (fun b => False) w1 := ⟨_, rfl⟩
     have hXl : ∀ b, XQ b → b < w1.heap.size := by rw [hXQ]; exact OutX.lt
     have hOld : ∀ (d : D) (v : Value), RdX (fun _ => False) wk d v → RdX XQ w1 d v := by rw [hXQ]; exact fun d v h => h.toOut hO
     refine (tidy_all (t - 1) (a - 1) ht8 ha8 _ f XQ _ _ _ (Nat.le_refl _) hXl (hOld _ _ (RdX.all HF9.out)) Htr2.out (by omega)).mono ?_
     rintro e w2 ⟨sb, cb, rfl, hr, hb⟩
     go_wp2_with fail
     rw [hXQ] at hr
     exact Onward.mk (hK (.agg #[.int .i64 f.tidy.kind, .int .i64 f.tidy.num, .slice sb f.tidy.kids.length cb]) _ _ (fun h => by cases h) (by first | rfl | (simp only [puts, h3])) (Spares.of_below hb) (fun iv' ag hi => ⟨sb, cb, rfl, RdO.ofX hr hb hO (fun b h => by exact h.elim) (fun b h1 h2 => foot_new hi h1 h2)⟩))
    ·
     obtain ⟨sa, ca, h2, f2⟩ := hd.out 2 (mem_of (by kernel_rfl)) (by decide) (by kernel_rfl)
     obtain ⟨sb, cb, h4, f4⟩ := hd.out 4 (mem_of (by kernel_rfl)) (by decide) (by kernel_rfl)
     go_wp2_with fail
     refine (pairKey_i ht8 ha8 (f2 _ (Nat.le_refl _) (KeptX.of_below hB) (fun _ _ _ => rfl)) (f4 _ (Nat.le_refl _) (KeptX.of_below hB) (fun _ _ _ => rfl)) Hte.out Htf.out hse hsf).mono ?_
     rintro e w2 ⟨rfl, hb⟩
     go_wp2_with fail
     exact Onward.mk (hK (.string (bs (pkey (e.tidy, f.tidy)))) _ _ (fun h => by cases h) (by first | rfl | (simp only [puts, h2, h4])) (Spares.of_below hb) (fun iv' _ _ => rfl))
    ·
     have h0 : vs 0 = .map (some gMp) := hd.out 0 (mem_of (by kernel_rfl)) (by decide) (by kernel_rfl)
     have h5 : vs 5 = .string (bs (pkey (e.tidy, f.tidy))) := hd.out 5 (mem_of (by kernel_rfl)) (by decide) (by kernel_rfl)
     simp only [h0, h5]
     go_wp2_with (at_lookup; refine wpList_lookup_at _ rfl _ _ 74 false rfl 9 4 lawS Tryz.underlying74 (.bool false) (zeroB _) kfS_inj gMp hM1 (pkey (e.tidy, f.tidy)) Hkey.out rfl rfl _ rfl ?_; rw [Hlk.out])
     exact Onward.mk (hK (.bool bt) _ _ (fun h => by cases h) (by first | rfl | (simp only [puts, h0, h5])) (Spares.refl _) (fun iv' _ _ => rfl))
    ·
     have h6 : vs 6 = .bool bt := hd.out 6 (mem_of (by kernel_rfl)) (by decide) (by kernel_rfl)
     go_wp2_with fail
     exact Onward.mk (hK (.bool bt) _ _ (fun h => by cases h) (by first | rfl | (simp only [puts, h6])) (Spares.refl _) (fun iv' _ _ => rfl))
   case hQ =>
    intro iv vs wx hB hSp hd he hbd hsep
    have hzB := hB.size
    have h0 : vs 0 = .map (some gMp) := hd.out 0 (mem_of (by kernel_rfl)) (not_eaten (by kernel_rfl))
    have h1 : vs 1 = .agg #[.int .i64 e.kind, .int .i64 e.num, .slice s e.kids.length c] := hd.out 1 (mem_of (by kernel_rfl)) (not_eaten (by kernel_rfl))
    obtain ⟨sa, ca, h2, f2⟩ := hd.out 2 (mem_of (by kernel_rfl)) (not_eaten (by kernel_rfl))
    have h3 : vs 3 = .agg #[.int .i64 f.kind, .int .i64 f.num, .slice s' f.kids.length c'] := hd.out 3 (mem_of (by kernel_rfl)) (not_eaten (by kernel_rfl))
    obtain ⟨sb, cb, h4, f4⟩ := hd.out 4 (mem_of (by kernel_rfl)) (not_eaten (by kernel_rfl))
    have h5 : vs 5 = .string (bs (pkey (e.tidy, f.tidy))) := hd.out 5 (mem_of (by kernel_rfl)) (not_eaten (by kernel_rfl))
    have h6 : vs 6 = .bool bt := hd.out 6 (mem_of (by kernel_rfl)) (not_eaten (by kernel_rfl))
    have h7 : vs 7 = .bool bt := hd.out 7 (mem_of (by kernel_rfl)) (not_eaten (by kernel_rfl))
    simp only [putFrom, puts]
    have hOq : KeptX (fun _ => False) wk wx := KeptX.of_spares hSp.out (fun b _ ⟨m, hg⟩ => hGX m b hg)
    have r2 : RdX (fun _ => False) wx (kidsD e.tidy.kids) (.slice sa e.tidy.kids.length ca) := f2.done hOq (fun b hf hx => by have q := foot_no (l := [0, 1, 2, 3, 4, 5, 6, 7]) (by kernel_rfl) (by kernel_rfl) hbd.out hf; have q' := hXW b hx; omega)
    clear f2
    have r4 : RdX (fun _ => False) wx (kidsD f.tidy.kids) (.slice sb f.tidy.kids.length cb) := f4.done hOq (fun b hf hx => by have q := foot_no (l := [0, 1, 2, 3, 4, 5, 6, 7]) (by kernel_rfl) (by kernel_rfl) hbd.out hf; have q' := hXW b hx; omega)
    clear f4
    have HB9 := Lib.hid (Below.trans HB3.out (hB.mono HB3.out.size))
    have HM9 := Lib.hid (HMp.out.below hB)
    obtain ⟨w9, rfl⟩ : ∃ v, v = wx := ⟨_, rfl⟩
    clear hd he hbd hsep hB h0 h1 h2 h3 h5 h6 r2 r4 hXW HE9 HF9 HME HNE HMp Hlk Hkey HB3 Hte Htf
    obtain ⟨n0, rfl⟩ : ∃ n0 : Nat, a = (n0 : Int) := ⟨a.toNat, by omega⟩
    have hn0 : n0 ≤ 4 := by omega
    obtain ⟨hat1, hat8⟩ := atomsN_bd t
    obtain ⟨A, hA⟩ : ∃ A : Nat, atomsN t = (A : Int) := ⟨(atomsN t).toNat, by omega⟩
    have hA' : (atomsN t).toNat = A := by omega
    have HA := Lib.hid hA
    have HA' := Lib.hid hA'
    have hA8 : A ≤ 8 := by omega
    have hz9 : w3.heap.size ≤ w9.heap.size := HB9.out.size
    clear hat1 hat8 hA hA'
    -- dev( 0
    go_wp2_with fail
    go_loopw [13, 66] (fun q i wr => ∃ (j : Nat) (gb : Bool), j ≤ L.length ∧ i = .int .i64 j ∧ q = .bool gb ∧ Hid (gb = (bt && gL L A n0 j)) ∧ Hid (okL L A n0 j) ∧ Below w9.heap.size w9 wr) (fun _ i _ => L.length - (intOf i).toNat)
    case atStart => exact ⟨0, bt, by omega, rfl, rfl, by show _ = _; rw [gL_zero, Bool.and_true], fun p hp => by simp at hp, Below.refl _ _⟩
    case round =>
     clear h7
     obtain ⟨j, gb, hj, rfl, rfl, HGB, HOK, hBj⟩ := hrel
     obtain ⟨wj, rfl⟩ : ∃ v, v = wr := ⟨_, rfl⟩
     have hj0 := Int.natCast_nonneg j
     have hB3j := HB9.out.trans (hBj.mono hz9)
     by_cases hjl : j < L.length
     rotate_left
     ·
      obtain rfl : j = L.length := by omega
      have hcb := cb_yes (t := t) (a := (n0 : Int)) HV.out hN4 (by rw [Int.toNat_natCast, HA'.out]; exact HOK.out)
      rw [Int.toNat_natCast, HBT.out, HA'.out, ← HGB.out] at hcb
      have F1 := Lib.hid hcb.1
      have F2 := Lib.hid hcb.2
      clear hcb HGB
      go_wp2_with fail
      go_ret2
      exact ⟨by rw [F1.out, F2.out]; rfl, HB.out.trans (hB3j.mono (by omega))⟩
     obtain ⟨p, hp⟩ : ∃ e, L[j]? = some e := ⟨_, List.getElem?_eq_getElem hjl⟩
     obtain ⟨pb, po, rfl⟩ := pr_some HP.out (by omega)
     obtain ⟨-, s3, c3, s4, c4, g0, g1, g2, g3, g4, g5, r1, r2⟩ := pr_in (HP.out.below hB3j) hp
     obtain ⟨tr1, tr2, sz1, sz2⟩ := HPF.out j p hp
     have hjb : (j : Int) < (L.length : Int) := by omega
     have Hp := Lib.hid hp
     have Hr1 := Lib.hid r1
     have Hr2 := Lib.hid r2
     have Htr3 := Lib.hid tr1
     have Htr4 := Lib.hid tr2
     clear hp r1 r2 tr1 tr2
     have hal := hB3j.alloc hB3j.size (.cells #[.int .i64 p.1.kind, .int .i64 p.1.num, .slice s3 p.1.kids.length c3, .int .i64 p.2.kind, .int .i64 p.2.num, .slice s4 p.2.kids.length c4] 69)
     obtain ⟨l0, l1, ltL⟩ := (HG.out.below hal).all2
     clear hal
     go_wp2_with fail
     clear g0 g1 g2 g3 g4 g5 l0 l1 ltL
     obtain ⟨w10, e10, X, hb10, hz10⟩ := box6 wj 69 (.int .i64 p.1.kind) (.int .i64 p.1.num) (.slice s3 p.1.kids.length c3) (.int .i64 p.2.kind) (.int .i64 p.2.num) (.slice s4 p.2.kids.length c4)
     rw [e10]
     obtain ⟨gP, hgP⟩ : ∃ q, wj.heap.size = q := ⟨_, rfl⟩
     rw [hgP] at X ⊢
     clear e10 hz10 hgP
     refine (atomsIn_i ht0 ht3).mono ?_
     rintro e' w11 ⟨rfl, hb11⟩
     rw [HA.out]
     have hB11 := hBj.trans ((hb10.trans (hb11.mono hb10.size)).mono hBj.size)
     have HX := Lib.hid (X.below hb11)
     have HR1 := Lib.hid ((Hr1.out.below hb10).below hb11)
     have HR2 := Lib.hid ((Hr2.out.below hb10).below hb11)
     have HB11 := Lib.hid hB11
     have hz11 := hB11.size
     clear X hb10 hb11 Hr1 Hr2 hBj hB3j hB11
     go_wp2_with fail
     go_loopw [13, 72] (fun q i wr => ∃ (m : Nat) (ga : Bool), m ≤ A ∧ i = .int .i64 m ∧ q = .bool ga ∧ Hid (ga = (gb && gM L n0 p m)) ∧ Hid (okM n0 p m) ∧ Below w11.heap.size w11 wr) (fun _ i _ => A - (intOf i).toNat)
     case atStart => exact ⟨0, gb, by omega, rfl, rfl, by show _ = _; rw [gM_zero, Bool.and_true], fun q hq => by omega, Below.refl _ _⟩
     case round =>
      obtain ⟨m, ga, hm, rfl, rfl, HGA, HOM, hBm⟩ := hrel
      obtain ⟨wm, rfl⟩ : ∃ v, v = wr := ⟨_, rfl⟩
      have hm0 := Int.natCast_nonneg m
      have hB9m := HB11.out.trans (hBm.mono hz11)
      by_cases hml : m < A
      rotate_left
      ·
       obtain rfl : m = A := by omega
       have HN2 : Hid (ga = (bt && gL L m n0 (j + 1))) := by show _ = _; rw [gL_succ Hp.out, HGA.out, HGB.out, Bool.and_assoc]
       have HO2 := Lib.hid (HOK.out.succ Hp.out HOM.out)
       clear HGA HGB HOK HOM
       go_wp2_with fail
       go_roundw
       case rel => exact ⟨j + 1, ga, by omega, by go_num, rfl, HN2, HO2, hB9m⟩
       case measure => simp [intOf]; omega
      have hmb : (m : Int) < (A : Int) := by omega
      have hm7 : (m : Int) ≤ 7 := by omega
      have ht2 : t - 1 ≤ 2 := by omega
      have hr1 := HR1.out.below hBm
      have hr2 := HR2.out.below hBm
      have hemp := fun (ws : World) (hb : Below wm.heap.size wm ws) => emptyAt_e (m := m) ht2 hm0 hm7 (hr1.below hb) Htr3.out
      have hemp2 := fun (ws : World) (hb : Below wm.heap.size wm ws) => emptyAt_e (m := m) ht2 hm0 hm7 (hr2.below hb) Htr4.out
      obtain ⟨em1, hem1⟩ : ∃ v, p.1.emp m = v := ⟨_, rfl⟩
      obtain ⟨em2, hem2⟩ : ∃ v, p.2.emp m = v := ⟨_, rfl⟩
      rw [hem1] at hemp
      rw [hem2] at hemp2
      have hempG : ∀ (ws : World) (u : Value) (v : Bool), (u = .agg #[.int .i64 p.1.kind, .int .i64 p.1.num, .slice s3 p.1.kids.length c3] ∧ v = em1) ∨ (u = .agg #[.int .i64 p.2.kind, .int .i64 p.2.num, .slice s4 p.2.kids.length c4] ∧ v = em2) → Below wm.heap.size wm ws → Calls Tryz.prog 35 #[u, .int .i64 (m : Int)] ws fun f w' => f = .returned (.bool v) ∧ Below ws.heap.size ws w' := fun ws u v hq hb => by
       rcases hq with ⟨rfl, rfl⟩ | ⟨rfl, rfl⟩
       ·
        exact hemp ws hb
       ·
        exact hemp2 ws hb
      have HG2 : Hid ((ga && (em1 == em2)) = (gb && (gM L n0 p m && ((p.1.emp m == p.2.emp m) && gK L p m 0)))) := by show _ = _; rw [HGA.out, gK_zero, Bool.and_true, hem1, hem2, Bool.and_assoc]
      obtain ⟨p0, p1, p2, p3, p4, p5⟩ : _ ∧ _ ∧ _ ∧ _ ∧ _ ∧ _ := ⟨(HX.out.below hBm).c0, (HX.out.below hBm).c1, (HX.out.below hBm).c2, (HX.out.below hBm).c3, (HX.out.below hBm).c4, (HX.out.below hBm).c5⟩
      have gp0 := fun d os => cell_regrown p0 d os
      have gp1 := fun d os => cell_regrown p1 d os
      have gp2 := fun d os => cell_regrown p2 d os
      have gp3 := fun d os => cell_regrown p3 d os
      have gp4 := fun d os => cell_regrown p4 d os
      have gp5 := fun d os => cell_regrown p5 d os
      have HBm := Lib.hid hBm
      have Hr1 := Lib.hid hr1
      have Hr2 := Lib.hid hr2
      clear hr1 hr2 HGA hemp hemp2 hem1 hem2 hB9m
      cases ga
      ·
       skip
       -- dev( 1
       go_wp2_with fail
       refine Go.wp_region_quiet_below (by kernel_rfl) (by kernel_rfl) ?_
       repeat (first | go_big_quiet_step ((fail)) | quiet_step ((fail)))
       refine wpQuiet_nil ?_; intro _ hw'; obtain ⟨⟨dq, osq⟩, hw''⟩ := hw'; subst hw''; have hq := below_regrown wm dq osq; revert hq; generalize grow (redrawn wm dq) osq = w12; intro hq
       clear hempG p0 p1 p2 p3 p4 p5 gp0 gp1 gp2 gp3 gp4 gp5
       have hB12 := HBm.out.trans (hq.mono HBm.out.size)
       have HG3 : Hid (false = (gb && (gM L n0 p m && ((p.1.emp m == p.2.emp m) && gK L p m 0)))) := by show _ = _; rw [← HG2.out]; rfl
       obtain ⟨l0, l1, ltL⟩ := (HG.out.below (HB9.out.trans ((HB11.out.trans (hB12.mono hz11)).mono hz9))).all2
       clear hq HG2 HBm Hr1 Hr2 l0
       go_wp2_with fail
       clear l1 ltL
       go_loopw [13, 89] (fun q i wr => ∃ (k : Nat) (ga : Bool), k ≤ n0 ∧ i = .int .i64 k ∧ q = .bool ga ∧ Hid (ga = (gb && (gM L n0 p m && ((p.1.emp m == p.2.emp m) && gK L p m k)))) ∧ Hid (okK p m k) ∧ Below w11.heap.size w11 wr) (fun _ i _ => n0 - (intOf i).toNat)
       case atStart => exact ⟨0, _, by omega, rfl, rfl, HG3, fun q hq => by omega, hB12⟩
       case round =>
        clear HG3 hB12
        obtain ⟨k, ga, hk, rfl, rfl, HGk, HOk, hB⟩ := hrel
        obtain ⟨wv, rfl⟩ : ∃ v, v = wr := ⟨_, rfl⟩
        have hk0 := Int.natCast_nonneg k
        by_cases hkn : k < n0
        rotate_left
        ·
         obtain rfl : k = n0 := by omega
         have HN : Hid (ga = (gb && gM L k p (m + 1))) := by show _ = _; rw [gM_succ]; exact HGk.out
         have HO2 : Hid (okM k p (m + 1)) := HOM.out.succ HOk.out
         clear HGk HOk
         go_wp2_with fail
         go_roundw
         case rel => exact ⟨m + 1, ga, by omega, by go_num, rfl, HN, HO2, hB⟩
         case measure => simp [intOf]; omega
        have hkb : (k : Int) < (n0 : Int) := by omega
        have hx := HX.out.below hB
        have p0 := hx.c0
        have p1 := hx.c1
        have p2 := hx.c2
        clear hx
        go_wp2_with fail
        clear p0 p1 p2
        refine (derived_all (t - 1) ((n0 : Int) - 1) m k ht2 (by omega) hm0 hm7 _ p.1 (fun _ => False) s3 c3 _ (Nat.le_refl _) (fun _ h => h.elim) (RdX.all (HR1.out.below hB)) Htr3.out (by omega)).mono ?_
        rintro e' w13 ⟨sa, ca, rfl, hx1, hb13⟩
        have hB13 := Below.on hB hb13 hB.size
        obtain ⟨o1, ho1⟩ : ∃ o, p.1.step (m : Int) (k : Int) = o := ⟨_, rfl⟩
        rw [ho1] at hx1 ⊢
        have Ho1 := Lib.hid ho1
        obtain ⟨y1, hy1⟩ : ∃ y, optE o1 = y := ⟨_, rfl⟩
        rw [hy1] at hx1 ⊢
        have Hy1 := Lib.hid hy1
        obtain ⟨i1, hi1⟩ : ∃ v, o1.isSome = v := ⟨_, rfl⟩
        rw [hi1]
        have Hi1 := Lib.hid hi1
        clear hb13 hB ho1 hy1 hi1
        go_upto_region 25 with fail
        obtain ⟨w14, e14, X1, hb14, hz14⟩ := box3 w13 34 (.int .i64 y1.kind) (.int .i64 y1.num) (.slice sa y1.kids.length ca)
        rw [e14]
        obtain ⟨g1, hg1⟩ : ∃ q, w13.heap.size = q := ⟨_, rfl⟩
        rw [hg1] at X1 ⊢
        have hB14 := hB13.trans (hb14.mono hB13.size)
        have hrd1 := hx1.rd.below hb14
        have hx := HX.out.below hB14
        have p3 := hx.c3
        have p4 := hx.c4
        have p5 := hx.c5
        clear e14 hz14 hg1 hx hb14 hx1 hB13
        go_wp2_with fail
        clear p3 p4 p5
        refine (derived_all (t - 1) ((n0 : Int) - 1) m k ht2 (by omega) hm0 hm7 _ p.2 (fun _ => False) s4 c4 _ (Nat.le_refl _) (fun _ h => h.elim) (RdX.all (HR2.out.below hB14)) Htr4.out (by omega)).mono ?_
        rintro e' w15 ⟨sb, cb, rfl, hx2, hb15⟩
        have hB15 := Below.on hB14 hb15 hB14.size
        have X1' := X1.below hb15
        have hrd1' := hrd1.below hb15
        obtain ⟨o2, ho2⟩ : ∃ o, p.2.step (m : Int) (k : Int) = o := ⟨_, rfl⟩
        rw [ho2] at hx2 ⊢
        have Ho2 := Lib.hid ho2
        obtain ⟨y2, hy2⟩ : ∃ y, optE o2 = y := ⟨_, rfl⟩
        rw [hy2] at hx2 ⊢
        have Hy2 := Lib.hid hy2
        obtain ⟨i2, hi2⟩ : ∃ v, o2.isSome = v := ⟨_, rfl⟩
        rw [hi2]
        have Hi2 := Lib.hid hi2
        clear hb15 hB14 ho2 hy2 hi2 X1 hrd1
        go_upto_region 26 with fail
        obtain ⟨w16, e16, X2, hb16, hz16⟩ := box3 w15 34 (.int .i64 y2.kind) (.int .i64 y2.num) (.slice sb y2.kids.length cb)
        rw [e16]
        obtain ⟨g2, hg2⟩ : ∃ q, w15.heap.size = q := ⟨_, rfl⟩
        rw [hg2] at X2 ⊢
        have hB16 := hB15.trans (hb16.mono hB15.size)
        have X1 := X1'.below hb16
        have hrd1 := hrd1'.below hb16
        have hrd2 := hx2.rd.below hb16
        have HBW : Hid (Below w.heap.size w w16) := HB.out.trans ((HB9.out.trans ((HB11.out.trans (hB16.mono hz11)).mono hz9)).mono (by omega))
        clear e16 hz16 hg2 hb16 hx2 hB15 X1' hrd1'
        by_cases hst : st2 p m k = true
        rotate_left
        ·
         have HNO : Hid (¬ okM n0 p A) := fun q => hst (q m hml k hkn)
         have hii : (i1 && i2) = false := by
          rw [← Hi1.out, ← Hi2.out, ← Ho1.out, ← Ho2.out]
          exact Bool.not_eq_true _ ▸ hst
         clear hst HGk HOk X1 X2 hrd1 hrd2 Ho1 Ho2 Hy1 Hy2 Hi1 Hi2
         cases i1
         ·
          skip
          have hcb := cb_lim HV.out hN4 (List.mem_of_getElem? Hp.out) (by rw [Int.toNat_natCast, HA'.out]; exact HNO.out)
          have F1 := Lib.hid hcb.1
          have F2 := Lib.hid hcb.2
          clear hcb
          go_wp2_with fail
          go_ret2
          exact ⟨by rw [F1.out, F2.out]; rfl, HBW.out⟩
         ·
          cases i2
          ·
           skip
           have hcb := cb_lim HV.out hN4 (List.mem_of_getElem? Hp.out) (by rw [Int.toNat_natCast, HA'.out]; exact HNO.out)
           have F1 := Lib.hid hcb.1
           have F2 := Lib.hid hcb.2
           clear hcb
           go_wp2_with fail
           go_ret2
           exact ⟨by rw [F1.out, F2.out]; rfl, HBW.out⟩
          ·
           cases hii
        have HOn : Hid (okK p m (k + 1)) := HOk.out.succ hst
        unfold st2 at hst
        rw [Ho1.out, Ho2.out, Hi1.out, Hi2.out, Bool.and_eq_true] at hst
        obtain ⟨rfl, rfl⟩ := hst
        obtain ⟨x, hx⟩ := Option.isSome_iff_exists.1 Hi1.out
        obtain ⟨y, hy⟩ := Option.isSome_iff_exists.1 Hi2.out
        subst hx
        subst hy
        obtain rfl : x = y1 := Hy1.out
        obtain rfl : y = y2 := Hy2.out
        have HIN := Lib.hid (in2_some (L := L) Ho1.out Ho2.out)
        obtain ⟨tx, sx⟩ := step_spec (t - 1) ((n0 : Int) - 1) m k _ p.1 x (Nat.le_refl _) Htr3.out Ho1.out
        obtain ⟨ty, sy⟩ := step_spec (t - 1) ((n0 : Int) - 1) m k _ p.2 y (Nat.le_refl _) Htr4.out Ho2.out
        obtain ⟨-, -, hkl⟩ := pkey_len ht8 ha8 tx ty (by omega) (by omega)
        have Hkey := Lib.hid (keyS (t := pkey (x, y)) (by omega))
        obtain ⟨bv, hbv⟩ : ∃ bv, inL L x y = bv := ⟨_, rfl⟩
        have Hlk := Lib.hid (HL.out x y tx ty)
        rw [hbv] at Hlk
        have Htx := Lib.hid tx
        have Hty := Lib.hid ty
        clear hkl Ho1 Ho2 Hy1 Hy2 Hi1 Hi2 HOk tx ty
        cases ga
        ·
         have HNX : Hid (false = (gb && (gM L n0 p m && ((p.1.emp m == p.2.emp m) && gK L p m (k + 1))))) := by
          show _ = _
          rw [gK_succ]
          exact ga_next HGk.out
         clear HGk Hlk Hkey hbv HIN X1 X2 hrd1 hrd2
         go_wp2_with fail
         go_roundw
         case rel => exact ⟨k + 1, false, by omega, by go_num, rfl, HNX, HOn, hB16⟩
         case measure => simp [intOf]; omega
        ·
         have HNX : Hid (bv = (gb && (gM L n0 p m && ((p.1.emp m == p.2.emp m) && gK L p m (k + 1))))) := by
          show _ = _
          rw [gK_succ, HIN.out, hbv]
          exact ga_next HGk.out
         obtain ⟨u0, u1, u2, -, -, -, ltU⟩ := X1.all3
         obtain ⟨v0, v1, v2, -, -, -, ltV⟩ := X2.all3
         clear HGk HIN hbv X1 X2
         go_wp2_with fail
         clear u0 u1 u2 ltU v0 v1 v2 ltV
         refine (pairKey_i ht8 ha8 hrd1 hrd2 Htx.out Hty.out (by omega) (by omega)).mono ?_
         rintro e' w17 ⟨rfl, hb17⟩
         have hB17 := Below.on hB16 hb17 hB16.size
         have hM17 := HM9.out.below (HB11.out.trans (hB17.mono hz11))
         clear hrd1 hrd2 hb17 hB16
         have hrun : (Instr.lookup 74 (.map (some gMp)) (.string (bs (pkey (x, y)))) false).run Tryz.prog w17 = .ok (.bool bv) w17 := (hM17.lookup false lawS kfS_inj Tryz.underlying74 (zeroB _) Hkey.out).trans (by rw [Hlk.out])
         go_wp2_with fail
         go_roundw
         case rel => exact ⟨k + 1, bv, by omega, by go_num, rfl, HNX, HOn, hB17⟩
         case measure => simp [intOf]; omega
       -- dev)
      ·
       skip
       -- dev( 2
       go_wp2_with fail
       refine Go.wp_region_quiet_below (by kernel_rfl) (by kernel_rfl) ?_
       repeat (first | go_big_quiet_step ((exact Calls.regrown_of (hempG _ _ _ (by first | exact Or.inl ⟨rfl, rfl⟩ | exact Or.inr ⟨rfl, rfl⟩) (below_regrown _ _ _)))) | quiet_step ((exact Calls.regrown_of (hempG _ _ _ (by first | exact Or.inl ⟨rfl, rfl⟩ | exact Or.inr ⟨rfl, rfl⟩) (below_regrown _ _ _)))))
       refine wpQuiet_nil ?_; intro _ hw'; obtain ⟨⟨dq, osq⟩, hw''⟩ := hw'; subst hw''; have hq := below_regrown wm dq osq; revert hq; generalize grow (redrawn wm dq) osq = w12; intro hq
       clear hempG p0 p1 p2 p3 p4 p5 gp0 gp1 gp2 gp3 gp4 gp5
       have hB12 := HBm.out.trans (hq.mono HBm.out.size)
       have HG3 : Hid ((em1 == em2) = (gb && (gM L n0 p m && ((p.1.emp m == p.2.emp m) && gK L p m 0)))) := by show _ = _; rw [← HG2.out]; rfl
       obtain ⟨l0, l1, ltL⟩ := (HG.out.below (HB9.out.trans ((HB11.out.trans (hB12.mono hz11)).mono hz9))).all2
       clear hq HG2 HBm Hr1 Hr2 l0
       go_wp2_with fail
       clear l1 ltL
       go_loopw [13, 89] (fun q i wr => ∃ (k : Nat) (ga : Bool), k ≤ n0 ∧ i = .int .i64 k ∧ q = .bool ga ∧ Hid (ga = (gb && (gM L n0 p m && ((p.1.emp m == p.2.emp m) && gK L p m k)))) ∧ Hid (okK p m k) ∧ Below w11.heap.size w11 wr) (fun _ i _ => n0 - (intOf i).toNat)
       case atStart => exact ⟨0, _, by omega, rfl, rfl, HG3, fun q hq => by omega, hB12⟩
       case round =>
        clear HG3 hB12
        obtain ⟨k, ga, hk, rfl, rfl, HGk, HOk, hB⟩ := hrel
        obtain ⟨wv, rfl⟩ : ∃ v, v = wr := ⟨_, rfl⟩
        have hk0 := Int.natCast_nonneg k
        by_cases hkn : k < n0
        rotate_left
        ·
         obtain rfl : k = n0 := by omega
         have HN : Hid (ga = (gb && gM L k p (m + 1))) := by show _ = _; rw [gM_succ]; exact HGk.out
         have HO2 : Hid (okM k p (m + 1)) := HOM.out.succ HOk.out
         clear HGk HOk
         go_wp2_with fail
         go_roundw
         case rel => exact ⟨m + 1, ga, by omega, by go_num, rfl, HN, HO2, hB⟩
         case measure => simp [intOf]; omega
        have hkb : (k : Int) < (n0 : Int) := by omega
        have hx := HX.out.below hB
        have p0 := hx.c0
        have p1 := hx.c1
        have p2 := hx.c2
        clear hx
        go_wp2_with fail
        clear p0 p1 p2
        refine (derived_all (t - 1) ((n0 : Int) - 1) m k ht2 (by omega) hm0 hm7 _ p.1 (fun _ => False) s3 c3 _ (Nat.le_refl _) (fun _ h => h.elim) (RdX.all (HR1.out.below hB)) Htr3.out (by omega)).mono ?_
        rintro e' w13 ⟨sa, ca, rfl, hx1, hb13⟩
        have hB13 := Below.on hB hb13 hB.size
        obtain ⟨o1, ho1⟩ : ∃ o, p.1.step (m : Int) (k : Int) = o := ⟨_, rfl⟩
        rw [ho1] at hx1 ⊢
        have Ho1 := Lib.hid ho1
        obtain ⟨y1, hy1⟩ : ∃ y, optE o1 = y := ⟨_, rfl⟩
        rw [hy1] at hx1 ⊢
        have Hy1 := Lib.hid hy1
        obtain ⟨i1, hi1⟩ : ∃ v, o1.isSome = v := ⟨_, rfl⟩
        rw [hi1]
        have Hi1 := Lib.hid hi1
        clear hb13 hB ho1 hy1 hi1
        go_upto_region 25 with fail
        obtain ⟨w14, e14, X1, hb14, hz14⟩ := box3 w13 34 (.int .i64 y1.kind) (.int .i64 y1.num) (.slice sa y1.kids.length ca)
        rw [e14]
        obtain ⟨g1, hg1⟩ : ∃ q, w13.heap.size = q := ⟨_, rfl⟩
        rw [hg1] at X1 ⊢
        have hB14 := hB13.trans (hb14.mono hB13.size)
        have hrd1 := hx1.rd.below hb14
        have hx := HX.out.below hB14
        have p3 := hx.c3
        have p4 := hx.c4
        have p5 := hx.c5
        clear e14 hz14 hg1 hx hb14 hx1 hB13
        go_wp2_with fail
        clear p3 p4 p5
        refine (derived_all (t - 1) ((n0 : Int) - 1) m k ht2 (by omega) hm0 hm7 _ p.2 (fun _ => False) s4 c4 _ (Nat.le_refl _) (fun _ h => h.elim) (RdX.all (HR2.out.below hB14)) Htr4.out (by omega)).mono ?_
        rintro e' w15 ⟨sb, cb, rfl, hx2, hb15⟩
        have hB15 := Below.on hB14 hb15 hB14.size
        have X1' := X1.below hb15
        have hrd1' := hrd1.below hb15
        obtain ⟨o2, ho2⟩ : ∃ o, p.2.step (m : Int) (k : Int) = o := ⟨_, rfl⟩
        rw [ho2] at hx2 ⊢
        have Ho2 := Lib.hid ho2
        obtain ⟨y2, hy2⟩ : ∃ y, optE o2 = y := ⟨_, rfl⟩
        rw [hy2] at hx2 ⊢
        have Hy2 := Lib.hid hy2
        obtain ⟨i2, hi2⟩ : ∃ v, o2.isSome = v := ⟨_, rfl⟩
        rw [hi2]
        have Hi2 := Lib.hid hi2
        clear hb15 hB14 ho2 hy2 hi2 X1 hrd1
        go_upto_region 26 with fail
        obtain ⟨w16, e16, X2, hb16, hz16⟩ := box3 w15 34 (.int .i64 y2.kind) (.int .i64 y2.num) (.slice sb y2.kids.length cb)
        rw [e16]
        obtain ⟨g2, hg2⟩ : ∃ q, w15.heap.size = q := ⟨_, rfl⟩
        rw [hg2] at X2 ⊢
        have hB16 := hB15.trans (hb16.mono hB15.size)
        have X1 := X1'.below hb16
        have hrd1 := hrd1'.below hb16
        have hrd2 := hx2.rd.below hb16
        have HBW : Hid (Below w.heap.size w w16) := HB.out.trans ((HB9.out.trans ((HB11.out.trans (hB16.mono hz11)).mono hz9)).mono (by omega))
        clear e16 hz16 hg2 hb16 hx2 hB15 X1' hrd1'
        by_cases hst : st2 p m k = true
        rotate_left
        ·
         have HNO : Hid (¬ okM n0 p A) := fun q => hst (q m hml k hkn)
         have hii : (i1 && i2) = false := by
          rw [← Hi1.out, ← Hi2.out, ← Ho1.out, ← Ho2.out]
          exact Bool.not_eq_true _ ▸ hst
         clear hst HGk HOk X1 X2 hrd1 hrd2 Ho1 Ho2 Hy1 Hy2 Hi1 Hi2
         cases i1
         ·
          skip
          have hcb := cb_lim HV.out hN4 (List.mem_of_getElem? Hp.out) (by rw [Int.toNat_natCast, HA'.out]; exact HNO.out)
          have F1 := Lib.hid hcb.1
          have F2 := Lib.hid hcb.2
          clear hcb
          go_wp2_with fail
          go_ret2
          exact ⟨by rw [F1.out, F2.out]; rfl, HBW.out⟩
         ·
          cases i2
          ·
           skip
           have hcb := cb_lim HV.out hN4 (List.mem_of_getElem? Hp.out) (by rw [Int.toNat_natCast, HA'.out]; exact HNO.out)
           have F1 := Lib.hid hcb.1
           have F2 := Lib.hid hcb.2
           clear hcb
           go_wp2_with fail
           go_ret2
           exact ⟨by rw [F1.out, F2.out]; rfl, HBW.out⟩
          ·
           cases hii
        have HOn : Hid (okK p m (k + 1)) := HOk.out.succ hst
        unfold st2 at hst
        rw [Ho1.out, Ho2.out, Hi1.out, Hi2.out, Bool.and_eq_true] at hst
        obtain ⟨rfl, rfl⟩ := hst
        obtain ⟨x, hx⟩ := Option.isSome_iff_exists.1 Hi1.out
        obtain ⟨y, hy⟩ := Option.isSome_iff_exists.1 Hi2.out
        subst hx
        subst hy
        obtain rfl : x = y1 := Hy1.out
        obtain rfl : y = y2 := Hy2.out
        have HIN := Lib.hid (in2_some (L := L) Ho1.out Ho2.out)
        obtain ⟨tx, sx⟩ := step_spec (t - 1) ((n0 : Int) - 1) m k _ p.1 x (Nat.le_refl _) Htr3.out Ho1.out
        obtain ⟨ty, sy⟩ := step_spec (t - 1) ((n0 : Int) - 1) m k _ p.2 y (Nat.le_refl _) Htr4.out Ho2.out
        obtain ⟨-, -, hkl⟩ := pkey_len ht8 ha8 tx ty (by omega) (by omega)
        have Hkey := Lib.hid (keyS (t := pkey (x, y)) (by omega))
        obtain ⟨bv, hbv⟩ : ∃ bv, inL L x y = bv := ⟨_, rfl⟩
        have Hlk := Lib.hid (HL.out x y tx ty)
        rw [hbv] at Hlk
        have Htx := Lib.hid tx
        have Hty := Lib.hid ty
        clear hkl Ho1 Ho2 Hy1 Hy2 Hi1 Hi2 HOk tx ty
        cases ga
        ·
         have HNX : Hid (false = (gb && (gM L n0 p m && ((p.1.emp m == p.2.emp m) && gK L p m (k + 1))))) := by
          show _ = _
          rw [gK_succ]
          exact ga_next HGk.out
         clear HGk Hlk Hkey hbv HIN X1 X2 hrd1 hrd2
         go_wp2_with fail
         go_roundw
         case rel => exact ⟨k + 1, false, by omega, by go_num, rfl, HNX, HOn, hB16⟩
         case measure => simp [intOf]; omega
        ·
         have HNX : Hid (bv = (gb && (gM L n0 p m && ((p.1.emp m == p.2.emp m) && gK L p m (k + 1))))) := by
          show _ = _
          rw [gK_succ, HIN.out, hbv]
          exact ga_next HGk.out
         obtain ⟨u0, u1, u2, -, -, -, ltU⟩ := X1.all3
         obtain ⟨v0, v1, v2, -, -, -, ltV⟩ := X2.all3
         clear HGk HIN hbv X1 X2
         go_wp2_with fail
         clear u0 u1 u2 ltU v0 v1 v2 ltV
         refine (pairKey_i ht8 ha8 hrd1 hrd2 Htx.out Hty.out (by omega) (by omega)).mono ?_
         rintro e' w17 ⟨rfl, hb17⟩
         have hB17 := Below.on hB16 hb17 hB16.size
         have hM17 := HM9.out.below (HB11.out.trans (hB17.mono hz11))
         clear hrd1 hrd2 hb17 hB16
         have hrun : (Instr.lookup 74 (.map (some gMp)) (.string (bs (pkey (x, y)))) false).run Tryz.prog w17 = .ok (.bool bv) w17 := (hM17.lookup false lawS kfS_inj Tryz.underlying74 (zeroB _) Hkey.out).trans (by rw [Hlk.out])
         go_wp2_with fail
         go_roundw
         case rel => exact ⟨k + 1, bv, by omega, by go_num, rfl, HNX, HOn, hB17⟩
         case measure => simp [intOf]; omega
       -- dev)
    -- dev)
   -- dev)
  -- dev( 2
  obtain ⟨p, hp⟩ : ∃ e, L[k]? = some e := ⟨_, List.getElem?_eq_getElem hlt⟩
  obtain ⟨pb, po, rfl⟩ := pr_some HP.out (by omega)
  obtain ⟨-, s3, c3, s4, c4, g0, g1, g2, g3, g4, g5, r1, r2⟩ := pr_in (HP.out.below hB3) hp
  have Hp := Lib.hid hp
  have Hr1 := Lib.hid r1
  have Hr2 := Lib.hid r2
  have hkb : (k : Int) < (L.length : Int) := by omega
  have e1 : formB (t - 1) (a - 1) (Ex.mk p.1.kind p.1.num p.1.kids) = formB (t - 1) (a - 1) p.1 := by rw [← Ex.eta]
  have e2 : formB (t - 1) (a - 1) (Ex.mk p.2.kind p.2.num p.2.kids) = formB (t - 1) (a - 1) p.2 := by rw [← Ex.eta]
  obtain ⟨l0, l1, ltL⟩ := (HG.out.below (hB3.alloc hB3.size (.cells #[.int .i64 p.1.kind, .int .i64 p.1.num, .slice s3 p.1.kids.length c3, .int .i64 p.2.kind, .int .i64 p.2.num, .slice s4 p.2.kids.length c4] 69))).all2
  clear hp r1 r2
  go_wp2_with fail
  clear g0 g1 g2 g3 g4 g5 l0 l1 ltL
  obtain ⟨w7, e7, P0, hb7, hz7⟩ := box6 wk 69 (.int .i64 p.1.kind) (.int .i64 p.1.num) (.slice s3 p.1.kids.length c3) (.int .i64 p.2.kind) (.int .i64 p.2.num) (.slice s4 p.2.kids.length c4)
  rw [e7]
  obtain ⟨gP, hgP⟩ : ∃ g, wk.heap.size = g := ⟨_, rfl⟩
  rw [hgP] at P0 ⊢
  have hgP1 : gMp < gP := by have := hM.lt; omega
  clear e7 hz7 hgP
  refine (isShaped_i Hq1.out Hq2.out (Hr1.out.below hb7)).mono ?_
  rintro e' w8 ⟨rfl, hb8⟩
  rw [e1]
  have hb78 := hb7.trans (hb8.mono hb7.size)
  replace P0 := P0.below hb8
  clear hb7 hb8 e1
  obtain ⟨x1, hx1⟩ : ∃ v, formB (t - 1) (a - 1) p.1 = v := ⟨_, rfl⟩
  rw [hx1]
  cases x1
  ·
   skip
   have hcb := cb_bad (t := t) (a := a) (e := e) (f := f) (L := L) (by unfold cbV; rw [pairsB_false Hp.out (by simp [pairB, hx1])]; exact Bool.and_false _)
   have F1 := Lib.hid hcb.1
   have F2 := Lib.hid hcb.2
   clear hcb
   go_wp2_with fail
   go_ret2
   exact ⟨by rw [F1.out, F2.out]; rfl, HB.out.trans ((hB3.trans (hb78.mono hB3.size)).mono (by omega))⟩
  have hb38 := hB3.trans (hb78.mono hB3.size)
  obtain ⟨l0, l1, ltL⟩ := (HG.out.below hb38).all2
  have p3 := P0.c3
  have p4 := P0.c4
  have p5 := P0.c5
  go_wp2_with fail
  clear l0 l1 ltL p3 p4 p5
  refine (isShaped_i Hq1.out Hq2.out (Hr2.out.below hb78)).mono ?_
  rintro e' w9 ⟨rfl, hb9⟩
  rw [e2]
  have hb79 := hb78.trans (hb9.mono hb78.size)
  replace P0 := P0.below hb9
  clear hb9 e2 hb78 hb38
  obtain ⟨x2, hx2⟩ : ∃ v, formB (t - 1) (a - 1) p.2 = v := ⟨_, rfl⟩
  rw [hx2]
  cases x2
  ·
   skip
   have hcb := cb_bad (t := t) (a := a) (e := e) (f := f) (L := L) (by unfold cbV; rw [pairsB_false Hp.out (by simp [pairB, hx2])]; exact Bool.and_false _)
   have F1 := Lib.hid hcb.1
   have F2 := Lib.hid hcb.2
   clear hcb
   go_wp2_with fail
   go_ret2
   exact ⟨by rw [F1.out, F2.out]; rfl, HB.out.trans ((hB3.trans (hb79.mono hB3.size)).mono (by omega))⟩
  have Hpre2 : Hid (∀ (j : Nat) (p : Ex × Ex), j < k + 1 → L[j]? = some p → pairB (t - 1) (a - 1) p = true) := by
   show ∀ (j : Nat) (p : Ex × Ex), _
   intro j q hj hq
   by_cases hjk : j = k
   ·
    subst hjk
    have := Hp.out
    rw [hq] at this
    cases this
    simp [pairB, hx1, hx2]
   ·
    exact Hpre.out j q (by omega) hq
  have HI2 := Lib.hid (HI.out.next Hp.out)
  simp only [formB, Bool.and_eq_true, decide_eq_true_eq] at hx1 hx2
  obtain ⟨sx1, tx1⟩ := hx1
  obtain ⟨sx2, tx2⟩ := hx2
  obtain ⟨-, -, hkl⟩ := pkey_len ht8 ha8 tx1 tx2 (by omega) (by omega)
  have Hkey := Lib.hid (keyS (t := pkey p) (Nat.le_trans hkl (by decide)))
  obtain ⟨p0, p1, p2, p3, p4, p5⟩ : _ ∧ _ ∧ _ ∧ _ ∧ _ ∧ _ := ⟨P0.c0, P0.c1, P0.c2, P0.c3, P0.c4, P0.c5⟩
  have hM9 := hM.below hb79
  have hB9 := hB.trans (hb79.mono hB.size)
  have hz9 := hB9.size
  have Hb79 := Lib.hid hb79
  clear hkl Hpre HI hM hB3 hb79
  go_wp2_with fail
  clear p0 p1 p2 p3 p4 p5
  refine (pairKey_i ht8 ha8 (Hr1.out.below Hb79.out) (Hr2.out.below Hb79.out) tx1 tx2 (by omega) (by omega)).mono ?_
  rintro e' wa ⟨rfl, hba⟩
  have hMa := hM9.below hba
  have hBa := hB9.trans (hba.mono hz9)
  have hza := hBa.size
  clear hba hM9 hB9 tx1 tx2
  go_wp2_with (at_mapUpdate; go_must (refine (wpList_mapUpdate_at _ rfl _ _ _ 74 rfl 9 4 lawS Tryz.underlying74 kfS_inj gMp hMa (pkey p) Hkey.out true rfl rfl rfl ?_); intro wb hMb hob))
  go_roundw
  case rel => exact ⟨k + 1, _, by omega, by go_num, hMb, HI2, Hpre2, hBa.trans (hob.below hza (by simp; omega))⟩
  case measure => simp [intOf]; omega
  -- dev)
theorem implCheckBisim_i {t a k n k' n' : Int} {ks js : List Ex} {L : List (Ex × Ex)} {s s' sp : Option Addr} {c c' cp : Nat} {w : World} (hr : Rd w (kidsD ks) (.slice s ks.length c)) (hr' : Rd w (kidsD js) (.slice s' js.length c')) (hp : Rd w (prD L) (.slice sp L.length cp)) :
  Calls Tryz.prog 14 #[.agg #[.int .i64 t, .int .i64 a], .agg #[.int .i64 k, .int .i64 n, .slice s ks.length c], .agg #[.int .i64 k', .int .i64 n', .slice s' js.length c'], .slice sp L.length cp] w fun e w' => e = .returned (.tuple #[.bool (cbR t a (.mk k n ks) (.mk k' n' js) L), .int .i64 (cbC t a (.mk k n ks) (.mk k' n' js) L)]) ∧ Below w.heap.size w w' :=
 implCheckBisim_e (e := .mk k n ks) (f := .mk k' n' js) hr hr' hp
end Go.Proofs.YtcokljhamhgelaaGreatDoor
