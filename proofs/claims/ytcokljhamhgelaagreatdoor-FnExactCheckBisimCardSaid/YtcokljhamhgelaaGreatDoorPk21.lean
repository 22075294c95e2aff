/-
  Parts of a proof, joined: StI, StT, BothI, CbK, Sz, To, Eq. No condition.
-/
import Derived.Test.YtcokljhamhgelaaGreatDoorPk13
namespace Go.Proofs.YtcokljhamhgelaaGreatDoor
set_option linter.unusedVariables false
set_option linter.unusedSimpArgs false
open Go.ChangeShapes Go.WideShapes Go.ChangeAt Go.RowKit Go.Deep Go.Sort Go.ChangeMaps Go.MapKept
open Go.Maps (Keyed string_keyed)
theorem textOf_e {tm am : Int} {e : Ex} {s : Option Addr} {c : Nat} {w : World} (hr : Rd w (kidsD e.kids) (.slice s e.kids.length c)) (ht : tm ≤ 8) (ha : am ≤ 8) (htr : e.tree tm am = true) (hs : e.size ≤ 1000000) :
  Calls Tryz.prog 62 #[.agg #[.int .i64 e.kind, .int .i64 e.num, .slice s e.kids.length c]] w fun f w' => f = .returned (.string (bs e.text)) ∧ Below w.heap.size w w' := by
 have := textOf_i (w := w) (k := e.kind) (n := e.num) hr ht ha (by rw [← Ex.eta]; exact htr) (by have := Ex.size_eq e; omega)
 rwa [← Ex.eta e] at this
end Go.Proofs.YtcokljhamhgelaaGreatDoor

namespace Go.Proofs.YtcokljhamhgelaaGreatDoor
set_option linter.unusedVariables false
set_option linter.unusedSimpArgs false
open Go.ChangeShapes Go.WideShapes Go.ChangeAt Go.RowKit Go.Deep
theorem okB_bd4 {t a : Int} {e : Ex} (h : okB t a e = true) : 0 ≤ t ∧ t ≤ 3 ∧ 0 ≤ a ∧ a ≤ 4 ∧ e.size ≤ 200 ∧ e.tree (t - 1) (a - 1) = true := by
 have h1 := sigB_bd (okB_sig h)
 obtain ⟨-, -, h3⟩ := okB_bd h
 exact ⟨h1.1, h1.2.1, h1.2.2.1, h1.2.2.2, h3, okB_tree h⟩
end Go.Proofs.YtcokljhamhgelaaGreatDoor

namespace Go.Proofs.YtcokljhamhgelaaGreatDoor
set_option linter.unusedVariables false
set_option linter.unusedSimpArgs false
open Go.ChangeShapes Go.WideShapes Go.ChangeAt Go.RowKit Go.Deep
def vE (t a : Int) (e : Ex) : Bool := shF (IntKind.i64.wrap (t - 1)) (IntKind.i64.wrap (a - 1)) e 200 40
theorem vE_ok {t a : Int} {e : Ex} : (sigB t a && vE t a e) = okB t a e := by
 cases hs : sigB t a
 ·
  unfold okB
  rw [hs]
  rfl
 ·
  obtain ⟨h0, h1, h2, h3⟩ := sigB_bd hs
  rw [Bool.true_and, ← okB_sh hs]
  unfold vE
  rw [wrap_of (by omega) (by omega), wrap_of (by omega) (by omega)]
def VTo (t a : Int) (L : List Ex) (k : Nat) : Prop := ∀ (j : Nat) (e : Ex), j < k → L[j]? = some e → vE t a e = true
theorem VTo.succ {t a : Int} {L : List Ex} {k : Nat} {e : Ex} (h : VTo t a L k) (he : L[k]? = some e) (hv : vE t a e = true) : VTo t a L (k + 1) := fun j f hj hf => by
 by_cases hjk : j = k
 ·
  rw [hjk, he] at hf
  rw [← Option.some.inj hf]
  exact hv
 ·
  exact h j f (by omega) hf
theorem vall_yes {t a : Int} {L : List Ex} (h : VTo t a L L.length) : L.all (vE t a) = true := by
 rw [List.all_eq_true]
 intro x hx
 obtain ⟨i, hi⟩ := List.mem_iff_getElem?.1 hx
 exact h i x (List.getElem?_eq_some_iff.1 hi).1 hi
theorem vall_no {t a : Int} {L : List Ex} {k : Nat} {e : Ex} (he : L[k]? = some e) (hv : vE t a e = false) : L.all (vE t a) = false := by
 rw [List.all_eq_false]
 exact ⟨e, List.mem_of_getElem? he, by rw [hv]; simp⟩
set_option maxRecDepth 100000 in
set_option maxHeartbeats 8000000 in
theorem validExprs_i {t a : Int} {L : List Ex} {b o c : Nat} {w : World} (hr : Rd w (kidsD L) (.slice (some ⟨b, o, none⟩) L.length c)) :
  Calls Tryz.prog 30 #[.agg #[.int .i64 t, .int .i64 a], .slice (some ⟨b, o, none⟩) L.length c] w fun e w' => e = .returned (.bool (sigB t a && L.all (vE t a))) ∧ Below w.heap.size w w' := by
 obtain ⟨-, hl2, hl3, -⟩ := kid_at hr
 unfold maxLen at hl3
 have Hr := Lib.hid hr
 clear hr
 go_enter Tryz.func30, Tryz.ntmps30
 go_wp2_with fail
 obtain ⟨w1, e1, G, hb1, hz1⟩ := box2 w 30 (.int .i64 t) (.int .i64 a)
 rw [e1]
 have hz1' := hb1.size
 have HB1 := Lib.hid hb1
 clear e1 hb1
 go_loopw [9] (fun i wr => ∃ k : Nat, i = .int .i64 k ∧ k ≤ L.length ∧ Hid (VTo t a L k) ∧ Below w1.heap.size w1 wr) (fun i _ => L.length - (intOf i).toNat)
 case atStart => exact ⟨0, rfl, by omega, fun j e hj => by omega, Below.refl _ _⟩
 case round =>
  obtain ⟨k, rfl, hk, HV, hbe⟩ := hrel
  obtain ⟨wo, rfl⟩ : ∃ v, v = wr := ⟨_, rfl⟩
  have hk0 := Int.natCast_nonneg k
  have hzo := hbe.size
  obtain ⟨g0, g1, ltG⟩ := (G.below hbe).all2
  have HBe := Lib.hid hbe
  by_cases hlt : k < L.length
  rotate_left
  ·
   obtain rfl : k = L.length := by omega
   have HA : Hid (L.all (vE t a) = true) := vall_yes HV.out
   clear hbe
   go_wp2_with fail
   refine (implValidSig_any t a _).mono ?_
   rintro e w2 ⟨rfl, hb2⟩
   go_wp2_with fail
   go_ret
   exact ⟨ret_bool (by rw [HA.out]; simp), (HB1.out.trans (HBe.out.mono hz1')).trans (hb2.mono (by omega))⟩
  obtain ⟨x, hx⟩ : ∃ x, L[k]? = some x := ⟨_, List.getElem?_eq_getElem hlt⟩
  obtain ⟨hkb, sx, cx, i0, i1, i2, hxr⟩ := kid_in (Hr.out.below (HB1.out.trans (hbe.mono hz1'))) hx
  have hkL : (k : Int) < (L.length : Int) := by omega
  have Hx := Lib.hid hx
  have G4 := G.below hbe
  clear hx hbe
  go_wp2_with fail
  clear i0 i1 i2 g0 g1 ltG
  obtain ⟨w4, e4, X, hb4, hz4⟩ := box3 wo 34 (.int .i64 x.kind) (.int .i64 x.num) (.slice sx x.kids.length cx)
  rw [e4]
  have HBe4 := Lib.hid (HBe.out.trans (hb4.mono hzo))
  have hxr4 := hxr.below hb4
  clear e4 hb4 hxr
  refine (isExpr_w _ _ rfl rfl hxr4).mono ?_
  rintro e w5 ⟨rfl, hb5⟩
  have HBe5 := Lib.hid (HBe4.out.trans (hb5.mono (by omega)))
  have HEV : Hid (shF (IntKind.i64.wrap (t - 1)) (IntKind.i64.wrap (a - 1)) (.mk x.kind x.num x.kids) 200 40 = vE t a x) := by show _ = _; rw [← Ex.eta]; rfl
  rw [HEV.out]
  clear hb5 hxr4 HEV
  cases hv : vE t a x
  ·
   have HA : Hid (L.all (vE t a) = false) := vall_no Hx.out hv
   clear hv
   go_wp2_with fail
   go_ret
   exact ⟨ret_bool (by rw [HA.out]; simp), HB1.out.trans (HBe5.out.mono hz1')⟩
  ·
   have HV2 := Lib.hid (HV.out.succ Hx.out hv)
   clear hv
   go_wp2_with fail
   go_roundw
   case rel => exact ⟨k + 1, by go_num, by omega, HV2.out, HBe5.out⟩
   case measure => simp [intOf]; omega
theorem rd_pair {w : World} {g T : Nat} {e f : Ex} {s s' : Option Addr} {c c' : Nat} (h : Blk w g T [.int .i64 e.kind, .int .i64 e.num, .slice s e.kids.length c, .int .i64 f.kind, .int .i64 f.num, .slice s' f.kids.length c']) (h1 : Rd w (kidsD e.kids) (.slice s e.kids.length c)) (h2 : Rd w (kidsD f.kids) (.slice s' f.kids.length c')) :
  Rd w (kidsD [e, f]) (.slice (some ⟨g, 0, none⟩) 2 2) := by
 show Rd w (.sl 3 2 (Ex.cellsL [e, f])) _
 have hc : Ex.cellsL [e, f] = [.int e.kind, .int e.num, kidsD e.kids, .int f.kind, .int f.num, kidsD f.kids] := by
  simp only [Ex.cellsL, List.append_nil]
  rw [Ex.cells_eq, Ex.cells_eq]
  rfl
 rw [hc]
 simp only [Rd]
 refine ⟨some ⟨g, 0, none⟩, 2, rfl, by omega, by simp [maxLen], by simp, by simp, Or.inr ⟨g, 0, _, rfl, h.row (List.take_length ..), ?_⟩⟩
 simp only [Rds, Rd]
 exact ⟨_, _, rfl, rfl, _, _, rfl, rfl, _, _, rfl, h1, _, _, rfl, rfl, _, _, rfl, rfl, _, _, rfl, h2, rfl⟩
end Go.Proofs.YtcokljhamhgelaaGreatDoor

namespace Go.Proofs.YtcokljhamhgelaaGreatDoor
set_option linter.unusedVariables false
set_option linter.unusedSimpArgs false
open Go.ChangeShapes Go.WideShapes Go.ChangeAt Go.RowKit Go.Sort Go.Deep
theorem pkey_len {tm am : Int} (ht : tm ≤ 8) (ha : am ≤ 8) {x y : Ex} (hx : x.tree tm am = true) (hy : y.tree tm am = true) (h1 : x.size ≤ 100000) (h2 : y.size ≤ 100000) : x.text.length ≤ 1000000 ∧ y.text.length ≤ 1000000 ∧ (pkey (x, y)).length ≤ 3000000 := by
 have a1 := text_bound tm am ht ha _ x (Nat.le_refl _) hx
 have a2 := text_bound tm am ht ha _ y (Nat.le_refl _) hy
 have b1 := Ex.size_eq x
 have b2 := Ex.size_eq y
 refine ⟨by omega, by omega, ?_⟩
 show (x.text ++ (61 :: y.text)).length ≤ _
 rw [List.length_append, List.length_cons]
 omega
set_option maxRecDepth 100000 in
set_option maxHeartbeats 8000000 in
theorem pairKey_i {tm am : Int} (ht : tm ≤ 8) (ha : am ≤ 8) {x y : Ex} {s u : Option Addr} {c d : Nat} {w : World} (hx : Rd w (kidsD x.kids) (.slice s x.kids.length c)) (hy : Rd w (kidsD y.kids) (.slice u y.kids.length d))
  (htx : x.tree tm am = true) (hty : y.tree tm am = true) (h1 : x.size ≤ 100000) (h2 : y.size ≤ 100000) :
  Calls Tryz.prog 32 #[.agg #[.int .i64 x.kind, .int .i64 x.num, .slice s x.kids.length c], .agg #[.int .i64 y.kind, .int .i64 y.num, .slice u y.kids.length d]] w fun e w' => e = .returned (.string (bs (pkey (x, y)))) ∧ Below w.heap.size w w' := by
 obtain ⟨l1, l2, -⟩ := pkey_len ht ha htx hty h1 h2
 obtain ⟨z1, Hz1, A1⟩ := cat_r (P := Tryz.prog) (s := { data := #[61] }) x.text [61] rfl (by simp; omega)
 have l3 : z1.length = x.text.length + 1 := by rw [Hz1.out]; simp
 obtain ⟨z2, Hz2, A2⟩ := cat_2 (P := Tryz.prog) z1 y.text (by omega)
 have HZ : Hid (z2 = pkey (x, y)) := by show _ = _; rw [Hz2.out, Hz1.out]; simp [pkey]
 have hs1 : x.size ≤ 1000000 := by omega
 have hs2 : y.size ≤ 1000000 := by omega
 have HX := Lib.hid hx
 have HY := Lib.hid hy
 have Htx := Lib.hid htx
 have Hty := Lib.hid hty
 clear hx hy htx hty l1 l2 l3 Hz1 Hz2
 go_enter Tryz.func32, Tryz.ntmps32
 go_upto_region 1 with fail
 obtain ⟨wa, e1, PA, hb1, hz1⟩ := box3 w 34 (.int .i64 x.kind) (.int .i64 x.num) (.slice s x.kids.length c)
 rw [e1]
 obtain ⟨wb, e2, PB, hb2, hz2⟩ := box3 wa 34 (.int .i64 y.kind) (.int .i64 y.num) (.slice u y.kids.length d)
 rw [e2]
 rw [hz1] at PB
 have hB : Below w.heap.size w wb := hb1.trans (hb2.mono (by omega))
 have hB' := Lib.hid hB
 have hzb : w.heap.size ≤ wb.heap.size := hB.size
 replace PA := PA.below hb2
 clear e1 e2 hb1 hb2 hz1 hz2 hB
 go_wp2_with fail
 refine region_rs [] [] (fun (_ _ : Nat) => False) (wb.heap.size) (fun i iv vs wx => match i with
  | 0 => vs 0 = .agg #[.int .i64 x.kind, .int .i64 x.num, .slice s x.kids.length c]
  | 1 => vs 1 = .string (bs x.text)
  | 2 => vs 2 = .string (bs z1)
  | 3 => vs 3 = .agg #[.int .i64 y.kind, .int .i64 y.num, .slice u y.kids.length d]
  | 4 => vs 4 = .string (bs y.text)
  | 5 => vs 5 = .string (bs z2)
  | 6 => vs 6 = .string (bs z2)
  | _ => True) (fun i iv vs => match i with
  | 0 => vs 0 = .agg #[.int .i64 x.kind, .int .i64 x.num, .slice s x.kids.length c]
  | 1 => vs 1 = .string (bs x.text)
  | 2 => vs 2 = .string (bs z1)
  | 3 => vs 3 = .agg #[.int .i64 y.kind, .int .i64 y.num, .slice u y.kids.length d]
  | 4 => vs 4 = .string (bs y.text)
  | 5 => vs 5 = .string (bs z2)
  | 6 => vs 6 = .string (bs z2)
  | _ => True) (by kernel_rfl) (by kernel_rfl) [0, 1, 2, 3, 4, 5, 6] (by kernel_rfl) ?hbase ?hGb ?hG ?hJ ?hE ?hEE ?hstep ?hQ
 case hbase => first | exact Nat.le_refl _ | omega | (simp; omega)
 case hGb =>
  exact fun _ _ h => h.elim
 case hG =>
  exact fun _ _ _ h => h.elim
 case hJ =>
  intro i hi iv iv' vs vs' wx wx' ha hv hz hk hj
  simp only [List.mem_cons, List.not_mem_nil, or_false] at hi
  rcases hi with rfl | rfl | rfl | rfl | rfl | rfl | rfl
  ·
   exact (hv.out 0 (mem_of (by kernel_rfl))).symm.trans hj
  ·
   exact (hv.out 1 (mem_of (by kernel_rfl))).symm.trans hj
  ·
   exact (hv.out 2 (mem_of (by kernel_rfl))).symm.trans hj
  ·
   exact (hv.out 3 (mem_of (by kernel_rfl))).symm.trans hj
  ·
   exact (hv.out 4 (mem_of (by kernel_rfl))).symm.trans hj
  ·
   exact (hv.out 5 (mem_of (by kernel_rfl))).symm.trans hj
  ·
   exact (hv.out 6 (mem_of (by kernel_rfl))).symm.trans hj
 case hE =>
  intro i hi iv vs wx hj
  simp only [List.mem_cons, List.not_mem_nil, or_false] at hi
  rcases hi with rfl | rfl | rfl | rfl | rfl | rfl | rfl
  ·
   exact hj
  ·
   exact hj
  ·
   exact hj
  ·
   exact hj
  ·
   exact hj
  ·
   exact hj
  ·
   exact hj
 case hEE =>
  intro i hi iv iv' vs vs' ha hv hj
  simp only [List.mem_cons, List.not_mem_nil, or_false] at hi
  rcases hi with rfl | rfl | rfl | rfl | rfl | rfl | rfl
  ·
   exact (hv.out 0 (mem_of (by kernel_rfl))).symm.trans hj
  ·
   exact (hv.out 1 (mem_of (by kernel_rfl))).symm.trans hj
  ·
   exact (hv.out 2 (mem_of (by kernel_rfl))).symm.trans hj
  ·
   exact (hv.out 3 (mem_of (by kernel_rfl))).symm.trans hj
  ·
   exact (hv.out 4 (mem_of (by kernel_rfl))).symm.trans hj
  ·
   exact (hv.out 5 (mem_of (by kernel_rfl))).symm.trans hj
  ·
   exact (hv.out 6 (mem_of (by kernel_rfl))).symm.trans hj
 case hstep =>
  intro i hi opr ho iv vs w1 hB hS hSo hd he hbd hsep hun K hK
  simp only [List.mem_cons, List.not_mem_nil, or_false] at hi
  have hzB := hB.size
  have P1 := PA.below hB
  have P2 := PB.below hB
  obtain ⟨p0, p1, p2, -, -, -, ltP⟩ := P1.all3
  obtain ⟨q0, q1, q2, -, -, -, ltQ⟩ := P2.all3
  generalize hA : putFrom _ 0 vs _ = A at hK ⊢
  simp only [putFrom, puts] at hA
  rcases hi with rfl | rfl | rfl | rfl | rfl | rfl | rfl
  all_goals
   simp at ho
   subst ho
   subst hA
  ·
   go_wp2_with fail
   exact Onward.mk (hK (.agg #[.int .i64 x.kind, .int .i64 x.num, .slice s x.kids.length c]) _ _ (fun h => by cases h) (by first | rfl | (simp only [puts])) (Spares.refl _) (fun iv' _ _ => rfl))
  ·
   have h0 : vs 0 = .agg #[.int .i64 x.kind, .int .i64 x.num, .slice s x.kids.length c] := hd.out 0 (mem_of (by kernel_rfl)) (by decide) (by kernel_rfl)
   go_wp2_with fail
   refine (textOf_e ((HX.out.below hB'.out).below hB) ht ha Htx.out hs1).mono ?_
   rintro e w2 ⟨rfl, hb⟩
   go_wp2_with fail
   exact Onward.mk (hK (.string (bs x.text)) _ _ (fun h => by cases h) (by first | rfl | (simp only [puts, h0])) (Spares.of_below hb) (fun iv' _ _ => rfl))
  ·
   have h1 : vs 1 = .string (bs x.text) := hd.out 1 (mem_of (by kernel_rfl)) (by decide) (by kernel_rfl)
   go_wp2_with fail
   exact Onward.mk (hK (.string (bs z1)) _ _ (fun h => by cases h) (by first | rfl | (simp only [puts, h1])) (Spares.refl _) (fun iv' _ _ => rfl))
  ·
   go_wp2_with fail
   exact Onward.mk (hK (.agg #[.int .i64 y.kind, .int .i64 y.num, .slice u y.kids.length d]) _ _ (fun h => by cases h) (by first | rfl | (simp only [puts])) (Spares.refl _) (fun iv' _ _ => rfl))
  ·
   have h3 : vs 3 = .agg #[.int .i64 y.kind, .int .i64 y.num, .slice u y.kids.length d] := hd.out 3 (mem_of (by kernel_rfl)) (by decide) (by kernel_rfl)
   go_wp2_with fail
   refine (textOf_e ((HY.out.below hB'.out).below hB) ht ha Hty.out hs2).mono ?_
   rintro e w2 ⟨rfl, hb⟩
   go_wp2_with fail
   exact Onward.mk (hK (.string (bs y.text)) _ _ (fun h => by cases h) (by first | rfl | (simp only [puts, h3])) (Spares.of_below hb) (fun iv' _ _ => rfl))
  ·
   have h2 : vs 2 = .string (bs z1) := hd.out 2 (mem_of (by kernel_rfl)) (by decide) (by kernel_rfl)
   have h4 : vs 4 = .string (bs y.text) := hd.out 4 (mem_of (by kernel_rfl)) (by decide) (by kernel_rfl)
   go_wp2_with fail
   exact Onward.mk (hK (.string (bs z2)) _ _ (fun h => by cases h) (by first | rfl | (simp only [puts, h2, h4])) (Spares.refl _) (fun iv' _ _ => rfl))
  ·
   have h5 : vs 5 = .string (bs z2) := hd.out 5 (mem_of (by kernel_rfl)) (by decide) (by kernel_rfl)
   go_wp2_with fail
   exact Onward.mk (hK (.string (bs z2)) _ _ (fun h => by cases h) (by first | rfl | (simp only [puts, h5])) (Spares.refl _) (fun iv' _ _ => rfl))
 case hQ =>
  intro iv vs wx hB hSp hd he hbd hsep
  have hzB := hB.size
  have h0 : vs 0 = .agg #[.int .i64 x.kind, .int .i64 x.num, .slice s x.kids.length c] := hd.out 0 (mem_of (by kernel_rfl)) (not_eaten (by kernel_rfl))
  have h1 : vs 1 = .string (bs x.text) := hd.out 1 (mem_of (by kernel_rfl)) (not_eaten (by kernel_rfl))
  have h2 : vs 2 = .string (bs z1) := hd.out 2 (mem_of (by kernel_rfl)) (not_eaten (by kernel_rfl))
  have h3 : vs 3 = .agg #[.int .i64 y.kind, .int .i64 y.num, .slice u y.kids.length d] := hd.out 3 (mem_of (by kernel_rfl)) (not_eaten (by kernel_rfl))
  have h4 : vs 4 = .string (bs y.text) := hd.out 4 (mem_of (by kernel_rfl)) (not_eaten (by kernel_rfl))
  have h5 : vs 5 = .string (bs z2) := hd.out 5 (mem_of (by kernel_rfl)) (not_eaten (by kernel_rfl))
  have h6 : vs 6 = .string (bs z2) := hd.out 6 (mem_of (by kernel_rfl)) (not_eaten (by kernel_rfl))
  simp only [putFrom, puts]
  have hBn := Lib.hid (hB'.out.trans (hB.mono hzb))
  clear hd he hbd hsep PA PB
  go_wp2_with fail
  go_ret
  exact ⟨by rw [h6, HZ.out]; rfl, hBn.out⟩
theorem cb_valid {t a : Int} {e f : Ex} : (sigB t a && [e, f].all (vE t a)) = (okB t a e && okB t a f) := by
 rw [← vE_ok, ← vE_ok]
 simp only [List.all_cons, List.all_nil, Bool.and_true]
 cases sigB t a <;> simp
theorem look_in {tm am : Int} (ht : tm ≤ 8) (ha : am ≤ 8) {L : List (Ex × Ex)} {M : List (List UInt8 × Bool)} (h : InMap L M) (hL : ∀ p ∈ L, PairT tm am p) {x y : Ex} (hx : x.tree tm am = true) (hy : y.tree tm am = true) : lookV false (.bool false) Value.bool (findM M (pkey (x, y))) = .bool (inL L x y) := by
 by_cases hm : (x, y) ∈ L
 ·
  rw [h.yes hm, inL_true.2 hm]
  rfl
 ·
  rw [h.no ht ha hL (p := (x, y)) ⟨hx, hy⟩ hm, inL_false.2 hm]
  rfl
theorem newMap (w : World) : ∃ w', w.alloc (.map #[] 0) = w' ∧ MapAt Tryz.prog 9 kfS Value.bool w' w.heap.size ([] : List (List UInt8 × Bool)) ∧ Below w.heap.size w w' ∧ w'.heap.size = w.heap.size + 1 :=
 ⟨_, rfl, MapAt.made w, Below.alloc (Below.refl _ _) (Nat.le_refl _) _, by simp⟩
theorem InMap.next {L : List (Ex × Ex)} {M : List (List UInt8 × Bool)} {k : Nat} (h : InMap (L.take k) M) {p : Ex × Ex} (hp : L[k]? = some p) : InMap (L.take (k + 1)) (putM M (pkey p) true) := by
 obtain ⟨h1, rfl⟩ := List.getElem?_eq_some_iff.1 hp
 rw [List.take_succ_eq_append_getElem h1]
 exact h.snoc _
end Go.Proofs.YtcokljhamhgelaaGreatDoor

namespace Go.Proofs.YtcokljhamhgelaaGreatDoor
set_option linter.unusedVariables false
set_option linter.unusedSimpArgs false
open Go.ChangeShapes Go.WideShapes Go.ChangeAt Go.RowKit
def Szd (n : Nat) (left : Int) (e : Ending) : Prop := ∃ r : Int, e = .returned (.int .i64 r) ∧ r ≤ left ∧ -1 ≤ r ∧ (0 ≤ r → (n : Int) + r ≤ left)
def SzS (N : Nat) : Prop := ∀ (ks : List Ex) (s : Option Addr) (cap : Nat) (left : Int) (w : World), Ex.sizeL ks ≤ N → Rd w (kidsD ks) (.slice s ks.length cap) → 0 ≤ left → left ≤ 1048576 →
  Calls Tryz.prog 16 #[.slice s ks.length cap, .int .i64 left] w fun e w' => Szd (Ex.sizeL ks) left e ∧ Below w.heap.size w w'
theorem szExpr_of {N : Nat} (hS : SzS N) (k n : Int) (ks : List Ex) (s : Option Addr) (cap : Nat) (left : Int) (w : World) (hN : Ex.sizeL ks ≤ N) (hr : Rd w (kidsD ks) (.slice s ks.length cap)) (h0 : 0 ≤ left) (h1 : left ≤ 1048576) :
  Calls Tryz.prog 5 #[.agg #[.int .i64 k, .int .i64 n, .slice s ks.length cap], .int .i64 left] w fun e w' => Szd (Ex.sizeL ks) left e ∧ Below w.heap.size w w' := by
 go_enter Tryz.func5, Tryz.ntmps5
 go_wp2_with fail
 refine (hS ks s cap left _ hN (hr.alloc _) h0 h1).mono ?_
 rintro e w1 ⟨⟨r, rfl, r1, r2, r3⟩, hb⟩
 have hB : Below w.heap.size w w1 := Below.on (by (repeat' first | exact Below.refl _ _ | assumption | apply Below.alloc | apply Below.drew | apply Below.setCell | omega | (simp; done) | (simp; omega))) hb (by simp)
 clear hb
 go_wp2
 ·
  go_ret
  exact ⟨⟨-1, rfl, by omega, by omega, by omega⟩, hB⟩
 ·
  go_ret
  exact ⟨⟨r, rfl, r1, r2, r3⟩, hB⟩
set_option maxHeartbeats 400000 in
theorem szExprS_all (N : Nat) : SzS N := by
 induction N using Nat.strongRecOn with
 | _ N ih =>
 intro ks s cap left w hN hr h0 h1
 obtain ⟨-, hlen, hcap, -, -⟩ := kid_at hr
 unfold maxLen at hcap
 have hsz := Ex.length_le_sizeL ks
 by_cases hneg : left - (ks.length : Int) < 0
 ·
  go_enter Tryz.func16, Tryz.ntmps16
  go_wp2_with fail
  go_ret
  exact ⟨⟨-1, rfl, by omega, by omega, by omega⟩, Below.refl _ _⟩
 ·
  have hd : decide (left - (ks.length : Int) < 0) = false := by simpa using hneg
  go_enter Tryz.func16, Tryz.ntmps16
  go_wp2_with fail
  go_loopw [1, 5] (fun l i wr => ∃ (k : Nat) (r : Int), k ≤ ks.length ∧ i = .int .i64 k ∧ l = .int .i64 r ∧ 0 ≤ r ∧ (ks.length : Int) + (Ex.sizeL (ks.take k) : Int) - k + r ≤ left ∧ r ≤ left ∧ Below w.heap.size w wr) (fun _ i _ => ks.length - (intOf i).toNat)
  case atStart => exact ⟨0, _, by omega, rfl, rfl, by omega, by simp [Ex.sizeL]; omega, by omega, Below.refl _ _⟩
  case round =>
   obtain ⟨k, r, hk, rfl, rfl, hr0, hr1, hr2, hB⟩ := hrel
   by_cases hlt : k < ks.length
   ·
    obtain ⟨e, he⟩ : ∃ e, ks[k]? = some e := ⟨_, List.getElem?_eq_getElem hlt⟩
    obtain ⟨b, o, rfl⟩ := kid_some hr (by intro h; simp [h] at hlt)
    obtain ⟨hbl, s', c', g0, g1, g2, gr⟩ := kid_in (hr.below hB) he
    have hse := Ex.size_eq e
    have hmem := Ex.sizeL_mem (List.mem_of_getElem? he)
    have htk := Ex.sizeL_take_succ he
    have Htk := Lib.hid htk
    have Hse := Lib.hid hse
    have hlt' : Ex.sizeL e.kids < N := by omega
    clear htk hse
    go_wp2_with fail
    refine (szExpr_of (ih _ hlt') _ _ _ _ _ _ _ (Nat.le_refl _) gr hr0 (by omega)).mono ?_
    rintro e1 w1 ⟨⟨r', rfl, r1, r2, r3⟩, hb⟩
    have hB1 : Below w.heap.size w w1 := Below.on hB hb hB.size
    by_cases hr' : r' < 0
    ·
     go_wp2_with fail
     go_ret
     exact ⟨⟨-1, rfl, by omega, by omega, by omega⟩, hB1⟩
    ·
     have hd' : decide (r' < 0) = false := by simpa using hr'
     go_wp2_with fail
     go_roundw
     case rel =>
      have := Htk.out
      have := Hse.out
      exact ⟨k + 1, r', by omega, by go_num, rfl, by omega, by omega, by omega, hB1⟩
     case measure => simp [intOf]; omega
   ·
    obtain rfl : k = ks.length := by omega
    have hfull : Ex.sizeL (ks.take ks.length) = Ex.sizeL ks := by rw [List.take_length]
    have H := Lib.hid hfull
    clear hfull
    go_wp2_with fail
    go_ret
    have := H.out
    exact ⟨⟨r, rfl, by omega, by omega, by omega⟩, hB⟩
theorem szExpr_i {k n : Int} {ks : List Ex} {s : Option Addr} {cap : Nat} {left : Int} {w : World} (hr : Rd w (kidsD ks) (.slice s ks.length cap)) (h0 : 0 ≤ left) (h1 : left ≤ 1048576) :
  Calls Tryz.prog 5 #[.agg #[.int .i64 k, .int .i64 n, .slice s ks.length cap], .int .i64 left] w fun e w' => Szd (Ex.sizeL ks) left e ∧ Below w.heap.size w w' :=
 szExpr_of (szExprS_all _) k n ks s cap left w (Nat.le_refl _) hr h0 h1
end Go.Proofs.YtcokljhamhgelaaGreatDoor

namespace Go.Proofs.YtcokljhamhgelaaGreatDoor
set_option linter.unusedVariables false
set_option linter.unusedSimpArgs false
open Go.ChangeShapes Go.WideShapes Go.ChangeAt Go.RowKit
theorem info_implExpr : (Tryz.prog.info? 34).map (fun i => (i.zero, i.size, i.bytes)) = some (some (.agg #[.int .i64 0, .int .i64 0, .slice none 0 0]), 3, 40) := by kernel_rfl
def ToS (N : Nat) : Prop := ∀ (ks : List Ex) (s : Option Addr) (cap : Nat) (w : World), Ex.sizeL ks ≤ N → Rd w (kidsD ks) (.slice s ks.length cap) → Ex.sizeL ks ≤ 1048576 →
  Calls Tryz.prog 19 #[.slice s ks.length cap] w fun e w' => ∃ s' c', e = .returned (.slice s' ks.length c') ∧ Fresh w w' (kidsD ks) (.slice s' ks.length c') ∧ Below w.heap.size w w'
theorem toExpr_of {N : Nat} (hS : ToS N) (k n : Int) (ks : List Ex) (s : Option Addr) (cap : Nat) (w : World) (hN : Ex.sizeL ks ≤ N) (hr : Rd w (kidsD ks) (.slice s ks.length cap)) (h1 : Ex.sizeL ks ≤ 1048576) :
  Calls Tryz.prog 8 #[.agg #[.int .i64 k, .int .i64 n, .slice s ks.length cap]] w fun e w' => ∃ s' c', e = .returned (.agg #[.int .i64 k, .int .i64 n, .slice s' ks.length c']) ∧ Fresh w w' (kidsD ks) (.slice s' ks.length c') ∧ Below w.heap.size w w' := by
 go_enter Tryz.func8, Tryz.ntmps8
 go_wp2_with fail
 refine (hS ks s cap _ hN (by repeat (first | exact hr | apply Rd.alloc)) h1).mono ?_
 rintro e w1 ⟨s', c', rfl, hfr, hb⟩
 obtain ⟨hc, hf, hz⟩ := bcell hb
 simp at hz
 have q0 : w.heap.size < w1.heap.size := by omega
 have q1 : w.heap.size + 1 < w1.heap.size := by omega
 have q2 : w.heap.size + 1 + 1 < w1.heap.size := by omega
 have hB : Below w.heap.size w w1 := Below.on (by (repeat' first | exact Below.refl _ _ | assumption | apply Below.alloc | apply Below.drew | apply Below.setCell | omega | (simp; done) | (simp; omega))) hb (by simp; omega)
 clear hb
 go_wp2
 refine bodyPost_ret (v := .agg #[.int .i64 k, .int .i64 n, .slice s' ks.length c']) (by simp [results, Tryz.results8, go_sem, hc]) rfl ⟨s', c', rfl, ?_, by (repeat' first | exact Below.refl _ _ | assumption | apply Below.alloc | apply Below.drew | apply Below.setCell | omega | (simp; done) | (simp; omega))⟩
 refine Fresh.from (hfr.keep fun b h1 _ => ?_) (by simp; omega)
 simp at h1
 rw [Below.heap_setCell _ _ _ _ (by simp; omega), Below.heap_setCell _ _ _ _ (by simp; omega), Below.heap_setCell _ _ _ _ (by simp; omega), Below.heap_setCell _ _ _ _ (by simp; omega)]
theorem toExprS_all (N : Nat) : ToS N := by
 induction N using Nat.strongRecOn with
 | _ N ih =>
 intro ks s cap w hN hr h1
 obtain ⟨-, hlen, hcap, -, -⟩ := kid_at hr
 unfold maxLen at hcap
 have hsz := Ex.length_le_sizeL ks
 obtain ⟨i0, hi, hz0, hz1, hz2⟩ := info_parts info_implExpr
 go_enter Tryz.func19, Tryz.ntmps19
 go_wp2_with (at_make; refine wpList_make_full _ rfl _ _ 32 rfl w.heap.size 34 i0 (.agg #[.int .i64 0, .int .i64 0, .slice none 0 0]) 3 Tryz.underlying32 hi hz0 hz1 .i64 .i64 _ _ ks.length rfl rfl rfl rfl (by rw [hz2]; omega) (by unfold maxLen; omega) (Nat.le_refl _) ?_; intro w0 hown hgrow)
 have hp := Part.start hown
 have hB0 : Below w.heap.size w w0 := Below.grown (Below.refl _ _) hgrow (Nat.le_refl _) (by simp)
 have hz0' := hp.lt
 clear hown hgrow
 go_loopw [4] (fun i wr => ∃ k : Nat, k ≤ ks.length ∧ i = .int .i64 k ∧ Part wr w.heap.size 34 (Ex.cellsL (ks.take k)) (ks.length * 3) ∧ Below w.heap.size w wr) (fun i _ => ks.length - (intOf i).toNat)
 case atStart => exact ⟨0, by omega, rfl, by simpa [Ex.cellsL] using hp, hB0⟩
 case round =>
  clear hp hB0 hz0'
  obtain ⟨k, hk, rfl, hp, hB⟩ := hrel
  by_cases hlt : k < ks.length
  ·
   obtain ⟨e, he⟩ : ∃ e, ks[k]? = some e := ⟨_, List.getElem?_eq_getElem hlt⟩
   obtain ⟨b, o, rfl⟩ := kid_some hr (by intro h; simp [h] at hlt)
   obtain ⟨hbl, s', c', g0, g1, g2, gr⟩ := kid_in (hr.below hB) he
   have hlt' : Ex.sizeL e.kids < N := by
    have := Ex.size_eq e
    have := Ex.sizeL_mem (List.mem_of_getElem? he)
    omega
   have hle : Ex.sizeL e.kids ≤ 1048576 := by
    have := Ex.size_eq e
    have := Ex.sizeL_mem (List.mem_of_getElem? he)
    omega
   go_wp2_with fail
   refine (toExpr_of (ih _ hlt') _ _ _ _ _ _ (Nat.le_refl _) gr hle).mono ?_
   rintro e1 w1 ⟨s2, c2, rfl, ⟨G, hG1, hG2, hG3⟩, hb⟩
   have hlt2 := hp.lt
   have hz := hb.size
   obtain ⟨y0, d0⟩ := (hp.below hb).cell (k * 3) (by omega)
   obtain ⟨y1, d1⟩ := (hp.below hb).cell (k * 3 + 1) (by omega)
   obtain ⟨y2, d2⟩ := (hp.below hb).cell (k * 3 + 2) (by omega)
   have z0 := (hp.below hb).frozen (k * 3)
   have z1 := (hp.below hb).frozen (k * 3 + 1)
   have z2 := (hp.below hb).frozen (k * 3 + 2)
   have hst := hp.step hb (Ows.three (k := e.kind) (n := e.num) hG1) hG2 hG3 (o := k * 3) (by rw [Ex.cellsL_length, List.length_take, Nat.min_eq_left hk]) (by simp; omega)
   rw [← Ex.cellsL_take_succ he] at hst
   have Hst : Hid (Part (((w1.setCell ⟨w.heap.size, k * 3, none⟩ (.int .i64 e.kind)).setCell ⟨w.heap.size, k * 3 + 1, none⟩ (.int .i64 e.num)).setCell ⟨w.heap.size, k * 3 + 2, none⟩ (.slice s2 e.kids.length c2)) w.heap.size 34 (Ex.cellsL (ks.take (k + 1))) (ks.length * 3)) := hst
   have hB1 : Below w.heap.size w w1 := Below.on hB hb (by omega)
   clear hst
   go_wp2_with fail
   go_roundw
   case rel => exact ⟨k + 1, by omega, by go_num, Hst.out, by (repeat' first | exact Below.refl _ _ | assumption | apply Below.alloc | apply Below.drew | apply Below.setCell | omega | (simp; done) | (simp; omega))⟩
   case measure => simp [intOf]; omega
  ·
   obtain rfl : k = ks.length := by omega
   rw [List.take_length] at hp
   go_wp2_with fail
   go_ret
   exact ⟨_, _, rfl, hp.done (Nat.le_refl _) (Ex.cellsL_length ks) (Nat.le_refl _) (by unfold maxLen; omega), hB⟩
theorem toExpr_any (k n : Int) (ks : List Ex) (s : Option Addr) (cap : Nat) (w : World) (hr : Rd w (kidsD ks) (.slice s ks.length cap)) (h1 : Ex.sizeL ks ≤ 1048576) :
  Calls Tryz.prog 8 #[.agg #[.int .i64 k, .int .i64 n, .slice s ks.length cap]] w fun e w' => ∃ s' c', e = .returned (.agg #[.int .i64 k, .int .i64 n, .slice s' ks.length c']) ∧ Fresh w w' (kidsD ks) (.slice s' ks.length c') ∧ Below w.heap.size w w' :=
 toExpr_of (toExprS_all _) k n ks s cap w (Nat.le_refl _) hr h1
theorem toExpr_i {k n : Int} {ks : List Ex} {s : Option Addr} {cap : Nat} {w : World} (hr : Rd w (kidsD ks) (.slice s ks.length cap)) (h1 : Ex.sizeL ks ≤ 1048576) :
  Calls Tryz.prog 8 #[.agg #[.int .i64 k, .int .i64 n, .slice s ks.length cap]] w fun e w' => ∃ s' c', e = .returned (.agg #[.int .i64 k, .int .i64 n, .slice s' ks.length c']) ∧ Freshs w w' [kidsD ks] [.slice s' ks.length c'] ∧ Below w.heap.size w w' :=
 (toExpr_any k n ks s cap w hr h1).mono fun _ _ ⟨s', c', he, hf, hb⟩ => ⟨s', c', he, Freshs.one hf, hb⟩
end Go.Proofs.YtcokljhamhgelaaGreatDoor

namespace Go.Proofs.YtcokljhamhgelaaGreatDoor
set_option linter.unusedVariables false
set_option linter.unusedSimpArgs false
open Go.ChangeShapes Go.WideShapes Go.ChangeAt Go.RowKit Go.Sort
def EqS (N : Nat) : Prop := ∀ (ks js : List Ex) (s t : Option Addr) (cap cap' : Nat) (w : World), Ex.sizeL ks ≤ N → Rd w (kidsD ks) (.slice s ks.length cap) → Rd w (kidsD js) (.slice t js.length cap') →
  Calls Tryz.prog 22 #[.slice s ks.length cap, .slice t js.length cap'] w fun e w' => e = .returned (.bool (eqb ks js)) ∧ Below w.heap.size w w'
theorem eqExpr_of {N : Nat} (hS : EqS N) (k n k' n' : Int) (ks js : List Ex) (s t : Option Addr) (cap cap' : Nat) (w : World) (hN : Ex.sizeL ks ≤ N) (hr : Rd w (kidsD ks) (.slice s ks.length cap)) (hr' : Rd w (kidsD js) (.slice t js.length cap')) :
  Calls Tryz.prog 10 #[.agg #[.int .i64 k, .int .i64 n, .slice s ks.length cap], .agg #[.int .i64 k', .int .i64 n', .slice t js.length cap']] w fun e w' => e = .returned (.bool (eqb (Ex.mk k n ks) (Ex.mk k' n' js))) ∧ Below w.heap.size w w' := by
 by_cases h1 : k = k'
 ·
  subst h1
  by_cases h2 : n = n'
  ·
   subst h2
   have b1 : (k != k) = false := by simp
   have b2 : (n != n) = false := by simp
   have e1 : eqb (Ex.mk k n ks) (Ex.mk k n js) = eqb ks js := by
    by_cases h : ks = js
    ·
     rw [eqb_true h, eqb_true (by rw [h])]
    ·
     rw [eqb_false h, eqb_false (by simp [h])]
   rw [e1]
   clear e1
   go_enter Tryz.func10, Tryz.ntmps10
   go_wp2_with fail
   refine (hS ks js s t cap cap' _ hN (by repeat (first | exact hr | apply Rd.alloc)) (by repeat (first | exact hr' | apply Rd.alloc))).mono ?_
   rintro e w1 ⟨rfl, hb⟩
   have hB : Below w.heap.size w w1 := Below.on (by (repeat' first | exact Below.refl _ _ | assumption | apply Below.alloc | apply Below.drew | apply Below.setCell | omega | (simp; done) | (simp; omega))) hb (by simp; omega)
   clear hb
   go_wp2
   all_goals go_ret
   all_goals exact ⟨by simp_all, hB⟩
  ·
   have b1 : (k != k) = false := by simp
   have b2 : (n != n') = true := by simp [h2]
   have e1 : eqb (Ex.mk k n ks) (Ex.mk k n' js) = false := eqb_false (by simp [h2])
   rw [e1]
   go_enter Tryz.func10, Tryz.ntmps10
   go_wp2_with fail
   go_ret
   exact ⟨rfl, by (repeat' first | exact Below.refl _ _ | assumption | apply Below.alloc | apply Below.drew | apply Below.setCell | omega | (simp; done) | (simp; omega))⟩
 ·
  have b1 : (k != k') = true := by simp [h1]
  have e1 : eqb (Ex.mk k n ks) (Ex.mk k' n' js) = false := eqb_false (by simp [h1])
  rw [e1]
  go_enter Tryz.func10, Tryz.ntmps10
  go_wp2_with fail
  go_ret
  exact ⟨rfl, by (repeat' first | exact Below.refl _ _ | assumption | apply Below.alloc | apply Below.drew | apply Below.setCell | omega | (simp; done) | (simp; omega))⟩
theorem eqExprS_all (N : Nat) : EqS N := by
 induction N using Nat.strongRecOn with
 | _ N ih =>
 intro ks js s t cap cap' w hN hr hr'
 obtain ⟨-, hlen, hcap, -, -⟩ := kid_at hr
 obtain ⟨-, hlen', hcap', -, -⟩ := kid_at hr'
 unfold maxLen at hcap hcap'
 by_cases hl : ks.length = js.length
 ·
  have b1 : ((ks.length : Int) != (js.length : Int)) = false := by simp [hl]
  have Hl := Lib.hid hl
  clear hl
  go_enter Tryz.func22, Tryz.ntmps22
  go_wp2_with fail
  go_loopw [5] (fun i wr => ∃ k : Nat, k ≤ ks.length ∧ i = .int .i64 k ∧ ks.take k = js.take k ∧ Below w.heap.size w wr) (fun i _ => ks.length - (intOf i).toNat)
  case atStart => exact ⟨0, by omega, rfl, by simp, Below.refl _ _⟩
  case round =>
   obtain ⟨k, hk, rfl, hpre, hB⟩ := hrel
   have Hpre := Lib.hid hpre
   clear hpre
   by_cases hlt : k < ks.length
   ·
    have hlt' : k < js.length := by have := Hl.out; omega
    obtain ⟨e, he⟩ : ∃ e, ks[k]? = some e := ⟨_, List.getElem?_eq_getElem hlt⟩
    obtain ⟨f, hf⟩ : ∃ e, js[k]? = some e := ⟨_, List.getElem?_eq_getElem hlt'⟩
    obtain ⟨b, o, rfl⟩ := kid_some hr (by intro h; simp [h] at hlt)
    obtain ⟨c, p, rfl⟩ := kid_some hr' (by intro h; simp [h] at hlt')
    obtain ⟨-, s', c', g0, g1, g2, gr⟩ := kid_in (hr.below hB) he
    obtain ⟨-, t', d', k0, k1, k2, kr⟩ := kid_in (hr'.below hB) hf
    have hltN : Ex.sizeL e.kids < N := by
     have := Ex.size_eq e
     have := Ex.sizeL_mem (List.mem_of_getElem? he)
     omega
    have ha := Int.natCast_nonneg k
    have hb : (k : Int) < (ks.length : Int) := by omega
    have hb' : (k : Int) < (js.length : Int) := by omega
    have i0 := fun d os => cell_regrown g0 d os
    have i1 := fun d os => cell_regrown g1 d os
    have i2 := fun d os => cell_regrown g2 d os
    have j0 := fun d os => cell_regrown k0 d os
    have j1 := fun d os => cell_regrown k1 d os
    have j2 := fun d os => cell_regrown k2 d os
    clear g0 g1 g2 k0 k1 k2
    go_wp2_with fail
    refine Go.wp_region_quiet_below (by kernel_rfl) (by kernel_rfl) ?_
    repeat (quiet_step (exact Calls.regrown_of (eqExpr_of (ih _ hltN) _ _ _ _ _ _ _ _ _ _ _ (Nat.le_refl _) (gr.below (below_regrown _ _ _)) (kr.below (below_regrown _ _ _)))))
    refine wpQuiet_nil ?_; intro _ hw'; obtain ⟨⟨dq, osq⟩, hw''⟩ := hw'; subst hw''; have hq := below_regrown wr dq osq; revert hq; generalize grow (redrawn wr dq) osq = w1; intro hq
    have hB1 : Below w.heap.size w w1 := Below.on hB hq hB.size
    clear hq i0 i1 i2 j0 j1 j2
    by_cases hef : e = f
    ·
     have c1 : eqb (Ex.mk e.kind e.num e.kids) (Ex.mk f.kind f.num f.kids) = true := eqb_true (by rw [hef])
     have Hst : Hid (ks.take (k + 1) = js.take (k + 1)) := by
      have h1 := List.getElem?_eq_some_iff.1 he
      have h2 := List.getElem?_eq_some_iff.1 hf
      show _ = _
      rw [List.take_succ_eq_append_getElem hlt, List.take_succ_eq_append_getElem hlt', Hpre.out, h1.2, h2.2, hef]
     clear hef
     simp only [c1, Bool.not_true]
     go_wp2_with fail
     go_roundw
     case rel => exact ⟨k + 1, by omega, by go_num, Hst.out, hB1⟩
     case measure => simp [intOf]; omega
    ·
     have c1 : eqb (Ex.mk e.kind e.num e.kids) (Ex.mk f.kind f.num f.kids) = false := eqb_false (by rw [← Ex.eta, ← Ex.eta]; exact hef)
     have c2 : eqb ks js = false := eqb_false (by
      intro h
      rw [h] at he
      exact hef (Option.some.inj (he.symm.trans hf)))
     simp only [c1, Bool.not_false]
     go_wp2_with fail
     go_ret
     exact ⟨by first | rfl | (rw [c2]; rfl), hB1⟩
   ·
    obtain rfl : k = ks.length := by omega
    have c2 : eqb ks js = true := eqb_true (by
     have := Hpre.out
     rwa [List.take_length, Hl.out, List.take_length] at this)
    go_wp2_with fail
    go_ret
    exact ⟨by first | rfl | (rw [c2]; rfl), hB⟩
 ·
  have b1 : ((ks.length : Int) != (js.length : Int)) = true := by simp; omega
  have c2 : eqb ks js = false := eqb_false (by intro h; rw [h] at hl; exact hl rfl)
  go_enter Tryz.func22, Tryz.ntmps22
  go_wp2_with fail
  go_ret
  exact ⟨by first | rfl | (rw [c2]; rfl), Below.refl _ _⟩
theorem eqExpr_i {k n k' n' : Int} {ks js : List Ex} {s t : Option Addr} {cap cap' : Nat} {w : World} (hr : Rd w (kidsD ks) (.slice s ks.length cap)) (hr' : Rd w (kidsD js) (.slice t js.length cap')) :
  Calls Tryz.prog 10 #[.agg #[.int .i64 k, .int .i64 n, .slice s ks.length cap], .agg #[.int .i64 k', .int .i64 n', .slice t js.length cap']] w fun e w' => e = .returned (.bool (eqb (Ex.mk k n ks) (Ex.mk k' n' js))) ∧ Below w.heap.size w w' :=
 eqExpr_of (eqExprS_all _) k n k' n' ks js s t cap cap' w (Nat.le_refl _) hr hr'
end Go.Proofs.YtcokljhamhgelaaGreatDoor
