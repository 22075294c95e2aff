/-
  Parts of a proof, joined: MadS, MadI, AutT, AutU, Arr. No condition.
-/
import Derived.Test.YtcokljhamhgelaaGreatDoorPk25
namespace Go.Proofs.YtcokljhamhgelaaGreatDoor
set_option linter.unusedVariables false
set_option linter.unusedSimpArgs false
open Go.ChangeShapes Go.WideShapes Go.ChangeAt Go.RowKit Go.Deep
theorem info_bl : (Tryz.prog.info? 4).map (fun i => (i.zero, i.size, i.bytes)) = some (some (.bool false), 1, 1) := by kernel_rfl
theorem info_bls : (Tryz.prog.info? 85).map (fun i => (i.zero, i.size, i.bytes)) = some (some (.slice none 0 0), 1, 24) := by kernel_rfl
theorem none_ownb {w : World} {v : Bool} : OwS (fun _ => False) w [D.bool v] [.bool v] := ⟨[], Ows.cons (F := []) (by simp [Ow]) Ows.nil, by simp, by simp⟩
theorem nil_au {w w' : World} : Freshs w w' (autD [] []) [.slice none 0 0, .slice none 0 0] := by
 refine ⟨[], Ows.cons (F := []) (G := []) ?_ (Ows.cons (F := []) (G := []) ?_ Ows.nil), by simp, by simp⟩
 ·
  simp only [bbD, nestD, Ow]
  exact ⟨_, 0, rfl, by simp, by simp [maxLen], by simp, by simp, Or.inl (by simp)⟩
 ·
  simp only [iiiD, nestD, Ow]
  exact ⟨_, 0, rfl, by simp, by simp [maxLen], by simp, by simp, Or.inl (by simp)⟩
set_option maxRecDepth 100000 in
set_option maxHeartbeats 8000000 in
theorem l02Made_i {t a : Int} {e : Ex} {b o : Nat} {w : World} (hok : okB t a e = true) (hx : ExAt w b o e) :
  Calls Tryz.prog 38 #[.agg #[.int .i64 t, .int .i64 a], .pointer (some ⟨b, o, none⟩)] w fun f w' => ∃ s c s' c', f = .returned (.tuple #[.agg #[.int .i64 (madT (atomsN t).toNat a.toNat e t), .int .i64 (madT (atomsN t).toNat a.toNat e a), .slice s (madA (atomsN t).toNat a.toNat e).length c, .slice s' (stNN (atomsN t).toNat a.toNat e).length c'], .int .i64 (stCC (atomsN t).toNat a.toNat e)]) ∧
   Freshs w w' (autD (madA (atomsN t).toNat a.toNat e) (stNN (atomsN t).toNat a.toNat e)) [.slice s (madA (atomsN t).toNat a.toNat e).length c, .slice s' (stNN (atomsN t).toNat a.toNat e).length c'] ∧ Below w.heap.size w w' := by
 obtain ⟨ht0, ht3, ha0, ha4, hes, htr⟩ := okB_bd4 hok
 obtain ⟨hat1, hat8⟩ := atomsN_bd t
 have hst := fun w hx => l02States_a (w := w) (b := b) (o := o) hok hx
 have hLs := stLL_tree hok
 have hL60 := (stLL_spec hok).1
 obtain ⟨A, hA⟩ : ∃ A, (atomsN t).toNat = A := ⟨_, rfl⟩
 obtain ⟨n, hn⟩ : ∃ n, a.toNat = n := ⟨_, rfl⟩
 rw [hA, hn] at hst hLs hL60 ⊢
 have HAI : Hid (atomsN t = (A : Int)) := by show _ = _; omega
 have hA8 : A ≤ 8 := by omega
 have hno := stCC_no (A := A) (a := n) (e := e)
 have hyes := stCC_ok (A := A) (a := n) (e := e)
 have hpos := stL_pos A n e 60
 have hyl := stLL_yes (A := A) (a := n) (e := e)
 have hT1 : madT A n e t = if stCC A n e = 0 then t else 0 := rfl
 have hT2 : madT A n e a = if stCC A n e = 0 then a else 0 := rfl
 have hN := stNN_len (A := A) (a := n) (e := e)
 have hml := madA_len A n e
 have htk := fun k x (h : (stLL A n e)[k]? = some x) => madA_take (k := k) h
 generalize madT A n e t = t1 at hT1 ⊢
 generalize madT A n e a = a1 at hT2 ⊢
 generalize madA A n e = M at *
 generalize stNN A n e = N at *
 generalize stLL A n e = L at *
 clear hA hn hat1 hat8 htr hes
 by_cases hc0 : stCC A n e = 0
 rotate_left
 ·
  obtain ⟨q1, q2, q3⟩ := hno hc0
  rw [if_neg hc0] at hT1 hT2
  rw [q1] at hst ⊢
  rw [hT1, hT2]
  clear hT1 hT2
  subst q2 q3
  obtain rfl : M = [] := List.eq_nil_of_length_eq_zero (by rw [hml]; rfl)
  clear hyes hno hpos hyl hN hml htk hc0
  go_enter Tryz.func38, Tryz.ntmps38
  go_wp2_with fail
  obtain ⟨w1, e1, G, hb1, hz1⟩ := box2 w 30 (.int .i64 t) (.int .i64 a)
  rw [e1]
  clear e1
  obtain ⟨w0, e0, R, hb2, hz2⟩ := box4 w1 49 (.int .i64 0) (.int .i64 0) (.slice none 0 0) (.slice none 0 0)
  rw [e0]
  clear e0
  rw [hz1] at R
  have hB0 : Below w.heap.size w w0 := hb1.trans (hb2.mono (by omega))
  replace G := G.below hb2
  clear hb1 hb2
  have hz0 : w0.heap.size = w.heap.size + 2 := by omega
  clear hz1 hz2
  refine (hst w0 (hx.below hB0)).mono ?_
  rintro f w2 ⟨s2, c2, s3, c3, rfl, hf2, hb2⟩
  have hz2 := hb2.size
  clear hst
  have hB := hB0.trans (hb2.mono (by omega))
  replace R := R.below hb2
  clear hf2
  obtain ⟨r0, r1, r2, r3, z0, z1, z2, z3, ltR⟩ := R.all4
  go_wp2_with fail
  obtain ⟨w5, e5, T2, hs5⟩ := set4 R (.int .i64 0) (.int .i64 0) (.slice none 0 0) (.slice none 0 0)
  rw [e5]
  clear e5 r0 r1 r2 r3 z0 z1 z2 z3 ltR
  obtain ⟨t0, t1, t2, t3, -, -, -, -, -⟩ := T2.all4
  have hzB5 := hB.size
  have hB5 := hB.trans (hs5.below (B := w.heap.size) (by omega) (fun y hy => by omega))
  refine bodyPost_ret (v := .tuple #[.agg #[.int .i64 0, .int .i64 0, .slice none 0 0, .slice none 0 0], .int .i64 3]) (by simp [results, Tryz.results38, go_sem, t0, t1, t2, t3]) rfl ?_
  exact ⟨none, 0, none, 0, rfl, nil_au, hB5⟩
 ·
  rw [if_pos hc0] at hT1 hT2
  have hLp : L ≠ [] := by
   intro h
   have h2 := (hyl (hyes hc0)).1
   rw [h] at h2
   rw [← h2] at hpos
   simp at hpos
  rw [hc0] at hst ⊢
  rw [hT1, hT2]
  clear hT1 hT2 t1 a1
  have Htk := Lib.hid htk
  have HLs := Lib.hid hLs
  have Hml := Lib.hid hml
  have HLp := Lib.hid hLp
  clear hLp hc0 hno hyes hpos hyl hml htk hLs hN
  go_enter Tryz.func38, Tryz.ntmps38
  go_wp2_with fail
  obtain ⟨w1, e1, G, hb1, hz1⟩ := box2 w 30 (.int .i64 t) (.int .i64 a)
  rw [e1]
  clear e1
  obtain ⟨w0, e0, R, hb2, hz2⟩ := box4 w1 49 (.int .i64 0) (.int .i64 0) (.slice none 0 0) (.slice none 0 0)
  rw [e0]
  clear e0
  rw [hz1] at R
  have hB0 : Below w.heap.size w w0 := hb1.trans (hb2.mono (by omega))
  replace G := G.below hb2
  clear hb1 hb2
  have hz0 : w0.heap.size = w.heap.size + 2 := by omega
  clear hz1 hz2
  refine (hst w0 (hx.below hB0)).mono ?_
  rintro f w2 ⟨s2, c2, s3, c3, rfl, hf2, hb2⟩
  have hz2 := hb2.size
  clear hst
  obtain ⟨kb, ko, rfl⟩ := kid_some hf2.rds.two.1 HLp.out
  have hB1 : Bun w0.heap.size w2 [.own [kidsD L, iiiD N] [.slice (some ⟨kb, ko, none⟩) L.length c2, .slice s3 N.length c3]] := Bun.nil.push_own hb2 (Nat.le_refl _) hf2
  clear hf2
  have G2 := G.below hb2
  obtain ⟨g0, g1, ltG⟩ := G2.all2
  go_wp2_with fail
  clear g0 g1 ltG G2
  have hB2 := (hB1.push_box (by omega) 49 #[.int .i64 t, .int .i64 a, .slice none 0 0, .slice s3 N.length c3]).push_nil 85 1
  obtain ⟨w3, e3, -, hb3, hz3⟩ := box4 w2 49 (.int .i64 t) (.int .i64 a) (.slice none 0 0) (.slice s3 N.length c3)
  rw [e3] at hB2 ⊢
  have hbe3 := hb2.trans (hb3.mono (by omega))
  obtain ⟨g, hg⟩ : ∃ g, w2.heap.size = g := ⟨_, rfl⟩
  rw [hg] at hB2 ⊢
  clear e3 hB1 hb3 hb2 hg
  go_loopw [10] (fun i wr => ∃ (k : Nat) (va : Option Addr) (ca : Nat), i = .int .i64 k ∧ k ≤ L.length ∧ Bun w0.heap.size wr [.own [kidsD L, iiiD N] [.slice (some ⟨kb, ko, none⟩) L.length c2, .slice s3 N.length c3], .box g 49 [.int .i64 t, .int .i64 a, .slice va k ca, .slice s3 N.length c3], .app 85 1 k ((M.take k).map boolsD) (.slice va k ca)] ∧ Below w0.heap.size w0 wr) (fun i _ => L.length - (intOf i).toNat)
  case atStart => exact ⟨0, none, 0, rfl, by omega, by simpa using hB2, hbe3⟩
  case round =>
   clear hB2 hbe3
   obtain ⟨k, va, ca, rfl, hk, hbun, hbe⟩ := hrel
   obtain ⟨wo, rfl⟩ : ∃ v, v = wr := ⟨_, rfl⟩
   have hk0 := Int.natCast_nonneg k
   have hzo := hbe.size
   by_cases hlt : k < L.length
   rotate_left
   ·
    obtain rfl : k = L.length := by omega
    obtain ⟨x0, x1, x2, x3, -, -, -, -, ltx⟩ := (hbun.box 1 rfl).1.all4
    have hw0 : w.heap.size ≤ w0.heap.size := hB0.size
    have hFr := hbun.fresh_app_own (W := w0) (Nat.le_refl _) 2 0 (by decide) rfl rfl
    have HF : Hid (Freshs w0 wo (autD M N) [.slice va M.length ca, .slice s3 N.length c3]) := by
     show Freshs w0 wo [.sl 1 M.length (M.map boolsD), iiiD N] _
     rw [List.take_of_length_le (by rw [Hml.out]; exact Nat.le_refl _)] at hFr
     rw [Hml.out]
     exact hFr
    have hB := hB0.trans (hbe.mono (by omega))
    replace R := R.below hbe
    clear hbun hFr
    obtain ⟨r0, r1, r2, r3, z0, z1, z2, z3, ltR⟩ := R.all4
    go_wp2_with fail
    obtain ⟨w5, e5, T2, hs5⟩ := set4 R (.int .i64 t) (.int .i64 a) (.slice va L.length ca) (.slice s3 N.length c3)
    rw [e5]
    clear e5 r0 r1 r2 r3 z0 z1 z2 z3 ltR
    obtain ⟨t0, t1, t2, t3, -, -, -, -, -⟩ := T2.all4
    have hzB5 := hB.size
    have hB5 := hB.trans (hs5.below (B := w.heap.size) (by omega) (fun y hy => by omega))
    refine bodyPost_ret (v := .tuple #[.agg #[.int .i64 t, .int .i64 a, .slice va L.length ca, .slice s3 N.length c3], .int .i64 0]) (by simp [results, Tryz.results38, go_sem, t0, t1, t2, t3]) rfl ?_
    refine ⟨va, ca, s3, c3, by rw [Hml.out], (HF.out.keep fun b hb1 hb2 => hs5.block b hb2 (fun hy => by omega)).from hw0, hB5⟩
   ·
    obtain ⟨x, hx'⟩ : ∃ x, L[k]? = some x := ⟨_, List.getElem?_eq_getElem hlt⟩
    obtain ⟨hxt, -⟩ := HLs.out x (List.mem_of_getElem? hx')
    have Hxt := Lib.hid hxt
    have Hx := Lib.hid hx'
    have HMk := Lib.hid (Htk.out k x hx')
    have HB := Lib.hid hbun
    have HBe := Lib.hid hbe
    have hkL : (k : Int) < (L.length : Int) := by omega
    clear hx' hbun hbe hxt
    go_wp2_with fail
    have hB3 := HB.out.push_empty hzo 4 1
    have hbe5 := HBe.out.alloc hzo (.cells #[] 4)
    go_loopw [11, 12] (fun v3 i wr => ∃ m : Nat, i = .int .i64 m ∧ m ≤ A ∧ Bun w0.heap.size wr [.own [kidsD L, iiiD N] [.slice (some ⟨kb, ko, none⟩) L.length c2, .slice s3 N.length c3], .box g 49 [.int .i64 t, .int .i64 a, .slice va k ca, .slice s3 N.length c3], .app 85 1 k ((M.take k).map boolsD) (.slice va k ca), .app 4 1 m (((accE A x).take m).map D.bool) v3] ∧ Below w0.heap.size w0 wr) (fun _ i _ => A - (intOf i).toNat)
    case atStart => exact ⟨0, rfl, by omega, by simpa using hB3, hbe5⟩
    case round =>
     clear hB3 hbe5
     obtain ⟨m, rfl, hmA, hbun, hbe⟩ := hrel
     obtain ⟨wm, rfl⟩ : ∃ v, v = wr := ⟨_, rfl⟩
     obtain ⟨a3, c4, rfl, hc3, hc4⟩ := hbun.shape 3 rfl
     obtain ⟨_, _, q9, hd3, hd4⟩ := hbun.shape 2 rfl
     simp only [Value.slice.injEq, true_and] at q9
     obtain ⟨rfl, rfl⟩ := q9
     have hg0 := (hbun.box 1 rfl).2
     unfold maxLen at hc4 hd4
     have HB4 := Lib.hid hbun
     have HBe4 := Lib.hid hbe
     have hm0 := Int.natCast_nonneg m
     have hzm := hbe.size
     have G4 := G.below hbe
     obtain ⟨g0, g1, ltG⟩ := G4.all2
     clear hbun hbe G4
     go_wp2_with fail
     clear g0 g1 ltG
     refine (l01Atoms_i ht0 ht3).mono ?_
     rintro f w5 ⟨rfl, hb5⟩
     rw [HAI.out]
     have HB5 := Lib.hid (HB4.out.below hb5)
     have HBe5 := Lib.hid (HBe4.out.trans (hb5.mono hzm))
     have hz5 := hb5.size
     clear hb5
     by_cases hmlt : m < A
     rotate_left
     ·
      obtain rfl : A = m := by omega
      have Heq : Hid ((M.take (k + 1)).map boolsD = (M.take k).map boolsD ++ [D.sl 1 A (((accE A x).take A).map D.bool)]) := by
       show _ = _
       rw [HMk.out, List.map_append, List.take_of_length_le (l := accE A x) (by rw [accE_len]; exact Nat.le_refl _)]
       show _ ++ [nestD D.bool _] = _
       unfold nestD
       rw [accE_len]
      obtain ⟨x0, x1, x2, x3, z0, z1, z2, z3, ltx⟩ := (HB5.out.box 1 rfl).1.all4
      have hBu := HB5.out.alloc (.cells #[.slice a3 A c4] 85)
      have hNb := Blk.new1 w5 85 (.slice a3 A c4)
      go_wp2_with (at_builtin; go_must (refine wpList_append_bun_own _ rfl _ _ 46 rfl 85 24 Tryz.underlying46 info_bls hBu (by simp; omega) 2 _ rfl rfl 3 (by decide) _ rfl ⟨w5.heap.size, 0, none⟩ rfl (news_blk hNb) (by omega) (by unfold maxLen; omega) ?_); intro g6 cap6 w6 hbun6 hb6; obtain ⟨y0, y1, y2, y3, f0, f1, f2, f3, lty⟩ := (hbun6.box 1 rfl).1.all4)
      have Hfin := Lib.hid (And.intro ((hbun6.take 3).store 1 rfl 2 (.slice (some ⟨g6, 0, none⟩) (k + 1) cap6)) (Below.setCell (p := ⟨g, 2, none⟩) ((HBe5.out.alloc (by omega) (.cells #[.slice a3 A c4] 85)).trans hb6) hg0 (.slice (some ⟨g6, 0, none⟩) (k + 1) cap6)))
      clear hbun6 hb6 hBu hNb x0 x1 x2 x3 z0 z1 z2 z3 ltx y0 y1 y2 y3
      go_wp2_with fail
      go_roundw
      case rel =>
       refine ⟨k + 1, some ⟨g6, 0, none⟩, cap6, by go_num, by omega, ?_, Hfin.out.2⟩
       have h := Hfin.out.1
       rw [Heq.out]
       exact h
      case measure => simp [intOf]; omega
     ·
      have hm1 : (m : Int) < (A : Int) := by omega
      have hrd : Rd w5 (kidsD L) (.slice (some ⟨kb, ko, none⟩) L.length c2) := (HB5.out.own_rds 0 rfl).two.1
      obtain ⟨hkb, sx, cx, i0, i1, i2, hxr⟩ := kid_in hrd Hx.out
      have hxa : ExAt w5 kb (ko + k * 3) x := ⟨i0, i1, sx, cx, i2, hxr⟩
      obtain ⟨-, kl2, kl3, -⟩ := kid_at hrd
      unfold maxLen at kl3
      clear hrd i0 i1 i2 hxr
      go_wp2_with fail
      refine (l02Empty_all (t - 1) (a - 1) (m : Int) (by omega) (by omega) (by omega) _ x _ _ w5 (Nat.le_refl _) hxa Hxt.out).mono ?_
      rintro f w6 ⟨rfl, rfl⟩
      have Hds : Hid (((accE A x).take (m + 1)).map D.bool = ((accE A x).take m).map D.bool ++ [D.bool (x.emp m)]) := by show _ = _; rw [accE_take hmlt, List.map_append]; rfl
      obtain ⟨z, hz⟩ : ∃ z, x.emp (m : Int) = z := ⟨_, rfl⟩
      rw [hz] at Hds ⊢
      have hBu := HB5.out.alloc (.cells #[.bool z] 4)
      have hNb := Blk.new1 w5 4 (.bool z)
      clear hz hxa
      go_wp2_with (at_builtin; go_must (refine wpList_append_bun _ rfl _ _ 85 rfl 4 (.bool false) 1 1 Tryz.underlying85 info_bl rfl (by decide) hBu (by simp <;> omega) 3 _ rfl rfl ⟨w5.heap.size, 0, none⟩ 1 1 [.bool z] rfl (news_blk hNb) none_ownb rfl (by simp [Value.oneCell']) (by omega) (by omega) (by unfold maxLen; omega) ?_); intro g6 cap6 w6 hbun6 hb6)
      have Hfin := Lib.hid (And.intro hbun6 ((HBe5.out.alloc (by omega) (.cells #[.bool z] 4)).trans hb6))
      clear hbun6 hb6 hBu hNb
      go_wp2_with fail
      go_roundw
      case rel =>
       refine ⟨m + 1, by go_num, by omega, ?_, Hfin.out.2⟩
       have h := Hfin.out.1
       rw [Hds.out]
       exact h
      case measure => simp [intOf]; omega
end Go.Proofs.YtcokljhamhgelaaGreatDoor

namespace Go.Proofs.YtcokljhamhgelaaGreatDoor
set_option linter.unusedVariables false
set_option linter.unusedSimpArgs false
open Go.ChangeShapes Go.WideShapes Go.ChangeAt Go.RowKit Go.Deep
theorem freshs_new_old {w0 w2 w' : World} {d e : D} {u v : Value} (h : Fresh w0 w2 e v) (k : Fresh w2 w' d u) (hb : Below w2.heap.size w2 w') (hz : w0.heap.size ≤ w2.heap.size) : Freshs w0 w' [d, e] [u, v] := by
 obtain ⟨F, h1, h2, h3⟩ := h
 obtain ⟨G, k1, k2, k3⟩ := k
 refine ⟨G ++ (F ++ []), Ows.cons k1 (Ows.cons (h1.keep fun b hm => hb.block b (h1.lt b hm)) Ows.nil), ?_, ?_⟩
 ·
  rw [List.append_nil, List.nodup_append]
  refine ⟨k2, h2, fun a ha b hb' => ?_⟩
  have := h1.lt b hb'
  have := k3 a ha
  omega
 ·
  intro b hm
  rw [List.append_nil] at hm
  rcases List.mem_append.1 hm with hm | hm
  ·
   have := k3 b hm; omega
  ·
   exact h3 b hm
set_option maxRecDepth 100000 in
set_option maxHeartbeats 8000000 in
theorem automatonOf_i {t a : Int} {e : Ex} {s : Option Addr} {c : Nat} {w : World} (hok : okB t a e = true) (hr : Rd w (kidsD e.kids) (.slice s e.kids.length c)) :
  Calls Tryz.prog 75 #[.agg #[.int .i64 t, .int .i64 a], .agg #[.int .i64 e.kind, .int .i64 e.num, .slice s e.kids.length c]] w fun f w' => ∃ s c s' c', f = .returned (.tuple #[.agg #[.int .i64 (madT (atomsN t).toNat a.toNat e t), .int .i64 (madT (atomsN t).toNat a.toNat e a), .slice s (madA (atomsN t).toNat a.toNat e).length c, .slice s' (stNN (atomsN t).toNat a.toNat e).length c'], .int .i64 (stCC (atomsN t).toNat a.toNat e)]) ∧
   Freshs w w' (autD (madA (atomsN t).toNat a.toNat e) (stNN (atomsN t).toNat a.toNat e)) [.slice s (madA (atomsN t).toNat a.toNat e).length c, .slice s' (stNN (atomsN t).toNat a.toNat e).length c'] ∧ Below w.heap.size w w' := by
 obtain ⟨ht0, ht3, ha0, ha4, hes, htr⟩ := okB_bd4 hok
 obtain ⟨hat1, hat8⟩ := atomsN_bd t
 have hst := fun w hr => statesOf_a (w := w) (s := s) (c := c) hok hr
 have hLs := stLL_tree hok
 have hL60 := (stLL_spec hok).1
 obtain ⟨A, hA⟩ : ∃ A, (atomsN t).toNat = A := ⟨_, rfl⟩
 obtain ⟨n, hn⟩ : ∃ n, a.toNat = n := ⟨_, rfl⟩
 rw [hA, hn] at hst hLs hL60 ⊢
 have HAI : Hid (atomsN t = (A : Int)) := by show _ = _; omega
 have hA8 : A ≤ 8 := by omega
 have hno := stCC_no (A := A) (a := n) (e := e)
 have hyes := stCC_ok (A := A) (a := n) (e := e)
 have hpos := stL_pos A n e 60
 have hyl := stLL_yes (A := A) (a := n) (e := e)
 have hT1 : madT A n e t = if stCC A n e = 0 then t else 0 := rfl
 have hT2 : madT A n e a = if stCC A n e = 0 then a else 0 := rfl
 have hN := stNN_len (A := A) (a := n) (e := e)
 have hml := madA_len A n e
 have htk := fun k x (h : (stLL A n e)[k]? = some x) => madA_take (k := k) h
 generalize madT A n e t = t1 at hT1 ⊢
 generalize madT A n e a = a1 at hT2 ⊢
 generalize madA A n e = M at *
 generalize stNN A n e = N at *
 generalize stLL A n e = L at *
 clear hA hn hat1 hat8 htr hes
 by_cases hc0 : stCC A n e = 0
 rotate_left
 ·
  obtain ⟨q1, q2, q3⟩ := hno hc0
  rw [if_neg hc0] at hT1 hT2
  rw [q1] at hst ⊢
  rw [hT1, hT2]
  clear hT1 hT2
  subst q2 q3
  obtain rfl : M = [] := List.eq_nil_of_length_eq_zero (by rw [hml]; rfl)
  clear hyes hno hpos hyl hN hml htk hc0
  go_enter Tryz.func75, Tryz.ntmps75
  go_wp2_with fail
  obtain ⟨w1, e1, G, hb1, hz1⟩ := box2 w 30 (.int .i64 t) (.int .i64 a)
  rw [e1]
  clear e1
  obtain ⟨w1', e1', E, hb1', hz1'⟩ := box3 w1 34 (.int .i64 e.kind) (.int .i64 e.num) (.slice s e.kids.length c)
  rw [e1']
  clear e1'
  obtain ⟨w0, e0, R, hb2, hz2⟩ := box4 w1' 49 (.int .i64 0) (.int .i64 0) (.slice none 0 0) (.slice none 0 0)
  rw [e0]
  clear e0
  rw [show w1'.heap.size = w.heap.size + 2 by omega] at R
  have hB0 : Below w.heap.size w w0 := (hb1.trans (hb1'.mono (by omega))).trans (hb2.mono (by omega))
  replace G := (G.below hb1').below hb2
  clear hb1 hb2 hb1' E
  have hz0 : w0.heap.size = w.heap.size + 3 := by omega
  clear hz1 hz2 hz1'
  refine (hst w0 (hr.below hB0)).mono ?_
  rintro f w2 ⟨s2, c2, s3, c3, rfl, hrd, hf2, hb2⟩
  have hz2 := hb2.size
  clear hst
  have hB := hB0.trans (hb2.mono (by omega))
  replace R := R.below hb2
  clear hf2 hrd
  obtain ⟨r0, r1, r2, r3, z0, z1, z2, z3, ltR⟩ := R.all4
  go_wp2_with fail
  obtain ⟨w5, e5, T2, hs5⟩ := set4 R (.int .i64 0) (.int .i64 0) (.slice none 0 0) (.slice none 0 0)
  rw [e5]
  clear e5 r0 r1 r2 r3 z0 z1 z2 z3 ltR
  obtain ⟨t0, t1, t2, t3, -, -, -, -, -⟩ := T2.all4
  have hzB5 := hB.size
  have hB5 := hB.trans (hs5.below (B := w.heap.size) (by omega) (fun y hy => by omega))
  refine bodyPost_ret (v := .tuple #[.agg #[.int .i64 0, .int .i64 0, .slice none 0 0, .slice none 0 0], .int .i64 3]) (by simp [results, Tryz.results75, go_sem, t0, t1, t2, t3]) rfl ?_
  exact ⟨none, 0, none, 0, rfl, nil_au, hB5⟩
 ·
  rw [if_pos hc0] at hT1 hT2
  have hLp : L ≠ [] := by
   intro h
   have h2 := (hyl (hyes hc0)).1
   rw [h] at h2
   rw [← h2] at hpos
   simp at hpos
  rw [hc0] at hst ⊢
  rw [hT1, hT2]
  clear hT1 hT2 t1 a1
  have Htk := Lib.hid htk
  have HLs := Lib.hid hLs
  have Hml := Lib.hid hml
  have HLp := Lib.hid hLp
  clear hLp hc0 hno hyes hpos hyl hml htk hLs hN
  go_enter Tryz.func75, Tryz.ntmps75
  go_wp2_with fail
  obtain ⟨w1, e1, G, hb1, hz1⟩ := box2 w 30 (.int .i64 t) (.int .i64 a)
  rw [e1]
  clear e1
  obtain ⟨w1', e1', E, hb1', hz1'⟩ := box3 w1 34 (.int .i64 e.kind) (.int .i64 e.num) (.slice s e.kids.length c)
  rw [e1']
  clear e1'
  obtain ⟨w0, e0, R, hb2, hz2⟩ := box4 w1' 49 (.int .i64 0) (.int .i64 0) (.slice none 0 0) (.slice none 0 0)
  rw [e0]
  clear e0
  rw [show w1'.heap.size = w.heap.size + 2 by omega] at R
  have hB0 : Below w.heap.size w w0 := (hb1.trans (hb1'.mono (by omega))).trans (hb2.mono (by omega))
  replace G := (G.below hb1').below hb2
  clear hb1 hb2 hb1' E
  have hz0 : w0.heap.size = w.heap.size + 3 := by omega
  clear hz1 hz2 hz1'
  refine (hst w0 (hr.below hB0)).mono ?_
  rintro f w2 ⟨s2, c2, s3, c3, rfl, hrd, hf2, hb2⟩
  have hz2 := hb2.size
  clear hst
  obtain ⟨kb, ko, rfl⟩ := kid_some hrd HLp.out
  have G2 := G.below hb2
  have R2 := R.below hb2
  obtain ⟨g0, g1, ltG⟩ := G2.all2
  obtain ⟨-, kl2, kl3, -⟩ := kid_at hrd
  unfold maxLen at kl3
  have Hrd := Lib.hid hrd
  have HFN := Lib.hid hf2.single
  have HB02 := Lib.hid (hB0.trans (hb2.mono (by omega)))
  clear hrd hf2 R G hB0
  go_wp2_with fail
  clear g0 g1 ltG
  have hB2 := (((Bun.nil (B := w2.heap.size) (w := w2)).push_box (by omega) 49 #[.int .i64 t, .int .i64 a, .slice none 0 0, .slice s3 N.length c3])).push_nil 85 1
  obtain ⟨w3, e3, -, hb3, hz3⟩ := box4 w2 49 (.int .i64 t) (.int .i64 a) (.slice none 0 0) (.slice s3 N.length c3)
  rw [e3] at hB2 ⊢
  clear e3 hb2
  go_loopw [30] (fun i wr => ∃ (k : Nat) (va : Option Addr) (ca : Nat), i = .int .i64 k ∧ k ≤ L.length ∧ Bun w2.heap.size wr [.box w2.heap.size 49 [.int .i64 t, .int .i64 a, .slice va k ca, .slice s3 N.length c3], .app 85 1 k ((M.take k).map boolsD) (.slice va k ca)] ∧ Below w2.heap.size w2 wr) (fun i _ => L.length - (intOf i).toNat)
  case atStart => exact ⟨0, none, 0, rfl, by omega, by simpa using hB2, hb3⟩
  case round =>
   clear hB2 hb3
   obtain ⟨k, va, ca, rfl, hk, hbun, hbe⟩ := hrel
   obtain ⟨wo, rfl⟩ : ∃ v, v = wr := ⟨_, rfl⟩
   have hk0 := Int.natCast_nonneg k
   have hzo := hbe.size
   by_cases hlt : k < L.length
   rotate_left
   ·
    obtain rfl : k = L.length := by omega
    obtain ⟨x0, x1, x2, x3, -, -, -, -, ltx⟩ := (hbun.box 0 rfl).1.all4
    have hFr := hbun.fresh (W := w2) (Nat.le_refl _) 1 rfl
    have HF : Hid (Freshs w0 wo (autD M N) [.slice va M.length ca, .slice s3 N.length c3]) := by
     show Freshs w0 wo [.sl 1 M.length (M.map boolsD), iiiD N] _
     rw [List.take_of_length_le (by rw [Hml.out]; exact Nat.le_refl _)] at hFr
     rw [Hml.out]
     exact freshs_new_old HFN.out hFr hbe hz2
    have hB := HB02.out.trans (hbe.mono (by omega))
    have R := R2.below hbe
    clear hbun hFr R2 G2
    obtain ⟨r0, r1, r2, r3, z0, z1, z2, z3, ltR⟩ := R.all4
    go_wp2_with fail
    obtain ⟨w5, e5, T2, hs5⟩ := set4 R (.int .i64 t) (.int .i64 a) (.slice va L.length ca) (.slice s3 N.length c3)
    rw [e5]
    clear e5 r0 r1 r2 r3 z0 z1 z2 z3 ltR
    obtain ⟨t0, t1, t2, t3, -, -, -, -, -⟩ := T2.all4
    have hzB5 := hB.size
    have hB5 := hB.trans (hs5.below (B := w.heap.size) (by omega) (fun y hy => by omega))
    refine bodyPost_ret (v := .tuple #[.agg #[.int .i64 t, .int .i64 a, .slice va L.length ca, .slice s3 N.length c3], .int .i64 0]) (by simp [results, Tryz.results75, go_sem, t0, t1, t2, t3]) rfl ?_
    refine ⟨va, ca, s3, c3, by rw [Hml.out], (HF.out.keep fun b hb1 hb2 => hs5.block b hb2 (fun hy => by omega)).from (by omega), hB5⟩
   ·
    obtain ⟨x, hx'⟩ : ∃ x, L[k]? = some x := ⟨_, List.getElem?_eq_getElem hlt⟩
    obtain ⟨hxt, -⟩ := HLs.out x (List.mem_of_getElem? hx')
    have Hxt : Hid (Ex.tree (t - 1) (a - 1) (.mk x.kind x.num x.kids) = true) := by show _ = _; rw [← Ex.eta]; exact hxt
    have Heta : Hid (∀ m : Int, Ex.emp m (.mk x.kind x.num x.kids) = x.emp m) := fun m => by rw [← Ex.eta]
    have HMk := Lib.hid (Htk.out k x hx')
    have HB := Lib.hid hbun
    have HBe := Lib.hid hbe
    have hkL : (k : Int) < (L.length : Int) := by omega
    obtain ⟨hkb, sx, cx, i0, i1, i2, hxr⟩ := kid_in Hrd.out hx'
    replace i0 := (hbe.cell (p := ⟨kb, ko + k * 3, none⟩) hkb).trans i0
    replace i1 := (hbe.cell (p := ⟨kb, ko + k * 3 + 1, none⟩) hkb).trans i1
    replace i2 := (hbe.cell (p := ⟨kb, ko + k * 3 + 2, none⟩) hkb).trans i2
    have hkb2 : kb < wo.heap.size := by omega
    have Hxr := Lib.hid hxr
    have G4 := G2.below hbe
    obtain ⟨g0, g1, ltG⟩ := G4.all2
    clear hx' hbun hbe hxt hxr G4
    go_wp2_with fail
    clear i0 i1 i2 g0 g1 ltG
    have hB3 := ((HB.out.push_box hzo 34 #[.int .i64 x.kind, .int .i64 x.num, .slice sx x.kids.length cx])).push_empty (by simp; omega) 4 1
    have hbe3 := (HBe.out.alloc hzo (.cells #[.int .i64 x.kind, .int .i64 x.num, .slice sx x.kids.length cx] 34)).alloc (by simp; omega) (.cells #[] 4)
    rw [show (wo.alloc (.cells #[.int .i64 x.kind, .int .i64 x.num, .slice sx x.kids.length cx] 34)).heap.size = wo.heap.size + 1 by simp] at hB3
    obtain ⟨xb, hxb⟩ : ∃ xb, wo.heap.size = xb := ⟨_, rfl⟩
    rw [hxb] at hB3 ⊢
    clear hxb
    refine (atomsIn_i ht0 ht3).mono ?_
    rintro f w5 ⟨rfl, hb5⟩
    rw [HAI.out]
    have HB5 := Lib.hid (hB3.below hb5)
    have HBe5 := Lib.hid (hbe3.trans (hb5.mono hbe3.size))
    clear hB3 hbe3 hb5
    go_wp2_with fail
    go_loopw [12, 37] (fun v3 i wr => ∃ m : Nat, i = .int .i64 m ∧ m ≤ A ∧ Bun w2.heap.size wr [.box w2.heap.size 49 [.int .i64 t, .int .i64 a, .slice va k ca, .slice s3 N.length c3], .app 85 1 k ((M.take k).map boolsD) (.slice va k ca), .box xb 34 [.int .i64 x.kind, .int .i64 x.num, .slice sx x.kids.length cx], .app 4 1 m (((accE A x).take m).map D.bool) v3] ∧ Below w2.heap.size w2 wr) (fun _ i _ => A - (intOf i).toNat)
    case atStart => exact ⟨0, rfl, by omega, by simpa using HB5.out, HBe5.out⟩
    case round =>
     clear HB5 HBe5
     obtain ⟨m, rfl, hmA, hbun, hbe⟩ := hrel
     obtain ⟨wm, rfl⟩ : ∃ v, v = wr := ⟨_, rfl⟩
     obtain ⟨a3, c4, rfl, hc3, hc4⟩ := hbun.shape 3 rfl
     obtain ⟨_, _, q9, hd3, hd4⟩ := hbun.shape 1 rfl
     simp only [Value.slice.injEq, true_and] at q9
     obtain ⟨rfl, rfl⟩ := q9
     unfold maxLen at hc4 hd4
     have HB5 := Lib.hid hbun
     have HBe5 := Lib.hid hbe
     have hm0 := Int.natCast_nonneg m
     have hz5 := hbe.size
     by_cases hmlt : m < A
     rotate_left
     ·
      obtain rfl : A = m := by omega
      have Heq : Hid ((M.take (k + 1)).map boolsD = (M.take k).map boolsD ++ [D.sl 1 A (((accE A x).take A).map D.bool)]) := by
       show _ = _
       rw [HMk.out, List.map_append, List.take_of_length_le (l := accE A x) (by rw [accE_len]; exact Nat.le_refl _)]
       show _ ++ [nestD D.bool _] = _
       unfold nestD
       rw [accE_len]
      obtain ⟨x0, x1, x2, x3, z0, z1, z2, z3, ltx⟩ := (hbun.box 0 rfl).1.all4
      have hBu := hbun.alloc (.cells #[.slice a3 A c4] 85)
      have hNb := Blk.new1 wm 85 (.slice a3 A c4)
      clear hbun hbe
      go_wp2_with (at_builtin; go_must (refine wpList_append_bun_own _ rfl _ _ 46 rfl 85 24 Tryz.underlying46 info_bls hBu (by simp; omega) 1 _ rfl rfl 3 (by decide) _ rfl ⟨wm.heap.size, 0, none⟩ rfl (news_blk hNb) (by omega) (by unfold maxLen; omega) ?_); intro g6 cap6 w6 hbun6 hb6; obtain ⟨y0, y1, y2, y3, f0, f1, f2, f3, lty⟩ := (hbun6.box 0 rfl).1.all4)
      have Hfin := Lib.hid (And.intro ((hbun6.take 2).store 0 rfl 2 (.slice (some ⟨g6, 0, none⟩) (k + 1) cap6)) (Below.setCell (p := ⟨w2.heap.size, 2, none⟩) ((HBe5.out.alloc (by omega) (.cells #[.slice a3 A c4] 85)).trans hb6) (Nat.le_refl _) (.slice (some ⟨g6, 0, none⟩) (k + 1) cap6)))
      clear hbun6 hb6 hBu hNb x0 x1 x2 x3 z0 z1 z2 z3 ltx y0 y1 y2 y3
      go_wp2_with fail
      go_roundw
      case rel =>
       refine ⟨k + 1, some ⟨g6, 0, none⟩, cap6, by go_num, by omega, ?_, Hfin.out.2⟩
       have h := Hfin.out.1
       rw [Heq.out]
       exact h
      case measure => simp [intOf]; omega
     ·
      have hm1 : (m : Int) < (A : Int) := by omega
      obtain ⟨x0, x1, x2, -, -, -, ltx⟩ := (hbun.box 2 rfl).1.all3
      have hxr := Hxr.out.below hbe
      have HXr := Lib.hid hxr
      clear hbun hbe hxr
      go_wp2_with fail
      refine (emptyAt_all (t - 1) (a - 1) (m : Int) (by omega) (by omega) (by omega) _ x.kind x.num x.kids sx cx wm (Nat.le_refl _) HXr.out Hxt.out).mono ?_
      rintro f w6 ⟨rfl, hb6⟩
      rw [Heta.out]
      have Hds : Hid (((accE A x).take (m + 1)).map D.bool = ((accE A x).take m).map D.bool ++ [D.bool (x.emp m)]) := by show _ = _; rw [accE_take hmlt, List.map_append]; rfl
      obtain ⟨z, hz⟩ : ∃ z, x.emp (m : Int) = z := ⟨_, rfl⟩
      rw [hz] at Hds ⊢
      have HB6 := Lib.hid (HB5.out.below hb6)
      have HBe6 := Lib.hid (HBe5.out.trans (hb6.mono hz5))
      have hz6 := hb6.size
      have hBu := HB6.out.alloc (.cells #[.bool z] 4)
      have hNb := Blk.new1 w6 4 (.bool z)
      clear hz hb6 x0 x1 x2 ltx
      go_wp2_with (at_builtin; go_must (refine wpList_append_bun _ rfl _ _ 85 rfl 4 (.bool false) 1 1 Tryz.underlying85 info_bl rfl (by decide) hBu (by simp <;> omega) 3 _ rfl rfl ⟨w6.heap.size, 0, none⟩ 1 1 [.bool z] rfl (news_blk hNb) none_ownb rfl (by simp [Value.oneCell']) (by omega) (by omega) (by unfold maxLen; omega) ?_); intro g7 cap7 w7 hbun7 hb7)
      have Hfin := Lib.hid (And.intro hbun7 ((HBe6.out.alloc (by omega) (.cells #[.bool z] 4)).trans hb7))
      clear hbun7 hb7 hBu hNb
      go_wp2_with fail
      go_roundw
      case rel =>
       refine ⟨m + 1, by go_num, by omega, ?_, Hfin.out.2⟩
       have h := Hfin.out.1
       rw [Hds.out]
       exact h
      case measure => simp [intOf]; omega
end Go.Proofs.YtcokljhamhgelaaGreatDoor

namespace Go.Proofs.YtcokljhamhgelaaGreatDoor
set_option linter.unusedVariables false
set_option linter.unusedSimpArgs false
open Go.ChangeShapes Go.WideShapes Go.ChangeAt Go.RowKit Go.Deep
set_option maxHeartbeats 4000000 in
theorem implAutomatonOf_i {t a k n : Int} {ks : List Ex} {s : Option Addr} {c : Nat} {w : World} (hr : Rd w (kidsD ks) (.slice s ks.length c)) (h1 : Ex.sizeL ks ≤ 1048576) :
  Calls Tryz.prog 42 #[.agg #[.int .i64 t, .int .i64 a], .agg #[.int .i64 k, .int .i64 n, .slice s ks.length c]] w fun e w' => ∃ s' c' u' d', e = .returned (.tuple #[.agg #[.int .i64 (auT t a (.mk k n ks)), .int .i64 (auN t a (.mk k n ks)), .slice s' (auA t a (.mk k n ks)).length c', .slice u' (auX t a (.mk k n ks)).length d'], .int .i64 (auC t a (.mk k n ks))]) ∧
   Freshs w w' (autD (auA t a (.mk k n ks)) (auX t a (.mk k n ks))) [.slice s' (auA t a (.mk k n ks)).length c', .slice u' (auX t a (.mk k n ks)).length d'] ∧ Below w.heap.size w w' := by
 have Hsz : Hid (Ex.size (.mk k n ks) ≤ 1073741824) := by show _ ≤ _; rw [Ex.size_eq]; simp only [Ex.kids]; omega
 go_enter Tryz.func42, Tryz.ntmps42
 go_wp2_with fail
 have L := ((Blk.new2 w 30 (.int .i64 t) (.int .i64 a)).alloc (.cells #[.int .i64 k, .int .i64 n, .slice s ks.length c] 34)).alloc (.cells #[.int .i64 0, .int .i64 0, .slice none 0 0, .slice none 0 0] 49)
 have M := (Blk.new3 (w.alloc (.cells #[.int .i64 t, .int .i64 a] 30)) 34 (.int .i64 k) (.int .i64 n) (.slice s ks.length c)).alloc (.cells #[.int .i64 0, .int .i64 0, .slice none 0 0, .slice none 0 0] 49)
 simp at M
 have R := Blk.new4 ((w.alloc (.cells #[.int .i64 t, .int .i64 a] 30)).alloc (.cells #[.int .i64 k, .int .i64 n, .slice s ks.length c] 34)) 49 (.int .i64 0) (.int .i64 0) (.slice none 0 0) (.slice none 0 0)
 simp at R
 have hB : Below w.heap.size w (((w.alloc (.cells #[.int .i64 t, .int .i64 a] 30)).alloc (.cells #[.int .i64 k, .int .i64 n, .slice s ks.length c] 34)).alloc (.cells #[.int .i64 0, .int .i64 0, .slice none 0 0, .slice none 0 0] 49)) := by (repeat' first | exact Below.refl _ _ | assumption | apply Below.alloc | apply Below.drew | apply Below.setCell | omega | (simp; done) | (simp; omega))
 have hB0 := hB
 generalize (((w.alloc (.cells #[.int .i64 t, .int .i64 a] 30)).alloc (.cells #[.int .i64 k, .int .i64 n, .slice s ks.length c] 34)).alloc (.cells #[.int .i64 0, .int .i64 0, .slice none 0 0, .slice none 0 0] 49)) = v0 at L M R hB hB0 ⊢
 have l0 := L.c0
 have l1 := L.c1
 have m0 := M.c0
 have m1 := M.c1
 have m2 := M.c2
 have r0 := R.c0
 have r1 := R.c1
 have r2 := R.c2
 have r3 := R.c3
 have ltL := L.lt
 have ltM := M.lt
 have ltR := R.lt
 have zz0 := R.frozen 0
 have zz1 := R.frozen 1
 have zz2 := R.frozen 2
 have zz3 := R.frozen 3
 go_wp2_with fail
 refine (implValidExpr_i (hr.below hB)).mono ?_
 rintro x w1 ⟨rfl, hb⟩
 clear l0 l1 m0 m1 m2 r0 r1 r2 r3 ltL ltM ltR zz0 zz1 zz2 zz3
 replace hB := Below.on hB hb hB.size
 replace L := L.below hb
 replace M := M.below hb
 replace R := R.below hb
 clear hb
 have szW1 := hB.size
 have rlt1 := R.lt
 cases hs1 : okB t a (.mk k n ks)
 ·
  have l0 := L.c0
  have l1 := L.c1
  have ltL := L.lt
  have m0 := M.c0
  have m1 := M.c1
  have m2 := M.c2
  have ltM := M.lt
  have r0 := R.c0
  have zz0 := R.frozen 0
  have r1 := R.c1
  have zz1 := R.frozen 1
  have r2 := R.c2
  have zz2 := R.frozen 2
  have r3 := R.c3
  have zz3 := R.frozen 3
  have ltR := R.lt
  go_wp2_with fail
  have R' := ((((R.set 0 (.int .i64 0)).set 1 (.int .i64 0)).set 2 (.slice none 0 0)).set 3 (.slice none 0 0))
  have c0 := R'.c0
  have c1 := R'.c1
  have c2 := R'.c2
  have c3 := R'.c3
  refine bodyPost_ret (v := .tuple #[.agg #[.int .i64 0, .int .i64 0, .slice none 0 0, .slice none 0 0], .int .i64 1]) (by simp [results, Tryz.results42, go_sem, c0, c1, c2, c3]) rfl ?_
  obtain ⟨e1, e2, e3, e4, e5⟩ := au_no (t := t) (a := a) (e := .mk k n ks) (by simp [hs1])
  rw [e1, e2, e3, e4, e5]
  exact ⟨none, 0, none, 0, rfl, nil_au, by (repeat' first | exact Below.refl _ _ | assumption | apply Below.alloc | apply Below.drew | apply Below.setCell | omega | (simp; done) | (simp; omega))⟩
 have Hs1 := Lib.hid hs1
 clear hs1
 have l0 := L.c0
 have l1 := L.c1
 have m0 := M.c0
 have m1 := M.c1
 have m2 := M.c2
 have r0 := R.c0
 have r1 := R.c1
 have r2 := R.c2
 have r3 := R.c3
 have ltL := L.lt
 have ltM := M.lt
 have ltR := R.lt
 have zz0 := R.frozen 0
 have zz1 := R.frozen 1
 have zz2 := R.frozen 2
 have zz3 := R.frozen 3
 go_wp2_with fail
 refine (automatonOf_i (e := .mk k n ks) Hs1.out (hr.below hB)).mono ?_
 rintro x w2 ⟨sb, cb, sd, cd, rfl, hf, hb⟩
 clear l0 l1 m0 m1 m2 r0 r1 r2 r3 ltL ltM ltR zz0 zz1 zz2 zz3
 replace hB := Below.on hB hb hB.size
 replace L := L.below hb
 replace M := M.below hb
 replace R := R.below hb
 clear hb
 have szW2 := hB.size
 have rlt2 := R.lt
 have l0 := L.c0
 have l1 := L.c1
 have m0 := M.c0
 have m1 := M.c1
 have m2 := M.c2
 have r0 := R.c0
 have r1 := R.c1
 have r2 := R.c2
 have r3 := R.c3
 have ltL := L.lt
 have ltM := M.lt
 have ltR := R.lt
 have zz0 := R.frozen 0
 have zz1 := R.frozen 1
 have zz2 := R.frozen 2
 have zz3 := R.frozen 3
 go_wp2_with fail
 have R' := ((((R.set 0 (.int .i64 (madT (atomsN t).toNat a.toNat (.mk k n ks) t))).set 1 (.int .i64 (madT (atomsN t).toNat a.toNat (.mk k n ks) a))).set 2 (.slice sb (madA (atomsN t).toNat a.toNat (.mk k n ks)).length cb)).set 3 (.slice sd (stNN (atomsN t).toNat a.toNat (.mk k n ks)).length cd))
 have c0 := R'.c0
 have c1 := R'.c1
 have c2 := R'.c2
 have c3 := R'.c3
 refine bodyPost_ret (v := .tuple #[.agg #[.int .i64 (madT (atomsN t).toNat a.toNat (.mk k n ks) t), .int .i64 (madT (atomsN t).toNat a.toNat (.mk k n ks) a), .slice sb (madA (atomsN t).toNat a.toNat (.mk k n ks)).length cb, .slice sd (stNN (atomsN t).toNat a.toNat (.mk k n ks)).length cd], .int .i64 (stCC (atomsN t).toNat a.toNat (.mk k n ks))]) (by simp [results, Tryz.results42, go_sem, c0, c1, c2, c3]) rfl ?_
 obtain ⟨e1, e2, e3, e4, e5⟩ := au_yes (t := t) (a := a) (e := .mk k n ks) Hs1.out
 rw [e1, e2, e3, e4, e5]
 refine ⟨sb, cb, sd, cd, rfl, (hf.keep fun b hb1 hb2 => ?_).from szW1, by (repeat' first | exact Below.refl _ _ | assumption | apply Below.alloc | apply Below.drew | apply Below.setCell | omega | (simp; done) | (simp; omega))⟩
 repeat rw [Below.heap_setCell _ _ _ _ (by simp; omega)]
end Go.Proofs.YtcokljhamhgelaaGreatDoor

namespace Go.Proofs.YtcokljhamhgelaaGreatDoor
set_option linter.unusedVariables false
set_option linter.unusedSimpArgs false
open Go.ChangeShapes Go.WideShapes Go.ChangeAt Go.RowKit Go.Deep
def AuPost (t a : Int) (e : Ex) (w : World) (f : Ending) (w' : World) : Prop := ∃ s c u d, f = .returned (.tuple #[.agg #[.int .i64 (auT t a e), .int .i64 (auN t a e), .slice s (auA t a e).length c, .slice u (auX t a e).length d], .int .i64 (auC t a e)]) ∧
 Freshs w w' (autD (auA t a e) (auX t a e)) [.slice s (auA t a e).length c, .slice u (auX t a e).length d] ∧ Below w.heap.size w w'
theorem AuPost.yes {t a : Int} {e : Ex} {w w' : World} {f : Ending} (h : AuPost t a e w f w') (hc : auC t a e = 0) : ∃ s c u d, f = .returned (.tuple #[.agg #[.int .i64 t, .int .i64 a, .slice s (auA t a e).length c, .slice u (auX t a e).length d], .int .i64 0]) ∧
  Freshs w w' (autD (auA t a e) (auX t a e)) [.slice s (auA t a e).length c, .slice u (auX t a e).length d] ∧ Below w.heap.size w w' := by
 obtain ⟨s, c, u, d, rfl, h1, h2⟩ := h
 obtain ⟨-, e1, e2, -⟩ := au_ok hc
 exact ⟨s, c, u, d, by rw [e1, e2, hc], h1, h2⟩
theorem AuPost.no {t a : Int} {e : Ex} {w w' : World} {f : Ending} (h : AuPost t a e w f w') : ∃ (t' a' : Int) (s u : Option Addr) (l c m d : Nat), f = .returned (.tuple #[.agg #[.int .i64 t', .int .i64 a', .slice s l c, .slice u m d], .int .i64 (auC t a e)]) ∧ Below w.heap.size w w' := by
 obtain ⟨s, c, u, d, rfl, h1, h2⟩ := h
 exact ⟨_, _, _, _, _, _, _, _, rfl, h2⟩
theorem l02Made_au {t a : Int} {e : Ex} {b o : Nat} {w : World} (hok : okB t a e = true) (hx : ExAt w b o e) :
  Calls Tryz.prog 38 #[.agg #[.int .i64 t, .int .i64 a], .pointer (some ⟨b, o, none⟩)] w (AuPost t a e w) := by
 refine (l02Made_i hok hx).mono ?_
 rintro f w' ⟨s, c, u, d, rfl, h1, h2⟩
 obtain ⟨e1, e2, e3, e4, e5⟩ := au_yes hok
 unfold AuPost
 rw [e1, e2, e3, e4, e5]
 exact ⟨s, c, u, d, rfl, h1, h2⟩
theorem implAutomatonOf_au {t a k n : Int} {ks : List Ex} {s : Option Addr} {c : Nat} {w : World} (hr : Rd w (kidsD ks) (.slice s ks.length c)) (h1 : Ex.sizeL ks ≤ 1048576) :
  Calls Tryz.prog 42 #[.agg #[.int .i64 t, .int .i64 a], .agg #[.int .i64 k, .int .i64 n, .slice s ks.length c]] w (AuPost t a (.mk k n ks) w) := implAutomatonOf_i hr h1
set_option maxHeartbeats 4000000 in
theorem l03One_au {t a : Int} {e : Ex} {b o : Nat} {w : World} (hx : ExAt w b o e) (hsz : e.size ≤ 1073741824) :
  Calls Tryz.prog 17 #[.agg #[.int .i64 t, .int .i64 a], .pointer (some ⟨b, o, none⟩)] w (AuPost t a e w) := by
 have Hsz := Lib.hid hsz
 clear hsz
 go_enter Tryz.func17, Tryz.ntmps17
 go_wp2_with fail
 have L := (Blk.new2 w 30 (.int .i64 t) (.int .i64 a)).alloc (.cells #[.int .i64 0, .int .i64 0, .slice none 0 0, .slice none 0 0] 49)
 have R := Blk.new4 (w.alloc (.cells #[.int .i64 t, .int .i64 a] 30)) 49 (.int .i64 0) (.int .i64 0) (.slice none 0 0) (.slice none 0 0)
 simp at R
 have hB : Below w.heap.size w ((w.alloc (.cells #[.int .i64 t, .int .i64 a] 30)).alloc (.cells #[.int .i64 0, .int .i64 0, .slice none 0 0, .slice none 0 0] 49)) := by (repeat' first | exact Below.refl _ _ | assumption | apply Below.alloc | apply Below.drew | apply Below.setCell | omega | (simp; done) | (simp; omega))
 have hB0 := hB
 generalize ((w.alloc (.cells #[.int .i64 t, .int .i64 a] 30)).alloc (.cells #[.int .i64 0, .int .i64 0, .slice none 0 0, .slice none 0 0] 49)) = v0 at L R hB hB0 ⊢
 have l0 := L.c0
 have l1 := L.c1
 have r0 := R.c0
 have r1 := R.c1
 have r2 := R.c2
 have r3 := R.c3
 have ltL := L.lt
 have ltR := R.lt
 have zz0 := R.frozen 0
 have zz1 := R.frozen 1
 have zz2 := R.frozen 2
 have zz3 := R.frozen 3
 go_wp2_with fail
 refine (l01Ok_i (hx.below hB) Hsz.out).mono ?_
 rintro x w1 ⟨rfl, hb⟩
 clear l0 l1 r0 r1 r2 r3 ltL ltR zz0 zz1 zz2 zz3
 replace hB := Below.on hB hb hB.size
 replace L := L.below hb
 replace R := R.below hb
 clear hb
 have szW1 := hB.size
 have rlt1 := R.lt
 cases hs1 : okB t a e
 ·
  have l0 := L.c0
  have l1 := L.c1
  have ltL := L.lt
  have r0 := R.c0
  have zz0 := R.frozen 0
  have r1 := R.c1
  have zz1 := R.frozen 1
  have r2 := R.c2
  have zz2 := R.frozen 2
  have r3 := R.c3
  have zz3 := R.frozen 3
  have ltR := R.lt
  go_wp2_with fail
  have R' := ((((R.set 0 (.int .i64 0)).set 1 (.int .i64 0)).set 2 (.slice none 0 0)).set 3 (.slice none 0 0))
  have c0 := R'.c0
  have c1 := R'.c1
  have c2 := R'.c2
  have c3 := R'.c3
  refine bodyPost_ret (v := .tuple #[.agg #[.int .i64 0, .int .i64 0, .slice none 0 0, .slice none 0 0], .int .i64 1]) (by simp [results, Tryz.results17, go_sem, c0, c1, c2, c3]) rfl ?_
  obtain ⟨e1, e2, e3, e4, e5⟩ := au_no (t := t) (a := a) (e := e) (by simp [hs1])
  unfold AuPost
  rw [e1, e2, e3, e4, e5]
  exact ⟨none, 0, none, 0, rfl, nil_au, by (repeat' first | exact Below.refl _ _ | assumption | apply Below.alloc | apply Below.drew | apply Below.setCell | omega | (simp; done) | (simp; omega))⟩
 have Hs1 := Lib.hid hs1
 clear hs1
 have l0 := L.c0
 have l1 := L.c1
 have r0 := R.c0
 have r1 := R.c1
 have r2 := R.c2
 have r3 := R.c3
 have ltL := L.lt
 have ltR := R.lt
 have zz0 := R.frozen 0
 have zz1 := R.frozen 1
 have zz2 := R.frozen 2
 have zz3 := R.frozen 3
 go_wp2_with fail
 refine (l02Made_au Hs1.out (hx.below hB)).mono ?_
 rintro x w2 ⟨sb, cb, sd, cd, rfl, hf, hb⟩
 clear l0 l1 r0 r1 r2 r3 ltL ltR zz0 zz1 zz2 zz3
 replace hB := Below.on hB hb hB.size
 replace L := L.below hb
 replace R := R.below hb
 clear hb
 have szW2 := hB.size
 have rlt2 := R.lt
 have l0 := L.c0
 have l1 := L.c1
 have r0 := R.c0
 have r1 := R.c1
 have r2 := R.c2
 have r3 := R.c3
 have ltL := L.lt
 have ltR := R.lt
 have zz0 := R.frozen 0
 have zz1 := R.frozen 1
 have zz2 := R.frozen 2
 have zz3 := R.frozen 3
 go_wp2_with fail
 have R' := ((((R.set 0 (.int .i64 (auT t a e))).set 1 (.int .i64 (auN t a e))).set 2 (.slice sb (auA t a e).length cb)).set 3 (.slice sd (auX t a e).length cd))
 have c0 := R'.c0
 have c1 := R'.c1
 have c2 := R'.c2
 have c3 := R'.c3
 refine bodyPost_ret (v := .tuple #[.agg #[.int .i64 (auT t a e), .int .i64 (auN t a e), .slice sb (auA t a e).length cb, .slice sd (auX t a e).length cd], .int .i64 (auC t a e)]) (by simp [results, Tryz.results17, go_sem, c0, c1, c2, c3]) rfl ?_
 refine ⟨sb, cb, sd, cd, rfl, (hf.keep fun b hb1 hb2 => ?_).from szW1, by (repeat' first | exact Below.refl _ _ | assumption | apply Below.alloc | apply Below.drew | apply Below.setCell | omega | (simp; done) | (simp; omega))⟩
 repeat rw [Below.heap_setCell _ _ _ _ (by simp; omega)]
set_option maxHeartbeats 4000000 in
theorem oneAutomaton_au {t a k n : Int} {ks : List Ex} {s : Option Addr} {c : Nat} {w : World} (hr : Rd w (kidsD ks) (.slice s ks.length c)) (h1 : Ex.sizeL ks ≤ 1048576) :
  Calls Tryz.prog 20 #[.agg #[.int .i64 t, .int .i64 a], .agg #[.int .i64 k, .int .i64 n, .slice s ks.length c]] w (AuPost t a (.mk k n ks) w) := by
 have H1 := Lib.hid h1
 go_enter Tryz.func20, Tryz.ntmps20
 go_wp2_with fail
 have L := ((Blk.new2 w 30 (.int .i64 t) (.int .i64 a)).alloc (.cells #[.int .i64 k, .int .i64 n, .slice s ks.length c] 34)).alloc (.cells #[.int .i64 0, .int .i64 0, .slice none 0 0, .slice none 0 0] 49)
 have M := (Blk.new3 (w.alloc (.cells #[.int .i64 t, .int .i64 a] 30)) 34 (.int .i64 k) (.int .i64 n) (.slice s ks.length c)).alloc (.cells #[.int .i64 0, .int .i64 0, .slice none 0 0, .slice none 0 0] 49)
 simp at M
 have R := Blk.new4 ((w.alloc (.cells #[.int .i64 t, .int .i64 a] 30)).alloc (.cells #[.int .i64 k, .int .i64 n, .slice s ks.length c] 34)) 49 (.int .i64 0) (.int .i64 0) (.slice none 0 0) (.slice none 0 0)
 simp at R
 have hB : Below w.heap.size w (((w.alloc (.cells #[.int .i64 t, .int .i64 a] 30)).alloc (.cells #[.int .i64 k, .int .i64 n, .slice s ks.length c] 34)).alloc (.cells #[.int .i64 0, .int .i64 0, .slice none 0 0, .slice none 0 0] 49)) := by (repeat' first | exact Below.refl _ _ | assumption | apply Below.alloc | apply Below.drew | apply Below.setCell | omega | (simp; done) | (simp; omega))
 have hB0 := hB
 generalize (((w.alloc (.cells #[.int .i64 t, .int .i64 a] 30)).alloc (.cells #[.int .i64 k, .int .i64 n, .slice s ks.length c] 34)).alloc (.cells #[.int .i64 0, .int .i64 0, .slice none 0 0, .slice none 0 0] 49)) = v0 at L M R hB hB0 ⊢
 have l0 := L.c0
 have l1 := L.c1
 have m0 := M.c0
 have m1 := M.c1
 have m2 := M.c2
 have r0 := R.c0
 have r1 := R.c1
 have r2 := R.c2
 have r3 := R.c3
 have ltL := L.lt
 have ltM := M.lt
 have ltR := R.lt
 have zz0 := R.frozen 0
 have zz1 := R.frozen 1
 have zz2 := R.frozen 2
 have zz3 := R.frozen 3
 go_wp2_with fail
 have rlt0 := R.lt
 refine (implAutomatonOf_au (t := t) (a := a) (k := k) (n := n) (hr.below hB) H1.out).mono ?_
 rintro x w1 ⟨sb, cb, sd, cd, rfl, hf, hb⟩
 clear l0 l1 m0 m1 m2 r0 r1 r2 r3 ltL ltM ltR zz0 zz1 zz2 zz3
 replace hB := Below.on hB hb hB.size
 replace L := L.below hb
 replace M := M.below hb
 replace R := R.below hb
 clear hb
 have szW1 := hB.size
 have rlt1 := R.lt
 have l0 := L.c0
 have l1 := L.c1
 have m0 := M.c0
 have m1 := M.c1
 have m2 := M.c2
 have r0 := R.c0
 have r1 := R.c1
 have r2 := R.c2
 have r3 := R.c3
 have ltL := L.lt
 have ltM := M.lt
 have ltR := R.lt
 have zz0 := R.frozen 0
 have zz1 := R.frozen 1
 have zz2 := R.frozen 2
 have zz3 := R.frozen 3
 go_wp2_with fail
 have R' := ((((R.set 0 (.int .i64 (auT t a (.mk k n ks)))).set 1 (.int .i64 (auN t a (.mk k n ks)))).set 2 (.slice sb (auA t a (.mk k n ks)).length cb)).set 3 (.slice sd (auX t a (.mk k n ks)).length cd))
 have c0 := R'.c0
 have c1 := R'.c1
 have c2 := R'.c2
 have c3 := R'.c3
 refine bodyPost_ret (v := .tuple #[.agg #[.int .i64 (auT t a (.mk k n ks)), .int .i64 (auN t a (.mk k n ks)), .slice sb (auA t a (.mk k n ks)).length cb, .slice sd (auX t a (.mk k n ks)).length cd], .int .i64 (auC t a (.mk k n ks))]) (by simp [results, Tryz.results20, go_sem, c0, c1, c2, c3]) rfl ?_
 refine ⟨sb, cb, sd, cd, rfl, (hf.keep fun b hb1 hb2 => ?_).from hB0.size, by (repeat' first | exact Below.refl _ _ | assumption | apply Below.alloc | apply Below.drew | apply Below.setCell | omega | (simp; done) | (simp; omega))⟩
 repeat rw [Below.heap_setCell _ _ _ _ (by simp; omega)]
end Go.Proofs.YtcokljhamhgelaaGreatDoor

namespace Go.Proofs.YtcokljhamhgelaaGreatDoor
set_option linter.unusedVariables false
set_option linter.unusedSimpArgs false
open Go.ChangeShapes Go.WideShapes Go.ChangeAt Go.RowKit Go.Deep
theorem madeCells_one (z : Value) (n : Nat) : (madeCells #[z] n).toList = List.replicate n z := by
 apply List.ext_getElem
 ·
  simp [madeCells]
 ·
  intro i h1 h2
  simp [madeCells, Nat.mod_one]
theorem made_blk {w : World} {base t n g : Nat} {z : Value} {cs : Array Value} (hz : cs = #[z]) (h : w.ownsRow base t 1 (.slice (some ⟨g, 0, none⟩) n n) n (madeCells cs (n * 1)).toList) : Blk w g t (List.replicate n z) ∧ base ≤ g := by
 subst hz
 obtain ⟨h0, h⟩ := h
 rcases h with ⟨h, _⟩ | ⟨g', cap, cur, hv, hb, hg, _, _, hs, ht⟩
 ·
  cases h
 ·
  simp only [Value.slice.injEq, Option.some.injEq, Addr.mk.injEq, and_true, true_and] at hv
  obtain ⟨rfl, rfl⟩ := hv
  rw [madeCells_one, Nat.mul_one, List.take_of_length_le (by simp; omega)] at ht
  refine ⟨?_, hb⟩
  unfold Blk
  rw [hg, ← ht]
section
variable {α : Type} {f : α → Value} {w : World} {g t : Nat} {L : List α}
theorem arr_cell (h : Blk w g t (L.map f)) {i : Nat} {x : α} (hx : L[i]? = some x) : w.cell? ⟨g, i, none⟩ = some (f x) := by rw [h.cell, List.getElem?_map, hx]; rfl
theorem arr_set (h : Blk w g t (L.map f)) (i : Nat) (x : α) : Blk (w.setCell ⟨g, i, none⟩ (f x)) g t ((L.set i x).map f) := by
 rw [List.map_set]
 exact h.set i (f x)
theorem arr_fresh {W : World} {fd : α → D} (h : Blk w g t (L.map f)) (hW : W.heap.size ≤ g) (hf : ∀ x, Ow w (fd x) (f x) []) {n : Nat} (hn : L.length = n) (hm : n ≤ maxLen) : Fresh W w (nestD fd L) (.slice (some ⟨g, 0, none⟩) n n) := by
 subst hn
 have hows : Ows w (L.map fd) (L.map f) [] := by
  clear h hm
  induction L with
  | nil => exact Ows.nil
  | cons x r ih => exact Ows.cons (hf x) ih
 by_cases h0 : L.length = 0
 ·
  exact ⟨[], by simp only [nestD, Ow]; exact ⟨_, _, rfl, Nat.le_refl _, hm, by simp, by simp, Or.inl ⟨h0, trivial⟩⟩, by simp, by simp⟩
 ·
  refine ⟨[g], by simp only [nestD, Ow]; exact ⟨_, _, rfl, Nat.le_refl _, hm, by simp, by simp, Or.inr ⟨g, 0, L.map f, [], rfl, rfl, h.free, h.row (List.take_length ..), hows⟩⟩, by simp, by simp [hW]⟩
end
def FillL {α : Type} (z : α) (full : List α) (k : Nat) (L : List α) : Prop := L.length = full.length ∧ (∀ j, j < k → L[j]? = full[j]?) ∧ ∀ j, k ≤ j → j < full.length → L[j]? = some z
section
variable {α : Type} {z : α} {full L : List α} {k : Nat}
theorem FillL.start {n : Nat} (hn : full.length = n) : FillL z full 0 (List.replicate n z) := by
 subst hn
 exact ⟨by simp, fun j hj => by omega, fun j _ hj => by simp [hj]⟩
theorem FillL.step (h : FillL z full k L) {v : α} (hv : full[k]? = some v) : FillL z full (k + 1) (L.set k v) := by
 obtain ⟨h1, h2, h3⟩ := h
 have hk := (List.getElem?_eq_some_iff.1 hv).1
 refine ⟨by simpa using h1, fun j hj => ?_, fun j hj hl => ?_⟩
 ·
  by_cases hjk : k = j
  ·
   subst hjk
   rw [List.getElem?_set_self (by omega), hv]
  ·
   rw [List.getElem?_set_ne hjk]
   exact h2 j (by omega)
 ·
  rw [List.getElem?_set_ne (by omega)]
  exact h3 j (by omega) hl
theorem FillL.all (h : FillL z full full.length L) : L = full := by
 obtain ⟨h1, h2, h3⟩ := h
 apply List.ext_getElem?
 intro j
 by_cases hj : j < full.length
 ·
  exact h2 j hj
 ·
  rw [List.getElem?_eq_none (by omega), List.getElem?_eq_none (by omega)]
theorem set_zero_same {i : Nat} {x : α} (h : L[i]? = some x) : L.set i x = L := by
 obtain ⟨h1, h2⟩ := List.getElem?_eq_some_iff.1 h
 rw [← h2]
 exact List.set_getElem_self h1
theorem set_twice {i : Nat} {x y : α} : (L.set i x).set i y = L.set i y := List.set_set ..
theorem set_at {i : Nat} {x : α} (h : i < L.length) : (L.set i x)[i]? = some x := by rw [List.getElem?_set_self h]
end
end Go.Proofs.YtcokljhamhgelaaGreatDoor
