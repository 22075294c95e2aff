/-
  Parts of a proof, joined: StS, MadP. No condition.
-/
import Derived.Test.YtcokljhamhgelaaGreatDoorPk22
namespace Go.Proofs.YtcokljhamhgelaaGreatDoor
set_option linter.unusedVariables false
set_option linter.unusedSimpArgs false
open Go.ChangeShapes Go.WideShapes Go.ChangeAt Go.RowKit Go.Deep
theorem AppS.made {S : Nat → Prop} {w : World} {t size m : Nat} {es : List D} {news : List Value} (h : OwS S w es news) (hS : ∀ b, S b → b < w.heap.size) (hl : news.length = m * size) (hm : m ≤ maxLen) :
  AppS (fun b => S b ∨ b = w.heap.size) (w.alloc (.cells news.toArray t)) t size m es (.slice (some ⟨w.heap.size, 0, none⟩) m m) := by
 obtain ⟨F, h1, h2, h3⟩ := h
 have hb := Blk.made w t news.toArray
 refine ⟨news, F, ⟨hl, Or.inr ⟨w.heap.size, m, news.toArray, rfl, Nat.zero_le _, by simpa [Blk] using hb, Nat.le_refl _, hm, by simp [hl], ?_⟩⟩, h1.keep fun b hm => Below.heap_alloc w _ b (h1.lt b hm), h2, fun b hb' => ⟨Or.inl (h3 b hb'), ?_⟩, fun b hb' => ?_⟩
 ·
  rw [← hl]; simp
 ·
  have := hS b (h3 b hb')
  simp only [Value.ownBlock, ne_eq, Option.some.injEq]
  omega
 ·
  simp only [Value.ownBlock, Option.some.injEq] at hb'
  exact Or.inr hb'.symm
theorem Bun.single {B : Nat} {w : World} {t size n : Nat} {ds : List D} {v : Value} (h : AppS (fun b => B ≤ b ∧ b < w.heap.size) w t size n ds v) : Bun B w [.app t size n ds v] := by
 refine ⟨fun _ => 0, fun i it hi => ?_⟩
 match i, hi with
 | 0, hi =>
  simp at hi
  subst hi
  exact AppS.more h fun b _ hb => ⟨hb.1, hb.2, rfl⟩
 | i + 1, hi => simp at hi
theorem bun_one {w1 w2 : World} {x : Ex} {s : Option Addr} {c t : Nat} (hf : Freshs w1 w2 [kidsD x.kids] [.slice s x.kids.length c]) (hb : w1.heap.size ≤ w2.heap.size) :
  Bun w1.heap.size (w2.alloc (.cells #[.int .i64 x.kind, .int .i64 x.num, .slice s x.kids.length c] t)) [.app t 3 1 (Ex.cellsL [x]) (.slice (some ⟨w2.heap.size, 0, none⟩) 1 1)] := by
 obtain ⟨F, h1, h2, h3⟩ := hf.single
 have ho : OwS (fun b => w1.heap.size ≤ b ∧ b < w2.heap.size) w2 (Ex.cellsL [x]) [.int .i64 x.kind, .int .i64 x.num, .slice s x.kids.length c] := by
  refine ⟨F, ?_, h2, fun b hb => ⟨h3 b hb, h1.lt b hb⟩⟩
  simp only [Ex.cellsL, List.append_nil]
  rw [Ex.cells_eq]
  exact Ows.three h1
 refine Bun.single (AppS.more (AppS.made (t := t) (size := 3) (m := 1) ho (fun b h => h.2) rfl (by unfold maxLen; omega)) fun b _ hc => ?_)
 have hz : (w2.alloc (.cells #[.int .i64 x.kind, .int .i64 x.num, .slice s x.kids.length c] t)).heap.size = w2.heap.size + 1 := by simp
 rcases hc with hc | hc <;> omega
theorem own_ex {w1 w2 : World} {x : Ex} {s : Option Addr} {c : Nat} (hf : Freshs w1 w2 [kidsD x.kids] [.slice s x.kids.length c]) : Freshs w1 w2 [.int x.kind, .int x.num, kidsD x.kids] [.int .i64 x.kind, .int .i64 x.num, .slice s x.kids.length c] := by
 obtain ⟨F, h1, h2, h3⟩ := hf.single
 exact ⟨F, Ows.three h1, h2, h3⟩
theorem cellsL_snoc (L : List Ex) (x : Ex) : Ex.cellsL (L ++ [x]) = Ex.cellsL L ++ [.int x.kind, .int x.num, kidsD x.kids] := by
 rw [Ex.cellsL_append, ← Ex.cells_eq]
 simp [Ex.cellsL]
theorem none_own {w : World} {v : Int} : OwS (fun _ => False) w [D.int v] [.int .i64 v] := ⟨[], Ows.cons (F := []) (by simp [Ow]) Ows.nil, by simp, by simp⟩
theorem findI_live {m k : Nat} {x d : Ex} (h : x.step m k = some d) : x.step m k ≠ none := by rw [h]; simp
theorem empty2 {w w' : World} (a b : Addr) : Freshs w w' [kidsD [], iiiD []] [.slice (some a) 0 0, .slice (some b) 0 0] := by
 refine ⟨[], Ows.cons (F := []) (G := []) ?_ (Ows.cons (F := []) (G := []) ?_ Ows.nil), by simp, by simp⟩
 ·
  simp only [kidsD, Ow]
  exact ⟨_, 0, rfl, by simp, by simp [maxLen], by simp [Ex.cellsL], by simp, Or.inl (by simp)⟩
 ·
  simp only [iiiD, nestD, Ow]
  exact ⟨_, 0, rfl, by simp, by simp [maxLen], by simp, by simp, Or.inl (by simp)⟩
set_option maxRecDepth 100000 in
set_option maxHeartbeats 16000000 in
theorem l02States_i {t : Int} {n : Nat} {e : Ex} {b o : Nat} {w : World} (ht0 : 0 ≤ t) (ht3 : t ≤ 3) (hn : n ≤ 4) (hx : ExAt w b o e) (htr : e.tree (t - 1) ((n : Int) - 1) = true) (hs : e.size ≤ 200) :
  Calls Tryz.prog 71 #[.agg #[.int .i64 t, .int .i64 n], .pointer (some ⟨b, o, none⟩)] w fun f w' => ∃ s c s' c', f = .returned (.tuple #[.slice s (stLL (atomsN t).toNat n e).length c, .slice s' (stNN (atomsN t).toNat n e).length c', .int .i64 (stCC (atomsN t).toNat n e)]) ∧
   Freshs w w' [kidsD (stLL (atomsN t).toNat n e), iiiD (stNN (atomsN t).toNat n e)] [.slice s (stLL (atomsN t).toNat n e).length c, .slice s' (stNN (atomsN t).toNat n e).length c'] ∧ Below w.heap.size w w' := by
 obtain ⟨hat1, hat8⟩ := atomsN_bd t
 obtain ⟨A, hA⟩ : ∃ A : Nat, atomsN t = (A : Int) := ⟨(atomsN t).toNat, by omega⟩
 have hA8 : A ≤ 8 := by omega
 rw [show (atomsN t).toNat = A by omega]
 have HA := Lib.hid hA
 clear hA hat1 hat8
 obtain ⟨F, hF⟩ : ∃ F, F = stL A n e 60 := ⟨_, rfl⟩
 have HF := Lib.hid hF
 have Htr := Lib.hid htr
 clear hF htr
 go_enter Tryz.func71, Tryz.ntmps71
 go_wp2_with fail
 obtain ⟨w1, e1, G, hb1, hz1⟩ := box2 w 30 (.int .i64 t) (.int .i64 (n : Int))
 rw [e1]
 clear e1
 refine (l02Tidy_all (t - 1) ((n : Int) - 1) (by omega) (by omega) _ e b o w1 (Nat.le_refl _) (hx.below hb1) Htr.out (by omega)).mono ?_
 rintro f w2 ⟨s2, c2, rfl, hf2, hb2⟩
 have hz2 := hb2.size
 have hB1 := bun_one (t := 34) hf2 hz2
 have hbe3 : Below w1.heap.size w1 (w2.alloc (.cells #[.int .i64 e.tidy.kind, .int .i64 e.tidy.num, .slice s2 e.tidy.kids.length c2] 34)) := hb2.alloc hz2 _
 go_wp2_with fail
 obtain ⟨w3, e3, -, -, hz3⟩ := box3 w2 34 (.int .i64 e.tidy.kind) (.int .i64 e.tidy.num) (.slice s2 e.tidy.kids.length c2)
 rw [e3] at hB1 hbe3 ⊢
 have hB2 := hB1.push_empty (hbe3.size) 55 1
 have hbe4 := hbe3.alloc hbe3.size (.cells #[] 55)
 rw [hz3] at hB2
 clear e3 hB1 hbe3 hf2 hb2
 go_loopw [7, 8, 9] (fun v0 v1 i wr => ∃ k : Nat, i = .int .i64 k ∧ k ≤ 60 ∧ Hid (GoodL A n e k) ∧ (stL A n e k).length ≤ 60 ∧ k ≤ (stL A n e k).length ∧
  Bun w1.heap.size wr [.app 34 3 (stL A n e k).length (Ex.cellsL (stL A n e k)) v0, .app 55 1 k ((stR A n e k).map iiD) v1] ∧ Below w1.heap.size w1 wr) (fun _ _ i _ => 61 - (intOf i).toNat)
 case atStart => exact ⟨0, rfl, by omega, GoodL.zero, by simp [stL, expl], by simp, by simpa [stL, expl, stR] using hB2, hbe4⟩
 case round =>
  clear hB2
  obtain ⟨k, rfl, hk60, HG, hlen, hkl, hbun, hbe⟩ := hrel
  obtain ⟨wo, rfl⟩ : ∃ v, v = wr := ⟨_, rfl⟩
  obtain ⟨L, hL⟩ : ∃ L, stL A n e k = L := ⟨_, rfl⟩
  rw [hL] at hbun hlen hkl
  obtain ⟨a0, c0, rfl, hc1, hc2⟩ := hbun.shape 0 rfl
  obtain ⟨a1, c1, rfl, hd1, hd2⟩ := hbun.shape 1 rfl
  unfold maxLen at hc2 hd2
  have HL := Lib.hid hL
  have HB := Lib.hid hbun
  have HBe := Lib.hid hbe
  have hk0 := Int.natCast_nonneg k
  have hzo := hbe.size
  clear hL hbun hbe
  by_cases hlt : k < L.length
  rotate_left
  ·
   have hdone : (stL A n e k).length ≤ k := by rw [HL.out]; omega
   obtain ⟨q1, q2, q3⟩ := stLL_yes (stOk_done hdone hk60 HG.out)
   have q4 : Hid (stLL A n e = L) := by show _ = _; rw [q1, stL_done hdone hk60, HL.out]
   have q5 : Hid (stNN A n e = stR A n e k) := by show _ = _; rw [q2, stR_done hdone hk60]
   have hRl : Hid ((stR A n e k).length = k) := by
    show _ = _
    unfold stR
    rw [List.length_map, List.length_take, stL_done hdone hk60, HL.out]
    omega
   have Hf := Lib.hid (HB.out.fresh2 (W := w) (by omega) 0 1 (by decide) rfl rfl)
   have Q3 := Lib.hid q3
   clear hdone q1 q2 q3
   go_wp2_with fail
   go_ret3
   refine ⟨a0, c0, a1, c1, by rw [q4.out, q5.out, hRl.out, Q3.out]; rfl, ?_, hb1.trans (HBe.out.mono (by omega))⟩
   rw [q4.out, q5.out]
   show Freshs w _ [.sl 3 L.length (Ex.cellsL L), .sl 1 (stR A n e k).length ((stR A n e k).map iiD)] _
   rw [hRl.out]
   exact Hf.out
  ·
   obtain ⟨x, hx'⟩ : ∃ x, L[k]? = some x := ⟨_, List.getElem?_eq_getElem hlt⟩
   have HX : Hid ((stL A n e k)[k]? = some x) := by show _ = _; rw [HL.out]; exact hx'
   clear hx'
   have hk6 : k < 60 := by omega
   have Hlen : Hid (L.length = (stC A n e k x 0 0).length) := by show _ = _; rw [stC_zero, HL.out]
   go_wp2_with fail
   have hB3 := HB.out.push_empty hzo 56 1
   have hbe5 := HBe.out.alloc hzo (.cells #[] 56)
   go_loopw [7, 10, 11] (fun v0 v2 i wr => ∃ m : Nat, i = .int .i64 m ∧ m ≤ A ∧ Hid (GoodTo n x m 0) ∧
    Bun w1.heap.size wr [.app 34 3 (stC A n e k x m 0).length (Ex.cellsL (stC A n e k x m 0)) v0, .app 55 1 k ((stR A n e k).map iiD) (.slice a1 k c1), .app 56 1 m (((rowsE F A n x).take m).map intsD) v2] ∧ Below w1.heap.size w1 wr) (fun _ _ i _ => A - (intOf i).toNat)
   case atStart => exact ⟨0, rfl, by omega, GoodTo.zero, by rw [← Hlen.out, stC_zero, HL.out]; simpa using hB3, hbe5⟩
   case round =>
    clear hB3 hbe5
    obtain ⟨m, rfl, hmA, HG0, hbun, hbe⟩ := hrel
    obtain ⟨wm, rfl⟩ : ∃ v, v = wr := ⟨_, rfl⟩
    obtain ⟨a3, c3, rfl, hc3, hc4⟩ := hbun.shape 0 rfl
    obtain ⟨a4, c4, rfl, hd3, hd4⟩ := hbun.shape 2 rfl
    unfold maxLen at hc4 hd4
    have HB4 := Lib.hid hbun
    have HBe4 := Lib.hid hbe
    have hm0 := Int.natCast_nonneg m
    have hzm := hbe.size
    have Gm := G.below hbe
    obtain ⟨g0, g1, ltG⟩ := Gm.all2
    have hbound := stC_len (A := A) (a := n) (e := e) (i := k) (x := x) (m := m) (k := 0) hA8 hn
    rw [HL.out] at hbound
    clear hbun hbe Gm
    go_wp2_with fail
    clear g0 g1 ltG
    refine (l01Atoms_i ht0 ht3).mono ?_
    rintro f w5 ⟨rfl, hb5⟩
    rw [HA.out]
    have HB5 := Lib.hid (HB4.out.below hb5)
    have HBe5 := Lib.hid (HBe4.out.trans (hb5.mono hzm))
    have hz5 := hb5.size
    by_cases hmlt : m < A
    rotate_left
    ·
     obtain rfl : A = m := by omega
     have Heq : Hid ((stR A n e (k + 1)).map iiD = (stR A n e k).map iiD ++ [D.sl 1 A (((rowsE F A n x).take A).map intsD)]) := by
      show _ = _
      rw [stR_succ HX.out hk6, List.map_append, HF.out, List.take_of_length_le (by rw [rowsE_len]; omega)]
      show _ ++ [nestD intsD _] = _
      unfold nestD
      rw [rowsE_len]
     have HEL : Hid (stL A n e (k + 1) = stC A n e k x A 0) := by show _ = _; rw [stC_all HX.out]
     have HG2 : Hid (GoodL A n e (k + 1)) := HG.out.succ HX.out HG0.out
     have hlen2 := prefix_length (stC_old (A := A) (a := n) (e := e) (i := k) (x := x) (m := A) (k := 0))
     rw [HL.out] at hlen2
     obtain ⟨M, hM⟩ : ∃ M, (stC A n e k x A 0).length = M := ⟨_, rfl⟩
     have HM := Lib.hid hM
     rw [hM] at hbound hlen2 HB5 ⊢
     clear hM
     have hBu := HB5.out.alloc (.cells #[.slice a4 A c4] 55)
     have hNb := Blk.new1 w5 55 (.slice a4 A c4)
     by_cases h60 : M ≤ 60
     ·
      have c60 : decide ((60 : Int) < (M : Int)) = false := by simp; omega
      go_wp2_with (at_builtin; go_must (refine wpList_append_bun_own _ rfl _ _ 47 rfl 55 24 Tryz.underlying47 info_i64ss hBu (by simp; omega) 1 _ rfl rfl 2 (by decide) _ rfl ⟨w5.heap.size, 0, none⟩ rfl (news_blk hNb) (by omega) (by unfold maxLen; omega) ?_); intro g6 cap6 w6 hbun6 hb6)
      have Hfin := Lib.hid (And.intro (hbun6.take 2) ((HBe5.out.alloc (by omega) (.cells #[.slice a4 A c4] 55)).trans hb6))
      clear hbun6 hb6 hBu hNb
      go_wp2_with fail
      go_roundw
      case rel =>
       refine ⟨k + 1, by go_num, by omega, HG2, by rw [HEL.out, HM.out]; omega, by rw [HEL.out, HM.out]; omega, ?_, Hfin.out.2⟩
       have h := Hfin.out.1
       rw [Heq.out, HEL.out, HM.out]
       exact h
      case measure => simp [intOf]; omega
     ·
      have c60 : decide ((60 : Int) < (M : Int)) = true := by simp; omega
      have HNO := Lib.hid (stOk_many' (A := A) (a := n) (e := e) (i := k + 1) (by omega) (by rw [HEL.out, HM.out]; omega))
      go_wp2_with (at_builtin; go_must (refine wpList_append_bun_own _ rfl _ _ 47 rfl 55 24 Tryz.underlying47 info_i64ss hBu (by simp; omega) 1 _ rfl rfl 2 (by decide) _ rfl ⟨w5.heap.size, 0, none⟩ rfl (news_blk hNb) (by omega) (by unfold maxLen; omega) ?_); intro g6 cap6 w6 hbun6 hb6)
      have Hfin := Lib.hid (((HBe5.out.alloc (by omega) (.cells #[.slice a4 A c4] 55)).trans hb6))
      clear hbun6 hb6 hBu hNb
      obtain ⟨q1, q2, q3⟩ := stLL_no HNO.out
      have HBQ := Lib.hid (hb1.trans ((Hfin.out).mono (by omega)))
      go_wp2_with fail
      go_ret3
      refine ⟨_, _, _, _, by rw [q1, q2, q3]; rfl, ?_, ?_⟩
      ·
       rw [q1, q2]
       exact empty2 _ _
      ·
       have hBQ := HBQ.out
       have hzQ := hBQ.size
       (repeat' first | exact Below.refl _ _ | assumption | apply Below.alloc | apply Below.drew | apply Below.setCell | omega | (simp; done) | (simp; omega))
    ·
     have hm1 : (m : Int) < (A : Int) := by omega
     go_wp2_with fail
     have hB6 := HB5.out.push_empty (by omega) 2 1
     have hbe6 := HBe5.out.alloc (by omega) (.cells #[] 2)
     clear hb5
     go_loopw [7, 12, 13] (fun v0 v3 i wr => ∃ q : Nat, i = .int .i64 q ∧ q ≤ n ∧ Hid (GoodTo n x m q) ∧
      Bun w1.heap.size wr [.app 34 3 (stC A n e k x m q).length (Ex.cellsL (stC A n e k x m q)) v0, .app 55 1 k ((stR A n e k).map iiD) (.slice a1 k c1), .app 56 1 m (((rowsE F A n x).take m).map intsD) (.slice a4 m c4), .app 2 1 q (((rowE F n m x).take q).map D.int) v3] ∧ Below w1.heap.size w1 wr) (fun _ _ i _ => n - (intOf i).toNat)
     case atStart => exact ⟨0, rfl, by omega, HG0, by simpa using hB6, hbe6⟩
     case round =>
      clear hB6 hbe6
      obtain ⟨q, rfl, hqn, HG1, hbun, hbe⟩ := hrel
      obtain ⟨wq, rfl⟩ : ∃ v, v = wr := ⟨_, rfl⟩
      obtain ⟨Lc, hLc⟩ : ∃ Lc, stC A n e k x m q = Lc := ⟨_, rfl⟩
      have hbound := stC_len (A := A) (a := n) (e := e) (i := k) (x := x) (m := m) (k := q) hA8 hn
      have hat := stL_at (m := m) (k := q) HX.out
      have hlen2 := prefix_length (stC_old (A := A) (a := n) (e := e) (i := k) (x := x) (m := m) (k := q))
      have hnd := stC_nodup (A := A) (a := n) (e := e) (i := k) (x := x) (m := m) (k := q)
      rw [hLc] at hbun hbound hat hlen2 hnd
      rw [HL.out] at hbound hlen2
      obtain ⟨a5, c5, rfl, hc5, hc6⟩ := hbun.shape 0 rfl
      obtain ⟨a6, c6, rfl, hd5, hd6⟩ := hbun.shape 3 rfl
      unfold maxLen at hc6 hd6
      have HLc := Lib.hid hLc
      have HB6 := Lib.hid hbun
      have HBe6 := Lib.hid hbe
      have Hat := Lib.hid hat
      have Hnd := Lib.hid hnd
      have hq0 := Int.natCast_nonneg q
      have hzq := hbe.size
      obtain ⟨g0, g1, ltG⟩ := (G.below hbe).all2
      clear hbun hbe hLc hat hnd
      by_cases hqlt : q < n
      rotate_left
      ·
       obtain rfl : n = q := by omega
       have Heq : Hid (((rowsE F A n x).take (m + 1)).map intsD = ((rowsE F A n x).take m).map intsD ++ [D.sl 1 n (((rowE F n m x).take n).map D.int)]) := by
        show _ = _
        rw [rowsE_take hmlt, List.map_append, List.take_of_length_le (l := rowE F n m x) (by rw [rowE_len]; omega)]
        show _ ++ [D.sl 1 (rowE F n m x).length _] = _
        rw [rowE_len]
       have HEL : Hid (stC A n e k x (m + 1) 0 = Lc) := by show _ = _; rw [← stC_line, HLc.out]
       have HG2 : Hid (GoodTo n x (m + 1) 0) := HG1.out.line
       have hBu := HB6.out.alloc (.cells #[.slice a6 n c6] 56)
       have hNb := Blk.new1 wq 56 (.slice a6 n c6)
       go_wp2_with (at_builtin; go_must (refine wpList_append_bun_own _ rfl _ _ 55 rfl 56 24 Tryz.underlying55 info_i64s hBu (by simp; omega) 2 _ rfl rfl 3 (by decide) _ rfl ⟨wq.heap.size, 0, none⟩ rfl (news_blk hNb) (by omega) (by unfold maxLen; omega) ?_); intro g6 cap6 w6 hbun6 hb6)
       have Hfin := Lib.hid (And.intro (hbun6.take 3) ((HBe6.out.alloc hzq (.cells #[.slice a6 n c6] 56)).trans hb6))
       clear hbun6 hb6 hBu hNb
       go_wp2_with fail
       go_roundw
       case rel =>
        refine ⟨m + 1, by go_num, by omega, HG2, ?_, Hfin.out.2⟩
        have h := Hfin.out.1
        rw [Heq.out, HEL.out]
        exact h
       case measure => simp [intOf]; omega
      ·
       have hrd : Rd wq (kidsD Lc) (.slice a5 Lc.length c5) := HB6.out.rd 0 rfl
       obtain ⟨kb, ko, rfl⟩ := kid_some hrd (fun h => by have h0 : Lc.length = 0 := congrArg List.length h; omega)
       obtain ⟨hkb, sx, cx, i0, i1, i2, hxr⟩ := kid_in hrd Hat.out
       have hk1 : (k : Int) < (Lc.length : Int) := by omega
       have hq1 : (q : Int) < (n : Int) := by omega
       clear hrd
       go_wp2_with fail
       clear g0 g1 ltG i0 i1 i2
       obtain ⟨w6, e6, N1, hb6, hz6⟩ := box3 wq 34 (.int .i64 x.kind) (.int .i64 x.num) (.slice sx x.kids.length cx)
       rw [e6]
       have HB7 := Lib.hid (HB6.out.below hb6)
       have HBe7 := Lib.hid (HBe6.out.trans (hb6.mono hzq))
       have hxat : ExAt w6 wq.heap.size 0 x := ⟨N1.c0, N1.c1, sx, cx, N1.c2, hxr.below hb6⟩
       obtain ⟨hxt, hxs⟩ := stL_spec Htr.out hs k x (List.mem_of_getElem? HX.out)
       clear e6 hb6 N1 hxr
       cases ho : x.step m q with
       | none =>
        have HNO := Lib.hid (stOk_bad HX.out hk6 hmlt hqlt ho)
        have Ho := Lib.hid ho
        clear ho
        refine (step_none' (by omega) (by omega) (by omega) (by omega) hxat hxt (by omega) Ho).mono ?_
        rintro f w7 ⟨y, s7, c7, rfl, hb7⟩
        have hz7 := hb7.size
        obtain ⟨q1, q2, q3⟩ := stLL_no HNO.out
        have HBQ := Lib.hid (hb1.trans ((HBe7.out.trans (hb7.mono (by omega))).mono (by omega)))
        go_wp2_with fail
        go_ret3
        refine ⟨_, _, _, _, by rw [q1, q2, q3]; rfl, ?_, ?_⟩
        ·
         rw [q1, q2]
         exact empty2 _ _
        ·
         have hBQ := HBQ.out
         have hzQ := hBQ.size
         (repeat' first | exact Below.refl _ _ | assumption | apply Below.alloc | apply Below.drew | apply Below.setCell | omega | (simp; done) | (simp; omega))
       | some d =>
        have HG2 := Lib.hid (HG1.out.cell (findI_live ho))
        have Ho := Lib.hid ho
        clear ho
        refine (step_some' (by omega) (by omega) (by omega) (by omega) hxat hxt (by omega) Ho).mono ?_
        rintro f w7 ⟨s7, c7, rfl, hf7, hb7⟩
        have hz7 := hb7.size
        have hfd := own_ex hf7
        have HBe8 := Lib.hid (HBe7.out.trans (hb7.mono (by omega)))
        by_cases hd1 : d.kind = 1
        ·
         have c1 : (d.kind != 1) = false := by simp [hd1]
         have hde := nxtE_dead Ho.out hd1
         have HEV : Hid (numO F (nxtE m q x) = -1) := by show _ = _; exact st_dead hde
         have HEL : Hid (stC A n e k x m (q + 1) = Lc) := by show _ = _; rw [stC_dead hmlt hqlt hde, HLc.out]
         have HB8 := Lib.hid ((HB7.out.below hb7).alloc (.cells #[.int .i64 d.kind, .int .i64 d.num, .slice s7 d.kids.length c7] 34))
         have hBu := HB8.out.alloc (.cells #[.int .i64 (-1)] 2)
         have hNb := Blk.new1 (w7.alloc (.cells #[.int .i64 d.kind, .int .i64 d.num, .slice s7 d.kids.length c7] 34)) 2 (.int .i64 (-1))
         clear hde hfd hf7 hb7 hd1
         simp at hNb
         go_wp2_with
          (at_builtin; go_must (refine wpList_append_bun _ rfl _ _ 56 rfl 2 (.int .i64 0) 1 8 Tryz.underlying56 info_int64 rfl (by decide) (hBu) (by simp <;> omega) 3 _ rfl rfl ⟨w7.heap.size + 1, 0, none⟩ 1 1 [.int .i64 (-1)] rfl (news_blk hNb) none_own rfl (by simp [Value.oneCell']) (by omega) (by omega) (by unfold maxLen; omega) ?_); intro g6 cap6 w6 hbun6 hb6)
         have Hds : Hid (((rowE F n m x).take (q + 1)).map D.int = ((rowE F n m x).take q).map D.int ++ [D.int (-1)]) := by show _ = _; rw [rowE_take hqlt, List.map_append, HEV.out]; rfl
         have Hfin := Lib.hid (And.intro hbun6 ((((HBe8.out.alloc (by omega) (.cells #[.int .i64 d.kind, .int .i64 d.num, .slice s7 d.kids.length c7] 34)).alloc (by simp; omega) (.cells #[.int .i64 (-1)] 2))).trans hb6))
         clear hbun6 hb6
         go_wp2_with fail
         go_roundw
         case rel =>
          refine ⟨q + 1, by go_num, by omega, HG2, ?_, Hfin.out.2⟩
          have h := Hfin.out.1
          rw [Hds.out, HEL.out]
          exact h
         case measure => simp [intOf]; omega
        ·
         have c1 : (d.kind != 1) = true := by simp [hd1]
         have hdl := nxtE_live Ho.out hd1
         have hwas := @st_was A n e k x m q HX.out hk6 hmlt hqlt d hdl
         have hnew := @st_new A n e k x m q HX.out hk6 hmlt hqlt d hdl
         have hLw := @stC_was A n e k x m q hmlt hqlt d hdl
         have hLn := @stC_new A n e k x m q hmlt hqlt d hdl
         rw [HLc.out, ← HF.out] at hwas hnew
         rw [HLc.out] at hLw hLn
         have Hwas := Lib.hid hwas
         have Hnew := Lib.hid hnew
         have HLw := Lib.hid hLw
         have HLn := Lib.hid hLn
         have HB8 := Lib.hid (HB7.out.push_own hb7 (by omega) hfd)
         have hdr := Rds.one hf7.rds
         clear hdl hwas hnew hLw hLn hfd hf7 hb7 hd1
         go_wp2_with fail
         obtain ⟨w8, e8, N2, hb8, hz8⟩ := box3 w7 34 (.int .i64 d.kind) (.int .i64 d.num) (.slice s7 d.kids.length c7)
         rw [e8]
         have HB9 := Lib.hid (HB8.out.below hb8)
         have HBe9 := Lib.hid (HBe8.out.trans (hb8.mono (by omega)))
         have hda : ExAt w8 w7.heap.size 0 d := ⟨N2.c0, N2.c1, s7, c7, N2.c2, hdr.below hb8⟩
         have hrd : Rd w8 (kidsD Lc) (.slice (some ⟨kb, ko, none⟩) Lc.length c5) := HB9.out.rd 0 rfl
         clear e8 hb8 hdr
         refine (l02Find_i hrd hda Hnd.out).mono ?_
         rintro f w9 ⟨rfl, hb9⟩
         have HB10 := Lib.hid (HB9.out.below hb9)
         have HBe10 := Lib.hid (HBe9.out.trans (hb9.mono (by omega)))
         have hz9 := hb9.size
         obtain ⟨f1, f2⟩ := findI_bd Lc d
         by_cases hin : d ∈ Lc
         ·
          have hge := findI_pos hin
          have HEV : Hid (numO F (nxtE m q x) = findI Lc d) := by show _ = _; exact Hwas.out hin
          have HEL : Hid (stC A n e k x m (q + 1) = Lc) := by show _ = _; exact HLw.out hin
          have hBu := (HB10.out.take 4).alloc (.cells #[.int .i64 (findI Lc d)] 2)
          have hNb := Blk.new1 w9 2 (.int .i64 (findI Lc d))
          obtain ⟨Z, hZ⟩ : ∃ Z, findI Lc d = Z := ⟨_, rfl⟩
          rw [hZ] at hge HEV f1 f2 hBu hNb ⊢
          clear hZ hin N2 hda hrd hb9
          go_wp2_with
           (at_builtin; go_must (refine wpList_append_bun _ rfl _ _ 56 rfl 2 (.int .i64 0) 1 8 Tryz.underlying56 info_int64 rfl (by decide) (hBu) (by simp <;> omega) 3 _ rfl rfl ⟨w9.heap.size, 0, none⟩ 1 1 [.int .i64 Z] rfl (news_blk hNb) none_own rfl (by simp [Value.oneCell']) (by omega) (by omega) (by unfold maxLen; omega) ?_); intro g6 cap6 w6 hbun6 hb6)
          have Hds : Hid (((rowE F n m x).take (q + 1)).map D.int = ((rowE F n m x).take q).map D.int ++ [D.int Z]) := by show _ = _; rw [rowE_take hqlt, List.map_append, HEV.out]; rfl
          have Hfin := Lib.hid (And.intro hbun6 (((HBe10.out.alloc (by omega) (.cells #[.int .i64 Z] 2))).trans hb6))
          clear hbun6 hb6
          go_wp2_with fail
          go_roundw
          case rel =>
           refine ⟨q + 1, by go_num, by omega, HG2, ?_, Hfin.out.2⟩
           have h := Hfin.out.1
           rw [Hds.out, HEL.out]
           exact h
          case measure => simp [intOf]; omega
         ·
          have hfi := findI_neg hin
          have HEV : Hid (numO F (nxtE m q x) = (Lc.length : Int)) := by show _ = _; exact Hnew.out hin
          have HEL : Hid (stC A n e k x m (q + 1) = Lc ++ [d]) := by show _ = _; exact HLn.out hin
          have N3 := N2.below hb9
          have n0 := N3.c0
          have n1 := N3.c1
          have n2 := N3.c2
          have ltN := N3.lt
          have hBl := HB10.out.alloc (.cells #[.int .i64 d.kind, .int .i64 d.num, .slice s7 d.kids.length c7] 34)
          have hNl := Blk.new3 w9 34 (.int .i64 d.kind) (.int .i64 d.num) (.slice s7 d.kids.length c7)
          rw [hfi]
          clear hfi f1 f2 hin N2 N3 hda hrd hb9
          go_wp2_with (first
           | (at_builtin; (refine wpList_append_bun_mv _ rfl _ _ 32 rfl 34 (.agg #[.int .i64 0, .int .i64 0, .slice none 0 0]) 3 40 Tryz.underlying32 info_iExpr rfl (by decide) hBl (by simp; omega) 0 _ rfl rfl 4 (by decide) rfl ⟨w9.heap.size, 0, none⟩ 1 1 rfl (news_blk hNl) rfl (by simp [Value.oneCell']) (by omega) (by omega) (by unfold maxLen; omega) ?_); intro g5 cap5 w10 hbun5 hb10; have hz10 : w9.heap.size + 1 ≤ w10.heap.size := (by have q := hb10.size; simpa using q); have hBu := (hbun5.take 4).alloc (.cells #[.int .i64 (Lc.length : Int)] 2); have hNb := Blk.new1 w10 2 (.int .i64 (Lc.length : Int)); have Hb10 := Lib.hid hb10; clear hbun5 hb10)
           | 
            (at_builtin; go_must (refine wpList_append_bun _ rfl _ _ 56 rfl 2 (.int .i64 0) 1 8 Tryz.underlying56 info_int64 rfl (by decide) (hBu) (by simp <;> omega) 3 _ rfl rfl ⟨w10.heap.size, 0, none⟩ 1 1 [.int .i64 (Lc.length : Int)] rfl (news_blk hNb) none_own rfl (by simp [Value.oneCell']) (by omega) (by omega) (by unfold maxLen; omega) ?_); intro g6 cap6 w6 hbun6 hb6)
            )
          have Hds : Hid (((rowE F n m x).take (q + 1)).map D.int = ((rowE F n m x).take q).map D.int ++ [D.int (Lc.length : Int)]) := by show _ = _; rw [rowE_take hqlt, List.map_append, HEV.out]; rfl
          have Hfin := Lib.hid (And.intro hbun6 ((((((HBe10.out.alloc (by omega) (.cells #[.int .i64 d.kind, .int .i64 d.num, .slice s7 d.kids.length c7] 34)).trans Hb10.out).alloc (by omega) (.cells #[.int .i64 (Lc.length : Int)] 2)))).trans hb6))
          clear hbun6 hb6
          go_wp2_with fail
          go_roundw
          case rel =>
           refine ⟨q + 1, by go_num, by omega, HG2, ?_, Hfin.out.2⟩
           have h := Hfin.out.1
           rw [Hds.out, HEL.out, cellsL_snoc, List.length_append]
           exact h
          case measure => simp [intOf]; omega
end Go.Proofs.YtcokljhamhgelaaGreatDoor

namespace Go.Proofs.YtcokljhamhgelaaGreatDoor
set_option linter.unusedVariables false
set_option linter.unusedSimpArgs false
open Go.ChangeShapes Go.WideShapes Go.ChangeAt Go.RowKit Go.Deep
noncomputable def accE (A : Nat) (x : Ex) : List Bool := (List.range A).map fun m : Nat => x.emp (m : Int)
theorem accE_len (A : Nat) (x : Ex) : (accE A x).length = A := by simp [accE]
theorem accE_take {A m : Nat} {x : Ex} (hm : m < A) : (accE A x).take (m + 1) = (accE A x).take m ++ [x.emp m] := by
 have hl : m < (accE A x).length := by rw [accE_len]; exact hm
 rw [List.take_succ_eq_append_getElem hl]
 simp [accE]
noncomputable def madA (A a : Nat) (e : Ex) : List (List Bool) := (stLL A a e).map (accE A)
theorem madA_len (A a : Nat) (e : Ex) : (madA A a e).length = (stLL A a e).length := by simp [madA]
theorem madA_take {A a : Nat} {e : Ex} {k : Nat} {x : Ex} (h : (stLL A a e)[k]? = some x) : (madA A a e).take (k + 1) = (madA A a e).take k ++ [accE A x] := by
 obtain ⟨hl, hx⟩ := List.getElem?_eq_some_iff.1 h
 have hl' : k < (madA A a e).length := by rw [madA_len]; exact hl
 rw [List.take_succ_eq_append_getElem hl']
 simp [madA, hx]
theorem stNN_len {A a : Nat} {e : Ex} : (stNN A a e).length = (stLL A a e).length := by
 by_cases h : stOk A a e
 ·
  rw [(stLL_yes h).1, (stLL_yes h).2.1]; simp [stN]
 ·
  rw [(stLL_no h).1, (stLL_no h).2.1]; rfl
theorem box4 (w : World) (t : TypeId) (a b c d : Value) : ∃ w', w.alloc (.cells #[a, b, c, d] t) = w' ∧ Blk w' w.heap.size t [a, b, c, d] ∧ Below w.heap.size w w' ∧ w'.heap.size = w.heap.size + 1 :=
 ⟨_, rfl, Blk.new4 w t a b c d, Below.alloc (Below.refl _ _) (Nat.le_refl _) _, by simp⟩
theorem Blk.all4 {w : World} {g t : Nat} {a b c d : Value} (h : Blk w g t [a, b, c, d]) : w.cell? ⟨g, 0, none⟩ = some a ∧ w.cell? ⟨g, 1, none⟩ = some b ∧ w.cell? ⟨g, 2, none⟩ = some c ∧ w.cell? ⟨g, 3, none⟩ = some d ∧
  w.frozen? ⟨g, 0, none⟩ = false ∧ w.frozen? ⟨g, 1, none⟩ = false ∧ w.frozen? ⟨g, 2, none⟩ = false ∧ w.frozen? ⟨g, 3, none⟩ = false ∧ g < w.heap.size :=
 ⟨h.c0, h.c1, h.c2, h.c3, h.frozen 0, h.frozen 1, h.frozen 2, h.frozen 3, h.lt⟩
theorem set4 {w : World} {g t : Nat} {a b c d : Value} (h : Blk w g t [a, b, c, d]) (x y z u : Value) : ∃ w', (((w.setCell ⟨g, 0, none⟩ x).setCell ⟨g, 1, none⟩ y).setCell ⟨g, 2, none⟩ z).setCell ⟨g, 3, none⟩ u = w' ∧ Blk w' g t [x, y, z, u] ∧ Spares (fun i => i = g) w w' :=
 ⟨_, rfl, (((h.set 0 x).set 1 y).set 2 z).set 3 u, Spares.set (Spares.set (Spares.set (Spares.set (Spares.refl w))))⟩
theorem OwS.two {S : Nat → Prop} {w : World} {d e : D} {u v : Value} (h : OwS S w [d, e] [u, v]) : OwS S w [d] [u] ∧ OwS S w [e] [v] := by
 obtain ⟨F, h1, h2, h3⟩ := h
 obtain ⟨G, K, rfl, hx, hy⟩ := ows_two h1
 have hn := List.nodup_append.1 h2
 refine ⟨⟨G ++ [], Ows.cons hx Ows.nil, by simpa using hn.1, fun b hb => h3 b (by simp at hb; simp [hb])⟩, ⟨K ++ [], Ows.cons hy Ows.nil, by simpa using hn.2.1, fun b hb => h3 b (by simp at hb; simp [hb])⟩⟩
theorem Bun.own {B : Nat} {w : World} {items : List Item} (h : Bun B w items) (k : Nat) {ds : List D} {vs : List Value} (hk : items[k]? = some (.own ds vs)) : ∃ own : Nat → Nat, OwS (fun b => B ≤ b ∧ b < w.heap.size ∧ own b = k) w ds vs := by
 obtain ⟨own, h⟩ := h
 exact ⟨own, h k _ hk⟩
theorem Bun.own_rds {B : Nat} {w : World} {items : List Item} (h : Bun B w items) (k : Nat) {ds : List D} {vs : List Value} (hk : items[k]? = some (.own ds vs)) : Rds w ds vs := by
 obtain ⟨own, h⟩ := h.own k hk
 exact h.rds
theorem Bun.fresh_app_own {B : Nat} {W w : World} {items : List Item} (h : Bun B w items) (hB : W.heap.size ≤ B) (i k : Nat) (hne : i ≠ k) {t size n : Nat} {ds : List D} {v : Value} (hi : items[i]? = some (.app t size n ds v)) {d e : D} {u u' : Value} (hk : items[k]? = some (.own [d, e] [u, u'])) :
  Freshs W w [.sl size n ds, e] [v, u'] := by
 obtain ⟨own, h⟩ := h
 obtain ⟨F, f1, f2, f3⟩ := AppS.foot (h i _ hi)
 have hk' : OwS (fun b => B ≤ b ∧ b < w.heap.size ∧ own b = k) w [d, e] [u, u'] := h k _ hk
 obtain ⟨G, g1, g2, g3⟩ := hk'.two.2
 refine ⟨F ++ G, Ows.cons f1 g1, ?_, ?_⟩
 ·
  rw [List.nodup_append]
  refine ⟨f2, g2, fun p hp q hq hpq => ?_⟩
  have h1 := (f3 p hp).2.2
  have h2 := (g3 q hq).2.2
  rw [hpq] at h1
  omega
 ·
  intro b hb
  rcases List.mem_append.1 hb with hb | hb
  ·
   have := (f3 b hb).1; omega
  ·
   have := (g3 b hb).1; omega
end Go.Proofs.YtcokljhamhgelaaGreatDoor
