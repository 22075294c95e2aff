/-
  Parts of a proof, joined: SpSe, SpnZ, MatS, Fuse3. No condition.
-/
import Derived.Maps.AppendAt
import Derived.Lib.AppendZeros
import Derived.Test.YtbflhjjnemdecaaPk7
import Derived.Test.YtbflhjjnemdecaaPk8
namespace Go.Proofs.Ytbflhjjnemdecaa
set_option linter.unusedVariables false
set_option linter.unusedSimpArgs false
open Go.ChangeShapes Go.WideShapes Go.ChangeAt Go.RowKit Go.Deep Go.Sort
set_option maxRecDepth 100000 in
set_option maxHeartbeats 16000000 in
theorem spans_8 {tm am : Int} (htm : tm ≤ 2) {N : Nat} (ih : ∀ m, m < N → SpnC tm am m) {num : Int} {ks : List Ex} {xs ys : List Int} {s p q : Option Addr} {c pc qc : Nat} {w : World} (hN : Ex.sizeL ks ≤ N) (hr : Rd w (kidsD ks) (.slice s ks.length c)) (htr : Ex.tree tm am (.mk 8 num ks) = true) (rx : Rd w (intsD xs) (.slice p xs.length pc)) (ry : Rd w (intsD ys) (.slice q ys.length qc)) (hok : WOk xs ys) :
  Calls Try.prog 110 #[.agg #[.int .i64 8, .int .i64 num, .slice s ks.length c], .agg #[.slice p xs.length pc, .slice q ys.length qc]] w fun f w' => ∃ g, f = .returned (.slice (some ⟨g, 0, none⟩) xs.length xs.length) ∧ Fresh w w' (bbD (sqL xs.length (spB (.mk 8 num ks) xs ys))) (.slice (some ⟨g, 0, none⟩) xs.length xs.length) ∧ Below w.heap.size w w' := by
 obtain ⟨hk, hnum, hc, htl⟩ := tree_parts htr
 have hk2 : ks.length ≤ 2 := by have h := hk; simp [kidsN] at h; omega
 have hsh := hok.short
 have hlen := hok.len
 have Hok := Lib.hid hok
 have Htl := Lib.hid htl
 have Ih := Lib.hid ih
 have Htr := Lib.hid htr
 have Hc := Lib.hid hc
 clear htl ih hok htr hc
 obtain ⟨n, hn⟩ : ∃ n, xs.length = n := ⟨_, rfl⟩
 rw [hn] at rx ⊢
 have Hn := Lib.hid hn
 have hn1 : 1 ≤ n := by omega
 have hn2 : n ≤ 11 := by omega
 have hyn : ys.length ≤ n := by omega
 have Hny := Lib.hid (show n = ys.length + 1 by omega)
 have Hrx := Lib.hid rx
 have Hry := Lib.hid ry
 have Hr := Lib.hid hr
 have hn0 := Int.natCast_nonneg n
 obtain ⟨-, hlx, hcx, -⟩ := rx.sl_at
 obtain ⟨-, hly, hcy, -⟩ := ry.sl_at
 unfold maxLen at hcx hcy
 clear hn hlen hsh rx ry hr
 rw [show (List.length xs) = n from Hn.out] at hlx
 go_enter Try.func110, Try.ntmps110
 go_wp2_with fail
 obtain ⟨w0, e0, E, hb0, hz0⟩ := box3 w 38 (.int .i64 8) (.int .i64 num) (.slice s ks.length c)
 rw [e0]
 obtain ⟨w1, e1, Q, hb1, hz1⟩ := box2 w0 40 (.slice p n pc) (.slice q ys.length qc)
 rw [e1]
 rw [hz0] at Q
 have hB1 := hb0.trans (hb1.mono (by omega))
 replace E := E.below hb1
 have hzz : w1.heap.size = w.heap.size + 2 := by omega
 refine (newSpans_i hn1 (by omega)).mono ?_
 rintro f w2 ⟨g, gs, rfl, hsp, hb2⟩
 have HB2 := Lib.hid (hB1.trans (hb2.mono (by omega)))
 have HE := Lib.hid (E.below hb2)
 have HQ := Lib.hid (Q.below hb2)
 obtain ⟨B0, hB0⟩ : ∃ B0, w1.heap.size = B0 := ⟨_, rfl⟩
 rw [hB0] at hsp hzz
 have hz12 := hb2.size
 rw [hB0] at hz12
 have Hsp := Lib.hid hsp
 have hz2 := HB2.out.size
 clear hB0
 have h0 := App.empty (W := w2) (size := 1) (Blk.made w2 131 #[]) (Nat.le_refl _)
 obtain ⟨x0, x1, x2, -, -, -, ltx⟩ := (HE.out.alloc (.cells #[] 131)).all3
 clear e0 e1 hb0 hb1 hb2 E Q hB1 hz0 hz1 hsp
 go_wp2_with fail
 clear x0 x1 x2 ltx
 go_loopw [7, 27] (fun v i wr => ∃ j : Nat, j ≤ ks.length ∧ i = .int .i64 j ∧ App w2 wr 131 1 j ((ks.take j).map fun e => bbD (sqL n (spB e xs ys))) v ∧ Below w2.heap.size w2 wr) (fun _ i _ => ks.length - (intOf i).toNat)
 case atStart => exact ⟨0, Nat.zero_le _, rfl, by simpa using h0, Below.alloc (Below.refl _ _) (Nat.le_refl _) _⟩
 case round =>
  clear h0
  obtain ⟨j, hj, rfl, happ, hB⟩ := hrel
  obtain ⟨wo, rfl⟩ : ∃ v, v = wr := ⟨_, rfl⟩
  have hj0 := Int.natCast_nonneg j
  have szB := hB.size
  obtain ⟨a', cap', rfl, hcap1, hcap2⟩ := happ.shape
  unfold maxLen at hcap2
  have HB := Lib.hid hB
  by_cases hjl : j < ks.length
  ·
   obtain ⟨e', he'⟩ : ∃ e', ks[j]? = some e' := ⟨_, List.getElem?_eq_getElem hjl⟩
   obtain ⟨kb, ko, rfl⟩ := kid_some Hr.out (by intro h; rw [h] at hjl; simp at hjl)
   have hjz : (j : Int) < (ks.length : Int) := by omega
   have hBw := HB2.out.trans (hB.mono hz2)
   obtain ⟨hkb, sx, cx, i0, i1, i2, hxr⟩ := kid_in Hr.out he'
   replace i0 := (hBw.cell (p := ⟨kb, ko + j * 3, none⟩) hkb).trans i0
   replace i1 := (hBw.cell (p := ⟨kb, ko + j * 3 + 1, none⟩) hkb).trans i1
   replace i2 := (hBw.cell (p := ⟨kb, ko + j * 3 + 2, none⟩) hkb).trans i2
   have hbx := Below.alloc (Below.refl wo.heap.size wo) (Nat.le_refl _) (.cells #[.int .i64 e'.kind, .int .i64 e'.num, .slice sx e'.kids.length cx] 38)
   obtain ⟨y0, y1, lty⟩ := ((HQ.out.below hB).alloc (.cells #[.int .i64 e'.kind, .int .i64 e'.num, .slice sx e'.kids.length cx] 38)).all2
   obtain ⟨v0, v1, v2, -, -, -, ltv⟩ := (Blk.new3 wo 38 (.int .i64 e'.kind) (.int .i64 e'.num) (.slice sx e'.kids.length cx)).all3
   have HA := Lib.hid happ
   have htr' := Ex.treeL_mem Htl.out (List.mem_of_getElem? he')
   have hsz : Ex.sizeL e'.kids < N := by
    have h1 := Ex.sizeL_mem (List.mem_of_getElem? he')
    have h2 := Ex.size_eq e'
    omega
   have hBx := hBw.alloc hBw.size (.cells #[.int .i64 e'.kind, .int .i64 e'.num, .slice sx e'.kids.length cx] 38)
   have Htk := Lib.hid (show (ks.take (j + 1)).map (fun e => bbD (sqL n (spB e xs ys))) = (ks.take j).map (fun e => bbD (sqL n (spB e xs ys))) ++ [bbD (sqL n (spB e' xs ys))] by
    obtain ⟨h1, h2⟩ := List.getElem?_eq_some_iff.1 he'
    rw [List.take_succ_eq_append_getElem h1, List.map_append, h2]
    rfl)
   have hih := Ih.out _ hsz e' xs ys sx p q cx pc qc _ (Nat.le_refl _) (hxr.below hBx) htr' (by rw [Hn.out]; exact Hrx.out.below hBx) (Hry.out.below hBx) Hok.out
   rw [Hn.out] at hih
   clear happ hB he' hBw hxr hBx
   go_wp2_with fail
   refine hih.mono ?_
   rintro f w5 ⟨g5, rfl, hf5, hb5⟩
   have hb55 := hbx.trans (hb5.mono (by simp))
   have hz5 := hb55.size
   have hf6 : Freshs wo (w5.alloc (.cells #[.slice (some ⟨g5, 0, none⟩) n n] 131)) [bbD (sqL n (spB e' xs ys))] [.slice (some ⟨g5, 0, none⟩) n n] := (Freshs.one (hf5.from (by simp))).on (Below.alloc (Below.refl _ _) (Nat.le_refl _) _)
   have hb6 := hb55.alloc hz5 (.cells #[.slice (some ⟨g5, 0, none⟩) n n] 131)
   have happ := HA.out
   clear i0 i1 i2 y0 y1 lty v0 v1 v2 ltv hf5 hb5 hbx hb55 hih
   go_wp2_with (at_builtin; go_must (refine wpList_append_app _ rfl _ _ 174 rfl 131 (.slice none 0 0) 1 24 Try.underlying174 info_spans rfl (by decide) _ rfl happ hb6 szB ⟨w5.heap.size, 0, none⟩ 1 1 [.slice (some ⟨g5, 0, none⟩) n n] rfl (news_blk (Blk.made _ _ _)) hf6 rfl (by simp [Value.oneCell']) (by omega) (by omega) (by unfold maxLen; omega) ?_); intro g3 cap3 w3 happ3 hb3)
   have hB3 : Below w2.heap.size w2 w3 := (HB.out.trans (hb6.mono szB)).trans hb3
   have Hfin := Lib.hid (And.intro (happ3.sized Htk.out.symm rfl) hB3)
   clear happ3 hb3 hB3 happ hf6 hb6
   go_wp2_with fail
   go_roundw
   case rel => exact ⟨j + 1, by omega, by go_num, Hfin.out.1, Hfin.out.2⟩
   case measure => simp [intOf]; omega
  obtain rfl : j = ks.length := by omega
  rw [List.take_length] at happ
  have HKf := Lib.hid (happ.freshN (f := fun e => bbD (sqL n (spB e xs ys))) rfl)
  clear happ hB
  obtain ⟨x', hks⟩ := one_kid hk (by omega)
  have Hks := Lib.hid hks
  have hkz0 : 0 < ks.length := by rw [hks]; simp
  obtain ⟨kb, ko, rfl⟩ := nest_some HKf.out.rd hkz0
  clear hks
  obtain ⟨wK, rfl⟩ : ∃ v, v = wo := ⟨_, rfl⟩
  obtain ⟨X, hX⟩ : ∃ X : Nat → Prop, X = fun b => b = g ∨ b ∈ gs := ⟨_, rfl⟩
  have hXb : ∀ b, X b → w.heap.size + 2 ≤ b ∧ b < w2.heap.size := by
   intro b hb
   rw [hX] at hb
   have h1 := Hsp.out.own
   rcases hb with rfl | hb
   ·
    exact ⟨by omega, Hsp.out.blk.lt⟩
   ·
    obtain ⟨i, hi⟩ := List.mem_iff_getElem?.1 hb
    exact ⟨by have := (h1.2 b hb).1; omega, (Hsp.out.row i b hi).lt⟩
  have HK : Hid (∀ W, Spares X wK W → SpK w n g gs 8 num s p q c pc qc 1 ks xs ys (.slice (some ⟨kb, ko, none⟩) ks.length cap') W) := by
   intro W hs
   refine ⟨(HE.out.below HB.out).keep (hs.block _ (HE.out.below HB.out).lt (fun h => by have := hXb _ h; omega)), (HQ.out.below HB.out).keep (hs.block _ (HQ.out.below HB.out).lt (fun h => by have := hXb _ h; omega)), (HB2.out.trans (HB.out.mono hz2)).trans (hs.below (B := w.heap.size) (by have := HB.out.size; omega) (fun b h => by have := hXb _ h; omega)), Or.inl (HKf.out.keep (fun b h1 h2 => hs.block b h2 (fun h => by have := hXb _ h; omega))).rd⟩
  have HXm := Lib.hid (fun i x (hx : gs[i]? = some x) => (show X x by rw [hX]; exact Or.inr (List.mem_of_getElem? hx)))
  obtain ⟨bs, hbs⟩ : ∃ bs : Nat → Nat → Bool, bs = fun r c => decide (r = c) := ⟨_, rfl⟩
  have Hbs := Lib.hid hbs
  have Hsp0 := Lib.hid ((Hsp.out.below HB.out).congr (K := fun r c => if r < 0 then bs r c else false) (fun r c _ _ => by rw [if_neg (Nat.not_lt_zero _)]))
  clear hX hXb hbs HE HQ HB Hsp HB2
  go_wp2_with fail
  go_loopw [39] (fun i wr => ∃ j : Nat, j ≤ n ∧ i = .int .i64 j ∧ SpW B0 n g gs (fun r c => if r < j then bs r c else false) wr ∧ Spares X wK wr) (fun i _ => n - (intOf i).toNat)
  case atStart => exact ⟨0, Nat.zero_le _, rfl, Hsp0.out, Spares.refl _⟩
  case round =>
   clear Hsp0
   obtain ⟨j, hj, rfl, hsp, hs⟩ := hrel
   obtain ⟨wo, rfl⟩ : ∃ v, v = wr := ⟨_, rfl⟩
   have hj0 := Int.natCast_nonneg j
   have Hsp := Lib.hid hsp
   have Hs := Lib.hid hs
   have hkk := HK.out wo hs
   obtain ⟨x0, x1, x2, -, -, -, ltx⟩ := hkk.E.all3
   obtain ⟨y0, y1, lty⟩ := hkk.Q.all2
   by_cases hjn : j < n
   ·
    have hjz : (j : Int) < (n : Int) := by omega
    clear hsp hs
    obtain ⟨xr, hxr, c1, c2, c3, c4, c5, c6, c7⟩ := Hsp.out.cells hjn hjn
    have Hnx := Lib.hid (And.intro ((Hsp.out.set hxr true).congr (K := fun r c => if r < j + 1 then bs r c else false) (fun r c _ _ => by
     rw [Hbs.out]
     show (if r = j ∧ c = j then true else if r < j then decide (r = c) else false) = if r < j + 1 then decide (r = c) else false
     by_cases h1 : r = j ∧ c = j
     ·
      rw [if_pos h1, if_pos (by omega)]; simp [h1.1, h1.2]
     ·
      rw [if_neg h1]
      by_cases h2 : r < j
      ·
       rw [if_pos h2, if_pos (by omega)]
      ·
       rw [if_neg h2]
       by_cases h3 : r < j + 1
       ·
        rw [if_pos h3]
        exact (decide_eq_false (by omega)).symm
       ·
        rw [if_neg h3])) (spares_put (p := ⟨xr, j, none⟩) Hs.out (HXm.out j xr hxr) (.bool true)))
    clear hkk hxr
    go_wp2_with fail
    go_roundw
    case rel => exact ⟨j + 1, by omega, by go_num, Hnx.out.1, Hnx.out.2⟩
    case measure => simp [intOf]; omega
   obtain rfl : n = j := by omega
   have Hsq := Lib.hid (hsp.congr (K := bs) (fun r c hr _ => if_pos hr))
   clear Hsp hsp hs hkk
   have e1 : IntKind.i64.wrap ((n : Int) - 1) = ((n - 1 : Nat) : Int) := by rw [show (n : Int) - 1 = ((n - 1 : Nat) : Int) by omega]; exact wrap_of (by omega) (by omega)
   obtain ⟨fn, hfn⟩ : ∃ fn : Nat → Nat → Bool, fn = spB (.mk 8 num ks) xs ys := ⟨_, rfl⟩
   have Hfn := Lib.hid hfn
   have Hlow : Hid (∀ i c, c < i → bs i c = fn i c) := fun i c hci => by rw [Hfn.out, Hbs.out]; exact by cases hb : spB (.mk 8 num ks) xs ys i c with | false => exact decide_eq_false (by omega) | true => (rw [spB_iff] at hb; have := hb.1; omega)
   clear hfn x0 x1 x2 ltx y0 y1 lty
   go_wp2_with fail
   clear e1
   go_loopw [11] (fun v wr => (∃ i : Nat, i < n ∧ v = .int .i64 i ∧ SpW B0 n g gs (moM fn bs (i + 1)) wr ∧ Spares X wK wr) ∨ (v = .int .i64 (-1) ∧ SpW B0 n g gs fn wr ∧ Spares X wK wr)) (fun i _ => (intOf i + 1).toNat)
   case atStart => exact Or.inl ⟨n - 1, by omega, rfl, Hsq.out.congr (fun r c hr _ => by unfold moM; rw [if_neg (by omega)]), Hs.out⟩
   case round =>
    clear Hsq Hs
    rcases hrel with ⟨i, hi, rfl, hsp, hs⟩ | ⟨rfl, hsp, hs⟩
    rotate_left
    ·
     have HF := Lib.hid (hsp.fresh (W := w) (by omega) hn1 (by unfold maxLen; omega))
     have HBf := Lib.hid (HK.out _ hs).bl
     clear hsp hs
     go_wp2_with fail
     go_ret
     exact ⟨g, rfl, by rw [← Hfn.out]; exact HF.out, HBf.out⟩
    obtain ⟨wo, rfl⟩ : ∃ v, v = wr := ⟨_, rfl⟩
    have hi0 := Int.natCast_nonneg i
    have Hmi := Lib.hid (hsp.congr (K := miM fn bs i i) (fun r c _ _ => mo_mi (Hlow.out i) r c))
    have Hs := Lib.hid hs
    clear hsp hs
    go_wp2_with fail
    go_loopw [12] (fun v wr => ∃ b : Nat, i ≤ b ∧ b ≤ n ∧ v = .int .i64 b ∧ SpW B0 n g gs (miM fn bs i b) wr ∧ Spares X wK wr) (fun v _ => n - (intOf v).toNat)
    case atStart => exact ⟨i, Nat.le_refl _, by omega, rfl, Hmi.out, Hs.out⟩
    case round =>
     clear Hmi Hs
     obtain ⟨b, hib, hb, rfl, hsp, hs⟩ := hrel
     obtain ⟨wp, rfl⟩ : ∃ v, v = wr := ⟨_, rfl⟩
     have hb0 := Int.natCast_nonneg b
     have Hs := Lib.hid hs
     by_cases hbn : b < n
     rotate_left
     ·
      obtain rfl : n = b := by omega
      have Hmo := Lib.hid (hsp.congr (K := moM fn bs i) (fun r c _ hc => mi_mo r c hc))
      clear hsp hs
      by_cases hi1 : i = 0
      ·
       subst hi1
       have e2 : IntKind.i64.wrap (((0 : Nat) : Int) - 1) = -1 := rfl
       have Hall := Lib.hid (Hmo.out.congr (K := fn) (fun r c _ _ => mo_all r c))
       go_wp2_with fail
       go_roundw
       case rel => exact Or.inr ⟨rfl, Hall.out, Hs.out⟩
       case measure => simp [intOf]
      ·
       obtain ⟨i', rfl⟩ : ∃ i', i = i' + 1 := ⟨i - 1, by omega⟩
       have e2 : IntKind.i64.wrap (((i' + 1 : Nat) : Int) - 1) = (i' : Int) := by rw [show ((i' + 1 : Nat) : Int) - 1 = (i' : Int) by omega]; exact wrap_of (by omega) (by omega)
       go_wp2_with fail
       go_roundw
       case rel => exact Or.inl ⟨i', by omega, by go_num, Hmo.out, Hs.out⟩
       case measure => simp [intOf]; omega
     have hbz : (b : Int) < (n : Int) := by omega
     have Hsp := Lib.hid hsp
     have hkk := HK.out wp hs
     obtain ⟨x0, x1, x2, -, -, -, ltx⟩ := hkk.E.all3
     clear hsp hs
     have Hst0 := Lib.hid (Hsp.out.congr (K := updM (miM fn bs i b) i b (bs i b)) (fun r c _ _ => (mi_start r c).symm))
     have e3 : IntKind.i64.wrap ((i : Int) + 1) = ((i + 1 : Nat) : Int) := by rw [show (i : Int) + 1 = ((i + 1 : Nat) : Int) by omega]; exact wrap_of (by omega) (by omega)
     have Hb0 : Hid (bs i b = frtTo x' xs ys i b (i + 1)) := by show _ = _; rw [Hbs.out, frtTo_zero (Nat.le_refl _)]
     have Hfs : Hid (∀ r c, fn r c = spB (.mk 8 0 [x']) xs ys r c) := fun r c => by rw [Hfn.out, Hks.out]; exact spB_star_num
     clear hkk Hsp
     go_wp2_with fail
     clear x0 x1 x2 ltx e3
     go_loopw [14] (fun v wr => ∃ (j : Nat) (r : Bool), i + 1 ≤ j ∧ j ≤ b + 1 ∧ v = .int .i64 j ∧ Hid (r = frtTo x' xs ys i b j) ∧ SpW B0 n g gs (updM (miM fn bs i b) i b r) wr ∧ Spares X wK wr) (fun v _ => b + 1 - (intOf v).toNat)
     case atStart => exact ⟨i + 1, _, Nat.le_refl _, by omega, by go_num, Hb0.out, Hst0.out, Hs.out⟩
     case round =>
      clear Hst0 Hs Hb0
      obtain ⟨j, r, hij, hj, rfl, HR, hsp, hs⟩ := hrel
      obtain ⟨wq, rfl⟩ : ∃ v, v = wr := ⟨_, rfl⟩
      have hj0 := Int.natCast_nonneg j
      have Hs := Lib.hid hs
      have Hsp := Lib.hid hsp
      by_cases hjb : j ≤ b
      rotate_left
      ·
       obtain rfl : j = b + 1 := by omega
       have Hnx := Lib.hid (hsp.congr (K := miM fn bs i (b + 1)) (fun r' c _ _ => by rw [HR.out, frtTo_all, ← Hfs.out]; exact mi_upd r' c))
       have hgt : (b : Int) < ((b + 1 : Nat) : Int) := by omega
       clear hsp hs
       go_wp2_with fail
       go_roundw
       case rel => exact ⟨b + 1, by omega, by omega, by go_num, Hnx.out, Hs.out⟩
       case measure => simp [intOf]; omega
      have hjz : (j : Int) ≤ (b : Int) := by omega
      have hjn : (j : Int) < (n : Int) := by omega
      have hkd := (HK.out wq hs).kd.resolve_right (by decide)
      rw [Hks.out] at hkd
      have hkd' : Rd wq (nestD bbD [sqL n (spB x' xs ys)]) (.slice (some ⟨kb, ko, none⟩) [x'].length cap') := hkd
      obtain ⟨xr, hxr, c1, c2, c3, c4, c5, c6, c7⟩ := hsp.cells (show i < n by omega) hbn
      rw [updM_self] at c2
      obtain ⟨yr, hyr, l1, l2, -, l4, -, -, -⟩ := hsp.cells (show j < n by omega) hbn
      rw [updM_ne (Or.inl (by omega))] at l2
      obtain ⟨b1, o1, d1, b2, o2, d2, k1, k2, k3, k4, k5, k6, k7⟩ := sq_cell (q := 0) hkd' rfl (show i < n by omega) (show j < n by omega)
      simp only [Nat.add_zero] at k1
      unfold maxLen at k5 k7
      have Hset := Lib.hid (fun v : Bool => (And.intro (((hsp.set hxr v).congr (K := updM (miM fn bs i b) i b v) (fun r' c _ _ => upd_upd r' c)).drew) (spares_drew (spares_put (p := ⟨xr, b, none⟩) hs (HXm.out i xr hxr) (.bool v)))))
      obtain ⟨u1, hu1⟩ : ∃ u1, spB x' xs ys i j = u1 := ⟨_, rfl⟩
      obtain ⟨u2, hu2⟩ : ∃ u2, miM fn bs i b j b = u2 := ⟨_, rfl⟩
      rw [hu1] at k3
      rw [hu2] at l2
      have hu3 : spB (.mk 8 0 [x']) xs ys j b = u2 := by rw [← Hfs.out, ← hu2]; unfold miM; rw [if_pos (Or.inl (by omega))]
      have Hsu : Hid (frtTo x' xs ys i b (j + 1) = (r || (u1 && u2))) := by show _ = _; rw [frtTo_succ, ← HR.out, hu1, hu3, decide_eq_true hij, Bool.true_and]
      clear hkd hkd' hsp hs hu1 hu2 hu3 hxr hyr
      cases r
      ·
       cases u1
       ·
        have HR2 : Hid (false = frtTo x' xs ys i b (j + 1)) := by show _ = _; rw [Hsu.out]; simp
        go_wp2_with fail
        go_region
        go_wp2_with fail
        go_roundw
        case rel => exact ⟨j + 1, false, by omega, by omega, by go_num, HR2, (Hset.out false).1, (Hset.out false).2⟩
        case measure => simp [intOf]; omega
       ·
        have HR2 : Hid (u2 = frtTo x' xs ys i b (j + 1)) := by show _ = _; rw [Hsu.out]; simp
        go_wp2_with fail
        go_region
        go_wp2_with fail
        go_roundw
        case rel => exact ⟨j + 1, u2, by omega, by omega, by go_num, HR2, (Hset.out u2).1, (Hset.out u2).2⟩
        case measure => simp [intOf]; omega
      ·
       have HR2 : Hid (true = frtTo x' xs ys i b (j + 1)) := by show _ = _; rw [Hsu.out]; simp
       go_wp2_with fail
       go_region
       go_wp2_with fail
       go_roundw
       case rel => exact ⟨j + 1, true, by omega, by omega, by go_num, HR2, (Hset.out true).1, (Hset.out true).2⟩
       case measure => simp [intOf]; omega
end Go.Proofs.Ytbflhjjnemdecaa

namespace Go.Proofs.Ytbflhjjnemdecaa
set_option linter.unusedVariables false
set_option linter.unusedSimpArgs false
open Go.ChangeShapes Go.WideShapes Go.ChangeAt Go.RowKit Go.Deep Go.Sort
theorem spansOf_all {tm : Int} (am : Int) (htm : tm ≤ 2) (N : Nat) : SpnC tm am N := by
 induction N using Nat.strongRecOn with
 | _ N ih =>
 intro e xs ys s p q c pc qc w hN hr htr rx ry hok
 obtain ⟨k, num, ks⟩ := e
 simp only [Ex.kind, Ex.num, Ex.kids] at hN hr ⊢
 obtain ⟨hk, -, -, -⟩ := tree_parts htr
 rcases kind_cases hk with rfl | rfl | rfl | rfl | rfl | rfl | rfl | rfl
 ·
  exact spans_1 htm ih hN hr htr rx ry hok
 ·
  exact spans_2 htm ih hN hr htr rx ry hok
 ·
  exact spans_3 htm ih hN hr htr rx ry hok
 ·
  exact spans_4 htm ih hN hr htr rx ry hok
 ·
  exact spans_5 htm ih hN hr htr rx ry hok
 ·
  exact spans_6 htm ih hN hr htr rx ry hok
 ·
  exact spans_7 htm ih hN hr htr rx ry hok
 ·
  exact spans_8 htm ih hN hr htr rx ry hok
end Go.Proofs.Ytbflhjjnemdecaa

namespace Go.Proofs.Ytbflhjjnemdecaa
set_option linter.unusedVariables false
set_option linter.unusedSimpArgs false
open Go.ChangeShapes Go.WideShapes Go.ChangeAt Go.RowKit Go.Deep Go.Sort
set_option maxHeartbeats 8000000 in
theorem l01Part_i {xs ys : List Int} {b o f t : Nat} {w : World} (h : WdAt w b o xs ys) (hok : WOk xs ys) (hft : f ≤ t) (ht : t ≤ ys.length) :
  Calls Try.prog 104 #[.pointer (some ⟨b, o, none⟩), .int .i64 f, .int .i64 t] w fun e w' => ∃ s c u d, e = .returned (.agg #[.slice s (t - f + 1) c, .slice u (t - f) d]) ∧ Rd w' (intsD (prX xs f t)) (.slice s (t - f + 1) c) ∧ Rd w' (intsD (prY ys f t)) (.slice u (t - f) d) ∧ Below w.heap.size w w' := by
 obtain ⟨s, c, u, d, g0, g1, hr, hr'⟩ := h
 have hl := hok.len
 have hsh := hok.short
 obtain ⟨sb, so, rfl⟩ := int_some hr (by omega)
 obtain ⟨-, hlen, hcap, -⟩ := hr.sl_at
 obtain ⟨-, hlen', hcap', -⟩ := hr'.sl_at
 unfold maxLen at hcap hcap'
 have hbl : b < w.heap.size := World.block_lt_of_cell? w _ g0
 have hf0 := Int.natCast_nonneg f
 have ht0 := Int.natCast_nonneg t
 have q1 : IntKind.i64.wrap ((t : Int) + 1) = (t : Int) + 1 := wrap_of (by omega) (by omega)
 go_enter Try.func104, Try.ntmps104
 go_wp2_with fail
 obtain ⟨w1, e1, R, hb1, hz1⟩ := box2 w 40 (.slice none 0 0) (.slice none 0 0)
 rw [e1]
 replace g0 := (hb1.cell (p := ⟨b, o, none⟩) hbl).trans g0
 replace g1 := (hb1.cell (p := ⟨b, o + 1, none⟩) hbl).trans g1
 obtain ⟨r0, r1, rl⟩ := R.all2
 have rf0 := R.frozen 0
 have rf1 := R.frozen 1
 clear e1
 go_region
 obtain ⟨p, hp⟩ : ∃ p, (if d = f then u else Option.map (fun x => x.add f) u) = p := ⟨_, rfl⟩
 rw [hp]
 have Hp := Lib.hid hp
 clear hp
 go_wp2_with fail
 have K1 := ((R.set 0 (.slice (some ⟨sb, so + f, none⟩) (t + 1 - f) (c - f))).set 1 (.slice p (t - f) (d - f))).drew
 have k0 := K1.c0
 have k1 := K1.c1
 refine bodyPost_ret (v := .agg #[.slice (some ⟨sb, so + f, none⟩) (t + 1 - f) (c - f), .slice p (t - f) (d - f)]) (by simp [results, Try.results104, go_sem, k0, k1]) rfl ?_
 have hB : Below w.heap.size w ((w1.setCell ⟨w.heap.size, 0, none⟩ (.slice (some ⟨sb, so + f, none⟩) (t + 1 - f) (c - f))).setCell ⟨w.heap.size, 1, none⟩ (.slice p (t - f) (d - f))).drew := (Below.setCell (Below.setCell hb1 (Nat.le_refl _) _) (Nat.le_refl _) _).drew
 refine ⟨_, _, _, _, by rw [show t + 1 - f = t - f + 1 by omega], ?_, ?_, hB⟩
 ·
  unfold prX
  exact (rd_cut hr (by omega) (by omega) (by unfold maxLen; omega)).below hB
 ·
  refine Rd.below ?_ hB
  unfold prY
  rw [← Hp.out]
  have hun : u = none → d = 0 := by
   obtain ⟨_, _, e5, _, _, hun⟩ := hr'.slice
   simp only [Value.slice.injEq] at e5
   obtain ⟨e6, -, e7⟩ := e5
   rw [e6, e7]
   exact hun
  by_cases htf : t = f
  ·
   subst htf
   rw [Nat.sub_self, List.take_zero]
   refine rd_nilp (by unfold maxLen; omega) fun hp => ?_
   by_cases hdt : d = t
   ·
    omega
   ·
    rw [if_neg hdt] at hp
    have := hun (by cases u; rfl; simp at hp)
    omega
  ·
   have htf2 : f < t := by omega
   have h9 := Nat.le_trans ht hlen'
   have hdf : ¬ d = f := fun e => Nat.lt_irrefl f (by rw [e] at h9; exact Nat.lt_of_lt_of_le htf2 h9)
   rw [if_neg hdf]
   obtain ⟨ub, uo, rfl⟩ := int_some hr' (by omega)
   rw [show Option.map (fun x => x.add f) (some (⟨ub, uo, none⟩ : Addr)) = some ⟨ub, uo + f, none⟩ from by simp [Addr.add]]
   exact rd_cut (zs := ys) (f := f) (n := t - f) hr' (by omega) (show t - f ≤ d - f from Nat.sub_le_sub_right h9 f) (by unfold maxLen; omega)
theorem wdAt_part {w : World} {g T : Nat} {xs ys : List Int} {f t : Nat} {s u : Option Addr} {c d : Nat} (L : Blk w g T [.slice s (t - f + 1) c, .slice u (t - f) d]) (hr : Rd w (intsD (prX xs f t)) (.slice s (t - f + 1) c)) (hq : Rd w (intsD (prY ys f t)) (.slice u (t - f) d)) (hft : f ≤ t) (ht : t ≤ ys.length) (hl : xs.length = ys.length + 1) : WdAt w g 0 (prX xs f t) (prY ys f t) := by
 have e1 := prX_len (xs := xs) hft (by omega)
 have e2 := prY_len (ys := ys) (f := f) ht
 rw [← e1] at L hr
 rw [← e2] at L hq
 exact L.wdAt hr hq
def MatC (tm am : Int) (N : Nat) : Prop := ∀ (e : Ex) (b o : Nat) (xs ys : List Int) (vb vo : Nat) (w : World), e.size ≤ N → ExAt w b o e → e.tree tm am = true → WdAt w vb vo xs ys → WOk xs ys →
  Calls Try.prog 52 #[.pointer (some ⟨b, o, none⟩), .pointer (some ⟨vb, vo, none⟩)] w fun f w' => f = .returned (.bool (mtB e xs ys)) ∧ Below w.heap.size w w'
set_option maxRecDepth 100000 in
set_option maxHeartbeats 16000000 in
theorem l01Again_i {tm am : Int} {N : Nat} (ih : MatC tm am N) {e : Ex} {b o : Nat} {xs ys : List Int} {vb vo : Nat} {w : World} (hN : e.size ≤ N) (he : ExAt w b o e) (ht : e.tree tm am = true) (hw : WdAt w vb vo xs ys) (hok : WOk xs ys) :
  Calls Try.prog 105 #[.pointer (some ⟨b, o, none⟩), .pointer (some ⟨vb, vo, none⟩)] w fun f w' => f = .returned (.bool (spB (.mk 8 0 [e]) xs ys 0 ys.length)) ∧ Below w.heap.size w w' := by
 have hW := hw
 obtain ⟨s, c, u, d, g0, g1, hr, hr'⟩ := hw
 obtain ⟨-, hlen', hcap', -⟩ := hr'.sl_at
 unfold maxLen at hcap'
 have hvl : vb < w.heap.size := World.block_lt_of_cell? w _ g0
 have hsh := hok.short
 have hbl : b < w.heap.size := World.block_lt_of_cell? w _ he.1
 have HW := Lib.hid hW
 have HE := Lib.hid he
 have Hok := Lib.hid hok
 obtain ⟨n, hn⟩ : ∃ n, ys.length + 1 = n := ⟨_, rfl⟩
 have q1 : IntKind.i64.wrap ((ys.length : Int) + 1) = (n : Int) := by rw [show (ys.length : Int) + 1 = (n : Int) by omega]; exact wrap_of (by omega) (by omega)
 have hn12 : n ≤ 11 := by omega
 have hn1 : 1 ≤ n := by omega
 have Hn := Lib.hid hn
 have hn0 := Int.natCast_nonneg n
 obtain ⟨i0, hi, hz0, hz1, hz2'⟩ := info_parts info_bl
 clear hW hr hr' he hok hn
 go_enter Try.func105, Try.ntmps105
 go_wp2_with (at_make; go_must (refine wpList_make_full _ rfl _ _ 114 rfl w.heap.size 4 i0 (.bool false) 1 Try.underlying114 hi hz0 hz1 .i64 .i64 _ _ n rfl rfl rfl rfl (by rw [hz2']; omega) (by unfold maxLen; omega) (by simp) ?_); intro w1 hown hgrow; obtain ⟨hb0, -⟩ := made_blk (z := .bool false) rfl hown; have hb1 : Blk w1 w.heap.size 4 ((List.replicate n false).map Value.bool) := (by simpa using hb0); have x0 := arr_cell hb1 (i := 0) (x := false) (by rw [List.getElem?_replicate, if_pos (by omega)]); have f0 := hb1.frozen 0; have lg := hb1.lt)
 have hB1 : Below w.heap.size w w1 := Below.grown (Below.refl _ _) hgrow (by simp) (by simp)
 have hbl0 : (bakL e xs ys).length = n := by rw [bakL_len]; exact Hn.out
 have hfill := (FillL.start (z := false) hbl0).step (v := true) (by rw [bakL_at (Nat.zero_le _), spB_star_zero])
 have Hst := Lib.hid (And.intro (arr_set hb1 0 true) (And.intro hfill (Below.setCell (p := ⟨w.heap.size, 0, none⟩) hB1 (Nat.le_refl _) (.bool true))))
 clear hown hgrow hb0 hb1 x0 f0 lg hfill hB1
 go_loopw [7] (fun i wr => ∃ (k : Nat) (L : List Bool), k ≤ n ∧ 1 ≤ k ∧ i = .int .i64 k ∧ Blk wr w.heap.size 4 (L.map Value.bool) ∧ FillL false (bakL e xs ys) k L ∧ Below w.heap.size w wr) (fun i _ => n - (intOf i).toNat)
 case atStart => exact ⟨1, _, hn1, Nat.le_refl _, rfl, Hst.out⟩
 case round =>
  clear Hst
  obtain ⟨k, L, hk, hk1, rfl, hb, hfill, hB⟩ := hrel
  obtain ⟨wo, rfl⟩ : ∃ v, v = wr := ⟨_, rfl⟩
  have hk0 := Int.natCast_nonneg k
  have hLl : L.length = n := by have := hfill.1; rw [hbl0] at this; exact this
  have HB := Lib.hid hB
  by_cases hkn : k < n
  rotate_left
  ·
   obtain rfl : k = n := by omega
   obtain rfl : L = bakL e xs ys := FillL.all (by rw [hbl0]; exact hfill)
   have x0 := arr_cell hb (bakL_at (a := e) (xs := xs) (ys := ys) (Nat.le_refl ys.length))
   have hgt : (ys.length : Int) < (k : Int) := by have := Hn.out; omega
   have lg := hb.lt
   clear hb hfill hB
   go_wp2_with fail
   go_ret
   exact ⟨rfl, HB.out⟩
  have hle : (k : Int) ≤ (ys.length : Int) := by have := Hn.out; omega
  have hky : k ≤ ys.length := by omega
  have Hfill := Lib.hid (fun v h => hfill.step (v := v) h)
  have Hlow := Lib.hid hfill.2.1
  have hkl : k < L.length := by omega
  have Hb0 := Lib.hid (show Blk wo w.heap.size 4 ((L.set k false).map Value.bool) by rw [set_zero_same (hfill.at (by rw [hbl0]; exact hkn))]; exact hb)
  clear hb hfill hB
  go_wp2_with fail
  go_loopw [8] (fun i wr => ∃ (j : Nat) (p : Bool), j ≤ k ∧ i = .int .i64 j ∧ Hid (p = bakTo e xs ys k j) ∧ Blk wr w.heap.size 4 ((L.set k p).map Value.bool) ∧ Below w.heap.size w wr) (fun i _ => k - (intOf i).toNat)
  case atStart => exact ⟨0, false, Nat.zero_le _, rfl, bakTo_zero.symm, Hb0.out, HB.out⟩
  case round =>
   clear Hb0 HB
   obtain ⟨j, p, hj, rfl, HP, hb, hB⟩ := hrel
   obtain ⟨wj, rfl⟩ : ∃ v, v = wr := ⟨_, rfl⟩
   have hj0 := Int.natCast_nonneg j
   have Hb := Lib.hid hb
   have HB := Lib.hid hB
   have szB := hB.size
   have lg := hb.lt
   have x0 := arr_cell hb (set_at (x := p) hkl)
   have hkz : (k : Int) < (n : Int) := by omega
   cases p
   rotate_left
   ·
    have HF := Lib.hid (Hfill.out true (by rw [bakL_at hky, ← bakTo_all hk1]; exact congrArg some (bakTo_more HP.out.symm hj)))
    by_cases hjk : j < k
    ·
     have d1 : decide ((j : Int) < (k : Int)) = true := by simp; omega
     clear hb hB
     go_wp2_with fail
     go_roundw
     case rel => exact ⟨k + 1, _, by omega, by omega, by go_num, Hb.out, HF.out, HB.out⟩
     case measure => simp [intOf]; omega
    ·
     have d1 : decide ((j : Int) < (k : Int)) = false := by simp; omega
     clear hb hB
     go_wp2_with fail
     go_roundw
     case rel => exact ⟨k + 1, _, by omega, by omega, by go_num, Hb.out, HF.out, HB.out⟩
     case measure => simp [intOf]; omega
   by_cases hjk : j < k
   rotate_left
   ·
    obtain rfl : j = k := by omega
    have HF := Lib.hid (Hfill.out false (by rw [bakL_at hky, ← bakTo_all hk1]; exact congrArg some HP.out.symm))
    clear hb hB
    go_wp2_with fail
    go_roundw
    case rel => exact ⟨j + 1, _, by omega, by omega, by go_num, Hb.out, HF.out, HB.out⟩
    case measure => simp [intOf]; omega
   have hjz : (j : Int) < (n : Int) := by omega
   have hjkz : (j : Int) < (k : Int) := by omega
   obtain ⟨v, hv⟩ : ∃ v, spB (.mk 8 0 [e]) xs ys 0 j = v := ⟨_, rfl⟩
   have y0 := arr_cell (i := j) (x := v) hb (by rw [List.getElem?_set_ne (by omega), Hlow.out j hjk, bakL_at (by omega), hv])
   have Hsu := Lib.hid (bakTo_succ (a := e) (xs := xs) (ys := ys) (k := k) (m := j))
   have Hv := Lib.hid hv
   clear hv hb hB
   cases v
   ·
    have HP2 : Hid (false = bakTo e xs ys k (j + 1)) := by show _ = _; rw [Hsu.out, ← HP.out, Hv.out]; rfl
    go_wp2_with fail
    go_roundw
    case rel => exact ⟨j + 1, false, by omega, by go_num, HP2, Hb.out, HB.out⟩
    case measure => simp [intOf]; omega
   ·
    go_wp2_with fail
    refine (l01Part_i (HW.out.below HB.out) Hok.out (show j ≤ k by omega) hky).mono ?_
    rintro f w2 ⟨s2, c2, u2, d2, rfl, hr2, hq2, hb2⟩
    clear x0 y0
    go_wp2_with fail
    obtain ⟨w3, e3, A, hb3, hz3⟩ := box2 w2 40 (.slice s2 (k - j + 1) c2) (.slice u2 (k - j) d2)
    rw [e3]
    have hwd := wdAt_part A (hr2.below hb3) (hq2.below hb3) (show j ≤ k by omega) hky Hok.out.len
    have hB3 := (HB.out.trans (hb2.mono szB)).trans (hb3.mono (by have := hb2.size; omega))
    have hb33 := (Hb.out.below hb2).below hb3
    clear e3 hb3 hr2 hq2 hb2 A
    refine (ih e b o _ _ _ _ _ hN (HE.out.below hB3) ht hwd (Hok.out.part (show j ≤ k by omega) hky)).mono ?_
    rintro f w4 ⟨rfl, hb4⟩
    rw [mtB_part (show j ≤ k by omega) hky]
    obtain ⟨r, hr⟩ : ∃ r, spB e xs ys j k = r := ⟨_, rfl⟩
    rw [hr]
    have HP2 : Hid (r = bakTo e xs ys k (j + 1)) := by show _ = _; rw [Hsu.out, ← HP.out, Hv.out, hr]; rfl
    have hb44 := hb33.below hb4
    have x0 := arr_cell hb44 (set_at (x := false) hkl)
    have f0 := hb44.frozen k
    have lg4 := hb44.lt
    have Hfin := Lib.hid (And.intro (by have h := arr_set hb44 k r; rw [set_twice] at h; exact h) (Below.setCell (p := ⟨w.heap.size, k, none⟩) (hB3.trans (hb4.mono hB3.size)) (Nat.le_refl _) (.bool r)))
    clear hr hb44 hb33 hb4 hB3 hwd hz3
    go_wp2_with fail
    go_roundw
    case rel => exact ⟨j + 1, r, by omega, by go_num, HP2, Hfin.out.1, Hfin.out.2⟩
    case measure => simp [intOf]; omega
theorem mtB_sum {n : Int} {a b : Ex} {xs ys : List Int} : mtB (.mk 6 n [a, b]) xs ys = (mtB a xs ys || mtB b xs ys) := spB_sum
theorem mtB_star {n : Int} {a : Ex} {xs ys : List Int} : mtB (.mk 8 n [a]) xs ys = spB (.mk 8 0 [a]) xs ys 0 ys.length := spB_star_num
theorem mtB_dot {n : Int} {a b : Ex} {xs ys : List Int} : mtB (.mk 7 n [a, b]) xs ys = dotTo a b xs ys 0 ys.length (ys.length + 1) := dotTo_all.symm
set_option maxRecDepth 100000 in
set_option maxHeartbeats 16000000 in
theorem l01Match_all (tm am : Int) (htm : tm ≤ 2) (N : Nat) : MatC tm am N := by
  induction N using Nat.strongRecOn with
  | _ N ih =>
  intro e b o xs ys vb vo w hN he htr hw hok
  have hat := he
  have hW := hw
  obtain ⟨k, n, ks⟩ := e
  obtain ⟨g0, g1, s, c, g2, hr⟩ := he
  simp only [Ex.kind, Ex.num, Ex.kids] at g0 g1 g2 hr
  obtain ⟨hk, hnum, hc, htl⟩ := tree_parts htr
  obtain ⟨p, pc, q, qc, v0, v1, rx, ry⟩ := hw
  obtain ⟨-, hlx, hcx, -⟩ := rx.sl_at
  obtain ⟨-, hly, hcy, -⟩ := ry.sl_at
  unfold maxLen at hcx hcy
  obtain ⟨sb, so, rfl⟩ := int_some rx (by rw [hok.len]; omega)
  obtain ⟨x, hx, hx0, hx7, -⟩ := hok.atom (i := 0) (Nat.zero_le _)
  have hsh := hok.short
  have hlen := hok.len
  have Hok := Lib.hid hok
  have HW := Lib.hid hW
  have Hat := Lib.hid hat
  have Hc := Lib.hid hc
  have Htl := Lib.hid htl
  have Ih := Lib.hid ih
  have Htr := Lib.hid htr
  have hx1 : 0 < xs.length := by omega
  clear htl ih hat hW hok htr hlen
  rcases kind_cases hk with rfl | rfl | rfl | rfl | rfl | rfl | rfl | rfl
  · have e1 : mtB (.mk 1 n ks) xs ys = (decide (ys.length = 0) && Ex.tru x (.mk 1 n ks)) := mt_else (by omega) Hok.out hx
    have hcc : Ex.cond (.mk 1 n ks) = true := by rw [Ex.cond_eq]; simp [Ex.kind, Ex.kids, condKind, kidsN_none hk (by omega), Ex.condL]
    rw [e1]
    have HX := Lib.hid hx
    have Hcc := Lib.hid hcc
    clear e1 hcc hx hk hnum
    by_cases hy : ys.length = 0
    · obtain ⟨-, y0⟩ := int_in rx HX.out
      simp only [Nat.add_zero] at y0
      obtain ⟨r, hr0⟩ : ∃ r, (decide (ys.length = 0) && Ex.tru x (.mk 1 n ks)) = r := ⟨_, rfl⟩
      have Hr0 : Hid (Ex.tru x (.mk 1 n ks) = r) := by show _ = _; rw [← hr0, decide_eq_true hy, Bool.true_and]
      rw [hr0]
      have d1 : ((ys.length : Int) == 0) = true := by simp [hy]
      clear hy hr0
      go_enter Try.func52, Try.ntmps52
      go_wp2_with fail
      refine (l01True_all tm am x htm hx0 hx7 _ _ _ _ _ (Nat.le_refl _) Hat.out Htr.out Hcc.out).mono ?_
      rintro z w' ⟨rfl, rfl⟩
      rw [Hr0.out]
      go_wp2_with fail
      go_ret
      exact ⟨rfl, Below.refl _ _⟩
    · rw [decide_eq_false hy, Bool.false_and]
      have d1 : ((ys.length : Int) == 0) = false := by simp [hy]
      clear hy
      go_enter Try.func52, Try.ntmps52
      go_wp2_with fail
      go_ret
      exact ⟨rfl, Below.refl _ _⟩
  · have e1 : mtB (.mk 2 n ks) xs ys = (decide (ys.length = 0) && Ex.tru x (.mk 2 n ks)) := mt_else (by omega) Hok.out hx
    have hcc : Ex.cond (.mk 2 n ks) = true := by rw [Ex.cond_eq]; simp [Ex.kind, Ex.kids, condKind, kidsN_none hk (by omega), Ex.condL]
    rw [e1]
    have HX := Lib.hid hx
    have Hcc := Lib.hid hcc
    clear e1 hcc hx hk hnum
    by_cases hy : ys.length = 0
    · obtain ⟨-, y0⟩ := int_in rx HX.out
      simp only [Nat.add_zero] at y0
      obtain ⟨r, hr0⟩ : ∃ r, (decide (ys.length = 0) && Ex.tru x (.mk 2 n ks)) = r := ⟨_, rfl⟩
      have Hr0 : Hid (Ex.tru x (.mk 2 n ks) = r) := by show _ = _; rw [← hr0, decide_eq_true hy, Bool.true_and]
      rw [hr0]
      have d1 : ((ys.length : Int) == 0) = true := by simp [hy]
      clear hy hr0
      go_enter Try.func52, Try.ntmps52
      go_wp2_with fail
      refine (l01True_all tm am x htm hx0 hx7 _ _ _ _ _ (Nat.le_refl _) Hat.out Htr.out Hcc.out).mono ?_
      rintro z w' ⟨rfl, rfl⟩
      rw [Hr0.out]
      go_wp2_with fail
      go_ret
      exact ⟨rfl, Below.refl _ _⟩
    · rw [decide_eq_false hy, Bool.false_and]
      have d1 : ((ys.length : Int) == 0) = false := by simp [hy]
      clear hy
      go_enter Try.func52, Try.ntmps52
      go_wp2_with fail
      go_ret
      exact ⟨rfl, Below.refl _ _⟩
  · have e1 : mtB (.mk 3 n ks) xs ys = (decide (ys.length = 0) && Ex.tru x (.mk 3 n ks)) := mt_else (by omega) Hok.out hx
    have hcc : Ex.cond (.mk 3 n ks) = true := by rw [Ex.cond_eq]; simp [Ex.kind, Ex.kids, condKind, kidsN_none hk (by omega), Ex.condL]
    rw [e1]
    have HX := Lib.hid hx
    have Hcc := Lib.hid hcc
    clear e1 hcc hx hk hnum
    by_cases hy : ys.length = 0
    · obtain ⟨-, y0⟩ := int_in rx HX.out
      simp only [Nat.add_zero] at y0
      obtain ⟨r, hr0⟩ : ∃ r, (decide (ys.length = 0) && Ex.tru x (.mk 3 n ks)) = r := ⟨_, rfl⟩
      have Hr0 : Hid (Ex.tru x (.mk 3 n ks) = r) := by show _ = _; rw [← hr0, decide_eq_true hy, Bool.true_and]
      rw [hr0]
      have d1 : ((ys.length : Int) == 0) = true := by simp [hy]
      clear hy hr0
      go_enter Try.func52, Try.ntmps52
      go_wp2_with fail
      refine (l01True_all tm am x htm hx0 hx7 _ _ _ _ _ (Nat.le_refl _) Hat.out Htr.out Hcc.out).mono ?_
      rintro z w' ⟨rfl, rfl⟩
      rw [Hr0.out]
      go_wp2_with fail
      go_ret
      exact ⟨rfl, Below.refl _ _⟩
    · rw [decide_eq_false hy, Bool.false_and]
      have d1 : ((ys.length : Int) == 0) = false := by simp [hy]
      clear hy
      go_enter Try.func52, Try.ntmps52
      go_wp2_with fail
      go_ret
      exact ⟨rfl, Below.refl _ _⟩
  · obtain ⟨r, hr0⟩ : ∃ r, mtB (.mk 4 n ks) xs ys = r := ⟨_, rfl⟩
    rw [hr0]
    rw [mt_act Hok.out] at hr0
    have gg0 := fun d os => cell_regrown v0 d os
    have gg1 := fun d os => cell_regrown v1 d os
    have gg2 := fun d os => cell_regrown g1 d os
    by_cases hy : ys.length = 1
    · obtain ⟨y, hy1, -⟩ := Hok.out.act (i := 0) (by omega)
      obtain ⟨yb, yo, rfl⟩ := int_some ry (by omega)
      obtain ⟨-, y0⟩ := int_in ry hy1
      simp only [Nat.add_zero] at y0
      have gg3 := fun d os => cell_regrown y0 d os
      have d1 : ((ys.length : Int) == 1) = true := by simp [hy]
      have d2 : (y == n) = r := by rw [← hr0, decide_eq_true hy, Bool.true_and, List.getD_eq_getElem?_getD, hy1]; rfl
      have hz1 : (0 : Int) < (ys.length : Int) := by omega
      clear hr0 hy hy1 rx ry
      go_enter Try.func52, Try.ntmps52
      go_wp2_with fail
      refine Go.wp_region_quiet_below (by kernel_rfl) (by kernel_rfl) ?_
      repeat (first | go_big_quiet_step ((fail)) | quiet_step ((fail)))
      refine wpQuiet_nil ?_; intro _ hw'; obtain ⟨⟨dq, osq⟩, hw''⟩ := hw'; subst hw''; have hq := below_regrown w dq osq; revert hq; generalize grow (redrawn w dq) osq = w2; intro hq
      go_wp2_with fail
      go_ret
      exact ⟨rfl, hq⟩
    · have d1 : ((ys.length : Int) == 1) = false := by simp; omega
      rw [decide_eq_false hy, Bool.false_and] at hr0
      subst hr0
      clear hy rx ry
      go_enter Try.func52, Try.ntmps52
      go_wp2_with fail
      refine Go.wp_region_quiet_below (by kernel_rfl) (by kernel_rfl) ?_
      repeat (first | go_big_quiet_step ((fail)) | quiet_step ((fail)))
      refine wpQuiet_nil ?_; intro _ hw'; obtain ⟨⟨dq, osq⟩, hw''⟩ := hw'; subst hw''; have hq := below_regrown w dq osq; revert hq; generalize grow (redrawn w dq) osq = w2; intro hq
      go_wp2_with fail
      go_ret
      exact ⟨rfl, hq⟩
  · have e1 : mtB (.mk 5 n ks) xs ys = (decide (ys.length = 0) && Ex.tru x (.mk 5 n ks)) := mt_else (by omega) Hok.out hx
    have hcc : Ex.cond (.mk 5 n ks) = true := by rw [Ex.cond_eq]; simp [Ex.kind, Ex.kids, condKind, hc rfl]
    rw [e1]
    have HX := Lib.hid hx
    have Hcc := Lib.hid hcc
    clear e1 hcc hx hk hnum
    by_cases hy : ys.length = 0
    · obtain ⟨-, y0⟩ := int_in rx HX.out
      simp only [Nat.add_zero] at y0
      obtain ⟨r, hr0⟩ : ∃ r, (decide (ys.length = 0) && Ex.tru x (.mk 5 n ks)) = r := ⟨_, rfl⟩
      have Hr0 : Hid (Ex.tru x (.mk 5 n ks) = r) := by show _ = _; rw [← hr0, decide_eq_true hy, Bool.true_and]
      rw [hr0]
      have d1 : ((ys.length : Int) == 0) = true := by simp [hy]
      clear hy hr0
      go_enter Try.func52, Try.ntmps52
      go_wp2_with fail
      refine (l01True_all tm am x htm hx0 hx7 _ _ _ _ _ (Nat.le_refl _) Hat.out Htr.out Hcc.out).mono ?_
      rintro z w' ⟨rfl, rfl⟩
      rw [Hr0.out]
      go_wp2_with fail
      go_ret
      exact ⟨rfl, Below.refl _ _⟩
    · rw [decide_eq_false hy, Bool.false_and]
      have d1 : ((ys.length : Int) == 0) = false := by simp [hy]
      clear hy
      go_enter Try.func52, Try.ntmps52
      go_wp2_with fail
      go_ret
      exact ⟨rfl, Below.refl _ _⟩
  · have hself := Nat.le_refl N
    obtain ⟨x', y', rfl⟩ := two_kids hk (by omega)
    have kx : [x', y'][0]? = some x' := rfl
    have ky : [x', y'][1]? = some y' := rfl
    obtain ⟨b', o', rfl⟩ := kid_some hr (by simp)
    have hxt : Ex.tree tm am x' = true := Ex.treeL_mem Htl.out (by simp)
    have hyt : Ex.tree tm am y' = true := Ex.treeL_mem Htl.out (by simp)
    have hxs : x'.size < N := by simp only [Ex.size, Ex.sizeL] at hN; omega
    have hys : y'.size < N := by simp only [Ex.size, Ex.sizeL] at hN; omega
    have hax := kid_exAt hr kx
    have hay := kid_exAt hr ky
    simp only [Nat.zero_mul, Nat.one_mul, Nat.add_zero] at hax hay
    obtain ⟨-, hkl, hkc, -, -⟩ := kid_at hr
    unfold maxLen at hkc
    simp only [List.length_cons, List.length_nil] at hkl
    have Hax := Lib.hid hax
    have Hay := Lib.hid hay
    rw [mtB_sum]
    clear hk hnum hax hay kx ky hr rx ry hx
    go_enter Try.func52, Try.ntmps52
    go_wp2_with fail
    refine (Ih.out _ hxs x' _ _ _ _ _ _ _ (Nat.le_refl _) Hax.out hxt HW.out Hok.out).mono ?_
    rintro z w1 ⟨rfl, hb1⟩
    have hbl : b < w.heap.size := World.block_lt_of_cell? w _ g0
    have g2' := (hb1.cell (p := ⟨b, o + 2, none⟩) hbl).trans g2
    clear g0 g1 g2 v0 v1
    cases h1 : mtB x' xs ys
    all_goals
      go_wp2_with fail
      first
        | (refine (Ih.out _ hys y' _ _ _ _ _ _ _ (Nat.le_refl _) (Hay.out.below hb1) hyt (HW.out.below hb1) Hok.out).mono ?_
           rintro z w2 ⟨rfl, hb2⟩
           go_wp2_with fail
           go_ret
           exact ⟨ret_bool (by simp [h1]), Below.on hb1 hb2 hb1.size⟩)
        | (go_ret
           exact ⟨ret_bool (by simp [h1]), hb1⟩)
  · have hself := Nat.le_refl N
    obtain ⟨x', y', rfl⟩ := two_kids hk (by omega)
    have kx : [x', y'][0]? = some x' := rfl
    have ky : [x', y'][1]? = some y' := rfl
    obtain ⟨b', o', rfl⟩ := kid_some hr (by simp)
    have hxt : Ex.tree tm am x' = true := Ex.treeL_mem Htl.out (by simp)
    have hyt : Ex.tree tm am y' = true := Ex.treeL_mem Htl.out (by simp)
    have hxs : x'.size < N := by simp only [Ex.size, Ex.sizeL] at hN; omega
    have hys : y'.size < N := by simp only [Ex.size, Ex.sizeL] at hN; omega
    have hax := kid_exAt hr kx
    have hay := kid_exAt hr ky
    simp only [Nat.zero_mul, Nat.one_mul, Nat.add_zero] at hax hay
    obtain ⟨-, hkl, hkc, -, -⟩ := kid_at hr
    unfold maxLen at hkc
    simp only [List.length_cons, List.length_nil] at hkl
    have Hax := Lib.hid hax
    have Hay := Lib.hid hay
    rw [mtB_dot]
    have hbl : b < w.heap.size := World.block_lt_of_cell? w _ g0
    have hvl : vb < w.heap.size := World.block_lt_of_cell? w _ v0
    have G2 := Lib.hid g2
    have V1 := Lib.hid v1
    obtain ⟨m, hm⟩ : ∃ m, ys.length = m := ⟨_, rfl⟩
    have Hm := Lib.hid hm
    rw [hm] at v1 hsh hly ⊢
    have hm0 := Int.natCast_nonneg m
    clear hk hnum hax hay kx ky hr rx ry hx hm
    go_enter Try.func52, Try.ntmps52
    go_wp2_with fail
    clear g0 g1 g2 v0 v1
    go_loopw [6] (fun i wr => ∃ j : Nat, j ≤ m + 1 ∧ i = .int .i64 j ∧ Hid (dotTo x' y' xs ys 0 m j = false) ∧ Below w.heap.size w wr) (fun i _ => m + 1 - (intOf i).toNat)
    case atStart => exact ⟨0, Nat.zero_le _, rfl, dotTo_zero (Nat.le_refl _), Below.refl _ _⟩
    case round =>
      obtain ⟨j, hj, rfl, HJ, hB⟩ := hrel
      obtain ⟨wo, rfl⟩ : ∃ v, v = wr := ⟨_, rfl⟩
      have hj0 := Int.natCast_nonneg j
      have HB := Lib.hid hB
      have szB := hB.size
      by_cases hjm : j ≤ m
      rotate_left
      · obtain rfl : j = m + 1 := by omega
        have HJ' := HJ.out
        have hgt : (m : Int) < ((m + 1 : Nat) : Int) := by omega
        clear hB
        go_wp2_with fail
        go_ret
        exact ⟨ret_bool HJ'.symm, HB.out⟩
      have hjz : (j : Int) ≤ (m : Int) := by omega
      have Hsu := Lib.hid (dotTo_succ (a := x') (b := y') (xs := xs) (ys := ys) (i := 0) (k := m) (m := j))
      clear hB
      go_wp2_with fail
      refine (l01Part_i (f := 0) (t := j) (HW.out.below HB.out) Hok.out (Nat.zero_le _) (by rw [Hm.out]; exact hjm)).mono ?_
      rintro f w2 ⟨s2, c2, u2, d2, rfl, hr2, hq2, hb2⟩
      go_wp2_with fail
      obtain ⟨w3, e3, A, hb3, hz3⟩ := box2 w2 40 (.slice s2 (j + 1) c2) (.slice u2 j d2)
      rw [e3]
      have hB3 := (HB.out.trans (hb2.mono szB)).trans (hb3.mono (by have := hb2.size; omega))
      have hwd := wdAt_part (f := 0) (t := j) A (hr2.below hb3) (hq2.below hb3) (Nat.zero_le _) (by rw [Hm.out]; exact hjm) Hok.out.len
      refine (l01Part_i (f := j) (t := m) (HW.out.below hB3) Hok.out hjm (by rw [Hm.out]; exact Nat.le_refl _)).mono ?_
      rintro f w4 ⟨s4, c4, u4, d4, rfl, hr4, hq4, hb4⟩
      have hB4 := hB3.trans (hb4.mono hB3.size)
      have G5 := (hB4.cell (p := ⟨b, o + 2, none⟩) hbl).trans G2.out
      have G6 := ((Below.alloc hB4 hB4.size (.cells #[.slice s4 (m - j + 1) c4, .slice u4 (m - j) d4] 40)).cell (p := ⟨b, o + 2, none⟩) hbl).trans G2.out
      have hwd4 := hwd.below hb4
      clear hr2 hq2 hb2 hb3 e3 hb4 hwd A
      go_wp2_with fail
      obtain ⟨w5, e5, A5, hb5, hz5⟩ := box2 w4 40 (.slice s4 (m - j + 1) c4) (.slice u4 (m - j) d4)
      rw [e5]
      have hB5 := hB4.trans (hb5.mono hB4.size)
      have hwa := hwd4.below hb5
      have hwb := wdAt_part A5 (hr4.below hb5) (hq4.below hb5) hjm (by rw [Hm.out]; exact Nat.le_refl _) Hok.out.len
      refine (Ih.out _ hxs x' _ _ _ _ _ _ _ (Nat.le_refl _) (Hax.out.below hB5) hxt hwa (Hok.out.part (Nat.zero_le _) (by rw [Hm.out]; exact hjm))).mono ?_
      rintro f w6 ⟨rfl, hb6⟩
      rw [mtB_part (Nat.zero_le _) (by rw [Hm.out]; exact hjm)]
      have hB6 := hB5.trans (hb6.mono hB5.size)
      have hwb6 := hwb.below hb6
      obtain ⟨v, hv⟩ : ∃ v, spB x' xs ys 0 j = v := ⟨_, rfl⟩
      have Hv := Lib.hid hv
      rw [hv]
      have G7 := (hB6.cell (p := ⟨b, o + 2, none⟩) hbl).trans G2.out
      have HB6 := Lib.hid hB6
      have hw5 := hz5
      clear hr4 hq4 hb5 e5 hb6 hwa hwb hwd4 A5 hB3 hB4 hB5 hv G5 G6 hB6
      cases v
      · have HJ2 : Hid (dotTo x' y' xs ys 0 m (j + 1) = false) := by show _ = _; rw [Hsu.out, HJ.out, Hv.out]; simp
        clear hwb6
        go_wp2_with fail
        go_roundw
        case rel => exact ⟨j + 1, by omega, by go_num, HJ2, HB6.out⟩
        case measure => simp [intOf]; omega
      · go_wp2_with fail
        refine (Ih.out _ hys y' _ _ _ _ _ _ _ (Nat.le_refl _) (Hay.out.below HB6.out) hyt hwb6 (Hok.out.part hjm (by rw [Hm.out]; exact Nat.le_refl _))).mono ?_
        rintro f w7 ⟨rfl, hb7⟩
        rw [mtB_part hjm (by rw [Hm.out]; exact Nat.le_refl _)]
        have HB7 := Lib.hid (HB6.out.trans (hb7.mono HB6.out.size))
        obtain ⟨v2, hv2⟩ : ∃ v2, spB y' xs ys j m = v2 := ⟨_, rfl⟩
        have Hv2 := Lib.hid hv2
        rw [hv2]
        clear hb7 hv2 hwb6 G7
        cases v2
        · have HJ2 : Hid (dotTo x' y' xs ys 0 m (j + 1) = false) := by show _ = _; rw [Hsu.out, HJ.out, Hv.out, Hv2.out]; simp
          go_wp2_with fail
          go_roundw
          case rel => exact ⟨j + 1, by omega, by go_num, HJ2, HB7.out⟩
          case measure => simp [intOf]; omega
        · have HR : Hid (dotTo x' y' xs ys 0 m (m + 1) = true) := by
            show _ = _
            unfold dotTo
            rw [List.any_eq_true]
            exact ⟨j, List.mem_range.2 (by omega), by rw [Hv.out, Hv2.out]; simp⟩
          go_wp2_with fail
          go_ret
          exact ⟨ret_bool HR.out.symm, HB7.out⟩
  · obtain ⟨x', rfl⟩ := one_kid hk (by omega)
    have kx : [x'][0]? = some x' := rfl
    obtain ⟨b', o', rfl⟩ := kid_some hr (by simp)
    have hxt : Ex.tree tm am x' = true := Ex.treeL_mem Htl.out (by simp)
    have hxs : x'.size < N := by simp only [Ex.size, Ex.sizeL] at hN; omega
    have hax := kid_exAt hr kx
    simp only [Nat.zero_mul, Nat.add_zero] at hax
    obtain ⟨-, hkl, hkc, -, -⟩ := kid_at hr
    unfold maxLen at hkc
    simp only [List.length_cons, List.length_nil] at hkl
    have Hax := Lib.hid hax
    rw [mtB_star]
    clear hk hnum hax kx hr rx ry hx
    go_enter Try.func52, Try.ntmps52
    go_wp2_with fail
    refine (l01Again_i (Ih.out _ hxs) (Nat.le_refl _) Hax.out hxt HW.out Hok.out).mono ?_
    rintro z w1 ⟨rfl, hb1⟩
    go_wp2_with fail
    go_ret
    exact ⟨rfl, hb1⟩
end Go.Proofs.Ytbflhjjnemdecaa

namespace Go.Proofs.Ytbflhjjnemdecaa
set_option linter.unusedVariables false
set_option linter.unusedSimpArgs false
open Go.ChangeShapes Go.WideShapes Go.ChangeAt Go.RowKit Go.Deep Go.Sort
open Classical in
open Classical in
open Classical in
theorem wordB_bd {t a : Int} {xs ys : List Int} (h : wordB t a xs ys = true) : sigB t a = true ∧ ys.length ≤ 10 ∧ xs.length = ys.length + 1 := by
 simp only [wordB, Bool.and_eq_true, decide_eq_true_eq] at h
 exact ⟨h.1.1.1.1, h.1.1.1.2, h.1.1.2⟩
end Go.Proofs.Ytbflhjjnemdecaa
