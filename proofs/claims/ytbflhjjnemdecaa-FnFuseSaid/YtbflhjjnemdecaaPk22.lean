/-
  Parts of a proof, joined: SpSv, SpSe, SpnZ, Concat. No condition.
-/
import Derived.Lib.AppendZeros
import Derived.Test.YtbflhjjnemdecaaPk20
import Derived.Test.YtbflhjjnemdecaaPk21
namespace Go.Proofs.Ytbflhjjnemdecaa
set_option linter.unusedVariables false
set_option linter.unusedSimpArgs false
open Go.ChangeShapes Go.WideShapes Go.ChangeAt Go.RowKit Go.Deep Go.Sort
set_option maxRecDepth 100000 in
set_option maxHeartbeats 16000000 in
theorem spans_7 {tm am : Int} (htm : tm ≤ 2) {N : Nat} (ih : ∀ m, m < N → SpnC tm am m) {num : Int} {ks : List Ex} {xs ys : List Int} {s p q : Option Addr} {c pc qc : Nat} {w : World} (hN : Ex.sizeL ks ≤ N) (hr : Rd w (kidsD ks) (.slice s ks.length c)) (htr : Ex.tree tm am (.mk 7 num ks) = true) (rx : Rd w (intsD xs) (.slice p xs.length pc)) (ry : Rd w (intsD ys) (.slice q ys.length qc)) (hok : WOk xs ys) :
  Calls Try.prog 110 #[.agg #[.int .i64 7, .int .i64 num, .slice s ks.length c], .agg #[.slice p xs.length pc, .slice q ys.length qc]] w fun f w' => ∃ g, f = .returned (.slice (some ⟨g, 0, none⟩) xs.length xs.length) ∧ Fresh w w' (bbD (sqL xs.length (spB (.mk 7 num ks) xs ys))) (.slice (some ⟨g, 0, none⟩) xs.length xs.length) ∧ Below w.heap.size w w' := by
 obtain ⟨hk, hnum, hc, htl⟩ := tree_parts htr
 have hk2 : ks.length ≤ 2 := by have h := hk; simp [kidsN] at h; omega
 have hsh := hok.short
 have hlen := hok.len
 have Hok := Lib.hid hok
 have Htl := Lib.hid htl
 have Ih := Lib.hid ih
 have Htr := Lib.hid htr
 have Hc := Lib.hid hc
 clear htl ih hok htr hc
 obtain ⟨n, hn⟩ : ∃ n, xs.length = n := ⟨_, rfl⟩
 rw [hn] at rx ⊢
 have Hn := Lib.hid hn
 have hn1 : 1 ≤ n := by omega
 have hn2 : n ≤ 11 := by omega
 have hyn : ys.length ≤ n := by omega
 have Hny := Lib.hid (show n = ys.length + 1 by omega)
 have Hrx := Lib.hid rx
 have Hry := Lib.hid ry
 have Hr := Lib.hid hr
 have hn0 := Int.natCast_nonneg n
 obtain ⟨-, hlx, hcx, -⟩ := rx.sl_at
 obtain ⟨-, hly, hcy, -⟩ := ry.sl_at
 unfold maxLen at hcx hcy
 clear hn hlen hsh rx ry hr
 rw [show (List.length xs) = n from Hn.out] at hlx
 go_enter Try.func110, Try.ntmps110
 go_wp2_with fail
 obtain ⟨w0, e0, E, hb0, hz0⟩ := box3 w 38 (.int .i64 7) (.int .i64 num) (.slice s ks.length c)
 rw [e0]
 obtain ⟨w1, e1, Q, hb1, hz1⟩ := box2 w0 40 (.slice p n pc) (.slice q ys.length qc)
 rw [e1]
 rw [hz0] at Q
 have hB1 := hb0.trans (hb1.mono (by omega))
 replace E := E.below hb1
 have hzz : w1.heap.size = w.heap.size + 2 := by omega
 refine (newSpans_i hn1 (by omega)).mono ?_
 rintro f w2 ⟨g, gs, rfl, hsp, hb2⟩
 have HB2 := Lib.hid (hB1.trans (hb2.mono (by omega)))
 have HE := Lib.hid (E.below hb2)
 have HQ := Lib.hid (Q.below hb2)
 obtain ⟨B0, hB0⟩ : ∃ B0, w1.heap.size = B0 := ⟨_, rfl⟩
 rw [hB0] at hsp hzz
 have hz12 := hb2.size
 rw [hB0] at hz12
 have Hsp := Lib.hid hsp
 have hz2 := HB2.out.size
 clear hB0
 have h0 := App.empty (W := w2) (size := 1) (Blk.made w2 131 #[]) (Nat.le_refl _)
 obtain ⟨x0, x1, x2, -, -, -, ltx⟩ := (HE.out.alloc (.cells #[] 131)).all3
 clear e0 e1 hb0 hb1 hb2 E Q hB1 hz0 hz1 hsp
 go_wp2_with fail
 clear x0 x1 x2 ltx
 go_loopw [7, 27] (fun v i wr => ∃ j : Nat, j ≤ ks.length ∧ i = .int .i64 j ∧ App w2 wr 131 1 j ((ks.take j).map fun e => bbD (sqL n (spB e xs ys))) v ∧ Below w2.heap.size w2 wr) (fun _ i _ => ks.length - (intOf i).toNat)
 case atStart => exact ⟨0, Nat.zero_le _, rfl, by simpa using h0, Below.alloc (Below.refl _ _) (Nat.le_refl _) _⟩
 case round =>
  clear h0
  obtain ⟨j, hj, rfl, happ, hB⟩ := hrel
  obtain ⟨wo, rfl⟩ : ∃ v, v = wr := ⟨_, rfl⟩
  have hj0 := Int.natCast_nonneg j
  have szB := hB.size
  obtain ⟨a', cap', rfl, hcap1, hcap2⟩ := happ.shape
  unfold maxLen at hcap2
  have HB := Lib.hid hB
  by_cases hjl : j < ks.length
  ·
   obtain ⟨e', he'⟩ : ∃ e', ks[j]? = some e' := ⟨_, List.getElem?_eq_getElem hjl⟩
   obtain ⟨kb, ko, rfl⟩ := kid_some Hr.out (by intro h; rw [h] at hjl; simp at hjl)
   have hjz : (j : Int) < (ks.length : Int) := by omega
   have hBw := HB2.out.trans (hB.mono hz2)
   obtain ⟨hkb, sx, cx, i0, i1, i2, hxr⟩ := kid_in Hr.out he'
   replace i0 := (hBw.cell (p := ⟨kb, ko + j * 3, none⟩) hkb).trans i0
   replace i1 := (hBw.cell (p := ⟨kb, ko + j * 3 + 1, none⟩) hkb).trans i1
   replace i2 := (hBw.cell (p := ⟨kb, ko + j * 3 + 2, none⟩) hkb).trans i2
   have hbx := Below.alloc (Below.refl wo.heap.size wo) (Nat.le_refl _) (.cells #[.int .i64 e'.kind, .int .i64 e'.num, .slice sx e'.kids.length cx] 38)
   obtain ⟨y0, y1, lty⟩ := ((HQ.out.below hB).alloc (.cells #[.int .i64 e'.kind, .int .i64 e'.num, .slice sx e'.kids.length cx] 38)).all2
   obtain ⟨v0, v1, v2, -, -, -, ltv⟩ := (Blk.new3 wo 38 (.int .i64 e'.kind) (.int .i64 e'.num) (.slice sx e'.kids.length cx)).all3
   have HA := Lib.hid happ
   have htr' := Ex.treeL_mem Htl.out (List.mem_of_getElem? he')
   have hsz : Ex.sizeL e'.kids < N := by
    have h1 := Ex.sizeL_mem (List.mem_of_getElem? he')
    have h2 := Ex.size_eq e'
    omega
   have hBx := hBw.alloc hBw.size (.cells #[.int .i64 e'.kind, .int .i64 e'.num, .slice sx e'.kids.length cx] 38)
   have Htk := Lib.hid (show (ks.take (j + 1)).map (fun e => bbD (sqL n (spB e xs ys))) = (ks.take j).map (fun e => bbD (sqL n (spB e xs ys))) ++ [bbD (sqL n (spB e' xs ys))] by
    obtain ⟨h1, h2⟩ := List.getElem?_eq_some_iff.1 he'
    rw [List.take_succ_eq_append_getElem h1, List.map_append, h2]
    rfl)
   have hih := Ih.out _ hsz e' xs ys sx p q cx pc qc _ (Nat.le_refl _) (hxr.below hBx) htr' (by rw [Hn.out]; exact Hrx.out.below hBx) (Hry.out.below hBx) Hok.out
   rw [Hn.out] at hih
   clear happ hB he' hBw hxr hBx
   go_wp2_with fail
   refine hih.mono ?_
   rintro f w5 ⟨g5, rfl, hf5, hb5⟩
   have hb55 := hbx.trans (hb5.mono (by simp))
   have hz5 := hb55.size
   have hf6 : Freshs wo (w5.alloc (.cells #[.slice (some ⟨g5, 0, none⟩) n n] 131)) [bbD (sqL n (spB e' xs ys))] [.slice (some ⟨g5, 0, none⟩) n n] := (Freshs.one (hf5.from (by simp))).on (Below.alloc (Below.refl _ _) (Nat.le_refl _) _)
   have hb6 := hb55.alloc hz5 (.cells #[.slice (some ⟨g5, 0, none⟩) n n] 131)
   have happ := HA.out
   clear i0 i1 i2 y0 y1 lty v0 v1 v2 ltv hf5 hb5 hbx hb55 hih
   go_wp2_with (at_builtin; go_must (refine wpList_append_app _ rfl _ _ 174 rfl 131 (.slice none 0 0) 1 24 Try.underlying174 info_spans rfl (by decide) _ rfl happ hb6 szB ⟨w5.heap.size, 0, none⟩ 1 1 [.slice (some ⟨g5, 0, none⟩) n n] rfl (news_blk (Blk.made _ _ _)) hf6 rfl (by simp [Value.oneCell']) (by omega) (by omega) (by unfold maxLen; omega) ?_); intro g3 cap3 w3 happ3 hb3)
   have hB3 : Below w2.heap.size w2 w3 := (HB.out.trans (hb6.mono szB)).trans hb3
   have Hfin := Lib.hid (And.intro (happ3.sized Htk.out.symm rfl) hB3)
   clear happ3 hb3 hB3 happ hf6 hb6
   go_wp2_with fail
   go_roundw
   case rel => exact ⟨j + 1, by omega, by go_num, Hfin.out.1, Hfin.out.2⟩
   case measure => simp [intOf]; omega
  obtain rfl : j = ks.length := by omega
  rw [List.take_length] at happ
  have HKf := Lib.hid (happ.freshN (f := fun e => bbD (sqL n (spB e xs ys))) rfl)
  clear happ hB
  obtain ⟨x', y', hks⟩ := two_kids hk (by omega)
  have Hks := Lib.hid hks
  have hkz0 : 0 < ks.length := by rw [hks]; simp
  have hkz1 : 1 < ks.length := by rw [hks]; simp
  obtain ⟨kb, ko, rfl⟩ := nest_some HKf.out.rd hkz0
  clear hks
  obtain ⟨wK, rfl⟩ : ∃ v, v = wo := ⟨_, rfl⟩
  obtain ⟨X, hX⟩ : ∃ X : Nat → Prop, X = fun b => b = g ∨ b ∈ gs := ⟨_, rfl⟩
  have hXb : ∀ b, X b → w.heap.size + 2 ≤ b ∧ b < w2.heap.size := by
   intro b hb
   rw [hX] at hb
   have h1 := Hsp.out.own
   rcases hb with rfl | hb
   ·
    exact ⟨by omega, Hsp.out.blk.lt⟩
   ·
    obtain ⟨i, hi⟩ := List.mem_iff_getElem?.1 hb
    exact ⟨by have := (h1.2 b hb).1; omega, (Hsp.out.row i b hi).lt⟩
  have HK : Hid (∀ W, Spares X wK W → SpK w n g gs 7 num s p q c pc qc 1 ks xs ys (.slice (some ⟨kb, ko, none⟩) ks.length cap') W) := by
   intro W hs
   refine ⟨(HE.out.below HB.out).keep (hs.block _ (HE.out.below HB.out).lt (fun h => by have := hXb _ h; omega)), (HQ.out.below HB.out).keep (hs.block _ (HQ.out.below HB.out).lt (fun h => by have := hXb _ h; omega)), (HB2.out.trans (HB.out.mono hz2)).trans (hs.below (B := w.heap.size) (by have := HB.out.size; omega) (fun b h => by have := hXb _ h; omega)), Or.inl (HKf.out.keep (fun b h1 h2 => hs.block b h2 (fun h => by have := hXb _ h; omega))).rd⟩
  have HXm := Lib.hid (fun i x (hx : gs[i]? = some x) => (show X x by rw [hX]; exact Or.inr (List.mem_of_getElem? hx)))
  obtain ⟨bs, hbs⟩ : ∃ bs : Nat → Nat → Bool, bs = fun _ _ => false := ⟨_, rfl⟩
  have Hbs := Lib.hid hbs
  have Hsp0 := Lib.hid ((Hsp.out.below HB.out).congr (K := fun r c => if r < 0 then bs r c else false) (fun r c _ _ => by rw [if_neg (Nat.not_lt_zero _)]))
  clear hX hXb hbs HE HQ HB Hsp HB2
  go_wp2_with fail
  go_loopw [39] (fun i wr => ∃ j : Nat, j ≤ n ∧ i = .int .i64 j ∧ SpW B0 n g gs (fun r c => if r < j then bs r c else false) wr ∧ Spares X wK wr) (fun i _ => n - (intOf i).toNat)
  case atStart => exact ⟨0, Nat.zero_le _, rfl, Hsp0.out, Spares.refl _⟩
  case round =>
   clear Hsp0
   obtain ⟨j, hj, rfl, hsp, hs⟩ := hrel
   obtain ⟨wo, rfl⟩ : ∃ v, v = wr := ⟨_, rfl⟩
   have hj0 := Int.natCast_nonneg j
   have Hsp := Lib.hid hsp
   have Hs := Lib.hid hs
   have hkk := HK.out wo hs
   obtain ⟨x0, x1, x2, -, -, -, ltx⟩ := hkk.E.all3
   obtain ⟨y0, y1, lty⟩ := hkk.Q.all2
   by_cases hjn : j < n
   ·
    have hjz : (j : Int) < (n : Int) := by omega
    clear hsp hs
    have Hnx := Lib.hid (Hsp.out.congr (K := fun r c => if r < j + 1 then bs r c else false) (fun r c _ _ => by rw [Hbs.out]; simp))
    clear hkk
    go_wp2_with fail
    go_roundw
    case rel => exact ⟨j + 1, by omega, by go_num, Hnx.out, Hs.out⟩
    case measure => simp [intOf]; omega
   obtain rfl : n = j := by omega
   have Hsq := Lib.hid (hsp.congr (K := bs) (fun r c hr _ => if_pos hr))
   clear Hsp hsp hs hkk
   have e1 : IntKind.i64.wrap ((n : Int) - 1) = ((n - 1 : Nat) : Int) := by rw [show (n : Int) - 1 = ((n - 1 : Nat) : Int) by omega]; exact wrap_of (by omega) (by omega)
   obtain ⟨fn, hfn⟩ : ∃ fn : Nat → Nat → Bool, fn = spB (.mk 7 num ks) xs ys := ⟨_, rfl⟩
   have Hfn := Lib.hid hfn
   have Hlow : Hid (∀ i c, c < i → bs i c = fn i c) := fun i c hci => by rw [Hfn.out, Hbs.out]; exact by cases hb : spB (.mk 7 num ks) xs ys i c with | false => rfl | true => (rw [spB_iff] at hb; have := hb.1; omega)
   clear hfn x0 x1 x2 ltx y0 y1 lty
   go_wp2_with fail
   clear e1
   go_loopw [11] (fun v wr => (∃ i : Nat, i < n ∧ v = .int .i64 i ∧ SpW B0 n g gs (moM fn bs (i + 1)) wr ∧ Spares X wK wr) ∨ (v = .int .i64 (-1) ∧ SpW B0 n g gs fn wr ∧ Spares X wK wr)) (fun i _ => (intOf i + 1).toNat)
   case atStart => exact Or.inl ⟨n - 1, by omega, rfl, Hsq.out.congr (fun r c hr _ => by unfold moM; rw [if_neg (by omega)]), Hs.out⟩
   case round =>
    clear Hsq Hs
    rcases hrel with ⟨i, hi, rfl, hsp, hs⟩ | ⟨rfl, hsp, hs⟩
    rotate_left
    ·
     have HF := Lib.hid (hsp.fresh (W := w) (by omega) hn1 (by unfold maxLen; omega))
     have HBf := Lib.hid (HK.out _ hs).bl
     clear hsp hs
     go_wp2_with fail
     go_ret
     exact ⟨g, rfl, by rw [← Hfn.out]; exact HF.out, HBf.out⟩
    obtain ⟨wo, rfl⟩ : ∃ v, v = wr := ⟨_, rfl⟩
    have hi0 := Int.natCast_nonneg i
    have Hmi := Lib.hid (hsp.congr (K := miM fn bs i i) (fun r c _ _ => mo_mi (Hlow.out i) r c))
    have Hs := Lib.hid hs
    clear hsp hs
    go_wp2_with fail
    go_loopw [12] (fun v wr => ∃ b : Nat, i ≤ b ∧ b ≤ n ∧ v = .int .i64 b ∧ SpW B0 n g gs (miM fn bs i b) wr ∧ Spares X wK wr) (fun v _ => n - (intOf v).toNat)
    case atStart => exact ⟨i, Nat.le_refl _, by omega, rfl, Hmi.out, Hs.out⟩
    case round =>
     clear Hmi Hs
     obtain ⟨b, hib, hb, rfl, hsp, hs⟩ := hrel
     obtain ⟨wp, rfl⟩ : ∃ v, v = wr := ⟨_, rfl⟩
     have hb0 := Int.natCast_nonneg b
     have Hs := Lib.hid hs
     by_cases hbn : b < n
     rotate_left
     ·
      obtain rfl : n = b := by omega
      have Hmo := Lib.hid (hsp.congr (K := moM fn bs i) (fun r c _ hc => mi_mo r c hc))
      clear hsp hs
      by_cases hi1 : i = 0
      ·
       subst hi1
       have e2 : IntKind.i64.wrap (((0 : Nat) : Int) - 1) = -1 := rfl
       have Hall := Lib.hid (Hmo.out.congr (K := fn) (fun r c _ _ => mo_all r c))
       go_wp2_with fail
       go_roundw
       case rel => exact Or.inr ⟨rfl, Hall.out, Hs.out⟩
       case measure => simp [intOf]
      ·
       obtain ⟨i', rfl⟩ : ∃ i', i = i' + 1 := ⟨i - 1, by omega⟩
       have e2 : IntKind.i64.wrap (((i' + 1 : Nat) : Int) - 1) = (i' : Int) := by rw [show ((i' + 1 : Nat) : Int) - 1 = (i' : Int) by omega]; exact wrap_of (by omega) (by omega)
       go_wp2_with fail
       go_roundw
       case rel => exact Or.inl ⟨i', by omega, by go_num, Hmo.out, Hs.out⟩
       case measure => simp [intOf]; omega
     have hbz : (b : Int) < (n : Int) := by omega
     have Hsp := Lib.hid hsp
     have hkk := HK.out wp hs
     obtain ⟨x0, x1, x2, -, -, -, ltx⟩ := hkk.E.all3
     clear hsp hs
     have Hst0 := Lib.hid (Hsp.out.congr (K := updM (miM fn bs i b) i b false) (fun r c _ _ => by have h := mi_start (fn := fn) (bs := bs) (i := i) (b := b) r c; rw [show bs i b = false by rw [Hbs.out]] at h; exact h.symm))
     clear hkk Hsp
     go_wp2_with fail
     clear x0 x1 x2 ltx
     go_loopw [13] (fun v wr => ∃ (j : Nat) (r : Bool), i ≤ j ∧ j ≤ b + 1 ∧ v = .int .i64 j ∧ Hid (r = dotTo x' y' xs ys i b j) ∧ SpW B0 n g gs (updM (miM fn bs i b) i b r) wr ∧ Spares X wK wr) (fun v _ => b + 1 - (intOf v).toNat)
     case atStart => exact ⟨i, false, Nat.le_refl _, by omega, rfl, (dotTo_zero (Nat.le_refl _)).symm, Hst0.out, Hs.out⟩
     case round =>
      clear Hst0 Hs
      obtain ⟨j, r, hij, hj, rfl, HR, hsp, hs⟩ := hrel
      obtain ⟨wq, rfl⟩ : ∃ v, v = wr := ⟨_, rfl⟩
      have hj0 := Int.natCast_nonneg j
      have Hs := Lib.hid hs
      have Hsp := Lib.hid hsp
      by_cases hjb : j ≤ b
      rotate_left
      ·
       obtain rfl : j = b + 1 := by omega
       have Hnx := Lib.hid (hsp.congr (K := miM fn bs i (b + 1)) (fun r' c _ _ => by rw [HR.out, dotTo_all (n := num), ← Hks.out, ← Hfn.out]; exact mi_upd r' c))
       have hgt : (b : Int) < ((b + 1 : Nat) : Int) := by omega
       clear hsp hs
       go_wp2_with fail
       go_roundw
       case rel => exact ⟨b + 1, by omega, by omega, by go_num, Hnx.out, Hs.out⟩
       case measure => simp [intOf]; omega
      have hjz : (j : Int) ≤ (b : Int) := by omega
      have hjn : (j : Int) < (n : Int) := by omega
      have hkd := (HK.out wq hs).kd.resolve_right (by decide)
      rw [Hks.out] at hkd
      have hkd' : Rd wq (nestD bbD [sqL n (spB x' xs ys), sqL n (spB y' xs ys)]) (.slice (some ⟨kb, ko, none⟩) [x', y'].length cap') := hkd
      obtain ⟨xr, hxr, c1, c2, c3, c4, c5, c6, c7⟩ := hsp.cells (show i < n by omega) hbn
      rw [updM_self] at c2
      obtain ⟨b1, o1, d1, b2, o2, d2, k1, k2, k3, k4, k5, k6, k7⟩ := sq_cell (q := 0) hkd' rfl (show i < n by omega) (show j < n by omega)
      obtain ⟨b3, o3, d3, b4, o4, d4, l1, l2, l3, l4, l5, l6, l7⟩ := sq_cell (q := 1) hkd' rfl (show j < n by omega) hbn
      simp only [Nat.add_zero] at k1
      unfold maxLen at k5 k7 l5 l7
      have Hset := Lib.hid (fun v : Bool => (And.intro (((hsp.set hxr v).congr (K := updM (miM fn bs i b) i b v) (fun r' c _ _ => upd_upd r' c)).drew) (spares_drew (spares_put (p := ⟨xr, b, none⟩) hs (HXm.out i xr hxr) (.bool v)))))
      obtain ⟨u1, hu1⟩ : ∃ u1, spB x' xs ys i j = u1 := ⟨_, rfl⟩
      obtain ⟨u2, hu2⟩ : ∃ u2, spB y' xs ys j b = u2 := ⟨_, rfl⟩
      rw [hu1] at k3
      rw [hu2] at l3
      have Hsu : Hid (dotTo x' y' xs ys i b (j + 1) = (r || (u1 && u2))) := by show _ = _; rw [dotTo_succ, ← HR.out, hu1, hu2, decide_eq_true hij, Bool.true_and]
      clear hkd hkd' hsp hs hu1 hu2 hxr
      cases r
      ·
       cases u1
       ·
        have HR2 : Hid (false = dotTo x' y' xs ys i b (j + 1)) := by show _ = _; rw [Hsu.out]; simp
        go_wp2_with fail
        go_region
        go_wp2_with fail
        go_roundw
        case rel => exact ⟨j + 1, false, by omega, by omega, by go_num, HR2, (Hset.out false).1, (Hset.out false).2⟩
        case measure => simp [intOf]; omega
       ·
        have HR2 : Hid (u2 = dotTo x' y' xs ys i b (j + 1)) := by show _ = _; rw [Hsu.out]; simp
        go_wp2_with fail
        go_region
        go_wp2_with fail
        go_roundw
        case rel => exact ⟨j + 1, u2, by omega, by omega, by go_num, HR2, (Hset.out u2).1, (Hset.out u2).2⟩
        case measure => simp [intOf]; omega
      ·
       have HR2 : Hid (true = dotTo x' y' xs ys i b (j + 1)) := by show _ = _; rw [Hsu.out]; simp
       go_wp2_with fail
       go_region
       go_wp2_with fail
       go_roundw
       case rel => exact ⟨j + 1, true, by omega, by omega, by go_num, HR2, (Hset.out true).1, (Hset.out true).2⟩
       case measure => simp [intOf]; omega
end Go.Proofs.Ytbflhjjnemdecaa

namespace Go.Proofs.Ytbflhjjnemdecaa
set_option linter.unusedVariables false
set_option linter.unusedSimpArgs false
open Go.ChangeShapes Go.WideShapes Go.ChangeAt Go.RowKit Go.Deep Go.Sort
set_option maxRecDepth 100000 in
set_option maxHeartbeats 16000000 in
theorem spans_8 {tm am : Int} (htm : tm ≤ 2) {N : Nat} (ih : ∀ m, m < N → SpnC tm am m) {num : Int} {ks : List Ex} {xs ys : List Int} {s p q : Option Addr} {c pc qc : Nat} {w : World} (hN : Ex.sizeL ks ≤ N) (hr : Rd w (kidsD ks) (.slice s ks.length c)) (htr : Ex.tree tm am (.mk 8 num ks) = true) (rx : Rd w (intsD xs) (.slice p xs.length pc)) (ry : Rd w (intsD ys) (.slice q ys.length qc)) (hok : WOk xs ys) :
  Calls Try.prog 110 #[.agg #[.int .i64 8, .int .i64 num, .slice s ks.length c], .agg #[.slice p xs.length pc, .slice q ys.length qc]] w fun f w' => ∃ g, f = .returned (.slice (some ⟨g, 0, none⟩) xs.length xs.length) ∧ Fresh w w' (bbD (sqL xs.length (spB (.mk 8 num ks) xs ys))) (.slice (some ⟨g, 0, none⟩) xs.length xs.length) ∧ Below w.heap.size w w' := by
 obtain ⟨hk, hnum, hc, htl⟩ := tree_parts htr
 have hk2 : ks.length ≤ 2 := by have h := hk; simp [kidsN] at h; omega
 have hsh := hok.short
 have hlen := hok.len
 have Hok := Lib.hid hok
 have Htl := Lib.hid htl
 have Ih := Lib.hid ih
 have Htr := Lib.hid htr
 have Hc := Lib.hid hc
 clear htl ih hok htr hc
 obtain ⟨n, hn⟩ : ∃ n, xs.length = n := ⟨_, rfl⟩
 rw [hn] at rx ⊢
 have Hn := Lib.hid hn
 have hn1 : 1 ≤ n := by omega
 have hn2 : n ≤ 11 := by omega
 have hyn : ys.length ≤ n := by omega
 have Hny := Lib.hid (show n = ys.length + 1 by omega)
 have Hrx := Lib.hid rx
 have Hry := Lib.hid ry
 have Hr := Lib.hid hr
 have hn0 := Int.natCast_nonneg n
 obtain ⟨-, hlx, hcx, -⟩ := rx.sl_at
 obtain ⟨-, hly, hcy, -⟩ := ry.sl_at
 unfold maxLen at hcx hcy
 clear hn hlen hsh rx ry hr
 rw [show (List.length xs) = n from Hn.out] at hlx
 go_enter Try.func110, Try.ntmps110
 go_wp2_with fail
 obtain ⟨w0, e0, E, hb0, hz0⟩ := box3 w 38 (.int .i64 8) (.int .i64 num) (.slice s ks.length c)
 rw [e0]
 obtain ⟨w1, e1, Q, hb1, hz1⟩ := box2 w0 40 (.slice p n pc) (.slice q ys.length qc)
 rw [e1]
 rw [hz0] at Q
 have hB1 := hb0.trans (hb1.mono (by omega))
 replace E := E.below hb1
 have hzz : w1.heap.size = w.heap.size + 2 := by omega
 refine (newSpans_i hn1 (by omega)).mono ?_
 rintro f w2 ⟨g, gs, rfl, hsp, hb2⟩
 have HB2 := Lib.hid (hB1.trans (hb2.mono (by omega)))
 have HE := Lib.hid (E.below hb2)
 have HQ := Lib.hid (Q.below hb2)
 obtain ⟨B0, hB0⟩ : ∃ B0, w1.heap.size = B0 := ⟨_, rfl⟩
 rw [hB0] at hsp hzz
 have hz12 := hb2.size
 rw [hB0] at hz12
 have Hsp := Lib.hid hsp
 have hz2 := HB2.out.size
 clear hB0
 have h0 := App.empty (W := w2) (size := 1) (Blk.made w2 131 #[]) (Nat.le_refl _)
 obtain ⟨x0, x1, x2, -, -, -, ltx⟩ := (HE.out.alloc (.cells #[] 131)).all3
 clear e0 e1 hb0 hb1 hb2 E Q hB1 hz0 hz1 hsp
 go_wp2_with fail
 clear x0 x1 x2 ltx
 go_loopw [7, 27] (fun v i wr => ∃ j : Nat, j ≤ ks.length ∧ i = .int .i64 j ∧ App w2 wr 131 1 j ((ks.take j).map fun e => bbD (sqL n (spB e xs ys))) v ∧ Below w2.heap.size w2 wr) (fun _ i _ => ks.length - (intOf i).toNat)
 case atStart => exact ⟨0, Nat.zero_le _, rfl, by simpa using h0, Below.alloc (Below.refl _ _) (Nat.le_refl _) _⟩
 case round =>
  clear h0
  obtain ⟨j, hj, rfl, happ, hB⟩ := hrel
  obtain ⟨wo, rfl⟩ : ∃ v, v = wr := ⟨_, rfl⟩
  have hj0 := Int.natCast_nonneg j
  have szB := hB.size
  obtain ⟨a', cap', rfl, hcap1, hcap2⟩ := happ.shape
  unfold maxLen at hcap2
  have HB := Lib.hid hB
  by_cases hjl : j < ks.length
  ·
   obtain ⟨e', he'⟩ : ∃ e', ks[j]? = some e' := ⟨_, List.getElem?_eq_getElem hjl⟩
   obtain ⟨kb, ko, rfl⟩ := kid_some Hr.out (by intro h; rw [h] at hjl; simp at hjl)
   have hjz : (j : Int) < (ks.length : Int) := by omega
   have hBw := HB2.out.trans (hB.mono hz2)
   obtain ⟨hkb, sx, cx, i0, i1, i2, hxr⟩ := kid_in Hr.out he'
   replace i0 := (hBw.cell (p := ⟨kb, ko + j * 3, none⟩) hkb).trans i0
   replace i1 := (hBw.cell (p := ⟨kb, ko + j * 3 + 1, none⟩) hkb).trans i1
   replace i2 := (hBw.cell (p := ⟨kb, ko + j * 3 + 2, none⟩) hkb).trans i2
   have hbx := Below.alloc (Below.refl wo.heap.size wo) (Nat.le_refl _) (.cells #[.int .i64 e'.kind, .int .i64 e'.num, .slice sx e'.kids.length cx] 38)
   obtain ⟨y0, y1, lty⟩ := ((HQ.out.below hB).alloc (.cells #[.int .i64 e'.kind, .int .i64 e'.num, .slice sx e'.kids.length cx] 38)).all2
   obtain ⟨v0, v1, v2, -, -, -, ltv⟩ := (Blk.new3 wo 38 (.int .i64 e'.kind) (.int .i64 e'.num) (.slice sx e'.kids.length cx)).all3
   have HA := Lib.hid happ
   have htr' := Ex.treeL_mem Htl.out (List.mem_of_getElem? he')
   have hsz : Ex.sizeL e'.kids < N := by
    have h1 := Ex.sizeL_mem (List.mem_of_getElem? he')
    have h2 := Ex.size_eq e'
    omega
   have hBx := hBw.alloc hBw.size (.cells #[.int .i64 e'.kind, .int .i64 e'.num, .slice sx e'.kids.length cx] 38)
   have Htk := Lib.hid (show (ks.take (j + 1)).map (fun e => bbD (sqL n (spB e xs ys))) = (ks.take j).map (fun e => bbD (sqL n (spB e xs ys))) ++ [bbD (sqL n (spB e' xs ys))] by
    obtain ⟨h1, h2⟩ := List.getElem?_eq_some_iff.1 he'
    rw [List.take_succ_eq_append_getElem h1, List.map_append, h2]
    rfl)
   have hih := Ih.out _ hsz e' xs ys sx p q cx pc qc _ (Nat.le_refl _) (hxr.below hBx) htr' (by rw [Hn.out]; exact Hrx.out.below hBx) (Hry.out.below hBx) Hok.out
   rw [Hn.out] at hih
   clear happ hB he' hBw hxr hBx
   go_wp2_with fail
   refine hih.mono ?_
   rintro f w5 ⟨g5, rfl, hf5, hb5⟩
   have hb55 := hbx.trans (hb5.mono (by simp))
   have hz5 := hb55.size
   have hf6 : Freshs wo (w5.alloc (.cells #[.slice (some ⟨g5, 0, none⟩) n n] 131)) [bbD (sqL n (spB e' xs ys))] [.slice (some ⟨g5, 0, none⟩) n n] := (Freshs.one (hf5.from (by simp))).on (Below.alloc (Below.refl _ _) (Nat.le_refl _) _)
   have hb6 := hb55.alloc hz5 (.cells #[.slice (some ⟨g5, 0, none⟩) n n] 131)
   have happ := HA.out
   clear i0 i1 i2 y0 y1 lty v0 v1 v2 ltv hf5 hb5 hbx hb55 hih
   go_wp2_with (at_builtin; go_must (refine wpList_append_app _ rfl _ _ 174 rfl 131 (.slice none 0 0) 1 24 Try.underlying174 info_spans rfl (by decide) _ rfl happ hb6 szB ⟨w5.heap.size, 0, none⟩ 1 1 [.slice (some ⟨g5, 0, none⟩) n n] rfl (news_blk (Blk.made _ _ _)) hf6 rfl (by simp [Value.oneCell']) (by omega) (by omega) (by unfold maxLen; omega) ?_); intro g3 cap3 w3 happ3 hb3)
   have hB3 : Below w2.heap.size w2 w3 := (HB.out.trans (hb6.mono szB)).trans hb3
   have Hfin := Lib.hid (And.intro (happ3.sized Htk.out.symm rfl) hB3)
   clear happ3 hb3 hB3 happ hf6 hb6
   go_wp2_with fail
   go_roundw
   case rel => exact ⟨j + 1, by omega, by go_num, Hfin.out.1, Hfin.out.2⟩
   case measure => simp [intOf]; omega
  obtain rfl : j = ks.length := by omega
  rw [List.take_length] at happ
  have HKf := Lib.hid (happ.freshN (f := fun e => bbD (sqL n (spB e xs ys))) rfl)
  clear happ hB
  obtain ⟨x', hks⟩ := one_kid hk (by omega)
  have Hks := Lib.hid hks
  have hkz0 : 0 < ks.length := by rw [hks]; simp
  obtain ⟨kb, ko, rfl⟩ := nest_some HKf.out.rd hkz0
  clear hks
  obtain ⟨wK, rfl⟩ : ∃ v, v = wo := ⟨_, rfl⟩
  obtain ⟨X, hX⟩ : ∃ X : Nat → Prop, X = fun b => b = g ∨ b ∈ gs := ⟨_, rfl⟩
  have hXb : ∀ b, X b → w.heap.size + 2 ≤ b ∧ b < w2.heap.size := by
   intro b hb
   rw [hX] at hb
   have h1 := Hsp.out.own
   rcases hb with rfl | hb
   ·
    exact ⟨by omega, Hsp.out.blk.lt⟩
   ·
    obtain ⟨i, hi⟩ := List.mem_iff_getElem?.1 hb
    exact ⟨by have := (h1.2 b hb).1; omega, (Hsp.out.row i b hi).lt⟩
  have HK : Hid (∀ W, Spares X wK W → SpK w n g gs 8 num s p q c pc qc 1 ks xs ys (.slice (some ⟨kb, ko, none⟩) ks.length cap') W) := by
   intro W hs
   refine ⟨(HE.out.below HB.out).keep (hs.block _ (HE.out.below HB.out).lt (fun h => by have := hXb _ h; omega)), (HQ.out.below HB.out).keep (hs.block _ (HQ.out.below HB.out).lt (fun h => by have := hXb _ h; omega)), (HB2.out.trans (HB.out.mono hz2)).trans (hs.below (B := w.heap.size) (by have := HB.out.size; omega) (fun b h => by have := hXb _ h; omega)), Or.inl (HKf.out.keep (fun b h1 h2 => hs.block b h2 (fun h => by have := hXb _ h; omega))).rd⟩
  have HXm := Lib.hid (fun i x (hx : gs[i]? = some x) => (show X x by rw [hX]; exact Or.inr (List.mem_of_getElem? hx)))
  obtain ⟨bs, hbs⟩ : ∃ bs : Nat → Nat → Bool, bs = fun r c => decide (r = c) := ⟨_, rfl⟩
  have Hbs := Lib.hid hbs
  have Hsp0 := Lib.hid ((Hsp.out.below HB.out).congr (K := fun r c => if r < 0 then bs r c else false) (fun r c _ _ => by rw [if_neg (Nat.not_lt_zero _)]))
  clear hX hXb hbs HE HQ HB Hsp HB2
  go_wp2_with fail
  go_loopw [39] (fun i wr => ∃ j : Nat, j ≤ n ∧ i = .int .i64 j ∧ SpW B0 n g gs (fun r c => if r < j then bs r c else false) wr ∧ Spares X wK wr) (fun i _ => n - (intOf i).toNat)
  case atStart => exact ⟨0, Nat.zero_le _, rfl, Hsp0.out, Spares.refl _⟩
  case round =>
   clear Hsp0
   obtain ⟨j, hj, rfl, hsp, hs⟩ := hrel
   obtain ⟨wo, rfl⟩ : ∃ v, v = wr := ⟨_, rfl⟩
   have hj0 := Int.natCast_nonneg j
   have Hsp := Lib.hid hsp
   have Hs := Lib.hid hs
   have hkk := HK.out wo hs
   obtain ⟨x0, x1, x2, -, -, -, ltx⟩ := hkk.E.all3
   obtain ⟨y0, y1, lty⟩ := hkk.Q.all2
   by_cases hjn : j < n
   ·
    have hjz : (j : Int) < (n : Int) := by omega
    clear hsp hs
    obtain ⟨xr, hxr, c1, c2, c3, c4, c5, c6, c7⟩ := Hsp.out.cells hjn hjn
    have Hnx := Lib.hid (And.intro ((Hsp.out.set hxr true).congr (K := fun r c => if r < j + 1 then bs r c else false) (fun r c _ _ => by
     rw [Hbs.out]
     show (if r = j ∧ c = j then true else if r < j then decide (r = c) else false) = if r < j + 1 then decide (r = c) else false
     by_cases h1 : r = j ∧ c = j
     ·
      rw [if_pos h1, if_pos (by omega)]; simp [h1.1, h1.2]
     ·
      rw [if_neg h1]
      by_cases h2 : r < j
      ·
       rw [if_pos h2, if_pos (by omega)]
      ·
       rw [if_neg h2]
       by_cases h3 : r < j + 1
       ·
        rw [if_pos h3]
        exact (decide_eq_false (by omega)).symm
       ·
        rw [if_neg h3])) (spares_put (p := ⟨xr, j, none⟩) Hs.out (HXm.out j xr hxr) (.bool true)))
    clear hkk hxr
    go_wp2_with fail
    go_roundw
    case rel => exact ⟨j + 1, by omega, by go_num, Hnx.out.1, Hnx.out.2⟩
    case measure => simp [intOf]; omega
   obtain rfl : n = j := by omega
   have Hsq := Lib.hid (hsp.congr (K := bs) (fun r c hr _ => if_pos hr))
   clear Hsp hsp hs hkk
   have e1 : IntKind.i64.wrap ((n : Int) - 1) = ((n - 1 : Nat) : Int) := by rw [show (n : Int) - 1 = ((n - 1 : Nat) : Int) by omega]; exact wrap_of (by omega) (by omega)
   obtain ⟨fn, hfn⟩ : ∃ fn : Nat → Nat → Bool, fn = spB (.mk 8 num ks) xs ys := ⟨_, rfl⟩
   have Hfn := Lib.hid hfn
   have Hlow : Hid (∀ i c, c < i → bs i c = fn i c) := fun i c hci => by rw [Hfn.out, Hbs.out]; exact by cases hb : spB (.mk 8 num ks) xs ys i c with | false => exact decide_eq_false (by omega) | true => (rw [spB_iff] at hb; have := hb.1; omega)
   clear hfn x0 x1 x2 ltx y0 y1 lty
   go_wp2_with fail
   clear e1
   go_loopw [11] (fun v wr => (∃ i : Nat, i < n ∧ v = .int .i64 i ∧ SpW B0 n g gs (moM fn bs (i + 1)) wr ∧ Spares X wK wr) ∨ (v = .int .i64 (-1) ∧ SpW B0 n g gs fn wr ∧ Spares X wK wr)) (fun i _ => (intOf i + 1).toNat)
   case atStart => exact Or.inl ⟨n - 1, by omega, rfl, Hsq.out.congr (fun r c hr _ => by unfold moM; rw [if_neg (by omega)]), Hs.out⟩
   case round =>
    clear Hsq Hs
    rcases hrel with ⟨i, hi, rfl, hsp, hs⟩ | ⟨rfl, hsp, hs⟩
    rotate_left
    ·
     have HF := Lib.hid (hsp.fresh (W := w) (by omega) hn1 (by unfold maxLen; omega))
     have HBf := Lib.hid (HK.out _ hs).bl
     clear hsp hs
     go_wp2_with fail
     go_ret
     exact ⟨g, rfl, by rw [← Hfn.out]; exact HF.out, HBf.out⟩
    obtain ⟨wo, rfl⟩ : ∃ v, v = wr := ⟨_, rfl⟩
    have hi0 := Int.natCast_nonneg i
    have Hmi := Lib.hid (hsp.congr (K := miM fn bs i i) (fun r c _ _ => mo_mi (Hlow.out i) r c))
    have Hs := Lib.hid hs
    clear hsp hs
    go_wp2_with fail
    go_loopw [12] (fun v wr => ∃ b : Nat, i ≤ b ∧ b ≤ n ∧ v = .int .i64 b ∧ SpW B0 n g gs (miM fn bs i b) wr ∧ Spares X wK wr) (fun v _ => n - (intOf v).toNat)
    case atStart => exact ⟨i, Nat.le_refl _, by omega, rfl, Hmi.out, Hs.out⟩
    case round =>
     clear Hmi Hs
     obtain ⟨b, hib, hb, rfl, hsp, hs⟩ := hrel
     obtain ⟨wp, rfl⟩ : ∃ v, v = wr := ⟨_, rfl⟩
     have hb0 := Int.natCast_nonneg b
     have Hs := Lib.hid hs
     by_cases hbn : b < n
     rotate_left
     ·
      obtain rfl : n = b := by omega
      have Hmo := Lib.hid (hsp.congr (K := moM fn bs i) (fun r c _ hc => mi_mo r c hc))
      clear hsp hs
      by_cases hi1 : i = 0
      ·
       subst hi1
       have e2 : IntKind.i64.wrap (((0 : Nat) : Int) - 1) = -1 := rfl
       have Hall := Lib.hid (Hmo.out.congr (K := fn) (fun r c _ _ => mo_all r c))
       go_wp2_with fail
       go_roundw
       case rel => exact Or.inr ⟨rfl, Hall.out, Hs.out⟩
       case measure => simp [intOf]
      ·
       obtain ⟨i', rfl⟩ : ∃ i', i = i' + 1 := ⟨i - 1, by omega⟩
       have e2 : IntKind.i64.wrap (((i' + 1 : Nat) : Int) - 1) = (i' : Int) := by rw [show ((i' + 1 : Nat) : Int) - 1 = (i' : Int) by omega]; exact wrap_of (by omega) (by omega)
       go_wp2_with fail
       go_roundw
       case rel => exact Or.inl ⟨i', by omega, by go_num, Hmo.out, Hs.out⟩
       case measure => simp [intOf]; omega
     have hbz : (b : Int) < (n : Int) := by omega
     have Hsp := Lib.hid hsp
     have hkk := HK.out wp hs
     obtain ⟨x0, x1, x2, -, -, -, ltx⟩ := hkk.E.all3
     clear hsp hs
     have Hst0 := Lib.hid (Hsp.out.congr (K := updM (miM fn bs i b) i b (bs i b)) (fun r c _ _ => (mi_start r c).symm))
     have e3 : IntKind.i64.wrap ((i : Int) + 1) = ((i + 1 : Nat) : Int) := by rw [show (i : Int) + 1 = ((i + 1 : Nat) : Int) by omega]; exact wrap_of (by omega) (by omega)
     have Hb0 : Hid (bs i b = frtTo x' xs ys i b (i + 1)) := by show _ = _; rw [Hbs.out, frtTo_zero (Nat.le_refl _)]
     have Hfs : Hid (∀ r c, fn r c = spB (.mk 8 0 [x']) xs ys r c) := fun r c => by rw [Hfn.out, Hks.out]; exact spB_star_num
     clear hkk Hsp
     go_wp2_with fail
     clear x0 x1 x2 ltx e3
     go_loopw [14] (fun v wr => ∃ (j : Nat) (r : Bool), i + 1 ≤ j ∧ j ≤ b + 1 ∧ v = .int .i64 j ∧ Hid (r = frtTo x' xs ys i b j) ∧ SpW B0 n g gs (updM (miM fn bs i b) i b r) wr ∧ Spares X wK wr) (fun v _ => b + 1 - (intOf v).toNat)
     case atStart => exact ⟨i + 1, _, Nat.le_refl _, by omega, by go_num, Hb0.out, Hst0.out, Hs.out⟩
     case round =>
      clear Hst0 Hs Hb0
      obtain ⟨j, r, hij, hj, rfl, HR, hsp, hs⟩ := hrel
      obtain ⟨wq, rfl⟩ : ∃ v, v = wr := ⟨_, rfl⟩
      have hj0 := Int.natCast_nonneg j
      have Hs := Lib.hid hs
      have Hsp := Lib.hid hsp
      by_cases hjb : j ≤ b
      rotate_left
      ·
       obtain rfl : j = b + 1 := by omega
       have Hnx := Lib.hid (hsp.congr (K := miM fn bs i (b + 1)) (fun r' c _ _ => by rw [HR.out, frtTo_all, ← Hfs.out]; exact mi_upd r' c))
       have hgt : (b : Int) < ((b + 1 : Nat) : Int) := by omega
       clear hsp hs
       go_wp2_with fail
       go_roundw
       case rel => exact ⟨b + 1, by omega, by omega, by go_num, Hnx.out, Hs.out⟩
       case measure => simp [intOf]; omega
      have hjz : (j : Int) ≤ (b : Int) := by omega
      have hjn : (j : Int) < (n : Int) := by omega
      have hkd := (HK.out wq hs).kd.resolve_right (by decide)
      rw [Hks.out] at hkd
      have hkd' : Rd wq (nestD bbD [sqL n (spB x' xs ys)]) (.slice (some ⟨kb, ko, none⟩) [x'].length cap') := hkd
      obtain ⟨xr, hxr, c1, c2, c3, c4, c5, c6, c7⟩ := hsp.cells (show i < n by omega) hbn
      rw [updM_self] at c2
      obtain ⟨yr, hyr, l1, l2, -, l4, -, -, -⟩ := hsp.cells (show j < n by omega) hbn
      rw [updM_ne (Or.inl (by omega))] at l2
      obtain ⟨b1, o1, d1, b2, o2, d2, k1, k2, k3, k4, k5, k6, k7⟩ := sq_cell (q := 0) hkd' rfl (show i < n by omega) (show j < n by omega)
      simp only [Nat.add_zero] at k1
      unfold maxLen at k5 k7
      have Hset := Lib.hid (fun v : Bool => (And.intro (((hsp.set hxr v).congr (K := updM (miM fn bs i b) i b v) (fun r' c _ _ => upd_upd r' c)).drew) (spares_drew (spares_put (p := ⟨xr, b, none⟩) hs (HXm.out i xr hxr) (.bool v)))))
      obtain ⟨u1, hu1⟩ : ∃ u1, spB x' xs ys i j = u1 := ⟨_, rfl⟩
      obtain ⟨u2, hu2⟩ : ∃ u2, miM fn bs i b j b = u2 := ⟨_, rfl⟩
      rw [hu1] at k3
      rw [hu2] at l2
      have hu3 : spB (.mk 8 0 [x']) xs ys j b = u2 := by rw [← Hfs.out, ← hu2]; unfold miM; rw [if_pos (Or.inl (by omega))]
      have Hsu : Hid (frtTo x' xs ys i b (j + 1) = (r || (u1 && u2))) := by show _ = _; rw [frtTo_succ, ← HR.out, hu1, hu3, decide_eq_true hij, Bool.true_and]
      clear hkd hkd' hsp hs hu1 hu2 hu3 hxr hyr
      cases r
      ·
       cases u1
       ·
        have HR2 : Hid (false = frtTo x' xs ys i b (j + 1)) := by show _ = _; rw [Hsu.out]; simp
        go_wp2_with fail
        go_region
        go_wp2_with fail
        go_roundw
        case rel => exact ⟨j + 1, false, by omega, by omega, by go_num, HR2, (Hset.out false).1, (Hset.out false).2⟩
        case measure => simp [intOf]; omega
       ·
        have HR2 : Hid (u2 = frtTo x' xs ys i b (j + 1)) := by show _ = _; rw [Hsu.out]; simp
        go_wp2_with fail
        go_region
        go_wp2_with fail
        go_roundw
        case rel => exact ⟨j + 1, u2, by omega, by omega, by go_num, HR2, (Hset.out u2).1, (Hset.out u2).2⟩
        case measure => simp [intOf]; omega
      ·
       have HR2 : Hid (true = frtTo x' xs ys i b (j + 1)) := by show _ = _; rw [Hsu.out]; simp
       go_wp2_with fail
       go_region
       go_wp2_with fail
       go_roundw
       case rel => exact ⟨j + 1, true, by omega, by omega, by go_num, HR2, (Hset.out true).1, (Hset.out true).2⟩
       case measure => simp [intOf]; omega
end Go.Proofs.Ytbflhjjnemdecaa

namespace Go.Proofs.Ytbflhjjnemdecaa
set_option linter.unusedVariables false
set_option linter.unusedSimpArgs false
open Go.ChangeShapes Go.WideShapes Go.ChangeAt Go.RowKit Go.Deep Go.Sort
theorem spansOf_all {tm : Int} (am : Int) (htm : tm ≤ 2) (N : Nat) : SpnC tm am N := by
 induction N using Nat.strongRecOn with
 | _ N ih =>
 intro e xs ys s p q c pc qc w hN hr htr rx ry hok
 obtain ⟨k, num, ks⟩ := e
 simp only [Ex.kind, Ex.num, Ex.kids] at hN hr ⊢
 obtain ⟨hk, -, -, -⟩ := tree_parts htr
 rcases kind_cases hk with rfl | rfl | rfl | rfl | rfl | rfl | rfl | rfl
 ·
  exact spans_1 htm ih hN hr htr rx ry hok
 ·
  exact spans_2 htm ih hN hr htr rx ry hok
 ·
  exact spans_3 htm ih hN hr htr rx ry hok
 ·
  exact spans_4 htm ih hN hr htr rx ry hok
 ·
  exact spans_5 htm ih hN hr htr rx ry hok
 ·
  exact spans_6 htm ih hN hr htr rx ry hok
 ·
  exact spans_7 htm ih hN hr htr rx ry hok
 ·
  exact spans_8 htm ih hN hr htr rx ry hok
end Go.Proofs.Ytbflhjjnemdecaa

namespace Go.Proofs.Ytbflhjjnemdecaa
set_option linter.unusedVariables false
set_option linter.unusedSimpArgs false
open Go.ChangeShapes Go.WideShapes Go.ChangeAt Go.RowKit Go.Sort
set_option maxRecDepth 100000 in
theorem grow_ints {n : Nat} {w : World} (h1 : n ≤ 1000000000) :
  Calls Try.prog 157 #[.slice none 0 0, .int .i64 n] w fun e w' => ∃ v, e = .returned v ∧ App w w' 2 1 0 [] v ∧ Below w.heap.size w w' := by
 by_cases h0 : n = 0
 ·
  subst h0
  go_enter Try.func157, Try.ntmps157
  go_wp2_with fail
  go_ret
  exact ⟨_, rfl, App.nil, Below.refl _ _⟩
 ·
  obtain ⟨i, hi, hz, hsize, hby⟩ := info_parts info_int64
  have hrun := Lib.run_append_nil_zeros w 27 3 27 2 i (.int .i64 0) .i64 .i64 Try.underlying27 Try.underlying3 hi hz n (by omega) (by omega) (by omega) (by rw [hby]; omega)
  have hge := grownCap_ge w n 0 2
  have hcm := grownCap_le_maxLen w n 0 2 (by unfold maxLen; omega)
  obtain ⟨cap, hcap⟩ : ∃ cap, grownCap w n 0 2 = cap := ⟨_, rfl⟩
  rw [hcap] at hrun hge hcm
  obtain ⟨M, hM⟩ : ∃ M, Builtin.zeroCells (Value.int .i64 0).cells n ++ Builtin.zeroCells (Value.int .i64 0).cells (cap - n) = M := ⟨_, rfl⟩
  have hMs : M.size = cap := by rw [← hM]; simp only [Array.size_append, size_zeroCells, Value.cells]; simp; omega
  rw [hM] at hrun
  clear hM hcap
  have hblk : Blk (w.drew.alloc (.cells M 2)) w.heap.size 2 M.toList := Blk.made w.drew 2 M
  have hB : Below w.heap.size w (w.drew.alloc (.cells M 2)) := by (repeat' first | exact Below.refl _ _ | assumption | apply Below.alloc | apply Below.drew | apply Below.setCell | omega | (simp; done) | (simp; omega))
  have happ : App w (w.drew.alloc (.cells M 2)) 2 1 0 [] (.slice (some ⟨w.heap.size, 0, none⟩) 0 cap) :=
   ⟨[], [], ⟨by simp, Or.inr ⟨w.heap.size, cap, M, rfl, Nat.le_refl _, by simpa [Blk] using hblk, by omega, hcm, by omega, by simp⟩⟩, Ows.nil, by simp, by simp⟩
  have Hrun := Lib.hid hrun
  clear hrun
  generalize w.drew.alloc (.cells M 2) = w2 at Hrun hblk hB happ
  have hpos : 0 < (n : Int) := by omega
  go_enter Try.func157, Try.ntmps157
  go_wp2_with (at_builtin; refine Lib.wpList_append_run _ rfl _ _ 27 3 rfl _ _ rfl rfl _ _ Hrun.out ?_)
  go_ret
  exact ⟨_, rfl, happ, hB⟩
def sumTo (zss : List (List Int)) (k : Nat) : Nat := (zss.take k).flatten.length
theorem flat_step {zss : List (List Int)} {k : Nat} {z : List Int} (h : zss[k]? = some z) : (zss.take (k + 1)).flatten = (zss.take k).flatten ++ z := by
 obtain ⟨hk, rfl⟩ := List.getElem?_eq_some_iff.1 h
 rw [List.take_succ_eq_append_getElem hk, List.flatten_append]
 simp only [List.flatten_cons, List.flatten_nil, List.append_nil]
theorem sumTo_step {zss : List (List Int)} {k : Nat} {z : List Int} (h : zss[k]? = some z) : sumTo zss (k + 1) = sumTo zss k + z.length := by
 unfold sumTo
 rw [flat_step h, List.length_append]
theorem sumTo_le {zss : List (List Int)} (k : Nat) : sumTo zss k ≤ zss.flatten.length := by
 have : zss.flatten = (zss.take k).flatten ++ (zss.drop k).flatten := by rw [← List.flatten_append, List.take_append_drop]
 unfold sumTo
 rw [this, List.length_append]
 omega
theorem list_in {w : World} {zss : List (List Int)} {a : Option Addr} {len cap : Nat} (h : Rd w (.sl 1 zss.length (zss.map intsD)) (.slice a len cap)) {k : Nat} {z : List Int} (hz : zss[k]? = some z) :
  ∃ b o s c, a = some ⟨b, o, none⟩ ∧ b < w.heap.size ∧ w.cell? ⟨b, o + k, none⟩ = some (.slice s z.length c) ∧ Rd w (intsD z) (.slice s z.length c) := by
 obtain ⟨_, _, _, _, _, h4⟩ := h.sl_at
 rcases h4 with h4 | ⟨b, o, e1, h4⟩
 ·
  have := (List.getElem?_eq_some_iff.1 hz).1
  omega
 ·
  obtain ⟨x, h5, h6⟩ := h4 k (intsD z) (by rw [List.getElem?_map, hz]; rfl)
  obtain ⟨s, c, rfl, _⟩ := Rd.slice (show Rd w (.sl 1 z.length (z.map D.int)) x from h6)
  exact ⟨b, o, s, c, e1, World.block_lt_of_cell? w _ h5, h5, h6⟩
set_option maxHeartbeats 1000000 in
theorem concat_ints {zss : List (List Int)} {s : Option Addr} {c : Nat} {w : World} (hr : Rd w (.sl 1 zss.length (zss.map intsD)) (.slice s zss.length c)) (h1 : zss.flatten.length ≤ 1000000000) :
  Calls Try.prog 138 #[.slice s zss.length c] w fun e w' => ∃ s' c', e = .returned (.slice s' zss.flatten.length c') ∧ Fresh w w' (intsD zss.flatten) (.slice s' zss.flatten.length c') ∧ Below w.heap.size w w' := by
 obtain ⟨-, hlen, hcap, -⟩ := hr.sl_at
 unfold maxLen at hcap
 obtain ⟨T, hT⟩ : ∃ T, zss.flatten.length = T := ⟨_, rfl⟩
 have hT1 : T ≤ 1000000000 := by omega
 have HT := Lib.hid hT
 rw [hT]
 clear hT h1
 go_enter Try.func138, Try.ntmps138
 go_wp2_with fail
 go_loop [3, 11] (fun n i => ∃ k : Nat, k ≤ zss.length ∧ i = .int .i64 k ∧ n = .int .i64 (sumTo zss k : Nat)) (fun _ i => zss.length - (intOf i).toNat)
 case atStart => exact ⟨0, by omega, rfl, by simp [sumTo]⟩
 case round =>
  obtain ⟨k, hk, rfl, rfl⟩ := hrel
  have hle := sumTo_le (zss := zss) k
  rw [HT.out] at hle
  by_cases hlt : k < zss.length
  ·
   obtain ⟨z, hz⟩ : ∃ e, zss[k]? = some e := ⟨_, List.getElem?_eq_getElem hlt⟩
   obtain ⟨b, o, s2, c2, rfl, -, g0, g1⟩ := list_in hr hz
   have hle2 := sumTo_le (zss := zss) (k + 1)
   rw [HT.out, sumTo_step hz] at hle2
   have Hst := Lib.hid (sumTo_step hz)
   go_wp2_with fail
   go_round
   case rel => exact ⟨k + 1, by omega, by go_num, by rw [Hst.out]; go_num⟩
   case measure => simp [intOf]; omega
  ·
   obtain rfl : k = zss.length := by omega
   have hn : sumTo zss zss.length = T := by have := HT.out; unfold sumTo; rw [List.take_length]; exact this
   rw [hn]
   clear hn hle
   go_wp2_with fail
   refine (grow_ints (n := T) hT1).mono ?_
   rintro e w1 ⟨v, rfl, happ, hB⟩
   go_wp2_with fail
   go_loopw [6, 27] (fun v i wr => ∃ k : Nat, k ≤ zss.length ∧ i = .int .i64 k ∧ App w wr 2 1 (sumTo zss k) ((zss.take k).flatten.map D.int) v ∧ Below w.heap.size w wr) (fun _ i _ => zss.length - (intOf i).toNat)
   case atStart => exact ⟨0, by omega, rfl, by simpa [sumTo] using happ, hB⟩
   case round =>
    clear happ hB
    obtain ⟨k, hk', rfl, happ, hB⟩ := hrel
    by_cases hlt : k < zss.length
    ·
     obtain ⟨z, hz⟩ : ∃ e, zss[k]? = some e := ⟨_, List.getElem?_eq_getElem hlt⟩
     obtain ⟨b, o, s2, c2, rfl, -, g0, g1⟩ := list_in (hr.below hB) hz
     have hle2 := sumTo_le (zss := zss) (k + 1)
     rw [HT.out, sumTo_step hz] at hle2
     have Hst : Hid ((zss.take (k + 1)).flatten = (zss.take k).flatten ++ z) := flat_step hz
     have hzB := hB.size
     have Hlen : Hid (((zss.take k).flatten ++ z).length = sumTo zss (k + 1)) := by show _ = _; rw [← flat_step hz]; rfl
     go_wp2_with (at_builtin; refine wpList_append_ints (W := w) (zs := (zss.take k).flatten) (ys := z) _ rfl _ _ 27 rfl 2 Try.underlying27 info_int64 _ rfl happ hzB rfl g1 (by unfold sumTo at hle2; omega) ?_; intro a' cap w2 happ2 hb2; rw [Hlen.out] at happ2 ⊢)
     have hB2 := hB.trans hb2
     rw [← Hst.out] at happ2
     go_roundw
     case rel => exact ⟨k + 1, by omega, by go_num, happ2, hB2⟩
     case measure => simp [intOf]; omega
    ·
     obtain rfl : k = zss.length := by omega
     have hn : sumTo zss zss.length = T := by have := HT.out; unfold sumTo; rw [List.take_length]; exact this
     rw [hn, List.take_length] at happ
     obtain ⟨a', cap, rfl, _⟩ := happ.shape
     clear hn
     go_wp2_with fail
     go_ret
     exact ⟨a', cap, rfl, by have := happ.fresh; rw [← HT.out] at this ⊢; exact this, hB⟩
end Go.Proofs.Ytbflhjjnemdecaa
