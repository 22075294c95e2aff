/-
  Parts of a proof, joined: SpSv, SpSe, SpnZ, Clone, Rev, Fuse3. No condition.
-/
import Derived.Maps.AppendAt
import Derived.Lib.AppendZeros
import Derived.Test.YtbflhjjnemdecaaPk23
import Derived.Test.YtbflhjjnemdecaaPk24
namespace Go.Proofs.Ytbflhjjnemdecaa
set_option linter.unusedVariables false
set_option linter.unusedSimpArgs false
open Go.ChangeShapes Go.WideShapes Go.ChangeAt Go.RowKit Go.Deep Go.Sort
set_option maxRecDepth 100000 in
set_option maxHeartbeats 16000000 in
theorem spans_7 {tm am : Int} (htm : tm ≤ 2) {N : Nat} (ih : ∀ m, m < N → SpnC tm am m) {num : Int} {ks : List Ex} {xs ys : List Int} {s p q : Option Addr} {c pc qc : Nat} {w : World} (hN : Ex.sizeL ks ≤ N) (hr : Rd w (kidsD ks) (.slice s ks.length c)) (htr : Ex.tree tm am (.mk 7 num ks) = true) (rx : Rd w (intsD xs) (.slice p xs.length pc)) (ry : Rd w (intsD ys) (.slice q ys.length qc)) (hok : WOk xs ys) :
  Calls Try.prog 110 #[.agg #[.int .i64 7, .int .i64 num, .slice s ks.length c], .agg #[.slice p xs.length pc, .slice q ys.length qc]] w fun f w' => ∃ g, f = .returned (.slice (some ⟨g, 0, none⟩) xs.length xs.length) ∧ Fresh w w' (bbD (sqL xs.length (spB (.mk 7 num ks) xs ys))) (.slice (some ⟨g, 0, none⟩) xs.length xs.length) ∧ Below w.heap.size w w' := by
 obtain ⟨hk, hnum, hc, htl⟩ := tree_parts htr
 have hk2 : ks.length ≤ 2 := by have h := hk; simp [kidsN] at h; omega
 have hsh := hok.short
 have hlen := hok.len
 have Hok := Lib.hid hok
 have Htl := Lib.hid htl
 have Ih := Lib.hid ih
 have Htr := Lib.hid htr
 have Hc := Lib.hid hc
 clear htl ih hok htr hc
 obtain ⟨n, hn⟩ : ∃ n, xs.length = n := ⟨_, rfl⟩
 rw [hn] at rx ⊢
 have Hn := Lib.hid hn
 have hn1 : 1 ≤ n := by omega
 have hn2 : n ≤ 11 := by omega
 have hyn : ys.length ≤ n := by omega
 have Hny := Lib.hid (show n = ys.length + 1 by omega)
 have Hrx := Lib.hid rx
 have Hry := Lib.hid ry
 have Hr := Lib.hid hr
 have hn0 := Int.natCast_nonneg n
 obtain ⟨-, hlx, hcx, -⟩ := rx.sl_at
 obtain ⟨-, hly, hcy, -⟩ := ry.sl_at
 unfold maxLen at hcx hcy
 clear hn hlen hsh rx ry hr
 rw [show (List.length xs) = n from Hn.out] at hlx
 go_enter Try.func110, Try.ntmps110
 go_wp2_with fail
 obtain ⟨w0, e0, E, hb0, hz0⟩ := box3 w 38 (.int .i64 7) (.int .i64 num) (.slice s ks.length c)
 rw [e0]
 obtain ⟨w1, e1, Q, hb1, hz1⟩ := box2 w0 40 (.slice p n pc) (.slice q ys.length qc)
 rw [e1]
 rw [hz0] at Q
 have hB1 := hb0.trans (hb1.mono (by omega))
 replace E := E.below hb1
 have hzz : w1.heap.size = w.heap.size + 2 := by omega
 refine (newSpans_i hn1 (by omega)).mono ?_
 rintro f w2 ⟨g, gs, rfl, hsp, hb2⟩
 have HB2 := Lib.hid (hB1.trans (hb2.mono (by omega)))
 have HE := Lib.hid (E.below hb2)
 have HQ := Lib.hid (Q.below hb2)
 obtain ⟨B0, hB0⟩ : ∃ B0, w1.heap.size = B0 := ⟨_, rfl⟩
 rw [hB0] at hsp hzz
 have hz12 := hb2.size
 rw [hB0] at hz12
 have Hsp := Lib.hid hsp
 have hz2 := HB2.out.size
 clear hB0
 have h0 := App.empty (W := w2) (size := 1) (Blk.made w2 131 #[]) (Nat.le_refl _)
 obtain ⟨x0, x1, x2, -, -, -, ltx⟩ := (HE.out.alloc (.cells #[] 131)).all3
 clear e0 e1 hb0 hb1 hb2 E Q hB1 hz0 hz1 hsp
 go_wp2_with fail
 clear x0 x1 x2 ltx
 go_loopw [7, 27] (fun v i wr => ∃ j : Nat, j ≤ ks.length ∧ i = .int .i64 j ∧ App w2 wr 131 1 j ((ks.take j).map fun e => bbD (sqL n (spB e xs ys))) v ∧ Below w2.heap.size w2 wr) (fun _ i _ => ks.length - (intOf i).toNat)
 case atStart => exact ⟨0, Nat.zero_le _, rfl, by simpa using h0, Below.alloc (Below.refl _ _) (Nat.le_refl _) _⟩
 case round =>
  clear h0
  obtain ⟨j, hj, rfl, happ, hB⟩ := hrel
  obtain ⟨wo, rfl⟩ : ∃ v, v = wr := ⟨_, rfl⟩
  have hj0 := Int.natCast_nonneg j
  have szB := hB.size
  obtain ⟨a', cap', rfl, hcap1, hcap2⟩ := happ.shape
  unfold maxLen at hcap2
  have HB := Lib.hid hB
  by_cases hjl : j < ks.length
  ·
   obtain ⟨e', he'⟩ : ∃ e', ks[j]? = some e' := ⟨_, List.getElem?_eq_getElem hjl⟩
   obtain ⟨kb, ko, rfl⟩ := kid_some Hr.out (by intro h; rw [h] at hjl; simp at hjl)
   have hjz : (j : Int) < (ks.length : Int) := by omega
   have hBw := HB2.out.trans (hB.mono hz2)
   obtain ⟨hkb, sx, cx, i0, i1, i2, hxr⟩ := kid_in Hr.out he'
   replace i0 := (hBw.cell (p := ⟨kb, ko + j * 3, none⟩) hkb).trans i0
   replace i1 := (hBw.cell (p := ⟨kb, ko + j * 3 + 1, none⟩) hkb).trans i1
   replace i2 := (hBw.cell (p := ⟨kb, ko + j * 3 + 2, none⟩) hkb).trans i2
   have hbx := Below.alloc (Below.refl wo.heap.size wo) (Nat.le_refl _) (.cells #[.int .i64 e'.kind, .int .i64 e'.num, .slice sx e'.kids.length cx] 38)
   obtain ⟨y0, y1, lty⟩ := ((HQ.out.below hB).alloc (.cells #[.int .i64 e'.kind, .int .i64 e'.num, .slice sx e'.kids.length cx] 38)).all2
   obtain ⟨v0, v1, v2, -, -, -, ltv⟩ := (Blk.new3 wo 38 (.int .i64 e'.kind) (.int .i64 e'.num) (.slice sx e'.kids.length cx)).all3
   have HA := Lib.hid happ
   have htr' := Ex.treeL_mem Htl.out (List.mem_of_getElem? he')
   have hsz : Ex.sizeL e'.kids < N := by
    have h1 := Ex.sizeL_mem (List.mem_of_getElem? he')
    have h2 := Ex.size_eq e'
    omega
   have hBx := hBw.alloc hBw.size (.cells #[.int .i64 e'.kind, .int .i64 e'.num, .slice sx e'.kids.length cx] 38)
   have Htk := Lib.hid (show (ks.take (j + 1)).map (fun e => bbD (sqL n (spB e xs ys))) = (ks.take j).map (fun e => bbD (sqL n (spB e xs ys))) ++ [bbD (sqL n (spB e' xs ys))] by
    obtain ⟨h1, h2⟩ := List.getElem?_eq_some_iff.1 he'
    rw [List.take_succ_eq_append_getElem h1, List.map_append, h2]
    rfl)
   have hih := Ih.out _ hsz e' xs ys sx p q cx pc qc _ (Nat.le_refl _) (hxr.below hBx) htr' (by rw [Hn.out]; exact Hrx.out.below hBx) (Hry.out.below hBx) Hok.out
   rw [Hn.out] at hih
   clear happ hB he' hBw hxr hBx
   go_wp2_with fail
   refine hih.mono ?_
   rintro f w5 ⟨g5, rfl, hf5, hb5⟩
   have hb55 := hbx.trans (hb5.mono (by simp))
   have hz5 := hb55.size
   have hf6 : Freshs wo (w5.alloc (.cells #[.slice (some ⟨g5, 0, none⟩) n n] 131)) [bbD (sqL n (spB e' xs ys))] [.slice (some ⟨g5, 0, none⟩) n n] := (Freshs.one (hf5.from (by simp))).on (Below.alloc (Below.refl _ _) (Nat.le_refl _) _)
   have hb6 := hb55.alloc hz5 (.cells #[.slice (some ⟨g5, 0, none⟩) n n] 131)
   have happ := HA.out
   clear i0 i1 i2 y0 y1 lty v0 v1 v2 ltv hf5 hb5 hbx hb55 hih
   go_wp2_with (at_builtin; go_must (refine wpList_append_app _ rfl _ _ 174 rfl 131 (.slice none 0 0) 1 24 Try.underlying174 info_spans rfl (by decide) _ rfl happ hb6 szB ⟨w5.heap.size, 0, none⟩ 1 1 [.slice (some ⟨g5, 0, none⟩) n n] rfl (news_blk (Blk.made _ _ _)) hf6 rfl (by simp [Value.oneCell']) (by omega) (by omega) (by unfold maxLen; omega) ?_); intro g3 cap3 w3 happ3 hb3)
   have hB3 : Below w2.heap.size w2 w3 := (HB.out.trans (hb6.mono szB)).trans hb3
   have Hfin := Lib.hid (And.intro (happ3.sized Htk.out.symm rfl) hB3)
   clear happ3 hb3 hB3 happ hf6 hb6
   go_wp2_with fail
   go_roundw
   case rel => exact ⟨j + 1, by omega, by go_num, Hfin.out.1, Hfin.out.2⟩
   case measure => simp [intOf]; omega
  obtain rfl : j = ks.length := by omega
  rw [List.take_length] at happ
  have HKf := Lib.hid (happ.freshN (f := fun e => bbD (sqL n (spB e xs ys))) rfl)
  clear happ hB
  obtain ⟨x', y', hks⟩ := two_kids hk (by omega)
  have Hks := Lib.hid hks
  have hkz0 : 0 < ks.length := by rw [hks]; simp
  have hkz1 : 1 < ks.length := by rw [hks]; simp
  obtain ⟨kb, ko, rfl⟩ := nest_some HKf.out.rd hkz0
  clear hks
  obtain ⟨wK, rfl⟩ : ∃ v, v = wo := ⟨_, rfl⟩
  obtain ⟨X, hX⟩ : ∃ X : Nat → Prop, X = fun b => b = g ∨ b ∈ gs := ⟨_, rfl⟩
  have hXb : ∀ b, X b → w.heap.size + 2 ≤ b ∧ b < w2.heap.size := by
   intro b hb
   rw [hX] at hb
   have h1 := Hsp.out.own
   rcases hb with rfl | hb
   ·
    exact ⟨by omega, Hsp.out.blk.lt⟩
   ·
    obtain ⟨i, hi⟩ := List.mem_iff_getElem?.1 hb
    exact ⟨by have := (h1.2 b hb).1; omega, (Hsp.out.row i b hi).lt⟩
  have HK : Hid (∀ W, Spares X wK W → SpK w n g gs 7 num s p q c pc qc 1 ks xs ys (.slice (some ⟨kb, ko, none⟩) ks.length cap') W) := by
   intro W hs
   refine ⟨(HE.out.below HB.out).keep (hs.block _ (HE.out.below HB.out).lt (fun h => by have := hXb _ h; omega)), (HQ.out.below HB.out).keep (hs.block _ (HQ.out.below HB.out).lt (fun h => by have := hXb _ h; omega)), (HB2.out.trans (HB.out.mono hz2)).trans (hs.below (B := w.heap.size) (by have := HB.out.size; omega) (fun b h => by have := hXb _ h; omega)), Or.inl (HKf.out.keep (fun b h1 h2 => hs.block b h2 (fun h => by have := hXb _ h; omega))).rd⟩
  have HXm := Lib.hid (fun i x (hx : gs[i]? = some x) => (show X x by rw [hX]; exact Or.inr (List.mem_of_getElem? hx)))
  obtain ⟨bs, hbs⟩ : ∃ bs : Nat → Nat → Bool, bs = fun _ _ => false := ⟨_, rfl⟩
  have Hbs := Lib.hid hbs
  have Hsp0 := Lib.hid ((Hsp.out.below HB.out).congr (K := fun r c => if r < 0 then bs r c else false) (fun r c _ _ => by rw [if_neg (Nat.not_lt_zero _)]))
  clear hX hXb hbs HE HQ HB Hsp HB2
  go_wp2_with fail
  go_loopw [39] (fun i wr => ∃ j : Nat, j ≤ n ∧ i = .int .i64 j ∧ SpW B0 n g gs (fun r c => if r < j then bs r c else false) wr ∧ Spares X wK wr) (fun i _ => n - (intOf i).toNat)
  case atStart => exact ⟨0, Nat.zero_le _, rfl, Hsp0.out, Spares.refl _⟩
  case round =>
   clear Hsp0
   obtain ⟨j, hj, rfl, hsp, hs⟩ := hrel
   obtain ⟨wo, rfl⟩ : ∃ v, v = wr := ⟨_, rfl⟩
   have hj0 := Int.natCast_nonneg j
   have Hsp := Lib.hid hsp
   have Hs := Lib.hid hs
   have hkk := HK.out wo hs
   obtain ⟨x0, x1, x2, -, -, -, ltx⟩ := hkk.E.all3
   obtain ⟨y0, y1, lty⟩ := hkk.Q.all2
   by_cases hjn : j < n
   ·
    have hjz : (j : Int) < (n : Int) := by omega
    clear hsp hs
    have Hnx := Lib.hid (Hsp.out.congr (K := fun r c => if r < j + 1 then bs r c else false) (fun r c _ _ => by rw [Hbs.out]; simp))
    clear hkk
    go_wp2_with fail
    go_roundw
    case rel => exact ⟨j + 1, by omega, by go_num, Hnx.out, Hs.out⟩
    case measure => simp [intOf]; omega
   obtain rfl : n = j := by omega
   have Hsq := Lib.hid (hsp.congr (K := bs) (fun r c hr _ => if_pos hr))
   clear Hsp hsp hs hkk
   have e1 : IntKind.i64.wrap ((n : Int) - 1) = ((n - 1 : Nat) : Int) := by rw [show (n : Int) - 1 = ((n - 1 : Nat) : Int) by omega]; exact wrap_of (by omega) (by omega)
   obtain ⟨fn, hfn⟩ : ∃ fn : Nat → Nat → Bool, fn = spB (.mk 7 num ks) xs ys := ⟨_, rfl⟩
   have Hfn := Lib.hid hfn
   have Hlow : Hid (∀ i c, c < i → bs i c = fn i c) := fun i c hci => by rw [Hfn.out, Hbs.out]; exact by cases hb : spB (.mk 7 num ks) xs ys i c with | false => rfl | true => (rw [spB_iff] at hb; have := hb.1; omega)
   clear hfn x0 x1 x2 ltx y0 y1 lty
   go_wp2_with fail
   clear e1
   go_loopw [11] (fun v wr => (∃ i : Nat, i < n ∧ v = .int .i64 i ∧ SpW B0 n g gs (moM fn bs (i + 1)) wr ∧ Spares X wK wr) ∨ (v = .int .i64 (-1) ∧ SpW B0 n g gs fn wr ∧ Spares X wK wr)) (fun i _ => (intOf i + 1).toNat)
   case atStart => exact Or.inl ⟨n - 1, by omega, rfl, Hsq.out.congr (fun r c hr _ => by unfold moM; rw [if_neg (by omega)]), Hs.out⟩
   case round =>
    clear Hsq Hs
    rcases hrel with ⟨i, hi, rfl, hsp, hs⟩ | ⟨rfl, hsp, hs⟩
    rotate_left
    ·
     have HF := Lib.hid (hsp.fresh (W := w) (by omega) hn1 (by unfold maxLen; omega))
     have HBf := Lib.hid (HK.out _ hs).bl
     clear hsp hs
     go_wp2_with fail
     go_ret
     exact ⟨g, rfl, by rw [← Hfn.out]; exact HF.out, HBf.out⟩
    obtain ⟨wo, rfl⟩ : ∃ v, v = wr := ⟨_, rfl⟩
    have hi0 := Int.natCast_nonneg i
    have Hmi := Lib.hid (hsp.congr (K := miM fn bs i i) (fun r c _ _ => mo_mi (Hlow.out i) r c))
    have Hs := Lib.hid hs
    clear hsp hs
    go_wp2_with fail
    go_loopw [12] (fun v wr => ∃ b : Nat, i ≤ b ∧ b ≤ n ∧ v = .int .i64 b ∧ SpW B0 n g gs (miM fn bs i b) wr ∧ Spares X wK wr) (fun v _ => n - (intOf v).toNat)
    case atStart => exact ⟨i, Nat.le_refl _, by omega, rfl, Hmi.out, Hs.out⟩
    case round =>
     clear Hmi Hs
     obtain ⟨b, hib, hb, rfl, hsp, hs⟩ := hrel
     obtain ⟨wp, rfl⟩ : ∃ v, v = wr := ⟨_, rfl⟩
     have hb0 := Int.natCast_nonneg b
     have Hs := Lib.hid hs
     by_cases hbn : b < n
     rotate_left
     ·
      obtain rfl : n = b := by omega
      have Hmo := Lib.hid (hsp.congr (K := moM fn bs i) (fun r c _ hc => mi_mo r c hc))
      clear hsp hs
      by_cases hi1 : i = 0
      ·
       subst hi1
       have e2 : IntKind.i64.wrap (((0 : Nat) : Int) - 1) = -1 := rfl
       have Hall := Lib.hid (Hmo.out.congr (K := fn) (fun r c _ _ => mo_all r c))
       go_wp2_with fail
       go_roundw
       case rel => exact Or.inr ⟨rfl, Hall.out, Hs.out⟩
       case measure => simp [intOf]
      ·
       obtain ⟨i', rfl⟩ : ∃ i', i = i' + 1 := ⟨i - 1, by omega⟩
       have e2 : IntKind.i64.wrap (((i' + 1 : Nat) : Int) - 1) = (i' : Int) := by rw [show ((i' + 1 : Nat) : Int) - 1 = (i' : Int) by omega]; exact wrap_of (by omega) (by omega)
       go_wp2_with fail
       go_roundw
       case rel => exact Or.inl ⟨i', by omega, by go_num, Hmo.out, Hs.out⟩
       case measure => simp [intOf]; omega
     have hbz : (b : Int) < (n : Int) := by omega
     have Hsp := Lib.hid hsp
     have hkk := HK.out wp hs
     obtain ⟨x0, x1, x2, -, -, -, ltx⟩ := hkk.E.all3
     clear hsp hs
     have Hst0 := Lib.hid (Hsp.out.congr (K := updM (miM fn bs i b) i b false) (fun r c _ _ => by have h := mi_start (fn := fn) (bs := bs) (i := i) (b := b) r c; rw [show bs i b = false by rw [Hbs.out]] at h; exact h.symm))
     clear hkk Hsp
     go_wp2_with fail
     clear x0 x1 x2 ltx
     go_loopw [13] (fun v wr => ∃ (j : Nat) (r : Bool), i ≤ j ∧ j ≤ b + 1 ∧ v = .int .i64 j ∧ Hid (r = dotTo x' y' xs ys i b j) ∧ SpW B0 n g gs (updM (miM fn bs i b) i b r) wr ∧ Spares X wK wr) (fun v _ => b + 1 - (intOf v).toNat)
     case atStart => exact ⟨i, false, Nat.le_refl _, by omega, rfl, (dotTo_zero (Nat.le_refl _)).symm, Hst0.out, Hs.out⟩
     case round =>
      clear Hst0 Hs
      obtain ⟨j, r, hij, hj, rfl, HR, hsp, hs⟩ := hrel
      obtain ⟨wq, rfl⟩ : ∃ v, v = wr := ⟨_, rfl⟩
      have hj0 := Int.natCast_nonneg j
      have Hs := Lib.hid hs
      have Hsp := Lib.hid hsp
      by_cases hjb : j ≤ b
      rotate_left
      ·
       obtain rfl : j = b + 1 := by omega
       have Hnx := Lib.hid (hsp.congr (K := miM fn bs i (b + 1)) (fun r' c _ _ => by rw [HR.out, dotTo_all (n := num), ← Hks.out, ← Hfn.out]; exact mi_upd r' c))
       have hgt : (b : Int) < ((b + 1 : Nat) : Int) := by omega
       clear hsp hs
       go_wp2_with fail
       go_roundw
       case rel => exact ⟨b + 1, by omega, by omega, by go_num, Hnx.out, Hs.out⟩
       case measure => simp [intOf]; omega
      have hjz : (j : Int) ≤ (b : Int) := by omega
      have hjn : (j : Int) < (n : Int) := by omega
      have hkd := (HK.out wq hs).kd.resolve_right (by decide)
      rw [Hks.out] at hkd
      have hkd' : Rd wq (nestD bbD [sqL n (spB x' xs ys), sqL n (spB y' xs ys)]) (.slice (some ⟨kb, ko, none⟩) [x', y'].length cap') := hkd
      obtain ⟨xr, hxr, c1, c2, c3, c4, c5, c6, c7⟩ := hsp.cells (show i < n by omega) hbn
      rw [updM_self] at c2
      obtain ⟨b1, o1, d1, b2, o2, d2, k1, k2, k3, k4, k5, k6, k7⟩ := sq_cell (q := 0) hkd' rfl (show i < n by omega) (show j < n by omega)
      obtain ⟨b3, o3, d3, b4, o4, d4, l1, l2, l3, l4, l5, l6, l7⟩ := sq_cell (q := 1) hkd' rfl (show j < n by omega) hbn
      simp only [Nat.add_zero] at k1
      unfold maxLen at k5 k7 l5 l7
      have Hset := Lib.hid (fun v : Bool => (And.intro (((hsp.set hxr v).congr (K := updM (miM fn bs i b) i b v) (fun r' c _ _ => upd_upd r' c)).drew) (spares_drew (spares_put (p := ⟨xr, b, none⟩) hs (HXm.out i xr hxr) (.bool v)))))
      obtain ⟨u1, hu1⟩ : ∃ u1, spB x' xs ys i j = u1 := ⟨_, rfl⟩
      obtain ⟨u2, hu2⟩ : ∃ u2, spB y' xs ys j b = u2 := ⟨_, rfl⟩
      rw [hu1] at k3
      rw [hu2] at l3
      have Hsu : Hid (dotTo x' y' xs ys i b (j + 1) = (r || (u1 && u2))) := by show _ = _; rw [dotTo_succ, ← HR.out, hu1, hu2, decide_eq_true hij, Bool.true_and]
      clear hkd hkd' hsp hs hu1 hu2 hxr
      cases r
      ·
       cases u1
       ·
        have HR2 : Hid (false = dotTo x' y' xs ys i b (j + 1)) := by show _ = _; rw [Hsu.out]; simp
        go_wp2_with fail
        go_region
        go_wp2_with fail
        go_roundw
        case rel => exact ⟨j + 1, false, by omega, by omega, by go_num, HR2, (Hset.out false).1, (Hset.out false).2⟩
        case measure => simp [intOf]; omega
       ·
        have HR2 : Hid (u2 = dotTo x' y' xs ys i b (j + 1)) := by show _ = _; rw [Hsu.out]; simp
        go_wp2_with fail
        go_region
        go_wp2_with fail
        go_roundw
        case rel => exact ⟨j + 1, u2, by omega, by omega, by go_num, HR2, (Hset.out u2).1, (Hset.out u2).2⟩
        case measure => simp [intOf]; omega
      ·
       have HR2 : Hid (true = dotTo x' y' xs ys i b (j + 1)) := by show _ = _; rw [Hsu.out]; simp
       go_wp2_with fail
       go_region
       go_wp2_with fail
       go_roundw
       case rel => exact ⟨j + 1, true, by omega, by omega, by go_num, HR2, (Hset.out true).1, (Hset.out true).2⟩
       case measure => simp [intOf]; omega
end Go.Proofs.Ytbflhjjnemdecaa

namespace Go.Proofs.Ytbflhjjnemdecaa
set_option linter.unusedVariables false
set_option linter.unusedSimpArgs false
open Go.ChangeShapes Go.WideShapes Go.ChangeAt Go.RowKit Go.Deep Go.Sort
set_option maxRecDepth 100000 in
set_option maxHeartbeats 16000000 in
theorem spans_8 {tm am : Int} (htm : tm ≤ 2) {N : Nat} (ih : ∀ m, m < N → SpnC tm am m) {num : Int} {ks : List Ex} {xs ys : List Int} {s p q : Option Addr} {c pc qc : Nat} {w : World} (hN : Ex.sizeL ks ≤ N) (hr : Rd w (kidsD ks) (.slice s ks.length c)) (htr : Ex.tree tm am (.mk 8 num ks) = true) (rx : Rd w (intsD xs) (.slice p xs.length pc)) (ry : Rd w (intsD ys) (.slice q ys.length qc)) (hok : WOk xs ys) :
  Calls Try.prog 110 #[.agg #[.int .i64 8, .int .i64 num, .slice s ks.length c], .agg #[.slice p xs.length pc, .slice q ys.length qc]] w fun f w' => ∃ g, f = .returned (.slice (some ⟨g, 0, none⟩) xs.length xs.length) ∧ Fresh w w' (bbD (sqL xs.length (spB (.mk 8 num ks) xs ys))) (.slice (some ⟨g, 0, none⟩) xs.length xs.length) ∧ Below w.heap.size w w' := by
 obtain ⟨hk, hnum, hc, htl⟩ := tree_parts htr
 have hk2 : ks.length ≤ 2 := by have h := hk; simp [kidsN] at h; omega
 have hsh := hok.short
 have hlen := hok.len
 have Hok := Lib.hid hok
 have Htl := Lib.hid htl
 have Ih := Lib.hid ih
 have Htr := Lib.hid htr
 have Hc := Lib.hid hc
 clear htl ih hok htr hc
 obtain ⟨n, hn⟩ : ∃ n, xs.length = n := ⟨_, rfl⟩
 rw [hn] at rx ⊢
 have Hn := Lib.hid hn
 have hn1 : 1 ≤ n := by omega
 have hn2 : n ≤ 11 := by omega
 have hyn : ys.length ≤ n := by omega
 have Hny := Lib.hid (show n = ys.length + 1 by omega)
 have Hrx := Lib.hid rx
 have Hry := Lib.hid ry
 have Hr := Lib.hid hr
 have hn0 := Int.natCast_nonneg n
 obtain ⟨-, hlx, hcx, -⟩ := rx.sl_at
 obtain ⟨-, hly, hcy, -⟩ := ry.sl_at
 unfold maxLen at hcx hcy
 clear hn hlen hsh rx ry hr
 rw [show (List.length xs) = n from Hn.out] at hlx
 go_enter Try.func110, Try.ntmps110
 go_wp2_with fail
 obtain ⟨w0, e0, E, hb0, hz0⟩ := box3 w 38 (.int .i64 8) (.int .i64 num) (.slice s ks.length c)
 rw [e0]
 obtain ⟨w1, e1, Q, hb1, hz1⟩ := box2 w0 40 (.slice p n pc) (.slice q ys.length qc)
 rw [e1]
 rw [hz0] at Q
 have hB1 := hb0.trans (hb1.mono (by omega))
 replace E := E.below hb1
 have hzz : w1.heap.size = w.heap.size + 2 := by omega
 refine (newSpans_i hn1 (by omega)).mono ?_
 rintro f w2 ⟨g, gs, rfl, hsp, hb2⟩
 have HB2 := Lib.hid (hB1.trans (hb2.mono (by omega)))
 have HE := Lib.hid (E.below hb2)
 have HQ := Lib.hid (Q.below hb2)
 obtain ⟨B0, hB0⟩ : ∃ B0, w1.heap.size = B0 := ⟨_, rfl⟩
 rw [hB0] at hsp hzz
 have hz12 := hb2.size
 rw [hB0] at hz12
 have Hsp := Lib.hid hsp
 have hz2 := HB2.out.size
 clear hB0
 have h0 := App.empty (W := w2) (size := 1) (Blk.made w2 131 #[]) (Nat.le_refl _)
 obtain ⟨x0, x1, x2, -, -, -, ltx⟩ := (HE.out.alloc (.cells #[] 131)).all3
 clear e0 e1 hb0 hb1 hb2 E Q hB1 hz0 hz1 hsp
 go_wp2_with fail
 clear x0 x1 x2 ltx
 go_loopw [7, 27] (fun v i wr => ∃ j : Nat, j ≤ ks.length ∧ i = .int .i64 j ∧ App w2 wr 131 1 j ((ks.take j).map fun e => bbD (sqL n (spB e xs ys))) v ∧ Below w2.heap.size w2 wr) (fun _ i _ => ks.length - (intOf i).toNat)
 case atStart => exact ⟨0, Nat.zero_le _, rfl, by simpa using h0, Below.alloc (Below.refl _ _) (Nat.le_refl _) _⟩
 case round =>
  clear h0
  obtain ⟨j, hj, rfl, happ, hB⟩ := hrel
  obtain ⟨wo, rfl⟩ : ∃ v, v = wr := ⟨_, rfl⟩
  have hj0 := Int.natCast_nonneg j
  have szB := hB.size
  obtain ⟨a', cap', rfl, hcap1, hcap2⟩ := happ.shape
  unfold maxLen at hcap2
  have HB := Lib.hid hB
  by_cases hjl : j < ks.length
  ·
   obtain ⟨e', he'⟩ : ∃ e', ks[j]? = some e' := ⟨_, List.getElem?_eq_getElem hjl⟩
   obtain ⟨kb, ko, rfl⟩ := kid_some Hr.out (by intro h; rw [h] at hjl; simp at hjl)
   have hjz : (j : Int) < (ks.length : Int) := by omega
   have hBw := HB2.out.trans (hB.mono hz2)
   obtain ⟨hkb, sx, cx, i0, i1, i2, hxr⟩ := kid_in Hr.out he'
   replace i0 := (hBw.cell (p := ⟨kb, ko + j * 3, none⟩) hkb).trans i0
   replace i1 := (hBw.cell (p := ⟨kb, ko + j * 3 + 1, none⟩) hkb).trans i1
   replace i2 := (hBw.cell (p := ⟨kb, ko + j * 3 + 2, none⟩) hkb).trans i2
   have hbx := Below.alloc (Below.refl wo.heap.size wo) (Nat.le_refl _) (.cells #[.int .i64 e'.kind, .int .i64 e'.num, .slice sx e'.kids.length cx] 38)
   obtain ⟨y0, y1, lty⟩ := ((HQ.out.below hB).alloc (.cells #[.int .i64 e'.kind, .int .i64 e'.num, .slice sx e'.kids.length cx] 38)).all2
   obtain ⟨v0, v1, v2, -, -, -, ltv⟩ := (Blk.new3 wo 38 (.int .i64 e'.kind) (.int .i64 e'.num) (.slice sx e'.kids.length cx)).all3
   have HA := Lib.hid happ
   have htr' := Ex.treeL_mem Htl.out (List.mem_of_getElem? he')
   have hsz : Ex.sizeL e'.kids < N := by
    have h1 := Ex.sizeL_mem (List.mem_of_getElem? he')
    have h2 := Ex.size_eq e'
    omega
   have hBx := hBw.alloc hBw.size (.cells #[.int .i64 e'.kind, .int .i64 e'.num, .slice sx e'.kids.length cx] 38)
   have Htk := Lib.hid (show (ks.take (j + 1)).map (fun e => bbD (sqL n (spB e xs ys))) = (ks.take j).map (fun e => bbD (sqL n (spB e xs ys))) ++ [bbD (sqL n (spB e' xs ys))] by
    obtain ⟨h1, h2⟩ := List.getElem?_eq_some_iff.1 he'
    rw [List.take_succ_eq_append_getElem h1, List.map_append, h2]
    rfl)
   have hih := Ih.out _ hsz e' xs ys sx p q cx pc qc _ (Nat.le_refl _) (hxr.below hBx) htr' (by rw [Hn.out]; exact Hrx.out.below hBx) (Hry.out.below hBx) Hok.out
   rw [Hn.out] at hih
   clear happ hB he' hBw hxr hBx
   go_wp2_with fail
   refine hih.mono ?_
   rintro f w5 ⟨g5, rfl, hf5, hb5⟩
   have hb55 := hbx.trans (hb5.mono (by simp))
   have hz5 := hb55.size
   have hf6 : Freshs wo (w5.alloc (.cells #[.slice (some ⟨g5, 0, none⟩) n n] 131)) [bbD (sqL n (spB e' xs ys))] [.slice (some ⟨g5, 0, none⟩) n n] := (Freshs.one (hf5.from (by simp))).on (Below.alloc (Below.refl _ _) (Nat.le_refl _) _)
   have hb6 := hb55.alloc hz5 (.cells #[.slice (some ⟨g5, 0, none⟩) n n] 131)
   have happ := HA.out
   clear i0 i1 i2 y0 y1 lty v0 v1 v2 ltv hf5 hb5 hbx hb55 hih
   go_wp2_with (at_builtin; go_must (refine wpList_append_app _ rfl _ _ 174 rfl 131 (.slice none 0 0) 1 24 Try.underlying174 info_spans rfl (by decide) _ rfl happ hb6 szB ⟨w5.heap.size, 0, none⟩ 1 1 [.slice (some ⟨g5, 0, none⟩) n n] rfl (news_blk (Blk.made _ _ _)) hf6 rfl (by simp [Value.oneCell']) (by omega) (by omega) (by unfold maxLen; omega) ?_); intro g3 cap3 w3 happ3 hb3)
   have hB3 : Below w2.heap.size w2 w3 := (HB.out.trans (hb6.mono szB)).trans hb3
   have Hfin := Lib.hid (And.intro (happ3.sized Htk.out.symm rfl) hB3)
   clear happ3 hb3 hB3 happ hf6 hb6
   go_wp2_with fail
   go_roundw
   case rel => exact ⟨j + 1, by omega, by go_num, Hfin.out.1, Hfin.out.2⟩
   case measure => simp [intOf]; omega
  obtain rfl : j = ks.length := by omega
  rw [List.take_length] at happ
  have HKf := Lib.hid (happ.freshN (f := fun e => bbD (sqL n (spB e xs ys))) rfl)
  clear happ hB
  obtain ⟨x', hks⟩ := one_kid hk (by omega)
  have Hks := Lib.hid hks
  have hkz0 : 0 < ks.length := by rw [hks]; simp
  obtain ⟨kb, ko, rfl⟩ := nest_some HKf.out.rd hkz0
  clear hks
  obtain ⟨wK, rfl⟩ : ∃ v, v = wo := ⟨_, rfl⟩
  obtain ⟨X, hX⟩ : ∃ X : Nat → Prop, X = fun b => b = g ∨ b ∈ gs := ⟨_, rfl⟩
  have hXb : ∀ b, X b → w.heap.size + 2 ≤ b ∧ b < w2.heap.size := by
   intro b hb
   rw [hX] at hb
   have h1 := Hsp.out.own
   rcases hb with rfl | hb
   ·
    exact ⟨by omega, Hsp.out.blk.lt⟩
   ·
    obtain ⟨i, hi⟩ := List.mem_iff_getElem?.1 hb
    exact ⟨by have := (h1.2 b hb).1; omega, (Hsp.out.row i b hi).lt⟩
  have HK : Hid (∀ W, Spares X wK W → SpK w n g gs 8 num s p q c pc qc 1 ks xs ys (.slice (some ⟨kb, ko, none⟩) ks.length cap') W) := by
   intro W hs
   refine ⟨(HE.out.below HB.out).keep (hs.block _ (HE.out.below HB.out).lt (fun h => by have := hXb _ h; omega)), (HQ.out.below HB.out).keep (hs.block _ (HQ.out.below HB.out).lt (fun h => by have := hXb _ h; omega)), (HB2.out.trans (HB.out.mono hz2)).trans (hs.below (B := w.heap.size) (by have := HB.out.size; omega) (fun b h => by have := hXb _ h; omega)), Or.inl (HKf.out.keep (fun b h1 h2 => hs.block b h2 (fun h => by have := hXb _ h; omega))).rd⟩
  have HXm := Lib.hid (fun i x (hx : gs[i]? = some x) => (show X x by rw [hX]; exact Or.inr (List.mem_of_getElem? hx)))
  obtain ⟨bs, hbs⟩ : ∃ bs : Nat → Nat → Bool, bs = fun r c => decide (r = c) := ⟨_, rfl⟩
  have Hbs := Lib.hid hbs
  have Hsp0 := Lib.hid ((Hsp.out.below HB.out).congr (K := fun r c => if r < 0 then bs r c else false) (fun r c _ _ => by rw [if_neg (Nat.not_lt_zero _)]))
  clear hX hXb hbs HE HQ HB Hsp HB2
  go_wp2_with fail
  go_loopw [39] (fun i wr => ∃ j : Nat, j ≤ n ∧ i = .int .i64 j ∧ SpW B0 n g gs (fun r c => if r < j then bs r c else false) wr ∧ Spares X wK wr) (fun i _ => n - (intOf i).toNat)
  case atStart => exact ⟨0, Nat.zero_le _, rfl, Hsp0.out, Spares.refl _⟩
  case round =>
   clear Hsp0
   obtain ⟨j, hj, rfl, hsp, hs⟩ := hrel
   obtain ⟨wo, rfl⟩ : ∃ v, v = wr := ⟨_, rfl⟩
   have hj0 := Int.natCast_nonneg j
   have Hsp := Lib.hid hsp
   have Hs := Lib.hid hs
   have hkk := HK.out wo hs
   obtain ⟨x0, x1, x2, -, -, -, ltx⟩ := hkk.E.all3
   obtain ⟨y0, y1, lty⟩ := hkk.Q.all2
   by_cases hjn : j < n
   ·
    have hjz : (j : Int) < (n : Int) := by omega
    clear hsp hs
    obtain ⟨xr, hxr, c1, c2, c3, c4, c5, c6, c7⟩ := Hsp.out.cells hjn hjn
    have Hnx := Lib.hid (And.intro ((Hsp.out.set hxr true).congr (K := fun r c => if r < j + 1 then bs r c else false) (fun r c _ _ => by
     rw [Hbs.out]
     show (if r = j ∧ c = j then true else if r < j then decide (r = c) else false) = if r < j + 1 then decide (r = c) else false
     by_cases h1 : r = j ∧ c = j
     ·
      rw [if_pos h1, if_pos (by omega)]; simp [h1.1, h1.2]
     ·
      rw [if_neg h1]
      by_cases h2 : r < j
      ·
       rw [if_pos h2, if_pos (by omega)]
      ·
       rw [if_neg h2]
       by_cases h3 : r < j + 1
       ·
        rw [if_pos h3]
        exact (decide_eq_false (by omega)).symm
       ·
        rw [if_neg h3])) (spares_put (p := ⟨xr, j, none⟩) Hs.out (HXm.out j xr hxr) (.bool true)))
    clear hkk hxr
    go_wp2_with fail
    go_roundw
    case rel => exact ⟨j + 1, by omega, by go_num, Hnx.out.1, Hnx.out.2⟩
    case measure => simp [intOf]; omega
   obtain rfl : n = j := by omega
   have Hsq := Lib.hid (hsp.congr (K := bs) (fun r c hr _ => if_pos hr))
   clear Hsp hsp hs hkk
   have e1 : IntKind.i64.wrap ((n : Int) - 1) = ((n - 1 : Nat) : Int) := by rw [show (n : Int) - 1 = ((n - 1 : Nat) : Int) by omega]; exact wrap_of (by omega) (by omega)
   obtain ⟨fn, hfn⟩ : ∃ fn : Nat → Nat → Bool, fn = spB (.mk 8 num ks) xs ys := ⟨_, rfl⟩
   have Hfn := Lib.hid hfn
   have Hlow : Hid (∀ i c, c < i → bs i c = fn i c) := fun i c hci => by rw [Hfn.out, Hbs.out]; exact by cases hb : spB (.mk 8 num ks) xs ys i c with | false => exact decide_eq_false (by omega) | true => (rw [spB_iff] at hb; have := hb.1; omega)
   clear hfn x0 x1 x2 ltx y0 y1 lty
   go_wp2_with fail
   clear e1
   go_loopw [11] (fun v wr => (∃ i : Nat, i < n ∧ v = .int .i64 i ∧ SpW B0 n g gs (moM fn bs (i + 1)) wr ∧ Spares X wK wr) ∨ (v = .int .i64 (-1) ∧ SpW B0 n g gs fn wr ∧ Spares X wK wr)) (fun i _ => (intOf i + 1).toNat)
   case atStart => exact Or.inl ⟨n - 1, by omega, rfl, Hsq.out.congr (fun r c hr _ => by unfold moM; rw [if_neg (by omega)]), Hs.out⟩
   case round =>
    clear Hsq Hs
    rcases hrel with ⟨i, hi, rfl, hsp, hs⟩ | ⟨rfl, hsp, hs⟩
    rotate_left
    ·
     have HF := Lib.hid (hsp.fresh (W := w) (by omega) hn1 (by unfold maxLen; omega))
     have HBf := Lib.hid (HK.out _ hs).bl
     clear hsp hs
     go_wp2_with fail
     go_ret
     exact ⟨g, rfl, by rw [← Hfn.out]; exact HF.out, HBf.out⟩
    obtain ⟨wo, rfl⟩ : ∃ v, v = wr := ⟨_, rfl⟩
    have hi0 := Int.natCast_nonneg i
    have Hmi := Lib.hid (hsp.congr (K := miM fn bs i i) (fun r c _ _ => mo_mi (Hlow.out i) r c))
    have Hs := Lib.hid hs
    clear hsp hs
    go_wp2_with fail
    go_loopw [12] (fun v wr => ∃ b : Nat, i ≤ b ∧ b ≤ n ∧ v = .int .i64 b ∧ SpW B0 n g gs (miM fn bs i b) wr ∧ Spares X wK wr) (fun v _ => n - (intOf v).toNat)
    case atStart => exact ⟨i, Nat.le_refl _, by omega, rfl, Hmi.out, Hs.out⟩
    case round =>
     clear Hmi Hs
     obtain ⟨b, hib, hb, rfl, hsp, hs⟩ := hrel
     obtain ⟨wp, rfl⟩ : ∃ v, v = wr := ⟨_, rfl⟩
     have hb0 := Int.natCast_nonneg b
     have Hs := Lib.hid hs
     by_cases hbn : b < n
     rotate_left
     ·
      obtain rfl : n = b := by omega
      have Hmo := Lib.hid (hsp.congr (K := moM fn bs i) (fun r c _ hc => mi_mo r c hc))
      clear hsp hs
      by_cases hi1 : i = 0
      ·
       subst hi1
       have e2 : IntKind.i64.wrap (((0 : Nat) : Int) - 1) = -1 := rfl
       have Hall := Lib.hid (Hmo.out.congr (K := fn) (fun r c _ _ => mo_all r c))
       go_wp2_with fail
       go_roundw
       case rel => exact Or.inr ⟨rfl, Hall.out, Hs.out⟩
       case measure => simp [intOf]
      ·
       obtain ⟨i', rfl⟩ : ∃ i', i = i' + 1 := ⟨i - 1, by omega⟩
       have e2 : IntKind.i64.wrap (((i' + 1 : Nat) : Int) - 1) = (i' : Int) := by rw [show ((i' + 1 : Nat) : Int) - 1 = (i' : Int) by omega]; exact wrap_of (by omega) (by omega)
       go_wp2_with fail
       go_roundw
       case rel => exact Or.inl ⟨i', by omega, by go_num, Hmo.out, Hs.out⟩
       case measure => simp [intOf]; omega
     have hbz : (b : Int) < (n : Int) := by omega
     have Hsp := Lib.hid hsp
     have hkk := HK.out wp hs
     obtain ⟨x0, x1, x2, -, -, -, ltx⟩ := hkk.E.all3
     clear hsp hs
     have Hst0 := Lib.hid (Hsp.out.congr (K := updM (miM fn bs i b) i b (bs i b)) (fun r c _ _ => (mi_start r c).symm))
     have e3 : IntKind.i64.wrap ((i : Int) + 1) = ((i + 1 : Nat) : Int) := by rw [show (i : Int) + 1 = ((i + 1 : Nat) : Int) by omega]; exact wrap_of (by omega) (by omega)
     have Hb0 : Hid (bs i b = frtTo x' xs ys i b (i + 1)) := by show _ = _; rw [Hbs.out, frtTo_zero (Nat.le_refl _)]
     have Hfs : Hid (∀ r c, fn r c = spB (.mk 8 0 [x']) xs ys r c) := fun r c => by rw [Hfn.out, Hks.out]; exact spB_star_num
     clear hkk Hsp
     go_wp2_with fail
     clear x0 x1 x2 ltx e3
     go_loopw [14] (fun v wr => ∃ (j : Nat) (r : Bool), i + 1 ≤ j ∧ j ≤ b + 1 ∧ v = .int .i64 j ∧ Hid (r = frtTo x' xs ys i b j) ∧ SpW B0 n g gs (updM (miM fn bs i b) i b r) wr ∧ Spares X wK wr) (fun v _ => b + 1 - (intOf v).toNat)
     case atStart => exact ⟨i + 1, _, Nat.le_refl _, by omega, by go_num, Hb0.out, Hst0.out, Hs.out⟩
     case round =>
      clear Hst0 Hs Hb0
      obtain ⟨j, r, hij, hj, rfl, HR, hsp, hs⟩ := hrel
      obtain ⟨wq, rfl⟩ : ∃ v, v = wr := ⟨_, rfl⟩
      have hj0 := Int.natCast_nonneg j
      have Hs := Lib.hid hs
      have Hsp := Lib.hid hsp
      by_cases hjb : j ≤ b
      rotate_left
      ·
       obtain rfl : j = b + 1 := by omega
       have Hnx := Lib.hid (hsp.congr (K := miM fn bs i (b + 1)) (fun r' c _ _ => by rw [HR.out, frtTo_all, ← Hfs.out]; exact mi_upd r' c))
       have hgt : (b : Int) < ((b + 1 : Nat) : Int) := by omega
       clear hsp hs
       go_wp2_with fail
       go_roundw
       case rel => exact ⟨b + 1, by omega, by omega, by go_num, Hnx.out, Hs.out⟩
       case measure => simp [intOf]; omega
      have hjz : (j : Int) ≤ (b : Int) := by omega
      have hjn : (j : Int) < (n : Int) := by omega
      have hkd := (HK.out wq hs).kd.resolve_right (by decide)
      rw [Hks.out] at hkd
      have hkd' : Rd wq (nestD bbD [sqL n (spB x' xs ys)]) (.slice (some ⟨kb, ko, none⟩) [x'].length cap') := hkd
      obtain ⟨xr, hxr, c1, c2, c3, c4, c5, c6, c7⟩ := hsp.cells (show i < n by omega) hbn
      rw [updM_self] at c2
      obtain ⟨yr, hyr, l1, l2, -, l4, -, -, -⟩ := hsp.cells (show j < n by omega) hbn
      rw [updM_ne (Or.inl (by omega))] at l2
      obtain ⟨b1, o1, d1, b2, o2, d2, k1, k2, k3, k4, k5, k6, k7⟩ := sq_cell (q := 0) hkd' rfl (show i < n by omega) (show j < n by omega)
      simp only [Nat.add_zero] at k1
      unfold maxLen at k5 k7
      have Hset := Lib.hid (fun v : Bool => (And.intro (((hsp.set hxr v).congr (K := updM (miM fn bs i b) i b v) (fun r' c _ _ => upd_upd r' c)).drew) (spares_drew (spares_put (p := ⟨xr, b, none⟩) hs (HXm.out i xr hxr) (.bool v)))))
      obtain ⟨u1, hu1⟩ : ∃ u1, spB x' xs ys i j = u1 := ⟨_, rfl⟩
      obtain ⟨u2, hu2⟩ : ∃ u2, miM fn bs i b j b = u2 := ⟨_, rfl⟩
      rw [hu1] at k3
      rw [hu2] at l2
      have hu3 : spB (.mk 8 0 [x']) xs ys j b = u2 := by rw [← Hfs.out, ← hu2]; unfold miM; rw [if_pos (Or.inl (by omega))]
      have Hsu : Hid (frtTo x' xs ys i b (j + 1) = (r || (u1 && u2))) := by show _ = _; rw [frtTo_succ, ← HR.out, hu1, hu3, decide_eq_true hij, Bool.true_and]
      clear hkd hkd' hsp hs hu1 hu2 hu3 hxr hyr
      cases r
      ·
       cases u1
       ·
        have HR2 : Hid (false = frtTo x' xs ys i b (j + 1)) := by show _ = _; rw [Hsu.out]; simp
        go_wp2_with fail
        go_region
        go_wp2_with fail
        go_roundw
        case rel => exact ⟨j + 1, false, by omega, by omega, by go_num, HR2, (Hset.out false).1, (Hset.out false).2⟩
        case measure => simp [intOf]; omega
       ·
        have HR2 : Hid (u2 = frtTo x' xs ys i b (j + 1)) := by show _ = _; rw [Hsu.out]; simp
        go_wp2_with fail
        go_region
        go_wp2_with fail
        go_roundw
        case rel => exact ⟨j + 1, u2, by omega, by omega, by go_num, HR2, (Hset.out u2).1, (Hset.out u2).2⟩
        case measure => simp [intOf]; omega
      ·
       have HR2 : Hid (true = frtTo x' xs ys i b (j + 1)) := by show _ = _; rw [Hsu.out]; simp
       go_wp2_with fail
       go_region
       go_wp2_with fail
       go_roundw
       case rel => exact ⟨j + 1, true, by omega, by omega, by go_num, HR2, (Hset.out true).1, (Hset.out true).2⟩
       case measure => simp [intOf]; omega
end Go.Proofs.Ytbflhjjnemdecaa

namespace Go.Proofs.Ytbflhjjnemdecaa
set_option linter.unusedVariables false
set_option linter.unusedSimpArgs false
open Go.ChangeShapes Go.WideShapes Go.ChangeAt Go.RowKit Go.Deep Go.Sort
theorem spansOf_all {tm : Int} (am : Int) (htm : tm ≤ 2) (N : Nat) : SpnC tm am N := by
 induction N using Nat.strongRecOn with
 | _ N ih =>
 intro e xs ys s p q c pc qc w hN hr htr rx ry hok
 obtain ⟨k, num, ks⟩ := e
 simp only [Ex.kind, Ex.num, Ex.kids] at hN hr ⊢
 obtain ⟨hk, -, -, -⟩ := tree_parts htr
 rcases kind_cases hk with rfl | rfl | rfl | rfl | rfl | rfl | rfl | rfl
 ·
  exact spans_1 htm ih hN hr htr rx ry hok
 ·
  exact spans_2 htm ih hN hr htr rx ry hok
 ·
  exact spans_3 htm ih hN hr htr rx ry hok
 ·
  exact spans_4 htm ih hN hr htr rx ry hok
 ·
  exact spans_5 htm ih hN hr htr rx ry hok
 ·
  exact spans_6 htm ih hN hr htr rx ry hok
 ·
  exact spans_7 htm ih hN hr htr rx ry hok
 ·
  exact spans_8 htm ih hN hr htr rx ry hok
end Go.Proofs.Ytbflhjjnemdecaa

namespace Go.Proofs.Ytbflhjjnemdecaa
set_option linter.unusedVariables false
set_option linter.unusedSimpArgs false
open Go.ChangeShapes Go.WideShapes Go.ChangeAt Go.RowKit Go.Sort
theorem clone_ints {zs : List Int} {s : Option Addr} {c : Nat} {w : World} (hr : Rd w (intsD zs) (.slice s zs.length c)) (h1 : zs.length ≤ 1000000000) :
  Calls Try.prog 140 #[.slice s zs.length c] w fun e w' => ∃ s' c', e = .returned (.slice s' zs.length c') ∧ Fresh w w' (intsD zs) (.slice s' zs.length c') ∧ Below w.heap.size w w' := by
 cases s with
 | none =>
  obtain ⟨_, hlen, _, _, hc, _⟩ := hr.sl_at
  obtain rfl : c = 0 := hc rfl
  have h0 : zs.length = 0 := by omega
  obtain rfl : zs = [] := List.eq_nil_of_length_eq_zero h0
  have hn := eql_nil 27 _ none 0 0 (Try.underlying27)
  go_enter Try.func140, Try.ntmps140
  go_wp2_with fail
  go_ret
  exact ⟨none, 0, rfl, (App.nil (W := w) (w := w) (t := 0) (size := 1)).fresh, Below.refl _ _⟩
 | some p =>
  have h0 := App.empty (W := w) (size := 1) (Blk.made w 2 #[]) (Nat.le_refl _)
  have hn := eql_nil 27 _ (some p) zs.length c (Try.underlying27)
  go_enter Try.func140, Try.ntmps140
  go_wp2_with (at_builtin; refine wpList_append_ints (W := w) _ rfl _ _ 27 rfl 2 Try.underlying27 info_int64 (zs := []) (ys := zs) _ rfl h0 (by simp) rfl (hr.alloc _) (by simp; omega) ?_; intro a' cap w1 happ hb1)
  have hB : Below w.heap.size w w1 := (Below.alloc (Below.refl _ _) (Nat.le_refl _) _).trans hb1
  simp only [List.nil_append] at happ ⊢
  go_wp2_with fail
  go_ret
  exact ⟨a', cap, rfl, happ.fresh, hB⟩
end Go.Proofs.Ytbflhjjnemdecaa

namespace Go.Proofs.Ytbflhjjnemdecaa
set_option linter.unusedVariables false
set_option linter.unusedSimpArgs false
open Go.ChangeShapes Go.WideShapes Go.ChangeAt Go.RowKit Go.Sort
set_option maxHeartbeats 4000000 in
theorem copyWord_i {xs ys : List Int} {s t : Option Addr} {c d : Nat} {w : World} (hr : Rd w (intsD xs) (.slice s xs.length c)) (hq : Rd w (intsD ys) (.slice t ys.length d)) (hx : xs.length ≤ 1000000000) (hy : ys.length ≤ 1000000000) :
  Calls Try.prog 95 #[.agg #[.slice s xs.length c, .slice t ys.length d]] w fun e w' => ∃ s' c' t' d', e = .returned (.agg #[.slice s' xs.length c', .slice t' ys.length d']) ∧
   Freshs w w' (wordD xs ys) [.slice s' xs.length c', .slice t' ys.length d'] ∧ Below w.heap.size w w' := by
 go_enter Try.func95, Try.ntmps95
 go_wp2_with fail
 have L := (Blk.new2 w 40 (.slice s xs.length c) (.slice t ys.length d)).alloc (.cells #[.slice none 0 0, .slice none 0 0] 40)
 have R := Blk.new2 (w.alloc (.cells #[.slice s xs.length c, .slice t ys.length d] 40)) 40 (.slice none 0 0) (.slice none 0 0)
 simp at R
 have hB0 : Below w.heap.size w ((w.alloc (.cells #[.slice s xs.length c, .slice t ys.length d] 40)).alloc (.cells #[.slice none 0 0, .slice none 0 0] 40)) := by (repeat' first | exact Below.refl _ _ | assumption | apply Below.alloc | apply Below.drew | apply Below.setCell | omega | (simp; done) | (simp; omega))
 generalize ((w.alloc (.cells #[.slice s xs.length c, .slice t ys.length d] 40)).alloc (.cells #[.slice none 0 0, .slice none 0 0] 40)) = w0 at L R hB0 ⊢
 refine region_rg 7 [] [0, 1, 2, 3, 4, 5, 6] (fun i iv vs wx => match i with
  | 0 => vs 0 = .pointer (some ⟨w.heap.size, 0, none⟩)
  | 1 => vs 1 = .slice s xs.length c
  | 2 => ∃ sa ca, vs 2 = .slice sa xs.length ca ∧ FreshIn (iv 2) wx [intsD xs] [.slice sa xs.length ca]
  | 3 => vs 3 = .pointer (some ⟨w.heap.size, 1, none⟩)
  | 4 => vs 4 = .slice t ys.length d
  | 5 => ∃ sb cb, vs 5 = .slice sb ys.length cb ∧ FreshIn (iv 5) wx [intsD ys] [.slice sb ys.length cb]
  | 6 => vs 6 = .agg #[vs 2, vs 5]
  | _ => True) (fun vs wx => ∃ s' c' t' d', Blk wx (w.heap.size + 1) 40 [.slice s' xs.length c', .slice t' ys.length d'] ∧ Freshs w wx (wordD xs ys) [.slice s' xs.length c', .slice t' ys.length d'] ∧ Below w.heap.size w wx)
  (by kernel_rfl) (by kernel_rfl) (by kernel_rfl) (by kernel_rfl) ?hJ ?hX ?hF ?hstep ?hstore ?hQ (by kernel_rfl)
 case hX =>
  intro i o t k hi ho hop iv vs w hj
  simp at hi
 case hF =>
  intro vs vs' wx h hf
  exact hf
 case hJ =>
  intro i hi iv iv' vs vs' wx wx' ha hv hb hj
  simp only [List.mem_cons, List.not_mem_nil, or_false] at hi
  rcases hi with rfl | rfl | rfl | rfl | rfl | rfl | rfl
  ·
   have e0 := hv.out 0 (mem_of (by kernel_rfl))
   have hj' : vs 0 = .pointer (some ⟨w.heap.size, 0, none⟩) := hj
   show vs' 0 = .pointer (some ⟨w.heap.size, 0, none⟩)
   rw [← e0]
   exact hj'
  ·
   have e1 := hv.out 1 (mem_of (by kernel_rfl))
   have hj' : vs 1 = .slice s xs.length c := hj
   show vs' 1 = .slice s xs.length c
   rw [← e1]
   exact hj'
  ·
   have e2 := hv.out 2 (mem_of (by kernel_rfl))
   have g2 := ha.out 2 (mem_of (by kernel_rfl))
   obtain ⟨sa, ca, q1, q2⟩ := hj
   exact ⟨sa, ca, e2 ▸ q1, g2 ▸ q2.below hb⟩
  ·
   have e3 := hv.out 3 (mem_of (by kernel_rfl))
   have hj' : vs 3 = .pointer (some ⟨w.heap.size, 1, none⟩) := hj
   show vs' 3 = .pointer (some ⟨w.heap.size, 1, none⟩)
   rw [← e3]
   exact hj'
  ·
   have e4 := hv.out 4 (mem_of (by kernel_rfl))
   have hj' : vs 4 = .slice t ys.length d := hj
   show vs' 4 = .slice t ys.length d
   rw [← e4]
   exact hj'
  ·
   have e5 := hv.out 5 (mem_of (by kernel_rfl))
   have g5 := ha.out 5 (mem_of (by kernel_rfl))
   obtain ⟨sb, cb, q1, q2⟩ := hj
   exact ⟨sb, cb, e5 ▸ q1, g5 ▸ q2.below hb⟩
  ·
   have e6 := hv.out 6 (mem_of (by kernel_rfl))
   have e2 := hv.out 2 (mem_of (by kernel_rfl))
   have e5 := hv.out 5 (mem_of (by kernel_rfl))
   have hj' : vs 6 = .agg #[vs 2, vs 5] := hj
   show vs' 6 = .agg #[vs' 2, vs' 5]
   rw [← e2, ← e5, ← e6]
   exact hj'
 case hstep =>
  intro i hi o ho iv vs w1 hB hd hbd hsep K hK
  simp only [List.mem_cons, List.not_mem_nil, or_false] at hi
  have hr1 := (hr.below hB0).below hB
  have hq1 := (hq.below hB0).below hB
  have L1 := L.below hB
  have l0 := L1.c0
  have l1 := L1.c1
  rcases hi with rfl | rfl | rfl | rfl | rfl | rfl | rfl
  all_goals
   simp at ho
   subst ho
   simp only [putFrom, puts]
  ·
   go_wp2_with fail
   exact Onward.mk (hK (.pointer (some ⟨w.heap.size, 0, none⟩)) _ _ (by simp only [putFrom, puts]) (Below.refl _ _) (fun iv' _ _ => rfl))
  ·
   have h0 : vs 0 = .pointer (some ⟨w.heap.size, 0, none⟩) := hd.out 0 (mem_of (by kernel_rfl)) (by decide)
   go_wp2_with fail
   exact Onward.mk (hK (.slice s xs.length c) _ _ (by simp only [putFrom, puts, h0]) (Below.refl _ _) (fun iv' _ _ => rfl))
  ·
   have h1 : vs 1 = .slice s xs.length c := hd.out 1 (mem_of (by kernel_rfl)) (by decide)
   go_wp2_with fail
   refine (clone_ints hr1 hx).mono ?_
   rintro e w2 ⟨sa, ca, rfl, hf, hb⟩
   go_wp2_with fail
   exact Onward.mk (hK (.slice sa xs.length ca) _ _ (by simp only [putFrom, puts, h1]) hb (fun iv' _ hi => ⟨sa, ca, rfl, by rw [hi]; exact Freshs.stretch (Freshs.one hf)⟩))
  ·
   go_wp2_with fail
   exact Onward.mk (hK (.pointer (some ⟨w.heap.size, 1, none⟩)) _ _ (by simp only [putFrom, puts]) (Below.refl _ _) (fun iv' _ _ => rfl))
  ·
   have h3 : vs 3 = .pointer (some ⟨w.heap.size, 1, none⟩) := hd.out 3 (mem_of (by kernel_rfl)) (by decide)
   go_wp2_with fail
   exact Onward.mk (hK (.slice t ys.length d) _ _ (by simp only [putFrom, puts, h3]) (Below.refl _ _) (fun iv' _ _ => rfl))
  ·
   have h4 : vs 4 = .slice t ys.length d := hd.out 4 (mem_of (by kernel_rfl)) (by decide)
   go_wp2_with fail
   refine (clone_ints hq1 hy).mono ?_
   rintro e w2 ⟨sb, cb, rfl, hf, hb⟩
   go_wp2_with fail
   exact Onward.mk (hK (.slice sb ys.length cb) _ _ (by simp only [putFrom, puts, h4]) hb (fun iv' _ hi => ⟨sb, cb, rfl, by rw [hi]; exact Freshs.stretch (Freshs.one hf)⟩))
  ·
   obtain ⟨sa, ca, h2, f2⟩ := hd.out 2 (mem_of (by kernel_rfl)) (by decide)
   obtain ⟨sb, cb, h5, f5⟩ := hd.out 5 (mem_of (by kernel_rfl)) (by decide)
   go_wp2_with fail
   exact Onward.mk (hK (.agg #[.slice sa xs.length ca, .slice sb ys.length cb]) _ _ (by simp only [putFrom, puts, h2, h5]) (Below.refl _ _) (fun iv' _ _ => by
    show (.agg #[.slice sa xs.length ca, .slice sb ys.length cb] : Value) = .agg #[vs 2, vs 5]
    simp only [h2, h5]))
 case hstore =>
  intro o ho iv vs w1 hB hd hsep K hK
  simp at ho
  subst ho
  simp only [putFrom, puts]
  have h0 : vs 0 = .pointer (some ⟨w.heap.size, 0, none⟩) := (hd.out 0 (mem_of (by kernel_rfl))).1
  have h1 : vs 1 = .slice s xs.length c := (hd.out 1 (mem_of (by kernel_rfl))).1
  obtain ⟨⟨sa, ca, h2, f2⟩, b2, -, u2⟩ := hd.out 2 (mem_of (by kernel_rfl))
  have h3 : vs 3 = .pointer (some ⟨w.heap.size, 1, none⟩) := (hd.out 3 (mem_of (by kernel_rfl))).1
  have h4 : vs 4 = .slice t ys.length d := (hd.out 4 (mem_of (by kernel_rfl))).1
  obtain ⟨⟨sb, cb, h5, f5⟩, b5, -, u5⟩ := hd.out 5 (mem_of (by kernel_rfl))
  have h6 : vs 6 = .agg #[vs 2, vs 5] := (hd.out 6 (mem_of (by kernel_rfl))).1
  rw [h2, h5] at h6
  have hpair := f2.pair f5 (hsep.out 2 (mem_of (by kernel_rfl)) 5 (mem_of (by kernel_rfl)) (by decide)) b2 b5
  have R1 := R.below hB
  have r0 := R1.c0
  have r1 := R1.c1
  have z0 := R1.frozen 0
  have z1 := R1.frozen 1
  have hRl := R.lt
  have hz1 := hB.size
  have hz0 := hB0.size
  clear h0 h1 h2 h3 h4 h5 f2 f5 b2 b5 u2 u5
  go_wp2_with fail
  refine Onward.mk (hK _ _ (by simp only [putFrom, puts, h6]) ⟨sa, ca, sb, cb, (R1.set 0 _).set 1 _, ?_, ?_⟩)
  ·
   refine (hpair.keep fun b h1 h2 => ?_).from hz0
   rw [Below.heap_setCell _ _ _ _ (by show b ≠ w.heap.size + 1; omega), Below.heap_setCell _ _ _ _ (by show b ≠ w.heap.size + 1; omega)]
  ·
   exact Below.setCell (Below.setCell (Below.on hB0 hB hz0) (by simp) _) (by simp) _
 case hQ =>
  rintro vs wx - ⟨s', c', t', d', hblk, hf, hBx⟩
  simp only [putFrom, puts]
  have c0 := hblk.c0
  have c1 := hblk.c1
  go_wp2_with fail
  exact bodyPost_ret (v := .agg #[.slice s' xs.length c', .slice t' ys.length d']) (by simp [results, Try.results95, go_sem, c0, c1]) rfl ⟨s', c', t', d', rfl, hf, hBx⟩
theorem fresh_nil2 (w w' : World) : Freshs w w' (wordD [] []) [.slice none 0 0, .slice none 0 0] := by
 have h : Ow w' (intsD []) (.slice none 0 0) [] := by
  simp only [intsD, Ow]
  exact ⟨none, 0, rfl, by simp, by simp [maxLen], by simp, by simp, Or.inl (by simp)⟩
 exact ⟨_, Ows.mk2 h h, by simp, by simp⟩
def revX (t a : Int) (xs ys : List Int) : List Int := if wordB t a xs ys = true then xs.reverse else []
def revY (t a : Int) (xs ys : List Int) : List Int := if wordB t a xs ys = true then ys.reverse else []
def revC (t a : Int) (xs ys : List Int) : Int := if wordB t a xs ys = true then 0 else 1
set_option maxHeartbeats 4000000 in
theorem implReverseWord_i {t a : Int} {xs ys : List Int} {s u : Option Addr} {c d : Nat} {w : World} (hr : Rd w (intsD xs) (.slice s xs.length c)) (hq : Rd w (intsD ys) (.slice u ys.length d)) (hx : xs.length ≤ 100000000) (hy : ys.length ≤ 100000000) :
  Calls Try.prog 44 #[.agg #[.int .i64 t, .int .i64 a], .agg #[.slice s xs.length c, .slice u ys.length d]] w fun e w' => ∃ s' c' u' d', e = .returned (.tuple #[.agg #[.slice s' (revX t a xs ys).length c', .slice u' (revY t a xs ys).length d'], .int .i64 (revC t a xs ys)]) ∧
   Freshs w w' (wordD (revX t a xs ys) (revY t a xs ys)) [.slice s' (revX t a xs ys).length c', .slice u' (revY t a xs ys).length d'] ∧ Below w.heap.size w w' := by
 go_enter Try.func44, Try.ntmps44
 go_wp2_with fail
 have L := ((Blk.new2 w 34 (.int .i64 t) (.int .i64 a)).alloc (.cells #[.slice s xs.length c, .slice u ys.length d] 40)).alloc (.cells #[.slice none 0 0, .slice none 0 0] 40)
 have M := (Blk.new2 (w.alloc (.cells #[.int .i64 t, .int .i64 a] 34)) 40 (.slice s xs.length c) (.slice u ys.length d)).alloc (.cells #[.slice none 0 0, .slice none 0 0] 40)
 have R := Blk.new2 ((w.alloc (.cells #[.int .i64 t, .int .i64 a] 34)).alloc (.cells #[.slice s xs.length c, .slice u ys.length d] 40)) 40 (.slice none 0 0) (.slice none 0 0)
 simp at M R
 have hB0 : Below w.heap.size w (((w.alloc (.cells #[.int .i64 t, .int .i64 a] 34)).alloc (.cells #[.slice s xs.length c, .slice u ys.length d] 40)).alloc (.cells #[.slice none 0 0, .slice none 0 0] 40)) := by (repeat' first | exact Below.refl _ _ | assumption | apply Below.alloc | apply Below.drew | apply Below.setCell | omega | (simp; done) | (simp; omega))
 generalize (((w.alloc (.cells #[.int .i64 t, .int .i64 a] 34)).alloc (.cells #[.slice s xs.length c, .slice u ys.length d] 40)).alloc (.cells #[.slice none 0 0, .slice none 0 0] 40)) = w0 at L M R hB0 ⊢
 refine (implValidWord_i (hr.below hB0) (hq.below hB0)).mono ?_
 rintro e w1 ⟨rfl, hb⟩
 replace hB0 := Below.on hB0 hb hB0.size
 replace L := L.below hb
 replace M := M.below hb
 replace R := R.below hb
 clear hb
 have r0 := R.c0
 have r1 := R.c1
 have z0 := R.frozen 0
 have z1 := R.frozen 1
 cases hw : wordB t a xs ys
 ·
  have hc : revC t a xs ys = 1 := by simp [revC, hw]
  have hX : revX t a xs ys = [] := by simp [revX, hw]
  have hY : revY t a xs ys = [] := by simp [revY, hw]
  clear hw
  go_wp2_with fail
  have R' := (R.set 0 (.slice none 0 0)).set 1 (.slice none 0 0)
  have c0 := R'.c0
  have c1 := R'.c1
  refine bodyPost_ret (v := .tuple #[.agg #[.slice none 0 0, .slice none 0 0], .int .i64 1]) (by simp [results, Try.results44, go_sem, c0, c1]) rfl ?_
  rw [hX, hY, hc]
  exact ⟨none, 0, none, 0, rfl, fresh_nil2 _ _, Below.setCell (Below.setCell hB0 (by simp; omega) _) (by simp; omega) _⟩
 ·
  have hc : revC t a xs ys = 0 := by simp [revC, hw]
  have hX : revX t a xs ys = xs.reverse := by simp [revX, hw]
  have hY : revY t a xs ys = ys.reverse := by simp [revY, hw]
  clear hw r0 r1 z0 z1
  have hRl1 := R.lt
  have m0 := M.c0
  have m1 := M.c1
  go_wp2_with fail
  refine (copyWord_i (hr.below hB0) (hq.below hB0) (by omega) (by omega)).mono ?_
  rintro e w2 ⟨sa, ca, sb, cb, rfl, hf, hb⟩
  obtain ⟨F, hf, hnd, hF⟩ := hf
  obtain ⟨F1, F2, rfl, f1, f2⟩ := hf.two
  rw [List.nodup_append] at hnd
  obtain ⟨n1, n2, dis⟩ := hnd
  have hz01 := hB0.size
  have hz12 := hb.size
  replace hB0 := Below.on hB0 hb hB0.size
  replace R := R.below hb
  have hRl := R.lt
  clear m0 m1 M L
  go_wp2_with fail
  have X := Blk.new2 w2 40 (.slice sa xs.length ca) (.slice sb ys.length cb)
  have u1 : ∀ b ∈ F1, w1.heap.size ≤ b ∧ b < w2.heap.size := fun b hm => ⟨hF b (List.mem_append_left _ hm), f1.lt b hm⟩
  have u2 : ∀ b ∈ F2, w1.heap.size ≤ b ∧ b < w2.heap.size := fun b hm => ⟨hF b (List.mem_append_right _ hm), f2.lt b hm⟩
  replace R := R.alloc (.cells #[.slice sa xs.length ca, .slice sb ys.length cb] 40)
  replace f1 := f1.keep (w' := w2.alloc (.cells #[.slice sa xs.length ca, .slice sb ys.length cb] 40)) fun b hm => Below.heap_alloc w2 _ b (f1.lt b hm)
  replace f2 := f2.keep (w' := w2.alloc (.cells #[.slice sa xs.length ca, .slice sb ys.length cb] 40)) fun b hm => Below.heap_alloc w2 _ b (f2.lt b hm)
  replace hB0 := hB0.alloc hB0.size (.cells #[.slice sa xs.length ca, .slice sb ys.length cb] 40)
  generalize w2.alloc (.cells #[.slice sa xs.length ca, .slice sb ys.length cb] 40) = w3 at X R f1 f2 hB0 ⊢
  refine (reverse_ints f1 n1 (by omega)).mono ?_
  rintro e w4 ⟨rfl, g1, o1⟩
  replace X := X.keep (o1.block _ X.lt (fun hm => by have := (u1 _ hm).2; omega))
  replace R := R.keep (o1.block _ R.lt (fun hm => by have := (u1 _ hm).1; omega))
  replace f2 := f2.keep fun b hb => o1.block b (f2.lt b hb) (fun hm => dis b hm b hb rfl)
  replace hB0 := hB0.trans (o1.below hB0.size fun b hm => by have := (u1 b hm).1; omega)
  clear o1 f1
  have x1 := X.c1
  go_wp2_with fail
  refine (reverse_ints f2 n2 (by omega)).mono ?_
  rintro e w5 ⟨rfl, g2, o2⟩
  replace X := X.keep (o2.block _ X.lt (fun hm => by have := (u2 _ hm).2; omega))
  replace R := R.keep (o2.block _ R.lt (fun hm => by have := (u2 _ hm).1; omega))
  replace g1 := g1.keep fun b hb => o2.block b (g1.lt b hb) (fun hm => dis b hb b hm rfl)
  replace hB0 := hB0.trans (o2.below hB0.size fun b hm => by have := (u2 b hm).1; omega)
  clear o2 f2 x1
  have x0 := X.c0
  have x1 := X.c1
  have r0 := R.c0
  have r1 := R.c1
  have z0 := R.frozen 0
  have z1 := R.frozen 1
  go_wp2_with fail
  have R' := (R.set 0 (.slice sa xs.length ca)).set 1 (.slice sb ys.length cb)
  have c0 := R'.c0
  have c1 := R'.c1
  refine bodyPost_ret (v := .tuple #[.agg #[.slice sa xs.length ca, .slice sb ys.length cb], .int .i64 0]) (by simp [results, Try.results44, go_sem, c0, c1]) rfl ?_
  have hk : ∀ b ∈ F1 ++ F2, w1.heap.size ≤ b := hF
  have fin : Freshs w w5 (wordD xs.reverse ys.reverse) [.slice sa xs.length ca, .slice sb ys.length cb] := ⟨F1 ++ F2, Ows.mk2 g1 g2, List.nodup_append.2 ⟨n1, n2, dis⟩, fun b hm => by have := hF b hm; omega⟩
  rw [hX, hY, hc, List.length_reverse, List.length_reverse]
  refine ⟨sa, ca, sb, cb, rfl, ?_, Below.setCell (Below.setCell hB0 (by simp; omega) _) (by simp; omega) _⟩
  obtain ⟨F, a1, a2, a3⟩ := (show Freshs w1 w5 (wordD xs.reverse ys.reverse) [.slice sa xs.length ca, .slice sb ys.length cb] from ⟨F1 ++ F2, Ows.mk2 g1 g2, List.nodup_append.2 ⟨n1, n2, dis⟩, hF⟩)
  exact ⟨F, a1.keep fun b hb => by
   have := a3 b hb
   rw [Below.heap_setCell _ _ _ _ (by show b ≠ w.heap.size + 1 + 1; omega), Below.heap_setCell _ _ _ _ (by show b ≠ w.heap.size + 1 + 1; omega)], a2, fun b hb => by have := a3 b hb; omega⟩
end Go.Proofs.Ytbflhjjnemdecaa

namespace Go.Proofs.Ytbflhjjnemdecaa
set_option linter.unusedVariables false
set_option linter.unusedSimpArgs false
open Go.ChangeShapes Go.WideShapes Go.ChangeAt Go.RowKit Go.Deep Go.Sort
open Classical in
open Classical in
open Classical in
theorem wordB_bd {t a : Int} {xs ys : List Int} (h : wordB t a xs ys = true) : sigB t a = true ∧ ys.length ≤ 10 ∧ xs.length = ys.length + 1 := by
 simp only [wordB, Bool.and_eq_true, decide_eq_true_eq] at h
 exact ⟨h.1.1.1.1, h.1.1.1.2, h.1.1.2⟩
end Go.Proofs.Ytbflhjjnemdecaa
