/-
  Parts of a proof, joined: SpLd, SpLe, SpSx. No condition.
-/
import Derived.Test.YtbflhjjnemdecaaPk19
namespace Go.Proofs.Ytbflhjjnemdecaa
set_option linter.unusedVariables false
set_option linter.unusedSimpArgs false
open Go.ChangeShapes Go.WideShapes Go.ChangeAt Go.RowKit Go.Deep Go.Sort
set_option maxRecDepth 100000 in
set_option maxHeartbeats 16000000 in
theorem spans_5 {tm am : Int} (htm : tm ≤ 2) {N : Nat} (ih : ∀ m, m < N → SpnC tm am m) {num : Int} {ks : List Ex} {xs ys : List Int} {s p q : Option Addr} {c pc qc : Nat} {w : World} (hN : Ex.sizeL ks ≤ N) (hr : Rd w (kidsD ks) (.slice s ks.length c)) (htr : Ex.tree tm am (.mk 5 num ks) = true) (rx : Rd w (intsD xs) (.slice p xs.length pc)) (ry : Rd w (intsD ys) (.slice q ys.length qc)) (hok : WOk xs ys) :
  Calls Try.prog 110 #[.agg #[.int .i64 5, .int .i64 num, .slice s ks.length c], .agg #[.slice p xs.length pc, .slice q ys.length qc]] w fun f w' => ∃ g, f = .returned (.slice (some ⟨g, 0, none⟩) xs.length xs.length) ∧ Fresh w w' (bbD (sqL xs.length (spB (.mk 5 num ks) xs ys))) (.slice (some ⟨g, 0, none⟩) xs.length xs.length) ∧ Below w.heap.size w w' := by
 obtain ⟨hk, hnum, hc, htl⟩ := tree_parts htr
 have hk2 : ks.length ≤ 2 := by have h := hk; simp [kidsN] at h; omega
 have hsh := hok.short
 have hlen := hok.len
 have Hok := Lib.hid hok
 have Htl := Lib.hid htl
 have Ih := Lib.hid ih
 have Htr := Lib.hid htr
 have Hc := Lib.hid hc
 clear htl ih hok htr hc
 obtain ⟨n, hn⟩ : ∃ n, xs.length = n := ⟨_, rfl⟩
 rw [hn] at rx ⊢
 have Hn := Lib.hid hn
 have hn1 : 1 ≤ n := by omega
 have hn2 : n ≤ 11 := by omega
 have hyn : ys.length ≤ n := by omega
 have Hny := Lib.hid (show n = ys.length + 1 by omega)
 have Hrx := Lib.hid rx
 have Hry := Lib.hid ry
 have Hr := Lib.hid hr
 have hn0 := Int.natCast_nonneg n
 obtain ⟨-, hlx, hcx, -⟩ := rx.sl_at
 obtain ⟨-, hly, hcy, -⟩ := ry.sl_at
 unfold maxLen at hcx hcy
 clear hn hlen hsh rx ry hr
 rw [show (List.length xs) = n from Hn.out] at hlx
 go_enter Try.func110, Try.ntmps110
 go_wp2_with fail
 obtain ⟨w0, e0, E, hb0, hz0⟩ := box3 w 38 (.int .i64 5) (.int .i64 num) (.slice s ks.length c)
 rw [e0]
 obtain ⟨w1, e1, Q, hb1, hz1⟩ := box2 w0 40 (.slice p n pc) (.slice q ys.length qc)
 rw [e1]
 rw [hz0] at Q
 have hB1 := hb0.trans (hb1.mono (by omega))
 replace E := E.below hb1
 have hzz : w1.heap.size = w.heap.size + 2 := by omega
 refine (newSpans_i hn1 (by omega)).mono ?_
 rintro f w2 ⟨g, gs, rfl, hsp, hb2⟩
 have HB2 := Lib.hid (hB1.trans (hb2.mono (by omega)))
 have HE := Lib.hid (E.below hb2)
 have HQ := Lib.hid (Q.below hb2)
 obtain ⟨B0, hB0⟩ : ∃ B0, w1.heap.size = B0 := ⟨_, rfl⟩
 rw [hB0] at hsp hzz
 have hz12 := hb2.size
 rw [hB0] at hz12
 have Hsp := Lib.hid hsp
 have hz2 := HB2.out.size
 clear hB0
 have h0 := App.empty (W := w2) (size := 1) (Blk.made w2 131 #[]) (Nat.le_refl _)
 obtain ⟨x0, x1, x2, -, -, -, ltx⟩ := (HE.out.alloc (.cells #[] 131)).all3
 clear e0 e1 hb0 hb1 hb2 E Q hB1 hz0 hz1 hsp
 go_wp2_with fail
 clear x0 x1 x2 ltx
 obtain ⟨wo, hwo⟩ : ∃ wo, w2.alloc (.cells #[] 131) = wo := ⟨_, rfl⟩
 have HB : Hid (Below w2.heap.size w2 wo) := by show Below _ _ _; rw [← hwo]; exact Below.alloc (Below.refl _ _) (Nat.le_refl _) _
 rw [hwo]
 obtain ⟨vK, hvK⟩ : ∃ vK : Value, vK = .slice (some ⟨w2.heap.size, 0, none⟩) 0 0 := ⟨_, rfl⟩
 clear h0 hwo hvK
 obtain ⟨wK, rfl⟩ : ∃ v, v = wo := ⟨_, rfl⟩
 obtain ⟨X, hX⟩ : ∃ X : Nat → Prop, X = fun b => b = g ∨ b ∈ gs := ⟨_, rfl⟩
 have hXb : ∀ b, X b → w.heap.size + 2 ≤ b ∧ b < w2.heap.size := by
  intro b hb
  rw [hX] at hb
  have h1 := Hsp.out.own
  rcases hb with rfl | hb
  ·
   exact ⟨by omega, Hsp.out.blk.lt⟩
  ·
   obtain ⟨i, hi⟩ := List.mem_iff_getElem?.1 hb
   exact ⟨by have := (h1.2 b hb).1; omega, (Hsp.out.row i b hi).lt⟩
 have HK : Hid (∀ W, Spares X wK W → SpK w n g gs 5 num s p q c pc qc 0 ks xs ys (vK) W) := by
  intro W hs
  refine ⟨(HE.out.below HB.out).keep (hs.block _ (HE.out.below HB.out).lt (fun h => by have := hXb _ h; omega)), (HQ.out.below HB.out).keep (hs.block _ (HQ.out.below HB.out).lt (fun h => by have := hXb _ h; omega)), (HB2.out.trans (HB.out.mono hz2)).trans (hs.below (B := w.heap.size) (by have := HB.out.size; omega) (fun b h => by have := hXb _ h; omega)), Or.inr rfl⟩
 have HXm := Lib.hid (fun i x (hx : gs[i]? = some x) => (show X x by rw [hX]; exact Or.inr (List.mem_of_getElem? hx)))
 obtain ⟨bs, hbs⟩ : ∃ bs : Nat → Nat → Bool, bs = fun r c => decide (r = c) && Ex.tru (atW xs c : Int) (.mk 5 num ks) := ⟨_, rfl⟩
 have Hbs := Lib.hid hbs
 have Hsp0 := Lib.hid ((Hsp.out.below HB.out).congr (K := fun r c => if r < 0 then bs r c else false) (fun r c _ _ => by rw [if_neg (Nat.not_lt_zero _)]))
 clear hX hXb hbs HE HQ HB Hsp HB2
 go_wp2_with fail
 go_loopw [39] (fun i wr => ∃ j : Nat, j ≤ n ∧ i = .int .i64 j ∧ SpW B0 n g gs (fun r c => if r < j then bs r c else false) wr ∧ Spares X wK wr) (fun i _ => n - (intOf i).toNat)
 case atStart => exact ⟨0, Nat.zero_le _, rfl, Hsp0.out, Spares.refl _⟩
 case round =>
  clear Hsp0
  obtain ⟨j, hj, rfl, hsp, hs⟩ := hrel
  obtain ⟨wo, rfl⟩ : ∃ v, v = wr := ⟨_, rfl⟩
  have hj0 := Int.natCast_nonneg j
  have Hsp := Lib.hid hsp
  have Hs := Lib.hid hs
  have hkk := HK.out wo hs
  obtain ⟨x0, x1, x2, -, -, -, ltx⟩ := hkk.E.all3
  obtain ⟨y0, y1, lty⟩ := hkk.Q.all2
  by_cases hjn : j < n
  ·
   have hjz : (j : Int) < (n : Int) := by omega
   clear hsp hs
   obtain ⟨xr, hxr, c1, c2, c3, c4, c5, c6, c7⟩ := Hsp.out.cells hjn hjn
   obtain ⟨x, hx, hx0, hx7, hax⟩ := Hok.out.atom (i := j) (by have := Hny.out; omega)
   obtain ⟨pb, po, hp⟩ := int_some Hrx.out (by have := Hn.out; omega)
   have hrx2 := Hrx.out
   rw [hp] at hrx2
   have Hrx2 := Lib.hid hrx2
   have Hp := Lib.hid hp
   have hzw := hkk.bl.size
   obtain ⟨r, hr0⟩ : ∃ r, Ex.tru x (.mk 5 num ks) = r := ⟨_, rfl⟩
   have Hr0 := Lib.hid hr0
   have HXX := Lib.hid hx
   have hcc : Ex.cond (.mk 5 num ks) = true := by rw [Ex.cond_eq]; simp [Ex.kind, Ex.kids, condKind, Hc.out trivial]
   have HCC := Lib.hid hcc
   have hsz0 := Nat.le_refl (Ex.sizeL ks)
   have Hbl := Lib.hid hkk.bl
   have HEk := Lib.hid hkk.E
   have HQk := Lib.hid hkk.Q
   have Hc1 := Lib.hid c1
   have Hnx : Hid (∀ W, Below wo.heap.size wo W → SpW B0 n g gs (fun r c => if r < j + 1 then bs r c else false) (W.setCell ⟨xr, j, none⟩ (.bool r)) ∧ Spares X wK (W.setCell ⟨xr, j, none⟩ (.bool r))) := fun W hW =>
    ⟨((Hsp.out.below hW).set hxr r).congr (fun r' c' _ hc' => by
     show (if r' = j ∧ c' = j then r else if r' < j then bs r' c' else false) = if r' < j + 1 then bs r' c' else false
     by_cases h1 : r' = j ∧ c' = j
     ·
      rw [if_pos h1, if_pos (by omega), Hbs.out, h1.1, h1.2]
      dsimp only
      rw [decide_eq_true rfl, Bool.true_and, hax, Hr0.out]
     ·
      rw [if_neg h1]
      by_cases h2 : r' < j
      ·
       rw [if_pos h2, if_pos (by omega)]
      ·
       rw [if_neg h2]
       by_cases h3 : r' < j + 1
       ·
        rw [if_pos h3, Hbs.out]
        dsimp only
        rw [decide_eq_false (by omega), Bool.false_and]
       ·
        rw [if_neg h3]), spares_put (p := ⟨xr, j, none⟩) (Hs.out.trans (Spares.of_below hW)) (HXm.out j xr hxr) (.bool r)⟩
   have Hcell : Hid (∀ W, Below wo.heap.size wo W → W.cell? ⟨xr, j, none⟩ = some (.bool (if j < j then bs j j else false)) ∧ W.frozen? ⟨xr, j, none⟩ = false ∧ xr < W.heap.size) := fun W hW => by
    have h1 := (Hsp.out.below hW).row j xr hxr
    refine ⟨?_, h1.frozen j, h1.lt⟩
    rw [h1.cell, List.getElem?_map, rowOf_at hjn]
    rfl
   obtain ⟨z0, hz0'⟩ : ∃ z0 : Value, z0 = .bool (if j < j then bs j j else false) := ⟨_, rfl⟩
   rw [← hz0'] at Hcell
   clear c1 c2 c3 c4 c5 c6 c7 hax hr0 hx hcc hkk hxr hp hrx2 x0 x1 x2 ltx y0 y1 lty hz0'
   have ee0 := HEk.out.all3
   obtain ⟨x0, x1, x2, -, -, -, ltx⟩ := ee0
   go_wp2_with fail
   clear x0 x1 x2 ltx
   refine region_rg 13 [] [0, 1, 2, 3, 4, 5, 6, 7, 8, 9, 10, 11, 12] (fun i iv vs wx => match i with
    | 0 => vs 0 = .slice (some ⟨g, 0, none⟩) n n
    | 1 => vs 1 = .int .i64 j
    | 2 => vs 2 = .pointer (some ⟨g, j, none⟩)
    | 3 => vs 3 = .slice (some ⟨xr, 0, none⟩) n n
    | 4 => vs 4 = .int .i64 j
    | 5 => vs 5 = .agg #[.int .i64 5, .int .i64 num, .slice s ks.length c]
    | 6 => vs 6 = .pointer (some ⟨w.heap.size + 1, 0, none⟩)
    | 7 => vs 7 = .slice (some ⟨pb, po, none⟩) n pc
    | 8 => vs 8 = .int .i64 j
    | 9 => vs 9 = .pointer (some ⟨pb, po + j, none⟩)
    | 10 => vs 10 = .int .i64 x
    | 11 => vs 11 = .bool r
    | 12 => vs 12 = .pointer (some ⟨xr, j, none⟩)
    | _ => True) (fun vs wx => ∃ W, Below wo.heap.size wo W ∧ wx = W.setCell ⟨xr, j, none⟩ (.bool r))
    (by kernel_rfl) (by kernel_rfl) (by kernel_rfl) (by kernel_rfl) ?hJ ?hX ?hF ?hstep ?hstore ?hQ (by kernel_rfl)
   case hX =>
    intro i o t k hi ho hop iv vs w hj
    simp at hi
   case hF =>
    intro vs vs' wx h hf
    exact hf
   case hJ =>
    intro i hi iv iv' vs vs' wx wx' ha hv hb hj
    simp only [List.mem_cons, List.not_mem_nil, or_false] at hi
    rcases hi with rfl | rfl | rfl | rfl | rfl | rfl | rfl | rfl | rfl | rfl | rfl | rfl | rfl
    ·
     have e0 := hv.out 0 (mem_of (by kernel_rfl))
     have hj' : vs 0 = .slice (some ⟨g, 0, none⟩) n n := hj
     show vs' 0 = .slice (some ⟨g, 0, none⟩) n n
     rw [← e0]
     exact hj'
    ·
     have e1 := hv.out 1 (mem_of (by kernel_rfl))
     have hj' : vs 1 = .int .i64 j := hj
     show vs' 1 = .int .i64 j
     rw [← e1]
     exact hj'
    ·
     have e2 := hv.out 2 (mem_of (by kernel_rfl))
     have hj' : vs 2 = .pointer (some ⟨g, j, none⟩) := hj
     show vs' 2 = .pointer (some ⟨g, j, none⟩)
     rw [← e2]
     exact hj'
    ·
     have e3 := hv.out 3 (mem_of (by kernel_rfl))
     have hj' : vs 3 = .slice (some ⟨xr, 0, none⟩) n n := hj
     show vs' 3 = .slice (some ⟨xr, 0, none⟩) n n
     rw [← e3]
     exact hj'
    ·
     have e4 := hv.out 4 (mem_of (by kernel_rfl))
     have hj' : vs 4 = .int .i64 j := hj
     show vs' 4 = .int .i64 j
     rw [← e4]
     exact hj'
    ·
     have e5 := hv.out 5 (mem_of (by kernel_rfl))
     have hj' : vs 5 = .agg #[.int .i64 5, .int .i64 num, .slice s ks.length c] := hj
     show vs' 5 = .agg #[.int .i64 5, .int .i64 num, .slice s ks.length c]
     rw [← e5]
     exact hj'
    ·
     have e6 := hv.out 6 (mem_of (by kernel_rfl))
     have hj' : vs 6 = .pointer (some ⟨w.heap.size + 1, 0, none⟩) := hj
     show vs' 6 = .pointer (some ⟨w.heap.size + 1, 0, none⟩)
     rw [← e6]
     exact hj'
    ·
     have e7 := hv.out 7 (mem_of (by kernel_rfl))
     have hj' : vs 7 = .slice (some ⟨pb, po, none⟩) n pc := hj
     show vs' 7 = .slice (some ⟨pb, po, none⟩) n pc
     rw [← e7]
     exact hj'
    ·
     have e8 := hv.out 8 (mem_of (by kernel_rfl))
     have hj' : vs 8 = .int .i64 j := hj
     show vs' 8 = .int .i64 j
     rw [← e8]
     exact hj'
    ·
     have e9 := hv.out 9 (mem_of (by kernel_rfl))
     have hj' : vs 9 = .pointer (some ⟨pb, po + j, none⟩) := hj
     show vs' 9 = .pointer (some ⟨pb, po + j, none⟩)
     rw [← e9]
     exact hj'
    ·
     have e10 := hv.out 10 (mem_of (by kernel_rfl))
     have hj' : vs 10 = .int .i64 x := hj
     show vs' 10 = .int .i64 x
     rw [← e10]
     exact hj'
    ·
     have e11 := hv.out 11 (mem_of (by kernel_rfl))
     have hj' : vs 11 = .bool r := hj
     show vs' 11 = .bool r
     rw [← e11]
     exact hj'
    ·
     have e12 := hv.out 12 (mem_of (by kernel_rfl))
     have hj' : vs 12 = .pointer (some ⟨xr, j, none⟩) := hj
     show vs' 12 = .pointer (some ⟨xr, j, none⟩)
     rw [← e12]
     exact hj'
   case hstep =>
    intro i hi o ho iv vs w1 hB hd hbd hsep K hK
    simp only [List.mem_cons, List.not_mem_nil, or_false] at hi
    obtain ⟨x0, x1, x2, -, -, -, ltx⟩ := (HEk.out.below hB).all3
    obtain ⟨y0, y1, lty⟩ := (HQk.out.below hB).all2
    rw [Hp.out] at y0
    have cc1 := (hB.cell (p := ⟨g, j, none⟩) (World.block_lt_of_cell? wo _ Hc1.out)).trans Hc1.out
    obtain ⟨-, yy⟩ := int_in (Hrx2.out.below (Hbl.out.trans (hB.mono hzw))) HXX.out
    rcases hi with rfl | rfl | rfl | rfl | rfl | rfl | rfl | rfl | rfl | rfl | rfl | rfl | rfl
    all_goals
     simp at ho
     subst ho
     simp only [putFrom, puts]
    ·
     go_wp2_with fail
     exact Onward.mk (hK (.slice (some ⟨g, 0, none⟩) n n) _ _ (by simp only [putFrom, puts]) (Below.refl _ _) (fun iv' _ _ => rfl))
    ·
     go_wp2_with fail
     exact Onward.mk (hK (.int .i64 j) _ _ (by simp only [putFrom, puts]) (Below.refl _ _) (fun iv' _ _ => rfl))
    ·
     have h0 : vs 0 = .slice (some ⟨g, 0, none⟩) n n := hd.out 0 (mem_of (by kernel_rfl)) (by decide)
     have h1 : vs 1 = .int .i64 j := hd.out 1 (mem_of (by kernel_rfl)) (by decide)
     go_wp2_with fail
     exact Onward.mk (hK (.pointer (some ⟨g, j, none⟩)) _ _ (by simp only [putFrom, puts, h0, h1]) (Below.refl _ _) (fun iv' _ _ => rfl))
    ·
     have h2 : vs 2 = .pointer (some ⟨g, j, none⟩) := hd.out 2 (mem_of (by kernel_rfl)) (by decide)
     go_wp2_with fail
     exact Onward.mk (hK (.slice (some ⟨xr, 0, none⟩) n n) _ _ (by simp only [putFrom, puts, h2]) (Below.refl _ _) (fun iv' _ _ => rfl))
    ·
     go_wp2_with fail
     exact Onward.mk (hK (.int .i64 j) _ _ (by simp only [putFrom, puts]) (Below.refl _ _) (fun iv' _ _ => rfl))
    ·
     go_wp2_with fail
     exact Onward.mk (hK (.agg #[.int .i64 5, .int .i64 num, .slice s ks.length c]) _ _ (by simp only [putFrom, puts]) (Below.refl _ _) (fun iv' _ _ => rfl))
    ·
     go_wp2_with fail
     exact Onward.mk (hK (.pointer (some ⟨w.heap.size + 1, 0, none⟩)) _ _ (by simp only [putFrom, puts]) (Below.refl _ _) (fun iv' _ _ => rfl))
    ·
     have h6 : vs 6 = .pointer (some ⟨w.heap.size + 1, 0, none⟩) := hd.out 6 (mem_of (by kernel_rfl)) (by decide)
     go_wp2_with fail
     exact Onward.mk (hK (.slice (some ⟨pb, po, none⟩) n pc) _ _ (by simp only [putFrom, puts, h6]) (Below.refl _ _) (fun iv' _ _ => rfl))
    ·
     go_wp2_with fail
     exact Onward.mk (hK (.int .i64 j) _ _ (by simp only [putFrom, puts]) (Below.refl _ _) (fun iv' _ _ => rfl))
    ·
     have h7 : vs 7 = .slice (some ⟨pb, po, none⟩) n pc := hd.out 7 (mem_of (by kernel_rfl)) (by decide)
     have h8 : vs 8 = .int .i64 j := hd.out 8 (mem_of (by kernel_rfl)) (by decide)
     go_wp2_with fail
     exact Onward.mk (hK (.pointer (some ⟨pb, po + j, none⟩)) _ _ (by simp only [putFrom, puts, h7, h8]) (Below.refl _ _) (fun iv' _ _ => rfl))
    ·
     have h9 : vs 9 = .pointer (some ⟨pb, po + j, none⟩) := hd.out 9 (mem_of (by kernel_rfl)) (by decide)
     go_wp2_with fail
     exact Onward.mk (hK (.int .i64 x) _ _ (by simp only [putFrom, puts, h9]) (Below.refl _ _) (fun iv' _ _ => rfl))
    ·
     have h5 : vs 5 = .agg #[.int .i64 5, .int .i64 num, .slice s ks.length c] := hd.out 5 (mem_of (by kernel_rfl)) (by decide)
     have h10 : vs 10 = .int .i64 x := hd.out 10 (mem_of (by kernel_rfl)) (by decide)
     go_wp2_with fail
     refine (truth_r Hr0.out htm hx0 hx7 (Hr.out.below (Hbl.out.trans (hB.mono hzw))) Htr.out HCC.out).mono ?_
     rintro e w2 ⟨rfl, hb⟩
     go_wp2_with fail
     exact Onward.mk (hK (.bool r) _ _ (by simp only [putFrom, puts, h5, h10]) hb (fun iv' _ _ => rfl))
    ·
     have h3 : vs 3 = .slice (some ⟨xr, 0, none⟩) n n := hd.out 3 (mem_of (by kernel_rfl)) (by decide)
     have h4 : vs 4 = .int .i64 j := hd.out 4 (mem_of (by kernel_rfl)) (by decide)
     go_wp2_with fail
     exact Onward.mk (hK (.pointer (some ⟨xr, j, none⟩)) _ _ (by simp only [putFrom, puts, h3, h4]) (Below.refl _ _) (fun iv' _ _ => rfl))
   case hstore =>
    intro o ho iv vs w1 hB hd hsep K hK
    simp at ho
    subst ho
    simp only [putFrom, puts]
    have h0 : vs 0 = .slice (some ⟨g, 0, none⟩) n n := (hd.out 0 (mem_of (by kernel_rfl))).1
    have h1 : vs 1 = .int .i64 j := (hd.out 1 (mem_of (by kernel_rfl))).1
    have h2 : vs 2 = .pointer (some ⟨g, j, none⟩) := (hd.out 2 (mem_of (by kernel_rfl))).1
    have h3 : vs 3 = .slice (some ⟨xr, 0, none⟩) n n := (hd.out 3 (mem_of (by kernel_rfl))).1
    have h4 : vs 4 = .int .i64 j := (hd.out 4 (mem_of (by kernel_rfl))).1
    have h5 : vs 5 = .agg #[.int .i64 5, .int .i64 num, .slice s ks.length c] := (hd.out 5 (mem_of (by kernel_rfl))).1
    have h6 : vs 6 = .pointer (some ⟨w.heap.size + 1, 0, none⟩) := (hd.out 6 (mem_of (by kernel_rfl))).1
    have h7 : vs 7 = .slice (some ⟨pb, po, none⟩) n pc := (hd.out 7 (mem_of (by kernel_rfl))).1
    have h8 : vs 8 = .int .i64 j := (hd.out 8 (mem_of (by kernel_rfl))).1
    have h9 : vs 9 = .pointer (some ⟨pb, po + j, none⟩) := (hd.out 9 (mem_of (by kernel_rfl))).1
    have h10 : vs 10 = .int .i64 x := (hd.out 10 (mem_of (by kernel_rfl))).1
    have h11 : vs 11 = .bool r := (hd.out 11 (mem_of (by kernel_rfl))).1
    have h12 : vs 12 = .pointer (some ⟨xr, j, none⟩) := (hd.out 12 (mem_of (by kernel_rfl))).1
    obtain ⟨s0, s1, s2⟩ := Hcell.out _ hB
    clear h0 h1 h2 h3 h4 h5 h6 h7 h8 h9 h10
    go_wp2_with fail
    exact Onward.mk (hK _ _ (by simp only [putFrom, puts, h11, h12]) ⟨_, hB, rfl⟩)
   case hQ =>
    rintro zs wn hE ⟨W, hW, rfl⟩
    simp only [putFrom, puts]
    have Hfin := Lib.hid (Hnx.out W hW)
    clear hE
    go_wp2_with fail
    go_roundw
    case rel => exact ⟨j + 1, by omega, by go_num, Hfin.out.1, Hfin.out.2⟩
    case measure => simp [intOf]; omega
  obtain rfl : n = j := by omega
  have Hsq := Lib.hid (hsp.congr (K := bs) (fun r c hr _ => if_pos hr))
  clear Hsp hsp hs hkk
  have e1 : IntKind.i64.wrap ((n : Int) - 1) = ((n - 1 : Nat) : Int) := by rw [show (n : Int) - 1 = ((n - 1 : Nat) : Int) by omega]; exact wrap_of (by omega) (by omega)
  obtain ⟨fn, hfn⟩ : ∃ fn : Nat → Nat → Bool, fn = spB (.mk 5 num ks) xs ys := ⟨_, rfl⟩
  have Hfn := Lib.hid hfn
  have Hlow : Hid (∀ i c, c < i → bs i c = fn i c) := fun i c hci => by rw [Hfn.out, Hbs.out]; exact (spB_cond (by omega)).symm
  clear hfn x0 x1 x2 ltx y0 y1 lty
  go_wp2_with fail
  clear e1
  go_loopw [11] (fun v wr => (∃ i : Nat, i < n ∧ v = .int .i64 i ∧ SpW B0 n g gs (moM fn bs (i + 1)) wr ∧ Spares X wK wr) ∨ (v = .int .i64 (-1) ∧ SpW B0 n g gs fn wr ∧ Spares X wK wr)) (fun i _ => (intOf i + 1).toNat)
  case atStart => exact Or.inl ⟨n - 1, by omega, rfl, Hsq.out.congr (fun r c hr _ => by unfold moM; rw [if_neg (by omega)]), Hs.out⟩
  case round =>
   clear Hsq Hs
   rcases hrel with ⟨i, hi, rfl, hsp, hs⟩ | ⟨rfl, hsp, hs⟩
   rotate_left
   ·
    have HF := Lib.hid (hsp.fresh (W := w) (by omega) hn1 (by unfold maxLen; omega))
    have HBf := Lib.hid (HK.out _ hs).bl
    clear hsp hs
    go_wp2_with fail
    go_ret
    exact ⟨g, rfl, by rw [← Hfn.out]; exact HF.out, HBf.out⟩
   obtain ⟨wo, rfl⟩ : ∃ v, v = wr := ⟨_, rfl⟩
   have hi0 := Int.natCast_nonneg i
   have Hmi := Lib.hid (hsp.congr (K := miM fn bs i i) (fun r c _ _ => mo_mi (Hlow.out i) r c))
   have Hs := Lib.hid hs
   clear hsp hs
   go_wp2_with fail
   go_loopw [12] (fun v wr => ∃ b : Nat, i ≤ b ∧ b ≤ n ∧ v = .int .i64 b ∧ SpW B0 n g gs (miM fn bs i b) wr ∧ Spares X wK wr) (fun v _ => n - (intOf v).toNat)
   case atStart => exact ⟨i, Nat.le_refl _, by omega, rfl, Hmi.out, Hs.out⟩
   case round =>
    clear Hmi Hs
    obtain ⟨b, hib, hb, rfl, hsp, hs⟩ := hrel
    obtain ⟨wp, rfl⟩ : ∃ v, v = wr := ⟨_, rfl⟩
    have hb0 := Int.natCast_nonneg b
    have Hs := Lib.hid hs
    by_cases hbn : b < n
    rotate_left
    ·
     obtain rfl : n = b := by omega
     have Hmo := Lib.hid (hsp.congr (K := moM fn bs i) (fun r c _ hc => mi_mo r c hc))
     clear hsp hs
     by_cases hi1 : i = 0
     ·
      subst hi1
      have e2 : IntKind.i64.wrap (((0 : Nat) : Int) - 1) = -1 := rfl
      have Hall := Lib.hid (Hmo.out.congr (K := fn) (fun r c _ _ => mo_all r c))
      go_wp2_with fail
      go_roundw
      case rel => exact Or.inr ⟨rfl, Hall.out, Hs.out⟩
      case measure => simp [intOf]
     ·
      obtain ⟨i', rfl⟩ : ∃ i', i = i' + 1 := ⟨i - 1, by omega⟩
      have e2 : IntKind.i64.wrap (((i' + 1 : Nat) : Int) - 1) = (i' : Int) := by rw [show ((i' + 1 : Nat) : Int) - 1 = (i' : Int) by omega]; exact wrap_of (by omega) (by omega)
      go_wp2_with fail
      go_roundw
      case rel => exact Or.inl ⟨i', by omega, by go_num, Hmo.out, Hs.out⟩
      case measure => simp [intOf]; omega
    have hbz : (b : Int) < (n : Int) := by omega
    have Hsp := Lib.hid hsp
    have hkk := HK.out wp hs
    obtain ⟨x0, x1, x2, -, -, -, ltx⟩ := hkk.E.all3
    clear hsp hs
    have Hnx := Lib.hid (Hsp.out.congr (K := miM fn bs i (b + 1)) (fun r c hr hc => by
     unfold miM
     have h : bs r c = fn r c := by rw [Hbs.out, Hfn.out]; exact ((spB_cond (by omega))).symm
     rw [h]
     simp))
    clear hkk
    go_wp2_with fail
    go_roundw
    case rel => exact ⟨b + 1, by omega, by omega, by go_num, Hnx.out, Hs.out⟩
    case measure => simp [intOf]; omega
end Go.Proofs.Ytbflhjjnemdecaa

namespace Go.Proofs.Ytbflhjjnemdecaa
set_option linter.unusedVariables false
set_option linter.unusedSimpArgs false
open Go.ChangeShapes Go.WideShapes Go.ChangeAt Go.RowKit Go.Deep Go.Sort
set_option maxRecDepth 100000 in
set_option maxHeartbeats 16000000 in
theorem spans_4 {tm am : Int} (htm : tm ≤ 2) {N : Nat} (ih : ∀ m, m < N → SpnC tm am m) {num : Int} {ks : List Ex} {xs ys : List Int} {s p q : Option Addr} {c pc qc : Nat} {w : World} (hN : Ex.sizeL ks ≤ N) (hr : Rd w (kidsD ks) (.slice s ks.length c)) (htr : Ex.tree tm am (.mk 4 num ks) = true) (rx : Rd w (intsD xs) (.slice p xs.length pc)) (ry : Rd w (intsD ys) (.slice q ys.length qc)) (hok : WOk xs ys) :
  Calls Try.prog 110 #[.agg #[.int .i64 4, .int .i64 num, .slice s ks.length c], .agg #[.slice p xs.length pc, .slice q ys.length qc]] w fun f w' => ∃ g, f = .returned (.slice (some ⟨g, 0, none⟩) xs.length xs.length) ∧ Fresh w w' (bbD (sqL xs.length (spB (.mk 4 num ks) xs ys))) (.slice (some ⟨g, 0, none⟩) xs.length xs.length) ∧ Below w.heap.size w w' := by
 obtain ⟨hk, hnum, hc, htl⟩ := tree_parts htr
 have hk2 : ks.length ≤ 2 := by have h := hk; simp [kidsN] at h; omega
 have hsh := hok.short
 have hlen := hok.len
 have Hok := Lib.hid hok
 have Htl := Lib.hid htl
 have Ih := Lib.hid ih
 have Htr := Lib.hid htr
 have Hc := Lib.hid hc
 clear htl ih hok htr hc
 obtain ⟨n, hn⟩ : ∃ n, xs.length = n := ⟨_, rfl⟩
 rw [hn] at rx ⊢
 have Hn := Lib.hid hn
 have hn1 : 1 ≤ n := by omega
 have hn2 : n ≤ 11 := by omega
 have hyn : ys.length ≤ n := by omega
 have Hny := Lib.hid (show n = ys.length + 1 by omega)
 have Hrx := Lib.hid rx
 have Hry := Lib.hid ry
 have Hr := Lib.hid hr
 have hn0 := Int.natCast_nonneg n
 obtain ⟨-, hlx, hcx, -⟩ := rx.sl_at
 obtain ⟨-, hly, hcy, -⟩ := ry.sl_at
 unfold maxLen at hcx hcy
 clear hn hlen hsh rx ry hr
 rw [show (List.length xs) = n from Hn.out] at hlx
 go_enter Try.func110, Try.ntmps110
 go_wp2_with fail
 obtain ⟨w0, e0, E, hb0, hz0⟩ := box3 w 38 (.int .i64 4) (.int .i64 num) (.slice s ks.length c)
 rw [e0]
 obtain ⟨w1, e1, Q, hb1, hz1⟩ := box2 w0 40 (.slice p n pc) (.slice q ys.length qc)
 rw [e1]
 rw [hz0] at Q
 have hB1 := hb0.trans (hb1.mono (by omega))
 replace E := E.below hb1
 have hzz : w1.heap.size = w.heap.size + 2 := by omega
 refine (newSpans_i hn1 (by omega)).mono ?_
 rintro f w2 ⟨g, gs, rfl, hsp, hb2⟩
 have HB2 := Lib.hid (hB1.trans (hb2.mono (by omega)))
 have HE := Lib.hid (E.below hb2)
 have HQ := Lib.hid (Q.below hb2)
 obtain ⟨B0, hB0⟩ : ∃ B0, w1.heap.size = B0 := ⟨_, rfl⟩
 rw [hB0] at hsp hzz
 have hz12 := hb2.size
 rw [hB0] at hz12
 have Hsp := Lib.hid hsp
 have hz2 := HB2.out.size
 clear hB0
 have h0 := App.empty (W := w2) (size := 1) (Blk.made w2 131 #[]) (Nat.le_refl _)
 obtain ⟨x0, x1, x2, -, -, -, ltx⟩ := (HE.out.alloc (.cells #[] 131)).all3
 clear e0 e1 hb0 hb1 hb2 E Q hB1 hz0 hz1 hsp
 go_wp2_with fail
 clear x0 x1 x2 ltx
 go_loopw [7, 27] (fun v i wr => ∃ j : Nat, j ≤ ks.length ∧ i = .int .i64 j ∧ App w2 wr 131 1 j ((ks.take j).map fun e => bbD (sqL n (spB e xs ys))) v ∧ Below w2.heap.size w2 wr) (fun _ i _ => ks.length - (intOf i).toNat)
 case atStart => exact ⟨0, Nat.zero_le _, rfl, by simpa using h0, Below.alloc (Below.refl _ _) (Nat.le_refl _) _⟩
 case round =>
  clear h0
  obtain ⟨j, hj, rfl, happ, hB⟩ := hrel
  obtain ⟨wo, rfl⟩ : ∃ v, v = wr := ⟨_, rfl⟩
  have hj0 := Int.natCast_nonneg j
  have szB := hB.size
  obtain ⟨a', cap', rfl, hcap1, hcap2⟩ := happ.shape
  unfold maxLen at hcap2
  have HB := Lib.hid hB
  by_cases hjl : j < ks.length
  ·
   obtain ⟨e', he'⟩ : ∃ e', ks[j]? = some e' := ⟨_, List.getElem?_eq_getElem hjl⟩
   obtain ⟨kb, ko, rfl⟩ := kid_some Hr.out (by intro h; rw [h] at hjl; simp at hjl)
   have hjz : (j : Int) < (ks.length : Int) := by omega
   have hBw := HB2.out.trans (hB.mono hz2)
   obtain ⟨hkb, sx, cx, i0, i1, i2, hxr⟩ := kid_in Hr.out he'
   replace i0 := (hBw.cell (p := ⟨kb, ko + j * 3, none⟩) hkb).trans i0
   replace i1 := (hBw.cell (p := ⟨kb, ko + j * 3 + 1, none⟩) hkb).trans i1
   replace i2 := (hBw.cell (p := ⟨kb, ko + j * 3 + 2, none⟩) hkb).trans i2
   have hbx := Below.alloc (Below.refl wo.heap.size wo) (Nat.le_refl _) (.cells #[.int .i64 e'.kind, .int .i64 e'.num, .slice sx e'.kids.length cx] 38)
   obtain ⟨y0, y1, lty⟩ := ((HQ.out.below hB).alloc (.cells #[.int .i64 e'.kind, .int .i64 e'.num, .slice sx e'.kids.length cx] 38)).all2
   obtain ⟨v0, v1, v2, -, -, -, ltv⟩ := (Blk.new3 wo 38 (.int .i64 e'.kind) (.int .i64 e'.num) (.slice sx e'.kids.length cx)).all3
   have HA := Lib.hid happ
   have htr' := Ex.treeL_mem Htl.out (List.mem_of_getElem? he')
   have hsz : Ex.sizeL e'.kids < N := by
    have h1 := Ex.sizeL_mem (List.mem_of_getElem? he')
    have h2 := Ex.size_eq e'
    omega
   have hBx := hBw.alloc hBw.size (.cells #[.int .i64 e'.kind, .int .i64 e'.num, .slice sx e'.kids.length cx] 38)
   have Htk := Lib.hid (show (ks.take (j + 1)).map (fun e => bbD (sqL n (spB e xs ys))) = (ks.take j).map (fun e => bbD (sqL n (spB e xs ys))) ++ [bbD (sqL n (spB e' xs ys))] by
    obtain ⟨h1, h2⟩ := List.getElem?_eq_some_iff.1 he'
    rw [List.take_succ_eq_append_getElem h1, List.map_append, h2]
    rfl)
   have hih := Ih.out _ hsz e' xs ys sx p q cx pc qc _ (Nat.le_refl _) (hxr.below hBx) htr' (by rw [Hn.out]; exact Hrx.out.below hBx) (Hry.out.below hBx) Hok.out
   rw [Hn.out] at hih
   clear happ hB he' hBw hxr hBx
   go_wp2_with fail
   refine hih.mono ?_
   rintro f w5 ⟨g5, rfl, hf5, hb5⟩
   have hb55 := hbx.trans (hb5.mono (by simp))
   have hz5 := hb55.size
   have hf6 : Freshs wo (w5.alloc (.cells #[.slice (some ⟨g5, 0, none⟩) n n] 131)) [bbD (sqL n (spB e' xs ys))] [.slice (some ⟨g5, 0, none⟩) n n] := (Freshs.one (hf5.from (by simp))).on (Below.alloc (Below.refl _ _) (Nat.le_refl _) _)
   have hb6 := hb55.alloc hz5 (.cells #[.slice (some ⟨g5, 0, none⟩) n n] 131)
   have happ := HA.out
   clear i0 i1 i2 y0 y1 lty v0 v1 v2 ltv hf5 hb5 hbx hb55 hih
   go_wp2_with (at_builtin; go_must (refine wpList_append_app _ rfl _ _ 174 rfl 131 (.slice none 0 0) 1 24 Try.underlying174 info_spans rfl (by decide) _ rfl happ hb6 szB ⟨w5.heap.size, 0, none⟩ 1 1 [.slice (some ⟨g5, 0, none⟩) n n] rfl (news_blk (Blk.made _ _ _)) hf6 rfl (by simp [Value.oneCell']) (by omega) (by omega) (by unfold maxLen; omega) ?_); intro g3 cap3 w3 happ3 hb3)
   have hB3 : Below w2.heap.size w2 w3 := (HB.out.trans (hb6.mono szB)).trans hb3
   have Hfin := Lib.hid (And.intro (happ3.sized Htk.out.symm rfl) hB3)
   clear happ3 hb3 hB3 happ hf6 hb6
   go_wp2_with fail
   go_roundw
   case rel => exact ⟨j + 1, by omega, by go_num, Hfin.out.1, Hfin.out.2⟩
   case measure => simp [intOf]; omega
  obtain rfl : j = ks.length := by omega
  rw [List.take_length] at happ
  have HKf := Lib.hid (happ.freshN (f := fun e => bbD (sqL n (spB e xs ys))) rfl)
  clear happ hB
  obtain ⟨wK, rfl⟩ : ∃ v, v = wo := ⟨_, rfl⟩
  obtain ⟨X, hX⟩ : ∃ X : Nat → Prop, X = fun b => b = g ∨ b ∈ gs := ⟨_, rfl⟩
  have hXb : ∀ b, X b → w.heap.size + 2 ≤ b ∧ b < w2.heap.size := by
   intro b hb
   rw [hX] at hb
   have h1 := Hsp.out.own
   rcases hb with rfl | hb
   ·
    exact ⟨by omega, Hsp.out.blk.lt⟩
   ·
    obtain ⟨i, hi⟩ := List.mem_iff_getElem?.1 hb
    exact ⟨by have := (h1.2 b hb).1; omega, (Hsp.out.row i b hi).lt⟩
  have HK : Hid (∀ W, Spares X wK W → SpK w n g gs 4 num s p q c pc qc 0 ks xs ys (.slice a' ks.length cap') W) := by
   intro W hs
   refine ⟨(HE.out.below HB.out).keep (hs.block _ (HE.out.below HB.out).lt (fun h => by have := hXb _ h; omega)), (HQ.out.below HB.out).keep (hs.block _ (HQ.out.below HB.out).lt (fun h => by have := hXb _ h; omega)), (HB2.out.trans (HB.out.mono hz2)).trans (hs.below (B := w.heap.size) (by have := HB.out.size; omega) (fun b h => by have := hXb _ h; omega)), Or.inr rfl⟩
  have HXm := Lib.hid (fun i x (hx : gs[i]? = some x) => (show X x by rw [hX]; exact Or.inr (List.mem_of_getElem? hx)))
  obtain ⟨bs, hbs⟩ : ∃ bs : Nat → Nat → Bool, bs = fun r c => decide (c = r + 1) && (((ys.getD r 0).toNat : Int) == num) := ⟨_, rfl⟩
  have Hbs := Lib.hid hbs
  have Hsp0 := Lib.hid ((Hsp.out.below HB.out).congr (K := fun r c => if r < 0 then bs r c else false) (fun r c _ _ => by rw [if_neg (Nat.not_lt_zero _)]))
  clear hX hXb hbs HE HQ HB Hsp HB2
  go_wp2_with fail
  go_loopw [39] (fun i wr => ∃ j : Nat, j ≤ n ∧ i = .int .i64 j ∧ SpW B0 n g gs (fun r c => if r < j then bs r c else false) wr ∧ Spares X wK wr) (fun i _ => n - (intOf i).toNat)
  case atStart => exact ⟨0, Nat.zero_le _, rfl, Hsp0.out, Spares.refl _⟩
  case round =>
   clear Hsp0
   obtain ⟨j, hj, rfl, hsp, hs⟩ := hrel
   obtain ⟨wo, rfl⟩ : ∃ v, v = wr := ⟨_, rfl⟩
   have hj0 := Int.natCast_nonneg j
   have Hsp := Lib.hid hsp
   have Hs := Lib.hid hs
   have hkk := HK.out wo hs
   obtain ⟨x0, x1, x2, -, -, -, ltx⟩ := hkk.E.all3
   obtain ⟨y0, y1, lty⟩ := hkk.Q.all2
   by_cases hjn : j < n
   ·
    have hjz : (j : Int) < (n : Int) := by omega
    clear hsp hs
    obtain ⟨xr, hxr, c1, c2, c3, c4, c5, c6, c7⟩ := Hsp.out.cells hjn hjn
    have e3 : IntKind.i64.wrap ((j : Int) + 1) = ((j + 1 : Nat) : Int) := by rw [show (j : Int) + 1 = ((j + 1 : Nat) : Int) by omega]; exact wrap_of (by omega) (by omega)
    have hny2 := Hny.out
    by_cases hj1 : j + 1 < n
    ·
     obtain ⟨xs2, hxs2, -, d2, d3, -⟩ := Hsp.out.cells hjn hj1
     rw [hxr] at hxs2
     obtain rfl := Option.some.inj hxs2
     obtain ⟨y, hy, -, -, hay⟩ := Hok.out.act (i := j) (by omega)
     obtain ⟨qb, qo, hq⟩ := int_some Hry.out (by omega)
     have hry2 := Hry.out
     rw [hq] at hry2 y1
     obtain ⟨-, y5⟩ := int_in (hry2.below hkk.bl) hy
     have hjy : (j : Int) < (ys.length : Int) := by omega
     have hj1z : ((j + 1 : Nat) : Int) < (n : Int) := by omega
     obtain ⟨r, hr0⟩ : ∃ r, (y == num) = r := ⟨_, rfl⟩
     have Hnx := Lib.hid (And.intro (((Hsp.out.set (k := j + 1) hxr r).congr (K := fun r c => if r < j + 1 then bs r c else false) (fun r' c' _ hc' => by
      show (if r' = j ∧ c' = j + 1 then r else if r' < j then bs r' c' else false) = if r' < j + 1 then bs r' c' else false
      by_cases h1 : r' = j ∧ c' = j + 1
      ·
       rw [if_pos h1, if_pos (by omega), Hbs.out, h1.1, h1.2]
       dsimp only
       rw [decide_eq_true rfl, Bool.true_and, hay, hr0]
      ·
       rw [if_neg h1]
       by_cases h2 : r' < j
       ·
        rw [if_pos h2, if_pos (by omega)]
       ·
        rw [if_neg h2]
        by_cases h3 : r' < j + 1
        ·
         rw [if_pos h3, Hbs.out]
         dsimp only
         rw [decide_eq_false (by omega), Bool.false_and]
        ·
         rw [if_neg h3])).drew) (spares_drew (spares_put (p := ⟨xr, j + 1, none⟩) Hs.out (HXm.out j xr hxr) (.bool r))))
     clear hkk hxr hq hry2 hy hay hny2 hxs2
     go_wp2_with fail
     go_region
     try rw [hr0]
     go_wp2_with fail
     go_roundw
     case rel => exact ⟨j + 1, by omega, by go_num, Hnx.out.1, Hnx.out.2⟩
     case measure => simp [intOf]; omega
    ·
     have hj1z : ¬ ((j + 1 : Nat) : Int) < (n : Int) := by omega
     have Hnx := Lib.hid (Hsp.out.congr (K := fun r c => if r < j + 1 then bs r c else false) (fun r' c' hr' hc' => by
      show (if r' < j then bs r' c' else false) = if r' < j + 1 then bs r' c' else false
      by_cases h2 : r' < j
      ·
       rw [if_pos h2, if_pos (by omega)]
      ·
       rw [if_neg h2, if_pos (by omega), Hbs.out]
       dsimp only
       rw [decide_eq_false (by omega), Bool.false_and]))
     clear hkk hxr hny2
     go_wp2_with fail
     go_roundw
     case rel => exact ⟨j + 1, by omega, by go_num, Hnx.out, Hs.out⟩
     case measure => simp [intOf]; omega
   obtain rfl : n = j := by omega
   have Hsq := Lib.hid (hsp.congr (K := bs) (fun r c hr _ => if_pos hr))
   clear Hsp hsp hs hkk
   have e1 : IntKind.i64.wrap ((n : Int) - 1) = ((n - 1 : Nat) : Int) := by rw [show (n : Int) - 1 = ((n - 1 : Nat) : Int) by omega]; exact wrap_of (by omega) (by omega)
   obtain ⟨fn, hfn⟩ : ∃ fn : Nat → Nat → Bool, fn = spB (.mk 4 num ks) xs ys := ⟨_, rfl⟩
   have Hfn := Lib.hid hfn
   have Hlow : Hid (∀ i c, c < i → bs i c = fn i c) := fun i c hci => by rw [Hfn.out, Hbs.out]; exact spB_actE.symm
   clear hfn x0 x1 x2 ltx y0 y1 lty
   go_wp2_with fail
   clear e1
   go_loopw [11] (fun v wr => (∃ i : Nat, i < n ∧ v = .int .i64 i ∧ SpW B0 n g gs (moM fn bs (i + 1)) wr ∧ Spares X wK wr) ∨ (v = .int .i64 (-1) ∧ SpW B0 n g gs fn wr ∧ Spares X wK wr)) (fun i _ => (intOf i + 1).toNat)
   case atStart => exact Or.inl ⟨n - 1, by omega, rfl, Hsq.out.congr (fun r c hr _ => by unfold moM; rw [if_neg (by omega)]), Hs.out⟩
   case round =>
    clear Hsq Hs
    rcases hrel with ⟨i, hi, rfl, hsp, hs⟩ | ⟨rfl, hsp, hs⟩
    rotate_left
    ·
     have HF := Lib.hid (hsp.fresh (W := w) (by omega) hn1 (by unfold maxLen; omega))
     have HBf := Lib.hid (HK.out _ hs).bl
     clear hsp hs
     go_wp2_with fail
     go_ret
     exact ⟨g, rfl, by rw [← Hfn.out]; exact HF.out, HBf.out⟩
    obtain ⟨wo, rfl⟩ : ∃ v, v = wr := ⟨_, rfl⟩
    have hi0 := Int.natCast_nonneg i
    have Hmi := Lib.hid (hsp.congr (K := miM fn bs i i) (fun r c _ _ => mo_mi (Hlow.out i) r c))
    have Hs := Lib.hid hs
    clear hsp hs
    go_wp2_with fail
    go_loopw [12] (fun v wr => ∃ b : Nat, i ≤ b ∧ b ≤ n ∧ v = .int .i64 b ∧ SpW B0 n g gs (miM fn bs i b) wr ∧ Spares X wK wr) (fun v _ => n - (intOf v).toNat)
    case atStart => exact ⟨i, Nat.le_refl _, by omega, rfl, Hmi.out, Hs.out⟩
    case round =>
     clear Hmi Hs
     obtain ⟨b, hib, hb, rfl, hsp, hs⟩ := hrel
     obtain ⟨wp, rfl⟩ : ∃ v, v = wr := ⟨_, rfl⟩
     have hb0 := Int.natCast_nonneg b
     have Hs := Lib.hid hs
     by_cases hbn : b < n
     rotate_left
     ·
      obtain rfl : n = b := by omega
      have Hmo := Lib.hid (hsp.congr (K := moM fn bs i) (fun r c _ hc => mi_mo r c hc))
      clear hsp hs
      by_cases hi1 : i = 0
      ·
       subst hi1
       have e2 : IntKind.i64.wrap (((0 : Nat) : Int) - 1) = -1 := rfl
       have Hall := Lib.hid (Hmo.out.congr (K := fn) (fun r c _ _ => mo_all r c))
       go_wp2_with fail
       go_roundw
       case rel => exact Or.inr ⟨rfl, Hall.out, Hs.out⟩
       case measure => simp [intOf]
      ·
       obtain ⟨i', rfl⟩ : ∃ i', i = i' + 1 := ⟨i - 1, by omega⟩
       have e2 : IntKind.i64.wrap (((i' + 1 : Nat) : Int) - 1) = (i' : Int) := by rw [show ((i' + 1 : Nat) : Int) - 1 = (i' : Int) by omega]; exact wrap_of (by omega) (by omega)
       go_wp2_with fail
       go_roundw
       case rel => exact Or.inl ⟨i', by omega, by go_num, Hmo.out, Hs.out⟩
       case measure => simp [intOf]; omega
     have hbz : (b : Int) < (n : Int) := by omega
     have Hsp := Lib.hid hsp
     have hkk := HK.out wp hs
     obtain ⟨x0, x1, x2, -, -, -, ltx⟩ := hkk.E.all3
     clear hsp hs
     have Hnx := Lib.hid (Hsp.out.congr (K := miM fn bs i (b + 1)) (fun r c hr hc => by
      unfold miM
      have h : bs r c = fn r c := by rw [Hbs.out, Hfn.out]; exact (spB_actE).symm
      rw [h]
      simp))
     clear hkk
     go_wp2_with fail
     go_roundw
     case rel => exact ⟨b + 1, by omega, by omega, by go_num, Hnx.out, Hs.out⟩
     case measure => simp [intOf]; omega
end Go.Proofs.Ytbflhjjnemdecaa

namespace Go.Proofs.Ytbflhjjnemdecaa
set_option linter.unusedVariables false
set_option linter.unusedSimpArgs false
open Go.ChangeShapes Go.WideShapes Go.ChangeAt Go.RowKit Go.Deep Go.Sort
set_option maxRecDepth 100000 in
set_option maxHeartbeats 16000000 in
theorem spans_6 {tm am : Int} (htm : tm ≤ 2) {N : Nat} (ih : ∀ m, m < N → SpnC tm am m) {num : Int} {ks : List Ex} {xs ys : List Int} {s p q : Option Addr} {c pc qc : Nat} {w : World} (hN : Ex.sizeL ks ≤ N) (hr : Rd w (kidsD ks) (.slice s ks.length c)) (htr : Ex.tree tm am (.mk 6 num ks) = true) (rx : Rd w (intsD xs) (.slice p xs.length pc)) (ry : Rd w (intsD ys) (.slice q ys.length qc)) (hok : WOk xs ys) :
  Calls Try.prog 110 #[.agg #[.int .i64 6, .int .i64 num, .slice s ks.length c], .agg #[.slice p xs.length pc, .slice q ys.length qc]] w fun f w' => ∃ g, f = .returned (.slice (some ⟨g, 0, none⟩) xs.length xs.length) ∧ Fresh w w' (bbD (sqL xs.length (spB (.mk 6 num ks) xs ys))) (.slice (some ⟨g, 0, none⟩) xs.length xs.length) ∧ Below w.heap.size w w' := by
 obtain ⟨hk, hnum, hc, htl⟩ := tree_parts htr
 have hk2 : ks.length ≤ 2 := by have h := hk; simp [kidsN] at h; omega
 have hsh := hok.short
 have hlen := hok.len
 have Hok := Lib.hid hok
 have Htl := Lib.hid htl
 have Ih := Lib.hid ih
 have Htr := Lib.hid htr
 have Hc := Lib.hid hc
 clear htl ih hok htr hc
 obtain ⟨n, hn⟩ : ∃ n, xs.length = n := ⟨_, rfl⟩
 rw [hn] at rx ⊢
 have Hn := Lib.hid hn
 have hn1 : 1 ≤ n := by omega
 have hn2 : n ≤ 11 := by omega
 have hyn : ys.length ≤ n := by omega
 have Hny := Lib.hid (show n = ys.length + 1 by omega)
 have Hrx := Lib.hid rx
 have Hry := Lib.hid ry
 have Hr := Lib.hid hr
 have hn0 := Int.natCast_nonneg n
 obtain ⟨-, hlx, hcx, -⟩ := rx.sl_at
 obtain ⟨-, hly, hcy, -⟩ := ry.sl_at
 unfold maxLen at hcx hcy
 clear hn hlen hsh rx ry hr
 rw [show (List.length xs) = n from Hn.out] at hlx
 go_enter Try.func110, Try.ntmps110
 go_wp2_with fail
 obtain ⟨w0, e0, E, hb0, hz0⟩ := box3 w 38 (.int .i64 6) (.int .i64 num) (.slice s ks.length c)
 rw [e0]
 obtain ⟨w1, e1, Q, hb1, hz1⟩ := box2 w0 40 (.slice p n pc) (.slice q ys.length qc)
 rw [e1]
 rw [hz0] at Q
 have hB1 := hb0.trans (hb1.mono (by omega))
 replace E := E.below hb1
 have hzz : w1.heap.size = w.heap.size + 2 := by omega
 refine (newSpans_i hn1 (by omega)).mono ?_
 rintro f w2 ⟨g, gs, rfl, hsp, hb2⟩
 have HB2 := Lib.hid (hB1.trans (hb2.mono (by omega)))
 have HE := Lib.hid (E.below hb2)
 have HQ := Lib.hid (Q.below hb2)
 obtain ⟨B0, hB0⟩ : ∃ B0, w1.heap.size = B0 := ⟨_, rfl⟩
 rw [hB0] at hsp hzz
 have hz12 := hb2.size
 rw [hB0] at hz12
 have Hsp := Lib.hid hsp
 have hz2 := HB2.out.size
 clear hB0
 have h0 := App.empty (W := w2) (size := 1) (Blk.made w2 131 #[]) (Nat.le_refl _)
 obtain ⟨x0, x1, x2, -, -, -, ltx⟩ := (HE.out.alloc (.cells #[] 131)).all3
 clear e0 e1 hb0 hb1 hb2 E Q hB1 hz0 hz1 hsp
 go_wp2_with fail
 clear x0 x1 x2 ltx
 go_loopw [7, 27] (fun v i wr => ∃ j : Nat, j ≤ ks.length ∧ i = .int .i64 j ∧ App w2 wr 131 1 j ((ks.take j).map fun e => bbD (sqL n (spB e xs ys))) v ∧ Below w2.heap.size w2 wr) (fun _ i _ => ks.length - (intOf i).toNat)
 case atStart => exact ⟨0, Nat.zero_le _, rfl, by simpa using h0, Below.alloc (Below.refl _ _) (Nat.le_refl _) _⟩
 case round =>
  clear h0
  obtain ⟨j, hj, rfl, happ, hB⟩ := hrel
  obtain ⟨wo, rfl⟩ : ∃ v, v = wr := ⟨_, rfl⟩
  have hj0 := Int.natCast_nonneg j
  have szB := hB.size
  obtain ⟨a', cap', rfl, hcap1, hcap2⟩ := happ.shape
  unfold maxLen at hcap2
  have HB := Lib.hid hB
  by_cases hjl : j < ks.length
  ·
   obtain ⟨e', he'⟩ : ∃ e', ks[j]? = some e' := ⟨_, List.getElem?_eq_getElem hjl⟩
   obtain ⟨kb, ko, rfl⟩ := kid_some Hr.out (by intro h; rw [h] at hjl; simp at hjl)
   have hjz : (j : Int) < (ks.length : Int) := by omega
   have hBw := HB2.out.trans (hB.mono hz2)
   obtain ⟨hkb, sx, cx, i0, i1, i2, hxr⟩ := kid_in Hr.out he'
   replace i0 := (hBw.cell (p := ⟨kb, ko + j * 3, none⟩) hkb).trans i0
   replace i1 := (hBw.cell (p := ⟨kb, ko + j * 3 + 1, none⟩) hkb).trans i1
   replace i2 := (hBw.cell (p := ⟨kb, ko + j * 3 + 2, none⟩) hkb).trans i2
   have hbx := Below.alloc (Below.refl wo.heap.size wo) (Nat.le_refl _) (.cells #[.int .i64 e'.kind, .int .i64 e'.num, .slice sx e'.kids.length cx] 38)
   obtain ⟨y0, y1, lty⟩ := ((HQ.out.below hB).alloc (.cells #[.int .i64 e'.kind, .int .i64 e'.num, .slice sx e'.kids.length cx] 38)).all2
   obtain ⟨v0, v1, v2, -, -, -, ltv⟩ := (Blk.new3 wo 38 (.int .i64 e'.kind) (.int .i64 e'.num) (.slice sx e'.kids.length cx)).all3
   have HA := Lib.hid happ
   have htr' := Ex.treeL_mem Htl.out (List.mem_of_getElem? he')
   have hsz : Ex.sizeL e'.kids < N := by
    have h1 := Ex.sizeL_mem (List.mem_of_getElem? he')
    have h2 := Ex.size_eq e'
    omega
   have hBx := hBw.alloc hBw.size (.cells #[.int .i64 e'.kind, .int .i64 e'.num, .slice sx e'.kids.length cx] 38)
   have Htk := Lib.hid (show (ks.take (j + 1)).map (fun e => bbD (sqL n (spB e xs ys))) = (ks.take j).map (fun e => bbD (sqL n (spB e xs ys))) ++ [bbD (sqL n (spB e' xs ys))] by
    obtain ⟨h1, h2⟩ := List.getElem?_eq_some_iff.1 he'
    rw [List.take_succ_eq_append_getElem h1, List.map_append, h2]
    rfl)
   have hih := Ih.out _ hsz e' xs ys sx p q cx pc qc _ (Nat.le_refl _) (hxr.below hBx) htr' (by rw [Hn.out]; exact Hrx.out.below hBx) (Hry.out.below hBx) Hok.out
   rw [Hn.out] at hih
   clear happ hB he' hBw hxr hBx
   go_wp2_with fail
   refine hih.mono ?_
   rintro f w5 ⟨g5, rfl, hf5, hb5⟩
   have hb55 := hbx.trans (hb5.mono (by simp))
   have hz5 := hb55.size
   have hf6 : Freshs wo (w5.alloc (.cells #[.slice (some ⟨g5, 0, none⟩) n n] 131)) [bbD (sqL n (spB e' xs ys))] [.slice (some ⟨g5, 0, none⟩) n n] := (Freshs.one (hf5.from (by simp))).on (Below.alloc (Below.refl _ _) (Nat.le_refl _) _)
   have hb6 := hb55.alloc hz5 (.cells #[.slice (some ⟨g5, 0, none⟩) n n] 131)
   have happ := HA.out
   clear i0 i1 i2 y0 y1 lty v0 v1 v2 ltv hf5 hb5 hbx hb55 hih
   go_wp2_with (at_builtin; go_must (refine wpList_append_app _ rfl _ _ 174 rfl 131 (.slice none 0 0) 1 24 Try.underlying174 info_spans rfl (by decide) _ rfl happ hb6 szB ⟨w5.heap.size, 0, none⟩ 1 1 [.slice (some ⟨g5, 0, none⟩) n n] rfl (news_blk (Blk.made _ _ _)) hf6 rfl (by simp [Value.oneCell']) (by omega) (by omega) (by unfold maxLen; omega) ?_); intro g3 cap3 w3 happ3 hb3)
   have hB3 : Below w2.heap.size w2 w3 := (HB.out.trans (hb6.mono szB)).trans hb3
   have Hfin := Lib.hid (And.intro (happ3.sized Htk.out.symm rfl) hB3)
   clear happ3 hb3 hB3 happ hf6 hb6
   go_wp2_with fail
   go_roundw
   case rel => exact ⟨j + 1, by omega, by go_num, Hfin.out.1, Hfin.out.2⟩
   case measure => simp [intOf]; omega
  obtain rfl : j = ks.length := by omega
  rw [List.take_length] at happ
  have HKf := Lib.hid (happ.freshN (f := fun e => bbD (sqL n (spB e xs ys))) rfl)
  clear happ hB
  obtain ⟨x', y', hks⟩ := two_kids hk (by omega)
  have Hks := Lib.hid hks
  have hkz0 : 0 < ks.length := by rw [hks]; simp
  have hkz1 : 1 < ks.length := by rw [hks]; simp
  obtain ⟨kb, ko, rfl⟩ := nest_some HKf.out.rd hkz0
  clear hks
  obtain ⟨wK, rfl⟩ : ∃ v, v = wo := ⟨_, rfl⟩
  obtain ⟨X, hX⟩ : ∃ X : Nat → Prop, X = fun b => b = g ∨ b ∈ gs := ⟨_, rfl⟩
  have hXb : ∀ b, X b → w.heap.size + 2 ≤ b ∧ b < w2.heap.size := by
   intro b hb
   rw [hX] at hb
   have h1 := Hsp.out.own
   rcases hb with rfl | hb
   ·
    exact ⟨by omega, Hsp.out.blk.lt⟩
   ·
    obtain ⟨i, hi⟩ := List.mem_iff_getElem?.1 hb
    exact ⟨by have := (h1.2 b hb).1; omega, (Hsp.out.row i b hi).lt⟩
  have HK : Hid (∀ W, Spares X wK W → SpK w n g gs 6 num s p q c pc qc 1 ks xs ys (.slice (some ⟨kb, ko, none⟩) ks.length cap') W) := by
   intro W hs
   refine ⟨(HE.out.below HB.out).keep (hs.block _ (HE.out.below HB.out).lt (fun h => by have := hXb _ h; omega)), (HQ.out.below HB.out).keep (hs.block _ (HQ.out.below HB.out).lt (fun h => by have := hXb _ h; omega)), (HB2.out.trans (HB.out.mono hz2)).trans (hs.below (B := w.heap.size) (by have := HB.out.size; omega) (fun b h => by have := hXb _ h; omega)), Or.inl (HKf.out.keep (fun b h1 h2 => hs.block b h2 (fun h => by have := hXb _ h; omega))).rd⟩
  have HXm := Lib.hid (fun i x (hx : gs[i]? = some x) => (show X x by rw [hX]; exact Or.inr (List.mem_of_getElem? hx)))
  obtain ⟨bs, hbs⟩ : ∃ bs : Nat → Nat → Bool, bs = fun _ _ => false := ⟨_, rfl⟩
  have Hbs := Lib.hid hbs
  have Hsp0 := Lib.hid ((Hsp.out.below HB.out).congr (K := fun r c => if r < 0 then bs r c else false) (fun r c _ _ => by rw [if_neg (Nat.not_lt_zero _)]))
  clear hX hXb hbs HE HQ HB Hsp HB2
  go_wp2_with fail
  go_loopw [39] (fun i wr => ∃ j : Nat, j ≤ n ∧ i = .int .i64 j ∧ SpW B0 n g gs (fun r c => if r < j then bs r c else false) wr ∧ Spares X wK wr) (fun i _ => n - (intOf i).toNat)
  case atStart => exact ⟨0, Nat.zero_le _, rfl, Hsp0.out, Spares.refl _⟩
  case round =>
   clear Hsp0
   obtain ⟨j, hj, rfl, hsp, hs⟩ := hrel
   obtain ⟨wo, rfl⟩ : ∃ v, v = wr := ⟨_, rfl⟩
   have hj0 := Int.natCast_nonneg j
   have Hsp := Lib.hid hsp
   have Hs := Lib.hid hs
   have hkk := HK.out wo hs
   obtain ⟨x0, x1, x2, -, -, -, ltx⟩ := hkk.E.all3
   obtain ⟨y0, y1, lty⟩ := hkk.Q.all2
   by_cases hjn : j < n
   ·
    have hjz : (j : Int) < (n : Int) := by omega
    clear hsp hs
    have Hnx := Lib.hid (Hsp.out.congr (K := fun r c => if r < j + 1 then bs r c else false) (fun r c _ _ => by rw [Hbs.out]; simp))
    clear hkk
    go_wp2_with fail
    go_roundw
    case rel => exact ⟨j + 1, by omega, by go_num, Hnx.out, Hs.out⟩
    case measure => simp [intOf]; omega
   obtain rfl : n = j := by omega
   have Hsq := Lib.hid (hsp.congr (K := bs) (fun r c hr _ => if_pos hr))
   clear Hsp hsp hs hkk
   have e1 : IntKind.i64.wrap ((n : Int) - 1) = ((n - 1 : Nat) : Int) := by rw [show (n : Int) - 1 = ((n - 1 : Nat) : Int) by omega]; exact wrap_of (by omega) (by omega)
   obtain ⟨fn, hfn⟩ : ∃ fn : Nat → Nat → Bool, fn = spB (.mk 6 num ks) xs ys := ⟨_, rfl⟩
   have Hfn := Lib.hid hfn
   have Hlow : Hid (∀ i c, c < i → bs i c = fn i c) := fun i c hci => by rw [Hfn.out, Hbs.out]; exact by cases hb : spB (.mk 6 num ks) xs ys i c with | false => rfl | true => (rw [spB_iff] at hb; have := hb.1; omega)
   clear hfn x0 x1 x2 ltx y0 y1 lty
   go_wp2_with fail
   clear e1
   go_loopw [11] (fun v wr => (∃ i : Nat, i < n ∧ v = .int .i64 i ∧ SpW B0 n g gs (moM fn bs (i + 1)) wr ∧ Spares X wK wr) ∨ (v = .int .i64 (-1) ∧ SpW B0 n g gs fn wr ∧ Spares X wK wr)) (fun i _ => (intOf i + 1).toNat)
   case atStart => exact Or.inl ⟨n - 1, by omega, rfl, Hsq.out.congr (fun r c hr _ => by unfold moM; rw [if_neg (by omega)]), Hs.out⟩
   case round =>
    clear Hsq Hs
    rcases hrel with ⟨i, hi, rfl, hsp, hs⟩ | ⟨rfl, hsp, hs⟩
    rotate_left
    ·
     have HF := Lib.hid (hsp.fresh (W := w) (by omega) hn1 (by unfold maxLen; omega))
     have HBf := Lib.hid (HK.out _ hs).bl
     clear hsp hs
     go_wp2_with fail
     go_ret
     exact ⟨g, rfl, by rw [← Hfn.out]; exact HF.out, HBf.out⟩
    obtain ⟨wo, rfl⟩ : ∃ v, v = wr := ⟨_, rfl⟩
    have hi0 := Int.natCast_nonneg i
    have Hmi := Lib.hid (hsp.congr (K := miM fn bs i i) (fun r c _ _ => mo_mi (Hlow.out i) r c))
    have Hs := Lib.hid hs
    clear hsp hs
    go_wp2_with fail
    go_loopw [12] (fun v wr => ∃ b : Nat, i ≤ b ∧ b ≤ n ∧ v = .int .i64 b ∧ SpW B0 n g gs (miM fn bs i b) wr ∧ Spares X wK wr) (fun v _ => n - (intOf v).toNat)
    case atStart => exact ⟨i, Nat.le_refl _, by omega, rfl, Hmi.out, Hs.out⟩
    case round =>
     clear Hmi Hs
     obtain ⟨b, hib, hb, rfl, hsp, hs⟩ := hrel
     obtain ⟨wp, rfl⟩ : ∃ v, v = wr := ⟨_, rfl⟩
     have hb0 := Int.natCast_nonneg b
     have Hs := Lib.hid hs
     by_cases hbn : b < n
     rotate_left
     ·
      obtain rfl : n = b := by omega
      have Hmo := Lib.hid (hsp.congr (K := moM fn bs i) (fun r c _ hc => mi_mo r c hc))
      clear hsp hs
      by_cases hi1 : i = 0
      ·
       subst hi1
       have e2 : IntKind.i64.wrap (((0 : Nat) : Int) - 1) = -1 := rfl
       have Hall := Lib.hid (Hmo.out.congr (K := fn) (fun r c _ _ => mo_all r c))
       go_wp2_with fail
       go_roundw
       case rel => exact Or.inr ⟨rfl, Hall.out, Hs.out⟩
       case measure => simp [intOf]
      ·
       obtain ⟨i', rfl⟩ : ∃ i', i = i' + 1 := ⟨i - 1, by omega⟩
       have e2 : IntKind.i64.wrap (((i' + 1 : Nat) : Int) - 1) = (i' : Int) := by rw [show ((i' + 1 : Nat) : Int) - 1 = (i' : Int) by omega]; exact wrap_of (by omega) (by omega)
       go_wp2_with fail
       go_roundw
       case rel => exact Or.inl ⟨i', by omega, by go_num, Hmo.out, Hs.out⟩
       case measure => simp [intOf]; omega
     have hbz : (b : Int) < (n : Int) := by omega
     have Hsp := Lib.hid hsp
     have hkk := HK.out wp hs
     obtain ⟨x0, x1, x2, -, -, -, ltx⟩ := hkk.E.all3
     clear hsp hs
     have hkd := hkk.kd.resolve_right (by decide)
     rw [Hks.out] at hkd
     have hkd' : Rd wp (nestD bbD [sqL n (spB x' xs ys), sqL n (spB y' xs ys)]) (.slice (some ⟨kb, ko, none⟩) [x', y'].length cap') := hkd
     obtain ⟨xr, hxr, c1, c2, c3, c4, c5, c6, c7⟩ := Hsp.out.cells (show i < n by omega) hbn
     obtain ⟨b1, o1, d1, b2, o2, d2, k1, k2, k3, k4, k5, k6, k7⟩ := sq_cell (q := 0) hkd' rfl (show i < n by omega) hbn
     obtain ⟨b3, o3, d3, b4, o4, d4, l1, l2, l3, l4, l5, l6, l7⟩ := sq_cell (q := 1) hkd' rfl (show i < n by omega) hbn
     simp only [Nat.add_zero] at k1
     unfold maxLen at k5 k7 l5 l7
     obtain ⟨u1, hu1⟩ : ∃ u1, spB x' xs ys i b = u1 := ⟨_, rfl⟩
     obtain ⟨u2, hu2⟩ : ∃ u2, spB y' xs ys i b = u2 := ⟨_, rfl⟩
     rw [hu1] at k3
     rw [hu2] at l3
     have Hv : Hid (fn i b = (u1 || u2)) := by show _ = _; rw [Hfn.out, Hks.out, spB_sum, hu1, hu2]
     have Hset := Lib.hid (fun (v : Bool) (hv : fn i b = v) => (And.intro (((Hsp.out.set hxr v).congr (K := miM fn bs i (b + 1)) (fun r' c _ _ => by subst hv; exact mi_upd r' c)).drew) (spares_drew (spares_put (p := ⟨xr, b, none⟩) Hs.out (HXm.out i xr hxr) (.bool v)))))
     clear hkd hkd' hkk hu1 hu2 hxr
     cases u1
     ·
      have HV : Hid (fn i b = u2) := by show _ = _; rw [Hv.out]; rfl
      go_wp2_with fail
      go_region
      go_wp2_with fail
      go_roundw
      case rel => exact ⟨b + 1, by omega, by omega, by go_num, (Hset.out u2 HV.out).1, (Hset.out u2 HV.out).2⟩
      case measure => simp [intOf]; omega
     ·
      have HV : Hid (fn i b = true) := by show _ = _; rw [Hv.out]; rfl
      go_wp2_with fail
      go_region
      go_wp2_with fail
      go_roundw
      case rel => exact ⟨b + 1, by omega, by omega, by go_num, (Hset.out true HV.out).1, (Hset.out true HV.out).2⟩
      case measure => simp [intOf]; omega
end Go.Proofs.Ytbflhjjnemdecaa
