/-
  Parts of a proof, joined: RvP, FusP, Fus. No condition.
-/
import Derived.Test.YtbflhjjnemdecaaPk23
namespace Go.Proofs.Ytbflhjjnemdecaa
set_option linter.unusedVariables false
set_option linter.unusedSimpArgs false
open Go.ChangeShapes Go.WideShapes Go.ChangeAt Go.RowKit Go.Deep Go.Sort
theorem allIn_mem {zs : List Int} {n : Int} : allIn zs n = true ↔ ∀ z ∈ zs, inB z 0 (n - 1) = true := by unfold allIn; rw [List.all_eq_true]
theorem wordB_fuse {t a : Int} {xs ys us vv : List Int} (h : wordB t a xs ys = true) (h' : wordB t a us vv = true) (hl : ys.length + vv.length ≤ 10) : wordB t a (xs ++ us.drop 1) (ys ++ vv) = true := by
 unfold wordB at *
 simp only [Bool.and_eq_true, decide_eq_true_eq] at *
 obtain ⟨⟨⟨⟨h1, h2⟩, h3⟩, h4⟩, h5⟩ := h
 obtain ⟨⟨⟨⟨-, k2⟩, k3⟩, k4⟩, k5⟩ := h'
 refine ⟨⟨⟨⟨h1, ?_⟩, ?_⟩, ?_⟩, ?_⟩
 ·
  rw [List.length_append]; exact hl
 ·
  rw [List.length_append, List.length_append, List.length_drop]; omega
 ·
  rw [allIn_mem] at *
  intro z hz
  rcases List.mem_append.1 hz with q | q
  ·
   exact h4 z q
  ·
   exact k4 z (List.mem_of_mem_drop q)
 ·
  rw [allIn_mem] at *
  intro z hz
  rcases List.mem_append.1 hz with q | q
  ·
   exact h5 z q
  ·
   exact k5 z q
end Go.Proofs.Ytbflhjjnemdecaa

namespace Go.Proofs.Ytbflhjjnemdecaa
set_option linter.unusedVariables false
set_option linter.unusedSimpArgs false
section
variable {xs ys us vs : List Int}
theorem getD_left {p q : List Int} {i : Nat} (h : i < p.length) : (p ++ q).getD i 0 = p.getD i 0 := by
 simp only [List.getD_eq_getElem?_getD, List.getElem?_append_left h]
theorem getD_right {p q : List Int} {i : Nat} : (p ++ q).getD (p.length + i) 0 = q.getD i 0 := by
 simp only [List.getD_eq_getElem?_getD]
 rw [List.getElem?_append_right (by omega), Nat.add_sub_cancel_left]
theorem fus_atom (hx : xs.length = ys.length + 1) (hf : xs.getD ys.length 0 = us.getD 0 0) (i : Nat) : (xs ++ us.drop 1).getD (ys.length + i) 0 = us.getD i 0 := by
 cases i with
 | zero => rw [Nat.add_zero, getD_left (by omega), hf]
 | succ i =>
  rw [show ys.length + (i + 1) = xs.length + i by omega, getD_right]
  simp only [List.getD_eq_getElem?_getD, List.getElem?_drop]
  rw [Nat.add_comm 1 i]
theorem fus_left {K : Lng} (hx : xs.length = ys.length + 1) : spP (xs ++ us.drop 1) (ys ++ vs) K 0 ys.length ↔ spP xs ys K 0 ys.length := by
 have e1 : segW (xs ++ us.drop 1) (ys ++ vs) 0 ys.length = segW xs ys 0 ys.length := by
  unfold segW
  refine List.map_congr_left fun j hj => ?_
  have hj := List.mem_range.1 hj
  rw [getD_left (by omega), getD_left (by omega)]
 have e2 : atW (xs ++ us.drop 1) ys.length = atW xs ys.length := by unfold atW; rw [getD_left (by omega)]
 unfold spP
 rw [e1, e2]
theorem fus_right {K : Lng} (hx : xs.length = ys.length + 1) (hf : xs.getD ys.length 0 = us.getD 0 0) : spP (xs ++ us.drop 1) (ys ++ vs) K ys.length (ys.length + vs.length) ↔ spP us vs K 0 vs.length := by
 have e1 : segW (xs ++ us.drop 1) (ys ++ vs) ys.length (ys.length + vs.length) = segW us vs 0 vs.length := by
  unfold segW
  rw [show ys.length + vs.length - ys.length = vs.length - 0 by omega]
  refine List.map_congr_left fun j hj => ?_
  have hj := List.mem_range.1 hj
  rw [fus_atom hx hf, getD_right, Nat.zero_add]
 have e2 : atW (xs ++ us.drop 1) (ys.length + vs.length) = atW us vs.length := by unfold atW; rw [fus_atom hx hf]
 unfold spP
 rw [e1, e2]
 constructor
 ·
  rintro ⟨_, h⟩; exact ⟨Nat.zero_le _, h⟩
 ·
  rintro ⟨_, h⟩; exact ⟨by omega, h⟩
variable {e f : Ex}
theorem fus_dot {n : Int} (hx : xs.length = ys.length + 1) (hf : xs.getD ys.length 0 = us.getD 0 0) (h1 : mtB e xs ys = true) (h2 : mtB f us vs = true) : mtB (.mk 7 n [e, f]) (xs ++ us.drop 1) (ys ++ vs) = true := by
 unfold mtB at *
 rw [List.length_append, spB_dot]
 exact ⟨ys.length, Nat.zero_le _, by omega, spB_iff.2 ((fus_left hx).2 (spB_iff.1 h1)), spB_iff.2 ((fus_right hx hf).2 (spB_iff.1 h2))⟩
theorem spP_star_one {K : Lng} {i k : Nat} (h : spP xs ys K i k) : spP xs ys (StarG K) i k := ⟨h.1, StarG.one h.2⟩
theorem spP_star_append {K : Lng} {i j k : Nat} (h : spP xs ys (StarG K) i j) (h' : spP xs ys (StarG K) j k) : spP xs ys (StarG K) i k := by
 obtain ⟨h1, h2⟩ := h
 obtain ⟨h3, h4⟩ := h'
 refine ⟨by omega, ?_⟩
 rw [segW_append xs ys h1 h3]
 exact StarG.append (by rw [hdA_seg xs ys h3]; exact h2) h4
theorem fus_star {n m : Int} (hx : xs.length = ys.length + 1) (hf : xs.getD ys.length 0 = us.getD 0 0) (h1 : mtB e xs ys = true) (h2 : mtB f us vs = true) : mtB (.mk 8 n [.mk 6 m [e, f]]) (xs ++ us.drop 1) (ys ++ vs) = true := by
 unfold mtB at *
 rw [List.length_append, spB_iff, Ex.lng_star, Ex.lng_sum]
 refine spP_star_append (j := ys.length) ?_ ?_
 ·
  exact spP_star_one (spP_sum.2 (Or.inl ((fus_left hx).2 (spB_iff.1 h1))))
 ·
  exact spP_star_one (spP_sum.2 (Or.inr ((fus_right hx hf).2 (spB_iff.1 h2))))
end
end Go.Proofs.Ytbflhjjnemdecaa

namespace Go.Proofs.Ytbflhjjnemdecaa
set_option linter.unusedVariables false
set_option linter.unusedSimpArgs false
open Go.ChangeShapes Go.WideShapes Go.ChangeAt Go.RowKit Go.Deep Go.Sort
theorem matches_is {t a : Int} {e : Ex} {xs ys : List Int} {s p q : Option Addr} {c pc qc : Nat} {w : World} {v : Bool} (hv : mtB e xs ys = v) (hr : Rd w (kidsD e.kids) (.slice s e.kids.length c)) (rx : Rd w (intsD xs) (.slice p xs.length pc)) (ry : Rd w (intsD ys) (.slice q ys.length qc)) (hok : okB t a e = true) (hw : wordB t a xs ys = true) :
  Calls Try.prog 16 #[.agg #[.int .i64 t, .int .i64 a], .agg #[.int .i64 e.kind, .int .i64 e.num, .slice s e.kids.length c], .agg #[.slice p xs.length pc, .slice q ys.length qc]] w fun z w' => z = .returned (.tuple #[.bool v, .int .i64 0]) ∧ Below w.heap.size w w' :=
 (matches_l (t := t) (a := a) hr rx ry hok hw).mono fun z w' ⟨v', h1, h2, h3⟩ => by
  rw [h1, h2, hv]
  exact ⟨rfl, h3⟩
theorem okB_pair {t a k : Int} {e f : Ex} (hk : k = 6 ∨ k = 7) (he : okB t a e = true) (hf : okB t a f = true) (h1 : e.size ≤ 19) (h2 : f.size ≤ 11) : okB t a (.mk k 0 [e, f]) = true :=
 okB_of (okB_sig he) (tree_two hk (okB_tree he) (okB_tree hf)) (by rw [size_pairE rfl]; omega)
theorem okB_star {t a k : Int} {e f : Ex} (hk : k = 6 ∨ k = 7) (he : okB t a e = true) (hf : okB t a f = true) (h1 : e.size ≤ 19) (h2 : f.size ≤ 11) : okB t a (.mk 8 0 [.mk k 0 [e, f]]) = true :=
 okB_of (okB_sig he) (tree_star (tree_two hk (okB_tree he) (okB_tree hf))) (by rw [size_starE rfl, size_pairE rfl]; omega)
theorem getD_of {l : List Int} {i : Nat} {x : Int} (h : l[i]? = some x) : l.getD i 0 = x := by rw [List.getD_eq_getElem?_getD, h]; rfl
set_option maxRecDepth 100000 in
set_option maxHeartbeats 16000000 in
theorem law_Fuse {xs ys : List Int} {s s' : Option Addr} {c c' : Nat} {w : World} (hr : Rd w (bytesD xs) (.slice s xs.length c)) (hx : ∀ x ∈ xs, 0 ≤ x ∧ x ≤ 255) (hr' : Rd w (bytesD ys) (.slice s' ys.length c')) (hx' : ∀ x ∈ ys, 0 ≤ x ∧ x ≤ 255) :
  Calls Try.prog 7 #[.slice s xs.length c, .slice s' ys.length c'] w fun f w' => f = .returned (.bool true) ∧ Below w.heap.size w w' := by
 obtain ⟨-, hl1, hl2, -⟩ := hr.sl_at
 obtain ⟨-, hl3, hl4, -⟩ := hr'.sl_at
 have HX := Lib.hid hx
 have HX' := Lib.hid hx'
 have HR := Lib.hid hr
 have HR' := Lib.hid hr'
 have HL := Lib.hid (And.intro hl1 (And.intro hl2 (And.intro hl3 hl4)))
 clear hx hx' hr hr' hl1 hl2 hl3 hl4
 go_enter Try.func7, Try.ntmps7
 go_wp2_with fail
 refine (a2Long_i HL.out.1 HL.out.2.1 HL.out.2.2.1 HL.out.2.2.2).mono ?_
 rintro z wq ⟨rfl, hwq⟩
 subst hwq
 obtain ⟨v, hv⟩ : ∃ v, (decide (3000 < xs.length) || decide (3000 < ys.length)) = v := ⟨_, rfl⟩
 rw [hv]
 clear hv
 cases v
 rotate_left
 ·
  go_wp2_with fail
  go_ret
  exact ⟨rfl, Below.refl _ _⟩
 go_wp2_with fail
 refine (a2Expr_i HR.out HX.out).mono ?_
 rintro z wa ⟨t, a, e, s1, c1, rfl, he, ⟨hsig, hok, hez⟩, hb⟩
 have Hsig := Lib.hid hsig
 have Hok := Lib.hid hok
 have HE := Lib.hid (((Later.rd he).and (Later.rd (HR'.out.below hb))).and (Later.rd (HR.out.below hb)))
 have HB0 := Lib.hid hb
 have hza := hb.size
 clear he hb hsig hok
 go_wp2_with fail
 obtain ⟨w2, e2, B5, hb2, hz2⟩ := box2 wa 34 (.int .i64 t) (.int .i64 a)
 rw [e2]
 obtain ⟨wb, e3, B6, hb3, hz3⟩ := box3 w2 38 (.int .i64 e.kind) (.int .i64 e.num) (.slice s1 e.kids.length c1)
 rw [e3]
 rw [hz2] at B6
 have hbB2 := hb2.trans (hb3.mono (by omega))
 replace B5 := B5.below hb3
 have HB2 := Lib.hid (HB0.out.trans (hbB2.mono hza))
 have HG := Lib.hid (((HE.out.on hbB2).and (Later.blk B5)).and (Later.blk B6))
 clear e2 e3 hb2 hb3 hz2 hz3 hbB2 B5 B6 HE HB0
 have hez19 := hez
 obtain ⟨⟨⟨⟨re, ry⟩, rx⟩, g5⟩, g6⟩ := HG.out.now
 obtain ⟨g50, g51, l5⟩ := g5.all2
 clear g5 g6
 go_wp2_with fail
 clear g50 g51 l5
 refine (a2Other_j ry HX'.out Hsig.out).mono ?_
 rintro z v1 ⟨f, s7, c7, rfl, hf, ⟨hokf, hfz⟩, hb⟩
 have Hokf := Lib.hid hokf
 clear re ry rx hokf
 obtain ⟨v2, eb, K, hbz, hzz⟩ := box3 v1 38 (.int .i64 f.kind) (.int .i64 f.num) (.slice s7 f.kids.length c7)
 have ltz : v1.heap.size < v2.heap.size := by omega
 clear hzz
 replace HB2 := Lib.hid ((HB2.out.trans (hb.mono HB2.out.size)).trans (hbz.mono (by have := HB2.out.size; have := hb.size; omega)))
 replace HG := Lib.hid ((((HG.out.on hb).on hbz).and ((Later.rd hf).on hbz)).and (Later.blk K))
 clear hb hbz K hf
 obtain ⟨⟨⟨⟨⟨⟨re, ry⟩, -⟩, g5⟩, g6⟩, -⟩, -⟩ := HG.out.now
 obtain ⟨g50, g51, l5⟩ := g5.all2
 obtain ⟨g60, g61, g62, -, -, -, l6⟩ := g6.all3
 clear g5 g6
 go_wp2_with fail
 clear eb g50 g51 l5 g60 g61 g62 l6
 refine (a2Word_l ry HX'.out re Hok.out).mono ?_
 rintro z v3 ⟨ps, qs, s9, c9, u9, d9, rfl, hw, hp, hq, hb⟩
 have Hw := Lib.hid hw
 clear hw re ry
 obtain ⟨v4, eb, K, hbz, hzz⟩ := box2 v3 40 (.slice s9 ps.length c9) (.slice u9 qs.length d9)
 have ltz : v3.heap.size < v4.heap.size := by omega
 clear hzz
 replace HB2 := Lib.hid ((HB2.out.trans (hb.mono HB2.out.size)).trans (hbz.mono (by have := HB2.out.size; have := hb.size; omega)))
 replace HG := Lib.hid ((((HG.out.on hb).on hbz).and (((Later.rd hp).and (Later.rd hq)).on hbz)).and (Later.blk K))
 clear hb hbz K hp hq
 obtain ⟨⟨⟨⟨⟨⟨⟨⟨-, -⟩, rx⟩, g5⟩, -⟩, rf⟩, g7⟩, -⟩, -⟩ := HG.out.now
 obtain ⟨g50, g51, l5⟩ := g5.all2
 obtain ⟨g70, g71, g72, -, -, -, l7⟩ := g7.all3
 clear g5 g7
 go_wp2_with fail
 clear eb g50 g51 l5 g70 g71 g72 l7
 refine (a2Word_l rx HX.out rf Hokf.out).mono ?_
 rintro z v5 ⟨us, vws, s11, c11, u11, d11, rfl, hv, hp, hq, hb⟩
 have Hv := Lib.hid hv
 clear hv rx rf
 obtain ⟨v6, eb, K, hbz, hzz⟩ := box2 v5 40 (.slice s11 us.length c11) (.slice u11 vws.length d11)
 have ltz : v5.heap.size < v6.heap.size := by omega
 clear hzz
 replace HB2 := Lib.hid ((HB2.out.trans (hb.mono HB2.out.size)).trans (hbz.mono (by have := HB2.out.size; have := hb.size; omega)))
 replace HG := Lib.hid ((((HG.out.on hb).on hbz).and (((Later.rd hp).and (Later.rd hq)).on hbz)).and (Later.blk K))
 clear hb hbz K hp hq
 obtain ⟨-, hq10, hpl⟩ := wordB_bd Hw.out
 obtain ⟨-, hv10, hul⟩ := wordB_bd Hv.out
 obtain ⟨x, hxx⟩ : ∃ x, ps[qs.length]? = some x := ⟨_, List.getElem?_eq_getElem (by omega)⟩
 obtain ⟨y, hyy⟩ : ∃ y, us[0]? = some y := ⟨_, List.getElem?_eq_getElem (by omega)⟩
 have HPL := Lib.hid hpl
 have HX1 := Lib.hid hxx
 have HY1 := Lib.hid hyy
 obtain ⟨⟨⟨⟨⟨⟨⟨⟨⟨⟨-, -⟩, -⟩, -⟩, -⟩, -⟩, -⟩, r9⟩, g9⟩, r11⟩, g11⟩ := HG.out.now
 obtain ⟨b9, o9, rfl⟩ := int_some r9.1 (by omega)
 obtain ⟨b11, o11, rfl⟩ := int_some r11.1 (by omega)
 obtain ⟨-, x1⟩ := int_in r9.1 hxx
 obtain ⟨-, y1⟩ := int_in r11.1 hyy
 have ul1 : 0 < us.length := by omega
 rw [HPL.out] at g9
 obtain ⟨g90, g91, l9⟩ := g9.all2
 obtain ⟨g110, g111, l11⟩ := g11.all2
 have G90 := Lib.hid g90
 clear g9 g11 r9 r11 hpl hul hxx hyy
 rw [Nat.add_zero] at y1
 go_wp2_with fail
 clear eb
 have gg90 := fun d os => cell_regrown g90 d os
 have gg110 := fun d os => cell_regrown g110 d os
 have gx1 := fun d os => cell_regrown x1 d os
 have gy1 := fun d os => cell_regrown y1 d os
 refine Go.wp_region_quiet_below (by kernel_rfl) (by kernel_rfl) ?_
 repeat (first | go_big_quiet_step ((fail)) | quiet_step ((fail)))
 refine wpQuiet_nil ?_; intro _ hw'; obtain ⟨⟨dq, osq⟩, hw''⟩ := hw'; subst hw''; have hq := below_regrown v6 dq osq; revert hq; generalize grow (redrawn v6 dq) osq = v7; intro hq
 have hb := hq
 have ltz7 := hb.size
 clear hq gg90 gg110 gx1 gy1 g90 g91 g110 g111 x1 y1 l9 l11 G90
 replace HB2 := Lib.hid (HB2.out.trans (hb.mono HB2.out.size))
 replace HG := Lib.hid (HG.out.on hb)
 clear hb
 obtain ⟨⟨⟨⟨⟨⟨⟨⟨⟨⟨-, -⟩, -⟩, g5⟩, -⟩, -⟩, -⟩, r9⟩, g9⟩, r11⟩, g11⟩ := HG.out.now
 obtain ⟨g50, g51, l5⟩ := g5.all2
 obtain ⟨g90, g91, l9⟩ := g9.all2
 obtain ⟨g110, g111, l11⟩ := g11.all2
 clear g5 g9 g11
 obtain ⟨q, hq⟩ : ∃ q, (x == y) = q := ⟨_, rfl⟩
 rw [hq]
 have HQ := Lib.hid hq
 clear hq
 go_wp2_with fail
 clear g50 g51 l5 g90 g91 l9 g110 g111 l11
 refine (fuse_l r9.1 r9.2 r11.1 r11.2).mono ?_
 rintro z v8 ⟨zs, js, k, s13, c13, m13, d13, rfl, hx13, hp, hq, hb⟩
 have Hx13 := Lib.hid hx13
 clear hx13 r9 r11
 obtain ⟨v9, eb, K, hbz, hzz⟩ := box2 v8 40 (.slice s13 zs.length c13) (.slice m13 js.length d13)
 have ltz : v8.heap.size < v9.heap.size := by omega
 clear hzz
 replace HB2 := Lib.hid ((HB2.out.trans (hb.mono HB2.out.size)).trans (hbz.mono (by have := HB2.out.size; have := hb.size; omega)))
 replace HG := Lib.hid ((((HG.out.on hb).on hbz).and (((Later.rd hp).and (Later.rd hq)).on hbz)).and (Later.blk K))
 clear hb hbz K hp hq
 cases q
 ·
  have hne : ¬ ps[qs.length]? = us[0]? := by
   rw [HX1.out, HY1.out]
   intro h
   have h2 := HQ.out
   rw [Option.some.inj h] at h2
   simp at h2
  obtain rfl : k = 4 := by rw [Hx13.out.2.2]; unfold fuC; rw [if_pos ⟨Hw.out, Hv.out⟩, if_neg hne]
  clear hne
  go_wp2_with fail
  go_ret
  exact ⟨rfl, HB2.out⟩
 have hxy : x = y := by have h2 := HQ.out; simpa using h2
 have heq : ps[qs.length]? = us[0]? := by rw [HX1.out, HY1.out, hxy]
 have HEQ := Lib.hid heq
 clear heq hxy HQ
 obtain ⟨⟨⟨⟨⟨⟨⟨⟨⟨⟨⟨⟨-, -⟩, -⟩, -⟩, -⟩, -⟩, -⟩, -⟩, g9⟩, -⟩, g11⟩, -⟩, -⟩ := HG.out.now
 obtain ⟨g90, g91, l9⟩ := g9.all2
 obtain ⟨g110, g111, l11⟩ := g11.all2
 clear g9 g11
 by_cases hlen : qs.length + vws.length ≤ 10
 rotate_left
 ·
  obtain rfl : k = 3 := by rw [Hx13.out.2.2]; unfold fuC; rw [if_pos ⟨Hw.out, Hv.out⟩, if_pos HEQ.out, if_neg hlen]
  have hl1 : (10 : Int) < (qs.length : Int) + (vws.length : Int) := by omega
  clear hlen
  go_wp2_with fail
  go_ret
  exact ⟨rfl, HB2.out⟩
 obtain rfl : k = 0 := by rw [Hx13.out.2.2]; unfold fuC; rw [if_pos ⟨Hw.out, Hv.out⟩, if_pos HEQ.out, if_pos hlen]
 have Hlen := Lib.hid hlen
 have hl1 : decide ((10 : Int) < (qs.length : Int) + (vws.length : Int)) = false := by apply decide_eq_false; omega
 obtain ⟨rfl, rfl⟩ : zs = ps ++ us.drop 1 ∧ js = qs ++ vws := by
  have hg : fuG t a ps qs us vws := ⟨Hw.out, Hv.out, HEQ.out, hlen⟩
  have := fu_good hg
  exact ⟨Hx13.out.1.trans this.1, Hx13.out.2.1.trans this.2.1⟩
 have HJ := Lib.hid (@List.length_append _ qs vws)
 have HW13 := Lib.hid (wordB_fuse Hw.out Hv.out hlen)
 obtain ⟨zs, hzs⟩ : ∃ zs, ps ++ us.drop 1 = zs := ⟨_, rfl⟩
 obtain ⟨js, hjs⟩ : ∃ js, qs ++ vws = js := ⟨_, rfl⟩
 obtain ⟨va, hva⟩ : ∃ b, mtB e ps qs = b := ⟨_, rfl⟩
 obtain ⟨vb, hvb⟩ : ∃ b, mtB f us vws = b := ⟨_, rfl⟩
 obtain ⟨vc, hvc⟩ : ∃ b, mtB (.mk 7 0 [e, f]) zs js = b := ⟨_, rfl⟩
 obtain ⟨vd, hvd⟩ : ∃ b, mtB (.mk 8 0 [.mk 6 0 [e, f]]) zs js = b := ⟨_, rfl⟩
 have hfin : va = true → vb = true → vc = true ∧ vd = true := fun h1 h2 => by
  have e0 := getD_of HX1.out
  have e1 := getD_of HY1.out
  have e2 : ps.getD qs.length 0 = us.getD 0 0 := by rw [List.getD_eq_getElem?_getD, List.getD_eq_getElem?_getD, HEQ.out]
  rw [← hvc, ← hvd, ← hzs, ← hjs]
  exact ⟨fus_dot HPL.out e2 (hva.trans h1) (hvb.trans h2), fus_star HPL.out e2 (hva.trans h1) (hvb.trans h2)⟩
 rw [hzs, hjs] at HW13
 rw [hjs] at HJ
 simp only [hzs, hjs] at HG eb ⊢
 have HFIN := Lib.hid hfin
 have HA1 := Lib.hid hva
 have HB1 := Lib.hid hvb
 have HC1 := Lib.hid hvc
 have HD1 := Lib.hid hvd
 clear hlen hzs hjs hva hvb hvc hvd hfin Hx13
 obtain ⟨⟨⟨⟨⟨⟨⟨⟨⟨⟨⟨⟨re, -⟩, -⟩, g5⟩, g6⟩, -⟩, -⟩, r9⟩, -⟩, -⟩, -⟩, -⟩, -⟩ := HG.out.now
 obtain ⟨g50, g51, l5⟩ := g5.all2
 obtain ⟨g60, g61, g62, -, -, -, l6⟩ := g6.all3
 clear g5 g6
 go_wp2_with fail
 clear eb g50 g51 l5 g60 g61 g62 l6 g90 g91 l9 g110 g111 l11
 refine (matches_is HA1.out re r9.1 r9.2 Hok.out Hw.out).mono ?_
 rintro z v10 ⟨rfl, hb⟩
 clear re r9
 replace HB2 := Lib.hid (HB2.out.trans (hb.mono HB2.out.size))
 replace HG := Lib.hid (HG.out.on hb)
 clear hb
 obtain ⟨⟨⟨⟨⟨⟨⟨⟨⟨⟨⟨⟨-, -⟩, -⟩, g5⟩, -⟩, rf⟩, g7⟩, -⟩, -⟩, r11⟩, g11⟩, -⟩, -⟩ := HG.out.now
 obtain ⟨g50, g51, l5⟩ := g5.all2
 obtain ⟨g70, g71, g72, -, -, -, l7⟩ := g7.all3
 obtain ⟨g110, g111, l11⟩ := g11.all2
 clear g5 g7 g11
 go_wp2_with fail
 clear g50 g51 l5 g70 g71 g72 l7 g110 g111 l11
 refine (matches_is HB1.out rf r11.1 r11.2 Hokf.out Hv.out).mono ?_
 rintro z v11 ⟨rfl, hb⟩
 clear rf r11
 replace HB2 := Lib.hid (HB2.out.trans (hb.mono HB2.out.size))
 replace HG := Lib.hid (HG.out.on hb)
 clear hb
 have hPz : 0 ≤ e.size := Nat.zero_le _
 have ltv : v8.heap.size < v11.heap.size := by
  have := HG.out.now.2.lt
  exact this
 go_wp2_with fail
 obtain ⟨x0, hx0⟩ := mkval ?a2_0
 obtain ⟨x1, hx1⟩ := mkval ?a2_1
 obtain ⟨x2, hx2⟩ := mkval ?a2_2
 obtain ⟨x4, hx4⟩ := mkval ?a2_4
 refine region_rs [] [] (fun _ _ => False) (v11.heap.size) (fun i iv vs wx => match i with
  | 0 => vs 0 = x0
  | 1 => vs 1 = x1
  | 2 => vs 2 = x2
  | 3 => ∃ sa ca, vs 3 = .agg #[.int .i64 7, .int .i64 0, .slice sa 2 ca] ∧ FreshIn (iv 3) wx [kidsD [e, f]] [.slice sa 2 ca]
  | 4 => vs 4 = x4
  | 5 => vs 5 = .tuple #[.bool vc, .int .i64 0]
  | 6 => vs 6 = .tuple #[.bool vc, .int .i64 0]
  | 7 => vs 7 = .bool vc
  | 8 => vs 8 = .int .i64 0
  | 9 => vs 9 = .bool vc
  | 10 => vs 10 = .int .i64 0
  | _ => True) (fun i iv vs => match i with
  | 0 => vs 0 = x0
  | 1 => vs 1 = x1
  | 2 => vs 2 = x2
  | 3 => ∃ sa ca, vs 3 = .agg #[.int .i64 7, .int .i64 0, .slice sa 2 ca]
  | 4 => vs 4 = x4
  | 5 => vs 5 = .tuple #[.bool vc, .int .i64 0]
  | 6 => vs 6 = .tuple #[.bool vc, .int .i64 0]
  | 7 => vs 7 = .bool vc
  | 8 => vs 8 = .int .i64 0
  | 9 => vs 9 = .bool vc
  | 10 => vs 10 = .int .i64 0
  | _ => True) (by kernel_rfl) (by kernel_rfl) [0, 1, 2, 3, 4, 5, 6, 7, 8, 9, 10] (by kernel_rfl) ?hbase ?hGb ?hG ?hJ ?hE ?hEE ?hstep ?hQ
 case hbase => first | exact Nat.le_refl _ | omega | (simp; omega)
 case hGb =>
  exact fun _ _ h => h.elim
 case hG =>
  exact fun _ _ _ h => h.elim
 case hJ =>
  intro i hi iv iv' vs vs' wx wx' ha hv hz hk hj
  simp only [List.mem_cons, List.not_mem_nil, or_false] at hi
  rcases hi with rfl | rfl | rfl | rfl | rfl | rfl | rfl | rfl | rfl | rfl | rfl
  ·
   exact (hv.out 0 (mem_of (by kernel_rfl))).symm.trans hj
  ·
   exact (hv.out 1 (mem_of (by kernel_rfl))).symm.trans hj
  ·
   exact (hv.out 2 (mem_of (by kernel_rfl))).symm.trans hj
  ·
   have e3 := hv.out 3 (mem_of (by kernel_rfl))
   have g3 := ha.out 3 (mem_of (by kernel_rfl))
   obtain ⟨sa, ca, q1, q2⟩ := hj
   exact ⟨sa, ca, e3 ▸ q1, g3 ▸ q2.keep (fun b hb h1 h2 => hk.out b hb (foot_own h1 h2))⟩
  ·
   exact (hv.out 4 (mem_of (by kernel_rfl))).symm.trans hj
  ·
   exact (hv.out 5 (mem_of (by kernel_rfl))).symm.trans hj
  ·
   exact (hv.out 6 (mem_of (by kernel_rfl))).symm.trans hj
  ·
   exact (hv.out 7 (mem_of (by kernel_rfl))).symm.trans hj
  ·
   exact (hv.out 8 (mem_of (by kernel_rfl))).symm.trans hj
  ·
   exact (hv.out 9 (mem_of (by kernel_rfl))).symm.trans hj
  ·
   exact (hv.out 10 (mem_of (by kernel_rfl))).symm.trans hj
 case hE =>
  intro i hi iv vs wx hj
  simp only [List.mem_cons, List.not_mem_nil, or_false] at hi
  rcases hi with rfl | rfl | rfl | rfl | rfl | rfl | rfl | rfl | rfl | rfl | rfl
  ·
   exact hj
  ·
   exact hj
  ·
   exact hj
  ·
   obtain ⟨sa, ca, q1, -⟩ := hj
   exact ⟨sa, ca, q1⟩
  ·
   exact hj
  ·
   exact hj
  ·
   exact hj
  ·
   exact hj
  ·
   exact hj
  ·
   exact hj
  ·
   exact hj
 case hEE =>
  intro i hi iv iv' vs vs' ha hv hj
  simp only [List.mem_cons, List.not_mem_nil, or_false] at hi
  rcases hi with rfl | rfl | rfl | rfl | rfl | rfl | rfl | rfl | rfl | rfl | rfl
  ·
   exact (hv.out 0 (mem_of (by kernel_rfl))).symm.trans hj
  ·
   exact (hv.out 1 (mem_of (by kernel_rfl))).symm.trans hj
  ·
   exact (hv.out 2 (mem_of (by kernel_rfl))).symm.trans hj
  ·
   have e3 := hv.out 3 (mem_of (by kernel_rfl))
   have hj' : ∃ sa ca, vs 3 = .agg #[.int .i64 7, .int .i64 0, .slice sa 2 ca] := hj
   show ∃ sa ca, vs' 3 = .agg #[.int .i64 7, .int .i64 0, .slice sa 2 ca]
   rw [← e3]
   exact hj'
  ·
   exact (hv.out 4 (mem_of (by kernel_rfl))).symm.trans hj
  ·
   exact (hv.out 5 (mem_of (by kernel_rfl))).symm.trans hj
  ·
   exact (hv.out 6 (mem_of (by kernel_rfl))).symm.trans hj
  ·
   exact (hv.out 7 (mem_of (by kernel_rfl))).symm.trans hj
  ·
   exact (hv.out 8 (mem_of (by kernel_rfl))).symm.trans hj
  ·
   exact (hv.out 9 (mem_of (by kernel_rfl))).symm.trans hj
  ·
   exact (hv.out 10 (mem_of (by kernel_rfl))).symm.trans hj
 case hstep =>
  intro i hi opr ho iv vs w1 hB hS hSo hd he hbd hsep hun K hK
  simp only [List.mem_cons, List.not_mem_nil, or_false] at hi
  have hzB := hB.size
  obtain ⟨⟨⟨⟨⟨⟨⟨⟨⟨⟨⟨⟨re, -⟩, -⟩, g5⟩, g6⟩, rf⟩, g7⟩, -⟩, -⟩, -⟩, -⟩, r13⟩, g13⟩ := HG.out.ok w1 hB
  obtain ⟨g50, g51, l5⟩ := g5.all2
  obtain ⟨g60, g61, g62, -, -, -, l6⟩ := g6.all3
  obtain ⟨g70, g71, g72, -, -, -, l7⟩ := g7.all3
  obtain ⟨g130, g131, l13⟩ := g13.all2
  clear g5 g6 g7 g13
  generalize hA : putFrom _ 0 vs _ = A at hK ⊢
  simp only [putFrom, puts] at hA
  rcases hi with rfl | rfl | rfl | rfl | rfl | rfl | rfl | rfl | rfl | rfl | rfl
  all_goals
   simp at ho
   subst ho
   subst hA
  ·
   go_wp2_with fail
   refine Onward.mk (hK ?val2_0 _ _ (fun h => by cases h) ?eqA (Spares.refl _) (fun iv' _ _ => ?ja))
   case eqA => first | rfl | (simp only [puts]; rfl)
   case ja => exact hx0.out.symm
  ·
   go_wp2_with fail
   refine Onward.mk (hK ?val2_1 _ _ (fun h => by cases h) ?eqA (Spares.refl _) (fun iv' _ _ => ?ja))
   case eqA => first | rfl | (simp only [puts]; rfl)
   case ja => exact hx1.out.symm
  ·
   go_wp2_with fail
   refine Onward.mk (hK ?val2_2 _ _ (fun h => by cases h) ?eqA (Spares.refl _) (fun iv' _ _ => ?ja))
   case eqA => first | rfl | (simp only [puts]; rfl)
   case ja => exact hx2.out.symm
  ·
   have h1 := (hd.out 1 (mem_of (by kernel_rfl)) (by decide) (by kernel_rfl)).trans hx1.out
   have h2 := (hd.out 2 (mem_of (by kernel_rfl)) (by decide) (by kernel_rfl)).trans hx2.out
   go_wp2_with fail
   refine (a2Pair_i (k := 7) (x := e) (y := f) re rf (by omega) (by omega)).mono ?_
   rintro e w2 ⟨sa, ca, rfl, hf, hb⟩
   go_wp2_with fail
   exact Onward.mk (hK (.agg #[.int .i64 7, .int .i64 0, .slice sa 2 ca]) _ _ (fun h => by cases h) (by first | rfl | (simp only [puts, h1, h2])) (Spares.of_below hb) (fun iv' _ hi => ⟨sa, ca, rfl, by rw [hi]; exact Freshs.stretch (hf)⟩))
  ·
   go_wp2_with fail
   refine Onward.mk (hK ?val2_4 _ _ (fun h => by cases h) ?eqA (Spares.refl _) (fun iv' _ _ => ?ja))
   case eqA => first | rfl | (simp only [puts]; rfl)
   case ja => exact hx4.out.symm
  ·
   have h0 := (hd.out 0 (mem_of (by kernel_rfl)) (by decide) (by kernel_rfl)).trans hx0.out
   obtain ⟨sa, ca, h3, f3⟩ := hd.out 3 (mem_of (by kernel_rfl)) (by decide) (by kernel_rfl)
   have h4 := (hd.out 4 (mem_of (by kernel_rfl)) (by decide) (by kernel_rfl)).trans hx4.out
   go_wp2_with fail
   refine (matches_is (e := .mk 7 0 [e, f]) HC1.out f3.rd r13.1 r13.2 (okB_pair (Or.inr rfl) Hok.out Hokf.out hez hfz) HW13.out).mono ?_
   rintro e w2 ⟨rfl, hb⟩
   go_wp2_with fail
   exact Onward.mk (hK (.tuple #[.bool vc, .int .i64 0]) _ _ (fun h => by cases h) (by first | rfl | (simp only [puts, h0, h3, h4])) (Spares.of_below hb) (fun iv' _ _ => rfl))
  ·
   have h5 : vs 5 = .tuple #[.bool vc, .int .i64 0] := hd.out 5 (mem_of (by kernel_rfl)) (by decide) (by kernel_rfl)
   go_wp2_with fail
   exact Onward.mk (hK (.tuple #[.bool vc, .int .i64 0]) _ _ (fun h => by cases h) (by first | rfl | (simp only [puts, h5])) (Spares.refl _) (fun iv' _ _ => rfl))
  ·
   have h6 : vs 6 = .tuple #[.bool vc, .int .i64 0] := hd.out 6 (mem_of (by kernel_rfl)) (by decide) (by kernel_rfl)
   go_wp2_with fail
   exact Onward.mk (hK (.bool vc) _ _ (fun h => by cases h) (by first | rfl | (simp only [puts, h6])) (Spares.refl _) (fun iv' _ _ => rfl))
  ·
   have h6 : vs 6 = .tuple #[.bool vc, .int .i64 0] := hd.out 6 (mem_of (by kernel_rfl)) (by decide) (by kernel_rfl)
   go_wp2_with fail
   exact Onward.mk (hK (.int .i64 0) _ _ (fun h => by cases h) (by first | rfl | (simp only [puts, h6])) (Spares.refl _) (fun iv' _ _ => rfl))
  ·
   have h7 : vs 7 = .bool vc := hd.out 7 (mem_of (by kernel_rfl)) (by decide) (by kernel_rfl)
   go_wp2_with fail
   exact Onward.mk (hK (.bool vc) _ _ (fun h => by cases h) (by first | rfl | (simp only [puts, h7])) (Spares.refl _) (fun iv' _ _ => rfl))
  ·
   have h8 : vs 8 = .int .i64 0 := hd.out 8 (mem_of (by kernel_rfl)) (by decide) (by kernel_rfl)
   go_wp2_with fail
   exact Onward.mk (hK (.int .i64 0) _ _ (fun h => by cases h) (by first | rfl | (simp only [puts, h8])) (Spares.refl _) (fun iv' _ _ => rfl))
 case hQ =>
  intro iv vs wx hB hSp hd he hbd hsep
  have hzB := hB.size
  have h0 := (hd.out 0 (mem_of (by kernel_rfl)) (not_eaten (by kernel_rfl))).trans hx0.out
  have h1 := (hd.out 1 (mem_of (by kernel_rfl)) (not_eaten (by kernel_rfl))).trans hx1.out
  have h2 := (hd.out 2 (mem_of (by kernel_rfl)) (not_eaten (by kernel_rfl))).trans hx2.out
  obtain ⟨sa, ca, h3, f3⟩ := hd.out 3 (mem_of (by kernel_rfl)) (not_eaten (by kernel_rfl))
  have h4 := (hd.out 4 (mem_of (by kernel_rfl)) (not_eaten (by kernel_rfl))).trans hx4.out
  have h5 : vs 5 = .tuple #[.bool vc, .int .i64 0] := hd.out 5 (mem_of (by kernel_rfl)) (not_eaten (by kernel_rfl))
  have h6 : vs 6 = .tuple #[.bool vc, .int .i64 0] := hd.out 6 (mem_of (by kernel_rfl)) (not_eaten (by kernel_rfl))
  have h7 : vs 7 = .bool vc := hd.out 7 (mem_of (by kernel_rfl)) (not_eaten (by kernel_rfl))
  have h8 : vs 8 = .int .i64 0 := hd.out 8 (mem_of (by kernel_rfl)) (not_eaten (by kernel_rfl))
  have h9 : vs 9 = .bool vc := hd.out 9 (mem_of (by kernel_rfl)) (not_eaten (by kernel_rfl))
  have h10 : vs 10 = .int .i64 0 := hd.out 10 (mem_of (by kernel_rfl)) (not_eaten (by kernel_rfl))
  simp only [putFrom, puts]
  simp only [h9, h10]
  clear h0 h1 h2 h3 h4 h5 h6 h7 h8 h9 h10 f3
  have HGn := Lib.hid (HG.out.on hB)
  have HBn := Lib.hid (HB2.out.trans (hB.mono HB2.out.size))
  clear HG HB2
  have HG := HGn
  have HB2 := HBn
  clear HGn HBn
  obtain ⟨v12, rfl⟩ : ∃ u, u = wx := ⟨_, rfl⟩
  clear hd he hbd hsep hB hSp hzB
  go_wp2_with fail
  obtain ⟨x0, hx0⟩ := mkval ?a1_0
  obtain ⟨x1, hx1⟩ := mkval ?a1_1
  obtain ⟨x2, hx2⟩ := mkval ?a1_2
  obtain ⟨x5, hx5⟩ := mkval ?a1_5
  refine region_rs [] [] (fun _ _ => False) (v12.heap.size) (fun i iv vs wx => match i with
   | 0 => vs 0 = x0
   | 1 => vs 1 = x1
   | 2 => vs 2 = x2
   | 3 => ∃ sa ca, vs 3 = .agg #[.int .i64 6, .int .i64 0, .slice sa 2 ca] ∧ FreshIn (iv 3) wx [kidsD [e, f]] [.slice sa 2 ca]
   | 4 => ∃ sd cd, vs 4 = .agg #[.int .i64 8, .int .i64 0, .slice sd 1 cd] ∧ FreshIn (iv 4) wx [kidsD [.mk 6 0 [e, f]]] [.slice sd 1 cd]
   | 5 => vs 5 = x5
   | 6 => vs 6 = .tuple #[.bool vd, .int .i64 0]
   | 7 => vs 7 = .tuple #[.bool vd, .int .i64 0]
   | 8 => vs 8 = .bool vd
   | 9 => vs 9 = .int .i64 0
   | 10 => vs 10 = .bool vd
   | 11 => vs 11 = .int .i64 0
   | _ => True) (fun i iv vs => match i with
   | 0 => vs 0 = x0
   | 1 => vs 1 = x1
   | 2 => vs 2 = x2
   | 3 => ∃ sa ca, vs 3 = .agg #[.int .i64 6, .int .i64 0, .slice sa 2 ca]
   | 4 => ∃ sd cd, vs 4 = .agg #[.int .i64 8, .int .i64 0, .slice sd 1 cd]
   | 5 => vs 5 = x5
   | 6 => vs 6 = .tuple #[.bool vd, .int .i64 0]
   | 7 => vs 7 = .tuple #[.bool vd, .int .i64 0]
   | 8 => vs 8 = .bool vd
   | 9 => vs 9 = .int .i64 0
   | 10 => vs 10 = .bool vd
   | 11 => vs 11 = .int .i64 0
   | _ => True) (by kernel_rfl) (by kernel_rfl) [0, 1, 2, 3, 4, 5, 6, 7, 8, 9, 10, 11] (by kernel_rfl) ?hbase ?hGb ?hG ?hJ ?hE ?hEE ?hstep ?hQ
  case hbase => first | exact Nat.le_refl _ | omega | (simp; omega)
  case hGb =>
   exact fun _ _ h => h.elim
  case hG =>
   exact fun _ _ _ h => h.elim
  case hJ =>
   intro i hi iv iv' vs vs' wx wx' ha hv hz hk hj
   simp only [List.mem_cons, List.not_mem_nil, or_false] at hi
   rcases hi with rfl | rfl | rfl | rfl | rfl | rfl | rfl | rfl | rfl | rfl | rfl | rfl
   ·
    exact (hv.out 0 (mem_of (by kernel_rfl))).symm.trans hj
   ·
    exact (hv.out 1 (mem_of (by kernel_rfl))).symm.trans hj
   ·
    exact (hv.out 2 (mem_of (by kernel_rfl))).symm.trans hj
   ·
    have e3 := hv.out 3 (mem_of (by kernel_rfl))
    have g3 := ha.out 3 (mem_of (by kernel_rfl))
    obtain ⟨sa, ca, q1, q2⟩ := hj
    exact ⟨sa, ca, e3 ▸ q1, g3 ▸ q2.keep (fun b hb h1 h2 => hk.out b hb (foot_own h1 h2))⟩
   ·
    have e4 := hv.out 4 (mem_of (by kernel_rfl))
    have g4 := ha.out 4 (mem_of (by kernel_rfl))
    obtain ⟨sd, cd, q1, q2⟩ := hj
    exact ⟨sd, cd, e4 ▸ q1, g4 ▸ q2.keep (fun b hb h1 h2 => hk.out b hb (foot_own h1 h2))⟩
   ·
    exact (hv.out 5 (mem_of (by kernel_rfl))).symm.trans hj
   ·
    exact (hv.out 6 (mem_of (by kernel_rfl))).symm.trans hj
   ·
    exact (hv.out 7 (mem_of (by kernel_rfl))).symm.trans hj
   ·
    exact (hv.out 8 (mem_of (by kernel_rfl))).symm.trans hj
   ·
    exact (hv.out 9 (mem_of (by kernel_rfl))).symm.trans hj
   ·
    exact (hv.out 10 (mem_of (by kernel_rfl))).symm.trans hj
   ·
    exact (hv.out 11 (mem_of (by kernel_rfl))).symm.trans hj
  case hE =>
   intro i hi iv vs wx hj
   simp only [List.mem_cons, List.not_mem_nil, or_false] at hi
   rcases hi with rfl | rfl | rfl | rfl | rfl | rfl | rfl | rfl | rfl | rfl | rfl | rfl
   ·
    exact hj
   ·
    exact hj
   ·
    exact hj
   ·
    obtain ⟨sa, ca, q1, -⟩ := hj
    exact ⟨sa, ca, q1⟩
   ·
    obtain ⟨sd, cd, q1, -⟩ := hj
    exact ⟨sd, cd, q1⟩
   ·
    exact hj
   ·
    exact hj
   ·
    exact hj
   ·
    exact hj
   ·
    exact hj
   ·
    exact hj
   ·
    exact hj
  case hEE =>
   intro i hi iv iv' vs vs' ha hv hj
   simp only [List.mem_cons, List.not_mem_nil, or_false] at hi
   rcases hi with rfl | rfl | rfl | rfl | rfl | rfl | rfl | rfl | rfl | rfl | rfl | rfl
   ·
    exact (hv.out 0 (mem_of (by kernel_rfl))).symm.trans hj
   ·
    exact (hv.out 1 (mem_of (by kernel_rfl))).symm.trans hj
   ·
    exact (hv.out 2 (mem_of (by kernel_rfl))).symm.trans hj
   ·
    have e3 := hv.out 3 (mem_of (by kernel_rfl))
    have hj' : ∃ sa ca, vs 3 = .agg #[.int .i64 6, .int .i64 0, .slice sa 2 ca] := hj
    show ∃ sa ca, vs' 3 = .agg #[.int .i64 6, .int .i64 0, .slice sa 2 ca]
    rw [← e3]
    exact hj'
   ·
    have e4 := hv.out 4 (mem_of (by kernel_rfl))
    have hj' : ∃ sd cd, vs 4 = .agg #[.int .i64 8, .int .i64 0, .slice sd 1 cd] := hj
    show ∃ sd cd, vs' 4 = .agg #[.int .i64 8, .int .i64 0, .slice sd 1 cd]
    rw [← e4]
    exact hj'
   ·
    exact (hv.out 5 (mem_of (by kernel_rfl))).symm.trans hj
   ·
    exact (hv.out 6 (mem_of (by kernel_rfl))).symm.trans hj
   ·
    exact (hv.out 7 (mem_of (by kernel_rfl))).symm.trans hj
   ·
    exact (hv.out 8 (mem_of (by kernel_rfl))).symm.trans hj
   ·
    exact (hv.out 9 (mem_of (by kernel_rfl))).symm.trans hj
   ·
    exact (hv.out 10 (mem_of (by kernel_rfl))).symm.trans hj
   ·
    exact (hv.out 11 (mem_of (by kernel_rfl))).symm.trans hj
  case hstep =>
   intro i hi opr ho iv vs w1 hB hS hSo hd he hbd hsep hun K hK
   simp only [List.mem_cons, List.not_mem_nil, or_false] at hi
   have hzB := hB.size
   obtain ⟨⟨⟨⟨⟨⟨⟨⟨⟨⟨⟨⟨re, -⟩, -⟩, g5⟩, g6⟩, rf⟩, g7⟩, -⟩, -⟩, -⟩, -⟩, r13⟩, g13⟩ := HG.out.ok w1 hB
   obtain ⟨g50, g51, l5⟩ := g5.all2
   obtain ⟨g60, g61, g62, -, -, -, l6⟩ := g6.all3
   obtain ⟨g70, g71, g72, -, -, -, l7⟩ := g7.all3
   obtain ⟨g130, g131, l13⟩ := g13.all2
   clear g5 g6 g7 g13
   generalize hA : putFrom _ 0 vs _ = A at hK ⊢
   simp only [putFrom, puts] at hA
   rcases hi with rfl | rfl | rfl | rfl | rfl | rfl | rfl | rfl | rfl | rfl | rfl | rfl
   all_goals
    simp at ho
    subst ho
    subst hA
   ·
    go_wp2_with fail
    refine Onward.mk (hK ?val1_0 _ _ (fun h => by cases h) ?eqA (Spares.refl _) (fun iv' _ _ => ?ja))
    case eqA => first | rfl | (simp only [puts]; rfl)
    case ja => exact hx0.out.symm
   ·
    go_wp2_with fail
    refine Onward.mk (hK ?val1_1 _ _ (fun h => by cases h) ?eqA (Spares.refl _) (fun iv' _ _ => ?ja))
    case eqA => first | rfl | (simp only [puts]; rfl)
    case ja => exact hx1.out.symm
   ·
    go_wp2_with fail
    refine Onward.mk (hK ?val1_2 _ _ (fun h => by cases h) ?eqA (Spares.refl _) (fun iv' _ _ => ?ja))
    case eqA => first | rfl | (simp only [puts]; rfl)
    case ja => exact hx2.out.symm
   ·
    have h1 := (hd.out 1 (mem_of (by kernel_rfl)) (by decide) (by kernel_rfl)).trans hx1.out
    have h2 := (hd.out 2 (mem_of (by kernel_rfl)) (by decide) (by kernel_rfl)).trans hx2.out
    go_wp2_with fail
    refine (a2Pair_i (k := 6) (x := e) (y := f) re rf (by omega) (by omega)).mono ?_
    rintro e w2 ⟨sa, ca, rfl, hf, hb⟩
    go_wp2_with fail
    exact Onward.mk (hK (.agg #[.int .i64 6, .int .i64 0, .slice sa 2 ca]) _ _ (fun h => by cases h) (by first | rfl | (simp only [puts, h1, h2])) (Spares.of_below hb) (fun iv' _ hi => ⟨sa, ca, rfl, by rw [hi]; exact Freshs.stretch (hf)⟩))
   ·
    obtain ⟨sa, ca, h3, f3⟩ := hd.out 3 (mem_of (by kernel_rfl)) (by decide) (by kernel_rfl)
    go_wp2_with fail
    refine (a2Star_i (x := .mk 6 0 [e, f]) f3.rd (by rw [size_pairE rfl]; omega)).mono ?_
    rintro e w2 ⟨sd, cd, rfl, hf, hb⟩
    go_wp2_with fail
    exact Onward.mk (hK (.agg #[.int .i64 8, .int .i64 0, .slice sd 1 cd]) _ _ (fun h => by cases h) (by first | rfl | (simp only [puts, h3])) (Spares.of_below hb) (fun iv' _ hi => ⟨sd, cd, rfl, by rw [hi]; exact Freshs.stretch (hf)⟩))
   ·
    go_wp2_with fail
    refine Onward.mk (hK ?val1_5 _ _ (fun h => by cases h) ?eqA (Spares.refl _) (fun iv' _ _ => ?ja))
    case eqA => first | rfl | (simp only [puts]; rfl)
    case ja => exact hx5.out.symm
   ·
    have h0 := (hd.out 0 (mem_of (by kernel_rfl)) (by decide) (by kernel_rfl)).trans hx0.out
    obtain ⟨sd, cd, h4, f4⟩ := hd.out 4 (mem_of (by kernel_rfl)) (by decide) (by kernel_rfl)
    have h5 := (hd.out 5 (mem_of (by kernel_rfl)) (by decide) (by kernel_rfl)).trans hx5.out
    go_wp2_with fail
    refine (matches_is (e := .mk 8 0 [.mk 6 0 [e, f]]) HD1.out f4.rd r13.1 r13.2 (okB_star (Or.inl rfl) Hok.out Hokf.out hez hfz) HW13.out).mono ?_
    rintro e w2 ⟨rfl, hb⟩
    go_wp2_with fail
    exact Onward.mk (hK (.tuple #[.bool vd, .int .i64 0]) _ _ (fun h => by cases h) (by first | rfl | (simp only [puts, h0, h4, h5])) (Spares.of_below hb) (fun iv' _ _ => rfl))
   ·
    have h6 : vs 6 = .tuple #[.bool vd, .int .i64 0] := hd.out 6 (mem_of (by kernel_rfl)) (by decide) (by kernel_rfl)
    go_wp2_with fail
    exact Onward.mk (hK (.tuple #[.bool vd, .int .i64 0]) _ _ (fun h => by cases h) (by first | rfl | (simp only [puts, h6])) (Spares.refl _) (fun iv' _ _ => rfl))
   ·
    have h7 : vs 7 = .tuple #[.bool vd, .int .i64 0] := hd.out 7 (mem_of (by kernel_rfl)) (by decide) (by kernel_rfl)
    go_wp2_with fail
    exact Onward.mk (hK (.bool vd) _ _ (fun h => by cases h) (by first | rfl | (simp only [puts, h7])) (Spares.refl _) (fun iv' _ _ => rfl))
   ·
    have h7 : vs 7 = .tuple #[.bool vd, .int .i64 0] := hd.out 7 (mem_of (by kernel_rfl)) (by decide) (by kernel_rfl)
    go_wp2_with fail
    exact Onward.mk (hK (.int .i64 0) _ _ (fun h => by cases h) (by first | rfl | (simp only [puts, h7])) (Spares.refl _) (fun iv' _ _ => rfl))
   ·
    have h8 : vs 8 = .bool vd := hd.out 8 (mem_of (by kernel_rfl)) (by decide) (by kernel_rfl)
    go_wp2_with fail
    exact Onward.mk (hK (.bool vd) _ _ (fun h => by cases h) (by first | rfl | (simp only [puts, h8])) (Spares.refl _) (fun iv' _ _ => rfl))
   ·
    have h9 : vs 9 = .int .i64 0 := hd.out 9 (mem_of (by kernel_rfl)) (by decide) (by kernel_rfl)
    go_wp2_with fail
    exact Onward.mk (hK (.int .i64 0) _ _ (fun h => by cases h) (by first | rfl | (simp only [puts, h9])) (Spares.refl _) (fun iv' _ _ => rfl))
  case hQ =>
   intro iv vs wx hB hSp hd he hbd hsep
   have hzB := hB.size
   have h0 := (hd.out 0 (mem_of (by kernel_rfl)) (not_eaten (by kernel_rfl))).trans hx0.out
   have h1 := (hd.out 1 (mem_of (by kernel_rfl)) (not_eaten (by kernel_rfl))).trans hx1.out
   have h2 := (hd.out 2 (mem_of (by kernel_rfl)) (not_eaten (by kernel_rfl))).trans hx2.out
   obtain ⟨sa, ca, h3, f3⟩ := hd.out 3 (mem_of (by kernel_rfl)) (not_eaten (by kernel_rfl))
   obtain ⟨sd, cd, h4, f4⟩ := hd.out 4 (mem_of (by kernel_rfl)) (not_eaten (by kernel_rfl))
   have h5 := (hd.out 5 (mem_of (by kernel_rfl)) (not_eaten (by kernel_rfl))).trans hx5.out
   have h6 : vs 6 = .tuple #[.bool vd, .int .i64 0] := hd.out 6 (mem_of (by kernel_rfl)) (not_eaten (by kernel_rfl))
   have h7 : vs 7 = .tuple #[.bool vd, .int .i64 0] := hd.out 7 (mem_of (by kernel_rfl)) (not_eaten (by kernel_rfl))
   have h8 : vs 8 = .bool vd := hd.out 8 (mem_of (by kernel_rfl)) (not_eaten (by kernel_rfl))
   have h9 : vs 9 = .int .i64 0 := hd.out 9 (mem_of (by kernel_rfl)) (not_eaten (by kernel_rfl))
   have h10 : vs 10 = .bool vd := hd.out 10 (mem_of (by kernel_rfl)) (not_eaten (by kernel_rfl))
   have h11 : vs 11 = .int .i64 0 := hd.out 11 (mem_of (by kernel_rfl)) (not_eaten (by kernel_rfl))
   simp only [putFrom, puts]
   simp only [h10, h11]
   clear h0 h1 h2 h3 h4 h5 h6 h7 h8 h9 h10 h11 f3 f4
   have HGn := Lib.hid (HG.out.on hB)
   have HBn := Lib.hid (HB2.out.trans (hB.mono HB2.out.size))
   clear HG HB2
   have HG := HGn
   have HB2 := HBn
   clear HGn HBn
   obtain ⟨v13, rfl⟩ : ∃ u, u = wx := ⟨_, rfl⟩
   clear hd he hbd hsep hB hSp hzB
   obtain ⟨⟨⟨⟨⟨⟨⟨⟨⟨⟨⟨⟨-, -⟩, -⟩, -⟩, -⟩, -⟩, -⟩, -⟩, g9⟩, -⟩, g11⟩, -⟩, g13⟩ := HG.out.now
   obtain ⟨g90, g91, l9⟩ := g9.all2
   obtain ⟨g110, g111, l11⟩ := g11.all2
   obtain ⟨g130, g131, l13⟩ := g13.all2
   clear g9 g11 g13
   have hJ : (js.length : Int) = (qs.length : Int) + (vws.length : Int) := by have := HJ.out; omega
   cases va
   ·
    skip
    go_wp2_with fail
    go_ret
    exact ⟨rfl, HB2.out⟩
   cases vb
   ·
    skip
    go_wp2_with fail
    go_ret
    exact ⟨rfl, HB2.out⟩
   obtain ⟨rfl, rfl⟩ := HFIN.out rfl rfl
   go_wp2_with fail
   go_ret
   exact ⟨rfl, HB2.out⟩
set_option maxRecDepth 100000 in
theorem law_Fuse_of {H : Type} {enc : TypeId × Value → H} (W : World) (args : Array Value) (ds : List (DataW H)) (ps : List MemPlace) (hA : DataW.TrodAll enc Try.prog W 0 (fun _ => true) true Try.f7.params.toList args.toList ds ps)
  (hval : ∀ (j : Nat) t v, Try.f7.params[j]? = some t → args[j]? = some v → ∃ base, Value.okWide Try.prog W .any base t v) :
  Calls Try.prog 7 args W fun e W' => e = .returned (.bool true) ∧ Below W.heap.size W W' := by
 rw [Try.params7] at hA hval
 obtain ⟨v0, vs0, d0', ds0, p0, q0, hargs, rfl, rfl, h0, ra0⟩ := trodAll_cons hA
 obtain ⟨v1, vs1, d1', ds1, p1, q1, rfl, rfl, rfl, h1, ra1⟩ := trodAll_cons ra0
 obtain ⟨rfl, rfl, rfl⟩ := trodAll_nil ra1
 obtain rfl : args = #[v0, v1] := Array.toList_inj.1 hargs
 obtain ⟨b0, hv0⟩ := hval 0 62 v0 rfl rfl
 obtain ⟨b1, hv1⟩ := hval 1 62 v1 rfl rfl
 obtain ⟨xs, s, c, rfl, hr, hx⟩ := open_byteS hv0 h0
 obtain ⟨ys, s', c', rfl, hr', hx'⟩ := open_byteS hv1 h1
 exact law_Fuse hr hx hr' hx'
end Go.Proofs.Ytbflhjjnemdecaa
