/-
  Parts of a proof, joined: WdF, Bytes, Lw, WdW. No condition.
-/
import Derived.Test.YtfhlddbngjlhbaaPk16
namespace Go.Proofs.Ytfhlddbngjlhbaa
set_option linter.unusedVariables false
set_option linter.unusedSimpArgs false
open Go.ChangeShapes Go.WideShapes Go.ChangeAt Go.RowKit Go.Deep Go.Sort
def FitI (nb wb : Nat) (xs ys : List Int) (va vb : Value) (d : Ex) (sd : Option Addr) (cd : Nat) : List Item :=
 [.own [kidsD d.kids] [.slice sd d.kids.length cd], .box nb 48 [.int .i64 d.kind, .int .i64 d.num, .slice sd d.kids.length cd], .app 2 1 xs.length (xs.map D.int) va, .box wb 44 [va, vb], .app 2 1 ys.length (ys.map D.int) vb]
structure FitS (B sb nb wb M : Nat) (t a : Int) (w0 w : World) (xs ys : List Int) (va vb : Value) (d : Ex) (sd : Option Addr) (cd : Nat) : Prop where
 bun : Bun w0.heap.size w (FitI nb wb xs ys va vb d sd cd)
 tr : d.tree (t - 1) (a - 1) = true
 sz : d.size ≤ 800
 dr : Drew B sb M w0 w
theorem FitS.more {B sb nb wb M M' : Nat} {t a : Int} {w0 w : World} {xs ys : List Int} {va vb : Value} {d : Ex} {sd : Option Addr} {cd : Nat} (h : FitS B sb nb wb M t a w0 w xs ys va vb d sd cd) (hM : M ≤ M') : FitS B sb nb wb M' t a w0 w xs ys va vb d sd cd := ⟨h.bun, h.tr, h.sz, h.dr.more hM⟩
theorem FitS.draw {B sb nb wb M M' : Nat} {t a : Int} {w0 w w' : World} {xs ys : List Int} {va vb : Value} {d : Ex} {sd : Option Addr} {cd : Nat} (h : FitS B sb nb wb M t a w0 w xs ys va vb d sd cd) (hs : sb < w0.heap.size) (k : Drew B sb M' w w') : FitS B sb nb wb M' t a w0 w' xs ys va vb d sd cd :=
 ⟨Bun.keep h.bun k.size (fun b hB hl => k.2.block b hl (by omega)), h.tr, h.sz, h.dr.trans k⟩
theorem FitS.below {B sb nb wb M : Nat} {t a : Int} {w0 w w' : World} {xs ys : List Int} {va vb : Value} {d : Ex} {sd : Option Addr} {cd : Nat} (h : FitS B sb nb wb M t a w0 w xs ys va vb d sd cd) (hb : Below w.heap.size w w') : FitS B sb nb wb M t a w0 w' xs ys va vb d sd cd :=
 ⟨h.bun.below hb, h.tr, h.sz, h.dr.on hb⟩
theorem FitS.ex {B sb nb wb M : Nat} {t a : Int} {w0 w : World} {xs ys : List Int} {va vb : Value} {d : Ex} {sd : Option Addr} {cd : Nat} (h : FitS B sb nb wb M t a w0 w xs ys va vb d sd cd) : ExAt w nb 0 d := by
 have hb := (h.bun.box 1 rfl).1
 obtain ⟨own, hu⟩ := h.bun
 have h0 : OwS _ w [kidsD d.kids] [.slice sd d.kids.length cd] := hu 0 _ rfl
 have hr := h0.rds
 simp only [Rds] at hr
 obtain ⟨x, q, e, hx, -⟩ := hr
 simp only [List.cons.injEq] at e
 obtain ⟨rfl, -⟩ := e
 exact ⟨hb.c0, hb.c1, sd, cd, hb.c2, hx⟩
theorem FitS.w {B sb nb wb M : Nat} {t a : Int} {w0 w : World} {xs ys : List Int} {va vb : Value} {d : Ex} {sd : Option Addr} {cd : Nat} (h : FitS B sb nb wb M t a w0 w xs ys va vb d sd cd) : Blk w wb 44 [va, vb] ∧ w0.heap.size ≤ wb := h.bun.box 3 rfl
theorem FitS.wd {B sb nb wb M : Nat} {t a : Int} {w0 w : World} {xs ys : List Int} {va vb : Value} {d : Ex} {sd : Option Addr} {cd : Nat} (h : FitS B sb nb wb M t a w0 w xs ys va vb d sd cd) : WdB w0.heap.size w wb xs ys va vb := by
 obtain ⟨own, hu⟩ := h.bun
 refine ⟨fun b => if own b < 2 then 3 else own b - 2, fun i it hi => ?_⟩
 have hi' : (FitI nb wb xs ys va vb d sd cd)[i + 2]? = some it := hi
 exact Item.more (hu _ _ hi') fun b _ hb => ⟨hb.1, hb.2.1, by dsimp only; rw [if_neg (by omega)]; omega⟩
theorem Bun.swap05 {B : Nat} {w : World} {x0 x1 x2 x3 x4 x5 x6 : Item} (h : Bun B w [x0, x1, x2, x3, x4, x5, x6]) : Bun B w [x5, x1, x2, x3, x4] := by
 obtain ⟨own, hu⟩ := h
 refine ⟨fun b => if own b = 5 then 0 else if own b = 0 then 7 else own b, fun i it hi => ?_⟩
 match i, hi with
 | 0, hi => exact Item.more (hu 5 it hi) fun b _ hb => ⟨hb.1, hb.2.1, by dsimp only; rw [if_pos hb.2.2]⟩
 | 1, hi => exact Item.more (hu 1 it hi) fun b _ hb => ⟨hb.1, hb.2.1, by dsimp only; rw [if_neg (by omega), if_neg (by omega)]; exact hb.2.2⟩
 | 2, hi => exact Item.more (hu 2 it hi) fun b _ hb => ⟨hb.1, hb.2.1, by dsimp only; rw [if_neg (by omega), if_neg (by omega)]; exact hb.2.2⟩
 | 3, hi => exact Item.more (hu 3 it hi) fun b _ hb => ⟨hb.1, hb.2.1, by dsimp only; rw [if_neg (by omega), if_neg (by omega)]; exact hb.2.2⟩
 | 4, hi => exact Item.more (hu 4 it hi) fun b _ hb => ⟨hb.1, hb.2.1, by dsimp only; rw [if_neg (by omega), if_neg (by omega)]; exact hb.2.2⟩
 | n + 5, hi => simp at hi
set_option maxRecDepth 100000 in
set_option maxHeartbeats 16000000 in
theorem fitting_i {B b N : Nat} {t a : Int} {e : Ex} {eb : Nat} {wE w : World} (h : SrcW B b N w) (hN : N ≤ 100000) (hB : B ≤ w.heap.size) (hok : okB t a e = true) (hx : ExAt wE eb 0 e) (hE : Below B wE w) (hEz : wE.heap.size = B) :
    Calls Try.prog 41 #[.pointer (some ⟨b, 0, none⟩), .agg #[.int .i64 t, .int .i64 a], .pointer (some ⟨eb, 0, none⟩)] w fun f w' => ∃ (xs ys : List Int) (s : Option Addr) (c : Nat) (u : Option Addr) (d : Nat), f = .returned (.agg #[.slice s xs.length c, .slice u ys.length d]) ∧ Freshs w w' (wordD xs ys) [.slice s xs.length c, .slice u ys.length d] ∧ Drew B b (N + 200) w w' := by
  have hbw := h.lt
  have hBs := hB
  have hsig := okB_sig hok
  obtain ⟨ht0, ht3, ha0, ha4⟩ := sigB_bd hsig
  obtain ⟨-, -, hsz⟩ := okB_bd hok
  have htr := okB_tree hok
  obtain ⟨hat1, hat8⟩ := atomsN_bd t
  obtain ⟨A, hA⟩ : ∃ A, atomsN t = A := ⟨_, rfl⟩
  have hcall := fun W => l01Atoms_i (a := a) (w := W) ht0 ht3
  rw [hA] at hcall hat1 hat8
  have Hcall := Lib.hid hcall
  obtain ⟨m, hm⟩ : ∃ m, max 1 a = m := ⟨_, rfl⟩
  have Hma : Hid (∀ W, Calls Try.prog 71 #[.int .i64 1, .int .i64 a] W fun e w' => e = .returned (.int .i64 m) ∧ Below W.heap.size W w') := fun W => by
    have h := max_B (a := 1) (b := a) (w := W)
    rw [hm] at h
    exact h
  have hm4 : m ≤ 4 := by omega
  clear hm
  have Hs := Lib.hid hsig
  have Hok := Lib.hid hok
  have Htr := Lib.hid htr
  have Hx := Lib.hid (fun W (hb : Below B w W) => hx.below (hEz ▸ (hE.trans hb)))
  clear hcall hsig hA hok htr hx hE hEz
  go_enter Try.func41, Try.ntmps41
  go_wp2_with fail
  obtain ⟨w1, e1, G, hb1, hz1⟩ := box2 w 29 (.int .i64 t) (.int .i64 a)
  rw [e1]
  obtain ⟨w0, e0, R, hb2, hz2⟩ := box2 w1 44 (.slice none 0 0) (.slice none 0 0)
  rw [e0]
  rw [hz1] at R
  replace G := G.below hb2
  have D := (h.drew.on hb1).on hb2
  have hz0 : w0.heap.size = w.heap.size + 2 := by omega
  clear e1 e0 hb1 hb2 hz1 hz2 h
  obtain ⟨sb, rfl⟩ : ∃ v, v = b := ⟨_, rfl⟩
  have HD0 := Lib.hid D
  have hB0 : B ≤ w0.heap.size := by omega
  have hsb : sb < w0.heap.size := by omega
  have HR := Lib.hid R
  have HG := Lib.hid G
  obtain ⟨g0, g1, ltg⟩ := G.all2
  clear D R G
  go_wp2_with fail
  refine (l01Ok_i (t := t) (a := a) (Hx.out w0 (HD0.out.below hBs)) (by omega)).mono ?_
  rintro f w2 ⟨rfl, hb2⟩
  rw [Hok.out]
  have D2 := Lib.hid (HD0.out.on hb2)
  replace ltg := Nat.lt_of_lt_of_le ltg hb2.size
  have g0' := (hb2.cell (p := ⟨w.heap.size, 0, none⟩) HG.out.lt).trans g0
  have g1' := (hb2.cell (p := ⟨w.heap.size, 1, none⟩) HG.out.lt).trans g1
  have hz2 := hb2.size
  clear g0 g1
  go_wp2_with fail
  refine (one_i D2.out.1 (by omega) (by omega)).mono ?_
  rintro f w3 ⟨v, rfl, D3⟩
  have HD3 := Lib.hid ((HD0.out.1.drew.on hb2).trans D3)
  have G3 := HD3.out.blk HG.out (show w.heap.size ≠ sb by omega)
  obtain ⟨g0, g1, ltg⟩ := G3.all2
  have hz3 := HD3.out.size
  clear hb2 D2 D3 g0' g1' G3
  cases v with
  | true =>
    go_wp2_with fail
    refine (drawWord_i HD3.out.1 (by omega) (by omega) Hs.out).mono ?_
    rintro f w4 ⟨xs, ys, s, c, u, d, rfl, hf, D4⟩
    have DR := HD3.out.trans D4
    have hwz := D4.size
    have hwd := hf.from (show w.heap.size ≤ w3.heap.size by omega)
    clear g0 g1 ltg
    have RW := DR.blk HR.out (show w.heap.size + 1 ≠ sb by omega)
    obtain ⟨r0, r1, rl⟩ := RW.all2
    have rf0 := RW.frozen 0
    have rf1 := RW.frozen 1
    go_wp2_with fail
    obtain ⟨w9, e9, R9, hs9⟩ := Blk.set2 RW (.slice s xs.length c) (.slice u ys.length d)
    rw [e9]
    obtain ⟨rr0, rr1, -⟩ := R9.all2
    refine bodyPost_ret (v := .agg #[.slice s xs.length c, .slice u ys.length d]) (by simp [results, Try.results41, go_sem, rr0, rr1]) rfl ?_
    exact ⟨_, _, _, _, _, _, rfl, (hf.keep fun b h1 h2 => hs9.block b h2 (by omega)).from (by omega), ((HD0.out.trans DR).set hs9 (by omega) hBs hbw).more (by omega)⟩
  | false =>
    go_wp2_with fail
    refine (l01Own_e (Hx.out w3 ((HD0.out.trans HD3.out).below hBs)) (by omega)).mono ?_
    rintro f w4 ⟨s4, c4, rfl, hf4, hb4⟩
    have HB3 : Bun w0.heap.size w4 ([] ++ [.own [kidsD e.kids] [.slice s4 e.kids.length c4]]) := Bun.push_own (w := w3) Bun.nil hb4 (by omega) hf4
    have hz4 := hb4.size
    have HD4 := Lib.hid (HD3.out.on hb4)
    clear hf4 hb4
    go_wp2_with fail
    obtain ⟨w5, e5, K, hb5, hz5⟩ := box3 w4 48 (.int .i64 e.kind) (.int .i64 e.num) (.slice s4 e.kids.length c4)
    rw [e5]
    have HB5 := HB3.push hb5 (it := .box w4.heap.size 48 [.int .i64 e.kind, .int .i64 e.num, .slice s4 e.kids.length c4]) ⟨⟨by omega, by omega, Nat.le_refl _⟩, K⟩
    obtain ⟨w6, e6, K6, hb6, hz6⟩ := box2 w5 44 (.slice none 0 0) (.slice none 0 0)
    rw [e6]
    have HB6 := ((HB5.push_nil 2 1).push hb6 (it := .box w5.heap.size 44 [.slice none 0 0, .slice none 0 0]) ⟨⟨by omega, by omega, Nat.le_refl _⟩, K6⟩).push_nil 2 1
    have HF : FitS B sb w4.heap.size w5.heap.size (N + 1) t a w0 w6 [] [] (.slice none 0 0) (.slice none 0 0) e s4 c4 := ⟨HB6, Htr.out, by omega, (HD4.out.on hb5).on hb6⟩
    obtain ⟨nb, hnb⟩ : ∃ v, w4.heap.size = v := ⟨_, rfl⟩
    obtain ⟨wb, hwb⟩ : ∃ v, w5.heap.size = v := ⟨_, rfl⟩
    rw [hnb, hwb] at HF
    rw [hnb] at hz5 ⊢
    rw [← hz5, hwb]
    have HS := Lib.hid HF
    clear HF HB3 HB5 HB6 K K6 e5 e6 hb5 hb6 hnb hwb hz5 hz6 hz4 HD4
    refine (pick_i HS.out.dr.1 (by omega) (by omega)).mono ?_
    rintro f w7 ⟨k0, rfl, k1, k2, D7⟩
    have HS7 := Lib.hid (HS.out.draw (by omega) D7)
    clear HS D7 g0 g1 ltg
    go_wp2_with fail
    go_loopw [9] (fun i wr => ∃ (k : Int) (xs ys : List Int) (va vb : Value) (d : Ex) (sd : Option Addr) (cd : Nat), i = .int .i64 k ∧ -1 ≤ k ∧ k ≤ 5 ∧ (xs.length : Int) ≤ 5 - k ∧ (ys.length : Int) ≤ 5 - k ∧ FitS B sb nb wb (N + 2 + 26 * (5 - k).toNat) t a w0 wr xs ys va vb d sd cd) (fun i _ => (intOf i + 1).toNat)
    case atStart => exact ⟨k0, [], [], _, _, e, s4, c4, rfl, by omega, by omega, by simp; omega, by simp; omega, HS7.out.more (by omega)⟩
    case round =>
      clear HS7
      obtain ⟨k, xs, ys, va, vb, d, sd, cd, rfl, hk1, hk5, hlx, hly, hst⟩ := hrel
      obtain ⟨wk, rfl⟩ : ∃ v, v = wr := ⟨_, rfl⟩
      have HS := Lib.hid hst
      have hzr := hst.dr.size
      obtain ⟨hwbk, hwb0⟩ := hst.w
      obtain ⟨gb0, gb1, ltgb⟩ := (hst.dr.blk HG.out (show w.heap.size ≠ sb by omega)).all2
      clear hst
      by_cases hk0 : 0 ≤ k
      rotate_left
      · have hkn : decide (0 ≤ k) = false := by simpa using hk0
        obtain ⟨a1, ca1, rfl, hca1, hca2⟩ := HS.out.wd.shapeA
        obtain ⟨a2, ca2, rfl, hcb1, hcb2⟩ := HS.out.wd.shapeB
        clear hwbk gb0 gb1 ltgb
        obtain ⟨x0, x1, lx⟩ := HS.out.wd.box.1.all2
        have RW := HS.out.dr.blk HR.out (show w.heap.size + 1 ≠ sb by omega)
        obtain ⟨r0, r1, rl⟩ := RW.all2
        have rf0 := RW.frozen 0
        have rf1 := RW.frozen 1
        go_wp2_with fail
        obtain ⟨w9, e9, R9, hs9⟩ := Blk.set2 RW (.slice a1 xs.length ca1) (.slice a2 ys.length ca2)
        rw [e9]
        obtain ⟨rr0, rr1, -⟩ := R9.all2
        refine bodyPost_ret (v := .agg #[.slice a1 xs.length ca1, .slice a2 ys.length ca2]) (by simp [results, Try.results41, go_sem, rr0, rr1]) rfl ?_
        have hwz := HS.out.dr.size
        exact ⟨_, _, _, _, _, _, rfl, ((HS.out.wd.freshs (W := w0) (Nat.le_refl _)).keep fun b h1 h2 => hs9.block b h2 (by omega)).from (by omega), ((HD0.out.trans HS.out.dr).set hs9 (by omega) hBs hbw).more (by omega)⟩
      go_wp2_with fail
      refine (Hcall.out _).mono ?_
      rintro f w1 ⟨rfl, hb1⟩
      have HS1 := Lib.hid (HS.out.below hb1)
      clear HS hb1 hwbk gb0 gb1 ltgb
      go_wp2_with fail
      refine (pick_i HS1.out.dr.1 (by omega) (by omega)).mono ?_
      rintro f w2 ⟨z0, rfl, z1, z2, D2⟩
      have HS2 := Lib.hid (HS1.out.draw (by omega) D2)
      clear HS1 D2
      go_wp2_with fail
      go_loopw [10, 11] (fun x i wr => ∃ (z : Int) (j : Nat), x = .int .i64 z ∧ 0 ≤ z ∧ z ≤ 7 ∧ i = .int .i64 j ∧ j ≤ 12 ∧ FitS B sb nb wb (N + 2 + 26 * (5 - k).toNat + 1 + 2 * j) t a w0 wr xs ys va vb d sd cd) (fun _ i _ => 12 - (intOf i).toNat)
      case atStart => exact ⟨z0, 0, rfl, z1, by omega, rfl, by omega, HS2.out.more (by omega)⟩
      case round =>
        clear HS2 z1 z2
        obtain ⟨z, j, rfl, z1, z7, rfl, hj, hst⟩ := hrel
        obtain ⟨wj, rfl⟩ : ∃ v, v = wr := ⟨_, rfl⟩
        have HS := Lib.hid hst
        have hzj := hst.dr.size
        have hj0 := Int.natCast_nonneg j
        obtain ⟨hwbk, -⟩ := hst.w
        obtain ⟨gb0, gb1, ltgb⟩ := (hst.dr.blk HG.out (show w.heap.size ≠ sb by omega)).all2
        clear hst
        by_cases hj12 : j < 12
        rotate_left
        · obtain rfl : j = 12 := by omega
          clear hwbk gb0 gb1 ltgb
          by_cases kz : k = 0
          · subst kz
            obtain ⟨a1, ca1, rfl, hca1, hca2⟩ := HS.out.wd.shapeA
            obtain ⟨a2, ca2, rfl, hcb1, hcb2⟩ := HS.out.wd.shapeB
            unfold maxLen at hca2 hcb2
            have hBn : Bun w0.heap.size wj [.own [kidsD d.kids] [.slice sd d.kids.length cd], .box nb 48 [.int .i64 d.kind, .int .i64 d.num, .slice sd d.kids.length cd], .app 2 1 xs.length (xs.map D.int) (.slice a1 xs.length ca1), .box wb 44 [.slice a1 xs.length ca1, .slice a2 ys.length ca2], .app 2 1 ys.length (ys.map D.int) (.slice a2 ys.length ca2)] := HS.out.bun
            have hBu := hBn.alloc (.cells #[.int .i64 z] 2)
            have hNb := Blk.new1 wj 2 (.int .i64 z)
            obtain ⟨x0, x1, ltx⟩ := (hBn.box 3 rfl).1.all2
            have hwz := HS.out.dr.size
            clear hBn
            go_wp2_with (first
              | (at_builtin; refine wpList_append_bun _ rfl _ _ 42 rfl 2 (.int .i64 0) 1 8 Try.underlying42 info_int64 rfl (by decide) hBu (by simp <;> omega) 2 _ rfl rfl ⟨wj.heap.size, 0, none⟩ 1 1 [.int .i64 z] rfl (news_blk hNb) (int_own _ _) rfl (by simp [Value.oneCell']) (by omega) (by omega) (by unfold maxLen; omega) ?_; intro g7 cap7 w7 hbun7 hb7
                 have hs7 := hbun7.store 3 rfl 0 (.slice (some ⟨g7, 0, none⟩) (xs.length + 1) cap7)
                 obtain ⟨y0, y1, lty⟩ := (hbun7.box 3 rfl).1.all2
                 have yf := (hbun7.box 3 rfl).1.frozen 0
                 have hb7s : Below w0.heap.size wj (w7.setCell ⟨wb, 0, none⟩ (.slice (some ⟨g7, 0, none⟩) (xs.length + 1) cap7)) := Below.setCell (p := ⟨wb, 0, none⟩) ((Below.alloc (Below.refl w0.heap.size wj) (by omega) (.cells #[.int .i64 z] 2)).trans hb7) (by have := (hbun7.box 3 rfl).2; exact this) _
                 have hdr7 := HS.out.dr.base hb7s hB0 hsb
                 have hend := hdr7))
            have hfit7 : FitS B sb nb wb _ t a w0 (w7.setCell ⟨wb, 0, none⟩ (.slice (some ⟨g7, 0, none⟩) (xs.length + 1) cap7)) (xs ++ [z]) ys (.slice (some ⟨g7, 0, none⟩) (xs.length + 1) cap7) (.slice a2 ys.length ca2) d sd cd :=
              ⟨by unfold FitI; rw [List.length_append, List.map_append]; exact hs7, HS.out.tr, HS.out.sz, hdr7⟩
            refine ⟨⟨-1, xs ++ [z], ys, _, _, d, sd, cd, rfl, by omega, by omega, by rw [List.length_append]; simp; omega, by omega, hfit7.more (by omega)⟩, by simp [intOf]⟩
          have n0 : (k == 0) = false := by simpa using kz
          go_wp2_with fail
          exact ⟨⟨k - 1, xs, ys, _, _, d, sd, cd, rfl, by omega, by omega, by omega, by omega, HS.out.more (by omega)⟩, by simp only [intOf]; omega⟩
        have hjz : (j : Int) < 12 := by omega
        go_wp2_with fail
        refine (Hma.out _).mono ?_
        rintro f w1 ⟨rfl, hb1⟩
        have HS1 := Lib.hid (HS.out.below hb1)
        clear HS hb1 hwbk gb0 gb1 ltgb
        go_wp2_with fail
        refine (pick_i HS1.out.dr.1 (by omega) (by omega)).mono ?_
        rintro f w2 ⟨y, rfl, y1, y2, D2⟩
        have HS := Lib.hid (HS1.out.draw (by omega) D2)
        obtain ⟨gb0, gb1, ltgb⟩ := (HS.out.dr.blk HG.out (show w.heap.size ≠ sb by omega)).all2
        have hzw2 := HS.out.dr.size
        clear HS1 D2
        by_cases kz : k = 0
        · subst kz
          by_cases ha : a = 0
          · have na : (a == 0) = true := by simpa using ha
            clear ha
            go_wp2_with fail
            refine (l02Empty_all (t - 1) (a - 1) z (by omega) z1 z7 _ d nb 0 w2 (Nat.le_refl _) HS.out.ex HS.out.tr).mono ?_
            rintro f w3 ⟨rfl, rfl⟩
            obtain ⟨q, hq⟩ : ∃ q, d.emp z = q := ⟨_, rfl⟩
            rw [hq]
            clear hq
            cases q with
            | true =>
              obtain ⟨a1, ca1, rfl, hca1, hca2⟩ := HS.out.wd.shapeA
              obtain ⟨a2, ca2, rfl, hcb1, hcb2⟩ := HS.out.wd.shapeB
              unfold maxLen at hca2 hcb2
              have hBn : Bun w0.heap.size w2 [.own [kidsD d.kids] [.slice sd d.kids.length cd], .box nb 48 [.int .i64 d.kind, .int .i64 d.num, .slice sd d.kids.length cd], .app 2 1 xs.length (xs.map D.int) (.slice a1 xs.length ca1), .box wb 44 [.slice a1 xs.length ca1, .slice a2 ys.length ca2], .app 2 1 ys.length (ys.map D.int) (.slice a2 ys.length ca2)] := HS.out.bun
              have hBu := hBn.alloc (.cells #[.int .i64 z] 2)
              have hNb := Blk.new1 w2 2 (.int .i64 z)
              obtain ⟨x0, x1, ltx⟩ := (hBn.box 3 rfl).1.all2
              have hwz := HS.out.dr.size
              clear hBn
              go_wp2_with (first
                | (at_builtin; refine wpList_append_bun _ rfl _ _ 42 rfl 2 (.int .i64 0) 1 8 Try.underlying42 info_int64 rfl (by decide) hBu (by simp <;> omega) 2 _ rfl rfl ⟨w2.heap.size, 0, none⟩ 1 1 [.int .i64 z] rfl (news_blk hNb) (int_own _ _) rfl (by simp [Value.oneCell']) (by omega) (by omega) (by unfold maxLen; omega) ?_; intro g7 cap7 w7 hbun7 hb7
                   have hs7 := hbun7.store 3 rfl 0 (.slice (some ⟨g7, 0, none⟩) (xs.length + 1) cap7)
                   obtain ⟨y0, y1, lty⟩ := (hbun7.box 3 rfl).1.all2
                   have yf := (hbun7.box 3 rfl).1.frozen 0
                   have hb7s : Below w0.heap.size w2 (w7.setCell ⟨wb, 0, none⟩ (.slice (some ⟨g7, 0, none⟩) (xs.length + 1) cap7)) := Below.setCell (p := ⟨wb, 0, none⟩) ((Below.alloc (Below.refl w0.heap.size w2) (by omega) (.cells #[.int .i64 z] 2)).trans hb7) (by have := (hbun7.box 3 rfl).2; exact this) _
                   have hdr7 := HS.out.dr.base hb7s hB0 hsb
                   have hend := hdr7))
              have hfit7 : FitS B sb nb wb _ t a w0 (w7.setCell ⟨wb, 0, none⟩ (.slice (some ⟨g7, 0, none⟩) (xs.length + 1) cap7)) (xs ++ [z]) ys (.slice (some ⟨g7, 0, none⟩) (xs.length + 1) cap7) (.slice a2 ys.length ca2) d sd cd :=
                ⟨by unfold FitI; rw [List.length_append, List.map_append]; exact hs7, HS.out.tr, HS.out.sz, hdr7⟩
              go_roundw
              case rel => exact ⟨-1, xs ++ [z], ys, _, _, d, sd, cd, rfl, by omega, by omega, by rw [List.length_append]; simp; omega, by omega, hfit7.more (by omega)⟩
              case measure => simp [intOf]
            | false =>
              obtain ⟨a1, ca1, rfl, hca1, hca2⟩ := HS.out.wd.shapeA
              obtain ⟨a2, ca2, rfl, hcb1, hcb2⟩ := HS.out.wd.shapeB
              unfold maxLen at hca2 hcb2
              have hBn : Bun w0.heap.size w2 [.own [kidsD d.kids] [.slice sd d.kids.length cd], .box nb 48 [.int .i64 d.kind, .int .i64 d.num, .slice sd d.kids.length cd], .app 2 1 xs.length (xs.map D.int) (.slice a1 xs.length ca1), .box wb 44 [.slice a1 xs.length ca1, .slice a2 ys.length ca2], .app 2 1 ys.length (ys.map D.int) (.slice a2 ys.length ca2)] := HS.out.bun
              have hBu := hBn.alloc (.cells #[.int .i64 z] 2)
              have hNb := Blk.new1 w2 2 (.int .i64 z)
              obtain ⟨x0, x1, ltx⟩ := (hBn.box 3 rfl).1.all2
              have hwz := HS.out.dr.size
              clear hBn
              go_wp2_with (first
                | (at_builtin; refine wpList_append_bun _ rfl _ _ 42 rfl 2 (.int .i64 0) 1 8 Try.underlying42 info_int64 rfl (by decide) hBu (by simp <;> omega) 2 _ rfl rfl ⟨w2.heap.size, 0, none⟩ 1 1 [.int .i64 z] rfl (news_blk hNb) (int_own _ _) rfl (by simp [Value.oneCell']) (by omega) (by omega) (by unfold maxLen; omega) ?_; intro g7 cap7 w7 hbun7 hb7
                   have hs7 := hbun7.store 3 rfl 0 (.slice (some ⟨g7, 0, none⟩) (xs.length + 1) cap7)
                   obtain ⟨y0, y1, lty⟩ := (hbun7.box 3 rfl).1.all2
                   have yf := (hbun7.box 3 rfl).1.frozen 0
                   have hb7s : Below w0.heap.size w2 (w7.setCell ⟨wb, 0, none⟩ (.slice (some ⟨g7, 0, none⟩) (xs.length + 1) cap7)) := Below.setCell (p := ⟨wb, 0, none⟩) ((Below.alloc (Below.refl w0.heap.size w2) (by omega) (.cells #[.int .i64 z] 2)).trans hb7) (by have := (hbun7.box 3 rfl).2; exact this) _
                   have hdr7 := HS.out.dr.base hb7s hB0 hsb
                   have hend := hdr7))
              have hfit7 : FitS B sb nb wb _ t a w0 (w7.setCell ⟨wb, 0, none⟩ (.slice (some ⟨g7, 0, none⟩) (xs.length + 1) cap7)) (xs ++ [z]) ys (.slice (some ⟨g7, 0, none⟩) (xs.length + 1) cap7) (.slice a2 ys.length ca2) d sd cd :=
                ⟨by unfold FitI; rw [List.length_append, List.map_append]; exact hs7, HS.out.tr, HS.out.sz, hdr7⟩
              go_roundw
              case rel => exact ⟨-1, xs ++ [z], ys, _, _, d, sd, cd, rfl, by omega, by omega, by rw [List.length_append]; simp; omega, by omega, hfit7.more (by omega)⟩
              case measure => simp [intOf]
          have na : (a == 0) = false := by simpa using ha
          clear ha
          go_wp2_with fail
          refine (l02Empty_all (t - 1) (a - 1) z (by omega) z1 z7 _ d nb 0 w2 (Nat.le_refl _) HS.out.ex HS.out.tr).mono ?_
          rintro f w3 ⟨rfl, rfl⟩
          obtain ⟨q, hq⟩ : ∃ q, d.emp z = q := ⟨_, rfl⟩
          rw [hq]
          clear hq
          cases q with
          | true =>
            obtain ⟨a1, ca1, rfl, hca1, hca2⟩ := HS.out.wd.shapeA
            obtain ⟨a2, ca2, rfl, hcb1, hcb2⟩ := HS.out.wd.shapeB
            unfold maxLen at hca2 hcb2
            have hBn : Bun w0.heap.size w2 [.own [kidsD d.kids] [.slice sd d.kids.length cd], .box nb 48 [.int .i64 d.kind, .int .i64 d.num, .slice sd d.kids.length cd], .app 2 1 xs.length (xs.map D.int) (.slice a1 xs.length ca1), .box wb 44 [.slice a1 xs.length ca1, .slice a2 ys.length ca2], .app 2 1 ys.length (ys.map D.int) (.slice a2 ys.length ca2)] := HS.out.bun
            have hBu := hBn.alloc (.cells #[.int .i64 z] 2)
            have hNb := Blk.new1 w2 2 (.int .i64 z)
            obtain ⟨x0, x1, ltx⟩ := (hBn.box 3 rfl).1.all2
            have hwz := HS.out.dr.size
            clear hBn
            go_wp2_with (first
              | (at_builtin; refine wpList_append_bun _ rfl _ _ 42 rfl 2 (.int .i64 0) 1 8 Try.underlying42 info_int64 rfl (by decide) hBu (by simp <;> omega) 2 _ rfl rfl ⟨w2.heap.size, 0, none⟩ 1 1 [.int .i64 z] rfl (news_blk hNb) (int_own _ _) rfl (by simp [Value.oneCell']) (by omega) (by omega) (by unfold maxLen; omega) ?_; intro g7 cap7 w7 hbun7 hb7
                 have hs7 := hbun7.store 3 rfl 0 (.slice (some ⟨g7, 0, none⟩) (xs.length + 1) cap7)
                 obtain ⟨y0, y1, lty⟩ := (hbun7.box 3 rfl).1.all2
                 have yf := (hbun7.box 3 rfl).1.frozen 0
                 have hb7s : Below w0.heap.size w2 (w7.setCell ⟨wb, 0, none⟩ (.slice (some ⟨g7, 0, none⟩) (xs.length + 1) cap7)) := Below.setCell (p := ⟨wb, 0, none⟩) ((Below.alloc (Below.refl w0.heap.size w2) (by omega) (.cells #[.int .i64 z] 2)).trans hb7) (by have := (hbun7.box 3 rfl).2; exact this) _
                 have hdr7 := HS.out.dr.base hb7s hB0 hsb
                 have hend := hdr7))
            have hfit7 : FitS B sb nb wb _ t a w0 (w7.setCell ⟨wb, 0, none⟩ (.slice (some ⟨g7, 0, none⟩) (xs.length + 1) cap7)) (xs ++ [z]) ys (.slice (some ⟨g7, 0, none⟩) (xs.length + 1) cap7) (.slice a2 ys.length ca2) d sd cd :=
              ⟨by unfold FitI; rw [List.length_append, List.map_append]; exact hs7, HS.out.tr, HS.out.sz, hdr7⟩
            go_roundw
            case rel => exact ⟨-1, xs ++ [z], ys, _, _, d, sd, cd, rfl, by omega, by omega, by rw [List.length_append]; simp; omega, by omega, hfit7.more (by omega)⟩
            case measure => simp [intOf]
          | false =>
            cases ho : d.step z y with
            | none =>
              have Ho := Lib.hid ho
              clear ho
              go_wp2_with fail
              refine (step_none' (by omega) (by omega) z1 z7 HS.out.ex HS.out.tr (by have := HS.out.sz; omega) Ho).mono ?_
              rintro f w3 ⟨d2, s2, c2, rfl, hb3⟩
              have HS3 := Lib.hid (HS.out.below hb3)
              clear HS gb0 gb1 ltgb
              obtain ⟨gb0, gb1, ltgb⟩ := (HS3.out.dr.blk HG.out (show w.heap.size ≠ sb by omega)).all2
              obtain ⟨w4, e4, K4, hb4, hz4⟩ := box3 w3 48 (.int .i64 d2.kind) (.int .i64 d2.num) (.slice s2 d2.kids.length c2)
              have HS := Lib.hid (HS3.out.below hb4)
              clear HS3 K4 hb3 hb4 hz4
              have He4 := Lib.hid e4
              clear e4
              go_wp2_with fail
              rw [He4.out]
              refine (Hcall.out _).mono ?_
              rintro f w5 ⟨rfl, hb5⟩
              have HS5 := Lib.hid (HS.out.below hb5)
              clear HS hb5 gb0 gb1 ltgb
              go_wp2_with fail
              refine (pick_i HS5.out.dr.1 (by omega) (by omega)).mono ?_
              rintro f w6 ⟨z', rfl, u1, u2, D6⟩
              have HS6 := Lib.hid (HS5.out.draw (by omega) D6)
              clear HS5 D6
              go_wp2_with fail
              refine ⟨⟨z', j + 1, rfl, u1, by omega, by go_num, by omega, HS6.out.more (by omega)⟩, by simp only [intOf]; omega⟩
            | some d2 =>
              have Ho := Lib.hid ho
              clear ho
              go_wp2_with fail
              refine (step_some' (by omega) (by omega) z1 z7 HS.out.ex HS.out.tr (by have := HS.out.sz; omega) Ho).mono ?_
              rintro f w3 ⟨s2, c2, rfl, hf3, hb3⟩
              have HS3 := Lib.hid (HS.out.below hb3)
              clear HS gb0 gb1 ltgb
              obtain ⟨gb0, gb1, ltgb⟩ := (HS3.out.dr.blk HG.out (show w.heap.size ≠ sb by omega)).all2
              obtain ⟨w4, e4, K4, hb4, hz4⟩ := box3 w3 48 (.int .i64 d2.kind) (.int .i64 d2.num) (.slice s2 d2.kids.length c2)
              have HS := Lib.hid (HS3.out.below hb4)
              clear HS3 K4 hb3 hb4 hz4
              have He4 := Lib.hid e4
              clear e4
              go_wp2_with fail
              rw [He4.out]
              refine (Hcall.out _).mono ?_
              rintro f w5 ⟨rfl, hb5⟩
              have HS5 := Lib.hid (HS.out.below hb5)
              clear HS hb5 gb0 gb1 ltgb
              go_wp2_with fail
              refine (pick_i HS5.out.dr.1 (by omega) (by omega)).mono ?_
              rintro f w6 ⟨z', rfl, u1, u2, D6⟩
              have HS6 := Lib.hid (HS5.out.draw (by omega) D6)
              clear HS5 D6
              go_wp2_with fail
              refine ⟨⟨z', j + 1, rfl, u1, by omega, by go_num, by omega, HS6.out.more (by omega)⟩, by simp only [intOf]; omega⟩
        have n0 : (k == 0) = false := by simpa using kz
        by_cases ha : a = 0
        · have na : (a == 0) = true := by simpa using ha
          clear ha
          go_wp2_with fail
          go_roundw
          case rel => exact ⟨k - 1, xs, ys, _, _, d, sd, cd, rfl, by omega, by omega, by omega, by omega, HS.out.more (by omega)⟩
          case measure => simp only [intOf]; omega
        have na : (a == 0) = false := by simpa using ha
        clear ha
        have k1' : (0 : Int) < k := by omega
        cases ho : d.step z y with
        | none =>
          have Ho := Lib.hid ho
          clear ho
          go_wp2_with fail
          refine (step_none' (by omega) (by omega) z1 z7 HS.out.ex HS.out.tr (by have := HS.out.sz; omega) Ho).mono ?_
          rintro f w3 ⟨d2, s2, c2, rfl, hb3⟩
          have HS3 := Lib.hid (HS.out.below hb3)
          clear HS gb0 gb1 ltgb
          obtain ⟨gb0, gb1, ltgb⟩ := (HS3.out.dr.blk HG.out (show w.heap.size ≠ sb by omega)).all2
          obtain ⟨w4, e4, K4, hb4, hz4⟩ := box3 w3 48 (.int .i64 d2.kind) (.int .i64 d2.num) (.slice s2 d2.kids.length c2)
          have HS := Lib.hid (HS3.out.below hb4)
          clear HS3 K4 hb3 hb4 hz4
          have He4 := Lib.hid e4
          clear e4
          go_wp2_with fail
          rw [He4.out]
          refine (Hcall.out _).mono ?_
          rintro f w5 ⟨rfl, hb5⟩
          have HS5 := Lib.hid (HS.out.below hb5)
          clear HS hb5 gb0 gb1 ltgb
          go_wp2_with fail
          refine (pick_i HS5.out.dr.1 (by omega) (by omega)).mono ?_
          rintro f w6 ⟨z', rfl, u1, u2, D6⟩
          have HS6 := Lib.hid (HS5.out.draw (by omega) D6)
          clear HS5 D6
          go_wp2_with fail
          refine ⟨⟨z', j + 1, rfl, u1, by omega, by go_num, by omega, HS6.out.more (by omega)⟩, by simp only [intOf]; omega⟩
        | some d2 =>
          have Ho := Lib.hid ho
          clear ho
          go_wp2_with fail
          refine (step_some' (by omega) (by omega) z1 z7 HS.out.ex HS.out.tr (by have := HS.out.sz; omega) Ho).mono ?_
          rintro f w3 ⟨s2, c2, rfl, hf3, hb3⟩
          by_cases hk1 : d2.kind = 1
          · have nk : (d2.kind == 1) = true := by simpa using hk1
            have nk' : (d2.kind != 1) = false := by simpa using hk1
            clear hk1
            have HS3 := Lib.hid (HS.out.below hb3)
            clear HS gb0 gb1 ltgb
            obtain ⟨gb0, gb1, ltgb⟩ := (HS3.out.dr.blk HG.out (show w.heap.size ≠ sb by omega)).all2
            obtain ⟨w4, e4, K4, hb4, hz4⟩ := box3 w3 48 (.int .i64 d2.kind) (.int .i64 d2.num) (.slice s2 d2.kids.length c2)
            have HS := Lib.hid (HS3.out.below hb4)
            clear HS3 K4 hb3 hb4 hz4
            have He4 := Lib.hid e4
            clear e4
            go_wp2_with fail
            rw [He4.out]
            refine (Hcall.out _).mono ?_
            rintro f w5 ⟨rfl, hb5⟩
            have HS5 := Lib.hid (HS.out.below hb5)
            clear HS hb5 gb0 gb1 ltgb
            go_wp2_with fail
            refine (pick_i HS5.out.dr.1 (by omega) (by omega)).mono ?_
            rintro f w6 ⟨z', rfl, u1, u2, D6⟩
            have HS6 := Lib.hid (HS5.out.draw (by omega) D6)
            clear HS5 D6
            go_wp2_with fail
            refine ⟨⟨z', j + 1, rfl, u1, by omega, by go_num, by omega, HS6.out.more (by omega)⟩, by simp only [intOf]; omega⟩
          have nk : (d2.kind == 1) = false := by simpa using hk1
          have nk' : (d2.kind != 1) = true := by simpa using hk1
          clear hk1
          obtain ⟨a1, ca1, rfl, hca1, hca2⟩ := HS.out.wd.shapeA
          obtain ⟨a2, ca2, rfl, hcb1, hcb2⟩ := HS.out.wd.shapeB
          unfold maxLen at hca2 hcb2
          have HBn := HS.out.bun.push_own hb3 (by omega) hf3
          have HD := Lib.hid (HS.out.dr.on hb3)
          have HT := Lib.hid (step_spec (t - 1) (a - 1) z y _ d d2 (Nat.le_refl _) HS.out.tr Ho.out)
          have hzq := hb3.size
          clear HS hb3 hf3
          have HB1 := HBn.push_box (by omega) 48 #[.int .i64 d2.kind, .int .i64 d2.num, .slice s2 d2.kids.length c2]
          obtain ⟨w4, e4, K4, hb4, hz4⟩ := box3 w3 48 (.int .i64 d2.kind) (.int .i64 d2.num) (.slice s2 d2.kids.length c2)
          rw [e4] at HB1
          have HD4 := Lib.hid (HD.out.on hb4)
          obtain ⟨kk0, kk1, kk2, kf0, kf1, kf2, kl⟩ := K4.all3
          have hBu := HB1.alloc (.cells #[.int .i64 z] 2)
          have hNb := Blk.new1 w4 2 (.int .i64 z)
          obtain ⟨x0, x1, ltx⟩ := (HBn.box 3 rfl).1.all2
          have He4 := Lib.hid e4
          rw [hz4] at hNb
          clear e4 HBn HB1 K4 hb4
          go_wp2_with (first
            | (rw [He4.out]; at_builtin; refine wpList_append_bun _ rfl _ _ 42 rfl 2 (.int .i64 0) 1 8 Try.underlying42 info_int64 rfl (by decide) hBu (by simp <;> omega) 2 _ rfl rfl ⟨w3.heap.size + 1, 0, none⟩ 1 1 [.int .i64 z] rfl (news_blk hNb) (int_own _ _) rfl (by simp [Value.oneCell']) (by omega) (by omega) (by unfold maxLen; omega) ?_; intro g7 cap7 w7 hbun7 hb7
               have hs7 := hbun7.store 3 rfl 0 (.slice (some ⟨g7, 0, none⟩) (xs.length + 1) cap7)
               obtain ⟨y0, y1, lty⟩ := (hbun7.box 3 rfl).1.all2
               have yf := (hbun7.box 3 rfl).1.frozen 0
               obtain ⟨s0, s1, lts⟩ := (hs7.box 3 rfl).1.all2
               have hb7s : Below w0.heap.size w4 (w7.setCell ⟨wb, 0, none⟩ (.slice (some ⟨g7, 0, none⟩) (xs.length + 1) cap7)) := Below.setCell (p := ⟨wb, 0, none⟩) ((Below.alloc (Below.refl w0.heap.size w4) (by omega) (.cells #[.int .i64 z] 2)).trans hb7) (by have := (hbun7.box 3 rfl).2; exact this) _
               have hdr7 := HD4.out.base hb7s hB0 hsb
               have hBu8 := hs7.alloc (.cells #[.int .i64 y] 2)
               have hNb8 := Blk.new1 (w7.setCell ⟨wb, 0, none⟩ (.slice (some ⟨g7, 0, none⟩) (xs.length + 1) cap7)) 2 (.int .i64 y)
               have hz7 : (w7.setCell ⟨wb, 0, none⟩ (.slice (some ⟨g7, 0, none⟩) (xs.length + 1) cap7)).heap.size = w7.heap.size := by simp [World.setCell]
               have hdz7 := hdr7.size
               rw [hz7] at hNb8
               obtain ⟨x0', x1', ltx'⟩ := (hBu8.box 3 rfl).1.all2
               clear hBu hNb hb7 hb7s hbun7)
            | (at_builtin; refine wpList_append_bun _ rfl _ _ 42 rfl 2 (.int .i64 0) 1 8 Try.underlying42 info_int64 rfl (by decide) hBu8 (by simp <;> omega) 4 _ rfl rfl ⟨w7.heap.size, 0, none⟩ 1 1 [.int .i64 y] rfl (news_blk hNb8) (int_own _ _) rfl (by simp [Value.oneCell']) (by omega) (by omega) (by unfold maxLen; omega) ?_; intro g8 cap8 w8 hbun8 hb8
               have hs8 := hbun8.store 3 rfl 1 (.slice (some ⟨g8, 0, none⟩) (ys.length + 1) cap8)
               obtain ⟨y0', y1', lty'⟩ := (hbun8.box 3 rfl).1.all2
               have yf' := (hbun8.box 3 rfl).1.frozen 1
               obtain ⟨t0, t1, t2, tf0, tf1, tf2, tlt⟩ := (hs8.box 6 rfl).1.all3
               obtain ⟨v0, v1, v2, vf0, vf1, vf2, vlt⟩ := (hs8.box 1 rfl).1.all3
               have hb8s : Below w0.heap.size (w7.setCell ⟨wb, 0, none⟩ (.slice (some ⟨g7, 0, none⟩) (xs.length + 1) cap7)) (w8.setCell ⟨wb, 1, none⟩ (.slice (some ⟨g8, 0, none⟩) (ys.length + 1) cap8)) := Below.setCell (p := ⟨wb, 1, none⟩) ((Below.alloc (Below.refl w0.heap.size _) (by omega) (.cells #[.int .i64 y] 2)).trans hb8) (by have := (hbun8.box 3 rfl).2; exact this) _
               have hdr8 := hdr7.base hb8s hB0 hsb
               clear hb8 hb8s hbun8))
          have hk3 := ((hs8.store 1 rfl 0 (.int .i64 d2.kind)).store 1 rfl 1 (.int .i64 d2.num)).store 1 rfl 2 (.slice s2 d2.kids.length c2)
          have hnb := (hs8.box 1 rfl).2
          have hb9 : Below w0.heap.size (w8.setCell ⟨wb, 1, none⟩ (.slice (some ⟨g8, 0, none⟩) (ys.length + 1) cap8)) ((((w8.setCell ⟨wb, 1, none⟩ (.slice (some ⟨g8, 0, none⟩) (ys.length + 1) cap8)).setCell ⟨nb, 0, none⟩ (.int .i64 d2.kind)).setCell ⟨nb, 1, none⟩ (.int .i64 d2.num)).setCell ⟨nb, 2, none⟩ (.slice s2 d2.kids.length c2)) := Below.setCell (Below.setCell (Below.setCell (Below.refl _ _) hnb _) hnb _) hnb _
          have hdr9 := hdr8.base hb9 hB0 hsb
          have hfit : FitS B sb nb wb _ t a w0 ((((w8.setCell ⟨wb, 1, none⟩ (.slice (some ⟨g8, 0, none⟩) (ys.length + 1) cap8)).setCell ⟨nb, 0, none⟩ (.int .i64 d2.kind)).setCell ⟨nb, 1, none⟩ (.int .i64 d2.num)).setCell ⟨nb, 2, none⟩ (.slice s2 d2.kids.length c2)) (xs ++ [z]) (ys ++ [y]) (.slice (some ⟨g7, 0, none⟩) (xs.length + 1) cap7) (.slice (some ⟨g8, 0, none⟩) (ys.length + 1) cap8) d2 s2 c2 :=
            ⟨by unfold FitI; rw [List.length_append, List.length_append, List.map_append, List.map_append]; exact Bun.swap05 hk3, HT.out.1, HT.out.2, hdr9⟩
          refine ⟨⟨k - 1, xs ++ [z], ys ++ [y], _, _, d2, s2, c2, rfl, by omega, by omega, by rw [List.length_append]; simp; omega, by rw [List.length_append]; simp; omega, hfit.more (by omega)⟩, by simp only [intOf]; omega⟩
end Go.Proofs.Ytfhlddbngjlhbaa

namespace Go.Proofs.Ytfhlddbngjlhbaa
set_option linter.unusedVariables false
set_option linter.unusedSimpArgs false
open Go.ChangeShapes Go.WideShapes Go.ChangeAt Go.RowKit Go.Deep Go.Sort
theorem rows_bytes : ∀ rows : List (List D), (∀ r ∈ rows, ∃ n : Int, r = [D.raw (.int .u8 n)] ∧ 0 ≤ n ∧ n ≤ 255) → ∃ zs : List Int, rows.length = zs.length ∧ rows.flatten = zs.map (fun x => D.raw (.int .u8 x)) ∧ ∀ x ∈ zs, 0 ≤ x ∧ x ≤ 255
 | [], _ => ⟨[], rfl, rfl, by simp⟩
 | r :: rows, h => by
  obtain ⟨n, rfl, hn⟩ := h r (List.mem_cons_self ..)
  obtain ⟨zs, h1, h2, h3⟩ := rows_bytes rows fun r hr => h r (List.mem_cons_of_mem _ hr)
  refine ⟨n :: zs, by simp [h1], by simp [h2], fun x hx => ?_⟩
  rcases List.mem_cons.1 hx with rfl | hx
  ·
   exact hn
  ·
   exact h3 x hx
section
variable {H : Type} {enc : TypeId × Value → H} {P : Program} {w : World} {base : Nat} {sp : Nat → Bool} {hd : Bool}
theorem open_bytes {ti ts : TypeId} (hs : P.underlying ts = some (.slice ti)) (hi : P.underlying ti = some (.int .u8)) (ci : P.cellsOf ti = 1) {fuel : Nat} {cs : List Value} {x : DataW H × List MemPlace}
  (h : DataW.trod enc P w base sp hd fuel ts cs = some x) : ∃ v, ∃ zs : List Int, cs = [v] ∧ Rd w (bytesD zs) v ∧ ∀ x ∈ zs, 0 ≤ x ∧ x ≤ 255 := by
 obtain ⟨v, rows, e, hrows, hr⟩ := open_sl (size := 1) (Q := fun r => ∃ n : Int, r = [D.raw (.int .u8 n)] ∧ 0 ≤ n ∧ n ≤ 255) hs ci (by omega) (fun m _ cs x hx => by
  obtain ⟨n, rfl, _, hw⟩ := DataW.trod_int hi hx
  have hn : 0 ≤ n ∧ n ≤ 255 := by simp [Lit.wf, IntKind.min, IntKind.max, IntKind.bits, IntKind.signed] at hw; omega
  exact ⟨_, ⟨n, rfl, hn⟩, rfl, by simp [Rds, Rd, Value.oneCell']⟩) h
 obtain ⟨zs, h1, h2, h3⟩ := rows_bytes rows hrows
 rw [h1, h2] at hr
 exact ⟨v, zs, e, hr, h3⟩
end
theorem a2Long_i {s s' : Option Addr} {n m c c' : Nat} {w : World} (h1 : n ≤ c) (h2 : c ≤ maxLen) (h3 : m ≤ c') (h4 : c' ≤ maxLen) :
  Calls Try.prog 12 #[.slice s n c, .slice s' m c'] w fun f w' => f = .returned (.bool (decide (3000 < n) || decide (3000 < m))) ∧ w = w' := by
 unfold maxLen at h2 h4
 by_cases hn : (3000 : Int) < (n : Int)
 ·
  have q : decide (3000 < n) = true := by simp; omega
  go_enter Try.func12, Try.ntmps12
  go_wp2_with fail
  go_ret
  exact ⟨ret_bool (by first | rfl | (rw [q]; rfl)), rfl⟩
 ·
  have q : decide (3000 < n) = false := by simp; omega
  by_cases hm : (3000 : Int) < (m : Int)
  ·
   have q2 : decide (3000 < m) = true := by simp; omega
   go_enter Try.func12, Try.ntmps12
   go_wp2_with fail
   go_ret
   exact ⟨ret_bool (by first | rfl | (rw [q, q2]; rfl)), rfl⟩
  ·
   have q2 : decide (3000 < m) = false := by simp; omega
   go_enter Try.func12, Try.ntmps12
   go_wp2_with fail
   go_ret
   exact ⟨ret_bool (by first | rfl | (rw [q, q2]; rfl)), rfl⟩
def atF (xs : List Int) (i n : Int) : Int := if (xs.length : Int) ≤ i ∨ n < 1 then 0 else (xs.getD i.toNat 0) % n
theorem a2At_i {xs : List Int} {s : Option Addr} {c : Nat} {i n : Int} {w : World} (hr : Rd w (bytesD xs) (.slice s xs.length c)) (hx : ∀ x ∈ xs, 0 ≤ x ∧ x ≤ 255) (h0 : 0 ≤ i) (h1 : i ≤ 1000) (h2 : 1 ≤ n) (h3 : n ≤ 1000) :
  Calls Try.prog 16 #[.slice s xs.length c, .int .i64 i, .int .i64 n] w fun f w' => f = .returned (.int .i64 (atF xs i n)) ∧ w = w' := by
 obtain ⟨-, hl, hc, -⟩ := hr.sl_at
 unfold maxLen at hc
 by_cases hlt : i < xs.length
 ·
  obtain ⟨k, rfl⟩ := Int.eq_ofNat_of_zero_le h0
  obtain ⟨x, hxp⟩ : ∃ x, xs[k]? = some x := ⟨_, List.getElem?_eq_getElem (by omega)⟩
  obtain ⟨hx0, hx1⟩ := hx x (List.mem_of_getElem? hxp)
  obtain ⟨sb, so, rfl⟩ := byte_some hr (by omega)
  obtain ⟨ltS, g0⟩ := byte_in hr hxp
  have e : Hid (atF xs k n = x % n) := by
   show _ = _
   unfold atF
   rw [if_neg (by omega), Int.toNat_natCast, List.getD_eq_getElem?_getD, hxp]
   rfl
  have hm : 0 ≤ x % n ∧ x % n < n := ⟨Int.emod_nonneg _ (by omega), Int.emod_lt_of_pos _ (by omega)⟩
  have hb : ((xs.length : Int) ≤ (k : Int)) = False := by simp; omega
  have Hr := Lib.hid hr
  clear hxp hx hr
  go_enter Try.func16, Try.ntmps16
  go_wp2_with fail
  go_ret
  exact ⟨ret_int e.out.symm, rfl⟩
 ·
  have e : Hid (atF xs i n = 0) := by
   show _ = _
   unfold atF
   rw [if_pos (by omega)]
  clear hx hr
  go_enter Try.func16, Try.ntmps16
  go_wp2_with fail
  go_ret
  exact ⟨ret_int e.out.symm, rfl⟩
end Go.Proofs.Ytfhlddbngjlhbaa

namespace Go.Proofs.Ytfhlddbngjlhbaa
set_option linter.unusedVariables false
set_option linter.unusedSimpArgs false
open Go.ChangeShapes Go.WideShapes Go.ChangeAt Go.RowKit Go.Deep Go.Sort
structure Later (w : World) (F : World → Prop) : Prop where
 ok : ∀ w', Below w.heap.size w w' → F w'
theorem Later.now {w : World} {F : World → Prop} (h : Later w F) : F w := h.ok w (Below.refl _ _)
theorem Later.on {w w' : World} {F : World → Prop} (h : Later w F) (hb : Below w.heap.size w w') : Later w' F := ⟨fun w2 k => h.ok w2 (hb.trans (k.mono hb.size))⟩
theorem Later.and {w : World} {F G : World → Prop} (h : Later w F) (k : Later w G) : Later w (fun w => F w ∧ G w) := ⟨fun w' b => ⟨h.ok w' b, k.ok w' b⟩⟩
theorem Later.rd {w : World} {d : D} {v : Value} (h : Rd w d v) : Later w (fun w => Rd w d v) := ⟨fun _ b => h.below b⟩
theorem Later.rds {w : World} {d : List D} {v : List Value} (h : Rds w d v) : Later w (fun w => Rds w d v) := ⟨fun _ b => h.below b⟩
theorem Later.blk {w : World} {g t : Nat} {cur : List Value} (h : Blk w g t cur) : Later w (fun w => Blk w g t cur) := ⟨fun _ b => h.below b⟩
set_option maxRecDepth 10000
section
variable {H : Type} {enc : TypeId × Value → H} {W : World} {base : Nat} {sp : Nat → Bool} {hd : Bool} {v : Value} {d : DataW H} {ps : List MemPlace}
theorem cells_uint8 : Try.prog.cellsOf 5 = 1 := by kernel_rfl
theorem open_byteS {r : Reach} {b0 : Nat} (hval : Value.okWide Try.prog W r b0 38 v) (h : DataW.Trod enc Try.prog W base sp hd 38 v d ps) :
  ∃ (zs : List Int) (s : Option Addr) (cap : Nat), v = .slice s zs.length cap ∧ Rd W (bytesD zs) (.slice s zs.length cap) ∧ ∀ x ∈ zs, 0 ≤ x ∧ x ≤ 255 := by
 obtain ⟨a, len, cap, rfl⟩ := okWide_slice Try.underlying38 hval
 obtain ⟨fuel, hf⟩ := h
 obtain ⟨v', zs, e, hr, hz⟩ := open_bytes Try.underlying38 Try.underlying5 cells_uint8 hf
 have e3 : v' = .slice a len cap := by simpa [Value.cells] using e.symm
 subst e3
 obtain ⟨rfl, _⟩ := hr.sl_at
 exact ⟨zs, a, cap, rfl, hr, hz⟩
end
end Go.Proofs.Ytfhlddbngjlhbaa

namespace Go.Proofs.Ytfhlddbngjlhbaa
set_option linter.unusedVariables false
set_option linter.unusedSimpArgs false
open Go.ChangeShapes Go.WideShapes Go.ChangeAt Go.RowKit Go.Deep Go.Sort
theorem okB_of {t a : Int} {e : Ex} (hs : sigB t a = true) (ht : e.tree (t - 1) (a - 1) = true) (hz : e.size ≤ 40) : okB t a e = true := by
 have := Ex.depth_le e
 unfold okB
 rw [hs, ht]
 simp only [Bool.true_and, Bool.and_true, Bool.and_eq_true, decide_eq_true_eq]
 omega
theorem wordB_one {t a : Int} (hs : sigB t a = true) : wordB t a [0] [] = true := by
 have := (atomsN_bd t).1
 unfold wordB
 rw [hs]
 simp [allIn, inB]
 omega
theorem word_one {w : World} {g : Nat} (h : Blk w g 2 [.int .i64 0]) : Rds w (wordD [0] []) [.slice (some ⟨g, 0, none⟩) ([0] : List Int).length 1, .slice none ([] : List Int).length 0] := by
 have h1 : Rd w (intsD [0]) (.slice (some ⟨g, 0, none⟩) 1 1) := (ints_app (zs := [0]) h (by unfold maxLen; simp)).rd
 have h2 : AppS (fun _ => True) w 2 1 0 [] (.slice none 0 0) := ⟨[], [], ⟨by simp, Or.inl ⟨rfl, rfl⟩⟩, Ows.nil, by simp, by simp, by simp [Value.ownBlock]⟩
 have h3 : Rd w (intsD []) (.slice none 0 0) := h2.rd
 simp only [wordD, Rds]
 exact ⟨_, _, rfl, h1, _, _, rfl, h3, rfl⟩
set_option maxHeartbeats 4000000 in
theorem a2Word_i {xs : List Int} {s : Option Addr} {c : Nat} {t a : Int} {e : Ex} {se : Option Addr} {ce : Nat} {w : World} (hr : Rd w (bytesD xs) (.slice s xs.length c)) (hx : ∀ x ∈ xs, 0 ≤ x ∧ x ≤ 255) (he : Rd w (kidsD e.kids) (.slice se e.kids.length ce)) (hok : okB t a e = true) :
  Calls Try.prog 14 #[.slice s xs.length c, .agg #[.int .i64 t, .int .i64 a], .agg #[.int .i64 e.kind, .int .i64 e.num, .slice se e.kids.length ce]] w fun z w' => ∃ (ps qs : List Int) (s' : Option Addr) (c' : Nat) (u' : Option Addr) (d' : Nat), z = .returned (.agg #[.slice s' ps.length c', .slice u' qs.length d']) ∧ Rds w' (wordD ps qs) [.slice s' ps.length c', .slice u' qs.length d'] ∧
   wordB t a ps qs = true ∧ Below w.heap.size w w' := by
 have HX := Lib.hid hx
 have Hok := Lib.hid hok
 clear hx hok
 go_enter Try.func14, Try.ntmps14
 go_wp2_with fail
 obtain ⟨w1, e1, RA, hb1, hz1⟩ := box2 w 29 (.int .i64 t) (.int .i64 a)
 rw [e1]
 obtain ⟨w2, e2, RB, hb2, hz2⟩ := box3 w1 48 (.int .i64 e.kind) (.int .i64 e.num) (.slice se e.kids.length ce)
 rw [e2]
 obtain ⟨w3, e3, RC, hb3, hz3⟩ := box2 w2 44 (.slice none 0 0) (.slice none 0 0)
 rw [e3]
 rw [hz1] at RB
 rw [hz2, hz1] at RC
 replace RA := (RA.below hb2).below hb3
 replace RB := RB.below hb3
 have hB := (hb1.trans (hb2.mono (by omega))).trans (hb3.mono (by omega))
 have hz3' : w3.heap.size = w.heap.size + 1 + 1 + 1 := by omega
 have hx : ExAt w3 (w.heap.size + 1) 0 e := ⟨RB.c0, RB.c1, se, ce, RB.c2, he.below hB⟩
 clear e1 e2 e3 hb1 hb2 hb3
 refine (from_i (hr.below hB) HX.out).mono ?_
 rintro f w5 ⟨sb, rfl, S, hb⟩
 have hsl := S.lt
 have hs0 := S.1
 have Hx := Lib.hid hx
 have HA := Lib.hid (RA.below hb)
 have HC := Lib.hid (RC.below hb)
 have HB5 := Lib.hid (Below.on hB hb hB.size)
 have hz5 := hb.size
 obtain ⟨a0, a1, al⟩ := HA.out.all2
 have Hb := Lib.hid hb
 clear hB hr he RB RA RC hx hb
 go_wp2_with fail
 clear a0 a1
 refine (fitting_i S (by omega) (by omega) Hok.out Hx.out Hb.out rfl).mono ?_
 rintro f w6 ⟨ps, qs, s', c', u', d', rfl, hf, D6⟩
 have hz6 := D6.size
 have HA6 := Lib.hid (D6.blk HA.out (by omega))
 have HC6 := Lib.hid (D6.blk HC.out (by omega))
 have HB6 := Lib.hid (HB5.out.trans ((D6.below (by omega)).mono (by omega)))
 clear D6 S
 obtain ⟨w7, e7, K, hb7, hz7⟩ := box2 w6 44 (.slice s' ps.length c') (.slice u' qs.length d')
 have HA7 := Lib.hid (HA6.out.below hb7)
 have HC7 := Lib.hid (HC6.out.below hb7)
 have HB7 := Lib.hid (HB6.out.trans (hb7.mono (by omega)))
 have hf7 := hf.keep (w'' := w7) (fun b _ h2 => hb7.block b h2)
 obtain ⟨a0, a1, al⟩ := HA6.out.all2
 have hrs := hf7.rds
 simp only [wordD, Rds] at hrs
 obtain ⟨x1, q1, e1, r1, x2, q2, e2, r2, e3⟩ := hrs
 simp only [List.cons.injEq] at e1 e2
 obtain ⟨rfl, rfl⟩ := e1
 simp only [List.cons.injEq] at e2
 obtain ⟨rfl, -⟩ := e2
 obtain ⟨c0', c1', cl'⟩ := HA7.out.all2
 have HWA : Hid (WdAt w7 w6.heap.size 0 ps qs) := ⟨s', c', u', d', K.c0, K.c1, r1, r2⟩
 have HK := Lib.hid K
 have Hf7 := Lib.hid hf7
 have Hb7 := Lib.hid hb7
 clear hf r1 r2 hf7 hb7 K e3
 go_wp2_with fail
 clear e7 a0 a1 c0' c1' cl'
 refine (l01Word_i HWA.out).mono ?_
 rintro f w8 ⟨rfl, hb8⟩
 have HC8 := HC7.out.below hb8
 have HK8 := HK.out.below hb8
 have hf8 := Hf7.out.keep (w'' := w8) (fun b _ h2 => hb8.block b h2)
 have hz8 := hb8.size
 have HB8 := Lib.hid (HB7.out.trans (hb8.mono (by omega)))
 obtain ⟨q, hq⟩ : ∃ q, wordB t a ps qs = q := ⟨_, rfl⟩
 rw [hq]
 obtain ⟨r0, r1, rl⟩ := HC8.all2
 have rf0 := HC8.frozen 0
 have rf1 := HC8.frozen 1
 obtain ⟨m0, m1, ml⟩ := HK8.all2
 cases q with
 | true =>
  have Hq := Lib.hid hq
  clear hb8 hq
  go_wp2_with fail
  obtain ⟨w9, e9, R9, hs9⟩ := Blk.set2 HC8 (.slice s' ps.length c') (.slice u' qs.length d')
  rw [e9]
  obtain ⟨rr0, rr1, -⟩ := R9.all2
  refine bodyPost_ret (v := .agg #[.slice s' ps.length c', .slice u' qs.length d']) (by simp [results, Try.results14, go_sem, rr0, rr1]) rfl ?_
  exact ⟨ps, qs, _, _, _, _, rfl, (hf8.keep fun b h1 h2 => hs9.block b h2 (by omega)).rds, Hq.out, HB8.out.trans (hs9.below (by omega) (fun i hi => by omega))⟩
 | false =>
  clear hb8 hq
  go_wp2_with fail
  obtain ⟨w9, e9, R9, hs9⟩ := Blk.set2 HC8 (.slice (some ⟨w8.heap.size, 0, none⟩) 1 1) (.slice none 0 0)
  rw [e9]
  have hz9 : w9.heap.size = w8.heap.size := by rw [← e9]; simp [World.setCell]
  obtain ⟨w10, e10, K10, hb10, hz10⟩ := box1 w9 2 (.int .i64 0)
  rw [e10]
  rw [hz9] at K10
  obtain ⟨rr0, rr1, -⟩ := (R9.below hb10).all2
  refine bodyPost_ret (v := .agg #[.slice (some ⟨w8.heap.size, 0, none⟩) 1 1, .slice none 0 0]) (by simp [results, Try.results14, go_sem, rr0, rr1]) rfl ?_
  exact ⟨[0], [], _, _, _, _, rfl, word_one K10, wordB_one (okB_sig Hok.out), (HB8.out.trans (hs9.below (by omega) (fun i hi => by omega))).trans (hb10.mono (by omega))⟩
end Go.Proofs.Ytfhlddbngjlhbaa
