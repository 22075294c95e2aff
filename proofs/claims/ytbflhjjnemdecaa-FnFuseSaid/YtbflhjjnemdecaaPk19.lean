/-
  Parts of a proof, joined: WdW, Lang, Run, Mat, MatQ, Spn, SpnI, SpnW. No condition.
-/
import Derived.BigRegion
import Derived.Test.YtbflhjjnemdecaaPk18
namespace Go.Proofs.Ytbflhjjnemdecaa
set_option linter.unusedVariables false
set_option linter.unusedSimpArgs false
open Go.ChangeShapes Go.WideShapes Go.ChangeAt Go.RowKit Go.Deep Go.Sort
theorem okB_of {t a : Int} {e : Ex} (hs : sigB t a = true) (ht : e.tree (t - 1) (a - 1) = true) (hz : e.size ≤ 40) : okB t a e = true := by
 have := Ex.depth_le e
 unfold okB
 rw [hs, ht]
 simp only [Bool.true_and, Bool.and_true, Bool.and_eq_true, decide_eq_true_eq]
 omega
structure DrawnT (t a n : Int) where
 e : Ex
 s : Option Addr
 c : Nat
 cs : Option Addr
 cl : Nat
 cc : Nat
 p : Nat
 y : Int
 h : (e.size : Int) ≤ 2 * n - 1
 tr : e.tree (t - 1) (a - 1) = true
theorem drawnT_at {B b N : Nat} {t a n : Int} {w : World} (h : SrcW B b N w) (hN : N ≤ 10000000) (hB : B ≤ w.heap.size) (hs : sigB t a = true) (hn : 1 ≤ n) (hn2 : n ≤ 1000) :
  Calls Try.prog 89 #[.pointer (some ⟨b, 0, none⟩), .agg #[.int .i64 t, .int .i64 a], .int .i64 n] w fun f w' => ∃ u : DrawnT t a n, f = .returned (.agg #[.int .i64 u.e.kind, .int .i64 u.e.num, .slice u.s u.e.kids.length u.c]) ∧ Freshs w w' [kidsD u.e.kids] [.slice u.s u.e.kids.length u.c] ∧
   Spares (fun i => i = b) w w' ∧ Blk w' b 155 [.slice u.cs u.cl u.cc, .int .i64 u.p, .int .u64 u.y] := by
 refine (drawn_i h hN hB hs hn hn2).mono ?_
 rintro f w' ⟨e, s, c, h1, h2, h3, h4, ⟨h5, xs, cs, cc, p, y, k1, k2⟩, h6⟩
 exact ⟨⟨e, s, c, cs, xs.length, cc, p, y, h4, h3⟩, h1, h2, h6, k1⟩
theorem wordB_one {t a : Int} (hs : sigB t a = true) : wordB t a [0] [] = true := by
 have := (atomsN_bd t).1
 unfold wordB
 rw [hs]
 simp [allIn, inB]
 omega
theorem word_one {w : World} {g : Nat} (h : Blk w g 2 [.int .i64 0]) : Rds w (wordD [0] []) [.slice (some ⟨g, 0, none⟩) ([0] : List Int).length 1, .slice none ([] : List Int).length 0] := by
 have h1 : Rd w (intsD [0]) (.slice (some ⟨g, 0, none⟩) 1 1) := (ints_app (zs := [0]) h (by unfold maxLen; simp)).rd
 have h2 : AppS (fun _ => True) w 2 1 0 [] (.slice none 0 0) := ⟨[], [], ⟨by simp, Or.inl ⟨rfl, rfl⟩⟩, Ows.nil, by simp, by simp, by simp [Value.ownBlock]⟩
 have h3 : Rd w (intsD []) (.slice none 0 0) := h2.rd
 simp only [wordD, Rds]
 exact ⟨_, _, rfl, h1, _, _, rfl, h3, rfl⟩
set_option maxHeartbeats 4000000 in
theorem a2Other_j {xs : List Int} {s : Option Addr} {c : Nat} {t a : Int} {w : World} (hr : Rd w (bytesD xs) (.slice s xs.length c)) (hx : ∀ x ∈ xs, 0 ≤ x ∧ x ≤ 255) (hs : sigB t a = true) :
  Calls Try.prog 39 #[.slice s xs.length c, .agg #[.int .i64 t, .int .i64 a]] w fun z w' => ∃ (e : Ex) (s' : Option Addr) (c' : Nat), z = .returned (.agg #[.int .i64 e.kind, .int .i64 e.num, .slice s' e.kids.length c']) ∧ Rd w' (kidsD e.kids) (.slice s' e.kids.length c') ∧
   (okB t a e = true ∧ e.size ≤ 11) ∧ Below w.heap.size w w' := by
 have HX := Lib.hid hx
 have Hs := Lib.hid hs
 clear hx hs
 go_enter Try.func39, Try.ntmps39
 go_wp2_with fail
 obtain ⟨w1, e1, RA, hb1, hz1⟩ := box2 w 34 (.int .i64 t) (.int .i64 a)
 rw [e1]
 obtain ⟨w2, e2, RB, hb2, hz2⟩ := box3 w1 38 (.int .i64 0) (.int .i64 0) (.slice none 0 0)
 rw [e2]
 rw [hz1] at RB
 replace RA := RA.below hb2
 have hB := hb1.trans (hb2.mono (by omega))
 clear e1 e2 hb1 hb2
 refine (from_i (hr.below hB) HX.out).mono ?_
 rintro f w5 ⟨sb, rfl, S, hb⟩
 have hsl := S.lt
 have hs0 := S.1
 replace RA := RA.below hb
 replace RB := RB.below hb
 have HB5 := Lib.hid (Below.on hB hb hB.size)
 have hz5 := hb.size
 obtain ⟨a0, a1, al⟩ := RA.all2
 clear hb hB hr
 go_wp2_with fail
 clear a0 a1
 refine (drawn_i (n := 6) S (by omega) (by omega) Hs.out (by omega) (by omega)).mono ?_
 rintro f w9 ⟨e, s1, c1, rfl, hf, htr, hsz1, D1⟩
 have hz9 := D1.size
 replace RB := D1.blk RB (by omega)
 have HB9 := Lib.hid (HB5.out.trans ((D1.below (by omega)).mono (by omega)))
 have ltB := RB.lt
 clear D1 S RA
 have z0 := RB.frozen 0
 have z1 := RB.frozen 1
 have z2 := RB.frozen 2
 obtain ⟨k0, k1, k2, -, -, -, kl⟩ := RB.all3
 go_wp2_with fail
 have hset : Spares (fun i => i = w.heap.size + 1) w9 (((w9.setCell ⟨w.heap.size + 1, 0, none⟩ (.int .i64 e.kind)).setCell ⟨w.heap.size + 1, 1, none⟩ (.int .i64 e.num)).setCell ⟨w.heap.size + 1, 2, none⟩ (.slice s1 e.kids.length c1)) := Spares.set (Spares.set (Spares.set (Spares.refl _)))
 have R' := ((RB.set 0 (.int .i64 e.kind)).set 1 (.int .i64 e.num)).set 2 (.slice s1 e.kids.length c1)
 have q0 := R'.c0
 have q1 := R'.c1
 have q2 := R'.c2
 refine bodyPost_ret (v := .agg #[.int .i64 e.kind, .int .i64 e.num, .slice s1 e.kids.length c1]) (by simp [results, Try.results39, go_sem, q0, q1, q2]) rfl ?_
 exact ⟨e, s1, c1, rfl, (hf.keep fun b hb1 hb2 => hset.block b hb2 (by omega)).rd1, ⟨okB_of Hs.out htr (by omega), by omega⟩, HB9.out.trans (hset.below (by omega) (fun i hi => by omega))⟩
set_option maxHeartbeats 4000000 in
theorem a2Expr_i {xs : List Int} {s : Option Addr} {c : Nat} {w : World} (hr : Rd w (bytesD xs) (.slice s xs.length c)) (hx : ∀ x ∈ xs, 0 ≤ x ∧ x ≤ 255) :
  Calls Try.prog 38 #[.slice s xs.length c] w fun z w' => ∃ (t a : Int) (e : Ex) (s' : Option Addr) (c' : Nat), z = .returned (.tuple #[.agg #[.int .i64 t, .int .i64 a], .agg #[.int .i64 e.kind, .int .i64 e.num, .slice s' e.kids.length c']]) ∧ Rd w' (kidsD e.kids) (.slice s' e.kids.length c') ∧
   (sigB t a = true ∧ okB t a e = true ∧ e.size ≤ 19) ∧ Below w.heap.size w w' := by
 have HX := Lib.hid hx
 clear hx
 go_enter Try.func38, Try.ntmps38
 go_wp2_with fail
 obtain ⟨w1, e1, RA, hb1, hz1⟩ := box2 w 34 (.int .i64 0) (.int .i64 0)
 rw [e1]
 obtain ⟨w2, e2, RB, hb2, hz2⟩ := box3 w1 38 (.int .i64 0) (.int .i64 0) (.slice none 0 0)
 rw [e2]
 rw [hz1] at RB
 replace RA := RA.below hb2
 have hB := hb1.trans (hb2.mono (by omega))
 clear e1 e2 hb1 hb2
 refine (from_j (B := w.heap.size) ((RdX.of_rd hr (fun b hb => by omega)).below hB) HX.out (by omega)).mono ?_
 rintro f w5 ⟨sb, rfl, hsB, S, hb⟩
 have hsl := S.lt
 replace RA := RA.below hb
 replace RB := RB.below hb
 have HB5 := Lib.hid (Below.on hB hb hB.size)
 have hz5 := hb.size
 clear hb hB hr
 go_wp2_with fail
 refine (drawSig_i S (by omega) (by omega)).mono ?_
 rintro f w6 ⟨t, a, rfl, hs, D1⟩
 have Hs := Lib.hid hs
 have hz6 := D1.size
 obtain ⟨w7, e7, K, hb7, hz7⟩ := box2 w6 34 (.int .i64 t) (.int .i64 a)
 have D2 := D1.on hb7
 replace RA := D2.blk RA (by omega)
 replace RB := D2.blk RB (by omega)
 have HBW := Lib.hid (HB5.out.trans ((D2.below (by omega))))
 obtain ⟨sg0, sg1, sgl⟩ := K.all2
 have HSG := Lib.hid K
 have HS := Lib.hid D2.1
 clear hs D1 D2 hb7 S K
 go_wp2_with fail
 clear e7 sg0 sg1
 obtain ⟨hb0, xs', cs, cc, p, z, KS, hrx, hxs, hpN⟩ := HS.out
 have HRX := Lib.hid hrx
 have HXS := Lib.hid hxs
 have hsW := KS.lt
 have hWw : w.heap.size ≤ w7.heap.size := HBW.out.size
 have HSRC0 : ∀ w1 : World, Below w.heap.size w7 w1 → Blk w1 sb 155 [.slice cs xs'.length cc, .int .i64 p, .int .u64 z] → SrcW w.heap.size sb 4 w1 := fun w1 hB K1 => ⟨hb0, xs', cs, cc, p, z, K1, HRX.out.keep ⟨hB.size, fun i hi hn => hB.block i (by omega)⟩, HXS.out, by omega⟩
 have HSRC := Lib.hid HSRC0
 clear hrx hxs hpN HSRC0
 have hGb : ∀ m b, (fun m b => (m = 0 ∧ b = sb) ∨ (m = 1 ∧ b = w.heap.size) ∨ (m = 2 ∧ b = w.heap.size + 1)) m b → (w.heap.size) ≤ b ∧ b < (w7).heap.size := by
  intro m b hg
  have q := KS.lt
  have q2 := RB.lt
  omega
 have hGd : ∀ m m' b, (fun m b => (m = 0 ∧ b = sb) ∨ (m = 1 ∧ b = w.heap.size) ∨ (m = 2 ∧ b = w.heap.size + 1)) m b → (fun m b => (m = 0 ∧ b = sb) ∨ (m = 1 ∧ b = w.heap.size) ∨ (m = 2 ∧ b = w.heap.size + 1)) m' b → m = m' := by
  intro m m' b h h'
  omega
 refine region_rs [] [(3, 0), (4, 1), (5, 2)] (fun m b => (m = 0 ∧ b = sb) ∨ (m = 1 ∧ b = w.heap.size) ∨ (m = 2 ∧ b = w.heap.size + 1)) (w.heap.size) (fun i iv vs wx => match i with
  | 0 => vs 0 = .agg #[.int .i64 t, .int .i64 a]
  | 1 => vs 1 = .pointer (some ⟨sb, 0, none⟩)
  | 2 => vs 2 = .agg #[.int .i64 t, .int .i64 a]
  | 3 => ∃ u, vs 3 = .agg #[.int .i64 (DrawnT.e (t := t) (a := a) (n := 10) u).kind, .int .i64 u.e.num, .slice u.s u.e.kids.length u.c] ∧ FreshIn (iv 3) wx [kidsD u.e.kids] [.slice u.s u.e.kids.length u.c] ∧ Blk wx (sb) 155 [.slice u.cs u.cl u.cc, .int .i64 u.p, .int .u64 u.y]
  | 4 => Blk wx (w.heap.size) 34 [.int .i64 t, .int .i64 a]
  | 5 => Blk wx (w.heap.size + 1) 38 [aggAt (vs 3) 0, aggAt (vs 3) 1, aggAt (vs 3) 2]
  | _ => True) (fun i iv vs => match i with
  | 0 => vs 0 = .agg #[.int .i64 t, .int .i64 a]
  | 1 => vs 1 = .pointer (some ⟨sb, 0, none⟩)
  | 2 => vs 2 = .agg #[.int .i64 t, .int .i64 a]
  | 3 => ∃ u, vs 3 = .agg #[.int .i64 (DrawnT.e (t := t) (a := a) (n := 10) u).kind, .int .i64 u.e.num, .slice u.s u.e.kids.length u.c]
  | 4 => True
  | 5 => True
  | _ => True) (by kernel_rfl) (by kernel_rfl) [0, 1, 2, 3, 4, 5] (by kernel_rfl) ?hbase ?hGb ?hG ?hJ ?hE ?hEE ?hstep ?hQ
 case hbase => first | exact Nat.le_refl _ | omega | (simp; omega)
 case hGb =>
  exact hGb
 case hG =>
  exact hGd
 case hJ =>
  intro i hi iv iv' vs vs' wx wx' ha hv hz hk hj
  simp only [List.mem_cons, List.not_mem_nil, or_false] at hi
  rcases hi with rfl | rfl | rfl | rfl | rfl | rfl
  ·
   exact (hv.out 0 (mem_of (by kernel_rfl))).symm.trans hj
  ·
   exact (hv.out 1 (mem_of (by kernel_rfl))).symm.trans hj
  ·
   exact (hv.out 2 (mem_of (by kernel_rfl))).symm.trans hj
  ·
   have e3 := hv.out 3 (mem_of (by kernel_rfl))
   have g3 := ha.out 3 (mem_of (by kernel_rfl))
   obtain ⟨u, q1, q2, q3⟩ := hj
   exact ⟨u, e3 ▸ q1, g3 ▸ q2.keep (fun b hb h1 h2 => hk.out b hb (foot_own h1 h2)), q3.keep (hk.out _ q3.lt (foot_given 0 (by decide) (Or.inl ⟨rfl, rfl⟩)))⟩
  ·
   have hj' : Blk wx (w.heap.size) 34 [.int .i64 t, .int .i64 a] := hj
   show Blk wx' (w.heap.size) 34 [.int .i64 t, .int .i64 a]
   exact hj'.keep (hk.out _ hj'.lt (foot_given 1 (by decide) (Or.inr (Or.inl ⟨rfl, rfl⟩))))
  ·
   have e3 := hv.out 3 (mem_of (by kernel_rfl))
   have hj' : Blk wx (w.heap.size + 1) 38 [aggAt (vs 3) 0, aggAt (vs 3) 1, aggAt (vs 3) 2] := hj
   show Blk wx' (w.heap.size + 1) 38 [aggAt (vs' 3) 0, aggAt (vs' 3) 1, aggAt (vs' 3) 2]
   rw [← e3]
   exact hj'.keep (hk.out _ hj'.lt (foot_given 2 (by decide) (Or.inr (Or.inr ⟨rfl, rfl⟩))))
 case hE =>
  intro i hi iv vs wx hj
  simp only [List.mem_cons, List.not_mem_nil, or_false] at hi
  rcases hi with rfl | rfl | rfl | rfl | rfl | rfl
  ·
   exact hj
  ·
   exact hj
  ·
   exact hj
  ·
   obtain ⟨u, q1, -⟩ := hj
   exact ⟨u, q1⟩
  ·
   trivial
  ·
   trivial
 case hEE =>
  intro i hi iv iv' vs vs' ha hv hj
  simp only [List.mem_cons, List.not_mem_nil, or_false] at hi
  rcases hi with rfl | rfl | rfl | rfl | rfl | rfl
  ·
   exact (hv.out 0 (mem_of (by kernel_rfl))).symm.trans hj
  ·
   exact (hv.out 1 (mem_of (by kernel_rfl))).symm.trans hj
  ·
   exact (hv.out 2 (mem_of (by kernel_rfl))).symm.trans hj
  ·
   have e3 := hv.out 3 (mem_of (by kernel_rfl))
   have hj' : ∃ u, vs 3 = .agg #[.int .i64 (DrawnT.e (t := t) (a := a) (n := 10) u).kind, .int .i64 u.e.num, .slice u.s u.e.kids.length u.c] := hj
   show ∃ u, vs' 3 = .agg #[.int .i64 (DrawnT.e (t := t) (a := a) (n := 10) u).kind, .int .i64 u.e.num, .slice u.s u.e.kids.length u.c]
   rw [← e3]
   exact hj'
  ·
   trivial
  ·
   trivial
 case hstep =>
  intro i hi opr ho iv vs w1 hB hS hSo hd he hbd hsep hun K hK
  simp only [List.mem_cons, List.not_mem_nil, or_false] at hi
  have hzB := hB.size
  have HGb := Lib.hid hGb
  clear hGb hGd
  have hKeep : ∀ g, g < w7.heap.size → g ≠ sb → w.heap.size + 1 < g → w1.heap[g]? = w7.heap[g]? := fun g hg h1 h2 => hSo.out.block g hg (fun ⟨m, hm⟩ => by rcases hm with ⟨_, h⟩ | ⟨_, h⟩ | ⟨_, h⟩ <;> omega)
  obtain ⟨sg0, sg1, sgl⟩ := (HSG.out.keep (hKeep _ HSG.out.lt (by omega) (by omega))).all2
  clear hKeep
  generalize hA : putFrom _ 0 vs _ = A at hK ⊢
  simp only [putFrom, puts] at hA
  rcases hi with rfl | rfl | rfl | rfl | rfl | rfl
  all_goals
   simp at ho
   subst ho
   subst hA
  ·
   go_wp2_with fail
   exact Onward.mk (hK (.agg #[.int .i64 t, .int .i64 a]) _ _ (fun h => by cases h) (by first | rfl | (simp only [puts])) (Spares.refl _) (fun iv' _ _ => rfl))
  ·
   go_wp2_with fail
   exact Onward.mk (hK (.pointer (some ⟨sb, 0, none⟩)) _ _ (fun h => by cases h) (by first | rfl | (simp only [puts])) (Spares.refl _) (fun iv' _ _ => rfl))
  ·
   go_wp2_with fail
   exact Onward.mk (hK (.agg #[.int .i64 t, .int .i64 a]) _ _ (fun h => by cases h) (by first | rfl | (simp only [puts])) (Spares.refl _) (fun iv' _ _ => rfl))
  ·
   have h1 : vs 1 = .pointer (some ⟨sb, 0, none⟩) := hd.out 1 (mem_of (by kernel_rfl)) (by decide) (by kernel_rfl)
   have h2 : vs 2 = .agg #[.int .i64 t, .int .i64 a] := hd.out 2 (mem_of (by kernel_rfl)) (by decide) (by kernel_rfl)
   have KS1 := KS.keep (hS.out 0 _ (by kernel_rfl) (Or.inl ⟨rfl, rfl⟩))
   have ksc0 := KS1.c0
   have ksz0 := KS1.frozen 0
   have ksc1 := KS1.c1
   have ksz1 := KS1.frozen 1
   have ksc2 := KS1.c2
   have ksz2 := KS1.frozen 2
   have kslt := KS1.lt
   go_wp2_with fail
   refine (drawnT_at (n := 10) (B := w.heap.size) (N := 4) (t := t) (a := a) (HSRC.out w1 hB KS1) (by omega) (by omega) Hs.out (by omega) (by omega)).mono ?_
   rintro e w2 ⟨u, rfl, hf, hs, hbk⟩
   go_wp2_with fail
   exact Onward.mk (hK (.agg #[.int .i64 (DrawnT.e (t := t) (a := a) (n := 10) u).kind, .int .i64 u.e.num, .slice u.s u.e.kids.length u.c]) _ _ (fun h => by cases h) (by first | rfl | (simp only [puts, h1, h2])) (hs.more (fun b h => Or.inl ⟨0, by decide, (Or.inl ⟨rfl, h⟩)⟩)) (fun iv' _ hi => ⟨u, rfl, by rw [hi]; exact Freshs.stretch (hf), hbk⟩))
  ·
   have h0 : vs 0 = .agg #[.int .i64 t, .int .i64 a] := hd.out 0 (mem_of (by kernel_rfl)) (by decide) (by kernel_rfl)
   have RA1 := RA.keep (hS.out 1 _ (by kernel_rfl) (Or.inr (Or.inl ⟨rfl, rfl⟩)))
   have rac0 := RA1.c0
   have raz0 := RA1.frozen 0
   have rac1 := RA1.c1
   have raz1 := RA1.frozen 1
   have ralt := RA1.lt
   go_wp2_with fail
   exact Onward.mk (hK undef _ _ (fun _ => rfl) (by simp only [puts, h0]) ((spares_sets (b0 := w.heap.size) (by repeat (first | exact Spares.refl _ | apply Spares.set))).more (fun b h => Or.inl ⟨1, by decide, (Or.inr (Or.inl ⟨rfl, h⟩))⟩)) (fun iv' ag hi => by
    show Blk _ (w.heap.size) 34 [.int .i64 t, .int .i64 a]
    exact ((RA1.set 0 _).set 1 _)))
  ·
   obtain ⟨u, h3, f3, fb3⟩ := hd.out 3 (mem_of (by kernel_rfl)) (by decide) (by kernel_rfl)
   have RB1 := RB.keep (hS.out 2 _ (by kernel_rfl) (Or.inr (Or.inr ⟨rfl, rfl⟩)))
   have rbc0 := RB1.c0
   have rbz0 := RB1.frozen 0
   have rbc1 := RB1.c1
   have rbz1 := RB1.frozen 1
   have rbc2 := RB1.c2
   have rbz2 := RB1.frozen 2
   have rblt := RB1.lt
   have h3' := h3
   go_wp2_with fail
   exact Onward.mk (hK undef _ _ (fun _ => rfl) (by simp only [puts, h3]) ((spares_sets (b0 := w.heap.size + 1) (by repeat (first | exact Spares.refl _ | apply Spares.set))).more (fun b h => Or.inl ⟨2, by decide, (Or.inr (Or.inr ⟨rfl, h⟩))⟩)) (fun iv' ag hi => by
    show Blk _ (w.heap.size + 1) 38 [aggAt (vs 3) 0, aggAt (vs 3) 1, aggAt (vs 3) 2]
    rw [h3]
    exact (((RB1.set 0 _).set 1 _).set 2 _)))
 case hQ =>
  intro iv vs wx hB hSp hd he hbd hsep
  have hzB := hB.size
  have h0 : vs 0 = .agg #[.int .i64 t, .int .i64 a] := hd.out 0 (mem_of (by kernel_rfl)) (not_eaten (by kernel_rfl))
  have h1 : vs 1 = .pointer (some ⟨sb, 0, none⟩) := hd.out 1 (mem_of (by kernel_rfl)) (not_eaten (by kernel_rfl))
  have h2 : vs 2 = .agg #[.int .i64 t, .int .i64 a] := hd.out 2 (mem_of (by kernel_rfl)) (not_eaten (by kernel_rfl))
  obtain ⟨u, h3, f3, fb3⟩ := hd.out 3 (mem_of (by kernel_rfl)) (not_eaten (by kernel_rfl))
  have f4 : Blk _ (w.heap.size) 34 [.int .i64 t, .int .i64 a] := hd.out 4 (mem_of (by kernel_rfl)) (not_eaten (by kernel_rfl))
  have f5 : Blk _ (w.heap.size + 1) 38 [aggAt (vs 3) 0, aggAt (vs 3) 1, aggAt (vs 3) 2] := hd.out 5 (mem_of (by kernel_rfl)) (not_eaten (by kernel_rfl))
  simp only [putFrom, puts]
  rw [h3] at f5
  have hu := u.h
  have ht := u.tr
  obtain ⟨a0, a1, al⟩ := f4.all2
  obtain ⟨k0, k1, k2, -, -, -, kl⟩ := f5.all3
  simp only [aggAt] at k0 k1 k2
  go_wp2_with fail
  refine bodyPost_ret (v := .tuple #[.agg #[.int .i64 t, .int .i64 a], .agg #[.int .i64 u.e.kind, .int .i64 u.e.num, .slice u.s u.e.kids.length u.c]]) (by simp [results, Try.results38, go_sem, a0, a1, k0, k1, k2]) rfl ?_
  exact ⟨t, a, u.e, u.s, u.c, rfl, f3.rd, ⟨Hs.out, okB_of Hs.out ht (by omega), by omega⟩, HBW.out.trans hB⟩
set_option maxHeartbeats 4000000 in
theorem a2Word_i {xs : List Int} {s : Option Addr} {c : Nat} {t a : Int} {e : Ex} {se : Option Addr} {ce : Nat} {w : World} (hr : Rd w (bytesD xs) (.slice s xs.length c)) (hx : ∀ x ∈ xs, 0 ≤ x ∧ x ≤ 255) (he : Rd w (kidsD e.kids) (.slice se e.kids.length ce)) (hok : okB t a e = true) :
  Calls Try.prog 32 #[.slice s xs.length c, .agg #[.int .i64 t, .int .i64 a], .agg #[.int .i64 e.kind, .int .i64 e.num, .slice se e.kids.length ce]] w fun z w' => ∃ (ps qs : List Int) (s' : Option Addr) (c' : Nat) (u' : Option Addr) (d' : Nat), z = .returned (.agg #[.slice s' ps.length c', .slice u' qs.length d']) ∧ Rds w' (wordD ps qs) [.slice s' ps.length c', .slice u' qs.length d'] ∧
   wordB t a ps qs = true ∧ Below w.heap.size w w' := by
 have HX := Lib.hid hx
 have Hok := Lib.hid hok
 clear hx hok
 go_enter Try.func32, Try.ntmps32
 go_wp2_with fail
 obtain ⟨w1, e1, RA, hb1, hz1⟩ := box2 w 34 (.int .i64 t) (.int .i64 a)
 rw [e1]
 obtain ⟨w2, e2, RB, hb2, hz2⟩ := box3 w1 38 (.int .i64 e.kind) (.int .i64 e.num) (.slice se e.kids.length ce)
 rw [e2]
 obtain ⟨w3, e3, RC, hb3, hz3⟩ := box2 w2 40 (.slice none 0 0) (.slice none 0 0)
 rw [e3]
 rw [hz1] at RB
 rw [hz2, hz1] at RC
 replace RA := (RA.below hb2).below hb3
 replace RB := RB.below hb3
 have hB := (hb1.trans (hb2.mono (by omega))).trans (hb3.mono (by omega))
 have hz3' : w3.heap.size = w.heap.size + 1 + 1 + 1 := by omega
 have hx : ExAt w3 (w.heap.size + 1) 0 e := ⟨RB.c0, RB.c1, se, ce, RB.c2, he.below hB⟩
 clear e1 e2 e3 hb1 hb2 hb3
 refine (from_i (hr.below hB) HX.out).mono ?_
 rintro f w5 ⟨sb, rfl, S, hb⟩
 have hsl := S.lt
 have hs0 := S.1
 have Hx := Lib.hid hx
 have HA := Lib.hid (RA.below hb)
 have HC := Lib.hid (RC.below hb)
 have HB5 := Lib.hid (Below.on hB hb hB.size)
 have hz5 := hb.size
 obtain ⟨a0, a1, al⟩ := HA.out.all2
 have Hb := Lib.hid hb
 clear hB hr he RB RA RC hx hb
 go_wp2_with fail
 clear a0 a1
 refine (fitting_i S (by omega) (by omega) Hok.out Hx.out Hb.out rfl).mono ?_
 rintro f w6 ⟨ps, qs, s', c', u', d', rfl, hf, D6⟩
 have hz6 := D6.size
 have HA6 := Lib.hid (D6.blk HA.out (by omega))
 have HC6 := Lib.hid (D6.blk HC.out (by omega))
 have HB6 := Lib.hid (HB5.out.trans ((D6.below (by omega)).mono (by omega)))
 clear D6 S
 obtain ⟨w7, e7, K, hb7, hz7⟩ := box2 w6 40 (.slice s' ps.length c') (.slice u' qs.length d')
 have HA7 := Lib.hid (HA6.out.below hb7)
 have HC7 := Lib.hid (HC6.out.below hb7)
 have HB7 := Lib.hid (HB6.out.trans (hb7.mono (by omega)))
 have hf7 := hf.keep (w'' := w7) (fun b _ h2 => hb7.block b h2)
 obtain ⟨a0, a1, al⟩ := HA6.out.all2
 have hrs := hf7.rds
 simp only [wordD, Rds] at hrs
 obtain ⟨x1, q1, e1, r1, x2, q2, e2, r2, e3⟩ := hrs
 simp only [List.cons.injEq] at e1 e2
 obtain ⟨rfl, rfl⟩ := e1
 simp only [List.cons.injEq] at e2
 obtain ⟨rfl, -⟩ := e2
 obtain ⟨c0', c1', cl'⟩ := HA7.out.all2
 have HWA : Hid (WdAt w7 w6.heap.size 0 ps qs) := ⟨s', c', u', d', K.c0, K.c1, r1, r2⟩
 have HK := Lib.hid K
 have Hf7 := Lib.hid hf7
 have Hb7 := Lib.hid hb7
 clear hf r1 r2 hf7 hb7 K e3
 go_wp2_with fail
 clear e7 a0 a1 c0' c1' cl'
 refine (l01Word_i HWA.out).mono ?_
 rintro f w8 ⟨rfl, hb8⟩
 have HC8 := HC7.out.below hb8
 have HK8 := HK.out.below hb8
 have hf8 := Hf7.out.keep (w'' := w8) (fun b _ h2 => hb8.block b h2)
 have hz8 := hb8.size
 have HB8 := Lib.hid (HB7.out.trans (hb8.mono (by omega)))
 obtain ⟨q, hq⟩ : ∃ q, wordB t a ps qs = q := ⟨_, rfl⟩
 rw [hq]
 obtain ⟨r0, r1, rl⟩ := HC8.all2
 have rf0 := HC8.frozen 0
 have rf1 := HC8.frozen 1
 obtain ⟨m0, m1, ml⟩ := HK8.all2
 cases q with
 | true =>
  have Hq := Lib.hid hq
  clear hb8 hq
  go_wp2_with fail
  obtain ⟨w9, e9, R9, hs9⟩ := Blk.set2 HC8 (.slice s' ps.length c') (.slice u' qs.length d')
  rw [e9]
  obtain ⟨rr0, rr1, -⟩ := R9.all2
  refine bodyPost_ret (v := .agg #[.slice s' ps.length c', .slice u' qs.length d']) (by simp [results, Try.results32, go_sem, rr0, rr1]) rfl ?_
  exact ⟨ps, qs, _, _, _, _, rfl, (hf8.keep fun b h1 h2 => hs9.block b h2 (by omega)).rds, Hq.out, HB8.out.trans (hs9.below (by omega) (fun i hi => by omega))⟩
 | false =>
  clear hb8 hq
  go_wp2_with fail
  obtain ⟨w9, e9, R9, hs9⟩ := Blk.set2 HC8 (.slice (some ⟨w8.heap.size, 0, none⟩) 1 1) (.slice none 0 0)
  rw [e9]
  have hz9 : w9.heap.size = w8.heap.size := by rw [← e9]; simp [World.setCell]
  obtain ⟨w10, e10, K10, hb10, hz10⟩ := box1 w9 2 (.int .i64 0)
  rw [e10]
  rw [hz9] at K10
  obtain ⟨rr0, rr1, -⟩ := (R9.below hb10).all2
  refine bodyPost_ret (v := .agg #[.slice (some ⟨w8.heap.size, 0, none⟩) 1 1, .slice none 0 0]) (by simp [results, Try.results32, go_sem, rr0, rr1]) rfl ?_
  exact ⟨[0], [], _, _, _, _, rfl, word_one K10, wordB_one (okB_sig Hok.out), (HB8.out.trans (hs9.below (by omega) (fun i hi => by omega))).trans (hb10.mono (by omega))⟩
end Go.Proofs.Ytbflhjjnemdecaa

namespace Go.Proofs.Ytbflhjjnemdecaa
set_option linter.unusedVariables false
set_option linter.unusedSimpArgs false
def Lng := List (Nat × Nat) → Nat → Prop
def hdA : List (Nat × Nat) → Nat → Nat
 | [], m => m
 | p :: _, _ => p.1
theorem hdA_append (u v : List (Nat × Nat)) (m : Nat) : hdA (u ++ v) m = hdA u (hdA v m) := by cases u <;> rfl
def sumG (K L : Lng) : Lng := fun ws m => K ws m ∨ L ws m
def dotG (K L : Lng) : Lng := fun ws m => ∃ u v, ws = u ++ v ∧ K u (hdA v m) ∧ L v m
inductive StarI (K : Lng) : List (Nat × Nat) → Nat → Prop
 | nil (m : Nat) : StarI K [] m
 | cons (u v : List (Nat × Nat)) (m : Nat) : K u (hdA v m) → StarI K v m → StarI K (u ++ v) m
def StarG (K : Lng) : Lng := fun ws m => StarI K ws m
theorem StarG.nil {K : Lng} (m : Nat) : StarG K [] m := StarI.nil m
theorem StarG.cons {K : Lng} (u v : List (Nat × Nat)) (m : Nat) (h : K u (hdA v m)) (k : StarG K v m) : StarG K (u ++ v) m := StarI.cons u v m h k
def oneG : Lng := fun ws _ => ws = []
def actG (n : Int) : Lng := fun ws _ => ∃ p y : Nat, ws = [(p, y)] ∧ (y : Int) = n
def cndG (e : Ex) : Lng := fun ws m => ws = [] ∧ e.emp (m : Int) = true
def noG : Lng := fun _ _ => False
def lngC (k n : Int) (ks : List Ex) (Ls : List Lng) : Lng :=
 if k = 4 then actG n
 else if k = 6 then sumG (Ls.getD 0 noG) (Ls.getD 1 noG)
 else if k = 7 then dotG (Ls.getD 0 noG) (Ls.getD 1 noG)
 else if k = 8 then StarG (Ls.getD 0 noG)
 else cndG (.mk k n ks)
mutual
def Ex.lng : Ex → Lng
 | .mk k n ks => lngC k n ks (Ex.lngL ks)
def Ex.lngL : List Ex → List Lng
 | [] => []
 | e :: r => e.lng :: Ex.lngL r
end
theorem Ex.lng_eq (k n : Int) (ks : List Ex) : (Ex.mk k n ks).lng = lngC k n ks (Ex.lngL ks) := by simp only [Ex.lng]
theorem Ex.lng_act {n : Int} {ks : List Ex} : (Ex.mk 4 n ks).lng = actG n := by rw [Ex.lng_eq]; simp [lngC]
theorem Ex.lng_sum {n : Int} {a b : Ex} : (Ex.mk 6 n [a, b]).lng = sumG a.lng b.lng := by rw [Ex.lng_eq]; simp [lngC, Ex.lngL]
theorem Ex.lng_dot {n : Int} {a b : Ex} : (Ex.mk 7 n [a, b]).lng = dotG a.lng b.lng := by rw [Ex.lng_eq]; simp [lngC, Ex.lngL]
theorem Ex.lng_star {n : Int} {a : Ex} : (Ex.mk 8 n [a]).lng = StarG a.lng := by
 rw [Ex.lng_eq]
 simp [lngC, Ex.lngL]
theorem Ex.lng_else {k n : Int} {ks : List Ex} (h4 : k ≠ 4) (h6 : k ≠ 6) (h7 : k ≠ 7) (h8 : k ≠ 8) : (Ex.mk k n ks).lng = cndG (.mk k n ks) := by
 rw [Ex.lng_eq]
 unfold lngC
 rw [if_neg h4, if_neg h6, if_neg h7]
 exact if_neg h8
theorem StarG.one {K : Lng} {u : List (Nat × Nat)} {m : Nat} (h : K u m) : StarG K u m := by
 have := StarG.cons u [] m h (StarG.nil m)
 rwa [List.append_nil] at this
theorem StarG.append {K : Lng} {u v : List (Nat × Nat)} {m : Nat} (hu : StarG K u (hdA v m)) (hv : StarG K v m) : StarG K (u ++ v) m := by
 generalize hx : hdA v m = x at hu
 induction hu with
 | nil => exact hv
 | cons p q y hp hq ih =>
  subst hx
  rw [List.append_assoc]
  exact StarG.cons p (q ++ v) m (by rw [hdA_append]; exact hp) (ih rfl)
theorem StarG.step {K : Lng} {p : Nat × Nat} {ws : List (Nat × Nat)} {m : Nat} : StarG K (p :: ws) m ↔ ∃ u v, ws = u ++ v ∧ K (p :: u) (hdA v m) ∧ StarG K v m := by
 constructor
 ·
  intro h
  generalize hx : p :: ws = x at h
  induction h with
  | nil => cases hx
  | cons u v m hu hv ih =>
   cases u with
   | nil => exact ih hx
   | cons q u =>
    simp only [List.cons_append, List.cons.injEq] at hx
    obtain ⟨rfl, rfl⟩ := hx
    exact ⟨u, v, rfl, hu, hv⟩
 ·
  rintro ⟨u, v, rfl, hu, hv⟩
  exact StarG.cons (p :: u) v m hu hv
end Go.Proofs.Ytbflhjjnemdecaa

namespace Go.Proofs.Ytbflhjjnemdecaa
set_option linter.unusedVariables false
set_option linter.unusedSimpArgs false
open Go.ChangeShapes Go.WideShapes Go.ChangeAt Go.RowKit Go.Sort
theorem wordB_parts {t a : Int} {xs ys : List Int} (h : wordB t a xs ys = true) : ys.length ≤ 10 ∧ xs.length = ys.length + 1 ∧ allIn xs (atomsN t) = true ∧ allIn ys a = true := by
 simp only [wordB, Bool.and_eq_true, decide_eq_true_eq] at h
 exact ⟨h.1.1.1.2, h.1.1.2, h.1.2, h.2⟩
end Go.Proofs.Ytbflhjjnemdecaa

namespace Go.Proofs.Ytbflhjjnemdecaa
set_option linter.unusedVariables false
set_option linter.unusedSimpArgs false
def segW (xs ys : List Int) (i k : Nat) : List (Nat × Nat) := (List.range (k - i)).map fun j => ((xs.getD (i + j) 0).toNat, (ys.getD (i + j) 0).toNat)
def atW (xs : List Int) (i : Nat) : Nat := (xs.getD i 0).toNat
section
variable (xs ys : List Int)
theorem segW_self (i : Nat) : segW xs ys i i = [] := by simp [segW]
theorem segW_length (i k : Nat) : (segW xs ys i k).length = k - i := by simp [segW]
theorem segW_succ {i k : Nat} (h : i ≤ k) : segW xs ys i (k + 1) = segW xs ys i k ++ [(atW xs k, (ys.getD k 0).toNat)] := by
 unfold segW atW
 rw [show k + 1 - i = (k - i) + 1 by omega, List.range_succ, List.map_append, List.map_cons, List.map_nil, show i + (k - i) = k by omega]
theorem segW_append {i j : Nat} (hij : i ≤ j) : ∀ {k : Nat}, j ≤ k → segW xs ys i k = segW xs ys i j ++ segW xs ys j k := by
 intro k
 induction k with
 | zero =>
  intro h
  obtain rfl : j = 0 := by omega
  rw [segW_self, List.append_nil]
 | succ k ih =>
  intro h
  by_cases hk : j = k + 1
  ·
   subst hk; rw [segW_self, List.append_nil]
  ·
   rw [segW_succ xs ys (by omega), segW_succ xs ys (by omega), ih (by omega), List.append_assoc]
theorem segW_one (i : Nat) : segW xs ys i (i + 1) = [(atW xs i, (ys.getD i 0).toNat)] := by rw [segW_succ xs ys (Nat.le_refl i), segW_self]; rfl
theorem hdA_seg {i k : Nat} (h : i ≤ k) : hdA (segW xs ys i k) (atW xs k) = atW xs i := by
 by_cases hk : i = k
 ·
  subst hk; rw [segW_self]; rfl
 ·
  rw [segW_append xs ys (show i ≤ i + 1 by omega) (show i + 1 ≤ k by omega), segW_one]; rfl
theorem segW_split {i k : Nat} (h : i ≤ k) {u v : List (Nat × Nat)} (e : segW xs ys i k = u ++ v) : ∃ j, i ≤ j ∧ j ≤ k ∧ u = segW xs ys i j ∧ v = segW xs ys j k := by
 have hl := congrArg List.length e
 rw [segW_length, List.length_append] at hl
 have h1 : i ≤ i + u.length := by omega
 have h2 : i + u.length ≤ k := by omega
 rw [segW_append xs ys h1 h2] at e
 obtain ⟨e1, e2⟩ := List.append_inj e (by rw [segW_length]; omega)
 exact ⟨i + u.length, h1, h2, e1.symm, e2.symm⟩
def spP (K : Lng) (i k : Nat) : Prop := i ≤ k ∧ K (segW xs ys i k) (atW xs k)
variable {xs ys}
theorem spP_sum {K L : Lng} {i k : Nat} : spP xs ys (sumG K L) i k ↔ spP xs ys K i k ∨ spP xs ys L i k := by
 unfold spP sumG
 constructor
 ·
  rintro ⟨h, h1 | h1⟩
  ·
   exact Or.inl ⟨h, h1⟩
  ·
   exact Or.inr ⟨h, h1⟩
 ·
  rintro (⟨h, h1⟩ | ⟨h, h1⟩)
  ·
   exact ⟨h, Or.inl h1⟩
  ·
   exact ⟨h, Or.inr h1⟩
theorem spP_dot {K L : Lng} {i k : Nat} : spP xs ys (dotG K L) i k ↔ ∃ j, i ≤ j ∧ j ≤ k ∧ spP xs ys K i j ∧ spP xs ys L j k := by
 constructor
 ·
  rintro ⟨h, u, v, e, h1, h2⟩
  obtain ⟨j, hj1, hj2, rfl, rfl⟩ := segW_split xs ys h e
  rw [hdA_seg xs ys hj2] at h1
  exact ⟨j, hj1, hj2, ⟨hj1, h1⟩, ⟨hj2, h2⟩⟩
 ·
  rintro ⟨j, hj1, hj2, ⟨-, h1⟩, ⟨-, h2⟩⟩
  exact ⟨by omega, segW xs ys i j, segW xs ys j k, segW_append xs ys hj1 hj2, by rw [hdA_seg xs ys hj2]; exact h1, h2⟩
theorem spP_one {i k : Nat} : spP xs ys oneG i k ↔ i = k := by
 unfold spP oneG
 constructor
 ·
  rintro ⟨h, e⟩
  have := congrArg List.length e
  rw [segW_length] at this
  simp at this
  omega
 ·
  rintro rfl
  exact ⟨Nat.le_refl _, segW_self _ _ _⟩
theorem spP_cnd {e : Ex} {i k : Nat} : spP xs ys (cndG e) i k ↔ i = k ∧ e.emp (atW xs k : Int) = true := by
 constructor
 ·
  rintro ⟨h, h1, h2⟩
  exact ⟨spP_one.1 ⟨h, h1⟩, h2⟩
 ·
  rintro ⟨rfl, h⟩
  exact ⟨Nat.le_refl _, segW_self _ _ _, h⟩
theorem spP_act {n : Int} {i k : Nat} : spP xs ys (actG n) i k ↔ k = i + 1 ∧ ((ys.getD i 0).toNat : Int) = n := by
 constructor
 ·
  rintro ⟨h, p, y, e, h1⟩
  have hl := congrArg List.length e
  rw [segW_length] at hl
  simp at hl
  obtain rfl : k = i + 1 := by omega
  rw [segW_one] at e
  simp only [List.cons.injEq, and_true, Prod.mk.injEq] at e
  rw [e.2]
  exact ⟨rfl, h1⟩
 ·
  rintro ⟨rfl, h⟩
  exact ⟨by omega, _, _, segW_one xs ys i, h⟩
theorem spP_star {K : Lng} {i k : Nat} : spP xs ys (StarG K) i k ↔ i = k ∨ ∃ j, i + 1 ≤ j ∧ j ≤ k ∧ spP xs ys K i j ∧ spP xs ys (StarG K) j k := by
 constructor
 ·
  rintro ⟨h, h1⟩
  by_cases hk : i = k
  ·
   exact Or.inl hk
  refine Or.inr ?_
  rw [segW_append xs ys (show i ≤ i + 1 by omega) (show i + 1 ≤ k by omega), segW_one] at h1
  obtain ⟨u, v, e, h2, h3⟩ := StarG.step.1 h1
  obtain ⟨j, hj1, hj2, rfl, rfl⟩ := segW_split xs ys (show i + 1 ≤ k by omega) e
  rw [hdA_seg xs ys hj2] at h2
  refine ⟨j, hj1, hj2, ⟨by omega, ?_⟩, ⟨hj2, h3⟩⟩
  rw [segW_append xs ys (show i ≤ i + 1 by omega) hj1, segW_one]
  exact h2
 ·
  rintro (rfl | ⟨j, hj1, hj2, ⟨-, h1⟩, ⟨-, h2⟩⟩)
  ·
   exact ⟨Nat.le_refl _, by rw [segW_self]; exact StarG.nil _⟩
  ·
   refine ⟨by omega, ?_⟩
   rw [segW_append xs ys (show i ≤ j by omega) hj2]
   exact StarG.cons _ _ _ (by rw [hdA_seg xs ys hj2]; exact h1) h2
end
noncomputable def spB (e : Ex) (xs ys : List Int) (i k : Nat) : Bool := @decide (spP xs ys e.lng i k) (Classical.propDecidable _)
theorem spB_iff {e : Ex} {xs ys : List Int} {i k : Nat} : spB e xs ys i k = true ↔ spP xs ys e.lng i k := by unfold spB; exact @decide_eq_true_iff _ (Classical.propDecidable _)
noncomputable def mtB (e : Ex) (xs ys : List Int) : Bool := spB e xs ys 0 ys.length
section
variable {xs ys : List Int} {i k : Nat}
theorem spB_sum {n : Int} {a b : Ex} : spB (.mk 6 n [a, b]) xs ys i k = (spB a xs ys i k || spB b xs ys i k) := by
 rw [Bool.eq_iff_iff, Bool.or_eq_true, spB_iff, spB_iff, spB_iff, Ex.lng_sum]
 exact spP_sum
theorem spB_dot {n : Int} {a b : Ex} : spB (.mk 7 n [a, b]) xs ys i k = true ↔ ∃ j, i ≤ j ∧ j ≤ k ∧ spB a xs ys i j = true ∧ spB b xs ys j k = true := by
 simp only [spB_iff, Ex.lng_dot]
 exact spP_dot
theorem spB_star {n : Int} {a : Ex} : spB (.mk 8 n [a]) xs ys i k = true ↔ i = k ∨ ∃ j, i + 1 ≤ j ∧ j ≤ k ∧ spB a xs ys i j = true ∧ spB (.mk 8 n [a]) xs ys j k = true := by
 simp only [spB_iff, Ex.lng_star]
 exact spP_star
theorem spB_act {n : Int} {ks : List Ex} : spB (.mk 4 n ks) xs ys i k = true ↔ k = i + 1 ∧ ((ys.getD i 0).toNat : Int) = n := by
 rw [spB_iff, Ex.lng_act]
 exact spP_act
theorem spB_else {q n : Int} {ks : List Ex} (h4 : q ≠ 4) (h6 : q ≠ 6) (h7 : q ≠ 7) (h8 : q ≠ 8) : spB (.mk q n ks) xs ys i k = true ↔ i = k ∧ (Ex.mk q n ks).emp (atW xs k : Int) = true := by
 rw [spB_iff, Ex.lng_else h4 h6 h7 h8]
 exact spP_cnd
end
end Go.Proofs.Ytbflhjjnemdecaa

namespace Go.Proofs.Ytbflhjjnemdecaa
set_option linter.unusedVariables false
set_option linter.unusedSimpArgs false
open Go.ChangeShapes Go.WideShapes Go.ChangeAt Go.RowKit Go.Deep
structure WOk (xs ys : List Int) : Prop where
 len : xs.length = ys.length + 1
 short : ys.length ≤ 10
 atoms : ∀ x ∈ xs, 0 ≤ x ∧ x ≤ 7
 acts : ∀ y ∈ ys, 0 ≤ y ∧ y ≤ 7
section
variable {xs ys : List Int}
theorem WOk.atom (h : WOk xs ys) {i : Nat} (hi : i ≤ ys.length) : ∃ x, xs[i]? = some x ∧ 0 ≤ x ∧ x ≤ 7 ∧ (atW xs i : Int) = x := by
 have hl := h.len
 have hx : xs[i]? = some xs[i] := List.getElem?_eq_getElem (by omega)
 obtain ⟨h0, h7⟩ := h.atoms _ (List.mem_iff_getElem?.2 ⟨i, hx⟩)
 refine ⟨_, hx, h0, h7, ?_⟩
 unfold atW
 rw [List.getD_eq_getElem?_getD, hx]
 exact Int.toNat_of_nonneg h0
theorem WOk.act (h : WOk xs ys) {i : Nat} (hi : i < ys.length) : ∃ y, ys[i]? = some y ∧ 0 ≤ y ∧ y ≤ 7 ∧ ((ys.getD i 0).toNat : Int) = y := by
 have hy : ys[i]? = some ys[i] := List.getElem?_eq_getElem hi
 obtain ⟨h0, h7⟩ := h.acts _ (List.mem_iff_getElem?.2 ⟨i, hy⟩)
 refine ⟨_, hy, h0, h7, ?_⟩
 rw [List.getD_eq_getElem?_getD, hy]
 exact Int.toNat_of_nonneg h0
noncomputable def dotTo (a b : Ex) (xs ys : List Int) (i k m : Nat) : Bool := (List.range m).any fun j => decide (i ≤ j) && (spB a xs ys i j && spB b xs ys j k)
theorem dotTo_succ {a b : Ex} {i k m : Nat} : dotTo a b xs ys i k (m + 1) = (dotTo a b xs ys i k m || (decide (i ≤ m) && (spB a xs ys i m && spB b xs ys m k))) := by
 unfold dotTo
 rw [List.range_succ, List.any_append]
 simp
theorem dotTo_zero {a b : Ex} {i k m : Nat} (hm : m ≤ i) : dotTo a b xs ys i k m = false := by
 unfold dotTo
 rw [List.any_eq_false]
 intro j hj
 have := List.mem_range.1 hj
 have e : decide (i ≤ j) = false := by simp; omega
 rw [e]
 simp
theorem dotTo_all {n : Int} {a b : Ex} {i k : Nat} : dotTo a b xs ys i k (k + 1) = spB (.mk 7 n [a, b]) xs ys i k := by
 rw [Bool.eq_iff_iff, spB_dot]
 unfold dotTo
 rw [List.any_eq_true]
 constructor
 ·
  rintro ⟨j, hj, h⟩
  simp only [Bool.and_eq_true, decide_eq_true_eq] at h
  exact ⟨j, h.1, by have := List.mem_range.1 hj; omega, h.2.1, h.2.2⟩
 ·
  rintro ⟨j, h1, h2, h3, h4⟩
  exact ⟨j, List.mem_range.2 (by omega), by simp [h1, h3, h4]⟩
theorem spB_star_num {a : Ex} {n n' : Int} {i k : Nat} : spB (.mk 8 n [a]) xs ys i k = spB (.mk 8 n' [a]) xs ys i k := by
 rw [Bool.eq_iff_iff, spB_iff, spB_iff, Ex.lng_star, Ex.lng_star]
noncomputable def frtTo (a : Ex) (xs ys : List Int) (i k m : Nat) : Bool := decide (i = k) || (List.range m).any fun j => decide (i + 1 ≤ j) && (spB a xs ys i j && spB (.mk 8 0 [a]) xs ys j k)
theorem frtTo_succ {a : Ex} {i k m : Nat} : frtTo a xs ys i k (m + 1) = (frtTo a xs ys i k m || (decide (i + 1 ≤ m) && (spB a xs ys i m && spB (.mk 8 0 [a]) xs ys m k))) := by
 unfold frtTo
 rw [List.range_succ, List.any_append, Bool.or_assoc]
 simp
theorem frtTo_zero {a : Ex} {i k m : Nat} (hm : m ≤ i + 1) : frtTo a xs ys i k m = decide (i = k) := by
 have e : ((List.range m).any fun j => decide (i + 1 ≤ j) && (spB a xs ys i j && spB (.mk 8 0 [a]) xs ys j k)) = false := by
  rw [List.any_eq_false]
  intro j hj
  have := List.mem_range.1 hj
  have e : decide (i + 1 ≤ j) = false := by simp; omega
  rw [e]
  simp
 unfold frtTo
 rw [e, Bool.or_false]
theorem frtTo_all {a : Ex} {i k : Nat} : frtTo a xs ys i k (k + 1) = spB (.mk 8 0 [a]) xs ys i k := by
 rw [Bool.eq_iff_iff, spB_star]
 unfold frtTo
 rw [Bool.or_eq_true, decide_eq_true_eq, List.any_eq_true]
 constructor
 ·
  rintro (h | ⟨j, hj, h⟩)
  ·
   exact Or.inl h
  ·
   simp only [Bool.and_eq_true, decide_eq_true_eq] at h
   exact Or.inr ⟨j, h.1, by have := List.mem_range.1 hj; omega, h.2.1, h.2.2⟩
 ·
  rintro (h | ⟨j, h1, h2, h3, h4⟩)
  ·
   exact Or.inl h
  ·
   exact Or.inr ⟨j, List.mem_range.2 (by omega), by simp [h1, h3, h4]⟩
end
end Go.Proofs.Ytbflhjjnemdecaa

namespace Go.Proofs.Ytbflhjjnemdecaa
set_option linter.unusedVariables false
set_option linter.unusedSimpArgs false
open Go.ChangeShapes Go.WideShapes Go.ChangeAt Go.RowKit Go.Deep
def rowOf (n : Nat) (f : Nat → Bool) : List Bool := (List.range n).map f
def sqL (n : Nat) (M : Nat → Nat → Bool) : List (List Bool) := (List.range n).map fun i => rowOf n (M i)
def updM (M : Nat → Nat → Bool) (i k : Nat) (v : Bool) : Nat → Nat → Bool := fun a b => if a = i ∧ b = k then v else M a b
theorem rowOf_len (n : Nat) (f : Nat → Bool) : (rowOf n f).length = n := by simp [rowOf]
theorem sqL_len (n : Nat) (M : Nat → Nat → Bool) : (sqL n M).length = n := by simp [sqL]
theorem rowOf_at {n : Nat} {f : Nat → Bool} {k : Nat} (h : k < n) : (rowOf n f)[k]? = some (f k) := by unfold rowOf; rw [List.getElem?_map, List.getElem?_range h]; rfl
theorem sqL_at {n : Nat} {M : Nat → Nat → Bool} {i : Nat} (h : i < n) : (sqL n M)[i]? = some (rowOf n (M i)) := by unfold sqL; rw [List.getElem?_map, List.getElem?_range h]; rfl
theorem rowOf_congr {n : Nat} {f g : Nat → Bool} (h : ∀ k, k < n → f k = g k) : rowOf n f = rowOf n g := List.map_congr_left fun k hk => h k (List.mem_range.1 hk)
theorem rowOf_set {n : Nat} {M : Nat → Nat → Bool} {i k : Nat} {v : Bool} : (rowOf n (M i)).set k v = rowOf n (updM M i k v i) := by
 apply List.ext_getElem?
 intro j
 by_cases hj : j < n
 ·
  rw [rowOf_at hj]
  unfold updM
  by_cases hk : k = j
  ·
   subst hk
   rw [List.getElem?_set_self (by rw [rowOf_len]; exact hj), if_pos ⟨rfl, rfl⟩]
  ·
   rw [List.getElem?_set_ne hk, rowOf_at hj, if_neg (fun e => hk e.2.symm)]
 ·
  rw [List.getElem?_eq_none (by rw [List.length_set, rowOf_len]; omega), List.getElem?_eq_none (by rw [rowOf_len]; omega)]
theorem rowOf_other {n : Nat} {M : Nat → Nat → Bool} {i a k : Nat} {v : Bool} (h : a ≠ i) : rowOf n (updM M i k v a) = rowOf n (M a) := rowOf_congr fun b _ => by unfold updM; rw [if_neg fun e => h e.1]
theorem updM_self {M : Nat → Nat → Bool} {i k : Nat} {v : Bool} : updM M i k v i k = v := by unfold updM; rw [if_pos ⟨rfl, rfl⟩]
theorem updM_ne {M : Nat → Nat → Bool} {i k a b : Nat} {v : Bool} (h : a ≠ i ∨ b ≠ k) : updM M i k v a b = M a b := by unfold updM; rw [if_neg fun e => by rcases h with h | h; exact h e.1; exact h e.2]
theorem rowOf_const (n : Nat) (v : Bool) : rowOf n (fun _ => v) = List.replicate n v := by
 apply List.ext_getElem?
 intro j
 by_cases hj : j < n
 ·
  rw [rowOf_at hj]; simp [hj]
 ·
  rw [List.getElem?_eq_none (by rw [rowOf_len]; omega), List.getElem?_eq_none (by simp; omega)]
theorem ows_rows {w : World} {f : Nat → D} {v : Nat → Value} : ∀ (gs : List Nat) (o : Nat), (∀ i x, gs[i]? = some x → Ow w (f (o + i)) (v x) [x]) → Ows w ((List.range' o gs.length).map f) (gs.map v) gs
 | [], o, _ => Ows.nil
 | x :: r, o, h => by
  simp only [List.length_cons, List.range'_succ, List.map_cons]
  exact Ows.cons (F := [x]) (h 0 x rfl) (ows_rows r (o + 1) fun i y hy => by
   have := h (i + 1) y hy
   rwa [show o + (i + 1) = o + 1 + i by omega] at this)
theorem bools_ows {w : World} : ∀ L : List Bool, Ows w (L.map D.bool) (L.map Value.bool) []
 | [] => Ows.nil
 | x :: r => Ows.cons (F := []) (Ow.bool x) (bools_ows r)
theorem row_ow {w : World} {x t n : Nat} {L : List Bool} (h : Blk w x t (L.map Value.bool)) (hn : L.length = n) (hm : n ≤ maxLen) : Ow w (boolsD L) (.slice (some ⟨x, 0, none⟩) n n) [x] := by
 subst hn
 simp only [boolsD, nestD, Ow]
 exact ⟨_, _, rfl, Nat.le_refl _, hm, by simp, by simp, Or.inr ⟨x, 0, L.map Value.bool, [], rfl, rfl, h.free, h.row (List.take_length ..), bools_ows L⟩⟩
structure SpW (B n g : Nat) (gs : List Nat) (M : Nat → Nat → Bool) (w : World) : Prop where
 blk : Blk w g 114 (gs.map fun x => .slice (some ⟨x, 0, none⟩) n n)
 len : gs.length = n
 row : ∀ (i x : Nat), gs[i]? = some x → Blk w x 4 ((rowOf n (M i)).map Value.bool)
 sep : gs.Nodup
 own : B ≤ g ∧ ∀ x ∈ gs, B ≤ x ∧ x ≠ g
section
variable {B n g : Nat} {gs : List Nat} {M : Nat → Nat → Bool} {w : World}
theorem SpW.cells (h : SpW B n g gs M w) {i k : Nat} (hi : i < n) (hk : k < n) : ∃ x, gs[i]? = some x ∧ w.cell? ⟨g, i, none⟩ = some (.slice (some ⟨x, 0, none⟩) n n) ∧ w.cell? ⟨x, k, none⟩ = some (.bool (M i k)) ∧ w.frozen? ⟨x, k, none⟩ = false ∧ x < w.heap.size ∧ g < w.heap.size ∧ B ≤ x ∧ x ≠ g := by
 have hil : i < gs.length := by rw [h.len]; exact hi
 have hx : gs[i]? = some gs[i] := List.getElem?_eq_getElem hil
 obtain ⟨q1, q2⟩ := h.own.2 _ (List.mem_of_getElem? hx)
 refine ⟨_, hx, ?_, ?_, (h.row _ _ hx).frozen k, (h.row _ _ hx).lt, h.blk.lt, q1, q2⟩
 ·
  rw [h.blk.cell, List.getElem?_map, hx]; rfl
 ·
  rw [(h.row _ _ hx).cell, List.getElem?_map, rowOf_at hk]; rfl
theorem SpW.set (h : SpW B n g gs M w) {i k x : Nat} (hx : gs[i]? = some x) (v : Bool) : SpW B n g gs (updM M i k v) (w.setCell ⟨x, k, none⟩ (.bool v)) := by
 have hxm := h.own.2 _ (List.mem_of_getElem? hx)
 refine ⟨h.blk.other (p := ⟨x, k, none⟩) (fun e => hxm.2 e.symm) _, h.len, fun j y hy => ?_, h.sep, h.own⟩
 by_cases hij : j = i
 ·
  subst hij
  rw [hx] at hy
  obtain rfl := Option.some.inj hy
  rw [← rowOf_set]
  exact arr_set (h.row _ _ hx) k v
 ·
  rw [rowOf_other hij]
  refine (h.row _ _ hy).other (p := ⟨x, k, none⟩) (fun e => hij ?_) _
  have e' : y = x := e
  rw [e'] at hy
  have h1 := (List.getElem?_eq_some_iff.1 hy).1
  exact (List.getElem?_inj h1 h.sep).1 (hy.trans hx.symm)
theorem SpW.keep (h : SpW B n g gs M w) {w' : World} (hk : ∀ b, B ≤ b → b < w.heap.size → w'.heap[b]? = w.heap[b]?) : SpW B n g gs M w' :=
 ⟨h.blk.keep (hk _ h.own.1 h.blk.lt), h.len, fun i x hx => (h.row i x hx).keep (hk _ (h.own.2 _ (List.mem_of_getElem? hx)).1 (h.row i x hx).lt), h.sep, h.own⟩
theorem SpW.below (h : SpW B n g gs M w) {w' : World} (hb : Below w.heap.size w w') : SpW B n g gs M w' := h.keep fun b _ hl => hb.block b hl
theorem SpW.congr (h : SpW B n g gs M w) {K : Nat → Nat → Bool} (e : ∀ i k, i < n → k < n → M i k = K i k) : SpW B n g gs K w :=
 ⟨h.blk, h.len, fun i x hx => by
  have hi : i < n := by have := (List.getElem?_eq_some_iff.1 hx).1; rw [h.len] at this; exact this
  rw [← rowOf_congr (fun k hk => e i k hi hk)]; exact h.row i x hx, h.sep, h.own⟩
theorem SpW.fresh (h : SpW B n g gs M w) {W : World} (hW : W.heap.size ≤ B) (hn : 1 ≤ n) (hm : n ≤ maxLen) : Fresh W w (nestD boolsD (sqL n M)) (.slice (some ⟨g, 0, none⟩) n n) := by
 have hows : Ows w ((sqL n M).map boolsD) (gs.map fun x => .slice (some ⟨x, 0, none⟩) n n) gs := by
  have := ows_rows (w := w) (f := fun i => boolsD (rowOf n (M i))) (v := fun x => .slice (some ⟨x, 0, none⟩) n n) gs 0 (fun i x hx => by
   rw [Nat.zero_add]
   exact row_ow (h.row i x hx) (rowOf_len _ _) hm)
  rw [h.len, ← List.range_eq_range'] at this
  unfold sqL
  rw [List.map_map]
  exact this
 refine ⟨g :: gs, ?_, ?_, ?_⟩
 ·
  simp only [nestD, Ow]
  rw [sqL_len]
  exact ⟨_, _, rfl, Nat.le_refl _, hm, by rw [List.length_map, sqL_len, Nat.mul_one], by simp, Or.inr ⟨g, 0, _, gs, rfl, rfl, h.blk.free, h.blk.row (List.take_length ..), hows⟩⟩
 ·
  exact List.nodup_cons.2 ⟨fun hg => (h.own.2 g hg).2 rfl, h.sep⟩
 ·
  intro b hb
  rcases List.mem_cons.1 hb with rfl | hb
  ·
   have := h.own.1; omega
  ·
   have := (h.own.2 b hb).1; omega
end
end Go.Proofs.Ytbflhjjnemdecaa

namespace Go.Proofs.Ytbflhjjnemdecaa
set_option linter.unusedVariables false
set_option linter.unusedSimpArgs false
open Go.ChangeShapes Go.WideShapes Go.ChangeAt Go.RowKit Go.Deep Go.Sort
theorem set_mid {α : Type} {A : List α} {z v : α} {n k : Nat} (hA : A.length = k) (hk : k < n) : (A ++ List.replicate (n - k) z).set k v = (A ++ [v]) ++ List.replicate (n - (k + 1)) z := by
 subst hA
 rw [List.set_append_right _ _ (Nat.le_refl _), Nat.sub_self, show n - A.length = (n - (A.length + 1)) + 1 by omega, List.replicate_succ, List.set_cons_zero, List.append_assoc]
 rfl
theorem mid_at {α : Type} {A : List α} {z : α} {n k : Nat} (hA : A.length = k) (hk : k < n) : (A ++ List.replicate (n - k) z)[k]? = some z := by
 subst hA
 rw [List.getElem?_append_right (Nat.le_refl _), Nat.sub_self, List.getElem?_replicate, if_pos (by omega)]
def rowV (n : Nat) (x : Nat) : Value := .slice (some ⟨x, 0, none⟩) n n
set_option maxRecDepth 100000 in
set_option maxHeartbeats 8000000 in
theorem newSpans_i {n : Nat} {w : World} (hn : 1 ≤ n) (hn2 : n ≤ 1000) :
  Calls Try.prog 145 #[.int .i64 n] w fun e w' => ∃ g gs, e = .returned (.slice (some ⟨g, 0, none⟩) n n) ∧ SpW w.heap.size n g gs (fun _ _ => false) w' ∧ Below w.heap.size w w' := by
 have hn0 := Int.natCast_nonneg n
 obtain ⟨i0, hi, hz0, hz1, hz2⟩ := info_parts info_bls
 obtain ⟨i1, hi1, ho0, ho1, ho2⟩ := info_parts info_bl
 go_enter Try.func145, Try.ntmps145
 go_wp2_with (at_make; go_must (refine wpList_make_full _ rfl _ _ 131 rfl w.heap.size 114 i0 (.slice none 0 0) 1 Try.underlying131 hi hz0 hz1 .i64 .i64 _ _ n rfl rfl rfl rfl (by rw [hz2]; omega) (by unfold maxLen; omega) (by simp) ?_); intro w1 hown hgrow)
 have hB1 : Below w.heap.size w w1 := Below.grown (Below.refl _ _) hgrow (by simp) (by simp)
 obtain ⟨hb0, -⟩ := made_blk (z := .slice none 0 0) rfl hown
 have Hst := Lib.hid (And.intro hb0 hB1)
 clear hown hgrow hb0 hB1
 go_loopw [9] (fun i wr => ∃ (k : Nat) (gs : List Nat), k ≤ n ∧ i = .int .i64 k ∧ gs.length = k ∧ Blk wr w.heap.size 114 (gs.map (rowV n) ++ List.replicate (n - k) (.slice none 0 0)) ∧ (∀ x ∈ gs, Blk wr x 4 ((List.replicate n false).map Value.bool) ∧ w.heap.size < x) ∧ gs.Nodup ∧ Below w.heap.size w wr) (fun i _ => n - (intOf i).toNat)
 case atStart => exact ⟨0, [], Nat.zero_le _, rfl, rfl, by simpa using Hst.out.1, by simp, by simp, Hst.out.2⟩
 case round =>
  clear Hst
  obtain ⟨k, gs, hk, rfl, hgl, hb, hrows, hnd, hB⟩ := hrel
  obtain ⟨wo, rfl⟩ : ∃ v, v = wr := ⟨_, rfl⟩
  have hk0 := Int.natCast_nonneg k
  have szB := hB.size
  by_cases hkn : k < n
  rotate_left
  ·
   obtain rfl : k = n := by omega
   rw [Nat.sub_self, List.replicate_zero, List.append_nil] at hb
   have hsp : SpW w.heap.size k w.heap.size gs (fun _ _ => false) wo := ⟨hb, hgl, fun i x hx => by rw [rowOf_const]; exact (hrows x (List.mem_of_getElem? hx)).1, hnd, Nat.le_refl _, fun x hx => by have := (hrows x hx).2; omega⟩
   have Hsp := Lib.hid hsp
   have HB := Lib.hid hB
   clear hb hrows hnd hB hsp
   go_wp2_with fail
   go_ret
   exact ⟨_, gs, rfl, Hsp.out, HB.out⟩
  have hkz : (k : Int) < (n : Int) := by omega
  have hgml : (gs.map (rowV n)).length = k := by rw [List.length_map]; exact hgl
  have Hb := Lib.hid hb
  have Hrows := Lib.hid hrows
  have Hnd := Lib.hid hnd
  have HB := Lib.hid hB
  have Hgl := Lib.hid hgl
  have Hset := Lib.hid (set_mid (v := rowV n wo.heap.size) (z := .slice none 0 0) hgml hkn)
  have Hat := Lib.hid (mid_at (z := .slice none 0 0) hgml hkn)
  have hbl := hb.lt
  clear hb hrows hnd hB hgl hgml
  go_wp2_with (at_make; go_must (refine wpList_make_full _ rfl _ _ 114 rfl wo.heap.size 4 i1 (.bool false) 1 Try.underlying114 hi1 ho0 ho1 .i64 .i64 _ _ n rfl rfl rfl rfl (by rw [ho2]; omega) (by unfold maxLen; omega) (by simp) ?_); intro w2 hown hgrow; have hb2 := Hb.out.keep (hgrow.block _ hbl (by simp)); have f0 := hb2.frozen k; have x0 := hb2.cell k; rw [Hat.out] at x0)
  have hB2 : Below wo.heap.size wo w2 := Below.grown (Below.refl _ _) hgrow (by simp) (by simp)
  obtain ⟨hbn, -⟩ := made_blk (z := .bool false) rfl hown
  have hbn1 : Blk w2 wo.heap.size 4 ((List.replicate n false).map Value.bool) := by simpa using hbn
  have hset := hb2.set k (rowV n wo.heap.size)
  rw [Hset.out] at hset
  have Hfin : Hid (Blk (w2.setCell ⟨w.heap.size, k, none⟩ (rowV n wo.heap.size)) w.heap.size 114 ((gs ++ [wo.heap.size]).map (rowV n) ++ List.replicate (n - (k + 1)) (.slice none 0 0)) ∧
    (∀ x ∈ gs ++ [wo.heap.size], Blk (w2.setCell ⟨w.heap.size, k, none⟩ (rowV n wo.heap.size)) x 4 ((List.replicate n false).map Value.bool) ∧ w.heap.size < x) ∧ (gs ++ [wo.heap.size]).Nodup ∧ Below w.heap.size w (w2.setCell ⟨w.heap.size, k, none⟩ (rowV n wo.heap.size))) := by
   refine ⟨by rw [List.map_append]; exact hset, fun x hx => ?_, ?_, Below.setCell (p := ⟨w.heap.size, k, none⟩) (HB.out.trans (hB2.mono szB)) (Nat.le_refl _) _⟩
   ·
    rcases List.mem_append.1 hx with hx | hx
    ·
     obtain ⟨q1, q2⟩ := Hrows.out x hx
     exact ⟨(q1.below hB2).other (p := ⟨w.heap.size, k, none⟩) (by simp; omega) _, q2⟩
    ·
     obtain rfl := List.mem_singleton.1 hx
     exact ⟨hbn1.other (p := ⟨w.heap.size, k, none⟩) (by simp; omega) _, hbl⟩
   ·
    rw [List.nodup_append]
    refine ⟨Hnd.out, by simp, fun x hx y hy => ?_⟩
    obtain rfl := List.mem_singleton.1 hy
    have := (Hrows.out x hx).1.lt
    omega
  clear hown hgrow hbn hbn1 hset hb2 f0 x0 hB2
  go_roundw
  case rel => exact ⟨k + 1, gs ++ [wo.heap.size], by omega, by go_num, by rw [List.length_append, Hgl.out]; rfl, Hfin.out⟩
  case measure => simp [intOf]; omega
theorem spares_put {X : Nat → Prop} {w w' : World} {p : Addr} (h : Spares X w w') (hp : X p.block) (v : Value) : Spares X w (w'.setCell p v) :=
 h.trans ⟨rfl, rfl, rfl, by simp, fun b _ hn => Below.heap_setCell _ _ _ _ (fun e => hn (by rw [e]; exact hp))⟩
theorem spares_drew {X : Nat → Prop} {w w' : World} (h : Spares X w w') : Spares X w w'.drew := h.trans (Spares.of_below (Below.drew (Below.refl _ _)))
theorem SpW.drew {B n g : Nat} {gs : List Nat} {M : Nat → Nat → Bool} {w : World} (h : SpW B n g gs M w) : SpW B n g gs M w.drew := h.keep fun _ _ _ => rfl
def moM (fn bs : Nat → Nat → Bool) (a : Nat) : Nat → Nat → Bool := fun r c => if a ≤ r then fn r c else bs r c
def miM (fn bs : Nat → Nat → Bool) (i b : Nat) : Nat → Nat → Bool := fun r c => if i < r ∨ (r = i ∧ c < b) then fn r c else bs r c
section
variable {fn bs : Nat → Nat → Bool} {n i b : Nat}
theorem mo_mi (h : ∀ c, c < i → bs i c = fn i c) (r c : Nat) : moM fn bs (i + 1) r c = miM fn bs i i r c := by
 unfold moM miM
 by_cases h1 : i + 1 ≤ r
 ·
  rw [if_pos h1, if_pos (Or.inl (by omega))]
 ·
  rw [if_neg h1]
  by_cases h2 : r = i ∧ c < i
  ·
   rw [if_pos (Or.inr h2), h2.1]; exact h c h2.2
  ·
   rw [if_neg (by omega)]
theorem mi_mo (r c : Nat) (hc : c < n) : miM fn bs i n r c = moM fn bs i r c := by
 unfold moM miM
 by_cases h1 : i ≤ r
 ·
  rw [if_pos h1, if_pos (by omega)]
 ·
  rw [if_neg h1, if_neg (by omega)]
theorem mi_upd (r c : Nat) : updM (miM fn bs i b) i b (fn i b) r c = miM fn bs i (b + 1) r c := by
 unfold updM miM
 by_cases h1 : r = i ∧ c = b
 ·
  rw [if_pos h1, if_pos (by omega), h1.1, h1.2]
 ·
  rw [if_neg h1]
  by_cases h2 : i < r ∨ (r = i ∧ c < b)
  ·
   rw [if_pos h2, if_pos (by omega)]
  ·
   rw [if_neg h2, if_neg (by omega)]
theorem mi_start (r c : Nat) : updM (miM fn bs i b) i b (bs i b) r c = miM fn bs i b r c := by
 unfold updM
 by_cases h1 : r = i ∧ c = b
 ·
  rw [if_pos h1, h1.1, h1.2]
  unfold miM
  rw [if_neg (by omega)]
 ·
  rw [if_neg h1]
theorem upd_upd {M : Nat → Nat → Bool} {u v : Bool} (r c : Nat) : updM (updM M i b u) i b v r c = updM M i b v r c := by
 unfold updM
 by_cases h1 : r = i ∧ c = b
 ·
  rw [if_pos h1, if_pos h1]
 ·
  rw [if_neg h1, if_neg h1, if_neg h1]
theorem mo_all (r c : Nat) : moM fn bs 0 r c = fn r c := by unfold moM; rw [if_pos (Nat.zero_le _)]
end
theorem sq_cell {w : World} {Ls : List (List (List Bool))} {kb ko m kc q n i j : Nat} {K : Nat → Nat → Bool} (h : Rd w (nestD bbD Ls) (.slice (some ⟨kb, ko, none⟩) m kc)) (hq : Ls[q]? = some (sqL n K)) (hi : i < n) (hj : j < n) :
  ∃ b1 o1 c1 b2 o2 c2, w.cell? ⟨kb, ko + q, none⟩ = some (.slice (some ⟨b1, o1, none⟩) n c1) ∧ w.cell? ⟨b1, o1 + i, none⟩ = some (.slice (some ⟨b2, o2, none⟩) n c2) ∧ w.cell? ⟨b2, o2 + j, none⟩ = some (.bool (K i j)) ∧ n ≤ c1 ∧ c1 ≤ maxLen ∧ n ≤ c2 ∧ c2 ≤ maxLen := by
 obtain ⟨-, s1, c1, h1, r1⟩ := nest_sl (g := boolsD) h hq
 rw [sqL_len] at h1 r1
 obtain ⟨b1, o1, rfl⟩ := nest_some (f := boolsD) r1 (by rw [sqL_len]; omega)
 obtain ⟨k1, k2⟩ := nest_bd r1
 rw [sqL_len] at k1
 obtain ⟨-, s2, c2, h2, r2⟩ := nest_sl (g := D.bool) r1 (sqL_at hi)
 rw [rowOf_len] at h2 r2
 obtain ⟨b2, o2, rfl⟩ := nest_some (f := D.bool) r2 (by rw [rowOf_len]; omega)
 obtain ⟨k3, k4⟩ := nest_bd r2
 rw [rowOf_len] at k3
 obtain ⟨-, h3⟩ := bool_in r2 (rowOf_at hj)
 exact ⟨b1, o1, c1, b2, o2, c2, h1, h2, h3, k1, k2, k3, k4⟩
end Go.Proofs.Ytbflhjjnemdecaa

namespace Go.Proofs.Ytbflhjjnemdecaa
set_option linter.unusedVariables false
set_option linter.unusedSimpArgs false
open Go.ChangeShapes Go.WideShapes Go.ChangeAt Go.RowKit Go.Deep Go.Sort
theorem info_spans : (Try.prog.info? 131).map (fun i => (i.zero, i.size, i.bytes)) = some (some (.slice none 0 0), 1, 24) := by kernel_rfl
def SpnC (tm am : Int) (N : Nat) : Prop := ∀ (e : Ex) (xs ys : List Int) (s p q : Option Addr) (c pc qc : Nat) (w : World), Ex.sizeL e.kids ≤ N → Rd w (kidsD e.kids) (.slice s e.kids.length c) → e.tree tm am = true → Rd w (intsD xs) (.slice p xs.length pc) → Rd w (intsD ys) (.slice q ys.length qc) → WOk xs ys →
  Calls Try.prog 110 #[.agg #[.int .i64 e.kind, .int .i64 e.num, .slice s e.kids.length c], .agg #[.slice p xs.length pc, .slice q ys.length qc]] w fun f w' => ∃ g, f = .returned (.slice (some ⟨g, 0, none⟩) xs.length xs.length) ∧ Fresh w w' (bbD (sqL xs.length (spB e xs ys))) (.slice (some ⟨g, 0, none⟩) xs.length xs.length) ∧ Below w.heap.size w w'
structure SpK (w : World) (n g : Nat) (gs : List Nat) (k num : Int) (s p q : Option Addr) (c pc qc kl : Nat) (ks : List Ex) (xs ys : List Int) (v : Value) (W : World) : Prop where
 E : Blk W w.heap.size 38 [.int .i64 k, .int .i64 num, .slice s ks.length c]
 Q : Blk W (w.heap.size + 1) 40 [.slice p n pc, .slice q ys.length qc]
 bl : Below w.heap.size w W
 kd : Rd W (nestD (fun e => bbD (sqL n (spB e xs ys))) ks) v ∨ kl = 0
theorem truth_r {tm am x k num : Int} {ks : List Ex} {s : Option Addr} {c : Nat} {r : Bool} {w : World} (he : Ex.tru x (.mk k num ks) = r) (htm : tm ≤ 2) (h0 : 0 ≤ x) (h7 : x ≤ 7) (hr : Rd w (kidsD ks) (.slice s ks.length c)) (htr : Ex.tree tm am (.mk k num ks) = true) (hcc : Ex.cond (.mk k num ks) = true) :
  Calls Try.prog 146 #[.agg #[.int .i64 k, .int .i64 num, .slice s ks.length c], .int .i64 x] w fun f w' => f = .returned (.bool r) ∧ Below w.heap.size w w' := by
 subst he
 exact truth_all tm am x htm h0 h7 _ k num ks s c w (Nat.le_refl _) hr htr hcc
theorem spB_cond {q n : Int} {ks : List Ex} {xs ys : List Int} {i k : Nat} (hq : q = 1 ∨ q = 2 ∨ q = 3 ∨ q = 5) : spB (.mk q n ks) xs ys i k = (decide (i = k) && Ex.tru (atW xs k : Int) (.mk q n ks)) := by
 rw [Bool.eq_iff_iff, spB_else (by omega) (by omega) (by omega) (by omega), Bool.and_eq_true, decide_eq_true_eq]
 have ee : (Ex.mk q n ks).emp (atW xs k : Int) = (Ex.mk q n ks).tru (atW xs k : Int) := by
  rcases hq with rfl | rfl | rfl | rfl <;> simp [Ex.emp, empC, Ex.tru, truC]
 rw [ee]
theorem spB_actE {n : Int} {ks : List Ex} {xs ys : List Int} {i k : Nat} : spB (.mk 4 n ks) xs ys i k = (decide (k = i + 1) && (((ys.getD i 0).toNat : Int) == n)) := by
 rw [Bool.eq_iff_iff, spB_act, Bool.and_eq_true, decide_eq_true_eq, beq_iff_eq]
end Go.Proofs.Ytbflhjjnemdecaa
