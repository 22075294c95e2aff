/-
  Parts of a proof, joined: SpTidy, SpTidy2. No condition.
-/
import Derived.Test.YtcokljhamhgelaaGreatDoorPk17
import Derived.Test.YtcokljhamhgelaaGreatDoorPk18
namespace Go.Proofs.YtcokljhamhgelaaGreatDoor
set_option linter.unusedVariables false
set_option linter.unusedSimpArgs false
open Go.ChangeShapes Go.WideShapes Go.ChangeAt Go.RowKit Go.Deep Go.Sort
theorem AtX.of_at {X : Nat → Prop} {w : World} {b o : Nat} {e : Ex} (h : ExAt w b o e) (hX : ∀ b, X b → w.heap.size ≤ b) : AtX X w b o e := by
 have hlt := h.lt
 obtain ⟨g0, g1, s, c, g2, g3⟩ := h
 exact ⟨hlt, fun q => by have := hX b q; omega, s, c, ⟨g0, g1, g2⟩, RdX.of_rd g3 hX⟩
theorem Ows.raws_inv {w : World} : ∀ {us xs : List Value} {F : List Nat}, Ows w (us.map D.raw) xs F → xs = us ∧ F = []
 | [], xs, F, h => by simpa [Ows] using h
 | a :: r, xs, F, h => by
  simp only [List.map_cons, Ows, Ow] at h
  obtain ⟨x, r', G, K, rfl, rfl, ⟨⟨rfl, -⟩, rfl⟩, h⟩ := h
  obtain ⟨rfl, rfl⟩ := Ows.raws_inv h
  exact ⟨rfl, rfl⟩
theorem row_fresh {w w' : World} {g t size n : Nat} {us : List Value} (h : Blk w' g t us) (hl : us.length = n * size) (ho : ∀ u ∈ us, u.oneCell' = true) (hg : w.heap.size ≤ g) (hm : n ≤ maxLen) (hn : 0 < n) : Freshs w w' [.sl size n (us.map D.raw)] [.slice (some ⟨g, 0, none⟩) n n] := by
 refine Freshs.one ⟨[g], ?_, by simp, fun b hb => by simp at hb; omega⟩
 simp only [Ow]
 exact ⟨_, n, rfl, Nat.le_refl _, hm, by simpa using hl, (fun h => by cases h), Or.inr ⟨g, 0, us, [], rfl, rfl, h.free, h.row (by simp), Ows.raws ho⟩⟩
def OwnE (B ob : Nat) (w : World) (e : Ex) (s : Option Addr) (c : Nat) : Prop := ∃ F, Ow w (kidsD e.kids) (.slice s e.kids.length c) F ∧ F.Nodup ∧ ∀ b ∈ F, B ≤ b ∧ b ≠ ob
theorem OwnE.two {B ob : Nat} {w w' : World} {x y : Ex} {s1 s2 : Option Addr} {c1 c2 : Nat} {p q : Nat × Nat} {v : Value} (hx : OwnE B ob w x s1 c1) (hs : Spares (fun b => b = ob) w w') (hy : FreshIn p w' [kidsD y.kids] [.slice s2 y.kids.length c2])
  (hg : FreshIn q w' [.sl 3 2 ([.int .i64 x.kind, .int .i64 x.num, .slice s1 x.kids.length c1, .int .i64 y.kind, .int .i64 y.num, .slice s2 y.kids.length c2].map D.raw)] [v]) (hp : w.heap.size ≤ p.1) (hq : w.heap.size ≤ q.1) (hsep : Sep p q) (hob : ob < w.heap.size) (hB : B ≤ w.heap.size) :
  ∃ a c, v = .slice a 2 c ∧ OwnE B ob w' (.two 6 x y) a c := by
 obtain ⟨F, h1, h2, h3⟩ := hx
 obtain ⟨G, k1, k2, k3⟩ := hy
 obtain ⟨K, m1, m2, m3⟩ := hg
 have h1' := h1.keep (w' := w') fun b hb => hs.block b (h1.lt b hb) (h3 b hb).2
 simp only [Ows] at k1
 obtain ⟨x0, r0, G0, K0, e0, rfl, k1, rfl, rfl⟩ := k1
 simp only [List.cons.injEq, and_true] at e0
 subst e0
 simp only [Ows] at m1
 obtain ⟨x0, r0, G1, K0, e0, rfl, m1, rfl, rfl⟩ := m1
 simp only [List.cons.injEq, and_true] at e0
 subst e0
 simp only [Ow] at m1
 obtain ⟨a, cap, rfl, q1, q2, -, -, q4⟩ := m1
 rcases q4 with ⟨q4, -⟩ | ⟨g, o, xs, K1, rfl, rfl, hfree, hrow, hows⟩
 ·
  omega
 obtain ⟨rfl, rfl⟩ := Ows.raws_inv hows
 simp only [List.append_nil] at k2 k3 m2 m3
 have hgq := m3 g (by simp)
 unfold Sep at hsep
 refine ⟨_, cap, rfl, g :: (F ++ G0), ?_, ?_, ?_⟩
 ·
  show Ow w' (kidsD [x, y]) (.slice (some ⟨g, o, none⟩) 2 cap) _
  unfold kidsD
  simp only [Ow]
  refine ⟨_, cap, rfl, q1, q2, by rw [Ex.cellsL_length], (fun h => by cases h), Or.inr ⟨g, o, _, F ++ G0, rfl, rfl, hfree, hrow, ?_⟩⟩
  simp only [Ex.cellsL, List.append_nil]
  rw [Ex.cells_eq, Ex.cells_eq]
  exact Ows.append (Ows.three h1') (Ows.three k1)
 ·
  rw [List.nodup_cons, List.nodup_append]
  refine ⟨fun hm => ?_, h2, k2, fun a ha b hb e => ?_⟩
  ·
   rcases List.mem_append.1 hm with hm | hm
   ·
    have := h1.lt g hm; omega
   ·
    have := k3 g hm; omega
  ·
   have := h1.lt a ha; have := k3 b hb; omega
 ·
  intro b hb
  rcases List.mem_cons.1 hb with rfl | hb
  ·
   omega
  ·
   rcases List.mem_append.1 hb with hb | hb
   ·
    exact h3 b hb
   ·
    have := k3 b hb; omega
theorem foldS_snoc {L : List Ex} (q : Ex) (h : L ≠ []) : foldS (L ++ [q]) = .two 6 (foldS L) q := by
 cases L with
 | nil => exact absurd rfl h
 | cons x r => simp [foldS]
set_option maxRecDepth 100000 in
set_option maxHeartbeats 8000000 in
theorem l02Sum_i {tm am : Int} (ht : tm ≤ 8) (ha : am ≤ 8) {x y : Ex} {b o b' o' : Nat} {w : World} (hx : ExAt w b o x) (hy : ExAt w b' o' y) (hxt : x.tree tm am = true) (hyt : y.tree tm am = true) (hsz : x.size + y.size ≤ 90000) :
  Calls Tryz.prog 51 #[.pointer (some ⟨b, o, none⟩), .pointer (some ⟨b', o', none⟩)] w (OutE w (sumT x y)) := by
 obtain ⟨sx1, sx2⟩ := summ_spec tm am _ x (Nat.le_refl _) hxt
 obtain ⟨sy1, sy2⟩ := summ_spec tm am _ y (Nat.le_refl _) hyt
 have hnl := nub_sizes (x.summ ++ y.summ)
 rw [sizes_append, List.length_append] at hnl
 have hmem : ∀ q ∈ nub (x.summ ++ y.summ), q.tree tm am = true ∧ q.size ≤ 100000 := fun q hq => by
  rcases List.mem_append.1 (nub_mem.1 hq) with h | h
  ·
   exact ⟨(sx1 q h).1, by have := (sx1 q h).2; omega⟩
  ·
   exact ⟨(sy1 q h).1, by have := (sy1 q h).2; omega⟩
 have hnl2 : Hid ((nub (x.summ ++ y.summ)).length ≤ 100000) := by show _ ≤ _; omega
 have Hmem := Lib.hid hmem
 clear sx1 sx2 sy1 sy2 hnl hmem
 go_enter Tryz.func51, Tryz.ntmps51
 go_wp2_with fail
 have R := ((Blk.new3 w 34 (.int .i64 0) (.int .i64 0) (.slice none 0 0)).alloc (.cells #[] 34)).alloc (.cells #[.slice (some ⟨w.heap.size + 1, 0, none⟩) 0 0] 32)
 have V0 := (Blk.new0 (w.alloc (.cells #[.int .i64 0, .int .i64 0, .slice none 0 0] 34)) 34).alloc (.cells #[.slice (some ⟨w.heap.size + 1, 0, none⟩) 0 0] 32)
 have O := Blk.new1 ((w.alloc (.cells #[.int .i64 0, .int .i64 0, .slice none 0 0] 34)).alloc (.cells #[] 34)) 32 (.slice (some ⟨w.heap.size + 1, 0, none⟩) 0 0)
 have hB : Below w.heap.size w (((w.alloc (.cells #[.int .i64 0, .int .i64 0, .slice none 0 0] 34)).alloc (.cells #[] 34)).alloc (.cells #[.slice (some ⟨w.heap.size + 1, 0, none⟩) 0 0] 32)) := by (repeat' first | exact Below.refl _ _ | assumption | apply Below.alloc | apply Below.drew | apply Below.setCell | omega | (simp; done) | (simp; omega))
 simp at V0 O
 generalize ((w.alloc (.cells #[.int .i64 0, .int .i64 0, .slice none 0 0] 34)).alloc (.cells #[] 34)).alloc (.cells #[.slice (some ⟨w.heap.size + 1, 0, none⟩) 0 0] 32) = wl at R V0 O hB ⊢
 have hOl := O.lt
 refine (l02Summands_all tm am _ x b o (w.heap.size + 1 + 1) (fun q => w.heap.size ≤ q ∧ q < wl.heap.size) (fun q => q = w.heap.size + 1) _ [] w wl (Nat.le_refl _) (KeptX.of_below hB) (fun q h => h.2) (fun q h => by omega) ⟨by omega, hOl⟩ (by omega) (AtX.of_at hx (fun q h => h.1)) hxt (by simp; omega) ShX.nil O (AppS.empty V0 rfl)).mono ?_
 rintro f w2 ⟨rfl, v2, M1, ⟨p1, p2⟩, hO2, hV2, hs2⟩
 have hz2 := hs2.size
 rw [List.nil_append] at p1 hV2
 have hM1 : M1.length ≤ 90000 := by
  have q1 := congrArg List.length p1
  rw [List.length_map] at q1
  have q2 := growL_len x.summ ([].map Sh.e)
  have q3 := summ_len hxt
  simp at q2
  simp at q1
  omega
 have h02 : KeptX (fun q => w.heap.size ≤ q ∧ q < w2.heap.size) w w2 := (KeptX.of_below hB).trans (KeptX.of_spares hs2 (fun q _ h => by omega))
 go_wp2_with fail
 refine (l02Summands_all tm am _ y b' o' (w.heap.size + 1 + 1) (fun q => w.heap.size ≤ q ∧ q < w2.heap.size) _ v2 M1 w w2 (Nat.le_refl _) h02 (fun q h => h.2) (fun q h => by omega) ⟨by omega, hO2.lt⟩ (by omega) (AtX.of_at hy (fun q h => h.1)) hyt (by omega) (fun z hz => (p2 z hz).less (fun q hq h => by omega)) hO2 hV2).mono ?_
 rintro f w3 ⟨rfl, v3, M2, ⟨r1, r2⟩, hO3, hV3, hs3⟩
 have hz3 := hs3.size
 have h03 : KeptX (fun q => w.heap.size ≤ q ∧ q < w3.heap.size) w w3 := (h02.more (fun q hq h => by omega)).trans (KeptX.of_spares hs3 (fun q _ h => by omega))
 have hSX3 : ShX (fun q => w.heap.size ≤ q ∧ q < w3.heap.size) w (M1 ++ M2) := ShX.append (fun z hz => (p2 z hz).less (fun q hq h => by omega)) (fun z hz => (r2 z hz).less (fun q hq h => by omega))
 have hN : (M1 ++ M2).map Sh.e = nub (x.summ ++ y.summ) := by
  rw [r1, p1]
  unfold nub
  rw [List.map_append, growL_append]
  rfl
 have hml : ∀ z ∈ M1 ++ M2, z.e.tree tm am = true ∧ z.e.size ≤ 100000 := fun z hz => Hmem.out _ (by rw [← hN]; exact List.mem_map.2 ⟨z, hz, rfl⟩)
 have hll : (M1 ++ M2).length ≤ 100000 := by
  have := congrArg List.length hN
  rw [List.length_map] at this
  rw [this]
  exact hnl2.out
 obtain ⟨M, hM⟩ : ∃ M, M = M1 ++ M2 := ⟨_, rfl⟩
 rw [← hM] at hml hN hll hSX3 hV3
 have Hml := Lib.hid hml
 have HN := Lib.hid hN
 obtain ⟨la, lc, rfl, -, -⟩ := hV3.shape
 have o0 := hO3.c0
 have oz := hO3.frozen 0
 have olt := hO3.lt
 have R3 := (R.keep (hs2.block _ R.lt (by omega))).keep (hs3.block _ (by have := R.lt; omega) (by have := R.lt; omega))
 have hB3 : Below w.heap.size w w3 := hB.trans ((hs2.below (B := w.heap.size) (by have := hB.size; omega) (fun q h => by have := hB.size; omega)).trans (hs3.below (B := w.heap.size) (by have := hB.size; omega) (fun q h => by have := hB.size; omega)))
 clear hM hN hml p1 p2 r1 r2 R V0 O hO2 hV2 h02 hB hM1
 go_wp2_with fail
 refine (l02Sorted_i ht ha (fun q h => h.2) (hSX3.keep h03) Hml.out hll hV3).mono ?_
 rintro f w4 ⟨g', c', L3, rfl, ⟨hL3, hm3⟩, hg', hap, hb4⟩
 have hz4 := hb4.size
 have O4 := hO3.below hb4
 have R4 := R3.below hb4
 clear o0 oz olt hO3 hV3 R3
 have HL : Hid (sortI (nub (x.summ ++ y.summ)) = L3.map Sh.e) := by show _ = _; rw [hL3, HN.out]
 obtain ⟨n3, hn3⟩ : ∃ n, n = L3.length := ⟨_, rfl⟩
 rw [← hn3] at hap ⊢
 obtain ⟨hgb, hc1, hc2, rest, hblk⟩ := AppS.blk (us := shs L3) hap
 unfold maxLen at hc2
 have O5 := O4.set 0 (.slice (some ⟨g', 0, none⟩) n3 c')
 obtain ⟨v5, hv5⟩ : ∃ v, v = w4.setCell ⟨w.heap.size + 1 + 1, 0, none⟩ (.slice (some ⟨g', 0, none⟩) n3 c') := ⟨_, rfl⟩
 have hs5 : Spares (fun q => q = w.heap.size + 1 + 1) w4 v5 := by rw [hv5]; exact Spares.set (Spares.refl _)
 rw [← hv5] at O5
 have hz5 := hs5.size
 have hv5z : v5.heap.size = w4.heap.size := by rw [hv5]; simp [World.setCell]
 have R5 := R4.keep (hs5.block _ R4.lt (by omega))
 have hB5 : Below w.heap.size w v5 := hB3.trans ((hb4.mono (by have := hB3.size; omega)).trans (hs5.below (B := w.heap.size) (by have := hB3.size; omega) (fun q h => by omega)))
 have HAt : Hid (∀ w', Below v5.heap.size v5 w' → ∀ (i : Nat) (z : Sh), L3[i]? = some z → ExAt w' g' (i * 3) z.e) := by
  intro w' hbw i z hz
  have hgl := hblk.lt
  have hb' := (hblk.keep (hs5.block _ hgl (by omega))).below hbw
  have q : ∀ m v, z.cells[m]? = some v → w'.cell? ⟨g', i * 3 + m, none⟩ = some v := by
   intro m v hv
   have hm : m < 3 := by have := (List.getElem?_eq_some_iff.1 hv).1; simpa [Sh.cells] using this
   have hil := (List.getElem?_eq_some_iff.1 hz).1
   rw [hb'.cell, List.getElem?_append_left (by rw [shs_length]; omega), shs_at L3 i z hz m hm, hv]
  have k := (h03.trans (KeptX.of_below hb4)).trans ((KeptX.of_spares (X := fun q => w.heap.size ≤ q ∧ q < w3.heap.size) hs5 (fun q _ h => by omega)).trans (KeptX.of_below hbw))
  exact ⟨q 0 _ rfl, q 1 _ rfl, z.s, z.c, q 2 _ rfl, ((hSX3 z (hm3 z (List.mem_of_getElem? hz))).keep k).rd⟩
 have HSz : Hid (∀ (i : Nat) (z : Sh), L3[i]? = some z → z.e.size ≤ 1073741824) := fun i z hz => by have := (Hml.out z (hm3 z (List.mem_of_getElem? hz))).2; omega
 have o4z := O4.frozen 0
 have o4lt := O4.lt
 have o4c := O4.c0
 have o5 := O5.c0
 by_cases h0 : n3 = 0
 ·
  subst h0
  have E1 : Hid (sumT x y = .leaf 1) := by
   show _ = _
   unfold sumT
   rw [HL.out, List.eq_nil_of_length_eq_zero hn3.symm]
   rfl
  clear hn3
  go_wp2_with fail
  rw [← hv5]
  refine (l02Zero_i).mono ?_
  rintro f w6 ⟨s3, c3, rfl, hf, hb⟩
  have hB := Below.on hB5 hb hB5.size
  have R := R5.below hb
  have hz6 := hb.size
  clear hB5
  -- the function's end: R the result's box, hB; h3 : Freshs W V .. (W below V), E1 : Hid (result = (Ex.leaf 1))
  -- the result box w.heap.size of world w6 is set to an expression; goal: bodyPost. R : the box; Rests: hs5 : Spares, T2
  have r0 := R.c0
  have r1 := R.c1
  have r2 := R.c2
  have z0 := R.frozen 0
  have z1 := R.frozen 1
  have z2 := R.frozen 2
  have ltR := R.lt
  go_wp2_with fail
  have T2 := ((R.set 0 (.int .i64 (Ex.leaf 1).kind)).set 1 (.int .i64 (Ex.leaf 1).num)).set 2 (.slice s3 (Ex.leaf 1).kids.length c3)
  have hs5 : Spares (fun y => y = w.heap.size) w6 (((w6.setCell ⟨w.heap.size, 0, none⟩ (.int .i64 (Ex.leaf 1).kind)).setCell ⟨w.heap.size, 1, none⟩ (.int .i64 (Ex.leaf 1).num)).setCell ⟨w.heap.size, 2, none⟩ (.slice s3 (Ex.leaf 1).kids.length c3)) := Spares.set (Spares.set (Spares.set (Spares.refl w6)))
  generalize (((w6.setCell ⟨w.heap.size, 0, none⟩ (.int .i64 (Ex.leaf 1).kind)).setCell ⟨w.heap.size, 1, none⟩ (.int .i64 (Ex.leaf 1).num)).setCell ⟨w.heap.size, 2, none⟩ (.slice s3 (Ex.leaf 1).kids.length c3)) = w5 at T2 hs5 ⊢
  have t0 := T2.c0
  have t1 := T2.c1
  have t2 := T2.c2
  have hzB5 := hB.size
  have hB5 := hB.trans (hs5.below (B := w.heap.size) (by omega) (fun y hy => by omega))
  refine bodyPost_ret (v := .agg #[.int .i64 (Ex.leaf 1).kind, .int .i64 (Ex.leaf 1).num, .slice s3 (Ex.leaf 1).kids.length c3]) (by simp [results, Tryz.results51, go_sem, t0, t1, t2]) rfl ?_
  rw [E1.out]
  exact ⟨_, _, rfl, Freshs.from (Freshs.keep hf (fun y _ hy2 => hs5.block y hy2 (by omega))) (by omega), hB5⟩
 obtain ⟨z0, hz0⟩ : ∃ z, L3[0]? = some z := ⟨_, List.getElem?_eq_getElem (by omega)⟩
 have cn : ((n3 : Int) == 0) = false := by simp; omega
 have cp : (0 : Int) < (n3 : Int) := by omega
 have Hn3 := Lib.hid hn3
 clear hn3
 go_wp2_with fail
 rw [← hv5]
 refine (l01Own_e (by have := HAt.out v5 (Below.refl _ _) 0 z0 hz0; simpa using this) (HSz.out 0 z0 hz0)).mono ?_
 rintro f w6 ⟨s6, c6, rfl, hf6, hb6⟩
 have hz6 := hb6.size
 have o6 := (hb6.cell (p := ⟨w.heap.size + 1 + 1, 0, none⟩) O5.lt).trans o5
 have o6lt : w.heap.size + 1 + 1 < w6.heap.size := by have := O5.lt; omega
 clear o4z o4lt o4c o5
 go_wp2_with fail
 have X0 := Blk.new3 w6 34 (.int .i64 z0.e.kind) (.int .i64 z0.e.num) (.slice s6 z0.e.kids.length c6)
 have hb7 : Below v5.heap.size v5 (w6.alloc (.cells #[.int .i64 z0.e.kind, .int .i64 z0.e.num, .slice s6 z0.e.kids.length c6] 34)) := hb6.alloc hz6 _
 have hf7 : OwnE v5.heap.size w6.heap.size (w6.alloc (.cells #[.int .i64 z0.e.kind, .int .i64 z0.e.num, .slice s6 z0.e.kids.length c6] 34)) z0.e s6 c6 := by
  obtain ⟨F, q1, q2, q3⟩ := hf6.single
  exact ⟨F, q1.keep (fun b hb => Below.heap_alloc _ _ b (q1.lt b hb)), q2, fun b hb => ⟨q3 b hb, by have := q1.lt b hb; omega⟩⟩
 have hz7 : w6.heap.size < (w6.alloc (.cells #[.int .i64 z0.e.kind, .int .i64 z0.e.num, .slice s6 z0.e.kids.length c6] 34)).heap.size := by simp
 obtain ⟨ob, hob⟩ : ∃ ob, ob = w6.heap.size := ⟨_, rfl⟩
 rw [← hob] at X0 hf7 hz7 ⊢
 have Hob := Lib.hid hob
 generalize w6.alloc (.cells #[.int .i64 z0.e.kind, .int .i64 z0.e.num, .slice s6 z0.e.kids.length c6] 34) = w7 at X0 hb7 hf7 hz7 ⊢
 have hobl : v5.heap.size ≤ ob := by omega
 clear hb6 hf6 o6 hob
 go_loopw [7] (fun i wr => ∃ (j : Nat) (acc : Ex) (s : Option Addr) (c : Nat), 1 ≤ j ∧ j ≤ n3 ∧ i = .int .i64 j ∧ Hid (acc = foldS ((L3.take j).map Sh.e)) ∧ Blk wr ob 34 [.int .i64 acc.kind, .int .i64 acc.num, .slice s acc.kids.length c] ∧ OwnE v5.heap.size ob wr acc s c ∧ Below v5.heap.size v5 wr) (fun i _ => n3 - (intOf i).toNat)
 case atStart =>
  refine ⟨1, z0.e, s6, c6, Nat.le_refl _, by omega, rfl, ?_, X0, hf7, hb7⟩
  show _ = _
  cases hL : L3 with
  | nil => rw [hL] at hz0; simp at hz0
  | cons q r => rw [hL] at hz0; simp at hz0; subst hz0; simp [foldS]
 case round =>
  obtain ⟨j, acc, s, c, hj1, hj2, rfl, Hacc, X1, hown, hBr⟩ := hrel
  clear X0 hf7 hb7 hz7
  have hszr := hBr.size
  have o7 := (O5.below hBr).c0
  have o7lt := (O5.below hBr).lt
  have hj0 := Int.natCast_nonneg j
  have hxl := X1.lt
  by_cases hlt : j < n3
  ·
   obtain ⟨z, hz⟩ : ∃ z, L3[j]? = some z := ⟨_, List.getElem?_eq_getElem (by have := Hn3.out; omega)⟩
   have hjn : (j : Int) < (n3 : Int) := by omega
   have hzs := HSz.out j z hz
   have Hac2 : Hid (.two 6 acc z.e = foldS ((L3.take (j + 1)).map Sh.e)) := by
    show _ = _
    obtain ⟨hjl, hze⟩ := List.getElem?_eq_some_iff.1 hz
    rw [List.take_succ_eq_append_getElem hjl, hze, List.map_append, List.map_cons, List.map_nil, foldS_snoc _ (by intro h; have := congrArg List.length h; rw [List.length_map, List.length_take, List.length_nil] at this; have := Hn3.out; omega), Hacc.out]
   have Hz := Lib.hid hz
   clear hz
   obtain ⟨wb, rfl⟩ : ∃ v, v = wr := ⟨_, rfl⟩
   have O7 := O5.below hBr
   go_wp2_with fail
   obtain ⟨x1, hx1⟩ := mkval ?a1_1
   obtain ⟨x2, hx2⟩ := mkval ?a1_2
   obtain ⟨x3, hx3⟩ := mkval ?a1_3
   have hGb : ∀ m b, (fun m b => (m = 0 ∧ b = ob)) m b → (v5.heap.size) ≤ b ∧ b < (wb).heap.size := by
    intro m b hg
    rcases hg with ⟨rfl, hg⟩
    ·
     subst hg
     have q := X1.lt
     omega
   have hGd : ∀ m m' b, (fun m b => (m = 0 ∧ b = ob)) m b → (fun m b => (m = 0 ∧ b = ob)) m' b → m = m' := by
    intro m m' b h h'
    rcases h with ⟨rfl, h⟩ <;> rcases h' with ⟨rfl, h'⟩ <;> first
     | rfl
   refine region_rs [] [(6, 0)] (fun m b => (m = 0 ∧ b = ob)) (v5.heap.size) (fun i iv vs wx => match i with
    | 0 => vs 0 = .agg #[.int .i64 acc.kind, .int .i64 acc.num, .slice s acc.kids.length c]
    | 1 => vs 1 = x1
    | 2 => vs 2 = x2
    | 3 => vs 3 = x3
    | 4 => ∃ s2 c2, vs 4 = .agg #[.int .i64 z.e.kind, .int .i64 z.e.num, .slice s2 z.e.kids.length c2] ∧ FreshIn (iv 4) wx [kidsD z.e.kids] [.slice s2 z.e.kids.length c2]
    | 5 => ∃ gr, vs 5 = .agg #[.int .i64 6, .int .i64 0, .slice (some ⟨gr, 0, none⟩) 2 2] ∧ FreshIn (iv 5) wx [.sl 3 2 ([.int .i64 acc.kind, .int .i64 acc.num, .slice s acc.kids.length c, .int .i64 z.e.kind, .int .i64 z.e.num, aggAt (vs 4) 2].map D.raw)] [.slice (some ⟨gr, 0, none⟩) 2 2]
    | 6 => Blk wx (ob) 34 [aggAt (vs 5) 0, aggAt (vs 5) 1, aggAt (vs 5) 2]
    | _ => True) (fun i iv vs => match i with
    | 0 => vs 0 = .agg #[.int .i64 acc.kind, .int .i64 acc.num, .slice s acc.kids.length c]
    | 1 => vs 1 = x1
    | 2 => vs 2 = x2
    | 3 => vs 3 = x3
    | 4 => ∃ s2 c2, vs 4 = .agg #[.int .i64 z.e.kind, .int .i64 z.e.num, .slice s2 z.e.kids.length c2]
    | 5 => ∃ gr, vs 5 = .agg #[.int .i64 6, .int .i64 0, .slice (some ⟨gr, 0, none⟩) 2 2]
    | 6 => True
    | _ => True) (by kernel_rfl) (by kernel_rfl) [0, 1, 2, 3, 4, 5, 6] (by kernel_rfl) ?hbase ?hGb ?hG ?hJ ?hE ?hEE ?hstep ?hQ
   case hbase => first | exact Nat.le_refl _ | omega | (simp; omega)
   case hGb =>
    exact hGb
   case hG =>
    exact hGd
   case hJ =>
    intro i hi iv iv' vs vs' wx wx' ha hv hz hk hj
    simp only [List.mem_cons, List.not_mem_nil, or_false] at hi
    rcases hi with rfl | rfl | rfl | rfl | rfl | rfl | rfl
    ·
     exact (hv.out 0 (mem_of (by kernel_rfl))).symm.trans hj
    ·
     exact (hv.out 1 (mem_of (by kernel_rfl))).symm.trans hj
    ·
     exact (hv.out 2 (mem_of (by kernel_rfl))).symm.trans hj
    ·
     exact (hv.out 3 (mem_of (by kernel_rfl))).symm.trans hj
    ·
     have e4 := hv.out 4 (mem_of (by kernel_rfl))
     have g4 := ha.out 4 (mem_of (by kernel_rfl))
     obtain ⟨s2, c2, q1, q2⟩ := hj
     exact ⟨s2, c2, e4 ▸ q1, g4 ▸ q2.keep (fun b hb h1 h2 => hk.out b hb (foot_own h1 h2))⟩
    ·
     have e4 := hv.out 4 (mem_of (by kernel_rfl))
     have e5 := hv.out 5 (mem_of (by kernel_rfl))
     have g5 := ha.out 5 (mem_of (by kernel_rfl))
     obtain ⟨gr, q1, q2⟩ := hj
     refine ⟨gr, e5 ▸ q1, ?_⟩
     rw [← e4, ← g5]
     exact q2.keep (fun b hb h1 h2 => hk.out b hb (foot_own h1 h2))
    ·
     have e5 := hv.out 5 (mem_of (by kernel_rfl))
     have hj' : Blk wx (ob) 34 [aggAt (vs 5) 0, aggAt (vs 5) 1, aggAt (vs 5) 2] := hj
     show Blk wx' (ob) 34 [aggAt (vs' 5) 0, aggAt (vs' 5) 1, aggAt (vs' 5) 2]
     rw [← e5]
     exact hj'.keep (hk.out _ hj'.lt (foot_given 0 (by decide) ⟨rfl, rfl⟩))
   case hE =>
    intro i hi iv vs wx hj
    simp only [List.mem_cons, List.not_mem_nil, or_false] at hi
    rcases hi with rfl | rfl | rfl | rfl | rfl | rfl | rfl
    ·
     exact hj
    ·
     exact hj
    ·
     exact hj
    ·
     exact hj
    ·
     obtain ⟨s2, c2, q1, -⟩ := hj
     exact ⟨s2, c2, q1⟩
    ·
     obtain ⟨gr, q1, -⟩ := hj
     exact ⟨gr, q1⟩
    ·
     trivial
   case hEE =>
    intro i hi iv iv' vs vs' ha hv hj
    simp only [List.mem_cons, List.not_mem_nil, or_false] at hi
    rcases hi with rfl | rfl | rfl | rfl | rfl | rfl | rfl
    ·
     exact (hv.out 0 (mem_of (by kernel_rfl))).symm.trans hj
    ·
     exact (hv.out 1 (mem_of (by kernel_rfl))).symm.trans hj
    ·
     exact (hv.out 2 (mem_of (by kernel_rfl))).symm.trans hj
    ·
     exact (hv.out 3 (mem_of (by kernel_rfl))).symm.trans hj
    ·
     have e4 := hv.out 4 (mem_of (by kernel_rfl))
     have hj' : ∃ s2 c2, vs 4 = .agg #[.int .i64 z.e.kind, .int .i64 z.e.num, .slice s2 z.e.kids.length c2] := hj
     show ∃ s2 c2, vs' 4 = .agg #[.int .i64 z.e.kind, .int .i64 z.e.num, .slice s2 z.e.kids.length c2]
     rw [← e4]
     exact hj'
    ·
     have e5 := hv.out 5 (mem_of (by kernel_rfl))
     have hj' : ∃ gr, vs 5 = .agg #[.int .i64 6, .int .i64 0, .slice (some ⟨gr, 0, none⟩) 2 2] := hj
     show ∃ gr, vs' 5 = .agg #[.int .i64 6, .int .i64 0, .slice (some ⟨gr, 0, none⟩) 2 2]
     rw [← e5]
     exact hj'
    ·
     trivial
   case hstep =>
    intro i hi opr ho iv vs w1 hB hS hSo hd he hbd hsep hun K hK
    simp only [List.mem_cons, List.not_mem_nil, or_false] at hi
    have hzB := hB.size
    have HGb := Lib.hid hGb
    clear hGb hGd
    have hBw := hBr.trans hB
    have hza := HAt.out w1 hBw j z Hz.out
    have o8 := (O7.keep (hB.block _ O5.lt)).c0
    generalize hA : putFrom _ 0 vs _ = A at hK ⊢
    simp only [putFrom, puts] at hA
    rcases hi with rfl | rfl | rfl | rfl | rfl | rfl | rfl
    all_goals
     simp at ho
     subst ho
     subst hA
    ·
     have X11 := X1.keep (hS.out 0 _ (by kernel_rfl) ⟨rfl, rfl⟩)
     have x1c0 := X11.c0
     have x1z0 := X11.frozen 0
     have x1c1 := X11.c1
     have x1z1 := X11.frozen 1
     have x1c2 := X11.c2
     have x1z2 := X11.frozen 2
     have x1lt := X11.lt
     go_wp2_with fail
     exact Onward.mk (hK (.agg #[.int .i64 acc.kind, .int .i64 acc.num, .slice s acc.kids.length c]) _ _ (fun h => by cases h) (by first | rfl | (simp only [puts])) (Spares.refl _) (fun iv' _ _ => rfl))
    ·
     go_wp2_with fail
     refine Onward.mk (hK ?val1_1 _ _ (fun h => by cases h) ?eqA (Spares.refl _) (fun iv' _ _ => ?ja))
     case eqA => first | rfl | (simp only [puts]; rfl)
     case ja => exact hx1.out.symm
    ·
     go_wp2_with fail
     refine Onward.mk (hK ?val1_2 _ _ (fun h => by cases h) ?eqA (Spares.refl _) (fun iv' _ _ => ?ja))
     case eqA => first | rfl | (simp only [puts]; rfl)
     case ja => exact hx2.out.symm
    ·
     have h1 := (hd.out 1 (mem_of (by kernel_rfl)) (by decide) (by kernel_rfl)).trans hx1.out
     have h2 := (hd.out 2 (mem_of (by kernel_rfl)) (by decide) (by kernel_rfl)).trans hx2.out
     go_wp2_with fail
     refine Onward.mk (hK ?val1_3 _ _ (fun h => by cases h) ?eqA (Spares.refl _) (fun iv' _ _ => ?ja))
     case eqA => first | rfl | (simp only [puts, h1, h2]; rfl)
     case ja => exact hx3.out.symm
    ·
     have h3 := (hd.out 3 (mem_of (by kernel_rfl)) (by decide) (by kernel_rfl)).trans hx3.out
     go_wp2_with fail
     refine (l01Own_e hza hzs).mono ?_
     rintro e w2 ⟨s2, c2, rfl, hf, hb⟩
     go_wp2_with fail
     exact Onward.mk (hK (.agg #[.int .i64 z.e.kind, .int .i64 z.e.num, .slice s2 z.e.kids.length c2]) _ _ (fun h => by cases h) (by first | rfl | (simp only [puts, h3])) (Spares.of_below hb) (fun iv' _ hi => ⟨s2, c2, rfl, by rw [hi]; exact Freshs.stretch (hf)⟩))
    ·
     have h0 : vs 0 = .agg #[.int .i64 acc.kind, .int .i64 acc.num, .slice s acc.kids.length c] := hd.out 0 (mem_of (by kernel_rfl)) (by decide) (by kernel_rfl)
     obtain ⟨s2, c2, h4, f4⟩ := hd.out 4 (mem_of (by kernel_rfl)) (by decide) (by kernel_rfl)
     go_wp2_with fail
     refine (l02Pair_i).mono ?_
     rintro e w2 ⟨gr, rfl, hg5, hG5, hb⟩
     go_wp2_with fail
     exact Onward.mk (hK (.agg #[.int .i64 6, .int .i64 0, .slice (some ⟨gr, 0, none⟩) 2 2]) _ _ (fun h => by cases h) (by first | rfl | (simp only [puts, h0, h4])) (Spares.of_below hb) (fun iv' _ hi => ⟨gr, rfl, by rw [hi]; exact Freshs.stretch (by show Freshs w1 w2 [.sl 3 2 ([.int .i64 acc.kind, .int .i64 acc.num, .slice s acc.kids.length c, .int .i64 z.e.kind, .int .i64 z.e.num, aggAt (vs 4) 2].map D.raw)] _; rw [h4]; exact row_fresh hG5 rfl (by simp [aggAt]; exact ⟨rfl, rfl, rfl, rfl, rfl, rfl⟩) hg5 (by unfold maxLen; omega) (by omega))⟩))
    ·
     obtain ⟨gr, h5, f5⟩ := hd.out 5 (mem_of (by kernel_rfl)) (by decide) (by kernel_rfl)
     have X11 := X1.keep (hS.out 0 _ (by kernel_rfl) ⟨rfl, rfl⟩)
     have x1c0 := X11.c0
     have x1z0 := X11.frozen 0
     have x1c1 := X11.c1
     have x1z1 := X11.frozen 1
     have x1c2 := X11.c2
     have x1z2 := X11.frozen 2
     have x1lt := X11.lt
     go_wp2_with fail
     exact Onward.mk (hK undef _ _ (fun _ => rfl) (by simp only [puts, h5]) ((spares_sets (b0 := ob) (by repeat (first | exact Spares.refl _ | apply Spares.set))).more (fun b h => Or.inl ⟨0, by decide, ⟨rfl, h⟩⟩)) (fun iv' ag hi => by
      show Blk _ (ob) 34 [aggAt (vs 5) 0, aggAt (vs 5) 1, aggAt (vs 5) 2]
      rw [h5]
      exact (((X11.set 0 _).set 1 _).set 2 _)))
   case hQ =>
    intro iv vs wx hB hSp hd he hbd hsep
    have hzB := hB.size
    have h0 : vs 0 = .agg #[.int .i64 acc.kind, .int .i64 acc.num, .slice s acc.kids.length c] := hd.out 0 (mem_of (by kernel_rfl)) (not_eaten (by kernel_rfl))
    have h1 := (hd.out 1 (mem_of (by kernel_rfl)) (not_eaten (by kernel_rfl))).trans hx1.out
    have h2 := (hd.out 2 (mem_of (by kernel_rfl)) (not_eaten (by kernel_rfl))).trans hx2.out
    have h3 := (hd.out 3 (mem_of (by kernel_rfl)) (not_eaten (by kernel_rfl))).trans hx3.out
    obtain ⟨s2, c2, h4, f4⟩ := hd.out 4 (mem_of (by kernel_rfl)) (not_eaten (by kernel_rfl))
    obtain ⟨gr, h5, f5⟩ := hd.out 5 (mem_of (by kernel_rfl)) (not_eaten (by kernel_rfl))
    have f6 : Blk _ (ob) 34 [aggAt (vs 5) 0, aggAt (vs 5) 1, aggAt (vs 5) 2] := hd.out 6 (mem_of (by kernel_rfl)) (not_eaten (by kernel_rfl))
    simp only [putFrom, puts]
    rw [h4] at f5
    rw [h5] at f6
    simp only [aggAt] at f5 f6
    have q4 := (hbd.out 4 (mem_of (by kernel_rfl))).1
    have q5 := (hbd.out 5 (mem_of (by kernel_rfl))).1
    have hsp := hsep.out 4 (mem_of (by kernel_rfl)) 5 (mem_of (by kernel_rfl)) (by decide)
    have hSx : Spares (fun q => q = ob) wb wx := hSp.out.more (fun q ⟨_, _, h⟩ => h)
    obtain ⟨a2, c3, e2, hown2⟩ := hown.two hSx f4 f5 q4 q5 hsp hxl (by omega)
    simp only [Value.slice.injEq, true_and] at e2
    obtain ⟨rfl, rfl⟩ := e2
    clear hd he hbd hsep h0 h1 h2 h3 h4 h5 q4 q5 hsp f4 f5
    go_wp2_with fail
    go_roundw
    case rel => exact ⟨j + 1, .two 6 acc z.e, some ⟨gr, 0, none⟩, 2, by omega, by omega, by go_num, Hac2, f6, hown2, hBr.trans hB⟩
    case measure => simp [intOf]; omega
  ·
   have hjn : j = n3 := by omega
   have E1 : Hid (sumT x y = acc) := by
    show _ = _
    rw [Hacc.out, hjn, Hn3.out, List.take_length]
    unfold sumT
    rw [HL.out]
   have R := R5.below hBr
   have hB : Below w.heap.size w wr := hB5.trans (hBr.mono hB5.size)
   have hwv : w.heap.size < v5.heap.size := R5.lt
   have x0 := X1.c0
   have x1 := X1.c1
   have x2 := X1.c2
   have hjn2 : ¬ (j : Int) < (n3 : Int) := by omega
   clear hjn hj2 hlt hB5
   -- the result box w.heap.size of world wr is set to an expression; goal: bodyPost. R : the box; Rests: hs5 : Spares, T2
   have r0 := R.c0
   have r1 := R.c1
   have r2 := R.c2
   have z0 := R.frozen 0
   have z1 := R.frozen 1
   have z2 := R.frozen 2
   have ltR := R.lt
   go_wp2_with fail
   have T2 := ((R.set 0 (.int .i64 acc.kind)).set 1 (.int .i64 acc.num)).set 2 (.slice s acc.kids.length c)
   have hs5 : Spares (fun y => y = w.heap.size) wr (((wr.setCell ⟨w.heap.size, 0, none⟩ (.int .i64 acc.kind)).setCell ⟨w.heap.size, 1, none⟩ (.int .i64 acc.num)).setCell ⟨w.heap.size, 2, none⟩ (.slice s acc.kids.length c)) := Spares.set (Spares.set (Spares.set (Spares.refl wr)))
   generalize (((wr.setCell ⟨w.heap.size, 0, none⟩ (.int .i64 acc.kind)).setCell ⟨w.heap.size, 1, none⟩ (.int .i64 acc.num)).setCell ⟨w.heap.size, 2, none⟩ (.slice s acc.kids.length c)) = w5 at T2 hs5 ⊢
   have t0 := T2.c0
   have t1 := T2.c1
   have t2 := T2.c2
   have hzB5 := hB.size
   have hB5 := hB.trans (hs5.below (B := w.heap.size) (by omega) (fun y hy => by omega))
   refine bodyPost_ret (v := .agg #[.int .i64 acc.kind, .int .i64 acc.num, .slice s acc.kids.length c]) (by simp [results, Tryz.results51, go_sem, t0, t1, t2]) rfl ?_
   rw [E1.out]
   obtain ⟨F, q1, q2, q3⟩ := hown
   exact ⟨_, _, rfl, Freshs.one ⟨F, q1.keep (fun b hb => hs5.block b (q1.lt b hb) (by have := (q3 b hb).1; omega)), q2, fun b hb => by have := (q3 b hb).1; omega⟩, hB5⟩
end Go.Proofs.YtcokljhamhgelaaGreatDoor

namespace Go.Proofs.YtcokljhamhgelaaGreatDoor
set_option linter.unusedVariables false
set_option linter.unusedSimpArgs false
open Go.ChangeShapes Go.WideShapes Go.ChangeAt Go.RowKit Go.Deep Go.Sort
set_option maxRecDepth 100000 in
set_option maxHeartbeats 8000000 in
theorem l02Tidy_all (tm am : Int) (ht : tm ≤ 8) (ha : am ≤ 8) (N : Nat) : ∀ (e : Ex) (b o : Nat) (w : World), e.size ≤ N → ExAt w b o e → e.tree tm am = true → e.size ≤ 90000 →
  Calls Tryz.prog 26 #[.pointer (some ⟨b, o, none⟩)] w (OutE w e.tidy) := by
 induction N using Nat.strongRecOn with
 | _ N ih =>
 intro e b o w hN hx hxt hsz1
 have HIH := Lib.hid ih
 clear ih
 have hlt := hx.lt
 obtain ⟨k, n, ks⟩ := e
 obtain ⟨hk, -, -, htl⟩ := tree_parts hxt
 by_cases h6 : k = 6
 ·
  subst h6
  obtain ⟨u, v, rfl⟩ := two_kids hk (by omega)
  have hsz := Ex.size_eq (.mk 6 n [u, v])
  simp only [Ex.sizeL, Ex.kids_mk] at hsz
  have E1 : Hid ((Ex.mk 6 n [u, v]).tidy = sumT u.tidy v.tidy) := by show _ = _; exact Ex.tidy_sum
  have hut : u.tree tm am = true := Ex.treeL_mem htl (by simp)
  have hvt : v.tree tm am = true := Ex.treeL_mem htl (by simp)
  obtain ⟨hu1, hu2⟩ := tidy_spec tm am _ u (Nat.le_refl _) hut
  obtain ⟨hv1, hv2⟩ := tidy_spec tm am _ v (Nat.le_refl _) hvt
  clear htl hk
  obtain ⟨g0, g1, sx, cx, g2, g3⟩ := id hx
  simp only [Ex.kind_mk, Ex.num_mk, Ex.kids_mk] at g0 g1 g2
  obtain ⟨kb, ko, rfl⟩ := kid_some g3 (by simp [Ex.kids])
  have hu : ExAt w kb ko u := by have := kid_exAt g3 (i := 0) (e := u) rfl; simpa using this
  obtain ⟨-, hlen, hcap, -, -⟩ := kid_at g3
  unfold maxLen at hcap
  simp only [Ex.kids_mk, List.length_cons, List.length_nil, Nat.zero_add, Nat.reduceAdd] at g2 hlen hcap
  have Hg0 := Lib.hid g0
  have Hg2 := Lib.hid g2
  have hv : ExAt w kb (ko + 3) v := by have := kid_exAt g3 (i := 1) (e := v) rfl; simpa using this
  go_enter Tryz.func26, Tryz.ntmps26
  go_wp2_with fail
  have R := Blk.new3 w 34 (.int .i64 0) (.int .i64 0) (.slice none 0 0)
  have hB : Below w.heap.size w (w.alloc (.cells #[.int .i64 0, .int .i64 0, .slice none 0 0] 34)) := by (repeat' first | exact Below.refl _ _ | assumption | apply Below.alloc | apply Below.drew | apply Below.setCell | omega | (simp; done) | (simp; omega))
  have hz0 : (w.alloc (.cells #[.int .i64 0, .int .i64 0, .slice none 0 0] 34)).heap.size = w.heap.size + 1 := by simp
  generalize w.alloc (.cells #[.int .i64 0, .int .i64 0, .slice none 0 0] 34) = w1 at R hB hz0 ⊢
  have hx1 := hx.below hB
  clear g0 g1 g2
  refine (HIH.out u.size (by omega) u _ _ _ (Nat.le_refl _) (hu.below hB) hut (by omega)).mono ?_
  rintro f w2 ⟨s2, c2, rfl, hf2, hb2⟩
  have hz2 := hb2.size
  have g2q := (hb2.cell (p := ⟨b, o + 2, none⟩) (by have := hx1.lt; omega)).trans ((hB.cell (p := ⟨b, o + 2, none⟩) hlt).trans Hg2.out)
  have hlt2 : b < w2.heap.size := by have := hx1.lt; omega
  go_wp2_with fail
  clear g2q
  have U := Blk.new3 w2 34 (.int .i64 u.tidy.kind) (.int .i64 u.tidy.num) (.slice s2 u.tidy.kids.length c2)
  have hb3 : Below w1.heap.size w1 (w2.alloc (.cells #[.int .i64 u.tidy.kind, .int .i64 u.tidy.num, .slice s2 u.tidy.kids.length c2] 34)) := hb2.alloc hz2 _
  have hd2 := (Rds.one hf2.rds).alloc (.cells #[.int .i64 u.tidy.kind, .int .i64 u.tidy.num, .slice s2 u.tidy.kids.length c2] 34)
  generalize w2.alloc (.cells #[.int .i64 u.tidy.kind, .int .i64 u.tidy.num, .slice s2 u.tidy.kids.length c2] 34) = w3 at U hb3 hd2 ⊢
  have hua : ExAt w3 w2.heap.size 0 u.tidy := ⟨U.c0, U.c1, s2, c2, U.c2, hd2⟩
  have hz3 := hb3.size
  refine (HIH.out v.size (by omega) v _ _ _ (Nat.le_refl _) ((hv.below hB).below hb3) hvt (by omega)).mono ?_
  rintro f w4 ⟨s4, c4, rfl, hf4, hb4⟩
  have hz4 := hb4.size
  have hb14 := hb3.trans (hb4.mono hz3)
  have g0q := (hb14.cell (p := ⟨b, o, none⟩) (by have := hx1.lt; omega)).trans ((hB.cell (p := ⟨b, o, none⟩) hlt).trans Hg0.out)
  have hlt4 : b < w4.heap.size := by have := hx1.lt; omega
  go_wp2_with fail
  clear g0q
  have V := Blk.new3 w4 34 (.int .i64 v.tidy.kind) (.int .i64 v.tidy.num) (.slice s4 v.tidy.kids.length c4)
  have hb5 : Below w1.heap.size w1 (w4.alloc (.cells #[.int .i64 v.tidy.kind, .int .i64 v.tidy.num, .slice s4 v.tidy.kids.length c4] 34)) := hb14.alloc (by omega) _
  have hd4 := (Rds.one hf4.rds).alloc (.cells #[.int .i64 v.tidy.kind, .int .i64 v.tidy.num, .slice s4 v.tidy.kids.length c4] 34)
  have hua5 := (hua.below hb4).below (Below.alloc (Below.refl w4.heap.size w4) (Nat.le_refl _) (.cells #[.int .i64 v.tidy.kind, .int .i64 v.tidy.num, .slice s4 v.tidy.kids.length c4] 34))
  generalize w4.alloc (.cells #[.int .i64 v.tidy.kind, .int .i64 v.tidy.num, .slice s4 v.tidy.kids.length c4] 34) = v5 at V hb5 hd4 hua5 ⊢
  have hva : ExAt v5 w4.heap.size 0 v.tidy := ⟨V.c0, V.c1, s4, c4, V.c2, hd4⟩
  refine (l02Sum_i ht ha hua5 hva hu1 hv1 (by omega)).mono ?_
  rintro f v6 ⟨s6, c6, rfl, hf6, hb6⟩
  have hz5 := hb5.size
  replace hB := Below.on hB (hb5.trans (hb6.mono hz5)) hB.size
  replace R := R.below (hb5.trans (hb6.mono hz5))
  have hz6 := hb6.size
  -- the function's end: R the result's box, hB; h3 : Freshs W V .. (W below V), E1 : Hid (result = (sumT u.tidy v.tidy))
  -- the result box w.heap.size of world v6 is set to an expression; goal: bodyPost. R : the box; Rests: hs5 : Spares, T2
  have r0 := R.c0
  have r1 := R.c1
  have r2 := R.c2
  have z0 := R.frozen 0
  have z1 := R.frozen 1
  have z2 := R.frozen 2
  have ltR := R.lt
  go_wp2_with fail
  have T2 := ((R.set 0 (.int .i64 (sumT u.tidy v.tidy).kind)).set 1 (.int .i64 (sumT u.tidy v.tidy).num)).set 2 (.slice s6 (sumT u.tidy v.tidy).kids.length c6)
  have hs5 : Spares (fun y => y = w.heap.size) v6 (((v6.setCell ⟨w.heap.size, 0, none⟩ (.int .i64 (sumT u.tidy v.tidy).kind)).setCell ⟨w.heap.size, 1, none⟩ (.int .i64 (sumT u.tidy v.tidy).num)).setCell ⟨w.heap.size, 2, none⟩ (.slice s6 (sumT u.tidy v.tidy).kids.length c6)) := Spares.set (Spares.set (Spares.set (Spares.refl v6)))
  generalize (((v6.setCell ⟨w.heap.size, 0, none⟩ (.int .i64 (sumT u.tidy v.tidy).kind)).setCell ⟨w.heap.size, 1, none⟩ (.int .i64 (sumT u.tidy v.tidy).num)).setCell ⟨w.heap.size, 2, none⟩ (.slice s6 (sumT u.tidy v.tidy).kids.length c6)) = w5 at T2 hs5 ⊢
  have t0 := T2.c0
  have t1 := T2.c1
  have t2 := T2.c2
  have hzB5 := hB.size
  have hB5 := hB.trans (hs5.below (B := w.heap.size) (by omega) (fun y hy => by omega))
  refine bodyPost_ret (v := .agg #[.int .i64 (sumT u.tidy v.tidy).kind, .int .i64 (sumT u.tidy v.tidy).num, .slice s6 (sumT u.tidy v.tidy).kids.length c6]) (by simp [results, Tryz.results26, go_sem, t0, t1, t2]) rfl ?_
  rw [E1.out]
  exact ⟨_, _, rfl, Freshs.from (Freshs.keep hf6 (fun y _ hy2 => hs5.block y hy2 (by omega))) (by omega), hB5⟩
 have c6 : (k == 6) = false := by simp [h6]
 by_cases h7 : k = 7
 ·
  subst h7
  obtain ⟨u, v, rfl⟩ := two_kids hk (by omega)
  have hsz := Ex.size_eq (.mk 7 n [u, v])
  simp only [Ex.sizeL, Ex.kids_mk] at hsz
  have E1 : Hid ((Ex.mk 7 n [u, v]).tidy = Ex.dot u.tidy v.tidy) := by show _ = _; exact Ex.tidy_dot
  have hut : u.tree tm am = true := Ex.treeL_mem htl (by simp)
  have hvt : v.tree tm am = true := Ex.treeL_mem htl (by simp)
  obtain ⟨hu1, hu2⟩ := tidy_spec tm am _ u (Nat.le_refl _) hut
  obtain ⟨hv1, hv2⟩ := tidy_spec tm am _ v (Nat.le_refl _) hvt
  clear htl hk
  obtain ⟨g0, g1, sx, cx, g2, g3⟩ := id hx
  simp only [Ex.kind_mk, Ex.num_mk, Ex.kids_mk] at g0 g1 g2
  obtain ⟨kb, ko, rfl⟩ := kid_some g3 (by simp [Ex.kids])
  have hu : ExAt w kb ko u := by have := kid_exAt g3 (i := 0) (e := u) rfl; simpa using this
  obtain ⟨-, hlen, hcap, -, -⟩ := kid_at g3
  unfold maxLen at hcap
  simp only [Ex.kids_mk, List.length_cons, List.length_nil, Nat.zero_add, Nat.reduceAdd] at g2 hlen hcap
  have Hg0 := Lib.hid g0
  have Hg2 := Lib.hid g2
  have hv : ExAt w kb (ko + 3) v := by have := kid_exAt g3 (i := 1) (e := v) rfl; simpa using this
  go_enter Tryz.func26, Tryz.ntmps26
  go_wp2_with fail
  have R := Blk.new3 w 34 (.int .i64 0) (.int .i64 0) (.slice none 0 0)
  have hB : Below w.heap.size w (w.alloc (.cells #[.int .i64 0, .int .i64 0, .slice none 0 0] 34)) := by (repeat' first | exact Below.refl _ _ | assumption | apply Below.alloc | apply Below.drew | apply Below.setCell | omega | (simp; done) | (simp; omega))
  have hz0 : (w.alloc (.cells #[.int .i64 0, .int .i64 0, .slice none 0 0] 34)).heap.size = w.heap.size + 1 := by simp
  generalize w.alloc (.cells #[.int .i64 0, .int .i64 0, .slice none 0 0] 34) = w1 at R hB hz0 ⊢
  have hx1 := hx.below hB
  clear g0 g1 g2
  refine (HIH.out u.size (by omega) u _ _ _ (Nat.le_refl _) (hu.below hB) hut (by omega)).mono ?_
  rintro f w2 ⟨s2, c2, rfl, hf2, hb2⟩
  have hz2 := hb2.size
  have g2q := (hb2.cell (p := ⟨b, o + 2, none⟩) (by have := hx1.lt; omega)).trans ((hB.cell (p := ⟨b, o + 2, none⟩) hlt).trans Hg2.out)
  have hlt2 : b < w2.heap.size := by have := hx1.lt; omega
  go_wp2_with fail
  clear g2q
  have U := Blk.new3 w2 34 (.int .i64 u.tidy.kind) (.int .i64 u.tidy.num) (.slice s2 u.tidy.kids.length c2)
  have hb3 : Below w1.heap.size w1 (w2.alloc (.cells #[.int .i64 u.tidy.kind, .int .i64 u.tidy.num, .slice s2 u.tidy.kids.length c2] 34)) := hb2.alloc hz2 _
  have hd2 := (Rds.one hf2.rds).alloc (.cells #[.int .i64 u.tidy.kind, .int .i64 u.tidy.num, .slice s2 u.tidy.kids.length c2] 34)
  generalize w2.alloc (.cells #[.int .i64 u.tidy.kind, .int .i64 u.tidy.num, .slice s2 u.tidy.kids.length c2] 34) = w3 at U hb3 hd2 ⊢
  have hua : ExAt w3 w2.heap.size 0 u.tidy := ⟨U.c0, U.c1, s2, c2, U.c2, hd2⟩
  have hz3 := hb3.size
  refine (HIH.out v.size (by omega) v _ _ _ (Nat.le_refl _) ((hv.below hB).below hb3) hvt (by omega)).mono ?_
  rintro f w4 ⟨s4, c4, rfl, hf4, hb4⟩
  have hz4 := hb4.size
  have hb14 := hb3.trans (hb4.mono hz3)
  have g0q := (hb14.cell (p := ⟨b, o, none⟩) (by have := hx1.lt; omega)).trans ((hB.cell (p := ⟨b, o, none⟩) hlt).trans Hg0.out)
  have hlt4 : b < w4.heap.size := by have := hx1.lt; omega
  go_wp2_with fail
  clear g0q
  have V := Blk.new3 w4 34 (.int .i64 v.tidy.kind) (.int .i64 v.tidy.num) (.slice s4 v.tidy.kids.length c4)
  have hb5 : Below w1.heap.size w1 (w4.alloc (.cells #[.int .i64 v.tidy.kind, .int .i64 v.tidy.num, .slice s4 v.tidy.kids.length c4] 34)) := hb14.alloc (by omega) _
  have hd4 := (Rds.one hf4.rds).alloc (.cells #[.int .i64 v.tidy.kind, .int .i64 v.tidy.num, .slice s4 v.tidy.kids.length c4] 34)
  have hua5 := (hua.below hb4).below (Below.alloc (Below.refl w4.heap.size w4) (Nat.le_refl _) (.cells #[.int .i64 v.tidy.kind, .int .i64 v.tidy.num, .slice s4 v.tidy.kids.length c4] 34))
  generalize w4.alloc (.cells #[.int .i64 v.tidy.kind, .int .i64 v.tidy.num, .slice s4 v.tidy.kids.length c4] 34) = v5 at V hb5 hd4 hua5 ⊢
  have hva : ExAt v5 w4.heap.size 0 v.tidy := ⟨V.c0, V.c1, s4, c4, V.c2, hd4⟩
  refine (l02Dot_all tm am _ _ _ _ _ _ _ _ (Nat.le_refl _) hua5 hva hu1 hv1 (by omega)).mono ?_
  rintro f v6 ⟨s6, c6, rfl, hf6, hb6⟩
  have hz5 := hb5.size
  replace hB := Below.on hB (hb5.trans (hb6.mono hz5)) hB.size
  replace R := R.below (hb5.trans (hb6.mono hz5))
  have hz6 := hb6.size
  -- the function's end: R the result's box, hB; h3 : Freshs W V .. (W below V), E1 : Hid (result = (Ex.dot u.tidy v.tidy))
  -- the result box w.heap.size of world v6 is set to an expression; goal: bodyPost. R : the box; Rests: hs5 : Spares, T2
  have r0 := R.c0
  have r1 := R.c1
  have r2 := R.c2
  have z0 := R.frozen 0
  have z1 := R.frozen 1
  have z2 := R.frozen 2
  have ltR := R.lt
  go_wp2_with fail
  have T2 := ((R.set 0 (.int .i64 (Ex.dot u.tidy v.tidy).kind)).set 1 (.int .i64 (Ex.dot u.tidy v.tidy).num)).set 2 (.slice s6 (Ex.dot u.tidy v.tidy).kids.length c6)
  have hs5 : Spares (fun y => y = w.heap.size) v6 (((v6.setCell ⟨w.heap.size, 0, none⟩ (.int .i64 (Ex.dot u.tidy v.tidy).kind)).setCell ⟨w.heap.size, 1, none⟩ (.int .i64 (Ex.dot u.tidy v.tidy).num)).setCell ⟨w.heap.size, 2, none⟩ (.slice s6 (Ex.dot u.tidy v.tidy).kids.length c6)) := Spares.set (Spares.set (Spares.set (Spares.refl v6)))
  generalize (((v6.setCell ⟨w.heap.size, 0, none⟩ (.int .i64 (Ex.dot u.tidy v.tidy).kind)).setCell ⟨w.heap.size, 1, none⟩ (.int .i64 (Ex.dot u.tidy v.tidy).num)).setCell ⟨w.heap.size, 2, none⟩ (.slice s6 (Ex.dot u.tidy v.tidy).kids.length c6)) = w5 at T2 hs5 ⊢
  have t0 := T2.c0
  have t1 := T2.c1
  have t2 := T2.c2
  have hzB5 := hB.size
  have hB5 := hB.trans (hs5.below (B := w.heap.size) (by omega) (fun y hy => by omega))
  refine bodyPost_ret (v := .agg #[.int .i64 (Ex.dot u.tidy v.tidy).kind, .int .i64 (Ex.dot u.tidy v.tidy).num, .slice s6 (Ex.dot u.tidy v.tidy).kids.length c6]) (by simp [results, Tryz.results26, go_sem, t0, t1, t2]) rfl ?_
  rw [E1.out]
  exact ⟨_, _, rfl, Freshs.from (Freshs.keep hf6 (fun y _ hy2 => hs5.block y hy2 (by omega))) (by omega), hB5⟩
 have c7 : (k == 7) = false := by simp [h7]
 by_cases h8 : k = 8
 ·
  subst h8
  obtain ⟨u, rfl⟩ := one_kid hk (by omega)
  have hsz := Ex.size_eq (.mk 8 n [u])
  simp only [Ex.sizeL, Ex.kids_mk] at hsz
  have E1 : Hid ((Ex.mk 8 n [u]).tidy = u.tidy.star) := by show _ = _; exact Ex.tidy_star
  have hut : u.tree tm am = true := Ex.treeL_mem htl (by simp)
  obtain ⟨hu1, hu2⟩ := tidy_spec tm am _ u (Nat.le_refl _) hut
  clear htl hk
  obtain ⟨g0, g1, sx, cx, g2, g3⟩ := id hx
  simp only [Ex.kind_mk, Ex.num_mk, Ex.kids_mk] at g0 g1 g2
  obtain ⟨kb, ko, rfl⟩ := kid_some g3 (by simp [Ex.kids])
  have hu : ExAt w kb ko u := by have := kid_exAt g3 (i := 0) (e := u) rfl; simpa using this
  obtain ⟨-, hlen, hcap, -, -⟩ := kid_at g3
  unfold maxLen at hcap
  simp only [Ex.kids_mk, List.length_cons, List.length_nil, Nat.zero_add, Nat.reduceAdd] at g2 hlen hcap
  have Hg0 := Lib.hid g0
  have Hg2 := Lib.hid g2
  go_enter Tryz.func26, Tryz.ntmps26
  go_wp2_with fail
  have R := Blk.new3 w 34 (.int .i64 0) (.int .i64 0) (.slice none 0 0)
  have hB : Below w.heap.size w (w.alloc (.cells #[.int .i64 0, .int .i64 0, .slice none 0 0] 34)) := by (repeat' first | exact Below.refl _ _ | assumption | apply Below.alloc | apply Below.drew | apply Below.setCell | omega | (simp; done) | (simp; omega))
  have hz0 : (w.alloc (.cells #[.int .i64 0, .int .i64 0, .slice none 0 0] 34)).heap.size = w.heap.size + 1 := by simp
  generalize w.alloc (.cells #[.int .i64 0, .int .i64 0, .slice none 0 0] 34) = w1 at R hB hz0 ⊢
  have hx1 := hx.below hB
  clear g0 g1 g2
  refine (HIH.out u.size (by omega) u _ _ _ (Nat.le_refl _) (hu.below hB) hut (by omega)).mono ?_
  rintro f w2 ⟨s2, c2, rfl, hf2, hb2⟩
  have hz2 := hb2.size
  go_wp2_with fail
  have U := Blk.new3 w2 34 (.int .i64 u.tidy.kind) (.int .i64 u.tidy.num) (.slice s2 u.tidy.kids.length c2)
  have hb3 : Below w1.heap.size w1 (w2.alloc (.cells #[.int .i64 u.tidy.kind, .int .i64 u.tidy.num, .slice s2 u.tidy.kids.length c2] 34)) := hb2.alloc hz2 _
  have hd2 := (Rds.one hf2.rds).alloc (.cells #[.int .i64 u.tidy.kind, .int .i64 u.tidy.num, .slice s2 u.tidy.kids.length c2] 34)
  generalize w2.alloc (.cells #[.int .i64 u.tidy.kind, .int .i64 u.tidy.num, .slice s2 u.tidy.kids.length c2] 34) = w3 at U hb3 hd2 ⊢
  have hua : ExAt w3 w2.heap.size 0 u.tidy := ⟨U.c0, U.c1, s2, c2, U.c2, hd2⟩
  have hz3 := hb3.size
  refine (l02Star_i hua (by omega)).mono ?_
  rintro f w4 ⟨s4, c4, rfl, hf4, hb4⟩
  replace hB := Below.on hB (hb3.trans (hb4.mono hz3)) hB.size
  replace R := R.below (hb3.trans (hb4.mono hz3))
  have hz4 := hb4.size
  -- the function's end: R the result's box, hB; h3 : Freshs W V .. (W below V), E1 : Hid (result = u.tidy.star)
  -- the result box w.heap.size of world w4 is set to an expression; goal: bodyPost. R : the box; Rests: hs5 : Spares, T2
  have r0 := R.c0
  have r1 := R.c1
  have r2 := R.c2
  have z0 := R.frozen 0
  have z1 := R.frozen 1
  have z2 := R.frozen 2
  have ltR := R.lt
  go_wp2_with fail
  have T2 := ((R.set 0 (.int .i64 u.tidy.star.kind)).set 1 (.int .i64 u.tidy.star.num)).set 2 (.slice s4 u.tidy.star.kids.length c4)
  have hs5 : Spares (fun y => y = w.heap.size) w4 (((w4.setCell ⟨w.heap.size, 0, none⟩ (.int .i64 u.tidy.star.kind)).setCell ⟨w.heap.size, 1, none⟩ (.int .i64 u.tidy.star.num)).setCell ⟨w.heap.size, 2, none⟩ (.slice s4 u.tidy.star.kids.length c4)) := Spares.set (Spares.set (Spares.set (Spares.refl w4)))
  generalize (((w4.setCell ⟨w.heap.size, 0, none⟩ (.int .i64 u.tidy.star.kind)).setCell ⟨w.heap.size, 1, none⟩ (.int .i64 u.tidy.star.num)).setCell ⟨w.heap.size, 2, none⟩ (.slice s4 u.tidy.star.kids.length c4)) = w5 at T2 hs5 ⊢
  have t0 := T2.c0
  have t1 := T2.c1
  have t2 := T2.c2
  have hzB5 := hB.size
  have hB5 := hB.trans (hs5.below (B := w.heap.size) (by omega) (fun y hy => by omega))
  refine bodyPost_ret (v := .agg #[.int .i64 u.tidy.star.kind, .int .i64 u.tidy.star.num, .slice s4 u.tidy.star.kids.length c4]) (by simp [results, Tryz.results26, go_sem, t0, t1, t2]) rfl ?_
  rw [E1.out]
  exact ⟨_, _, rfl, Freshs.from (Freshs.keep hf4 (fun y _ hy2 => hs5.block y hy2 (by omega))) (by omega), hB5⟩
 have c8 : (k == 8) = false := by simp [h8]
 have E1 : Hid ((Ex.mk k n ks).tidy = .mk k n ks) := by show _ = _; exact Ex.tidy_else h6 h7 h8
 clear htl hk h6 h7 h8
 obtain ⟨g0, g1, sx, cx, g2, g3⟩ := id hx
 simp only [Ex.kind_mk, Ex.num_mk, Ex.kids_mk] at g0 g1 g2
 skip
 go_enter Tryz.func26, Tryz.ntmps26
 go_wp2_with fail
 have R := Blk.new3 w 34 (.int .i64 0) (.int .i64 0) (.slice none 0 0)
 have hB : Below w.heap.size w (w.alloc (.cells #[.int .i64 0, .int .i64 0, .slice none 0 0] 34)) := by (repeat' first | exact Below.refl _ _ | assumption | apply Below.alloc | apply Below.drew | apply Below.setCell | omega | (simp; done) | (simp; omega))
 have hz0 : (w.alloc (.cells #[.int .i64 0, .int .i64 0, .slice none 0 0] 34)).heap.size = w.heap.size + 1 := by simp
 generalize w.alloc (.cells #[.int .i64 0, .int .i64 0, .slice none 0 0] 34) = w1 at R hB hz0 ⊢
 have hx1 := hx.below hB
 clear g0 g1 g2
 refine (l01Own_e hx1 (by omega)).mono ?_
 rintro f w3 ⟨s3, c3, rfl, hf, hb⟩
 replace hB := Below.on hB hb hB.size
 replace R := R.below hb
 have hz3 := hb.size
 -- the function's end: R the result's box, hB; h3 : Freshs W V .. (W below V), E1 : Hid (result = (Ex.mk k n ks))
 -- the result box w.heap.size of world w3 is set to an expression; goal: bodyPost. R : the box; Rests: hs5 : Spares, T2
 have r0 := R.c0
 have r1 := R.c1
 have r2 := R.c2
 have z0 := R.frozen 0
 have z1 := R.frozen 1
 have z2 := R.frozen 2
 have ltR := R.lt
 go_wp2_with fail
 have T2 := ((R.set 0 (.int .i64 (Ex.mk k n ks).kind)).set 1 (.int .i64 (Ex.mk k n ks).num)).set 2 (.slice s3 (Ex.mk k n ks).kids.length c3)
 have hs5 : Spares (fun y => y = w.heap.size) w3 (((w3.setCell ⟨w.heap.size, 0, none⟩ (.int .i64 (Ex.mk k n ks).kind)).setCell ⟨w.heap.size, 1, none⟩ (.int .i64 (Ex.mk k n ks).num)).setCell ⟨w.heap.size, 2, none⟩ (.slice s3 (Ex.mk k n ks).kids.length c3)) := Spares.set (Spares.set (Spares.set (Spares.refl w3)))
 generalize (((w3.setCell ⟨w.heap.size, 0, none⟩ (.int .i64 (Ex.mk k n ks).kind)).setCell ⟨w.heap.size, 1, none⟩ (.int .i64 (Ex.mk k n ks).num)).setCell ⟨w.heap.size, 2, none⟩ (.slice s3 (Ex.mk k n ks).kids.length c3)) = w5 at T2 hs5 ⊢
 have t0 := T2.c0
 have t1 := T2.c1
 have t2 := T2.c2
 have hzB5 := hB.size
 have hB5 := hB.trans (hs5.below (B := w.heap.size) (by omega) (fun y hy => by omega))
 refine bodyPost_ret (v := .agg #[.int .i64 (Ex.mk k n ks).kind, .int .i64 (Ex.mk k n ks).num, .slice s3 (Ex.mk k n ks).kids.length c3]) (by simp [results, Tryz.results26, go_sem, t0, t1, t2]) rfl ?_
 rw [E1.out]
 exact ⟨_, _, rfl, Freshs.from (Freshs.keep hf (fun y _ hy2 => hs5.block y hy2 (by omega))) (by omega), hB5⟩
end Go.Proofs.YtcokljhamhgelaaGreatDoor
