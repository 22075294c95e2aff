/-
  Parts of a proof, joined: SpTidy, Mark, Turn3, SpTidy2, DerS, DerT, MarkE, Sz, To, Eq. No condition.
-/
import Derived.WalkKit
import Derived.ProofKit
import Derived.OpenShut
import Derived.ChangeSame
import Derived.Carry
import Derived.Deep.Slices
import Derived.Deep.LoopGhost
import Derived.Deep.DeepFit
import Derived.Deep.DeepMust
import Derived.Deep.RegionWith
import Derived.Deep.RegionHeld3
import Derived.Deep.QuietTactic
import Derived.BigQuiet
import Derived.WalkSpells
import Derived.WalkLawsBesides
import Derived.WalkSmall
import Derived.Lib.Hide
import Derived.Lib.QuietBelow
import Derived.Deep.CutRange
import Derived.Deep.AppendLies
import Derived.Lib.AppendStr
import Derived.Shelf.Strings.Builder1
import Derived.Shelf.Small.Bits
import Derived.Shelf.Small.Strs
import Derived.Shelf.Strings.BuilderF
import Derived.Shelf.Strings.BuilderK
import Derived.Shelf.Strconv.Itoa0
import Derived.Shelf.Strconv.Itoa1
import Derived.Shelf.LaysM
import Derived.Shelf.Strconv.Itoa2
import Derived.Shelf.Strconv.Itoa3
import Derived.Shelf.Strconv.Itoa4
import Derived.Shelf.Strings.BuilderCap
import Derived.Test.YtjlmdhoajfdkbaaGreatDoorProg
import Derived.Shelf.SlGeneric
import Derived.Shelf.SlSortCmp.WholeK
import Derived.Ground.SlsfProg
import Derived.Maps.OwnOps
import Derived.DeepKeys4
import Derived.Test.YtjlmdhoajfdkbaaGreatDoorPk0
import Derived.Test.YtjlmdhoajfdkbaaGreatDoorPk1
import Derived.Test.YtjlmdhoajfdkbaaGreatDoorPk2
import Derived.Test.YtjlmdhoajfdkbaaGreatDoorPk3
import Derived.Test.YtjlmdhoajfdkbaaGreatDoorPk4
import Derived.Test.YtjlmdhoajfdkbaaGreatDoorPk5
namespace Go.Proofs.YtjlmdhoajfdkbaaGreatDoor
set_option linter.unusedVariables false
set_option linter.unusedSimpArgs false
open Go.ChangeShapes Go.WideShapes Go.ChangeAt Go.RowKit Go.Deep Go.Sort
theorem AtX.of_at {X : Nat → Prop} {w : World} {b o : Nat} {e : Ex} (h : ExAt w b o e) (hX : ∀ b, X b → w.heap.size ≤ b) : AtX X w b o e := by
  have hlt := h.lt
  obtain ⟨g0, g1, s, c, g2, g3⟩ := h
  exact ⟨hlt, fun q => by have := hX b q; omega, s, c, ⟨g0, g1, g2⟩, RdX.of_rd g3 hX⟩
theorem Ows.raws_inv {w : World} : ∀ {us xs : List Value} {F : List Nat}, Ows w (us.map D.raw) xs F → xs = us ∧ F = []
  | [], xs, F, h => by simpa [Ows] using h
  | a :: r, xs, F, h => by
    simp only [List.map_cons, Ows, Ow] at h
    obtain ⟨x, r', G, K, rfl, rfl, ⟨⟨rfl, -⟩, rfl⟩, h⟩ := h
    obtain ⟨rfl, rfl⟩ := Ows.raws_inv h
    exact ⟨rfl, rfl⟩
theorem row_fresh {w w' : World} {g t size n : Nat} {us : List Value} (h : Blk w' g t us) (hl : us.length = n * size) (ho : ∀ u ∈ us, u.oneCell' = true) (hg : w.heap.size ≤ g) (hm : n ≤ maxLen) (hn : 0 < n) : Freshs w w' [.sl size n (us.map D.raw)] [.slice (some ⟨g, 0, none⟩) n n] := by
  refine Freshs.one ⟨[g], ?_, by simp, fun b hb => by simp at hb; omega⟩
  simp only [Ow]
  exact ⟨_, n, rfl, Nat.le_refl _, hm, by simpa using hl, (fun h => by cases h), Or.inr ⟨g, 0, us, [], rfl, rfl, h.free, h.row (by simp), Ows.raws ho⟩⟩
def OwnE (B ob : Nat) (w : World) (e : Ex) (s : Option Addr) (c : Nat) : Prop := ∃ F, Ow w (kidsD e.kids) (.slice s e.kids.length c) F ∧ F.Nodup ∧ ∀ b ∈ F, B ≤ b ∧ b ≠ ob
theorem OwnE.two {B ob : Nat} {w w' : World} {x y : Ex} {s1 s2 : Option Addr} {c1 c2 : Nat} {p q : Nat × Nat} {v : Value} (hx : OwnE B ob w x s1 c1) (hs : Spares (fun b => b = ob) w w') (hy : FreshIn p w' [kidsD y.kids] [.slice s2 y.kids.length c2])
    (hg : FreshIn q w' [.sl 3 2 ([.int .i64 x.kind, .int .i64 x.num, .slice s1 x.kids.length c1, .int .i64 y.kind, .int .i64 y.num, .slice s2 y.kids.length c2].map D.raw)] [v]) (hp : w.heap.size ≤ p.1) (hq : w.heap.size ≤ q.1) (hsep : Sep p q) (hob : ob < w.heap.size) (hB : B ≤ w.heap.size) :
    ∃ a c, v = .slice a 2 c ∧ OwnE B ob w' (.two 6 x y) a c := by
  obtain ⟨F, h1, h2, h3⟩ := hx
  obtain ⟨G, k1, k2, k3⟩ := hy
  obtain ⟨K, m1, m2, m3⟩ := hg
  have h1' := h1.keep (w' := w') fun b hb => hs.block b (h1.lt b hb) (h3 b hb).2
  simp only [Ows] at k1
  obtain ⟨x0, r0, G0, K0, e0, rfl, k1, rfl, rfl⟩ := k1
  simp only [List.cons.injEq, and_true] at e0
  subst e0
  simp only [Ows] at m1
  obtain ⟨x0, r0, G1, K0, e0, rfl, m1, rfl, rfl⟩ := m1
  simp only [List.cons.injEq, and_true] at e0
  subst e0
  simp only [Ow] at m1
  obtain ⟨a, cap, rfl, q1, q2, -, -, q4⟩ := m1
  rcases q4 with ⟨q4, -⟩ | ⟨g, o, xs, K1, rfl, rfl, hfree, hrow, hows⟩
  · omega
  obtain ⟨rfl, rfl⟩ := Ows.raws_inv hows
  simp only [List.append_nil] at k2 k3 m2 m3
  have hgq := m3 g (by simp)
  unfold Sep at hsep
  refine ⟨_, cap, rfl, g :: (F ++ G0), ?_, ?_, ?_⟩
  · show Ow w' (kidsD [x, y]) (.slice (some ⟨g, o, none⟩) 2 cap) _
    unfold kidsD
    simp only [Ow]
    refine ⟨_, cap, rfl, q1, q2, by rw [Ex.cellsL_length], (fun h => by cases h), Or.inr ⟨g, o, _, F ++ G0, rfl, rfl, hfree, hrow, ?_⟩⟩
    simp only [Ex.cellsL, List.append_nil]
    rw [Ex.cells_eq, Ex.cells_eq]
    exact Ows.append (Ows.three h1') (Ows.three k1)
  · rw [List.nodup_cons, List.nodup_append]
    refine ⟨fun hm => ?_, h2, k2, fun a ha b hb e => ?_⟩
    · rcases List.mem_append.1 hm with hm | hm
      · have := h1.lt g hm; omega
      · have := k3 g hm; omega
    · have := h1.lt a ha; have := k3 b hb; omega
  · intro b hb
    rcases List.mem_cons.1 hb with rfl | hb
    · omega
    · rcases List.mem_append.1 hb with hb | hb
      · exact h3 b hb
      · have := k3 b hb; omega
theorem foldS_snoc {L : List Ex} (q : Ex) (h : L ≠ []) : foldS (L ++ [q]) = .two 6 (foldS L) q := by
  cases L with
  | nil => exact absurd rfl h
  | cons x r => simp [foldS]
set_option maxRecDepth 100000 in
set_option maxHeartbeats 8000000 in
theorem l02Sum_i {tm am : Int} (ht : tm ≤ 8) (ha : am ≤ 8) {x y : Ex} {b o b' o' : Nat} {w : World} (hx : ExAt w b o x) (hy : ExAt w b' o' y) (hxt : x.tree tm am = true) (hyt : y.tree tm am = true) (hsz : x.size + y.size ≤ 90000) :
    Calls Tryz.prog 136 #[.pointer (some ⟨b, o, none⟩), .pointer (some ⟨b', o', none⟩)] w (OutE w (sumT x y)) := by
  obtain ⟨sx1, sx2⟩ := summ_spec tm am _ x (Nat.le_refl _) hxt
  obtain ⟨sy1, sy2⟩ := summ_spec tm am _ y (Nat.le_refl _) hyt
  have hnl := nub_sizes (x.summ ++ y.summ)
  rw [sizes_append, List.length_append] at hnl
  have hmem : ∀ q ∈ nub (x.summ ++ y.summ), q.tree tm am = true ∧ q.size ≤ 100000 := fun q hq => by
    rcases List.mem_append.1 (nub_mem.1 hq) with h | h
    · exact ⟨(sx1 q h).1, by have := (sx1 q h).2; omega⟩
    · exact ⟨(sy1 q h).1, by have := (sy1 q h).2; omega⟩
  have hnl2 : Hid ((nub (x.summ ++ y.summ)).length ≤ 100000) := by show _ ≤ _; omega
  have Hmem := Lib.hid hmem
  clear sx1 sx2 sy1 sy2 hnl hmem
  go_enter Tryz.func136, Tryz.ntmps136
  go_wp2_with fail
  have R := ((Blk.new3 w 30 (.int .i64 0) (.int .i64 0) (.slice none 0 0)).alloc (.cells #[] 30)).alloc (.cells #[.slice (some ⟨w.heap.size + 1, 0, none⟩) 0 0] 28)
  have V0 := (Blk.new0 (w.alloc (.cells #[.int .i64 0, .int .i64 0, .slice none 0 0] 30)) 30).alloc (.cells #[.slice (some ⟨w.heap.size + 1, 0, none⟩) 0 0] 28)
  have O := Blk.new1 ((w.alloc (.cells #[.int .i64 0, .int .i64 0, .slice none 0 0] 30)).alloc (.cells #[] 30)) 28 (.slice (some ⟨w.heap.size + 1, 0, none⟩) 0 0)
  have hB : Below w.heap.size w (((w.alloc (.cells #[.int .i64 0, .int .i64 0, .slice none 0 0] 30)).alloc (.cells #[] 30)).alloc (.cells #[.slice (some ⟨w.heap.size + 1, 0, none⟩) 0 0] 28)) := by (repeat' first | exact Below.refl _ _ | assumption | apply Below.alloc | apply Below.drew | apply Below.setCell | omega | (simp; done) | (simp; omega))
  simp at V0 O
  generalize ((w.alloc (.cells #[.int .i64 0, .int .i64 0, .slice none 0 0] 30)).alloc (.cells #[] 30)).alloc (.cells #[.slice (some ⟨w.heap.size + 1, 0, none⟩) 0 0] 28) = wl at R V0 O hB ⊢
  have hOl := O.lt
  refine (l02Summands_all tm am _ x b o (w.heap.size + 1 + 1) (fun q => w.heap.size ≤ q ∧ q < wl.heap.size) (fun q => q = w.heap.size + 1) _ [] w wl (Nat.le_refl _) (KeptX.of_below hB) (fun q h => h.2) (fun q h => by omega) ⟨by omega, hOl⟩ (by omega) (AtX.of_at hx (fun q h => h.1)) hxt (by simp; omega) ShX.nil O (AppS.empty V0 rfl)).mono ?_
  rintro f w2 ⟨rfl, v2, M1, ⟨p1, p2⟩, hO2, hV2, hs2⟩
  have hz2 := hs2.size
  rw [List.nil_append] at p1 hV2
  have hM1 : M1.length ≤ 90000 := by
    have q1 := congrArg List.length p1
    rw [List.length_map] at q1
    have q2 := growL_len x.summ ([].map Sh.e)
    have q3 := summ_len hxt
    simp at q2
    simp at q1
    omega
  have h02 : KeptX (fun q => w.heap.size ≤ q ∧ q < w2.heap.size) w w2 := (KeptX.of_below hB).trans (KeptX.of_spares hs2 (fun q _ h => by omega))
  go_wp2_with fail
  refine (l02Summands_all tm am _ y b' o' (w.heap.size + 1 + 1) (fun q => w.heap.size ≤ q ∧ q < w2.heap.size) _ v2 M1 w w2 (Nat.le_refl _) h02 (fun q h => h.2) (fun q h => by omega) ⟨by omega, hO2.lt⟩ (by omega) (AtX.of_at hy (fun q h => h.1)) hyt (by omega) (fun z hz => (p2 z hz).less (fun q hq h => by omega)) hO2 hV2).mono ?_
  rintro f w3 ⟨rfl, v3, M2, ⟨r1, r2⟩, hO3, hV3, hs3⟩
  have hz3 := hs3.size
  have h03 : KeptX (fun q => w.heap.size ≤ q ∧ q < w3.heap.size) w w3 := (h02.more (fun q hq h => by omega)).trans (KeptX.of_spares hs3 (fun q _ h => by omega))
  have hSX3 : ShX (fun q => w.heap.size ≤ q ∧ q < w3.heap.size) w (M1 ++ M2) := ShX.append (fun z hz => (p2 z hz).less (fun q hq h => by omega)) (fun z hz => (r2 z hz).less (fun q hq h => by omega))
  have hN : (M1 ++ M2).map Sh.e = nub (x.summ ++ y.summ) := by
    rw [r1, p1]
    unfold nub
    rw [List.map_append, growL_append]
    rfl
  have hml : ∀ z ∈ M1 ++ M2, z.e.tree tm am = true ∧ z.e.size ≤ 100000 := fun z hz => Hmem.out _ (by rw [← hN]; exact List.mem_map.2 ⟨z, hz, rfl⟩)
  have hll : (M1 ++ M2).length ≤ 100000 := by
    have := congrArg List.length hN
    rw [List.length_map] at this
    rw [this]
    exact hnl2.out
  obtain ⟨M, hM⟩ : ∃ M, M = M1 ++ M2 := ⟨_, rfl⟩
  rw [← hM] at hml hN hll hSX3 hV3
  have Hml := Lib.hid hml
  have HN := Lib.hid hN
  obtain ⟨la, lc, rfl, -, -⟩ := hV3.shape
  have o0 := hO3.c0
  have oz := hO3.frozen 0
  have olt := hO3.lt
  have R3 := (R.keep (hs2.block _ R.lt (by omega))).keep (hs3.block _ (by have := R.lt; omega) (by have := R.lt; omega))
  have hB3 : Below w.heap.size w w3 := hB.trans ((hs2.below (B := w.heap.size) (by have := hB.size; omega) (fun q h => by have := hB.size; omega)).trans (hs3.below (B := w.heap.size) (by have := hB.size; omega) (fun q h => by have := hB.size; omega)))
  clear hM hN hml p1 p2 r1 r2 R V0 O hO2 hV2 h02 hB hM1
  go_wp2_with fail
  refine (l02Sorted_i ht ha (fun q h => h.2) (hSX3.keep h03) Hml.out hll hV3).mono ?_
  rintro f w4 ⟨g', c', L3, rfl, ⟨hL3, hm3⟩, hg', hap, hb4⟩
  have hz4 := hb4.size
  have O4 := hO3.below hb4
  have R4 := R3.below hb4
  clear o0 oz olt hO3 hV3 R3
  have HL : Hid (sortI (nub (x.summ ++ y.summ)) = L3.map Sh.e) := by show _ = _; rw [hL3, HN.out]
  obtain ⟨n3, hn3⟩ : ∃ n, n = L3.length := ⟨_, rfl⟩
  rw [← hn3] at hap ⊢
  obtain ⟨hgb, hc1, hc2, rest, hblk⟩ := AppS.blk (us := shs L3) hap
  unfold maxLen at hc2
  have O5 := O4.set 0 (.slice (some ⟨g', 0, none⟩) n3 c')
  obtain ⟨v5, hv5⟩ : ∃ v, v = w4.setCell ⟨w.heap.size + 1 + 1, 0, none⟩ (.slice (some ⟨g', 0, none⟩) n3 c') := ⟨_, rfl⟩
  have hs5 : Spares (fun q => q = w.heap.size + 1 + 1) w4 v5 := by rw [hv5]; exact Spares.set (Spares.refl _)
  rw [← hv5] at O5
  have hz5 := hs5.size
  have hv5z : v5.heap.size = w4.heap.size := by rw [hv5]; simp [World.setCell]
  have R5 := R4.keep (hs5.block _ R4.lt (by omega))
  have hB5 : Below w.heap.size w v5 := hB3.trans ((hb4.mono (by have := hB3.size; omega)).trans (hs5.below (B := w.heap.size) (by have := hB3.size; omega) (fun q h => by omega)))
  have HAt : Hid (∀ w', Below v5.heap.size v5 w' → ∀ (i : Nat) (z : Sh), L3[i]? = some z → ExAt w' g' (i * 3) z.e) := by
    intro w' hbw i z hz
    have hgl := hblk.lt
    have hb' := (hblk.keep (hs5.block _ hgl (by omega))).below hbw
    have q : ∀ m v, z.cells[m]? = some v → w'.cell? ⟨g', i * 3 + m, none⟩ = some v := by
      intro m v hv
      have hm : m < 3 := by have := (List.getElem?_eq_some_iff.1 hv).1; simpa [Sh.cells] using this
      have hil := (List.getElem?_eq_some_iff.1 hz).1
      rw [hb'.cell, List.getElem?_append_left (by rw [shs_length]; omega), shs_at L3 i z hz m hm, hv]
    have k := (h03.trans (KeptX.of_below hb4)).trans ((KeptX.of_spares (X := fun q => w.heap.size ≤ q ∧ q < w3.heap.size) hs5 (fun q _ h => by omega)).trans (KeptX.of_below hbw))
    exact ⟨q 0 _ rfl, q 1 _ rfl, z.s, z.c, q 2 _ rfl, ((hSX3 z (hm3 z (List.mem_of_getElem? hz))).keep k).rd⟩
  have HSz : Hid (∀ (i : Nat) (z : Sh), L3[i]? = some z → z.e.size ≤ 1073741824) := fun i z hz => by have := (Hml.out z (hm3 z (List.mem_of_getElem? hz))).2; omega
  have o4z := O4.frozen 0
  have o4lt := O4.lt
  have o4c := O4.c0
  have o5 := O5.c0
  by_cases h0 : n3 = 0
  · subst h0
    have E1 : Hid (sumT x y = .leaf 1) := by
      show _ = _
      unfold sumT
      rw [HL.out, List.eq_nil_of_length_eq_zero hn3.symm]
      rfl
    clear hn3
    go_wp2_with fail
    rw [← hv5]
    refine (l02Zero_i).mono ?_
    rintro f w6 ⟨s3, c3, rfl, hf, hb⟩
    have hB := Below.on hB5 hb hB5.size
    have R := R5.below hb
    have hz6 := hb.size
    clear hB5
    -- the function's end: R the result's box, hB; h3 : Freshs W V .. (W below V), E1 : Hid (result = (Ex.leaf 1))
    -- the result box w.heap.size of world w6 is set to an expression; goal: bodyPost. R : the box; Rests: hs5 : Spares, T2
    have r0 := R.c0
    have r1 := R.c1
    have r2 := R.c2
    have z0 := R.frozen 0
    have z1 := R.frozen 1
    have z2 := R.frozen 2
    have ltR := R.lt
    go_wp2_with fail
    have T2 := ((R.set 0 (.int .i64 (Ex.leaf 1).kind)).set 1 (.int .i64 (Ex.leaf 1).num)).set 2 (.slice s3 (Ex.leaf 1).kids.length c3)
    have hs5 : Spares (fun y => y = w.heap.size) w6 (((w6.setCell ⟨w.heap.size, 0, none⟩ (.int .i64 (Ex.leaf 1).kind)).setCell ⟨w.heap.size, 1, none⟩ (.int .i64 (Ex.leaf 1).num)).setCell ⟨w.heap.size, 2, none⟩ (.slice s3 (Ex.leaf 1).kids.length c3)) := Spares.set (Spares.set (Spares.set (Spares.refl w6)))
    generalize (((w6.setCell ⟨w.heap.size, 0, none⟩ (.int .i64 (Ex.leaf 1).kind)).setCell ⟨w.heap.size, 1, none⟩ (.int .i64 (Ex.leaf 1).num)).setCell ⟨w.heap.size, 2, none⟩ (.slice s3 (Ex.leaf 1).kids.length c3)) = w5 at T2 hs5 ⊢
    have t0 := T2.c0
    have t1 := T2.c1
    have t2 := T2.c2
    have hzB5 := hB.size
    have hB5 := hB.trans (hs5.below (B := w.heap.size) (by omega) (fun y hy => by omega))
    refine bodyPost_ret (v := .agg #[.int .i64 (Ex.leaf 1).kind, .int .i64 (Ex.leaf 1).num, .slice s3 (Ex.leaf 1).kids.length c3]) (by simp [results, Tryz.results136, go_sem, t0, t1, t2]) rfl ?_
    rw [E1.out]
    exact ⟨_, _, rfl, Freshs.from (Freshs.keep hf (fun y _ hy2 => hs5.block y hy2 (by omega))) (by omega), hB5⟩
  obtain ⟨z0, hz0⟩ : ∃ z, L3[0]? = some z := ⟨_, List.getElem?_eq_getElem (by omega)⟩
  have cn : ((n3 : Int) == 0) = false := by simp; omega
  have cp : (0 : Int) < (n3 : Int) := by omega
  have Hn3 := Lib.hid hn3
  clear hn3
  go_wp2_with fail
  rw [← hv5]
  refine (l01Own_e (by have := HAt.out v5 (Below.refl _ _) 0 z0 hz0; simpa using this) (HSz.out 0 z0 hz0)).mono ?_
  rintro f w6 ⟨s6, c6, rfl, hf6, hb6⟩
  have hz6 := hb6.size
  have o6 := (hb6.cell (p := ⟨w.heap.size + 1 + 1, 0, none⟩) O5.lt).trans o5
  have o6lt : w.heap.size + 1 + 1 < w6.heap.size := by have := O5.lt; omega
  clear o4z o4lt o4c o5
  go_wp2_with fail
  have X0 := Blk.new3 w6 30 (.int .i64 z0.e.kind) (.int .i64 z0.e.num) (.slice s6 z0.e.kids.length c6)
  have hb7 : Below v5.heap.size v5 (w6.alloc (.cells #[.int .i64 z0.e.kind, .int .i64 z0.e.num, .slice s6 z0.e.kids.length c6] 30)) := hb6.alloc hz6 _
  have hf7 : OwnE v5.heap.size w6.heap.size (w6.alloc (.cells #[.int .i64 z0.e.kind, .int .i64 z0.e.num, .slice s6 z0.e.kids.length c6] 30)) z0.e s6 c6 := by
    obtain ⟨F, q1, q2, q3⟩ := hf6.single
    exact ⟨F, q1.keep (fun b hb => Below.heap_alloc _ _ b (q1.lt b hb)), q2, fun b hb => ⟨q3 b hb, by have := q1.lt b hb; omega⟩⟩
  have hz7 : w6.heap.size < (w6.alloc (.cells #[.int .i64 z0.e.kind, .int .i64 z0.e.num, .slice s6 z0.e.kids.length c6] 30)).heap.size := by simp
  obtain ⟨ob, hob⟩ : ∃ ob, ob = w6.heap.size := ⟨_, rfl⟩
  rw [← hob] at X0 hf7 hz7 ⊢
  have Hob := Lib.hid hob
  generalize w6.alloc (.cells #[.int .i64 z0.e.kind, .int .i64 z0.e.num, .slice s6 z0.e.kids.length c6] 30) = w7 at X0 hb7 hf7 hz7 ⊢
  have hobl : v5.heap.size ≤ ob := by omega
  clear hb6 hf6 o6 hob
  go_loopw [7] (fun i wr => ∃ (j : Nat) (acc : Ex) (s : Option Addr) (c : Nat), 1 ≤ j ∧ j ≤ n3 ∧ i = .int .i64 j ∧ Hid (acc = foldS ((L3.take j).map Sh.e)) ∧ Blk wr ob 30 [.int .i64 acc.kind, .int .i64 acc.num, .slice s acc.kids.length c] ∧ OwnE v5.heap.size ob wr acc s c ∧ Below v5.heap.size v5 wr) (fun i _ => n3 - (intOf i).toNat)
  case atStart =>
    refine ⟨1, z0.e, s6, c6, Nat.le_refl _, by omega, rfl, ?_, X0, hf7, hb7⟩
    show _ = _
    cases hL : L3 with
    | nil => rw [hL] at hz0; simp at hz0
    | cons q r => rw [hL] at hz0; simp at hz0; subst hz0; simp [foldS]
  case round =>
    obtain ⟨j, acc, s, c, hj1, hj2, rfl, Hacc, X1, hown, hBr⟩ := hrel
    clear X0 hf7 hb7 hz7
    have hszr := hBr.size
    have o7 := (O5.below hBr).c0
    have o7lt := (O5.below hBr).lt
    have hj0 := Int.natCast_nonneg j
    have hxl := X1.lt
    by_cases hlt : j < n3
    · obtain ⟨z, hz⟩ : ∃ z, L3[j]? = some z := ⟨_, List.getElem?_eq_getElem (by have := Hn3.out; omega)⟩
      have hjn : (j : Int) < (n3 : Int) := by omega
      have hzs := HSz.out j z hz
      have Hac2 : Hid (.two 6 acc z.e = foldS ((L3.take (j + 1)).map Sh.e)) := by
        show _ = _
        obtain ⟨hjl, hze⟩ := List.getElem?_eq_some_iff.1 hz
        rw [List.take_succ_eq_append_getElem hjl, hze, List.map_append, List.map_cons, List.map_nil, foldS_snoc _ (by intro h; have := congrArg List.length h; rw [List.length_map, List.length_take, List.length_nil] at this; have := Hn3.out; omega), Hacc.out]
      have Hz := Lib.hid hz
      clear hz
      obtain ⟨wb, rfl⟩ : ∃ v, v = wr := ⟨_, rfl⟩
      have O7 := O5.below hBr
      go_wp2_with fail
      obtain ⟨x1, hx1⟩ := mkval ?a1_1
      obtain ⟨x2, hx2⟩ := mkval ?a1_2
      obtain ⟨x3, hx3⟩ := mkval ?a1_3
      have hGb : ∀ m b, (fun m b => (m = 0 ∧ b = ob)) m b → (v5.heap.size) ≤ b ∧ b < (wb).heap.size := by
        intro m b hg
        rcases hg with ⟨rfl, hg⟩
        · subst hg
          have q := X1.lt
          omega
      have hGd : ∀ m m' b, (fun m b => (m = 0 ∧ b = ob)) m b → (fun m b => (m = 0 ∧ b = ob)) m' b → m = m' := by
        intro m m' b h h'
        rcases h with ⟨rfl, h⟩ <;> rcases h' with ⟨rfl, h'⟩ <;> first
          | rfl
      refine region_rs [] [(6, 0)] (fun m b => (m = 0 ∧ b = ob)) (v5.heap.size) (fun i iv vs wx => match i with
        | 0 => vs 0 = .agg #[.int .i64 acc.kind, .int .i64 acc.num, .slice s acc.kids.length c]
        | 1 => vs 1 = x1
        | 2 => vs 2 = x2
        | 3 => vs 3 = x3
        | 4 => ∃ s2 c2, vs 4 = .agg #[.int .i64 z.e.kind, .int .i64 z.e.num, .slice s2 z.e.kids.length c2] ∧ FreshIn (iv 4) wx [kidsD z.e.kids] [.slice s2 z.e.kids.length c2]
        | 5 => ∃ gr, vs 5 = .agg #[.int .i64 6, .int .i64 0, .slice (some ⟨gr, 0, none⟩) 2 2] ∧ FreshIn (iv 5) wx [.sl 3 2 ([.int .i64 acc.kind, .int .i64 acc.num, .slice s acc.kids.length c, .int .i64 z.e.kind, .int .i64 z.e.num, aggAt (vs 4) 2].map D.raw)] [.slice (some ⟨gr, 0, none⟩) 2 2]
        | 6 => Blk wx (ob) 30 [aggAt (vs 5) 0, aggAt (vs 5) 1, aggAt (vs 5) 2]
        | _ => True) (fun i iv vs => match i with
        | 0 => vs 0 = .agg #[.int .i64 acc.kind, .int .i64 acc.num, .slice s acc.kids.length c]
        | 1 => vs 1 = x1
        | 2 => vs 2 = x2
        | 3 => vs 3 = x3
        | 4 => ∃ s2 c2, vs 4 = .agg #[.int .i64 z.e.kind, .int .i64 z.e.num, .slice s2 z.e.kids.length c2]
        | 5 => ∃ gr, vs 5 = .agg #[.int .i64 6, .int .i64 0, .slice (some ⟨gr, 0, none⟩) 2 2]
        | 6 => True
        | _ => True) (by kernel_rfl) (by kernel_rfl) [0, 1, 2, 3, 4, 5, 6] (by kernel_rfl) ?hbase ?hGb ?hG ?hJ ?hE ?hEE ?hstep ?hQ
      case hbase => first | exact Nat.le_refl _ | omega | (simp; omega)
      case hGb =>
        exact hGb
      case hG =>
        exact hGd
      case hJ =>
        intro i hi iv iv' vs vs' wx wx' ha hv hz hk hj
        simp only [List.mem_cons, List.not_mem_nil, or_false] at hi
        rcases hi with rfl | rfl | rfl | rfl | rfl | rfl | rfl
        · exact (hv.out 0 (mem_of (by kernel_rfl))).symm.trans hj
        · exact (hv.out 1 (mem_of (by kernel_rfl))).symm.trans hj
        · exact (hv.out 2 (mem_of (by kernel_rfl))).symm.trans hj
        · exact (hv.out 3 (mem_of (by kernel_rfl))).symm.trans hj
        · have e4 := hv.out 4 (mem_of (by kernel_rfl))
          have g4 := ha.out 4 (mem_of (by kernel_rfl))
          obtain ⟨s2, c2, q1, q2⟩ := hj
          exact ⟨s2, c2, e4 ▸ q1, g4 ▸ q2.keep (fun b hb h1 h2 => hk.out b hb (foot_own h1 h2))⟩
        · have e4 := hv.out 4 (mem_of (by kernel_rfl))
          have e5 := hv.out 5 (mem_of (by kernel_rfl))
          have g5 := ha.out 5 (mem_of (by kernel_rfl))
          obtain ⟨gr, q1, q2⟩ := hj
          refine ⟨gr, e5 ▸ q1, ?_⟩
          rw [← e4, ← g5]
          exact q2.keep (fun b hb h1 h2 => hk.out b hb (foot_own h1 h2))
        · have e5 := hv.out 5 (mem_of (by kernel_rfl))
          have hj' : Blk wx (ob) 30 [aggAt (vs 5) 0, aggAt (vs 5) 1, aggAt (vs 5) 2] := hj
          show Blk wx' (ob) 30 [aggAt (vs' 5) 0, aggAt (vs' 5) 1, aggAt (vs' 5) 2]
          rw [← e5]
          exact hj'.keep (hk.out _ hj'.lt (foot_given 0 (by decide) ⟨rfl, rfl⟩))
      case hE =>
        intro i hi iv vs wx hj
        simp only [List.mem_cons, List.not_mem_nil, or_false] at hi
        rcases hi with rfl | rfl | rfl | rfl | rfl | rfl | rfl
        · exact hj
        · exact hj
        · exact hj
        · exact hj
        · obtain ⟨s2, c2, q1, -⟩ := hj
          exact ⟨s2, c2, q1⟩
        · obtain ⟨gr, q1, -⟩ := hj
          exact ⟨gr, q1⟩
        · trivial
      case hEE =>
        intro i hi iv iv' vs vs' ha hv hj
        simp only [List.mem_cons, List.not_mem_nil, or_false] at hi
        rcases hi with rfl | rfl | rfl | rfl | rfl | rfl | rfl
        · exact (hv.out 0 (mem_of (by kernel_rfl))).symm.trans hj
        · exact (hv.out 1 (mem_of (by kernel_rfl))).symm.trans hj
        · exact (hv.out 2 (mem_of (by kernel_rfl))).symm.trans hj
        · exact (hv.out 3 (mem_of (by kernel_rfl))).symm.trans hj
        · have e4 := hv.out 4 (mem_of (by kernel_rfl))
          have hj' : ∃ s2 c2, vs 4 = .agg #[.int .i64 z.e.kind, .int .i64 z.e.num, .slice s2 z.e.kids.length c2] := hj
          show ∃ s2 c2, vs' 4 = .agg #[.int .i64 z.e.kind, .int .i64 z.e.num, .slice s2 z.e.kids.length c2]
          rw [← e4]
          exact hj'
        · have e5 := hv.out 5 (mem_of (by kernel_rfl))
          have hj' : ∃ gr, vs 5 = .agg #[.int .i64 6, .int .i64 0, .slice (some ⟨gr, 0, none⟩) 2 2] := hj
          show ∃ gr, vs' 5 = .agg #[.int .i64 6, .int .i64 0, .slice (some ⟨gr, 0, none⟩) 2 2]
          rw [← e5]
          exact hj'
        · trivial
      case hstep =>
        intro i hi opr ho iv vs w1 hB hS hSo hd he hbd hsep hun K hK
        simp only [List.mem_cons, List.not_mem_nil, or_false] at hi
        have hzB := hB.size
        have hBw := hBr.trans hB
        have hza := HAt.out w1 hBw j z Hz.out
        have o8 := (O7.keep (hB.block _ O5.lt)).c0
        generalize hA : putFrom _ 0 vs _ = A at hK ⊢
        simp only [putFrom, puts] at hA
        rcases hi with rfl | rfl | rfl | rfl | rfl | rfl | rfl
        all_goals
          simp at ho
          subst ho
          subst hA
        · have X11 := X1.keep (hS.out 0 _ (by kernel_rfl) ⟨rfl, rfl⟩)
          have x1c0 := X11.c0
          have x1z0 := X11.frozen 0
          have x1c1 := X11.c1
          have x1z1 := X11.frozen 1
          have x1c2 := X11.c2
          have x1z2 := X11.frozen 2
          have x1lt := X11.lt
          go_wp2_with fail
          exact Onward.mk (hK (.agg #[.int .i64 acc.kind, .int .i64 acc.num, .slice s acc.kids.length c]) _ _ (fun h => by cases h) (by first | rfl | (simp only [puts])) (Spares.refl _) (fun iv' _ _ => rfl))
        · go_wp2_with fail
          refine Onward.mk (hK ?val1_1 _ _ (fun h => by cases h) ?eqA (Spares.refl _) (fun iv' _ _ => ?ja))
          case eqA => first | rfl | (simp only [puts]; rfl)
          case ja => exact hx1.out.symm
        · go_wp2_with fail
          refine Onward.mk (hK ?val1_2 _ _ (fun h => by cases h) ?eqA (Spares.refl _) (fun iv' _ _ => ?ja))
          case eqA => first | rfl | (simp only [puts]; rfl)
          case ja => exact hx2.out.symm
        · have h1 := (hd.out 1 (mem_of (by kernel_rfl)) (by decide) (by kernel_rfl)).trans hx1.out
          have h2 := (hd.out 2 (mem_of (by kernel_rfl)) (by decide) (by kernel_rfl)).trans hx2.out
          go_wp2_with fail
          refine Onward.mk (hK ?val1_3 _ _ (fun h => by cases h) ?eqA (Spares.refl _) (fun iv' _ _ => ?ja))
          case eqA => first | rfl | (simp only [puts, h1, h2]; rfl)
          case ja => exact hx3.out.symm
        · have h3 := (hd.out 3 (mem_of (by kernel_rfl)) (by decide) (by kernel_rfl)).trans hx3.out
          go_wp2_with fail
          refine (l01Own_e hza hzs).mono ?_
          rintro e w2 ⟨s2, c2, rfl, hf, hb⟩
          go_wp2_with fail
          exact Onward.mk (hK (.agg #[.int .i64 z.e.kind, .int .i64 z.e.num, .slice s2 z.e.kids.length c2]) _ _ (fun h => by cases h) (by first | rfl | (simp only [puts, h3])) (Spares.of_below hb) (fun iv' _ hi => ⟨s2, c2, rfl, by rw [hi]; exact Freshs.stretch (hf)⟩))
        · have h0 : vs 0 = .agg #[.int .i64 acc.kind, .int .i64 acc.num, .slice s acc.kids.length c] := hd.out 0 (mem_of (by kernel_rfl)) (by decide) (by kernel_rfl)
          obtain ⟨s2, c2, h4, f4⟩ := hd.out 4 (mem_of (by kernel_rfl)) (by decide) (by kernel_rfl)
          go_wp2_with fail
          refine (l02Pair_i).mono ?_
          rintro e w2 ⟨gr, rfl, hg5, hG5, hb⟩
          go_wp2_with fail
          exact Onward.mk (hK (.agg #[.int .i64 6, .int .i64 0, .slice (some ⟨gr, 0, none⟩) 2 2]) _ _ (fun h => by cases h) (by first | rfl | (simp only [puts, h0, h4])) (Spares.of_below hb) (fun iv' _ hi => ⟨gr, rfl, by rw [hi]; exact Freshs.stretch (by show Freshs w1 w2 [.sl 3 2 ([.int .i64 acc.kind, .int .i64 acc.num, .slice s acc.kids.length c, .int .i64 z.e.kind, .int .i64 z.e.num, aggAt (vs 4) 2].map D.raw)] _; rw [h4]; exact row_fresh hG5 rfl (by simp [aggAt]; exact ⟨rfl, rfl, rfl, rfl, rfl, rfl⟩) hg5 (by unfold maxLen; omega) (by omega))⟩))
        · obtain ⟨gr, h5, f5⟩ := hd.out 5 (mem_of (by kernel_rfl)) (by decide) (by kernel_rfl)
          have X11 := X1.keep (hS.out 0 _ (by kernel_rfl) ⟨rfl, rfl⟩)
          have x1c0 := X11.c0
          have x1z0 := X11.frozen 0
          have x1c1 := X11.c1
          have x1z1 := X11.frozen 1
          have x1c2 := X11.c2
          have x1z2 := X11.frozen 2
          have x1lt := X11.lt
          go_wp2_with fail
          exact Onward.mk (hK undef _ _ (fun _ => rfl) (by simp only [puts, h5]) ((spares_sets (b0 := ob) (by repeat (first | exact Spares.refl _ | apply Spares.set))).more (fun b h => Or.inl ⟨0, by decide, ⟨rfl, h⟩⟩)) (fun iv' ag hi => by
            show Blk _ (ob) 30 [aggAt (vs 5) 0, aggAt (vs 5) 1, aggAt (vs 5) 2]
            rw [h5]
            exact (((X11.set 0 _).set 1 _).set 2 _)))
      case hQ =>
        intro iv vs wx hB hSp hd he hbd hsep
        have hzB := hB.size
        have h0 : vs 0 = .agg #[.int .i64 acc.kind, .int .i64 acc.num, .slice s acc.kids.length c] := hd.out 0 (mem_of (by kernel_rfl)) (not_eaten (by kernel_rfl))
        have h1 := (hd.out 1 (mem_of (by kernel_rfl)) (not_eaten (by kernel_rfl))).trans hx1.out
        have h2 := (hd.out 2 (mem_of (by kernel_rfl)) (not_eaten (by kernel_rfl))).trans hx2.out
        have h3 := (hd.out 3 (mem_of (by kernel_rfl)) (not_eaten (by kernel_rfl))).trans hx3.out
        obtain ⟨s2, c2, h4, f4⟩ := hd.out 4 (mem_of (by kernel_rfl)) (not_eaten (by kernel_rfl))
        obtain ⟨gr, h5, f5⟩ := hd.out 5 (mem_of (by kernel_rfl)) (not_eaten (by kernel_rfl))
        have f6 : Blk _ (ob) 30 [aggAt (vs 5) 0, aggAt (vs 5) 1, aggAt (vs 5) 2] := hd.out 6 (mem_of (by kernel_rfl)) (not_eaten (by kernel_rfl))
        simp only [putFrom, puts]
        rw [h4] at f5
        rw [h5] at f6
        simp only [aggAt] at f5 f6
        have q4 := (hbd.out 4 (mem_of (by kernel_rfl))).1
        have q5 := (hbd.out 5 (mem_of (by kernel_rfl))).1
        have hsp := hsep.out 4 (mem_of (by kernel_rfl)) 5 (mem_of (by kernel_rfl)) (by decide)
        have hSx : Spares (fun q => q = ob) wb wx := hSp.out.more (fun q ⟨_, _, h⟩ => h)
        obtain ⟨a2, c3, e2, hown2⟩ := hown.two hSx f4 f5 q4 q5 hsp hxl (by omega)
        simp only [Value.slice.injEq, true_and] at e2
        obtain ⟨rfl, rfl⟩ := e2
        clear hd he hbd hsep h0 h1 h2 h3 h4 h5 q4 q5 hsp f4 f5
        go_wp2_with fail
        go_roundw
        case rel => exact ⟨j + 1, .two 6 acc z.e, some ⟨gr, 0, none⟩, 2, by omega, by omega, by go_num, Hac2, f6, hown2, hBr.trans hB⟩
        case measure => simp [intOf]; omega
    · have hjn : j = n3 := by omega
      have E1 : Hid (sumT x y = acc) := by
        show _ = _
        rw [Hacc.out, hjn, Hn3.out, List.take_length]
        unfold sumT
        rw [HL.out]
      have R := R5.below hBr
      have hB : Below w.heap.size w wr := hB5.trans (hBr.mono hB5.size)
      have hwv : w.heap.size < v5.heap.size := R5.lt
      have x0 := X1.c0
      have x1 := X1.c1
      have x2 := X1.c2
      have hjn2 : ¬ (j : Int) < (n3 : Int) := by omega
      clear hjn hj2 hlt hB5
      -- the result box w.heap.size of world wr is set to an expression; goal: bodyPost. R : the box; Rests: hs5 : Spares, T2
      have r0 := R.c0
      have r1 := R.c1
      have r2 := R.c2
      have z0 := R.frozen 0
      have z1 := R.frozen 1
      have z2 := R.frozen 2
      have ltR := R.lt
      go_wp2_with fail
      have T2 := ((R.set 0 (.int .i64 acc.kind)).set 1 (.int .i64 acc.num)).set 2 (.slice s acc.kids.length c)
      have hs5 : Spares (fun y => y = w.heap.size) wr (((wr.setCell ⟨w.heap.size, 0, none⟩ (.int .i64 acc.kind)).setCell ⟨w.heap.size, 1, none⟩ (.int .i64 acc.num)).setCell ⟨w.heap.size, 2, none⟩ (.slice s acc.kids.length c)) := Spares.set (Spares.set (Spares.set (Spares.refl wr)))
      generalize (((wr.setCell ⟨w.heap.size, 0, none⟩ (.int .i64 acc.kind)).setCell ⟨w.heap.size, 1, none⟩ (.int .i64 acc.num)).setCell ⟨w.heap.size, 2, none⟩ (.slice s acc.kids.length c)) = w5 at T2 hs5 ⊢
      have t0 := T2.c0
      have t1 := T2.c1
      have t2 := T2.c2
      have hzB5 := hB.size
      have hB5 := hB.trans (hs5.below (B := w.heap.size) (by omega) (fun y hy => by omega))
      refine bodyPost_ret (v := .agg #[.int .i64 acc.kind, .int .i64 acc.num, .slice s acc.kids.length c]) (by simp [results, Tryz.results136, go_sem, t0, t1, t2]) rfl ?_
      rw [E1.out]
      obtain ⟨F, q1, q2, q3⟩ := hown
      exact ⟨_, _, rfl, Freshs.one ⟨F, q1.keep (fun b hb => hs5.block b (q1.lt b hb) (by have := (q3 b hb).1; omega)), q2, fun b hb => by have := (q3 b hb).1; omega⟩, hB5⟩
end Go.Proofs.YtjlmdhoajfdkbaaGreatDoor

namespace Go.Proofs.YtjlmdhoajfdkbaaGreatDoor
set_option linter.unusedVariables false
set_option linter.unusedSimpArgs false
open Go.ChangeShapes Go.WideShapes Go.ChangeAt Go.RowKit Go.Deep
mutual
def D.marks : D → Nat
  | .int _ => 1
  | .bool _ => 1
  | .str _ => 0
  | .raw _ => 0
  | .sl _ _ cs => D.marksL cs
def D.marksL : List D → Nat
  | [] => 0
  | c :: cs => D.marks c + D.marksL cs
end
mutual
def D.mark : D → Nat → D
  | .int _, k => .int k
  | .bool _, k => .bool ((k : Int).tmod 3 == 0)
  | .str s, _ => .str s
  | .raw u, _ => .raw u
  | .sl size n cs, k => .sl size n (D.markL cs k)
def D.markL : List D → Nat → List D
  | [], _ => []
  | c :: cs, k => D.mark c k :: D.markL cs (k + D.marks c)
end
theorem marksL_append : ∀ a b : List D, D.marksL (a ++ b) = D.marksL a + D.marksL b
  | [], b => by simp [D.marksL]
  | c :: a, b => by simp only [List.cons_append, D.marksL, marksL_append a b]; omega
theorem markL_append : ∀ (a b : List D) (k : Nat), D.markL (a ++ b) k = D.markL a k ++ D.markL b (k + D.marksL a)
  | [], b, k => by simp [D.markL, D.marksL]
  | c :: a, b, k => by simp only [List.cons_append, D.markL, D.marksL, markL_append a b, Nat.add_assoc]
theorem markL_length : ∀ (a : List D) (k : Nat), (D.markL a k).length = a.length
  | [], _ => by simp [D.markL]
  | c :: a, k => by simp [D.markL, markL_length a]
theorem marks_step {cs : List D} {j : Nat} {c : D} (h : cs[j]? = some c) : D.marksL (cs.take (j + 1)) = D.marksL (cs.take j) + c.marks := by
  obtain ⟨hj, rfl⟩ := List.getElem?_eq_some_iff.1 h
  rw [List.take_succ_eq_append_getElem hj, marksL_append]
  simp [D.marksL]
theorem markL_at {cs : List D} {j : Nat} {c : D} (h : cs[j]? = some c) (k : Nat) : (D.markL cs k)[j]? = some (c.mark (k + D.marksL (cs.take j))) := by
  obtain ⟨hj, rfl⟩ := List.getElem?_eq_some_iff.1 h
  have e : D.markL cs k = D.markL (cs.take j) k ++ D.markL (cs.drop j) (k + D.marksL (cs.take j)) := by rw [← markL_append, List.take_append_drop]
  rw [e, List.getElem?_append_right (by rw [markL_length, List.length_take]; omega), markL_length, List.length_take, Nat.min_eq_left (by omega), Nat.sub_self, List.drop_eq_getElem_cons hj]
  simp [D.markL]
def mkd (cs : List D) (j k : Nat) : List D := D.markL (cs.take j) k ++ cs.drop j
theorem mkd_zero (cs : List D) (k : Nat) : mkd cs 0 k = cs := by simp [mkd, D.markL]
theorem mkd_all (cs : List D) (k : Nat) : mkd cs cs.length k = D.markL cs k := by simp [mkd]
theorem mkd_at {cs : List D} {i j : Nat} {c : D} (h : cs[i]? = some c) (hij : j ≤ i) (k : Nat) : (mkd cs j k)[i]? = some c := by
  obtain ⟨hj, rfl⟩ := List.getElem?_eq_some_iff.1 h
  unfold mkd
  rw [List.getElem?_append_right (by rw [markL_length, List.length_take]; omega), markL_length, List.length_take, Nat.min_eq_left (by omega), List.getElem?_drop]
  rw [show j + (i - j) = i by omega]
  exact h
theorem mkd_step {cs : List D} {j : Nat} {c : D} (h : cs[j]? = some c) (k : Nat) : (mkd cs j k).set j (c.mark (k + D.marksL (cs.take j))) = mkd cs (j + 1) k := by
  obtain ⟨hj, rfl⟩ := List.getElem?_eq_some_iff.1 h
  unfold mkd
  have e1 : (D.markL (cs.take j) k).length = j := by rw [markL_length, List.length_take]; omega
  rw [List.set_append_right _ _ (by omega), e1, Nat.sub_self, List.drop_eq_getElem_cons hj, List.set_cons_zero, List.take_succ_eq_append_getElem hj, markL_append]
  simp [D.markL]
theorem Ows.split {w : World} : ∀ {cs : List D} {xs : List Value} {F : List Nat}, Ows w cs xs F → ∀ {j : Nat} {c : D}, cs[j]? = some c →
    ∃ x A G B, xs[j]? = some x ∧ F = A ++ (G ++ B) ∧ Ow w c x G ∧
      (∀ w' c' x' G', Ow w' c' x' G' → (∀ b ∈ A ++ B, w'.heap[b]? = w.heap[b]?) → Ows w' (cs.set j c') (xs.set j x') (A ++ (G' ++ B)))
  | [], _, _, _, j, c, hj => by simp at hj
  | c0 :: cs, _, _, h, j, c, hj => by
    simp only [Ows] at h
    obtain ⟨x, r, G, K, rfl, rfl, h1, h2⟩ := h
    cases j with
    | zero =>
      simp at hj
      subst hj
      refine ⟨x, [], G, K, by simp, by simp, h1, fun w' c' x' G' h' hk => ?_⟩
      simp only [List.set_cons_zero, Ows, List.nil_append]
      exact ⟨x', r, G', K, rfl, rfl, h', h2.keep fun b hb => hk b (by simpa using hb)⟩
    | succ j =>
      obtain ⟨y, A, G1, B, e1, e2, e3, e4⟩ := Ows.split h2 (j := j) (c := c) (by simpa using hj)
      subst e2
      refine ⟨y, G ++ A, G1, B, by simpa using e1, by simp, e3, fun w' c' x' G' h' hk => ?_⟩
      have := e4 w' c' x' G' h' (fun b hb => hk b (by
        rcases List.mem_append.1 hb with hb | hb
        · exact List.mem_append_left _ (List.mem_append_right _ hb)
        · exact List.mem_append_right _ hb))
      simp only [List.set_cons_succ, Ows]
      exact ⟨x, _, G, A ++ (G' ++ B), rfl, by simp, h1.keep fun b hb => hk b (by simp [hb]), this⟩
theorem Free.blk {w : World} {b : Nat} (h : Free w b) : ∃ t cur, Blk w b t cur := by
  obtain ⟨cur, t, h⟩ := h
  exact ⟨t, cur.toList, by simpa [Blk] using h⟩
theorem Free.set {w : World} {b : Nat} (h : Free w b) (i : Nat) (v : Value) : Free (w.setCell ⟨b, i, none⟩ v) b := by
  obtain ⟨t, cur, h⟩ := h.blk
  exact (h.set i v).free
theorem Row.set {w : World} {b o : Nat} {xs : List Value} (hf : Free w b) (h : Row w b o xs) (j : Nat) (v : Value) : Row (w.setCell ⟨b, o + j, none⟩ v) b o (xs.set j v) := by
  obtain ⟨t, cur, hb⟩ := hf.blk
  have hb' := hb.set (o + j) v
  intro i hi
  have h1 := h i (by simpa using hi)
  rw [hb.cell] at h1
  rw [hb'.cell, List.getElem?_set, List.getElem?_set]
  by_cases hij : j = i
  · subst hij
    have hlen : j < xs.length := by simpa using hi
    have hcur : o + j < cur.length := by
      by_cases hc : o + j < cur.length
      · exact hc
      · rw [List.getElem?_eq_none (by omega), List.getElem?_eq_getElem hlen] at h1
        cases h1
    simp [hlen, hcur]
  · rw [if_neg (by omega), if_neg hij, h1]
theorem Ow.spot {w : World} {size n len cap : Nat} {cs : List D} {a : Option Addr} {F : List Nat} (h : Ow w (.sl size n cs) (.slice a len cap) F) (hn : 0 < n) : ∃ b o, a = some ⟨b, o, none⟩ := by
  simp only [Ow] at h
  obtain ⟨a', cap', h1, h2, h3, h4, h6, h5⟩ := h
  simp only [Value.slice.injEq] at h1
  obtain ⟨rfl, rfl, rfl⟩ := h1
  rcases h5 with h5 | ⟨b, o, xs, G, e1, _⟩
  · omega
  · exact ⟨b, o, e1⟩
theorem Ow.cell {w : World} {size n b o len cap : Nat} {cs : List D} {F : List Nat} (h : Ow w (.sl size n cs) (.slice (some ⟨b, o, none⟩) len cap) F) (hn : F.Nodup) {j : Nat} {c : D} (hj : cs[j]? = some c) :
    ∃ x G, w.cell? ⟨b, o + j, none⟩ = some x ∧ w.frozen? ⟨b, o + j, none⟩ = false ∧ b ∈ F ∧ b < w.heap.size ∧ b ∉ G ∧ (∀ g ∈ G, g ∈ F) ∧ G.Nodup ∧ Ow w c x G ∧
      (∀ w' c', Ow w' c' x G → Only G w w' → Ow w' (.sl size n (cs.set j c')) (.slice (some ⟨b, o, none⟩) len cap) F) ∧
      (G = [] → ∀ c' x', (∀ w', Ow w' c' x' []) → Ow (w.setCell ⟨b, o + j, none⟩ x') (.sl size n (cs.set j c')) (.slice (some ⟨b, o, none⟩) len cap) F) := by
  simp only [Ow] at h
  obtain ⟨a, cap', h1, h2, h3, h4, h6, h5⟩ := h
  simp only [Value.slice.injEq] at h1
  obtain ⟨rfl, rfl, rfl⟩ := h1
  rcases h5 with ⟨h0, _⟩ | ⟨b', o', xs, K, e1, rfl, hf, hrow, hows⟩
  · have := (List.getElem?_eq_some_iff.1 hj).1
    rw [h4, h0] at this
    omega
  simp only [Option.some.injEq, Addr.mk.injEq, and_true] at e1
  obtain ⟨rfl, rfl⟩ := e1
  obtain ⟨x, A, G, B, s1, s2, s3, s4⟩ := hows.split hj
  subst s2
  rw [List.nodup_cons] at hn
  obtain ⟨hnb, hnd⟩ := hn
  have hbl := hf.lt
  have ndG : G.Nodup := by
    rw [List.nodup_append, List.nodup_append] at hnd
    exact hnd.2.1.1
  have dis : ∀ g ∈ A ++ B, g ∉ G := by
    intro g hg hg'
    rw [List.nodup_append, List.nodup_append] at hnd
    rcases List.mem_append.1 hg with hg | hg
    · exact hnd.2.2 g hg g (List.mem_append_left _ hg') rfl
    · exact hnd.2.1.2.2 g hg' g hg rfl
  have hltAB : ∀ g ∈ A ++ B, g < w.heap.size := fun g hg => hows.lt g (by
    rcases List.mem_append.1 hg with hg | hg
    · exact List.mem_append_left _ hg
    · exact List.mem_append_right _ (List.mem_append_right _ hg))
  have hj' : j < xs.length := (List.getElem?_eq_some_iff.1 s1).1
  refine ⟨x, G, (hrow j hj').trans s1, hf.frozen _, List.mem_cons_self .., hbl, fun hm => hnb (List.mem_append_right _ (List.mem_append_left _ hm)), fun g hg => List.mem_cons_of_mem _ (List.mem_append_right _ (List.mem_append_left _ hg)), ndG, s3, ?_, ?_⟩
  · intro w' c' hc' honly
    have hb' : w'.heap[b]? = w.heap[b]? := honly.block b hbl (fun hm => hnb (List.mem_append_right _ (List.mem_append_left _ hm)))
    have hset := s4 w' c' x G hc' (fun g hg => honly.block g (hltAB g hg) (dis g hg))
    rw [show xs.set j x = xs by
      obtain ⟨hl, hx⟩ := List.getElem?_eq_some_iff.1 s1
      rw [← hx]; exact List.set_getElem_self hl] at hset
    obtain ⟨cur, t, hcur⟩ := hf
    simp only [Ow]
    exact ⟨_, cap, rfl, h2, h3, by rw [List.length_set]; exact h4, h6, Or.inr ⟨b, o, xs, A ++ (G ++ B), rfl, rfl, ⟨cur, t, hb'.trans hcur⟩, hrow.congr hb', hset⟩⟩
  · intro hG c' x' hc'
    subst hG
    have hset := s4 (w.setCell ⟨b, o + j, none⟩ x') c' x' [] (hc' _) (fun g hg => Below.heap_setCell _ _ _ _ (fun e => hnb (by
      have e' : g = b := e
      rw [← e']
      rcases List.mem_append.1 hg with hg | hg
      · exact List.mem_append_left _ hg
      · exact List.mem_append_right _ (List.mem_append_right _ hg))))
    simp only [Ow]
    exact ⟨_, cap, rfl, h2, h3, by rw [List.length_set]; exact h4, h6, Or.inr ⟨b, o, _, _, rfl, rfl, hf.set _ _, hrow.set hf j x', hset⟩⟩
theorem Ow.int_cell {w : World} {size n b o len cap : Nat} {cs : List D} {F : List Nat} (h : Ow w (.sl size n cs) (.slice (some ⟨b, o, none⟩) len cap) F) (hn : F.Nodup) {j : Nat} {z : Int} (hj : cs[j]? = some (.int z)) :
    w.cell? ⟨b, o + j, none⟩ = some (.int .i64 z) ∧ w.frozen? ⟨b, o + j, none⟩ = false ∧ b < w.heap.size ∧
      (∀ z' : Int, Ow (w.setCell ⟨b, o + j, none⟩ (.int .i64 z')) (.sl size n (cs.set j (.int z'))) (.slice (some ⟨b, o, none⟩) len cap) F ∧ Only F w (w.setCell ⟨b, o + j, none⟩ (.int .i64 z'))) := by
  obtain ⟨x, G, h1, h2, h3, h4, h5, h6, h7, h8, h9, h10⟩ := h.cell hn hj
  simp only [Ow] at h8
  obtain ⟨rfl, rfl⟩ := h8
  exact ⟨h1, h2, h4, fun z' => ⟨h10 rfl _ _ (fun _ => Ow.int _), (Only.refl F w).setCell h3 _⟩⟩
theorem Ow.sl_cell {w : World} {size n b o len cap : Nat} {cs : List D} {F : List Nat} (h : Ow w (.sl size n cs) (.slice (some ⟨b, o, none⟩) len cap) F) (hn : F.Nodup) {j size' n' : Nat} {ds : List D} (hj : cs[j]? = some (.sl size' n' ds)) :
    ∃ a c G, w.cell? ⟨b, o + j, none⟩ = some (.slice a n' c) ∧ w.frozen? ⟨b, o + j, none⟩ = false ∧ b < w.heap.size ∧ b ∉ G ∧ (∀ g ∈ G, g ∈ F) ∧ G.Nodup ∧ Ow w (.sl size' n' ds) (.slice a n' c) G ∧
      (∀ w' ds', Ow w' (.sl size' n' ds') (.slice a n' c) G → Only G w w' → Ow w' (.sl size n (cs.set j (.sl size' n' ds'))) (.slice (some ⟨b, o, none⟩) len cap) F ∧ Only F w w') := by
  obtain ⟨x, G, h1, h2, h3, h4, h5, h6, h7, h8, h9, h10⟩ := h.cell hn hj
  have h8' := h8
  simp only [Ow] at h8'
  obtain ⟨a, c, rfl, _⟩ := h8'
  exact ⟨a, c, G, h1, h2, h4, h5, h6, h7, h8, fun w' ds' k1 k2 => ⟨h9 w' _ k1 k2, k2.more h6⟩⟩
end Go.Proofs.YtjlmdhoajfdkbaaGreatDoor

namespace Go.Proofs.YtjlmdhoajfdkbaaGreatDoor
set_option linter.unusedVariables false
set_option linter.unusedSimpArgs false
open Go.ChangeShapes Go.WideShapes Go.ChangeAt Go.RowKit Go.Deep Go.Sort
theorem fresh_nil1 (w w' : World) : Freshs w w' [kidsD []] [.slice none 0 0] :=
  Freshs.one ⟨[], by simp only [kidsD, Ow]; exact ⟨none, 0, rfl, by simp, by simp [maxLen], by simp [Ex.cellsL], by simp, Or.inl (by simp)⟩, by simp, by simp⟩
end Go.Proofs.YtjlmdhoajfdkbaaGreatDoor

namespace Go.Proofs.YtjlmdhoajfdkbaaGreatDoor
set_option linter.unusedVariables false
set_option linter.unusedSimpArgs false
open Go.ChangeShapes Go.WideShapes Go.ChangeAt Go.RowKit Go.Deep Go.Sort
set_option maxRecDepth 100000 in
set_option maxHeartbeats 8000000 in
theorem l02Tidy_all (tm am : Int) (ht : tm ≤ 8) (ha : am ≤ 8) (N : Nat) : ∀ (e : Ex) (b o : Nat) (w : World), e.size ≤ N → ExAt w b o e → e.tree tm am = true → e.size ≤ 90000 →
    Calls Tryz.prog 77 #[.pointer (some ⟨b, o, none⟩)] w (OutE w e.tidy) := by
  induction N using Nat.strongRecOn with
  | _ N ih =>
  intro e b o w hN hx hxt hsz1
  have HIH := Lib.hid ih
  clear ih
  have hlt := hx.lt
  obtain ⟨k, n, ks⟩ := e
  obtain ⟨hk, -, -, htl⟩ := tree_parts hxt
  by_cases h6 : k = 6
  · subst h6
    obtain ⟨u, v, rfl⟩ := two_kids hk (by omega)
    have hsz := Ex.size_eq (.mk 6 n [u, v])
    simp only [Ex.sizeL, Ex.kids_mk] at hsz
    have E1 : Hid ((Ex.mk 6 n [u, v]).tidy = sumT u.tidy v.tidy) := by show _ = _; exact Ex.tidy_sum
    have hut : u.tree tm am = true := Ex.treeL_mem htl (by simp)
    have hvt : v.tree tm am = true := Ex.treeL_mem htl (by simp)
    obtain ⟨hu1, hu2⟩ := tidy_spec tm am _ u (Nat.le_refl _) hut
    obtain ⟨hv1, hv2⟩ := tidy_spec tm am _ v (Nat.le_refl _) hvt
    clear htl hk
    obtain ⟨g0, g1, sx, cx, g2, g3⟩ := id hx
    simp only [Ex.kind_mk, Ex.num_mk, Ex.kids_mk] at g0 g1 g2
    obtain ⟨kb, ko, rfl⟩ := kid_some g3 (by simp [Ex.kids])
    have hu : ExAt w kb ko u := by have := kid_exAt g3 (i := 0) (e := u) rfl; simpa using this
    obtain ⟨-, hlen, hcap, -, -⟩ := kid_at g3
    unfold maxLen at hcap
    simp only [Ex.kids_mk, List.length_cons, List.length_nil, Nat.zero_add, Nat.reduceAdd] at g2 hlen hcap
    have Hg0 := Lib.hid g0
    have Hg2 := Lib.hid g2
    have hv : ExAt w kb (ko + 3) v := by have := kid_exAt g3 (i := 1) (e := v) rfl; simpa using this
    go_enter Tryz.func77, Tryz.ntmps77
    go_wp2_with fail
    have R := Blk.new3 w 30 (.int .i64 0) (.int .i64 0) (.slice none 0 0)
    have hB : Below w.heap.size w (w.alloc (.cells #[.int .i64 0, .int .i64 0, .slice none 0 0] 30)) := by (repeat' first | exact Below.refl _ _ | assumption | apply Below.alloc | apply Below.drew | apply Below.setCell | omega | (simp; done) | (simp; omega))
    have hz0 : (w.alloc (.cells #[.int .i64 0, .int .i64 0, .slice none 0 0] 30)).heap.size = w.heap.size + 1 := by simp
    generalize w.alloc (.cells #[.int .i64 0, .int .i64 0, .slice none 0 0] 30) = w1 at R hB hz0 ⊢
    have hx1 := hx.below hB
    clear g0 g1 g2
    refine (HIH.out u.size (by omega) u _ _ _ (Nat.le_refl _) (hu.below hB) hut (by omega)).mono ?_
    rintro f w2 ⟨s2, c2, rfl, hf2, hb2⟩
    have hz2 := hb2.size
    have g2q := (hb2.cell (p := ⟨b, o + 2, none⟩) (by have := hx1.lt; omega)).trans ((hB.cell (p := ⟨b, o + 2, none⟩) hlt).trans Hg2.out)
    have hlt2 : b < w2.heap.size := by have := hx1.lt; omega
    go_wp2_with fail
    clear g2q
    have U := Blk.new3 w2 30 (.int .i64 u.tidy.kind) (.int .i64 u.tidy.num) (.slice s2 u.tidy.kids.length c2)
    have hb3 : Below w1.heap.size w1 (w2.alloc (.cells #[.int .i64 u.tidy.kind, .int .i64 u.tidy.num, .slice s2 u.tidy.kids.length c2] 30)) := hb2.alloc hz2 _
    have hd2 := (Rds.one hf2.rds).alloc (.cells #[.int .i64 u.tidy.kind, .int .i64 u.tidy.num, .slice s2 u.tidy.kids.length c2] 30)
    generalize w2.alloc (.cells #[.int .i64 u.tidy.kind, .int .i64 u.tidy.num, .slice s2 u.tidy.kids.length c2] 30) = w3 at U hb3 hd2 ⊢
    have hua : ExAt w3 w2.heap.size 0 u.tidy := ⟨U.c0, U.c1, s2, c2, U.c2, hd2⟩
    have hz3 := hb3.size
    refine (HIH.out v.size (by omega) v _ _ _ (Nat.le_refl _) ((hv.below hB).below hb3) hvt (by omega)).mono ?_
    rintro f w4 ⟨s4, c4, rfl, hf4, hb4⟩
    have hz4 := hb4.size
    have hb14 := hb3.trans (hb4.mono hz3)
    have g0q := (hb14.cell (p := ⟨b, o, none⟩) (by have := hx1.lt; omega)).trans ((hB.cell (p := ⟨b, o, none⟩) hlt).trans Hg0.out)
    have hlt4 : b < w4.heap.size := by have := hx1.lt; omega
    go_wp2_with fail
    clear g0q
    have V := Blk.new3 w4 30 (.int .i64 v.tidy.kind) (.int .i64 v.tidy.num) (.slice s4 v.tidy.kids.length c4)
    have hb5 : Below w1.heap.size w1 (w4.alloc (.cells #[.int .i64 v.tidy.kind, .int .i64 v.tidy.num, .slice s4 v.tidy.kids.length c4] 30)) := hb14.alloc (by omega) _
    have hd4 := (Rds.one hf4.rds).alloc (.cells #[.int .i64 v.tidy.kind, .int .i64 v.tidy.num, .slice s4 v.tidy.kids.length c4] 30)
    have hua5 := (hua.below hb4).below (Below.alloc (Below.refl w4.heap.size w4) (Nat.le_refl _) (.cells #[.int .i64 v.tidy.kind, .int .i64 v.tidy.num, .slice s4 v.tidy.kids.length c4] 30))
    generalize w4.alloc (.cells #[.int .i64 v.tidy.kind, .int .i64 v.tidy.num, .slice s4 v.tidy.kids.length c4] 30) = v5 at V hb5 hd4 hua5 ⊢
    have hva : ExAt v5 w4.heap.size 0 v.tidy := ⟨V.c0, V.c1, s4, c4, V.c2, hd4⟩
    refine (l02Sum_i ht ha hua5 hva hu1 hv1 (by omega)).mono ?_
    rintro f v6 ⟨s6, c6, rfl, hf6, hb6⟩
    have hz5 := hb5.size
    replace hB := Below.on hB (hb5.trans (hb6.mono hz5)) hB.size
    replace R := R.below (hb5.trans (hb6.mono hz5))
    have hz6 := hb6.size
    -- the function's end: R the result's box, hB; h3 : Freshs W V .. (W below V), E1 : Hid (result = (sumT u.tidy v.tidy))
    -- the result box w.heap.size of world v6 is set to an expression; goal: bodyPost. R : the box; Rests: hs5 : Spares, T2
    have r0 := R.c0
    have r1 := R.c1
    have r2 := R.c2
    have z0 := R.frozen 0
    have z1 := R.frozen 1
    have z2 := R.frozen 2
    have ltR := R.lt
    go_wp2_with fail
    have T2 := ((R.set 0 (.int .i64 (sumT u.tidy v.tidy).kind)).set 1 (.int .i64 (sumT u.tidy v.tidy).num)).set 2 (.slice s6 (sumT u.tidy v.tidy).kids.length c6)
    have hs5 : Spares (fun y => y = w.heap.size) v6 (((v6.setCell ⟨w.heap.size, 0, none⟩ (.int .i64 (sumT u.tidy v.tidy).kind)).setCell ⟨w.heap.size, 1, none⟩ (.int .i64 (sumT u.tidy v.tidy).num)).setCell ⟨w.heap.size, 2, none⟩ (.slice s6 (sumT u.tidy v.tidy).kids.length c6)) := Spares.set (Spares.set (Spares.set (Spares.refl v6)))
    generalize (((v6.setCell ⟨w.heap.size, 0, none⟩ (.int .i64 (sumT u.tidy v.tidy).kind)).setCell ⟨w.heap.size, 1, none⟩ (.int .i64 (sumT u.tidy v.tidy).num)).setCell ⟨w.heap.size, 2, none⟩ (.slice s6 (sumT u.tidy v.tidy).kids.length c6)) = w5 at T2 hs5 ⊢
    have t0 := T2.c0
    have t1 := T2.c1
    have t2 := T2.c2
    have hzB5 := hB.size
    have hB5 := hB.trans (hs5.below (B := w.heap.size) (by omega) (fun y hy => by omega))
    refine bodyPost_ret (v := .agg #[.int .i64 (sumT u.tidy v.tidy).kind, .int .i64 (sumT u.tidy v.tidy).num, .slice s6 (sumT u.tidy v.tidy).kids.length c6]) (by simp [results, Tryz.results77, go_sem, t0, t1, t2]) rfl ?_
    rw [E1.out]
    exact ⟨_, _, rfl, Freshs.from (Freshs.keep hf6 (fun y _ hy2 => hs5.block y hy2 (by omega))) (by omega), hB5⟩
  have c6 : (k == 6) = false := by simp [h6]
  by_cases h7 : k = 7
  · subst h7
    obtain ⟨u, v, rfl⟩ := two_kids hk (by omega)
    have hsz := Ex.size_eq (.mk 7 n [u, v])
    simp only [Ex.sizeL, Ex.kids_mk] at hsz
    have E1 : Hid ((Ex.mk 7 n [u, v]).tidy = Ex.dot u.tidy v.tidy) := by show _ = _; exact Ex.tidy_dot
    have hut : u.tree tm am = true := Ex.treeL_mem htl (by simp)
    have hvt : v.tree tm am = true := Ex.treeL_mem htl (by simp)
    obtain ⟨hu1, hu2⟩ := tidy_spec tm am _ u (Nat.le_refl _) hut
    obtain ⟨hv1, hv2⟩ := tidy_spec tm am _ v (Nat.le_refl _) hvt
    clear htl hk
    obtain ⟨g0, g1, sx, cx, g2, g3⟩ := id hx
    simp only [Ex.kind_mk, Ex.num_mk, Ex.kids_mk] at g0 g1 g2
    obtain ⟨kb, ko, rfl⟩ := kid_some g3 (by simp [Ex.kids])
    have hu : ExAt w kb ko u := by have := kid_exAt g3 (i := 0) (e := u) rfl; simpa using this
    obtain ⟨-, hlen, hcap, -, -⟩ := kid_at g3
    unfold maxLen at hcap
    simp only [Ex.kids_mk, List.length_cons, List.length_nil, Nat.zero_add, Nat.reduceAdd] at g2 hlen hcap
    have Hg0 := Lib.hid g0
    have Hg2 := Lib.hid g2
    have hv : ExAt w kb (ko + 3) v := by have := kid_exAt g3 (i := 1) (e := v) rfl; simpa using this
    go_enter Tryz.func77, Tryz.ntmps77
    go_wp2_with fail
    have R := Blk.new3 w 30 (.int .i64 0) (.int .i64 0) (.slice none 0 0)
    have hB : Below w.heap.size w (w.alloc (.cells #[.int .i64 0, .int .i64 0, .slice none 0 0] 30)) := by (repeat' first | exact Below.refl _ _ | assumption | apply Below.alloc | apply Below.drew | apply Below.setCell | omega | (simp; done) | (simp; omega))
    have hz0 : (w.alloc (.cells #[.int .i64 0, .int .i64 0, .slice none 0 0] 30)).heap.size = w.heap.size + 1 := by simp
    generalize w.alloc (.cells #[.int .i64 0, .int .i64 0, .slice none 0 0] 30) = w1 at R hB hz0 ⊢
    have hx1 := hx.below hB
    clear g0 g1 g2
    refine (HIH.out u.size (by omega) u _ _ _ (Nat.le_refl _) (hu.below hB) hut (by omega)).mono ?_
    rintro f w2 ⟨s2, c2, rfl, hf2, hb2⟩
    have hz2 := hb2.size
    have g2q := (hb2.cell (p := ⟨b, o + 2, none⟩) (by have := hx1.lt; omega)).trans ((hB.cell (p := ⟨b, o + 2, none⟩) hlt).trans Hg2.out)
    have hlt2 : b < w2.heap.size := by have := hx1.lt; omega
    go_wp2_with fail
    clear g2q
    have U := Blk.new3 w2 30 (.int .i64 u.tidy.kind) (.int .i64 u.tidy.num) (.slice s2 u.tidy.kids.length c2)
    have hb3 : Below w1.heap.size w1 (w2.alloc (.cells #[.int .i64 u.tidy.kind, .int .i64 u.tidy.num, .slice s2 u.tidy.kids.length c2] 30)) := hb2.alloc hz2 _
    have hd2 := (Rds.one hf2.rds).alloc (.cells #[.int .i64 u.tidy.kind, .int .i64 u.tidy.num, .slice s2 u.tidy.kids.length c2] 30)
    generalize w2.alloc (.cells #[.int .i64 u.tidy.kind, .int .i64 u.tidy.num, .slice s2 u.tidy.kids.length c2] 30) = w3 at U hb3 hd2 ⊢
    have hua : ExAt w3 w2.heap.size 0 u.tidy := ⟨U.c0, U.c1, s2, c2, U.c2, hd2⟩
    have hz3 := hb3.size
    refine (HIH.out v.size (by omega) v _ _ _ (Nat.le_refl _) ((hv.below hB).below hb3) hvt (by omega)).mono ?_
    rintro f w4 ⟨s4, c4, rfl, hf4, hb4⟩
    have hz4 := hb4.size
    have hb14 := hb3.trans (hb4.mono hz3)
    have g0q := (hb14.cell (p := ⟨b, o, none⟩) (by have := hx1.lt; omega)).trans ((hB.cell (p := ⟨b, o, none⟩) hlt).trans Hg0.out)
    have hlt4 : b < w4.heap.size := by have := hx1.lt; omega
    go_wp2_with fail
    clear g0q
    have V := Blk.new3 w4 30 (.int .i64 v.tidy.kind) (.int .i64 v.tidy.num) (.slice s4 v.tidy.kids.length c4)
    have hb5 : Below w1.heap.size w1 (w4.alloc (.cells #[.int .i64 v.tidy.kind, .int .i64 v.tidy.num, .slice s4 v.tidy.kids.length c4] 30)) := hb14.alloc (by omega) _
    have hd4 := (Rds.one hf4.rds).alloc (.cells #[.int .i64 v.tidy.kind, .int .i64 v.tidy.num, .slice s4 v.tidy.kids.length c4] 30)
    have hua5 := (hua.below hb4).below (Below.alloc (Below.refl w4.heap.size w4) (Nat.le_refl _) (.cells #[.int .i64 v.tidy.kind, .int .i64 v.tidy.num, .slice s4 v.tidy.kids.length c4] 30))
    generalize w4.alloc (.cells #[.int .i64 v.tidy.kind, .int .i64 v.tidy.num, .slice s4 v.tidy.kids.length c4] 30) = v5 at V hb5 hd4 hua5 ⊢
    have hva : ExAt v5 w4.heap.size 0 v.tidy := ⟨V.c0, V.c1, s4, c4, V.c2, hd4⟩
    refine (l02Dot_all tm am _ _ _ _ _ _ _ _ (Nat.le_refl _) hua5 hva hu1 hv1 (by omega)).mono ?_
    rintro f v6 ⟨s6, c6, rfl, hf6, hb6⟩
    have hz5 := hb5.size
    replace hB := Below.on hB (hb5.trans (hb6.mono hz5)) hB.size
    replace R := R.below (hb5.trans (hb6.mono hz5))
    have hz6 := hb6.size
    -- the function's end: R the result's box, hB; h3 : Freshs W V .. (W below V), E1 : Hid (result = (Ex.dot u.tidy v.tidy))
    -- the result box w.heap.size of world v6 is set to an expression; goal: bodyPost. R : the box; Rests: hs5 : Spares, T2
    have r0 := R.c0
    have r1 := R.c1
    have r2 := R.c2
    have z0 := R.frozen 0
    have z1 := R.frozen 1
    have z2 := R.frozen 2
    have ltR := R.lt
    go_wp2_with fail
    have T2 := ((R.set 0 (.int .i64 (Ex.dot u.tidy v.tidy).kind)).set 1 (.int .i64 (Ex.dot u.tidy v.tidy).num)).set 2 (.slice s6 (Ex.dot u.tidy v.tidy).kids.length c6)
    have hs5 : Spares (fun y => y = w.heap.size) v6 (((v6.setCell ⟨w.heap.size, 0, none⟩ (.int .i64 (Ex.dot u.tidy v.tidy).kind)).setCell ⟨w.heap.size, 1, none⟩ (.int .i64 (Ex.dot u.tidy v.tidy).num)).setCell ⟨w.heap.size, 2, none⟩ (.slice s6 (Ex.dot u.tidy v.tidy).kids.length c6)) := Spares.set (Spares.set (Spares.set (Spares.refl v6)))
    generalize (((v6.setCell ⟨w.heap.size, 0, none⟩ (.int .i64 (Ex.dot u.tidy v.tidy).kind)).setCell ⟨w.heap.size, 1, none⟩ (.int .i64 (Ex.dot u.tidy v.tidy).num)).setCell ⟨w.heap.size, 2, none⟩ (.slice s6 (Ex.dot u.tidy v.tidy).kids.length c6)) = w5 at T2 hs5 ⊢
    have t0 := T2.c0
    have t1 := T2.c1
    have t2 := T2.c2
    have hzB5 := hB.size
    have hB5 := hB.trans (hs5.below (B := w.heap.size) (by omega) (fun y hy => by omega))
    refine bodyPost_ret (v := .agg #[.int .i64 (Ex.dot u.tidy v.tidy).kind, .int .i64 (Ex.dot u.tidy v.tidy).num, .slice s6 (Ex.dot u.tidy v.tidy).kids.length c6]) (by simp [results, Tryz.results77, go_sem, t0, t1, t2]) rfl ?_
    rw [E1.out]
    exact ⟨_, _, rfl, Freshs.from (Freshs.keep hf6 (fun y _ hy2 => hs5.block y hy2 (by omega))) (by omega), hB5⟩
  have c7 : (k == 7) = false := by simp [h7]
  by_cases h8 : k = 8
  · subst h8
    obtain ⟨u, rfl⟩ := one_kid hk (by omega)
    have hsz := Ex.size_eq (.mk 8 n [u])
    simp only [Ex.sizeL, Ex.kids_mk] at hsz
    have E1 : Hid ((Ex.mk 8 n [u]).tidy = u.tidy.star) := by show _ = _; exact Ex.tidy_star
    have hut : u.tree tm am = true := Ex.treeL_mem htl (by simp)
    obtain ⟨hu1, hu2⟩ := tidy_spec tm am _ u (Nat.le_refl _) hut
    clear htl hk
    obtain ⟨g0, g1, sx, cx, g2, g3⟩ := id hx
    simp only [Ex.kind_mk, Ex.num_mk, Ex.kids_mk] at g0 g1 g2
    obtain ⟨kb, ko, rfl⟩ := kid_some g3 (by simp [Ex.kids])
    have hu : ExAt w kb ko u := by have := kid_exAt g3 (i := 0) (e := u) rfl; simpa using this
    obtain ⟨-, hlen, hcap, -, -⟩ := kid_at g3
    unfold maxLen at hcap
    simp only [Ex.kids_mk, List.length_cons, List.length_nil, Nat.zero_add, Nat.reduceAdd] at g2 hlen hcap
    have Hg0 := Lib.hid g0
    have Hg2 := Lib.hid g2
    go_enter Tryz.func77, Tryz.ntmps77
    go_wp2_with fail
    have R := Blk.new3 w 30 (.int .i64 0) (.int .i64 0) (.slice none 0 0)
    have hB : Below w.heap.size w (w.alloc (.cells #[.int .i64 0, .int .i64 0, .slice none 0 0] 30)) := by (repeat' first | exact Below.refl _ _ | assumption | apply Below.alloc | apply Below.drew | apply Below.setCell | omega | (simp; done) | (simp; omega))
    have hz0 : (w.alloc (.cells #[.int .i64 0, .int .i64 0, .slice none 0 0] 30)).heap.size = w.heap.size + 1 := by simp
    generalize w.alloc (.cells #[.int .i64 0, .int .i64 0, .slice none 0 0] 30) = w1 at R hB hz0 ⊢
    have hx1 := hx.below hB
    clear g0 g1 g2
    refine (HIH.out u.size (by omega) u _ _ _ (Nat.le_refl _) (hu.below hB) hut (by omega)).mono ?_
    rintro f w2 ⟨s2, c2, rfl, hf2, hb2⟩
    have hz2 := hb2.size
    go_wp2_with fail
    have U := Blk.new3 w2 30 (.int .i64 u.tidy.kind) (.int .i64 u.tidy.num) (.slice s2 u.tidy.kids.length c2)
    have hb3 : Below w1.heap.size w1 (w2.alloc (.cells #[.int .i64 u.tidy.kind, .int .i64 u.tidy.num, .slice s2 u.tidy.kids.length c2] 30)) := hb2.alloc hz2 _
    have hd2 := (Rds.one hf2.rds).alloc (.cells #[.int .i64 u.tidy.kind, .int .i64 u.tidy.num, .slice s2 u.tidy.kids.length c2] 30)
    generalize w2.alloc (.cells #[.int .i64 u.tidy.kind, .int .i64 u.tidy.num, .slice s2 u.tidy.kids.length c2] 30) = w3 at U hb3 hd2 ⊢
    have hua : ExAt w3 w2.heap.size 0 u.tidy := ⟨U.c0, U.c1, s2, c2, U.c2, hd2⟩
    have hz3 := hb3.size
    refine (l02Star_i hua (by omega)).mono ?_
    rintro f w4 ⟨s4, c4, rfl, hf4, hb4⟩
    replace hB := Below.on hB (hb3.trans (hb4.mono hz3)) hB.size
    replace R := R.below (hb3.trans (hb4.mono hz3))
    have hz4 := hb4.size
    -- the function's end: R the result's box, hB; h3 : Freshs W V .. (W below V), E1 : Hid (result = u.tidy.star)
    -- the result box w.heap.size of world w4 is set to an expression; goal: bodyPost. R : the box; Rests: hs5 : Spares, T2
    have r0 := R.c0
    have r1 := R.c1
    have r2 := R.c2
    have z0 := R.frozen 0
    have z1 := R.frozen 1
    have z2 := R.frozen 2
    have ltR := R.lt
    go_wp2_with fail
    have T2 := ((R.set 0 (.int .i64 u.tidy.star.kind)).set 1 (.int .i64 u.tidy.star.num)).set 2 (.slice s4 u.tidy.star.kids.length c4)
    have hs5 : Spares (fun y => y = w.heap.size) w4 (((w4.setCell ⟨w.heap.size, 0, none⟩ (.int .i64 u.tidy.star.kind)).setCell ⟨w.heap.size, 1, none⟩ (.int .i64 u.tidy.star.num)).setCell ⟨w.heap.size, 2, none⟩ (.slice s4 u.tidy.star.kids.length c4)) := Spares.set (Spares.set (Spares.set (Spares.refl w4)))
    generalize (((w4.setCell ⟨w.heap.size, 0, none⟩ (.int .i64 u.tidy.star.kind)).setCell ⟨w.heap.size, 1, none⟩ (.int .i64 u.tidy.star.num)).setCell ⟨w.heap.size, 2, none⟩ (.slice s4 u.tidy.star.kids.length c4)) = w5 at T2 hs5 ⊢
    have t0 := T2.c0
    have t1 := T2.c1
    have t2 := T2.c2
    have hzB5 := hB.size
    have hB5 := hB.trans (hs5.below (B := w.heap.size) (by omega) (fun y hy => by omega))
    refine bodyPost_ret (v := .agg #[.int .i64 u.tidy.star.kind, .int .i64 u.tidy.star.num, .slice s4 u.tidy.star.kids.length c4]) (by simp [results, Tryz.results77, go_sem, t0, t1, t2]) rfl ?_
    rw [E1.out]
    exact ⟨_, _, rfl, Freshs.from (Freshs.keep hf4 (fun y _ hy2 => hs5.block y hy2 (by omega))) (by omega), hB5⟩
  have c8 : (k == 8) = false := by simp [h8]
  have E1 : Hid ((Ex.mk k n ks).tidy = .mk k n ks) := by show _ = _; exact Ex.tidy_else h6 h7 h8
  clear htl hk h6 h7 h8
  obtain ⟨g0, g1, sx, cx, g2, g3⟩ := id hx
  simp only [Ex.kind_mk, Ex.num_mk, Ex.kids_mk] at g0 g1 g2
  skip
  go_enter Tryz.func77, Tryz.ntmps77
  go_wp2_with fail
  have R := Blk.new3 w 30 (.int .i64 0) (.int .i64 0) (.slice none 0 0)
  have hB : Below w.heap.size w (w.alloc (.cells #[.int .i64 0, .int .i64 0, .slice none 0 0] 30)) := by (repeat' first | exact Below.refl _ _ | assumption | apply Below.alloc | apply Below.drew | apply Below.setCell | omega | (simp; done) | (simp; omega))
  have hz0 : (w.alloc (.cells #[.int .i64 0, .int .i64 0, .slice none 0 0] 30)).heap.size = w.heap.size + 1 := by simp
  generalize w.alloc (.cells #[.int .i64 0, .int .i64 0, .slice none 0 0] 30) = w1 at R hB hz0 ⊢
  have hx1 := hx.below hB
  clear g0 g1 g2
  refine (l01Own_e hx1 (by omega)).mono ?_
  rintro f w3 ⟨s3, c3, rfl, hf, hb⟩
  replace hB := Below.on hB hb hB.size
  replace R := R.below hb
  have hz3 := hb.size
  -- the function's end: R the result's box, hB; h3 : Freshs W V .. (W below V), E1 : Hid (result = (Ex.mk k n ks))
  -- the result box w.heap.size of world w3 is set to an expression; goal: bodyPost. R : the box; Rests: hs5 : Spares, T2
  have r0 := R.c0
  have r1 := R.c1
  have r2 := R.c2
  have z0 := R.frozen 0
  have z1 := R.frozen 1
  have z2 := R.frozen 2
  have ltR := R.lt
  go_wp2_with fail
  have T2 := ((R.set 0 (.int .i64 (Ex.mk k n ks).kind)).set 1 (.int .i64 (Ex.mk k n ks).num)).set 2 (.slice s3 (Ex.mk k n ks).kids.length c3)
  have hs5 : Spares (fun y => y = w.heap.size) w3 (((w3.setCell ⟨w.heap.size, 0, none⟩ (.int .i64 (Ex.mk k n ks).kind)).setCell ⟨w.heap.size, 1, none⟩ (.int .i64 (Ex.mk k n ks).num)).setCell ⟨w.heap.size, 2, none⟩ (.slice s3 (Ex.mk k n ks).kids.length c3)) := Spares.set (Spares.set (Spares.set (Spares.refl w3)))
  generalize (((w3.setCell ⟨w.heap.size, 0, none⟩ (.int .i64 (Ex.mk k n ks).kind)).setCell ⟨w.heap.size, 1, none⟩ (.int .i64 (Ex.mk k n ks).num)).setCell ⟨w.heap.size, 2, none⟩ (.slice s3 (Ex.mk k n ks).kids.length c3)) = w5 at T2 hs5 ⊢
  have t0 := T2.c0
  have t1 := T2.c1
  have t2 := T2.c2
  have hzB5 := hB.size
  have hB5 := hB.trans (hs5.below (B := w.heap.size) (by omega) (fun y hy => by omega))
  refine bodyPost_ret (v := .agg #[.int .i64 (Ex.mk k n ks).kind, .int .i64 (Ex.mk k n ks).num, .slice s3 (Ex.mk k n ks).kids.length c3]) (by simp [results, Tryz.results77, go_sem, t0, t1, t2]) rfl ?_
  rw [E1.out]
  exact ⟨_, _, rfl, Freshs.from (Freshs.keep hf (fun y _ hy2 => hs5.block y hy2 (by omega))) (by omega), hB5⟩
end Go.Proofs.YtjlmdhoajfdkbaaGreatDoor

namespace Go.Proofs.YtjlmdhoajfdkbaaGreatDoor
set_option linter.unusedVariables false
set_option linter.unusedSimpArgs false
open Go.ChangeShapes Go.WideShapes Go.ChangeAt Go.RowKit Go.Deep Go.Sort
def OutQ (w : World) (o : Option Ex) (f : Ending) (w' : World) : Prop := ∃ (y : Ex) (s' : Option Addr) (c' : Nat), f = .returned (.tuple #[.agg #[.int .i64 y.kind, .int .i64 y.num, .slice s' y.kids.length c'], .bool o.isSome]) ∧
  (∀ d, o = some d → y = d ∧ Freshs w w' [kidsD d.kids] [.slice s' d.kids.length c']) ∧ Below w.heap.size w w'
theorem l02Zero_v {w : World} : Calls Tryz.prog 123 #[] w fun f w' => f = .returned (.agg #[.int .i64 1, .int .i64 0, .slice none 0 0]) ∧ Below w.heap.size w w' := by
  go_enter Tryz.func123, Tryz.ntmps123
  go_wp2_with fail
  have T := (((Blk.new3 w 30 (.int .i64 0) (.int .i64 0) (.slice none 0 0)).set 0 (.int .i64 1)).set 1 (.int .i64 0)).set 2 (.slice none 0 0)
  have t0 := T.c0
  have t1 := T.c1
  have t2 := T.c2
  exact bodyPost_ret (v := .agg #[.int .i64 1, .int .i64 0, .slice none 0 0]) (by simp [results, Tryz.results123, go_sem, t0, t1, t2]) rfl ⟨rfl, by (repeat' first | exact Below.refl _ _ | assumption | apply Below.alloc | apply Below.drew | apply Below.setCell | omega | (simp; done) | (simp; omega))⟩
theorem l02Pair_x {X : Nat → Prop} {k : Int} {x y : Ex} {sx sy : Option Addr} {cx cy : Nat} {w : World} (hX : ∀ b, X b → b < w.heap.size) (hx : ExX X w x sx cx) (hy : ExX X w y sy cy) :
    Calls Tryz.prog 125 #[.int .i64 k, .agg #[.int .i64 x.kind, .int .i64 x.num, .slice sx x.kids.length cx], .agg #[.int .i64 y.kind, .int .i64 y.num, .slice sy y.kids.length cy]] w fun f w' => ∃ g, f = .returned (.agg #[.int .i64 k, .int .i64 0, .slice (some ⟨g, 0, none⟩) 2 2]) ∧
      RdX X w' (kidsD [x, y]) (.slice (some ⟨g, 0, none⟩) 2 2) ∧ Below w.heap.size w w' :=
  (l02Pair_i).mono fun _ _ ⟨g, h1, h2, h3, h4⟩ => ⟨g, h1, kidsD_two h3 (fun h => by have := hX g h; omega) (hx.below h4) (hy.below h4), h4⟩
set_option maxRecDepth 100000 in
set_option maxHeartbeats 8000000 in
theorem l02Step_all (tm am m x : Int) (ht2 : tm ≤ 2) (ha : am ≤ 8) (h0 : 0 ≤ m) (h7 : m ≤ 7) (N : Nat) : ∀ (e : Ex) (b o : Nat) (w : World), e.size ≤ N → ExAt w b o e → e.tree tm am = true → e.size ≤ 10000 →
    Calls Tryz.prog 65 #[.pointer (some ⟨b, o, none⟩), .int .i64 m, .int .i64 x] w (OutQ w (e.step m x)) := by
  have ht : tm ≤ 8 := by omega
  induction N using Nat.strongRecOn with
  | _ N ih =>
  intro e b o w hN hx hxt hsz1
  have HIH := Lib.hid ih
  clear ih
  have hlt := hx.lt
  obtain ⟨k, n, ks⟩ := e
  obtain ⟨hk, -, -, htl⟩ := tree_parts hxt
  by_cases h4 : k = 4
  · subst h4
    clear htl hk
    by_cases hn : n = x
    · have E1 : Hid ((Ex.mk 4 n ks).step m x = some (.leaf 2)) := by show _ = _; rw [Ex.step_act, if_pos hn]
      have cn : (n == x) = true := by simp [hn]
      clear hn
      obtain ⟨g0, g1, sx, cx, g2, g3⟩ := id hx
      simp only [Ex.kind_mk, Ex.num_mk, Ex.kids_mk] at g0 g1 g2
      skip
      have G0 := Lib.hid g0
      have G1 := Lib.hid g1
      have G2 := Lib.hid g2
      clear g0 g1 g2
      go_enter Tryz.func65, Tryz.ntmps65
      go_wp2_with fail
      have R := Blk.new3 w 30 (.int .i64 0) (.int .i64 0) (.slice none 0 0)
      have hB : Below w.heap.size w (w.alloc (.cells #[.int .i64 0, .int .i64 0, .slice none 0 0] 30)) := by (repeat' first | exact Below.refl _ _ | assumption | apply Below.alloc | apply Below.drew | apply Below.setCell | omega | (simp; done) | (simp; omega))
      have hz0 : (w.alloc (.cells #[.int .i64 0, .int .i64 0, .slice none 0 0] 30)).heap.size = w.heap.size + 1 := by simp
      generalize w.alloc (.cells #[.int .i64 0, .int .i64 0, .slice none 0 0] 30) = w1 at R hB hz0 ⊢
      refine (l02Zero_v).mono ?_
      rintro f w2 ⟨rfl, hb⟩
      replace hB := Below.on hB hb hB.size
      replace R := R.below hb
      clear hb
      have g0 := (hB.cell (p := ⟨b, o, none⟩) hlt).trans G0.out
      have g1 := (hB.cell (p := ⟨b, o + 1, none⟩) hlt).trans G1.out
      have g2 := (hB.cell (p := ⟨b, o + 2, none⟩) hlt).trans G2.out
      have hlt2 : b < w2.heap.size := by have := hB.size; omega
      have hz2 : w.heap.size < w2.heap.size := R.lt
      go_wp2_with fail
      refine (l02One_i).mono ?_
      rintro f w4 ⟨s4, c4, rfl, hf, hb⟩
      have hB' : Below w.heap.size w (w2.alloc (.cells #[.int .i64 1, .int .i64 0, .slice none 0 0] 30)) := hB.alloc (by omega) _
      have R' := R.alloc (.cells #[.int .i64 1, .int .i64 0, .slice none 0 0] 30)
      have hz3 : (w2.alloc (.cells #[.int .i64 1, .int .i64 0, .slice none 0 0] 30)).heap.size = w2.heap.size + 1 := by simp
      replace hB := Below.on hB' hb hB'.size
      replace R := R'.below hb
      clear hB' R' g0 g1 g2
      have r0 := R.c0
      have r1 := R.c1
      have r2 := R.c2
      have z0 := R.frozen 0
      have z1 := R.frozen 1
      have z2 := R.frozen 2
      have ltR := R.lt
      go_wp2_with fail
      have T2 := ((R.set 0 (.int .i64 (Ex.leaf 2).kind)).set 1 (.int .i64 (Ex.leaf 2).num)).set 2 (.slice s4 (Ex.leaf 2).kids.length c4)
      have hs5 : Spares (fun y => y = w.heap.size) w4 (((w4.setCell ⟨w.heap.size, 0, none⟩ (.int .i64 (Ex.leaf 2).kind)).setCell ⟨w.heap.size, 1, none⟩ (.int .i64 (Ex.leaf 2).num)).setCell ⟨w.heap.size, 2, none⟩ (.slice s4 (Ex.leaf 2).kids.length c4)) := Spares.set (Spares.set (Spares.set (Spares.refl w4)))
      generalize (((w4.setCell ⟨w.heap.size, 0, none⟩ (.int .i64 (Ex.leaf 2).kind)).setCell ⟨w.heap.size, 1, none⟩ (.int .i64 (Ex.leaf 2).num)).setCell ⟨w.heap.size, 2, none⟩ (.slice s4 (Ex.leaf 2).kids.length c4)) = w5 at T2 hs5 ⊢
      have t0 := T2.c0
      have t1 := T2.c1
      have t2 := T2.c2
      have hzB5 := hB.size
      have hB5 := hB.trans (hs5.below (B := w.heap.size) (by omega) (fun y hy => by omega))
      refine bodyPost_ret (v := .tuple #[.agg #[.int .i64 (Ex.leaf 2).kind, .int .i64 (Ex.leaf 2).num, .slice s4 (Ex.leaf 2).kids.length c4], .bool true]) (by simp [results, Tryz.results65, go_sem, t0, t1, t2]) rfl ?_
      rw [E1.out]
      exact ⟨_, _, _, rfl, fun d hd => by obtain rfl := Option.some.inj hd; exact ⟨rfl, Freshs.from (Freshs.keep hf (fun y _ hy2 => hs5.block y hy2 (by omega))) (by omega)⟩, hB5⟩
    · have E1 : Hid ((Ex.mk 4 n ks).step m x = some (.leaf 1)) := by show _ = _; rw [Ex.step_act, if_neg hn]
      have cn : (n == x) = false := by simp [hn]
      clear hn
      -- the raw value is returned at once
      obtain ⟨g0, g1, sx, cx, g2, g3⟩ := id hx
      simp only [Ex.kind_mk, Ex.num_mk, Ex.kids_mk] at g0 g1 g2
      skip
      have G0 := Lib.hid g0
      have G1 := Lib.hid g1
      have G2 := Lib.hid g2
      clear g0 g1 g2
      go_enter Tryz.func65, Tryz.ntmps65
      go_wp2_with fail
      have R := Blk.new3 w 30 (.int .i64 0) (.int .i64 0) (.slice none 0 0)
      have hB : Below w.heap.size w (w.alloc (.cells #[.int .i64 0, .int .i64 0, .slice none 0 0] 30)) := by (repeat' first | exact Below.refl _ _ | assumption | apply Below.alloc | apply Below.drew | apply Below.setCell | omega | (simp; done) | (simp; omega))
      have hz0 : (w.alloc (.cells #[.int .i64 0, .int .i64 0, .slice none 0 0] 30)).heap.size = w.heap.size + 1 := by simp
      generalize w.alloc (.cells #[.int .i64 0, .int .i64 0, .slice none 0 0] 30) = w1 at R hB hz0 ⊢
      refine (l02Zero_v).mono ?_
      rintro f w2 ⟨rfl, hb⟩
      replace hB := Below.on hB hb hB.size
      replace R := R.below hb
      clear hb
      have g0 := (hB.cell (p := ⟨b, o, none⟩) hlt).trans G0.out
      have g1 := (hB.cell (p := ⟨b, o + 1, none⟩) hlt).trans G1.out
      have g2 := (hB.cell (p := ⟨b, o + 2, none⟩) hlt).trans G2.out
      have hlt2 : b < w2.heap.size := by have := hB.size; omega
      have hz2 : w.heap.size < w2.heap.size := R.lt
      have r0 := R.c0
      have r1 := R.c1
      have r2 := R.c2
      have z0 := R.frozen 0
      have z1 := R.frozen 1
      have z2 := R.frozen 2
      have ltR := R.lt
      go_wp2_with fail
      have T2 := (((R.set 0 (.int .i64 1)).set 1 (.int .i64 0)).set 2 (.slice none 0 0)).alloc (.cells #[.int .i64 1, .int .i64 0, .slice none 0 0] 30)
      have hs5 : Spares (fun y => y = w.heap.size) w2 ((((w2.setCell ⟨w.heap.size, 0, none⟩ (.int .i64 1)).setCell ⟨w.heap.size, 1, none⟩ (.int .i64 0)).setCell ⟨w.heap.size, 2, none⟩ (.slice none 0 0)).alloc (.cells #[.int .i64 1, .int .i64 0, .slice none 0 0] 30)) := (Spares.set (Spares.set (Spares.set (Spares.refl w2)))).trans (Spares.of_below (Below.alloc (Below.refl _ _) (Nat.le_refl _) _))
      generalize (((w2.setCell ⟨w.heap.size, 0, none⟩ (.int .i64 1)).setCell ⟨w.heap.size, 1, none⟩ (.int .i64 0)).setCell ⟨w.heap.size, 2, none⟩ (.slice none 0 0)).alloc (.cells #[.int .i64 1, .int .i64 0, .slice none 0 0] 30) = w5 at T2 hs5 ⊢
      have t0 := T2.c0
      have t1 := T2.c1
      have t2 := T2.c2
      have hzB5 := hB.size
      have hB5 := hB.trans (hs5.below (B := w.heap.size) (by omega) (fun y hy => by omega))
      refine bodyPost_ret (v := .tuple #[.agg #[.int .i64 1, .int .i64 0, .slice none 0 0], .bool true]) (by simp [results, Tryz.results65, go_sem, t0, t1, t2]) rfl ?_
      rw [E1.out]
      exact ⟨.leaf 1, none, 0, rfl, fun d hd => by obtain rfl := Option.some.inj hd; exact ⟨rfl, nil_freshs⟩, hB5⟩
  have c4 : (k == 4) = false := by simp [h4]
  by_cases h6 : k = 6
  · subst h6
    obtain ⟨u, v, rfl⟩ := two_kids hk (Or.inl rfl)
    have hsz := Ex.size_eq (.mk 6 n [u, v])
    simp only [Ex.sizeL, Ex.kids_mk] at hsz
    have hut : u.tree tm am = true := Ex.treeL_mem htl (by simp)
    have hvt : v.tree tm am = true := Ex.treeL_mem htl (by simp)
    obtain ⟨o1, Ho1⟩ : ∃ o, Hid (o = u.step m x) := ⟨_, rfl⟩
    obtain ⟨o2, Ho2⟩ : ∃ o, Hid (o = v.step m x) := ⟨_, rfl⟩
    have E0 : Hid ((Ex.mk 6 n [u, v]).step m x = o1.bind fun p => o2.bind fun q => limE (.two 6 p q)) := by show _ = _; rw [Ho1.out, Ho2.out]; exact Ex.step_sum
    clear htl hk c4 h4
    obtain ⟨g0, g1, sx, cx, g2, g3⟩ := id hx
    simp only [Ex.kind_mk, Ex.num_mk, Ex.kids_mk] at g0 g1 g2
    obtain ⟨kb, ko, rfl⟩ := kid_some g3 (by simp [Ex.kids])
    have hu : ExAt w kb ko u := by have := kid_exAt g3 (i := 0) (e := u) rfl; simpa using this
    obtain ⟨-, hlen, hcap, -, -⟩ := kid_at g3
    unfold maxLen at hcap
    simp only [List.length_cons, List.length_nil, Nat.zero_add, Nat.reduceAdd] at g2 hlen hcap
    have G0 := Lib.hid g0
    have G1 := Lib.hid g1
    have G2 := Lib.hid g2
    clear g0 g1 g2
    go_enter Tryz.func65, Tryz.ntmps65
    go_wp2_with fail
    have R := Blk.new3 w 30 (.int .i64 0) (.int .i64 0) (.slice none 0 0)
    have hB : Below w.heap.size w (w.alloc (.cells #[.int .i64 0, .int .i64 0, .slice none 0 0] 30)) := by (repeat' first | exact Below.refl _ _ | assumption | apply Below.alloc | apply Below.drew | apply Below.setCell | omega | (simp; done) | (simp; omega))
    have hz0 : (w.alloc (.cells #[.int .i64 0, .int .i64 0, .slice none 0 0] 30)).heap.size = w.heap.size + 1 := by simp
    generalize w.alloc (.cells #[.int .i64 0, .int .i64 0, .slice none 0 0] 30) = w1 at R hB hz0 ⊢
    refine (l02Zero_v).mono ?_
    rintro f w2 ⟨rfl, hb⟩
    replace hB := Below.on hB hb hB.size
    replace R := R.below hb
    clear hb
    have g0 := (hB.cell (p := ⟨b, o, none⟩) hlt).trans G0.out
    have g1 := (hB.cell (p := ⟨b, o + 1, none⟩) hlt).trans G1.out
    have g2 := (hB.cell (p := ⟨b, o + 2, none⟩) hlt).trans G2.out
    have hlt2 : b < w2.heap.size := by have := hB.size; omega
    have hz2 : w.heap.size < w2.heap.size := R.lt
    have hv : ExAt w kb (ko + 3) v := by have := kid_exAt g3 (i := 1) (e := v) rfl; simpa using this
    -- the walk stands at the first call; the raw box q
    go_wp2_with fail
    clear g0 g1 g2
    have Q := Blk.new3 w2 30 (.int .i64 1) (.int .i64 0) (.slice none 0 0)
    have hb3 : Below w2.heap.size w2 (w2.alloc (.cells #[.int .i64 1, .int .i64 0, .slice none 0 0] 30)) := by (repeat' first | exact Below.refl _ _ | assumption | apply Below.alloc | apply Below.drew | apply Below.setCell | omega | (simp; done) | (simp; omega))
    generalize w2.alloc (.cells #[.int .i64 1, .int .i64 0, .slice none 0 0] 30) = w3 at Q hb3 ⊢
    replace hB := Below.on hB hb3 hB.size
    replace R := R.below hb3
    obtain ⟨q, hq⟩ : ∃ q, w2.heap.size = q := ⟨_, rfl⟩
    rw [hq] at Q hz2
    simp only [hq]
    clear hb3 hq hlt2
    refine (HIH.out u.size (by omega) u _ _ _ (Nat.le_refl _) (hu.below hB) hut (by omega)).mono ?_
    rintro f w4 ⟨y1, s1, c1, rfl, hy1, hb4⟩
    rw [← Ho1.out] at hy1 ⊢
    have hz3 := Q.lt
    replace hB := Below.on hB hb4 hB.size
    replace R := R.below hb4
    replace Q := Q.below hb4
    have g2 := (hB.cell (p := ⟨b, o + 2, none⟩) hlt).trans G2.out
    have hlt4 : b < w4.heap.size := by have := hB.size; omega
    go_wp2_with fail
    clear g2
    have A := Blk.new3 w4 30 (.int .i64 y1.kind) (.int .i64 y1.num) (.slice s1 y1.kids.length c1)
    have hb5 : Below w4.heap.size w4 (w4.alloc (.cells #[.int .i64 y1.kind, .int .i64 y1.num, .slice s1 y1.kids.length c1] 30)) := by (repeat' first | exact Below.refl _ _ | assumption | apply Below.alloc | apply Below.drew | apply Below.setCell | omega | (simp; done) | (simp; omega))
    generalize w4.alloc (.cells #[.int .i64 y1.kind, .int .i64 y1.num, .slice s1 y1.kids.length c1] 30) = w5 at A hb5 ⊢
    replace hB := Below.on hB hb5 hB.size
    replace R := R.below hb5
    replace Q := Q.below hb5
    refine (HIH.out v.size (by omega) v _ _ _ (Nat.le_refl _) (hv.below hB) hvt (by omega)).mono ?_
    rintro f w6 ⟨y2, s2, c2, rfl, hy2, hb6⟩
    rw [← Ho2.out] at hy2 ⊢
    replace hB := Below.on hB hb6 hB.size
    replace R := R.below hb6
    replace Q := Q.below hb6
    replace A := A.below hb6
    have hz5 := hb5.size
    cases o1 with
    | none =>
      have i1 : (none : Option Ex).isSome = false := rfl
      have E1 : Hid ((Ex.mk 6 n [u, v]).step m x = none) := E0
      clear hy1 hy2
      cases o2 with
      | none =>
        have i2 : (none : Option Ex).isSome = false := rfl
        -- a part has no derivative; the world is w6.alloc .int .i64 y2.kind, .int .i64 y2.num, .slice s2 y2.kids.length c2; the raw box holds 1, 0, nil
        have q0 := Q.c0
        have q1 := Q.c1
        have q2 := Q.c2
        have ltQ := Q.lt
        have r0 := R.c0
        have r1 := R.c1
        have r2 := R.c2
        have z0 := R.frozen 0
        have z1 := R.frozen 1
        have z2 := R.frozen 2
        have ltR := R.lt
        go_wp2_with fail
        have T2 := (((R.set 0 (.int .i64 1)).set 1 (.int .i64 0)).set 2 (.slice none 0 0)).alloc (.cells #[.int .i64 y2.kind, .int .i64 y2.num, .slice s2 y2.kids.length c2] 30)
        have hs5 : Spares (fun y => y = w.heap.size) w6 ((((w6.setCell ⟨w.heap.size, 0, none⟩ (.int .i64 1)).setCell ⟨w.heap.size, 1, none⟩ (.int .i64 0)).setCell ⟨w.heap.size, 2, none⟩ (.slice none 0 0)).alloc (.cells #[.int .i64 y2.kind, .int .i64 y2.num, .slice s2 y2.kids.length c2] 30)) := (Spares.set (Spares.set (Spares.set (Spares.refl w6)))).trans (Spares.of_below (Below.alloc (Below.refl _ _) (Nat.le_refl _) _))
        generalize (((w6.setCell ⟨w.heap.size, 0, none⟩ (.int .i64 1)).setCell ⟨w.heap.size, 1, none⟩ (.int .i64 0)).setCell ⟨w.heap.size, 2, none⟩ (.slice none 0 0)).alloc (.cells #[.int .i64 y2.kind, .int .i64 y2.num, .slice s2 y2.kids.length c2] 30) = w5 at T2 hs5 ⊢
        have t0 := T2.c0
        have t1 := T2.c1
        have t2 := T2.c2
        have hzB5 := hB.size
        have hB5 := hB.trans (hs5.below (B := w.heap.size) (by omega) (fun y hy => by omega))
        refine bodyPost_ret (v := .tuple #[.agg #[.int .i64 1, .int .i64 0, .slice none 0 0], .bool false]) (by simp [results, Tryz.results65, go_sem, t0, t1, t2]) rfl ?_
        rw [E1.out]
        exact ⟨.leaf 1, _, _, rfl, (fun d hd => by cases hd), hB5⟩
      | some q' =>
        have i2 : (some q').isSome = true := rfl
        -- a part has no derivative; the world is w6.alloc .int .i64 y2.kind, .int .i64 y2.num, .slice s2 y2.kids.length c2; the raw box holds 1, 0, nil
        have q0 := Q.c0
        have q1 := Q.c1
        have q2 := Q.c2
        have ltQ := Q.lt
        have r0 := R.c0
        have r1 := R.c1
        have r2 := R.c2
        have z0 := R.frozen 0
        have z1 := R.frozen 1
        have z2 := R.frozen 2
        have ltR := R.lt
        go_wp2_with fail
        have T2 := (((R.set 0 (.int .i64 1)).set 1 (.int .i64 0)).set 2 (.slice none 0 0)).alloc (.cells #[.int .i64 y2.kind, .int .i64 y2.num, .slice s2 y2.kids.length c2] 30)
        have hs5 : Spares (fun y => y = w.heap.size) w6 ((((w6.setCell ⟨w.heap.size, 0, none⟩ (.int .i64 1)).setCell ⟨w.heap.size, 1, none⟩ (.int .i64 0)).setCell ⟨w.heap.size, 2, none⟩ (.slice none 0 0)).alloc (.cells #[.int .i64 y2.kind, .int .i64 y2.num, .slice s2 y2.kids.length c2] 30)) := (Spares.set (Spares.set (Spares.set (Spares.refl w6)))).trans (Spares.of_below (Below.alloc (Below.refl _ _) (Nat.le_refl _) _))
        generalize (((w6.setCell ⟨w.heap.size, 0, none⟩ (.int .i64 1)).setCell ⟨w.heap.size, 1, none⟩ (.int .i64 0)).setCell ⟨w.heap.size, 2, none⟩ (.slice none 0 0)).alloc (.cells #[.int .i64 y2.kind, .int .i64 y2.num, .slice s2 y2.kids.length c2] 30) = w5 at T2 hs5 ⊢
        have t0 := T2.c0
        have t1 := T2.c1
        have t2 := T2.c2
        have hzB5 := hB.size
        have hB5 := hB.trans (hs5.below (B := w.heap.size) (by omega) (fun y hy => by omega))
        refine bodyPost_ret (v := .tuple #[.agg #[.int .i64 1, .int .i64 0, .slice none 0 0], .bool false]) (by simp [results, Tryz.results65, go_sem, t0, t1, t2]) rfl ?_
        rw [E1.out]
        exact ⟨.leaf 1, _, _, rfl, (fun d hd => by cases hd), hB5⟩
    | some p =>
    have i1 : (some p).isSome = true := rfl
    obtain ⟨rfl, hf1⟩ := hy1 p rfl
    cases o2 with
    | none =>
      have i2 : (none : Option Ex).isSome = false := rfl
      have E1 : Hid ((Ex.mk 6 n [u, v]).step m x = none) := E0
      clear hy1 hy2
      -- a part has no derivative; the world is w6.alloc .int .i64 y2.kind, .int .i64 y2.num, .slice s2 y2.kids.length c2; the raw box holds 1, 0, nil
      have q0 := Q.c0
      have q1 := Q.c1
      have q2 := Q.c2
      have ltQ := Q.lt
      have r0 := R.c0
      have r1 := R.c1
      have r2 := R.c2
      have z0 := R.frozen 0
      have z1 := R.frozen 1
      have z2 := R.frozen 2
      have ltR := R.lt
      go_wp2_with fail
      have T2 := (((R.set 0 (.int .i64 1)).set 1 (.int .i64 0)).set 2 (.slice none 0 0)).alloc (.cells #[.int .i64 y2.kind, .int .i64 y2.num, .slice s2 y2.kids.length c2] 30)
      have hs5 : Spares (fun y => y = w.heap.size) w6 ((((w6.setCell ⟨w.heap.size, 0, none⟩ (.int .i64 1)).setCell ⟨w.heap.size, 1, none⟩ (.int .i64 0)).setCell ⟨w.heap.size, 2, none⟩ (.slice none 0 0)).alloc (.cells #[.int .i64 y2.kind, .int .i64 y2.num, .slice s2 y2.kids.length c2] 30)) := (Spares.set (Spares.set (Spares.set (Spares.refl w6)))).trans (Spares.of_below (Below.alloc (Below.refl _ _) (Nat.le_refl _) _))
      generalize (((w6.setCell ⟨w.heap.size, 0, none⟩ (.int .i64 1)).setCell ⟨w.heap.size, 1, none⟩ (.int .i64 0)).setCell ⟨w.heap.size, 2, none⟩ (.slice none 0 0)).alloc (.cells #[.int .i64 y2.kind, .int .i64 y2.num, .slice s2 y2.kids.length c2] 30) = w5 at T2 hs5 ⊢
      have t0 := T2.c0
      have t1 := T2.c1
      have t2 := T2.c2
      have hzB5 := hB.size
      have hB5 := hB.trans (hs5.below (B := w.heap.size) (by omega) (fun y hy => by omega))
      refine bodyPost_ret (v := .tuple #[.agg #[.int .i64 1, .int .i64 0, .slice none 0 0], .bool false]) (by simp [results, Tryz.results65, go_sem, t0, t1, t2]) rfl ?_
      rw [E1.out]
      exact ⟨.leaf 1, _, _, rfl, (fun d hd => by cases hd), hB5⟩
    | some p2 =>
    have i2 : (some p2).isSome = true := rfl
    obtain ⟨rfl, hf2⟩ := hy2 p2 rfl
    have E1 : Hid ((Ex.mk 6 n [u, v]).step m x = limE (.two 6 y1 y2)) := E0
    obtain ⟨hp1, hp2⟩ := step_spec tm am m x _ u y1 (Nat.le_refl _) hut Ho1.out.symm
    obtain ⟨hq1, hq2⟩ := step_spec tm am m x _ v y2 (Nat.le_refl _) hvt Ho2.out.symm
    have hz4 := hb4.size
    have hdx4 : ExX (fun b => b = q) w4 y1 s1 c1 := RdX.fresh hf1 (fun b h => by omega)
    have hdy6 : ExX (fun b => b = q) w6 y2 s2 c2 := RdX.fresh hf2 (fun b h => by omega)
    have a0 := A.c0
    have a1 := A.c1
    have a2 := A.c2
    have ltA := A.lt
    clear hy1 hy2 hf1 hf2
    go_wp2_with fail
    clear a0 a1 a2 ltA
    have hb7 : Below w6.heap.size w6 (w6.alloc (.cells #[.int .i64 y2.kind, .int .i64 y2.num, .slice s2 y2.kids.length c2] 30)) := by (repeat' first | exact Below.refl _ _ | assumption | apply Below.alloc | apply Below.drew | apply Below.setCell | omega | (simp; done) | (simp; omega))
    generalize w6.alloc (.cells #[.int .i64 y2.kind, .int .i64 y2.num, .slice s2 y2.kids.length c2] 30) = w7 at hb7 ⊢
    have hdx := ((hdx4.below hb5).below hb6).below hb7
    have hdy := hdy6.below hb7
    replace hB := Below.on hB hb7 hB.size
    replace R := R.below hb7
    replace Q := Q.below hb7
    clear hdx4 hdy6 A hb4 hb5 hb6 hb7 i1 i2 hz5 E0
    -- the call of l02Pair and the store to the raw box; world $V; hdx, hdy : what is read
    refine (l02Pair_x (X := fun b => b = q) (fun b h => by have := Q.lt; omega) hdx hdy).mono ?_
    rintro f w8 ⟨gr, rfl, hr, hb8⟩
    replace hB := Below.on hB hb8 hB.size
    replace R := R.below hb8
    replace Q := Q.below hb8
    have q0 := Q.c0
    have q1 := Q.c1
    have q2 := Q.c2
    have z0 := Q.frozen 0
    have z1 := Q.frozen 1
    have z2 := Q.frozen 2
    have ltQ := Q.lt
    go_wp2_with fail
    clear q0 q1 q2 z0 z1 z2
    have hs8 : Spares (fun y => y = q) w8 (((w8.setCell ⟨q, 0, none⟩ (.int .i64 6)).setCell ⟨q, 1, none⟩ (.int .i64 0)).setCell ⟨q, 2, none⟩ (.slice (some ⟨gr, 0, none⟩) 2 2)) := Spares.set (Spares.set (Spares.set (Spares.refl w8)))
    replace Q := ((Q.set 0 (.int .i64 6)).set 1 (.int .i64 0)).set 2 (.slice (some ⟨gr, 0, none⟩) 2 2)
    generalize (((w8.setCell ⟨q, 0, none⟩ (.int .i64 6)).setCell ⟨q, 1, none⟩ (.int .i64 0)).setCell ⟨q, 2, none⟩ (.slice (some ⟨gr, 0, none⟩) 2 2)) = w9 at Q hs8 ⊢
    replace R := R.keep (hs8.block _ R.lt (by omega))
    replace hB := hB.trans (hs8.below (B := w.heap.size) hB.size (fun y hy => by omega))
    have hk2 : RdX (fun b => b = q) w9 (kidsD [y1, y2]) (.slice (some ⟨gr, 0, none⟩) 2 2) := RdX.keep hr (KeptX.of_spares hs8 (fun b _ h => h))
    clear hr hb8 ltQ
    have hk := hk2.rd
    -- goal: what stands behind the store to the raw box; world w9; Q : the raw box holds two K X Y; hk : its kids are read; E1 : the result is limE (two K X Y)
    have hat : ExAt w9 q 0 (.two 6 y1 y2) := Q.exAt hk
    have hsz9 : (Ex.two 6 y1 y2).size ≤ 90000 := by rw [size_two]; omega
    refine (l01Size_all _ _ _ _ _ (Nat.le_refl _) hat (by omega)).mono ?_
    rintro f w10 ⟨rfl, rfl⟩
    clear hk
    by_cases h8 : (Ex.two 6 y1 y2).size ≤ 800
    · have c8 : ¬ (((Ex.two 6 y1 y2).size : Int) > 800) := by omega
      have E2 : Hid (limE (.two 6 y1 y2) = some (Ex.two 6 y1 y2).tidy) := by show _ = _; unfold limE; rw [if_pos h8]
      go_wp2_with fail
      refine (l02Tidy_all tm am ht ha _ _ _ _ _ (Nat.le_refl _) hat (tree_two (Or.inl rfl) hp1 hq1) hsz9).mono ?_
      rintro f w11 ⟨s11, c11, rfl, hf, hb⟩
      have hzw := R.lt
      replace hB := Below.on hB hb hB.size
      replace R := R.below hb
      clear c8 h8 hsz9
      have r0 := R.c0
      have r1 := R.c1
      have r2 := R.c2
      have z0 := R.frozen 0
      have z1 := R.frozen 1
      have z2 := R.frozen 2
      have ltR := R.lt
      go_wp2_with fail
      have T2 := ((R.set 0 (.int .i64 (Ex.two 6 y1 y2).tidy.kind)).set 1 (.int .i64 (Ex.two 6 y1 y2).tidy.num)).set 2 (.slice s11 (Ex.two 6 y1 y2).tidy.kids.length c11)
      have hs5 : Spares (fun y => y = w.heap.size) w11 (((w11.setCell ⟨w.heap.size, 0, none⟩ (.int .i64 (Ex.two 6 y1 y2).tidy.kind)).setCell ⟨w.heap.size, 1, none⟩ (.int .i64 (Ex.two 6 y1 y2).tidy.num)).setCell ⟨w.heap.size, 2, none⟩ (.slice s11 (Ex.two 6 y1 y2).tidy.kids.length c11)) := Spares.set (Spares.set (Spares.set (Spares.refl w11)))
      generalize (((w11.setCell ⟨w.heap.size, 0, none⟩ (.int .i64 (Ex.two 6 y1 y2).tidy.kind)).setCell ⟨w.heap.size, 1, none⟩ (.int .i64 (Ex.two 6 y1 y2).tidy.num)).setCell ⟨w.heap.size, 2, none⟩ (.slice s11 (Ex.two 6 y1 y2).tidy.kids.length c11)) = w5 at T2 hs5 ⊢
      have t0 := T2.c0
      have t1 := T2.c1
      have t2 := T2.c2
      have hzB5 := hB.size
      have hB5 := hB.trans (hs5.below (B := w.heap.size) (by omega) (fun y hy => by omega))
      refine bodyPost_ret (v := .tuple #[.agg #[.int .i64 (Ex.two 6 y1 y2).tidy.kind, .int .i64 (Ex.two 6 y1 y2).tidy.num, .slice s11 (Ex.two 6 y1 y2).tidy.kids.length c11], .bool true]) (by simp [results, Tryz.results65, go_sem, t0, t1, t2]) rfl ?_
      rw [E1.out, E2.out]
      exact ⟨_, _, _, rfl, fun d hd => by
        obtain rfl := Option.some.inj hd
        exact ⟨rfl, Freshs.from (Freshs.keep hf (fun y _ hy2 => hs5.block y hy2 (by omega))) (Nat.le_of_lt hzw)⟩, hB5⟩
    · have c8 : ((Ex.two 6 y1 y2).size : Int) > 800 := by omega
      have E2 : Hid (limE (.two 6 y1 y2) = none) := by show _ = _; unfold limE; rw [if_neg h8]
      have q0 := Q.c0
      have q1 := Q.c1
      have q2 := Q.c2
      have ltQ := Q.lt
      clear hat hsz9
      have r0 := R.c0
      have r1 := R.c1
      have r2 := R.c2
      have z0 := R.frozen 0
      have z1 := R.frozen 1
      have z2 := R.frozen 2
      have ltR := R.lt
      go_wp2_with fail
      have T2 := ((R.set 0 (.int .i64 6)).set 1 (.int .i64 0)).set 2 (.slice (some ⟨gr, 0, none⟩) 2 2)
      have hs5 : Spares (fun y => y = w.heap.size) w9 (((w9.setCell ⟨w.heap.size, 0, none⟩ (.int .i64 6)).setCell ⟨w.heap.size, 1, none⟩ (.int .i64 0)).setCell ⟨w.heap.size, 2, none⟩ (.slice (some ⟨gr, 0, none⟩) 2 2)) := Spares.set (Spares.set (Spares.set (Spares.refl w9)))
      generalize (((w9.setCell ⟨w.heap.size, 0, none⟩ (.int .i64 6)).setCell ⟨w.heap.size, 1, none⟩ (.int .i64 0)).setCell ⟨w.heap.size, 2, none⟩ (.slice (some ⟨gr, 0, none⟩) 2 2)) = w5 at T2 hs5 ⊢
      have t0 := T2.c0
      have t1 := T2.c1
      have t2 := T2.c2
      have hzB5 := hB.size
      have hB5 := hB.trans (hs5.below (B := w.heap.size) (by omega) (fun y hy => by omega))
      refine bodyPost_ret (v := .tuple #[.agg #[.int .i64 6, .int .i64 0, .slice (some ⟨gr, 0, none⟩) 2 2], .bool false]) (by simp [results, Tryz.results65, go_sem, t0, t1, t2]) rfl ?_
      rw [E1.out, E2.out]
      exact ⟨.two 6 y1 y2, _, _, rfl, (fun d hd => by cases hd), hB5⟩
  have c6 : (k == 6) = false := by simp [h6]
  by_cases h7' : k = 7
  · subst h7'
    obtain ⟨u, v, rfl⟩ := two_kids hk (Or.inr rfl)
    have hsz := Ex.size_eq (.mk 7 n [u, v])
    simp only [Ex.sizeL, Ex.kids_mk] at hsz
    have hut : u.tree tm am = true := Ex.treeL_mem htl (by simp)
    have hvt : v.tree tm am = true := Ex.treeL_mem htl (by simp)
    obtain ⟨o1, Ho1⟩ : ∃ o, Hid (o = u.step m x) := ⟨_, rfl⟩
    obtain ⟨o2, Ho2⟩ : ∃ o, Hid (o = v.step m x) := ⟨_, rfl⟩
    have E0 : Hid ((Ex.mk 7 n [u, v]).step m x = o1.bind fun p => if u.emp m = true then o2.bind fun q => limE (.two 6 (.two 7 p v) q) else limE (.two 7 p v)) := by show _ = _; rw [Ho1.out, Ho2.out]; exact Ex.step_dot
    clear htl hk c4 h4 h6 c6
    obtain ⟨g0, g1, sx, cx, g2, g3⟩ := id hx
    simp only [Ex.kind_mk, Ex.num_mk, Ex.kids_mk] at g0 g1 g2
    obtain ⟨kb, ko, rfl⟩ := kid_some g3 (by simp [Ex.kids])
    have hu : ExAt w kb ko u := by have := kid_exAt g3 (i := 0) (e := u) rfl; simpa using this
    obtain ⟨-, hlen, hcap, -, -⟩ := kid_at g3
    unfold maxLen at hcap
    simp only [List.length_cons, List.length_nil, Nat.zero_add, Nat.reduceAdd] at g2 hlen hcap
    have G0 := Lib.hid g0
    have G1 := Lib.hid g1
    have G2 := Lib.hid g2
    clear g0 g1 g2
    go_enter Tryz.func65, Tryz.ntmps65
    go_wp2_with fail
    have R := Blk.new3 w 30 (.int .i64 0) (.int .i64 0) (.slice none 0 0)
    have hB : Below w.heap.size w (w.alloc (.cells #[.int .i64 0, .int .i64 0, .slice none 0 0] 30)) := by (repeat' first | exact Below.refl _ _ | assumption | apply Below.alloc | apply Below.drew | apply Below.setCell | omega | (simp; done) | (simp; omega))
    have hz0 : (w.alloc (.cells #[.int .i64 0, .int .i64 0, .slice none 0 0] 30)).heap.size = w.heap.size + 1 := by simp
    generalize w.alloc (.cells #[.int .i64 0, .int .i64 0, .slice none 0 0] 30) = w1 at R hB hz0 ⊢
    refine (l02Zero_v).mono ?_
    rintro f w2 ⟨rfl, hb⟩
    replace hB := Below.on hB hb hB.size
    replace R := R.below hb
    clear hb
    have g0 := (hB.cell (p := ⟨b, o, none⟩) hlt).trans G0.out
    have g1 := (hB.cell (p := ⟨b, o + 1, none⟩) hlt).trans G1.out
    have g2 := (hB.cell (p := ⟨b, o + 2, none⟩) hlt).trans G2.out
    have hlt2 : b < w2.heap.size := by have := hB.size; omega
    have hz2 : w.heap.size < w2.heap.size := R.lt
    have hv : ExAt w kb (ko + 3) v := by have := kid_exAt g3 (i := 1) (e := v) rfl; simpa using this
    obtain ⟨v0, v1, sv, cv, v2, hvr⟩ := id hv
    have V0 := Lib.hid v0
    have V1 := Lib.hid v1
    have V2 := Lib.hid v2
    have hkb : kb < w.heap.size := hu.lt
    clear v0 v1 v2
    -- the walk stands at the first call; the raw box q
    go_wp2_with fail
    clear g0 g1 g2
    have Q := Blk.new3 w2 30 (.int .i64 1) (.int .i64 0) (.slice none 0 0)
    have hb3 : Below w2.heap.size w2 (w2.alloc (.cells #[.int .i64 1, .int .i64 0, .slice none 0 0] 30)) := by (repeat' first | exact Below.refl _ _ | assumption | apply Below.alloc | apply Below.drew | apply Below.setCell | omega | (simp; done) | (simp; omega))
    generalize w2.alloc (.cells #[.int .i64 1, .int .i64 0, .slice none 0 0] 30) = w3 at Q hb3 ⊢
    replace hB := Below.on hB hb3 hB.size
    replace R := R.below hb3
    obtain ⟨q, hq⟩ : ∃ q, w2.heap.size = q := ⟨_, rfl⟩
    rw [hq] at Q hz2
    simp only [hq]
    clear hb3 hq hlt2
    have hvx : ExX (fun b => b = q) w v sv cv := RdX.of_rd hvr (fun b h => by omega)
    -- the first kid's derivative; y1 : what comes back; box a
    refine (HIH.out u.size (by omega) u _ _ _ (Nat.le_refl _) (hu.below hB) hut (by omega)).mono ?_
    rintro f w4 ⟨y1, s1, c1, rfl, hy1, hb4⟩
    rw [← Ho1.out] at hy1 ⊢
    have hz3 := Q.lt
    replace hB := Below.on hB hb4 hB.size
    replace R := R.below hb4
    replace Q := Q.below hb4
    cases o1 with
    | none =>
      have i1 : (none : Option Ex).isSome = false := rfl
      have E1 : Hid ((Ex.mk 7 n [u, v]).step m x = none) := E0
      clear hy1
      -- a part has no derivative; the world is w4.alloc .int .i64 y1.kind, .int .i64 y1.num, .slice s1 y1.kids.length c1; the raw box holds 1, 0, nil
      have q0 := Q.c0
      have q1 := Q.c1
      have q2 := Q.c2
      have ltQ := Q.lt
      have r0 := R.c0
      have r1 := R.c1
      have r2 := R.c2
      have z0 := R.frozen 0
      have z1 := R.frozen 1
      have z2 := R.frozen 2
      have ltR := R.lt
      go_wp2_with fail
      have T2 := (((R.set 0 (.int .i64 1)).set 1 (.int .i64 0)).set 2 (.slice none 0 0)).alloc (.cells #[.int .i64 y1.kind, .int .i64 y1.num, .slice s1 y1.kids.length c1] 30)
      have hs5 : Spares (fun y => y = w.heap.size) w4 ((((w4.setCell ⟨w.heap.size, 0, none⟩ (.int .i64 1)).setCell ⟨w.heap.size, 1, none⟩ (.int .i64 0)).setCell ⟨w.heap.size, 2, none⟩ (.slice none 0 0)).alloc (.cells #[.int .i64 y1.kind, .int .i64 y1.num, .slice s1 y1.kids.length c1] 30)) := (Spares.set (Spares.set (Spares.set (Spares.refl w4)))).trans (Spares.of_below (Below.alloc (Below.refl _ _) (Nat.le_refl _) _))
      generalize (((w4.setCell ⟨w.heap.size, 0, none⟩ (.int .i64 1)).setCell ⟨w.heap.size, 1, none⟩ (.int .i64 0)).setCell ⟨w.heap.size, 2, none⟩ (.slice none 0 0)).alloc (.cells #[.int .i64 y1.kind, .int .i64 y1.num, .slice s1 y1.kids.length c1] 30) = w5 at T2 hs5 ⊢
      have t0 := T2.c0
      have t1 := T2.c1
      have t2 := T2.c2
      have hzB5 := hB.size
      have hB5 := hB.trans (hs5.below (B := w.heap.size) (by omega) (fun y hy => by omega))
      refine bodyPost_ret (v := .tuple #[.agg #[.int .i64 1, .int .i64 0, .slice none 0 0], .bool false]) (by simp [results, Tryz.results65, go_sem, t0, t1, t2]) rfl ?_
      rw [E1.out]
      exact ⟨.leaf 1, _, _, rfl, (fun d hd => by cases hd), hB5⟩
    | some p =>
    have i1 : (some p).isSome = true := rfl
    obtain ⟨rfl, hf1⟩ := hy1 p rfl
    obtain ⟨hp1, hp2⟩ := step_spec tm am m x _ u y1 (Nat.le_refl _) hut Ho1.out.symm
    have hdx4 : ExX (fun b => b = q) w4 y1 s1 c1 := RdX.fresh hf1 (fun b h => by omega)
    clear hy1 hf1
    -- box a; then the drawn region
    go_wp2_with fail
    have A := Blk.new3 w4 30 (.int .i64 y1.kind) (.int .i64 y1.num) (.slice s1 y1.kids.length c1)
    have hb5 : Below w4.heap.size w4 (w4.alloc (.cells #[.int .i64 y1.kind, .int .i64 y1.num, .slice s1 y1.kids.length c1] 30)) := by (repeat' first | exact Below.refl _ _ | assumption | apply Below.alloc | apply Below.drew | apply Below.setCell | omega | (simp; done) | (simp; omega))
    generalize w4.alloc (.cells #[.int .i64 y1.kind, .int .i64 y1.num, .slice s1 y1.kids.length c1] 30) = w5 at A hb5 ⊢
    have hz4 := hb4.size
    have hz5 := hb5.size
    have hdx := hdx4.below hb5
    replace hB := Below.on hB hb5 hB.size
    replace R := R.below hb5
    replace Q := Q.below hb5
    have hB5 := hB
    have hXW : ∀ b, b = q → b < w5.heap.size := fun b h => by omega
    clear hb4 hb5 hdx4
    have hvx5 := hvx.below hB5
    have hbw := hB5.size
    obtain ⟨x0, hx0⟩ := mkval ?a1_0
    obtain ⟨x1, hx1⟩ := mkval ?a1_1
    obtain ⟨x2, hx2⟩ := mkval ?a1_2
    obtain ⟨x3, hx3⟩ := mkval ?a1_3
    obtain ⟨x4, hx4⟩ := mkval ?a1_4
    obtain ⟨x5, hx5⟩ := mkval ?a1_5
    obtain ⟨x6, hx6⟩ := mkval ?a1_6
    have hGb : ∀ m b, (fun m b => (m = 0 ∧ b = q)) m b → (w.heap.size + 1) ≤ b ∧ b < (w5).heap.size := by
      intro m b hg
      rcases hg with ⟨rfl, hg⟩
      · subst hg
        have q := Q.lt
        omega
    have hGd : ∀ m m' b, (fun m b => (m = 0 ∧ b = q)) m b → (fun m b => (m = 0 ∧ b = q)) m' b → m = m' := by
      intro m m' b h h'
      rcases h with ⟨rfl, h⟩ <;> rcases h' with ⟨rfl, h'⟩ <;> first
        | rfl
    have hGX : ∀ m b, (fun m b => (m = 0 ∧ b = q)) m b → (fun b => b = q) b := by
      intro m b hg
      rcases hg with ⟨rfl, rfl⟩ <;> simp
    refine region_rs [] [(8, 0)] (fun m b => (m = 0 ∧ b = q)) (w.heap.size + 1) (fun i iv vs wx => match i with
      | 0 => vs 0 = x0
      | 1 => vs 1 = x1
      | 2 => vs 2 = x2
      | 3 => vs 3 = x3
      | 4 => vs 4 = x4
      | 5 => vs 5 = x5
      | 6 => vs 6 = x6
      | 7 => ∃ gr, vs 7 = .agg #[.int .i64 7, .int .i64 0, .slice (some ⟨gr, 0, none⟩) 2 2] ∧ RdO w5 (fun b => b = q) (foot [] [(8, 0)] (fun m b => (m = 0 ∧ b = q)) 9 7 iv) wx (kidsD [y1, v]) (.slice (some ⟨gr, 0, none⟩) 2 2)
      | 8 => Blk wx (q) 30 [aggAt (vs 7) 0, aggAt (vs 7) 1, aggAt (vs 7) 2]
      | _ => True) (fun i iv vs => match i with
      | 0 => vs 0 = x0
      | 1 => vs 1 = x1
      | 2 => vs 2 = x2
      | 3 => vs 3 = x3
      | 4 => vs 4 = x4
      | 5 => vs 5 = x5
      | 6 => vs 6 = x6
      | 7 => ∃ gr, vs 7 = .agg #[.int .i64 7, .int .i64 0, .slice (some ⟨gr, 0, none⟩) 2 2]
      | 8 => True
      | _ => True) (by kernel_rfl) (by kernel_rfl) [0, 1, 2, 3, 4, 5, 6, 7, 8] (by kernel_rfl) ?hbase ?hGb ?hG ?hJ ?hE ?hEE ?hstep ?hQ
    case hbase => first | exact Nat.le_refl _ | omega | (simp; omega)
    case hGb =>
      exact hGb
    case hG =>
      exact hGd
    case hJ =>
      intro i hi iv iv' vs vs' wx wx' ha hv hz hk hj
      simp only [List.mem_cons, List.not_mem_nil, or_false] at hi
      rcases hi with rfl | rfl | rfl | rfl | rfl | rfl | rfl | rfl | rfl
      · exact (hv.out 0 (mem_of (by kernel_rfl))).symm.trans hj
      · exact (hv.out 1 (mem_of (by kernel_rfl))).symm.trans hj
      · exact (hv.out 2 (mem_of (by kernel_rfl))).symm.trans hj
      · exact (hv.out 3 (mem_of (by kernel_rfl))).symm.trans hj
      · exact (hv.out 4 (mem_of (by kernel_rfl))).symm.trans hj
      · exact (hv.out 5 (mem_of (by kernel_rfl))).symm.trans hj
      · exact (hv.out 6 (mem_of (by kernel_rfl))).symm.trans hj
      · have e7 := hv.out 7 (mem_of (by kernel_rfl))
        obtain ⟨gr, q1, q2⟩ := hj
        exact ⟨gr, e7 ▸ q1, q2.keep hz (fun b hb h1 => hk.out b hb h1) (fun b h1 => foot_agree (l := ancs _ 9 7) (by exact of_decide_eq_true (by kernel_rfl)) ha.out h1)⟩
      · have e7 := hv.out 7 (mem_of (by kernel_rfl))
        have hj' : Blk wx (q) 30 [aggAt (vs 7) 0, aggAt (vs 7) 1, aggAt (vs 7) 2] := hj
        show Blk wx' (q) 30 [aggAt (vs' 7) 0, aggAt (vs' 7) 1, aggAt (vs' 7) 2]
        rw [← e7]
        exact hj'.keep (hk.out _ hj'.lt (foot_given 0 (by decide) ⟨rfl, rfl⟩))
    case hE =>
      intro i hi iv vs wx hj
      simp only [List.mem_cons, List.not_mem_nil, or_false] at hi
      rcases hi with rfl | rfl | rfl | rfl | rfl | rfl | rfl | rfl | rfl
      · exact hj
      · exact hj
      · exact hj
      · exact hj
      · exact hj
      · exact hj
      · exact hj
      · obtain ⟨gr, q1, -⟩ := hj
        exact ⟨gr, q1⟩
      · trivial
    case hEE =>
      intro i hi iv iv' vs vs' ha hv hj
      simp only [List.mem_cons, List.not_mem_nil, or_false] at hi
      rcases hi with rfl | rfl | rfl | rfl | rfl | rfl | rfl | rfl | rfl
      · exact (hv.out 0 (mem_of (by kernel_rfl))).symm.trans hj
      · exact (hv.out 1 (mem_of (by kernel_rfl))).symm.trans hj
      · exact (hv.out 2 (mem_of (by kernel_rfl))).symm.trans hj
      · exact (hv.out 3 (mem_of (by kernel_rfl))).symm.trans hj
      · exact (hv.out 4 (mem_of (by kernel_rfl))).symm.trans hj
      · exact (hv.out 5 (mem_of (by kernel_rfl))).symm.trans hj
      · exact (hv.out 6 (mem_of (by kernel_rfl))).symm.trans hj
      · have e7 := hv.out 7 (mem_of (by kernel_rfl))
        have hj' : ∃ gr, vs 7 = .agg #[.int .i64 7, .int .i64 0, .slice (some ⟨gr, 0, none⟩) 2 2] := hj
        show ∃ gr, vs' 7 = .agg #[.int .i64 7, .int .i64 0, .slice (some ⟨gr, 0, none⟩) 2 2]
        rw [← e7]
        exact hj'
      · trivial
    case hstep =>
      intro i hi opr ho iv vs w1 hB hS hSo hd he hbd hsep hun K hK
      simp only [List.mem_cons, List.not_mem_nil, or_false] at hi
      have hzB := hB.size
      have hBw : Below w.heap.size w w1 := hB5.trans (hB.mono (by omega))
      have g0 := (hBw.cell (p := ⟨b, o, none⟩) hlt).trans G0.out
      have g1 := (hBw.cell (p := ⟨b, o + 1, none⟩) hlt).trans G1.out
      have g2 := (hBw.cell (p := ⟨b, o + 2, none⟩) hlt).trans G2.out
      have hlt1 : b < w1.heap.size := by have := hBw.size; omega
      have A1 := A.keep (hSo.out.block _ A.lt (fun ⟨_, _, h⟩ => by omega))
      have a0 := A1.c0
      have a1 := A1.c1
      have a2 := A1.c2
      have ltA := A1.lt
      have v0 := (hBw.cell (p := ⟨kb, ko + 3, none⟩) hkb).trans V0.out
      have v1 := (hBw.cell (p := ⟨kb, ko + 3 + 1, none⟩) hkb).trans V1.out
      have v2 := (hBw.cell (p := ⟨kb, ko + 3 + 2, none⟩) hkb).trans V2.out
      generalize hA : putFrom _ 0 vs _ = A at hK ⊢
      simp only [putFrom, puts] at hA
      rcases hi with rfl | rfl | rfl | rfl | rfl | rfl | rfl | rfl | rfl
      all_goals
        simp at ho
        subst ho
        subst hA
      · go_wp2_with fail
        refine Onward.mk (hK ?val1_0 _ _ (fun h => by cases h) ?eqA (Spares.refl _) (fun iv' _ _ => ?ja))
        case eqA => first | rfl | (simp only [puts]; rfl)
        case ja => exact hx0.out.symm
      · go_wp2_with fail
        refine Onward.mk (hK ?val1_1 _ _ (fun h => by cases h) ?eqA (Spares.refl _) (fun iv' _ _ => ?ja))
        case eqA => first | rfl | (simp only [puts]; rfl)
        case ja => exact hx1.out.symm
      · have h1 := (hd.out 1 (mem_of (by kernel_rfl)) (by decide) (by kernel_rfl)).trans hx1.out
        go_wp2_with fail
        refine Onward.mk (hK ?val1_2 _ _ (fun h => by cases h) ?eqA (Spares.refl _) (fun iv' _ _ => ?ja))
        case eqA => first | rfl | (simp only [puts, h1]; rfl)
        case ja => exact hx2.out.symm
      · have h2 := (hd.out 2 (mem_of (by kernel_rfl)) (by decide) (by kernel_rfl)).trans hx2.out
        go_wp2_with fail
        refine Onward.mk (hK ?val1_3 _ _ (fun h => by cases h) ?eqA (Spares.refl _) (fun iv' _ _ => ?ja))
        case eqA => first | rfl | (simp only [puts, h2]; rfl)
        case ja => exact hx3.out.symm
      · have h3 := (hd.out 3 (mem_of (by kernel_rfl)) (by decide) (by kernel_rfl)).trans hx3.out
        go_wp2_with fail
        refine Onward.mk (hK ?val1_4 _ _ (fun h => by cases h) ?eqA (Spares.refl _) (fun iv' _ _ => ?ja))
        case eqA => first | rfl | (simp only [puts, h3]; rfl)
        case ja => exact hx4.out.symm
      · have h4 := (hd.out 4 (mem_of (by kernel_rfl)) (by decide) (by kernel_rfl)).trans hx4.out
        go_wp2_with fail
        refine Onward.mk (hK ?val1_5 _ _ (fun h => by cases h) ?eqA (Spares.refl _) (fun iv' _ _ => ?ja))
        case eqA => first | rfl | (simp only [puts, h4]; rfl)
        case ja => exact hx5.out.symm
      · have h5 := (hd.out 5 (mem_of (by kernel_rfl)) (by decide) (by kernel_rfl)).trans hx5.out
        go_wp2_with fail
        refine Onward.mk (hK ?val1_6 _ _ (fun h => by cases h) ?eqA (Spares.refl _) (fun iv' _ _ => ?ja))
        case eqA => first | rfl | (simp only [puts, h5]; rfl)
        case ja => exact hx6.out.symm
      · have h0 := (hd.out 0 (mem_of (by kernel_rfl)) (by decide) (by kernel_rfl)).trans hx0.out
        have h6 := (hd.out 6 (mem_of (by kernel_rfl)) (by decide) (by kernel_rfl)).trans hx6.out
        go_wp2_with fail
        have hO : KeptX (fun b => b = q) w5 w1 := KeptX.of_spares hSo.out (fun b _ ⟨m, hg⟩ => hGX m b hg)
        obtain ⟨XQ, hXQ⟩ : ∃ XQ, XQ = OutX w5 (fun b => b = q) (fun b => False) w1 := ⟨_, rfl⟩
        have hXl : ∀ b, XQ b → b < w1.heap.size := by rw [hXQ]; exact OutX.lt
        have hOld : ∀ (d : D) (v : Value), RdX (fun b => b = q) w5 d v → RdX XQ w1 d v := by rw [hXQ]; exact fun d v h => h.toOut hO
        refine (l02Pair_x (X := XQ) hXl (hOld _ _ hdx) (hOld _ _ hvx5)).mono ?_
        rintro e w2 ⟨gr, rfl, hr, hb⟩
        go_wp2_with fail
        rw [hXQ] at hr
        exact Onward.mk (hK (.agg #[.int .i64 7, .int .i64 0, .slice (some ⟨gr, 0, none⟩) 2 2]) _ _ (fun h => by cases h) (by first | rfl | (simp only [puts, h0, h6])) (Spares.of_below hb) (fun iv' ag hi => ⟨gr, rfl, RdO.ofX hr hb hO (fun b h => by exact h.elim) (fun b h1 h2 => foot_new hi h1 h2)⟩))
      · obtain ⟨gr, h7, f7⟩ := hd.out 7 (mem_of (by kernel_rfl)) (by decide) (by kernel_rfl)
        have Q1 := Q.keep (hS.out 0 _ (by kernel_rfl) ⟨rfl, rfl⟩)
        have qc0 := Q1.c0
        have qz0 := Q1.frozen 0
        have qc1 := Q1.c1
        have qz1 := Q1.frozen 1
        have qc2 := Q1.c2
        have qz2 := Q1.frozen 2
        have qlt := Q1.lt
        go_wp2_with fail
        exact Onward.mk (hK undef _ _ (fun _ => rfl) (by simp only [puts, h7]) ((spares_sets (b0 := q) (by repeat (first | exact Spares.refl _ | apply Spares.set))).more (fun b h => Or.inl ⟨0, by decide, ⟨rfl, h⟩⟩)) (fun iv' ag hi => by
          show Blk _ (q) 30 [aggAt (vs 7) 0, aggAt (vs 7) 1, aggAt (vs 7) 2]
          rw [h7]
          exact (((Q1.set 0 _).set 1 _).set 2 _)))
    case hQ =>
      intro iv vs wx hB hSp hd he hbd hsep
      have hzB := hB.size
      have h0 := (hd.out 0 (mem_of (by kernel_rfl)) (not_eaten (by kernel_rfl))).trans hx0.out
      have h1 := (hd.out 1 (mem_of (by kernel_rfl)) (not_eaten (by kernel_rfl))).trans hx1.out
      have h2 := (hd.out 2 (mem_of (by kernel_rfl)) (not_eaten (by kernel_rfl))).trans hx2.out
      have h3 := (hd.out 3 (mem_of (by kernel_rfl)) (not_eaten (by kernel_rfl))).trans hx3.out
      have h4 := (hd.out 4 (mem_of (by kernel_rfl)) (not_eaten (by kernel_rfl))).trans hx4.out
      have h5 := (hd.out 5 (mem_of (by kernel_rfl)) (not_eaten (by kernel_rfl))).trans hx5.out
      have h6 := (hd.out 6 (mem_of (by kernel_rfl)) (not_eaten (by kernel_rfl))).trans hx6.out
      obtain ⟨gr, h7, f7⟩ := hd.out 7 (mem_of (by kernel_rfl)) (not_eaten (by kernel_rfl))
      have f8 : Blk _ (q) 30 [aggAt (vs 7) 0, aggAt (vs 7) 1, aggAt (vs 7) 2] := hd.out 8 (mem_of (by kernel_rfl)) (not_eaten (by kernel_rfl))
      simp only [putFrom, puts]
      have hOq : KeptX (fun b => b = q) w5 wx := KeptX.of_spares hSp.out (fun b _ ⟨m, hg⟩ => hGX m b hg)
      have r7 : RdX (fun b => b = q) wx (kidsD [y1, v]) (.slice (some ⟨gr, 0, none⟩) 2 2) := f7.done hOq (fun b hf hx => by have q := foot_no (l := [0, 1, 2, 3, 4, 5, 6, 7, 8]) (by kernel_rfl) (by kernel_rfl) hbd.out hf; have q' := hXW b hx; omega)
      clear f7
      -- behind the region: 7 the call
      rw [h7] at f8
      simp only [aggAt] at f8
      replace R := R.keep (hSp.out.block _ R.lt (fun ⟨_, _, h⟩ => by omega))
      replace hB : Below w.heap.size w wx := hB5.trans (hB.mono (by omega))
      replace Q : Blk wx q 30 [.int .i64 7, .int .i64 0, .slice (some ⟨gr, 0, none⟩) 2 2] := f8
      have hk2 := r7
      clear hd he hbd hsep h0 h1 h2 h3 h4 h5 h6 h7 f8 hSp
      obtain ⟨w8, rfl⟩ : ∃ v, v = wx := ⟨_, rfl⟩
      have g2 := (hB.cell (p := ⟨b, o + 2, none⟩) hlt).trans G2.out
      have hlt8 : b < w8.heap.size := by have := hB.size; omega
      go_wp2_with fail
      refine (l02Empty_all tm am m ht2 h0 h7 _ u kb ko w8 (Nat.le_refl _) (hu.below hB) hut).mono ?_
      rintro f w' ⟨rfl, rfl⟩
      cases he : u.emp m
      · have E1 : Hid ((Ex.mk 7 n [u, v]).step m x = limE (.two 7 y1 v)) := by show _ = _; rw [E0.out]; simp [he]
        obtain ⟨w9, rfl⟩ : ∃ v, v = w8 := ⟨_, rfl⟩
        clear he
        go_wp2_with fail
        have hk := hk2.rd
        -- goal: what stands behind the store to the raw box; world w9; Q : the raw box holds two K X Y; hk : its kids are read; E1 : the result is limE (two K X Y)
        have hat : ExAt w9 q 0 (.two 7 y1 v) := Q.exAt hk
        have hsz9 : (Ex.two 7 y1 v).size ≤ 90000 := by rw [size_two]; omega
        refine (l01Size_all _ _ _ _ _ (Nat.le_refl _) hat (by omega)).mono ?_
        rintro f w10 ⟨rfl, rfl⟩
        clear hk
        by_cases h8 : (Ex.two 7 y1 v).size ≤ 800
        · have c8 : ¬ (((Ex.two 7 y1 v).size : Int) > 800) := by omega
          have E2 : Hid (limE (.two 7 y1 v) = some (Ex.two 7 y1 v).tidy) := by show _ = _; unfold limE; rw [if_pos h8]
          go_wp2_with fail
          refine (l02Tidy_all tm am ht ha _ _ _ _ _ (Nat.le_refl _) hat (tree_two (Or.inr rfl) hp1 hvt) hsz9).mono ?_
          rintro f w11 ⟨s11, c11, rfl, hf, hb⟩
          have hzw := R.lt
          replace hB := Below.on hB hb hB.size
          replace R := R.below hb
          clear c8 h8 hsz9
          have r0 := R.c0
          have r1 := R.c1
          have r2 := R.c2
          have z0 := R.frozen 0
          have z1 := R.frozen 1
          have z2 := R.frozen 2
          have ltR := R.lt
          go_wp2_with fail
          have T2 := ((R.set 0 (.int .i64 (Ex.two 7 y1 v).tidy.kind)).set 1 (.int .i64 (Ex.two 7 y1 v).tidy.num)).set 2 (.slice s11 (Ex.two 7 y1 v).tidy.kids.length c11)
          have hs5 : Spares (fun y => y = w.heap.size) w11 (((w11.setCell ⟨w.heap.size, 0, none⟩ (.int .i64 (Ex.two 7 y1 v).tidy.kind)).setCell ⟨w.heap.size, 1, none⟩ (.int .i64 (Ex.two 7 y1 v).tidy.num)).setCell ⟨w.heap.size, 2, none⟩ (.slice s11 (Ex.two 7 y1 v).tidy.kids.length c11)) := Spares.set (Spares.set (Spares.set (Spares.refl w11)))
          generalize (((w11.setCell ⟨w.heap.size, 0, none⟩ (.int .i64 (Ex.two 7 y1 v).tidy.kind)).setCell ⟨w.heap.size, 1, none⟩ (.int .i64 (Ex.two 7 y1 v).tidy.num)).setCell ⟨w.heap.size, 2, none⟩ (.slice s11 (Ex.two 7 y1 v).tidy.kids.length c11)) = w5 at T2 hs5 ⊢
          have t0 := T2.c0
          have t1 := T2.c1
          have t2 := T2.c2
          have hzB5 := hB.size
          have hB5 := hB.trans (hs5.below (B := w.heap.size) (by omega) (fun y hy => by omega))
          refine bodyPost_ret (v := .tuple #[.agg #[.int .i64 (Ex.two 7 y1 v).tidy.kind, .int .i64 (Ex.two 7 y1 v).tidy.num, .slice s11 (Ex.two 7 y1 v).tidy.kids.length c11], .bool true]) (by simp [results, Tryz.results65, go_sem, t0, t1, t2]) rfl ?_
          rw [E1.out, E2.out]
          exact ⟨_, _, _, rfl, fun d hd => by
            obtain rfl := Option.some.inj hd
            exact ⟨rfl, Freshs.from (Freshs.keep hf (fun y _ hy2 => hs5.block y hy2 (by omega))) (Nat.le_of_lt hzw)⟩, hB5⟩
        · have c8 : ((Ex.two 7 y1 v).size : Int) > 800 := by omega
          have E2 : Hid (limE (.two 7 y1 v) = none) := by show _ = _; unfold limE; rw [if_neg h8]
          have q0 := Q.c0
          have q1 := Q.c1
          have q2 := Q.c2
          have ltQ := Q.lt
          clear hat hsz9
          have r0 := R.c0
          have r1 := R.c1
          have r2 := R.c2
          have z0 := R.frozen 0
          have z1 := R.frozen 1
          have z2 := R.frozen 2
          have ltR := R.lt
          go_wp2_with fail
          have T2 := ((R.set 0 (.int .i64 7)).set 1 (.int .i64 0)).set 2 (.slice (some ⟨gr, 0, none⟩) 2 2)
          have hs5 : Spares (fun y => y = w.heap.size) w9 (((w9.setCell ⟨w.heap.size, 0, none⟩ (.int .i64 7)).setCell ⟨w.heap.size, 1, none⟩ (.int .i64 0)).setCell ⟨w.heap.size, 2, none⟩ (.slice (some ⟨gr, 0, none⟩) 2 2)) := Spares.set (Spares.set (Spares.set (Spares.refl w9)))
          generalize (((w9.setCell ⟨w.heap.size, 0, none⟩ (.int .i64 7)).setCell ⟨w.heap.size, 1, none⟩ (.int .i64 0)).setCell ⟨w.heap.size, 2, none⟩ (.slice (some ⟨gr, 0, none⟩) 2 2)) = w5 at T2 hs5 ⊢
          have t0 := T2.c0
          have t1 := T2.c1
          have t2 := T2.c2
          have hzB5 := hB.size
          have hB5 := hB.trans (hs5.below (B := w.heap.size) (by omega) (fun y hy => by omega))
          refine bodyPost_ret (v := .tuple #[.agg #[.int .i64 7, .int .i64 0, .slice (some ⟨gr, 0, none⟩) 2 2], .bool false]) (by simp [results, Tryz.results65, go_sem, t0, t1, t2]) rfl ?_
          rw [E1.out, E2.out]
          exact ⟨.two 7 y1 v, _, _, rfl, (fun d hd => by cases hd), hB5⟩
      · have E0' : Hid ((Ex.mk 7 n [u, v]).step m x = o2.bind fun q => limE (.two 6 (.two 7 y1 v) q)) := by show _ = _; rw [E0.out]; simp [he]
        clear he
        go_wp2_with fail
        clear g2
        refine (HIH.out v.size (by omega) v _ _ _ (Nat.le_refl _) (hv.below hB) hvt (by omega)).mono ?_
        rintro f w6 ⟨y2, s2, c2, rfl, hy2, hb6⟩
        rw [← Ho2.out] at hy2 ⊢
        have hzQ := Q.lt
        have hk6 := hk2.below hb6
        replace hB := Below.on hB hb6 hB.size
        replace R := R.below hb6
        replace Q := Q.below hb6
        cases o2 with
        | none =>
          have i2 : (none : Option Ex).isSome = false := rfl
          have E1 : Hid ((Ex.mk 7 n [u, v]).step m x = none) := E0'
          clear hy2
          -- a part has no derivative; the world is w6.alloc .int .i64 y2.kind, .int .i64 y2.num, .slice s2 y2.kids.length c2; the raw box holds 1, 0, nil
          have q0 := Q.c0
          have q1 := Q.c1
          have q2 := Q.c2
          have ltQ := Q.lt
          have r0 := R.c0
          have r1 := R.c1
          have r2 := R.c2
          have z0 := R.frozen 0
          have z1 := R.frozen 1
          have z2 := R.frozen 2
          have ltR := R.lt
          go_wp2_with fail
          have T2 := (((R.set 0 (.int .i64 7)).set 1 (.int .i64 0)).set 2 (.slice (some ⟨gr, 0, none⟩) 2 2)).alloc (.cells #[.int .i64 y2.kind, .int .i64 y2.num, .slice s2 y2.kids.length c2] 30)
          have hs5 : Spares (fun y => y = w.heap.size) w6 ((((w6.setCell ⟨w.heap.size, 0, none⟩ (.int .i64 7)).setCell ⟨w.heap.size, 1, none⟩ (.int .i64 0)).setCell ⟨w.heap.size, 2, none⟩ (.slice (some ⟨gr, 0, none⟩) 2 2)).alloc (.cells #[.int .i64 y2.kind, .int .i64 y2.num, .slice s2 y2.kids.length c2] 30)) := (Spares.set (Spares.set (Spares.set (Spares.refl w6)))).trans (Spares.of_below (Below.alloc (Below.refl _ _) (Nat.le_refl _) _))
          generalize (((w6.setCell ⟨w.heap.size, 0, none⟩ (.int .i64 7)).setCell ⟨w.heap.size, 1, none⟩ (.int .i64 0)).setCell ⟨w.heap.size, 2, none⟩ (.slice (some ⟨gr, 0, none⟩) 2 2)).alloc (.cells #[.int .i64 y2.kind, .int .i64 y2.num, .slice s2 y2.kids.length c2] 30) = w5 at T2 hs5 ⊢
          have t0 := T2.c0
          have t1 := T2.c1
          have t2 := T2.c2
          have hzB5 := hB.size
          have hB5 := hB.trans (hs5.below (B := w.heap.size) (by omega) (fun y hy => by omega))
          refine bodyPost_ret (v := .tuple #[.agg #[.int .i64 7, .int .i64 0, .slice (some ⟨gr, 0, none⟩) 2 2], .bool false]) (by simp [results, Tryz.results65, go_sem, t0, t1, t2]) rfl ?_
          rw [E1.out]
          exact ⟨(.two 7 y1 v), _, _, rfl, (fun d hd => by cases hd), hB5⟩
        | some p2 =>
        have i2 : (some p2).isSome = true := rfl
        obtain ⟨rfl, hf2⟩ := hy2 p2 rfl
        have E1 : Hid ((Ex.mk 7 n [u, v]).step m x = limE (.two 6 (.two 7 y1 v) y2)) := E0'
        obtain ⟨hq1, hq2⟩ := step_spec tm am m x _ v y2 (Nat.le_refl _) hvt Ho2.out.symm
        have hdy6 : ExX (fun b => b = q) w6 y2 s2 c2 := RdX.fresh hf2 (fun b h => by omega)
        have q0 := Q.c0
        have q1 := Q.c1
        have q2 := Q.c2
        have ltQ := Q.lt
        clear hy2 hf2
        go_wp2_with fail
        clear q0 q1 q2 ltQ
        have hb7 : Below w6.heap.size w6 (w6.alloc (.cells #[.int .i64 y2.kind, .int .i64 y2.num, .slice s2 y2.kids.length c2] 30)) := by (repeat' first | exact Below.refl _ _ | assumption | apply Below.alloc | apply Below.drew | apply Below.setCell | omega | (simp; done) | (simp; omega))
        generalize w6.alloc (.cells #[.int .i64 y2.kind, .int .i64 y2.num, .slice s2 y2.kids.length c2] 30) = w7 at hb7 ⊢
        have hdx' : ExX (fun b => b = q) w7 (.two 7 y1 v) (some ⟨gr, 0, none⟩) 2 := hk6.below hb7
        have hdy := hdy6.below hb7
        replace hB := Below.on hB hb7 hB.size
        replace R := R.below hb7
        replace Q := Q.below hb7
        clear hdy6 hdx hk2 hk6 hb6 hb7 i1 i2 E0 E0'
        have hdx := hdx'
        clear hdx'
        -- the call of l02Pair and the store to the raw box; world $V; hdx, hdy : what is read
        refine (l02Pair_x (X := fun b => b = q) (fun b h => by have := Q.lt; omega) hdx hdy).mono ?_
        rintro f w8 ⟨gr, rfl, hr, hb8⟩
        replace hB := Below.on hB hb8 hB.size
        replace R := R.below hb8
        replace Q := Q.below hb8
        have q0 := Q.c0
        have q1 := Q.c1
        have q2 := Q.c2
        have z0 := Q.frozen 0
        have z1 := Q.frozen 1
        have z2 := Q.frozen 2
        have ltQ := Q.lt
        go_wp2_with fail
        clear q0 q1 q2 z0 z1 z2
        have hs8 : Spares (fun y => y = q) w8 (((w8.setCell ⟨q, 0, none⟩ (.int .i64 6)).setCell ⟨q, 1, none⟩ (.int .i64 0)).setCell ⟨q, 2, none⟩ (.slice (some ⟨gr, 0, none⟩) 2 2)) := Spares.set (Spares.set (Spares.set (Spares.refl w8)))
        replace Q := ((Q.set 0 (.int .i64 6)).set 1 (.int .i64 0)).set 2 (.slice (some ⟨gr, 0, none⟩) 2 2)
        generalize (((w8.setCell ⟨q, 0, none⟩ (.int .i64 6)).setCell ⟨q, 1, none⟩ (.int .i64 0)).setCell ⟨q, 2, none⟩ (.slice (some ⟨gr, 0, none⟩) 2 2)) = w9 at Q hs8 ⊢
        replace R := R.keep (hs8.block _ R.lt (by omega))
        replace hB := hB.trans (hs8.below (B := w.heap.size) hB.size (fun y hy => by omega))
        have hk2 : RdX (fun b => b = q) w9 (kidsD [(Ex.two 7 y1 v), y2]) (.slice (some ⟨gr, 0, none⟩) 2 2) := RdX.keep hr (KeptX.of_spares hs8 (fun b _ h => h))
        clear hr hb8 ltQ
        have hk := hk2.rd
        -- goal: what stands behind the store to the raw box; world w9; Q : the raw box holds two K X Y; hk : its kids are read; E1 : the result is limE (two K X Y)
        have hat : ExAt w9 q 0 (.two 6 (.two 7 y1 v) y2) := Q.exAt hk
        have hsz9 : (Ex.two 6 (.two 7 y1 v) y2).size ≤ 90000 := by rw [size_two, size_two]; omega
        refine (l01Size_all _ _ _ _ _ (Nat.le_refl _) hat (by omega)).mono ?_
        rintro f w10 ⟨rfl, rfl⟩
        clear hk
        by_cases h8 : (Ex.two 6 (.two 7 y1 v) y2).size ≤ 800
        · have c8 : ¬ (((Ex.two 6 (.two 7 y1 v) y2).size : Int) > 800) := by omega
          have E2 : Hid (limE (.two 6 (.two 7 y1 v) y2) = some (Ex.two 6 (.two 7 y1 v) y2).tidy) := by show _ = _; unfold limE; rw [if_pos h8]
          go_wp2_with fail
          refine (l02Tidy_all tm am ht ha _ _ _ _ _ (Nat.le_refl _) hat (tree_two (Or.inl rfl) (tree_two (Or.inr rfl) hp1 hvt) hq1) hsz9).mono ?_
          rintro f w11 ⟨s11, c11, rfl, hf, hb⟩
          have hzw := R.lt
          replace hB := Below.on hB hb hB.size
          replace R := R.below hb
          clear c8 h8 hsz9
          have r0 := R.c0
          have r1 := R.c1
          have r2 := R.c2
          have z0 := R.frozen 0
          have z1 := R.frozen 1
          have z2 := R.frozen 2
          have ltR := R.lt
          go_wp2_with fail
          have T2 := ((R.set 0 (.int .i64 (Ex.two 6 (.two 7 y1 v) y2).tidy.kind)).set 1 (.int .i64 (Ex.two 6 (.two 7 y1 v) y2).tidy.num)).set 2 (.slice s11 (Ex.two 6 (.two 7 y1 v) y2).tidy.kids.length c11)
          have hs5 : Spares (fun y => y = w.heap.size) w11 (((w11.setCell ⟨w.heap.size, 0, none⟩ (.int .i64 (Ex.two 6 (.two 7 y1 v) y2).tidy.kind)).setCell ⟨w.heap.size, 1, none⟩ (.int .i64 (Ex.two 6 (.two 7 y1 v) y2).tidy.num)).setCell ⟨w.heap.size, 2, none⟩ (.slice s11 (Ex.two 6 (.two 7 y1 v) y2).tidy.kids.length c11)) := Spares.set (Spares.set (Spares.set (Spares.refl w11)))
          generalize (((w11.setCell ⟨w.heap.size, 0, none⟩ (.int .i64 (Ex.two 6 (.two 7 y1 v) y2).tidy.kind)).setCell ⟨w.heap.size, 1, none⟩ (.int .i64 (Ex.two 6 (.two 7 y1 v) y2).tidy.num)).setCell ⟨w.heap.size, 2, none⟩ (.slice s11 (Ex.two 6 (.two 7 y1 v) y2).tidy.kids.length c11)) = w5 at T2 hs5 ⊢
          have t0 := T2.c0
          have t1 := T2.c1
          have t2 := T2.c2
          have hzB5 := hB.size
          have hB5 := hB.trans (hs5.below (B := w.heap.size) (by omega) (fun y hy => by omega))
          refine bodyPost_ret (v := .tuple #[.agg #[.int .i64 (Ex.two 6 (.two 7 y1 v) y2).tidy.kind, .int .i64 (Ex.two 6 (.two 7 y1 v) y2).tidy.num, .slice s11 (Ex.two 6 (.two 7 y1 v) y2).tidy.kids.length c11], .bool true]) (by simp [results, Tryz.results65, go_sem, t0, t1, t2]) rfl ?_
          rw [E1.out, E2.out]
          exact ⟨_, _, _, rfl, fun d hd => by
            obtain rfl := Option.some.inj hd
            exact ⟨rfl, Freshs.from (Freshs.keep hf (fun y _ hy2 => hs5.block y hy2 (by omega))) (Nat.le_of_lt hzw)⟩, hB5⟩
        · have c8 : ((Ex.two 6 (.two 7 y1 v) y2).size : Int) > 800 := by omega
          have E2 : Hid (limE (.two 6 (.two 7 y1 v) y2) = none) := by show _ = _; unfold limE; rw [if_neg h8]
          have q0 := Q.c0
          have q1 := Q.c1
          have q2 := Q.c2
          have ltQ := Q.lt
          clear hat hsz9
          have r0 := R.c0
          have r1 := R.c1
          have r2 := R.c2
          have z0 := R.frozen 0
          have z1 := R.frozen 1
          have z2 := R.frozen 2
          have ltR := R.lt
          go_wp2_with fail
          have T2 := ((R.set 0 (.int .i64 6)).set 1 (.int .i64 0)).set 2 (.slice (some ⟨gr, 0, none⟩) 2 2)
          have hs5 : Spares (fun y => y = w.heap.size) w9 (((w9.setCell ⟨w.heap.size, 0, none⟩ (.int .i64 6)).setCell ⟨w.heap.size, 1, none⟩ (.int .i64 0)).setCell ⟨w.heap.size, 2, none⟩ (.slice (some ⟨gr, 0, none⟩) 2 2)) := Spares.set (Spares.set (Spares.set (Spares.refl w9)))
          generalize (((w9.setCell ⟨w.heap.size, 0, none⟩ (.int .i64 6)).setCell ⟨w.heap.size, 1, none⟩ (.int .i64 0)).setCell ⟨w.heap.size, 2, none⟩ (.slice (some ⟨gr, 0, none⟩) 2 2)) = w5 at T2 hs5 ⊢
          have t0 := T2.c0
          have t1 := T2.c1
          have t2 := T2.c2
          have hzB5 := hB.size
          have hB5 := hB.trans (hs5.below (B := w.heap.size) (by omega) (fun y hy => by omega))
          refine bodyPost_ret (v := .tuple #[.agg #[.int .i64 6, .int .i64 0, .slice (some ⟨gr, 0, none⟩) 2 2], .bool false]) (by simp [results, Tryz.results65, go_sem, t0, t1, t2]) rfl ?_
          rw [E1.out, E2.out]
          exact ⟨.two 6 (.two 7 y1 v) y2, _, _, rfl, (fun d hd => by cases hd), hB5⟩
  have c7 : (k == 7) = false := by simp [h7']
  by_cases h8 : k = 8
  · subst h8
    obtain ⟨u, rfl⟩ := one_kid hk (Or.inr rfl)
    have hsz := Ex.size_eq (.mk 8 n [u])
    simp only [Ex.sizeL, Ex.kids_mk] at hsz
    have hut : u.tree tm am = true := Ex.treeL_mem htl (by simp)
    obtain ⟨o1, Ho1⟩ : ∃ o, Hid (o = u.step m x) := ⟨_, rfl⟩
    have E0 : Hid ((Ex.mk 8 n [u]).step m x = o1.bind fun p => limE (.two 7 p (.mk 8 n [u]))) := by show _ = _; rw [Ho1.out]; exact Ex.step_star
    clear htl hk c4 h4 h6 c6 h7' c7
    obtain ⟨g0, g1, sx, cx, g2, g3⟩ := id hx
    simp only [Ex.kind_mk, Ex.num_mk, Ex.kids_mk] at g0 g1 g2
    obtain ⟨kb, ko, rfl⟩ := kid_some g3 (by simp [Ex.kids])
    have hu : ExAt w kb ko u := by have := kid_exAt g3 (i := 0) (e := u) rfl; simpa using this
    obtain ⟨-, hlen, hcap, -, -⟩ := kid_at g3
    unfold maxLen at hcap
    simp only [List.length_cons, List.length_nil, Nat.zero_add, Nat.reduceAdd] at g2 hlen hcap
    have G0 := Lib.hid g0
    have G1 := Lib.hid g1
    have G2 := Lib.hid g2
    clear g0 g1 g2
    go_enter Tryz.func65, Tryz.ntmps65
    go_wp2_with fail
    have R := Blk.new3 w 30 (.int .i64 0) (.int .i64 0) (.slice none 0 0)
    have hB : Below w.heap.size w (w.alloc (.cells #[.int .i64 0, .int .i64 0, .slice none 0 0] 30)) := by (repeat' first | exact Below.refl _ _ | assumption | apply Below.alloc | apply Below.drew | apply Below.setCell | omega | (simp; done) | (simp; omega))
    have hz0 : (w.alloc (.cells #[.int .i64 0, .int .i64 0, .slice none 0 0] 30)).heap.size = w.heap.size + 1 := by simp
    generalize w.alloc (.cells #[.int .i64 0, .int .i64 0, .slice none 0 0] 30) = w1 at R hB hz0 ⊢
    refine (l02Zero_v).mono ?_
    rintro f w2 ⟨rfl, hb⟩
    replace hB := Below.on hB hb hB.size
    replace R := R.below hb
    clear hb
    have g0 := (hB.cell (p := ⟨b, o, none⟩) hlt).trans G0.out
    have g1 := (hB.cell (p := ⟨b, o + 1, none⟩) hlt).trans G1.out
    have g2 := (hB.cell (p := ⟨b, o + 2, none⟩) hlt).trans G2.out
    have hlt2 : b < w2.heap.size := by have := hB.size; omega
    have hz2 : w.heap.size < w2.heap.size := R.lt
    -- the walk stands at the first call; the raw box q
    go_wp2_with fail
    clear g0 g1 g2
    have Q := Blk.new3 w2 30 (.int .i64 1) (.int .i64 0) (.slice none 0 0)
    have hb3 : Below w2.heap.size w2 (w2.alloc (.cells #[.int .i64 1, .int .i64 0, .slice none 0 0] 30)) := by (repeat' first | exact Below.refl _ _ | assumption | apply Below.alloc | apply Below.drew | apply Below.setCell | omega | (simp; done) | (simp; omega))
    generalize w2.alloc (.cells #[.int .i64 1, .int .i64 0, .slice none 0 0] 30) = w3 at Q hb3 ⊢
    replace hB := Below.on hB hb3 hB.size
    replace R := R.below hb3
    obtain ⟨q, hq⟩ : ∃ q, w2.heap.size = q := ⟨_, rfl⟩
    rw [hq] at Q hz2
    simp only [hq]
    clear hb3 hq hlt2
    have hex : ExX (fun b => b = q) w (.mk 8 n [u]) (some ⟨kb, ko, none⟩) cx := RdX.of_rd g3 (fun b h => by omega)
    -- the first kid's derivative; y1 : what comes back; box a
    refine (HIH.out u.size (by omega) u _ _ _ (Nat.le_refl _) (hu.below hB) hut (by omega)).mono ?_
    rintro f w4 ⟨y1, s1, c1, rfl, hy1, hb4⟩
    rw [← Ho1.out] at hy1 ⊢
    have hz3 := Q.lt
    replace hB := Below.on hB hb4 hB.size
    replace R := R.below hb4
    replace Q := Q.below hb4
    cases o1 with
    | none =>
      have i1 : (none : Option Ex).isSome = false := rfl
      have E1 : Hid ((Ex.mk 8 n [u]).step m x = none) := E0
      clear hy1
      -- a part has no derivative; the world is w4.alloc .int .i64 y1.kind, .int .i64 y1.num, .slice s1 y1.kids.length c1; the raw box holds 1, 0, nil
      have q0 := Q.c0
      have q1 := Q.c1
      have q2 := Q.c2
      have ltQ := Q.lt
      have r0 := R.c0
      have r1 := R.c1
      have r2 := R.c2
      have z0 := R.frozen 0
      have z1 := R.frozen 1
      have z2 := R.frozen 2
      have ltR := R.lt
      go_wp2_with fail
      have T2 := (((R.set 0 (.int .i64 1)).set 1 (.int .i64 0)).set 2 (.slice none 0 0)).alloc (.cells #[.int .i64 y1.kind, .int .i64 y1.num, .slice s1 y1.kids.length c1] 30)
      have hs5 : Spares (fun y => y = w.heap.size) w4 ((((w4.setCell ⟨w.heap.size, 0, none⟩ (.int .i64 1)).setCell ⟨w.heap.size, 1, none⟩ (.int .i64 0)).setCell ⟨w.heap.size, 2, none⟩ (.slice none 0 0)).alloc (.cells #[.int .i64 y1.kind, .int .i64 y1.num, .slice s1 y1.kids.length c1] 30)) := (Spares.set (Spares.set (Spares.set (Spares.refl w4)))).trans (Spares.of_below (Below.alloc (Below.refl _ _) (Nat.le_refl _) _))
      generalize (((w4.setCell ⟨w.heap.size, 0, none⟩ (.int .i64 1)).setCell ⟨w.heap.size, 1, none⟩ (.int .i64 0)).setCell ⟨w.heap.size, 2, none⟩ (.slice none 0 0)).alloc (.cells #[.int .i64 y1.kind, .int .i64 y1.num, .slice s1 y1.kids.length c1] 30) = w5 at T2 hs5 ⊢
      have t0 := T2.c0
      have t1 := T2.c1
      have t2 := T2.c2
      have hzB5 := hB.size
      have hB5 := hB.trans (hs5.below (B := w.heap.size) (by omega) (fun y hy => by omega))
      refine bodyPost_ret (v := .tuple #[.agg #[.int .i64 1, .int .i64 0, .slice none 0 0], .bool false]) (by simp [results, Tryz.results65, go_sem, t0, t1, t2]) rfl ?_
      rw [E1.out]
      exact ⟨.leaf 1, _, _, rfl, (fun d hd => by cases hd), hB5⟩
    | some p =>
    have i1 : (some p).isSome = true := rfl
    obtain ⟨rfl, hf1⟩ := hy1 p rfl
    obtain ⟨hp1, hp2⟩ := step_spec tm am m x _ u y1 (Nat.le_refl _) hut Ho1.out.symm
    have hdx4 : ExX (fun b => b = q) w4 y1 s1 c1 := RdX.fresh hf1 (fun b h => by omega)
    clear hy1 hf1
    have E1 : Hid ((Ex.mk 8 n [u]).step m x = limE (.two 7 y1 (.mk 8 n [u]))) := E0
    -- box a; then the drawn region
    go_wp2_with fail
    have A := Blk.new3 w4 30 (.int .i64 y1.kind) (.int .i64 y1.num) (.slice s1 y1.kids.length c1)
    have hb5 : Below w4.heap.size w4 (w4.alloc (.cells #[.int .i64 y1.kind, .int .i64 y1.num, .slice s1 y1.kids.length c1] 30)) := by (repeat' first | exact Below.refl _ _ | assumption | apply Below.alloc | apply Below.drew | apply Below.setCell | omega | (simp; done) | (simp; omega))
    generalize w4.alloc (.cells #[.int .i64 y1.kind, .int .i64 y1.num, .slice s1 y1.kids.length c1] 30) = w5 at A hb5 ⊢
    have hz4 := hb4.size
    have hz5 := hb5.size
    have hdx := hdx4.below hb5
    replace hB := Below.on hB hb5 hB.size
    replace R := R.below hb5
    replace Q := Q.below hb5
    have hB5 := hB
    have hXW : ∀ b, b = q → b < w5.heap.size := fun b h => by omega
    clear hb4 hb5 hdx4
    have hex5 := hex.below hB5
    have hbw := hB5.size
    obtain ⟨x0, hx0⟩ := mkval ?a2_0
    obtain ⟨x1, hx1⟩ := mkval ?a2_1
    obtain ⟨x2, hx2⟩ := mkval ?a2_2
    obtain ⟨x3, hx3⟩ := mkval ?a2_3
    have hGb : ∀ m b, (fun m b => (m = 0 ∧ b = q)) m b → (w.heap.size + 1) ≤ b ∧ b < (w5).heap.size := by
      intro m b hg
      rcases hg with ⟨rfl, hg⟩
      · subst hg
        have q := Q.lt
        omega
    have hGd : ∀ m m' b, (fun m b => (m = 0 ∧ b = q)) m b → (fun m b => (m = 0 ∧ b = q)) m' b → m = m' := by
      intro m m' b h h'
      rcases h with ⟨rfl, h⟩ <;> rcases h' with ⟨rfl, h'⟩ <;> first
        | rfl
    have hGX : ∀ m b, (fun m b => (m = 0 ∧ b = q)) m b → (fun b => b = q) b := by
      intro m b hg
      rcases hg with ⟨rfl, rfl⟩ <;> simp
    refine region_rs [] [(5, 0)] (fun m b => (m = 0 ∧ b = q)) (w.heap.size + 1) (fun i iv vs wx => match i with
      | 0 => vs 0 = x0
      | 1 => vs 1 = x1
      | 2 => vs 2 = x2
      | 3 => vs 3 = x3
      | 4 => ∃ gr, vs 4 = .agg #[.int .i64 7, .int .i64 0, .slice (some ⟨gr, 0, none⟩) 2 2] ∧ RdO w5 (fun b => b = q) (foot [] [(5, 0)] (fun m b => (m = 0 ∧ b = q)) 6 4 iv) wx (kidsD [y1, .mk 8 n [u]]) (.slice (some ⟨gr, 0, none⟩) 2 2)
      | 5 => Blk wx (q) 30 [aggAt (vs 4) 0, aggAt (vs 4) 1, aggAt (vs 4) 2]
      | _ => True) (fun i iv vs => match i with
      | 0 => vs 0 = x0
      | 1 => vs 1 = x1
      | 2 => vs 2 = x2
      | 3 => vs 3 = x3
      | 4 => ∃ gr, vs 4 = .agg #[.int .i64 7, .int .i64 0, .slice (some ⟨gr, 0, none⟩) 2 2]
      | 5 => True
      | _ => True) (by kernel_rfl) (by kernel_rfl) [0, 1, 2, 3, 4, 5] (by kernel_rfl) ?hbase ?hGb ?hG ?hJ ?hE ?hEE ?hstep ?hQ
    case hbase => first | exact Nat.le_refl _ | omega | (simp; omega)
    case hGb =>
      exact hGb
    case hG =>
      exact hGd
    case hJ =>
      intro i hi iv iv' vs vs' wx wx' ha hv hz hk hj
      simp only [List.mem_cons, List.not_mem_nil, or_false] at hi
      rcases hi with rfl | rfl | rfl | rfl | rfl | rfl
      · exact (hv.out 0 (mem_of (by kernel_rfl))).symm.trans hj
      · exact (hv.out 1 (mem_of (by kernel_rfl))).symm.trans hj
      · exact (hv.out 2 (mem_of (by kernel_rfl))).symm.trans hj
      · exact (hv.out 3 (mem_of (by kernel_rfl))).symm.trans hj
      · have e4 := hv.out 4 (mem_of (by kernel_rfl))
        obtain ⟨gr, q1, q2⟩ := hj
        exact ⟨gr, e4 ▸ q1, q2.keep hz (fun b hb h1 => hk.out b hb h1) (fun b h1 => foot_agree (l := ancs _ 6 4) (by exact of_decide_eq_true (by kernel_rfl)) ha.out h1)⟩
      · have e4 := hv.out 4 (mem_of (by kernel_rfl))
        have hj' : Blk wx (q) 30 [aggAt (vs 4) 0, aggAt (vs 4) 1, aggAt (vs 4) 2] := hj
        show Blk wx' (q) 30 [aggAt (vs' 4) 0, aggAt (vs' 4) 1, aggAt (vs' 4) 2]
        rw [← e4]
        exact hj'.keep (hk.out _ hj'.lt (foot_given 0 (by decide) ⟨rfl, rfl⟩))
    case hE =>
      intro i hi iv vs wx hj
      simp only [List.mem_cons, List.not_mem_nil, or_false] at hi
      rcases hi with rfl | rfl | rfl | rfl | rfl | rfl
      · exact hj
      · exact hj
      · exact hj
      · exact hj
      · obtain ⟨gr, q1, -⟩ := hj
        exact ⟨gr, q1⟩
      · trivial
    case hEE =>
      intro i hi iv iv' vs vs' ha hv hj
      simp only [List.mem_cons, List.not_mem_nil, or_false] at hi
      rcases hi with rfl | rfl | rfl | rfl | rfl | rfl
      · exact (hv.out 0 (mem_of (by kernel_rfl))).symm.trans hj
      · exact (hv.out 1 (mem_of (by kernel_rfl))).symm.trans hj
      · exact (hv.out 2 (mem_of (by kernel_rfl))).symm.trans hj
      · exact (hv.out 3 (mem_of (by kernel_rfl))).symm.trans hj
      · have e4 := hv.out 4 (mem_of (by kernel_rfl))
        have hj' : ∃ gr, vs 4 = .agg #[.int .i64 7, .int .i64 0, .slice (some ⟨gr, 0, none⟩) 2 2] := hj
        show ∃ gr, vs' 4 = .agg #[.int .i64 7, .int .i64 0, .slice (some ⟨gr, 0, none⟩) 2 2]
        rw [← e4]
        exact hj'
      · trivial
    case hstep =>
      intro i hi opr ho iv vs w1 hB hS hSo hd he hbd hsep hun K hK
      simp only [List.mem_cons, List.not_mem_nil, or_false] at hi
      have hzB := hB.size
      have hBw : Below w.heap.size w w1 := hB5.trans (hB.mono (by omega))
      have g0 := (hBw.cell (p := ⟨b, o, none⟩) hlt).trans G0.out
      have g1 := (hBw.cell (p := ⟨b, o + 1, none⟩) hlt).trans G1.out
      have g2 := (hBw.cell (p := ⟨b, o + 2, none⟩) hlt).trans G2.out
      have hlt1 : b < w1.heap.size := by have := hBw.size; omega
      have A1 := A.keep (hSo.out.block _ A.lt (fun ⟨_, _, h⟩ => by omega))
      have a0 := A1.c0
      have a1 := A1.c1
      have a2 := A1.c2
      have ltA := A1.lt
      generalize hA : putFrom _ 0 vs _ = A at hK ⊢
      simp only [putFrom, puts] at hA
      rcases hi with rfl | rfl | rfl | rfl | rfl | rfl
      all_goals
        simp at ho
        subst ho
        subst hA
      · go_wp2_with fail
        refine Onward.mk (hK ?val2_0 _ _ (fun h => by cases h) ?eqA (Spares.refl _) (fun iv' _ _ => ?ja))
        case eqA => first | rfl | (simp only [puts]; rfl)
        case ja => exact hx0.out.symm
      · go_wp2_with fail
        refine Onward.mk (hK ?val2_1 _ _ (fun h => by cases h) ?eqA (Spares.refl _) (fun iv' _ _ => ?ja))
        case eqA => first | rfl | (simp only [puts]; rfl)
        case ja => exact hx1.out.symm
      · have h1 := (hd.out 1 (mem_of (by kernel_rfl)) (by decide) (by kernel_rfl)).trans hx1.out
        go_wp2_with fail
        refine Onward.mk (hK ?val2_2 _ _ (fun h => by cases h) ?eqA (Spares.refl _) (fun iv' _ _ => ?ja))
        case eqA => first | rfl | (simp only [puts, h1]; rfl)
        case ja => exact hx2.out.symm
      · have h2 := (hd.out 2 (mem_of (by kernel_rfl)) (by decide) (by kernel_rfl)).trans hx2.out
        go_wp2_with fail
        refine Onward.mk (hK ?val2_3 _ _ (fun h => by cases h) ?eqA (Spares.refl _) (fun iv' _ _ => ?ja))
        case eqA => first | rfl | (simp only [puts, h2]; rfl)
        case ja => exact hx3.out.symm
      · have h0 := (hd.out 0 (mem_of (by kernel_rfl)) (by decide) (by kernel_rfl)).trans hx0.out
        have h3 := (hd.out 3 (mem_of (by kernel_rfl)) (by decide) (by kernel_rfl)).trans hx3.out
        go_wp2_with fail
        have hO : KeptX (fun b => b = q) w5 w1 := KeptX.of_spares hSo.out (fun b _ ⟨m, hg⟩ => hGX m b hg)
        obtain ⟨XQ, hXQ⟩ : ∃ XQ, XQ = OutX w5 (fun b => b = q) (fun b => False) w1 := ⟨_, rfl⟩
        have hXl : ∀ b, XQ b → b < w1.heap.size := by rw [hXQ]; exact OutX.lt
        have hOld : ∀ (d : D) (v : Value), RdX (fun b => b = q) w5 d v → RdX XQ w1 d v := by rw [hXQ]; exact fun d v h => h.toOut hO
        refine (l02Pair_x (X := XQ) hXl (hOld _ _ hdx) (hOld _ _ hex5)).mono ?_
        rintro e w2 ⟨gr, rfl, hr, hb⟩
        go_wp2_with fail
        rw [hXQ] at hr
        exact Onward.mk (hK (.agg #[.int .i64 7, .int .i64 0, .slice (some ⟨gr, 0, none⟩) 2 2]) _ _ (fun h => by cases h) (by first | rfl | (simp only [puts, h0, h3])) (Spares.of_below hb) (fun iv' ag hi => ⟨gr, rfl, RdO.ofX hr hb hO (fun b h => by exact h.elim) (fun b h1 h2 => foot_new hi h1 h2)⟩))
      · obtain ⟨gr, h4, f4⟩ := hd.out 4 (mem_of (by kernel_rfl)) (by decide) (by kernel_rfl)
        have Q1 := Q.keep (hS.out 0 _ (by kernel_rfl) ⟨rfl, rfl⟩)
        have qc0 := Q1.c0
        have qz0 := Q1.frozen 0
        have qc1 := Q1.c1
        have qz1 := Q1.frozen 1
        have qc2 := Q1.c2
        have qz2 := Q1.frozen 2
        have qlt := Q1.lt
        go_wp2_with fail
        exact Onward.mk (hK undef _ _ (fun _ => rfl) (by simp only [puts, h4]) ((spares_sets (b0 := q) (by repeat (first | exact Spares.refl _ | apply Spares.set))).more (fun b h => Or.inl ⟨0, by decide, ⟨rfl, h⟩⟩)) (fun iv' ag hi => by
          show Blk _ (q) 30 [aggAt (vs 4) 0, aggAt (vs 4) 1, aggAt (vs 4) 2]
          rw [h4]
          exact (((Q1.set 0 _).set 1 _).set 2 _)))
    case hQ =>
      intro iv vs wx hB hSp hd he hbd hsep
      have hzB := hB.size
      have h0 := (hd.out 0 (mem_of (by kernel_rfl)) (not_eaten (by kernel_rfl))).trans hx0.out
      have h1 := (hd.out 1 (mem_of (by kernel_rfl)) (not_eaten (by kernel_rfl))).trans hx1.out
      have h2 := (hd.out 2 (mem_of (by kernel_rfl)) (not_eaten (by kernel_rfl))).trans hx2.out
      have h3 := (hd.out 3 (mem_of (by kernel_rfl)) (not_eaten (by kernel_rfl))).trans hx3.out
      obtain ⟨gr, h4, f4⟩ := hd.out 4 (mem_of (by kernel_rfl)) (not_eaten (by kernel_rfl))
      have f5 : Blk _ (q) 30 [aggAt (vs 4) 0, aggAt (vs 4) 1, aggAt (vs 4) 2] := hd.out 5 (mem_of (by kernel_rfl)) (not_eaten (by kernel_rfl))
      simp only [putFrom, puts]
      have hOq : KeptX (fun b => b = q) w5 wx := KeptX.of_spares hSp.out (fun b _ ⟨m, hg⟩ => hGX m b hg)
      have r4 : RdX (fun b => b = q) wx (kidsD [y1, .mk 8 n [u]]) (.slice (some ⟨gr, 0, none⟩) 2 2) := f4.done hOq (fun b hf hx => by have q := foot_no (l := [0, 1, 2, 3, 4, 5]) (by kernel_rfl) (by kernel_rfl) hbd.out hf; have q' := hXW b hx; omega)
      clear f4
      -- behind the region: 4 the call
      rw [h4] at f5
      simp only [aggAt] at f5
      replace R := R.keep (hSp.out.block _ R.lt (fun ⟨_, _, h⟩ => by omega))
      replace hB : Below w.heap.size w wx := hB5.trans (hB.mono (by omega))
      replace Q : Blk wx q 30 [.int .i64 7, .int .i64 0, .slice (some ⟨gr, 0, none⟩) 2 2] := f5
      have hk2 := r4
      clear hd he hbd hsep h0 h1 h2 h3 h4 f5 hSp
      obtain ⟨w9, rfl⟩ : ∃ v, v = wx := ⟨_, rfl⟩
      go_wp2_with fail
      have hk := hk2.rd
      -- goal: what stands behind the store to the raw box; world w9; Q : the raw box holds two K X Y; hk : its kids are read; E1 : the result is limE (two K X Y)
      have hat : ExAt w9 q 0 (.two 7 y1 (.mk 8 n [u])) := Q.exAt hk
      have hsz9 : (Ex.two 7 y1 (.mk 8 n [u])).size ≤ 90000 := by rw [size_two]; omega
      refine (l01Size_all _ _ _ _ _ (Nat.le_refl _) hat (by omega)).mono ?_
      rintro f w10 ⟨rfl, rfl⟩
      clear hk
      by_cases h8 : (Ex.two 7 y1 (.mk 8 n [u])).size ≤ 800
      · have c8 : ¬ (((Ex.two 7 y1 (.mk 8 n [u])).size : Int) > 800) := by omega
        have E2 : Hid (limE (.two 7 y1 (.mk 8 n [u])) = some (Ex.two 7 y1 (.mk 8 n [u])).tidy) := by show _ = _; unfold limE; rw [if_pos h8]
        go_wp2_with fail
        refine (l02Tidy_all tm am ht ha _ _ _ _ _ (Nat.le_refl _) hat (tree_two (Or.inr rfl) hp1 hxt) hsz9).mono ?_
        rintro f w11 ⟨s11, c11, rfl, hf, hb⟩
        have hzw := R.lt
        replace hB := Below.on hB hb hB.size
        replace R := R.below hb
        clear c8 h8 hsz9
        have r0 := R.c0
        have r1 := R.c1
        have r2 := R.c2
        have z0 := R.frozen 0
        have z1 := R.frozen 1
        have z2 := R.frozen 2
        have ltR := R.lt
        go_wp2_with fail
        have T2 := ((R.set 0 (.int .i64 (Ex.two 7 y1 (.mk 8 n [u])).tidy.kind)).set 1 (.int .i64 (Ex.two 7 y1 (.mk 8 n [u])).tidy.num)).set 2 (.slice s11 (Ex.two 7 y1 (.mk 8 n [u])).tidy.kids.length c11)
        have hs5 : Spares (fun y => y = w.heap.size) w11 (((w11.setCell ⟨w.heap.size, 0, none⟩ (.int .i64 (Ex.two 7 y1 (.mk 8 n [u])).tidy.kind)).setCell ⟨w.heap.size, 1, none⟩ (.int .i64 (Ex.two 7 y1 (.mk 8 n [u])).tidy.num)).setCell ⟨w.heap.size, 2, none⟩ (.slice s11 (Ex.two 7 y1 (.mk 8 n [u])).tidy.kids.length c11)) := Spares.set (Spares.set (Spares.set (Spares.refl w11)))
        generalize (((w11.setCell ⟨w.heap.size, 0, none⟩ (.int .i64 (Ex.two 7 y1 (.mk 8 n [u])).tidy.kind)).setCell ⟨w.heap.size, 1, none⟩ (.int .i64 (Ex.two 7 y1 (.mk 8 n [u])).tidy.num)).setCell ⟨w.heap.size, 2, none⟩ (.slice s11 (Ex.two 7 y1 (.mk 8 n [u])).tidy.kids.length c11)) = w5 at T2 hs5 ⊢
        have t0 := T2.c0
        have t1 := T2.c1
        have t2 := T2.c2
        have hzB5 := hB.size
        have hB5 := hB.trans (hs5.below (B := w.heap.size) (by omega) (fun y hy => by omega))
        refine bodyPost_ret (v := .tuple #[.agg #[.int .i64 (Ex.two 7 y1 (.mk 8 n [u])).tidy.kind, .int .i64 (Ex.two 7 y1 (.mk 8 n [u])).tidy.num, .slice s11 (Ex.two 7 y1 (.mk 8 n [u])).tidy.kids.length c11], .bool true]) (by simp [results, Tryz.results65, go_sem, t0, t1, t2]) rfl ?_
        rw [E1.out, E2.out]
        exact ⟨_, _, _, rfl, fun d hd => by
          obtain rfl := Option.some.inj hd
          exact ⟨rfl, Freshs.from (Freshs.keep hf (fun y _ hy2 => hs5.block y hy2 (by omega))) (Nat.le_of_lt hzw)⟩, hB5⟩
      · have c8 : ((Ex.two 7 y1 (.mk 8 n [u])).size : Int) > 800 := by omega
        have E2 : Hid (limE (.two 7 y1 (.mk 8 n [u])) = none) := by show _ = _; unfold limE; rw [if_neg h8]
        have q0 := Q.c0
        have q1 := Q.c1
        have q2 := Q.c2
        have ltQ := Q.lt
        clear hat hsz9
        have r0 := R.c0
        have r1 := R.c1
        have r2 := R.c2
        have z0 := R.frozen 0
        have z1 := R.frozen 1
        have z2 := R.frozen 2
        have ltR := R.lt
        go_wp2_with fail
        have T2 := ((R.set 0 (.int .i64 7)).set 1 (.int .i64 0)).set 2 (.slice (some ⟨gr, 0, none⟩) 2 2)
        have hs5 : Spares (fun y => y = w.heap.size) w9 (((w9.setCell ⟨w.heap.size, 0, none⟩ (.int .i64 7)).setCell ⟨w.heap.size, 1, none⟩ (.int .i64 0)).setCell ⟨w.heap.size, 2, none⟩ (.slice (some ⟨gr, 0, none⟩) 2 2)) := Spares.set (Spares.set (Spares.set (Spares.refl w9)))
        generalize (((w9.setCell ⟨w.heap.size, 0, none⟩ (.int .i64 7)).setCell ⟨w.heap.size, 1, none⟩ (.int .i64 0)).setCell ⟨w.heap.size, 2, none⟩ (.slice (some ⟨gr, 0, none⟩) 2 2)) = w5 at T2 hs5 ⊢
        have t0 := T2.c0
        have t1 := T2.c1
        have t2 := T2.c2
        have hzB5 := hB.size
        have hB5 := hB.trans (hs5.below (B := w.heap.size) (by omega) (fun y hy => by omega))
        refine bodyPost_ret (v := .tuple #[.agg #[.int .i64 7, .int .i64 0, .slice (some ⟨gr, 0, none⟩) 2 2], .bool false]) (by simp [results, Tryz.results65, go_sem, t0, t1, t2]) rfl ?_
        rw [E1.out, E2.out]
        exact ⟨.two 7 y1 (.mk 8 n [u]), _, _, rfl, (fun d hd => by cases hd), hB5⟩
  have c8 : (k == 8) = false := by simp [h8]
  have E1 : Hid ((Ex.mk k n ks).step m x = some (.leaf 1)) := by show _ = _; exact Ex.step_else h4 h6 h7' h8
  clear htl hk h4 h6 h7' h8
  -- the raw value is returned at once
  obtain ⟨g0, g1, sx, cx, g2, g3⟩ := id hx
  simp only [Ex.kind_mk, Ex.num_mk, Ex.kids_mk] at g0 g1 g2
  skip
  have G0 := Lib.hid g0
  have G1 := Lib.hid g1
  have G2 := Lib.hid g2
  clear g0 g1 g2
  go_enter Tryz.func65, Tryz.ntmps65
  go_wp2_with fail
  have R := Blk.new3 w 30 (.int .i64 0) (.int .i64 0) (.slice none 0 0)
  have hB : Below w.heap.size w (w.alloc (.cells #[.int .i64 0, .int .i64 0, .slice none 0 0] 30)) := by (repeat' first | exact Below.refl _ _ | assumption | apply Below.alloc | apply Below.drew | apply Below.setCell | omega | (simp; done) | (simp; omega))
  have hz0 : (w.alloc (.cells #[.int .i64 0, .int .i64 0, .slice none 0 0] 30)).heap.size = w.heap.size + 1 := by simp
  generalize w.alloc (.cells #[.int .i64 0, .int .i64 0, .slice none 0 0] 30) = w1 at R hB hz0 ⊢
  refine (l02Zero_v).mono ?_
  rintro f w2 ⟨rfl, hb⟩
  replace hB := Below.on hB hb hB.size
  replace R := R.below hb
  clear hb
  have g0 := (hB.cell (p := ⟨b, o, none⟩) hlt).trans G0.out
  have g1 := (hB.cell (p := ⟨b, o + 1, none⟩) hlt).trans G1.out
  have g2 := (hB.cell (p := ⟨b, o + 2, none⟩) hlt).trans G2.out
  have hlt2 : b < w2.heap.size := by have := hB.size; omega
  have hz2 : w.heap.size < w2.heap.size := R.lt
  have r0 := R.c0
  have r1 := R.c1
  have r2 := R.c2
  have z0 := R.frozen 0
  have z1 := R.frozen 1
  have z2 := R.frozen 2
  have ltR := R.lt
  go_wp2_with fail
  have T2 := (((R.set 0 (.int .i64 1)).set 1 (.int .i64 0)).set 2 (.slice none 0 0)).alloc (.cells #[.int .i64 1, .int .i64 0, .slice none 0 0] 30)
  have hs5 : Spares (fun y => y = w.heap.size) w2 ((((w2.setCell ⟨w.heap.size, 0, none⟩ (.int .i64 1)).setCell ⟨w.heap.size, 1, none⟩ (.int .i64 0)).setCell ⟨w.heap.size, 2, none⟩ (.slice none 0 0)).alloc (.cells #[.int .i64 1, .int .i64 0, .slice none 0 0] 30)) := (Spares.set (Spares.set (Spares.set (Spares.refl w2)))).trans (Spares.of_below (Below.alloc (Below.refl _ _) (Nat.le_refl _) _))
  generalize (((w2.setCell ⟨w.heap.size, 0, none⟩ (.int .i64 1)).setCell ⟨w.heap.size, 1, none⟩ (.int .i64 0)).setCell ⟨w.heap.size, 2, none⟩ (.slice none 0 0)).alloc (.cells #[.int .i64 1, .int .i64 0, .slice none 0 0] 30) = w5 at T2 hs5 ⊢
  have t0 := T2.c0
  have t1 := T2.c1
  have t2 := T2.c2
  have hzB5 := hB.size
  have hB5 := hB.trans (hs5.below (B := w.heap.size) (by omega) (fun y hy => by omega))
  refine bodyPost_ret (v := .tuple #[.agg #[.int .i64 1, .int .i64 0, .slice none 0 0], .bool true]) (by simp [results, Tryz.results65, go_sem, t0, t1, t2]) rfl ?_
  rw [E1.out]
  exact ⟨.leaf 1, none, 0, rfl, fun d hd => by obtain rfl := Option.some.inj hd; exact ⟨rfl, nil_freshs⟩, hB5⟩
end Go.Proofs.YtjlmdhoajfdkbaaGreatDoor

namespace Go.Proofs.YtjlmdhoajfdkbaaGreatDoor
set_option linter.unusedVariables false
set_option linter.unusedSimpArgs false
open Go.ChangeShapes Go.WideShapes Go.ChangeAt Go.RowKit Go.Deep Go.Sort
theorem okB_bd3 {t a : Int} {e : Ex} (h : okB t a e = true) : t - 1 ≤ 2 ∧ a - 1 ≤ 8 ∧ e.size ≤ 200 ∧ e.tree (t - 1) (a - 1) = true := by
  have h1 := sigB_bd (okB_sig h)
  obtain ⟨-, -, h3⟩ := okB_bd h
  exact ⟨by omega, by omega, h3, okB_tree h⟩
theorem derived_some {tm am m x : Int} (ht2 : tm ≤ 2) (ha : am ≤ 8) (h0 : 0 ≤ m) (h7 : m ≤ 7) {X : Nat → Prop} {e d : Ex} {s : Option Addr} {c : Nat} {w : World} (hX : ∀ b, X b → b < w.heap.size) (hx : ExX X w e s c) (htr : e.tree tm am = true) (hs : e.size ≤ 10000) (ho : Hid (e.step m x = some d)) :
    Calls Tryz.prog 70 #[.agg #[.int .i64 e.kind, .int .i64 e.num, .slice s e.kids.length c], .int .i64 m, .int .i64 x] w fun f w' => ∃ s' c', f = .returned (.tuple #[.agg #[.int .i64 d.kind, .int .i64 d.num, .slice s' d.kids.length c'], .bool true]) ∧ ExX X w' d s' c' ∧ Below w.heap.size w w' := by
  have := derived_all tm am m x ht2 ha h0 h7 _ e X s c w (Nat.le_refl _) hX hx htr hs
  rw [ho.out] at this
  exact this
theorem derived_none {tm am m x : Int} (ht2 : tm ≤ 2) (ha : am ≤ 8) (h0 : 0 ≤ m) (h7 : m ≤ 7) {X : Nat → Prop} {e : Ex} {s : Option Addr} {c : Nat} {w : World} (hX : ∀ b, X b → b < w.heap.size) (hx : ExX X w e s c) (htr : e.tree tm am = true) (hs : e.size ≤ 10000) (ho : Hid (e.step m x = none)) :
    Calls Tryz.prog 70 #[.agg #[.int .i64 e.kind, .int .i64 e.num, .slice s e.kids.length c], .int .i64 m, .int .i64 x] w fun f w' => ∃ s' c', f = .returned (.tuple #[.agg #[.int .i64 0, .int .i64 0, .slice s' 0 c'], .bool false]) ∧ Below w.heap.size w w' := by
  have := derived_all tm am m x ht2 ha h0 h7 _ e X s c w (Nat.le_refl _) hX hx htr hs
  rw [ho.out] at this
  exact this.mono fun _ _ ⟨s', c', h1, _, h3⟩ => ⟨s', c', h1, h3⟩
theorem step_some' {tm am m x : Int} (ht2 : tm ≤ 2) (ha : am ≤ 8) (h0 : 0 ≤ m) (h7 : m ≤ 7) {e d : Ex} {b o : Nat} {w : World} (hx : ExAt w b o e) (htr : e.tree tm am = true) (hs : e.size ≤ 10000) (ho : Hid (e.step m x = some d)) :
    Calls Tryz.prog 65 #[.pointer (some ⟨b, o, none⟩), .int .i64 m, .int .i64 x] w fun f w' => ∃ s' c', f = .returned (.tuple #[.agg #[.int .i64 d.kind, .int .i64 d.num, .slice s' d.kids.length c'], .bool true]) ∧ Freshs w w' [kidsD d.kids] [.slice s' d.kids.length c'] ∧ Below w.heap.size w w' := by
  have := l02Step_all tm am m x ht2 ha h0 h7 _ e b o w (Nat.le_refl _) hx htr hs
  rw [ho.out] at this
  exact this.mono fun _ _ ⟨y, s', c', h1, h2, h3⟩ => by obtain ⟨rfl, h4⟩ := h2 d rfl; exact ⟨s', c', h1, h4, h3⟩
theorem step_none' {tm am m x : Int} (ht2 : tm ≤ 2) (ha : am ≤ 8) (h0 : 0 ≤ m) (h7 : m ≤ 7) {e : Ex} {b o : Nat} {w : World} (hx : ExAt w b o e) (htr : e.tree tm am = true) (hs : e.size ≤ 10000) (ho : Hid (e.step m x = none)) :
    Calls Tryz.prog 65 #[.pointer (some ⟨b, o, none⟩), .int .i64 m, .int .i64 x] w fun f w' => ∃ (y : Ex) (s' : Option Addr) (c' : Nat), f = .returned (.tuple #[.agg #[.int .i64 y.kind, .int .i64 y.num, .slice s' y.kids.length c'], .bool false]) ∧ Below w.heap.size w w' := by
  have := l02Step_all tm am m x ht2 ha h0 h7 _ e b o w (Nat.le_refl _) hx htr hs
  rw [ho.out] at this
  exact this.mono fun _ _ ⟨y, s', c', h1, h2, h3⟩ => ⟨y, s', c', h1, h3⟩
theorem l02Act_i {t a x : Int} {w : World} (ha : 0 ≤ a ∧ a ≤ 4) : Calls Tryz.prog 64 #[.agg #[.int .i64 t, .int .i64 a], .int .i64 x] w fun e w' => e = .returned (.bool (inB x 0 (a - 1))) ∧ Below w.heap.size w w' := by
  obtain ⟨ha0, ha1⟩ := ha
  go_enter Tryz.func64, Tryz.ntmps64
  go_wp2_with fail
  have L := Blk.new2 w 33 (.int .i64 t) (.int .i64 a)
  have hB : Below w.heap.size w (w.alloc (.cells #[.int .i64 t, .int .i64 a] 33)) := by (repeat' first | exact Below.refl _ _ | assumption | apply Below.alloc | apply Below.drew | apply Below.setCell | omega | (simp; done) | (simp; omega))
  have hB0 := hB
  generalize (w.alloc (.cells #[.int .i64 t, .int .i64 a] 33)) = v0 at L hB hB0 ⊢
  have l0 := L.c0
  have l1 := L.c1
  have ltL := L.lt
  go_wp2_with fail
  refine (in_any _ _ _ _).mono ?_
  rintro x w1 ⟨rfl, rfl⟩
  clear l0 l1 ltL
  have l0 := L.c0
  have l1 := L.c1
  have ltL := L.lt
  go_wp2_with fail
  go_ret
  exact ⟨rfl, hB⟩
noncomputable def derE (t a m x : Int) (e : Ex) : Ex := if (okB t a e && (atomB t m && inB x 0 (a - 1))) = true then optE (e.step m x) else .mk 0 0 []
noncomputable def derC (t a m x : Int) (e : Ex) : Int := if okB t a e = true then (if atomB t m = true then (if inB x 0 (a - 1) = true then (if (e.step m x).isSome then 0 else 3) else 2) else 2) else 1
theorem derE_size (t a m x k n : Int) (ks : List Ex) : Ex.sizeL (derE t a m x (.mk k n ks)).kids ≤ 800 := by
  unfold derE
  split
  · rename_i h
    rw [Bool.and_eq_true] at h
    cases ho : Ex.step m x (.mk k n ks) with
    | none => simp [optE, Ex.kids, Ex.sizeL]
    | some d =>
      have h2 := (step_spec _ _ m x _ (.mk k n ks) d (Nat.le_refl _) (okB_tree h.1) ho).2
      have h3 := Ex.size_eq d
      show Ex.sizeL d.kids ≤ 800
      omega
  · simp [Ex.kids, Ex.sizeL]
set_option maxHeartbeats 4000000 in
theorem implDerive_i {t a k n m x : Int} {ks : List Ex} {s : Option Addr} {c : Nat} {w : World} (hr : Rd w (kidsD ks) (.slice s ks.length c)) (h1 : Ex.sizeL ks ≤ 1048576) :
    Calls Tryz.prog 18 #[.agg #[.int .i64 t, .int .i64 a], .agg #[.int .i64 k, .int .i64 n, .slice s ks.length c], .int .i64 m, .int .i64 x] w fun e w' => ∃ s' c', e = .returned (.tuple #[.agg #[.int .i64 (derE t a m x (.mk k n ks)).kind, .int .i64 (derE t a m x (.mk k n ks)).num, .slice s' (derE t a m x (.mk k n ks)).kids.length c'], .int .i64 (derC t a m x (.mk k n ks))]) ∧
      Freshs w w' [kidsD (derE t a m x (.mk k n ks)).kids] [.slice s' (derE t a m x (.mk k n ks)).kids.length c'] ∧ Below w.heap.size w w' := by
  have Hsz : Hid (Ex.size (.mk k n ks) ≤ 1073741824) := by show _ ≤ _; rw [Ex.size_eq]; simp only [Ex.kids]; omega
  cases ho : Ex.step m x (.mk k n ks) with
  | none =>
    have Ho := Lib.hid ho
    clear ho
    go_enter Tryz.func18, Tryz.ntmps18
    go_wp2_with fail
    have L := ((Blk.new2 w 33 (.int .i64 t) (.int .i64 a)).alloc (.cells #[.int .i64 k, .int .i64 n, .slice s ks.length c] 30)).alloc (.cells #[.int .i64 0, .int .i64 0, .slice none 0 0] 30)
    have M := (Blk.new3 (w.alloc (.cells #[.int .i64 t, .int .i64 a] 33)) 30 (.int .i64 k) (.int .i64 n) (.slice s ks.length c)).alloc (.cells #[.int .i64 0, .int .i64 0, .slice none 0 0] 30)
    simp at M
    have R := Blk.new3 ((w.alloc (.cells #[.int .i64 t, .int .i64 a] 33)).alloc (.cells #[.int .i64 k, .int .i64 n, .slice s ks.length c] 30)) 30 (.int .i64 0) (.int .i64 0) (.slice none 0 0)
    simp at R
    have hB : Below w.heap.size w (((w.alloc (.cells #[.int .i64 t, .int .i64 a] 33)).alloc (.cells #[.int .i64 k, .int .i64 n, .slice s ks.length c] 30)).alloc (.cells #[.int .i64 0, .int .i64 0, .slice none 0 0] 30)) := by (repeat' first | exact Below.refl _ _ | assumption | apply Below.alloc | apply Below.drew | apply Below.setCell | omega | (simp; done) | (simp; omega))
    have hB0 := hB
    generalize (((w.alloc (.cells #[.int .i64 t, .int .i64 a] 33)).alloc (.cells #[.int .i64 k, .int .i64 n, .slice s ks.length c] 30)).alloc (.cells #[.int .i64 0, .int .i64 0, .slice none 0 0] 30)) = v0 at L M R hB hB0 ⊢
    have l0 := L.c0
    have l1 := L.c1
    have m0 := M.c0
    have m1 := M.c1
    have m2 := M.c2
    have r0 := R.c0
    have r1 := R.c1
    have r2 := R.c2
    have ltL := L.lt
    have ltM := M.lt
    have ltR := R.lt
    have zz0 := R.frozen 0
    have zz1 := R.frozen 1
    have zz2 := R.frozen 2
    go_wp2_with fail
    refine (implValidExpr_i (hr.below hB)).mono ?_
    rintro x w1 ⟨rfl, hb⟩
    clear l0 l1 m0 m1 m2 r0 r1 r2 ltL ltM ltR zz0 zz1 zz2
    replace hB := Below.on hB hb hB.size
    replace L := L.below hb
    replace M := M.below hb
    replace R := R.below hb
    clear hb
    have szW1 := hB.size
    have rlt1 := R.lt
    cases hs1 : okB t a (.mk k n ks)
    · have l0 := L.c0
      have l1 := L.c1
      have ltL := L.lt
      have m0 := M.c0
      have m1 := M.c1
      have m2 := M.c2
      have ltM := M.lt
      have r0 := R.c0
      have zz0 := R.frozen 0
      have r1 := R.c1
      have zz1 := R.frozen 1
      have r2 := R.c2
      have zz2 := R.frozen 2
      have ltR := R.lt
      go_wp2_with fail
      have R' := (((R.set 0 (.int .i64 0)).set 1 (.int .i64 0)).set 2 (.slice none 0 0))
      have c0 := R'.c0
      have c1 := R'.c1
      have c2 := R'.c2
      refine bodyPost_ret (v := .tuple #[.agg #[.int .i64 0, .int .i64 0, .slice none 0 0], .int .i64 1]) (by simp [results, Tryz.results18, go_sem, c0, c1, c2]) rfl ?_
      have e1 : derE t a m x (.mk k n ks) = .mk 0 0 [] := by simp [derE, hs1]
      have e2 : derC t a m x (.mk k n ks) = 1 := by simp [derC, hs1]
      rw [e1, e2]
      exact ⟨none, 0, rfl, fresh_nil1 _ _, by (repeat' first | exact Below.refl _ _ | assumption | apply Below.alloc | apply Below.drew | apply Below.setCell | omega | (simp; done) | (simp; omega))⟩
    have Hs1 := Lib.hid hs1
    clear hs1
    have l0 := L.c0
    have l1 := L.c1
    have m0 := M.c0
    have m1 := M.c1
    have m2 := M.c2
    have r0 := R.c0
    have r1 := R.c1
    have r2 := R.c2
    have ltL := L.lt
    have ltM := M.lt
    have ltR := R.lt
    have zz0 := R.frozen 0
    have zz1 := R.frozen 1
    have zz2 := R.frozen 2
    go_wp2_with fail
    obtain ⟨-, -, ha0, ha4⟩ := sigB_bd (okB_sig Hs1.out)
    refine (isAtom_i (okB_sig Hs1.out)).mono ?_
    rintro x w2 ⟨rfl, hb⟩
    clear l0 l1 m0 m1 m2 r0 r1 r2 ltL ltM ltR zz0 zz1 zz2
    replace hB := Below.on hB hb hB.size
    replace L := L.below hb
    replace M := M.below hb
    replace R := R.below hb
    clear hb
    have szW2 := hB.size
    have rlt2 := R.lt
    cases hs2 : atomB t m
    · have l0 := L.c0
      have l1 := L.c1
      have ltL := L.lt
      have m0 := M.c0
      have m1 := M.c1
      have m2 := M.c2
      have ltM := M.lt
      have r0 := R.c0
      have zz0 := R.frozen 0
      have r1 := R.c1
      have zz1 := R.frozen 1
      have r2 := R.c2
      have zz2 := R.frozen 2
      have ltR := R.lt
      go_wp2_with fail
      have R' := (((R.set 0 (.int .i64 0)).set 1 (.int .i64 0)).set 2 (.slice none 0 0))
      have c0 := R'.c0
      have c1 := R'.c1
      have c2 := R'.c2
      refine bodyPost_ret (v := .tuple #[.agg #[.int .i64 0, .int .i64 0, .slice none 0 0], .int .i64 2]) (by simp [results, Tryz.results18, go_sem, c0, c1, c2]) rfl ?_
      have e1 : derE t a m x (.mk k n ks) = .mk 0 0 [] := by simp [derE, Hs1.out, hs2]
      have e2 : derC t a m x (.mk k n ks) = 2 := by simp [derC, Hs1.out, hs2]
      rw [e1, e2]
      exact ⟨none, 0, rfl, fresh_nil1 _ _, by (repeat' first | exact Below.refl _ _ | assumption | apply Below.alloc | apply Below.drew | apply Below.setCell | omega | (simp; done) | (simp; omega))⟩
    have Hs2 := Lib.hid hs2
    clear hs2
    have l0 := L.c0
    have l1 := L.c1
    have m0 := M.c0
    have m1 := M.c1
    have m2 := M.c2
    have r0 := R.c0
    have r1 := R.c1
    have r2 := R.c2
    have ltL := L.lt
    have ltM := M.lt
    have ltR := R.lt
    have zz0 := R.frozen 0
    have zz1 := R.frozen 1
    have zz2 := R.frozen 2
    go_wp2_with fail
    refine (within_any _ _ _ _).mono ?_
    rintro x w3 ⟨rfl, rfl⟩
    clear l0 l1 m0 m1 m2 r0 r1 r2 ltL ltM ltR zz0 zz1 zz2
    cases hs3 : inB x 0 (a - 1)
    · have l0 := L.c0
      have l1 := L.c1
      have ltL := L.lt
      have m0 := M.c0
      have m1 := M.c1
      have m2 := M.c2
      have ltM := M.lt
      have r0 := R.c0
      have zz0 := R.frozen 0
      have r1 := R.c1
      have zz1 := R.frozen 1
      have r2 := R.c2
      have zz2 := R.frozen 2
      have ltR := R.lt
      go_wp2_with fail
      have R' := (((R.set 0 (.int .i64 0)).set 1 (.int .i64 0)).set 2 (.slice none 0 0))
      have c0 := R'.c0
      have c1 := R'.c1
      have c2 := R'.c2
      refine bodyPost_ret (v := .tuple #[.agg #[.int .i64 0, .int .i64 0, .slice none 0 0], .int .i64 2]) (by simp [results, Tryz.results18, go_sem, c0, c1, c2]) rfl ?_
      have e1 : derE t a m x (.mk k n ks) = .mk 0 0 [] := by simp [derE, Hs1.out, Hs2.out, hs3]
      have e2 : derC t a m x (.mk k n ks) = 2 := by simp [derC, Hs1.out, Hs2.out, hs3]
      rw [e1, e2]
      exact ⟨none, 0, rfl, fresh_nil1 _ _, by (repeat' first | exact Below.refl _ _ | assumption | apply Below.alloc | apply Below.drew | apply Below.setCell | omega | (simp; done) | (simp; omega))⟩
    have Hs3 := Lib.hid hs3
    clear hs3
    have l0 := L.c0
    have l1 := L.c1
    have m0 := M.c0
    have m1 := M.c1
    have m2 := M.c2
    have r0 := R.c0
    have r1 := R.c1
    have r2 := R.c2
    have ltL := L.lt
    have ltM := M.lt
    have ltR := R.lt
    have zz0 := R.frozen 0
    have zz1 := R.frozen 1
    have zz2 := R.frozen 2
    go_wp2_with fail
    have A0 := (okB_bd3 Hs1.out).1
    have A1 := (okB_bd3 Hs1.out).2.1
    have A2 := (atomB_bd (okB_sig Hs1.out) Hs2.out).2.1
    have A3 := (atomB_bd (okB_sig Hs1.out) Hs2.out).2.2
    have A4 := (okB_bd3 Hs1.out).2.2.2
    have A5 := (okB_bd3 Hs1.out).2.2.1
    have HA4 := Lib.hid A4
    clear A4
    refine (derived_none A0 A1 A2 A3 (X := fun _ => False) (e := .mk k n ks) (fun _ h => h.elim) (RdX.all (hr.below hB)) HA4.out (by omega) Ho).mono ?_
    rintro x w4 ⟨s4, c4, rfl, hb⟩
    clear l0 l1 m0 m1 m2 r0 r1 r2 ltL ltM ltR zz0 zz1 zz2
    replace hB := Below.on hB hb hB.size
    replace L := L.below hb
    replace M := M.below hb
    replace R := R.below hb
    clear hb
    have szW4 := hB.size
    have rlt4 := R.lt
    have l0 := L.c0
    have l1 := L.c1
    have m0 := M.c0
    have m1 := M.c1
    have m2 := M.c2
    have r0 := R.c0
    have r1 := R.c1
    have r2 := R.c2
    have ltL := L.lt
    have ltM := M.lt
    have ltR := R.lt
    have zz0 := R.frozen 0
    have zz1 := R.frozen 1
    have zz2 := R.frozen 2
    go_wp2_with fail
    have r0 := R.c0
    have r1 := R.c1
    have r2 := R.c2
    have z0 := R.frozen 0
    have z1 := R.frozen 1
    have z2 := R.frozen 2
    have ltR := R.lt
    go_wp2_with fail
    have T2 := (((R.set 0 (.int .i64 0)).set 1 (.int .i64 0)).set 2 (.slice none 0 0)).alloc (.cells #[.int .i64 0, .int .i64 0, .slice s4 0 c4] 30)
    have hs5 : Spares (fun y => y = w.heap.size + 1 + 1) w4 ((((w4.setCell ⟨w.heap.size + 1 + 1, 0, none⟩ (.int .i64 0)).setCell ⟨w.heap.size + 1 + 1, 1, none⟩ (.int .i64 0)).setCell ⟨w.heap.size + 1 + 1, 2, none⟩ (.slice none 0 0)).alloc (.cells #[.int .i64 0, .int .i64 0, .slice s4 0 c4] 30)) := (Spares.set (Spares.set (Spares.set (Spares.refl w4)))).trans (Spares.of_below (Below.alloc (Below.refl _ _) (Nat.le_refl _) _))
    generalize (((w4.setCell ⟨w.heap.size + 1 + 1, 0, none⟩ (.int .i64 0)).setCell ⟨w.heap.size + 1 + 1, 1, none⟩ (.int .i64 0)).setCell ⟨w.heap.size + 1 + 1, 2, none⟩ (.slice none 0 0)).alloc (.cells #[.int .i64 0, .int .i64 0, .slice s4 0 c4] 30) = w5 at T2 hs5 ⊢
    have t0 := T2.c0
    have t1 := T2.c1
    have t2 := T2.c2
    have hzB5 := hB.size
    have hB5 := hB.trans (hs5.below (B := w.heap.size) (by omega) (fun y hy => by omega))
    refine bodyPost_ret (v := .tuple #[.agg #[.int .i64 0, .int .i64 0, .slice none 0 0], .int .i64 3]) (by simp [results, Tryz.results18, go_sem, t0, t1, t2]) rfl ?_
    have e1 : derE t a m x (.mk k n ks) = .mk 0 0 [] := by simp [derE, Ho.out, optE]
    have e2 : derC t a m x (.mk k n ks) = 3 := by simp [derC, Ho.out, Hs1.out, Hs2.out, Hs3.out]
    rw [e1, e2]
    exact ⟨none, 0, rfl, fresh_nil1 _ _, hB5⟩
  | some d =>
    have Ho := Lib.hid ho
    clear ho
    go_enter Tryz.func18, Tryz.ntmps18
    go_wp2_with fail
    have L := ((Blk.new2 w 33 (.int .i64 t) (.int .i64 a)).alloc (.cells #[.int .i64 k, .int .i64 n, .slice s ks.length c] 30)).alloc (.cells #[.int .i64 0, .int .i64 0, .slice none 0 0] 30)
    have M := (Blk.new3 (w.alloc (.cells #[.int .i64 t, .int .i64 a] 33)) 30 (.int .i64 k) (.int .i64 n) (.slice s ks.length c)).alloc (.cells #[.int .i64 0, .int .i64 0, .slice none 0 0] 30)
    simp at M
    have R := Blk.new3 ((w.alloc (.cells #[.int .i64 t, .int .i64 a] 33)).alloc (.cells #[.int .i64 k, .int .i64 n, .slice s ks.length c] 30)) 30 (.int .i64 0) (.int .i64 0) (.slice none 0 0)
    simp at R
    have hB : Below w.heap.size w (((w.alloc (.cells #[.int .i64 t, .int .i64 a] 33)).alloc (.cells #[.int .i64 k, .int .i64 n, .slice s ks.length c] 30)).alloc (.cells #[.int .i64 0, .int .i64 0, .slice none 0 0] 30)) := by (repeat' first | exact Below.refl _ _ | assumption | apply Below.alloc | apply Below.drew | apply Below.setCell | omega | (simp; done) | (simp; omega))
    have hB0 := hB
    generalize (((w.alloc (.cells #[.int .i64 t, .int .i64 a] 33)).alloc (.cells #[.int .i64 k, .int .i64 n, .slice s ks.length c] 30)).alloc (.cells #[.int .i64 0, .int .i64 0, .slice none 0 0] 30)) = v0 at L M R hB hB0 ⊢
    have l0 := L.c0
    have l1 := L.c1
    have m0 := M.c0
    have m1 := M.c1
    have m2 := M.c2
    have r0 := R.c0
    have r1 := R.c1
    have r2 := R.c2
    have ltL := L.lt
    have ltM := M.lt
    have ltR := R.lt
    have zz0 := R.frozen 0
    have zz1 := R.frozen 1
    have zz2 := R.frozen 2
    go_wp2_with fail
    refine (implValidExpr_i (hr.below hB)).mono ?_
    rintro x w1 ⟨rfl, hb⟩
    clear l0 l1 m0 m1 m2 r0 r1 r2 ltL ltM ltR zz0 zz1 zz2
    replace hB := Below.on hB hb hB.size
    replace L := L.below hb
    replace M := M.below hb
    replace R := R.below hb
    clear hb
    have szW1 := hB.size
    have rlt1 := R.lt
    cases hs1 : okB t a (.mk k n ks)
    · have l0 := L.c0
      have l1 := L.c1
      have ltL := L.lt
      have m0 := M.c0
      have m1 := M.c1
      have m2 := M.c2
      have ltM := M.lt
      have r0 := R.c0
      have zz0 := R.frozen 0
      have r1 := R.c1
      have zz1 := R.frozen 1
      have r2 := R.c2
      have zz2 := R.frozen 2
      have ltR := R.lt
      go_wp2_with fail
      have R' := (((R.set 0 (.int .i64 0)).set 1 (.int .i64 0)).set 2 (.slice none 0 0))
      have c0 := R'.c0
      have c1 := R'.c1
      have c2 := R'.c2
      refine bodyPost_ret (v := .tuple #[.agg #[.int .i64 0, .int .i64 0, .slice none 0 0], .int .i64 1]) (by simp [results, Tryz.results18, go_sem, c0, c1, c2]) rfl ?_
      have e1 : derE t a m x (.mk k n ks) = .mk 0 0 [] := by simp [derE, hs1]
      have e2 : derC t a m x (.mk k n ks) = 1 := by simp [derC, hs1]
      rw [e1, e2]
      exact ⟨none, 0, rfl, fresh_nil1 _ _, by (repeat' first | exact Below.refl _ _ | assumption | apply Below.alloc | apply Below.drew | apply Below.setCell | omega | (simp; done) | (simp; omega))⟩
    have Hs1 := Lib.hid hs1
    clear hs1
    have l0 := L.c0
    have l1 := L.c1
    have m0 := M.c0
    have m1 := M.c1
    have m2 := M.c2
    have r0 := R.c0
    have r1 := R.c1
    have r2 := R.c2
    have ltL := L.lt
    have ltM := M.lt
    have ltR := R.lt
    have zz0 := R.frozen 0
    have zz1 := R.frozen 1
    have zz2 := R.frozen 2
    go_wp2_with fail
    obtain ⟨-, -, ha0, ha4⟩ := sigB_bd (okB_sig Hs1.out)
    refine (isAtom_i (okB_sig Hs1.out)).mono ?_
    rintro x w2 ⟨rfl, hb⟩
    clear l0 l1 m0 m1 m2 r0 r1 r2 ltL ltM ltR zz0 zz1 zz2
    replace hB := Below.on hB hb hB.size
    replace L := L.below hb
    replace M := M.below hb
    replace R := R.below hb
    clear hb
    have szW2 := hB.size
    have rlt2 := R.lt
    cases hs2 : atomB t m
    · have l0 := L.c0
      have l1 := L.c1
      have ltL := L.lt
      have m0 := M.c0
      have m1 := M.c1
      have m2 := M.c2
      have ltM := M.lt
      have r0 := R.c0
      have zz0 := R.frozen 0
      have r1 := R.c1
      have zz1 := R.frozen 1
      have r2 := R.c2
      have zz2 := R.frozen 2
      have ltR := R.lt
      go_wp2_with fail
      have R' := (((R.set 0 (.int .i64 0)).set 1 (.int .i64 0)).set 2 (.slice none 0 0))
      have c0 := R'.c0
      have c1 := R'.c1
      have c2 := R'.c2
      refine bodyPost_ret (v := .tuple #[.agg #[.int .i64 0, .int .i64 0, .slice none 0 0], .int .i64 2]) (by simp [results, Tryz.results18, go_sem, c0, c1, c2]) rfl ?_
      have e1 : derE t a m x (.mk k n ks) = .mk 0 0 [] := by simp [derE, Hs1.out, hs2]
      have e2 : derC t a m x (.mk k n ks) = 2 := by simp [derC, Hs1.out, hs2]
      rw [e1, e2]
      exact ⟨none, 0, rfl, fresh_nil1 _ _, by (repeat' first | exact Below.refl _ _ | assumption | apply Below.alloc | apply Below.drew | apply Below.setCell | omega | (simp; done) | (simp; omega))⟩
    have Hs2 := Lib.hid hs2
    clear hs2
    have l0 := L.c0
    have l1 := L.c1
    have m0 := M.c0
    have m1 := M.c1
    have m2 := M.c2
    have r0 := R.c0
    have r1 := R.c1
    have r2 := R.c2
    have ltL := L.lt
    have ltM := M.lt
    have ltR := R.lt
    have zz0 := R.frozen 0
    have zz1 := R.frozen 1
    have zz2 := R.frozen 2
    go_wp2_with fail
    refine (within_any _ _ _ _).mono ?_
    rintro x w3 ⟨rfl, rfl⟩
    clear l0 l1 m0 m1 m2 r0 r1 r2 ltL ltM ltR zz0 zz1 zz2
    cases hs3 : inB x 0 (a - 1)
    · have l0 := L.c0
      have l1 := L.c1
      have ltL := L.lt
      have m0 := M.c0
      have m1 := M.c1
      have m2 := M.c2
      have ltM := M.lt
      have r0 := R.c0
      have zz0 := R.frozen 0
      have r1 := R.c1
      have zz1 := R.frozen 1
      have r2 := R.c2
      have zz2 := R.frozen 2
      have ltR := R.lt
      go_wp2_with fail
      have R' := (((R.set 0 (.int .i64 0)).set 1 (.int .i64 0)).set 2 (.slice none 0 0))
      have c0 := R'.c0
      have c1 := R'.c1
      have c2 := R'.c2
      refine bodyPost_ret (v := .tuple #[.agg #[.int .i64 0, .int .i64 0, .slice none 0 0], .int .i64 2]) (by simp [results, Tryz.results18, go_sem, c0, c1, c2]) rfl ?_
      have e1 : derE t a m x (.mk k n ks) = .mk 0 0 [] := by simp [derE, Hs1.out, Hs2.out, hs3]
      have e2 : derC t a m x (.mk k n ks) = 2 := by simp [derC, Hs1.out, Hs2.out, hs3]
      rw [e1, e2]
      exact ⟨none, 0, rfl, fresh_nil1 _ _, by (repeat' first | exact Below.refl _ _ | assumption | apply Below.alloc | apply Below.drew | apply Below.setCell | omega | (simp; done) | (simp; omega))⟩
    have Hs3 := Lib.hid hs3
    clear hs3
    have l0 := L.c0
    have l1 := L.c1
    have m0 := M.c0
    have m1 := M.c1
    have m2 := M.c2
    have r0 := R.c0
    have r1 := R.c1
    have r2 := R.c2
    have ltL := L.lt
    have ltM := M.lt
    have ltR := R.lt
    have zz0 := R.frozen 0
    have zz1 := R.frozen 1
    have zz2 := R.frozen 2
    go_wp2_with fail
    have A0 := (okB_bd3 Hs1.out).1
    have A1 := (okB_bd3 Hs1.out).2.1
    have A2 := (atomB_bd (okB_sig Hs1.out) Hs2.out).2.1
    have A3 := (atomB_bd (okB_sig Hs1.out) Hs2.out).2.2
    have A4 := (okB_bd3 Hs1.out).2.2.2
    have A5 := (okB_bd3 Hs1.out).2.2.1
    have HA4 := Lib.hid A4
    clear A4
    refine (derived_some A0 A1 A2 A3 (X := fun _ => False) (e := .mk k n ks) (fun _ h => h.elim) (RdX.all (hr.below hB)) HA4.out (by omega) Ho).mono ?_
    rintro x w4 ⟨s4, c4, rfl, hd4, hb⟩
    clear l0 l1 m0 m1 m2 r0 r1 r2 ltL ltM ltR zz0 zz1 zz2
    replace hB := Below.on hB hb hB.size
    replace L := L.below hb
    replace M := M.below hb
    replace R := R.below hb
    clear hb
    have szW4 := hB.size
    have rlt4 := R.lt
    have l0 := L.c0
    have l1 := L.c1
    have m0 := M.c0
    have m1 := M.c1
    have m2 := M.c2
    have r0 := R.c0
    have r1 := R.c1
    have r2 := R.c2
    have ltL := L.lt
    have ltM := M.lt
    have ltR := R.lt
    have zz0 := R.frozen 0
    have zz1 := R.frozen 1
    have zz2 := R.frozen 2
    go_wp2_with fail
    have N1 : Blk (w4.alloc (.cells #[.int .i64 d.kind, .int .i64 d.num, .slice s4 d.kids.length c4] 30)) w4.heap.size 30 [.int .i64 d.kind, .int .i64 d.num, .slice s4 d.kids.length c4] := Blk.new3 _ _ _ _ _
    have hb5 : Below w4.heap.size w4 (w4.alloc (.cells #[.int .i64 d.kind, .int .i64 d.num, .slice s4 d.kids.length c4] 30)) := by (repeat' first | exact Below.refl _ _ | assumption | apply Below.alloc | apply Below.drew | apply Below.setCell | omega | (simp; done) | (simp; omega))
    generalize w4.alloc (.cells #[.int .i64 d.kind, .int .i64 d.num, .slice s4 d.kids.length c4] 30) = w5 at N1 hb5 ⊢
    replace hB := Below.on hB hb5 hB.size
    replace R := R.below hb5
    refine (copy_k (k := d.kind) (n := d.num) (hd4.below hb5).rd (by have h2 := (step_spec _ _ m x _ (.mk k n ks) d (Nat.le_refl _) HA4.out Ho.out).2; have h3 := Ex.size_eq d; omega)).mono ?_
    rintro f w6 ⟨s6, c6, rfl, hf6, hb⟩
    have hzw := hB.size
    have hzr := R.lt
    replace hB := Below.on hB hb hB.size
    replace R := R.below hb
    have r0 := R.c0
    have r1 := R.c1
    have r2 := R.c2
    have z0 := R.frozen 0
    have z1 := R.frozen 1
    have z2 := R.frozen 2
    have ltR := R.lt
    go_wp2_with fail
    have T2 := ((R.set 0 (.int .i64 d.kind)).set 1 (.int .i64 d.num)).set 2 (.slice s6 d.kids.length c6)
    have hs5 : Spares (fun y => y = w.heap.size + 1 + 1) w6 (((w6.setCell ⟨w.heap.size + 1 + 1, 0, none⟩ (.int .i64 d.kind)).setCell ⟨w.heap.size + 1 + 1, 1, none⟩ (.int .i64 d.num)).setCell ⟨w.heap.size + 1 + 1, 2, none⟩ (.slice s6 d.kids.length c6)) := Spares.set (Spares.set (Spares.set (Spares.refl w6)))
    generalize (((w6.setCell ⟨w.heap.size + 1 + 1, 0, none⟩ (.int .i64 d.kind)).setCell ⟨w.heap.size + 1 + 1, 1, none⟩ (.int .i64 d.num)).setCell ⟨w.heap.size + 1 + 1, 2, none⟩ (.slice s6 d.kids.length c6)) = w5 at T2 hs5 ⊢
    have t0 := T2.c0
    have t1 := T2.c1
    have t2 := T2.c2
    have hzB5 := hB.size
    have hB5 := hB.trans (hs5.below (B := w.heap.size) (by omega) (fun y hy => by omega))
    refine bodyPost_ret (v := .tuple #[.agg #[.int .i64 d.kind, .int .i64 d.num, .slice s6 d.kids.length c6], .int .i64 0]) (by simp [results, Tryz.results18, go_sem, t0, t1, t2]) rfl ?_
    have e1 : derE t a m x (.mk k n ks) = d := by simp [derE, Ho.out, Hs1.out, Hs2.out, Hs3.out, optE]
    have e2 : derC t a m x (.mk k n ks) = 0 := by simp [derC, Ho.out, Hs1.out, Hs2.out, Hs3.out]
    rw [e1, e2]
    exact ⟨_, _, rfl, Freshs.from (Freshs.keep hf6 (fun y _ hy2 => hs5.block y hy2 (by omega))) hzw, hB5⟩
set_option maxHeartbeats 4000000 in
theorem specDerive_i {t a k n m x : Int} {ks : List Ex} {s : Option Addr} {c : Nat} {w : World} (hr : Rd w (kidsD ks) (.slice s ks.length c)) (h1 : Ex.sizeL ks ≤ 1048576) :
    Calls Tryz.prog 15 #[.agg #[.int .i64 t, .int .i64 a], .agg #[.int .i64 k, .int .i64 n, .slice s ks.length c], .int .i64 m, .int .i64 x] w fun e w' => ∃ s' c', e = .returned (.tuple #[.agg #[.int .i64 (derE t a m x (.mk k n ks)).kind, .int .i64 (derE t a m x (.mk k n ks)).num, .slice s' (derE t a m x (.mk k n ks)).kids.length c'], .int .i64 (derC t a m x (.mk k n ks))]) ∧
      Freshs w w' [kidsD (derE t a m x (.mk k n ks)).kids] [.slice s' (derE t a m x (.mk k n ks)).kids.length c'] ∧ Below w.heap.size w w' := by
  have Hsz : Hid (Ex.size (.mk k n ks) ≤ 1073741824) := by show _ ≤ _; rw [Ex.size_eq]; simp only [Ex.kids]; omega
  cases ho : Ex.step m x (.mk k n ks) with
  | none =>
    have Ho := Lib.hid ho
    clear ho
    go_enter Tryz.func15, Tryz.ntmps15
    go_wp2_with fail
    have L := ((Blk.new2 w 33 (.int .i64 t) (.int .i64 a)).alloc (.cells #[.int .i64 k, .int .i64 n, .slice s ks.length c] 30)).alloc (.cells #[.int .i64 0, .int .i64 0, .slice none 0 0] 30)
    have M := (Blk.new3 (w.alloc (.cells #[.int .i64 t, .int .i64 a] 33)) 30 (.int .i64 k) (.int .i64 n) (.slice s ks.length c)).alloc (.cells #[.int .i64 0, .int .i64 0, .slice none 0 0] 30)
    simp at M
    have R := Blk.new3 ((w.alloc (.cells #[.int .i64 t, .int .i64 a] 33)).alloc (.cells #[.int .i64 k, .int .i64 n, .slice s ks.length c] 30)) 30 (.int .i64 0) (.int .i64 0) (.slice none 0 0)
    simp at R
    have hB : Below w.heap.size w (((w.alloc (.cells #[.int .i64 t, .int .i64 a] 33)).alloc (.cells #[.int .i64 k, .int .i64 n, .slice s ks.length c] 30)).alloc (.cells #[.int .i64 0, .int .i64 0, .slice none 0 0] 30)) := by (repeat' first | exact Below.refl _ _ | assumption | apply Below.alloc | apply Below.drew | apply Below.setCell | omega | (simp; done) | (simp; omega))
    have hB0 := hB
    generalize (((w.alloc (.cells #[.int .i64 t, .int .i64 a] 33)).alloc (.cells #[.int .i64 k, .int .i64 n, .slice s ks.length c] 30)).alloc (.cells #[.int .i64 0, .int .i64 0, .slice none 0 0] 30)) = v0 at L M R hB hB0 ⊢
    have l0 := L.c0
    have l1 := L.c1
    have m0 := M.c0
    have m1 := M.c1
    have m2 := M.c2
    have r0 := R.c0
    have r1 := R.c1
    have r2 := R.c2
    have ltL := L.lt
    have ltM := M.lt
    have ltR := R.lt
    have zz0 := R.frozen 0
    have zz1 := R.frozen 1
    have zz2 := R.frozen 2
    go_wp2_with fail
    refine (l01Ok_i (M.exAt (hr.below hB)) Hsz.out).mono ?_
    rintro x w1 ⟨rfl, hb⟩
    clear l0 l1 m0 m1 m2 r0 r1 r2 ltL ltM ltR zz0 zz1 zz2
    replace hB := Below.on hB hb hB.size
    replace L := L.below hb
    replace M := M.below hb
    replace R := R.below hb
    clear hb
    have szW1 := hB.size
    have rlt1 := R.lt
    cases hs1 : okB t a (.mk k n ks)
    · have l0 := L.c0
      have l1 := L.c1
      have ltL := L.lt
      have m0 := M.c0
      have m1 := M.c1
      have m2 := M.c2
      have ltM := M.lt
      have r0 := R.c0
      have zz0 := R.frozen 0
      have r1 := R.c1
      have zz1 := R.frozen 1
      have r2 := R.c2
      have zz2 := R.frozen 2
      have ltR := R.lt
      go_wp2_with fail
      have R' := (((R.set 0 (.int .i64 0)).set 1 (.int .i64 0)).set 2 (.slice none 0 0))
      have c0 := R'.c0
      have c1 := R'.c1
      have c2 := R'.c2
      refine bodyPost_ret (v := .tuple #[.agg #[.int .i64 0, .int .i64 0, .slice none 0 0], .int .i64 1]) (by simp [results, Tryz.results15, go_sem, c0, c1, c2]) rfl ?_
      have e1 : derE t a m x (.mk k n ks) = .mk 0 0 [] := by simp [derE, hs1]
      have e2 : derC t a m x (.mk k n ks) = 1 := by simp [derC, hs1]
      rw [e1, e2]
      exact ⟨none, 0, rfl, fresh_nil1 _ _, by (repeat' first | exact Below.refl _ _ | assumption | apply Below.alloc | apply Below.drew | apply Below.setCell | omega | (simp; done) | (simp; omega))⟩
    have Hs1 := Lib.hid hs1
    clear hs1
    have l0 := L.c0
    have l1 := L.c1
    have m0 := M.c0
    have m1 := M.c1
    have m2 := M.c2
    have r0 := R.c0
    have r1 := R.c1
    have r2 := R.c2
    have ltL := L.lt
    have ltM := M.lt
    have ltR := R.lt
    have zz0 := R.frozen 0
    have zz1 := R.frozen 1
    have zz2 := R.frozen 2
    go_wp2_with fail
    refine (l02Atom_i (okB_sig Hs1.out)).mono ?_
    rintro x w2 ⟨rfl, hb⟩
    clear l0 l1 m0 m1 m2 r0 r1 r2 ltL ltM ltR zz0 zz1 zz2
    replace hB := Below.on hB hb hB.size
    replace L := L.below hb
    replace M := M.below hb
    replace R := R.below hb
    clear hb
    have szW2 := hB.size
    have rlt2 := R.lt
    cases hs2 : atomB t m
    · have l0 := L.c0
      have l1 := L.c1
      have ltL := L.lt
      have m0 := M.c0
      have m1 := M.c1
      have m2 := M.c2
      have ltM := M.lt
      have r0 := R.c0
      have zz0 := R.frozen 0
      have r1 := R.c1
      have zz1 := R.frozen 1
      have r2 := R.c2
      have zz2 := R.frozen 2
      have ltR := R.lt
      go_wp2_with fail
      have R' := (((R.set 0 (.int .i64 0)).set 1 (.int .i64 0)).set 2 (.slice none 0 0))
      have c0 := R'.c0
      have c1 := R'.c1
      have c2 := R'.c2
      refine bodyPost_ret (v := .tuple #[.agg #[.int .i64 0, .int .i64 0, .slice none 0 0], .int .i64 2]) (by simp [results, Tryz.results15, go_sem, c0, c1, c2]) rfl ?_
      have e1 : derE t a m x (.mk k n ks) = .mk 0 0 [] := by simp [derE, Hs1.out, hs2]
      have e2 : derC t a m x (.mk k n ks) = 2 := by simp [derC, Hs1.out, hs2]
      rw [e1, e2]
      exact ⟨none, 0, rfl, fresh_nil1 _ _, by (repeat' first | exact Below.refl _ _ | assumption | apply Below.alloc | apply Below.drew | apply Below.setCell | omega | (simp; done) | (simp; omega))⟩
    have Hs2 := Lib.hid hs2
    clear hs2
    have l0 := L.c0
    have l1 := L.c1
    have m0 := M.c0
    have m1 := M.c1
    have m2 := M.c2
    have r0 := R.c0
    have r1 := R.c1
    have r2 := R.c2
    have ltL := L.lt
    have ltM := M.lt
    have ltR := R.lt
    have zz0 := R.frozen 0
    have zz1 := R.frozen 1
    have zz2 := R.frozen 2
    go_wp2_with fail
    refine (l02Act_i (sigB_bd (okB_sig Hs1.out)).2.2).mono ?_
    rintro x w3 ⟨rfl, hb⟩
    clear l0 l1 m0 m1 m2 r0 r1 r2 ltL ltM ltR zz0 zz1 zz2
    replace hB := Below.on hB hb hB.size
    replace L := L.below hb
    replace M := M.below hb
    replace R := R.below hb
    clear hb
    have szW3 := hB.size
    have rlt3 := R.lt
    cases hs3 : inB x 0 (a - 1)
    · have l0 := L.c0
      have l1 := L.c1
      have ltL := L.lt
      have m0 := M.c0
      have m1 := M.c1
      have m2 := M.c2
      have ltM := M.lt
      have r0 := R.c0
      have zz0 := R.frozen 0
      have r1 := R.c1
      have zz1 := R.frozen 1
      have r2 := R.c2
      have zz2 := R.frozen 2
      have ltR := R.lt
      go_wp2_with fail
      have R' := (((R.set 0 (.int .i64 0)).set 1 (.int .i64 0)).set 2 (.slice none 0 0))
      have c0 := R'.c0
      have c1 := R'.c1
      have c2 := R'.c2
      refine bodyPost_ret (v := .tuple #[.agg #[.int .i64 0, .int .i64 0, .slice none 0 0], .int .i64 2]) (by simp [results, Tryz.results15, go_sem, c0, c1, c2]) rfl ?_
      have e1 : derE t a m x (.mk k n ks) = .mk 0 0 [] := by simp [derE, Hs1.out, Hs2.out, hs3]
      have e2 : derC t a m x (.mk k n ks) = 2 := by simp [derC, Hs1.out, Hs2.out, hs3]
      rw [e1, e2]
      exact ⟨none, 0, rfl, fresh_nil1 _ _, by (repeat' first | exact Below.refl _ _ | assumption | apply Below.alloc | apply Below.drew | apply Below.setCell | omega | (simp; done) | (simp; omega))⟩
    have Hs3 := Lib.hid hs3
    clear hs3
    have l0 := L.c0
    have l1 := L.c1
    have m0 := M.c0
    have m1 := M.c1
    have m2 := M.c2
    have r0 := R.c0
    have r1 := R.c1
    have r2 := R.c2
    have ltL := L.lt
    have ltM := M.lt
    have ltR := R.lt
    have zz0 := R.frozen 0
    have zz1 := R.frozen 1
    have zz2 := R.frozen 2
    go_wp2_with fail
    have A0 := (okB_bd3 Hs1.out).1
    have A1 := (okB_bd3 Hs1.out).2.1
    have A2 := (atomB_bd (okB_sig Hs1.out) Hs2.out).2.1
    have A3 := (atomB_bd (okB_sig Hs1.out) Hs2.out).2.2
    have A4 := (okB_bd3 Hs1.out).2.2.2
    have A5 := (okB_bd3 Hs1.out).2.2.1
    have HA4 := Lib.hid A4
    clear A4
    refine (step_none' A0 A1 A2 A3 (M.exAt (hr.below hB)) HA4.out (by omega) Ho).mono ?_
    rintro x w4 ⟨y4, s4, c4, rfl, hb⟩
    clear l0 l1 m0 m1 m2 r0 r1 r2 ltL ltM ltR zz0 zz1 zz2
    replace hB := Below.on hB hb hB.size
    replace L := L.below hb
    replace M := M.below hb
    replace R := R.below hb
    clear hb
    have szW4 := hB.size
    have rlt4 := R.lt
    have l0 := L.c0
    have l1 := L.c1
    have m0 := M.c0
    have m1 := M.c1
    have m2 := M.c2
    have r0 := R.c0
    have r1 := R.c1
    have r2 := R.c2
    have ltL := L.lt
    have ltM := M.lt
    have ltR := R.lt
    have zz0 := R.frozen 0
    have zz1 := R.frozen 1
    have zz2 := R.frozen 2
    go_wp2_with fail
    have r0 := R.c0
    have r1 := R.c1
    have r2 := R.c2
    have z0 := R.frozen 0
    have z1 := R.frozen 1
    have z2 := R.frozen 2
    have ltR := R.lt
    go_wp2_with fail
    have T2 := (((R.set 0 (.int .i64 0)).set 1 (.int .i64 0)).set 2 (.slice none 0 0)).alloc (.cells #[.int .i64 y4.kind, .int .i64 y4.num, .slice s4 y4.kids.length c4] 30)
    have hs5 : Spares (fun y => y = w.heap.size + 1 + 1) w4 ((((w4.setCell ⟨w.heap.size + 1 + 1, 0, none⟩ (.int .i64 0)).setCell ⟨w.heap.size + 1 + 1, 1, none⟩ (.int .i64 0)).setCell ⟨w.heap.size + 1 + 1, 2, none⟩ (.slice none 0 0)).alloc (.cells #[.int .i64 y4.kind, .int .i64 y4.num, .slice s4 y4.kids.length c4] 30)) := (Spares.set (Spares.set (Spares.set (Spares.refl w4)))).trans (Spares.of_below (Below.alloc (Below.refl _ _) (Nat.le_refl _) _))
    generalize (((w4.setCell ⟨w.heap.size + 1 + 1, 0, none⟩ (.int .i64 0)).setCell ⟨w.heap.size + 1 + 1, 1, none⟩ (.int .i64 0)).setCell ⟨w.heap.size + 1 + 1, 2, none⟩ (.slice none 0 0)).alloc (.cells #[.int .i64 y4.kind, .int .i64 y4.num, .slice s4 y4.kids.length c4] 30) = w5 at T2 hs5 ⊢
    have t0 := T2.c0
    have t1 := T2.c1
    have t2 := T2.c2
    have hzB5 := hB.size
    have hB5 := hB.trans (hs5.below (B := w.heap.size) (by omega) (fun y hy => by omega))
    refine bodyPost_ret (v := .tuple #[.agg #[.int .i64 0, .int .i64 0, .slice none 0 0], .int .i64 3]) (by simp [results, Tryz.results15, go_sem, t0, t1, t2]) rfl ?_
    have e1 : derE t a m x (.mk k n ks) = .mk 0 0 [] := by simp [derE, Ho.out, optE]
    have e2 : derC t a m x (.mk k n ks) = 3 := by simp [derC, Ho.out, Hs1.out, Hs2.out, Hs3.out]
    rw [e1, e2]
    exact ⟨none, 0, rfl, fresh_nil1 _ _, hB5⟩
  | some d =>
    have Ho := Lib.hid ho
    clear ho
    go_enter Tryz.func15, Tryz.ntmps15
    go_wp2_with fail
    have L := ((Blk.new2 w 33 (.int .i64 t) (.int .i64 a)).alloc (.cells #[.int .i64 k, .int .i64 n, .slice s ks.length c] 30)).alloc (.cells #[.int .i64 0, .int .i64 0, .slice none 0 0] 30)
    have M := (Blk.new3 (w.alloc (.cells #[.int .i64 t, .int .i64 a] 33)) 30 (.int .i64 k) (.int .i64 n) (.slice s ks.length c)).alloc (.cells #[.int .i64 0, .int .i64 0, .slice none 0 0] 30)
    simp at M
    have R := Blk.new3 ((w.alloc (.cells #[.int .i64 t, .int .i64 a] 33)).alloc (.cells #[.int .i64 k, .int .i64 n, .slice s ks.length c] 30)) 30 (.int .i64 0) (.int .i64 0) (.slice none 0 0)
    simp at R
    have hB : Below w.heap.size w (((w.alloc (.cells #[.int .i64 t, .int .i64 a] 33)).alloc (.cells #[.int .i64 k, .int .i64 n, .slice s ks.length c] 30)).alloc (.cells #[.int .i64 0, .int .i64 0, .slice none 0 0] 30)) := by (repeat' first | exact Below.refl _ _ | assumption | apply Below.alloc | apply Below.drew | apply Below.setCell | omega | (simp; done) | (simp; omega))
    have hB0 := hB
    generalize (((w.alloc (.cells #[.int .i64 t, .int .i64 a] 33)).alloc (.cells #[.int .i64 k, .int .i64 n, .slice s ks.length c] 30)).alloc (.cells #[.int .i64 0, .int .i64 0, .slice none 0 0] 30)) = v0 at L M R hB hB0 ⊢
    have l0 := L.c0
    have l1 := L.c1
    have m0 := M.c0
    have m1 := M.c1
    have m2 := M.c2
    have r0 := R.c0
    have r1 := R.c1
    have r2 := R.c2
    have ltL := L.lt
    have ltM := M.lt
    have ltR := R.lt
    have zz0 := R.frozen 0
    have zz1 := R.frozen 1
    have zz2 := R.frozen 2
    go_wp2_with fail
    refine (l01Ok_i (M.exAt (hr.below hB)) Hsz.out).mono ?_
    rintro x w1 ⟨rfl, hb⟩
    clear l0 l1 m0 m1 m2 r0 r1 r2 ltL ltM ltR zz0 zz1 zz2
    replace hB := Below.on hB hb hB.size
    replace L := L.below hb
    replace M := M.below hb
    replace R := R.below hb
    clear hb
    have szW1 := hB.size
    have rlt1 := R.lt
    cases hs1 : okB t a (.mk k n ks)
    · have l0 := L.c0
      have l1 := L.c1
      have ltL := L.lt
      have m0 := M.c0
      have m1 := M.c1
      have m2 := M.c2
      have ltM := M.lt
      have r0 := R.c0
      have zz0 := R.frozen 0
      have r1 := R.c1
      have zz1 := R.frozen 1
      have r2 := R.c2
      have zz2 := R.frozen 2
      have ltR := R.lt
      go_wp2_with fail
      have R' := (((R.set 0 (.int .i64 0)).set 1 (.int .i64 0)).set 2 (.slice none 0 0))
      have c0 := R'.c0
      have c1 := R'.c1
      have c2 := R'.c2
      refine bodyPost_ret (v := .tuple #[.agg #[.int .i64 0, .int .i64 0, .slice none 0 0], .int .i64 1]) (by simp [results, Tryz.results15, go_sem, c0, c1, c2]) rfl ?_
      have e1 : derE t a m x (.mk k n ks) = .mk 0 0 [] := by simp [derE, hs1]
      have e2 : derC t a m x (.mk k n ks) = 1 := by simp [derC, hs1]
      rw [e1, e2]
      exact ⟨none, 0, rfl, fresh_nil1 _ _, by (repeat' first | exact Below.refl _ _ | assumption | apply Below.alloc | apply Below.drew | apply Below.setCell | omega | (simp; done) | (simp; omega))⟩
    have Hs1 := Lib.hid hs1
    clear hs1
    have l0 := L.c0
    have l1 := L.c1
    have m0 := M.c0
    have m1 := M.c1
    have m2 := M.c2
    have r0 := R.c0
    have r1 := R.c1
    have r2 := R.c2
    have ltL := L.lt
    have ltM := M.lt
    have ltR := R.lt
    have zz0 := R.frozen 0
    have zz1 := R.frozen 1
    have zz2 := R.frozen 2
    go_wp2_with fail
    refine (l02Atom_i (okB_sig Hs1.out)).mono ?_
    rintro x w2 ⟨rfl, hb⟩
    clear l0 l1 m0 m1 m2 r0 r1 r2 ltL ltM ltR zz0 zz1 zz2
    replace hB := Below.on hB hb hB.size
    replace L := L.below hb
    replace M := M.below hb
    replace R := R.below hb
    clear hb
    have szW2 := hB.size
    have rlt2 := R.lt
    cases hs2 : atomB t m
    · have l0 := L.c0
      have l1 := L.c1
      have ltL := L.lt
      have m0 := M.c0
      have m1 := M.c1
      have m2 := M.c2
      have ltM := M.lt
      have r0 := R.c0
      have zz0 := R.frozen 0
      have r1 := R.c1
      have zz1 := R.frozen 1
      have r2 := R.c2
      have zz2 := R.frozen 2
      have ltR := R.lt
      go_wp2_with fail
      have R' := (((R.set 0 (.int .i64 0)).set 1 (.int .i64 0)).set 2 (.slice none 0 0))
      have c0 := R'.c0
      have c1 := R'.c1
      have c2 := R'.c2
      refine bodyPost_ret (v := .tuple #[.agg #[.int .i64 0, .int .i64 0, .slice none 0 0], .int .i64 2]) (by simp [results, Tryz.results15, go_sem, c0, c1, c2]) rfl ?_
      have e1 : derE t a m x (.mk k n ks) = .mk 0 0 [] := by simp [derE, Hs1.out, hs2]
      have e2 : derC t a m x (.mk k n ks) = 2 := by simp [derC, Hs1.out, hs2]
      rw [e1, e2]
      exact ⟨none, 0, rfl, fresh_nil1 _ _, by (repeat' first | exact Below.refl _ _ | assumption | apply Below.alloc | apply Below.drew | apply Below.setCell | omega | (simp; done) | (simp; omega))⟩
    have Hs2 := Lib.hid hs2
    clear hs2
    have l0 := L.c0
    have l1 := L.c1
    have m0 := M.c0
    have m1 := M.c1
    have m2 := M.c2
    have r0 := R.c0
    have r1 := R.c1
    have r2 := R.c2
    have ltL := L.lt
    have ltM := M.lt
    have ltR := R.lt
    have zz0 := R.frozen 0
    have zz1 := R.frozen 1
    have zz2 := R.frozen 2
    go_wp2_with fail
    refine (l02Act_i (sigB_bd (okB_sig Hs1.out)).2.2).mono ?_
    rintro x w3 ⟨rfl, hb⟩
    clear l0 l1 m0 m1 m2 r0 r1 r2 ltL ltM ltR zz0 zz1 zz2
    replace hB := Below.on hB hb hB.size
    replace L := L.below hb
    replace M := M.below hb
    replace R := R.below hb
    clear hb
    have szW3 := hB.size
    have rlt3 := R.lt
    cases hs3 : inB x 0 (a - 1)
    · have l0 := L.c0
      have l1 := L.c1
      have ltL := L.lt
      have m0 := M.c0
      have m1 := M.c1
      have m2 := M.c2
      have ltM := M.lt
      have r0 := R.c0
      have zz0 := R.frozen 0
      have r1 := R.c1
      have zz1 := R.frozen 1
      have r2 := R.c2
      have zz2 := R.frozen 2
      have ltR := R.lt
      go_wp2_with fail
      have R' := (((R.set 0 (.int .i64 0)).set 1 (.int .i64 0)).set 2 (.slice none 0 0))
      have c0 := R'.c0
      have c1 := R'.c1
      have c2 := R'.c2
      refine bodyPost_ret (v := .tuple #[.agg #[.int .i64 0, .int .i64 0, .slice none 0 0], .int .i64 2]) (by simp [results, Tryz.results15, go_sem, c0, c1, c2]) rfl ?_
      have e1 : derE t a m x (.mk k n ks) = .mk 0 0 [] := by simp [derE, Hs1.out, Hs2.out, hs3]
      have e2 : derC t a m x (.mk k n ks) = 2 := by simp [derC, Hs1.out, Hs2.out, hs3]
      rw [e1, e2]
      exact ⟨none, 0, rfl, fresh_nil1 _ _, by (repeat' first | exact Below.refl _ _ | assumption | apply Below.alloc | apply Below.drew | apply Below.setCell | omega | (simp; done) | (simp; omega))⟩
    have Hs3 := Lib.hid hs3
    clear hs3
    have l0 := L.c0
    have l1 := L.c1
    have m0 := M.c0
    have m1 := M.c1
    have m2 := M.c2
    have r0 := R.c0
    have r1 := R.c1
    have r2 := R.c2
    have ltL := L.lt
    have ltM := M.lt
    have ltR := R.lt
    have zz0 := R.frozen 0
    have zz1 := R.frozen 1
    have zz2 := R.frozen 2
    go_wp2_with fail
    have A0 := (okB_bd3 Hs1.out).1
    have A1 := (okB_bd3 Hs1.out).2.1
    have A2 := (atomB_bd (okB_sig Hs1.out) Hs2.out).2.1
    have A3 := (atomB_bd (okB_sig Hs1.out) Hs2.out).2.2
    have A4 := (okB_bd3 Hs1.out).2.2.2
    have A5 := (okB_bd3 Hs1.out).2.2.1
    have HA4 := Lib.hid A4
    clear A4
    refine (step_some' A0 A1 A2 A3 (M.exAt (hr.below hB)) HA4.out (by omega) Ho).mono ?_
    rintro x w4 ⟨s4, c4, rfl, hf4, hb⟩
    clear l0 l1 m0 m1 m2 r0 r1 r2 ltL ltM ltR zz0 zz1 zz2
    replace hB := Below.on hB hb hB.size
    replace L := L.below hb
    replace M := M.below hb
    replace R := R.below hb
    clear hb
    have szW4 := hB.size
    have rlt4 := R.lt
    have l0 := L.c0
    have l1 := L.c1
    have m0 := M.c0
    have m1 := M.c1
    have m2 := M.c2
    have r0 := R.c0
    have r1 := R.c1
    have r2 := R.c2
    have ltL := L.lt
    have ltM := M.lt
    have ltR := R.lt
    have zz0 := R.frozen 0
    have zz1 := R.frozen 1
    have zz2 := R.frozen 2
    go_wp2_with fail
    have r0 := R.c0
    have r1 := R.c1
    have r2 := R.c2
    have z0 := R.frozen 0
    have z1 := R.frozen 1
    have z2 := R.frozen 2
    have ltR := R.lt
    go_wp2_with fail
    have T2 := (((R.set 0 (.int .i64 d.kind)).set 1 (.int .i64 d.num)).set 2 (.slice s4 d.kids.length c4)).alloc (.cells #[.int .i64 d.kind, .int .i64 d.num, .slice s4 d.kids.length c4] 30)
    have hs5 : Spares (fun y => y = w.heap.size + 1 + 1) w4 ((((w4.setCell ⟨w.heap.size + 1 + 1, 0, none⟩ (.int .i64 d.kind)).setCell ⟨w.heap.size + 1 + 1, 1, none⟩ (.int .i64 d.num)).setCell ⟨w.heap.size + 1 + 1, 2, none⟩ (.slice s4 d.kids.length c4)).alloc (.cells #[.int .i64 d.kind, .int .i64 d.num, .slice s4 d.kids.length c4] 30)) := (Spares.set (Spares.set (Spares.set (Spares.refl w4)))).trans (Spares.of_below (Below.alloc (Below.refl _ _) (Nat.le_refl _) _))
    generalize (((w4.setCell ⟨w.heap.size + 1 + 1, 0, none⟩ (.int .i64 d.kind)).setCell ⟨w.heap.size + 1 + 1, 1, none⟩ (.int .i64 d.num)).setCell ⟨w.heap.size + 1 + 1, 2, none⟩ (.slice s4 d.kids.length c4)).alloc (.cells #[.int .i64 d.kind, .int .i64 d.num, .slice s4 d.kids.length c4] 30) = w5 at T2 hs5 ⊢
    have t0 := T2.c0
    have t1 := T2.c1
    have t2 := T2.c2
    have hzB5 := hB.size
    have hB5 := hB.trans (hs5.below (B := w.heap.size) (by omega) (fun y hy => by omega))
    refine bodyPost_ret (v := .tuple #[.agg #[.int .i64 d.kind, .int .i64 d.num, .slice s4 d.kids.length c4], .int .i64 0]) (by simp [results, Tryz.results15, go_sem, t0, t1, t2]) rfl ?_
    have e1 : derE t a m x (.mk k n ks) = d := by simp [derE, Ho.out, Hs1.out, Hs2.out, Hs3.out, optE]
    have e2 : derC t a m x (.mk k n ks) = 0 := by simp [derC, Ho.out, Hs1.out, Hs2.out, Hs3.out]
    rw [e1, e2]
    exact ⟨_, _, rfl, Freshs.from (Freshs.keep hf4 (fun y _ hy2 => hs5.block y hy2 (by omega))) szW3, hB5⟩
end Go.Proofs.YtjlmdhoajfdkbaaGreatDoor

namespace Go.Proofs.YtjlmdhoajfdkbaaGreatDoor
set_option linter.unusedVariables false
set_option linter.unusedSimpArgs false
open Go.ChangeShapes Go.WideShapes Go.ChangeAt Go.RowKit Go.Sort
theorem marksL_cells : ∀ ks : List Ex, D.marksL (Ex.cellsL ks) = 2 * Ex.sizeL ks
  | [] => by simp [Ex.cellsL, D.marksL, Ex.sizeL]
  | .mk k n us :: r => by
    have h1 := marksL_cells us
    have h2 := marksL_cells r
    simp only [Ex.cellsL, Ex.cells, List.cons_append, List.nil_append, D.marksL, D.marks, Ex.sizeL, Ex.size, h1, h2]
    omega
theorem cellsL_take : ∀ (ks : List Ex) (j : Nat), (Ex.cellsL ks).take (j * 3) = Ex.cellsL (ks.take j)
  | [], j => by simp [Ex.cellsL]
  | e :: r, 0 => by simp [Ex.cellsL]
  | e :: r, j + 1 => by
    simp only [List.take_succ_cons, Ex.cellsL]
    rw [← cellsL_take r j, List.take_append, Ex.cells_length, List.take_of_length_le (by rw [Ex.cells_length]; omega)]
    congr 2
    omega
set_option maxHeartbeats 2000000 in
theorem markExprS_all (N : Nat) : ∀ (ks : List Ex) (s : Option Addr) (c k : Nat) (F : List Nat) (w : World), Ex.sizeL ks ≤ N → Ow w (kidsD ks) (.slice s ks.length c) F → F.Nodup → k + 2 * Ex.sizeL ks ≤ 1000000000000 →
    Calls Tryz.prog 25 #[.slice s ks.length c, .int .i64 k] w fun e w' => e = .returned (.int .i64 (k + 2 * Ex.sizeL ks : Nat)) ∧ Ow w' (D.mark (kidsD ks) k) (.slice s ks.length c) F ∧ Only F w w' := by
  induction N using Nat.strongRecOn with
  | _ N ih =>
  intro ks s c k F w hN h hn hk
  have hkl := Ex.length_le_sizeL ks
  have H0 : Ow w (.sl 3 ks.length (mkd (Ex.cellsL ks) (0 * 3) k)) (.slice s ks.length c) F := by rw [Nat.zero_mul, mkd_zero]; exact h
  go_enter Tryz.func25, Tryz.ntmps25
  go_wp2_with fail
  go_loopw [1, 5] (fun q i wr => ∃ j : Nat, j ≤ ks.length ∧ i = .int .i64 j ∧ q = .int .i64 (k + 2 * Ex.sizeL (ks.take j) : Nat) ∧ Ow wr (.sl 3 ks.length (mkd (Ex.cellsL ks) (j * 3) k)) (.slice s ks.length c) F ∧ Only F w wr) (fun _ i _ => ks.length - (intOf i).toNat)
  case atStart => exact ⟨0, by omega, rfl, by simp [Ex.sizeL], H0, Only.refl _ _⟩
  case round =>
    clear h H0
    obtain ⟨j, hj, rfl, rfl, h, hO⟩ := hrel
    by_cases hlt : j < ks.length
    · obtain ⟨x, hx⟩ : ∃ e, ks[j]? = some e := ⟨_, List.getElem?_eq_getElem hlt⟩
      obtain ⟨b, o, rfl⟩ := h.spot (by omega)
      have hxs := Ex.size_eq x
      have hxm := Ex.sizeL_mem (List.mem_of_getElem? hx)
      have htk := Ex.sizeL_take_succ hx
      have htl := Ex.sizeL_take_le ks (j + 1)
      have c0 := Ex.cellsL_at ks j x hx 0 (by omega)
      have c1 := Ex.cellsL_at ks j x hx 1 (by omega)
      have c2 := Ex.cellsL_at ks j x hx 2 (by omega)
      rw [Ex.cells_eq] at c0 c1 c2
      rw [show 3 * j + 0 = j * 3 by omega] at c0
      rw [show 3 * j + 1 = j * 3 + 1 by omega] at c1
      rw [show 3 * j + 2 = j * 3 + 2 by omega] at c2
      simp only [List.getElem?_cons_zero, List.getElem?_cons_succ] at c0 c1 c2
      obtain ⟨q, hq⟩ : ∃ q, k + 2 * Ex.sizeL (ks.take j) = q := ⟨_, rfl⟩
      have m0 : D.marksL ((Ex.cellsL ks).take (j * 3)) = 2 * Ex.sizeL (ks.take j) := by rw [cellsL_take, marksL_cells]
      have m1 : D.marksL ((Ex.cellsL ks).take (j * 3 + 1)) = 2 * Ex.sizeL (ks.take j) + 1 := by rw [marks_step c0, m0]; rfl
      have m2 : D.marksL ((Ex.cellsL ks).take (j * 3 + 2)) = 2 * Ex.sizeL (ks.take j) + 2 := by rw [marks_step c1, m1]; rfl
      obtain ⟨g0, z0, gl, s0⟩ := h.int_cell hn (mkd_at c0 (Nat.le_refl _) k)
      obtain ⟨p1, p2⟩ := s0 (q : Int)
      have e1 := mkd_step c0 k
      rw [m0, hq] at e1
      rw [show D.mark (D.int x.kind) q = D.int (q : Int) from by simp only [D.mark]] at e1
      rw [e1] at p1
      obtain ⟨g1, z1, -, s1⟩ := p1.int_cell hn (mkd_at c1 (Nat.le_refl _) k)
      obtain ⟨q1, q2⟩ := s1 ((q : Int) + 1)
      have e2 := mkd_step c1 k
      rw [m1, show k + (2 * Ex.sizeL (ks.take j) + 1) = q + 1 by omega] at e2
      rw [show D.mark (D.int x.num) (q + 1) = D.int ((q : Int) + 1) from by simp only [D.mark]; congr 1] at e2
      rw [e2] at q1
      obtain ⟨a', c', G, g2, z2, -, -, hGF, hGn, hG, s2⟩ := q1.sl_cell hn (mkd_at c2 (Nat.le_refl _) k)
      have e3 := mkd_step c2 k
      rw [m2, show k + (2 * Ex.sizeL (ks.take j) + 2) = q + 2 by omega] at e3
      rw [show j * 3 + 2 + 1 = (j + 1) * 3 by omega] at e3
      have He3 := Lib.hid e3
      have q12 := hO.trans (p2.trans q2)
      simp only [← Nat.add_assoc] at s2 q12
      have Hs2 := Lib.hid s2
      have Hq12 := Lib.hid q12
      have Hq : Hid (q + 2 + 2 * Ex.sizeL x.kids = k + 2 * Ex.sizeL (ks.take (j + 1))) := by show _ = _; omega
      have hqb : q + 2 + 2 * Ex.sizeL x.kids ≤ 1000000000000 := by omega
      have hxN : Ex.sizeL x.kids < N := by omega
      rw [← Nat.add_assoc] at g1 z1 g2 z2
      rw [hq]
      simp only [← Nat.add_assoc] at hG g2 z2
      clear q12 e1 e2 e3 m0 m1 m2 c0 c1 c2 hq p1 p2 q1 q2 s0 s1 s2 hxs hxm htk htl hO h hx
      go_wp2_with fail
      rw [show ((q : Int) + 1 + 1) = ((q + 2 : Nat) : Int) from by omega]
      refine (ih _ hxN x.kids a' c' (q + 2) G _ (Nat.le_refl _) hG hGn hqb).mono ?_
      rintro e w1 ⟨rfl, hm, hO2⟩
      obtain ⟨t1, t2⟩ := Hs2.out w1 _ hm hO2
      have t3 : Ow w1 (.sl 3 ks.length (mkd (Ex.cellsL ks) ((j + 1) * 3) k)) (.slice (some ⟨b, o, none⟩) ks.length c) F := by rw [← He3.out]; exact t1
      have Hfin := Lib.hid (And.intro t3 (Hq12.out.trans t2))
      clear t1 t2 t3 hm hO2 hG g2 z2 g0 z0 g1 z1
      rw [Hq.out]
      go_wp2_with fail
      go_roundw
      case rel => exact ⟨j + 1, by omega, by go_num, rfl, Hfin.out.1, Hfin.out.2⟩
      case measure => simp [intOf]; omega
    · obtain rfl : j = ks.length := by omega
      have e := mkd_all (Ex.cellsL ks) k
      rw [Ex.cellsL_length] at e
      rw [e] at h
      rw [List.take_length] at *
      go_wp2_with fail
      go_ret
      exact ⟨rfl, h, hO⟩
theorem markExpr_i {kd n : Int} {ks : List Ex} {s : Option Addr} {c k : Nat} {F : List Nat} {w : World} (h : Ow w (kidsD ks) (.slice s ks.length c) F) (hn : F.Nodup) (hk : k + 2 * Ex.sizeL ks ≤ 1000000000000) :
    Calls Tryz.prog 20 #[.agg #[.int .i64 kd, .int .i64 n, .slice s ks.length c], .int .i64 k] w fun e w' => e = .returned (.int .i64 (k + 2 * Ex.sizeL ks : Nat)) ∧ Ow w' (D.mark (kidsD ks) k) (.slice s ks.length c) F ∧ Only F w w' := by
  have hO : Only F w (w.alloc (.cells #[.int .i64 kd, .int .i64 n, .slice s ks.length c] 30)) := (Only.refl _ _).alloc _
  have h' := h.keep (w' := w.alloc (.cells #[.int .i64 kd, .int .i64 n, .slice s ks.length c] 30)) fun b hb => Below.heap_alloc w _ b (h.lt b hb)
  go_enter Tryz.func20, Tryz.ntmps20
  go_wp2_with fail
  refine (markExprS_all _ ks s c k F _ (Nat.le_refl _) h' hn hk).mono ?_
  rintro e w1 ⟨rfl, hm, hO2⟩
  go_wp2_with fail
  go_ret
  exact ⟨rfl, hm, hO.trans hO2⟩
set_option maxHeartbeats 2000000 in
theorem heldExprS_all (N : Nat) : ∀ (ks : List Ex) (s : Option Addr) (c k : Nat) (w : World), Ex.sizeL ks ≤ N → Rd w (D.mark (kidsD ks) k) (.slice s ks.length c) → k + 2 * Ex.sizeL ks ≤ 1000000000000 →
    Calls Tryz.prog 26 #[.slice s ks.length c, .int .i64 k] w fun e w' => e = .returned (.int .i64 (k + 2 * Ex.sizeL ks : Nat)) ∧ w = w' := by
  induction N using Nat.strongRecOn with
  | _ N ih =>
  intro ks s c k w hN h hk
  have hkl := Ex.length_le_sizeL ks
  have h' := h
  unfold kidsD D.mark at h'
  obtain ⟨-, hln, hcp, -, -, h4⟩ := h'.sl_at
  unfold maxLen at hcp
  clear h'
  go_enter Tryz.func26, Tryz.ntmps26
  go_wp2_with fail
  go_loop [1, 5] (fun q i => ∃ j : Nat, j ≤ ks.length ∧ i = .int .i64 j ∧ q = .int .i64 (k + 2 * Ex.sizeL (ks.take j) : Nat)) (fun _ i => ks.length - (intOf i).toNat)
  case atStart => exact ⟨0, by omega, rfl, by simp [Ex.sizeL]⟩
  case round =>
    obtain ⟨j, hj, rfl, rfl⟩ := hrel
    by_cases hlt : j < ks.length
    · obtain ⟨x, hx⟩ : ∃ e, ks[j]? = some e := ⟨_, List.getElem?_eq_getElem hlt⟩
      rcases h4 with h4 | ⟨b, o, rfl, h4⟩
      · omega
      have hxs := Ex.size_eq x
      have hxm := Ex.sizeL_mem (List.mem_of_getElem? hx)
      have htk := Ex.sizeL_take_succ hx
      have htl := Ex.sizeL_take_le ks (j + 1)
      have c0 := Ex.cellsL_at ks j x hx 0 (by omega)
      have c1 := Ex.cellsL_at ks j x hx 1 (by omega)
      have c2 := Ex.cellsL_at ks j x hx 2 (by omega)
      rw [Ex.cells_eq] at c0 c1 c2
      rw [show 3 * j + 0 = j * 3 by omega] at c0
      rw [show 3 * j + 1 = j * 3 + 1 by omega] at c1
      rw [show 3 * j + 2 = j * 3 + 2 by omega] at c2
      simp only [List.getElem?_cons_zero, List.getElem?_cons_succ] at c0 c1 c2
      obtain ⟨q, hq⟩ : ∃ q, k + 2 * Ex.sizeL (ks.take j) = q := ⟨_, rfl⟩
      have m0 : D.marksL ((Ex.cellsL ks).take (j * 3)) = 2 * Ex.sizeL (ks.take j) := by rw [cellsL_take, marksL_cells]
      have m1 : D.marksL ((Ex.cellsL ks).take (j * 3 + 1)) = 2 * Ex.sizeL (ks.take j) + 1 := by rw [marks_step c0, m0]; rfl
      have m2 : D.marksL ((Ex.cellsL ks).take (j * 3 + 2)) = 2 * Ex.sizeL (ks.take j) + 2 := by rw [marks_step c1, m1]; rfl
      have a0 := markL_at c0 k
      have a1 := markL_at c1 k
      have a2 := markL_at c2 k
      rw [m0, hq] at a0
      rw [m1, show k + (2 * Ex.sizeL (ks.take j) + 1) = q + 1 by omega] at a1
      rw [m2, show k + (2 * Ex.sizeL (ks.take j) + 2) = q + 2 by omega] at a2
      obtain ⟨x0, g0, r0⟩ := h4 _ _ a0
      obtain ⟨x1, g1, r1⟩ := h4 _ _ a1
      obtain ⟨x2, g2, r2⟩ := h4 _ _ a2
      simp only [D.mark, Rd] at r0 r1
      subst r0 r1
      obtain ⟨a', c', rfl, -⟩ : ∃ a' c', x2 = .slice a' x.kids.length c' ∧ True := by
        unfold kidsD D.mark at r2
        obtain ⟨a', c', e, _⟩ := r2.slice
        exact ⟨a', c', e, trivial⟩
      have Hq : Hid (q + 2 + 2 * Ex.sizeL x.kids = k + 2 * Ex.sizeL (ks.take (j + 1))) := by show _ = _; omega
      have hqb : q + 2 + 2 * Ex.sizeL x.kids ≤ 1000000000000 := by omega
      have hxN : Ex.sizeL x.kids < N := by omega
      rw [← Nat.add_assoc] at g1 g2
      rw [hq]
      rw [show ((q + 1 : Nat) : Int) = (q : Int) + 1 from by omega] at g1
      clear m0 m1 m2 c0 c1 c2 a0 a1 a2 hq hxs hxm htk htl h hx h4
      go_wp2_with fail
      rw [show ((q : Int) + 1 + 1) = ((q + 2 : Nat) : Int) from by omega]
      refine (ih _ hxN x.kids a' c' (q + 2) _ (Nat.le_refl _) r2 hqb).mono ?_
      rintro e w' ⟨rfl, rfl⟩
      rw [Hq.out]
      clear g0 g1 g2
      go_wp2_with fail
      go_round
      case rel => exact ⟨j + 1, by omega, by go_num, rfl⟩
      case measure => simp [intOf]; omega
    · obtain rfl : j = ks.length := by omega
      rw [List.take_length] at *
      go_wp2_with fail
      go_ret
      exact ⟨rfl, rfl⟩
theorem heldExpr_i {kd n : Int} {ks : List Ex} {s : Option Addr} {c k : Nat} {w : World} (h : Rd w (D.mark (kidsD ks) k) (.slice s ks.length c)) (hk : k + 2 * Ex.sizeL ks ≤ 1000000000000) :
    Calls Tryz.prog 21 #[.agg #[.int .i64 kd, .int .i64 n, .slice s ks.length c], .int .i64 k] w fun e w' => e = .returned (.int .i64 (k + 2 * Ex.sizeL ks : Nat)) ∧ Below w.heap.size w w' := by
  have h' := h.alloc (.cells #[.int .i64 kd, .int .i64 n, .slice s ks.length c] 30)
  go_enter Tryz.func21, Tryz.ntmps21
  go_wp2_with fail
  refine (heldExprS_all _ ks s c k _ (Nat.le_refl _) h' hk).mono ?_
  rintro e w' ⟨rfl, rfl⟩
  go_wp2_with fail
  go_ret
  exact ⟨rfl, by (repeat' first | exact Below.refl _ _ | assumption | apply Below.alloc | apply Below.drew | apply Below.setCell | omega | (simp; done) | (simp; omega))⟩
theorem Ows.single {w : World} {d : D} {v : Value} {F : List Nat} (h : Ows w [d] [v] F) : Ow w d v F := by
  simp only [Ows] at h
  obtain ⟨x, r, G, K, e1, e2, h1, e3, rfl⟩ := h
  simp only [List.cons.injEq] at e1
  obtain ⟨rfl, -⟩ := e1
  rw [e2, List.append_nil]
  exact h1
theorem Ow.single {w : World} {d : D} {v : Value} {F : List Nat} (h : Ow w d v F) : Ows w [d] [v] F := by
  have := Ows.cons h Ows.nil
  simpa using this
theorem markExprL_i {kd n : Int} {ks : List Ex} {s : Option Addr} {c k : Nat} {F : List Nat} {w : World} (h : Ows w [kidsD ks] [.slice s ks.length c] F) (hn : F.Nodup) (hk : k + 2 * Ex.sizeL ks ≤ 1000000000000) :
    Calls Tryz.prog 20 #[.agg #[.int .i64 kd, .int .i64 n, .slice s ks.length c], .int .i64 k] w fun e w' => e = .returned (.int .i64 (k + 2 * Ex.sizeL ks : Nat)) ∧ Ows w' (D.markL [kidsD ks] k) [.slice s ks.length c] F ∧ Only F w w' :=
  (markExpr_i h.single hn hk).mono fun _ _ ⟨h1, h2, h3⟩ => ⟨h1, h2.single, h3⟩
theorem heldExprL_i {kd n : Int} {ks : List Ex} {s : Option Addr} {c k : Nat} {w : World} (h : Rds w (D.markL [kidsD ks] k) [.slice s ks.length c]) (hk : k + 2 * Ex.sizeL ks ≤ 1000000000000) :
    Calls Tryz.prog 21 #[.agg #[.int .i64 kd, .int .i64 n, .slice s ks.length c], .int .i64 k] w fun e w' => e = .returned (.int .i64 (k + 2 * Ex.sizeL ks : Nat)) ∧ Below w.heap.size w w' :=
  heldExpr_i (Rds.one h) hk
end Go.Proofs.YtjlmdhoajfdkbaaGreatDoor

namespace Go.Proofs.YtjlmdhoajfdkbaaGreatDoor
set_option linter.unusedVariables false
set_option linter.unusedSimpArgs false
open Go.ChangeShapes Go.WideShapes Go.ChangeAt Go.RowKit
def Szd (n : Nat) (left : Int) (e : Ending) : Prop := ∃ r : Int, e = .returned (.int .i64 r) ∧ r ≤ left ∧ -1 ≤ r ∧ (0 ≤ r → (n : Int) + r ≤ left)
def SzS (N : Nat) : Prop := ∀ (ks : List Ex) (s : Option Addr) (cap : Nat) (left : Int) (w : World), Ex.sizeL ks ≤ N → Rd w (kidsD ks) (.slice s ks.length cap) → 0 ≤ left → left ≤ 1048576 →
    Calls Tryz.prog 61 #[.slice s ks.length cap, .int .i64 left] w fun e w' => Szd (Ex.sizeL ks) left e ∧ Below w.heap.size w w'
theorem szExpr_of {N : Nat} (hS : SzS N) (k n : Int) (ks : List Ex) (s : Option Addr) (cap : Nat) (left : Int) (w : World) (hN : Ex.sizeL ks ≤ N) (hr : Rd w (kidsD ks) (.slice s ks.length cap)) (h0 : 0 ≤ left) (h1 : left ≤ 1048576) :
    Calls Tryz.prog 14 #[.agg #[.int .i64 k, .int .i64 n, .slice s ks.length cap], .int .i64 left] w fun e w' => Szd (Ex.sizeL ks) left e ∧ Below w.heap.size w w' := by
  go_enter Tryz.func14, Tryz.ntmps14
  go_wp2_with fail
  refine (hS ks s cap left _ hN (hr.alloc _) h0 h1).mono ?_
  rintro e w1 ⟨⟨r, rfl, r1, r2, r3⟩, hb⟩
  have hB : Below w.heap.size w w1 := Below.on (by (repeat' first | exact Below.refl _ _ | assumption | apply Below.alloc | apply Below.drew | apply Below.setCell | omega | (simp; done) | (simp; omega))) hb (by simp)
  clear hb
  go_wp2
  · go_ret
    exact ⟨⟨-1, rfl, by omega, by omega, by omega⟩, hB⟩
  · go_ret
    exact ⟨⟨r, rfl, r1, r2, r3⟩, hB⟩
set_option maxHeartbeats 400000 in
theorem szExprS_all (N : Nat) : SzS N := by
  induction N using Nat.strongRecOn with
  | _ N ih =>
  intro ks s cap left w hN hr h0 h1
  obtain ⟨-, hlen, hcap, -, -⟩ := kid_at hr
  unfold maxLen at hcap
  have hsz := Ex.length_le_sizeL ks
  by_cases hneg : left - (ks.length : Int) < 0
  · go_enter Tryz.func61, Tryz.ntmps61
    go_wp2_with fail
    go_ret
    exact ⟨⟨-1, rfl, by omega, by omega, by omega⟩, Below.refl _ _⟩
  · have hd : decide (left - (ks.length : Int) < 0) = false := by simpa using hneg
    go_enter Tryz.func61, Tryz.ntmps61
    go_wp2_with fail
    go_loopw [1, 5] (fun l i wr => ∃ (k : Nat) (r : Int), k ≤ ks.length ∧ i = .int .i64 k ∧ l = .int .i64 r ∧ 0 ≤ r ∧ (ks.length : Int) + (Ex.sizeL (ks.take k) : Int) - k + r ≤ left ∧ r ≤ left ∧ Below w.heap.size w wr) (fun _ i _ => ks.length - (intOf i).toNat)
    case atStart => exact ⟨0, _, by omega, rfl, rfl, by omega, by simp [Ex.sizeL]; omega, by omega, Below.refl _ _⟩
    case round =>
      obtain ⟨k, r, hk, rfl, rfl, hr0, hr1, hr2, hB⟩ := hrel
      by_cases hlt : k < ks.length
      · obtain ⟨e, he⟩ : ∃ e, ks[k]? = some e := ⟨_, List.getElem?_eq_getElem hlt⟩
        obtain ⟨b, o, rfl⟩ := kid_some hr (by intro h; simp [h] at hlt)
        obtain ⟨hbl, s', c', g0, g1, g2, gr⟩ := kid_in (hr.below hB) he
        have hse := Ex.size_eq e
        have hmem := Ex.sizeL_mem (List.mem_of_getElem? he)
        have htk := Ex.sizeL_take_succ he
        have Htk := Lib.hid htk
        have Hse := Lib.hid hse
        have hlt' : Ex.sizeL e.kids < N := by omega
        clear htk hse
        go_wp2_with fail
        refine (szExpr_of (ih _ hlt') _ _ _ _ _ _ _ (Nat.le_refl _) gr hr0 (by omega)).mono ?_
        rintro e1 w1 ⟨⟨r', rfl, r1, r2, r3⟩, hb⟩
        have hB1 : Below w.heap.size w w1 := Below.on hB hb hB.size
        by_cases hr' : r' < 0
        · go_wp2_with fail
          go_ret
          exact ⟨⟨-1, rfl, by omega, by omega, by omega⟩, hB1⟩
        · have hd' : decide (r' < 0) = false := by simpa using hr'
          go_wp2_with fail
          go_roundw
          case rel =>
            have := Htk.out
            have := Hse.out
            exact ⟨k + 1, r', by omega, by go_num, rfl, by omega, by omega, by omega, hB1⟩
          case measure => simp [intOf]; omega
      · obtain rfl : k = ks.length := by omega
        have hfull : Ex.sizeL (ks.take ks.length) = Ex.sizeL ks := by rw [List.take_length]
        have H := Lib.hid hfull
        clear hfull
        go_wp2_with fail
        go_ret
        have := H.out
        exact ⟨⟨r, rfl, by omega, by omega, by omega⟩, hB⟩
theorem szExpr_i {k n : Int} {ks : List Ex} {s : Option Addr} {cap : Nat} {left : Int} {w : World} (hr : Rd w (kidsD ks) (.slice s ks.length cap)) (h0 : 0 ≤ left) (h1 : left ≤ 1048576) :
    Calls Tryz.prog 14 #[.agg #[.int .i64 k, .int .i64 n, .slice s ks.length cap], .int .i64 left] w fun e w' => Szd (Ex.sizeL ks) left e ∧ Below w.heap.size w w' :=
  szExpr_of (szExprS_all _) k n ks s cap left w (Nat.le_refl _) hr h0 h1
end Go.Proofs.YtjlmdhoajfdkbaaGreatDoor

namespace Go.Proofs.YtjlmdhoajfdkbaaGreatDoor
set_option linter.unusedVariables false
set_option linter.unusedSimpArgs false
open Go.ChangeShapes Go.WideShapes Go.ChangeAt Go.RowKit
theorem info_implExpr : (Tryz.prog.info? 30).map (fun i => (i.zero, i.size, i.bytes)) = some (some (.agg #[.int .i64 0, .int .i64 0, .slice none 0 0]), 3, 40) := by kernel_rfl
def ToS (N : Nat) : Prop := ∀ (ks : List Ex) (s : Option Addr) (cap : Nat) (w : World), Ex.sizeL ks ≤ N → Rd w (kidsD ks) (.slice s ks.length cap) → Ex.sizeL ks ≤ 1048576 →
    Calls Tryz.prog 66 #[.slice s ks.length cap] w fun e w' => ∃ s' c', e = .returned (.slice s' ks.length c') ∧ Fresh w w' (kidsD ks) (.slice s' ks.length c') ∧ Below w.heap.size w w'
theorem toExpr_of {N : Nat} (hS : ToS N) (k n : Int) (ks : List Ex) (s : Option Addr) (cap : Nat) (w : World) (hN : Ex.sizeL ks ≤ N) (hr : Rd w (kidsD ks) (.slice s ks.length cap)) (h1 : Ex.sizeL ks ≤ 1048576) :
    Calls Tryz.prog 17 #[.agg #[.int .i64 k, .int .i64 n, .slice s ks.length cap]] w fun e w' => ∃ s' c', e = .returned (.agg #[.int .i64 k, .int .i64 n, .slice s' ks.length c']) ∧ Fresh w w' (kidsD ks) (.slice s' ks.length c') ∧ Below w.heap.size w w' := by
  go_enter Tryz.func17, Tryz.ntmps17
  go_wp2_with fail
  refine (hS ks s cap _ hN (by repeat (first | exact hr | apply Rd.alloc)) h1).mono ?_
  rintro e w1 ⟨s', c', rfl, hfr, hb⟩
  obtain ⟨hc, hf, hz⟩ := bcell hb
  simp at hz
  have q0 : w.heap.size < w1.heap.size := by omega
  have q1 : w.heap.size + 1 < w1.heap.size := by omega
  have q2 : w.heap.size + 1 + 1 < w1.heap.size := by omega
  have hB : Below w.heap.size w w1 := Below.on (by (repeat' first | exact Below.refl _ _ | assumption | apply Below.alloc | apply Below.drew | apply Below.setCell | omega | (simp; done) | (simp; omega))) hb (by simp; omega)
  clear hb
  go_wp2
  refine bodyPost_ret (v := .agg #[.int .i64 k, .int .i64 n, .slice s' ks.length c']) (by simp [results, Tryz.results17, go_sem, hc]) rfl ⟨s', c', rfl, ?_, by (repeat' first | exact Below.refl _ _ | assumption | apply Below.alloc | apply Below.drew | apply Below.setCell | omega | (simp; done) | (simp; omega))⟩
  refine Fresh.from (hfr.keep fun b h1 _ => ?_) (by simp; omega)
  simp at h1
  rw [Below.heap_setCell _ _ _ _ (by simp; omega), Below.heap_setCell _ _ _ _ (by simp; omega), Below.heap_setCell _ _ _ _ (by simp; omega), Below.heap_setCell _ _ _ _ (by simp; omega)]
theorem toExprS_all (N : Nat) : ToS N := by
  induction N using Nat.strongRecOn with
  | _ N ih =>
  intro ks s cap w hN hr h1
  obtain ⟨-, hlen, hcap, -, -⟩ := kid_at hr
  unfold maxLen at hcap
  have hsz := Ex.length_le_sizeL ks
  obtain ⟨i0, hi, hz0, hz1, hz2⟩ := info_parts info_implExpr
  go_enter Tryz.func66, Tryz.ntmps66
  go_wp2_with (at_make; refine wpList_make_full _ rfl _ _ 28 rfl w.heap.size 30 i0 (.agg #[.int .i64 0, .int .i64 0, .slice none 0 0]) 3 Tryz.underlying28 hi hz0 hz1 .i64 .i64 _ _ ks.length rfl rfl rfl rfl (by rw [hz2]; omega) (by unfold maxLen; omega) (Nat.le_refl _) ?_; intro w0 hown hgrow)
  have hp := Part.start hown
  have hB0 : Below w.heap.size w w0 := Below.grown (Below.refl _ _) hgrow (Nat.le_refl _) (by simp)
  have hz0' := hp.lt
  clear hown hgrow
  go_loopw [4] (fun i wr => ∃ k : Nat, k ≤ ks.length ∧ i = .int .i64 k ∧ Part wr w.heap.size 30 (Ex.cellsL (ks.take k)) (ks.length * 3) ∧ Below w.heap.size w wr) (fun i _ => ks.length - (intOf i).toNat)
  case atStart => exact ⟨0, by omega, rfl, by simpa [Ex.cellsL] using hp, hB0⟩
  case round =>
    clear hp hB0 hz0'
    obtain ⟨k, hk, rfl, hp, hB⟩ := hrel
    by_cases hlt : k < ks.length
    · obtain ⟨e, he⟩ : ∃ e, ks[k]? = some e := ⟨_, List.getElem?_eq_getElem hlt⟩
      obtain ⟨b, o, rfl⟩ := kid_some hr (by intro h; simp [h] at hlt)
      obtain ⟨hbl, s', c', g0, g1, g2, gr⟩ := kid_in (hr.below hB) he
      have hlt' : Ex.sizeL e.kids < N := by
        have := Ex.size_eq e
        have := Ex.sizeL_mem (List.mem_of_getElem? he)
        omega
      have hle : Ex.sizeL e.kids ≤ 1048576 := by
        have := Ex.size_eq e
        have := Ex.sizeL_mem (List.mem_of_getElem? he)
        omega
      go_wp2_with fail
      refine (toExpr_of (ih _ hlt') _ _ _ _ _ _ (Nat.le_refl _) gr hle).mono ?_
      rintro e1 w1 ⟨s2, c2, rfl, ⟨G, hG1, hG2, hG3⟩, hb⟩
      have hlt2 := hp.lt
      have hz := hb.size
      obtain ⟨y0, d0⟩ := (hp.below hb).cell (k * 3) (by omega)
      obtain ⟨y1, d1⟩ := (hp.below hb).cell (k * 3 + 1) (by omega)
      obtain ⟨y2, d2⟩ := (hp.below hb).cell (k * 3 + 2) (by omega)
      have z0 := (hp.below hb).frozen (k * 3)
      have z1 := (hp.below hb).frozen (k * 3 + 1)
      have z2 := (hp.below hb).frozen (k * 3 + 2)
      have hst := hp.step hb (Ows.three (k := e.kind) (n := e.num) hG1) hG2 hG3 (o := k * 3) (by rw [Ex.cellsL_length, List.length_take, Nat.min_eq_left hk]) (by simp; omega)
      rw [← Ex.cellsL_take_succ he] at hst
      have Hst : Hid (Part (((w1.setCell ⟨w.heap.size, k * 3, none⟩ (.int .i64 e.kind)).setCell ⟨w.heap.size, k * 3 + 1, none⟩ (.int .i64 e.num)).setCell ⟨w.heap.size, k * 3 + 2, none⟩ (.slice s2 e.kids.length c2)) w.heap.size 30 (Ex.cellsL (ks.take (k + 1))) (ks.length * 3)) := hst
      have hB1 : Below w.heap.size w w1 := Below.on hB hb (by omega)
      clear hst
      go_wp2_with fail
      go_roundw
      case rel => exact ⟨k + 1, by omega, by go_num, Hst.out, by (repeat' first | exact Below.refl _ _ | assumption | apply Below.alloc | apply Below.drew | apply Below.setCell | omega | (simp; done) | (simp; omega))⟩
      case measure => simp [intOf]; omega
    · obtain rfl : k = ks.length := by omega
      rw [List.take_length] at hp
      go_wp2_with fail
      go_ret
      exact ⟨_, _, rfl, hp.done (Nat.le_refl _) (Ex.cellsL_length ks) (Nat.le_refl _) (by unfold maxLen; omega), hB⟩
theorem toExpr_any (k n : Int) (ks : List Ex) (s : Option Addr) (cap : Nat) (w : World) (hr : Rd w (kidsD ks) (.slice s ks.length cap)) (h1 : Ex.sizeL ks ≤ 1048576) :
    Calls Tryz.prog 17 #[.agg #[.int .i64 k, .int .i64 n, .slice s ks.length cap]] w fun e w' => ∃ s' c', e = .returned (.agg #[.int .i64 k, .int .i64 n, .slice s' ks.length c']) ∧ Fresh w w' (kidsD ks) (.slice s' ks.length c') ∧ Below w.heap.size w w' :=
  toExpr_of (toExprS_all _) k n ks s cap w (Nat.le_refl _) hr h1
theorem toExpr_i {k n : Int} {ks : List Ex} {s : Option Addr} {cap : Nat} {w : World} (hr : Rd w (kidsD ks) (.slice s ks.length cap)) (h1 : Ex.sizeL ks ≤ 1048576) :
    Calls Tryz.prog 17 #[.agg #[.int .i64 k, .int .i64 n, .slice s ks.length cap]] w fun e w' => ∃ s' c', e = .returned (.agg #[.int .i64 k, .int .i64 n, .slice s' ks.length c']) ∧ Freshs w w' [kidsD ks] [.slice s' ks.length c'] ∧ Below w.heap.size w w' :=
  (toExpr_any k n ks s cap w hr h1).mono fun _ _ ⟨s', c', he, hf, hb⟩ => ⟨s', c', he, Freshs.one hf, hb⟩
end Go.Proofs.YtjlmdhoajfdkbaaGreatDoor

namespace Go.Proofs.YtjlmdhoajfdkbaaGreatDoor
set_option linter.unusedVariables false
set_option linter.unusedSimpArgs false
open Go.ChangeShapes Go.WideShapes Go.ChangeAt Go.RowKit Go.Sort
def EqS (N : Nat) : Prop := ∀ (ks js : List Ex) (s t : Option Addr) (cap cap' : Nat) (w : World), Ex.sizeL ks ≤ N → Rd w (kidsD ks) (.slice s ks.length cap) → Rd w (kidsD js) (.slice t js.length cap') →
    Calls Tryz.prog 24 #[.slice s ks.length cap, .slice t js.length cap'] w fun e w' => e = .returned (.bool (eqb ks js)) ∧ Below w.heap.size w w'
theorem eqExpr_of {N : Nat} (hS : EqS N) (k n k' n' : Int) (ks js : List Ex) (s t : Option Addr) (cap cap' : Nat) (w : World) (hN : Ex.sizeL ks ≤ N) (hr : Rd w (kidsD ks) (.slice s ks.length cap)) (hr' : Rd w (kidsD js) (.slice t js.length cap')) :
    Calls Tryz.prog 19 #[.agg #[.int .i64 k, .int .i64 n, .slice s ks.length cap], .agg #[.int .i64 k', .int .i64 n', .slice t js.length cap']] w fun e w' => e = .returned (.bool (eqb (Ex.mk k n ks) (Ex.mk k' n' js))) ∧ Below w.heap.size w w' := by
  by_cases h1 : k = k'
  · subst h1
    by_cases h2 : n = n'
    · subst h2
      have b1 : (k != k) = false := by simp
      have b2 : (n != n) = false := by simp
      have e1 : eqb (Ex.mk k n ks) (Ex.mk k n js) = eqb ks js := by
        by_cases h : ks = js
        · rw [eqb_true h, eqb_true (by rw [h])]
        · rw [eqb_false h, eqb_false (by simp [h])]
      rw [e1]
      clear e1
      go_enter Tryz.func19, Tryz.ntmps19
      go_wp2_with fail
      refine (hS ks js s t cap cap' _ hN (by repeat (first | exact hr | apply Rd.alloc)) (by repeat (first | exact hr' | apply Rd.alloc))).mono ?_
      rintro e w1 ⟨rfl, hb⟩
      have hB : Below w.heap.size w w1 := Below.on (by (repeat' first | exact Below.refl _ _ | assumption | apply Below.alloc | apply Below.drew | apply Below.setCell | omega | (simp; done) | (simp; omega))) hb (by simp; omega)
      clear hb
      go_wp2
      all_goals go_ret
      all_goals exact ⟨by simp_all, hB⟩
    · have b1 : (k != k) = false := by simp
      have b2 : (n != n') = true := by simp [h2]
      have e1 : eqb (Ex.mk k n ks) (Ex.mk k n' js) = false := eqb_false (by simp [h2])
      rw [e1]
      go_enter Tryz.func19, Tryz.ntmps19
      go_wp2_with fail
      go_ret
      exact ⟨rfl, by (repeat' first | exact Below.refl _ _ | assumption | apply Below.alloc | apply Below.drew | apply Below.setCell | omega | (simp; done) | (simp; omega))⟩
  · have b1 : (k != k') = true := by simp [h1]
    have e1 : eqb (Ex.mk k n ks) (Ex.mk k' n' js) = false := eqb_false (by simp [h1])
    rw [e1]
    go_enter Tryz.func19, Tryz.ntmps19
    go_wp2_with fail
    go_ret
    exact ⟨rfl, by (repeat' first | exact Below.refl _ _ | assumption | apply Below.alloc | apply Below.drew | apply Below.setCell | omega | (simp; done) | (simp; omega))⟩
theorem eqExprS_all (N : Nat) : EqS N := by
  induction N using Nat.strongRecOn with
  | _ N ih =>
  intro ks js s t cap cap' w hN hr hr'
  obtain ⟨-, hlen, hcap, -, -⟩ := kid_at hr
  obtain ⟨-, hlen', hcap', -, -⟩ := kid_at hr'
  unfold maxLen at hcap hcap'
  by_cases hl : ks.length = js.length
  · have b1 : ((ks.length : Int) != (js.length : Int)) = false := by simp [hl]
    have Hl := Lib.hid hl
    clear hl
    go_enter Tryz.func24, Tryz.ntmps24
    go_wp2_with fail
    go_loopw [5] (fun i wr => ∃ k : Nat, k ≤ ks.length ∧ i = .int .i64 k ∧ ks.take k = js.take k ∧ Below w.heap.size w wr) (fun i _ => ks.length - (intOf i).toNat)
    case atStart => exact ⟨0, by omega, rfl, by simp, Below.refl _ _⟩
    case round =>
      obtain ⟨k, hk, rfl, hpre, hB⟩ := hrel
      have Hpre := Lib.hid hpre
      clear hpre
      by_cases hlt : k < ks.length
      · have hlt' : k < js.length := by have := Hl.out; omega
        obtain ⟨e, he⟩ : ∃ e, ks[k]? = some e := ⟨_, List.getElem?_eq_getElem hlt⟩
        obtain ⟨f, hf⟩ : ∃ e, js[k]? = some e := ⟨_, List.getElem?_eq_getElem hlt'⟩
        obtain ⟨b, o, rfl⟩ := kid_some hr (by intro h; simp [h] at hlt)
        obtain ⟨c, p, rfl⟩ := kid_some hr' (by intro h; simp [h] at hlt')
        obtain ⟨-, s', c', g0, g1, g2, gr⟩ := kid_in (hr.below hB) he
        obtain ⟨-, t', d', k0, k1, k2, kr⟩ := kid_in (hr'.below hB) hf
        have hltN : Ex.sizeL e.kids < N := by
          have := Ex.size_eq e
          have := Ex.sizeL_mem (List.mem_of_getElem? he)
          omega
        have ha := Int.natCast_nonneg k
        have hb : (k : Int) < (ks.length : Int) := by omega
        have hb' : (k : Int) < (js.length : Int) := by omega
        have i0 := fun d os => cell_regrown g0 d os
        have i1 := fun d os => cell_regrown g1 d os
        have i2 := fun d os => cell_regrown g2 d os
        have j0 := fun d os => cell_regrown k0 d os
        have j1 := fun d os => cell_regrown k1 d os
        have j2 := fun d os => cell_regrown k2 d os
        clear g0 g1 g2 k0 k1 k2
        go_wp2_with fail
        refine Go.wp_region_quiet_below (by kernel_rfl) (by kernel_rfl) ?_
        repeat (quiet_step (exact Calls.regrown_of (eqExpr_of (ih _ hltN) _ _ _ _ _ _ _ _ _ _ _ (Nat.le_refl _) (gr.below (below_regrown _ _ _)) (kr.below (below_regrown _ _ _)))))
        refine wpQuiet_nil ?_; intro _ hw'; obtain ⟨⟨dq, osq⟩, hw''⟩ := hw'; subst hw''; have hq := below_regrown wr dq osq; revert hq; generalize grow (redrawn wr dq) osq = w1; intro hq
        have hB1 : Below w.heap.size w w1 := Below.on hB hq hB.size
        clear hq i0 i1 i2 j0 j1 j2
        by_cases hef : e = f
        · have c1 : eqb (Ex.mk e.kind e.num e.kids) (Ex.mk f.kind f.num f.kids) = true := eqb_true (by rw [hef])
          have Hst : Hid (ks.take (k + 1) = js.take (k + 1)) := by
            have h1 := List.getElem?_eq_some_iff.1 he
            have h2 := List.getElem?_eq_some_iff.1 hf
            show _ = _
            rw [List.take_succ_eq_append_getElem hlt, List.take_succ_eq_append_getElem hlt', Hpre.out, h1.2, h2.2, hef]
          clear hef
          simp only [c1, Bool.not_true]
          go_wp2_with fail
          go_roundw
          case rel => exact ⟨k + 1, by omega, by go_num, Hst.out, hB1⟩
          case measure => simp [intOf]; omega
        · have c1 : eqb (Ex.mk e.kind e.num e.kids) (Ex.mk f.kind f.num f.kids) = false := eqb_false (by rw [← Ex.eta, ← Ex.eta]; exact hef)
          have c2 : eqb ks js = false := eqb_false (by
            intro h
            rw [h] at he
            exact hef (Option.some.inj (he.symm.trans hf)))
          simp only [c1, Bool.not_false]
          go_wp2_with fail
          go_ret
          exact ⟨by first | rfl | (rw [c2]; rfl), hB1⟩
      · obtain rfl : k = ks.length := by omega
        have c2 : eqb ks js = true := eqb_true (by
          have := Hpre.out
          rwa [List.take_length, Hl.out, List.take_length] at this)
        go_wp2_with fail
        go_ret
        exact ⟨by first | rfl | (rw [c2]; rfl), hB⟩
  · have b1 : ((ks.length : Int) != (js.length : Int)) = true := by simp; omega
    have c2 : eqb ks js = false := eqb_false (by intro h; rw [h] at hl; exact hl rfl)
    go_enter Tryz.func24, Tryz.ntmps24
    go_wp2_with fail
    go_ret
    exact ⟨by first | rfl | (rw [c2]; rfl), Below.refl _ _⟩
theorem eqExpr_i {k n k' n' : Int} {ks js : List Ex} {s t : Option Addr} {cap cap' : Nat} {w : World} (hr : Rd w (kidsD ks) (.slice s ks.length cap)) (hr' : Rd w (kidsD js) (.slice t js.length cap')) :
    Calls Tryz.prog 19 #[.agg #[.int .i64 k, .int .i64 n, .slice s ks.length cap], .agg #[.int .i64 k', .int .i64 n', .slice t js.length cap']] w fun e w' => e = .returned (.bool (eqb (Ex.mk k n ks) (Ex.mk k' n' js))) ∧ Below w.heap.size w w' :=
  eqExpr_of (eqExprS_all _) k n k' n' ks js s t cap cap' w (Nat.le_refl _) hr hr'
end Go.Proofs.YtjlmdhoajfdkbaaGreatDoor
