/-
  Parts of a proof, joined: SpDot, SpDot2, Same, SpSum, Sorted, SpTidy, Mark, SpTidy2. No condition.
-/
import Derived.WalkKit
import Derived.ProofKit
import Derived.OpenShut
import Derived.ChangeSame
import Derived.Carry
import Derived.Deep.Slices
import Derived.Deep.LoopGhost
import Derived.Deep.DeepFit
import Derived.Deep.DeepMust
import Derived.Deep.RegionWith
import Derived.Deep.RegionHeld3
import Derived.Deep.QuietTactic
import Derived.BigQuiet
import Derived.WalkSpells
import Derived.WalkLawsBesides
import Derived.WalkSmall
import Derived.Lib.Hide
import Derived.Lib.QuietBelow
import Derived.Deep.CutRange
import Derived.Deep.AppendLies
import Derived.Lib.AppendStr
import Derived.Shelf.Strings.Builder1
import Derived.Shelf.Small.Bits
import Derived.Shelf.Small.Strs
import Derived.Shelf.Strings.BuilderF
import Derived.Shelf.Strings.BuilderK
import Derived.Shelf.Strconv.Itoa0
import Derived.Shelf.Strconv.Itoa1
import Derived.Shelf.LaysM
import Derived.Shelf.Strconv.Itoa2
import Derived.Shelf.Strconv.Itoa3
import Derived.Shelf.Strconv.Itoa4
import Derived.Shelf.Strings.BuilderCap
import Derived.Test.YtjlmdhoajfdkbaaGreatDoorProg
import Derived.Shelf.SlGeneric
import Derived.Shelf.SlSortCmp.WholeK
import Derived.Ground.SlsfProg
import Derived.Maps.OwnOps
import Derived.DeepKeys4
import Derived.Test.YtjlmdhoajfdkbaaGreatDoorPk0
import Derived.Test.YtjlmdhoajfdkbaaGreatDoorPk1
import Derived.Test.YtjlmdhoajfdkbaaGreatDoorPk2
import Derived.Test.YtjlmdhoajfdkbaaGreatDoorPk3
import Derived.Test.YtjlmdhoajfdkbaaGreatDoorPk4
namespace Go.Proofs.YtjlmdhoajfdkbaaGreatDoor
set_option linter.unusedVariables false
set_option linter.unusedSimpArgs false
open Go.ChangeShapes Go.WideShapes Go.ChangeAt Go.RowKit Go.Deep Go.Sort
def OutE (w : World) (e : Ex) (f : Ending) (w' : World) : Prop := ∃ s' c', f = .returned (.agg #[.int .i64 e.kind, .int .i64 e.num, .slice s' e.kids.length c']) ∧ Freshs w w' [kidsD e.kids] [.slice s' e.kids.length c'] ∧ Below w.heap.size w w'
theorem Freshs.single {w w' : World} {d : D} {v : Value} (h : Freshs w w' [d] [v]) : Fresh w w' d v := by
  obtain ⟨F, h1, h2, h3⟩ := h
  simp only [Ows] at h1
  obtain ⟨x, r, G, K, e1, rfl, hx, rfl, rfl⟩ := h1
  simp only [List.cons.injEq, and_true] at e1
  subst e1
  rw [List.append_nil] at h2 h3
  exact ⟨G, hx, h2, h3⟩
theorem nil_freshs {w w' : World} : Freshs w w' [kidsD []] [.slice none 0 0] :=
  Freshs.one ⟨[], by simp only [kidsD, Ow]; exact ⟨none, 0, rfl, by simp, by simp [maxLen], by simp [Ex.cellsL], by simp, Or.inl (by simp)⟩, by simp, by simp⟩
theorem ows_two {w : World} {d e : D} {u v : Value} {F : List Nat} (h : Ows w [d, e] [u, v] F) : ∃ G K, F = G ++ K ∧ Ow w d u G ∧ Ow w e v K := by
  simp only [Ows] at h
  obtain ⟨x, r, G, K, e1, rfl, hx, y, r', G', K', e2, rfl, hy, rfl, rfl⟩ := h
  simp only [List.cons.injEq] at e1
  obtain ⟨rfl, rfl⟩ := e1
  simp only [List.cons.injEq] at e2
  obtain ⟨rfl, -⟩ := e2
  exact ⟨G, G', by rw [List.append_nil], hx, hy⟩
theorem one_fresh {W w w' : World} {x : Ex} {sx : Option Addr} {cx g t : Nat} (h : Freshs W w [kidsD x.kids] [.slice sx x.kids.length cx]) (hb : Below w.heap.size w w') (hz : W.heap.size ≤ w.heap.size) (hg : w.heap.size ≤ g)
    (hk : Blk w' g t [.int .i64 x.kind, .int .i64 x.num, .slice sx x.kids.length cx]) : Freshs W w' [kidsD [x]] [.slice (some ⟨g, 0, none⟩) 1 1] := by
  obtain ⟨F, h1, h2, h3⟩ := h.single
  refine Freshs.one ⟨g :: F, ?_, List.nodup_cons.2 ⟨fun hm => ?_, h2⟩, fun b hm => ?_⟩
  · have h1' := h1.keep fun b hm => hb.block b (h1.lt b hm)
    unfold kidsD
    simp only [Ow]
    refine ⟨some ⟨g, 0, none⟩, 1, rfl, Nat.le_refl _, by unfold maxLen; omega, by rw [Ex.cellsL_length], (fun h => by cases h), Or.inr ⟨g, 0, [.int .i64 x.kind, .int .i64 x.num, .slice sx x.kids.length cx], F, rfl, rfl, hk.free, hk.row rfl, ?_⟩⟩
    simp only [Ex.cellsL, List.append_nil]
    rw [Ex.cells_eq]
    exact Ows.three h1'
  · have := h1.lt g hm; omega
  · rcases List.mem_cons.1 hm with rfl | hm
    · omega
    · exact h3 b hm
theorem two_fresh {W w w' : World} {x y : Ex} {sx sy : Option Addr} {cx cy g t : Nat} (h : Freshs W w [kidsD x.kids, kidsD y.kids] [.slice sx x.kids.length cx, .slice sy y.kids.length cy]) (hb : Below w.heap.size w w') (hz : W.heap.size ≤ w.heap.size) (hg : w.heap.size ≤ g)
    (hk : Blk w' g t [.int .i64 x.kind, .int .i64 x.num, .slice sx x.kids.length cx, .int .i64 y.kind, .int .i64 y.num, .slice sy y.kids.length cy]) : Freshs W w' [kidsD [x, y]] [.slice (some ⟨g, 0, none⟩) 2 2] := by
  obtain ⟨F, h1, h2, h3⟩ := h
  refine Freshs.one ⟨g :: F, ?_, List.nodup_cons.2 ⟨fun hm => ?_, h2⟩, fun b hm => ?_⟩
  · obtain ⟨G, K, rfl, hx, hy⟩ := ows_two h1
    have hx' := hx.keep fun b hm => hb.block b (hx.lt b hm)
    have hy' := hy.keep fun b hm => hb.block b (hy.lt b hm)
    unfold kidsD
    simp only [Ow]
    refine ⟨some ⟨g, 0, none⟩, 2, rfl, Nat.le_refl _, by unfold maxLen; omega, by rw [Ex.cellsL_length], (fun h => by cases h), Or.inr ⟨g, 0, [.int .i64 x.kind, .int .i64 x.num, .slice sx x.kids.length cx, .int .i64 y.kind, .int .i64 y.num, .slice sy y.kids.length cy], G ++ K, rfl, rfl, hk.free, hk.row rfl, ?_⟩⟩
    simp only [Ex.cellsL, List.append_nil]
    rw [Ex.cells_eq, Ex.cells_eq]
    exact Ows.append (Ows.three hx') (Ows.three hy')
  · have := h1.lt g hm; omega
  · rcases List.mem_cons.1 hm with rfl | hm
    · omega
    · exact h3 b hm
theorem l02Zero_i {w : World} : Calls Tryz.prog 123 #[] w (OutE w (.leaf 1)) := by
  go_enter Tryz.func123, Tryz.ntmps123
  go_wp2_with fail
  have T := (((Blk.new3 w 30 (.int .i64 0) (.int .i64 0) (.slice none 0 0)).set 0 (.int .i64 1)).set 1 (.int .i64 0)).set 2 (.slice none 0 0)
  have t0 := T.c0
  have t1 := T.c1
  have t2 := T.c2
  exact bodyPost_ret (v := .agg #[.int .i64 1, .int .i64 0, .slice none 0 0]) (by simp [results, Tryz.results123, go_sem, t0, t1, t2]) rfl ⟨none, 0, rfl, nil_freshs, by (repeat' first | exact Below.refl _ _ | assumption | apply Below.alloc | apply Below.drew | apply Below.setCell | omega | (simp; done) | (simp; omega))⟩
theorem l02One_i {w : World} : Calls Tryz.prog 124 #[] w (OutE w (.leaf 2)) := by
  go_enter Tryz.func124, Tryz.ntmps124
  go_wp2_with fail
  have T := (((Blk.new3 w 30 (.int .i64 0) (.int .i64 0) (.slice none 0 0)).set 0 (.int .i64 2)).set 1 (.int .i64 0)).set 2 (.slice none 0 0)
  have t0 := T.c0
  have t1 := T.c1
  have t2 := T.c2
  exact bodyPost_ret (v := .agg #[.int .i64 2, .int .i64 0, .slice none 0 0]) (by simp [results, Tryz.results124, go_sem, t0, t1, t2]) rfl ⟨none, 0, rfl, nil_freshs, by (repeat' first | exact Below.refl _ _ | assumption | apply Below.alloc | apply Below.drew | apply Below.setCell | omega | (simp; done) | (simp; omega))⟩
set_option maxHeartbeats 4000000 in
theorem l02Pair_i {k k1 n1 k2 n2 : Int} {a1 a2 : Option Addr} {l1 c1 l2 c2 : Nat} {w : World} :
    Calls Tryz.prog 125 #[.int .i64 k, .agg #[.int .i64 k1, .int .i64 n1, .slice a1 l1 c1], .agg #[.int .i64 k2, .int .i64 n2, .slice a2 l2 c2]] w fun f w' => ∃ g, f = .returned (.agg #[.int .i64 k, .int .i64 0, .slice (some ⟨g, 0, none⟩) 2 2]) ∧ w.heap.size ≤ g ∧
      Blk w' g 30 [.int .i64 k1, .int .i64 n1, .slice a1 l1 c1, .int .i64 k2, .int .i64 n2, .slice a2 l2 c2] ∧ Below w.heap.size w w' := by
  go_enter Tryz.func125, Tryz.ntmps125
  go_wp2_with fail
  obtain ⟨wa, hwa⟩ : ∃ v, v = ((w.alloc (.cells #[.int .i64 k1, .int .i64 n1, .slice a1 l1 c1] 30)).alloc (.cells #[.int .i64 k2, .int .i64 n2, .slice a2 l2 c2] 30)) := ⟨_, rfl⟩
  have hBa : Below w.heap.size w wa := by rw [hwa]; (repeat' first | exact Below.refl _ _ | assumption | apply Below.alloc | apply Below.drew | apply Below.setCell | omega | (simp; done) | (simp; omega))
  have hza : wa.heap.size = w.heap.size + 1 + 1 := by rw [hwa]; simp
  rw [← hwa]
  have R := Blk.new3 wa 30 (.int .i64 k) (.int .i64 0) (.slice (some ⟨w.heap.size + 1 + 1 + 1, 0, none⟩) 2 2)
  have N := Blk.made (wa.alloc (.cells #[.int .i64 k, .int .i64 0, .slice (some ⟨w.heap.size + 1 + 1 + 1, 0, none⟩) 2 2] 30)) 30 #[.int .i64 k1, .int .i64 n1, .slice a1 l1 c1, .int .i64 k2, .int .i64 n2, .slice a2 l2 c2]
  have hg : (wa.alloc (.cells #[.int .i64 k, .int .i64 0, .slice (some ⟨w.heap.size + 1 + 1 + 1, 0, none⟩) 2 2] 30)).heap.size = w.heap.size + 1 + 1 + 1 := by simp; omega
  rw [hg] at N
  have T := R.alloc (.cells #[.int .i64 k1, .int .i64 n1, .slice a1 l1 c1, .int .i64 k2, .int .i64 n2, .slice a2 l2 c2] 30)
  have hB := (hBa.alloc (by omega) (.cells #[.int .i64 k, .int .i64 0, .slice (some ⟨w.heap.size + 1 + 1 + 1, 0, none⟩) 2 2] 30)).alloc (by omega) (.cells #[.int .i64 k1, .int .i64 n1, .slice a1 l1 c1, .int .i64 k2, .int .i64 n2, .slice a2 l2 c2] 30)
  rw [hza] at T
  generalize (wa.alloc (.cells #[.int .i64 k, .int .i64 0, .slice (some ⟨w.heap.size + 1 + 1 + 1, 0, none⟩) 2 2] 30)).alloc (.cells #[.int .i64 k1, .int .i64 n1, .slice a1 l1 c1, .int .i64 k2, .int .i64 n2, .slice a2 l2 c2] 30) = w4 at N T hB ⊢
  clear R hwa
  have t0 := T.c0
  have t1 := T.c1
  have t2 := T.c2
  refine bodyPost_ret (v := .agg #[.int .i64 k, .int .i64 0, .slice (some ⟨w.heap.size + 1 + 1 + 1, 0, none⟩) 2 2]) (by simp [results, Tryz.results125, go_sem, t0, t1, t2]) rfl ⟨_, rfl, by omega, N, hB⟩
theorem l01Own_e {e : Ex} {b o : Nat} {w : World} (h : ExAt w b o e) (h1 : e.size ≤ 1073741824) : Calls Tryz.prog 90 #[.pointer (some ⟨b, o, none⟩)] w (OutE w e) :=
  l01Own_same _ e b o w (Nat.le_refl _) h h1
set_option maxHeartbeats 4000000 in
theorem l02Star_i {e : Ex} {b o : Nat} {w : World} (h : ExAt w b o e) (h1 : e.size ≤ 1073741824) : Calls Tryz.prog 138 #[.pointer (some ⟨b, o, none⟩)] w (OutE w e.star) := by
  have hlt := h.lt
  go_enter Tryz.func138, Tryz.ntmps138
  go_wp2_with fail
  have R := Blk.new3 w 30 (.int .i64 0) (.int .i64 0) (.slice none 0 0)
  have hB : Below w.heap.size w (w.alloc (.cells #[.int .i64 0, .int .i64 0, .slice none 0 0] 30)) := by (repeat' first | exact Below.refl _ _ | assumption | apply Below.alloc | apply Below.drew | apply Below.setCell | omega | (simp; done) | (simp; omega))
  have hz0 : (w.alloc (.cells #[.int .i64 0, .int .i64 0, .slice none 0 0] 30)).heap.size = w.heap.size + 1 := by simp
  generalize w.alloc (.cells #[.int .i64 0, .int .i64 0, .slice none 0 0] 30) = w1 at R hB hz0 ⊢
  refine (l01Condition_all _ _ _ _ _ (Nat.le_refl _) (h.below hB)).mono ?_
  rintro f w2 ⟨rfl, rfl⟩
  have h' := h.below hB
  obtain ⟨g0, g1, s, c, g2, g3⟩ := h'
  cases hc : e.cond
  · by_cases h8 : e.kind = 8
    · have c8 : (e.kind == 8) = true := by simp [h8]
      have E1 : Hid (e.star = e) := by show _ = _; unfold Ex.star; rw [hc]; simp [h8]
      clear h8
      go_wp2_with fail
      refine (l01Own_e (h.below hB) h1).mono ?_
      rintro f w3 ⟨s3, c3, rfl, hf, hb⟩
      replace hB := Below.on hB hb hB.size
      replace R := R.below hb
      have hz3 := hb.size
      -- the function's end: R the result's box, hB; h3 : Freshs W V .. (W below V), E1 : Hid (result = e)
      -- the result box w.heap.size of world w3 is set to an expression; goal: bodyPost. R : the box; Rests: hs5 : Spares, T2
      have r0 := R.c0
      have r1 := R.c1
      have r2 := R.c2
      have z0 := R.frozen 0
      have z1 := R.frozen 1
      have z2 := R.frozen 2
      have ltR := R.lt
      go_wp2_with fail
      have T2 := ((R.set 0 (.int .i64 e.kind)).set 1 (.int .i64 e.num)).set 2 (.slice s3 e.kids.length c3)
      have hs5 : Spares (fun y => y = w.heap.size) w3 (((w3.setCell ⟨w.heap.size, 0, none⟩ (.int .i64 e.kind)).setCell ⟨w.heap.size, 1, none⟩ (.int .i64 e.num)).setCell ⟨w.heap.size, 2, none⟩ (.slice s3 e.kids.length c3)) := Spares.set (Spares.set (Spares.set (Spares.refl w3)))
      generalize (((w3.setCell ⟨w.heap.size, 0, none⟩ (.int .i64 e.kind)).setCell ⟨w.heap.size, 1, none⟩ (.int .i64 e.num)).setCell ⟨w.heap.size, 2, none⟩ (.slice s3 e.kids.length c3)) = w5 at T2 hs5 ⊢
      have t0 := T2.c0
      have t1 := T2.c1
      have t2 := T2.c2
      have hzB5 := hB.size
      have hB5 := hB.trans (hs5.below (B := w.heap.size) (by omega) (fun y hy => by omega))
      refine bodyPost_ret (v := .agg #[.int .i64 e.kind, .int .i64 e.num, .slice s3 e.kids.length c3]) (by simp [results, Tryz.results138, go_sem, t0, t1, t2]) rfl ?_
      rw [E1.out]
      exact ⟨_, _, rfl, Freshs.from (Freshs.keep hf (fun y _ hy2 => hs5.block y hy2 (by omega))) (by omega), hB5⟩
    · have c8 : (e.kind == 8) = false := by simp [h8]
      have E1 : Hid (e.star = .mk 8 0 [e]) := by show _ = _; unfold Ex.star; rw [hc]; simp [h8]
      clear h8
      go_wp2_with fail
      refine (l01Own_e (h.below hB) h1).mono ?_
      rintro f w3 ⟨s3, c3, rfl, hf, hb⟩
      replace hB := Below.on hB hb hB.size
      replace R := R.below hb
      have hz3 := hb.size
      have r0 := R.c0
      have r1 := R.c1
      have r2 := R.c2
      have z0 := R.frozen 0
      have z1 := R.frozen 1
      have z2 := R.frozen 2
      have ltR := R.lt
      go_wp2_with fail
      have T2 := ((R.set 0 (.int .i64 8)).set 1 (.int .i64 0)).set 2 (.slice (some ⟨w3.heap.size, 0, none⟩) 1 1)
      have hs5 : Spares (fun y => y = w.heap.size) w3 (((w3.setCell ⟨w.heap.size, 0, none⟩ (.int .i64 8)).setCell ⟨w.heap.size, 1, none⟩ (.int .i64 0)).setCell ⟨w.heap.size, 2, none⟩ (.slice (some ⟨w3.heap.size, 0, none⟩) 1 1)) := Spares.set (Spares.set (Spares.set (Spares.refl w3)))
      have hz5 : (((w3.setCell ⟨w.heap.size, 0, none⟩ (.int .i64 8)).setCell ⟨w.heap.size, 1, none⟩ (.int .i64 0)).setCell ⟨w.heap.size, 2, none⟩ (.slice (some ⟨w3.heap.size, 0, none⟩) 1 1)).heap.size = w3.heap.size := by simp [World.setCell]
      generalize (((w3.setCell ⟨w.heap.size, 0, none⟩ (.int .i64 8)).setCell ⟨w.heap.size, 1, none⟩ (.int .i64 0)).setCell ⟨w.heap.size, 2, none⟩ (.slice (some ⟨w3.heap.size, 0, none⟩) 1 1)) = w5 at T2 hs5 hz5 ⊢
      have N := Blk.new3 w5 30 (.int .i64 e.kind) (.int .i64 e.num) (.slice s3 e.kids.length c3)
      have T3 := T2.alloc (.cells #[.int .i64 e.kind, .int .i64 e.num, .slice s3 e.kids.length c3] 30)
      have t0 := T3.c0
      have t1 := T3.c1
      have t2 := T3.c2
      have hf5 := Freshs.keep hf (fun y hy1 hy2 => hs5.block y hy2 (by omega))
      have hf6 := one_fresh hf5 (Below.alloc (Below.refl w5.heap.size w5) (Nat.le_refl _) _) (by omega) (Nat.le_refl _) N
      rw [hz5] at hf6
      have hzB5 := hB.size
      have hB6 := (hB.trans (hs5.below (B := w.heap.size) (by omega) (fun y hy => by omega))).alloc (by omega) (.cells #[.int .i64 e.kind, .int .i64 e.num, .slice s3 e.kids.length c3] 30)
      refine bodyPost_ret (v := .agg #[.int .i64 8, .int .i64 0, .slice (some ⟨w3.heap.size, 0, none⟩) 1 1]) (by simp [results, Tryz.results138, go_sem, t0, t1, t2]) rfl ?_
      rw [E1.out]
      exact ⟨_, _, rfl, hf6.from (by omega), hB6⟩
  · have E1 : Hid (e.star = .leaf 2) := by show _ = _; unfold Ex.star; rw [hc]; simp
    go_wp2_with fail
    refine (l02One_i).mono ?_
    rintro f w3 ⟨s3, c3, rfl, hf, hb⟩
    replace hB := Below.on hB hb hB.size
    replace R := R.below hb
    have hz3 := hb.size
    -- the function's end: R the result's box, hB; h3 : Freshs W V .. (W below V), E1 : Hid (result = (Ex.leaf 2))
    -- the result box w.heap.size of world w3 is set to an expression; goal: bodyPost. R : the box; Rests: hs5 : Spares, T2
    have r0 := R.c0
    have r1 := R.c1
    have r2 := R.c2
    have z0 := R.frozen 0
    have z1 := R.frozen 1
    have z2 := R.frozen 2
    have ltR := R.lt
    go_wp2_with fail
    have T2 := ((R.set 0 (.int .i64 (Ex.leaf 2).kind)).set 1 (.int .i64 (Ex.leaf 2).num)).set 2 (.slice s3 (Ex.leaf 2).kids.length c3)
    have hs5 : Spares (fun y => y = w.heap.size) w3 (((w3.setCell ⟨w.heap.size, 0, none⟩ (.int .i64 (Ex.leaf 2).kind)).setCell ⟨w.heap.size, 1, none⟩ (.int .i64 (Ex.leaf 2).num)).setCell ⟨w.heap.size, 2, none⟩ (.slice s3 (Ex.leaf 2).kids.length c3)) := Spares.set (Spares.set (Spares.set (Spares.refl w3)))
    generalize (((w3.setCell ⟨w.heap.size, 0, none⟩ (.int .i64 (Ex.leaf 2).kind)).setCell ⟨w.heap.size, 1, none⟩ (.int .i64 (Ex.leaf 2).num)).setCell ⟨w.heap.size, 2, none⟩ (.slice s3 (Ex.leaf 2).kids.length c3)) = w5 at T2 hs5 ⊢
    have t0 := T2.c0
    have t1 := T2.c1
    have t2 := T2.c2
    have hzB5 := hB.size
    have hB5 := hB.trans (hs5.below (B := w.heap.size) (by omega) (fun y hy => by omega))
    refine bodyPost_ret (v := .agg #[.int .i64 (Ex.leaf 2).kind, .int .i64 (Ex.leaf 2).num, .slice s3 (Ex.leaf 2).kids.length c3]) (by simp [results, Tryz.results138, go_sem, t0, t1, t2]) rfl ?_
    rw [E1.out]
    exact ⟨_, _, rfl, Freshs.from (Freshs.keep hf (fun y _ hy2 => hs5.block y hy2 (by omega))) (by omega), hB5⟩
end Go.Proofs.YtjlmdhoajfdkbaaGreatDoor

namespace Go.Proofs.YtjlmdhoajfdkbaaGreatDoor
set_option linter.unusedVariables false
set_option linter.unusedSimpArgs false
open Go.ChangeShapes Go.WideShapes Go.ChangeAt Go.RowKit Go.Deep Go.Sort
set_option maxRecDepth 100000 in
set_option maxHeartbeats 8000000 in
theorem l02Dot_all (tm am : Int) (N : Nat) : ∀ (x y : Ex) (b o b' o' : Nat) (w : World), x.size ≤ N → ExAt w b o x → ExAt w b' o' y → x.tree tm am = true → y.tree tm am = true → x.size + y.size ≤ 1000000 →
    Calls Tryz.prog 137 #[.pointer (some ⟨b, o, none⟩), .pointer (some ⟨b', o', none⟩)] w (OutE w (x.dot y)) := by
  induction N using Nat.strongRecOn with
  | _ N ih =>
  intro x y b o b' o' w hN hx hy ht hty hsz1
  have HIH := Lib.hid ih
  clear ih
  have hltx := hx.lt
  have hlty := hy.lt
  obtain ⟨k, n, ks⟩ := x
  obtain ⟨k', n', ks'⟩ := y
  have edef : (Ex.mk k n ks).dot (.mk k' n' ks') = dotC k n ks (Ex.dotL ks) (.mk k' n' ks') := Ex.dot_eq ..
  by_cases h1 : k = 1
  · subst h1
    have E1 : Hid ((Ex.mk 1 n ks).dot (.mk k' n' ks') = .leaf 1) := by show _ = _; rw [edef, dotC, if_pos (Or.inl rfl)]
    clear edef
    obtain ⟨g0, g1, sx, cx, g2, g3⟩ := id hx
    obtain ⟨k0, k1, sy, cy, k2, k3⟩ := id hy
    simp only [Ex.kind_mk, Ex.num_mk, Ex.kids_mk] at g0 g1 g2 k0 k1 k2
    skip
    go_enter Tryz.func137, Tryz.ntmps137
    go_wp2_with fail
    have R := Blk.new3 w 30 (.int .i64 0) (.int .i64 0) (.slice none 0 0)
    have hB : Below w.heap.size w (w.alloc (.cells #[.int .i64 0, .int .i64 0, .slice none 0 0] 30)) := by (repeat' first | exact Below.refl _ _ | assumption | apply Below.alloc | apply Below.drew | apply Below.setCell | omega | (simp; done) | (simp; omega))
    have hz0 : (w.alloc (.cells #[.int .i64 0, .int .i64 0, .slice none 0 0] 30)).heap.size = w.heap.size + 1 := by simp
    generalize w.alloc (.cells #[.int .i64 0, .int .i64 0, .slice none 0 0] 30) = w1 at R hB hz0 ⊢
    have hx1 := hx.below hB
    have hy1 := hy.below hB
    clear g0 g1 g2 k0 k1 k2
    refine (l02Zero_i).mono ?_
    rintro f w3 ⟨s3, c3, rfl, hf, hb⟩
    replace hB := Below.on hB hb hB.size
    replace R := R.below hb
    have hz3 := hb.size
    -- the function's end: R the result's box, hB; h3 : Freshs W V .. (W below V), E1 : Hid (result = (Ex.leaf 1))
    -- the result box w.heap.size of world w3 is set to an expression; goal: bodyPost. R : the box; Rests: hs5 : Spares, T2
    have r0 := R.c0
    have r1 := R.c1
    have r2 := R.c2
    have z0 := R.frozen 0
    have z1 := R.frozen 1
    have z2 := R.frozen 2
    have ltR := R.lt
    go_wp2_with fail
    have T2 := ((R.set 0 (.int .i64 (Ex.leaf 1).kind)).set 1 (.int .i64 (Ex.leaf 1).num)).set 2 (.slice s3 (Ex.leaf 1).kids.length c3)
    have hs5 : Spares (fun y => y = w.heap.size) w3 (((w3.setCell ⟨w.heap.size, 0, none⟩ (.int .i64 (Ex.leaf 1).kind)).setCell ⟨w.heap.size, 1, none⟩ (.int .i64 (Ex.leaf 1).num)).setCell ⟨w.heap.size, 2, none⟩ (.slice s3 (Ex.leaf 1).kids.length c3)) := Spares.set (Spares.set (Spares.set (Spares.refl w3)))
    generalize (((w3.setCell ⟨w.heap.size, 0, none⟩ (.int .i64 (Ex.leaf 1).kind)).setCell ⟨w.heap.size, 1, none⟩ (.int .i64 (Ex.leaf 1).num)).setCell ⟨w.heap.size, 2, none⟩ (.slice s3 (Ex.leaf 1).kids.length c3)) = w5 at T2 hs5 ⊢
    have t0 := T2.c0
    have t1 := T2.c1
    have t2 := T2.c2
    have hzB5 := hB.size
    have hB5 := hB.trans (hs5.below (B := w.heap.size) (by omega) (fun y hy => by omega))
    refine bodyPost_ret (v := .agg #[.int .i64 (Ex.leaf 1).kind, .int .i64 (Ex.leaf 1).num, .slice s3 (Ex.leaf 1).kids.length c3]) (by simp [results, Tryz.results137, go_sem, t0, t1, t2]) rfl ?_
    rw [E1.out]
    exact ⟨_, _, rfl, Freshs.from (Freshs.keep hf (fun y _ hy2 => hs5.block y hy2 (by omega))) (by omega), hB5⟩
  have c1 : (k == 1) = false := by simp [h1]
  by_cases h2 : k' = 1
  · subst h2
    have E1 : Hid ((Ex.mk k n ks).dot (.mk 1 n' ks') = .leaf 1) := by show _ = _; rw [edef, dotC, if_pos (Or.inr (show (Ex.mk 1 n' ks').kind = 1 from rfl))]
    clear edef h1
    obtain ⟨g0, g1, sx, cx, g2, g3⟩ := id hx
    obtain ⟨k0, k1, sy, cy, k2, k3⟩ := id hy
    simp only [Ex.kind_mk, Ex.num_mk, Ex.kids_mk] at g0 g1 g2 k0 k1 k2
    skip
    go_enter Tryz.func137, Tryz.ntmps137
    go_wp2_with fail
    have R := Blk.new3 w 30 (.int .i64 0) (.int .i64 0) (.slice none 0 0)
    have hB : Below w.heap.size w (w.alloc (.cells #[.int .i64 0, .int .i64 0, .slice none 0 0] 30)) := by (repeat' first | exact Below.refl _ _ | assumption | apply Below.alloc | apply Below.drew | apply Below.setCell | omega | (simp; done) | (simp; omega))
    have hz0 : (w.alloc (.cells #[.int .i64 0, .int .i64 0, .slice none 0 0] 30)).heap.size = w.heap.size + 1 := by simp
    generalize w.alloc (.cells #[.int .i64 0, .int .i64 0, .slice none 0 0] 30) = w1 at R hB hz0 ⊢
    have hx1 := hx.below hB
    have hy1 := hy.below hB
    clear g0 g1 g2 k0 k1 k2
    refine (l02Zero_i).mono ?_
    rintro f w3 ⟨s3, c3, rfl, hf, hb⟩
    replace hB := Below.on hB hb hB.size
    replace R := R.below hb
    have hz3 := hb.size
    -- the function's end: R the result's box, hB; h3 : Freshs W V .. (W below V), E1 : Hid (result = (Ex.leaf 1))
    -- the result box w.heap.size of world w3 is set to an expression; goal: bodyPost. R : the box; Rests: hs5 : Spares, T2
    have r0 := R.c0
    have r1 := R.c1
    have r2 := R.c2
    have z0 := R.frozen 0
    have z1 := R.frozen 1
    have z2 := R.frozen 2
    have ltR := R.lt
    go_wp2_with fail
    have T2 := ((R.set 0 (.int .i64 (Ex.leaf 1).kind)).set 1 (.int .i64 (Ex.leaf 1).num)).set 2 (.slice s3 (Ex.leaf 1).kids.length c3)
    have hs5 : Spares (fun y => y = w.heap.size) w3 (((w3.setCell ⟨w.heap.size, 0, none⟩ (.int .i64 (Ex.leaf 1).kind)).setCell ⟨w.heap.size, 1, none⟩ (.int .i64 (Ex.leaf 1).num)).setCell ⟨w.heap.size, 2, none⟩ (.slice s3 (Ex.leaf 1).kids.length c3)) := Spares.set (Spares.set (Spares.set (Spares.refl w3)))
    generalize (((w3.setCell ⟨w.heap.size, 0, none⟩ (.int .i64 (Ex.leaf 1).kind)).setCell ⟨w.heap.size, 1, none⟩ (.int .i64 (Ex.leaf 1).num)).setCell ⟨w.heap.size, 2, none⟩ (.slice s3 (Ex.leaf 1).kids.length c3)) = w5 at T2 hs5 ⊢
    have t0 := T2.c0
    have t1 := T2.c1
    have t2 := T2.c2
    have hzB5 := hB.size
    have hB5 := hB.trans (hs5.below (B := w.heap.size) (by omega) (fun y hy => by omega))
    refine bodyPost_ret (v := .agg #[.int .i64 (Ex.leaf 1).kind, .int .i64 (Ex.leaf 1).num, .slice s3 (Ex.leaf 1).kids.length c3]) (by simp [results, Tryz.results137, go_sem, t0, t1, t2]) rfl ?_
    rw [E1.out]
    exact ⟨_, _, rfl, Freshs.from (Freshs.keep hf (fun y _ hy2 => hs5.block y hy2 (by omega))) (by omega), hB5⟩
  have c2 : (k' == 1) = false := by simp [h2]
  have hor : ¬ (k = 1 ∨ (Ex.mk k' n' ks').kind = 1) := fun q => q.elim h1 h2
  by_cases h3 : k = 2
  · have E1 : Hid ((Ex.mk k n ks).dot (.mk k' n' ks') = .mk k' n' ks') := by show _ = _; rw [edef, dotC, if_neg hor, if_pos h3]
    subst h3
    clear edef h1 h2 hor c1
    obtain ⟨g0, g1, sx, cx, g2, g3⟩ := id hx
    obtain ⟨k0, k1, sy, cy, k2, k3⟩ := id hy
    simp only [Ex.kind_mk, Ex.num_mk, Ex.kids_mk] at g0 g1 g2 k0 k1 k2
    skip
    go_enter Tryz.func137, Tryz.ntmps137
    go_wp2_with fail
    have R := Blk.new3 w 30 (.int .i64 0) (.int .i64 0) (.slice none 0 0)
    have hB : Below w.heap.size w (w.alloc (.cells #[.int .i64 0, .int .i64 0, .slice none 0 0] 30)) := by (repeat' first | exact Below.refl _ _ | assumption | apply Below.alloc | apply Below.drew | apply Below.setCell | omega | (simp; done) | (simp; omega))
    have hz0 : (w.alloc (.cells #[.int .i64 0, .int .i64 0, .slice none 0 0] 30)).heap.size = w.heap.size + 1 := by simp
    generalize w.alloc (.cells #[.int .i64 0, .int .i64 0, .slice none 0 0] 30) = w1 at R hB hz0 ⊢
    have hx1 := hx.below hB
    have hy1 := hy.below hB
    clear g0 g1 g2 k0 k1 k2
    refine (l01Own_e hy1 (by omega)).mono ?_
    rintro f w3 ⟨s3, c3, rfl, hf, hb⟩
    replace hB := Below.on hB hb hB.size
    replace R := R.below hb
    have hz3 := hb.size
    -- the function's end: R the result's box, hB; h3 : Freshs W V .. (W below V), E1 : Hid (result = (Ex.mk k' n' ks'))
    -- the result box w.heap.size of world w3 is set to an expression; goal: bodyPost. R : the box; Rests: hs5 : Spares, T2
    have r0 := R.c0
    have r1 := R.c1
    have r2 := R.c2
    have z0 := R.frozen 0
    have z1 := R.frozen 1
    have z2 := R.frozen 2
    have ltR := R.lt
    go_wp2_with fail
    have T2 := ((R.set 0 (.int .i64 (Ex.mk k' n' ks').kind)).set 1 (.int .i64 (Ex.mk k' n' ks').num)).set 2 (.slice s3 (Ex.mk k' n' ks').kids.length c3)
    have hs5 : Spares (fun y => y = w.heap.size) w3 (((w3.setCell ⟨w.heap.size, 0, none⟩ (.int .i64 (Ex.mk k' n' ks').kind)).setCell ⟨w.heap.size, 1, none⟩ (.int .i64 (Ex.mk k' n' ks').num)).setCell ⟨w.heap.size, 2, none⟩ (.slice s3 (Ex.mk k' n' ks').kids.length c3)) := Spares.set (Spares.set (Spares.set (Spares.refl w3)))
    generalize (((w3.setCell ⟨w.heap.size, 0, none⟩ (.int .i64 (Ex.mk k' n' ks').kind)).setCell ⟨w.heap.size, 1, none⟩ (.int .i64 (Ex.mk k' n' ks').num)).setCell ⟨w.heap.size, 2, none⟩ (.slice s3 (Ex.mk k' n' ks').kids.length c3)) = w5 at T2 hs5 ⊢
    have t0 := T2.c0
    have t1 := T2.c1
    have t2 := T2.c2
    have hzB5 := hB.size
    have hB5 := hB.trans (hs5.below (B := w.heap.size) (by omega) (fun y hy => by omega))
    refine bodyPost_ret (v := .agg #[.int .i64 (Ex.mk k' n' ks').kind, .int .i64 (Ex.mk k' n' ks').num, .slice s3 (Ex.mk k' n' ks').kids.length c3]) (by simp [results, Tryz.results137, go_sem, t0, t1, t2]) rfl ?_
    rw [E1.out]
    exact ⟨_, _, rfl, Freshs.from (Freshs.keep hf (fun y _ hy2 => hs5.block y hy2 (by omega))) (by omega), hB5⟩
  have c3 : (k == 2) = false := by simp [h3]
  by_cases h4 : k' = 2
  · have E1 : Hid ((Ex.mk k n ks).dot (.mk k' n' ks') = .mk k n ks) := by show _ = _; rw [edef, dotC, if_neg hor, if_neg h3, if_pos (show (Ex.mk k' n' ks').kind = 2 from h4)]
    subst h4
    clear edef h1 h2 hor c2 h3
    obtain ⟨g0, g1, sx, cx, g2, g3⟩ := id hx
    obtain ⟨k0, k1, sy, cy, k2, k3⟩ := id hy
    simp only [Ex.kind_mk, Ex.num_mk, Ex.kids_mk] at g0 g1 g2 k0 k1 k2
    skip
    go_enter Tryz.func137, Tryz.ntmps137
    go_wp2_with fail
    have R := Blk.new3 w 30 (.int .i64 0) (.int .i64 0) (.slice none 0 0)
    have hB : Below w.heap.size w (w.alloc (.cells #[.int .i64 0, .int .i64 0, .slice none 0 0] 30)) := by (repeat' first | exact Below.refl _ _ | assumption | apply Below.alloc | apply Below.drew | apply Below.setCell | omega | (simp; done) | (simp; omega))
    have hz0 : (w.alloc (.cells #[.int .i64 0, .int .i64 0, .slice none 0 0] 30)).heap.size = w.heap.size + 1 := by simp
    generalize w.alloc (.cells #[.int .i64 0, .int .i64 0, .slice none 0 0] 30) = w1 at R hB hz0 ⊢
    have hx1 := hx.below hB
    have hy1 := hy.below hB
    clear g0 g1 g2 k0 k1 k2
    refine (l01Own_e hx1 (by omega)).mono ?_
    rintro f w3 ⟨s3, c3, rfl, hf, hb⟩
    replace hB := Below.on hB hb hB.size
    replace R := R.below hb
    have hz3 := hb.size
    -- the function's end: R the result's box, hB; h3 : Freshs W V .. (W below V), E1 : Hid (result = (Ex.mk k n ks))
    -- the result box w.heap.size of world w3 is set to an expression; goal: bodyPost. R : the box; Rests: hs5 : Spares, T2
    have r0 := R.c0
    have r1 := R.c1
    have r2 := R.c2
    have z0 := R.frozen 0
    have z1 := R.frozen 1
    have z2 := R.frozen 2
    have ltR := R.lt
    go_wp2_with fail
    have T2 := ((R.set 0 (.int .i64 (Ex.mk k n ks).kind)).set 1 (.int .i64 (Ex.mk k n ks).num)).set 2 (.slice s3 (Ex.mk k n ks).kids.length c3)
    have hs5 : Spares (fun y => y = w.heap.size) w3 (((w3.setCell ⟨w.heap.size, 0, none⟩ (.int .i64 (Ex.mk k n ks).kind)).setCell ⟨w.heap.size, 1, none⟩ (.int .i64 (Ex.mk k n ks).num)).setCell ⟨w.heap.size, 2, none⟩ (.slice s3 (Ex.mk k n ks).kids.length c3)) := Spares.set (Spares.set (Spares.set (Spares.refl w3)))
    generalize (((w3.setCell ⟨w.heap.size, 0, none⟩ (.int .i64 (Ex.mk k n ks).kind)).setCell ⟨w.heap.size, 1, none⟩ (.int .i64 (Ex.mk k n ks).num)).setCell ⟨w.heap.size, 2, none⟩ (.slice s3 (Ex.mk k n ks).kids.length c3)) = w5 at T2 hs5 ⊢
    have t0 := T2.c0
    have t1 := T2.c1
    have t2 := T2.c2
    have hzB5 := hB.size
    have hB5 := hB.trans (hs5.below (B := w.heap.size) (by omega) (fun y hy => by omega))
    refine bodyPost_ret (v := .agg #[.int .i64 (Ex.mk k n ks).kind, .int .i64 (Ex.mk k n ks).num, .slice s3 (Ex.mk k n ks).kids.length c3]) (by simp [results, Tryz.results137, go_sem, t0, t1, t2]) rfl ?_
    rw [E1.out]
    exact ⟨_, _, rfl, Freshs.from (Freshs.keep hf (fun y _ hy2 => hs5.block y hy2 (by omega))) (by omega), hB5⟩
  have c4 : (k' == 2) = false := by simp [h4]
  by_cases h7 : k = 7
  rotate_left
  · have E1 : Hid ((Ex.mk k n ks).dot (.mk k' n' ks') = .two 7 (.mk k n ks) (.mk k' n' ks')) := by show _ = _; rw [edef, dotC, if_neg hor, if_neg h3, if_neg (show ¬ (Ex.mk k' n' ks').kind = 2 from h4), if_neg h7]
    have c5 : (k == 7) = false := by simp [h7]
    clear edef h1 h2 h3 h4 h7 hor
    obtain ⟨g0, g1, sx, cx, g2, g3⟩ := id hx
    obtain ⟨k0, k1, sy, cy, k2, k3⟩ := id hy
    simp only [Ex.kind_mk, Ex.num_mk, Ex.kids_mk] at g0 g1 g2 k0 k1 k2
    skip
    go_enter Tryz.func137, Tryz.ntmps137
    go_wp2_with fail
    have R := Blk.new3 w 30 (.int .i64 0) (.int .i64 0) (.slice none 0 0)
    have hB : Below w.heap.size w (w.alloc (.cells #[.int .i64 0, .int .i64 0, .slice none 0 0] 30)) := by (repeat' first | exact Below.refl _ _ | assumption | apply Below.alloc | apply Below.drew | apply Below.setCell | omega | (simp; done) | (simp; omega))
    have hz0 : (w.alloc (.cells #[.int .i64 0, .int .i64 0, .slice none 0 0] 30)).heap.size = w.heap.size + 1 := by simp
    generalize w.alloc (.cells #[.int .i64 0, .int .i64 0, .slice none 0 0] 30) = w1 at R hB hz0 ⊢
    have hx1 := hx.below hB
    have hy1 := hy.below hB
    clear g0 g1 g2 k0 k1 k2
    refine (l01Own_e hx1 (by omega)).mono ?_
    rintro f w3 ⟨s3, c3, rfl, hf3, hb⟩
    replace hB := Below.on hB hb hB.size
    replace R := R.below hb
    have hz3 := hb.size
    clear hb
    go_wp2_with fail
    refine (l01Own_e (hy.below hB) (by omega)).mono ?_
    rintro f w4 ⟨s4, c4, rfl, hf4, hb4⟩
    replace hB := Below.on hB hb4 hB.size
    replace R := R.below hb4
    have hz4 := hb4.size
    have hxy := Freshs.cons hf3.single hf4 hb4 hz3
    simp only [Ex.kind_mk, Ex.num_mk, Ex.kids_mk]
    go_wp2_with fail
    refine (l02Pair_i).mono ?_
    rintro f v5 ⟨g, rfl, hg, hG, hb5⟩
    replace hB := Below.on hB hb5 hB.size
    replace R := R.below hb5
    have hz5 := hb5.size
    have hf5 := two_fresh (x := .mk k n ks) (y := .mk k' n' ks') hxy hb5 (by omega) hg hG
    -- the result box w.heap.size of world v5 is set to an expression; goal: bodyPost. R : the box; Rests: hs5 : Spares, T2
    have r0 := R.c0
    have r1 := R.c1
    have r2 := R.c2
    have z0 := R.frozen 0
    have z1 := R.frozen 1
    have z2 := R.frozen 2
    have ltR := R.lt
    go_wp2_with fail
    have T2 := ((R.set 0 (.int .i64 7)).set 1 (.int .i64 0)).set 2 (.slice (some ⟨g, 0, none⟩) 2 2)
    have hs5 : Spares (fun y => y = w.heap.size) v5 (((v5.setCell ⟨w.heap.size, 0, none⟩ (.int .i64 7)).setCell ⟨w.heap.size, 1, none⟩ (.int .i64 0)).setCell ⟨w.heap.size, 2, none⟩ (.slice (some ⟨g, 0, none⟩) 2 2)) := Spares.set (Spares.set (Spares.set (Spares.refl v5)))
    generalize (((v5.setCell ⟨w.heap.size, 0, none⟩ (.int .i64 7)).setCell ⟨w.heap.size, 1, none⟩ (.int .i64 0)).setCell ⟨w.heap.size, 2, none⟩ (.slice (some ⟨g, 0, none⟩) 2 2)) = w5 at T2 hs5 ⊢
    have t0 := T2.c0
    have t1 := T2.c1
    have t2 := T2.c2
    have hzB5 := hB.size
    have hB5 := hB.trans (hs5.below (B := w.heap.size) (by omega) (fun y hy => by omega))
    refine bodyPost_ret (v := .agg #[.int .i64 7, .int .i64 0, .slice (some ⟨g, 0, none⟩) 2 2]) (by simp [results, Tryz.results137, go_sem, t0, t1, t2]) rfl ?_
    rw [E1.out]
    exact ⟨_, _, rfl, Freshs.from (Freshs.keep hf5 (fun y _ hy2 => hs5.block y hy2 (by omega))) (by omega), hB5⟩
  subst h7
  obtain ⟨hk, -, -, htl⟩ := tree_parts ht
  obtain ⟨u, v, rfl⟩ := two_kids hk (by omega)
  have hsz := Ex.size_eq (.mk 7 n [u, v])
  simp only [Ex.sizeL, Ex.kids] at hsz
  have E1 : Hid ((Ex.mk 7 n [u, v]).dot (.mk k' n' ks') = u.dot (v.dot (.mk k' n' ks'))) := by
    show _ = _
    exact Ex.dot_seven h2 h4
  have hut : u.tree tm am = true := Ex.treeL_mem htl (by simp)
  have hvt : v.tree tm am = true := Ex.treeL_mem htl (by simp)
  obtain ⟨hd1, hd2⟩ := dot_spec tm am _ v (.mk k' n' ks') (Nat.le_refl _) hvt hty
  clear edef h1 h2 h3 h4 c1 c3 htl hk hor
  obtain ⟨g0, g1, sx, cx, g2, g3⟩ := id hx
  obtain ⟨k0, k1, sy, cy, k2, k3⟩ := id hy
  simp only [Ex.kind_mk, Ex.num_mk, Ex.kids_mk] at g0 g1 g2 k0 k1 k2
  obtain ⟨kb, ko, rfl⟩ := kid_some g3 (by simp [Ex.kids])
  have hu : ExAt w kb ko u := by have := kid_exAt g3 (i := 0) (e := u) rfl; simpa using this
  have hv : ExAt w kb (ko + 3) v := by have := kid_exAt g3 (i := 1) (e := v) rfl; simpa using this
  obtain ⟨-, hlen, hcap, -, -⟩ := kid_at g3
  unfold maxLen at hcap
  simp only [List.length_cons, List.length_nil, Nat.zero_add, Nat.reduceAdd] at g2 hlen hcap
  have Hg2 := Lib.hid g2
  go_enter Tryz.func137, Tryz.ntmps137
  go_wp2_with fail
  have R := Blk.new3 w 30 (.int .i64 0) (.int .i64 0) (.slice none 0 0)
  have hB : Below w.heap.size w (w.alloc (.cells #[.int .i64 0, .int .i64 0, .slice none 0 0] 30)) := by (repeat' first | exact Below.refl _ _ | assumption | apply Below.alloc | apply Below.drew | apply Below.setCell | omega | (simp; done) | (simp; omega))
  have hz0 : (w.alloc (.cells #[.int .i64 0, .int .i64 0, .slice none 0 0] 30)).heap.size = w.heap.size + 1 := by simp
  generalize w.alloc (.cells #[.int .i64 0, .int .i64 0, .slice none 0 0] 30) = w1 at R hB hz0 ⊢
  have hx1 := hx.below hB
  have hy1 := hy.below hB
  clear g0 g1 g2 k0 k1 k2
  have g2r := (hB.cell (p := ⟨b, o + 2, none⟩) hltx).trans Hg2.out
  refine (HIH.out v.size (by omega) v (.mk k' n' ks') _ _ _ _ _ (Nat.le_refl _) (hv.below hB) hy1 hvt hty (by omega)).mono ?_
  rintro f w3 ⟨s3, c3, rfl, hf3, hb⟩
  have hz3 := hb.size
  have g2q := (hb.cell (p := ⟨b, o + 2, none⟩) (by have := hx1.lt; omega)).trans g2r
  have hlt3 : b < w3.heap.size := by omega
  go_wp2_with fail
  clear g2q
  have D := Blk.new3 w3 30 (.int .i64 (v.dot (.mk k' n' ks')).kind) (.int .i64 (v.dot (.mk k' n' ks')).num) (.slice s3 (v.dot (.mk k' n' ks')).kids.length c3)
  have hb4 : Below w1.heap.size w1 (w3.alloc (.cells #[.int .i64 (v.dot (.mk k' n' ks')).kind, .int .i64 (v.dot (.mk k' n' ks')).num, .slice s3 (v.dot (.mk k' n' ks')).kids.length c3] 30)) := hb.alloc hz3 _
  have hd3 := (Rds.one hf3.rds).alloc (.cells #[.int .i64 (v.dot (.mk k' n' ks')).kind, .int .i64 (v.dot (.mk k' n' ks')).num, .slice s3 (v.dot (.mk k' n' ks')).kids.length c3] 30)
  generalize w3.alloc (.cells #[.int .i64 (v.dot (.mk k' n' ks')).kind, .int .i64 (v.dot (.mk k' n' ks')).num, .slice s3 (v.dot (.mk k' n' ks')).kids.length c3] 30) = w4 at D hb4 hd3 ⊢
  have hda : ExAt w4 w3.heap.size 0 (v.dot (.mk k' n' ks')) := ⟨D.c0, D.c1, s3, c3, D.c2, hd3⟩
  have hz4 := hb4.size
  replace hB := Below.on hB hb4 hB.size
  replace R := R.below hb4
  have hu' := hu.below hB
  clear hb g2r
  refine (HIH.out u.size (by omega) u (v.dot (.mk k' n' ks')) _ _ _ _ _ (Nat.le_refl _) hu' hda hut hd1 (by omega)).mono ?_
  rintro f v5 ⟨s5, c5, rfl, hf5, hb5⟩
  replace hB := Below.on hB hb5 hB.size
  replace R := R.below hb5
  have hz5 := hb5.size
  -- the function's end: R the result's box, hB; h3 : Freshs W V .. (W below V), E1 : Hid (result = (u.dot (v.dot (.mk k' n' ks'))))
  -- the result box w.heap.size of world v5 is set to an expression; goal: bodyPost. R : the box; Rests: hs5 : Spares, T2
  have r0 := R.c0
  have r1 := R.c1
  have r2 := R.c2
  have z0 := R.frozen 0
  have z1 := R.frozen 1
  have z2 := R.frozen 2
  have ltR := R.lt
  go_wp2_with fail
  have T2 := ((R.set 0 (.int .i64 (u.dot (v.dot (.mk k' n' ks'))).kind)).set 1 (.int .i64 (u.dot (v.dot (.mk k' n' ks'))).num)).set 2 (.slice s5 (u.dot (v.dot (.mk k' n' ks'))).kids.length c5)
  have hs5 : Spares (fun y => y = w.heap.size) v5 (((v5.setCell ⟨w.heap.size, 0, none⟩ (.int .i64 (u.dot (v.dot (.mk k' n' ks'))).kind)).setCell ⟨w.heap.size, 1, none⟩ (.int .i64 (u.dot (v.dot (.mk k' n' ks'))).num)).setCell ⟨w.heap.size, 2, none⟩ (.slice s5 (u.dot (v.dot (.mk k' n' ks'))).kids.length c5)) := Spares.set (Spares.set (Spares.set (Spares.refl v5)))
  generalize (((v5.setCell ⟨w.heap.size, 0, none⟩ (.int .i64 (u.dot (v.dot (.mk k' n' ks'))).kind)).setCell ⟨w.heap.size, 1, none⟩ (.int .i64 (u.dot (v.dot (.mk k' n' ks'))).num)).setCell ⟨w.heap.size, 2, none⟩ (.slice s5 (u.dot (v.dot (.mk k' n' ks'))).kids.length c5)) = w5 at T2 hs5 ⊢
  have t0 := T2.c0
  have t1 := T2.c1
  have t2 := T2.c2
  have hzB5 := hB.size
  have hB5 := hB.trans (hs5.below (B := w.heap.size) (by omega) (fun y hy => by omega))
  refine bodyPost_ret (v := .agg #[.int .i64 (u.dot (v.dot (.mk k' n' ks'))).kind, .int .i64 (u.dot (v.dot (.mk k' n' ks'))).num, .slice s5 (u.dot (v.dot (.mk k' n' ks'))).kids.length c5]) (by simp [results, Tryz.results137, go_sem, t0, t1, t2]) rfl ?_
  rw [E1.out]
  exact ⟨_, _, rfl, Freshs.from (Freshs.keep hf5 (fun y _ hy2 => hs5.block y hy2 (by omega))) (by omega), hB5⟩
end Go.Proofs.YtjlmdhoajfdkbaaGreatDoor

namespace Go.Proofs.YtjlmdhoajfdkbaaGreatDoor
set_option linter.unusedVariables false
set_option linter.unusedSimpArgs false
open Go.ChangeShapes Go.WideShapes Go.ChangeAt Go.RowKit Go.Sort
theorem l01Same_all (N : Nat) : ∀ (e f : Ex) (b o b' o' : Nat) (w : World), e.size ≤ N → ExAt w b o e → ExAt w b' o' f →
    Calls Tryz.prog 139 #[.pointer (some ⟨b, o, none⟩), .pointer (some ⟨b', o', none⟩)] w fun x w' => x = .returned (.bool (eqb e f)) ∧ Below w.heap.size w w' := by
  induction N using Nat.strongRecOn with
  | _ N ih =>
  intro e f b o b' o' w hN hr hr'
  have hE := hr
  have hE' := hr'
  obtain ⟨g0, g1, s, c, g2, g3⟩ := hr
  obtain ⟨k0, k1, t, d, k2, k3⟩ := hr'
  obtain ⟨-, hlen, hcap, -, -⟩ := kid_at g3
  obtain ⟨-, hlen', hcap', -, -⟩ := kid_at k3
  unfold maxLen at hcap hcap'
  have hse := Ex.size_eq e
  have hks : Ex.sizeL e.kids < N := by omega
  clear hse
  by_cases h1 : e.kind = f.kind
  · by_cases h2 : e.num = f.num
    · by_cases h3 : e.kids.length = f.kids.length
      · have b1 : (e.kind != f.kind) = false := by simp [h1]
        have b2 : (e.num != f.num) = false := by simp [h2]
        have b3 : ((e.kids.length : Int) != (f.kids.length : Int)) = false := by simp [h3]
        have Hl := Lib.hid h3
        have Hef : Hid (eqb e f = eqb e.kids f.kids) := by
          show _ = _
          by_cases h : e.kids = f.kids
          · rw [eqb_true h, eqb_true (by rw [Ex.eta e, Ex.eta f, h1, h2, h])]
          · rw [eqb_false h, eqb_false (by intro h'; rw [h'] at h; exact h rfl)]
        clear h1 h2 h3
        go_enter Tryz.func139, Tryz.ntmps139
        go_wp2_with fail
        go_quiet (fail)
        have hB0 : Below w.heap.size w (w.drewN nq) := below_draws _ _ _
        generalize w.drewN nq = wq at hB0 ⊢
        go_wp2_with fail
        clear b1 b2 b3
        go_loopw [5] (fun i wr => ∃ k : Nat, k ≤ e.kids.length ∧ i = .int .i64 k ∧ e.kids.take k = f.kids.take k ∧ Below w.heap.size w wr) (fun i _ => e.kids.length - (intOf i).toNat)
        case atStart => exact ⟨0, by omega, rfl, by simp, hB0⟩
        case round =>
          clear hB0 g0 g1 g2 k0 k1 k2
          obtain ⟨k, hk, rfl, hpre, hB⟩ := hrel
          have Hpre := Lib.hid hpre
          clear hpre
          obtain ⟨-, -, s1, c1, g2, g3'⟩ := hE.below hB
          obtain ⟨-, -, t1, d1, k2, k3'⟩ := hE'.below hB
          by_cases hlt : k < e.kids.length
          · have hlt' : k < f.kids.length := by have := Hl.out; omega
            obtain ⟨x, hx⟩ : ∃ z, e.kids[k]? = some z := ⟨_, List.getElem?_eq_getElem hlt⟩
            obtain ⟨y, hy⟩ : ∃ z, f.kids[k]? = some z := ⟨_, List.getElem?_eq_getElem hlt'⟩
            obtain ⟨p, q, rfl⟩ := kid_some g3' (by intro h; simp [h] at hlt)
            obtain ⟨p', q', rfl⟩ := kid_some k3' (by intro h; simp [h] at hlt')
            have hat := kid_exAt g3' hx
            have hat' := kid_exAt k3' hy
            have hltN : x.size < N := by
              have := Ex.sizeL_mem (List.mem_of_getElem? hx)
              omega
            have ha := Int.natCast_nonneg k
            have hb : (k : Int) < (e.kids.length : Int) := by omega
            have hb' : (k : Int) < (f.kids.length : Int) := by omega
            have i2 := fun d os => cell_regrown g2 d os
            have j2 := fun d os => cell_regrown k2 d os
            go_wp2_with fail
            refine Go.wp_region_quiet_below (by kernel_rfl) (by kernel_rfl) ?_
            repeat (quiet_step (exact Calls.regrown_of (ih _ hltN x y _ _ _ _ _ (Nat.le_refl _) (hat.below (below_regrown _ _ _)) (hat'.below (below_regrown _ _ _)))))
            refine wpQuiet_nil ?_; intro _ hw'; obtain ⟨⟨dq, osq⟩, hw''⟩ := hw'; subst hw''; have hq := below_regrown wr dq osq; revert hq; generalize grow (redrawn wr dq) osq = w1; intro hq
            have hB1 : Below w.heap.size w w1 := Below.on hB hq hB.size
            clear hq i2 j2 g2 k2 g3 k3
            by_cases hxy : x = y
            · have c1 : eqb x y = true := eqb_true hxy
              have Hst : Hid (e.kids.take (k + 1) = f.kids.take (k + 1)) := by
                have h1 := List.getElem?_eq_some_iff.1 hx
                have h2 := List.getElem?_eq_some_iff.1 hy
                show _ = _
                rw [List.take_succ_eq_append_getElem hlt, List.take_succ_eq_append_getElem hlt', Hpre.out, h1.2, h2.2, hxy]
              clear hxy
              simp only [c1, Bool.not_true]
              go_wp2_with fail
              go_roundw
              case rel => exact ⟨k + 1, by omega, by go_num, Hst.out, hB1⟩
              case measure => simp [intOf]; omega
            · have c1 : eqb x y = false := eqb_false hxy
              have c2 : eqb e f = false := by
                rw [Hef.out]
                exact eqb_false (by
                  intro h
                  rw [h] at hx
                  exact hxy (Option.some.inj (hx.symm.trans hy)))
              simp only [c1, Bool.not_false]
              go_wp2_with fail
              go_ret
              exact ⟨by first | rfl | (rw [c2]; rfl), hB1⟩
          · obtain rfl : k = e.kids.length := by omega
            have c2 : eqb e f = true := by
              rw [Hef.out]
              exact eqb_true (by
                have := Hpre.out
                rwa [List.take_length, Hl.out, List.take_length] at this)
            go_wp2_with fail
            go_ret
            exact ⟨by first | rfl | (rw [c2]; rfl), hB⟩
      · have b1 : (e.kind != f.kind) = false := by simp [h1]
        have b2 : (e.num != f.num) = false := by simp [h2]
        have b3 : ((e.kids.length : Int) != (f.kids.length : Int)) = true := by simp; omega
        have c2 : eqb e f = false := eqb_false (by intro h; rw [h] at h3; exact h3 rfl)
        rw [c2]
        clear h1 h2 h3
        go_enter Tryz.func139, Tryz.ntmps139
        go_wp2_with fail
        go_quiet (fail)
        go_wp2_with fail
        go_ret
        exact ⟨rfl, below_draws _ _ _⟩
    · have b1 : (e.kind != f.kind) = false := by simp [h1]
      have b2 : (e.num != f.num) = true := by simp [h2]
      have c2 : eqb e f = false := eqb_false (by intro h; rw [h] at h2; exact h2 rfl)
      rw [c2]
      clear h1 h2
      go_enter Tryz.func139, Tryz.ntmps139
      go_wp2_with fail
      go_quiet (fail)
      go_wp2_with fail
      go_ret
      exact ⟨rfl, below_draws _ _ _⟩
  · have b1 : (e.kind != f.kind) = true := by simp [h1]
    have c2 : eqb e f = false := eqb_false (by intro h; rw [h] at h1; exact h1 rfl)
    rw [c2]
    clear h1
    go_enter Tryz.func139, Tryz.ntmps139
    go_wp2_with fail
    go_quiet (fail)
    go_wp2_with fail
    go_ret
    exact ⟨rfl, below_draws _ _ _⟩
end Go.Proofs.YtjlmdhoajfdkbaaGreatDoor

namespace Go.Proofs.YtjlmdhoajfdkbaaGreatDoor
set_option linter.unusedVariables false
set_option linter.unusedSimpArgs false
open Go.ChangeShapes Go.WideShapes Go.ChangeAt Go.RowKit Go.Deep Go.Sort
def slB : Value → Nat
  | .slice (some a) _ _ => a.block
  | _ => 0
def zero3 : List Value := [.int .i64 0, .int .i64 0, .slice none 0 0]
theorem zero3_one : ∀ u ∈ zero3, u.oneCell' = true := by
  intro u hu
  simp [zero3] at hu
  rcases hu with rfl | rfl | rfl <;> rfl
theorem Blk.mid {w : World} {g t k : Nat} {a rest : List Value} {x y z : Value} (h : Blk w g t (a ++ [x, y, z] ++ rest)) (hl : a.length = k) :
    w.cell? ⟨g, k, none⟩ = some x ∧ w.cell? ⟨g, k + 1, none⟩ = some y ∧ w.cell? ⟨g, k + 2, none⟩ = some z := by
  subst hl
  rw [List.append_assoc] at h
  refine ⟨?_, ?_, ?_⟩
  · rw [h.cell, List.getElem?_append_right (Nat.le_refl _)]; simp
  · rw [h.cell, List.getElem?_append_right (by omega)]; simp
  · rw [h.cell, List.getElem?_append_right (by omega)]; simp
theorem Blk.mid_set {w : World} {g t k : Nat} {a rest : List Value} {x y z u v q : Value} (h : Blk w g t (a ++ [x, y, z] ++ rest)) (hl : a.length = k) :
    Blk (((w.setCell ⟨g, k, none⟩ u).setCell ⟨g, k + 1, none⟩ v).setCell ⟨g, k + 2, none⟩ q) g t (a ++ [u, v, q] ++ rest) := by
  subst hl
  have := ((h.set a.length u).set (a.length + 1) v).set (a.length + 2) q
  rw [List.append_assoc] at this ⊢
  rw [List.set_append_right _ _ (Nat.le_refl _), List.set_append_right _ _ (by omega), List.set_append_right _ _ (by omega)] at this
  simpa using this
theorem AppS.turn {S : Nat → Prop} {w : World} {t size n g c : Nat} {us : List Value} (h : AppS S w t size n (us.map D.raw) (.slice (some ⟨g, 0, none⟩) n c)) :
    ∃ rest, Blk w g t (us ++ rest) ∧ ∀ (w' : World) (vs : List Value), vs.length = us.length → (∀ u ∈ vs, u.oneCell' = true) → Blk w' g t (vs ++ rest) → AppS S w' t size n (vs.map D.raw) (.slice (some ⟨g, 0, none⟩) n c) := by
  obtain ⟨xs, F, h1, h2, h3, h4, h5⟩ := h
  have hx := Rds.raws h2.rds
  subst hx
  have hl : xs.length = n * size := h1.1
  rcases h1.2 with ⟨h, -⟩ | ⟨g', cap, cur, e, -, hb, k1, k2, k3, k4⟩
  · simp at h
  · simp only [Value.slice.injEq, Option.some.injEq, Addr.mk.injEq, and_true, true_and] at e
    obtain ⟨rfl, rfl⟩ := e
    have e1 : cur.toList = xs ++ cur.toList.drop xs.length := by
      conv => lhs; rw [← List.take_append_drop xs.length cur.toList]
      congr 1
      rw [hl]
      exact k4
    refine ⟨cur.toList.drop xs.length, by rw [← e1]; simpa [Blk] using hb, fun w' vs hv ho hb' => ?_⟩
    refine ⟨vs, [], ⟨hv.trans hl, Or.inr ⟨g, c, (vs ++ cur.toList.drop xs.length).toArray, rfl, Nat.zero_le _, hb', k1, k2, ?_, ?_⟩⟩, Ows.raws ho, by simp, by simp, h5⟩
    · have q := congrArg List.length e1
      have q3 : cur.toList.length = c * size := by simpa using k3
      rw [List.length_append] at q
      rw [List.size_toArray, List.length_append, hv]
      omega
    · rw [show n * size = vs.length by omega]
      simp
def AtX (X : Nat → Prop) (w : World) (b o : Nat) (e : Ex) : Prop := b < w.heap.size ∧ ¬ X b ∧ ∃ s c, K1 w b o e s c ∧ ExX X w e s c
theorem AtX.keep {X : Nat → Prop} {w w' : World} {b o : Nat} {e : Ex} (h : AtX X w b o e) (k : KeptX X w w') : AtX X w' b o e := by
  obtain ⟨h1, h2, s, c, h3, h4⟩ := h
  exact ⟨Nat.lt_of_lt_of_le h1 k.1, h2, s, c, h3.keep (k.2 b h1 h2), h4.keep k⟩
theorem AtX.less {X Y : Nat → Prop} {w : World} {b o : Nat} {e : Ex} (h : AtX X w b o e) (hs : ∀ b, b < w.heap.size → Y b → X b) : AtX Y w b o e := by
  obtain ⟨h1, h2, s, c, h3, h4⟩ := h
  exact ⟨h1, fun hy => h2 (hs b h1 hy), s, c, h3, h4.less hs⟩
theorem AtX.at {X : Nat → Prop} {w : World} {b o : Nat} {e : Ex} (h : AtX X w b o e) : ExAt w b o e := by
  obtain ⟨h1, h2, s, c, ⟨k0, k1, k2⟩, h4⟩ := h
  exact ⟨k0, k1, s, c, k2, h4.rd⟩
theorem AtX.kid01 {X : Nat → Prop} {w : World} {b o : Nat} {k n : Int} {u v : Ex} (h : AtX X w b o (.mk k n [u, v])) : b < w.heap.size ∧ ¬ X b ∧ ∃ kb ko c, K1 w b o (.mk k n [u, v]) (some ⟨kb, ko, none⟩) c ∧ 2 ≤ c ∧ c ≤ maxLen ∧ kb < w.heap.size ∧ ¬ X kb ∧ AtX X w kb ko u ∧ AtX X w kb (ko + 3) v := by
  obtain ⟨h1, h2, s, c, h3, h4⟩ := h
  obtain ⟨kb, ko, sx, cx, rfl, e1, e2, e3, e4, e5, e6, e7⟩ := kidX0 (r := [v]) h4
  obtain ⟨sv, cv, k6, k7⟩ := kidX1 (r := []) h4
  exact ⟨h1, h2, kb, ko, c, h3, e2, e3, e4, e5, ⟨e4, e5, sx, cx, e6, e7⟩, ⟨e4, e5, sv, cv, k6, k7⟩⟩
set_option maxRecDepth 100000 in
set_option maxHeartbeats 8000000 in
theorem l02Summands_all (tm am : Int) (N : Nat) : ∀ (e : Ex) (b o ob : Nat) (X S : Nat → Prop) (v : Value) (L : List Sh) (w0 w : World), e.size ≤ N → KeptX X w0 w → (∀ q, X q → q < w.heap.size) → (∀ q, S q → X q) → X ob → ¬ S ob → AtX X w0 b o e → e.tree tm am = true →
    L.length + e.size ≤ 1000000 → ShX X w0 L → Blk w ob 28 [v] → AppS S w 30 3 L.length (shD L) v →
    Calls Tryz.prog 168 #[.pointer (some ⟨b, o, none⟩), .pointer (some ⟨ob, 0, none⟩)] w fun f w' => f = .returned (.tuple #[]) ∧ ∃ v' L', ((L ++ L').map Sh.e = growL (L.map Sh.e) (e.summ.map some) ∧ ShX X w0 L') ∧
      Blk w' ob 28 [v'] ∧ AppS (fun q => S q ∨ (w.heap.size ≤ q ∧ q < w'.heap.size)) w' 30 3 (L ++ L').length (shD (L ++ L')) v' ∧ Spares (fun q => S q ∨ q = ob) w w' := by
  induction N using Nat.strongRecOn with
  | _ N ih =>
  intro e b o ob X S v L w0 w hN h0 hX hSX hXo hnS he ht hlen hLX hO hV
  have HIH := Lib.hid ih
  clear ih
  obtain ⟨k, n, ks⟩ := e
  by_cases h1 : k = 1
  · subst h1
    obtain ⟨hb0, hbX, s, c, ⟨k0, k1, k2⟩, -⟩ := he
    have hb1 := h0.2 b hb0 hbX
    have k0' := (World.cell?_of_block (w := w0) (w' := w) (a := ⟨b, o, none⟩) hb1).trans k0
    rw [Ex.kind_mk] at k0'
    go_enter Tryz.func168, Tryz.ntmps168
    go_wp2_with fail
    (first | refine bodyPost_ret (v := .tuple #[]) (by simp [results, Tryz.results168, go_sem]) rfl ?_ | refine bodyPost_end (v := .tuple #[]) (by simp [results, Tryz.results168, go_sem]) rfl ?_)
    exact ⟨rfl, v, [], ⟨by rw [Ex.summ_zero]; simp [growL], ShX.nil⟩, hO, by simpa using hV.more fun b _ h => Or.inl h, Spares.refl _⟩
  have c1 : (k == 1) = false := by simp [h1]
  by_cases h6 : k = 6
  · subst h6
    obtain ⟨hk, -, -, htl⟩ := tree_parts ht
    obtain ⟨u, z, rfl⟩ := two_kids hk (by omega)
    have hsum : Hid ((Ex.mk 6 n [u, z]).summ = u.summ ++ z.summ) := by show _ = _; exact Ex.summ_sum
    have hsz := Ex.size_eq (.mk 6 n [u, z])
    simp only [Ex.sizeL, Ex.kids_mk] at hsz
    have hut : u.tree tm am = true := Ex.treeL_mem htl (by simp)
    have hzt : z.tree tm am = true := Ex.treeL_mem htl (by simp)
    obtain ⟨hb0, hbX, kb, ko, c, kk0, hc1, hc2, hkb, hkX, hu, hz⟩ := he.kid01
    obtain ⟨q0, q1, q2⟩ := kk0.keep (h0.2 b hb0 hbX)
    rw [Ex.kind_mk] at q0
    simp only [Ex.kids_mk, List.length_cons, List.length_nil, Nat.zero_add, Nat.reduceAdd] at q2
    unfold maxLen at hc2
    have HQ : ∀ w' : World, Hid (w'.heap[b]? = w.heap[b]? → w'.cell? ⟨b, o, none⟩ = some (.int .i64 6) ∧ w'.cell? ⟨b, o + 2, none⟩ = some (.slice (some ⟨kb, ko, none⟩) 2 c)) := fun w' h =>
      ⟨(World.cell?_of_block (w := w) (w' := w') (a := ⟨b, o, none⟩) h).trans q0, (World.cell?_of_block (w := w) (w' := w') (a := ⟨b, o + 2, none⟩) h).trans q2⟩
    go_enter Tryz.func168, Tryz.ntmps168
    go_wp2_with fail
    refine (HIH.out u.size (by omega) u kb ko ob X S v L w0 w (Nat.le_refl _) h0 hX hSX hXo hnS hu hut (by omega) hLX hO hV).mono ?_
    rintro f w2 ⟨rfl, v2, M1, ⟨p1, p2⟩, hO2, hV2, hs2⟩
    have hz2 := hs2.size
    have h02 : KeptX X w0 w2 := h0.trans (KeptX.of_spares hs2 (fun q _ h => h.elim (hSX q) (fun h => h ▸ hXo)))
    have hbw : b < w.heap.size := Nat.lt_of_lt_of_le hb0 h0.1
    obtain ⟨q0', q2'⟩ := (HQ w2).out (hs2.block b hbw (fun h => hbX (h.elim (hSX b) (fun h => h ▸ hXo))))
    have hM1 : M1.length ≤ u.summ.length := by
      have q := congrArg List.length p1
      rw [List.length_map, List.length_append] at q
      have q' := growL_len u.summ (L.map Sh.e)
      rw [List.length_map] at q'
      omega
    have hM1' := summ_len hut
    clear q0 q1 q2 HQ
    go_wp2_with fail
    refine (HIH.out z.size (by omega) z kb (ko + 3) ob (fun q => (X q ∨ w0.heap.size ≤ q) ∧ q < w2.heap.size) _ v2 (L ++ M1) w0 w2 (Nat.le_refl _) (h02.more (fun q hq h => ⟨Or.inl h, Nat.lt_of_lt_of_le hq h02.1⟩)) (fun q h => h.2) (fun q h => ?_) ⟨Or.inl hXo, hO2.lt⟩ (fun h => ?_) (hz.less (fun q hq h => h.1.elim id (fun h => by omega))) hzt (by rw [List.length_append]; omega)
      (fun y hy => (List.mem_append.1 hy).elim (fun hy => (hLX y hy).less (fun q hq h => h.1.elim id (fun h => by omega))) (fun hy => (p2 y hy).less (fun q hq h => h.1.elim id (fun h => by omega)))) hO2 hV2).mono ?_
    · rcases h with h | h
      · exact ⟨Or.inl (hSX q h), by have := hX q (hSX q h); omega⟩
      · exact ⟨Or.inr (by have := h0.1; omega), h.2⟩
    · rcases h with h | h
      · exact hnS h
      · have := hX ob hXo; omega
    rintro f w3 ⟨rfl, v3, M2, ⟨r1, r2⟩, hO3, hV3, hs3⟩
    have hz3 := hs3.size
    go_wp2_with fail
    (first | refine bodyPost_ret (v := .tuple #[]) (by simp [results, Tryz.results168, go_sem]) rfl ?_ | refine bodyPost_end (v := .tuple #[]) (by simp [results, Tryz.results168, go_sem]) rfl ?_)
    refine ⟨rfl, v3, M1 ++ M2, ⟨?_, ?_⟩, hO3, ?_, ?_⟩
    · rw [← List.append_assoc, r1, p1, hsum.out, List.map_append, growL_append]
    · exact p2.append (fun y hy => (r2 y hy).less (fun q hq h => ⟨Or.inl h, Nat.lt_of_lt_of_le hq h02.1⟩))
    · rw [← List.append_assoc]
      exact hV3.more (fun q hq h => by
        rcases h with (h | h) | h
        · exact Or.inl h
        · exact Or.inr (by omega)
        · exact Or.inr (by omega))
    · refine ⟨hs3.os.trans hs2.os, hs3.tape.trans hs2.tape, hs3.output.trans hs2.output, by omega, fun q hq h => ?_⟩
      exact (hs3.block q (by omega) (fun hh => by
        rcases hh with (hh | hh) | hh
        · exact h (Or.inl hh)
        · omega
        · exact h (Or.inr hh))).trans (hs2.block q hq h)
  have c6 : (k == 6) = false := by simp [h6]
  have hsum : Hid ((Ex.mk k n ks).summ = [.mk k n ks]) := by show _ = _; exact Ex.summ_else h1 h6
  have he1 := he.keep h0
  obtain ⟨hb0, hbX, s, c, kk0, hkx⟩ := he
  obtain ⟨q0, q1, q2⟩ := kk0.keep (h0.2 b hb0 hbX)
  rw [Ex.kind_mk] at q0
  rw [Ex.num_mk] at q1
  rw [Ex.kids_mk] at q2
  obtain ⟨a1, l1, rfl, hcap1, hcap2⟩ := hV.shape
  unfold maxLen at hcap2
  have o0 := hO.c0
  have olt := hO.lt
  have hbw : b < w.heap.size := Nat.lt_of_lt_of_le hb0 h0.1
  have hrow : Hid (L = [] ∨ ∃ g, a1 = some ⟨g, 0, none⟩ ∧ S g ∧ g < w.heap.size ∧ ∃ rest, Blk w g 30 (shs L ++ rest)) := by
    obtain ⟨a', c', e', -, -, -, hh⟩ := AppS.at hV
    simp only [Value.slice.injEq, true_and] at e'
    obtain ⟨rfl, rfl⟩ := e'
    rcases hh with h | ⟨g, h1, h2, h3, h4⟩
    · refine Or.inl ?_
      have := shs_length L
      rw [h] at this
      exact List.eq_nil_of_length_eq_zero (by simp at this; omega)
    · exact Or.inr ⟨g, h1, h2, h3, h4⟩
  have Hq0 := Lib.hid q0
  have Hq1 := Lib.hid q1
  have Hq2 := Lib.hid q2
  clear q1 q2 h1 h6 kk0
  go_enter Tryz.func168, Tryz.ntmps168
  go_wp2_with fail
  go_loopw [4] (fun i wr => ∃ j : Nat, j ≤ L.length ∧ i = .int .i64 j ∧ (∀ m, m < j → ∀ y, L[m]? = some y → y.e ≠ .mk k n ks) ∧ Below w.heap.size w wr) (fun i _ => L.length - (intOf i).toNat)
  case atStart => exact ⟨0, by omega, rfl, fun m hm => by omega, Below.refl _ _⟩
  case round =>
    obtain ⟨j, hj, rfl, hne, hBr⟩ := hrel
    have o0r := (hBr.cell (p := ⟨ob, 0, none⟩) olt).trans o0
    have hszr := hBr.size
    by_cases hlt : j < L.length
    · obtain ⟨y, hy⟩ : ∃ y, L[j]? = some y := ⟨_, List.getElem?_eq_getElem hlt⟩
      rcases hrow.out with h | ⟨g, e9, hg1, hg2, rest, hblk⟩
      · exfalso; rw [h] at hlt; simp at hlt
      subst e9
      have hbr := hblk.below hBr
      have q : ∀ m v, y.cells[m]? = some v → wr.cell? ⟨g, j * 3 + m, none⟩ = some v := by
        intro m v hv
        have hm : m < 3 := by have := (List.getElem?_eq_some_iff.1 hv).1; simpa [Sh.cells] using this
        rw [hbr.cell, List.getElem?_append_left (by rw [shs_length]; omega), shs_at L j y hy m hm, hv]
      have hyX := (hLX y (List.mem_of_getElem? hy)).keep (h0.trans (KeptX.of_below hBr))
      have hya : ExAt wr g (j * 3) y.e := ⟨q 0 _ rfl, q 1 _ rfl, y.s, y.c, q 2 _ rfl, hyX.rd⟩
      have hea : ExAt wr b o (.mk k n ks) := he1.at.below hBr
      have ha1 := Int.natCast_nonneg j
      have hb1 : (j : Int) < (L.length : Int) := by omega
      clear q hbr hblk
      go_wp2_with fail
      refine (l01Same_all _ _ _ _ _ _ _ _ (Nat.le_refl _) hya hea).mono ?_
      rintro f w2 ⟨rfl, hb⟩
      have hB2 := hBr.trans (hb.mono hszr)
      by_cases heq : y.e = .mk k n ks
      · have e1 : eqb y.e (.mk k n ks) = true := eqb_true heq
        have Heq := Lib.hid heq
        clear heq
        go_wp2_with fail
        (first | refine bodyPost_ret (v := .tuple #[]) (by simp [results, Tryz.results168, go_sem]) rfl ?_ | refine bodyPost_end (v := .tuple #[]) (by simp [results, Tryz.results168, go_sem]) rfl ?_)
        refine ⟨rfl, _, [], ⟨?_, ShX.nil⟩, hO.below hB2, ?_, Spares.of_below hB2⟩
        · rw [hsum.out, List.append_nil]
          show List.map Sh.e L = grow1 (List.map Sh.e L) (some (.mk k n ks))
          rw [grow1_old (List.mem_map.2 ⟨y, List.mem_of_getElem? hy, Heq.out⟩)]
        · rw [List.append_nil]
          exact (hV.keep fun q hq _ => hB2.block q hq).more fun q _ h => Or.inl h
      · have e1 : eqb y.e (.mk k n ks) = false := eqb_false heq
        go_wp2_with fail
        go_roundw
        case rel => exact ⟨j + 1, by omega, by go_num, fun m hm y' hy' => by
          by_cases hmj : m = j
          · subst hmj
            rw [hy] at hy'
            obtain rfl := Option.some.inj hy'
            exact heq
          · exact hne m (by omega) y' hy', hB2⟩
        case measure => simp [intOf]; omega
    · obtain rfl : j = L.length := by omega
      have hnm : Ex.mk k n ks ∉ L.map Sh.e := by
        intro h
        obtain ⟨y, hy, he⟩ := List.mem_map.1 h
        obtain ⟨m, hm⟩ := List.mem_iff_getElem?.1 hy
        exact hne m (List.getElem?_eq_some_iff.1 hm).1 y hm he
      have hgr : Hid (growL (L.map Sh.e) ((Ex.mk k n ks).summ.map some) = L.map Sh.e ++ [.mk k n ks]) := by
        show _ = _
        rw [hsum.out]
        show grow1 (L.map Sh.e) (some (.mk k n ks)) = _
        rw [grow1_new hnm]
      obtain ⟨wb, rfl⟩ : ∃ wb, wb = wr := ⟨_, rfl⟩
      have V : AppS (fun q => S q) wb 30 3 L.length (shD L) (.slice a1 L.length l1) := hV.keep fun q hq _ => hBr.block q hq
      have Vf : ∀ q, S q → 0 ≤ q ∧ q < wb.heap.size := fun q hq => by have := hX q (hSX q hq); omega
      have OB := hO.below hBr
      have OBf := OB.lt
      have hbo : b ≠ ob := fun e => hbX (e ▸ hXo)
      have hbS : ¬ S b := fun h => hbX (hSX b h)
      have hbk0 := hBr.block b hbw
      have hL100 : L.length ≤ 1000000 := by omega
      clear hne hnm
      go_wp2_with fail
      obtain ⟨x0, hx0⟩ := mkval ?a1_0
      obtain ⟨x1, hx1⟩ := mkval ?a1_1
      obtain ⟨x3, hx3⟩ := mkval ?a1_3
      obtain ⟨x4, hx4⟩ := mkval ?a1_4
      obtain ⟨x5, hx5⟩ := mkval ?a1_5
      obtain ⟨x6, hx6⟩ := mkval ?a1_6
      obtain ⟨x11, hx11⟩ := mkval ?a1_11
      have hGb : ∀ m b, (fun m b => (m = 0 ∧ b = ob) ∨ (m = 1 ∧ S b)) m b → (0) ≤ b ∧ b < (wb).heap.size := by
        intro m b hg
        rcases hg with ⟨rfl, rfl⟩ | ⟨rfl, hg⟩
        · omega
        · exact Vf b hg
      have hGd : ∀ m m' b, (fun m b => (m = 0 ∧ b = ob) ∨ (m = 1 ∧ S b)) m b → (fun m b => (m = 0 ∧ b = ob) ∨ (m = 1 ∧ S b)) m' b → m = m' := by
        intro m m' b h h'
        rcases h with ⟨rfl, h⟩ | ⟨rfl, h⟩ <;> rcases h' with ⟨rfl, h'⟩ | ⟨rfl, h'⟩
        · rfl
        · exact absurd (h ▸ h') hnS
        · exact absurd (h' ▸ h) hnS
        · rfl
      refine region_rs [(10, 8)] [(8, 1), (12, 0)] (fun m b => (m = 0 ∧ b = ob) ∨ (m = 1 ∧ S b)) (0) (fun i iv vs wx => match i with
        | 0 => vs 0 = x0
        | 1 => vs 1 = x1
        | 2 => vs 2 = .slice a1 L.length l1
        | 3 => vs 3 = x3
        | 4 => vs 4 = x4
        | 5 => vs 5 = x5
        | 6 => vs 6 = x6
        | 7 => vs 7 = .slice (some ⟨(iv 7).1, 0, none⟩) 1 1 ∧ (iv 7).2 = (iv 7).1 + 1 ∧ Blk wx (iv 7).1 30 [.int .i64 0, .int .i64 0, .slice none 0 0]
        | 8 => ∃ g cap, vs 8 = .slice (some ⟨g, 0, none⟩) (L.length + 1) cap ∧ AppS (foot [(10, 8)] [(8, 1), (12, 0)] (fun m b => (m = 0 ∧ b = ob) ∨ (m = 1 ∧ S b)) 13 8 iv) wx 30 3 (L.length + 1) (shD L ++ zero3.map D.raw) (.slice (some ⟨g, 0, none⟩) (L.length + 1) cap)
        | 9 => vs 9 = .pointer (some ⟨slB (vs 8), L.length * 3, none⟩)
        | 10 => AppS (foot [(10, 8)] [(8, 1), (12, 0)] (fun m b => (m = 0 ∧ b = ob) ∨ (m = 1 ∧ S b)) 13 10 iv) wx 30 3 (L.length + 1) (shD (L ++ [⟨.mk k n ks, s, c⟩])) (vs 8)
        | 11 => vs 11 = x11
        | 12 => Blk wx (ob) 28 [vs 8]
        | _ => True) (fun i iv vs => match i with
        | 0 => vs 0 = x0
        | 1 => vs 1 = x1
        | 2 => vs 2 = .slice a1 L.length l1
        | 3 => vs 3 = x3
        | 4 => vs 4 = x4
        | 5 => vs 5 = x5
        | 6 => vs 6 = x6
        | 7 => vs 7 = .slice (some ⟨(iv 7).1, 0, none⟩) 1 1 ∧ (iv 7).2 = (iv 7).1 + 1
        | 8 => ∃ g cap, vs 8 = .slice (some ⟨g, 0, none⟩) (L.length + 1) cap
        | 9 => vs 9 = .pointer (some ⟨slB (vs 8), L.length * 3, none⟩)
        | 10 => True
        | 11 => vs 11 = x11
        | 12 => True
        | _ => True) (by kernel_rfl) (by kernel_rfl) [0, 1, 2, 3, 4, 5, 6, 7, 8, 9, 10, 11, 12] (by kernel_rfl) ?hbase ?hGb ?hG ?hJ ?hE ?hEE ?hstep ?hQ
      case hbase => first | exact Nat.le_refl _ | omega | (simp; omega)
      case hGb =>
        exact hGb
      case hG =>
        exact hGd
      case hJ =>
        intro i hi iv iv' vs vs' wx wx' ha hv hz hk hj
        simp only [List.mem_cons, List.not_mem_nil, or_false] at hi
        rcases hi with rfl | rfl | rfl | rfl | rfl | rfl | rfl | rfl | rfl | rfl | rfl | rfl | rfl
        · exact (hv.out 0 (mem_of (by kernel_rfl))).symm.trans hj
        · exact (hv.out 1 (mem_of (by kernel_rfl))).symm.trans hj
        · exact (hv.out 2 (mem_of (by kernel_rfl))).symm.trans hj
        · exact (hv.out 3 (mem_of (by kernel_rfl))).symm.trans hj
        · exact (hv.out 4 (mem_of (by kernel_rfl))).symm.trans hj
        · exact (hv.out 5 (mem_of (by kernel_rfl))).symm.trans hj
        · exact (hv.out 6 (mem_of (by kernel_rfl))).symm.trans hj
        · have e7 := hv.out 7 (mem_of (by kernel_rfl))
          have g7 := ha.out 7 (mem_of (by kernel_rfl))
          obtain ⟨q1, q3, q2⟩ := hj
          show vs' 7 = .slice (some ⟨(iv' 7).1, 0, none⟩) 1 1 ∧ (iv' 7).2 = (iv' 7).1 + 1 ∧ Blk wx' (iv' 7).1 30 [.int .i64 0, .int .i64 0, .slice none 0 0]
          rw [← e7, ← g7]
          exact ⟨q1, q3, q2.keep (hk.out _ q2.lt (foot_own (Nat.le_refl _) (by omega)))⟩
        · have e8 := hv.out 8 (mem_of (by kernel_rfl))
          obtain ⟨g, cap, q1, q2⟩ := hj
          exact ⟨g, cap, e8 ▸ q1, (q2.keep (fun b hb h1 => hk.out b hb h1)).more (fun b hb h1 => foot_agree (l := ancs _ 13 8) (by exact of_decide_eq_true (by kernel_rfl)) ha.out h1)⟩
        · have e8 := hv.out 8 (mem_of (by kernel_rfl))
          have e9 := hv.out 9 (mem_of (by kernel_rfl))
          have hj' : vs 9 = .pointer (some ⟨slB (vs 8), L.length * 3, none⟩) := hj
          show vs' 9 = .pointer (some ⟨slB (vs' 8), L.length * 3, none⟩)
          rw [← e8, ← e9]
          exact hj'
        · have e8 := hv.out 8 (mem_of (by kernel_rfl))
          have hj' : AppS (foot [(10, 8)] [(8, 1), (12, 0)] (fun m b => (m = 0 ∧ b = ob) ∨ (m = 1 ∧ S b)) 13 10 iv) wx 30 3 (L.length + 1) (shD (L ++ [⟨.mk k n ks, s, c⟩])) (vs 8) := hj
          show AppS (foot [(10, 8)] [(8, 1), (12, 0)] (fun m b => (m = 0 ∧ b = ob) ∨ (m = 1 ∧ S b)) 13 10 iv') wx' 30 3 (L.length + 1) (shD (L ++ [⟨.mk k n ks, s, c⟩])) (vs' 8)
          rw [← e8]
          exact (hj'.keep (fun b hb h1 => hk.out b hb h1)).more (fun b hb h1 => foot_agree (l := ancs _ 13 10) (by exact of_decide_eq_true (by kernel_rfl)) ha.out h1)
        · exact (hv.out 11 (mem_of (by kernel_rfl))).symm.trans hj
        · have e8 := hv.out 8 (mem_of (by kernel_rfl))
          have hj' : Blk wx (ob) 28 [vs 8] := hj
          show Blk wx' (ob) 28 [vs' 8]
          rw [← e8]
          exact hj'.keep (hk.out _ hj'.lt (foot_given 0 (by decide) (Or.inl ⟨rfl, rfl⟩)))
      case hE =>
        intro i hi iv vs wx hj
        simp only [List.mem_cons, List.not_mem_nil, or_false] at hi
        rcases hi with rfl | rfl | rfl | rfl | rfl | rfl | rfl | rfl | rfl | rfl | rfl | rfl | rfl
        · exact hj
        · exact hj
        · exact hj
        · exact hj
        · exact hj
        · exact hj
        · exact hj
        · exact ⟨hj.1, hj.2.1⟩
        · obtain ⟨g, cap, q1, -⟩ := hj
          exact ⟨g, cap, q1⟩
        · exact hj
        · trivial
        · exact hj
        · trivial
      case hEE =>
        intro i hi iv iv' vs vs' ha hv hj
        simp only [List.mem_cons, List.not_mem_nil, or_false] at hi
        rcases hi with rfl | rfl | rfl | rfl | rfl | rfl | rfl | rfl | rfl | rfl | rfl | rfl | rfl
        · exact (hv.out 0 (mem_of (by kernel_rfl))).symm.trans hj
        · exact (hv.out 1 (mem_of (by kernel_rfl))).symm.trans hj
        · exact (hv.out 2 (mem_of (by kernel_rfl))).symm.trans hj
        · exact (hv.out 3 (mem_of (by kernel_rfl))).symm.trans hj
        · exact (hv.out 4 (mem_of (by kernel_rfl))).symm.trans hj
        · exact (hv.out 5 (mem_of (by kernel_rfl))).symm.trans hj
        · exact (hv.out 6 (mem_of (by kernel_rfl))).symm.trans hj
        · have e7 := hv.out 7 (mem_of (by kernel_rfl))
          have g7 := ha.out 7 (mem_of (by kernel_rfl))
          have hj' : vs 7 = .slice (some ⟨(iv 7).1, 0, none⟩) 1 1 ∧ (iv 7).2 = (iv 7).1 + 1 := hj
          show vs' 7 = .slice (some ⟨(iv' 7).1, 0, none⟩) 1 1 ∧ (iv' 7).2 = (iv' 7).1 + 1
          rw [← e7, ← g7]
          exact hj'
        · have e8 := hv.out 8 (mem_of (by kernel_rfl))
          have hj' : ∃ g cap, vs 8 = .slice (some ⟨g, 0, none⟩) (L.length + 1) cap := hj
          show ∃ g cap, vs' 8 = .slice (some ⟨g, 0, none⟩) (L.length + 1) cap
          rw [← e8]
          exact hj'
        · have e8 := hv.out 8 (mem_of (by kernel_rfl))
          have e9 := hv.out 9 (mem_of (by kernel_rfl))
          have hj' : vs 9 = .pointer (some ⟨slB (vs 8), L.length * 3, none⟩) := hj
          show vs' 9 = .pointer (some ⟨slB (vs' 8), L.length * 3, none⟩)
          rw [← e8, ← e9]
          exact hj'
        · trivial
        · exact (hv.out 11 (mem_of (by kernel_rfl))).symm.trans hj
        · trivial
      case hstep =>
        intro i hi opr ho iv vs w1 hB hS hSo hd he hbd hsep hun K hK
        simp only [List.mem_cons, List.not_mem_nil, or_false] at hi
        have hzB := hB.size
        have kbb := hSo.out.block b (by omega) (fun ⟨m, h⟩ => by rcases h with ⟨_, h⟩ | ⟨_, h⟩; exact hbo h; exact hbS h)
        have q0 := (World.cell?_of_block (w := w) (w' := w1) (a := ⟨b, o, none⟩) (kbb.trans hbk0)).trans Hq0.out
        have q1 := (World.cell?_of_block (w := w) (w' := w1) (a := ⟨b, o + 1, none⟩) (kbb.trans hbk0)).trans Hq1.out
        have q2 := (World.cell?_of_block (w := w) (w' := w1) (a := ⟨b, o + 2, none⟩) (kbb.trans hbk0)).trans Hq2.out
        have hb9 : (L.length : Int) < (L.length : Int) + 1 := by omega
        generalize hA : putFrom _ 0 vs _ = A at hK ⊢
        simp only [putFrom, puts] at hA
        rcases hi with rfl | rfl | rfl | rfl | rfl | rfl | rfl | rfl | rfl | rfl | rfl | rfl | rfl
        all_goals
          simp at ho
          subst ho
          subst hA
        · go_wp2_with fail
          refine Onward.mk (hK ?val1_0 _ _ (fun h => by cases h) ?eqA (Spares.refl _) (fun iv' _ _ => ?ja))
          case eqA => first | rfl | (simp only [puts]; rfl)
          case ja => exact hx0.out.symm
        · have h0 := (hd.out 0 (mem_of (by kernel_rfl)) (by decide) (by kernel_rfl)).trans hx0.out
          go_wp2_with fail
          refine Onward.mk (hK ?val1_1 _ _ (fun h => by cases h) ?eqA (Spares.refl _) (fun iv' _ _ => ?ja))
          case eqA => first | rfl | (simp only [puts, h0]; rfl)
          case ja => exact hx1.out.symm
        · have h1 := (hd.out 1 (mem_of (by kernel_rfl)) (by decide) (by kernel_rfl)).trans hx1.out
          have OB1 := OB.keep (hS.out 0 _ (by kernel_rfl) (Or.inl ⟨rfl, rfl⟩))
          have obc0 := OB1.c0
          have obz0 := OB1.frozen 0
          have oblt := OB1.lt
          go_wp2_with fail
          exact Onward.mk (hK (.slice a1 L.length l1) _ _ (fun h => by cases h) (by first | rfl | (simp only [puts, h1])) (Spares.refl _) (fun iv' _ _ => rfl))
        · go_wp2_with fail
          refine Onward.mk (hK ?val1_3 _ _ (fun h => by cases h) ?eqA (Spares.refl _) (fun iv' _ _ => ?ja))
          case eqA => first | rfl | (simp only [puts]; rfl)
          case ja => exact hx3.out.symm
        · have h3 := (hd.out 3 (mem_of (by kernel_rfl)) (by decide) (by kernel_rfl)).trans hx3.out
          go_wp2_with fail
          refine Onward.mk (hK ?val1_4 _ _ (fun h => by cases h) ?eqA (Spares.refl _) (fun iv' _ _ => ?ja))
          case eqA => first | rfl | (simp only [puts, h3]; rfl)
          case ja => exact hx4.out.symm
        · have h4 := (hd.out 4 (mem_of (by kernel_rfl)) (by decide) (by kernel_rfl)).trans hx4.out
          go_wp2_with fail
          refine Onward.mk (hK ?val1_5 _ _ (fun h => by cases h) ?eqA (Spares.refl _) (fun iv' _ _ => ?ja))
          case eqA => first | rfl | (simp only [puts, h4]; rfl)
          case ja => exact hx5.out.symm
        · have h2 : vs 2 = .slice a1 L.length l1 := hd.out 2 (mem_of (by kernel_rfl)) (by decide) (by kernel_rfl)
          go_wp2_with fail
          refine Onward.mk (hK ?val1_6 _ _ (fun h => by cases h) ?eqA (Spares.refl _) (fun iv' _ _ => ?ja))
          case eqA => first | rfl | (simp only [puts, h2]; rfl)
          case ja => exact hx6.out.symm
        · go_wp2_with fail
          exact Onward.mk (hK (.slice (some ⟨w1.heap.size, 0, none⟩) 1 1) _ _ (fun h => by cases h) (by first | rfl | (simp only [puts])) (Spares.of_below (Below.alloc (Below.refl _ _) (Nat.le_refl _) _)) (fun iv' _ hi => by
            show Value.slice (some ⟨w1.heap.size, 0, none⟩) 1 1 = .slice (some ⟨(iv' 7).1, 0, none⟩) 1 1 ∧ (iv' 7).2 = (iv' 7).1 + 1 ∧ Blk _ (iv' 7).1 30 [.int .i64 0, .int .i64 0, .slice none 0 0]
            rw [hi]
            exact ⟨rfl, by simp, Blk.new3 _ _ _ _ _⟩))
        · have h2 : vs 2 = .slice a1 L.length l1 := hd.out 2 (mem_of (by kernel_rfl)) (by decide) (by kernel_rfl)
          obtain ⟨h7, q7, f7⟩ := hd.out 7 (mem_of (by kernel_rfl)) (by decide) (by kernel_rfl)
          have V1 := V.keep (fun b _ hb => hS.out 1 b (by kernel_rfl) (Or.inr ⟨rfl, hb⟩))
          simp only [h2, h7]
          have f7' : Blk w1 (iv 7).1 30 [.int .i64 0, .int .i64 0, .slice none 0 0] := by first | exact f7 | (rw [h7] at f7; exact f7)
          refine wpList_append_s w1 (by rfl) _ _ 28 (by rfl) 30 (.agg #[.int .i64 0, .int .i64 0, .slice none 0 0]) 3 40 Tryz.underlying28 zero_implExpr rfl (by decide) (S := (fun b => S b)) (T := (fun _ => False)) _ (by rfl) V1 ⟨(iv 7).1, 0, none⟩ 1 1 [.int .i64 0, .int .i64 0, .slice none 0 0] (by rfl) (news_blk f7') ⟨[], Ows.raws zero3_one, by simp, by simp⟩ (fun _ _ _ h => h) (by simp) (by simp [Value.oneCell']) (by omega) (by omega) (by unfold maxLen; omega) ?_
          intro g cap w2 hap ht
          go_wp2_with fail
          exact Onward.mk (hK (.slice (some ⟨g, 0, none⟩) (L.length + 1) cap) _ _ (fun h => by cases h) (by first | rfl | (simp only [puts, h2, h7])) (ht.more (fun b h => Or.inl ⟨1, by decide, (Or.inr ⟨rfl, h⟩)⟩)) (fun iv' ag hi => ⟨g, cap, rfl, hap.more (fun b _ h => by rcases h with h | h | h; exact foot_given 1 (by decide) (Or.inr ⟨rfl, h⟩); exact h.elim; exact foot_new hi h.1 h.2)⟩))
        · obtain ⟨g8, cap8, h8, f8⟩ := hd.out 8 (mem_of (by kernel_rfl)) (by decide) (by kernel_rfl)
          have h6 := (hd.out 6 (mem_of (by kernel_rfl)) (by decide) (by kernel_rfl)).trans hx6.out
          go_wp2_with fail
          exact Onward.mk (hK (.pointer (some ⟨g8, L.length * 3, none⟩)) _ _ (fun h => by cases h) (by first | rfl | (simp only [puts, h8, h6])) (Spares.refl _) (fun iv' _ _ => by
            show (.pointer (some ⟨g8, L.length * 3, none⟩) : Value) = .pointer (some ⟨slB (vs 8), L.length * 3, none⟩)
            simp only [h8, h6]; rfl))
        · have h9 : vs 9 = .pointer (some ⟨slB (vs 8), L.length * 3, none⟩) := hd.out 9 (mem_of (by kernel_rfl)) (by decide) (by kernel_rfl)
          have h5 := (hd.out 5 (mem_of (by kernel_rfl)) (by decide) (by kernel_rfl)).trans hx5.out
          obtain ⟨g8, cap8, h8, f8⟩ := hd.out 8 (mem_of (by kernel_rfl)) (by decide) (by kernel_rfl)
          rw [h8] at h9
          simp only [slB] at h9
          have f8' := f8
          rw [show shD L ++ zero3.map D.raw = (shs L ++ zero3).map D.raw by rw [List.map_append]; rfl] at f8'
          have hfg := f8'.blk.1
          obtain ⟨rest8, hbk, hback⟩ := f8'.turn
          have hl8 := shs_length L
          obtain ⟨y0, y1, y2⟩ := hbk.mid hl8
          have z0 := hbk.frozen (L.length * 3)
          have z1 := hbk.frozen (L.length * 3 + 1)
          have z2 := hbk.frozen (L.length * 3 + 2)
          have hgl := hbk.lt
          have HBk := Lib.hid hbk
          have HBack := Lib.hid hback
          clear hbk hback f8 f8'
          go_wp2_with fail
          have hms := HBk.out.mid_set hl8 (u := .int .i64 k) (v := .int .i64 n) (q := .slice s ks.length c)
          have hap := HBack.out _ (shs L ++ [.int .i64 k, .int .i64 n, .slice s ks.length c]) (by simp [zero3]) (fun u hu => by
            rcases List.mem_append.1 hu with h | h
            · simp only [shs, List.mem_flatMap, Sh.cells] at h
              obtain ⟨y, -, h⟩ := h
              simp at h
              rcases h with rfl | rfl | rfl <;> rfl
            · simp at h
              rcases h with rfl | rfl | rfl <;> rfl) hms
          have hsp8 : Spares (fun q => q = g8) w1 (((w1.setCell ⟨g8, L.length * 3, none⟩ (.int .i64 k)).setCell ⟨g8, L.length * 3 + 1, none⟩ (.int .i64 n)).setCell ⟨g8, L.length * 3 + 2, none⟩ (.slice s ks.length c)) := Spares.set (Spares.set (Spares.set (Spares.refl w1)))
          rw [show (shs L ++ ([.int .i64 k, .int .i64 n, .slice s ks.length c] : List Value)).map D.raw = shD (L ++ [⟨.mk k n ks, s, c⟩]) by simp [shD, shs, Sh.cells, Ex.kind_mk, Ex.num_mk, Ex.kids_mk]] at hap
          exact Onward.mk (hK undef _ _ (fun _ => rfl) (by simp only [Act.put, List.setIfInBounds_toArray, List.set_cons_succ, List.set_cons_zero, h9, h5, h8]) (hsp8.more (fun q h => Or.inr ⟨8, by decide, by rw [h]; exact hfg⟩)) (fun iv' ag hi => by
            show AppS _ _ _ _ _ _ (vs 8)
            rw [h8]
            exact hap.more (fun q hq h => foot_step (by kernel_rfl) ag h)))
        · have h0 := (hd.out 0 (mem_of (by kernel_rfl)) (by decide) (by kernel_rfl)).trans hx0.out
          go_wp2_with fail
          refine Onward.mk (hK ?val1_11 _ _ (fun h => by cases h) ?eqA (Spares.refl _) (fun iv' _ _ => ?ja))
          case eqA => first | rfl | (simp only [puts, h0]; rfl)
          case ja => exact hx11.out.symm
        · have h11 := (hd.out 11 (mem_of (by kernel_rfl)) (by decide) (by kernel_rfl)).trans hx11.out
          obtain ⟨g8, cap8, h8⟩ := he.out 8 (mem_of (by kernel_rfl)) (by decide)
          have OB1 := OB.keep (hS.out 0 _ (by kernel_rfl) (Or.inl ⟨rfl, rfl⟩))
          have obc0 := OB1.c0
          have obz0 := OB1.frozen 0
          have oblt := OB1.lt
          go_wp2_with fail
          exact Onward.mk (hK undef _ _ (fun _ => rfl) (by simp only [puts, h11, h8]) ((spares_sets (b0 := ob) (by repeat (first | exact Spares.refl _ | apply Spares.set))).more (fun b h => Or.inl ⟨0, by decide, (Or.inl ⟨rfl, h⟩)⟩)) (fun iv' ag hi => by
            show Blk _ (ob) 28 [vs 8]
            rw [h8]
            exact (OB1.set 0 _)))
      case hQ =>
        intro iv vs wx hB hSp hd he hbd hsep
        have hzB := hB.size
        have h0 := (hd.out 0 (mem_of (by kernel_rfl)) (not_eaten (by kernel_rfl))).trans hx0.out
        have h1 := (hd.out 1 (mem_of (by kernel_rfl)) (not_eaten (by kernel_rfl))).trans hx1.out
        have h2 : vs 2 = .slice a1 L.length l1 := hd.out 2 (mem_of (by kernel_rfl)) (not_eaten (by kernel_rfl))
        have h3 := (hd.out 3 (mem_of (by kernel_rfl)) (not_eaten (by kernel_rfl))).trans hx3.out
        have h4 := (hd.out 4 (mem_of (by kernel_rfl)) (not_eaten (by kernel_rfl))).trans hx4.out
        have h5 := (hd.out 5 (mem_of (by kernel_rfl)) (not_eaten (by kernel_rfl))).trans hx5.out
        have h6 := (hd.out 6 (mem_of (by kernel_rfl)) (not_eaten (by kernel_rfl))).trans hx6.out
        obtain ⟨h7, q7, f7⟩ := hd.out 7 (mem_of (by kernel_rfl)) (not_eaten (by kernel_rfl))
        obtain ⟨g8, cap8, h8⟩ := he.out 8 (mem_of (by kernel_rfl))
        have h9 : vs 9 = .pointer (some ⟨slB (vs 8), L.length * 3, none⟩) := hd.out 9 (mem_of (by kernel_rfl)) (not_eaten (by kernel_rfl))
        have f10 : AppS (foot [(10, 8)] [(8, 1), (12, 0)] (fun m b => (m = 0 ∧ b = ob) ∨ (m = 1 ∧ S b)) 13 10 iv) _ 30 3 (L.length + 1) (shD (L ++ [⟨.mk k n ks, s, c⟩])) (vs 8) := hd.out 10 (mem_of (by kernel_rfl)) (not_eaten (by kernel_rfl))
        have h11 := (hd.out 11 (mem_of (by kernel_rfl)) (not_eaten (by kernel_rfl))).trans hx11.out
        have f12 : Blk _ (ob) 28 [vs 8] := hd.out 12 (mem_of (by kernel_rfl)) (not_eaten (by kernel_rfl))
        simp only [putFrom, puts]
        have so10 : ∀ b, (foot [(10, 8)] [(8, 1), (12, 0)] (fun m b => (m = 0 ∧ b = ob) ∨ (m = 1 ∧ S b)) 13 10 iv) b → S b ∨ (wb).heap.size ≤ b := by
          rintro b ⟨j, hj, hh⟩
          have hj' := of_decide_eq_true (List.all_eq_true.1 (show ((chainOf [(10, 8)] 13 10).all fun j => decide (j ∈ [10, 8])) = true from by kernel_rfl) j hj)
          simp only [List.mem_cons, List.not_mem_nil, or_false] at hj'
          rcases hj' with rfl | rfl
          · have q := (hbd.out 10 (mem_of (by kernel_rfl))).1
            rcases hh with hh | ⟨m, hm, hg⟩
            · exact Or.inr (by omega)
            · simp at hm
          · have q := (hbd.out 8 (mem_of (by kernel_rfl))).1
            rcases hh with hh | ⟨m, hm, hg⟩
            · exact Or.inr (by omega)
            · simp at hm; subst hm; simp at hg; exact Or.inl hg
        rw [h8] at f12 f10
        have hS2 := hSp.out
        clear hd he hbd hsep
        go_wp2_with fail
        (first | refine bodyPost_ret (v := .tuple #[]) (by simp [results, Tryz.results168, go_sem]) rfl ?_ | refine bodyPost_end (v := .tuple #[]) (by simp [results, Tryz.results168, go_sem]) rfl ?_)
        refine ⟨rfl, _, [⟨.mk k n ks, s, c⟩], ⟨?_, fun y hy => ?_⟩, f12, ?_, ?_⟩
        · rw [hgr.out]; first | rfl | (rw [List.map_append]; rfl)
        · rw [List.mem_singleton] at hy
          subst hy
          exact hkx
        · try rw [List.length_append]
          exact f10.more (fun q hq h => (so10 q h).imp id (fun h => ⟨by have := hBr.size; omega, hq⟩))
        · exact (Spares.of_below hBr).trans (hS2.more fun q ⟨m, h⟩ => by rcases h with ⟨_, h⟩ | ⟨_, h⟩; exact Or.inr h; exact Or.inl h)
end Go.Proofs.YtjlmdhoajfdkbaaGreatDoor

namespace Go.Proofs.YtjlmdhoajfdkbaaGreatDoor
set_option linter.unusedVariables false
set_option linter.unusedSimpArgs false
open Go.ChangeShapes Go.WideShapes Go.ChangeAt Go.RowKit Go.Deep Go.Sort
theorem bytesLess_lt : ∀ a b : List UInt8, Op.bytesLess a b = decide (a < b)
  | [], [] => by simp [Op.bytesLess]
  | [], y :: b => by simp [Op.bytesLess]
  | x :: a, [] => by simp [Op.bytesLess]
  | x :: a, y :: b => by
    rw [Op.bytesLess, bytesLess_lt a b]
    by_cases h1 : x < y
    · simp [h1, List.cons_lt_cons_iff]
    · by_cases h2 : x = y
      · subst h2; simp [h1, List.cons_lt_cons_iff]
      · simp [h1, h2, List.cons_lt_cons_iff]
theorem Ows.raws_one {w : World} : ∀ {us : List Value} {F : List Nat}, Ows w (us.map D.raw) us F → ∀ u ∈ us, u.oneCell' = true
  | [], _, _, u, hu => by simp at hu
  | a :: r, F, h, u, hu => by
    simp only [List.map_cons, Ows, Ow] at h
    obtain ⟨x, r', G, K, e1, e2, ⟨⟨rfl, ha⟩, rfl⟩, h⟩ := h
    simp only [List.cons.injEq] at e1
    obtain ⟨-, rfl⟩ := e1
    rcases List.mem_cons.1 hu with rfl | hu
    · exact ha
    · exact Ows.raws_one h u hu
theorem AppS.cut {S : Nat → Prop} {w : World} {t size n g c : Nat} {us : List Value} (h : AppS S w t size n (us.map D.raw) (.slice (some ⟨g, 0, none⟩) n c)) {m : Nat} (hm : m ≤ n) :
    AppS S w t size m ((us.take (m * size)).map D.raw) (.slice (some ⟨g, 0, none⟩) m c) := by
  obtain ⟨xs, F, h1, h2, h3, h4, h5⟩ := h
  have hx := Rds.raws h2.rds
  subst hx
  have ho := h2.raws_one
  have hl : xs.length = n * size := h1.1
  have hms : m * size ≤ n * size := Nat.mul_le_mul_right _ hm
  rcases h1.2 with ⟨h, -⟩ | ⟨g', cap, cur, e, -, hb, k1, k2, k3, k4⟩
  · simp at h
  · simp only [Value.slice.injEq, Option.some.injEq, Addr.mk.injEq, and_true, true_and] at e
    obtain ⟨rfl, rfl⟩ := e
    refine ⟨xs.take (m * size), [], ⟨by rw [List.length_take]; omega, Or.inr ⟨g, c, cur, rfl, Nat.zero_le _, hb, by omega, k2, k3, ?_⟩⟩, Ows.raws fun u hu => ho u (List.mem_of_mem_take hu), by simp, by simp, h5⟩
    rw [← k4, List.take_take, Nat.min_eq_left hms]
theorem AppS.only {S : Nat → Prop} {w : World} {t size n g c : Nat} {us : List Value} (h : AppS S w t size n (us.map D.raw) (.slice (some ⟨g, 0, none⟩) n c)) : AppS (fun b => b = g) w t size n (us.map D.raw) (.slice (some ⟨g, 0, none⟩) n c) := by
  obtain ⟨xs, F, h1, h2, h3, h4, h5⟩ := h
  have hx := Rds.raws h2.rds
  subst hx
  refine ⟨xs, [], h1, ?_, by simp, by simp, fun b hb => by simp [Value.ownBlock] at hb; exact hb.symm⟩
  exact Ows.raws h2.raws_one
theorem wpList_append_raw {P : Program} (w : World) {ops : Array Oper} {rest : List Oper} {o : Oper} {a : Act} {Q : Exit → Act → World → Prop} (hgd : o.guard = none) (s x : Operand) (t : TypeId)
    (ho : o.op = .call { callee := .builtin .append, args := #[s, x], argTypes := #[t, t] })
    (e : TypeId) (z : Value) (size bytes : Nat) (ht : P.underlying t = some (.slice e)) (hinfo : (P.info? e).map (fun i => (i.zero, i.size, i.bytes)) = some (some z, size, bytes)) (hzs : z.cells.size = size) (hsz : 0 < size)
    {S : Nat → Prop} {g n c : Nat} {us : List Value} (hs : a.eval s = .slice (some ⟨g, 0, none⟩) n c) (happ : AppS S w e size n (us.map D.raw) (.slice (some ⟨g, 0, none⟩) n c))
    (ad : Addr) (sa : Option Addr) (m c' : Nat) (news : List Value) (hx : a.eval x = .slice sa m c') (hsa : sa = some ad) (hnews : ∀ j u, news[j]? = some u → w.cell? (ad.add j) = some u)
    (hl : news.length = m * size) (h1 : ∀ u ∈ news, u.oneCell' = true) (hbytes : (n + m) * bytes ≤ 140737488355328) (h63 : n + m ≤ maxLen)
    (h : ∀ g' cap w', (g' = g ∨ w.heap.size ≤ g') → AppS (fun b => b = g') w' e size (n + m) ((us ++ news).map D.raw) (.slice (some ⟨g', 0, none⟩) (n + m) cap) → Spares (fun b => b = g) w w' →
      wpList P ops Q rest (a.put o.dst (.slice (some ⟨g', 0, none⟩) (n + m) cap)) w') : wpList P ops Q (o :: rest) a w := by
  subst hsa
  obtain ⟨i, hi, hz, hsize, hby⟩ := info_parts hinfo
  obtain ⟨xs, F, h1', h2, h3, h4, h5⟩ := happ
  have hxs := Rds.raws h2.rds
  subst hxs
  refine wpList_append_own_at w hgd s x t ho 0 e i z size bytes ht hi hz hsize hby hzs hsz _ n xs hs h1' ad m c' news hx hl hnews h1 h63 hbytes (Nat.zero_le _) ?_
  intro v' w' k1 k2 k3 k4
  have hne : v' ≠ .slice none 0 0 := fun e => by have := (k3.1 e).1; simp at this
  rcases k1.2 with ⟨e, -⟩ | ⟨g', cap, cur, rfl, -, hb, q1, q2, q3, q4⟩
  · exact absurd e hne
  have hw : ∀ u ∈ xs ++ news, u.oneCell' = true := by
    intro u hu
    rcases List.mem_append.1 hu with hu | hu
    · exact h2.raws_one u hu
    · exact h1 u hu
  refine h g' cap w' ?_ ⟨_, [], k1, Ows.raws hw, by simp, by simp, fun b hb => by simp [Value.ownBlock] at hb; exact hb.symm⟩ ⟨k2.os, k2.tape, k2.output, k2.size, fun b hb hn => k2.block b hb (fun e => hn (by simpa [Value.ownBlock] using e))⟩
  rcases k4 with k4 | k4
  · left; simpa [Value.ownBlock] using k4
  · right; have : g' = w.heap.size := by simpa [Value.ownBlock] using k4
    omega
def placeS (z : Sh) (A : List Sh) : Nat := (A.takeWhile (fun y : Sh => y.e.lt z.e)).length
def insS (z : Sh) (A : List Sh) : List Sh := A.take (placeS z A) ++ z :: A.drop (placeS z A)
theorem takeWhile_map_len (p : Ex → Bool) : ∀ A : List Sh, (A.takeWhile (fun y : Sh => p y.e)).length = ((A.map Sh.e).takeWhile p).length
  | [] => rfl
  | x :: r => by
    by_cases h : p x.e = true
    · rw [List.takeWhile_cons_of_pos (p := fun y : Sh => p y.e) h, List.map_cons, List.takeWhile_cons_of_pos h, List.length_cons, List.length_cons, takeWhile_map_len p r]
    · rw [List.takeWhile_cons_of_neg (p := fun y : Sh => p y.e) h, List.map_cons, List.takeWhile_cons_of_neg h]; rfl
theorem takeWhile_take (p : Ex → Bool) : ∀ A : List Ex, A.take (A.takeWhile p).length = A.takeWhile p ∧ A.drop (A.takeWhile p).length = A.dropWhile p
  | [] => ⟨rfl, rfl⟩
  | x :: r => by
    by_cases h : p x = true
    · rw [List.takeWhile_cons_of_pos h, List.dropWhile_cons_of_pos h]
      simp [takeWhile_take p r]
    · rw [List.takeWhile_cons_of_neg h, List.dropWhile_cons_of_neg h]
      simp
theorem insS_e (z : Sh) (A : List Sh) : (insS z A).map Sh.e = insT z.e (A.map Sh.e) := by
  unfold insS insT placeS
  rw [List.map_append, List.map_cons, List.map_take, List.map_drop, takeWhile_map_len (fun x : Ex => x.lt z.e) A]
  obtain ⟨h1, h2⟩ := takeWhile_take (fun x : Ex => x.lt z.e) (A.map Sh.e)
  rw [h1, h2]
theorem placeS_eq (z : Sh) : ∀ (A : List Sh) (j : Nat), j ≤ A.length → (∀ m, m < j → ∀ y, A[m]? = some y → y.e.lt z.e = true) → (∀ y, A[j]? = some y → y.e.lt z.e = false) → placeS z A = j
  | [], j, hj, _, _ => by simp at hj; subst hj; rfl
  | x :: r, 0, _, _, h => by
    have := h x rfl
    unfold placeS
    rw [List.takeWhile_cons_of_neg (p := fun y : Sh => y.e.lt z.e) (by simp [this])]
    rfl
  | x :: r, j + 1, hj, h1, h2 => by
    have := h1 0 (by omega) x rfl
    have ih := placeS_eq z r j (by simpa using hj) (fun m hm y hy => h1 (m + 1) (by omega) y (by simpa using hy)) (fun y hy => h2 y (by simpa using hy))
    unfold placeS at ih ⊢
    rw [List.takeWhile_cons_of_pos (p := fun y : Sh => y.e.lt z.e) this, List.length_cons, ih]
theorem insS_mem {z q : Sh} {A : List Sh} (h : q ∈ insS z A) : q = z ∨ q ∈ A := by
  unfold insS at h
  rcases List.mem_append.1 h with h | h
  · exact Or.inr (List.mem_of_mem_take h)
  · rcases List.mem_cons.1 h with h | h
    · exact Or.inl h
    · exact Or.inr (List.mem_of_mem_drop h)
theorem from_at {g c n j o : Nat} (hj : j ≤ n) (hn : n ≤ c) : ∃ ad, (if c = j then some (⟨g, 0, none⟩ : Addr) else some ⟨g, o, none⟩) = some ad ∧ (n - j = 0 ∨ ad = ⟨g, o, none⟩) := by
  by_cases h : c = j
  · exact ⟨⟨g, 0, none⟩, if_pos h, Or.inl (by omega)⟩
  · exact ⟨⟨g, o, none⟩, if_neg h, Or.inr rfl⟩
theorem bs_list (l : List UInt8) : (bs l).toList = l := by
  rw [ByteArray.toList_eq]
  rfl
theorem row_news {w : World} {g t n j size : Nat} {us rest : List Value} {ad : Addr} (hb : Blk w g t (us ++ rest)) (hl : us.length = n * size) (hj : j ≤ n) (h : n - j = 0 ∨ ad = ⟨g, j * size, none⟩) : ∀ i u, (us.drop (j * size))[i]? = some u → w.cell? (ad.add i) = some u := by
  intro i u hu
  rcases h with h | rfl
  · exfalso
    have : j = n := by omega
    subst this
    rw [← hl, List.drop_length] at hu
    simp at hu
  · rw [List.getElem?_drop] at hu
    rw [add_plain, hb.cell, List.getElem?_append_left (List.getElem?_eq_some_iff.1 hu).1]
    exact hu
theorem head_news {w : World} {g t : Nat} {us rest : List Value} (hb : Blk w g t (us ++ rest)) : ∀ i u, us[i]? = some u → w.cell? ((⟨g, 0, none⟩ : Addr).add i) = some u := by
  intro i u hu
  rw [add_plain, Nat.zero_add, hb.cell, List.getElem?_append_left (List.getElem?_eq_some_iff.1 hu).1]
  exact hu
theorem strs_one (A : List Sh) : ∀ u ∈ A.map (fun z => kfS z.e.text), u.oneCell' = true := by
  intro u hu
  obtain ⟨z, -, rfl⟩ := List.mem_map.1 hu
  rfl
theorem shs_ones (A : List Sh) : ∀ u ∈ shs A, u.oneCell' = true := by
  intro u hu
  simp only [shs, List.mem_flatMap, Sh.cells] at hu
  obtain ⟨y, -, h⟩ := hu
  simp at h
  rcases h with rfl | rfl | rfl <;> rfl
theorem info_string : (Tryz.prog.info? 9).map (fun i => (i.zero, i.size, i.bytes)) = some (some (.string ⟨#[]⟩), 1, 16) := by kernel_rfl
theorem shs_append (A B : List Sh) : shs (A ++ B) = shs A ++ shs B := by simp [shs]
theorem shs_take : ∀ (A : List Sh) (j : Nat), shs (A.take j) = (shs A).take (j * 3)
  | [], j => by simp [shs]
  | x :: r, 0 => by simp [shs]
  | x :: r, j + 1 => by
    have := shs_take r j
    rw [List.take_succ_cons]
    simp only [shs, List.flatMap_cons] at this ⊢
    rw [this, show (j + 1) * 3 = x.cells.length + j * 3 by simp [Sh.cells]; omega, List.take_length_add_append]
theorem shs_drop : ∀ (A : List Sh) (j : Nat), shs (A.drop j) = (shs A).drop (j * 3)
  | [], j => by simp [shs]
  | x :: r, 0 => by simp [shs]
  | x :: r, j + 1 => by
    have := shs_drop r j
    rw [List.drop_succ_cons]
    simp only [shs, List.flatMap_cons] at this ⊢
    rw [this, show (j + 1) * 3 = x.cells.length + j * 3 by simp [Sh.cells]; omega, List.drop_length_add_append]
set_option maxRecDepth 100000 in
set_option maxHeartbeats 8000000 in
theorem l02Sorted_i {tm am : Int} (ht : tm ≤ 8) (ha : am ≤ 8) {X SL : Nat → Prop} {L : List Sh} {la : Option Addr} {lc : Nat} {w : World} (hX : ∀ b, X b → b < w.heap.size) (hLX : ShX X w L) (hLt : ∀ z ∈ L, z.e.tree tm am = true ∧ z.e.size ≤ 100000) (hLn : L.length ≤ 100000)
    (hv : AppS SL w 30 3 L.length (shD L) (.slice la L.length lc)) :
    Calls Tryz.prog 169 #[.slice la L.length lc] w fun f w' => ∃ g' c' L', f = .returned (.slice (some ⟨g', 0, none⟩) L'.length c') ∧ (L'.map Sh.e = sortI (L.map Sh.e) ∧ ∀ z ∈ L', z ∈ L) ∧ w.heap.size ≤ g' ∧
      AppS (fun b => b = g') w' 30 3 L'.length (shD L') (.slice (some ⟨g', 0, none⟩) L'.length c') ∧ Below w.heap.size w w' := by
  have hrow : Hid (L = [] ∨ ∃ g, la = some ⟨g, 0, none⟩ ∧ g < w.heap.size ∧ ∃ rest, Blk w g 30 (shs L ++ rest)) := by
    obtain ⟨a', c', e', -, -, -, hh⟩ := AppS.at hv
    simp only [Value.slice.injEq, true_and] at e'
    obtain ⟨rfl, rfl⟩ := e'
    rcases hh with h | ⟨g, h1, h2, h3, h4⟩
    · refine Or.inl ?_
      have := shs_length L
      rw [h] at this
      exact List.eq_nil_of_length_eq_zero (by simp at this; omega)
    · exact Or.inr ⟨g, h1, h3, h4⟩
  obtain ⟨a0, c0, e0, hlc1, hlc2⟩ := hv.shape
  simp only [Value.slice.injEq, true_and] at e0
  obtain ⟨rfl, rfl⟩ := e0
  unfold maxLen at hlc2
  have HLt := Lib.hid hLt
  clear hv hLt
  go_enter Tryz.func169, Tryz.ntmps169
  go_wp2_with fail
  have T0 := (Blk.new0 w 9).alloc (.cells #[] 30)
  have O0 := Blk.new0 (w.alloc (.cells #[] 9)) 30
  have hB0 : Below w.heap.size w ((w.alloc (.cells #[] 9)).alloc (.cells #[] 30)) := by (repeat' first | exact Below.refl _ _ | assumption | apply Below.alloc | apply Below.drew | apply Below.setCell | omega | (simp; done) | (simp; omega))
  simp at O0
  go_loopw [3, 4, 5] (fun l3 l4 i wr => ∃ (k g3 c3 g4 c4 : Nat) (A : List Sh), k ≤ L.length ∧ i = .int .i64 k ∧ Hid (A.map Sh.e = sortI ((L.take k).map Sh.e)) ∧ (∀ z ∈ A, z ∈ L) ∧ A.length = k ∧ l3 = .slice (some ⟨g3, 0, none⟩) k c3 ∧ l4 = .slice (some ⟨g4, 0, none⟩) k c4 ∧ g3 ≠ g4 ∧ w.heap.size ≤ g3 ∧ w.heap.size ≤ g4 ∧
    AppS (fun b => b = g3) wr 9 1 k ((A.map fun z => kfS z.e.text).map D.raw) (.slice (some ⟨g3, 0, none⟩) k c3) ∧ AppS (fun b => b = g4) wr 30 3 k (shD A) (.slice (some ⟨g4, 0, none⟩) k c4) ∧ Below w.heap.size w wr) (fun _ _ i _ => L.length - (intOf i).toNat)
  case atStart => exact ⟨0, _, 0, _, 0, [], by omega, rfl, by show _ = _; rfl, by simp, rfl, rfl, rfl, by simp, by omega, by omega, AppS.empty T0 rfl, AppS.empty O0 rfl, hB0⟩
  case round =>
    obtain ⟨k, g3, c3, g4, c4, A, hk, rfl, HA, hAm, hAk, rfl, rfl, hg34, hg3, hg4, hT, hO, hBr⟩ := hrel
    have hszr := hBr.size
    by_cases hlt : k < L.length
    rotate_left
    · obtain rfl : k = L.length := by omega
      go_wp2_with fail
      go_ret
      exact ⟨g4, c4, A, by rw [hAk]; rfl, ⟨by have := HA.out; rwa [List.take_length] at this, hAm⟩, hg4, by rw [hAk]; exact hO, hBr⟩
    obtain ⟨z, hz⟩ : ∃ z, L[k]? = some z := ⟨_, List.getElem?_eq_getElem hlt⟩
    have hzm := List.mem_of_getElem? hz
    rcases hrow.out with h | ⟨lg, rfl, hlg, rest, hblk⟩
    · exfalso; rw [h] at hlt; simp at hlt
    have hbr := hblk.below hBr
    have q : ∀ m v, z.cells[m]? = some v → wr.cell? ⟨lg, k * 3 + m, none⟩ = some v := by
      intro m v hv
      have hm : m < 3 := by have := (List.getElem?_eq_some_iff.1 hv).1; simpa [Sh.cells] using this
      rw [hbr.cell, List.getElem?_append_left (by rw [shs_length]; omega), shs_at L k z hz m hm, hv]
    have hzX := (hLX z hzm).below hBr
    have hza : ExAt wr lg (k * 3) z.e := ⟨q 0 _ rfl, q 1 _ rfl, z.s, z.c, q 2 _ rfl, hzX.rd⟩
    obtain ⟨htz, hzs⟩ := HLt.out z hzm
    have ha1 := Int.natCast_nonneg k
    have hb1 : (k : Int) < (L.length : Int) := by omega
    clear q hbr
    go_wp2_with fail
    refine (l01Text_all tm am ht ha _ z.e lg (k * 3) wr (Nat.le_refl _) hza htz (by omega)).mono ?_
    rintro f w2 ⟨rfl, hb⟩
    have hB2 := hBr.trans (hb.mono hszr)
    have hT2 := hT.keep (fun b h _ => hb.block b h)
    have hO2 := hO.keep (fun b h _ => hb.block b h)
    clear hT hO hb hza hzX
    obtain ⟨wo, rfl⟩ : ∃ v, v = wr := ⟨_, rfl⟩
    go_wp2_with fail
    go_loopw [7] (fun i7 wr => ∃ j : Nat, j ≤ k ∧ i7 = .int .i64 j ∧ (∀ m, m < j → ∀ y, A[m]? = some y → y.e.lt z.e = true) ∧ wr = w2) (fun i _ => k - (intOf i).toNat)
    case atStart => exact ⟨0, by omega, rfl, fun m hm => by omega, rfl⟩
    case round =>
      obtain ⟨j, hj, rfl, hless, rfl⟩ := hrel
      obtain ⟨-, hc31, hc32, rest3, hbk3⟩ := hT2.blk
      obtain ⟨-, hc41, hc42, rest4, hbk4⟩ := AppS.blk (us := shs A) hO2
      unfold maxLen at hc32 hc42
      have hj0 := Int.natCast_nonneg j
      by_cases hjk : j < k
      · obtain ⟨y, hy⟩ : ∃ y, A[j]? = some y := ⟨_, List.getElem?_eq_getElem (by omega)⟩
        have tcell : wr.cell? ⟨g3, j, none⟩ = some (.string (bs y.e.text)) := by
          rw [hbk3.cell, List.getElem?_append_left (by rw [List.length_map]; omega), List.getElem?_map, hy]
          rfl
        have hjb : (j : Int) < (k : Int) := by omega
        have hcmp : Op.bytesLess (bs y.e.text).toList (bs z.e.text).toList = y.e.lt z.e := by rw [bytesLess_lt, bs_list, bs_list]; rfl
        cases hlt2 : y.e.lt z.e
        · rw [hlt2] at hcmp
          have hpl : placeS z A = j := placeS_eq z A _ (by omega) hless (fun y' hy' => by rw [hy] at hy'; obtain rfl := Option.some.inj hy'; exact hlt2)
          obtain ⟨ad3, if3, s3c⟩ := from_at (g := g3) (o := j) hj hc31
          obtain ⟨ad4, if4, s4c⟩ := from_at (g := g4) (o := j * 3) hj hc41
          have hg3l := hbk3.lt
          have hg4l := hbk4.lt
          have hTl : (A.map fun z => kfS z.e.text).length = k * 1 := by rw [List.length_map]; omega
          have hOl : (shs A).length = k * 3 := by rw [shs_length, hAk]
          have HT2 := Lib.hid hT2
          have HO2 := Lib.hid hO2
          have Hk3 := Lib.hid hbk3
          have Hk4 := Lib.hid hbk4
          have Hless := Lib.hid hless
          have hjc3 : (j : Int) ≤ (c3 : Int) := by omega
          have hjc4 : (j : Int) ≤ (c4 : Int) := by omega
          have hjk2 : (j : Int) ≤ (k : Int) := by omega
          clear hT2 hO2 hbk3 hbk4 hless
          obtain ⟨w2, rfl⟩ : ∃ v, v = wr := ⟨_, rfl⟩
          go_wp2_with (first
            | (at_builtin; refine (wpList_append_raw (w2.alloc (.cells #[] 9)) rfl _ _ 212 rfl 9 (.string ⟨#[]⟩) 1 16 Tryz.underlying212 info_string rfl (by decide) (g := w2.heap.size) (n := 0) (c := 0) (us := []) rfl (AppS.empty (S := fun b => b = w2.heap.size) (Blk.new0 w2 9) rfl) ad3 _ (k - j) _ ((A.map fun z => kfS z.e.text).drop (j * 1)) rfl (by first | rfl | (rcases s3c with h | h; exact absurd h (by omega); rw [h])) (row_news (Hk3.out.alloc _) hTl hj (by rwa [Nat.mul_one])) (by rw [List.length_drop, hTl]; omega) (fun u hu => strs_one A u (List.mem_of_mem_drop hu)) (by omega) (by unfold maxLen; omega) ?_); intro gA cA w8 hg8 hap8 hsp8; have hz8 := hsp8.size; simp at hz8; have hq8 : w2.heap.size ≤ gA := (by rcases hg8 with h | h; omega; simp at h; omega); have hl8 : gA < w8.heap.size := (hap8.blk.2.2.2.elim fun _ h => h.lt); have K8 : Below w2.heap.size w2 w8 := (Below.alloc (Below.refl _ _) (Nat.le_refl _) _).trans (hsp8.below (by simp) (fun b h => by omega)))
            | (at_builtin; refine (wpList_append_raw (w8.alloc (.cells #[] 30)) rfl _ _ 28 rfl 30 (.agg #[.int .i64 0, .int .i64 0, .slice none 0 0]) 3 40 Tryz.underlying28 zero_implExpr rfl (by decide) (g := w8.heap.size) (n := 0) (c := 0) (us := []) rfl (AppS.empty (S := fun b => b = w8.heap.size) (Blk.new0 w8 30) rfl) ad4 _ (k - j) _ ((shs A).drop (j * 3)) rfl (by first | rfl | (rcases s4c with h | h; exact absurd h (by omega); rw [h])) (row_news ((Hk4.out.below K8).alloc _) hOl hj s4c) (by rw [List.length_drop, hOl]; omega) (fun u hu => shs_ones A u (List.mem_of_mem_drop hu)) (by omega) (by unfold maxLen; omega) ?_); intro gB cB w9 hg9 hap9 hsp9; have hz9 := hsp9.size; simp at hz9; have hq9 : w8.heap.size ≤ gB := (by rcases hg9 with h | h; omega; simp at h; omega); have hl9 : gB < w9.heap.size := (hap9.blk.2.2.2.elim fun _ h => h.lt); have K9 : Below w8.heap.size w8 w9 := (Below.alloc (Below.refl _ _) (Nat.le_refl _) _).trans (hsp9.below (by simp) (fun b h => by omega)))
            | (at_builtin; refine (wpList_append_raw (w9.alloc (.cells #[.string (bs z.e.text)] 9)) rfl _ _ 212 rfl 9 (.string ⟨#[]⟩) 1 16 Tryz.underlying212 info_string rfl (by decide) (S := fun b => b = g3) (g := g3) (n := j) (c := c3) (us := (A.map fun z => kfS z.e.text).take (j * 1)) rfl ((HT2.out.cut hj).keep (fun b hb h => by rw [Below.heap_alloc w9 _ b (by omega), K9.block b (by omega), K8.block b (by omega)])) ⟨w9.heap.size, 0, none⟩ _ 1 1 [kfS z.e.text] rfl rfl (news_blk (Blk.made w9 9 #[kfS z.e.text])) rfl (by intro u hu; simp at hu; subst hu; rfl) (by omega) (by unfold maxLen; omega) ?_); intro g10 c10 w10 hg10 hap10 hsp10; have hz10 := hsp10.size; simp at hz10; have hq10 : g10 = g3 ∨ w9.heap.size < g10 := (by rcases hg10 with h | h; exact Or.inl h; simp at h; exact Or.inr (by omega)); have hl10 : g10 < w10.heap.size := (hap10.blk.2.2.2.elim fun _ h => h.lt))
            | (at_builtin; (refine wpList_append_raw w10 rfl _ _ 212 rfl 9 (.string ⟨#[]⟩) 1 16 Tryz.underlying212 info_string rfl (by decide) (S := fun b => b = g10) (g := g10) (n := j + 1) (c := c10) (us := (A.map fun z => kfS z.e.text).take (j * 1) ++ [kfS z.e.text]) rfl hap10 ⟨gA, 0, none⟩ _ (k - j) _ ((A.map fun z => kfS z.e.text).drop (j * 1)) rfl rfl (fun i u hu => ((hap8.keep (fun b hb h => K9.block b hb)).keep (w' := w10) (fun b hb h => by rw [hsp10.block b (by simp; omega) (by omega), Below.heap_alloc w9 _ b hb])).blk.2.2.2.elim fun r8 hr8 => head_news hr8 i u (by simpa using hu)) (by rw [List.length_drop, hTl]; omega) (fun u hu => strs_one A u (List.mem_of_mem_drop hu)) (by omega) (by unfold maxLen; omega) ?_; intro g11 c11 w11 hg11 hap11 hsp11; have hz11 := hsp11.size; have hl11 : g11 < w11.heap.size := (hap11.blk.2.2.2.elim fun _ h => h.lt)))
            | (at_builtin; go_must (fail)))
          obtain ⟨wb, rfl⟩ : ∃ v, v = w11 := ⟨_, rfl⟩
          have KA : ∀ b, b < w2.heap.size → b ≠ g3 → wb.heap[b]? = w2.heap[b]? := fun b hb h3 => by
            rw [hsp11.block b (by omega) (by omega), hsp10.block b (by simp; omega) h3, Below.heap_alloc w9 _ b (by omega), K9.block b (by omega), K8.block b (by omega)]
          have hszb : w2.heap.size < wb.heap.size := by omega
          have OC : AppS (fun b => b = g4) wb 30 3 j (shD (A.take j)) (.slice (some ⟨g4, 0, none⟩) j c4) := by
            have q := (AppS.cut (us := shs A) HO2.out hj).keep (w' := wb) (fun b hb h => KA b (by omega) (by omega))
            rw [← shs_take] at q
            exact q
          have RC : AppS (fun b => b = gB) wb 30 3 (k - j) (shD (A.drop j)) (.slice (some ⟨gB, 0, none⟩) (k - j) cB) := by
            have q := hap9.keep (w' := wb) (fun b hb h => by rw [hsp11.block b (by omega) (by omega), hsp10.block b (by simp; omega) (by omega), Below.heap_alloc w9 _ b hb])
            rw [List.nil_append, ← shs_drop, Nat.zero_add] at q
            exact q
          have OCf : ∀ b, b = g4 → 0 ≤ b ∧ b < wb.heap.size := fun b h => by omega
          have RCf : ∀ b, b = gB → 0 ≤ b ∧ b < wb.heap.size := fun b h => by omega
          have hT11 : AppS (fun b => b = g11) wb 9 1 (k + 1) (((insS z A).map fun z => kfS z.e.text).map D.raw) (.slice (some ⟨g11, 0, none⟩) (k + 1) c11) := by
            have e1 : (insS z A).map (fun z => kfS z.e.text) = (A.map fun z => kfS z.e.text).take (j * 1) ++ [kfS z.e.text] ++ (A.map fun z => kfS z.e.text).drop (j * 1) := by
              unfold insS
              rw [hpl, Nat.mul_one, List.map_append, List.map_cons, List.map_take, List.map_drop, List.append_assoc]
              rfl
            rw [e1]
            have q := hap11
            rw [show j + 1 + (k - j) = k + 1 by omega] at q
            exact q
          have hlgk : wb.heap[lg]? = w2.heap[lg]? := KA lg (by omega) (by omega)
          have hblk2 := (hblk.below hB2).keep hlgk
          have qz : ∀ m v, z.cells[m]? = some v → wb.cell? ⟨lg, k * 3 + m, none⟩ = some v := by
            intro m v hv
            have hm : m < 3 := by have := (List.getElem?_eq_some_iff.1 hv).1; simpa [Sh.cells] using this
            rw [hblk2.cell, List.getElem?_append_left (by rw [shs_length]; omega), shs_at L k z hz m hm, hv]
          have Q0 := Lib.hid (qz 0 _ rfl)
          have Q1 := Lib.hid (qz 1 _ rfl)
          have Q2 := Lib.hid (qz 2 _ rfl)
          have hB11 : Below w.heap.size w wb := hB2.trans ⟨hsp11.os.trans (hsp10.os.trans (K9.os.trans K8.os)), hsp11.tape.trans (hsp10.tape.trans (K9.tape.trans K8.tape)), hsp11.output.trans (hsp10.output.trans (K9.output.trans K8.output)), by have := hB2.size; omega, fun b hb => KA b (by have := hB2.size; omega) (by omega)⟩
          have hA2 : Hid ((insS z A).map Sh.e = sortI ((L.take (k + 1)).map Sh.e)) := by
            show _ = _
            rw [insS_e, HA.out, List.take_succ_eq_append_getElem hlt, List.map_append, (List.getElem?_eq_some_iff.1 hz).2]
            unfold sortI
            rw [List.foldl_append]
            rfl
          have hAl : (insS z A).length = k + 1 := by
            unfold insS
            rw [hpl, List.length_append, List.length_take, List.length_cons, List.length_drop]
            omega
          have hq11 : g11 = g10 ∨ w10.heap.size ≤ g11 := hg11
          clear hap8 hap9 hap10 hap11 qz hblk2 hlgk HT2 HO2 Hk3 Hk4
          obtain ⟨x1, hx1⟩ := mkval ?a1_1
          obtain ⟨x3, hx3⟩ := mkval ?a1_3
          obtain ⟨x4, hx4⟩ := mkval ?a1_4
          obtain ⟨x5, hx5⟩ := mkval ?a1_5
          obtain ⟨x6, hx6⟩ := mkval ?a1_6
          obtain ⟨x9, hx9⟩ := mkval ?a1_9
          have hGb : ∀ m b, (fun m b => (m = 0 ∧ b = g4) ∨ (m = 1 ∧ b = gB)) m b → (0) ≤ b ∧ b < (wb).heap.size := by
            intro m b hg
            rcases hg with ⟨rfl, hg⟩ | ⟨rfl, hg⟩
            · have q := OCf b hg
              omega
            · have q := RCf b hg
              omega
          have hGd : ∀ m m' b, (fun m b => (m = 0 ∧ b = g4) ∨ (m = 1 ∧ b = gB)) m b → (fun m b => (m = 0 ∧ b = g4) ∨ (m = 1 ∧ b = gB)) m' b → m = m' := by
            intro m m' b h h'
            rcases h with ⟨rfl, h⟩ | ⟨rfl, h⟩ <;> rcases h' with ⟨rfl, h'⟩ | ⟨rfl, h'⟩ <;> first
              | rfl
              | (exfalso; omega)
          refine region_rs [(10, 8)] [(8, 0)] (fun m b => (m = 0 ∧ b = g4) ∨ (m = 1 ∧ b = gB)) (0) (fun i iv vs wx => match i with
            | 0 => vs 0 = .slice (some ⟨g4, 0, none⟩) k c4
            | 1 => vs 1 = x1
            | 2 => vs 2 = .slice (some ⟨g4, 0, none⟩) j c4
            | 3 => vs 3 = x3
            | 4 => vs 4 = x4
            | 5 => vs 5 = x5
            | 6 => vs 6 = x6
            | 7 => vs 7 = .slice (some ⟨(iv 7).1, 0, none⟩) 1 1 ∧ (iv 7).2 = (iv 7).1 + 1 ∧ Blk wx (iv 7).1 30 [.int .i64 z.e.kind, .int .i64 z.e.num, .slice z.s z.e.kids.length z.c]
            | 8 => ∃ g cap, vs 8 = .slice (some ⟨g, 0, none⟩) (j + 1) cap ∧ AppS (foot [(10, 8)] [(8, 0)] (fun m b => (m = 0 ∧ b = g4) ∨ (m = 1 ∧ b = gB)) 12 8 iv) wx 30 3 (j + 1) (shD (A.take j) ++ z.cells.map D.raw) (.slice (some ⟨g, 0, none⟩) (j + 1) cap)
            | 9 => vs 9 = x9
            | 10 => ∃ gf cf, vs 10 = .slice (some ⟨gf, 0, none⟩) (j + 1 + (k - j)) cf ∧ (True) ∧ AppS (foot [(10, 8)] [(8, 0)] (fun m b => (m = 0 ∧ b = g4) ∨ (m = 1 ∧ b = gB)) 12 10 iv) wx 30 3 (j + 1 + (k - j)) (shD (insS z A)) (.slice (some ⟨gf, 0, none⟩) (j + 1 + (k - j)) cf)
            | 11 => vs 11 = vs 10
            | _ => True) (fun i iv vs => match i with
            | 0 => vs 0 = .slice (some ⟨g4, 0, none⟩) k c4
            | 1 => vs 1 = x1
            | 2 => vs 2 = .slice (some ⟨g4, 0, none⟩) j c4
            | 3 => vs 3 = x3
            | 4 => vs 4 = x4
            | 5 => vs 5 = x5
            | 6 => vs 6 = x6
            | 7 => vs 7 = .slice (some ⟨(iv 7).1, 0, none⟩) 1 1 ∧ (iv 7).2 = (iv 7).1 + 1
            | 8 => ∃ g cap, vs 8 = .slice (some ⟨g, 0, none⟩) (j + 1) cap
            | 9 => vs 9 = x9
            | 10 => ∃ gf cf, vs 10 = .slice (some ⟨gf, 0, none⟩) (j + 1 + (k - j)) cf ∧ (True)
            | 11 => vs 11 = vs 10
            | _ => True) (by kernel_rfl) (by kernel_rfl) [0, 1, 2, 3, 4, 5, 6, 7, 8, 9, 10, 11] (by kernel_rfl) ?hbase ?hGb ?hG ?hJ ?hE ?hEE ?hstep ?hQ
          case hbase => first | exact Nat.le_refl _ | omega | (simp; omega)
          case hGb =>
            exact hGb
          case hG =>
            exact hGd
          case hJ =>
            intro i hi iv iv' vs vs' wx wx' ha hv hz hk hj
            simp only [List.mem_cons, List.not_mem_nil, or_false] at hi
            rcases hi with rfl | rfl | rfl | rfl | rfl | rfl | rfl | rfl | rfl | rfl | rfl | rfl
            · exact (hv.out 0 (mem_of (by kernel_rfl))).symm.trans hj
            · exact (hv.out 1 (mem_of (by kernel_rfl))).symm.trans hj
            · exact (hv.out 2 (mem_of (by kernel_rfl))).symm.trans hj
            · exact (hv.out 3 (mem_of (by kernel_rfl))).symm.trans hj
            · exact (hv.out 4 (mem_of (by kernel_rfl))).symm.trans hj
            · exact (hv.out 5 (mem_of (by kernel_rfl))).symm.trans hj
            · exact (hv.out 6 (mem_of (by kernel_rfl))).symm.trans hj
            · have e7 := hv.out 7 (mem_of (by kernel_rfl))
              have g7 := ha.out 7 (mem_of (by kernel_rfl))
              obtain ⟨q1, q3, q2⟩ := hj
              show vs' 7 = .slice (some ⟨(iv' 7).1, 0, none⟩) 1 1 ∧ (iv' 7).2 = (iv' 7).1 + 1 ∧ Blk wx' (iv' 7).1 30 [.int .i64 z.e.kind, .int .i64 z.e.num, .slice z.s z.e.kids.length z.c]
              rw [← e7, ← g7]
              exact ⟨q1, q3, q2.keep (hk.out _ q2.lt (foot_own (Nat.le_refl _) (by omega)))⟩
            · have e8 := hv.out 8 (mem_of (by kernel_rfl))
              obtain ⟨g, cap, q1, q2⟩ := hj
              exact ⟨g, cap, e8 ▸ q1, (q2.keep (fun b hb h1 => hk.out b hb h1)).more (fun b hb h1 => foot_agree (l := ancs _ 12 8) (by exact of_decide_eq_true (by kernel_rfl)) ha.out h1)⟩
            · exact (hv.out 9 (mem_of (by kernel_rfl))).symm.trans hj
            · have e10 := hv.out 10 (mem_of (by kernel_rfl))
              obtain ⟨gf, cf, q1, q3, q2⟩ := hj
              exact ⟨gf, cf, e10 ▸ q1, q3, (q2.keep (fun b hb h1 => hk.out b hb h1)).more (fun b hb h1 => foot_agree (l := ancs _ 12 10) (by exact of_decide_eq_true (by kernel_rfl)) ha.out h1)⟩
            · have e10 := hv.out 10 (mem_of (by kernel_rfl))
              have e11 := hv.out 11 (mem_of (by kernel_rfl))
              have hj' : vs 11 = vs 10 := hj
              show vs' 11 = vs' 10
              rw [← e10, ← e11]
              exact hj'
          case hE =>
            intro i hi iv vs wx hj
            simp only [List.mem_cons, List.not_mem_nil, or_false] at hi
            rcases hi with rfl | rfl | rfl | rfl | rfl | rfl | rfl | rfl | rfl | rfl | rfl | rfl
            · exact hj
            · exact hj
            · exact hj
            · exact hj
            · exact hj
            · exact hj
            · exact hj
            · exact ⟨hj.1, hj.2.1⟩
            · obtain ⟨g, cap, q1, -⟩ := hj
              exact ⟨g, cap, q1⟩
            · exact hj
            · obtain ⟨gf, cf, q1, q3, -⟩ := hj
              exact ⟨gf, cf, q1, q3⟩
            · exact hj
          case hEE =>
            intro i hi iv iv' vs vs' ha hv hj
            simp only [List.mem_cons, List.not_mem_nil, or_false] at hi
            rcases hi with rfl | rfl | rfl | rfl | rfl | rfl | rfl | rfl | rfl | rfl | rfl | rfl
            · exact (hv.out 0 (mem_of (by kernel_rfl))).symm.trans hj
            · exact (hv.out 1 (mem_of (by kernel_rfl))).symm.trans hj
            · exact (hv.out 2 (mem_of (by kernel_rfl))).symm.trans hj
            · exact (hv.out 3 (mem_of (by kernel_rfl))).symm.trans hj
            · exact (hv.out 4 (mem_of (by kernel_rfl))).symm.trans hj
            · exact (hv.out 5 (mem_of (by kernel_rfl))).symm.trans hj
            · exact (hv.out 6 (mem_of (by kernel_rfl))).symm.trans hj
            · have e7 := hv.out 7 (mem_of (by kernel_rfl))
              have g7 := ha.out 7 (mem_of (by kernel_rfl))
              have hj' : vs 7 = .slice (some ⟨(iv 7).1, 0, none⟩) 1 1 ∧ (iv 7).2 = (iv 7).1 + 1 := hj
              show vs' 7 = .slice (some ⟨(iv' 7).1, 0, none⟩) 1 1 ∧ (iv' 7).2 = (iv' 7).1 + 1
              rw [← e7, ← g7]
              exact hj'
            · have e8 := hv.out 8 (mem_of (by kernel_rfl))
              have hj' : ∃ g cap, vs 8 = .slice (some ⟨g, 0, none⟩) (j + 1) cap := hj
              show ∃ g cap, vs' 8 = .slice (some ⟨g, 0, none⟩) (j + 1) cap
              rw [← e8]
              exact hj'
            · exact (hv.out 9 (mem_of (by kernel_rfl))).symm.trans hj
            · have e10 := hv.out 10 (mem_of (by kernel_rfl))
              have hj' : ∃ gf cf, vs 10 = .slice (some ⟨gf, 0, none⟩) (j + 1 + (k - j)) cf ∧ (True) := hj
              show ∃ gf cf, vs' 10 = .slice (some ⟨gf, 0, none⟩) (j + 1 + (k - j)) cf ∧ (True)
              rw [← e10]
              exact hj'
            · have e10 := hv.out 10 (mem_of (by kernel_rfl))
              have e11 := hv.out 11 (mem_of (by kernel_rfl))
              have hj' : vs 11 = vs 10 := hj
              show vs' 11 = vs' 10
              rw [← e10, ← e11]
              exact hj'
          case hstep =>
            intro i hi opr ho iv vs w1 hB hS hSo hd he hbd hsep hun K hK
            simp only [List.mem_cons, List.not_mem_nil, or_false] at hi
            have hzB := hB.size
            have kl := hSo.out.block lg (by omega) (fun ⟨m, h⟩ => by rcases h with ⟨_, h⟩ | ⟨_, h⟩ <;> omega)
            have q0 := (World.cell?_of_block (w := wb) (w' := w1) (a := ⟨lg, k * 3 + 0, none⟩) kl).trans Q0.out
            have q1 := (World.cell?_of_block (w := wb) (w' := w1) (a := ⟨lg, k * 3 + 1, none⟩) kl).trans Q1.out
            have q2 := (World.cell?_of_block (w := wb) (w' := w1) (a := ⟨lg, k * 3 + 2, none⟩) kl).trans Q2.out
            rw [Nat.add_zero] at q0
            have hjc4' : (j : Int) ≤ (c4 : Int) := by omega
            generalize hA : putFrom _ 0 vs _ = A at hK ⊢
            simp only [putFrom, puts] at hA
            rcases hi with rfl | rfl | rfl | rfl | rfl | rfl | rfl | rfl | rfl | rfl | rfl | rfl
            all_goals
              simp at ho
              subst ho
              subst hA
            · have un11 : vs 11 = .slice (some ⟨g4, 0, none⟩) k c4 := hun.out 11 (mem_of (by kernel_rfl))
              go_wp2_with fail
              exact Onward.mk (hK (.slice (some ⟨g4, 0, none⟩) k c4) _ _ (fun h => by cases h) (by first | rfl | (simp only [puts, un11])) (Spares.refl _) (fun iv' _ _ => rfl))
            · go_wp2_with fail
              refine Onward.mk (hK ?val1_1 _ _ (fun h => by cases h) ?eqA (Spares.refl _) (fun iv' _ _ => ?ja))
              case eqA => first | rfl | (simp only [puts]; rfl)
              case ja => exact hx1.out.symm
            · have h0 : vs 0 = .slice (some ⟨g4, 0, none⟩) k c4 := hd.out 0 (mem_of (by kernel_rfl)) (by decide) (by kernel_rfl)
              have h1 := (hd.out 1 (mem_of (by kernel_rfl)) (by decide) (by kernel_rfl)).trans hx1.out
              go_wp2_with fail
              exact Onward.mk (hK (.slice (some ⟨g4, 0, none⟩) j c4) _ _ (fun h => by cases h) (by first | rfl | (simp only [puts, h0, h1])) (Spares.refl _) (fun iv' _ _ => rfl))
            · go_wp2_with fail
              refine Onward.mk (hK ?val1_3 _ _ (fun h => by cases h) ?eqA (Spares.refl _) (fun iv' _ _ => ?ja))
              case eqA => first | rfl | (simp only [puts]; rfl)
              case ja => exact hx3.out.symm
            · go_wp2_with fail
              refine Onward.mk (hK ?val1_4 _ _ (fun h => by cases h) ?eqA (Spares.refl _) (fun iv' _ _ => ?ja))
              case eqA => first | rfl | (simp only [puts]; rfl)
              case ja => exact hx4.out.symm
            · have h3 := (hd.out 3 (mem_of (by kernel_rfl)) (by decide) (by kernel_rfl)).trans hx3.out
              have h4 := (hd.out 4 (mem_of (by kernel_rfl)) (by decide) (by kernel_rfl)).trans hx4.out
              go_wp2_with fail
              refine Onward.mk (hK ?val1_5 _ _ (fun h => by cases h) ?eqA (Spares.refl _) (fun iv' _ _ => ?ja))
              case eqA => first | rfl | (simp only [puts, h3, h4]; rfl)
              case ja => exact hx5.out.symm
            · have h5 := (hd.out 5 (mem_of (by kernel_rfl)) (by decide) (by kernel_rfl)).trans hx5.out
              go_wp2_with fail
              refine Onward.mk (hK ?val1_6 _ _ (fun h => by cases h) ?eqA (Spares.refl _) (fun iv' _ _ => ?ja))
              case eqA => first | rfl | (simp only [puts, h5]; rfl)
              case ja => exact hx6.out.symm
            · have h6 := (hd.out 6 (mem_of (by kernel_rfl)) (by decide) (by kernel_rfl)).trans hx6.out
              go_wp2_with fail
              exact Onward.mk (hK (.slice (some ⟨w1.heap.size, 0, none⟩) 1 1) _ _ (fun h => by cases h) (by first | rfl | (simp only [puts, h6])) (Spares.of_below (Below.alloc (Below.refl _ _) (Nat.le_refl _) _)) (fun iv' _ hi => by
                show Value.slice (some ⟨w1.heap.size, 0, none⟩) 1 1 = .slice (some ⟨(iv' 7).1, 0, none⟩) 1 1 ∧ (iv' 7).2 = (iv' 7).1 + 1 ∧ Blk _ (iv' 7).1 30 [.int .i64 z.e.kind, .int .i64 z.e.num, .slice z.s z.e.kids.length z.c]
                rw [hi]
                exact ⟨rfl, by simp, Blk.new3 _ _ _ _ _⟩))
            · have h2 : vs 2 = .slice (some ⟨g4, 0, none⟩) j c4 := hd.out 2 (mem_of (by kernel_rfl)) (by decide) (by kernel_rfl)
              obtain ⟨h7, q7, f7⟩ := hd.out 7 (mem_of (by kernel_rfl)) (by decide) (by kernel_rfl)
              have OC1 := OC.keep (fun b _ hb => hS.out 0 b (by kernel_rfl) (Or.inl ⟨rfl, hb⟩))
              simp only [h2, h7]
              have f7' : Blk w1 (iv 7).1 30 [.int .i64 z.e.kind, .int .i64 z.e.num, .slice z.s z.e.kids.length z.c] := by first | exact f7 | (rw [h7] at f7; exact f7)
              refine wpList_append_s w1 (by rfl) _ _ 28 (by rfl) 30 (.agg #[.int .i64 0, .int .i64 0, .slice none 0 0]) 3 40 Tryz.underlying28 zero_implExpr rfl (by decide) (S := (fun b => b = g4)) (T := (fun _ => False)) _ (by rfl) OC1 ⟨(iv 7).1, 0, none⟩ 1 1 [.int .i64 z.e.kind, .int .i64 z.e.num, .slice z.s z.e.kids.length z.c] (by rfl) (news_blk f7') ⟨[], Ows.raws (us := z.cells) (fun u hu => shs_one z u (by simpa [shs] using hu)), by simp, by simp⟩ (fun _ _ _ h => h) (by simp) (by simp [Value.oneCell']) (by omega) (by omega) (by unfold maxLen; omega) ?_
              intro g cap w2 hap ht
              go_wp2_with fail
              exact Onward.mk (hK (.slice (some ⟨g, 0, none⟩) (j + 1) cap) _ _ (fun h => by cases h) (by first | rfl | (simp only [puts, h2, h7])) (ht.more (fun b h => Or.inl ⟨0, by decide, (Or.inl ⟨rfl, h⟩)⟩)) (fun iv' ag hi => ⟨g, cap, rfl, hap.more (fun b _ h => by rcases h with h | h | h; exact foot_given 0 (by decide) (Or.inl ⟨rfl, h⟩); exact h.elim; exact foot_new hi h.1 h.2)⟩))
            · go_wp2_with fail
              refine Onward.mk (hK ?val1_9 _ _ (fun h => by cases h) ?eqA (Spares.refl _) (fun iv' _ _ => ?ja))
              case eqA => first | rfl | (simp only [puts]; rfl)
              case ja => exact hx9.out.symm
            · obtain ⟨g8, cap8, h8, f8⟩ := hd.out 8 (mem_of (by kernel_rfl)) (by decide) (by kernel_rfl)
              have h9 := (hd.out 9 (mem_of (by kernel_rfl)) (by decide) (by kernel_rfl)).trans hx9.out
              have RC1 := RC.keep (fun b _ hb => hS.out 1 b (by kernel_rfl) (Or.inr ⟨rfl, hb⟩))
              have hF8 : ∀ b, (foot [(10, 8)] [(8, 0)] (fun m b => (m = 0 ∧ b = g4) ∨ (m = 1 ∧ b = gB)) 12 8 iv) b → (b = g4) ∨ ((wb).heap.size ≤ b ∧ b < w1.heap.size) := by
                rintro b ⟨j, hj, hh⟩
                have hj' := of_decide_eq_true (List.all_eq_true.1 (show ((chainOf [(10, 8)] 12 8).all fun j => decide (j ∈ [8])) = true from by kernel_rfl) j hj)
                simp only [List.mem_cons, List.not_mem_nil, or_false] at hj'
                rcases hj' with rfl
                · have q := (hbd.out 8 (mem_of (by kernel_rfl)) (by decide))
                  rcases hh with hh | ⟨m, hm, hg⟩
                  · exact Or.inr (by omega)
                  · simp at hm; subst hm; simp at hg; exact Or.inl hg
              have f8' := f8
              rw [show shD (A.take j) ++ z.cells.map D.raw = (shs (A.take j) ++ z.cells).map D.raw by rw [List.map_append]; rfl] at f8'
              have hfg := f8'.blk.1
              obtain ⟨-, -, -, r9, hr9⟩ := RC1.blk (us := shs (A.drop j))
              have hld : (shs (A.drop j)).length = (k - j) * 3 := by rw [shs_length, List.length_drop, hAk]
              simp only [h8, h9]
              refine wpList_append_raw w1 (by rfl) _ _ 28 (by rfl) 30 (.agg #[.int .i64 0, .int .i64 0, .slice none 0 0]) 3 40 Tryz.underlying28 zero_implExpr rfl (by decide) (g := g8) (n := j + 1) (c := cap8) (us := shs (A.take j) ++ z.cells) (by rfl) f8' ⟨gB, 0, none⟩ (some ⟨gB, 0, none⟩) (k - j) cB (shs (A.drop j)) (by rfl) rfl (head_news hr9) hld (shs_ones _) (by omega) (by unfold maxLen; omega) ?_
              intro gf cf wf hgf hapf hspf
              go_wp2_with fail
              have hins : (shs (A.take j) ++ z.cells ++ shs (A.drop j)).map D.raw = shD (insS z A) := by
                unfold insS shD
                rw [hpl, shs_append, show shs (z :: A.drop j) = z.cells ++ shs (A.drop j) by simp [shs], List.append_assoc]
              rw [hins] at hapf
              exact Onward.mk (hK (.slice (some ⟨gf, 0, none⟩) (j + 1 + (k - j)) cf) _ _ (fun h => by cases h) (by simp only [Act.put, List.setIfInBounds_toArray, List.set_cons_succ, List.set_cons_zero, h8, h9]) (hspf.more (fun q h => Or.inr ⟨8, by decide, by rw [h]; exact hfg⟩)) (fun iv' ag hi => ⟨gf, cf, rfl, trivial, hapf.more (fun q hq h => by
                subst h
                rcases hgf with h | h
                · subst h
                  exact foot_step (by kernel_rfl) ag hfg
                · exact foot_new hi h hq)⟩))
            · obtain ⟨gf, cf, h10, p10, f10⟩ := hd.out 10 (mem_of (by kernel_rfl)) (by decide) (by kernel_rfl)
              go_wp2_with fail
              refine Onward.mk (hK ?val1_11 _ _ (fun h => by cases h) ?eqA (Spares.refl _) (fun iv' _ _ => ?ja))
              case eqA => first | rfl | (simp only [puts, h10]; rfl)
              case ja => show _ = vs 10; simp only [h10]; rfl
          case hQ =>
            intro iv vs wx hB hSp hd he hbd hsep
            have hzB := hB.size
            have h0 : vs 0 = .slice (some ⟨g4, 0, none⟩) k c4 := hd.out 0 (mem_of (by kernel_rfl)) (not_eaten (by kernel_rfl))
            have h1 := (hd.out 1 (mem_of (by kernel_rfl)) (not_eaten (by kernel_rfl))).trans hx1.out
            have h2 : vs 2 = .slice (some ⟨g4, 0, none⟩) j c4 := hd.out 2 (mem_of (by kernel_rfl)) (not_eaten (by kernel_rfl))
            have h3 := (hd.out 3 (mem_of (by kernel_rfl)) (not_eaten (by kernel_rfl))).trans hx3.out
            have h4 := (hd.out 4 (mem_of (by kernel_rfl)) (not_eaten (by kernel_rfl))).trans hx4.out
            have h5 := (hd.out 5 (mem_of (by kernel_rfl)) (not_eaten (by kernel_rfl))).trans hx5.out
            have h6 := (hd.out 6 (mem_of (by kernel_rfl)) (not_eaten (by kernel_rfl))).trans hx6.out
            obtain ⟨h7, q7, f7⟩ := hd.out 7 (mem_of (by kernel_rfl)) (not_eaten (by kernel_rfl))
            obtain ⟨g8, cap8, h8⟩ := he.out 8 (mem_of (by kernel_rfl))
            have h9 := (hd.out 9 (mem_of (by kernel_rfl)) (not_eaten (by kernel_rfl))).trans hx9.out
            obtain ⟨gf, cf, h10, p10, f10⟩ := hd.out 10 (mem_of (by kernel_rfl)) (not_eaten (by kernel_rfl))
            have h11 : vs 11 = vs 10 := hd.out 11 (mem_of (by kernel_rfl)) (not_eaten (by kernel_rfl))
            simp only [putFrom, puts]
            have so10 : ∀ b, (foot [(10, 8)] [(8, 0)] (fun m b => (m = 0 ∧ b = g4) ∨ (m = 1 ∧ b = gB)) 12 10 iv) b → b = g4 ∨ (wb).heap.size ≤ b := by
              rintro b ⟨j, hj, hh⟩
              have hj' := of_decide_eq_true (List.all_eq_true.1 (show ((chainOf [(10, 8)] 12 10).all fun j => decide (j ∈ [10, 8])) = true from by kernel_rfl) j hj)
              simp only [List.mem_cons, List.not_mem_nil, or_false] at hj'
              rcases hj' with rfl | rfl
              · have q := (hbd.out 10 (mem_of (by kernel_rfl))).1
                rcases hh with hh | ⟨m, hm, hg⟩
                · exact Or.inr (by omega)
                · simp at hm
              · have q := (hbd.out 8 (mem_of (by kernel_rfl))).1
                rcases hh with hh | ⟨m, hm, hg⟩
                · exact Or.inr (by omega)
                · simp at hm; subst hm; simp at hg; exact Or.inl hg
            have hon := (AppS.only (us := shs (insS z A)) f10)
            have hgfs := so10 _ ((AppS.blk (us := shs (insS z A)) f10).1)
            have hgfl : gf < wx.heap.size := (AppS.blk (us := shs (insS z A)) f10).2.2.2.elim fun _ h => h.lt
            have hS2 := hSp.out
            have hT12 := hT11.keep (w' := wx) (fun b hb h => hS2.block b hb (fun ⟨m, h'⟩ => by rcases h' with ⟨_, h'⟩ | ⟨_, h'⟩ <;> omega))
            have hBx := hB11.trans (hS2.below (B := w.heap.size) (by have := hB11.size; omega) (fun b ⟨m, h'⟩ => by rcases h' with ⟨_, h'⟩ | ⟨_, h'⟩ <;> omega))
            rw [show j + 1 + (k - j) = k + 1 by omega] at hon
            have hA2' := hA2
            have e1 : (j + 1 + (k - j) : Nat) = k + 1 := by omega
            have E1 := Lib.hid e1
            rw [h10] at h11
            simp only [Nat.zero_add, Nat.reduceAdd, h11]
            clear hd he hbd hsep OC RC hT11 f10 e1
            go_wp2_with fail
            go_roundw
            case rel => exact ⟨k + 1, g11, c11, gf, cf, insS z A, by omega, by go_num, hA2', fun q hq => (insS_mem hq).elim (fun h => h ▸ hzm) (hAm q), hAl, by rw [E1.out], by rw [E1.out], by rcases hgfs with h | h <;> omega, by omega, by rcases hgfs with h | h <;> omega, hT12, hon, hBx⟩
            case measure => simp [intOf]; omega
        · rw [hlt2] at hcmp
          go_wp2_with fail
          go_roundw
          case rel => exact ⟨j + 1, by omega, by go_num, fun m hm y' hy' => by
            by_cases hmj : m = j
            · subst hmj
              rw [hy] at hy'
              obtain rfl := Option.some.inj hy'
              exact hlt2
            · exact hless m (by omega) y' hy', by first | rfl | trivial⟩
          case measure => simp [intOf]; omega
      · have hjk3 : j = k := by omega
        have hjkc : ¬ (j : Int) < (k : Int) := by omega
        have Hjk := Lib.hid hjk3
        clear hjk3
        have hpl : placeS z A = j := placeS_eq z A _ (by omega) hless (fun y hy => by have := (List.getElem?_eq_some_iff.1 hy).1; omega)
        obtain ⟨ad3, if3, s3c⟩ := from_at (g := g3) (o := j) hj hc31
        obtain ⟨ad4, if4, s4c⟩ := from_at (g := g4) (o := j * 3) hj hc41
        have hg3l := hbk3.lt
        have hg4l := hbk4.lt
        have hTl : (A.map fun z => kfS z.e.text).length = k * 1 := by rw [List.length_map]; omega
        have hOl : (shs A).length = k * 3 := by rw [shs_length, hAk]
        have HT2 := Lib.hid hT2
        have HO2 := Lib.hid hO2
        have Hk3 := Lib.hid hbk3
        have Hk4 := Lib.hid hbk4
        have Hless := Lib.hid hless
        have hjc3 : (j : Int) ≤ (c3 : Int) := by omega
        have hjc4 : (j : Int) ≤ (c4 : Int) := by omega
        have hjk2 : (j : Int) ≤ (k : Int) := by omega
        clear hT2 hO2 hbk3 hbk4 hless
        obtain ⟨w2, rfl⟩ : ∃ v, v = wr := ⟨_, rfl⟩
        go_wp2_with (first
          | (at_builtin; refine (wpList_append_raw (w2.alloc (.cells #[] 9)) rfl _ _ 212 rfl 9 (.string ⟨#[]⟩) 1 16 Tryz.underlying212 info_string rfl (by decide) (g := w2.heap.size) (n := 0) (c := 0) (us := []) rfl (AppS.empty (S := fun b => b = w2.heap.size) (Blk.new0 w2 9) rfl) ad3 _ (k - j) _ ((A.map fun z => kfS z.e.text).drop (j * 1)) rfl (by first | rfl | (rcases s3c with h | h; exact absurd h (by omega); rw [h])) (row_news (Hk3.out.alloc _) hTl hj (by rwa [Nat.mul_one])) (by rw [List.length_drop, hTl]; omega) (fun u hu => strs_one A u (List.mem_of_mem_drop hu)) (by omega) (by unfold maxLen; omega) ?_); intro gA cA w8 hg8 hap8 hsp8; have hz8 := hsp8.size; simp at hz8; have hq8 : w2.heap.size ≤ gA := (by rcases hg8 with h | h; omega; simp at h; omega); have hl8 : gA < w8.heap.size := (hap8.blk.2.2.2.elim fun _ h => h.lt); have K8 : Below w2.heap.size w2 w8 := (Below.alloc (Below.refl _ _) (Nat.le_refl _) _).trans (hsp8.below (by simp) (fun b h => by omega)))
          | (at_builtin; refine (wpList_append_raw (w8.alloc (.cells #[] 30)) rfl _ _ 28 rfl 30 (.agg #[.int .i64 0, .int .i64 0, .slice none 0 0]) 3 40 Tryz.underlying28 zero_implExpr rfl (by decide) (g := w8.heap.size) (n := 0) (c := 0) (us := []) rfl (AppS.empty (S := fun b => b = w8.heap.size) (Blk.new0 w8 30) rfl) ad4 _ (k - j) _ ((shs A).drop (j * 3)) rfl (by first | rfl | (rcases s4c with h | h; exact absurd h (by omega); rw [h])) (row_news ((Hk4.out.below K8).alloc _) hOl hj s4c) (by rw [List.length_drop, hOl]; omega) (fun u hu => shs_ones A u (List.mem_of_mem_drop hu)) (by omega) (by unfold maxLen; omega) ?_); intro gB cB w9 hg9 hap9 hsp9; have hz9 := hsp9.size; simp at hz9; have hq9 : w8.heap.size ≤ gB := (by rcases hg9 with h | h; omega; simp at h; omega); have hl9 : gB < w9.heap.size := (hap9.blk.2.2.2.elim fun _ h => h.lt); have K9 : Below w8.heap.size w8 w9 := (Below.alloc (Below.refl _ _) (Nat.le_refl _) _).trans (hsp9.below (by simp) (fun b h => by omega)))
          | (at_builtin; refine (wpList_append_raw (w9.alloc (.cells #[.string (bs z.e.text)] 9)) rfl _ _ 212 rfl 9 (.string ⟨#[]⟩) 1 16 Tryz.underlying212 info_string rfl (by decide) (S := fun b => b = g3) (g := g3) (n := j) (c := c3) (us := (A.map fun z => kfS z.e.text).take (j * 1)) rfl ((HT2.out.cut hj).keep (fun b hb h => by rw [Below.heap_alloc w9 _ b (by omega), K9.block b (by omega), K8.block b (by omega)])) ⟨w9.heap.size, 0, none⟩ _ 1 1 [kfS z.e.text] rfl rfl (news_blk (Blk.made w9 9 #[kfS z.e.text])) rfl (by intro u hu; simp at hu; subst hu; rfl) (by omega) (by unfold maxLen; omega) ?_); intro g10 c10 w10 hg10 hap10 hsp10; have hz10 := hsp10.size; simp at hz10; have hq10 : g10 = g3 ∨ w9.heap.size < g10 := (by rcases hg10 with h | h; exact Or.inl h; simp at h; exact Or.inr (by omega)); have hl10 : g10 < w10.heap.size := (hap10.blk.2.2.2.elim fun _ h => h.lt))
          | (at_builtin; (refine wpList_append_raw w10 rfl _ _ 212 rfl 9 (.string ⟨#[]⟩) 1 16 Tryz.underlying212 info_string rfl (by decide) (S := fun b => b = g10) (g := g10) (n := j + 1) (c := c10) (us := (A.map fun z => kfS z.e.text).take (j * 1) ++ [kfS z.e.text]) rfl hap10 ⟨gA, 0, none⟩ _ (k - j) _ ((A.map fun z => kfS z.e.text).drop (j * 1)) rfl rfl (fun i u hu => ((hap8.keep (fun b hb h => K9.block b hb)).keep (w' := w10) (fun b hb h => by rw [hsp10.block b (by simp; omega) (by omega), Below.heap_alloc w9 _ b hb])).blk.2.2.2.elim fun r8 hr8 => head_news hr8 i u (by simpa using hu)) (by rw [List.length_drop, hTl]; omega) (fun u hu => strs_one A u (List.mem_of_mem_drop hu)) (by omega) (by unfold maxLen; omega) ?_; intro g11 c11 w11 hg11 hap11 hsp11; have hz11 := hsp11.size; have hl11 : g11 < w11.heap.size := (hap11.blk.2.2.2.elim fun _ h => h.lt)))
          | (at_builtin; go_must (fail)))
        obtain ⟨wb, rfl⟩ : ∃ v, v = w11 := ⟨_, rfl⟩
        have KA : ∀ b, b < w2.heap.size → b ≠ g3 → wb.heap[b]? = w2.heap[b]? := fun b hb h3 => by
          rw [hsp11.block b (by omega) (by omega), hsp10.block b (by simp; omega) h3, Below.heap_alloc w9 _ b (by omega), K9.block b (by omega), K8.block b (by omega)]
        have hszb : w2.heap.size < wb.heap.size := by omega
        have OC : AppS (fun b => b = g4) wb 30 3 j (shD (A.take j)) (.slice (some ⟨g4, 0, none⟩) j c4) := by
          have q := (AppS.cut (us := shs A) HO2.out hj).keep (w' := wb) (fun b hb h => KA b (by omega) (by omega))
          rw [← shs_take] at q
          exact q
        have RC : AppS (fun b => b = gB) wb 30 3 (k - j) (shD (A.drop j)) (.slice (some ⟨gB, 0, none⟩) (k - j) cB) := by
          have q := hap9.keep (w' := wb) (fun b hb h => by rw [hsp11.block b (by omega) (by omega), hsp10.block b (by simp; omega) (by omega), Below.heap_alloc w9 _ b hb])
          rw [List.nil_append, ← shs_drop, Nat.zero_add] at q
          exact q
        have OCf : ∀ b, b = g4 → 0 ≤ b ∧ b < wb.heap.size := fun b h => by omega
        have RCf : ∀ b, b = gB → 0 ≤ b ∧ b < wb.heap.size := fun b h => by omega
        have hT11 : AppS (fun b => b = g11) wb 9 1 (k + 1) (((insS z A).map fun z => kfS z.e.text).map D.raw) (.slice (some ⟨g11, 0, none⟩) (k + 1) c11) := by
          have e1 : (insS z A).map (fun z => kfS z.e.text) = (A.map fun z => kfS z.e.text).take (j * 1) ++ [kfS z.e.text] ++ (A.map fun z => kfS z.e.text).drop (j * 1) := by
            unfold insS
            rw [hpl, Nat.mul_one, List.map_append, List.map_cons, List.map_take, List.map_drop, List.append_assoc]
            rfl
          rw [e1]
          have q := hap11
          rw [show j + 1 + (k - j) = k + 1 by omega] at q
          exact q
        have hlgk : wb.heap[lg]? = w2.heap[lg]? := KA lg (by omega) (by omega)
        have hblk2 := (hblk.below hB2).keep hlgk
        have qz : ∀ m v, z.cells[m]? = some v → wb.cell? ⟨lg, k * 3 + m, none⟩ = some v := by
          intro m v hv
          have hm : m < 3 := by have := (List.getElem?_eq_some_iff.1 hv).1; simpa [Sh.cells] using this
          rw [hblk2.cell, List.getElem?_append_left (by rw [shs_length]; omega), shs_at L k z hz m hm, hv]
        have Q0 := Lib.hid (qz 0 _ rfl)
        have Q1 := Lib.hid (qz 1 _ rfl)
        have Q2 := Lib.hid (qz 2 _ rfl)
        have hB11 : Below w.heap.size w wb := hB2.trans ⟨hsp11.os.trans (hsp10.os.trans (K9.os.trans K8.os)), hsp11.tape.trans (hsp10.tape.trans (K9.tape.trans K8.tape)), hsp11.output.trans (hsp10.output.trans (K9.output.trans K8.output)), by have := hB2.size; omega, fun b hb => KA b (by have := hB2.size; omega) (by omega)⟩
        have hA2 : Hid ((insS z A).map Sh.e = sortI ((L.take (k + 1)).map Sh.e)) := by
          show _ = _
          rw [insS_e, HA.out, List.take_succ_eq_append_getElem hlt, List.map_append, (List.getElem?_eq_some_iff.1 hz).2]
          unfold sortI
          rw [List.foldl_append]
          rfl
        have hAl : (insS z A).length = k + 1 := by
          unfold insS
          rw [hpl, List.length_append, List.length_take, List.length_cons, List.length_drop]
          omega
        have hq11 : g11 = g10 ∨ w10.heap.size ≤ g11 := hg11
        clear hap8 hap9 hap10 hap11 qz hblk2 hlgk HT2 HO2 Hk3 Hk4
        obtain ⟨x1, hx1⟩ := mkval ?a2_1
        obtain ⟨x3, hx3⟩ := mkval ?a2_3
        obtain ⟨x4, hx4⟩ := mkval ?a2_4
        obtain ⟨x5, hx5⟩ := mkval ?a2_5
        obtain ⟨x6, hx6⟩ := mkval ?a2_6
        obtain ⟨x9, hx9⟩ := mkval ?a2_9
        have hGb : ∀ m b, (fun m b => (m = 0 ∧ b = g4) ∨ (m = 1 ∧ b = gB)) m b → (0) ≤ b ∧ b < (wb).heap.size := by
          intro m b hg
          rcases hg with ⟨rfl, hg⟩ | ⟨rfl, hg⟩
          · have q := OCf b hg
            omega
          · have q := RCf b hg
            omega
        have hGd : ∀ m m' b, (fun m b => (m = 0 ∧ b = g4) ∨ (m = 1 ∧ b = gB)) m b → (fun m b => (m = 0 ∧ b = g4) ∨ (m = 1 ∧ b = gB)) m' b → m = m' := by
          intro m m' b h h'
          rcases h with ⟨rfl, h⟩ | ⟨rfl, h⟩ <;> rcases h' with ⟨rfl, h'⟩ | ⟨rfl, h'⟩ <;> first
            | rfl
            | (exfalso; omega)
        refine region_rs [(10, 8)] [(8, 0)] (fun m b => (m = 0 ∧ b = g4) ∨ (m = 1 ∧ b = gB)) (0) (fun i iv vs wx => match i with
          | 0 => vs 0 = .slice (some ⟨g4, 0, none⟩) k c4
          | 1 => vs 1 = x1
          | 2 => vs 2 = .slice (some ⟨g4, 0, none⟩) j c4
          | 3 => vs 3 = x3
          | 4 => vs 4 = x4
          | 5 => vs 5 = x5
          | 6 => vs 6 = x6
          | 7 => vs 7 = .slice (some ⟨(iv 7).1, 0, none⟩) 1 1 ∧ (iv 7).2 = (iv 7).1 + 1 ∧ Blk wx (iv 7).1 30 [.int .i64 z.e.kind, .int .i64 z.e.num, .slice z.s z.e.kids.length z.c]
          | 8 => ∃ g cap, vs 8 = .slice (some ⟨g, 0, none⟩) (j + 1) cap ∧ AppS (foot [(10, 8)] [(8, 0)] (fun m b => (m = 0 ∧ b = g4) ∨ (m = 1 ∧ b = gB)) 12 8 iv) wx 30 3 (j + 1) (shD (A.take j) ++ z.cells.map D.raw) (.slice (some ⟨g, 0, none⟩) (j + 1) cap)
          | 9 => vs 9 = x9
          | 10 => ∃ gf cf, vs 10 = .slice (some ⟨gf, 0, none⟩) (j + 1 + (k - j)) cf ∧ (True) ∧ AppS (foot [(10, 8)] [(8, 0)] (fun m b => (m = 0 ∧ b = g4) ∨ (m = 1 ∧ b = gB)) 12 10 iv) wx 30 3 (j + 1 + (k - j)) (shD (insS z A)) (.slice (some ⟨gf, 0, none⟩) (j + 1 + (k - j)) cf)
          | 11 => vs 11 = vs 10
          | _ => True) (fun i iv vs => match i with
          | 0 => vs 0 = .slice (some ⟨g4, 0, none⟩) k c4
          | 1 => vs 1 = x1
          | 2 => vs 2 = .slice (some ⟨g4, 0, none⟩) j c4
          | 3 => vs 3 = x3
          | 4 => vs 4 = x4
          | 5 => vs 5 = x5
          | 6 => vs 6 = x6
          | 7 => vs 7 = .slice (some ⟨(iv 7).1, 0, none⟩) 1 1 ∧ (iv 7).2 = (iv 7).1 + 1
          | 8 => ∃ g cap, vs 8 = .slice (some ⟨g, 0, none⟩) (j + 1) cap
          | 9 => vs 9 = x9
          | 10 => ∃ gf cf, vs 10 = .slice (some ⟨gf, 0, none⟩) (j + 1 + (k - j)) cf ∧ (True)
          | 11 => vs 11 = vs 10
          | _ => True) (by kernel_rfl) (by kernel_rfl) [0, 1, 2, 3, 4, 5, 6, 7, 8, 9, 10, 11] (by kernel_rfl) ?hbase ?hGb ?hG ?hJ ?hE ?hEE ?hstep ?hQ
        case hbase => first | exact Nat.le_refl _ | omega | (simp; omega)
        case hGb =>
          exact hGb
        case hG =>
          exact hGd
        case hJ =>
          intro i hi iv iv' vs vs' wx wx' ha hv hz hk hj
          simp only [List.mem_cons, List.not_mem_nil, or_false] at hi
          rcases hi with rfl | rfl | rfl | rfl | rfl | rfl | rfl | rfl | rfl | rfl | rfl | rfl
          · exact (hv.out 0 (mem_of (by kernel_rfl))).symm.trans hj
          · exact (hv.out 1 (mem_of (by kernel_rfl))).symm.trans hj
          · exact (hv.out 2 (mem_of (by kernel_rfl))).symm.trans hj
          · exact (hv.out 3 (mem_of (by kernel_rfl))).symm.trans hj
          · exact (hv.out 4 (mem_of (by kernel_rfl))).symm.trans hj
          · exact (hv.out 5 (mem_of (by kernel_rfl))).symm.trans hj
          · exact (hv.out 6 (mem_of (by kernel_rfl))).symm.trans hj
          · have e7 := hv.out 7 (mem_of (by kernel_rfl))
            have g7 := ha.out 7 (mem_of (by kernel_rfl))
            obtain ⟨q1, q3, q2⟩ := hj
            show vs' 7 = .slice (some ⟨(iv' 7).1, 0, none⟩) 1 1 ∧ (iv' 7).2 = (iv' 7).1 + 1 ∧ Blk wx' (iv' 7).1 30 [.int .i64 z.e.kind, .int .i64 z.e.num, .slice z.s z.e.kids.length z.c]
            rw [← e7, ← g7]
            exact ⟨q1, q3, q2.keep (hk.out _ q2.lt (foot_own (Nat.le_refl _) (by omega)))⟩
          · have e8 := hv.out 8 (mem_of (by kernel_rfl))
            obtain ⟨g, cap, q1, q2⟩ := hj
            exact ⟨g, cap, e8 ▸ q1, (q2.keep (fun b hb h1 => hk.out b hb h1)).more (fun b hb h1 => foot_agree (l := ancs _ 12 8) (by exact of_decide_eq_true (by kernel_rfl)) ha.out h1)⟩
          · exact (hv.out 9 (mem_of (by kernel_rfl))).symm.trans hj
          · have e10 := hv.out 10 (mem_of (by kernel_rfl))
            obtain ⟨gf, cf, q1, q3, q2⟩ := hj
            exact ⟨gf, cf, e10 ▸ q1, q3, (q2.keep (fun b hb h1 => hk.out b hb h1)).more (fun b hb h1 => foot_agree (l := ancs _ 12 10) (by exact of_decide_eq_true (by kernel_rfl)) ha.out h1)⟩
          · have e10 := hv.out 10 (mem_of (by kernel_rfl))
            have e11 := hv.out 11 (mem_of (by kernel_rfl))
            have hj' : vs 11 = vs 10 := hj
            show vs' 11 = vs' 10
            rw [← e10, ← e11]
            exact hj'
        case hE =>
          intro i hi iv vs wx hj
          simp only [List.mem_cons, List.not_mem_nil, or_false] at hi
          rcases hi with rfl | rfl | rfl | rfl | rfl | rfl | rfl | rfl | rfl | rfl | rfl | rfl
          · exact hj
          · exact hj
          · exact hj
          · exact hj
          · exact hj
          · exact hj
          · exact hj
          · exact ⟨hj.1, hj.2.1⟩
          · obtain ⟨g, cap, q1, -⟩ := hj
            exact ⟨g, cap, q1⟩
          · exact hj
          · obtain ⟨gf, cf, q1, q3, -⟩ := hj
            exact ⟨gf, cf, q1, q3⟩
          · exact hj
        case hEE =>
          intro i hi iv iv' vs vs' ha hv hj
          simp only [List.mem_cons, List.not_mem_nil, or_false] at hi
          rcases hi with rfl | rfl | rfl | rfl | rfl | rfl | rfl | rfl | rfl | rfl | rfl | rfl
          · exact (hv.out 0 (mem_of (by kernel_rfl))).symm.trans hj
          · exact (hv.out 1 (mem_of (by kernel_rfl))).symm.trans hj
          · exact (hv.out 2 (mem_of (by kernel_rfl))).symm.trans hj
          · exact (hv.out 3 (mem_of (by kernel_rfl))).symm.trans hj
          · exact (hv.out 4 (mem_of (by kernel_rfl))).symm.trans hj
          · exact (hv.out 5 (mem_of (by kernel_rfl))).symm.trans hj
          · exact (hv.out 6 (mem_of (by kernel_rfl))).symm.trans hj
          · have e7 := hv.out 7 (mem_of (by kernel_rfl))
            have g7 := ha.out 7 (mem_of (by kernel_rfl))
            have hj' : vs 7 = .slice (some ⟨(iv 7).1, 0, none⟩) 1 1 ∧ (iv 7).2 = (iv 7).1 + 1 := hj
            show vs' 7 = .slice (some ⟨(iv' 7).1, 0, none⟩) 1 1 ∧ (iv' 7).2 = (iv' 7).1 + 1
            rw [← e7, ← g7]
            exact hj'
          · have e8 := hv.out 8 (mem_of (by kernel_rfl))
            have hj' : ∃ g cap, vs 8 = .slice (some ⟨g, 0, none⟩) (j + 1) cap := hj
            show ∃ g cap, vs' 8 = .slice (some ⟨g, 0, none⟩) (j + 1) cap
            rw [← e8]
            exact hj'
          · exact (hv.out 9 (mem_of (by kernel_rfl))).symm.trans hj
          · have e10 := hv.out 10 (mem_of (by kernel_rfl))
            have hj' : ∃ gf cf, vs 10 = .slice (some ⟨gf, 0, none⟩) (j + 1 + (k - j)) cf ∧ (True) := hj
            show ∃ gf cf, vs' 10 = .slice (some ⟨gf, 0, none⟩) (j + 1 + (k - j)) cf ∧ (True)
            rw [← e10]
            exact hj'
          · have e10 := hv.out 10 (mem_of (by kernel_rfl))
            have e11 := hv.out 11 (mem_of (by kernel_rfl))
            have hj' : vs 11 = vs 10 := hj
            show vs' 11 = vs' 10
            rw [← e10, ← e11]
            exact hj'
        case hstep =>
          intro i hi opr ho iv vs w1 hB hS hSo hd he hbd hsep hun K hK
          simp only [List.mem_cons, List.not_mem_nil, or_false] at hi
          have hzB := hB.size
          have kl := hSo.out.block lg (by omega) (fun ⟨m, h⟩ => by rcases h with ⟨_, h⟩ | ⟨_, h⟩ <;> omega)
          have q0 := (World.cell?_of_block (w := wb) (w' := w1) (a := ⟨lg, k * 3 + 0, none⟩) kl).trans Q0.out
          have q1 := (World.cell?_of_block (w := wb) (w' := w1) (a := ⟨lg, k * 3 + 1, none⟩) kl).trans Q1.out
          have q2 := (World.cell?_of_block (w := wb) (w' := w1) (a := ⟨lg, k * 3 + 2, none⟩) kl).trans Q2.out
          rw [Nat.add_zero] at q0
          have hjc4' : (j : Int) ≤ (c4 : Int) := by omega
          generalize hA : putFrom _ 0 vs _ = A at hK ⊢
          simp only [putFrom, puts] at hA
          rcases hi with rfl | rfl | rfl | rfl | rfl | rfl | rfl | rfl | rfl | rfl | rfl | rfl
          all_goals
            simp at ho
            subst ho
            subst hA
          · have un11 : vs 11 = .slice (some ⟨g4, 0, none⟩) k c4 := hun.out 11 (mem_of (by kernel_rfl))
            go_wp2_with fail
            exact Onward.mk (hK (.slice (some ⟨g4, 0, none⟩) k c4) _ _ (fun h => by cases h) (by first | rfl | (simp only [puts, un11])) (Spares.refl _) (fun iv' _ _ => rfl))
          · go_wp2_with fail
            refine Onward.mk (hK ?val2_1 _ _ (fun h => by cases h) ?eqA (Spares.refl _) (fun iv' _ _ => ?ja))
            case eqA => first | rfl | (simp only [puts]; rfl)
            case ja => exact hx1.out.symm
          · have h0 : vs 0 = .slice (some ⟨g4, 0, none⟩) k c4 := hd.out 0 (mem_of (by kernel_rfl)) (by decide) (by kernel_rfl)
            have h1 := (hd.out 1 (mem_of (by kernel_rfl)) (by decide) (by kernel_rfl)).trans hx1.out
            go_wp2_with fail
            exact Onward.mk (hK (.slice (some ⟨g4, 0, none⟩) j c4) _ _ (fun h => by cases h) (by first | rfl | (simp only [puts, h0, h1])) (Spares.refl _) (fun iv' _ _ => rfl))
          · go_wp2_with fail
            refine Onward.mk (hK ?val2_3 _ _ (fun h => by cases h) ?eqA (Spares.refl _) (fun iv' _ _ => ?ja))
            case eqA => first | rfl | (simp only [puts]; rfl)
            case ja => exact hx3.out.symm
          · go_wp2_with fail
            refine Onward.mk (hK ?val2_4 _ _ (fun h => by cases h) ?eqA (Spares.refl _) (fun iv' _ _ => ?ja))
            case eqA => first | rfl | (simp only [puts]; rfl)
            case ja => exact hx4.out.symm
          · have h3 := (hd.out 3 (mem_of (by kernel_rfl)) (by decide) (by kernel_rfl)).trans hx3.out
            have h4 := (hd.out 4 (mem_of (by kernel_rfl)) (by decide) (by kernel_rfl)).trans hx4.out
            go_wp2_with fail
            refine Onward.mk (hK ?val2_5 _ _ (fun h => by cases h) ?eqA (Spares.refl _) (fun iv' _ _ => ?ja))
            case eqA => first | rfl | (simp only [puts, h3, h4]; rfl)
            case ja => exact hx5.out.symm
          · have h5 := (hd.out 5 (mem_of (by kernel_rfl)) (by decide) (by kernel_rfl)).trans hx5.out
            go_wp2_with fail
            refine Onward.mk (hK ?val2_6 _ _ (fun h => by cases h) ?eqA (Spares.refl _) (fun iv' _ _ => ?ja))
            case eqA => first | rfl | (simp only [puts, h5]; rfl)
            case ja => exact hx6.out.symm
          · have h6 := (hd.out 6 (mem_of (by kernel_rfl)) (by decide) (by kernel_rfl)).trans hx6.out
            go_wp2_with fail
            exact Onward.mk (hK (.slice (some ⟨w1.heap.size, 0, none⟩) 1 1) _ _ (fun h => by cases h) (by first | rfl | (simp only [puts, h6])) (Spares.of_below (Below.alloc (Below.refl _ _) (Nat.le_refl _) _)) (fun iv' _ hi => by
              show Value.slice (some ⟨w1.heap.size, 0, none⟩) 1 1 = .slice (some ⟨(iv' 7).1, 0, none⟩) 1 1 ∧ (iv' 7).2 = (iv' 7).1 + 1 ∧ Blk _ (iv' 7).1 30 [.int .i64 z.e.kind, .int .i64 z.e.num, .slice z.s z.e.kids.length z.c]
              rw [hi]
              exact ⟨rfl, by simp, Blk.new3 _ _ _ _ _⟩))
          · have h2 : vs 2 = .slice (some ⟨g4, 0, none⟩) j c4 := hd.out 2 (mem_of (by kernel_rfl)) (by decide) (by kernel_rfl)
            obtain ⟨h7, q7, f7⟩ := hd.out 7 (mem_of (by kernel_rfl)) (by decide) (by kernel_rfl)
            have OC1 := OC.keep (fun b _ hb => hS.out 0 b (by kernel_rfl) (Or.inl ⟨rfl, hb⟩))
            simp only [h2, h7]
            have f7' : Blk w1 (iv 7).1 30 [.int .i64 z.e.kind, .int .i64 z.e.num, .slice z.s z.e.kids.length z.c] := by first | exact f7 | (rw [h7] at f7; exact f7)
            refine wpList_append_s w1 (by rfl) _ _ 28 (by rfl) 30 (.agg #[.int .i64 0, .int .i64 0, .slice none 0 0]) 3 40 Tryz.underlying28 zero_implExpr rfl (by decide) (S := (fun b => b = g4)) (T := (fun _ => False)) _ (by rfl) OC1 ⟨(iv 7).1, 0, none⟩ 1 1 [.int .i64 z.e.kind, .int .i64 z.e.num, .slice z.s z.e.kids.length z.c] (by rfl) (news_blk f7') ⟨[], Ows.raws (us := z.cells) (fun u hu => shs_one z u (by simpa [shs] using hu)), by simp, by simp⟩ (fun _ _ _ h => h) (by simp) (by simp [Value.oneCell']) (by omega) (by omega) (by unfold maxLen; omega) ?_
            intro g cap w2 hap ht
            go_wp2_with fail
            exact Onward.mk (hK (.slice (some ⟨g, 0, none⟩) (j + 1) cap) _ _ (fun h => by cases h) (by first | rfl | (simp only [puts, h2, h7])) (ht.more (fun b h => Or.inl ⟨0, by decide, (Or.inl ⟨rfl, h⟩)⟩)) (fun iv' ag hi => ⟨g, cap, rfl, hap.more (fun b _ h => by rcases h with h | h | h; exact foot_given 0 (by decide) (Or.inl ⟨rfl, h⟩); exact h.elim; exact foot_new hi h.1 h.2)⟩))
          · go_wp2_with fail
            refine Onward.mk (hK ?val2_9 _ _ (fun h => by cases h) ?eqA (Spares.refl _) (fun iv' _ _ => ?ja))
            case eqA => first | rfl | (simp only [puts]; rfl)
            case ja => exact hx9.out.symm
          · obtain ⟨g8, cap8, h8, f8⟩ := hd.out 8 (mem_of (by kernel_rfl)) (by decide) (by kernel_rfl)
            have h9 := (hd.out 9 (mem_of (by kernel_rfl)) (by decide) (by kernel_rfl)).trans hx9.out
            have RC1 := RC.keep (fun b _ hb => hS.out 1 b (by kernel_rfl) (Or.inr ⟨rfl, hb⟩))
            have hF8 : ∀ b, (foot [(10, 8)] [(8, 0)] (fun m b => (m = 0 ∧ b = g4) ∨ (m = 1 ∧ b = gB)) 12 8 iv) b → (b = g4) ∨ ((wb).heap.size ≤ b ∧ b < w1.heap.size) := by
              rintro b ⟨j, hj, hh⟩
              have hj' := of_decide_eq_true (List.all_eq_true.1 (show ((chainOf [(10, 8)] 12 8).all fun j => decide (j ∈ [8])) = true from by kernel_rfl) j hj)
              simp only [List.mem_cons, List.not_mem_nil, or_false] at hj'
              rcases hj' with rfl
              · have q := (hbd.out 8 (mem_of (by kernel_rfl)) (by decide))
                rcases hh with hh | ⟨m, hm, hg⟩
                · exact Or.inr (by omega)
                · simp at hm; subst hm; simp at hg; exact Or.inl hg
            have f8' := f8
            rw [show shD (A.take j) ++ z.cells.map D.raw = (shs (A.take j) ++ z.cells).map D.raw by rw [List.map_append]; rfl] at f8'
            have hfg := f8'.blk.1
            obtain ⟨-, -, -, r9, hr9⟩ := RC1.blk (us := shs (A.drop j))
            have hld : (shs (A.drop j)).length = (k - j) * 3 := by rw [shs_length, List.length_drop, hAk]
            simp only [h8, h9]
            refine wpList_append_raw w1 (by rfl) _ _ 28 (by rfl) 30 (.agg #[.int .i64 0, .int .i64 0, .slice none 0 0]) 3 40 Tryz.underlying28 zero_implExpr rfl (by decide) (g := g8) (n := j + 1) (c := cap8) (us := shs (A.take j) ++ z.cells) (by rfl) f8' ⟨gB, 0, none⟩ (some ⟨gB, 0, none⟩) (k - j) cB (shs (A.drop j)) (by rfl) rfl (head_news hr9) hld (shs_ones _) (by omega) (by unfold maxLen; omega) ?_
            intro gf cf wf hgf hapf hspf
            go_wp2_with fail
            have hins : (shs (A.take j) ++ z.cells ++ shs (A.drop j)).map D.raw = shD (insS z A) := by
              unfold insS shD
              rw [hpl, shs_append, show shs (z :: A.drop j) = z.cells ++ shs (A.drop j) by simp [shs], List.append_assoc]
            rw [hins] at hapf
            exact Onward.mk (hK (.slice (some ⟨gf, 0, none⟩) (j + 1 + (k - j)) cf) _ _ (fun h => by cases h) (by simp only [Act.put, List.setIfInBounds_toArray, List.set_cons_succ, List.set_cons_zero, h8, h9]) (hspf.more (fun q h => Or.inr ⟨8, by decide, by rw [h]; exact hfg⟩)) (fun iv' ag hi => ⟨gf, cf, rfl, trivial, hapf.more (fun q hq h => by
              subst h
              rcases hgf with h | h
              · subst h
                exact foot_step (by kernel_rfl) ag hfg
              · exact foot_new hi h hq)⟩))
          · obtain ⟨gf, cf, h10, p10, f10⟩ := hd.out 10 (mem_of (by kernel_rfl)) (by decide) (by kernel_rfl)
            go_wp2_with fail
            refine Onward.mk (hK ?val2_11 _ _ (fun h => by cases h) ?eqA (Spares.refl _) (fun iv' _ _ => ?ja))
            case eqA => first | rfl | (simp only [puts, h10]; rfl)
            case ja => show _ = vs 10; simp only [h10]; rfl
        case hQ =>
          intro iv vs wx hB hSp hd he hbd hsep
          have hzB := hB.size
          have h0 : vs 0 = .slice (some ⟨g4, 0, none⟩) k c4 := hd.out 0 (mem_of (by kernel_rfl)) (not_eaten (by kernel_rfl))
          have h1 := (hd.out 1 (mem_of (by kernel_rfl)) (not_eaten (by kernel_rfl))).trans hx1.out
          have h2 : vs 2 = .slice (some ⟨g4, 0, none⟩) j c4 := hd.out 2 (mem_of (by kernel_rfl)) (not_eaten (by kernel_rfl))
          have h3 := (hd.out 3 (mem_of (by kernel_rfl)) (not_eaten (by kernel_rfl))).trans hx3.out
          have h4 := (hd.out 4 (mem_of (by kernel_rfl)) (not_eaten (by kernel_rfl))).trans hx4.out
          have h5 := (hd.out 5 (mem_of (by kernel_rfl)) (not_eaten (by kernel_rfl))).trans hx5.out
          have h6 := (hd.out 6 (mem_of (by kernel_rfl)) (not_eaten (by kernel_rfl))).trans hx6.out
          obtain ⟨h7, q7, f7⟩ := hd.out 7 (mem_of (by kernel_rfl)) (not_eaten (by kernel_rfl))
          obtain ⟨g8, cap8, h8⟩ := he.out 8 (mem_of (by kernel_rfl))
          have h9 := (hd.out 9 (mem_of (by kernel_rfl)) (not_eaten (by kernel_rfl))).trans hx9.out
          obtain ⟨gf, cf, h10, p10, f10⟩ := hd.out 10 (mem_of (by kernel_rfl)) (not_eaten (by kernel_rfl))
          have h11 : vs 11 = vs 10 := hd.out 11 (mem_of (by kernel_rfl)) (not_eaten (by kernel_rfl))
          simp only [putFrom, puts]
          have so10 : ∀ b, (foot [(10, 8)] [(8, 0)] (fun m b => (m = 0 ∧ b = g4) ∨ (m = 1 ∧ b = gB)) 12 10 iv) b → b = g4 ∨ (wb).heap.size ≤ b := by
            rintro b ⟨j, hj, hh⟩
            have hj' := of_decide_eq_true (List.all_eq_true.1 (show ((chainOf [(10, 8)] 12 10).all fun j => decide (j ∈ [10, 8])) = true from by kernel_rfl) j hj)
            simp only [List.mem_cons, List.not_mem_nil, or_false] at hj'
            rcases hj' with rfl | rfl
            · have q := (hbd.out 10 (mem_of (by kernel_rfl))).1
              rcases hh with hh | ⟨m, hm, hg⟩
              · exact Or.inr (by omega)
              · simp at hm
            · have q := (hbd.out 8 (mem_of (by kernel_rfl))).1
              rcases hh with hh | ⟨m, hm, hg⟩
              · exact Or.inr (by omega)
              · simp at hm; subst hm; simp at hg; exact Or.inl hg
          have hon := (AppS.only (us := shs (insS z A)) f10)
          have hgfs := so10 _ ((AppS.blk (us := shs (insS z A)) f10).1)
          have hgfl : gf < wx.heap.size := (AppS.blk (us := shs (insS z A)) f10).2.2.2.elim fun _ h => h.lt
          have hS2 := hSp.out
          have hT12 := hT11.keep (w' := wx) (fun b hb h => hS2.block b hb (fun ⟨m, h'⟩ => by rcases h' with ⟨_, h'⟩ | ⟨_, h'⟩ <;> omega))
          have hBx := hB11.trans (hS2.below (B := w.heap.size) (by have := hB11.size; omega) (fun b ⟨m, h'⟩ => by rcases h' with ⟨_, h'⟩ | ⟨_, h'⟩ <;> omega))
          rw [show j + 1 + (k - j) = k + 1 by omega] at hon
          have hA2' := hA2
          have e1 : (j + 1 + (k - j) : Nat) = k + 1 := by omega
          have E1 := Lib.hid e1
          rw [h10] at h11
          simp only [Nat.zero_add, Nat.reduceAdd, h11]
          clear hd he hbd hsep OC RC hT11 f10 e1
          go_wp2_with fail
          go_roundw
          case rel => exact ⟨k + 1, g11, c11, gf, cf, insS z A, by omega, by go_num, hA2', fun q hq => (insS_mem hq).elim (fun h => h ▸ hzm) (hAm q), hAl, by rw [E1.out], by rw [E1.out], by rcases hgfs with h | h <;> omega, by omega, by rcases hgfs with h | h <;> omega, hT12, hon, hBx⟩
          case measure => simp [intOf]; omega
end Go.Proofs.YtjlmdhoajfdkbaaGreatDoor

namespace Go.Proofs.YtjlmdhoajfdkbaaGreatDoor
set_option linter.unusedVariables false
set_option linter.unusedSimpArgs false
open Go.ChangeShapes Go.WideShapes Go.ChangeAt Go.RowKit Go.Deep Go.Sort
theorem AtX.of_at {X : Nat → Prop} {w : World} {b o : Nat} {e : Ex} (h : ExAt w b o e) (hX : ∀ b, X b → w.heap.size ≤ b) : AtX X w b o e := by
  have hlt := h.lt
  obtain ⟨g0, g1, s, c, g2, g3⟩ := h
  exact ⟨hlt, fun q => by have := hX b q; omega, s, c, ⟨g0, g1, g2⟩, RdX.of_rd g3 hX⟩
theorem Ows.raws_inv {w : World} : ∀ {us xs : List Value} {F : List Nat}, Ows w (us.map D.raw) xs F → xs = us ∧ F = []
  | [], xs, F, h => by simpa [Ows] using h
  | a :: r, xs, F, h => by
    simp only [List.map_cons, Ows, Ow] at h
    obtain ⟨x, r', G, K, rfl, rfl, ⟨⟨rfl, -⟩, rfl⟩, h⟩ := h
    obtain ⟨rfl, rfl⟩ := Ows.raws_inv h
    exact ⟨rfl, rfl⟩
theorem row_fresh {w w' : World} {g t size n : Nat} {us : List Value} (h : Blk w' g t us) (hl : us.length = n * size) (ho : ∀ u ∈ us, u.oneCell' = true) (hg : w.heap.size ≤ g) (hm : n ≤ maxLen) (hn : 0 < n) : Freshs w w' [.sl size n (us.map D.raw)] [.slice (some ⟨g, 0, none⟩) n n] := by
  refine Freshs.one ⟨[g], ?_, by simp, fun b hb => by simp at hb; omega⟩
  simp only [Ow]
  exact ⟨_, n, rfl, Nat.le_refl _, hm, by simpa using hl, (fun h => by cases h), Or.inr ⟨g, 0, us, [], rfl, rfl, h.free, h.row (by simp), Ows.raws ho⟩⟩
def OwnE (B ob : Nat) (w : World) (e : Ex) (s : Option Addr) (c : Nat) : Prop := ∃ F, Ow w (kidsD e.kids) (.slice s e.kids.length c) F ∧ F.Nodup ∧ ∀ b ∈ F, B ≤ b ∧ b ≠ ob
theorem OwnE.two {B ob : Nat} {w w' : World} {x y : Ex} {s1 s2 : Option Addr} {c1 c2 : Nat} {p q : Nat × Nat} {v : Value} (hx : OwnE B ob w x s1 c1) (hs : Spares (fun b => b = ob) w w') (hy : FreshIn p w' [kidsD y.kids] [.slice s2 y.kids.length c2])
    (hg : FreshIn q w' [.sl 3 2 ([.int .i64 x.kind, .int .i64 x.num, .slice s1 x.kids.length c1, .int .i64 y.kind, .int .i64 y.num, .slice s2 y.kids.length c2].map D.raw)] [v]) (hp : w.heap.size ≤ p.1) (hq : w.heap.size ≤ q.1) (hsep : Sep p q) (hob : ob < w.heap.size) (hB : B ≤ w.heap.size) :
    ∃ a c, v = .slice a 2 c ∧ OwnE B ob w' (.two 6 x y) a c := by
  obtain ⟨F, h1, h2, h3⟩ := hx
  obtain ⟨G, k1, k2, k3⟩ := hy
  obtain ⟨K, m1, m2, m3⟩ := hg
  have h1' := h1.keep (w' := w') fun b hb => hs.block b (h1.lt b hb) (h3 b hb).2
  simp only [Ows] at k1
  obtain ⟨x0, r0, G0, K0, e0, rfl, k1, rfl, rfl⟩ := k1
  simp only [List.cons.injEq, and_true] at e0
  subst e0
  simp only [Ows] at m1
  obtain ⟨x0, r0, G1, K0, e0, rfl, m1, rfl, rfl⟩ := m1
  simp only [List.cons.injEq, and_true] at e0
  subst e0
  simp only [Ow] at m1
  obtain ⟨a, cap, rfl, q1, q2, -, -, q4⟩ := m1
  rcases q4 with ⟨q4, -⟩ | ⟨g, o, xs, K1, rfl, rfl, hfree, hrow, hows⟩
  · omega
  obtain ⟨rfl, rfl⟩ := Ows.raws_inv hows
  simp only [List.append_nil] at k2 k3 m2 m3
  have hgq := m3 g (by simp)
  unfold Sep at hsep
  refine ⟨_, cap, rfl, g :: (F ++ G0), ?_, ?_, ?_⟩
  · show Ow w' (kidsD [x, y]) (.slice (some ⟨g, o, none⟩) 2 cap) _
    unfold kidsD
    simp only [Ow]
    refine ⟨_, cap, rfl, q1, q2, by rw [Ex.cellsL_length], (fun h => by cases h), Or.inr ⟨g, o, _, F ++ G0, rfl, rfl, hfree, hrow, ?_⟩⟩
    simp only [Ex.cellsL, List.append_nil]
    rw [Ex.cells_eq, Ex.cells_eq]
    exact Ows.append (Ows.three h1') (Ows.three k1)
  · rw [List.nodup_cons, List.nodup_append]
    refine ⟨fun hm => ?_, h2, k2, fun a ha b hb e => ?_⟩
    · rcases List.mem_append.1 hm with hm | hm
      · have := h1.lt g hm; omega
      · have := k3 g hm; omega
    · have := h1.lt a ha; have := k3 b hb; omega
  · intro b hb
    rcases List.mem_cons.1 hb with rfl | hb
    · omega
    · rcases List.mem_append.1 hb with hb | hb
      · exact h3 b hb
      · have := k3 b hb; omega
theorem foldS_snoc {L : List Ex} (q : Ex) (h : L ≠ []) : foldS (L ++ [q]) = .two 6 (foldS L) q := by
  cases L with
  | nil => exact absurd rfl h
  | cons x r => simp [foldS]
set_option maxRecDepth 100000 in
set_option maxHeartbeats 8000000 in
theorem l02Sum_i {tm am : Int} (ht : tm ≤ 8) (ha : am ≤ 8) {x y : Ex} {b o b' o' : Nat} {w : World} (hx : ExAt w b o x) (hy : ExAt w b' o' y) (hxt : x.tree tm am = true) (hyt : y.tree tm am = true) (hsz : x.size + y.size ≤ 90000) :
    Calls Tryz.prog 136 #[.pointer (some ⟨b, o, none⟩), .pointer (some ⟨b', o', none⟩)] w (OutE w (sumT x y)) := by
  obtain ⟨sx1, sx2⟩ := summ_spec tm am _ x (Nat.le_refl _) hxt
  obtain ⟨sy1, sy2⟩ := summ_spec tm am _ y (Nat.le_refl _) hyt
  have hnl := nub_sizes (x.summ ++ y.summ)
  rw [sizes_append, List.length_append] at hnl
  have hmem : ∀ q ∈ nub (x.summ ++ y.summ), q.tree tm am = true ∧ q.size ≤ 100000 := fun q hq => by
    rcases List.mem_append.1 (nub_mem.1 hq) with h | h
    · exact ⟨(sx1 q h).1, by have := (sx1 q h).2; omega⟩
    · exact ⟨(sy1 q h).1, by have := (sy1 q h).2; omega⟩
  have hnl2 : Hid ((nub (x.summ ++ y.summ)).length ≤ 100000) := by show _ ≤ _; omega
  have Hmem := Lib.hid hmem
  clear sx1 sx2 sy1 sy2 hnl hmem
  go_enter Tryz.func136, Tryz.ntmps136
  go_wp2_with fail
  have R := ((Blk.new3 w 30 (.int .i64 0) (.int .i64 0) (.slice none 0 0)).alloc (.cells #[] 30)).alloc (.cells #[.slice (some ⟨w.heap.size + 1, 0, none⟩) 0 0] 28)
  have V0 := (Blk.new0 (w.alloc (.cells #[.int .i64 0, .int .i64 0, .slice none 0 0] 30)) 30).alloc (.cells #[.slice (some ⟨w.heap.size + 1, 0, none⟩) 0 0] 28)
  have O := Blk.new1 ((w.alloc (.cells #[.int .i64 0, .int .i64 0, .slice none 0 0] 30)).alloc (.cells #[] 30)) 28 (.slice (some ⟨w.heap.size + 1, 0, none⟩) 0 0)
  have hB : Below w.heap.size w (((w.alloc (.cells #[.int .i64 0, .int .i64 0, .slice none 0 0] 30)).alloc (.cells #[] 30)).alloc (.cells #[.slice (some ⟨w.heap.size + 1, 0, none⟩) 0 0] 28)) := by (repeat' first | exact Below.refl _ _ | assumption | apply Below.alloc | apply Below.drew | apply Below.setCell | omega | (simp; done) | (simp; omega))
  simp at V0 O
  generalize ((w.alloc (.cells #[.int .i64 0, .int .i64 0, .slice none 0 0] 30)).alloc (.cells #[] 30)).alloc (.cells #[.slice (some ⟨w.heap.size + 1, 0, none⟩) 0 0] 28) = wl at R V0 O hB ⊢
  have hOl := O.lt
  refine (l02Summands_all tm am _ x b o (w.heap.size + 1 + 1) (fun q => w.heap.size ≤ q ∧ q < wl.heap.size) (fun q => q = w.heap.size + 1) _ [] w wl (Nat.le_refl _) (KeptX.of_below hB) (fun q h => h.2) (fun q h => by omega) ⟨by omega, hOl⟩ (by omega) (AtX.of_at hx (fun q h => h.1)) hxt (by simp; omega) ShX.nil O (AppS.empty V0 rfl)).mono ?_
  rintro f w2 ⟨rfl, v2, M1, ⟨p1, p2⟩, hO2, hV2, hs2⟩
  have hz2 := hs2.size
  rw [List.nil_append] at p1 hV2
  have hM1 : M1.length ≤ 90000 := by
    have q1 := congrArg List.length p1
    rw [List.length_map] at q1
    have q2 := growL_len x.summ ([].map Sh.e)
    have q3 := summ_len hxt
    simp at q2
    simp at q1
    omega
  have h02 : KeptX (fun q => w.heap.size ≤ q ∧ q < w2.heap.size) w w2 := (KeptX.of_below hB).trans (KeptX.of_spares hs2 (fun q _ h => by omega))
  go_wp2_with fail
  refine (l02Summands_all tm am _ y b' o' (w.heap.size + 1 + 1) (fun q => w.heap.size ≤ q ∧ q < w2.heap.size) _ v2 M1 w w2 (Nat.le_refl _) h02 (fun q h => h.2) (fun q h => by omega) ⟨by omega, hO2.lt⟩ (by omega) (AtX.of_at hy (fun q h => h.1)) hyt (by omega) (fun z hz => (p2 z hz).less (fun q hq h => by omega)) hO2 hV2).mono ?_
  rintro f w3 ⟨rfl, v3, M2, ⟨r1, r2⟩, hO3, hV3, hs3⟩
  have hz3 := hs3.size
  have h03 : KeptX (fun q => w.heap.size ≤ q ∧ q < w3.heap.size) w w3 := (h02.more (fun q hq h => by omega)).trans (KeptX.of_spares hs3 (fun q _ h => by omega))
  have hSX3 : ShX (fun q => w.heap.size ≤ q ∧ q < w3.heap.size) w (M1 ++ M2) := ShX.append (fun z hz => (p2 z hz).less (fun q hq h => by omega)) (fun z hz => (r2 z hz).less (fun q hq h => by omega))
  have hN : (M1 ++ M2).map Sh.e = nub (x.summ ++ y.summ) := by
    rw [r1, p1]
    unfold nub
    rw [List.map_append, growL_append]
    rfl
  have hml : ∀ z ∈ M1 ++ M2, z.e.tree tm am = true ∧ z.e.size ≤ 100000 := fun z hz => Hmem.out _ (by rw [← hN]; exact List.mem_map.2 ⟨z, hz, rfl⟩)
  have hll : (M1 ++ M2).length ≤ 100000 := by
    have := congrArg List.length hN
    rw [List.length_map] at this
    rw [this]
    exact hnl2.out
  obtain ⟨M, hM⟩ : ∃ M, M = M1 ++ M2 := ⟨_, rfl⟩
  rw [← hM] at hml hN hll hSX3 hV3
  have Hml := Lib.hid hml
  have HN := Lib.hid hN
  obtain ⟨la, lc, rfl, -, -⟩ := hV3.shape
  have o0 := hO3.c0
  have oz := hO3.frozen 0
  have olt := hO3.lt
  have R3 := (R.keep (hs2.block _ R.lt (by omega))).keep (hs3.block _ (by have := R.lt; omega) (by have := R.lt; omega))
  have hB3 : Below w.heap.size w w3 := hB.trans ((hs2.below (B := w.heap.size) (by have := hB.size; omega) (fun q h => by have := hB.size; omega)).trans (hs3.below (B := w.heap.size) (by have := hB.size; omega) (fun q h => by have := hB.size; omega)))
  clear hM hN hml p1 p2 r1 r2 R V0 O hO2 hV2 h02 hB hM1
  go_wp2_with fail
  refine (l02Sorted_i ht ha (fun q h => h.2) (hSX3.keep h03) Hml.out hll hV3).mono ?_
  rintro f w4 ⟨g', c', L3, rfl, ⟨hL3, hm3⟩, hg', hap, hb4⟩
  have hz4 := hb4.size
  have O4 := hO3.below hb4
  have R4 := R3.below hb4
  clear o0 oz olt hO3 hV3 R3
  have HL : Hid (sortI (nub (x.summ ++ y.summ)) = L3.map Sh.e) := by show _ = _; rw [hL3, HN.out]
  obtain ⟨n3, hn3⟩ : ∃ n, n = L3.length := ⟨_, rfl⟩
  rw [← hn3] at hap ⊢
  obtain ⟨hgb, hc1, hc2, rest, hblk⟩ := AppS.blk (us := shs L3) hap
  unfold maxLen at hc2
  have O5 := O4.set 0 (.slice (some ⟨g', 0, none⟩) n3 c')
  obtain ⟨v5, hv5⟩ : ∃ v, v = w4.setCell ⟨w.heap.size + 1 + 1, 0, none⟩ (.slice (some ⟨g', 0, none⟩) n3 c') := ⟨_, rfl⟩
  have hs5 : Spares (fun q => q = w.heap.size + 1 + 1) w4 v5 := by rw [hv5]; exact Spares.set (Spares.refl _)
  rw [← hv5] at O5
  have hz5 := hs5.size
  have hv5z : v5.heap.size = w4.heap.size := by rw [hv5]; simp [World.setCell]
  have R5 := R4.keep (hs5.block _ R4.lt (by omega))
  have hB5 : Below w.heap.size w v5 := hB3.trans ((hb4.mono (by have := hB3.size; omega)).trans (hs5.below (B := w.heap.size) (by have := hB3.size; omega) (fun q h => by omega)))
  have HAt : Hid (∀ w', Below v5.heap.size v5 w' → ∀ (i : Nat) (z : Sh), L3[i]? = some z → ExAt w' g' (i * 3) z.e) := by
    intro w' hbw i z hz
    have hgl := hblk.lt
    have hb' := (hblk.keep (hs5.block _ hgl (by omega))).below hbw
    have q : ∀ m v, z.cells[m]? = some v → w'.cell? ⟨g', i * 3 + m, none⟩ = some v := by
      intro m v hv
      have hm : m < 3 := by have := (List.getElem?_eq_some_iff.1 hv).1; simpa [Sh.cells] using this
      have hil := (List.getElem?_eq_some_iff.1 hz).1
      rw [hb'.cell, List.getElem?_append_left (by rw [shs_length]; omega), shs_at L3 i z hz m hm, hv]
    have k := (h03.trans (KeptX.of_below hb4)).trans ((KeptX.of_spares (X := fun q => w.heap.size ≤ q ∧ q < w3.heap.size) hs5 (fun q _ h => by omega)).trans (KeptX.of_below hbw))
    exact ⟨q 0 _ rfl, q 1 _ rfl, z.s, z.c, q 2 _ rfl, ((hSX3 z (hm3 z (List.mem_of_getElem? hz))).keep k).rd⟩
  have HSz : Hid (∀ (i : Nat) (z : Sh), L3[i]? = some z → z.e.size ≤ 1073741824) := fun i z hz => by have := (Hml.out z (hm3 z (List.mem_of_getElem? hz))).2; omega
  have o4z := O4.frozen 0
  have o4lt := O4.lt
  have o4c := O4.c0
  have o5 := O5.c0
  by_cases h0 : n3 = 0
  · subst h0
    have E1 : Hid (sumT x y = .leaf 1) := by
      show _ = _
      unfold sumT
      rw [HL.out, List.eq_nil_of_length_eq_zero hn3.symm]
      rfl
    clear hn3
    go_wp2_with fail
    rw [← hv5]
    refine (l02Zero_i).mono ?_
    rintro f w6 ⟨s3, c3, rfl, hf, hb⟩
    have hB := Below.on hB5 hb hB5.size
    have R := R5.below hb
    have hz6 := hb.size
    clear hB5
    -- the function's end: R the result's box, hB; h3 : Freshs W V .. (W below V), E1 : Hid (result = (Ex.leaf 1))
    -- the result box w.heap.size of world w6 is set to an expression; goal: bodyPost. R : the box; Rests: hs5 : Spares, T2
    have r0 := R.c0
    have r1 := R.c1
    have r2 := R.c2
    have z0 := R.frozen 0
    have z1 := R.frozen 1
    have z2 := R.frozen 2
    have ltR := R.lt
    go_wp2_with fail
    have T2 := ((R.set 0 (.int .i64 (Ex.leaf 1).kind)).set 1 (.int .i64 (Ex.leaf 1).num)).set 2 (.slice s3 (Ex.leaf 1).kids.length c3)
    have hs5 : Spares (fun y => y = w.heap.size) w6 (((w6.setCell ⟨w.heap.size, 0, none⟩ (.int .i64 (Ex.leaf 1).kind)).setCell ⟨w.heap.size, 1, none⟩ (.int .i64 (Ex.leaf 1).num)).setCell ⟨w.heap.size, 2, none⟩ (.slice s3 (Ex.leaf 1).kids.length c3)) := Spares.set (Spares.set (Spares.set (Spares.refl w6)))
    generalize (((w6.setCell ⟨w.heap.size, 0, none⟩ (.int .i64 (Ex.leaf 1).kind)).setCell ⟨w.heap.size, 1, none⟩ (.int .i64 (Ex.leaf 1).num)).setCell ⟨w.heap.size, 2, none⟩ (.slice s3 (Ex.leaf 1).kids.length c3)) = w5 at T2 hs5 ⊢
    have t0 := T2.c0
    have t1 := T2.c1
    have t2 := T2.c2
    have hzB5 := hB.size
    have hB5 := hB.trans (hs5.below (B := w.heap.size) (by omega) (fun y hy => by omega))
    refine bodyPost_ret (v := .agg #[.int .i64 (Ex.leaf 1).kind, .int .i64 (Ex.leaf 1).num, .slice s3 (Ex.leaf 1).kids.length c3]) (by simp [results, Tryz.results136, go_sem, t0, t1, t2]) rfl ?_
    rw [E1.out]
    exact ⟨_, _, rfl, Freshs.from (Freshs.keep hf (fun y _ hy2 => hs5.block y hy2 (by omega))) (by omega), hB5⟩
  obtain ⟨z0, hz0⟩ : ∃ z, L3[0]? = some z := ⟨_, List.getElem?_eq_getElem (by omega)⟩
  have cn : ((n3 : Int) == 0) = false := by simp; omega
  have cp : (0 : Int) < (n3 : Int) := by omega
  have Hn3 := Lib.hid hn3
  clear hn3
  go_wp2_with fail
  rw [← hv5]
  refine (l01Own_e (by have := HAt.out v5 (Below.refl _ _) 0 z0 hz0; simpa using this) (HSz.out 0 z0 hz0)).mono ?_
  rintro f w6 ⟨s6, c6, rfl, hf6, hb6⟩
  have hz6 := hb6.size
  have o6 := (hb6.cell (p := ⟨w.heap.size + 1 + 1, 0, none⟩) O5.lt).trans o5
  have o6lt : w.heap.size + 1 + 1 < w6.heap.size := by have := O5.lt; omega
  clear o4z o4lt o4c o5
  go_wp2_with fail
  have X0 := Blk.new3 w6 30 (.int .i64 z0.e.kind) (.int .i64 z0.e.num) (.slice s6 z0.e.kids.length c6)
  have hb7 : Below v5.heap.size v5 (w6.alloc (.cells #[.int .i64 z0.e.kind, .int .i64 z0.e.num, .slice s6 z0.e.kids.length c6] 30)) := hb6.alloc hz6 _
  have hf7 : OwnE v5.heap.size w6.heap.size (w6.alloc (.cells #[.int .i64 z0.e.kind, .int .i64 z0.e.num, .slice s6 z0.e.kids.length c6] 30)) z0.e s6 c6 := by
    obtain ⟨F, q1, q2, q3⟩ := hf6.single
    exact ⟨F, q1.keep (fun b hb => Below.heap_alloc _ _ b (q1.lt b hb)), q2, fun b hb => ⟨q3 b hb, by have := q1.lt b hb; omega⟩⟩
  have hz7 : w6.heap.size < (w6.alloc (.cells #[.int .i64 z0.e.kind, .int .i64 z0.e.num, .slice s6 z0.e.kids.length c6] 30)).heap.size := by simp
  obtain ⟨ob, hob⟩ : ∃ ob, ob = w6.heap.size := ⟨_, rfl⟩
  rw [← hob] at X0 hf7 hz7 ⊢
  have Hob := Lib.hid hob
  generalize w6.alloc (.cells #[.int .i64 z0.e.kind, .int .i64 z0.e.num, .slice s6 z0.e.kids.length c6] 30) = w7 at X0 hb7 hf7 hz7 ⊢
  have hobl : v5.heap.size ≤ ob := by omega
  clear hb6 hf6 o6 hob
  go_loopw [7] (fun i wr => ∃ (j : Nat) (acc : Ex) (s : Option Addr) (c : Nat), 1 ≤ j ∧ j ≤ n3 ∧ i = .int .i64 j ∧ Hid (acc = foldS ((L3.take j).map Sh.e)) ∧ Blk wr ob 30 [.int .i64 acc.kind, .int .i64 acc.num, .slice s acc.kids.length c] ∧ OwnE v5.heap.size ob wr acc s c ∧ Below v5.heap.size v5 wr) (fun i _ => n3 - (intOf i).toNat)
  case atStart =>
    refine ⟨1, z0.e, s6, c6, Nat.le_refl _, by omega, rfl, ?_, X0, hf7, hb7⟩
    show _ = _
    cases hL : L3 with
    | nil => rw [hL] at hz0; simp at hz0
    | cons q r => rw [hL] at hz0; simp at hz0; subst hz0; simp [foldS]
  case round =>
    obtain ⟨j, acc, s, c, hj1, hj2, rfl, Hacc, X1, hown, hBr⟩ := hrel
    clear X0 hf7 hb7 hz7
    have hszr := hBr.size
    have o7 := (O5.below hBr).c0
    have o7lt := (O5.below hBr).lt
    have hj0 := Int.natCast_nonneg j
    have hxl := X1.lt
    by_cases hlt : j < n3
    · obtain ⟨z, hz⟩ : ∃ z, L3[j]? = some z := ⟨_, List.getElem?_eq_getElem (by have := Hn3.out; omega)⟩
      have hjn : (j : Int) < (n3 : Int) := by omega
      have hzs := HSz.out j z hz
      have Hac2 : Hid (.two 6 acc z.e = foldS ((L3.take (j + 1)).map Sh.e)) := by
        show _ = _
        obtain ⟨hjl, hze⟩ := List.getElem?_eq_some_iff.1 hz
        rw [List.take_succ_eq_append_getElem hjl, hze, List.map_append, List.map_cons, List.map_nil, foldS_snoc _ (by intro h; have := congrArg List.length h; rw [List.length_map, List.length_take, List.length_nil] at this; have := Hn3.out; omega), Hacc.out]
      have Hz := Lib.hid hz
      clear hz
      obtain ⟨wb, rfl⟩ : ∃ v, v = wr := ⟨_, rfl⟩
      have O7 := O5.below hBr
      go_wp2_with fail
      obtain ⟨x1, hx1⟩ := mkval ?a1_1
      obtain ⟨x2, hx2⟩ := mkval ?a1_2
      obtain ⟨x3, hx3⟩ := mkval ?a1_3
      have hGb : ∀ m b, (fun m b => (m = 0 ∧ b = ob)) m b → (v5.heap.size) ≤ b ∧ b < (wb).heap.size := by
        intro m b hg
        rcases hg with ⟨rfl, hg⟩
        · subst hg
          have q := X1.lt
          omega
      have hGd : ∀ m m' b, (fun m b => (m = 0 ∧ b = ob)) m b → (fun m b => (m = 0 ∧ b = ob)) m' b → m = m' := by
        intro m m' b h h'
        rcases h with ⟨rfl, h⟩ <;> rcases h' with ⟨rfl, h'⟩ <;> first
          | rfl
      refine region_rs [] [(6, 0)] (fun m b => (m = 0 ∧ b = ob)) (v5.heap.size) (fun i iv vs wx => match i with
        | 0 => vs 0 = .agg #[.int .i64 acc.kind, .int .i64 acc.num, .slice s acc.kids.length c]
        | 1 => vs 1 = x1
        | 2 => vs 2 = x2
        | 3 => vs 3 = x3
        | 4 => ∃ s2 c2, vs 4 = .agg #[.int .i64 z.e.kind, .int .i64 z.e.num, .slice s2 z.e.kids.length c2] ∧ FreshIn (iv 4) wx [kidsD z.e.kids] [.slice s2 z.e.kids.length c2]
        | 5 => ∃ gr, vs 5 = .agg #[.int .i64 6, .int .i64 0, .slice (some ⟨gr, 0, none⟩) 2 2] ∧ FreshIn (iv 5) wx [.sl 3 2 ([.int .i64 acc.kind, .int .i64 acc.num, .slice s acc.kids.length c, .int .i64 z.e.kind, .int .i64 z.e.num, aggAt (vs 4) 2].map D.raw)] [.slice (some ⟨gr, 0, none⟩) 2 2]
        | 6 => Blk wx (ob) 30 [aggAt (vs 5) 0, aggAt (vs 5) 1, aggAt (vs 5) 2]
        | _ => True) (fun i iv vs => match i with
        | 0 => vs 0 = .agg #[.int .i64 acc.kind, .int .i64 acc.num, .slice s acc.kids.length c]
        | 1 => vs 1 = x1
        | 2 => vs 2 = x2
        | 3 => vs 3 = x3
        | 4 => ∃ s2 c2, vs 4 = .agg #[.int .i64 z.e.kind, .int .i64 z.e.num, .slice s2 z.e.kids.length c2]
        | 5 => ∃ gr, vs 5 = .agg #[.int .i64 6, .int .i64 0, .slice (some ⟨gr, 0, none⟩) 2 2]
        | 6 => True
        | _ => True) (by kernel_rfl) (by kernel_rfl) [0, 1, 2, 3, 4, 5, 6] (by kernel_rfl) ?hbase ?hGb ?hG ?hJ ?hE ?hEE ?hstep ?hQ
      case hbase => first | exact Nat.le_refl _ | omega | (simp; omega)
      case hGb =>
        exact hGb
      case hG =>
        exact hGd
      case hJ =>
        intro i hi iv iv' vs vs' wx wx' ha hv hz hk hj
        simp only [List.mem_cons, List.not_mem_nil, or_false] at hi
        rcases hi with rfl | rfl | rfl | rfl | rfl | rfl | rfl
        · exact (hv.out 0 (mem_of (by kernel_rfl))).symm.trans hj
        · exact (hv.out 1 (mem_of (by kernel_rfl))).symm.trans hj
        · exact (hv.out 2 (mem_of (by kernel_rfl))).symm.trans hj
        · exact (hv.out 3 (mem_of (by kernel_rfl))).symm.trans hj
        · have e4 := hv.out 4 (mem_of (by kernel_rfl))
          have g4 := ha.out 4 (mem_of (by kernel_rfl))
          obtain ⟨s2, c2, q1, q2⟩ := hj
          exact ⟨s2, c2, e4 ▸ q1, g4 ▸ q2.keep (fun b hb h1 h2 => hk.out b hb (foot_own h1 h2))⟩
        · have e4 := hv.out 4 (mem_of (by kernel_rfl))
          have e5 := hv.out 5 (mem_of (by kernel_rfl))
          have g5 := ha.out 5 (mem_of (by kernel_rfl))
          obtain ⟨gr, q1, q2⟩ := hj
          refine ⟨gr, e5 ▸ q1, ?_⟩
          rw [← e4, ← g5]
          exact q2.keep (fun b hb h1 h2 => hk.out b hb (foot_own h1 h2))
        · have e5 := hv.out 5 (mem_of (by kernel_rfl))
          have hj' : Blk wx (ob) 30 [aggAt (vs 5) 0, aggAt (vs 5) 1, aggAt (vs 5) 2] := hj
          show Blk wx' (ob) 30 [aggAt (vs' 5) 0, aggAt (vs' 5) 1, aggAt (vs' 5) 2]
          rw [← e5]
          exact hj'.keep (hk.out _ hj'.lt (foot_given 0 (by decide) ⟨rfl, rfl⟩))
      case hE =>
        intro i hi iv vs wx hj
        simp only [List.mem_cons, List.not_mem_nil, or_false] at hi
        rcases hi with rfl | rfl | rfl | rfl | rfl | rfl | rfl
        · exact hj
        · exact hj
        · exact hj
        · exact hj
        · obtain ⟨s2, c2, q1, -⟩ := hj
          exact ⟨s2, c2, q1⟩
        · obtain ⟨gr, q1, -⟩ := hj
          exact ⟨gr, q1⟩
        · trivial
      case hEE =>
        intro i hi iv iv' vs vs' ha hv hj
        simp only [List.mem_cons, List.not_mem_nil, or_false] at hi
        rcases hi with rfl | rfl | rfl | rfl | rfl | rfl | rfl
        · exact (hv.out 0 (mem_of (by kernel_rfl))).symm.trans hj
        · exact (hv.out 1 (mem_of (by kernel_rfl))).symm.trans hj
        · exact (hv.out 2 (mem_of (by kernel_rfl))).symm.trans hj
        · exact (hv.out 3 (mem_of (by kernel_rfl))).symm.trans hj
        · have e4 := hv.out 4 (mem_of (by kernel_rfl))
          have hj' : ∃ s2 c2, vs 4 = .agg #[.int .i64 z.e.kind, .int .i64 z.e.num, .slice s2 z.e.kids.length c2] := hj
          show ∃ s2 c2, vs' 4 = .agg #[.int .i64 z.e.kind, .int .i64 z.e.num, .slice s2 z.e.kids.length c2]
          rw [← e4]
          exact hj'
        · have e5 := hv.out 5 (mem_of (by kernel_rfl))
          have hj' : ∃ gr, vs 5 = .agg #[.int .i64 6, .int .i64 0, .slice (some ⟨gr, 0, none⟩) 2 2] := hj
          show ∃ gr, vs' 5 = .agg #[.int .i64 6, .int .i64 0, .slice (some ⟨gr, 0, none⟩) 2 2]
          rw [← e5]
          exact hj'
        · trivial
      case hstep =>
        intro i hi opr ho iv vs w1 hB hS hSo hd he hbd hsep hun K hK
        simp only [List.mem_cons, List.not_mem_nil, or_false] at hi
        have hzB := hB.size
        have hBw := hBr.trans hB
        have hza := HAt.out w1 hBw j z Hz.out
        have o8 := (O7.keep (hB.block _ O5.lt)).c0
        generalize hA : putFrom _ 0 vs _ = A at hK ⊢
        simp only [putFrom, puts] at hA
        rcases hi with rfl | rfl | rfl | rfl | rfl | rfl | rfl
        all_goals
          simp at ho
          subst ho
          subst hA
        · have X11 := X1.keep (hS.out 0 _ (by kernel_rfl) ⟨rfl, rfl⟩)
          have x1c0 := X11.c0
          have x1z0 := X11.frozen 0
          have x1c1 := X11.c1
          have x1z1 := X11.frozen 1
          have x1c2 := X11.c2
          have x1z2 := X11.frozen 2
          have x1lt := X11.lt
          go_wp2_with fail
          exact Onward.mk (hK (.agg #[.int .i64 acc.kind, .int .i64 acc.num, .slice s acc.kids.length c]) _ _ (fun h => by cases h) (by first | rfl | (simp only [puts])) (Spares.refl _) (fun iv' _ _ => rfl))
        · go_wp2_with fail
          refine Onward.mk (hK ?val1_1 _ _ (fun h => by cases h) ?eqA (Spares.refl _) (fun iv' _ _ => ?ja))
          case eqA => first | rfl | (simp only [puts]; rfl)
          case ja => exact hx1.out.symm
        · go_wp2_with fail
          refine Onward.mk (hK ?val1_2 _ _ (fun h => by cases h) ?eqA (Spares.refl _) (fun iv' _ _ => ?ja))
          case eqA => first | rfl | (simp only [puts]; rfl)
          case ja => exact hx2.out.symm
        · have h1 := (hd.out 1 (mem_of (by kernel_rfl)) (by decide) (by kernel_rfl)).trans hx1.out
          have h2 := (hd.out 2 (mem_of (by kernel_rfl)) (by decide) (by kernel_rfl)).trans hx2.out
          go_wp2_with fail
          refine Onward.mk (hK ?val1_3 _ _ (fun h => by cases h) ?eqA (Spares.refl _) (fun iv' _ _ => ?ja))
          case eqA => first | rfl | (simp only [puts, h1, h2]; rfl)
          case ja => exact hx3.out.symm
        · have h3 := (hd.out 3 (mem_of (by kernel_rfl)) (by decide) (by kernel_rfl)).trans hx3.out
          go_wp2_with fail
          refine (l01Own_e hza hzs).mono ?_
          rintro e w2 ⟨s2, c2, rfl, hf, hb⟩
          go_wp2_with fail
          exact Onward.mk (hK (.agg #[.int .i64 z.e.kind, .int .i64 z.e.num, .slice s2 z.e.kids.length c2]) _ _ (fun h => by cases h) (by first | rfl | (simp only [puts, h3])) (Spares.of_below hb) (fun iv' _ hi => ⟨s2, c2, rfl, by rw [hi]; exact Freshs.stretch (hf)⟩))
        · have h0 : vs 0 = .agg #[.int .i64 acc.kind, .int .i64 acc.num, .slice s acc.kids.length c] := hd.out 0 (mem_of (by kernel_rfl)) (by decide) (by kernel_rfl)
          obtain ⟨s2, c2, h4, f4⟩ := hd.out 4 (mem_of (by kernel_rfl)) (by decide) (by kernel_rfl)
          go_wp2_with fail
          refine (l02Pair_i).mono ?_
          rintro e w2 ⟨gr, rfl, hg5, hG5, hb⟩
          go_wp2_with fail
          exact Onward.mk (hK (.agg #[.int .i64 6, .int .i64 0, .slice (some ⟨gr, 0, none⟩) 2 2]) _ _ (fun h => by cases h) (by first | rfl | (simp only [puts, h0, h4])) (Spares.of_below hb) (fun iv' _ hi => ⟨gr, rfl, by rw [hi]; exact Freshs.stretch (by show Freshs w1 w2 [.sl 3 2 ([.int .i64 acc.kind, .int .i64 acc.num, .slice s acc.kids.length c, .int .i64 z.e.kind, .int .i64 z.e.num, aggAt (vs 4) 2].map D.raw)] _; rw [h4]; exact row_fresh hG5 rfl (by simp [aggAt]; exact ⟨rfl, rfl, rfl, rfl, rfl, rfl⟩) hg5 (by unfold maxLen; omega) (by omega))⟩))
        · obtain ⟨gr, h5, f5⟩ := hd.out 5 (mem_of (by kernel_rfl)) (by decide) (by kernel_rfl)
          have X11 := X1.keep (hS.out 0 _ (by kernel_rfl) ⟨rfl, rfl⟩)
          have x1c0 := X11.c0
          have x1z0 := X11.frozen 0
          have x1c1 := X11.c1
          have x1z1 := X11.frozen 1
          have x1c2 := X11.c2
          have x1z2 := X11.frozen 2
          have x1lt := X11.lt
          go_wp2_with fail
          exact Onward.mk (hK undef _ _ (fun _ => rfl) (by simp only [puts, h5]) ((spares_sets (b0 := ob) (by repeat (first | exact Spares.refl _ | apply Spares.set))).more (fun b h => Or.inl ⟨0, by decide, ⟨rfl, h⟩⟩)) (fun iv' ag hi => by
            show Blk _ (ob) 30 [aggAt (vs 5) 0, aggAt (vs 5) 1, aggAt (vs 5) 2]
            rw [h5]
            exact (((X11.set 0 _).set 1 _).set 2 _)))
      case hQ =>
        intro iv vs wx hB hSp hd he hbd hsep
        have hzB := hB.size
        have h0 : vs 0 = .agg #[.int .i64 acc.kind, .int .i64 acc.num, .slice s acc.kids.length c] := hd.out 0 (mem_of (by kernel_rfl)) (not_eaten (by kernel_rfl))
        have h1 := (hd.out 1 (mem_of (by kernel_rfl)) (not_eaten (by kernel_rfl))).trans hx1.out
        have h2 := (hd.out 2 (mem_of (by kernel_rfl)) (not_eaten (by kernel_rfl))).trans hx2.out
        have h3 := (hd.out 3 (mem_of (by kernel_rfl)) (not_eaten (by kernel_rfl))).trans hx3.out
        obtain ⟨s2, c2, h4, f4⟩ := hd.out 4 (mem_of (by kernel_rfl)) (not_eaten (by kernel_rfl))
        obtain ⟨gr, h5, f5⟩ := hd.out 5 (mem_of (by kernel_rfl)) (not_eaten (by kernel_rfl))
        have f6 : Blk _ (ob) 30 [aggAt (vs 5) 0, aggAt (vs 5) 1, aggAt (vs 5) 2] := hd.out 6 (mem_of (by kernel_rfl)) (not_eaten (by kernel_rfl))
        simp only [putFrom, puts]
        rw [h4] at f5
        rw [h5] at f6
        simp only [aggAt] at f5 f6
        have q4 := (hbd.out 4 (mem_of (by kernel_rfl))).1
        have q5 := (hbd.out 5 (mem_of (by kernel_rfl))).1
        have hsp := hsep.out 4 (mem_of (by kernel_rfl)) 5 (mem_of (by kernel_rfl)) (by decide)
        have hSx : Spares (fun q => q = ob) wb wx := hSp.out.more (fun q ⟨_, _, h⟩ => h)
        obtain ⟨a2, c3, e2, hown2⟩ := hown.two hSx f4 f5 q4 q5 hsp hxl (by omega)
        simp only [Value.slice.injEq, true_and] at e2
        obtain ⟨rfl, rfl⟩ := e2
        clear hd he hbd hsep h0 h1 h2 h3 h4 h5 q4 q5 hsp f4 f5
        go_wp2_with fail
        go_roundw
        case rel => exact ⟨j + 1, .two 6 acc z.e, some ⟨gr, 0, none⟩, 2, by omega, by omega, by go_num, Hac2, f6, hown2, hBr.trans hB⟩
        case measure => simp [intOf]; omega
    · have hjn : j = n3 := by omega
      have E1 : Hid (sumT x y = acc) := by
        show _ = _
        rw [Hacc.out, hjn, Hn3.out, List.take_length]
        unfold sumT
        rw [HL.out]
      have R := R5.below hBr
      have hB : Below w.heap.size w wr := hB5.trans (hBr.mono hB5.size)
      have hwv : w.heap.size < v5.heap.size := R5.lt
      have x0 := X1.c0
      have x1 := X1.c1
      have x2 := X1.c2
      have hjn2 : ¬ (j : Int) < (n3 : Int) := by omega
      clear hjn hj2 hlt hB5
      -- the result box w.heap.size of world wr is set to an expression; goal: bodyPost. R : the box; Rests: hs5 : Spares, T2
      have r0 := R.c0
      have r1 := R.c1
      have r2 := R.c2
      have z0 := R.frozen 0
      have z1 := R.frozen 1
      have z2 := R.frozen 2
      have ltR := R.lt
      go_wp2_with fail
      have T2 := ((R.set 0 (.int .i64 acc.kind)).set 1 (.int .i64 acc.num)).set 2 (.slice s acc.kids.length c)
      have hs5 : Spares (fun y => y = w.heap.size) wr (((wr.setCell ⟨w.heap.size, 0, none⟩ (.int .i64 acc.kind)).setCell ⟨w.heap.size, 1, none⟩ (.int .i64 acc.num)).setCell ⟨w.heap.size, 2, none⟩ (.slice s acc.kids.length c)) := Spares.set (Spares.set (Spares.set (Spares.refl wr)))
      generalize (((wr.setCell ⟨w.heap.size, 0, none⟩ (.int .i64 acc.kind)).setCell ⟨w.heap.size, 1, none⟩ (.int .i64 acc.num)).setCell ⟨w.heap.size, 2, none⟩ (.slice s acc.kids.length c)) = w5 at T2 hs5 ⊢
      have t0 := T2.c0
      have t1 := T2.c1
      have t2 := T2.c2
      have hzB5 := hB.size
      have hB5 := hB.trans (hs5.below (B := w.heap.size) (by omega) (fun y hy => by omega))
      refine bodyPost_ret (v := .agg #[.int .i64 acc.kind, .int .i64 acc.num, .slice s acc.kids.length c]) (by simp [results, Tryz.results136, go_sem, t0, t1, t2]) rfl ?_
      rw [E1.out]
      obtain ⟨F, q1, q2, q3⟩ := hown
      exact ⟨_, _, rfl, Freshs.one ⟨F, q1.keep (fun b hb => hs5.block b (q1.lt b hb) (by have := (q3 b hb).1; omega)), q2, fun b hb => by have := (q3 b hb).1; omega⟩, hB5⟩
end Go.Proofs.YtjlmdhoajfdkbaaGreatDoor

namespace Go.Proofs.YtjlmdhoajfdkbaaGreatDoor
set_option linter.unusedVariables false
set_option linter.unusedSimpArgs false
open Go.ChangeShapes Go.WideShapes Go.ChangeAt Go.RowKit Go.Deep
mutual
def D.marks : D → Nat
  | .int _ => 1
  | .bool _ => 1
  | .str _ => 0
  | .raw _ => 0
  | .sl _ _ cs => D.marksL cs
def D.marksL : List D → Nat
  | [] => 0
  | c :: cs => D.marks c + D.marksL cs
end
mutual
def D.mark : D → Nat → D
  | .int _, k => .int k
  | .bool _, k => .bool ((k : Int).tmod 3 == 0)
  | .str s, _ => .str s
  | .raw u, _ => .raw u
  | .sl size n cs, k => .sl size n (D.markL cs k)
def D.markL : List D → Nat → List D
  | [], _ => []
  | c :: cs, k => D.mark c k :: D.markL cs (k + D.marks c)
end
theorem marksL_append : ∀ a b : List D, D.marksL (a ++ b) = D.marksL a + D.marksL b
  | [], b => by simp [D.marksL]
  | c :: a, b => by simp only [List.cons_append, D.marksL, marksL_append a b]; omega
theorem markL_append : ∀ (a b : List D) (k : Nat), D.markL (a ++ b) k = D.markL a k ++ D.markL b (k + D.marksL a)
  | [], b, k => by simp [D.markL, D.marksL]
  | c :: a, b, k => by simp only [List.cons_append, D.markL, D.marksL, markL_append a b, Nat.add_assoc]
theorem markL_length : ∀ (a : List D) (k : Nat), (D.markL a k).length = a.length
  | [], _ => by simp [D.markL]
  | c :: a, k => by simp [D.markL, markL_length a]
theorem marks_step {cs : List D} {j : Nat} {c : D} (h : cs[j]? = some c) : D.marksL (cs.take (j + 1)) = D.marksL (cs.take j) + c.marks := by
  obtain ⟨hj, rfl⟩ := List.getElem?_eq_some_iff.1 h
  rw [List.take_succ_eq_append_getElem hj, marksL_append]
  simp [D.marksL]
theorem markL_at {cs : List D} {j : Nat} {c : D} (h : cs[j]? = some c) (k : Nat) : (D.markL cs k)[j]? = some (c.mark (k + D.marksL (cs.take j))) := by
  obtain ⟨hj, rfl⟩ := List.getElem?_eq_some_iff.1 h
  have e : D.markL cs k = D.markL (cs.take j) k ++ D.markL (cs.drop j) (k + D.marksL (cs.take j)) := by rw [← markL_append, List.take_append_drop]
  rw [e, List.getElem?_append_right (by rw [markL_length, List.length_take]; omega), markL_length, List.length_take, Nat.min_eq_left (by omega), Nat.sub_self, List.drop_eq_getElem_cons hj]
  simp [D.markL]
def mkd (cs : List D) (j k : Nat) : List D := D.markL (cs.take j) k ++ cs.drop j
theorem mkd_zero (cs : List D) (k : Nat) : mkd cs 0 k = cs := by simp [mkd, D.markL]
theorem mkd_all (cs : List D) (k : Nat) : mkd cs cs.length k = D.markL cs k := by simp [mkd]
theorem mkd_at {cs : List D} {i j : Nat} {c : D} (h : cs[i]? = some c) (hij : j ≤ i) (k : Nat) : (mkd cs j k)[i]? = some c := by
  obtain ⟨hj, rfl⟩ := List.getElem?_eq_some_iff.1 h
  unfold mkd
  rw [List.getElem?_append_right (by rw [markL_length, List.length_take]; omega), markL_length, List.length_take, Nat.min_eq_left (by omega), List.getElem?_drop]
  rw [show j + (i - j) = i by omega]
  exact h
theorem mkd_step {cs : List D} {j : Nat} {c : D} (h : cs[j]? = some c) (k : Nat) : (mkd cs j k).set j (c.mark (k + D.marksL (cs.take j))) = mkd cs (j + 1) k := by
  obtain ⟨hj, rfl⟩ := List.getElem?_eq_some_iff.1 h
  unfold mkd
  have e1 : (D.markL (cs.take j) k).length = j := by rw [markL_length, List.length_take]; omega
  rw [List.set_append_right _ _ (by omega), e1, Nat.sub_self, List.drop_eq_getElem_cons hj, List.set_cons_zero, List.take_succ_eq_append_getElem hj, markL_append]
  simp [D.markL]
theorem Ows.split {w : World} : ∀ {cs : List D} {xs : List Value} {F : List Nat}, Ows w cs xs F → ∀ {j : Nat} {c : D}, cs[j]? = some c →
    ∃ x A G B, xs[j]? = some x ∧ F = A ++ (G ++ B) ∧ Ow w c x G ∧
      (∀ w' c' x' G', Ow w' c' x' G' → (∀ b ∈ A ++ B, w'.heap[b]? = w.heap[b]?) → Ows w' (cs.set j c') (xs.set j x') (A ++ (G' ++ B)))
  | [], _, _, _, j, c, hj => by simp at hj
  | c0 :: cs, _, _, h, j, c, hj => by
    simp only [Ows] at h
    obtain ⟨x, r, G, K, rfl, rfl, h1, h2⟩ := h
    cases j with
    | zero =>
      simp at hj
      subst hj
      refine ⟨x, [], G, K, by simp, by simp, h1, fun w' c' x' G' h' hk => ?_⟩
      simp only [List.set_cons_zero, Ows, List.nil_append]
      exact ⟨x', r, G', K, rfl, rfl, h', h2.keep fun b hb => hk b (by simpa using hb)⟩
    | succ j =>
      obtain ⟨y, A, G1, B, e1, e2, e3, e4⟩ := Ows.split h2 (j := j) (c := c) (by simpa using hj)
      subst e2
      refine ⟨y, G ++ A, G1, B, by simpa using e1, by simp, e3, fun w' c' x' G' h' hk => ?_⟩
      have := e4 w' c' x' G' h' (fun b hb => hk b (by
        rcases List.mem_append.1 hb with hb | hb
        · exact List.mem_append_left _ (List.mem_append_right _ hb)
        · exact List.mem_append_right _ hb))
      simp only [List.set_cons_succ, Ows]
      exact ⟨x, _, G, A ++ (G' ++ B), rfl, by simp, h1.keep fun b hb => hk b (by simp [hb]), this⟩
theorem Free.blk {w : World} {b : Nat} (h : Free w b) : ∃ t cur, Blk w b t cur := by
  obtain ⟨cur, t, h⟩ := h
  exact ⟨t, cur.toList, by simpa [Blk] using h⟩
theorem Free.set {w : World} {b : Nat} (h : Free w b) (i : Nat) (v : Value) : Free (w.setCell ⟨b, i, none⟩ v) b := by
  obtain ⟨t, cur, h⟩ := h.blk
  exact (h.set i v).free
theorem Row.set {w : World} {b o : Nat} {xs : List Value} (hf : Free w b) (h : Row w b o xs) (j : Nat) (v : Value) : Row (w.setCell ⟨b, o + j, none⟩ v) b o (xs.set j v) := by
  obtain ⟨t, cur, hb⟩ := hf.blk
  have hb' := hb.set (o + j) v
  intro i hi
  have h1 := h i (by simpa using hi)
  rw [hb.cell] at h1
  rw [hb'.cell, List.getElem?_set, List.getElem?_set]
  by_cases hij : j = i
  · subst hij
    have hlen : j < xs.length := by simpa using hi
    have hcur : o + j < cur.length := by
      by_cases hc : o + j < cur.length
      · exact hc
      · rw [List.getElem?_eq_none (by omega), List.getElem?_eq_getElem hlen] at h1
        cases h1
    simp [hlen, hcur]
  · rw [if_neg (by omega), if_neg hij, h1]
theorem Ow.spot {w : World} {size n len cap : Nat} {cs : List D} {a : Option Addr} {F : List Nat} (h : Ow w (.sl size n cs) (.slice a len cap) F) (hn : 0 < n) : ∃ b o, a = some ⟨b, o, none⟩ := by
  simp only [Ow] at h
  obtain ⟨a', cap', h1, h2, h3, h4, h6, h5⟩ := h
  simp only [Value.slice.injEq] at h1
  obtain ⟨rfl, rfl, rfl⟩ := h1
  rcases h5 with h5 | ⟨b, o, xs, G, e1, _⟩
  · omega
  · exact ⟨b, o, e1⟩
theorem Ow.cell {w : World} {size n b o len cap : Nat} {cs : List D} {F : List Nat} (h : Ow w (.sl size n cs) (.slice (some ⟨b, o, none⟩) len cap) F) (hn : F.Nodup) {j : Nat} {c : D} (hj : cs[j]? = some c) :
    ∃ x G, w.cell? ⟨b, o + j, none⟩ = some x ∧ w.frozen? ⟨b, o + j, none⟩ = false ∧ b ∈ F ∧ b < w.heap.size ∧ b ∉ G ∧ (∀ g ∈ G, g ∈ F) ∧ G.Nodup ∧ Ow w c x G ∧
      (∀ w' c', Ow w' c' x G → Only G w w' → Ow w' (.sl size n (cs.set j c')) (.slice (some ⟨b, o, none⟩) len cap) F) ∧
      (G = [] → ∀ c' x', (∀ w', Ow w' c' x' []) → Ow (w.setCell ⟨b, o + j, none⟩ x') (.sl size n (cs.set j c')) (.slice (some ⟨b, o, none⟩) len cap) F) := by
  simp only [Ow] at h
  obtain ⟨a, cap', h1, h2, h3, h4, h6, h5⟩ := h
  simp only [Value.slice.injEq] at h1
  obtain ⟨rfl, rfl, rfl⟩ := h1
  rcases h5 with ⟨h0, _⟩ | ⟨b', o', xs, K, e1, rfl, hf, hrow, hows⟩
  · have := (List.getElem?_eq_some_iff.1 hj).1
    rw [h4, h0] at this
    omega
  simp only [Option.some.injEq, Addr.mk.injEq, and_true] at e1
  obtain ⟨rfl, rfl⟩ := e1
  obtain ⟨x, A, G, B, s1, s2, s3, s4⟩ := hows.split hj
  subst s2
  rw [List.nodup_cons] at hn
  obtain ⟨hnb, hnd⟩ := hn
  have hbl := hf.lt
  have ndG : G.Nodup := by
    rw [List.nodup_append, List.nodup_append] at hnd
    exact hnd.2.1.1
  have dis : ∀ g ∈ A ++ B, g ∉ G := by
    intro g hg hg'
    rw [List.nodup_append, List.nodup_append] at hnd
    rcases List.mem_append.1 hg with hg | hg
    · exact hnd.2.2 g hg g (List.mem_append_left _ hg') rfl
    · exact hnd.2.1.2.2 g hg' g hg rfl
  have hltAB : ∀ g ∈ A ++ B, g < w.heap.size := fun g hg => hows.lt g (by
    rcases List.mem_append.1 hg with hg | hg
    · exact List.mem_append_left _ hg
    · exact List.mem_append_right _ (List.mem_append_right _ hg))
  have hj' : j < xs.length := (List.getElem?_eq_some_iff.1 s1).1
  refine ⟨x, G, (hrow j hj').trans s1, hf.frozen _, List.mem_cons_self .., hbl, fun hm => hnb (List.mem_append_right _ (List.mem_append_left _ hm)), fun g hg => List.mem_cons_of_mem _ (List.mem_append_right _ (List.mem_append_left _ hg)), ndG, s3, ?_, ?_⟩
  · intro w' c' hc' honly
    have hb' : w'.heap[b]? = w.heap[b]? := honly.block b hbl (fun hm => hnb (List.mem_append_right _ (List.mem_append_left _ hm)))
    have hset := s4 w' c' x G hc' (fun g hg => honly.block g (hltAB g hg) (dis g hg))
    rw [show xs.set j x = xs by
      obtain ⟨hl, hx⟩ := List.getElem?_eq_some_iff.1 s1
      rw [← hx]; exact List.set_getElem_self hl] at hset
    obtain ⟨cur, t, hcur⟩ := hf
    simp only [Ow]
    exact ⟨_, cap, rfl, h2, h3, by rw [List.length_set]; exact h4, h6, Or.inr ⟨b, o, xs, A ++ (G ++ B), rfl, rfl, ⟨cur, t, hb'.trans hcur⟩, hrow.congr hb', hset⟩⟩
  · intro hG c' x' hc'
    subst hG
    have hset := s4 (w.setCell ⟨b, o + j, none⟩ x') c' x' [] (hc' _) (fun g hg => Below.heap_setCell _ _ _ _ (fun e => hnb (by
      have e' : g = b := e
      rw [← e']
      rcases List.mem_append.1 hg with hg | hg
      · exact List.mem_append_left _ hg
      · exact List.mem_append_right _ (List.mem_append_right _ hg))))
    simp only [Ow]
    exact ⟨_, cap, rfl, h2, h3, by rw [List.length_set]; exact h4, h6, Or.inr ⟨b, o, _, _, rfl, rfl, hf.set _ _, hrow.set hf j x', hset⟩⟩
theorem Ow.int_cell {w : World} {size n b o len cap : Nat} {cs : List D} {F : List Nat} (h : Ow w (.sl size n cs) (.slice (some ⟨b, o, none⟩) len cap) F) (hn : F.Nodup) {j : Nat} {z : Int} (hj : cs[j]? = some (.int z)) :
    w.cell? ⟨b, o + j, none⟩ = some (.int .i64 z) ∧ w.frozen? ⟨b, o + j, none⟩ = false ∧ b < w.heap.size ∧
      (∀ z' : Int, Ow (w.setCell ⟨b, o + j, none⟩ (.int .i64 z')) (.sl size n (cs.set j (.int z'))) (.slice (some ⟨b, o, none⟩) len cap) F ∧ Only F w (w.setCell ⟨b, o + j, none⟩ (.int .i64 z'))) := by
  obtain ⟨x, G, h1, h2, h3, h4, h5, h6, h7, h8, h9, h10⟩ := h.cell hn hj
  simp only [Ow] at h8
  obtain ⟨rfl, rfl⟩ := h8
  exact ⟨h1, h2, h4, fun z' => ⟨h10 rfl _ _ (fun _ => Ow.int _), (Only.refl F w).setCell h3 _⟩⟩
theorem Ow.sl_cell {w : World} {size n b o len cap : Nat} {cs : List D} {F : List Nat} (h : Ow w (.sl size n cs) (.slice (some ⟨b, o, none⟩) len cap) F) (hn : F.Nodup) {j size' n' : Nat} {ds : List D} (hj : cs[j]? = some (.sl size' n' ds)) :
    ∃ a c G, w.cell? ⟨b, o + j, none⟩ = some (.slice a n' c) ∧ w.frozen? ⟨b, o + j, none⟩ = false ∧ b < w.heap.size ∧ b ∉ G ∧ (∀ g ∈ G, g ∈ F) ∧ G.Nodup ∧ Ow w (.sl size' n' ds) (.slice a n' c) G ∧
      (∀ w' ds', Ow w' (.sl size' n' ds') (.slice a n' c) G → Only G w w' → Ow w' (.sl size n (cs.set j (.sl size' n' ds'))) (.slice (some ⟨b, o, none⟩) len cap) F ∧ Only F w w') := by
  obtain ⟨x, G, h1, h2, h3, h4, h5, h6, h7, h8, h9, h10⟩ := h.cell hn hj
  have h8' := h8
  simp only [Ow] at h8'
  obtain ⟨a, c, rfl, _⟩ := h8'
  exact ⟨a, c, G, h1, h2, h4, h5, h6, h7, h8, fun w' ds' k1 k2 => ⟨h9 w' _ k1 k2, k2.more h6⟩⟩
end Go.Proofs.YtjlmdhoajfdkbaaGreatDoor

namespace Go.Proofs.YtjlmdhoajfdkbaaGreatDoor
set_option linter.unusedVariables false
set_option linter.unusedSimpArgs false
open Go.ChangeShapes Go.WideShapes Go.ChangeAt Go.RowKit Go.Deep Go.Sort
set_option maxRecDepth 100000 in
set_option maxHeartbeats 8000000 in
theorem l02Tidy_all (tm am : Int) (ht : tm ≤ 8) (ha : am ≤ 8) (N : Nat) : ∀ (e : Ex) (b o : Nat) (w : World), e.size ≤ N → ExAt w b o e → e.tree tm am = true → e.size ≤ 90000 →
    Calls Tryz.prog 77 #[.pointer (some ⟨b, o, none⟩)] w (OutE w e.tidy) := by
  induction N using Nat.strongRecOn with
  | _ N ih =>
  intro e b o w hN hx hxt hsz1
  have HIH := Lib.hid ih
  clear ih
  have hlt := hx.lt
  obtain ⟨k, n, ks⟩ := e
  obtain ⟨hk, -, -, htl⟩ := tree_parts hxt
  by_cases h6 : k = 6
  · subst h6
    obtain ⟨u, v, rfl⟩ := two_kids hk (by omega)
    have hsz := Ex.size_eq (.mk 6 n [u, v])
    simp only [Ex.sizeL, Ex.kids_mk] at hsz
    have E1 : Hid ((Ex.mk 6 n [u, v]).tidy = sumT u.tidy v.tidy) := by show _ = _; exact Ex.tidy_sum
    have hut : u.tree tm am = true := Ex.treeL_mem htl (by simp)
    have hvt : v.tree tm am = true := Ex.treeL_mem htl (by simp)
    obtain ⟨hu1, hu2⟩ := tidy_spec tm am _ u (Nat.le_refl _) hut
    obtain ⟨hv1, hv2⟩ := tidy_spec tm am _ v (Nat.le_refl _) hvt
    clear htl hk
    obtain ⟨g0, g1, sx, cx, g2, g3⟩ := id hx
    simp only [Ex.kind_mk, Ex.num_mk, Ex.kids_mk] at g0 g1 g2
    obtain ⟨kb, ko, rfl⟩ := kid_some g3 (by simp [Ex.kids])
    have hu : ExAt w kb ko u := by have := kid_exAt g3 (i := 0) (e := u) rfl; simpa using this
    obtain ⟨-, hlen, hcap, -, -⟩ := kid_at g3
    unfold maxLen at hcap
    simp only [Ex.kids_mk, List.length_cons, List.length_nil, Nat.zero_add, Nat.reduceAdd] at g2 hlen hcap
    have Hg0 := Lib.hid g0
    have Hg2 := Lib.hid g2
    have hv : ExAt w kb (ko + 3) v := by have := kid_exAt g3 (i := 1) (e := v) rfl; simpa using this
    go_enter Tryz.func77, Tryz.ntmps77
    go_wp2_with fail
    have R := Blk.new3 w 30 (.int .i64 0) (.int .i64 0) (.slice none 0 0)
    have hB : Below w.heap.size w (w.alloc (.cells #[.int .i64 0, .int .i64 0, .slice none 0 0] 30)) := by (repeat' first | exact Below.refl _ _ | assumption | apply Below.alloc | apply Below.drew | apply Below.setCell | omega | (simp; done) | (simp; omega))
    have hz0 : (w.alloc (.cells #[.int .i64 0, .int .i64 0, .slice none 0 0] 30)).heap.size = w.heap.size + 1 := by simp
    generalize w.alloc (.cells #[.int .i64 0, .int .i64 0, .slice none 0 0] 30) = w1 at R hB hz0 ⊢
    have hx1 := hx.below hB
    clear g0 g1 g2
    refine (HIH.out u.size (by omega) u _ _ _ (Nat.le_refl _) (hu.below hB) hut (by omega)).mono ?_
    rintro f w2 ⟨s2, c2, rfl, hf2, hb2⟩
    have hz2 := hb2.size
    have g2q := (hb2.cell (p := ⟨b, o + 2, none⟩) (by have := hx1.lt; omega)).trans ((hB.cell (p := ⟨b, o + 2, none⟩) hlt).trans Hg2.out)
    have hlt2 : b < w2.heap.size := by have := hx1.lt; omega
    go_wp2_with fail
    clear g2q
    have U := Blk.new3 w2 30 (.int .i64 u.tidy.kind) (.int .i64 u.tidy.num) (.slice s2 u.tidy.kids.length c2)
    have hb3 : Below w1.heap.size w1 (w2.alloc (.cells #[.int .i64 u.tidy.kind, .int .i64 u.tidy.num, .slice s2 u.tidy.kids.length c2] 30)) := hb2.alloc hz2 _
    have hd2 := (Rds.one hf2.rds).alloc (.cells #[.int .i64 u.tidy.kind, .int .i64 u.tidy.num, .slice s2 u.tidy.kids.length c2] 30)
    generalize w2.alloc (.cells #[.int .i64 u.tidy.kind, .int .i64 u.tidy.num, .slice s2 u.tidy.kids.length c2] 30) = w3 at U hb3 hd2 ⊢
    have hua : ExAt w3 w2.heap.size 0 u.tidy := ⟨U.c0, U.c1, s2, c2, U.c2, hd2⟩
    have hz3 := hb3.size
    refine (HIH.out v.size (by omega) v _ _ _ (Nat.le_refl _) ((hv.below hB).below hb3) hvt (by omega)).mono ?_
    rintro f w4 ⟨s4, c4, rfl, hf4, hb4⟩
    have hz4 := hb4.size
    have hb14 := hb3.trans (hb4.mono hz3)
    have g0q := (hb14.cell (p := ⟨b, o, none⟩) (by have := hx1.lt; omega)).trans ((hB.cell (p := ⟨b, o, none⟩) hlt).trans Hg0.out)
    have hlt4 : b < w4.heap.size := by have := hx1.lt; omega
    go_wp2_with fail
    clear g0q
    have V := Blk.new3 w4 30 (.int .i64 v.tidy.kind) (.int .i64 v.tidy.num) (.slice s4 v.tidy.kids.length c4)
    have hb5 : Below w1.heap.size w1 (w4.alloc (.cells #[.int .i64 v.tidy.kind, .int .i64 v.tidy.num, .slice s4 v.tidy.kids.length c4] 30)) := hb14.alloc (by omega) _
    have hd4 := (Rds.one hf4.rds).alloc (.cells #[.int .i64 v.tidy.kind, .int .i64 v.tidy.num, .slice s4 v.tidy.kids.length c4] 30)
    have hua5 := (hua.below hb4).below (Below.alloc (Below.refl w4.heap.size w4) (Nat.le_refl _) (.cells #[.int .i64 v.tidy.kind, .int .i64 v.tidy.num, .slice s4 v.tidy.kids.length c4] 30))
    generalize w4.alloc (.cells #[.int .i64 v.tidy.kind, .int .i64 v.tidy.num, .slice s4 v.tidy.kids.length c4] 30) = v5 at V hb5 hd4 hua5 ⊢
    have hva : ExAt v5 w4.heap.size 0 v.tidy := ⟨V.c0, V.c1, s4, c4, V.c2, hd4⟩
    refine (l02Sum_i ht ha hua5 hva hu1 hv1 (by omega)).mono ?_
    rintro f v6 ⟨s6, c6, rfl, hf6, hb6⟩
    have hz5 := hb5.size
    replace hB := Below.on hB (hb5.trans (hb6.mono hz5)) hB.size
    replace R := R.below (hb5.trans (hb6.mono hz5))
    have hz6 := hb6.size
    -- the function's end: R the result's box, hB; h3 : Freshs W V .. (W below V), E1 : Hid (result = (sumT u.tidy v.tidy))
    -- the result box w.heap.size of world v6 is set to an expression; goal: bodyPost. R : the box; Rests: hs5 : Spares, T2
    have r0 := R.c0
    have r1 := R.c1
    have r2 := R.c2
    have z0 := R.frozen 0
    have z1 := R.frozen 1
    have z2 := R.frozen 2
    have ltR := R.lt
    go_wp2_with fail
    have T2 := ((R.set 0 (.int .i64 (sumT u.tidy v.tidy).kind)).set 1 (.int .i64 (sumT u.tidy v.tidy).num)).set 2 (.slice s6 (sumT u.tidy v.tidy).kids.length c6)
    have hs5 : Spares (fun y => y = w.heap.size) v6 (((v6.setCell ⟨w.heap.size, 0, none⟩ (.int .i64 (sumT u.tidy v.tidy).kind)).setCell ⟨w.heap.size, 1, none⟩ (.int .i64 (sumT u.tidy v.tidy).num)).setCell ⟨w.heap.size, 2, none⟩ (.slice s6 (sumT u.tidy v.tidy).kids.length c6)) := Spares.set (Spares.set (Spares.set (Spares.refl v6)))
    generalize (((v6.setCell ⟨w.heap.size, 0, none⟩ (.int .i64 (sumT u.tidy v.tidy).kind)).setCell ⟨w.heap.size, 1, none⟩ (.int .i64 (sumT u.tidy v.tidy).num)).setCell ⟨w.heap.size, 2, none⟩ (.slice s6 (sumT u.tidy v.tidy).kids.length c6)) = w5 at T2 hs5 ⊢
    have t0 := T2.c0
    have t1 := T2.c1
    have t2 := T2.c2
    have hzB5 := hB.size
    have hB5 := hB.trans (hs5.below (B := w.heap.size) (by omega) (fun y hy => by omega))
    refine bodyPost_ret (v := .agg #[.int .i64 (sumT u.tidy v.tidy).kind, .int .i64 (sumT u.tidy v.tidy).num, .slice s6 (sumT u.tidy v.tidy).kids.length c6]) (by simp [results, Tryz.results77, go_sem, t0, t1, t2]) rfl ?_
    rw [E1.out]
    exact ⟨_, _, rfl, Freshs.from (Freshs.keep hf6 (fun y _ hy2 => hs5.block y hy2 (by omega))) (by omega), hB5⟩
  have c6 : (k == 6) = false := by simp [h6]
  by_cases h7 : k = 7
  · subst h7
    obtain ⟨u, v, rfl⟩ := two_kids hk (by omega)
    have hsz := Ex.size_eq (.mk 7 n [u, v])
    simp only [Ex.sizeL, Ex.kids_mk] at hsz
    have E1 : Hid ((Ex.mk 7 n [u, v]).tidy = Ex.dot u.tidy v.tidy) := by show _ = _; exact Ex.tidy_dot
    have hut : u.tree tm am = true := Ex.treeL_mem htl (by simp)
    have hvt : v.tree tm am = true := Ex.treeL_mem htl (by simp)
    obtain ⟨hu1, hu2⟩ := tidy_spec tm am _ u (Nat.le_refl _) hut
    obtain ⟨hv1, hv2⟩ := tidy_spec tm am _ v (Nat.le_refl _) hvt
    clear htl hk
    obtain ⟨g0, g1, sx, cx, g2, g3⟩ := id hx
    simp only [Ex.kind_mk, Ex.num_mk, Ex.kids_mk] at g0 g1 g2
    obtain ⟨kb, ko, rfl⟩ := kid_some g3 (by simp [Ex.kids])
    have hu : ExAt w kb ko u := by have := kid_exAt g3 (i := 0) (e := u) rfl; simpa using this
    obtain ⟨-, hlen, hcap, -, -⟩ := kid_at g3
    unfold maxLen at hcap
    simp only [Ex.kids_mk, List.length_cons, List.length_nil, Nat.zero_add, Nat.reduceAdd] at g2 hlen hcap
    have Hg0 := Lib.hid g0
    have Hg2 := Lib.hid g2
    have hv : ExAt w kb (ko + 3) v := by have := kid_exAt g3 (i := 1) (e := v) rfl; simpa using this
    go_enter Tryz.func77, Tryz.ntmps77
    go_wp2_with fail
    have R := Blk.new3 w 30 (.int .i64 0) (.int .i64 0) (.slice none 0 0)
    have hB : Below w.heap.size w (w.alloc (.cells #[.int .i64 0, .int .i64 0, .slice none 0 0] 30)) := by (repeat' first | exact Below.refl _ _ | assumption | apply Below.alloc | apply Below.drew | apply Below.setCell | omega | (simp; done) | (simp; omega))
    have hz0 : (w.alloc (.cells #[.int .i64 0, .int .i64 0, .slice none 0 0] 30)).heap.size = w.heap.size + 1 := by simp
    generalize w.alloc (.cells #[.int .i64 0, .int .i64 0, .slice none 0 0] 30) = w1 at R hB hz0 ⊢
    have hx1 := hx.below hB
    clear g0 g1 g2
    refine (HIH.out u.size (by omega) u _ _ _ (Nat.le_refl _) (hu.below hB) hut (by omega)).mono ?_
    rintro f w2 ⟨s2, c2, rfl, hf2, hb2⟩
    have hz2 := hb2.size
    have g2q := (hb2.cell (p := ⟨b, o + 2, none⟩) (by have := hx1.lt; omega)).trans ((hB.cell (p := ⟨b, o + 2, none⟩) hlt).trans Hg2.out)
    have hlt2 : b < w2.heap.size := by have := hx1.lt; omega
    go_wp2_with fail
    clear g2q
    have U := Blk.new3 w2 30 (.int .i64 u.tidy.kind) (.int .i64 u.tidy.num) (.slice s2 u.tidy.kids.length c2)
    have hb3 : Below w1.heap.size w1 (w2.alloc (.cells #[.int .i64 u.tidy.kind, .int .i64 u.tidy.num, .slice s2 u.tidy.kids.length c2] 30)) := hb2.alloc hz2 _
    have hd2 := (Rds.one hf2.rds).alloc (.cells #[.int .i64 u.tidy.kind, .int .i64 u.tidy.num, .slice s2 u.tidy.kids.length c2] 30)
    generalize w2.alloc (.cells #[.int .i64 u.tidy.kind, .int .i64 u.tidy.num, .slice s2 u.tidy.kids.length c2] 30) = w3 at U hb3 hd2 ⊢
    have hua : ExAt w3 w2.heap.size 0 u.tidy := ⟨U.c0, U.c1, s2, c2, U.c2, hd2⟩
    have hz3 := hb3.size
    refine (HIH.out v.size (by omega) v _ _ _ (Nat.le_refl _) ((hv.below hB).below hb3) hvt (by omega)).mono ?_
    rintro f w4 ⟨s4, c4, rfl, hf4, hb4⟩
    have hz4 := hb4.size
    have hb14 := hb3.trans (hb4.mono hz3)
    have g0q := (hb14.cell (p := ⟨b, o, none⟩) (by have := hx1.lt; omega)).trans ((hB.cell (p := ⟨b, o, none⟩) hlt).trans Hg0.out)
    have hlt4 : b < w4.heap.size := by have := hx1.lt; omega
    go_wp2_with fail
    clear g0q
    have V := Blk.new3 w4 30 (.int .i64 v.tidy.kind) (.int .i64 v.tidy.num) (.slice s4 v.tidy.kids.length c4)
    have hb5 : Below w1.heap.size w1 (w4.alloc (.cells #[.int .i64 v.tidy.kind, .int .i64 v.tidy.num, .slice s4 v.tidy.kids.length c4] 30)) := hb14.alloc (by omega) _
    have hd4 := (Rds.one hf4.rds).alloc (.cells #[.int .i64 v.tidy.kind, .int .i64 v.tidy.num, .slice s4 v.tidy.kids.length c4] 30)
    have hua5 := (hua.below hb4).below (Below.alloc (Below.refl w4.heap.size w4) (Nat.le_refl _) (.cells #[.int .i64 v.tidy.kind, .int .i64 v.tidy.num, .slice s4 v.tidy.kids.length c4] 30))
    generalize w4.alloc (.cells #[.int .i64 v.tidy.kind, .int .i64 v.tidy.num, .slice s4 v.tidy.kids.length c4] 30) = v5 at V hb5 hd4 hua5 ⊢
    have hva : ExAt v5 w4.heap.size 0 v.tidy := ⟨V.c0, V.c1, s4, c4, V.c2, hd4⟩
    refine (l02Dot_all tm am _ _ _ _ _ _ _ _ (Nat.le_refl _) hua5 hva hu1 hv1 (by omega)).mono ?_
    rintro f v6 ⟨s6, c6, rfl, hf6, hb6⟩
    have hz5 := hb5.size
    replace hB := Below.on hB (hb5.trans (hb6.mono hz5)) hB.size
    replace R := R.below (hb5.trans (hb6.mono hz5))
    have hz6 := hb6.size
    -- the function's end: R the result's box, hB; h3 : Freshs W V .. (W below V), E1 : Hid (result = (Ex.dot u.tidy v.tidy))
    -- the result box w.heap.size of world v6 is set to an expression; goal: bodyPost. R : the box; Rests: hs5 : Spares, T2
    have r0 := R.c0
    have r1 := R.c1
    have r2 := R.c2
    have z0 := R.frozen 0
    have z1 := R.frozen 1
    have z2 := R.frozen 2
    have ltR := R.lt
    go_wp2_with fail
    have T2 := ((R.set 0 (.int .i64 (Ex.dot u.tidy v.tidy).kind)).set 1 (.int .i64 (Ex.dot u.tidy v.tidy).num)).set 2 (.slice s6 (Ex.dot u.tidy v.tidy).kids.length c6)
    have hs5 : Spares (fun y => y = w.heap.size) v6 (((v6.setCell ⟨w.heap.size, 0, none⟩ (.int .i64 (Ex.dot u.tidy v.tidy).kind)).setCell ⟨w.heap.size, 1, none⟩ (.int .i64 (Ex.dot u.tidy v.tidy).num)).setCell ⟨w.heap.size, 2, none⟩ (.slice s6 (Ex.dot u.tidy v.tidy).kids.length c6)) := Spares.set (Spares.set (Spares.set (Spares.refl v6)))
    generalize (((v6.setCell ⟨w.heap.size, 0, none⟩ (.int .i64 (Ex.dot u.tidy v.tidy).kind)).setCell ⟨w.heap.size, 1, none⟩ (.int .i64 (Ex.dot u.tidy v.tidy).num)).setCell ⟨w.heap.size, 2, none⟩ (.slice s6 (Ex.dot u.tidy v.tidy).kids.length c6)) = w5 at T2 hs5 ⊢
    have t0 := T2.c0
    have t1 := T2.c1
    have t2 := T2.c2
    have hzB5 := hB.size
    have hB5 := hB.trans (hs5.below (B := w.heap.size) (by omega) (fun y hy => by omega))
    refine bodyPost_ret (v := .agg #[.int .i64 (Ex.dot u.tidy v.tidy).kind, .int .i64 (Ex.dot u.tidy v.tidy).num, .slice s6 (Ex.dot u.tidy v.tidy).kids.length c6]) (by simp [results, Tryz.results77, go_sem, t0, t1, t2]) rfl ?_
    rw [E1.out]
    exact ⟨_, _, rfl, Freshs.from (Freshs.keep hf6 (fun y _ hy2 => hs5.block y hy2 (by omega))) (by omega), hB5⟩
  have c7 : (k == 7) = false := by simp [h7]
  by_cases h8 : k = 8
  · subst h8
    obtain ⟨u, rfl⟩ := one_kid hk (by omega)
    have hsz := Ex.size_eq (.mk 8 n [u])
    simp only [Ex.sizeL, Ex.kids_mk] at hsz
    have E1 : Hid ((Ex.mk 8 n [u]).tidy = u.tidy.star) := by show _ = _; exact Ex.tidy_star
    have hut : u.tree tm am = true := Ex.treeL_mem htl (by simp)
    obtain ⟨hu1, hu2⟩ := tidy_spec tm am _ u (Nat.le_refl _) hut
    clear htl hk
    obtain ⟨g0, g1, sx, cx, g2, g3⟩ := id hx
    simp only [Ex.kind_mk, Ex.num_mk, Ex.kids_mk] at g0 g1 g2
    obtain ⟨kb, ko, rfl⟩ := kid_some g3 (by simp [Ex.kids])
    have hu : ExAt w kb ko u := by have := kid_exAt g3 (i := 0) (e := u) rfl; simpa using this
    obtain ⟨-, hlen, hcap, -, -⟩ := kid_at g3
    unfold maxLen at hcap
    simp only [Ex.kids_mk, List.length_cons, List.length_nil, Nat.zero_add, Nat.reduceAdd] at g2 hlen hcap
    have Hg0 := Lib.hid g0
    have Hg2 := Lib.hid g2
    go_enter Tryz.func77, Tryz.ntmps77
    go_wp2_with fail
    have R := Blk.new3 w 30 (.int .i64 0) (.int .i64 0) (.slice none 0 0)
    have hB : Below w.heap.size w (w.alloc (.cells #[.int .i64 0, .int .i64 0, .slice none 0 0] 30)) := by (repeat' first | exact Below.refl _ _ | assumption | apply Below.alloc | apply Below.drew | apply Below.setCell | omega | (simp; done) | (simp; omega))
    have hz0 : (w.alloc (.cells #[.int .i64 0, .int .i64 0, .slice none 0 0] 30)).heap.size = w.heap.size + 1 := by simp
    generalize w.alloc (.cells #[.int .i64 0, .int .i64 0, .slice none 0 0] 30) = w1 at R hB hz0 ⊢
    have hx1 := hx.below hB
    clear g0 g1 g2
    refine (HIH.out u.size (by omega) u _ _ _ (Nat.le_refl _) (hu.below hB) hut (by omega)).mono ?_
    rintro f w2 ⟨s2, c2, rfl, hf2, hb2⟩
    have hz2 := hb2.size
    go_wp2_with fail
    have U := Blk.new3 w2 30 (.int .i64 u.tidy.kind) (.int .i64 u.tidy.num) (.slice s2 u.tidy.kids.length c2)
    have hb3 : Below w1.heap.size w1 (w2.alloc (.cells #[.int .i64 u.tidy.kind, .int .i64 u.tidy.num, .slice s2 u.tidy.kids.length c2] 30)) := hb2.alloc hz2 _
    have hd2 := (Rds.one hf2.rds).alloc (.cells #[.int .i64 u.tidy.kind, .int .i64 u.tidy.num, .slice s2 u.tidy.kids.length c2] 30)
    generalize w2.alloc (.cells #[.int .i64 u.tidy.kind, .int .i64 u.tidy.num, .slice s2 u.tidy.kids.length c2] 30) = w3 at U hb3 hd2 ⊢
    have hua : ExAt w3 w2.heap.size 0 u.tidy := ⟨U.c0, U.c1, s2, c2, U.c2, hd2⟩
    have hz3 := hb3.size
    refine (l02Star_i hua (by omega)).mono ?_
    rintro f w4 ⟨s4, c4, rfl, hf4, hb4⟩
    replace hB := Below.on hB (hb3.trans (hb4.mono hz3)) hB.size
    replace R := R.below (hb3.trans (hb4.mono hz3))
    have hz4 := hb4.size
    -- the function's end: R the result's box, hB; h3 : Freshs W V .. (W below V), E1 : Hid (result = u.tidy.star)
    -- the result box w.heap.size of world w4 is set to an expression; goal: bodyPost. R : the box; Rests: hs5 : Spares, T2
    have r0 := R.c0
    have r1 := R.c1
    have r2 := R.c2
    have z0 := R.frozen 0
    have z1 := R.frozen 1
    have z2 := R.frozen 2
    have ltR := R.lt
    go_wp2_with fail
    have T2 := ((R.set 0 (.int .i64 u.tidy.star.kind)).set 1 (.int .i64 u.tidy.star.num)).set 2 (.slice s4 u.tidy.star.kids.length c4)
    have hs5 : Spares (fun y => y = w.heap.size) w4 (((w4.setCell ⟨w.heap.size, 0, none⟩ (.int .i64 u.tidy.star.kind)).setCell ⟨w.heap.size, 1, none⟩ (.int .i64 u.tidy.star.num)).setCell ⟨w.heap.size, 2, none⟩ (.slice s4 u.tidy.star.kids.length c4)) := Spares.set (Spares.set (Spares.set (Spares.refl w4)))
    generalize (((w4.setCell ⟨w.heap.size, 0, none⟩ (.int .i64 u.tidy.star.kind)).setCell ⟨w.heap.size, 1, none⟩ (.int .i64 u.tidy.star.num)).setCell ⟨w.heap.size, 2, none⟩ (.slice s4 u.tidy.star.kids.length c4)) = w5 at T2 hs5 ⊢
    have t0 := T2.c0
    have t1 := T2.c1
    have t2 := T2.c2
    have hzB5 := hB.size
    have hB5 := hB.trans (hs5.below (B := w.heap.size) (by omega) (fun y hy => by omega))
    refine bodyPost_ret (v := .agg #[.int .i64 u.tidy.star.kind, .int .i64 u.tidy.star.num, .slice s4 u.tidy.star.kids.length c4]) (by simp [results, Tryz.results77, go_sem, t0, t1, t2]) rfl ?_
    rw [E1.out]
    exact ⟨_, _, rfl, Freshs.from (Freshs.keep hf4 (fun y _ hy2 => hs5.block y hy2 (by omega))) (by omega), hB5⟩
  have c8 : (k == 8) = false := by simp [h8]
  have E1 : Hid ((Ex.mk k n ks).tidy = .mk k n ks) := by show _ = _; exact Ex.tidy_else h6 h7 h8
  clear htl hk h6 h7 h8
  obtain ⟨g0, g1, sx, cx, g2, g3⟩ := id hx
  simp only [Ex.kind_mk, Ex.num_mk, Ex.kids_mk] at g0 g1 g2
  skip
  go_enter Tryz.func77, Tryz.ntmps77
  go_wp2_with fail
  have R := Blk.new3 w 30 (.int .i64 0) (.int .i64 0) (.slice none 0 0)
  have hB : Below w.heap.size w (w.alloc (.cells #[.int .i64 0, .int .i64 0, .slice none 0 0] 30)) := by (repeat' first | exact Below.refl _ _ | assumption | apply Below.alloc | apply Below.drew | apply Below.setCell | omega | (simp; done) | (simp; omega))
  have hz0 : (w.alloc (.cells #[.int .i64 0, .int .i64 0, .slice none 0 0] 30)).heap.size = w.heap.size + 1 := by simp
  generalize w.alloc (.cells #[.int .i64 0, .int .i64 0, .slice none 0 0] 30) = w1 at R hB hz0 ⊢
  have hx1 := hx.below hB
  clear g0 g1 g2
  refine (l01Own_e hx1 (by omega)).mono ?_
  rintro f w3 ⟨s3, c3, rfl, hf, hb⟩
  replace hB := Below.on hB hb hB.size
  replace R := R.below hb
  have hz3 := hb.size
  -- the function's end: R the result's box, hB; h3 : Freshs W V .. (W below V), E1 : Hid (result = (Ex.mk k n ks))
  -- the result box w.heap.size of world w3 is set to an expression; goal: bodyPost. R : the box; Rests: hs5 : Spares, T2
  have r0 := R.c0
  have r1 := R.c1
  have r2 := R.c2
  have z0 := R.frozen 0
  have z1 := R.frozen 1
  have z2 := R.frozen 2
  have ltR := R.lt
  go_wp2_with fail
  have T2 := ((R.set 0 (.int .i64 (Ex.mk k n ks).kind)).set 1 (.int .i64 (Ex.mk k n ks).num)).set 2 (.slice s3 (Ex.mk k n ks).kids.length c3)
  have hs5 : Spares (fun y => y = w.heap.size) w3 (((w3.setCell ⟨w.heap.size, 0, none⟩ (.int .i64 (Ex.mk k n ks).kind)).setCell ⟨w.heap.size, 1, none⟩ (.int .i64 (Ex.mk k n ks).num)).setCell ⟨w.heap.size, 2, none⟩ (.slice s3 (Ex.mk k n ks).kids.length c3)) := Spares.set (Spares.set (Spares.set (Spares.refl w3)))
  generalize (((w3.setCell ⟨w.heap.size, 0, none⟩ (.int .i64 (Ex.mk k n ks).kind)).setCell ⟨w.heap.size, 1, none⟩ (.int .i64 (Ex.mk k n ks).num)).setCell ⟨w.heap.size, 2, none⟩ (.slice s3 (Ex.mk k n ks).kids.length c3)) = w5 at T2 hs5 ⊢
  have t0 := T2.c0
  have t1 := T2.c1
  have t2 := T2.c2
  have hzB5 := hB.size
  have hB5 := hB.trans (hs5.below (B := w.heap.size) (by omega) (fun y hy => by omega))
  refine bodyPost_ret (v := .agg #[.int .i64 (Ex.mk k n ks).kind, .int .i64 (Ex.mk k n ks).num, .slice s3 (Ex.mk k n ks).kids.length c3]) (by simp [results, Tryz.results77, go_sem, t0, t1, t2]) rfl ?_
  rw [E1.out]
  exact ⟨_, _, rfl, Freshs.from (Freshs.keep hf (fun y _ hy2 => hs5.block y hy2 (by omega))) (by omega), hB5⟩
end Go.Proofs.YtjlmdhoajfdkbaaGreatDoor
