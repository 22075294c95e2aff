/-
  Parts of a proof, joined: DerS, DerUS, DerU, StP, FindS, StQ, Nest, Bun, BunP, MapL, InfoA, StI, StS, CopyS, StT, MarkE, Sz. No condition.
-/
import Derived.Lib.AppendStr
import Derived.WalkKit
import Derived.ProofKit
import Derived.OpenShut
import Derived.ChangeSame
import Derived.Carry
import Derived.Deep.Slices
import Derived.Deep.LoopGhost
import Derived.Deep.DeepFit
import Derived.Deep.DeepMust
import Derived.Deep.RegionWith
import Derived.Deep.RegionHeld3
import Derived.Deep.QuietTactic
import Derived.BigQuiet
import Derived.WalkSpells
import Derived.WalkLawsBesides
import Derived.WalkSmall
import Derived.Lib.Hide
import Derived.Lib.QuietBelow
import Derived.Deep.CutRange
import Derived.Shelf.Strings.Builder1
import Derived.Shelf.Small.Bits
import Derived.Shelf.Small.Strs
import Derived.Shelf.Strings.BuilderF
import Derived.Shelf.Strings.BuilderK
import Derived.Shelf.Strconv.Itoa0
import Derived.Shelf.Strconv.Itoa1
import Derived.Shelf.LaysM
import Derived.Shelf.Strconv.Itoa2
import Derived.Shelf.Strconv.Itoa3
import Derived.Shelf.Strconv.Itoa4
import Derived.Shelf.Strings.BuilderCap
import Derived.Test.YtjlmdhoajfdkbaaGreatDoorProg
import Derived.Deep.AppendLies
import Derived.Shelf.SlGeneric
import Derived.Shelf.SlSortCmp.WholeK
import Derived.Ground.SlsfProg
import Derived.Maps.OwnOps
import Derived.DeepKeys4
import Derived.Test.YtjlmdhoajfdkbaaGreatDoorPk0
import Derived.Test.YtjlmdhoajfdkbaaGreatDoorPk1
import Derived.Test.YtjlmdhoajfdkbaaGreatDoorPk2
import Derived.Test.YtjlmdhoajfdkbaaGreatDoorPk3
import Derived.Test.YtjlmdhoajfdkbaaGreatDoorPk4
import Derived.Test.YtjlmdhoajfdkbaaGreatDoorPk5
namespace Go.Proofs.YtjlmdhoajfdkbaaGreatDoor
set_option linter.unusedVariables false
set_option linter.unusedSimpArgs false
open Go.ChangeShapes Go.WideShapes Go.ChangeAt Go.RowKit Go.Deep Go.Sort
def OutQ (w : World) (o : Option Ex) (f : Ending) (w' : World) : Prop := ∃ (y : Ex) (s' : Option Addr) (c' : Nat), f = .returned (.tuple #[.agg #[.int .i64 y.kind, .int .i64 y.num, .slice s' y.kids.length c'], .bool o.isSome]) ∧
  (∀ d, o = some d → y = d ∧ Freshs w w' [kidsD d.kids] [.slice s' d.kids.length c']) ∧ Below w.heap.size w w'
theorem l02Zero_v {w : World} : Calls Tryz.prog 123 #[] w fun f w' => f = .returned (.agg #[.int .i64 1, .int .i64 0, .slice none 0 0]) ∧ Below w.heap.size w w' := by
  go_enter Tryz.func123, Tryz.ntmps123
  go_wp2_with fail
  have T := (((Blk.new3 w 30 (.int .i64 0) (.int .i64 0) (.slice none 0 0)).set 0 (.int .i64 1)).set 1 (.int .i64 0)).set 2 (.slice none 0 0)
  have t0 := T.c0
  have t1 := T.c1
  have t2 := T.c2
  exact bodyPost_ret (v := .agg #[.int .i64 1, .int .i64 0, .slice none 0 0]) (by simp [results, Tryz.results123, go_sem, t0, t1, t2]) rfl ⟨rfl, by (repeat' first | exact Below.refl _ _ | assumption | apply Below.alloc | apply Below.drew | apply Below.setCell | omega | (simp; done) | (simp; omega))⟩
theorem l02Pair_x {X : Nat → Prop} {k : Int} {x y : Ex} {sx sy : Option Addr} {cx cy : Nat} {w : World} (hX : ∀ b, X b → b < w.heap.size) (hx : ExX X w x sx cx) (hy : ExX X w y sy cy) :
    Calls Tryz.prog 125 #[.int .i64 k, .agg #[.int .i64 x.kind, .int .i64 x.num, .slice sx x.kids.length cx], .agg #[.int .i64 y.kind, .int .i64 y.num, .slice sy y.kids.length cy]] w fun f w' => ∃ g, f = .returned (.agg #[.int .i64 k, .int .i64 0, .slice (some ⟨g, 0, none⟩) 2 2]) ∧
      RdX X w' (kidsD [x, y]) (.slice (some ⟨g, 0, none⟩) 2 2) ∧ Below w.heap.size w w' :=
  (l02Pair_i).mono fun _ _ ⟨g, h1, h2, h3, h4⟩ => ⟨g, h1, kidsD_two h3 (fun h => by have := hX g h; omega) (hx.below h4) (hy.below h4), h4⟩
set_option maxRecDepth 100000 in
set_option maxHeartbeats 8000000 in
theorem l02Step_all (tm am m x : Int) (ht2 : tm ≤ 2) (ha : am ≤ 8) (h0 : 0 ≤ m) (h7 : m ≤ 7) (N : Nat) : ∀ (e : Ex) (b o : Nat) (w : World), e.size ≤ N → ExAt w b o e → e.tree tm am = true → e.size ≤ 10000 →
    Calls Tryz.prog 65 #[.pointer (some ⟨b, o, none⟩), .int .i64 m, .int .i64 x] w (OutQ w (e.step m x)) := by
  have ht : tm ≤ 8 := by omega
  induction N using Nat.strongRecOn with
  | _ N ih =>
  intro e b o w hN hx hxt hsz1
  have HIH := Lib.hid ih
  clear ih
  have hlt := hx.lt
  obtain ⟨k, n, ks⟩ := e
  obtain ⟨hk, -, -, htl⟩ := tree_parts hxt
  by_cases h4 : k = 4
  · subst h4
    clear htl hk
    by_cases hn : n = x
    · have E1 : Hid ((Ex.mk 4 n ks).step m x = some (.leaf 2)) := by show _ = _; rw [Ex.step_act, if_pos hn]
      have cn : (n == x) = true := by simp [hn]
      clear hn
      obtain ⟨g0, g1, sx, cx, g2, g3⟩ := id hx
      simp only [Ex.kind_mk, Ex.num_mk, Ex.kids_mk] at g0 g1 g2
      skip
      have G0 := Lib.hid g0
      have G1 := Lib.hid g1
      have G2 := Lib.hid g2
      clear g0 g1 g2
      go_enter Tryz.func65, Tryz.ntmps65
      go_wp2_with fail
      have R := Blk.new3 w 30 (.int .i64 0) (.int .i64 0) (.slice none 0 0)
      have hB : Below w.heap.size w (w.alloc (.cells #[.int .i64 0, .int .i64 0, .slice none 0 0] 30)) := by (repeat' first | exact Below.refl _ _ | assumption | apply Below.alloc | apply Below.drew | apply Below.setCell | omega | (simp; done) | (simp; omega))
      have hz0 : (w.alloc (.cells #[.int .i64 0, .int .i64 0, .slice none 0 0] 30)).heap.size = w.heap.size + 1 := by simp
      generalize w.alloc (.cells #[.int .i64 0, .int .i64 0, .slice none 0 0] 30) = w1 at R hB hz0 ⊢
      refine (l02Zero_v).mono ?_
      rintro f w2 ⟨rfl, hb⟩
      replace hB := Below.on hB hb hB.size
      replace R := R.below hb
      clear hb
      have g0 := (hB.cell (p := ⟨b, o, none⟩) hlt).trans G0.out
      have g1 := (hB.cell (p := ⟨b, o + 1, none⟩) hlt).trans G1.out
      have g2 := (hB.cell (p := ⟨b, o + 2, none⟩) hlt).trans G2.out
      have hlt2 : b < w2.heap.size := by have := hB.size; omega
      have hz2 : w.heap.size < w2.heap.size := R.lt
      go_wp2_with fail
      refine (l02One_i).mono ?_
      rintro f w4 ⟨s4, c4, rfl, hf, hb⟩
      have hB' : Below w.heap.size w (w2.alloc (.cells #[.int .i64 1, .int .i64 0, .slice none 0 0] 30)) := hB.alloc (by omega) _
      have R' := R.alloc (.cells #[.int .i64 1, .int .i64 0, .slice none 0 0] 30)
      have hz3 : (w2.alloc (.cells #[.int .i64 1, .int .i64 0, .slice none 0 0] 30)).heap.size = w2.heap.size + 1 := by simp
      replace hB := Below.on hB' hb hB'.size
      replace R := R'.below hb
      clear hB' R' g0 g1 g2
      have r0 := R.c0
      have r1 := R.c1
      have r2 := R.c2
      have z0 := R.frozen 0
      have z1 := R.frozen 1
      have z2 := R.frozen 2
      have ltR := R.lt
      go_wp2_with fail
      have T2 := ((R.set 0 (.int .i64 (Ex.leaf 2).kind)).set 1 (.int .i64 (Ex.leaf 2).num)).set 2 (.slice s4 (Ex.leaf 2).kids.length c4)
      have hs5 : Spares (fun y => y = w.heap.size) w4 (((w4.setCell ⟨w.heap.size, 0, none⟩ (.int .i64 (Ex.leaf 2).kind)).setCell ⟨w.heap.size, 1, none⟩ (.int .i64 (Ex.leaf 2).num)).setCell ⟨w.heap.size, 2, none⟩ (.slice s4 (Ex.leaf 2).kids.length c4)) := Spares.set (Spares.set (Spares.set (Spares.refl w4)))
      generalize (((w4.setCell ⟨w.heap.size, 0, none⟩ (.int .i64 (Ex.leaf 2).kind)).setCell ⟨w.heap.size, 1, none⟩ (.int .i64 (Ex.leaf 2).num)).setCell ⟨w.heap.size, 2, none⟩ (.slice s4 (Ex.leaf 2).kids.length c4)) = w5 at T2 hs5 ⊢
      have t0 := T2.c0
      have t1 := T2.c1
      have t2 := T2.c2
      have hzB5 := hB.size
      have hB5 := hB.trans (hs5.below (B := w.heap.size) (by omega) (fun y hy => by omega))
      refine bodyPost_ret (v := .tuple #[.agg #[.int .i64 (Ex.leaf 2).kind, .int .i64 (Ex.leaf 2).num, .slice s4 (Ex.leaf 2).kids.length c4], .bool true]) (by simp [results, Tryz.results65, go_sem, t0, t1, t2]) rfl ?_
      rw [E1.out]
      exact ⟨_, _, _, rfl, fun d hd => by obtain rfl := Option.some.inj hd; exact ⟨rfl, Freshs.from (Freshs.keep hf (fun y _ hy2 => hs5.block y hy2 (by omega))) (by omega)⟩, hB5⟩
    · have E1 : Hid ((Ex.mk 4 n ks).step m x = some (.leaf 1)) := by show _ = _; rw [Ex.step_act, if_neg hn]
      have cn : (n == x) = false := by simp [hn]
      clear hn
      -- the raw value is returned at once
      obtain ⟨g0, g1, sx, cx, g2, g3⟩ := id hx
      simp only [Ex.kind_mk, Ex.num_mk, Ex.kids_mk] at g0 g1 g2
      skip
      have G0 := Lib.hid g0
      have G1 := Lib.hid g1
      have G2 := Lib.hid g2
      clear g0 g1 g2
      go_enter Tryz.func65, Tryz.ntmps65
      go_wp2_with fail
      have R := Blk.new3 w 30 (.int .i64 0) (.int .i64 0) (.slice none 0 0)
      have hB : Below w.heap.size w (w.alloc (.cells #[.int .i64 0, .int .i64 0, .slice none 0 0] 30)) := by (repeat' first | exact Below.refl _ _ | assumption | apply Below.alloc | apply Below.drew | apply Below.setCell | omega | (simp; done) | (simp; omega))
      have hz0 : (w.alloc (.cells #[.int .i64 0, .int .i64 0, .slice none 0 0] 30)).heap.size = w.heap.size + 1 := by simp
      generalize w.alloc (.cells #[.int .i64 0, .int .i64 0, .slice none 0 0] 30) = w1 at R hB hz0 ⊢
      refine (l02Zero_v).mono ?_
      rintro f w2 ⟨rfl, hb⟩
      replace hB := Below.on hB hb hB.size
      replace R := R.below hb
      clear hb
      have g0 := (hB.cell (p := ⟨b, o, none⟩) hlt).trans G0.out
      have g1 := (hB.cell (p := ⟨b, o + 1, none⟩) hlt).trans G1.out
      have g2 := (hB.cell (p := ⟨b, o + 2, none⟩) hlt).trans G2.out
      have hlt2 : b < w2.heap.size := by have := hB.size; omega
      have hz2 : w.heap.size < w2.heap.size := R.lt
      have r0 := R.c0
      have r1 := R.c1
      have r2 := R.c2
      have z0 := R.frozen 0
      have z1 := R.frozen 1
      have z2 := R.frozen 2
      have ltR := R.lt
      go_wp2_with fail
      have T2 := (((R.set 0 (.int .i64 1)).set 1 (.int .i64 0)).set 2 (.slice none 0 0)).alloc (.cells #[.int .i64 1, .int .i64 0, .slice none 0 0] 30)
      have hs5 : Spares (fun y => y = w.heap.size) w2 ((((w2.setCell ⟨w.heap.size, 0, none⟩ (.int .i64 1)).setCell ⟨w.heap.size, 1, none⟩ (.int .i64 0)).setCell ⟨w.heap.size, 2, none⟩ (.slice none 0 0)).alloc (.cells #[.int .i64 1, .int .i64 0, .slice none 0 0] 30)) := (Spares.set (Spares.set (Spares.set (Spares.refl w2)))).trans (Spares.of_below (Below.alloc (Below.refl _ _) (Nat.le_refl _) _))
      generalize (((w2.setCell ⟨w.heap.size, 0, none⟩ (.int .i64 1)).setCell ⟨w.heap.size, 1, none⟩ (.int .i64 0)).setCell ⟨w.heap.size, 2, none⟩ (.slice none 0 0)).alloc (.cells #[.int .i64 1, .int .i64 0, .slice none 0 0] 30) = w5 at T2 hs5 ⊢
      have t0 := T2.c0
      have t1 := T2.c1
      have t2 := T2.c2
      have hzB5 := hB.size
      have hB5 := hB.trans (hs5.below (B := w.heap.size) (by omega) (fun y hy => by omega))
      refine bodyPost_ret (v := .tuple #[.agg #[.int .i64 1, .int .i64 0, .slice none 0 0], .bool true]) (by simp [results, Tryz.results65, go_sem, t0, t1, t2]) rfl ?_
      rw [E1.out]
      exact ⟨.leaf 1, none, 0, rfl, fun d hd => by obtain rfl := Option.some.inj hd; exact ⟨rfl, nil_freshs⟩, hB5⟩
  have c4 : (k == 4) = false := by simp [h4]
  by_cases h6 : k = 6
  · subst h6
    obtain ⟨u, v, rfl⟩ := two_kids hk (Or.inl rfl)
    have hsz := Ex.size_eq (.mk 6 n [u, v])
    simp only [Ex.sizeL, Ex.kids_mk] at hsz
    have hut : u.tree tm am = true := Ex.treeL_mem htl (by simp)
    have hvt : v.tree tm am = true := Ex.treeL_mem htl (by simp)
    obtain ⟨o1, Ho1⟩ : ∃ o, Hid (o = u.step m x) := ⟨_, rfl⟩
    obtain ⟨o2, Ho2⟩ : ∃ o, Hid (o = v.step m x) := ⟨_, rfl⟩
    have E0 : Hid ((Ex.mk 6 n [u, v]).step m x = o1.bind fun p => o2.bind fun q => limE (.two 6 p q)) := by show _ = _; rw [Ho1.out, Ho2.out]; exact Ex.step_sum
    clear htl hk c4 h4
    obtain ⟨g0, g1, sx, cx, g2, g3⟩ := id hx
    simp only [Ex.kind_mk, Ex.num_mk, Ex.kids_mk] at g0 g1 g2
    obtain ⟨kb, ko, rfl⟩ := kid_some g3 (by simp [Ex.kids])
    have hu : ExAt w kb ko u := by have := kid_exAt g3 (i := 0) (e := u) rfl; simpa using this
    obtain ⟨-, hlen, hcap, -, -⟩ := kid_at g3
    unfold maxLen at hcap
    simp only [List.length_cons, List.length_nil, Nat.zero_add, Nat.reduceAdd] at g2 hlen hcap
    have G0 := Lib.hid g0
    have G1 := Lib.hid g1
    have G2 := Lib.hid g2
    clear g0 g1 g2
    go_enter Tryz.func65, Tryz.ntmps65
    go_wp2_with fail
    have R := Blk.new3 w 30 (.int .i64 0) (.int .i64 0) (.slice none 0 0)
    have hB : Below w.heap.size w (w.alloc (.cells #[.int .i64 0, .int .i64 0, .slice none 0 0] 30)) := by (repeat' first | exact Below.refl _ _ | assumption | apply Below.alloc | apply Below.drew | apply Below.setCell | omega | (simp; done) | (simp; omega))
    have hz0 : (w.alloc (.cells #[.int .i64 0, .int .i64 0, .slice none 0 0] 30)).heap.size = w.heap.size + 1 := by simp
    generalize w.alloc (.cells #[.int .i64 0, .int .i64 0, .slice none 0 0] 30) = w1 at R hB hz0 ⊢
    refine (l02Zero_v).mono ?_
    rintro f w2 ⟨rfl, hb⟩
    replace hB := Below.on hB hb hB.size
    replace R := R.below hb
    clear hb
    have g0 := (hB.cell (p := ⟨b, o, none⟩) hlt).trans G0.out
    have g1 := (hB.cell (p := ⟨b, o + 1, none⟩) hlt).trans G1.out
    have g2 := (hB.cell (p := ⟨b, o + 2, none⟩) hlt).trans G2.out
    have hlt2 : b < w2.heap.size := by have := hB.size; omega
    have hz2 : w.heap.size < w2.heap.size := R.lt
    have hv : ExAt w kb (ko + 3) v := by have := kid_exAt g3 (i := 1) (e := v) rfl; simpa using this
    -- the walk stands at the first call; the raw box q
    go_wp2_with fail
    clear g0 g1 g2
    have Q := Blk.new3 w2 30 (.int .i64 1) (.int .i64 0) (.slice none 0 0)
    have hb3 : Below w2.heap.size w2 (w2.alloc (.cells #[.int .i64 1, .int .i64 0, .slice none 0 0] 30)) := by (repeat' first | exact Below.refl _ _ | assumption | apply Below.alloc | apply Below.drew | apply Below.setCell | omega | (simp; done) | (simp; omega))
    generalize w2.alloc (.cells #[.int .i64 1, .int .i64 0, .slice none 0 0] 30) = w3 at Q hb3 ⊢
    replace hB := Below.on hB hb3 hB.size
    replace R := R.below hb3
    obtain ⟨q, hq⟩ : ∃ q, w2.heap.size = q := ⟨_, rfl⟩
    rw [hq] at Q hz2
    simp only [hq]
    clear hb3 hq hlt2
    refine (HIH.out u.size (by omega) u _ _ _ (Nat.le_refl _) (hu.below hB) hut (by omega)).mono ?_
    rintro f w4 ⟨y1, s1, c1, rfl, hy1, hb4⟩
    rw [← Ho1.out] at hy1 ⊢
    have hz3 := Q.lt
    replace hB := Below.on hB hb4 hB.size
    replace R := R.below hb4
    replace Q := Q.below hb4
    have g2 := (hB.cell (p := ⟨b, o + 2, none⟩) hlt).trans G2.out
    have hlt4 : b < w4.heap.size := by have := hB.size; omega
    go_wp2_with fail
    clear g2
    have A := Blk.new3 w4 30 (.int .i64 y1.kind) (.int .i64 y1.num) (.slice s1 y1.kids.length c1)
    have hb5 : Below w4.heap.size w4 (w4.alloc (.cells #[.int .i64 y1.kind, .int .i64 y1.num, .slice s1 y1.kids.length c1] 30)) := by (repeat' first | exact Below.refl _ _ | assumption | apply Below.alloc | apply Below.drew | apply Below.setCell | omega | (simp; done) | (simp; omega))
    generalize w4.alloc (.cells #[.int .i64 y1.kind, .int .i64 y1.num, .slice s1 y1.kids.length c1] 30) = w5 at A hb5 ⊢
    replace hB := Below.on hB hb5 hB.size
    replace R := R.below hb5
    replace Q := Q.below hb5
    refine (HIH.out v.size (by omega) v _ _ _ (Nat.le_refl _) (hv.below hB) hvt (by omega)).mono ?_
    rintro f w6 ⟨y2, s2, c2, rfl, hy2, hb6⟩
    rw [← Ho2.out] at hy2 ⊢
    replace hB := Below.on hB hb6 hB.size
    replace R := R.below hb6
    replace Q := Q.below hb6
    replace A := A.below hb6
    have hz5 := hb5.size
    cases o1 with
    | none =>
      have i1 : (none : Option Ex).isSome = false := rfl
      have E1 : Hid ((Ex.mk 6 n [u, v]).step m x = none) := E0
      clear hy1 hy2
      cases o2 with
      | none =>
        have i2 : (none : Option Ex).isSome = false := rfl
        -- a part has no derivative; the world is w6.alloc .int .i64 y2.kind, .int .i64 y2.num, .slice s2 y2.kids.length c2; the raw box holds 1, 0, nil
        have q0 := Q.c0
        have q1 := Q.c1
        have q2 := Q.c2
        have ltQ := Q.lt
        have r0 := R.c0
        have r1 := R.c1
        have r2 := R.c2
        have z0 := R.frozen 0
        have z1 := R.frozen 1
        have z2 := R.frozen 2
        have ltR := R.lt
        go_wp2_with fail
        have T2 := (((R.set 0 (.int .i64 1)).set 1 (.int .i64 0)).set 2 (.slice none 0 0)).alloc (.cells #[.int .i64 y2.kind, .int .i64 y2.num, .slice s2 y2.kids.length c2] 30)
        have hs5 : Spares (fun y => y = w.heap.size) w6 ((((w6.setCell ⟨w.heap.size, 0, none⟩ (.int .i64 1)).setCell ⟨w.heap.size, 1, none⟩ (.int .i64 0)).setCell ⟨w.heap.size, 2, none⟩ (.slice none 0 0)).alloc (.cells #[.int .i64 y2.kind, .int .i64 y2.num, .slice s2 y2.kids.length c2] 30)) := (Spares.set (Spares.set (Spares.set (Spares.refl w6)))).trans (Spares.of_below (Below.alloc (Below.refl _ _) (Nat.le_refl _) _))
        generalize (((w6.setCell ⟨w.heap.size, 0, none⟩ (.int .i64 1)).setCell ⟨w.heap.size, 1, none⟩ (.int .i64 0)).setCell ⟨w.heap.size, 2, none⟩ (.slice none 0 0)).alloc (.cells #[.int .i64 y2.kind, .int .i64 y2.num, .slice s2 y2.kids.length c2] 30) = w5 at T2 hs5 ⊢
        have t0 := T2.c0
        have t1 := T2.c1
        have t2 := T2.c2
        have hzB5 := hB.size
        have hB5 := hB.trans (hs5.below (B := w.heap.size) (by omega) (fun y hy => by omega))
        refine bodyPost_ret (v := .tuple #[.agg #[.int .i64 1, .int .i64 0, .slice none 0 0], .bool false]) (by simp [results, Tryz.results65, go_sem, t0, t1, t2]) rfl ?_
        rw [E1.out]
        exact ⟨.leaf 1, _, _, rfl, (fun d hd => by cases hd), hB5⟩
      | some q' =>
        have i2 : (some q').isSome = true := rfl
        -- a part has no derivative; the world is w6.alloc .int .i64 y2.kind, .int .i64 y2.num, .slice s2 y2.kids.length c2; the raw box holds 1, 0, nil
        have q0 := Q.c0
        have q1 := Q.c1
        have q2 := Q.c2
        have ltQ := Q.lt
        have r0 := R.c0
        have r1 := R.c1
        have r2 := R.c2
        have z0 := R.frozen 0
        have z1 := R.frozen 1
        have z2 := R.frozen 2
        have ltR := R.lt
        go_wp2_with fail
        have T2 := (((R.set 0 (.int .i64 1)).set 1 (.int .i64 0)).set 2 (.slice none 0 0)).alloc (.cells #[.int .i64 y2.kind, .int .i64 y2.num, .slice s2 y2.kids.length c2] 30)
        have hs5 : Spares (fun y => y = w.heap.size) w6 ((((w6.setCell ⟨w.heap.size, 0, none⟩ (.int .i64 1)).setCell ⟨w.heap.size, 1, none⟩ (.int .i64 0)).setCell ⟨w.heap.size, 2, none⟩ (.slice none 0 0)).alloc (.cells #[.int .i64 y2.kind, .int .i64 y2.num, .slice s2 y2.kids.length c2] 30)) := (Spares.set (Spares.set (Spares.set (Spares.refl w6)))).trans (Spares.of_below (Below.alloc (Below.refl _ _) (Nat.le_refl _) _))
        generalize (((w6.setCell ⟨w.heap.size, 0, none⟩ (.int .i64 1)).setCell ⟨w.heap.size, 1, none⟩ (.int .i64 0)).setCell ⟨w.heap.size, 2, none⟩ (.slice none 0 0)).alloc (.cells #[.int .i64 y2.kind, .int .i64 y2.num, .slice s2 y2.kids.length c2] 30) = w5 at T2 hs5 ⊢
        have t0 := T2.c0
        have t1 := T2.c1
        have t2 := T2.c2
        have hzB5 := hB.size
        have hB5 := hB.trans (hs5.below (B := w.heap.size) (by omega) (fun y hy => by omega))
        refine bodyPost_ret (v := .tuple #[.agg #[.int .i64 1, .int .i64 0, .slice none 0 0], .bool false]) (by simp [results, Tryz.results65, go_sem, t0, t1, t2]) rfl ?_
        rw [E1.out]
        exact ⟨.leaf 1, _, _, rfl, (fun d hd => by cases hd), hB5⟩
    | some p =>
    have i1 : (some p).isSome = true := rfl
    obtain ⟨rfl, hf1⟩ := hy1 p rfl
    cases o2 with
    | none =>
      have i2 : (none : Option Ex).isSome = false := rfl
      have E1 : Hid ((Ex.mk 6 n [u, v]).step m x = none) := E0
      clear hy1 hy2
      -- a part has no derivative; the world is w6.alloc .int .i64 y2.kind, .int .i64 y2.num, .slice s2 y2.kids.length c2; the raw box holds 1, 0, nil
      have q0 := Q.c0
      have q1 := Q.c1
      have q2 := Q.c2
      have ltQ := Q.lt
      have r0 := R.c0
      have r1 := R.c1
      have r2 := R.c2
      have z0 := R.frozen 0
      have z1 := R.frozen 1
      have z2 := R.frozen 2
      have ltR := R.lt
      go_wp2_with fail
      have T2 := (((R.set 0 (.int .i64 1)).set 1 (.int .i64 0)).set 2 (.slice none 0 0)).alloc (.cells #[.int .i64 y2.kind, .int .i64 y2.num, .slice s2 y2.kids.length c2] 30)
      have hs5 : Spares (fun y => y = w.heap.size) w6 ((((w6.setCell ⟨w.heap.size, 0, none⟩ (.int .i64 1)).setCell ⟨w.heap.size, 1, none⟩ (.int .i64 0)).setCell ⟨w.heap.size, 2, none⟩ (.slice none 0 0)).alloc (.cells #[.int .i64 y2.kind, .int .i64 y2.num, .slice s2 y2.kids.length c2] 30)) := (Spares.set (Spares.set (Spares.set (Spares.refl w6)))).trans (Spares.of_below (Below.alloc (Below.refl _ _) (Nat.le_refl _) _))
      generalize (((w6.setCell ⟨w.heap.size, 0, none⟩ (.int .i64 1)).setCell ⟨w.heap.size, 1, none⟩ (.int .i64 0)).setCell ⟨w.heap.size, 2, none⟩ (.slice none 0 0)).alloc (.cells #[.int .i64 y2.kind, .int .i64 y2.num, .slice s2 y2.kids.length c2] 30) = w5 at T2 hs5 ⊢
      have t0 := T2.c0
      have t1 := T2.c1
      have t2 := T2.c2
      have hzB5 := hB.size
      have hB5 := hB.trans (hs5.below (B := w.heap.size) (by omega) (fun y hy => by omega))
      refine bodyPost_ret (v := .tuple #[.agg #[.int .i64 1, .int .i64 0, .slice none 0 0], .bool false]) (by simp [results, Tryz.results65, go_sem, t0, t1, t2]) rfl ?_
      rw [E1.out]
      exact ⟨.leaf 1, _, _, rfl, (fun d hd => by cases hd), hB5⟩
    | some p2 =>
    have i2 : (some p2).isSome = true := rfl
    obtain ⟨rfl, hf2⟩ := hy2 p2 rfl
    have E1 : Hid ((Ex.mk 6 n [u, v]).step m x = limE (.two 6 y1 y2)) := E0
    obtain ⟨hp1, hp2⟩ := step_spec tm am m x _ u y1 (Nat.le_refl _) hut Ho1.out.symm
    obtain ⟨hq1, hq2⟩ := step_spec tm am m x _ v y2 (Nat.le_refl _) hvt Ho2.out.symm
    have hz4 := hb4.size
    have hdx4 : ExX (fun b => b = q) w4 y1 s1 c1 := RdX.fresh hf1 (fun b h => by omega)
    have hdy6 : ExX (fun b => b = q) w6 y2 s2 c2 := RdX.fresh hf2 (fun b h => by omega)
    have a0 := A.c0
    have a1 := A.c1
    have a2 := A.c2
    have ltA := A.lt
    clear hy1 hy2 hf1 hf2
    go_wp2_with fail
    clear a0 a1 a2 ltA
    have hb7 : Below w6.heap.size w6 (w6.alloc (.cells #[.int .i64 y2.kind, .int .i64 y2.num, .slice s2 y2.kids.length c2] 30)) := by (repeat' first | exact Below.refl _ _ | assumption | apply Below.alloc | apply Below.drew | apply Below.setCell | omega | (simp; done) | (simp; omega))
    generalize w6.alloc (.cells #[.int .i64 y2.kind, .int .i64 y2.num, .slice s2 y2.kids.length c2] 30) = w7 at hb7 ⊢
    have hdx := ((hdx4.below hb5).below hb6).below hb7
    have hdy := hdy6.below hb7
    replace hB := Below.on hB hb7 hB.size
    replace R := R.below hb7
    replace Q := Q.below hb7
    clear hdx4 hdy6 A hb4 hb5 hb6 hb7 i1 i2 hz5 E0
    -- the call of l02Pair and the store to the raw box; world $V; hdx, hdy : what is read
    refine (l02Pair_x (X := fun b => b = q) (fun b h => by have := Q.lt; omega) hdx hdy).mono ?_
    rintro f w8 ⟨gr, rfl, hr, hb8⟩
    replace hB := Below.on hB hb8 hB.size
    replace R := R.below hb8
    replace Q := Q.below hb8
    have q0 := Q.c0
    have q1 := Q.c1
    have q2 := Q.c2
    have z0 := Q.frozen 0
    have z1 := Q.frozen 1
    have z2 := Q.frozen 2
    have ltQ := Q.lt
    go_wp2_with fail
    clear q0 q1 q2 z0 z1 z2
    have hs8 : Spares (fun y => y = q) w8 (((w8.setCell ⟨q, 0, none⟩ (.int .i64 6)).setCell ⟨q, 1, none⟩ (.int .i64 0)).setCell ⟨q, 2, none⟩ (.slice (some ⟨gr, 0, none⟩) 2 2)) := Spares.set (Spares.set (Spares.set (Spares.refl w8)))
    replace Q := ((Q.set 0 (.int .i64 6)).set 1 (.int .i64 0)).set 2 (.slice (some ⟨gr, 0, none⟩) 2 2)
    generalize (((w8.setCell ⟨q, 0, none⟩ (.int .i64 6)).setCell ⟨q, 1, none⟩ (.int .i64 0)).setCell ⟨q, 2, none⟩ (.slice (some ⟨gr, 0, none⟩) 2 2)) = w9 at Q hs8 ⊢
    replace R := R.keep (hs8.block _ R.lt (by omega))
    replace hB := hB.trans (hs8.below (B := w.heap.size) hB.size (fun y hy => by omega))
    have hk2 : RdX (fun b => b = q) w9 (kidsD [y1, y2]) (.slice (some ⟨gr, 0, none⟩) 2 2) := RdX.keep hr (KeptX.of_spares hs8 (fun b _ h => h))
    clear hr hb8 ltQ
    have hk := hk2.rd
    -- goal: what stands behind the store to the raw box; world w9; Q : the raw box holds two K X Y; hk : its kids are read; E1 : the result is limE (two K X Y)
    have hat : ExAt w9 q 0 (.two 6 y1 y2) := Q.exAt hk
    have hsz9 : (Ex.two 6 y1 y2).size ≤ 90000 := by rw [size_two]; omega
    refine (l01Size_all _ _ _ _ _ (Nat.le_refl _) hat (by omega)).mono ?_
    rintro f w10 ⟨rfl, rfl⟩
    clear hk
    by_cases h8 : (Ex.two 6 y1 y2).size ≤ 800
    · have c8 : ¬ (((Ex.two 6 y1 y2).size : Int) > 800) := by omega
      have E2 : Hid (limE (.two 6 y1 y2) = some (Ex.two 6 y1 y2).tidy) := by show _ = _; unfold limE; rw [if_pos h8]
      go_wp2_with fail
      refine (l02Tidy_all tm am ht ha _ _ _ _ _ (Nat.le_refl _) hat (tree_two (Or.inl rfl) hp1 hq1) hsz9).mono ?_
      rintro f w11 ⟨s11, c11, rfl, hf, hb⟩
      have hzw := R.lt
      replace hB := Below.on hB hb hB.size
      replace R := R.below hb
      clear c8 h8 hsz9
      have r0 := R.c0
      have r1 := R.c1
      have r2 := R.c2
      have z0 := R.frozen 0
      have z1 := R.frozen 1
      have z2 := R.frozen 2
      have ltR := R.lt
      go_wp2_with fail
      have T2 := ((R.set 0 (.int .i64 (Ex.two 6 y1 y2).tidy.kind)).set 1 (.int .i64 (Ex.two 6 y1 y2).tidy.num)).set 2 (.slice s11 (Ex.two 6 y1 y2).tidy.kids.length c11)
      have hs5 : Spares (fun y => y = w.heap.size) w11 (((w11.setCell ⟨w.heap.size, 0, none⟩ (.int .i64 (Ex.two 6 y1 y2).tidy.kind)).setCell ⟨w.heap.size, 1, none⟩ (.int .i64 (Ex.two 6 y1 y2).tidy.num)).setCell ⟨w.heap.size, 2, none⟩ (.slice s11 (Ex.two 6 y1 y2).tidy.kids.length c11)) := Spares.set (Spares.set (Spares.set (Spares.refl w11)))
      generalize (((w11.setCell ⟨w.heap.size, 0, none⟩ (.int .i64 (Ex.two 6 y1 y2).tidy.kind)).setCell ⟨w.heap.size, 1, none⟩ (.int .i64 (Ex.two 6 y1 y2).tidy.num)).setCell ⟨w.heap.size, 2, none⟩ (.slice s11 (Ex.two 6 y1 y2).tidy.kids.length c11)) = w5 at T2 hs5 ⊢
      have t0 := T2.c0
      have t1 := T2.c1
      have t2 := T2.c2
      have hzB5 := hB.size
      have hB5 := hB.trans (hs5.below (B := w.heap.size) (by omega) (fun y hy => by omega))
      refine bodyPost_ret (v := .tuple #[.agg #[.int .i64 (Ex.two 6 y1 y2).tidy.kind, .int .i64 (Ex.two 6 y1 y2).tidy.num, .slice s11 (Ex.two 6 y1 y2).tidy.kids.length c11], .bool true]) (by simp [results, Tryz.results65, go_sem, t0, t1, t2]) rfl ?_
      rw [E1.out, E2.out]
      exact ⟨_, _, _, rfl, fun d hd => by
        obtain rfl := Option.some.inj hd
        exact ⟨rfl, Freshs.from (Freshs.keep hf (fun y _ hy2 => hs5.block y hy2 (by omega))) (Nat.le_of_lt hzw)⟩, hB5⟩
    · have c8 : ((Ex.two 6 y1 y2).size : Int) > 800 := by omega
      have E2 : Hid (limE (.two 6 y1 y2) = none) := by show _ = _; unfold limE; rw [if_neg h8]
      have q0 := Q.c0
      have q1 := Q.c1
      have q2 := Q.c2
      have ltQ := Q.lt
      clear hat hsz9
      have r0 := R.c0
      have r1 := R.c1
      have r2 := R.c2
      have z0 := R.frozen 0
      have z1 := R.frozen 1
      have z2 := R.frozen 2
      have ltR := R.lt
      go_wp2_with fail
      have T2 := ((R.set 0 (.int .i64 6)).set 1 (.int .i64 0)).set 2 (.slice (some ⟨gr, 0, none⟩) 2 2)
      have hs5 : Spares (fun y => y = w.heap.size) w9 (((w9.setCell ⟨w.heap.size, 0, none⟩ (.int .i64 6)).setCell ⟨w.heap.size, 1, none⟩ (.int .i64 0)).setCell ⟨w.heap.size, 2, none⟩ (.slice (some ⟨gr, 0, none⟩) 2 2)) := Spares.set (Spares.set (Spares.set (Spares.refl w9)))
      generalize (((w9.setCell ⟨w.heap.size, 0, none⟩ (.int .i64 6)).setCell ⟨w.heap.size, 1, none⟩ (.int .i64 0)).setCell ⟨w.heap.size, 2, none⟩ (.slice (some ⟨gr, 0, none⟩) 2 2)) = w5 at T2 hs5 ⊢
      have t0 := T2.c0
      have t1 := T2.c1
      have t2 := T2.c2
      have hzB5 := hB.size
      have hB5 := hB.trans (hs5.below (B := w.heap.size) (by omega) (fun y hy => by omega))
      refine bodyPost_ret (v := .tuple #[.agg #[.int .i64 6, .int .i64 0, .slice (some ⟨gr, 0, none⟩) 2 2], .bool false]) (by simp [results, Tryz.results65, go_sem, t0, t1, t2]) rfl ?_
      rw [E1.out, E2.out]
      exact ⟨.two 6 y1 y2, _, _, rfl, (fun d hd => by cases hd), hB5⟩
  have c6 : (k == 6) = false := by simp [h6]
  by_cases h7' : k = 7
  · subst h7'
    obtain ⟨u, v, rfl⟩ := two_kids hk (Or.inr rfl)
    have hsz := Ex.size_eq (.mk 7 n [u, v])
    simp only [Ex.sizeL, Ex.kids_mk] at hsz
    have hut : u.tree tm am = true := Ex.treeL_mem htl (by simp)
    have hvt : v.tree tm am = true := Ex.treeL_mem htl (by simp)
    obtain ⟨o1, Ho1⟩ : ∃ o, Hid (o = u.step m x) := ⟨_, rfl⟩
    obtain ⟨o2, Ho2⟩ : ∃ o, Hid (o = v.step m x) := ⟨_, rfl⟩
    have E0 : Hid ((Ex.mk 7 n [u, v]).step m x = o1.bind fun p => if u.emp m = true then o2.bind fun q => limE (.two 6 (.two 7 p v) q) else limE (.two 7 p v)) := by show _ = _; rw [Ho1.out, Ho2.out]; exact Ex.step_dot
    clear htl hk c4 h4 h6 c6
    obtain ⟨g0, g1, sx, cx, g2, g3⟩ := id hx
    simp only [Ex.kind_mk, Ex.num_mk, Ex.kids_mk] at g0 g1 g2
    obtain ⟨kb, ko, rfl⟩ := kid_some g3 (by simp [Ex.kids])
    have hu : ExAt w kb ko u := by have := kid_exAt g3 (i := 0) (e := u) rfl; simpa using this
    obtain ⟨-, hlen, hcap, -, -⟩ := kid_at g3
    unfold maxLen at hcap
    simp only [List.length_cons, List.length_nil, Nat.zero_add, Nat.reduceAdd] at g2 hlen hcap
    have G0 := Lib.hid g0
    have G1 := Lib.hid g1
    have G2 := Lib.hid g2
    clear g0 g1 g2
    go_enter Tryz.func65, Tryz.ntmps65
    go_wp2_with fail
    have R := Blk.new3 w 30 (.int .i64 0) (.int .i64 0) (.slice none 0 0)
    have hB : Below w.heap.size w (w.alloc (.cells #[.int .i64 0, .int .i64 0, .slice none 0 0] 30)) := by (repeat' first | exact Below.refl _ _ | assumption | apply Below.alloc | apply Below.drew | apply Below.setCell | omega | (simp; done) | (simp; omega))
    have hz0 : (w.alloc (.cells #[.int .i64 0, .int .i64 0, .slice none 0 0] 30)).heap.size = w.heap.size + 1 := by simp
    generalize w.alloc (.cells #[.int .i64 0, .int .i64 0, .slice none 0 0] 30) = w1 at R hB hz0 ⊢
    refine (l02Zero_v).mono ?_
    rintro f w2 ⟨rfl, hb⟩
    replace hB := Below.on hB hb hB.size
    replace R := R.below hb
    clear hb
    have g0 := (hB.cell (p := ⟨b, o, none⟩) hlt).trans G0.out
    have g1 := (hB.cell (p := ⟨b, o + 1, none⟩) hlt).trans G1.out
    have g2 := (hB.cell (p := ⟨b, o + 2, none⟩) hlt).trans G2.out
    have hlt2 : b < w2.heap.size := by have := hB.size; omega
    have hz2 : w.heap.size < w2.heap.size := R.lt
    have hv : ExAt w kb (ko + 3) v := by have := kid_exAt g3 (i := 1) (e := v) rfl; simpa using this
    obtain ⟨v0, v1, sv, cv, v2, hvr⟩ := id hv
    have V0 := Lib.hid v0
    have V1 := Lib.hid v1
    have V2 := Lib.hid v2
    have hkb : kb < w.heap.size := hu.lt
    clear v0 v1 v2
    -- the walk stands at the first call; the raw box q
    go_wp2_with fail
    clear g0 g1 g2
    have Q := Blk.new3 w2 30 (.int .i64 1) (.int .i64 0) (.slice none 0 0)
    have hb3 : Below w2.heap.size w2 (w2.alloc (.cells #[.int .i64 1, .int .i64 0, .slice none 0 0] 30)) := by (repeat' first | exact Below.refl _ _ | assumption | apply Below.alloc | apply Below.drew | apply Below.setCell | omega | (simp; done) | (simp; omega))
    generalize w2.alloc (.cells #[.int .i64 1, .int .i64 0, .slice none 0 0] 30) = w3 at Q hb3 ⊢
    replace hB := Below.on hB hb3 hB.size
    replace R := R.below hb3
    obtain ⟨q, hq⟩ : ∃ q, w2.heap.size = q := ⟨_, rfl⟩
    rw [hq] at Q hz2
    simp only [hq]
    clear hb3 hq hlt2
    have hvx : ExX (fun b => b = q) w v sv cv := RdX.of_rd hvr (fun b h => by omega)
    -- the first kid's derivative; y1 : what comes back; box a
    refine (HIH.out u.size (by omega) u _ _ _ (Nat.le_refl _) (hu.below hB) hut (by omega)).mono ?_
    rintro f w4 ⟨y1, s1, c1, rfl, hy1, hb4⟩
    rw [← Ho1.out] at hy1 ⊢
    have hz3 := Q.lt
    replace hB := Below.on hB hb4 hB.size
    replace R := R.below hb4
    replace Q := Q.below hb4
    cases o1 with
    | none =>
      have i1 : (none : Option Ex).isSome = false := rfl
      have E1 : Hid ((Ex.mk 7 n [u, v]).step m x = none) := E0
      clear hy1
      -- a part has no derivative; the world is w4.alloc .int .i64 y1.kind, .int .i64 y1.num, .slice s1 y1.kids.length c1; the raw box holds 1, 0, nil
      have q0 := Q.c0
      have q1 := Q.c1
      have q2 := Q.c2
      have ltQ := Q.lt
      have r0 := R.c0
      have r1 := R.c1
      have r2 := R.c2
      have z0 := R.frozen 0
      have z1 := R.frozen 1
      have z2 := R.frozen 2
      have ltR := R.lt
      go_wp2_with fail
      have T2 := (((R.set 0 (.int .i64 1)).set 1 (.int .i64 0)).set 2 (.slice none 0 0)).alloc (.cells #[.int .i64 y1.kind, .int .i64 y1.num, .slice s1 y1.kids.length c1] 30)
      have hs5 : Spares (fun y => y = w.heap.size) w4 ((((w4.setCell ⟨w.heap.size, 0, none⟩ (.int .i64 1)).setCell ⟨w.heap.size, 1, none⟩ (.int .i64 0)).setCell ⟨w.heap.size, 2, none⟩ (.slice none 0 0)).alloc (.cells #[.int .i64 y1.kind, .int .i64 y1.num, .slice s1 y1.kids.length c1] 30)) := (Spares.set (Spares.set (Spares.set (Spares.refl w4)))).trans (Spares.of_below (Below.alloc (Below.refl _ _) (Nat.le_refl _) _))
      generalize (((w4.setCell ⟨w.heap.size, 0, none⟩ (.int .i64 1)).setCell ⟨w.heap.size, 1, none⟩ (.int .i64 0)).setCell ⟨w.heap.size, 2, none⟩ (.slice none 0 0)).alloc (.cells #[.int .i64 y1.kind, .int .i64 y1.num, .slice s1 y1.kids.length c1] 30) = w5 at T2 hs5 ⊢
      have t0 := T2.c0
      have t1 := T2.c1
      have t2 := T2.c2
      have hzB5 := hB.size
      have hB5 := hB.trans (hs5.below (B := w.heap.size) (by omega) (fun y hy => by omega))
      refine bodyPost_ret (v := .tuple #[.agg #[.int .i64 1, .int .i64 0, .slice none 0 0], .bool false]) (by simp [results, Tryz.results65, go_sem, t0, t1, t2]) rfl ?_
      rw [E1.out]
      exact ⟨.leaf 1, _, _, rfl, (fun d hd => by cases hd), hB5⟩
    | some p =>
    have i1 : (some p).isSome = true := rfl
    obtain ⟨rfl, hf1⟩ := hy1 p rfl
    obtain ⟨hp1, hp2⟩ := step_spec tm am m x _ u y1 (Nat.le_refl _) hut Ho1.out.symm
    have hdx4 : ExX (fun b => b = q) w4 y1 s1 c1 := RdX.fresh hf1 (fun b h => by omega)
    clear hy1 hf1
    -- box a; then the drawn region
    go_wp2_with fail
    have A := Blk.new3 w4 30 (.int .i64 y1.kind) (.int .i64 y1.num) (.slice s1 y1.kids.length c1)
    have hb5 : Below w4.heap.size w4 (w4.alloc (.cells #[.int .i64 y1.kind, .int .i64 y1.num, .slice s1 y1.kids.length c1] 30)) := by (repeat' first | exact Below.refl _ _ | assumption | apply Below.alloc | apply Below.drew | apply Below.setCell | omega | (simp; done) | (simp; omega))
    generalize w4.alloc (.cells #[.int .i64 y1.kind, .int .i64 y1.num, .slice s1 y1.kids.length c1] 30) = w5 at A hb5 ⊢
    have hz4 := hb4.size
    have hz5 := hb5.size
    have hdx := hdx4.below hb5
    replace hB := Below.on hB hb5 hB.size
    replace R := R.below hb5
    replace Q := Q.below hb5
    have hB5 := hB
    have hXW : ∀ b, b = q → b < w5.heap.size := fun b h => by omega
    clear hb4 hb5 hdx4
    have hvx5 := hvx.below hB5
    have hbw := hB5.size
    obtain ⟨x0, hx0⟩ := mkval ?a1_0
    obtain ⟨x1, hx1⟩ := mkval ?a1_1
    obtain ⟨x2, hx2⟩ := mkval ?a1_2
    obtain ⟨x3, hx3⟩ := mkval ?a1_3
    obtain ⟨x4, hx4⟩ := mkval ?a1_4
    obtain ⟨x5, hx5⟩ := mkval ?a1_5
    obtain ⟨x6, hx6⟩ := mkval ?a1_6
    have hGb : ∀ m b, (fun m b => (m = 0 ∧ b = q)) m b → (w.heap.size + 1) ≤ b ∧ b < (w5).heap.size := by
      intro m b hg
      rcases hg with ⟨rfl, hg⟩
      · subst hg
        have q := Q.lt
        omega
    have hGd : ∀ m m' b, (fun m b => (m = 0 ∧ b = q)) m b → (fun m b => (m = 0 ∧ b = q)) m' b → m = m' := by
      intro m m' b h h'
      rcases h with ⟨rfl, h⟩ <;> rcases h' with ⟨rfl, h'⟩ <;> first
        | rfl
    have hGX : ∀ m b, (fun m b => (m = 0 ∧ b = q)) m b → (fun b => b = q) b := by
      intro m b hg
      rcases hg with ⟨rfl, rfl⟩ <;> simp
    refine region_rs [] [(8, 0)] (fun m b => (m = 0 ∧ b = q)) (w.heap.size + 1) (fun i iv vs wx => match i with
      | 0 => vs 0 = x0
      | 1 => vs 1 = x1
      | 2 => vs 2 = x2
      | 3 => vs 3 = x3
      | 4 => vs 4 = x4
      | 5 => vs 5 = x5
      | 6 => vs 6 = x6
      | 7 => ∃ gr, vs 7 = .agg #[.int .i64 7, .int .i64 0, .slice (some ⟨gr, 0, none⟩) 2 2] ∧ RdO w5 (fun b => b = q) (foot [] [(8, 0)] (fun m b => (m = 0 ∧ b = q)) 9 7 iv) wx (kidsD [y1, v]) (.slice (some ⟨gr, 0, none⟩) 2 2)
      | 8 => Blk wx (q) 30 [aggAt (vs 7) 0, aggAt (vs 7) 1, aggAt (vs 7) 2]
      | _ => True) (fun i iv vs => match i with
      | 0 => vs 0 = x0
      | 1 => vs 1 = x1
      | 2 => vs 2 = x2
      | 3 => vs 3 = x3
      | 4 => vs 4 = x4
      | 5 => vs 5 = x5
      | 6 => vs 6 = x6
      | 7 => ∃ gr, vs 7 = .agg #[.int .i64 7, .int .i64 0, .slice (some ⟨gr, 0, none⟩) 2 2]
      | 8 => True
      | _ => True) (by kernel_rfl) (by kernel_rfl) [0, 1, 2, 3, 4, 5, 6, 7, 8] (by kernel_rfl) ?hbase ?hGb ?hG ?hJ ?hE ?hEE ?hstep ?hQ
    case hbase => first | exact Nat.le_refl _ | omega | (simp; omega)
    case hGb =>
      exact hGb
    case hG =>
      exact hGd
    case hJ =>
      intro i hi iv iv' vs vs' wx wx' ha hv hz hk hj
      simp only [List.mem_cons, List.not_mem_nil, or_false] at hi
      rcases hi with rfl | rfl | rfl | rfl | rfl | rfl | rfl | rfl | rfl
      · exact (hv.out 0 (mem_of (by kernel_rfl))).symm.trans hj
      · exact (hv.out 1 (mem_of (by kernel_rfl))).symm.trans hj
      · exact (hv.out 2 (mem_of (by kernel_rfl))).symm.trans hj
      · exact (hv.out 3 (mem_of (by kernel_rfl))).symm.trans hj
      · exact (hv.out 4 (mem_of (by kernel_rfl))).symm.trans hj
      · exact (hv.out 5 (mem_of (by kernel_rfl))).symm.trans hj
      · exact (hv.out 6 (mem_of (by kernel_rfl))).symm.trans hj
      · have e7 := hv.out 7 (mem_of (by kernel_rfl))
        obtain ⟨gr, q1, q2⟩ := hj
        exact ⟨gr, e7 ▸ q1, q2.keep hz (fun b hb h1 => hk.out b hb h1) (fun b h1 => foot_agree (l := ancs _ 9 7) (by exact of_decide_eq_true (by kernel_rfl)) ha.out h1)⟩
      · have e7 := hv.out 7 (mem_of (by kernel_rfl))
        have hj' : Blk wx (q) 30 [aggAt (vs 7) 0, aggAt (vs 7) 1, aggAt (vs 7) 2] := hj
        show Blk wx' (q) 30 [aggAt (vs' 7) 0, aggAt (vs' 7) 1, aggAt (vs' 7) 2]
        rw [← e7]
        exact hj'.keep (hk.out _ hj'.lt (foot_given 0 (by decide) ⟨rfl, rfl⟩))
    case hE =>
      intro i hi iv vs wx hj
      simp only [List.mem_cons, List.not_mem_nil, or_false] at hi
      rcases hi with rfl | rfl | rfl | rfl | rfl | rfl | rfl | rfl | rfl
      · exact hj
      · exact hj
      · exact hj
      · exact hj
      · exact hj
      · exact hj
      · exact hj
      · obtain ⟨gr, q1, -⟩ := hj
        exact ⟨gr, q1⟩
      · trivial
    case hEE =>
      intro i hi iv iv' vs vs' ha hv hj
      simp only [List.mem_cons, List.not_mem_nil, or_false] at hi
      rcases hi with rfl | rfl | rfl | rfl | rfl | rfl | rfl | rfl | rfl
      · exact (hv.out 0 (mem_of (by kernel_rfl))).symm.trans hj
      · exact (hv.out 1 (mem_of (by kernel_rfl))).symm.trans hj
      · exact (hv.out 2 (mem_of (by kernel_rfl))).symm.trans hj
      · exact (hv.out 3 (mem_of (by kernel_rfl))).symm.trans hj
      · exact (hv.out 4 (mem_of (by kernel_rfl))).symm.trans hj
      · exact (hv.out 5 (mem_of (by kernel_rfl))).symm.trans hj
      · exact (hv.out 6 (mem_of (by kernel_rfl))).symm.trans hj
      · have e7 := hv.out 7 (mem_of (by kernel_rfl))
        have hj' : ∃ gr, vs 7 = .agg #[.int .i64 7, .int .i64 0, .slice (some ⟨gr, 0, none⟩) 2 2] := hj
        show ∃ gr, vs' 7 = .agg #[.int .i64 7, .int .i64 0, .slice (some ⟨gr, 0, none⟩) 2 2]
        rw [← e7]
        exact hj'
      · trivial
    case hstep =>
      intro i hi opr ho iv vs w1 hB hS hSo hd he hbd hsep hun K hK
      simp only [List.mem_cons, List.not_mem_nil, or_false] at hi
      have hzB := hB.size
      have hBw : Below w.heap.size w w1 := hB5.trans (hB.mono (by omega))
      have g0 := (hBw.cell (p := ⟨b, o, none⟩) hlt).trans G0.out
      have g1 := (hBw.cell (p := ⟨b, o + 1, none⟩) hlt).trans G1.out
      have g2 := (hBw.cell (p := ⟨b, o + 2, none⟩) hlt).trans G2.out
      have hlt1 : b < w1.heap.size := by have := hBw.size; omega
      have A1 := A.keep (hSo.out.block _ A.lt (fun ⟨_, _, h⟩ => by omega))
      have a0 := A1.c0
      have a1 := A1.c1
      have a2 := A1.c2
      have ltA := A1.lt
      have v0 := (hBw.cell (p := ⟨kb, ko + 3, none⟩) hkb).trans V0.out
      have v1 := (hBw.cell (p := ⟨kb, ko + 3 + 1, none⟩) hkb).trans V1.out
      have v2 := (hBw.cell (p := ⟨kb, ko + 3 + 2, none⟩) hkb).trans V2.out
      generalize hA : putFrom _ 0 vs _ = A at hK ⊢
      simp only [putFrom, puts] at hA
      rcases hi with rfl | rfl | rfl | rfl | rfl | rfl | rfl | rfl | rfl
      all_goals
        simp at ho
        subst ho
        subst hA
      · go_wp2_with fail
        refine Onward.mk (hK ?val1_0 _ _ (fun h => by cases h) ?eqA (Spares.refl _) (fun iv' _ _ => ?ja))
        case eqA => first | rfl | (simp only [puts]; rfl)
        case ja => exact hx0.out.symm
      · go_wp2_with fail
        refine Onward.mk (hK ?val1_1 _ _ (fun h => by cases h) ?eqA (Spares.refl _) (fun iv' _ _ => ?ja))
        case eqA => first | rfl | (simp only [puts]; rfl)
        case ja => exact hx1.out.symm
      · have h1 := (hd.out 1 (mem_of (by kernel_rfl)) (by decide) (by kernel_rfl)).trans hx1.out
        go_wp2_with fail
        refine Onward.mk (hK ?val1_2 _ _ (fun h => by cases h) ?eqA (Spares.refl _) (fun iv' _ _ => ?ja))
        case eqA => first | rfl | (simp only [puts, h1]; rfl)
        case ja => exact hx2.out.symm
      · have h2 := (hd.out 2 (mem_of (by kernel_rfl)) (by decide) (by kernel_rfl)).trans hx2.out
        go_wp2_with fail
        refine Onward.mk (hK ?val1_3 _ _ (fun h => by cases h) ?eqA (Spares.refl _) (fun iv' _ _ => ?ja))
        case eqA => first | rfl | (simp only [puts, h2]; rfl)
        case ja => exact hx3.out.symm
      · have h3 := (hd.out 3 (mem_of (by kernel_rfl)) (by decide) (by kernel_rfl)).trans hx3.out
        go_wp2_with fail
        refine Onward.mk (hK ?val1_4 _ _ (fun h => by cases h) ?eqA (Spares.refl _) (fun iv' _ _ => ?ja))
        case eqA => first | rfl | (simp only [puts, h3]; rfl)
        case ja => exact hx4.out.symm
      · have h4 := (hd.out 4 (mem_of (by kernel_rfl)) (by decide) (by kernel_rfl)).trans hx4.out
        go_wp2_with fail
        refine Onward.mk (hK ?val1_5 _ _ (fun h => by cases h) ?eqA (Spares.refl _) (fun iv' _ _ => ?ja))
        case eqA => first | rfl | (simp only [puts, h4]; rfl)
        case ja => exact hx5.out.symm
      · have h5 := (hd.out 5 (mem_of (by kernel_rfl)) (by decide) (by kernel_rfl)).trans hx5.out
        go_wp2_with fail
        refine Onward.mk (hK ?val1_6 _ _ (fun h => by cases h) ?eqA (Spares.refl _) (fun iv' _ _ => ?ja))
        case eqA => first | rfl | (simp only [puts, h5]; rfl)
        case ja => exact hx6.out.symm
      · have h0 := (hd.out 0 (mem_of (by kernel_rfl)) (by decide) (by kernel_rfl)).trans hx0.out
        have h6 := (hd.out 6 (mem_of (by kernel_rfl)) (by decide) (by kernel_rfl)).trans hx6.out
        go_wp2_with fail
        have hO : KeptX (fun b => b = q) w5 w1 := KeptX.of_spares hSo.out (fun b _ ⟨m, hg⟩ => hGX m b hg)
        obtain ⟨XQ, hXQ⟩ : ∃ XQ, XQ = OutX w5 (fun b => b = q) (fun b => False) w1 := ⟨_, rfl⟩
        have hXl : ∀ b, XQ b → b < w1.heap.size := by rw [hXQ]; exact OutX.lt
        have hOld : ∀ (d : D) (v : Value), RdX (fun b => b = q) w5 d v → RdX XQ w1 d v := by rw [hXQ]; exact fun d v h => h.toOut hO
        refine (l02Pair_x (X := XQ) hXl (hOld _ _ hdx) (hOld _ _ hvx5)).mono ?_
        rintro e w2 ⟨gr, rfl, hr, hb⟩
        go_wp2_with fail
        rw [hXQ] at hr
        exact Onward.mk (hK (.agg #[.int .i64 7, .int .i64 0, .slice (some ⟨gr, 0, none⟩) 2 2]) _ _ (fun h => by cases h) (by first | rfl | (simp only [puts, h0, h6])) (Spares.of_below hb) (fun iv' ag hi => ⟨gr, rfl, RdO.ofX hr hb hO (fun b h => by exact h.elim) (fun b h1 h2 => foot_new hi h1 h2)⟩))
      · obtain ⟨gr, h7, f7⟩ := hd.out 7 (mem_of (by kernel_rfl)) (by decide) (by kernel_rfl)
        have Q1 := Q.keep (hS.out 0 _ (by kernel_rfl) ⟨rfl, rfl⟩)
        have qc0 := Q1.c0
        have qz0 := Q1.frozen 0
        have qc1 := Q1.c1
        have qz1 := Q1.frozen 1
        have qc2 := Q1.c2
        have qz2 := Q1.frozen 2
        have qlt := Q1.lt
        go_wp2_with fail
        exact Onward.mk (hK undef _ _ (fun _ => rfl) (by simp only [puts, h7]) ((spares_sets (b0 := q) (by repeat (first | exact Spares.refl _ | apply Spares.set))).more (fun b h => Or.inl ⟨0, by decide, ⟨rfl, h⟩⟩)) (fun iv' ag hi => by
          show Blk _ (q) 30 [aggAt (vs 7) 0, aggAt (vs 7) 1, aggAt (vs 7) 2]
          rw [h7]
          exact (((Q1.set 0 _).set 1 _).set 2 _)))
    case hQ =>
      intro iv vs wx hB hSp hd he hbd hsep
      have hzB := hB.size
      have h0 := (hd.out 0 (mem_of (by kernel_rfl)) (not_eaten (by kernel_rfl))).trans hx0.out
      have h1 := (hd.out 1 (mem_of (by kernel_rfl)) (not_eaten (by kernel_rfl))).trans hx1.out
      have h2 := (hd.out 2 (mem_of (by kernel_rfl)) (not_eaten (by kernel_rfl))).trans hx2.out
      have h3 := (hd.out 3 (mem_of (by kernel_rfl)) (not_eaten (by kernel_rfl))).trans hx3.out
      have h4 := (hd.out 4 (mem_of (by kernel_rfl)) (not_eaten (by kernel_rfl))).trans hx4.out
      have h5 := (hd.out 5 (mem_of (by kernel_rfl)) (not_eaten (by kernel_rfl))).trans hx5.out
      have h6 := (hd.out 6 (mem_of (by kernel_rfl)) (not_eaten (by kernel_rfl))).trans hx6.out
      obtain ⟨gr, h7, f7⟩ := hd.out 7 (mem_of (by kernel_rfl)) (not_eaten (by kernel_rfl))
      have f8 : Blk _ (q) 30 [aggAt (vs 7) 0, aggAt (vs 7) 1, aggAt (vs 7) 2] := hd.out 8 (mem_of (by kernel_rfl)) (not_eaten (by kernel_rfl))
      simp only [putFrom, puts]
      have hOq : KeptX (fun b => b = q) w5 wx := KeptX.of_spares hSp.out (fun b _ ⟨m, hg⟩ => hGX m b hg)
      have r7 : RdX (fun b => b = q) wx (kidsD [y1, v]) (.slice (some ⟨gr, 0, none⟩) 2 2) := f7.done hOq (fun b hf hx => by have q := foot_no (l := [0, 1, 2, 3, 4, 5, 6, 7, 8]) (by kernel_rfl) (by kernel_rfl) hbd.out hf; have q' := hXW b hx; omega)
      clear f7
      -- behind the region: 7 the call
      rw [h7] at f8
      simp only [aggAt] at f8
      replace R := R.keep (hSp.out.block _ R.lt (fun ⟨_, _, h⟩ => by omega))
      replace hB : Below w.heap.size w wx := hB5.trans (hB.mono (by omega))
      replace Q : Blk wx q 30 [.int .i64 7, .int .i64 0, .slice (some ⟨gr, 0, none⟩) 2 2] := f8
      have hk2 := r7
      clear hd he hbd hsep h0 h1 h2 h3 h4 h5 h6 h7 f8 hSp
      obtain ⟨w8, rfl⟩ : ∃ v, v = wx := ⟨_, rfl⟩
      have g2 := (hB.cell (p := ⟨b, o + 2, none⟩) hlt).trans G2.out
      have hlt8 : b < w8.heap.size := by have := hB.size; omega
      go_wp2_with fail
      refine (l02Empty_all tm am m ht2 h0 h7 _ u kb ko w8 (Nat.le_refl _) (hu.below hB) hut).mono ?_
      rintro f w' ⟨rfl, rfl⟩
      cases he : u.emp m
      · have E1 : Hid ((Ex.mk 7 n [u, v]).step m x = limE (.two 7 y1 v)) := by show _ = _; rw [E0.out]; simp [he]
        obtain ⟨w9, rfl⟩ : ∃ v, v = w8 := ⟨_, rfl⟩
        clear he
        go_wp2_with fail
        have hk := hk2.rd
        -- goal: what stands behind the store to the raw box; world w9; Q : the raw box holds two K X Y; hk : its kids are read; E1 : the result is limE (two K X Y)
        have hat : ExAt w9 q 0 (.two 7 y1 v) := Q.exAt hk
        have hsz9 : (Ex.two 7 y1 v).size ≤ 90000 := by rw [size_two]; omega
        refine (l01Size_all _ _ _ _ _ (Nat.le_refl _) hat (by omega)).mono ?_
        rintro f w10 ⟨rfl, rfl⟩
        clear hk
        by_cases h8 : (Ex.two 7 y1 v).size ≤ 800
        · have c8 : ¬ (((Ex.two 7 y1 v).size : Int) > 800) := by omega
          have E2 : Hid (limE (.two 7 y1 v) = some (Ex.two 7 y1 v).tidy) := by show _ = _; unfold limE; rw [if_pos h8]
          go_wp2_with fail
          refine (l02Tidy_all tm am ht ha _ _ _ _ _ (Nat.le_refl _) hat (tree_two (Or.inr rfl) hp1 hvt) hsz9).mono ?_
          rintro f w11 ⟨s11, c11, rfl, hf, hb⟩
          have hzw := R.lt
          replace hB := Below.on hB hb hB.size
          replace R := R.below hb
          clear c8 h8 hsz9
          have r0 := R.c0
          have r1 := R.c1
          have r2 := R.c2
          have z0 := R.frozen 0
          have z1 := R.frozen 1
          have z2 := R.frozen 2
          have ltR := R.lt
          go_wp2_with fail
          have T2 := ((R.set 0 (.int .i64 (Ex.two 7 y1 v).tidy.kind)).set 1 (.int .i64 (Ex.two 7 y1 v).tidy.num)).set 2 (.slice s11 (Ex.two 7 y1 v).tidy.kids.length c11)
          have hs5 : Spares (fun y => y = w.heap.size) w11 (((w11.setCell ⟨w.heap.size, 0, none⟩ (.int .i64 (Ex.two 7 y1 v).tidy.kind)).setCell ⟨w.heap.size, 1, none⟩ (.int .i64 (Ex.two 7 y1 v).tidy.num)).setCell ⟨w.heap.size, 2, none⟩ (.slice s11 (Ex.two 7 y1 v).tidy.kids.length c11)) := Spares.set (Spares.set (Spares.set (Spares.refl w11)))
          generalize (((w11.setCell ⟨w.heap.size, 0, none⟩ (.int .i64 (Ex.two 7 y1 v).tidy.kind)).setCell ⟨w.heap.size, 1, none⟩ (.int .i64 (Ex.two 7 y1 v).tidy.num)).setCell ⟨w.heap.size, 2, none⟩ (.slice s11 (Ex.two 7 y1 v).tidy.kids.length c11)) = w5 at T2 hs5 ⊢
          have t0 := T2.c0
          have t1 := T2.c1
          have t2 := T2.c2
          have hzB5 := hB.size
          have hB5 := hB.trans (hs5.below (B := w.heap.size) (by omega) (fun y hy => by omega))
          refine bodyPost_ret (v := .tuple #[.agg #[.int .i64 (Ex.two 7 y1 v).tidy.kind, .int .i64 (Ex.two 7 y1 v).tidy.num, .slice s11 (Ex.two 7 y1 v).tidy.kids.length c11], .bool true]) (by simp [results, Tryz.results65, go_sem, t0, t1, t2]) rfl ?_
          rw [E1.out, E2.out]
          exact ⟨_, _, _, rfl, fun d hd => by
            obtain rfl := Option.some.inj hd
            exact ⟨rfl, Freshs.from (Freshs.keep hf (fun y _ hy2 => hs5.block y hy2 (by omega))) (Nat.le_of_lt hzw)⟩, hB5⟩
        · have c8 : ((Ex.two 7 y1 v).size : Int) > 800 := by omega
          have E2 : Hid (limE (.two 7 y1 v) = none) := by show _ = _; unfold limE; rw [if_neg h8]
          have q0 := Q.c0
          have q1 := Q.c1
          have q2 := Q.c2
          have ltQ := Q.lt
          clear hat hsz9
          have r0 := R.c0
          have r1 := R.c1
          have r2 := R.c2
          have z0 := R.frozen 0
          have z1 := R.frozen 1
          have z2 := R.frozen 2
          have ltR := R.lt
          go_wp2_with fail
          have T2 := ((R.set 0 (.int .i64 7)).set 1 (.int .i64 0)).set 2 (.slice (some ⟨gr, 0, none⟩) 2 2)
          have hs5 : Spares (fun y => y = w.heap.size) w9 (((w9.setCell ⟨w.heap.size, 0, none⟩ (.int .i64 7)).setCell ⟨w.heap.size, 1, none⟩ (.int .i64 0)).setCell ⟨w.heap.size, 2, none⟩ (.slice (some ⟨gr, 0, none⟩) 2 2)) := Spares.set (Spares.set (Spares.set (Spares.refl w9)))
          generalize (((w9.setCell ⟨w.heap.size, 0, none⟩ (.int .i64 7)).setCell ⟨w.heap.size, 1, none⟩ (.int .i64 0)).setCell ⟨w.heap.size, 2, none⟩ (.slice (some ⟨gr, 0, none⟩) 2 2)) = w5 at T2 hs5 ⊢
          have t0 := T2.c0
          have t1 := T2.c1
          have t2 := T2.c2
          have hzB5 := hB.size
          have hB5 := hB.trans (hs5.below (B := w.heap.size) (by omega) (fun y hy => by omega))
          refine bodyPost_ret (v := .tuple #[.agg #[.int .i64 7, .int .i64 0, .slice (some ⟨gr, 0, none⟩) 2 2], .bool false]) (by simp [results, Tryz.results65, go_sem, t0, t1, t2]) rfl ?_
          rw [E1.out, E2.out]
          exact ⟨.two 7 y1 v, _, _, rfl, (fun d hd => by cases hd), hB5⟩
      · have E0' : Hid ((Ex.mk 7 n [u, v]).step m x = o2.bind fun q => limE (.two 6 (.two 7 y1 v) q)) := by show _ = _; rw [E0.out]; simp [he]
        clear he
        go_wp2_with fail
        clear g2
        refine (HIH.out v.size (by omega) v _ _ _ (Nat.le_refl _) (hv.below hB) hvt (by omega)).mono ?_
        rintro f w6 ⟨y2, s2, c2, rfl, hy2, hb6⟩
        rw [← Ho2.out] at hy2 ⊢
        have hzQ := Q.lt
        have hk6 := hk2.below hb6
        replace hB := Below.on hB hb6 hB.size
        replace R := R.below hb6
        replace Q := Q.below hb6
        cases o2 with
        | none =>
          have i2 : (none : Option Ex).isSome = false := rfl
          have E1 : Hid ((Ex.mk 7 n [u, v]).step m x = none) := E0'
          clear hy2
          -- a part has no derivative; the world is w6.alloc .int .i64 y2.kind, .int .i64 y2.num, .slice s2 y2.kids.length c2; the raw box holds 1, 0, nil
          have q0 := Q.c0
          have q1 := Q.c1
          have q2 := Q.c2
          have ltQ := Q.lt
          have r0 := R.c0
          have r1 := R.c1
          have r2 := R.c2
          have z0 := R.frozen 0
          have z1 := R.frozen 1
          have z2 := R.frozen 2
          have ltR := R.lt
          go_wp2_with fail
          have T2 := (((R.set 0 (.int .i64 7)).set 1 (.int .i64 0)).set 2 (.slice (some ⟨gr, 0, none⟩) 2 2)).alloc (.cells #[.int .i64 y2.kind, .int .i64 y2.num, .slice s2 y2.kids.length c2] 30)
          have hs5 : Spares (fun y => y = w.heap.size) w6 ((((w6.setCell ⟨w.heap.size, 0, none⟩ (.int .i64 7)).setCell ⟨w.heap.size, 1, none⟩ (.int .i64 0)).setCell ⟨w.heap.size, 2, none⟩ (.slice (some ⟨gr, 0, none⟩) 2 2)).alloc (.cells #[.int .i64 y2.kind, .int .i64 y2.num, .slice s2 y2.kids.length c2] 30)) := (Spares.set (Spares.set (Spares.set (Spares.refl w6)))).trans (Spares.of_below (Below.alloc (Below.refl _ _) (Nat.le_refl _) _))
          generalize (((w6.setCell ⟨w.heap.size, 0, none⟩ (.int .i64 7)).setCell ⟨w.heap.size, 1, none⟩ (.int .i64 0)).setCell ⟨w.heap.size, 2, none⟩ (.slice (some ⟨gr, 0, none⟩) 2 2)).alloc (.cells #[.int .i64 y2.kind, .int .i64 y2.num, .slice s2 y2.kids.length c2] 30) = w5 at T2 hs5 ⊢
          have t0 := T2.c0
          have t1 := T2.c1
          have t2 := T2.c2
          have hzB5 := hB.size
          have hB5 := hB.trans (hs5.below (B := w.heap.size) (by omega) (fun y hy => by omega))
          refine bodyPost_ret (v := .tuple #[.agg #[.int .i64 7, .int .i64 0, .slice (some ⟨gr, 0, none⟩) 2 2], .bool false]) (by simp [results, Tryz.results65, go_sem, t0, t1, t2]) rfl ?_
          rw [E1.out]
          exact ⟨(.two 7 y1 v), _, _, rfl, (fun d hd => by cases hd), hB5⟩
        | some p2 =>
        have i2 : (some p2).isSome = true := rfl
        obtain ⟨rfl, hf2⟩ := hy2 p2 rfl
        have E1 : Hid ((Ex.mk 7 n [u, v]).step m x = limE (.two 6 (.two 7 y1 v) y2)) := E0'
        obtain ⟨hq1, hq2⟩ := step_spec tm am m x _ v y2 (Nat.le_refl _) hvt Ho2.out.symm
        have hdy6 : ExX (fun b => b = q) w6 y2 s2 c2 := RdX.fresh hf2 (fun b h => by omega)
        have q0 := Q.c0
        have q1 := Q.c1
        have q2 := Q.c2
        have ltQ := Q.lt
        clear hy2 hf2
        go_wp2_with fail
        clear q0 q1 q2 ltQ
        have hb7 : Below w6.heap.size w6 (w6.alloc (.cells #[.int .i64 y2.kind, .int .i64 y2.num, .slice s2 y2.kids.length c2] 30)) := by (repeat' first | exact Below.refl _ _ | assumption | apply Below.alloc | apply Below.drew | apply Below.setCell | omega | (simp; done) | (simp; omega))
        generalize w6.alloc (.cells #[.int .i64 y2.kind, .int .i64 y2.num, .slice s2 y2.kids.length c2] 30) = w7 at hb7 ⊢
        have hdx' : ExX (fun b => b = q) w7 (.two 7 y1 v) (some ⟨gr, 0, none⟩) 2 := hk6.below hb7
        have hdy := hdy6.below hb7
        replace hB := Below.on hB hb7 hB.size
        replace R := R.below hb7
        replace Q := Q.below hb7
        clear hdy6 hdx hk2 hk6 hb6 hb7 i1 i2 E0 E0'
        have hdx := hdx'
        clear hdx'
        -- the call of l02Pair and the store to the raw box; world $V; hdx, hdy : what is read
        refine (l02Pair_x (X := fun b => b = q) (fun b h => by have := Q.lt; omega) hdx hdy).mono ?_
        rintro f w8 ⟨gr, rfl, hr, hb8⟩
        replace hB := Below.on hB hb8 hB.size
        replace R := R.below hb8
        replace Q := Q.below hb8
        have q0 := Q.c0
        have q1 := Q.c1
        have q2 := Q.c2
        have z0 := Q.frozen 0
        have z1 := Q.frozen 1
        have z2 := Q.frozen 2
        have ltQ := Q.lt
        go_wp2_with fail
        clear q0 q1 q2 z0 z1 z2
        have hs8 : Spares (fun y => y = q) w8 (((w8.setCell ⟨q, 0, none⟩ (.int .i64 6)).setCell ⟨q, 1, none⟩ (.int .i64 0)).setCell ⟨q, 2, none⟩ (.slice (some ⟨gr, 0, none⟩) 2 2)) := Spares.set (Spares.set (Spares.set (Spares.refl w8)))
        replace Q := ((Q.set 0 (.int .i64 6)).set 1 (.int .i64 0)).set 2 (.slice (some ⟨gr, 0, none⟩) 2 2)
        generalize (((w8.setCell ⟨q, 0, none⟩ (.int .i64 6)).setCell ⟨q, 1, none⟩ (.int .i64 0)).setCell ⟨q, 2, none⟩ (.slice (some ⟨gr, 0, none⟩) 2 2)) = w9 at Q hs8 ⊢
        replace R := R.keep (hs8.block _ R.lt (by omega))
        replace hB := hB.trans (hs8.below (B := w.heap.size) hB.size (fun y hy => by omega))
        have hk2 : RdX (fun b => b = q) w9 (kidsD [(Ex.two 7 y1 v), y2]) (.slice (some ⟨gr, 0, none⟩) 2 2) := RdX.keep hr (KeptX.of_spares hs8 (fun b _ h => h))
        clear hr hb8 ltQ
        have hk := hk2.rd
        -- goal: what stands behind the store to the raw box; world w9; Q : the raw box holds two K X Y; hk : its kids are read; E1 : the result is limE (two K X Y)
        have hat : ExAt w9 q 0 (.two 6 (.two 7 y1 v) y2) := Q.exAt hk
        have hsz9 : (Ex.two 6 (.two 7 y1 v) y2).size ≤ 90000 := by rw [size_two, size_two]; omega
        refine (l01Size_all _ _ _ _ _ (Nat.le_refl _) hat (by omega)).mono ?_
        rintro f w10 ⟨rfl, rfl⟩
        clear hk
        by_cases h8 : (Ex.two 6 (.two 7 y1 v) y2).size ≤ 800
        · have c8 : ¬ (((Ex.two 6 (.two 7 y1 v) y2).size : Int) > 800) := by omega
          have E2 : Hid (limE (.two 6 (.two 7 y1 v) y2) = some (Ex.two 6 (.two 7 y1 v) y2).tidy) := by show _ = _; unfold limE; rw [if_pos h8]
          go_wp2_with fail
          refine (l02Tidy_all tm am ht ha _ _ _ _ _ (Nat.le_refl _) hat (tree_two (Or.inl rfl) (tree_two (Or.inr rfl) hp1 hvt) hq1) hsz9).mono ?_
          rintro f w11 ⟨s11, c11, rfl, hf, hb⟩
          have hzw := R.lt
          replace hB := Below.on hB hb hB.size
          replace R := R.below hb
          clear c8 h8 hsz9
          have r0 := R.c0
          have r1 := R.c1
          have r2 := R.c2
          have z0 := R.frozen 0
          have z1 := R.frozen 1
          have z2 := R.frozen 2
          have ltR := R.lt
          go_wp2_with fail
          have T2 := ((R.set 0 (.int .i64 (Ex.two 6 (.two 7 y1 v) y2).tidy.kind)).set 1 (.int .i64 (Ex.two 6 (.two 7 y1 v) y2).tidy.num)).set 2 (.slice s11 (Ex.two 6 (.two 7 y1 v) y2).tidy.kids.length c11)
          have hs5 : Spares (fun y => y = w.heap.size) w11 (((w11.setCell ⟨w.heap.size, 0, none⟩ (.int .i64 (Ex.two 6 (.two 7 y1 v) y2).tidy.kind)).setCell ⟨w.heap.size, 1, none⟩ (.int .i64 (Ex.two 6 (.two 7 y1 v) y2).tidy.num)).setCell ⟨w.heap.size, 2, none⟩ (.slice s11 (Ex.two 6 (.two 7 y1 v) y2).tidy.kids.length c11)) := Spares.set (Spares.set (Spares.set (Spares.refl w11)))
          generalize (((w11.setCell ⟨w.heap.size, 0, none⟩ (.int .i64 (Ex.two 6 (.two 7 y1 v) y2).tidy.kind)).setCell ⟨w.heap.size, 1, none⟩ (.int .i64 (Ex.two 6 (.two 7 y1 v) y2).tidy.num)).setCell ⟨w.heap.size, 2, none⟩ (.slice s11 (Ex.two 6 (.two 7 y1 v) y2).tidy.kids.length c11)) = w5 at T2 hs5 ⊢
          have t0 := T2.c0
          have t1 := T2.c1
          have t2 := T2.c2
          have hzB5 := hB.size
          have hB5 := hB.trans (hs5.below (B := w.heap.size) (by omega) (fun y hy => by omega))
          refine bodyPost_ret (v := .tuple #[.agg #[.int .i64 (Ex.two 6 (.two 7 y1 v) y2).tidy.kind, .int .i64 (Ex.two 6 (.two 7 y1 v) y2).tidy.num, .slice s11 (Ex.two 6 (.two 7 y1 v) y2).tidy.kids.length c11], .bool true]) (by simp [results, Tryz.results65, go_sem, t0, t1, t2]) rfl ?_
          rw [E1.out, E2.out]
          exact ⟨_, _, _, rfl, fun d hd => by
            obtain rfl := Option.some.inj hd
            exact ⟨rfl, Freshs.from (Freshs.keep hf (fun y _ hy2 => hs5.block y hy2 (by omega))) (Nat.le_of_lt hzw)⟩, hB5⟩
        · have c8 : ((Ex.two 6 (.two 7 y1 v) y2).size : Int) > 800 := by omega
          have E2 : Hid (limE (.two 6 (.two 7 y1 v) y2) = none) := by show _ = _; unfold limE; rw [if_neg h8]
          have q0 := Q.c0
          have q1 := Q.c1
          have q2 := Q.c2
          have ltQ := Q.lt
          clear hat hsz9
          have r0 := R.c0
          have r1 := R.c1
          have r2 := R.c2
          have z0 := R.frozen 0
          have z1 := R.frozen 1
          have z2 := R.frozen 2
          have ltR := R.lt
          go_wp2_with fail
          have T2 := ((R.set 0 (.int .i64 6)).set 1 (.int .i64 0)).set 2 (.slice (some ⟨gr, 0, none⟩) 2 2)
          have hs5 : Spares (fun y => y = w.heap.size) w9 (((w9.setCell ⟨w.heap.size, 0, none⟩ (.int .i64 6)).setCell ⟨w.heap.size, 1, none⟩ (.int .i64 0)).setCell ⟨w.heap.size, 2, none⟩ (.slice (some ⟨gr, 0, none⟩) 2 2)) := Spares.set (Spares.set (Spares.set (Spares.refl w9)))
          generalize (((w9.setCell ⟨w.heap.size, 0, none⟩ (.int .i64 6)).setCell ⟨w.heap.size, 1, none⟩ (.int .i64 0)).setCell ⟨w.heap.size, 2, none⟩ (.slice (some ⟨gr, 0, none⟩) 2 2)) = w5 at T2 hs5 ⊢
          have t0 := T2.c0
          have t1 := T2.c1
          have t2 := T2.c2
          have hzB5 := hB.size
          have hB5 := hB.trans (hs5.below (B := w.heap.size) (by omega) (fun y hy => by omega))
          refine bodyPost_ret (v := .tuple #[.agg #[.int .i64 6, .int .i64 0, .slice (some ⟨gr, 0, none⟩) 2 2], .bool false]) (by simp [results, Tryz.results65, go_sem, t0, t1, t2]) rfl ?_
          rw [E1.out, E2.out]
          exact ⟨.two 6 (.two 7 y1 v) y2, _, _, rfl, (fun d hd => by cases hd), hB5⟩
  have c7 : (k == 7) = false := by simp [h7']
  by_cases h8 : k = 8
  · subst h8
    obtain ⟨u, rfl⟩ := one_kid hk (Or.inr rfl)
    have hsz := Ex.size_eq (.mk 8 n [u])
    simp only [Ex.sizeL, Ex.kids_mk] at hsz
    have hut : u.tree tm am = true := Ex.treeL_mem htl (by simp)
    obtain ⟨o1, Ho1⟩ : ∃ o, Hid (o = u.step m x) := ⟨_, rfl⟩
    have E0 : Hid ((Ex.mk 8 n [u]).step m x = o1.bind fun p => limE (.two 7 p (.mk 8 n [u]))) := by show _ = _; rw [Ho1.out]; exact Ex.step_star
    clear htl hk c4 h4 h6 c6 h7' c7
    obtain ⟨g0, g1, sx, cx, g2, g3⟩ := id hx
    simp only [Ex.kind_mk, Ex.num_mk, Ex.kids_mk] at g0 g1 g2
    obtain ⟨kb, ko, rfl⟩ := kid_some g3 (by simp [Ex.kids])
    have hu : ExAt w kb ko u := by have := kid_exAt g3 (i := 0) (e := u) rfl; simpa using this
    obtain ⟨-, hlen, hcap, -, -⟩ := kid_at g3
    unfold maxLen at hcap
    simp only [List.length_cons, List.length_nil, Nat.zero_add, Nat.reduceAdd] at g2 hlen hcap
    have G0 := Lib.hid g0
    have G1 := Lib.hid g1
    have G2 := Lib.hid g2
    clear g0 g1 g2
    go_enter Tryz.func65, Tryz.ntmps65
    go_wp2_with fail
    have R := Blk.new3 w 30 (.int .i64 0) (.int .i64 0) (.slice none 0 0)
    have hB : Below w.heap.size w (w.alloc (.cells #[.int .i64 0, .int .i64 0, .slice none 0 0] 30)) := by (repeat' first | exact Below.refl _ _ | assumption | apply Below.alloc | apply Below.drew | apply Below.setCell | omega | (simp; done) | (simp; omega))
    have hz0 : (w.alloc (.cells #[.int .i64 0, .int .i64 0, .slice none 0 0] 30)).heap.size = w.heap.size + 1 := by simp
    generalize w.alloc (.cells #[.int .i64 0, .int .i64 0, .slice none 0 0] 30) = w1 at R hB hz0 ⊢
    refine (l02Zero_v).mono ?_
    rintro f w2 ⟨rfl, hb⟩
    replace hB := Below.on hB hb hB.size
    replace R := R.below hb
    clear hb
    have g0 := (hB.cell (p := ⟨b, o, none⟩) hlt).trans G0.out
    have g1 := (hB.cell (p := ⟨b, o + 1, none⟩) hlt).trans G1.out
    have g2 := (hB.cell (p := ⟨b, o + 2, none⟩) hlt).trans G2.out
    have hlt2 : b < w2.heap.size := by have := hB.size; omega
    have hz2 : w.heap.size < w2.heap.size := R.lt
    -- the walk stands at the first call; the raw box q
    go_wp2_with fail
    clear g0 g1 g2
    have Q := Blk.new3 w2 30 (.int .i64 1) (.int .i64 0) (.slice none 0 0)
    have hb3 : Below w2.heap.size w2 (w2.alloc (.cells #[.int .i64 1, .int .i64 0, .slice none 0 0] 30)) := by (repeat' first | exact Below.refl _ _ | assumption | apply Below.alloc | apply Below.drew | apply Below.setCell | omega | (simp; done) | (simp; omega))
    generalize w2.alloc (.cells #[.int .i64 1, .int .i64 0, .slice none 0 0] 30) = w3 at Q hb3 ⊢
    replace hB := Below.on hB hb3 hB.size
    replace R := R.below hb3
    obtain ⟨q, hq⟩ : ∃ q, w2.heap.size = q := ⟨_, rfl⟩
    rw [hq] at Q hz2
    simp only [hq]
    clear hb3 hq hlt2
    have hex : ExX (fun b => b = q) w (.mk 8 n [u]) (some ⟨kb, ko, none⟩) cx := RdX.of_rd g3 (fun b h => by omega)
    -- the first kid's derivative; y1 : what comes back; box a
    refine (HIH.out u.size (by omega) u _ _ _ (Nat.le_refl _) (hu.below hB) hut (by omega)).mono ?_
    rintro f w4 ⟨y1, s1, c1, rfl, hy1, hb4⟩
    rw [← Ho1.out] at hy1 ⊢
    have hz3 := Q.lt
    replace hB := Below.on hB hb4 hB.size
    replace R := R.below hb4
    replace Q := Q.below hb4
    cases o1 with
    | none =>
      have i1 : (none : Option Ex).isSome = false := rfl
      have E1 : Hid ((Ex.mk 8 n [u]).step m x = none) := E0
      clear hy1
      -- a part has no derivative; the world is w4.alloc .int .i64 y1.kind, .int .i64 y1.num, .slice s1 y1.kids.length c1; the raw box holds 1, 0, nil
      have q0 := Q.c0
      have q1 := Q.c1
      have q2 := Q.c2
      have ltQ := Q.lt
      have r0 := R.c0
      have r1 := R.c1
      have r2 := R.c2
      have z0 := R.frozen 0
      have z1 := R.frozen 1
      have z2 := R.frozen 2
      have ltR := R.lt
      go_wp2_with fail
      have T2 := (((R.set 0 (.int .i64 1)).set 1 (.int .i64 0)).set 2 (.slice none 0 0)).alloc (.cells #[.int .i64 y1.kind, .int .i64 y1.num, .slice s1 y1.kids.length c1] 30)
      have hs5 : Spares (fun y => y = w.heap.size) w4 ((((w4.setCell ⟨w.heap.size, 0, none⟩ (.int .i64 1)).setCell ⟨w.heap.size, 1, none⟩ (.int .i64 0)).setCell ⟨w.heap.size, 2, none⟩ (.slice none 0 0)).alloc (.cells #[.int .i64 y1.kind, .int .i64 y1.num, .slice s1 y1.kids.length c1] 30)) := (Spares.set (Spares.set (Spares.set (Spares.refl w4)))).trans (Spares.of_below (Below.alloc (Below.refl _ _) (Nat.le_refl _) _))
      generalize (((w4.setCell ⟨w.heap.size, 0, none⟩ (.int .i64 1)).setCell ⟨w.heap.size, 1, none⟩ (.int .i64 0)).setCell ⟨w.heap.size, 2, none⟩ (.slice none 0 0)).alloc (.cells #[.int .i64 y1.kind, .int .i64 y1.num, .slice s1 y1.kids.length c1] 30) = w5 at T2 hs5 ⊢
      have t0 := T2.c0
      have t1 := T2.c1
      have t2 := T2.c2
      have hzB5 := hB.size
      have hB5 := hB.trans (hs5.below (B := w.heap.size) (by omega) (fun y hy => by omega))
      refine bodyPost_ret (v := .tuple #[.agg #[.int .i64 1, .int .i64 0, .slice none 0 0], .bool false]) (by simp [results, Tryz.results65, go_sem, t0, t1, t2]) rfl ?_
      rw [E1.out]
      exact ⟨.leaf 1, _, _, rfl, (fun d hd => by cases hd), hB5⟩
    | some p =>
    have i1 : (some p).isSome = true := rfl
    obtain ⟨rfl, hf1⟩ := hy1 p rfl
    obtain ⟨hp1, hp2⟩ := step_spec tm am m x _ u y1 (Nat.le_refl _) hut Ho1.out.symm
    have hdx4 : ExX (fun b => b = q) w4 y1 s1 c1 := RdX.fresh hf1 (fun b h => by omega)
    clear hy1 hf1
    have E1 : Hid ((Ex.mk 8 n [u]).step m x = limE (.two 7 y1 (.mk 8 n [u]))) := E0
    -- box a; then the drawn region
    go_wp2_with fail
    have A := Blk.new3 w4 30 (.int .i64 y1.kind) (.int .i64 y1.num) (.slice s1 y1.kids.length c1)
    have hb5 : Below w4.heap.size w4 (w4.alloc (.cells #[.int .i64 y1.kind, .int .i64 y1.num, .slice s1 y1.kids.length c1] 30)) := by (repeat' first | exact Below.refl _ _ | assumption | apply Below.alloc | apply Below.drew | apply Below.setCell | omega | (simp; done) | (simp; omega))
    generalize w4.alloc (.cells #[.int .i64 y1.kind, .int .i64 y1.num, .slice s1 y1.kids.length c1] 30) = w5 at A hb5 ⊢
    have hz4 := hb4.size
    have hz5 := hb5.size
    have hdx := hdx4.below hb5
    replace hB := Below.on hB hb5 hB.size
    replace R := R.below hb5
    replace Q := Q.below hb5
    have hB5 := hB
    have hXW : ∀ b, b = q → b < w5.heap.size := fun b h => by omega
    clear hb4 hb5 hdx4
    have hex5 := hex.below hB5
    have hbw := hB5.size
    obtain ⟨x0, hx0⟩ := mkval ?a2_0
    obtain ⟨x1, hx1⟩ := mkval ?a2_1
    obtain ⟨x2, hx2⟩ := mkval ?a2_2
    obtain ⟨x3, hx3⟩ := mkval ?a2_3
    have hGb : ∀ m b, (fun m b => (m = 0 ∧ b = q)) m b → (w.heap.size + 1) ≤ b ∧ b < (w5).heap.size := by
      intro m b hg
      rcases hg with ⟨rfl, hg⟩
      · subst hg
        have q := Q.lt
        omega
    have hGd : ∀ m m' b, (fun m b => (m = 0 ∧ b = q)) m b → (fun m b => (m = 0 ∧ b = q)) m' b → m = m' := by
      intro m m' b h h'
      rcases h with ⟨rfl, h⟩ <;> rcases h' with ⟨rfl, h'⟩ <;> first
        | rfl
    have hGX : ∀ m b, (fun m b => (m = 0 ∧ b = q)) m b → (fun b => b = q) b := by
      intro m b hg
      rcases hg with ⟨rfl, rfl⟩ <;> simp
    refine region_rs [] [(5, 0)] (fun m b => (m = 0 ∧ b = q)) (w.heap.size + 1) (fun i iv vs wx => match i with
      | 0 => vs 0 = x0
      | 1 => vs 1 = x1
      | 2 => vs 2 = x2
      | 3 => vs 3 = x3
      | 4 => ∃ gr, vs 4 = .agg #[.int .i64 7, .int .i64 0, .slice (some ⟨gr, 0, none⟩) 2 2] ∧ RdO w5 (fun b => b = q) (foot [] [(5, 0)] (fun m b => (m = 0 ∧ b = q)) 6 4 iv) wx (kidsD [y1, .mk 8 n [u]]) (.slice (some ⟨gr, 0, none⟩) 2 2)
      | 5 => Blk wx (q) 30 [aggAt (vs 4) 0, aggAt (vs 4) 1, aggAt (vs 4) 2]
      | _ => True) (fun i iv vs => match i with
      | 0 => vs 0 = x0
      | 1 => vs 1 = x1
      | 2 => vs 2 = x2
      | 3 => vs 3 = x3
      | 4 => ∃ gr, vs 4 = .agg #[.int .i64 7, .int .i64 0, .slice (some ⟨gr, 0, none⟩) 2 2]
      | 5 => True
      | _ => True) (by kernel_rfl) (by kernel_rfl) [0, 1, 2, 3, 4, 5] (by kernel_rfl) ?hbase ?hGb ?hG ?hJ ?hE ?hEE ?hstep ?hQ
    case hbase => first | exact Nat.le_refl _ | omega | (simp; omega)
    case hGb =>
      exact hGb
    case hG =>
      exact hGd
    case hJ =>
      intro i hi iv iv' vs vs' wx wx' ha hv hz hk hj
      simp only [List.mem_cons, List.not_mem_nil, or_false] at hi
      rcases hi with rfl | rfl | rfl | rfl | rfl | rfl
      · exact (hv.out 0 (mem_of (by kernel_rfl))).symm.trans hj
      · exact (hv.out 1 (mem_of (by kernel_rfl))).symm.trans hj
      · exact (hv.out 2 (mem_of (by kernel_rfl))).symm.trans hj
      · exact (hv.out 3 (mem_of (by kernel_rfl))).symm.trans hj
      · have e4 := hv.out 4 (mem_of (by kernel_rfl))
        obtain ⟨gr, q1, q2⟩ := hj
        exact ⟨gr, e4 ▸ q1, q2.keep hz (fun b hb h1 => hk.out b hb h1) (fun b h1 => foot_agree (l := ancs _ 6 4) (by exact of_decide_eq_true (by kernel_rfl)) ha.out h1)⟩
      · have e4 := hv.out 4 (mem_of (by kernel_rfl))
        have hj' : Blk wx (q) 30 [aggAt (vs 4) 0, aggAt (vs 4) 1, aggAt (vs 4) 2] := hj
        show Blk wx' (q) 30 [aggAt (vs' 4) 0, aggAt (vs' 4) 1, aggAt (vs' 4) 2]
        rw [← e4]
        exact hj'.keep (hk.out _ hj'.lt (foot_given 0 (by decide) ⟨rfl, rfl⟩))
    case hE =>
      intro i hi iv vs wx hj
      simp only [List.mem_cons, List.not_mem_nil, or_false] at hi
      rcases hi with rfl | rfl | rfl | rfl | rfl | rfl
      · exact hj
      · exact hj
      · exact hj
      · exact hj
      · obtain ⟨gr, q1, -⟩ := hj
        exact ⟨gr, q1⟩
      · trivial
    case hEE =>
      intro i hi iv iv' vs vs' ha hv hj
      simp only [List.mem_cons, List.not_mem_nil, or_false] at hi
      rcases hi with rfl | rfl | rfl | rfl | rfl | rfl
      · exact (hv.out 0 (mem_of (by kernel_rfl))).symm.trans hj
      · exact (hv.out 1 (mem_of (by kernel_rfl))).symm.trans hj
      · exact (hv.out 2 (mem_of (by kernel_rfl))).symm.trans hj
      · exact (hv.out 3 (mem_of (by kernel_rfl))).symm.trans hj
      · have e4 := hv.out 4 (mem_of (by kernel_rfl))
        have hj' : ∃ gr, vs 4 = .agg #[.int .i64 7, .int .i64 0, .slice (some ⟨gr, 0, none⟩) 2 2] := hj
        show ∃ gr, vs' 4 = .agg #[.int .i64 7, .int .i64 0, .slice (some ⟨gr, 0, none⟩) 2 2]
        rw [← e4]
        exact hj'
      · trivial
    case hstep =>
      intro i hi opr ho iv vs w1 hB hS hSo hd he hbd hsep hun K hK
      simp only [List.mem_cons, List.not_mem_nil, or_false] at hi
      have hzB := hB.size
      have hBw : Below w.heap.size w w1 := hB5.trans (hB.mono (by omega))
      have g0 := (hBw.cell (p := ⟨b, o, none⟩) hlt).trans G0.out
      have g1 := (hBw.cell (p := ⟨b, o + 1, none⟩) hlt).trans G1.out
      have g2 := (hBw.cell (p := ⟨b, o + 2, none⟩) hlt).trans G2.out
      have hlt1 : b < w1.heap.size := by have := hBw.size; omega
      have A1 := A.keep (hSo.out.block _ A.lt (fun ⟨_, _, h⟩ => by omega))
      have a0 := A1.c0
      have a1 := A1.c1
      have a2 := A1.c2
      have ltA := A1.lt
      generalize hA : putFrom _ 0 vs _ = A at hK ⊢
      simp only [putFrom, puts] at hA
      rcases hi with rfl | rfl | rfl | rfl | rfl | rfl
      all_goals
        simp at ho
        subst ho
        subst hA
      · go_wp2_with fail
        refine Onward.mk (hK ?val2_0 _ _ (fun h => by cases h) ?eqA (Spares.refl _) (fun iv' _ _ => ?ja))
        case eqA => first | rfl | (simp only [puts]; rfl)
        case ja => exact hx0.out.symm
      · go_wp2_with fail
        refine Onward.mk (hK ?val2_1 _ _ (fun h => by cases h) ?eqA (Spares.refl _) (fun iv' _ _ => ?ja))
        case eqA => first | rfl | (simp only [puts]; rfl)
        case ja => exact hx1.out.symm
      · have h1 := (hd.out 1 (mem_of (by kernel_rfl)) (by decide) (by kernel_rfl)).trans hx1.out
        go_wp2_with fail
        refine Onward.mk (hK ?val2_2 _ _ (fun h => by cases h) ?eqA (Spares.refl _) (fun iv' _ _ => ?ja))
        case eqA => first | rfl | (simp only [puts, h1]; rfl)
        case ja => exact hx2.out.symm
      · have h2 := (hd.out 2 (mem_of (by kernel_rfl)) (by decide) (by kernel_rfl)).trans hx2.out
        go_wp2_with fail
        refine Onward.mk (hK ?val2_3 _ _ (fun h => by cases h) ?eqA (Spares.refl _) (fun iv' _ _ => ?ja))
        case eqA => first | rfl | (simp only [puts, h2]; rfl)
        case ja => exact hx3.out.symm
      · have h0 := (hd.out 0 (mem_of (by kernel_rfl)) (by decide) (by kernel_rfl)).trans hx0.out
        have h3 := (hd.out 3 (mem_of (by kernel_rfl)) (by decide) (by kernel_rfl)).trans hx3.out
        go_wp2_with fail
        have hO : KeptX (fun b => b = q) w5 w1 := KeptX.of_spares hSo.out (fun b _ ⟨m, hg⟩ => hGX m b hg)
        obtain ⟨XQ, hXQ⟩ : ∃ XQ, XQ = OutX w5 (fun b => b = q) (fun b => False) w1 := ⟨_, rfl⟩
        have hXl : ∀ b, XQ b → b < w1.heap.size := by rw [hXQ]; exact OutX.lt
        have hOld : ∀ (d : D) (v : Value), RdX (fun b => b = q) w5 d v → RdX XQ w1 d v := by rw [hXQ]; exact fun d v h => h.toOut hO
        refine (l02Pair_x (X := XQ) hXl (hOld _ _ hdx) (hOld _ _ hex5)).mono ?_
        rintro e w2 ⟨gr, rfl, hr, hb⟩
        go_wp2_with fail
        rw [hXQ] at hr
        exact Onward.mk (hK (.agg #[.int .i64 7, .int .i64 0, .slice (some ⟨gr, 0, none⟩) 2 2]) _ _ (fun h => by cases h) (by first | rfl | (simp only [puts, h0, h3])) (Spares.of_below hb) (fun iv' ag hi => ⟨gr, rfl, RdO.ofX hr hb hO (fun b h => by exact h.elim) (fun b h1 h2 => foot_new hi h1 h2)⟩))
      · obtain ⟨gr, h4, f4⟩ := hd.out 4 (mem_of (by kernel_rfl)) (by decide) (by kernel_rfl)
        have Q1 := Q.keep (hS.out 0 _ (by kernel_rfl) ⟨rfl, rfl⟩)
        have qc0 := Q1.c0
        have qz0 := Q1.frozen 0
        have qc1 := Q1.c1
        have qz1 := Q1.frozen 1
        have qc2 := Q1.c2
        have qz2 := Q1.frozen 2
        have qlt := Q1.lt
        go_wp2_with fail
        exact Onward.mk (hK undef _ _ (fun _ => rfl) (by simp only [puts, h4]) ((spares_sets (b0 := q) (by repeat (first | exact Spares.refl _ | apply Spares.set))).more (fun b h => Or.inl ⟨0, by decide, ⟨rfl, h⟩⟩)) (fun iv' ag hi => by
          show Blk _ (q) 30 [aggAt (vs 4) 0, aggAt (vs 4) 1, aggAt (vs 4) 2]
          rw [h4]
          exact (((Q1.set 0 _).set 1 _).set 2 _)))
    case hQ =>
      intro iv vs wx hB hSp hd he hbd hsep
      have hzB := hB.size
      have h0 := (hd.out 0 (mem_of (by kernel_rfl)) (not_eaten (by kernel_rfl))).trans hx0.out
      have h1 := (hd.out 1 (mem_of (by kernel_rfl)) (not_eaten (by kernel_rfl))).trans hx1.out
      have h2 := (hd.out 2 (mem_of (by kernel_rfl)) (not_eaten (by kernel_rfl))).trans hx2.out
      have h3 := (hd.out 3 (mem_of (by kernel_rfl)) (not_eaten (by kernel_rfl))).trans hx3.out
      obtain ⟨gr, h4, f4⟩ := hd.out 4 (mem_of (by kernel_rfl)) (not_eaten (by kernel_rfl))
      have f5 : Blk _ (q) 30 [aggAt (vs 4) 0, aggAt (vs 4) 1, aggAt (vs 4) 2] := hd.out 5 (mem_of (by kernel_rfl)) (not_eaten (by kernel_rfl))
      simp only [putFrom, puts]
      have hOq : KeptX (fun b => b = q) w5 wx := KeptX.of_spares hSp.out (fun b _ ⟨m, hg⟩ => hGX m b hg)
      have r4 : RdX (fun b => b = q) wx (kidsD [y1, .mk 8 n [u]]) (.slice (some ⟨gr, 0, none⟩) 2 2) := f4.done hOq (fun b hf hx => by have q := foot_no (l := [0, 1, 2, 3, 4, 5]) (by kernel_rfl) (by kernel_rfl) hbd.out hf; have q' := hXW b hx; omega)
      clear f4
      -- behind the region: 4 the call
      rw [h4] at f5
      simp only [aggAt] at f5
      replace R := R.keep (hSp.out.block _ R.lt (fun ⟨_, _, h⟩ => by omega))
      replace hB : Below w.heap.size w wx := hB5.trans (hB.mono (by omega))
      replace Q : Blk wx q 30 [.int .i64 7, .int .i64 0, .slice (some ⟨gr, 0, none⟩) 2 2] := f5
      have hk2 := r4
      clear hd he hbd hsep h0 h1 h2 h3 h4 f5 hSp
      obtain ⟨w9, rfl⟩ : ∃ v, v = wx := ⟨_, rfl⟩
      go_wp2_with fail
      have hk := hk2.rd
      -- goal: what stands behind the store to the raw box; world w9; Q : the raw box holds two K X Y; hk : its kids are read; E1 : the result is limE (two K X Y)
      have hat : ExAt w9 q 0 (.two 7 y1 (.mk 8 n [u])) := Q.exAt hk
      have hsz9 : (Ex.two 7 y1 (.mk 8 n [u])).size ≤ 90000 := by rw [size_two]; omega
      refine (l01Size_all _ _ _ _ _ (Nat.le_refl _) hat (by omega)).mono ?_
      rintro f w10 ⟨rfl, rfl⟩
      clear hk
      by_cases h8 : (Ex.two 7 y1 (.mk 8 n [u])).size ≤ 800
      · have c8 : ¬ (((Ex.two 7 y1 (.mk 8 n [u])).size : Int) > 800) := by omega
        have E2 : Hid (limE (.two 7 y1 (.mk 8 n [u])) = some (Ex.two 7 y1 (.mk 8 n [u])).tidy) := by show _ = _; unfold limE; rw [if_pos h8]
        go_wp2_with fail
        refine (l02Tidy_all tm am ht ha _ _ _ _ _ (Nat.le_refl _) hat (tree_two (Or.inr rfl) hp1 hxt) hsz9).mono ?_
        rintro f w11 ⟨s11, c11, rfl, hf, hb⟩
        have hzw := R.lt
        replace hB := Below.on hB hb hB.size
        replace R := R.below hb
        clear c8 h8 hsz9
        have r0 := R.c0
        have r1 := R.c1
        have r2 := R.c2
        have z0 := R.frozen 0
        have z1 := R.frozen 1
        have z2 := R.frozen 2
        have ltR := R.lt
        go_wp2_with fail
        have T2 := ((R.set 0 (.int .i64 (Ex.two 7 y1 (.mk 8 n [u])).tidy.kind)).set 1 (.int .i64 (Ex.two 7 y1 (.mk 8 n [u])).tidy.num)).set 2 (.slice s11 (Ex.two 7 y1 (.mk 8 n [u])).tidy.kids.length c11)
        have hs5 : Spares (fun y => y = w.heap.size) w11 (((w11.setCell ⟨w.heap.size, 0, none⟩ (.int .i64 (Ex.two 7 y1 (.mk 8 n [u])).tidy.kind)).setCell ⟨w.heap.size, 1, none⟩ (.int .i64 (Ex.two 7 y1 (.mk 8 n [u])).tidy.num)).setCell ⟨w.heap.size, 2, none⟩ (.slice s11 (Ex.two 7 y1 (.mk 8 n [u])).tidy.kids.length c11)) := Spares.set (Spares.set (Spares.set (Spares.refl w11)))
        generalize (((w11.setCell ⟨w.heap.size, 0, none⟩ (.int .i64 (Ex.two 7 y1 (.mk 8 n [u])).tidy.kind)).setCell ⟨w.heap.size, 1, none⟩ (.int .i64 (Ex.two 7 y1 (.mk 8 n [u])).tidy.num)).setCell ⟨w.heap.size, 2, none⟩ (.slice s11 (Ex.two 7 y1 (.mk 8 n [u])).tidy.kids.length c11)) = w5 at T2 hs5 ⊢
        have t0 := T2.c0
        have t1 := T2.c1
        have t2 := T2.c2
        have hzB5 := hB.size
        have hB5 := hB.trans (hs5.below (B := w.heap.size) (by omega) (fun y hy => by omega))
        refine bodyPost_ret (v := .tuple #[.agg #[.int .i64 (Ex.two 7 y1 (.mk 8 n [u])).tidy.kind, .int .i64 (Ex.two 7 y1 (.mk 8 n [u])).tidy.num, .slice s11 (Ex.two 7 y1 (.mk 8 n [u])).tidy.kids.length c11], .bool true]) (by simp [results, Tryz.results65, go_sem, t0, t1, t2]) rfl ?_
        rw [E1.out, E2.out]
        exact ⟨_, _, _, rfl, fun d hd => by
          obtain rfl := Option.some.inj hd
          exact ⟨rfl, Freshs.from (Freshs.keep hf (fun y _ hy2 => hs5.block y hy2 (by omega))) (Nat.le_of_lt hzw)⟩, hB5⟩
      · have c8 : ((Ex.two 7 y1 (.mk 8 n [u])).size : Int) > 800 := by omega
        have E2 : Hid (limE (.two 7 y1 (.mk 8 n [u])) = none) := by show _ = _; unfold limE; rw [if_neg h8]
        have q0 := Q.c0
        have q1 := Q.c1
        have q2 := Q.c2
        have ltQ := Q.lt
        clear hat hsz9
        have r0 := R.c0
        have r1 := R.c1
        have r2 := R.c2
        have z0 := R.frozen 0
        have z1 := R.frozen 1
        have z2 := R.frozen 2
        have ltR := R.lt
        go_wp2_with fail
        have T2 := ((R.set 0 (.int .i64 7)).set 1 (.int .i64 0)).set 2 (.slice (some ⟨gr, 0, none⟩) 2 2)
        have hs5 : Spares (fun y => y = w.heap.size) w9 (((w9.setCell ⟨w.heap.size, 0, none⟩ (.int .i64 7)).setCell ⟨w.heap.size, 1, none⟩ (.int .i64 0)).setCell ⟨w.heap.size, 2, none⟩ (.slice (some ⟨gr, 0, none⟩) 2 2)) := Spares.set (Spares.set (Spares.set (Spares.refl w9)))
        generalize (((w9.setCell ⟨w.heap.size, 0, none⟩ (.int .i64 7)).setCell ⟨w.heap.size, 1, none⟩ (.int .i64 0)).setCell ⟨w.heap.size, 2, none⟩ (.slice (some ⟨gr, 0, none⟩) 2 2)) = w5 at T2 hs5 ⊢
        have t0 := T2.c0
        have t1 := T2.c1
        have t2 := T2.c2
        have hzB5 := hB.size
        have hB5 := hB.trans (hs5.below (B := w.heap.size) (by omega) (fun y hy => by omega))
        refine bodyPost_ret (v := .tuple #[.agg #[.int .i64 7, .int .i64 0, .slice (some ⟨gr, 0, none⟩) 2 2], .bool false]) (by simp [results, Tryz.results65, go_sem, t0, t1, t2]) rfl ?_
        rw [E1.out, E2.out]
        exact ⟨.two 7 y1 (.mk 8 n [u]), _, _, rfl, (fun d hd => by cases hd), hB5⟩
  have c8 : (k == 8) = false := by simp [h8]
  have E1 : Hid ((Ex.mk k n ks).step m x = some (.leaf 1)) := by show _ = _; exact Ex.step_else h4 h6 h7' h8
  clear htl hk h4 h6 h7' h8
  -- the raw value is returned at once
  obtain ⟨g0, g1, sx, cx, g2, g3⟩ := id hx
  simp only [Ex.kind_mk, Ex.num_mk, Ex.kids_mk] at g0 g1 g2
  skip
  have G0 := Lib.hid g0
  have G1 := Lib.hid g1
  have G2 := Lib.hid g2
  clear g0 g1 g2
  go_enter Tryz.func65, Tryz.ntmps65
  go_wp2_with fail
  have R := Blk.new3 w 30 (.int .i64 0) (.int .i64 0) (.slice none 0 0)
  have hB : Below w.heap.size w (w.alloc (.cells #[.int .i64 0, .int .i64 0, .slice none 0 0] 30)) := by (repeat' first | exact Below.refl _ _ | assumption | apply Below.alloc | apply Below.drew | apply Below.setCell | omega | (simp; done) | (simp; omega))
  have hz0 : (w.alloc (.cells #[.int .i64 0, .int .i64 0, .slice none 0 0] 30)).heap.size = w.heap.size + 1 := by simp
  generalize w.alloc (.cells #[.int .i64 0, .int .i64 0, .slice none 0 0] 30) = w1 at R hB hz0 ⊢
  refine (l02Zero_v).mono ?_
  rintro f w2 ⟨rfl, hb⟩
  replace hB := Below.on hB hb hB.size
  replace R := R.below hb
  clear hb
  have g0 := (hB.cell (p := ⟨b, o, none⟩) hlt).trans G0.out
  have g1 := (hB.cell (p := ⟨b, o + 1, none⟩) hlt).trans G1.out
  have g2 := (hB.cell (p := ⟨b, o + 2, none⟩) hlt).trans G2.out
  have hlt2 : b < w2.heap.size := by have := hB.size; omega
  have hz2 : w.heap.size < w2.heap.size := R.lt
  have r0 := R.c0
  have r1 := R.c1
  have r2 := R.c2
  have z0 := R.frozen 0
  have z1 := R.frozen 1
  have z2 := R.frozen 2
  have ltR := R.lt
  go_wp2_with fail
  have T2 := (((R.set 0 (.int .i64 1)).set 1 (.int .i64 0)).set 2 (.slice none 0 0)).alloc (.cells #[.int .i64 1, .int .i64 0, .slice none 0 0] 30)
  have hs5 : Spares (fun y => y = w.heap.size) w2 ((((w2.setCell ⟨w.heap.size, 0, none⟩ (.int .i64 1)).setCell ⟨w.heap.size, 1, none⟩ (.int .i64 0)).setCell ⟨w.heap.size, 2, none⟩ (.slice none 0 0)).alloc (.cells #[.int .i64 1, .int .i64 0, .slice none 0 0] 30)) := (Spares.set (Spares.set (Spares.set (Spares.refl w2)))).trans (Spares.of_below (Below.alloc (Below.refl _ _) (Nat.le_refl _) _))
  generalize (((w2.setCell ⟨w.heap.size, 0, none⟩ (.int .i64 1)).setCell ⟨w.heap.size, 1, none⟩ (.int .i64 0)).setCell ⟨w.heap.size, 2, none⟩ (.slice none 0 0)).alloc (.cells #[.int .i64 1, .int .i64 0, .slice none 0 0] 30) = w5 at T2 hs5 ⊢
  have t0 := T2.c0
  have t1 := T2.c1
  have t2 := T2.c2
  have hzB5 := hB.size
  have hB5 := hB.trans (hs5.below (B := w.heap.size) (by omega) (fun y hy => by omega))
  refine bodyPost_ret (v := .tuple #[.agg #[.int .i64 1, .int .i64 0, .slice none 0 0], .bool true]) (by simp [results, Tryz.results65, go_sem, t0, t1, t2]) rfl ?_
  rw [E1.out]
  exact ⟨.leaf 1, none, 0, rfl, fun d hd => by obtain rfl := Option.some.inj hd; exact ⟨rfl, nil_freshs⟩, hB5⟩
end Go.Proofs.YtjlmdhoajfdkbaaGreatDoor

namespace Go.Proofs.YtjlmdhoajfdkbaaGreatDoor
set_option linter.unusedVariables false
set_option linter.unusedSimpArgs false
open Go.ChangeShapes Go.WideShapes Go.ChangeAt Go.RowKit Go.Deep Go.Sort
theorem step_some' {tm am m x : Int} (ht2 : tm ≤ 2) (ha : am ≤ 8) (h0 : 0 ≤ m) (h7 : m ≤ 7) {e d : Ex} {b o : Nat} {w : World} (hx : ExAt w b o e) (htr : e.tree tm am = true) (hs : e.size ≤ 10000) (ho : Hid (e.step m x = some d)) :
    Calls Tryz.prog 65 #[.pointer (some ⟨b, o, none⟩), .int .i64 m, .int .i64 x] w fun f w' => ∃ s' c', f = .returned (.tuple #[.agg #[.int .i64 d.kind, .int .i64 d.num, .slice s' d.kids.length c'], .bool true]) ∧ Freshs w w' [kidsD d.kids] [.slice s' d.kids.length c'] ∧ Below w.heap.size w w' := by
  have := l02Step_all tm am m x ht2 ha h0 h7 _ e b o w (Nat.le_refl _) hx htr hs
  rw [ho.out] at this
  exact this.mono fun _ _ ⟨y, s', c', h1, h2, h3⟩ => by obtain ⟨rfl, h4⟩ := h2 d rfl; exact ⟨s', c', h1, h4, h3⟩
theorem step_none' {tm am m x : Int} (ht2 : tm ≤ 2) (ha : am ≤ 8) (h0 : 0 ≤ m) (h7 : m ≤ 7) {e : Ex} {b o : Nat} {w : World} (hx : ExAt w b o e) (htr : e.tree tm am = true) (hs : e.size ≤ 10000) (ho : Hid (e.step m x = none)) :
    Calls Tryz.prog 65 #[.pointer (some ⟨b, o, none⟩), .int .i64 m, .int .i64 x] w fun f w' => ∃ (y : Ex) (s' : Option Addr) (c' : Nat), f = .returned (.tuple #[.agg #[.int .i64 y.kind, .int .i64 y.num, .slice s' y.kids.length c'], .bool false]) ∧ Below w.heap.size w w' := by
  have := l02Step_all tm am m x ht2 ha h0 h7 _ e b o w (Nat.le_refl _) hx htr hs
  rw [ho.out] at this
  exact this.mono fun _ _ ⟨y, s', c', h1, h2, h3⟩ => ⟨y, s', c', h1, h3⟩
end Go.Proofs.YtjlmdhoajfdkbaaGreatDoor

namespace Go.Proofs.YtjlmdhoajfdkbaaGreatDoor
set_option linter.unusedVariables false
set_option linter.unusedSimpArgs false
open Go.ChangeShapes Go.WideShapes Go.ChangeAt Go.RowKit Go.Deep Go.Sort
theorem derived_some {tm am m x : Int} (ht2 : tm ≤ 2) (ha : am ≤ 8) (h0 : 0 ≤ m) (h7 : m ≤ 7) {X : Nat → Prop} {e d : Ex} {s : Option Addr} {c : Nat} {w : World} (hX : ∀ b, X b → b < w.heap.size) (hx : ExX X w e s c) (htr : e.tree tm am = true) (hs : e.size ≤ 10000) (ho : Hid (e.step m x = some d)) :
    Calls Tryz.prog 70 #[.agg #[.int .i64 e.kind, .int .i64 e.num, .slice s e.kids.length c], .int .i64 m, .int .i64 x] w fun f w' => ∃ s' c', f = .returned (.tuple #[.agg #[.int .i64 d.kind, .int .i64 d.num, .slice s' d.kids.length c'], .bool true]) ∧ ExX X w' d s' c' ∧ Below w.heap.size w w' := by
  have := derived_all tm am m x ht2 ha h0 h7 _ e X s c w (Nat.le_refl _) hX hx htr hs
  rw [ho.out] at this
  exact this
theorem derived_none {tm am m x : Int} (ht2 : tm ≤ 2) (ha : am ≤ 8) (h0 : 0 ≤ m) (h7 : m ≤ 7) {X : Nat → Prop} {e : Ex} {s : Option Addr} {c : Nat} {w : World} (hX : ∀ b, X b → b < w.heap.size) (hx : ExX X w e s c) (htr : e.tree tm am = true) (hs : e.size ≤ 10000) (ho : Hid (e.step m x = none)) :
    Calls Tryz.prog 70 #[.agg #[.int .i64 e.kind, .int .i64 e.num, .slice s e.kids.length c], .int .i64 m, .int .i64 x] w fun f w' => ∃ s' c', f = .returned (.tuple #[.agg #[.int .i64 0, .int .i64 0, .slice s' 0 c'], .bool false]) ∧ Below w.heap.size w w' := by
  have := derived_all tm am m x ht2 ha h0 h7 _ e X s c w (Nat.le_refl _) hX hx htr hs
  rw [ho.out] at this
  exact this.mono fun _ _ ⟨s', c', h1, _, h3⟩ => ⟨s', c', h1, h3⟩
end Go.Proofs.YtjlmdhoajfdkbaaGreatDoor

namespace Go.Proofs.YtjlmdhoajfdkbaaGreatDoor
set_option linter.unusedVariables false
set_option linter.unusedSimpArgs false
def grid {β : Type} (f : Nat → Nat → β) (A a : Nat) : List β := ((List.range A).map fun m => (List.range a).map (f m)).flatten
theorem grid_succ {β : Type} (f : Nat → Nat → β) (A a : Nat) : grid f (A + 1) a = grid f A a ++ (List.range a).map (f A) := by
  unfold grid
  rw [List.range_succ, List.map_append, List.flatten_append]
  simp
theorem grid_len {β : Type} (f : Nat → Nat → β) (a : Nat) : ∀ A, (grid f A a).length = A * a
  | 0 => by simp [grid]
  | A + 1 => by rw [grid_succ, List.length_append, grid_len f a A, Nat.succ_mul]; simp
theorem grid_at {β : Type} (f : Nat → Nat → β) {a m k : Nat} (hk : k < a) : ∀ {A : Nat}, m < A → (grid f A a)[m * a + k]? = some (f m k)
  | 0, h => absurd h (Nat.not_lt_zero _)
  | A + 1, h => by
    rw [grid_succ]
    by_cases hm : m < A
    · rw [List.getElem?_append_left]
      · exact grid_at f hk hm
      · rw [grid_len]
        have h1 : (m + 1) * a ≤ A * a := Nat.mul_le_mul_right a hm
        rw [Nat.succ_mul] at h1
        omega
    · obtain rfl : m = A := by omega
      rw [List.getElem?_append_right (by rw [grid_len]; omega), grid_len, show m * a + k - m * a = k by omega, List.getElem?_map, List.getElem?_range hk]
      rfl
theorem grid_mem {β : Type} {f : Nat → Nat → β} {A a : Nat} {x : β} (h : x ∈ grid f A a) : ∃ m k, m < A ∧ k < a ∧ f m k = x := by
  unfold grid at h
  obtain ⟨r, hr, hx⟩ := List.mem_flatten.1 h
  obtain ⟨m, hm, rfl⟩ := List.mem_map.1 hr
  obtain ⟨k, hk, rfl⟩ := List.mem_map.1 hx
  exact ⟨m, k, List.mem_range.1 hm, List.mem_range.1 hk, rfl⟩
section
variable {α : Type} [DecidableEq α]
def curG (s : α) (f : Nat → Nat → α → Option α) (A a i : Nat) (x : α) (m k : Nat) : List α := upto (expl s (fun y => grid (fun m k => f m k y) A a) i) (grid (fun m k => f m k x) A a) (m * a + k)
variable {s : α} {f : Nat → Nat → α → Option α} {A a i : Nat} {x : α}
theorem curG_zero : curG s f A a i x 0 0 = expl s (fun y => grid (fun m k => f m k y) A a) i := by
  unfold curG
  rw [Nat.zero_mul, upto_zero]
theorem curG_line {m : Nat} : curG s f A a i x m a = curG s f A a i x (m + 1) 0 := by
  unfold curG
  rw [Nat.succ_mul, Nat.add_zero]
theorem curG_cell {m k : Nat} (hm : m < A) (hk : k < a) : curG s f A a i x m (k + 1) = grow1 (curG s f A a i x m k) (f m k x) := by
  unfold curG
  rw [← Nat.add_assoc]
  exact upto_succ (grid_at (fun m k => f m k x) hk hm)
theorem curG_all (h : (expl s (fun y => grid (fun m k => f m k y) A a) i)[i]? = some x) : curG s f A a i x A 0 = expl s (fun y => grid (fun m k => f m k y) A a) (i + 1) := by
  unfold curG
  rw [upto_all (by rw [grid_len]; omega), expl_succ h]
theorem curG_prefix {m k : Nat} (h : (expl s (fun y => grid (fun m k => f m k y) A a) i)[i]? = some x) : curG s f A a i x m k <+: expl s (fun y => grid (fun m k => f m k y) A a) (i + 1) := by
  rw [expl_succ h, ← upto_all (L := expl s (fun y => grid (fun m k => f m k y) A a) i) (ss := grid (fun m k => f m k x) A a) (Nat.le_refl _)]
  unfold curG
  by_cases hl : m * a + k ≤ (grid (fun m k => f m k x) A a).length
  · exact upto_le hl
  · rw [upto_all (by omega), upto_all (Nat.le_refl _)]
    exact List.prefix_refl _
theorem curG_nodup {m k : Nat} : (curG s f A a i x m k).Nodup := upto_nodup (expl_nodup _ _ _) _ _
theorem curG_old {m k : Nat} : expl s (fun y => grid (fun m k => f m k y) A a) i <+: curG s f A a i x m k := upto_prefix _ _ _
theorem growL_all {P : α → Prop} : ∀ (ss : List (Option α)) (L : List α), (∀ y ∈ L, P y) → (∀ y, some y ∈ ss → P y) → ∀ y ∈ growL L ss, P y
  | [], _, h, _ => h
  | o :: r, L, h, hs => by
    refine growL_all r (grow1 L o) (fun y hy => ?_) (fun y hy => hs y (List.mem_cons_of_mem _ hy))
    cases o with
    | none => exact h y hy
    | some z =>
      by_cases hz : z ∈ L
      · rw [grow1_old hz] at hy; exact h y hy
      · rw [grow1_new hz] at hy
        rcases List.mem_append.1 hy with hy | hy
        · exact h y hy
        · rw [List.mem_singleton] at hy
          subst hy
          exact hs y (List.mem_cons_self ..)
theorem expl_all {P : α → Prop} (hs : P s) (hf : ∀ y, P y → ∀ m k, m < A → k < a → ∀ z, f m k y = some z → P z) : ∀ i, ∀ y ∈ expl s (fun y => grid (fun m k => f m k y) A a) i, P y
  | 0 => fun y hy => by simp [expl] at hy; subst hy; exact hs
  | i + 1 => fun y hy => by
    have ih := expl_all hs hf i
    cases hx : (expl s (fun y => grid (fun m k => f m k y) A a) i)[i]? with
    | none => simp only [expl, hx] at hy; exact ih y hy
    | some x =>
      rw [expl_succ hx] at hy
      refine growL_all _ _ ih (fun z hz => ?_) y hy
      obtain ⟨m, k, hm, hk, h⟩ := grid_mem hz
      exact hf x (ih x (List.mem_of_getElem? hx)) m k hm hk z h
end
noncomputable def nxtE (m x : Nat) (e : Ex) : Option Ex := (e.step m x).bind fun d => if d.kind = 1 then none else some d
noncomputable def stL (A a : Nat) (e : Ex) (i : Nat) : List Ex := expl e.tidy (fun y => grid (fun m k => nxtE m k y) A a) i
noncomputable def stC (A a : Nat) (e : Ex) (i : Nat) (x : Ex) (m k : Nat) : List Ex := curG e.tidy nxtE A a i x m k
def stOk (A a : Nat) (e : Ex) : Prop := (stL A a e 60).length ≤ 60 ∧ ∀ y ∈ stL A a e 60, ∀ m k, m < A → k < a → y.step m k ≠ none
noncomputable def rowE (L : List Ex) (a m : Nat) (x : Ex) : List Int := (List.range a).map fun k => numO L (nxtE m k x)
noncomputable def rowsE (L : List Ex) (A a : Nat) (x : Ex) : List (List Int) := (List.range A).map fun m => rowE L a m x
noncomputable def stN (A a : Nat) (e : Ex) : List (List (List Int)) := (stL A a e 60).map (rowsE (stL A a e 60) A a)
theorem stL_spec {tm am : Int} {A a : Nat} {e : Ex} (ht : e.tree tm am = true) (hs : e.size ≤ 200) (i : Nat) : ∀ y ∈ stL A a e i, y.tree tm am = true ∧ y.size ≤ 800 := by
  refine expl_all ?_ ?_ i
  · have := tidy_spec tm am _ e (Nat.le_refl _) ht
    exact ⟨this.1, by omega⟩
  · intro y hy m k _ _ z hz
    unfold nxtE at hz
    obtain ⟨d, hd, h⟩ := Option.bind_eq_some_iff.1 hz
    split at h
    · cases h
    · obtain rfl := Option.some.inj h
      exact step_spec tm am m k _ y d (Nat.le_refl _) hy.1 hd
theorem stL_prefix {A a : Nat} {e : Ex} {i : Nat} (h : i ≤ 60) : stL A a e i <+: stL A a e 60 := expl_prefix _ _ h
theorem stC_zero {A a : Nat} {e : Ex} {i : Nat} {x : Ex} : stC A a e i x 0 0 = stL A a e i := curG_zero
theorem stC_line {A a : Nat} {e : Ex} {i : Nat} {x : Ex} {m : Nat} : stC A a e i x m a = stC A a e i x (m + 1) 0 := curG_line
theorem stC_cell {A a : Nat} {e : Ex} {i : Nat} {x : Ex} {m k : Nat} (hm : m < A) (hk : k < a) : stC A a e i x m (k + 1) = grow1 (stC A a e i x m k) (nxtE m k x) := curG_cell hm hk
theorem stC_all {A a : Nat} {e : Ex} {i : Nat} {x : Ex} (h : (stL A a e i)[i]? = some x) : stC A a e i x A 0 = stL A a e (i + 1) := curG_all h
theorem stC_prefix {A a : Nat} {e : Ex} {i : Nat} {x : Ex} {m k : Nat} (h : (stL A a e i)[i]? = some x) (hi : i < 60) : stC A a e i x m k <+: stL A a e 60 := (curG_prefix h).trans (stL_prefix (by omega))
theorem stC_old {A a : Nat} {e : Ex} {i : Nat} {x : Ex} {m k : Nat} : stL A a e i <+: stC A a e i x m k := curG_old
theorem stC_nodup {A a : Nat} {e : Ex} {i : Nat} {x : Ex} {m k : Nat} : (stC A a e i x m k).Nodup := curG_nodup
theorem stC_spec {tm am : Int} {A a : Nat} {e : Ex} (ht : e.tree tm am = true) (hs : e.size ≤ 200) {i : Nat} {x : Ex} {m k : Nat} (h : (stL A a e i)[i]? = some x) (hi : i < 60) : ∀ y ∈ stC A a e i x m k, y.tree tm am = true ∧ y.size ≤ 800 :=
  fun y hy => stL_spec ht hs 60 y ((stC_prefix h hi).subset hy)
theorem stL_at {A a : Nat} {e : Ex} {i : Nat} {x : Ex} {m k : Nat} (h : (stL A a e i)[i]? = some x) : (stC A a e i x m k)[i]? = some x := prefix_get stC_old h
theorem stOk_bad {A a : Nat} {e : Ex} {i : Nat} {x : Ex} {m k : Nat} (h : (stL A a e i)[i]? = some x) (hi : i < 60) (hm : m < A) (hk : k < a) (hn : x.step m k = none) : ¬ stOk A a e :=
  fun hok => hok.2 x ((stL_prefix (by omega)).subset (List.mem_of_getElem? h)) m k hm hk hn
theorem stOk_many {A a : Nat} {e : Ex} {i : Nat} {x : Ex} {m k : Nat} (h : (stL A a e i)[i]? = some x) (hi : i < 60) (hl : 60 < (stC A a e i x m k).length) : ¬ stOk A a e :=
  fun hok => by have := prefix_length (stC_prefix (m := m) (k := k) h hi); have := hok.1; omega
theorem stOk_many' {A a : Nat} {e : Ex} {i : Nat} (hi : i ≤ 60) (hl : 60 < (stL A a e i).length) : ¬ stOk A a e :=
  fun hok => by have := prefix_length (stL_prefix (A := A) (a := a) (e := e) hi); have := hok.1; omega
theorem stL_done {A a : Nat} {e : Ex} {i : Nat} (hd : (stL A a e i).length ≤ i) (hi : i ≤ 60) : stL A a e 60 = stL A a e i := expl_stop hd 60 hi
theorem stOk_done {A a : Nat} {e : Ex} {i : Nat} (hd : (stL A a e i).length ≤ i) (hi : i ≤ 60) (hg : ∀ j x, j < i → (stL A a e j)[j]? = some x → ∀ m k, m < A → k < a → x.step m k ≠ none) : stOk A a e := by
  have hf := stL_done hd hi
  refine ⟨by rw [hf]; omega, fun y hy m k hm hk => ?_⟩
  rw [hf] at hy
  obtain ⟨j, hj⟩ := List.mem_iff_getElem?.1 hy
  have hj' := (List.getElem?_eq_some_iff.1 hj).1
  have hji : j < i := by omega
  have hpos : j < (stL A a e j).length := by
    rcases Nat.lt_or_ge j (stL A a e j).length with h | h
    · exact h
    · have h1 := expl_stop (s := e.tidy) (succ := fun y => grid (fun m k => nxtE m k y) A a) (k := j) h i (by omega)
      have h2 : stL A a e i = stL A a e j := h1
      rw [h2] at hj'
      omega
  have hjj : (stL A a e j)[j]? = some y := by
    have h1 : (stL A a e j)[j]? = some (stL A a e j)[j] := List.getElem?_eq_getElem hpos
    have h2 := prefix_get (expl_prefix e.tidy (fun y => grid (fun m k => nxtE m k y) A a) (show j ≤ i by omega)) h1
    have h3 : (stL A a e i)[j]? = some (stL A a e j)[j] := h2
    rw [hj] at h3
    rw [h1, ← h3]
  exact hg j y hji hjj m k hm hk
theorem numO_st {A a : Nat} {e : Ex} {i : Nat} {x : Ex} {m k m' k' : Nat} (h : (stL A a e i)[i]? = some x) (hi : i < 60) (hm : ∀ d, nxtE m' k' x = some d → d ∈ stC A a e i x m k) : numO (stC A a e i x m k) (nxtE m' k' x) = numO (stL A a e 60) (nxtE m' k' x) := by
  obtain ⟨L, hL⟩ : ∃ L, L = stL A a e 60 := ⟨_, rfl⟩
  have hp := stC_prefix (m := m) (k := k) h hi
  rw [← hL] at hp ⊢
  cases hd : nxtE m' k' x with
  | none => simp only [numO]
  | some d =>
    simp only [numO]
    rw [idxOf_prefix hp (hm d hd)]
theorem stC_mem {A a : Nat} {e : Ex} {i : Nat} {x : Ex} {m k : Nat} (hm : m < A) (hk : k < a) {d : Ex} (hd : nxtE m k x = some d) : d ∈ stC A a e i x m (k + 1) := by
  rw [stC_cell hm hk, hd]
  exact grow1_mem
theorem num_at {A a : Nat} {e : Ex} {i : Nat} {x : Ex} {m k : Nat} (h : (stL A a e i)[i]? = some x) (hi : i < 60) (hm : m < A) (hk : k < a) {d : Ex} (hd : nxtE m k x = some d) :
    ((stC A a e i x m (k + 1)).idxOf d : Int) = numO (stL A a e 60) (nxtE m k x) := by
  have := numO_st (m := m) (k := k + 1) (m' := m) (k' := k) h hi (fun d' hd' => stC_mem hm hk hd')
  rw [← this, hd]
  rfl
theorem rowE_len (L : List Ex) (a m : Nat) (x : Ex) : (rowE L a m x).length = a := by simp [rowE]
theorem rowE_take {L : List Ex} {a m k : Nat} {x : Ex} (hk : k < a) : (rowE L a m x).take (k + 1) = (rowE L a m x).take k ++ [numO L (nxtE m k x)] := by
  have hl : k < (rowE L a m x).length := by rw [rowE_len]; exact hk
  rw [List.take_succ_eq_append_getElem hl]
  simp [rowE]
theorem rowsE_len (L : List Ex) (A a : Nat) (x : Ex) : (rowsE L A a x).length = A := by simp [rowsE]
theorem rowsE_take {L : List Ex} {A a m : Nat} {x : Ex} (hm : m < A) : (rowsE L A a x).take (m + 1) = (rowsE L A a x).take m ++ [rowE L a m x] := by
  have hl : m < (rowsE L A a x).length := by rw [rowsE_len]; exact hm
  rw [List.take_succ_eq_append_getElem hl]
  simp [rowsE]
noncomputable def stR (A a : Nat) (e : Ex) (i : Nat) : List (List (List Int)) := ((stL A a e 60).take i).map (rowsE (stL A a e 60) A a)
theorem stR_succ {A a : Nat} {e : Ex} {i : Nat} {x : Ex} (h : (stL A a e i)[i]? = some x) (hi : i < 60) : stR A a e (i + 1) = stR A a e i ++ [rowsE (stL A a e 60) A a x] := by
  have h1 := prefix_get (stL_prefix (A := A) (a := a) (e := e) (show i ≤ 60 by omega)) h
  obtain ⟨hl, h2⟩ := List.getElem?_eq_some_iff.1 h1
  unfold stR
  rw [List.take_succ_eq_append_getElem hl, List.map_append, h2]
  rfl
theorem stR_done {A a : Nat} {e : Ex} {i : Nat} (hd : (stL A a e i).length ≤ i) (hi : i ≤ 60) : stR A a e i = stN A a e := by
  unfold stR stN
  rw [List.take_of_length_le (by rw [stL_done hd hi]; exact hd)]
end Go.Proofs.YtjlmdhoajfdkbaaGreatDoor

namespace Go.Proofs.YtjlmdhoajfdkbaaGreatDoor
set_option linter.unusedVariables false
set_option linter.unusedSimpArgs false
open Go.ChangeShapes Go.WideShapes Go.ChangeAt Go.RowKit Go.Deep
noncomputable def findI (L : List Ex) (d : Ex) : Int := if d ∈ L then (L.idxOf d : Int) else -1
theorem findI_bd (L : List Ex) (d : Ex) : -1 ≤ findI L d ∧ findI L d < (L.length : Int) := by
  unfold findI
  split
  · rename_i h
    have := List.idxOf_lt_length_of_mem h
    omega
  · omega
set_option maxHeartbeats 4000000 in
theorem l02Find_i {L : List Ex} {d : Ex} {s : Option Addr} {c b o : Nat} {w : World} (hr : Rd w (kidsD L) (.slice s L.length c)) (hd : ExAt w b o d) (hn : L.Nodup) :
    Calls Tryz.prog 133 #[.slice s L.length c, .pointer (some ⟨b, o, none⟩)] w fun f w' => f = .returned (.int .i64 (findI L d)) ∧ Below w.heap.size w w' := by
  obtain ⟨-, hl, hcap, -, -⟩ := kid_at hr
  unfold maxLen at hcap
  have Hn := Lib.hid hn
  clear hn
  go_enter Tryz.func133, Tryz.ntmps133
  go_wp2_with fail
  go_loopw [5] (fun i wr => ∃ k : Nat, k ≤ L.length ∧ i = .int .i64 k ∧ Hid (∀ j, j < k → L[j]? ≠ some d) ∧ Below w.heap.size w wr) (fun i _ => L.length - (intOf i).toNat)
  case atStart => exact ⟨0, by omega, rfl, fun j hj => by omega, Below.refl _ _⟩
  case round =>
    obtain ⟨k, hk, rfl, Hno, hB⟩ := hrel
    have hk0 := Int.natCast_nonneg k
    by_cases hlt : k < L.length
    · obtain ⟨x, hx⟩ : ∃ x, L[k]? = some x := ⟨_, List.getElem?_eq_getElem hlt⟩
      obtain ⟨kb, ko, rfl⟩ := kid_some hr (by intro h; rw [h] at hlt; simp at hlt)
      have hk1 : (k : Int) < (L.length : Int) := by omega
      have hxa := kid_exAt (hr.below hB) hx
      have Hx := Lib.hid hx
      clear hx
      go_wp2_with fail
      refine (l01Same_all _ x d _ _ _ _ _ (Nat.le_refl _) hxa (hd.below hB)).mono ?_
      rintro f w2 ⟨rfl, hb⟩
      have hB2 := Below.on hB hb hB.size
      cases he : eqb x d
      · have hne : ¬ x = d := fun h => by rw [eqb_true h] at he; cases he
        have Hno2 : Hid (∀ j, j < k + 1 → L[j]? ≠ some d) := fun j hj => by
          by_cases hjk : j = k
          · subst hjk
            rw [Hx.out]
            intro h
            exact hne (Option.some.inj h)
          · exact Hno.out j (by omega)
        clear he hne hb hxa
        go_wp2_with fail
        go_roundw
        case rel => exact ⟨k + 1, by omega, by go_num, Hno2, hB2⟩
        case measure => simp [intOf]; omega
      · have hxd := eqb_iff.1 he
        have E1 : Hid (findI L d = (k : Int)) := by
          show _ = _
          subst hxd
          unfold findI
          rw [if_pos (List.mem_of_getElem? Hx.out), idxOf_at Hn.out Hx.out]
        clear he hxd hb hxa
        go_wp2_with fail
        go_ret
        exact ⟨ret_int E1.out.symm, hB2⟩
    · obtain rfl : k = L.length := by omega
      have E1 : Hid (findI L d = -1) := by
        show _ = _
        unfold findI
        rw [if_neg]
        intro h
        obtain ⟨j, hj⟩ := List.mem_iff_getElem?.1 h
        exact Hno.out j (List.getElem?_eq_some_iff.1 hj).1 hj
      go_wp2_with fail
      go_ret
      exact ⟨ret_int E1.out.symm, hB⟩
end Go.Proofs.YtjlmdhoajfdkbaaGreatDoor

namespace Go.Proofs.YtjlmdhoajfdkbaaGreatDoor
set_option linter.unusedVariables false
set_option linter.unusedSimpArgs false
open Classical in
noncomputable def stLL (A a : Nat) (e : Ex) : List Ex := if stOk A a e then stL A a e 60 else []
open Classical in
noncomputable def stNN (A a : Nat) (e : Ex) : List (List (List Int)) := if stOk A a e then stN A a e else []
open Classical in
noncomputable def stCC (A a : Nat) (e : Ex) : Int := if stOk A a e then 0 else 3
theorem stLL_yes {A a : Nat} {e : Ex} (h : stOk A a e) : stLL A a e = stL A a e 60 ∧ stNN A a e = stN A a e ∧ stCC A a e = 0 := ⟨if_pos h, if_pos h, if_pos h⟩
theorem stLL_no {A a : Nat} {e : Ex} (h : ¬ stOk A a e) : stLL A a e = [] ∧ stNN A a e = [] ∧ stCC A a e = 3 := ⟨if_neg h, if_neg h, if_neg h⟩
def GoodTo (a : Nat) (x : Ex) (m k : Nat) : Prop := ∀ m' k' : Nat, k' < a → (m' < m ∨ (m' = m ∧ k' < k)) → x.step m' k' ≠ none
theorem GoodTo.zero {a : Nat} {x : Ex} : GoodTo a x 0 0 := fun _ _ _ h => by omega
theorem GoodTo.cell {a : Nat} {x : Ex} {m k : Nat} (h : GoodTo a x m k) (hs : x.step m k ≠ none) : GoodTo a x m (k + 1) := fun m' k' hk h' => by
  by_cases he : m' = m ∧ k' = k
  · rw [he.1, he.2]; exact hs
  · exact h m' k' hk (by omega)
theorem GoodTo.line {a : Nat} {x : Ex} {m : Nat} (h : GoodTo a x m a) : GoodTo a x (m + 1) 0 := fun m' k' hk h' => h m' k' hk (by omega)
def GoodL (A a : Nat) (e : Ex) (i : Nat) : Prop := ∀ j x, j < i → (stL A a e j)[j]? = some x → ∀ m k : Nat, m < A → k < a → x.step m k ≠ none
theorem GoodL.zero {A a : Nat} {e : Ex} : GoodL A a e 0 := fun _ _ h => by omega
theorem GoodL.succ {A a : Nat} {e : Ex} {i : Nat} {x : Ex} (h : GoodL A a e i) (hx : (stL A a e i)[i]? = some x) (hg : GoodTo a x A 0) : GoodL A a e (i + 1) := fun j y hj hy m k hm hk => by
  by_cases he : j = i
  · subst he
    rw [hx] at hy
    obtain rfl := Option.some.inj hy
    exact hg m k hk (by omega)
  · exact h j y (by omega) hy m k hm hk
theorem nxtE_dead {m k : Nat} {x d : Ex} (h : x.step m k = some d) (hk : d.kind = 1) : nxtE m k x = none := by unfold nxtE; rw [h]; simp [hk]
theorem nxtE_live {m k : Nat} {x d : Ex} (h : x.step m k = some d) (hk : ¬ d.kind = 1) : nxtE m k x = some d := by unfold nxtE; rw [h]; simp [hk]
theorem stC_dead {A a : Nat} {e : Ex} {i : Nat} {x : Ex} {m k : Nat} (hm : m < A) (hk : k < a) (h : nxtE m k x = none) : stC A a e i x m (k + 1) = stC A a e i x m k := by rw [stC_cell hm hk, h]; rfl
theorem stC_was {A a : Nat} {e : Ex} {i : Nat} {x : Ex} {m k : Nat} (hm : m < A) (hk : k < a) {d : Ex} (h : nxtE m k x = some d) (hin : d ∈ stC A a e i x m k) : stC A a e i x m (k + 1) = stC A a e i x m k := by rw [stC_cell hm hk, h, grow1_old hin]
theorem stC_new {A a : Nat} {e : Ex} {i : Nat} {x : Ex} {m k : Nat} (hm : m < A) (hk : k < a) {d : Ex} (h : nxtE m k x = some d) (hin : d ∉ stC A a e i x m k) : stC A a e i x m (k + 1) = stC A a e i x m k ++ [d] := by rw [stC_cell hm hk, h, grow1_new hin]
theorem grow1_len {α : Type} [DecidableEq α] (L : List α) (o : Option α) : (grow1 L o).length ≤ L.length + 1 := by
  cases o with
  | none => show L.length ≤ _; omega
  | some x =>
    by_cases h : x ∈ L
    · rw [grow1_old h]; omega
    · rw [grow1_new h]; simp
theorem growL_len' {α : Type} [DecidableEq α] : ∀ (ss : List (Option α)) (L : List α), (growL L ss).length ≤ L.length + ss.length
  | [], L => by simp [growL]
  | o :: r, L => by
    have h1 := growL_len' r (grow1 L o)
    have h2 := grow1_len L o
    show (growL (grow1 L o) r).length ≤ _
    rw [List.length_cons]
    omega
theorem stC_len {A a : Nat} {e : Ex} {i : Nat} {x : Ex} {m k : Nat} (hA : A ≤ 8) (ha : a ≤ 4) : (stC A a e i x m k).length ≤ (stL A a e i).length + 32 := by
  have h1 := growL_len' ((grid (fun m k => nxtE m k x) A a).take (m * a + k)) (stL A a e i)
  have h2 : (grid (fun m k => nxtE m k x) A a).length ≤ 32 := by rw [grid_len]; exact Nat.mul_le_mul hA ha
  rw [List.length_take] at h1
  have h3 : (stC A a e i x m k).length ≤ (stL A a e i).length + min (m * a + k) (grid (fun m k => nxtE m k x) A a).length := h1
  omega
theorem st_dead {L : List Ex} {x : Ex} {m k : Nat} (h : nxtE m k x = none) : numO L (nxtE m k x) = -1 := by rw [h]; simp only [numO]
theorem st_was {A a : Nat} {e : Ex} {i : Nat} {x : Ex} {m k : Nat} (h : (stL A a e i)[i]? = some x) (hi : i < 60) (hm : m < A) (hk : k < a) {d : Ex} (hd : nxtE m k x = some d) (hin : d ∈ stC A a e i x m k) : numO (stL A a e 60) (nxtE m k x) = findI (stC A a e i x m k) d := by
  rw [← num_at h hi hm hk hd, stC_was hm hk hd hin]
  unfold findI
  rw [if_pos hin]
theorem st_new {A a : Nat} {e : Ex} {i : Nat} {x : Ex} {m k : Nat} (h : (stL A a e i)[i]? = some x) (hi : i < 60) (hm : m < A) (hk : k < a) {d : Ex} (hd : nxtE m k x = some d) (hin : d ∉ stC A a e i x m k) : numO (stL A a e 60) (nxtE m k x) = ((stC A a e i x m k).length : Int) := by
  rw [← num_at h hi hm hk hd, stC_new hm hk hd hin, idxOf_new hin]
theorem findI_neg {L : List Ex} {d : Ex} (h : d ∉ L) : findI L d = -1 := if_neg h
theorem findI_pos {L : List Ex} {d : Ex} (h : d ∈ L) : 0 ≤ findI L d := by unfold findI; rw [if_pos h]; omega
end Go.Proofs.YtjlmdhoajfdkbaaGreatDoor

namespace Go.Proofs.YtjlmdhoajfdkbaaGreatDoor
set_option linter.unusedVariables false
set_option linter.unusedSimpArgs false
open Go.ChangeShapes Go.WideShapes Go.ChangeAt Go.RowKit Go.Deep
def nestD {α : Type} (f : α → D) (xs : List α) : D := .sl 1 xs.length (xs.map f)
def iiD (xs : List (List Int)) : D := nestD intsD xs
def iiiD (xs : List (List (List Int))) : D := nestD iiD xs
section
variable {α : Type}
variable {w : World} {f : α → D} {xs : List α}
end
end Go.Proofs.YtjlmdhoajfdkbaaGreatDoor

namespace Go.Proofs.YtjlmdhoajfdkbaaGreatDoor
set_option linter.unusedVariables false
set_option linter.unusedSimpArgs false
open Go.ChangeShapes Go.WideShapes Go.ChangeAt Go.RowKit Go.Deep
inductive Item where
  | app (t : TypeId) (size n : Nat) (ds : List D) (v : Value)
  | box (g t : Nat) (cur : List Value)
  | one (g : Nat) (P : World → Prop)
  | own (ds : List D) (vs : List Value)
  | pool (w0 : World) (E : List (D × Value))
  | gone
def Item.on (S : Nat → Prop) (w : World) : Item → Prop
  | .app t size n ds v => AppS S w t size n ds v
  | .box g t cur => S g ∧ Blk w g t cur
  | .one g P => S g ∧ g < w.heap.size ∧ ∀ w', w'.heap[g]? = w.heap[g]? → P w'
  | .own ds vs => OwS S w ds vs
  | .pool w0 E => ∀ w', w.heap.size ≤ w'.heap.size → (∀ b, b < w0.heap.size → w'.heap[b]? = w0.heap[b]?) → (∀ b, b < w.heap.size → S b → w'.heap[b]? = w.heap[b]?) → ∀ x ∈ E, Rd w' x.1 x.2
  | .gone => True
theorem Item.keep {S : Nat → Prop} {w w' : World} (hz : w.heap.size ≤ w'.heap.size) : ∀ {it : Item}, it.on S w → (∀ b, b < w.heap.size → S b → w'.heap[b]? = w.heap[b]?) → it.on S w'
  | .app .., h, hk => AppS.keep h hk
  | .box .., h, hk => ⟨h.1, h.2.keep (hk _ h.2.lt h.1)⟩
  | .one g P, h, hk => by
    have e := hk g h.2.1 h.1
    refine ⟨h.1, ?_, fun w1 h1 => h.2.2 w1 (h1.trans e)⟩
    have hs : (w.heap[g]?).isSome = true := by simp [h.2.1]
    rw [← e] at hs
    simpa using hs
  | .own .., h, hk => OwS.keep h hk
  | .pool .., h, hk => fun w2 h1 h2 h3 => h w2 (Nat.le_trans hz h1) h2 fun b hb hs => (h3 b (Nat.lt_of_lt_of_le hb hz) hs).trans (hk b hb hs)
  | .gone, _, _ => trivial
theorem Item.more {S T : Nat → Prop} {w : World} : ∀ {it : Item}, it.on S w → (∀ b, b < w.heap.size → S b → T b) → it.on T w
  | .app .., h, hs => AppS.more h hs
  | .box .., h, hs => ⟨hs _ h.2.lt h.1, h.2⟩
  | .one .., h, hs => ⟨hs _ h.2.1 h.1, h.2⟩
  | .own .., h, hs => OwS.more h hs
  | .pool .., h, hs => fun w2 h1 h2 h3 => h w2 h1 h2 fun b hb hS => h3 b hb (hs b hb hS)
  | .gone, _, _ => trivial
def Bun (B : Nat) (w : World) (items : List Item) : Prop := ∃ own : Nat → Nat, ∀ (i : Nat) (it : Item), items[i]? = some it → it.on (fun b => B ≤ b ∧ b < w.heap.size ∧ own b = i) w
theorem Bun.nil {B : Nat} {w : World} : Bun B w [] := ⟨fun _ => 0, fun i it h => by simp at h⟩
theorem set_none {items : List Item} : items.set items.length .gone = items := List.set_eq_of_length_le (Nat.le_refl _)
theorem bun_turn {B : Nat} {w w' : World} {items : List Item} {own : Nat → Nat} (h : ∀ (i : Nat) (it : Item), items[i]? = some it → it.on (fun b => B ≤ b ∧ b < w.heap.size ∧ own b = i) w) (hz : w.heap.size ≤ w'.heap.size) (k j : Nat) {it' : Item}
    (ho : ∀ b, b < w.heap.size → own b ≠ k → own b ≠ j → w'.heap[b]? = w.heap[b]?) (hn : it'.on (fun b => B ≤ b ∧ b < w'.heap.size ∧ (w.heap.size ≤ b ∨ own b = k ∨ own b = j)) w') :
    Bun B w' ((items.set j .gone).set k it') := by
  refine ⟨fun b => if w.heap.size ≤ b ∨ own b = j then k else own b, fun i it hi => ?_⟩
  by_cases hik : k = i
  · subst hik
    have hl : k < (items.set j .gone).length := by have := (List.getElem?_eq_some_iff.1 hi).1; simpa using this
    rw [List.getElem?_set_self hl] at hi
    obtain rfl := Option.some.inj hi
    refine Item.more hn fun b _ hb => ⟨hb.1, hb.2.1, ?_⟩
    by_cases hc : w.heap.size ≤ b ∨ own b = j
    · dsimp only; rw [if_pos hc]
    · dsimp only; rw [if_neg hc]
      omega
  · rw [List.getElem?_set_ne hik] at hi
    by_cases hij : j = i
    · subst hij
      have hl : j < items.length := by have := (List.getElem?_eq_some_iff.1 hi).1; simpa using this
      rw [List.getElem?_set_self hl] at hi
      obtain rfl := Option.some.inj hi
      trivial
    · rw [List.getElem?_set_ne hij] at hi
      have h1 := Item.keep (w' := w') hz (h i it hi) fun b hb hs => ho b hb (by rw [hs.2.2]; omega) (by rw [hs.2.2]; omega)
      refine Item.more h1 fun b _ hb => ⟨hb.1, by omega, ?_⟩
      have : ¬ (w.heap.size ≤ b ∨ own b = j) := by omega
      dsimp only
      rw [if_neg this]
      exact hb.2.2
theorem Bun.keep {B : Nat} {w w' : World} {items : List Item} (h : Bun B w items) (hz : w.heap.size ≤ w'.heap.size) (hk : ∀ b, B ≤ b → b < w.heap.size → w'.heap[b]? = w.heap[b]?) : Bun B w' items := by
  obtain ⟨own, h⟩ := h
  refine ⟨fun b => if w.heap.size ≤ b then items.length else own b, fun i it hi => ?_⟩
  have hl := (List.getElem?_eq_some_iff.1 hi).1
  have h1 := Item.keep (w' := w') hz (h i it hi) fun b hb hs => hk b hs.1 hb
  refine Item.more h1 fun b _ hb => ⟨hb.1, by omega, ?_⟩
  dsimp only
  rw [if_neg (by omega)]
  exact hb.2.2
theorem Bun.below {B : Nat} {w w' : World} {items : List Item} (h : Bun B w items) (hb : Below w.heap.size w w') : Bun B w' items := h.keep hb.size fun b _ hl => hb.block b hl
theorem Bun.alloc {B : Nat} {w : World} {items : List Item} (h : Bun B w items) (o : Obj) : Bun B (w.alloc o) items := h.below (Below.alloc (Below.refl _ _) (Nat.le_refl _) o)
theorem Bun.push {B : Nat} {w w' : World} {items : List Item} {it : Item} (h : Bun B w items) (hb : Below w.heap.size w w') (hi : it.on (fun b => B ≤ b ∧ b < w'.heap.size ∧ w.heap.size ≤ b) w') : Bun B w' (items ++ [it]) := by
  have hz := hb.size
  obtain ⟨own, h⟩ := h
  refine ⟨fun b => if w.heap.size ≤ b then items.length else own b, fun i it' h' => ?_⟩
  by_cases hl : i < items.length
  · rw [List.getElem?_append_left hl] at h'
    have h1 := Item.keep (w' := w') hz (h i it' h') fun b hb' _ => hb.block b hb'
    refine Item.more h1 fun b _ hb' => ⟨hb'.1, by omega, ?_⟩
    dsimp only
    rw [if_neg (by omega)]
    exact hb'.2.2
  · have hi' := (List.getElem?_eq_some_iff.1 h').1
    simp only [List.length_append, List.length_cons, List.length_nil] at hi'
    obtain rfl : i = items.length := by omega
    simp only [List.getElem?_append_right (Nat.le_refl _), Nat.sub_self, List.getElem?_cons_zero, Option.some.injEq] at h'
    subst h'
    exact Item.more hi fun b _ hb' => ⟨hb'.1, hb'.2.1, by dsimp only; rw [if_pos hb'.2.2]⟩
theorem Bun.push_empty {B : Nat} {w : World} {items : List Item} (h : Bun B w items) (hB : B ≤ w.heap.size) (t : TypeId) (size : Nat) : Bun B (w.alloc (.cells #[] t)) (items ++ [.app t size 0 [] (.slice (some ⟨w.heap.size, 0, none⟩) 0 0)]) :=
  h.push (Below.alloc (Below.refl _ _) (Nat.le_refl _) _) ⟨[], [], ⟨by simp, Or.inr ⟨w.heap.size, 0, #[], rfl, Nat.zero_le _, by simpa [Blk] using Blk.made w t #[], by omega, by simp [maxLen], by simp, by simp⟩⟩, Ows.nil, by simp, by simp, fun b hb => by
    simp only [Value.ownBlock, Option.some.injEq] at hb
    subst hb
    exact ⟨hB, by simp, Nat.le_refl _⟩⟩
theorem Bun.take {B : Nat} {w : World} {items : List Item} (h : Bun B w items) (n : Nat) : Bun B w (items.take n) := by
  obtain ⟨own, h⟩ := h
  refine ⟨own, fun i it hi => h i it ?_⟩
  rw [List.getElem?_take] at hi
  split at hi
  · exact hi
  · cases hi
theorem AppS.rd {S : Nat → Prop} {w : World} {t size n : Nat} {ds : List D} {v : Value} (h : AppS S w t size n ds v) : Rd w (.sl size n ds) v :=
  (AppS.app (W := { w with heap := #[] }) h fun b _ => Nat.zero_le _).rd
theorem Bun.app {B : Nat} {w : World} {items : List Item} (h : Bun B w items) (k : Nat) {t size n : Nat} {ds : List D} {v : Value} (hk : items[k]? = some (.app t size n ds v)) : ∃ own : Nat → Nat, AppS (fun b => B ≤ b ∧ b < w.heap.size ∧ own b = k) w t size n ds v := by
  obtain ⟨own, h⟩ := h
  exact ⟨own, h k _ hk⟩
theorem Bun.rd {B : Nat} {w : World} {items : List Item} (h : Bun B w items) (k : Nat) {t size n : Nat} {ds : List D} {v : Value} (hk : items[k]? = some (.app t size n ds v)) : Rd w (.sl size n ds) v := by
  obtain ⟨own, h1⟩ := h.app k hk
  exact h1.rd
theorem Bun.shape {B : Nat} {w : World} {items : List Item} (h : Bun B w items) (k : Nat) {t size n : Nat} {ds : List D} {v : Value} (hk : items[k]? = some (.app t size n ds v)) : ∃ a cap, v = .slice a n cap ∧ n ≤ cap ∧ cap ≤ maxLen := by
  obtain ⟨own, h1⟩ := h.app k hk
  exact h1.shape
theorem Bun.one {B : Nat} {w : World} {items : List Item} (h : Bun B w items) (k : Nat) {g : Nat} {P : World → Prop} (hk : items[k]? = some (.one g P)) : P w ∧ B ≤ g ∧ g < w.heap.size := by
  obtain ⟨own, h⟩ := h
  have := h k _ hk
  exact ⟨this.2.2 w rfl, this.1.1, this.2.1⟩
theorem Bun.fresh {B : Nat} {W w : World} {items : List Item} (h : Bun B w items) (hB : W.heap.size ≤ B) (k : Nat) {t size n : Nat} {ds : List D} {v : Value} (hk : items[k]? = some (.app t size n ds v)) : Fresh W w (.sl size n ds) v := by
  obtain ⟨own, h1⟩ := h.app k hk
  exact (h1.app fun b hb => by omega).fresh
theorem AppS.foot {S : Nat → Prop} {w : World} {t size n : Nat} {ds : List D} {v : Value} (h1 : AppS S w t size n ds v) : ∃ F, Ow w (.sl size n ds) v F ∧ F.Nodup ∧ ∀ b ∈ F, S b := by
  have hlen := (AppS.app (W := { w with heap := #[] }) h1 fun b _ => Nat.zero_le _).len
  obtain ⟨xs, F, a1, a2, a3, a4, a5⟩ := h1
  have hxl := a1.1
  rcases a1.2 with ⟨rfl, rfl⟩ | ⟨g, cap, cur, rfl, hg, hb, h5, h6, h7, h8⟩
  · exact ⟨[], by simp only [Ow]; exact ⟨_, 0, rfl, by omega, by simp [maxLen], hlen, by simp, Or.inl (by simp)⟩, by simp, by simp⟩
  · by_cases h0 : n = 0
    · exact ⟨[], by simp only [Ow]; exact ⟨_, cap, rfl, h5, h6, hlen, by simp, Or.inl (by simp [h0])⟩, by simp, by simp⟩
    · have hblk : Blk w g t cur.toList := by simpa [Blk] using hb
      refine ⟨g :: F, by simp only [Ow]; exact ⟨_, cap, rfl, h5, h6, hlen, by simp, Or.inr ⟨g, 0, xs, F, rfl, rfl, hblk.free, hblk.row (by rw [hxl]; exact h8), a2⟩⟩, ?_, ?_⟩
      · rw [List.nodup_cons]
        exact ⟨fun hm => (a4 g hm).2 rfl, a3⟩
      · intro b hm
        rcases List.mem_cons.1 hm with rfl | hm
        · exact a5 _ rfl
        · exact (a4 b hm).1
theorem Bun.fresh2 {B : Nat} {W w : World} {items : List Item} (h : Bun B w items) (hB : W.heap.size ≤ B) (i k : Nat) (hne : i ≠ k) {t size n : Nat} {ds : List D} {v : Value} (hi : items[i]? = some (.app t size n ds v)) {t' size' n' : Nat} {ds' : List D} {v' : Value}
    (hk : items[k]? = some (.app t' size' n' ds' v')) : Freshs W w [.sl size n ds, .sl size' n' ds'] [v, v'] := by
  obtain ⟨own, h⟩ := h
  obtain ⟨F, f1, f2, f3⟩ := AppS.foot (h i _ hi)
  obtain ⟨G, g1, g2, g3⟩ := AppS.foot (h k _ hk)
  refine ⟨F ++ (G ++ []), Ows.cons f1 (Ows.cons g1 Ows.nil), ?_, ?_⟩
  · rw [List.append_nil, List.nodup_append]
    refine ⟨f2, g2, fun p hp q hq hpq => ?_⟩
    have h1 := (f3 p hp).2.2
    have h2 := (g3 q hq).2.2
    rw [hpq] at h1
    omega
  · intro b hb
    rw [List.append_nil] at hb
    rcases List.mem_append.1 hb with hb | hb
    · have := (f3 b hb).1; omega
    · have := (g3 b hb).1; omega
theorem Bun.turn_one {B : Nat} {w w' : World} {items : List Item} (h : Bun B w items) (k : Nat) {g : Nat} {P Q : World → Prop} (hk : items[k]? = some (.one g P)) (ho : Only [g] w w') (hQ : ∀ w1, w1.heap[g]? = w'.heap[g]? → Q w1) : Bun B w' (items.set k (.one g Q)) := by
  obtain ⟨own, h⟩ := h
  have hit := h k _ hk
  have := bun_turn (w' := w') h ho.size k (items.length) (it' := .one g Q) (fun b hb h1 _ => ho.block b hb (by
      simp only [List.mem_singleton]
      intro e
      exact h1 (by rw [e]; exact hit.1.2.2)))
    ⟨⟨hit.1.1, Nat.lt_of_lt_of_le hit.1.2.1 ho.size, Or.inr (Or.inl hit.1.2.2)⟩, Nat.lt_of_lt_of_le hit.2.1 ho.size, hQ⟩
  rwa [set_none] at this
theorem wpList_append_bun {P : Program} (w : World) {ops : Array Oper} {rest : List Oper} {o : Oper} {a : Act} {Q : Exit → Act → World → Prop} (hgd : o.guard = none) (s x : Operand) (t : TypeId)
    (ho : o.op = .call { callee := .builtin .append, args := #[s, x], argTypes := #[t, t] })
    (e : TypeId) (z : Value) (size bytes : Nat) (ht : P.underlying t = some (.slice e)) (hinfo : (P.info? e).map (fun i => (i.zero, i.size, i.bytes)) = some (some z, size, bytes)) (hzs : z.cells.size = size) (hsz : 0 < size)
    {B : Nat} {items : List Item} (hb : Bun B w items) (hB : B ≤ w.heap.size) (k : Nat) (v : Value) {n : Nat} {ds : List D} (hk : items[k]? = some (.app e size n ds v)) (hs : a.eval s = v)
    (ad : Addr) (m c : Nat) {es : List D} (news : List Value) (hx : a.eval x = .slice (some ad) m c) (hnews : ∀ j u, news[j]? = some u → w.cell? (ad.add j) = some u) (hes : OwS (fun _ => False) w es news)
    (hl : news.length = m * size) (h1 : ∀ u ∈ news, u.oneCell' = true) (hm : 0 < m) (hbytes : (n + m) * bytes ≤ 140737488355328) (h63 : n + m ≤ maxLen)
    (h : ∀ g cap w', Bun B w' (items.set k (.app e size (n + m) (ds ++ es) (.slice (some ⟨g, 0, none⟩) (n + m) cap))) → Below B w w' → wpList P ops Q rest (a.put o.dst (.slice (some ⟨g, 0, none⟩) (n + m) cap)) w') : wpList P ops Q (o :: rest) a w := by
  obtain ⟨own, hb⟩ := hb
  refine wpList_append_s w hgd s x t ho e z size bytes ht hinfo hzs hsz (S := fun b => B ≤ b ∧ b < w.heap.size ∧ own b = k) (T := fun _ => False) v hs (hb k _ hk) ad m c news hx hnews hes (fun _ _ _ h => h) hl h1 hm hbytes h63 ?_
  intro g cap w' hap hsp
  refine h g cap w' ?_ (hsp.below hB fun b hb' => hb'.1)
  have := bun_turn (w' := w') hb hsp.size k (items.length) (it' := .app e size (n + m) (ds ++ es) (.slice (some ⟨g, 0, none⟩) (n + m) cap)) (fun b hb' h2 _ => hsp.block b hb' (fun h3 => h2 h3.2.2))
    (AppS.more hap fun b hb' hc => by
      have hz := hsp.size
      rcases hc with hc | hc | hc
      · exact ⟨hc.1, hb', Or.inr (Or.inl hc.2.2)⟩
      · exact hc.elim
      · exact ⟨by omega, hb', Or.inl hc.1⟩)
  rwa [set_none] at this
theorem Bun.push_own {B : Nat} {w w' : World} {items : List Item} {ds : List D} {vs : List Value} (h : Bun B w items) (hb : Below w.heap.size w w') (hB : B ≤ w.heap.size) (hf : Freshs w w' ds vs) : Bun B w' (items ++ [.own ds vs]) :=
  h.push hb (by obtain ⟨F, f1, f2, f3⟩ := hf; exact ⟨F, f1, f2, fun b hm => ⟨by have := f3 b hm; omega, f1.lt b hm, f3 b hm⟩⟩)
theorem wpList_append_bun_mv {P : Program} (w : World) {ops : Array Oper} {rest : List Oper} {o : Oper} {a : Act} {Q : Exit → Act → World → Prop} (hgd : o.guard = none) (s x : Operand) (t : TypeId)
    (ho : o.op = .call { callee := .builtin .append, args := #[s, x], argTypes := #[t, t] })
    (e : TypeId) (z : Value) (size bytes : Nat) (ht : P.underlying t = some (.slice e)) (hinfo : (P.info? e).map (fun i => (i.zero, i.size, i.bytes)) = some (some z, size, bytes)) (hzs : z.cells.size = size) (hsz : 0 < size)
    {B : Nat} {items : List Item} (hb : Bun B w items) (hB : B ≤ w.heap.size) (k : Nat) (v : Value) {n : Nat} {ds : List D} (hk : items[k]? = some (.app e size n ds v)) (hs : a.eval s = v)
    (j : Nat) (hjk : j ≠ k) {es : List D} {news : List Value} (hj : items[j]? = some (.own es news))
    (ad : Addr) (m c : Nat) (hx : a.eval x = .slice (some ad) m c) (hnews : ∀ j u, news[j]? = some u → w.cell? (ad.add j) = some u)
    (hl : news.length = m * size) (h1 : ∀ u ∈ news, u.oneCell' = true) (hm : 0 < m) (hbytes : (n + m) * bytes ≤ 140737488355328) (h63 : n + m ≤ maxLen)
    (h : ∀ g cap w', Bun B w' ((items.set j .gone).set k (.app e size (n + m) (ds ++ es) (.slice (some ⟨g, 0, none⟩) (n + m) cap))) → Below B w w' → wpList P ops Q rest (a.put o.dst (.slice (some ⟨g, 0, none⟩) (n + m) cap)) w') : wpList P ops Q (o :: rest) a w := by
  obtain ⟨own, hb⟩ := hb
  have hows : OwS (fun b => B ≤ b ∧ b < w.heap.size ∧ own b = j) w es news := hb j _ hj
  refine wpList_append_s w hgd s x t ho e z size bytes ht hinfo hzs hsz (S := fun b => B ≤ b ∧ b < w.heap.size ∧ own b = k) (T := fun b => B ≤ b ∧ b < w.heap.size ∧ own b = j) v hs (hb k _ hk) ad m c news hx hnews hows (fun b _ h1 h2 => hjk (h2.2.2.symm.trans h1.2.2)) hl h1 hm hbytes h63 ?_
  intro g cap w' hap hsp
  refine h g cap w' ?_ (hsp.below hB fun b hb' => hb'.1)
  exact bun_turn (w' := w') hb hsp.size k j (it' := .app e size (n + m) (ds ++ es) (.slice (some ⟨g, 0, none⟩) (n + m) cap)) (fun b hb' h2 _ => hsp.block b hb' (fun h3 => h2 h3.2.2))
    (AppS.more hap fun b hb' hc => by
      have hz := hsp.size
      rcases hc with hc | hc | hc
      · exact ⟨hc.1, hb', Or.inr (Or.inl hc.2.2)⟩
      · exact ⟨hc.1, hb', Or.inr (Or.inr hc.2.2)⟩
      · exact ⟨by omega, hb', Or.inl hc.1⟩)
theorem wpList_append_bun_own {P : Program} (w : World) {ops : Array Oper} {rest : List Oper} {o : Oper} {a : Act} {Q : Exit → Act → World → Prop} (hgd : o.guard = none) (s x : Operand) (t : TypeId)
    (ho : o.op = .call { callee := .builtin .append, args := #[s, x], argTypes := #[t, t] })
    (e : TypeId) (bytes : Nat) (ht : P.underlying t = some (.slice e)) (hinfo : (P.info? e).map (fun i => (i.zero, i.size, i.bytes)) = some (some (.slice none 0 0), 1, bytes))
    {B : Nat} {items : List Item} (hb : Bun B w items) (hB : B ≤ w.heap.size) (k : Nat) (v : Value) {n : Nat} {ds : List D} (hk : items[k]? = some (.app e 1 n ds v)) (hs : a.eval s = v)
    (j : Nat) (hjk : j ≠ k) (u : Value) {t' size' n' : Nat} {ds' : List D} (hj : items[j]? = some (.app t' size' n' ds' u))
    (ad : Addr) (hx : a.eval x = .slice (some ad) 1 1) (hnews : ∀ i q, [u][i]? = some q → w.cell? (ad.add i) = some q) (hbytes : (n + 1) * bytes ≤ 140737488355328) (h63 : n + 1 ≤ maxLen)
    (h : ∀ g cap w', Bun B w' ((items.set j .gone).set k (.app e 1 (n + 1) (ds ++ [.sl size' n' ds']) (.slice (some ⟨g, 0, none⟩) (n + 1) cap))) → Below B w w' → wpList P ops Q rest (a.put o.dst (.slice (some ⟨g, 0, none⟩) (n + 1) cap)) w') : wpList P ops Q (o :: rest) a w := by
  obtain ⟨own, hb⟩ := hb
  have hap' := hb j _ hj
  obtain ⟨a', cap', e1, _⟩ := hap'.shape
  subst e1
  have hows : OwS (fun b => B ≤ b ∧ b < w.heap.size ∧ own b = j) w [.sl size' n' ds'] [.slice a' n' cap'] := by
    obtain ⟨F, f1, f2, f3⟩ := AppS.foot hap'
    exact ⟨F ++ [], Ows.cons f1 Ows.nil, by simpa using f2, by simpa using f3⟩
  refine wpList_append_s w hgd s x t ho e (.slice none 0 0) 1 bytes ht hinfo rfl (by omega) (S := fun b => B ≤ b ∧ b < w.heap.size ∧ own b = k) (T := fun b => B ≤ b ∧ b < w.heap.size ∧ own b = j) v hs (hb k _ hk) ad 1 1 [.slice a' n' cap'] hx hnews hows (fun b _ h1 h2 => hjk (h2.2.2.symm.trans h1.2.2)) rfl (by simp [Value.oneCell']) (by omega) hbytes h63 ?_
  intro g cap w' hap hsp
  refine h g cap w' ?_ (hsp.below hB fun b hb' => hb'.1)
  exact bun_turn (w' := w') hb hsp.size k j (it' := .app e 1 (n + 1) (ds ++ [.sl size' n' ds']) (.slice (some ⟨g, 0, none⟩) (n + 1) cap)) (fun b hb' h2 _ => hsp.block b hb' (fun h3 => h2 h3.2.2))
    (AppS.more hap fun b hb' hc => by
      have hz := hsp.size
      rcases hc with hc | hc | hc
      · exact ⟨hc.1, hb', Or.inr (Or.inl hc.2.2)⟩
      · exact ⟨hc.1, hb', Or.inr (Or.inr hc.2.2)⟩
      · exact ⟨by omega, hb', Or.inl hc.1⟩)
end Go.Proofs.YtjlmdhoajfdkbaaGreatDoor

namespace Go.Proofs.YtjlmdhoajfdkbaaGreatDoor
set_option linter.unusedVariables false
set_option linter.unusedSimpArgs false
open Go.ChangeShapes Go.WideShapes Go.ChangeAt Go.RowKit Go.Deep Go.ChangeMaps Go.MapKept
open Go.Maps (Keyed)
theorem Bun.push_pool {w0 w : World} {items : List Item} (h : Bun w0.heap.size w items) : Bun w0.heap.size w (items ++ [.pool w0 []]) :=
  h.push (Below.refl _ _) (fun _ _ _ _ x hx => by simp at hx)
theorem Bun.pool {w0 w : World} {items : List Item} (h : Bun w0.heap.size w items) (h0 : Below w0.heap.size w0 w) (p : Nat) {E : List (D × Value)} (hp : items[p]? = some (.pool w0 E)) :
    ∃ X : Nat → Prop, (∀ b, X b → b < w.heap.size ∧ w0.heap.size ≤ b) ∧ (∀ x ∈ E, RdX X w x.1 x.2) ∧
      ∀ w' d v, Below w.heap.size w w' → RdX X w' d v → Bun w0.heap.size w' (items.set p (.pool w0 (E ++ [(d, v)]))) := by
  obtain ⟨own, h⟩ := h
  have hz0 := h0.size
  refine ⟨fun b => w0.heap.size ≤ b ∧ b < w.heap.size ∧ own b ≠ p, fun b hb => ⟨hb.2.1, hb.1⟩, fun x hx w2 k => ?_, fun w' d v hb hd => ?_⟩
  · refine h p _ hp w2 k.1 (fun b hb => ?_) (fun b hb hs => k.2 b hb (fun hX => hX.2.2 hs.2.2)) x hx
    exact (k.2 b (by omega) (fun hX => by omega)).trans (h0.block b hb)
  · have hz := hb.size
    have := bun_turn (w' := w') h hz p items.length (it' := .pool w0 (E ++ [(d, v)])) (fun b hlt _ _ => hb.block b hlt) (fun w2 k1 k2 k3 x hx => by
      rcases List.mem_append.1 hx with hx | hx
      · refine h p _ hp w2 (Nat.le_trans hz k1) k2 (fun b hlt hs => ?_) x hx
        exact (k3 b (by omega) ⟨hs.1, by omega, Or.inr (Or.inl hs.2.2)⟩).trans (hb.block b hlt)
      · simp only [List.mem_singleton] at hx
        subst hx
        refine hd w2 ⟨k1, fun b hlt hX => ?_⟩
        by_cases hold : b < w0.heap.size
        · exact (k2 b hold).trans ((hb.block b (by omega)).trans (h0.block b hold)).symm
        · by_cases hnew : w.heap.size ≤ b
          · exact k3 b hlt ⟨by omega, hlt, Or.inl hnew⟩
          · by_cases ho : own b = p
            · exact k3 b hlt ⟨by omega, hlt, Or.inr (Or.inl ho)⟩
            · exact absurd ⟨by omega, by omega, ho⟩ hX)
    rwa [set_none] at this
theorem Bun.pool_rd {w0 w : World} {items : List Item} (h : Bun w0.heap.size w items) (h0 : Below w0.heap.size w0 w) (p : Nat) {E : List (D × Value)} (hp : items[p]? = some (.pool w0 E)) {x : D × Value} (hx : x ∈ E) : Rd w x.1 x.2 := by
  obtain ⟨X, -, h1, -⟩ := h.pool h0 p hp
  exact (h1 x hx).rd
section
variable {κ ν : Type} [DecidableEq κ] {P : Program} {kt : TypeId} {kf : κ → Value} {vf : ν → Value}
theorem wpList_insert_at (w : World) {ops : Array Oper} {rest : List Oper} {o : Oper} {a : Act} {Q : Exit → Act → World → Prop} (hg : o.guard = none) (m x y : Operand) (t : TypeId) (hop : o.op = Op.insert t m x y)
    (kt e : TypeId) (K : Keyed P kt) (ht : P.underlying t = some (.map kt e)) {kf : κ → Value} (hinj : ∀ x y, kf x = kf y → x = y) {vf : ν → Value} {L : List (κ × ν)} (b : Nat)
    (hM : MapAt P kt kf vf w b L) (k : κ) (hk : ∃ l, keyOf P kt (kf k) = some l) (v : ν) (hm : a.eval m = .map (some b)) (hx : a.eval x = kf k) (hy : a.eval y = vf v)
    (hK : ∀ w', MapAt P kt kf vf w' b (putM L k v) → Only [b] w w' → wpList P ops Q rest (a.put o.dst undef) w') : wpList P ops Q (o :: rest) a w := by
  refine wpList_plain hg fun K' hK' => ?_
  obtain ⟨w', hrun, r1, r2⟩ := hM.update K hinj ht hk v
  unfold Oper.wp
  simp [execOp, hop, hm, hx, hy, hrun, Result.andThen]
  exact hK' _ _ (hK w' r1 r2)
end
end Go.Proofs.YtjlmdhoajfdkbaaGreatDoor

namespace Go.Proofs.YtjlmdhoajfdkbaaGreatDoor
set_option linter.unusedVariables false
set_option linter.unusedSimpArgs false
open Go.ChangeShapes Go.WideShapes Go.ChangeAt Go.RowKit Go.Deep Go.ChangeMaps Go.MapKept
def mapL (L : List Ex) : List (List UInt8 × Int) := L.zipIdx.map fun p => (p.1.text, (p.2 : Int))
theorem mapL_snoc (L : List Ex) (d : Ex) : mapL (L ++ [d]) = mapL L ++ [(d.text, (L.length : Int))] := by simp [mapL, List.zipIdx_append]
theorem mapL_at {L : List Ex} {j : Nat} {d : Ex} (h : L[j]? = some d) : (mapL L)[j]? = some (d.text, (j : Int)) := by
  unfold mapL
  rw [List.getElem?_map, List.getElem?_zipIdx, h]
  simp
theorem mapL_in {L : List Ex} {d : Ex} (hk : ((mapL L).map (·.1)).Nodup) (hn : L.Nodup) (h : d ∈ L) : findM (mapL L) d.text = some (findI L d) := by
  obtain ⟨j, hj⟩ := List.mem_iff_getElem?.1 h
  rw [findM_at hk (mapL_at hj)]
  unfold findI
  rw [if_pos h, idxOf_at hn hj]
theorem mapL_out {tm am : Int} (ht : tm ≤ 8) (ha : am ≤ 8) {L : List Ex} {d : Ex} (hL : ∀ x ∈ L, x.tree tm am = true) (hd : d.tree tm am = true) (h : d ∉ L) : findM (mapL L) d.text = none :=
  findM_none.2 fun p hp hpe => by
    unfold mapL at hp
    obtain ⟨q, hq, rfl⟩ := List.mem_map.1 hp
    have hm : q.1 ∈ L := by
      obtain ⟨i, hi⟩ := List.mem_iff_getElem?.1 hq
      rw [List.getElem?_zipIdx, Option.map_eq_some_iff] at hi
      obtain ⟨y, hy, rfl⟩ := hi
      exact List.mem_of_getElem? hy
    have := text_inj ht ha (hL _ hm) hd hpe
    exact h (this ▸ hm)
def Sh.pr (z : Sh) : D × Value := (kidsD z.e.kids, .slice z.s z.e.kids.length z.c)
theorem shs_snoc (R : List Sh) (z : Sh) : shD (R ++ [z]) = shD R ++ z.cells.map D.raw := by rw [shD_append]; simp [shD, shs]
theorem Sh.cells_one (z : Sh) : ∀ u ∈ z.cells, u.oneCell' = true := by
  intro u hu
  simp [Sh.cells] at hu
  rcases hu with rfl | rfl | rfl <;> rfl
theorem raw_own {w : World} {us : List Value} (h : ∀ u ∈ us, u.oneCell' = true) : OwS (fun _ => False) w (us.map D.raw) us := ⟨[], Ows.raws h, by simp, by simp⟩
theorem Bun.push_raws {B : Nat} {w : World} {items : List Item} (h : Bun B w items) (hB : B ≤ w.heap.size) (t size m : Nat) (us : List Value) (hu : ∀ u ∈ us, u.oneCell' = true) (hl : us.length = m * size) (hm : m ≤ maxLen) :
    Bun B (w.alloc (.cells us.toArray t)) (items ++ [.app t size m (us.map D.raw) (.slice (some ⟨w.heap.size, 0, none⟩) m m)]) := by
  refine h.push (Below.alloc (Below.refl _ _) (Nat.le_refl _) _) ?_
  have hb := Blk.made w t us.toArray
  refine ⟨us, [], ⟨hl, Or.inr ⟨w.heap.size, m, us.toArray, rfl, Nat.zero_le _, by simpa [Blk] using hb, Nat.le_refl _, hm, by simp [hl], ?_⟩⟩, Ows.raws hu, by simp, by simp, fun b hb' => ?_⟩
  · rw [← hl]; simp
  · simp only [Value.ownBlock, Option.some.injEq] at hb'
    exact ⟨by omega, by simp; omega, by omega⟩
theorem Bun.push_one {B : Nat} {w w' : World} {items : List Item} (h : Bun B w items) (hB : B ≤ w.heap.size) (hb : Below w.heap.size w w') {P : World → Prop} (hg : w.heap.size < w'.heap.size) (hP : ∀ w1, w1.heap[w.heap.size]? = w'.heap[w.heap.size]? → P w1) : Bun B w' (items ++ [.one w.heap.size P]) :=
  h.push hb ⟨⟨hB, hg, Nat.le_refl _⟩, hg, hP⟩
theorem Bun.sh_at {B : Nat} {w : World} {items : List Item} (h : Bun B w items) (i : Nat) {t : Nat} {R : List Sh} {v : Value} (hi : items[i]? = some (.app t 3 R.length (shD R) v)) {k : Nat} {z : Sh} (hz : R[k]? = some z) :
    ∃ g cap, v = .slice (some ⟨g, 0, none⟩) R.length cap ∧ g < w.heap.size ∧ w.cell? ⟨g, k * 3, none⟩ = some (.int .i64 z.e.kind) ∧ w.cell? ⟨g, k * 3 + 1, none⟩ = some (.int .i64 z.e.num) ∧ w.cell? ⟨g, k * 3 + 2, none⟩ = some (.slice z.s z.e.kids.length z.c) := by
  obtain ⟨own, ha⟩ := h.app i hi
  obtain ⟨xs, F, h1, h2, h3, h4, h5⟩ := ha
  have hx := Rds.raws h2.rds
  subst hx
  have hl := h1.1
  have hlt := (List.getElem?_eq_some_iff.1 hz).1
  rcases h1.2 with ⟨-, h⟩ | ⟨g, cap, cur, rfl, -, hb, k1, k2, k3, k4⟩
  · omega
  · refine ⟨g, cap, rfl, (Array.getElem?_eq_some_iff.1 hb).1, ?_⟩
    have hblk : Blk w g t cur.toList := by simpa [Blk] using hb
    have hc : ∀ j, j < 3 → w.cell? ⟨g, k * 3 + j, none⟩ = z.cells[j]? := fun j hj => by
      rw [hblk.cell, ← shs_at R k z hz j hj, ← k4, List.getElem?_take, if_pos (by omega)]
    exact ⟨hc 0 (by omega), hc 1 (by omega), hc 2 (by omega)⟩
theorem shs_rds {w : World} : ∀ R : List Sh, (∀ z ∈ R, Rd w (kidsD z.e.kids) (.slice z.s z.e.kids.length z.c)) → Rds w (Ex.cellsL (R.map Sh.e)) (shs R)
  | [], _ => by simp [Ex.cellsL, shs, Rds]
  | z :: R, h => by
    have ih := shs_rds R fun y hy => h y (List.mem_cons_of_mem _ hy)
    have hz := h z (List.mem_cons_self ..)
    simp only [List.map_cons, Ex.cellsL, shs, List.flatMap_cons]
    refine Rds.append ?_ ih
    rw [Ex.cells_eq]
    simp only [Sh.cells, Rds, Rd]
    exact ⟨_, _, rfl, rfl, _, _, rfl, rfl, _, _, rfl, hz, rfl⟩
theorem Bun.sh_rd {w0 w : World} {items : List Item} (h : Bun w0.heap.size w items) (h0 : Below w0.heap.size w0 w) (p i : Nat) {E : List (D × Value)} (hp : items[p]? = some (.pool w0 E)) {t : Nat} {R : List Sh} {v : Value} (hi : items[i]? = some (.app t 3 R.length (shD R) v))
    (hE : ∀ z ∈ R, z.pr ∈ E) : Rd w (kidsD (R.map Sh.e)) v := by
  obtain ⟨own, ha⟩ := h.app i hi
  obtain ⟨xs, F, h1, h2, h3, h4, h5⟩ := ha
  have hx := Rds.raws h2.rds
  subst hx
  have hr := shs_rds R fun z hz => h.pool_rd h0 p hp (hE z hz)
  unfold kidsD
  simp only [Rd, List.length_map]
  rcases h1.2 with ⟨rfl, h0⟩ | ⟨g, cap, cur, rfl, -, hb, k1, k2, k3, k4⟩
  · have hR : R = [] := List.eq_nil_of_length_eq_zero h0
    subst hR
    exact ⟨none, 0, rfl, Nat.le_refl _, by unfold maxLen; omega, by simp [Ex.cellsL], fun _ => rfl, Or.inl rfl⟩
  · have hblk : Blk w g t cur.toList := by simpa [Blk] using hb
    refine ⟨_, cap, rfl, k1, k2, by rw [Ex.cellsL_length, List.length_map], by simp, Or.inr ⟨g, 0, shs R, rfl, hblk.row (by rw [shs_length]; exact k4), hr⟩⟩
end Go.Proofs.YtjlmdhoajfdkbaaGreatDoor

namespace Go.Proofs.YtjlmdhoajfdkbaaGreatDoor
set_option linter.unusedVariables false
set_option linter.unusedSimpArgs false
open Go.ChangeShapes Go.WideShapes Go.ChangeAt Go.RowKit Go.Deep
theorem info_i64s : (Tryz.prog.info? 52).map (fun i => (i.zero, i.size, i.bytes)) = some (some (.slice none 0 0), 1, 24) := by kernel_rfl
theorem info_i64ss : (Tryz.prog.info? 123).map (fun i => (i.zero, i.size, i.bytes)) = some (some (.slice none 0 0), 1, 24) := by kernel_rfl
theorem info_iExpr : (Tryz.prog.info? 30).map (fun i => (i.zero, i.size, i.bytes)) = some (some (.agg #[.int .i64 0, .int .i64 0, .slice none 0 0]), 3, 40) := by kernel_rfl
end Go.Proofs.YtjlmdhoajfdkbaaGreatDoor

namespace Go.Proofs.YtjlmdhoajfdkbaaGreatDoor
set_option linter.unusedVariables false
set_option linter.unusedSimpArgs false
open Go.ChangeShapes Go.WideShapes Go.ChangeAt Go.RowKit Go.Deep Go.Sort Go.ChangeMaps Go.MapKept
open Go.Maps (Keyed string_keyed)
theorem zeroI64 (w : World) : (zeroValue 2).run Tryz.prog w = .ok (.int .i64 0) w := by kernel_rfl
def NumAt (g : Nat) (L : List Ex) (w : World) : Prop := MapAt Tryz.prog 9 kfS (Value.int .i64) w g (mapL L)
def StAt (w0 : World) (g : Nat) (L : List Ex) (R : List Sh) (E : List (D × Value)) (v : Value) (its : List Item) (w : World) : Prop :=
  R.map Sh.e = L ∧ (∀ z ∈ R, z.pr ∈ E) ∧ Bun w0.heap.size w ([.pool w0 E, .app 30 3 R.length (shD R) v, .one g (NumAt g L)] ++ its) ∧ Below w0.heap.size w0 w
def StO (w0 : World) (g A n : Nat) (e : Ex) (v0 v1 i : Value) (wr : World) : Prop := ∃ (k : Nat) (R : List Sh) (E : List (D × Value)), i = .int .i64 k ∧ k ≤ 60 ∧ Hid (GoodL A n e k) ∧ (stL A n e k).length ≤ 60 ∧ k ≤ (stL A n e k).length ∧
  StAt w0 g (stL A n e k) R E v0 [.app 123 1 k ((stR A n e k).map iiD) v1] wr
def StM (w0 : World) (g A n : Nat) (e : Ex) (F : List Ex) (k : Nat) (x : Ex) (v1 v0 v2 i : Value) (wr : World) : Prop := ∃ (m : Nat) (R : List Sh) (E : List (D × Value)), i = .int .i64 m ∧ m ≤ A ∧ Hid (GoodTo n x m 0) ∧ (stC A n e k x m 0).length ≤ 60 ∧
  StAt w0 g (stC A n e k x m 0) R E v0 [.app 123 1 k ((stR A n e k).map iiD) v1, .app 52 1 m (((rowsE F A n x).take m).map intsD) v2] wr
def StN (w0 : World) (g A n : Nat) (e : Ex) (F : List Ex) (k : Nat) (x : Ex) (m : Nat) (v1 v2 v0 v3 i : Value) (wr : World) : Prop := ∃ (q : Nat) (R : List Sh) (E : List (D × Value)), i = .int .i64 q ∧ q ≤ n ∧ Hid (GoodTo n x m q) ∧ (stC A n e k x m q).length ≤ 60 ∧
  StAt w0 g (stC A n e k x m q) R E v0 [.app 123 1 k ((stR A n e k).map iiD) v1, .app 52 1 m (((rowsE F A n x).take m).map intsD) v2, .app 2 1 q (((rowE F n m x).take q).map D.int) v3] wr
theorem textOf_e {tm am : Int} {e : Ex} {s : Option Addr} {c : Nat} {w : World} (hr : Rd w (kidsD e.kids) (.slice s e.kids.length c)) (ht : tm ≤ 8) (ha : am ≤ 8) (htr : e.tree tm am = true) (hs : e.size ≤ 1000000) :
    Calls Tryz.prog 134 #[.agg #[.int .i64 e.kind, .int .i64 e.num, .slice s e.kids.length c]] w fun f w' => f = .returned (.string (bs e.text)) ∧ Below w.heap.size w w' := by
  have := textOf_i (w := w) (k := e.kind) (n := e.num) hr ht ha (by rw [← Ex.eta]; exact htr) (by have := Ex.size_eq e; omega)
  rwa [← Ex.eta e] at this
theorem map_of {κ ν : Type} {L M : List (κ × ν)} {kf : κ → Value} {vf : ν → Value} {w : World} {g : Nat} {kt : TypeId} (h : MapAt Tryz.prog kt kf vf w g L) (e : L = M) : ∀ w1 : World, w1.heap[g]? = w.heap[g]? → MapAt Tryz.prog kt kf vf w1 g M := fun w1 h1 => e ▸ h.keep h1
theorem nil_iii {w w' : World} : Freshs w w' [iiiD []] [.slice none 0 0] :=
  Freshs.one ⟨[], by simp only [iiiD, nestD, Ow]; exact ⟨none, 0, rfl, by simp, by simp [maxLen], by simp, by simp, Or.inl (by simp)⟩, by simp, by simp⟩
theorem none_own {w : World} {v : Int} : OwS (fun _ => False) w [D.int v] [.int .i64 v] := ⟨[], Ows.cons (F := []) (by simp [Ow]) Ows.nil, by simp, by simp⟩
theorem step_live {m k : Nat} {x d : Ex} (h : x.step m k = some d) : x.step m k ≠ none := by rw [h]; simp
theorem sh_len (R : List Sh) (z : Sh) : (R ++ [z]).length = R.length + 1 := by simp
theorem sh_map_at {R : List Sh} {L : List Ex} (h : R.map Sh.e = L) {k : Nat} {z : Sh} (hz : R[k]? = some z) : L[k]? = some z.e := by rw [← h, List.getElem?_map, hz]; rfl
set_option maxRecDepth 100000 in
set_option maxHeartbeats 16000000 in
theorem statesOf_i {t : Int} {n : Nat} {e : Ex} {s : Option Addr} {c : Nat} {w : World} (ht0 : 0 ≤ t) (ht3 : t ≤ 3) (hn : n ≤ 4) (hr : Rd w (kidsD e.kids) (.slice s e.kids.length c)) (htr : e.tree (t - 1) ((n : Int) - 1) = true) (hs : e.size ≤ 200) :
    Calls Tryz.prog 73 #[.agg #[.int .i64 t, .int .i64 n], .agg #[.int .i64 e.kind, .int .i64 e.num, .slice s e.kids.length c]] w fun f w' => ∃ s1 c1 s2 c2, f = .returned (.tuple #[.slice s1 (stLL (atomsN t).toNat n e).length c1, .slice s2 (stNN (atomsN t).toNat n e).length c2, .int .i64 (stCC (atomsN t).toNat n e)]) ∧
      Rd w' (kidsD (stLL (atomsN t).toNat n e)) (.slice s1 (stLL (atomsN t).toNat n e).length c1) ∧ Freshs w w' [iiiD (stNN (atomsN t).toNat n e)] [.slice s2 (stNN (atomsN t).toNat n e).length c2] ∧ Below w.heap.size w w' := by
  obtain ⟨hat1, hat8⟩ := atomsN_bd t
  obtain ⟨A, hA⟩ : ∃ A : Nat, atomsN t = (A : Int) := ⟨(atomsN t).toNat, by omega⟩
  have hA8 : A ≤ 8 := by omega
  rw [show (atomsN t).toNat = A by omega]
  have HA := Lib.hid hA
  clear hA hat1 hat8
  obtain ⟨F, hF⟩ : ∃ F, F = stL A n e 60 := ⟨_, rfl⟩
  have HF := Lib.hid hF
  have Htr := Lib.hid htr
  clear hF htr
  obtain ⟨-, hl, hcap, -, -⟩ := kid_at hr
  unfold maxLen at hcap
  have hmm := @run_makeMap Tryz.prog
  go_enter Tryz.func73, Tryz.ntmps73
  go_wp2_with fail
  obtain ⟨w1, e1, G, hb1, hz1⟩ := box2 w 33 (.int .i64 t) (.int .i64 (n : Int))
  rw [e1]
  obtain ⟨w0, e0, -, hb0, hz0⟩ := box3 w1 30 (.int .i64 e.kind) (.int .i64 e.num) (.slice s e.kids.length c)
  rw [e0]
  have hBw : Below w.heap.size w w0 := hb1.trans (hb0.mono hb1.size)
  replace G := G.below hb0
  have hr0 := hr.below hBw
  clear e1 e0 hb1 hb0 hr
  have hBun0 := (Bun.nil (B := w0.heap.size) (w := w0)).push_pool
  obtain ⟨X, hX1, -, hX3⟩ := hBun0.pool (Below.refl _ _) 0 rfl
  refine (tidy_all (t - 1) ((n : Int) - 1) (by omega) (by omega) _ e X s c w0 (Nat.le_refl _) (fun b h => (hX1 b h).1) (RdX.of_rd hr0 (fun b h => (hX1 b h).2)) Htr.out (by omega)).mono ?_
  rintro f w2 ⟨s2, c2, rfl, hx2, hb2⟩
  have hBun2 := hX3 w2 _ _ hb2 hx2
  have hz2 := hb2.size
  obtain ⟨ht1, ht2⟩ := tidy_spec (t - 1) ((n : Int) - 1) _ e (Nat.le_refl _) Htr.out
  have hBun3 := hBun2.push_raws hz2 30 3 1 (Sh.cells ⟨e.tidy, s2, c2⟩) (Sh.cells_one _) rfl (by unfold maxLen; omega)
  go_wp2_with fail
  clear hmm
  obtain ⟨w3, e3, N3, hb3, hz3⟩ := box3 w2 30 (.int .i64 e.tidy.kind) (.int .i64 e.tidy.num) (.slice s2 e.tidy.kids.length c2)
  rw [e3]
  replace hBun3 : Bun w0.heap.size w3 [.pool w0 [(kidsD e.tidy.kids, .slice s2 e.tidy.kids.length c2)], .app 30 3 1 ((Sh.cells ⟨e.tidy, s2, c2⟩).map D.raw) (.slice (some ⟨w2.heap.size, 0, none⟩) 1 1)] := by rw [← e3]; exact hBun3
  have hM4 : MapAt Tryz.prog 9 kfS (Value.int .i64) (w3.alloc (.map #[] 0)) w3.heap.size ([] : List (List UInt8 × Int)) := MapAt.made w3
  have hb4 : Below w3.heap.size w3 (w3.alloc (.map #[] 0)) := Below.alloc (Below.refl _ _) (Nat.le_refl _) _
  have hz4 : (w3.alloc (.map #[] 0)).heap.size = w3.heap.size + 1 := by simp
  have hBun4 := hBun3.push_one (by omega) hb4 (by omega) (map_of hM4 rfl)
  have hr4 := ((hx2.below hb3).below hb4).rd
  have hbe4 : Below w0.heap.size w0 (w3.alloc (.map #[] 0)) := (hb2.trans (hb3.mono hz2)).trans (hb4.mono (by omega))
  generalize w3.alloc (.map #[] 0) = w4 at hM4 hb4 hz4 hBun4 hr4 hbe4 ⊢
  refine (textOf_e hr4 (by omega) (by omega) ht1 (by omega)).mono ?_
  rintro f w5 ⟨rfl, hb5⟩
  have hM5 := hM4.below hb5
  have hBun5 := hBun4.below hb5
  have hbe5 := hbe4.trans (hb5.mono (by omega))
  have hz5 := hb5.size
  have hlb := text_bound (t - 1) ((n : Int) - 1) (by omega) (by omega) _ e.tidy (Nat.le_refl _) ht1
  have hkey := keyS (t := e.tidy.text) (by omega)
  have HBun5 := Lib.hid hBun5
  have Hbe5 := Lib.hid hbe5
  obtain ⟨g, hg⟩ : ∃ g, w2.heap.size + 1 = g := ⟨_, rfl⟩
  rw [hz3, hg] at hM5 HBun5
  simp only [hg]
  have hgl : w0.heap.size ≤ g := by omega
  clear hg
  clear hBun2 hBun3 hBun4 hBun5 hbe4 hbe5 hM4 hb2 hb3 hb4 hb5 hr4 hX3 hX1 hBun0 hx2 N3 e3
  go_wp2_with (refine wpList_insert_at _ rfl _ _ _ 162 rfl 9 2 lawS Tryz.underlying162 kfS_inj g hM5 e.tidy.text hkey 0 rfl rfl rfl ?_; intro w6 hM6 ho6; have hz6 := ho6.size; have HM6 := Lib.hid hM6; have Ho6 := Lib.hid ho6; clear hM6 ho6)
  have hBun6 := HBun5.out.turn_one (Q := NumAt g [e.tidy]) 2 rfl Ho6.out (map_of (M := mapL [e.tidy]) HM6.out rfl)
  have hbe6 : Below w0.heap.size w0 w6 := Hbe5.out.trans ⟨Ho6.out.os, Ho6.out.tape, Ho6.out.output, Ho6.out.size, fun b hb => Ho6.out.block b (by omega) (by simp; omega)⟩
  have hBun7 := hBun6.push_empty (by omega) 123 1
  have hbe7 := hbe6.alloc hbe6.size (.cells #[] 123)
  clear HBun5 Hbe5 HM6 Ho6 hBun6 hbe6 hM5 hkey hlb
  go_loopw [7, 9, 10] (fun v0 v1 i wr => StO w0 g A n e v0 v1 i wr) (fun _ _ i _ => 61 - (intOf i).toNat)
  case atStart =>
    refine ⟨0, [⟨e.tidy, s2, c2⟩], [(kidsD e.tidy.kids, .slice s2 e.tidy.kids.length c2)], rfl, by omega, GoodL.zero, by simp [stL, expl], by simp, rfl, ?_, ?_, hbe7⟩
    · intro z hz
      simp only [List.mem_singleton] at hz
      subst hz
      simp [Sh.pr]
    · simpa [stL, expl, stR, shD, shs, NumAt] using hBun7
  case round =>
    clear hBun7 hbe7
    obtain ⟨k, R, E, rfl, hk60, HG, hlen, hkl, hRe, hRE, hbun, hbe⟩ := hrel
    obtain ⟨wo, rfl⟩ : ∃ v, v = wr := ⟨_, rfl⟩
    obtain ⟨L, hL⟩ : ∃ L, stL A n e k = L := ⟨_, rfl⟩
    rw [hL] at hbun hlen hkl hRe
    have hRl : R.length = L.length := by rw [← hRe, List.length_map]
    obtain ⟨a0, c0, rfl, hc1, hc2⟩ := hbun.shape 1 rfl
    obtain ⟨a1, c1, rfl, hd1, hd2⟩ := hbun.shape 3 rfl
    unfold maxLen at hc2 hd2
    have HL := Lib.hid hL
    have HB := Lib.hid hbun
    have HBe := Lib.hid hbe
    have HRe := Lib.hid hRe
    have HRE := Lib.hid hRE
    have hk0 := Int.natCast_nonneg k
    have hzo := hbe.size
    have hlen' : R.length ≤ 60 := by omega
    have hkl' : k ≤ R.length := by omega
    have HRl := Lib.hid hRl
    clear hL hbun hbe hRe hRE hRl
    by_cases hlt : k < R.length
    rotate_left
    · have hdone : (stL A n e k).length ≤ k := by rw [HL.out, ← HRl.out]; omega
      obtain ⟨q1, q2, q3⟩ := stLL_yes (stOk_done hdone hk60 HG.out)
      have q4 : Hid (stLL A n e = L) := by show _ = _; rw [q1, stL_done hdone hk60, HL.out]
      have q5 : Hid (stNN A n e = stR A n e k) := by show _ = _; rw [q2, stR_done hdone hk60]
      have hRl : Hid ((stR A n e k).length = k) := by
        show _ = _
        unfold stR
        rw [List.length_map, List.length_take, stL_done hdone hk60, HL.out, ← HRl.out]
        omega
      have Hf := Lib.hid (Freshs.one (HB.out.fresh (W := w) (by have := hBw.size; omega) 3 rfl))
      have Hrd := Lib.hid (HB.out.sh_rd HBe.out 0 1 rfl rfl HRE.out)
      have Q3 := Lib.hid q3
      clear hdone q1 q2 q3
      go_wp2_with fail
      go_ret3
      refine ⟨a0, c0, a1, c1, by rw [q4.out, q5.out, hRl.out, Q3.out, ← HRl.out]; rfl, ?_, ?_, hBw.trans (HBe.out.mono hBw.size)⟩
      · have h := Hrd.out
        rw [HRe.out] at h
        rw [q4.out, ← HRl.out]
        exact h
      · rw [q5.out]
        show Freshs w _ [.sl 1 (stR A n e k).length ((stR A n e k).map iiD)] _
        rw [hRl.out]
        exact Hf.out
    · obtain ⟨z, hz⟩ : ∃ z, R[k]? = some z := ⟨_, List.getElem?_eq_getElem hlt⟩
      have HX0 : Hid ((stL A n e k)[k]? = some z.e) := by show _ = _; rw [HL.out]; exact sh_map_at HRe.out hz
      obtain ⟨x, hx⟩ : ∃ x, z.e = x := ⟨_, rfl⟩
      have HX : Hid ((stL A n e k)[k]? = some x) := by rw [← hx]; exact HX0
      have hk6 : k < 60 := by omega
      have hkL : k < L.length := by have := HRl.out; omega
      clear HX0 hx hz
      obtain ⟨g0, g1, ltG⟩ := (G.below HBe.out).all2
      have hBun5 := HB.out.push_empty hzo 52 1
      have hbe5 := HBe.out.alloc hzo (.cells #[] 52)
      have hz5 : (wo.alloc (.cells #[] 52)).heap.size = wo.heap.size + 1 := by simp
      go_wp2_with fail
      clear g0 g1 ltG
      generalize wo.alloc (.cells #[] 52) = w5 at hBun5 hbe5 hz5 ⊢
      refine (atomsIn_i ht0 ht3).mono ?_
      rintro f w6 ⟨rfl, hb6⟩
      rw [HA.out]
      have hBun6 := hBun5.below hb6
      have hbe6 := hbe5.trans (hb6.mono (by omega))
      have HB6 := Lib.hid hBun6
      have HBe6 := Lib.hid hbe6
      have hz6 := hb6.size
      clear hBun5 hbe5 hb6 hBun6 hbe6
      go_wp2_with fail
      go_loopw [7, 11, 39] (fun v0 v2 i wr => StM w0 g A n e F k x (.slice a1 k c1) v0 v2 i wr) (fun _ _ i _ => A - (intOf i).toNat)
      case atStart => exact ⟨0, R, E, rfl, by omega, GoodTo.zero, by rw [stC_zero, HL.out]; exact hlen, by rw [stC_zero, HL.out]; exact ⟨HRe.out, HRE.out, by simpa using HB6.out, HBe6.out⟩⟩
      case round =>
        clear HB HBe HB6 HBe6 HRe HRE HRl
        obtain ⟨m, R, E, rfl, hmA, HG0, hlenm, hRe, hRE, hbun, hbe⟩ := hrel
        obtain ⟨wm, rfl⟩ : ∃ v, v = wr := ⟨_, rfl⟩
        have hRl : R.length = (stC A n e k x m 0).length := by rw [← hRe, List.length_map]
        rw [← hRl] at hlenm
        have hlen2 := prefix_length (stC_old (A := A) (a := n) (e := e) (i := k) (x := x) (m := m) (k := 0))
        rw [← hRl, HL.out] at hlen2
        obtain ⟨a3, c3, rfl, hc3, hc4⟩ := hbun.shape 1 rfl
        obtain ⟨a4, c4, rfl, hd3, hd4⟩ := hbun.shape 4 rfl
        unfold maxLen at hc4 hd4
        have HB4 := Lib.hid hbun
        have HBe4 := Lib.hid hbe
        have HRe := Lib.hid hRe
        have HRE := Lib.hid hRE
        have HRl := Lib.hid hRl
        have hm0 := Int.natCast_nonneg m
        have hzm := hbe.size
        clear hbun hbe hRe hRE hRl
        by_cases hmlt : m < A
        rotate_left
        · obtain rfl : A = m := by omega
          have Heq : Hid ((stR A n e (k + 1)).map iiD = (stR A n e k).map iiD ++ [D.sl 1 A (((rowsE F A n x).take A).map intsD)]) := by
            show _ = _
            rw [stR_succ HX.out hk6, List.map_append, HF.out, List.take_of_length_le (by rw [rowsE_len]; omega)]
            show _ ++ [nestD intsD _] = _
            unfold nestD
            rw [rowsE_len]
          have HEL : Hid (stL A n e (k + 1) = stC A n e k x A 0) := by show _ = _; rw [stC_all HX.out]
          have HG2 : Hid (GoodL A n e (k + 1)) := HG.out.succ HX.out HG0.out
          have hBu := HB4.out.alloc (.cells #[.slice a4 A c4] 123)
          have hNb := Blk.new1 wm 123 (.slice a4 A c4)
          go_wp2_with (at_builtin; go_must (refine wpList_append_bun_own _ rfl _ _ 73 rfl 123 24 Tryz.underlying73 info_i64ss hBu (by simp; omega) 3 _ rfl rfl 4 (by decide) _ rfl ⟨wm.heap.size, 0, none⟩ rfl (news_blk hNb) (by omega) (by unfold maxLen; omega) ?_); intro g6 cap6 w6 hbun6 hb6)
          have Hfin := Lib.hid (And.intro (hbun6.take 4) ((HBe4.out.alloc hzm (.cells #[.slice a4 A c4] 123)).trans hb6))
          clear hbun6 hb6 hBu hNb
          go_wp2_with fail
          go_roundw
          case rel =>
            refine ⟨k + 1, R, E, by go_num, by omega, HG2, by rw [HEL.out, ← HRl.out]; omega, by rw [HEL.out, ← HRl.out]; omega, by rw [HEL.out]; exact HRe.out, HRE.out, ?_, Hfin.out.2⟩
            have h := Hfin.out.1
            rw [Heq.out, HEL.out]
            exact h
          case measure => simp [intOf]; omega
        · have hm1 : (m : Int) < (A : Int) := by omega
          obtain ⟨g0, g1, ltG⟩ := (G.below HBe4.out).all2
          go_wp2_with fail
          clear g0 g1 ltG
          have hB6 := HB4.out.push_empty hzm 2 1
          have hbe6 := HBe4.out.alloc hzm (.cells #[] 2)
          go_loopw [7, 13, 45] (fun v0 v3 i wr => StN w0 g A n e F k x m (.slice a1 k c1) (.slice a4 m c4) v0 v3 i wr) (fun _ _ i _ => n - (intOf i).toNat)
          case atStart => exact ⟨0, R, E, rfl, by omega, HG0, by rw [← HRl.out]; exact hlenm, HRe.out, HRE.out, by simpa using hB6, hbe6⟩
          case round =>
            clear hB6 hbe6 HB4 HBe4 HRe HRE HRl
            obtain ⟨q, R, E, rfl, hqn, HG1, hlenq, hRe, hRE, hbun, hbe⟩ := hrel
            obtain ⟨wq, rfl⟩ : ∃ v, v = wr := ⟨_, rfl⟩
            obtain ⟨Lc, hLc⟩ : ∃ Lc, stC A n e k x m q = Lc := ⟨_, rfl⟩
            have hat := stL_at (m := m) (k := q) HX.out
            have hlen3 := prefix_length (stC_old (A := A) (a := n) (e := e) (i := k) (x := x) (m := m) (k := q))
            have hnd := stC_nodup (A := A) (a := n) (e := e) (i := k) (x := x) (m := m) (k := q)
            have hspec := stC_spec (A := A) (a := n) (m := m) (k := q) Htr.out hs HX.out hk6
            rw [hLc] at hbun hat hlen3 hnd hRe hlenq hspec
            have hRl : R.length = Lc.length := by rw [← hRe, List.length_map]
            rw [HL.out, ← hRl] at hlen3
            rw [← hRl] at hlenq
            obtain ⟨zk, hzk⟩ : ∃ zk, R[k]? = some zk := ⟨_, List.getElem?_eq_getElem (by omega)⟩
            have hzx : zk.e = x := by have h := sh_map_at hRe hzk; rw [hat] at h; exact (Option.some.inj h).symm
            obtain ⟨lg, c5, e5, hlg, i0, i1, i2⟩ := hbun.sh_at 1 rfl hzk
            obtain ⟨a6, c6, rfl, hd5, hd6⟩ := hbun.shape 5 rfl
            obtain ⟨a5, c5', e5', hc5, hc6⟩ := hbun.shape 1 rfl
            have hgm := hbun.one 2 rfl
            subst e5
            simp only [Value.slice.injEq, true_and] at e5'
            obtain ⟨rfl, rfl⟩ := e5'
            unfold maxLen at hc6 hd6
            rw [hzx] at i0 i1 i2
            have HLc := Lib.hid hLc
            have HB6 := Lib.hid hbun
            have HBe6 := Lib.hid hbe
            have HRe := Lib.hid hRe
            have HRE := Lib.hid hRE
            have HRl := Lib.hid hRl
            have Hnd := Lib.hid hnd
            have Hsp := Lib.hid hspec
            have Hzk := Lib.hid hzk
            have Hzx := Lib.hid hzx
            have hq0 := Int.natCast_nonneg q
            have hzq := hbe.size
            obtain ⟨g0, g1, ltG⟩ := (G.below hbe).all2
            obtain ⟨hgB, hgl2⟩ := hgm.2
            clear hbun hbe hLc hat hnd hRe hRE hRl hspec hzk hzx hgm
            by_cases hqlt : q < n
            rotate_left
            · obtain rfl : n = q := by omega
              have Heq : Hid (((rowsE F A n x).take (m + 1)).map intsD = ((rowsE F A n x).take m).map intsD ++ [D.sl 1 n (((rowE F n m x).take n).map D.int)]) := by
                show _ = _
                rw [rowsE_take hmlt, List.map_append, List.take_of_length_le (l := rowE F n m x) (by rw [rowE_len]; omega)]
                show _ ++ [D.sl 1 (rowE F n m x).length _] = _
                rw [rowE_len]
              have HEL : Hid (stC A n e k x (m + 1) 0 = Lc) := by show _ = _; rw [← stC_line, HLc.out]
              have HG2 : Hid (GoodTo n x (m + 1) 0) := HG1.out.line
              have hBu := HB6.out.alloc (.cells #[.slice a6 n c6] 52)
              have hNb := Blk.new1 wq 52 (.slice a6 n c6)
              clear i0 i1 i2 g0 g1 ltG
              go_wp2_with (at_builtin; go_must (refine wpList_append_bun_own _ rfl _ _ 123 rfl 52 24 Tryz.underlying123 info_i64s hBu (by simp; omega) 4 _ rfl rfl 5 (by decide) _ rfl ⟨wq.heap.size, 0, none⟩ rfl (news_blk hNb) (by omega) (by unfold maxLen; omega) ?_); intro g6 cap6 w6 hbun6 hb6)
              have Hfin := Lib.hid (And.intro (hbun6.take 5) ((HBe6.out.alloc hzq (.cells #[.slice a6 n c6] 52)).trans hb6))
              clear hbun6 hb6 hBu hNb
              go_wp2_with fail
              go_roundw
              case rel =>
                refine ⟨m + 1, R, E, by go_num, by omega, HG2, by rw [HEL.out, ← HRl.out]; exact hlenq, by rw [HEL.out]; exact HRe.out, HRE.out, ?_, Hfin.out.2⟩
                have h := Hfin.out.1
                rw [Heq.out, HEL.out]
                exact h
              case measure => simp [intOf]; omega
            · have hk1 : (k : Int) < (R.length : Int) := by omega
              have hq1 : (q : Int) < (n : Int) := by omega
              obtain ⟨X, hX1, hX2, hX3⟩ := HB6.out.pool HBe6.out 0 rfl
              have hzX : ExX X wq x zk.s zk.c := by
                have h := hX2 zk.pr (HRE.out zk (List.mem_of_getElem? Hzk.out))
                simp only [Sh.pr, Hzx.out] at h
                exact h
              have HX1 := Lib.hid hX1
              have HX3 := Lib.hid hX3
              obtain ⟨hxt, hxs⟩ := stL_spec Htr.out hs k x (List.mem_of_getElem? HX.out)
              clear hX1 hX2 hX3
              go_wp2_with fail
              clear g0 g1 ltG i0 i1 i2
              cases ho : x.step m q with
              | none =>
                have HNO := Lib.hid (stOk_bad HX.out hk6 hmlt hqlt ho)
                have Ho := Lib.hid ho
                clear ho
                refine (derived_none (by omega) (by omega) (by omega) (by omega) (fun b h => (HX1.out b h).1) hzX hxt (by omega) Ho).mono ?_
                rintro f w7 ⟨s7, c7, rfl, hb7⟩
                have hz7 := hb7.size
                obtain ⟨q1, q2, q3⟩ := stLL_no HNO.out
                have HBQ := Lib.hid (hBw.trans ((HBe6.out.trans (hb7.mono (by omega))).mono (by have := hBw.size; omega)))
                go_wp2_with fail
                go_ret3
                refine ⟨none, 0, none, 0, by rw [q1, q2, q3]; rfl, ?_, ?_, ?_⟩
                · rw [q1]; exact kidsD_nil.rd (X := fun _ => False)
                · rw [q2]; exact nil_iii
                · have hBQ := HBQ.out
                  have hzQ := hBQ.size
                  (repeat' first | exact Below.refl _ _ | assumption | apply Below.alloc | apply Below.drew | apply Below.setCell | omega | (simp; done) | (simp; omega))
              | some d =>
                have HG2 := Lib.hid (HG1.out.cell (step_live ho))
                obtain ⟨hdt, hds⟩ := step_spec _ _ m q _ x d (Nat.le_refl _) hxt ho
                have Ho := Lib.hid ho
                clear ho
                refine (derived_some (by omega) (by omega) (by omega) (by omega) (fun b h => (HX1.out b h).1) hzX hxt (by omega) Ho).mono ?_
                rintro f w7 ⟨s7, c7, rfl, hd7, hb7⟩
                have hz7 := hb7.size
                have hBun7 := HX3.out w7 _ _ hb7 hd7
                have HB7 := Lib.hid hBun7
                have HBe7 := Lib.hid (HBe6.out.trans (hb7.mono (by omega)))
                have HRE7 : Hid (∀ z ∈ R, z.pr ∈ E ++ [(kidsD d.kids, .slice s7 d.kids.length c7)]) := fun z hz => List.mem_append_left _ (HRE.out z hz)
                have hd7r := hd7.rd
                clear HX1 HX3 hzX hBun7 hb7 hd7
                by_cases hd1 : d.kind = 1
                · have c1 : (d.kind == 1) = true := by simp [hd1]
                  have hde := nxtE_dead Ho.out hd1
                  have HEV : Hid (numO F (nxtE m q x) = -1) := by show _ = _; exact st_dead hde
                  have HEL : Hid (stC A n e k x m (q + 1) = Lc) := by show _ = _; rw [stC_dead hmlt hqlt hde, HLc.out]
                  have hBu := (HB7.out.alloc (.cells #[.int .i64 d.kind, .int .i64 d.num, .slice s7 d.kids.length c7] 30)).alloc (.cells #[.int .i64 (-1)] 2)
                  have hNb := Blk.new1 (w7.alloc (.cells #[.int .i64 d.kind, .int .i64 d.num, .slice s7 d.kids.length c7] 30)) 2 (.int .i64 (-1))
                  simp at hNb
                  clear hde hd1 hd7r
                  go_wp2_with
                    (at_builtin; go_must (refine wpList_append_bun _ rfl _ _ 52 rfl 2 (.int .i64 0) 1 8 Tryz.underlying52 info_int64 rfl (by decide) (hBu) (by simp <;> omega) 5 _ rfl rfl ⟨w7.heap.size + 1, 0, none⟩ 1 1 [.int .i64 (-1)] rfl (news_blk hNb) none_own rfl (by simp [Value.oneCell']) (by omega) (by omega) (by unfold maxLen; omega) ?_); intro g6 cap6 w6 hbun6 hb6)
                  have Hds : Hid (((rowE F n m x).take (q + 1)).map D.int = ((rowE F n m x).take q).map D.int ++ [D.int (-1)]) := by show _ = _; rw [rowE_take hqlt, List.map_append, HEV.out]; rfl
                  have Hfin := Lib.hid (And.intro hbun6 ((((HBe7.out.alloc (by omega) (.cells #[.int .i64 d.kind, .int .i64 d.num, .slice s7 d.kids.length c7] 30)).alloc (by simp; omega) (.cells #[.int .i64 (-1)] 2))).trans hb6))
                  clear hbun6 hb6
                  go_wp2_with fail
                  go_roundw
                  case rel =>
                    refine ⟨q + 1, R, _, by go_num, by omega, HG2, (by rw [HEL.out, ← HRl.out]; exact hlenq), (by rw [HEL.out]; exact HRe.out), HRE7.out, ?_, Hfin.out.2⟩
                    have h := Hfin.out.1
                    rw [Hds.out, HEL.out]
                    exact h
                  case measure => simp [intOf]; omega
                · have c1 : (d.kind == 1) = false := by simp [hd1]
                  have hdl := nxtE_live Ho.out hd1
                  have hwas := @st_was A n e k x m q HX.out hk6 hmlt hqlt d hdl
                  have hnew := @st_new A n e k x m q HX.out hk6 hmlt hqlt d hdl
                  have hLw := @stC_was A n e k x m q hmlt hqlt d hdl
                  have hLn := @stC_new A n e k x m q hmlt hqlt d hdl
                  rw [HLc.out, ← HF.out] at hwas hnew
                  rw [HLc.out] at hLw hLn
                  have Hwas := Lib.hid hwas
                  have Hnew := Lib.hid hnew
                  have HLw := Lib.hid hLw
                  have HLn := Lib.hid hLn
                  clear hdl hwas hnew hLw hLn hd1
                  go_wp2_with fail
                  obtain ⟨w8, e8, N2, hb8, hz8⟩ := box3 w7 30 (.int .i64 d.kind) (.int .i64 d.num) (.slice s7 d.kids.length c7)
                  rw [e8]
                  have HB8 := Lib.hid (HB7.out.below hb8)
                  have HBe8 := Lib.hid (HBe7.out.trans (hb8.mono (by omega)))
                  have hd8 := hd7r.below hb8
                  clear e8 hb8 hd7r
                  refine (textOf_e hd8 (by omega) (by omega) hdt (by omega)).mono ?_
                  rintro f w9 ⟨rfl, hb9⟩
                  have HB9 := Lib.hid (HB8.out.below hb9)
                  have HBe9 := Lib.hid (HBe8.out.trans (hb9.mono (by omega)))
                  replace N2 := N2.below hb9
                  have hz9 := hb9.size
                  have hM9 : MapAt Tryz.prog 9 kfS (Value.int .i64) w9 g (mapL Lc) := (HB9.out.one 2 rfl).1
                  have hlb := text_bound (t - 1) ((n : Int) - 1) (by omega) (by omega) _ d (Nat.le_refl _) hdt
                  have hkey := keyS (t := d.text) (by omega)
                  have hnod := hM9.nodup
                  clear hb9 hd8
                  by_cases hin : d ∈ Lc
                  · have hfind : Hid (findM (mapL Lc) d.text = some (findI Lc d)) := mapL_in hnod Hnd.out hin
                    have HEV : Hid (numO F (nxtE m q x) = findI Lc d) := by show _ = _; exact Hwas.out hin
                    have HEL : Hid (stC A n e k x m (q + 1) = Lc) := by show _ = _; exact HLw.out hin
                    obtain ⟨Z, hZ⟩ : ∃ Z, findI Lc d = Z := ⟨_, rfl⟩
                    rw [hZ] at HEV hfind
                    have hBu := HB9.out.alloc (.cells #[.int .i64 Z] 2)
                    have hNb := Blk.new1 w9 2 (.int .i64 Z)
                    have Hkey := Lib.hid hkey
                    clear hZ hin hnod hlb hkey
                    go_wp2_with (first
                      | (at_lookup; refine wpList_lookup_at _ rfl _ _ 162 true rfl 9 2 lawS Tryz.underlying162 (.int .i64 0) (zeroI64 _) kfS_inj g hM9 d.text Hkey.out rfl rfl (some Z) hfind.out ?_; simp only [lookV])
                      |
                        (at_builtin; go_must (refine wpList_append_bun _ rfl _ _ 52 rfl 2 (.int .i64 0) 1 8 Tryz.underlying52 info_int64 rfl (by decide) (hBu) (by simp <;> omega) 5 _ rfl rfl ⟨w9.heap.size, 0, none⟩ 1 1 [.int .i64 Z] rfl (news_blk hNb) none_own rfl (by simp [Value.oneCell']) (by omega) (by omega) (by unfold maxLen; omega) ?_); intro g6 cap6 w6 hbun6 hb6)
                        )
                    have Hds : Hid (((rowE F n m x).take (q + 1)).map D.int = ((rowE F n m x).take q).map D.int ++ [D.int Z]) := by show _ = _; rw [rowE_take hqlt, List.map_append, HEV.out]; rfl
                    have Hfin := Lib.hid (And.intro hbun6 (((HBe9.out.alloc (by omega) (.cells #[.int .i64 Z] 2))).trans hb6))
                    clear hbun6 hb6
                    go_wp2_with fail
                    go_roundw
                    case rel =>
                      refine ⟨q + 1, R, _, by go_num, by omega, HG2, (by rw [HEL.out, ← HRl.out]; exact hlenq), (by rw [HEL.out]; exact HRe.out), HRE7.out, ?_, Hfin.out.2⟩
                      have h := Hfin.out.1
                      rw [Hds.out, HEL.out]
                      exact h
                    case measure => simp [intOf]; omega
                  · have hfind : Hid (findM (mapL Lc) d.text = none) := mapL_out (tm := t - 1) (am := (n : Int) - 1) (by omega) (by omega) (fun y hy => (Hsp.out y hy).1) hdt hin
                    have HEV : Hid (numO F (nxtE m q x) = (R.length : Int)) := by show _ = _; rw [HRl.out]; exact Hnew.out hin
                    have HEL : Hid (stC A n e k x m (q + 1) = Lc ++ [d]) := by show _ = _; exact HLn.out hin
                    have Heqm : Hid (putM (mapL Lc) d.text (R.length : Int) = mapL (Lc ++ [d])) := by show _ = _; rw [putM_new hfind.out, mapL_snoc, HRl.out]
                    have Hkey := Lib.hid hkey
                    clear hin hnod hlb hkey
                    by_cases h60 : R.length = 60
                    · have c60 : ((R.length : Int) == 60) = true := by simp [h60]
                      have HNO := Lib.hid (stOk_many (A := A) (a := n) (e := e) (m := m) (k := q + 1) HX.out hk6 (by rw [HEL.out, List.length_append, ← HRl.out, h60]; simp))
                      have H60 := Lib.hid h60
                      clear h60
                      go_wp2_with (at_lookup; refine wpList_lookup_at _ rfl _ _ 162 true rfl 9 2 lawS Tryz.underlying162 (.int .i64 0) (zeroI64 _) kfS_inj g hM9 d.text Hkey.out rfl rfl none hfind.out ?_; simp only [lookV])
                      obtain ⟨q1, q2, q3⟩ := stLL_no HNO.out
                      have HBQ := Lib.hid (hBw.trans ((HBe9.out).mono (by have := hBw.size; omega)))
                      go_wp2_with fail
                      go_ret3
                      refine ⟨none, 0, none, 0, by rw [q1, q2, q3]; rfl, ?_, ?_, ?_⟩
                      · rw [q1]; exact kidsD_nil.rd (X := fun _ => False)
                      · rw [q2]; exact nil_iii
                      · have hBQ := HBQ.out
                        have hzQ := hBQ.size
                        (repeat' first | exact Below.refl _ _ | assumption | apply Below.alloc | apply Below.drew | apply Below.setCell | omega | (simp; done) | (simp; omega))
                    · have c60 : ((R.length : Int) == 60) = false := beq_eq_false_iff_ne.2 (by omega)
                      have hl59 : R.length ≤ 59 := by omega
                      clear h60
                      go_wp2_with (first
                        | (at_lookup; refine wpList_lookup_at _ rfl _ _ 162 true rfl 9 2 lawS Tryz.underlying162 (.int .i64 0) (zeroI64 _) kfS_inj g hM9 d.text Hkey.out rfl rfl none hfind.out ?_; simp only [lookV])
                        | (at_mapUpdate; go_must (refine (wpList_mapUpdate_at _ rfl _ _ _ 162 rfl 9 2 lawS Tryz.underlying162 kfS_inj g hM9 d.text Hkey.out (R.length : Int) rfl rfl rfl ?_); intro w10 hM10 ho10; have hz10 := ho10.size; have N3 := N2.keep (ho10.block _ N2.lt (by simp; omega)); have n0 := N3.c0; have n1 := N3.c1; have n2 := N3.c2; have ltN := N3.lt; have hBl := (HB9.out.turn_one (Q := NumAt g (Lc ++ [d])) 2 rfl ho10 (map_of hM10 Heqm.out)).alloc (.cells #[.int .i64 d.kind, .int .i64 d.num, .slice s7 d.kids.length c7] 30); have hNl : Blk _ w10.heap.size 30 (Sh.cells ⟨d, s7, c7⟩) := Blk.new3 w10 30 (.int .i64 d.kind) (.int .i64 d.num) (.slice s7 d.kids.length c7); have Hbe10 : Hid (Below w0.heap.size w0 w10) := HBe9.out.trans ⟨ho10.os, ho10.tape, ho10.output, ho10.size, fun b hb => ho10.block b (by omega) (by simp; omega)⟩; clear hM10 ho10 N3))
                        | (at_builtin; (refine wpList_append_bun _ rfl _ _ 28 rfl 30 (.agg #[.int .i64 0, .int .i64 0, .slice none 0 0]) 3 40 Tryz.underlying28 info_iExpr rfl (by decide) hBl (by simp; omega) 1 _ rfl rfl ⟨w10.heap.size, 0, none⟩ 1 1 (Sh.cells ⟨d, s7, c7⟩) rfl (news_blk hNl) (raw_own (Sh.cells_one _)) rfl (Sh.cells_one _) (by omega) (by omega) (by unfold maxLen; omega) ?_); intro g5 cap5 w11 hbun5 hb11; have hz11 : w10.heap.size + 1 ≤ w11.heap.size := (by have q := hb11.size; simpa using q); have hBu := hbun5.alloc (.cells #[.int .i64 (R.length : Int)] 2); have hNb := Blk.new1 w11 2 (.int .i64 (R.length : Int)); have Hb11 := Lib.hid hb11; clear hbun5 hb11)
                        |
                          (at_builtin; go_must (refine wpList_append_bun _ rfl _ _ 52 rfl 2 (.int .i64 0) 1 8 Tryz.underlying52 info_int64 rfl (by decide) (hBu) (by simp <;> omega) 5 _ rfl rfl ⟨w11.heap.size, 0, none⟩ 1 1 [.int .i64 (R.length : Int)] rfl (news_blk hNb) none_own rfl (by simp [Value.oneCell']) (by omega) (by omega) (by unfold maxLen; omega) ?_); intro g6 cap6 w6 hbun6 hb6)
                          )
                      have Hds : Hid (((rowE F n m x).take (q + 1)).map D.int = ((rowE F n m x).take q).map D.int ++ [D.int (R.length : Int)]) := by show _ = _; rw [rowE_take hqlt, List.map_append, HEV.out]; rfl
                      have Hfin := Lib.hid (And.intro hbun6 (((((Hbe10.out.alloc (by omega) (.cells #[.int .i64 d.kind, .int .i64 d.num, .slice s7 d.kids.length c7] 30)).trans Hb11.out).alloc (by omega) (.cells #[.int .i64 (R.length : Int)] 2))).trans hb6))
                      clear hbun6 hb6
                      go_wp2_with fail
                      go_roundw
                      case rel =>
                        refine ⟨q + 1, (R ++ [⟨d, s7, c7⟩]), _, by go_num, by omega, HG2, (by rw [HEL.out, List.length_append, ← HRl.out]; simp; omega), (by rw [HEL.out, List.map_append, HRe.out]; rfl), (fun y hy => (List.mem_append.1 hy).elim (fun h => HRE7.out y h) (fun h => by rw [List.mem_singleton] at h; subst h; simp [Sh.pr])), ?_, Hfin.out.2⟩
                        have h := Hfin.out.1
                        rw [Hds.out, HEL.out, shs_snoc, sh_len]
                        exact h
                      case measure => simp [intOf]; omega
end Go.Proofs.YtjlmdhoajfdkbaaGreatDoor

namespace Go.Proofs.YtjlmdhoajfdkbaaGreatDoor
set_option linter.unusedVariables false
set_option linter.unusedSimpArgs false
open Go.ChangeShapes Go.WideShapes Go.ChangeAt Go.RowKit Go.Deep
theorem AppS.made {S : Nat → Prop} {w : World} {t size m : Nat} {es : List D} {news : List Value} (h : OwS S w es news) (hS : ∀ b, S b → b < w.heap.size) (hl : news.length = m * size) (hm : m ≤ maxLen) :
    AppS (fun b => S b ∨ b = w.heap.size) (w.alloc (.cells news.toArray t)) t size m es (.slice (some ⟨w.heap.size, 0, none⟩) m m) := by
  obtain ⟨F, h1, h2, h3⟩ := h
  have hb := Blk.made w t news.toArray
  refine ⟨news, F, ⟨hl, Or.inr ⟨w.heap.size, m, news.toArray, rfl, Nat.zero_le _, by simpa [Blk] using hb, Nat.le_refl _, hm, by simp [hl], ?_⟩⟩, h1.keep fun b hm => Below.heap_alloc w _ b (h1.lt b hm), h2, fun b hb' => ⟨Or.inl (h3 b hb'), ?_⟩, fun b hb' => ?_⟩
  · rw [← hl]; simp
  · have := hS b (h3 b hb')
    simp only [Value.ownBlock, ne_eq, Option.some.injEq]
    omega
  · simp only [Value.ownBlock, Option.some.injEq] at hb'
    exact Or.inr hb'.symm
theorem Bun.single {B : Nat} {w : World} {t size n : Nat} {ds : List D} {v : Value} (h : AppS (fun b => B ≤ b ∧ b < w.heap.size) w t size n ds v) : Bun B w [.app t size n ds v] := by
  refine ⟨fun _ => 0, fun i it hi => ?_⟩
  match i, hi with
  | 0, hi =>
    simp at hi
    subst hi
    exact AppS.more h fun b _ hb => ⟨hb.1, hb.2, rfl⟩
  | i + 1, hi => simp at hi
theorem bun_one {w1 w2 : World} {x : Ex} {s : Option Addr} {c t : Nat} (hf : Freshs w1 w2 [kidsD x.kids] [.slice s x.kids.length c]) (hb : w1.heap.size ≤ w2.heap.size) :
    Bun w1.heap.size (w2.alloc (.cells #[.int .i64 x.kind, .int .i64 x.num, .slice s x.kids.length c] t)) [.app t 3 1 (Ex.cellsL [x]) (.slice (some ⟨w2.heap.size, 0, none⟩) 1 1)] := by
  obtain ⟨F, h1, h2, h3⟩ := hf.single
  have ho : OwS (fun b => w1.heap.size ≤ b ∧ b < w2.heap.size) w2 (Ex.cellsL [x]) [.int .i64 x.kind, .int .i64 x.num, .slice s x.kids.length c] := by
    refine ⟨F, ?_, h2, fun b hb => ⟨h3 b hb, h1.lt b hb⟩⟩
    simp only [Ex.cellsL, List.append_nil]
    rw [Ex.cells_eq]
    exact Ows.three h1
  refine Bun.single (AppS.more (AppS.made (t := t) (size := 3) (m := 1) ho (fun b h => h.2) rfl (by unfold maxLen; omega)) fun b _ hc => ?_)
  have hz : (w2.alloc (.cells #[.int .i64 x.kind, .int .i64 x.num, .slice s x.kids.length c] t)).heap.size = w2.heap.size + 1 := by simp
  rcases hc with hc | hc <;> omega
theorem own_ex {w1 w2 : World} {x : Ex} {s : Option Addr} {c : Nat} (hf : Freshs w1 w2 [kidsD x.kids] [.slice s x.kids.length c]) : Freshs w1 w2 [.int x.kind, .int x.num, kidsD x.kids] [.int .i64 x.kind, .int .i64 x.num, .slice s x.kids.length c] := by
  obtain ⟨F, h1, h2, h3⟩ := hf.single
  exact ⟨F, Ows.three h1, h2, h3⟩
theorem cellsL_snoc (L : List Ex) (x : Ex) : Ex.cellsL (L ++ [x]) = Ex.cellsL L ++ [.int x.kind, .int x.num, kidsD x.kids] := by
  rw [Ex.cellsL_append, ← Ex.cells_eq]
  simp [Ex.cellsL]
theorem findI_live {m k : Nat} {x d : Ex} (h : x.step m k = some d) : x.step m k ≠ none := by rw [h]; simp
theorem empty2 {w w' : World} (a b : Addr) : Freshs w w' [kidsD [], iiiD []] [.slice (some a) 0 0, .slice (some b) 0 0] := by
  refine ⟨[], Ows.cons (F := []) (G := []) ?_ (Ows.cons (F := []) (G := []) ?_ Ows.nil), by simp, by simp⟩
  · simp only [kidsD, Ow]
    exact ⟨_, 0, rfl, by simp, by simp [maxLen], by simp [Ex.cellsL], by simp, Or.inl (by simp)⟩
  · simp only [iiiD, nestD, Ow]
    exact ⟨_, 0, rfl, by simp, by simp [maxLen], by simp, by simp, Or.inl (by simp)⟩
set_option maxRecDepth 100000 in
set_option maxHeartbeats 16000000 in
theorem l02States_i {t : Int} {n : Nat} {e : Ex} {b o : Nat} {w : World} (ht0 : 0 ≤ t) (ht3 : t ≤ 3) (hn : n ≤ 4) (hx : ExAt w b o e) (htr : e.tree (t - 1) ((n : Int) - 1) = true) (hs : e.size ≤ 200) :
    Calls Tryz.prog 72 #[.agg #[.int .i64 t, .int .i64 n], .pointer (some ⟨b, o, none⟩)] w fun f w' => ∃ s c s' c', f = .returned (.tuple #[.slice s (stLL (atomsN t).toNat n e).length c, .slice s' (stNN (atomsN t).toNat n e).length c', .int .i64 (stCC (atomsN t).toNat n e)]) ∧
      Freshs w w' [kidsD (stLL (atomsN t).toNat n e), iiiD (stNN (atomsN t).toNat n e)] [.slice s (stLL (atomsN t).toNat n e).length c, .slice s' (stNN (atomsN t).toNat n e).length c'] ∧ Below w.heap.size w w' := by
  obtain ⟨hat1, hat8⟩ := atomsN_bd t
  obtain ⟨A, hA⟩ : ∃ A : Nat, atomsN t = (A : Int) := ⟨(atomsN t).toNat, by omega⟩
  have hA8 : A ≤ 8 := by omega
  rw [show (atomsN t).toNat = A by omega]
  have HA := Lib.hid hA
  clear hA hat1 hat8
  obtain ⟨F, hF⟩ : ∃ F, F = stL A n e 60 := ⟨_, rfl⟩
  have HF := Lib.hid hF
  have Htr := Lib.hid htr
  clear hF htr
  go_enter Tryz.func72, Tryz.ntmps72
  go_wp2_with fail
  obtain ⟨w1, e1, G, hb1, hz1⟩ := box2 w 33 (.int .i64 t) (.int .i64 (n : Int))
  rw [e1]
  clear e1
  refine (l02Tidy_all (t - 1) ((n : Int) - 1) (by omega) (by omega) _ e b o w1 (Nat.le_refl _) (hx.below hb1) Htr.out (by omega)).mono ?_
  rintro f w2 ⟨s2, c2, rfl, hf2, hb2⟩
  have hz2 := hb2.size
  have hB1 := bun_one (t := 30) hf2 hz2
  have hbe3 : Below w1.heap.size w1 (w2.alloc (.cells #[.int .i64 e.tidy.kind, .int .i64 e.tidy.num, .slice s2 e.tidy.kids.length c2] 30)) := hb2.alloc hz2 _
  go_wp2_with fail
  obtain ⟨w3, e3, -, -, hz3⟩ := box3 w2 30 (.int .i64 e.tidy.kind) (.int .i64 e.tidy.num) (.slice s2 e.tidy.kids.length c2)
  rw [e3] at hB1 hbe3 ⊢
  have hB2 := hB1.push_empty (hbe3.size) 123 1
  have hbe4 := hbe3.alloc hbe3.size (.cells #[] 123)
  rw [hz3] at hB2
  clear e3 hB1 hbe3 hf2 hb2
  go_loopw [7, 8, 9] (fun v0 v1 i wr => ∃ k : Nat, i = .int .i64 k ∧ k ≤ 60 ∧ Hid (GoodL A n e k) ∧ (stL A n e k).length ≤ 60 ∧ k ≤ (stL A n e k).length ∧
    Bun w1.heap.size wr [.app 30 3 (stL A n e k).length (Ex.cellsL (stL A n e k)) v0, .app 123 1 k ((stR A n e k).map iiD) v1] ∧ Below w1.heap.size w1 wr) (fun _ _ i _ => 61 - (intOf i).toNat)
  case atStart => exact ⟨0, rfl, by omega, GoodL.zero, by simp [stL, expl], by simp, by simpa [stL, expl, stR] using hB2, hbe4⟩
  case round =>
    clear hB2
    obtain ⟨k, rfl, hk60, HG, hlen, hkl, hbun, hbe⟩ := hrel
    obtain ⟨wo, rfl⟩ : ∃ v, v = wr := ⟨_, rfl⟩
    obtain ⟨L, hL⟩ : ∃ L, stL A n e k = L := ⟨_, rfl⟩
    rw [hL] at hbun hlen hkl
    obtain ⟨a0, c0, rfl, hc1, hc2⟩ := hbun.shape 0 rfl
    obtain ⟨a1, c1, rfl, hd1, hd2⟩ := hbun.shape 1 rfl
    unfold maxLen at hc2 hd2
    have HL := Lib.hid hL
    have HB := Lib.hid hbun
    have HBe := Lib.hid hbe
    have hk0 := Int.natCast_nonneg k
    have hzo := hbe.size
    clear hL hbun hbe
    by_cases hlt : k < L.length
    rotate_left
    · have hdone : (stL A n e k).length ≤ k := by rw [HL.out]; omega
      obtain ⟨q1, q2, q3⟩ := stLL_yes (stOk_done hdone hk60 HG.out)
      have q4 : Hid (stLL A n e = L) := by show _ = _; rw [q1, stL_done hdone hk60, HL.out]
      have q5 : Hid (stNN A n e = stR A n e k) := by show _ = _; rw [q2, stR_done hdone hk60]
      have hRl : Hid ((stR A n e k).length = k) := by
        show _ = _
        unfold stR
        rw [List.length_map, List.length_take, stL_done hdone hk60, HL.out]
        omega
      have Hf := Lib.hid (HB.out.fresh2 (W := w) (by omega) 0 1 (by decide) rfl rfl)
      have Q3 := Lib.hid q3
      clear hdone q1 q2 q3
      go_wp2_with fail
      go_ret3
      refine ⟨a0, c0, a1, c1, by rw [q4.out, q5.out, hRl.out, Q3.out]; rfl, ?_, hb1.trans (HBe.out.mono (by omega))⟩
      rw [q4.out, q5.out]
      show Freshs w _ [.sl 3 L.length (Ex.cellsL L), .sl 1 (stR A n e k).length ((stR A n e k).map iiD)] _
      rw [hRl.out]
      exact Hf.out
    · obtain ⟨x, hx'⟩ : ∃ x, L[k]? = some x := ⟨_, List.getElem?_eq_getElem hlt⟩
      have HX : Hid ((stL A n e k)[k]? = some x) := by show _ = _; rw [HL.out]; exact hx'
      clear hx'
      have hk6 : k < 60 := by omega
      have Hlen : Hid (L.length = (stC A n e k x 0 0).length) := by show _ = _; rw [stC_zero, HL.out]
      go_wp2_with fail
      have hB3 := HB.out.push_empty hzo 52 1
      have hbe5 := HBe.out.alloc hzo (.cells #[] 52)
      go_loopw [7, 10, 11] (fun v0 v2 i wr => ∃ m : Nat, i = .int .i64 m ∧ m ≤ A ∧ Hid (GoodTo n x m 0) ∧
        Bun w1.heap.size wr [.app 30 3 (stC A n e k x m 0).length (Ex.cellsL (stC A n e k x m 0)) v0, .app 123 1 k ((stR A n e k).map iiD) (.slice a1 k c1), .app 52 1 m (((rowsE F A n x).take m).map intsD) v2] ∧ Below w1.heap.size w1 wr) (fun _ _ i _ => A - (intOf i).toNat)
      case atStart => exact ⟨0, rfl, by omega, GoodTo.zero, by rw [← Hlen.out, stC_zero, HL.out]; simpa using hB3, hbe5⟩
      case round =>
        clear hB3 hbe5
        obtain ⟨m, rfl, hmA, HG0, hbun, hbe⟩ := hrel
        obtain ⟨wm, rfl⟩ : ∃ v, v = wr := ⟨_, rfl⟩
        obtain ⟨a3, c3, rfl, hc3, hc4⟩ := hbun.shape 0 rfl
        obtain ⟨a4, c4, rfl, hd3, hd4⟩ := hbun.shape 2 rfl
        unfold maxLen at hc4 hd4
        have HB4 := Lib.hid hbun
        have HBe4 := Lib.hid hbe
        have hm0 := Int.natCast_nonneg m
        have hzm := hbe.size
        have Gm := G.below hbe
        obtain ⟨g0, g1, ltG⟩ := Gm.all2
        have hbound := stC_len (A := A) (a := n) (e := e) (i := k) (x := x) (m := m) (k := 0) hA8 hn
        rw [HL.out] at hbound
        clear hbun hbe Gm
        go_wp2_with fail
        clear g0 g1 ltG
        refine (l01Atoms_i ht0 ht3).mono ?_
        rintro f w5 ⟨rfl, hb5⟩
        rw [HA.out]
        have HB5 := Lib.hid (HB4.out.below hb5)
        have HBe5 := Lib.hid (HBe4.out.trans (hb5.mono hzm))
        have hz5 := hb5.size
        by_cases hmlt : m < A
        rotate_left
        · obtain rfl : A = m := by omega
          have Heq : Hid ((stR A n e (k + 1)).map iiD = (stR A n e k).map iiD ++ [D.sl 1 A (((rowsE F A n x).take A).map intsD)]) := by
            show _ = _
            rw [stR_succ HX.out hk6, List.map_append, HF.out, List.take_of_length_le (by rw [rowsE_len]; omega)]
            show _ ++ [nestD intsD _] = _
            unfold nestD
            rw [rowsE_len]
          have HEL : Hid (stL A n e (k + 1) = stC A n e k x A 0) := by show _ = _; rw [stC_all HX.out]
          have HG2 : Hid (GoodL A n e (k + 1)) := HG.out.succ HX.out HG0.out
          have hlen2 := prefix_length (stC_old (A := A) (a := n) (e := e) (i := k) (x := x) (m := A) (k := 0))
          rw [HL.out] at hlen2
          obtain ⟨M, hM⟩ : ∃ M, (stC A n e k x A 0).length = M := ⟨_, rfl⟩
          have HM := Lib.hid hM
          rw [hM] at hbound hlen2 HB5 ⊢
          clear hM
          have hBu := HB5.out.alloc (.cells #[.slice a4 A c4] 123)
          have hNb := Blk.new1 w5 123 (.slice a4 A c4)
          by_cases h60 : M ≤ 60
          · have c60 : decide ((60 : Int) < (M : Int)) = false := by simp; omega
            go_wp2_with (at_builtin; go_must (refine wpList_append_bun_own _ rfl _ _ 73 rfl 123 24 Tryz.underlying73 info_i64ss hBu (by simp; omega) 1 _ rfl rfl 2 (by decide) _ rfl ⟨w5.heap.size, 0, none⟩ rfl (news_blk hNb) (by omega) (by unfold maxLen; omega) ?_); intro g6 cap6 w6 hbun6 hb6)
            have Hfin := Lib.hid (And.intro (hbun6.take 2) ((HBe5.out.alloc (by omega) (.cells #[.slice a4 A c4] 123)).trans hb6))
            clear hbun6 hb6 hBu hNb
            go_wp2_with fail
            go_roundw
            case rel =>
              refine ⟨k + 1, by go_num, by omega, HG2, by rw [HEL.out, HM.out]; omega, by rw [HEL.out, HM.out]; omega, ?_, Hfin.out.2⟩
              have h := Hfin.out.1
              rw [Heq.out, HEL.out, HM.out]
              exact h
            case measure => simp [intOf]; omega
          · have c60 : decide ((60 : Int) < (M : Int)) = true := by simp; omega
            have HNO := Lib.hid (stOk_many' (A := A) (a := n) (e := e) (i := k + 1) (by omega) (by rw [HEL.out, HM.out]; omega))
            go_wp2_with (at_builtin; go_must (refine wpList_append_bun_own _ rfl _ _ 73 rfl 123 24 Tryz.underlying73 info_i64ss hBu (by simp; omega) 1 _ rfl rfl 2 (by decide) _ rfl ⟨w5.heap.size, 0, none⟩ rfl (news_blk hNb) (by omega) (by unfold maxLen; omega) ?_); intro g6 cap6 w6 hbun6 hb6)
            have Hfin := Lib.hid (((HBe5.out.alloc (by omega) (.cells #[.slice a4 A c4] 123)).trans hb6))
            clear hbun6 hb6 hBu hNb
            obtain ⟨q1, q2, q3⟩ := stLL_no HNO.out
            have HBQ := Lib.hid (hb1.trans ((Hfin.out).mono (by omega)))
            go_wp2_with fail
            go_ret3
            refine ⟨_, _, _, _, by rw [q1, q2, q3]; rfl, ?_, ?_⟩
            · rw [q1, q2]
              exact empty2 _ _
            · have hBQ := HBQ.out
              have hzQ := hBQ.size
              (repeat' first | exact Below.refl _ _ | assumption | apply Below.alloc | apply Below.drew | apply Below.setCell | omega | (simp; done) | (simp; omega))
        · have hm1 : (m : Int) < (A : Int) := by omega
          go_wp2_with fail
          have hB6 := HB5.out.push_empty (by omega) 2 1
          have hbe6 := HBe5.out.alloc (by omega) (.cells #[] 2)
          clear hb5
          go_loopw [7, 12, 13] (fun v0 v3 i wr => ∃ q : Nat, i = .int .i64 q ∧ q ≤ n ∧ Hid (GoodTo n x m q) ∧
            Bun w1.heap.size wr [.app 30 3 (stC A n e k x m q).length (Ex.cellsL (stC A n e k x m q)) v0, .app 123 1 k ((stR A n e k).map iiD) (.slice a1 k c1), .app 52 1 m (((rowsE F A n x).take m).map intsD) (.slice a4 m c4), .app 2 1 q (((rowE F n m x).take q).map D.int) v3] ∧ Below w1.heap.size w1 wr) (fun _ _ i _ => n - (intOf i).toNat)
          case atStart => exact ⟨0, rfl, by omega, HG0, by simpa using hB6, hbe6⟩
          case round =>
            clear hB6 hbe6
            obtain ⟨q, rfl, hqn, HG1, hbun, hbe⟩ := hrel
            obtain ⟨wq, rfl⟩ : ∃ v, v = wr := ⟨_, rfl⟩
            obtain ⟨Lc, hLc⟩ : ∃ Lc, stC A n e k x m q = Lc := ⟨_, rfl⟩
            have hbound := stC_len (A := A) (a := n) (e := e) (i := k) (x := x) (m := m) (k := q) hA8 hn
            have hat := stL_at (m := m) (k := q) HX.out
            have hlen2 := prefix_length (stC_old (A := A) (a := n) (e := e) (i := k) (x := x) (m := m) (k := q))
            have hnd := stC_nodup (A := A) (a := n) (e := e) (i := k) (x := x) (m := m) (k := q)
            rw [hLc] at hbun hbound hat hlen2 hnd
            rw [HL.out] at hbound hlen2
            obtain ⟨a5, c5, rfl, hc5, hc6⟩ := hbun.shape 0 rfl
            obtain ⟨a6, c6, rfl, hd5, hd6⟩ := hbun.shape 3 rfl
            unfold maxLen at hc6 hd6
            have HLc := Lib.hid hLc
            have HB6 := Lib.hid hbun
            have HBe6 := Lib.hid hbe
            have Hat := Lib.hid hat
            have Hnd := Lib.hid hnd
            have hq0 := Int.natCast_nonneg q
            have hzq := hbe.size
            obtain ⟨g0, g1, ltG⟩ := (G.below hbe).all2
            clear hbun hbe hLc hat hnd
            by_cases hqlt : q < n
            rotate_left
            · obtain rfl : n = q := by omega
              have Heq : Hid (((rowsE F A n x).take (m + 1)).map intsD = ((rowsE F A n x).take m).map intsD ++ [D.sl 1 n (((rowE F n m x).take n).map D.int)]) := by
                show _ = _
                rw [rowsE_take hmlt, List.map_append, List.take_of_length_le (l := rowE F n m x) (by rw [rowE_len]; omega)]
                show _ ++ [D.sl 1 (rowE F n m x).length _] = _
                rw [rowE_len]
              have HEL : Hid (stC A n e k x (m + 1) 0 = Lc) := by show _ = _; rw [← stC_line, HLc.out]
              have HG2 : Hid (GoodTo n x (m + 1) 0) := HG1.out.line
              have hBu := HB6.out.alloc (.cells #[.slice a6 n c6] 52)
              have hNb := Blk.new1 wq 52 (.slice a6 n c6)
              go_wp2_with (at_builtin; go_must (refine wpList_append_bun_own _ rfl _ _ 123 rfl 52 24 Tryz.underlying123 info_i64s hBu (by simp; omega) 2 _ rfl rfl 3 (by decide) _ rfl ⟨wq.heap.size, 0, none⟩ rfl (news_blk hNb) (by omega) (by unfold maxLen; omega) ?_); intro g6 cap6 w6 hbun6 hb6)
              have Hfin := Lib.hid (And.intro (hbun6.take 3) ((HBe6.out.alloc hzq (.cells #[.slice a6 n c6] 52)).trans hb6))
              clear hbun6 hb6 hBu hNb
              go_wp2_with fail
              go_roundw
              case rel =>
                refine ⟨m + 1, by go_num, by omega, HG2, ?_, Hfin.out.2⟩
                have h := Hfin.out.1
                rw [Heq.out, HEL.out]
                exact h
              case measure => simp [intOf]; omega
            · have hrd : Rd wq (kidsD Lc) (.slice a5 Lc.length c5) := HB6.out.rd 0 rfl
              obtain ⟨kb, ko, rfl⟩ := kid_some hrd (fun h => by have h0 : Lc.length = 0 := congrArg List.length h; omega)
              obtain ⟨hkb, sx, cx, i0, i1, i2, hxr⟩ := kid_in hrd Hat.out
              have hk1 : (k : Int) < (Lc.length : Int) := by omega
              have hq1 : (q : Int) < (n : Int) := by omega
              clear hrd
              go_wp2_with fail
              clear g0 g1 ltG i0 i1 i2
              obtain ⟨w6, e6, N1, hb6, hz6⟩ := box3 wq 30 (.int .i64 x.kind) (.int .i64 x.num) (.slice sx x.kids.length cx)
              rw [e6]
              have HB7 := Lib.hid (HB6.out.below hb6)
              have HBe7 := Lib.hid (HBe6.out.trans (hb6.mono hzq))
              have hxat : ExAt w6 wq.heap.size 0 x := ⟨N1.c0, N1.c1, sx, cx, N1.c2, hxr.below hb6⟩
              obtain ⟨hxt, hxs⟩ := stL_spec Htr.out hs k x (List.mem_of_getElem? HX.out)
              clear e6 hb6 N1 hxr
              cases ho : x.step m q with
              | none =>
                have HNO := Lib.hid (stOk_bad HX.out hk6 hmlt hqlt ho)
                have Ho := Lib.hid ho
                clear ho
                refine (step_none' (by omega) (by omega) (by omega) (by omega) hxat hxt (by omega) Ho).mono ?_
                rintro f w7 ⟨y, s7, c7, rfl, hb7⟩
                have hz7 := hb7.size
                obtain ⟨q1, q2, q3⟩ := stLL_no HNO.out
                have HBQ := Lib.hid (hb1.trans ((HBe7.out.trans (hb7.mono (by omega))).mono (by omega)))
                go_wp2_with fail
                go_ret3
                refine ⟨_, _, _, _, by rw [q1, q2, q3]; rfl, ?_, ?_⟩
                · rw [q1, q2]
                  exact empty2 _ _
                · have hBQ := HBQ.out
                  have hzQ := hBQ.size
                  (repeat' first | exact Below.refl _ _ | assumption | apply Below.alloc | apply Below.drew | apply Below.setCell | omega | (simp; done) | (simp; omega))
              | some d =>
                have HG2 := Lib.hid (HG1.out.cell (findI_live ho))
                have Ho := Lib.hid ho
                clear ho
                refine (step_some' (by omega) (by omega) (by omega) (by omega) hxat hxt (by omega) Ho).mono ?_
                rintro f w7 ⟨s7, c7, rfl, hf7, hb7⟩
                have hz7 := hb7.size
                have hfd := own_ex hf7
                have HBe8 := Lib.hid (HBe7.out.trans (hb7.mono (by omega)))
                by_cases hd1 : d.kind = 1
                · have c1 : (d.kind != 1) = false := by simp [hd1]
                  have hde := nxtE_dead Ho.out hd1
                  have HEV : Hid (numO F (nxtE m q x) = -1) := by show _ = _; exact st_dead hde
                  have HEL : Hid (stC A n e k x m (q + 1) = Lc) := by show _ = _; rw [stC_dead hmlt hqlt hde, HLc.out]
                  have HB8 := Lib.hid ((HB7.out.below hb7).alloc (.cells #[.int .i64 d.kind, .int .i64 d.num, .slice s7 d.kids.length c7] 30))
                  have hBu := HB8.out.alloc (.cells #[.int .i64 (-1)] 2)
                  have hNb := Blk.new1 (w7.alloc (.cells #[.int .i64 d.kind, .int .i64 d.num, .slice s7 d.kids.length c7] 30)) 2 (.int .i64 (-1))
                  clear hde hfd hf7 hb7 hd1
                  simp at hNb
                  go_wp2_with
                    (at_builtin; go_must (refine wpList_append_bun _ rfl _ _ 52 rfl 2 (.int .i64 0) 1 8 Tryz.underlying52 info_int64 rfl (by decide) (hBu) (by simp <;> omega) 3 _ rfl rfl ⟨w7.heap.size + 1, 0, none⟩ 1 1 [.int .i64 (-1)] rfl (news_blk hNb) none_own rfl (by simp [Value.oneCell']) (by omega) (by omega) (by unfold maxLen; omega) ?_); intro g6 cap6 w6 hbun6 hb6)
                  have Hds : Hid (((rowE F n m x).take (q + 1)).map D.int = ((rowE F n m x).take q).map D.int ++ [D.int (-1)]) := by show _ = _; rw [rowE_take hqlt, List.map_append, HEV.out]; rfl
                  have Hfin := Lib.hid (And.intro hbun6 ((((HBe8.out.alloc (by omega) (.cells #[.int .i64 d.kind, .int .i64 d.num, .slice s7 d.kids.length c7] 30)).alloc (by simp; omega) (.cells #[.int .i64 (-1)] 2))).trans hb6))
                  clear hbun6 hb6
                  go_wp2_with fail
                  go_roundw
                  case rel =>
                    refine ⟨q + 1, by go_num, by omega, HG2, ?_, Hfin.out.2⟩
                    have h := Hfin.out.1
                    rw [Hds.out, HEL.out]
                    exact h
                  case measure => simp [intOf]; omega
                · have c1 : (d.kind != 1) = true := by simp [hd1]
                  have hdl := nxtE_live Ho.out hd1
                  have hwas := @st_was A n e k x m q HX.out hk6 hmlt hqlt d hdl
                  have hnew := @st_new A n e k x m q HX.out hk6 hmlt hqlt d hdl
                  have hLw := @stC_was A n e k x m q hmlt hqlt d hdl
                  have hLn := @stC_new A n e k x m q hmlt hqlt d hdl
                  rw [HLc.out, ← HF.out] at hwas hnew
                  rw [HLc.out] at hLw hLn
                  have Hwas := Lib.hid hwas
                  have Hnew := Lib.hid hnew
                  have HLw := Lib.hid hLw
                  have HLn := Lib.hid hLn
                  have HB8 := Lib.hid (HB7.out.push_own hb7 (by omega) hfd)
                  have hdr := Rds.one hf7.rds
                  clear hdl hwas hnew hLw hLn hfd hf7 hb7 hd1
                  go_wp2_with fail
                  obtain ⟨w8, e8, N2, hb8, hz8⟩ := box3 w7 30 (.int .i64 d.kind) (.int .i64 d.num) (.slice s7 d.kids.length c7)
                  rw [e8]
                  have HB9 := Lib.hid (HB8.out.below hb8)
                  have HBe9 := Lib.hid (HBe8.out.trans (hb8.mono (by omega)))
                  have hda : ExAt w8 w7.heap.size 0 d := ⟨N2.c0, N2.c1, s7, c7, N2.c2, hdr.below hb8⟩
                  have hrd : Rd w8 (kidsD Lc) (.slice (some ⟨kb, ko, none⟩) Lc.length c5) := HB9.out.rd 0 rfl
                  clear e8 hb8 hdr
                  refine (l02Find_i hrd hda Hnd.out).mono ?_
                  rintro f w9 ⟨rfl, hb9⟩
                  have HB10 := Lib.hid (HB9.out.below hb9)
                  have HBe10 := Lib.hid (HBe9.out.trans (hb9.mono (by omega)))
                  have hz9 := hb9.size
                  obtain ⟨f1, f2⟩ := findI_bd Lc d
                  by_cases hin : d ∈ Lc
                  · have hge := findI_pos hin
                    have HEV : Hid (numO F (nxtE m q x) = findI Lc d) := by show _ = _; exact Hwas.out hin
                    have HEL : Hid (stC A n e k x m (q + 1) = Lc) := by show _ = _; exact HLw.out hin
                    have hBu := (HB10.out.take 4).alloc (.cells #[.int .i64 (findI Lc d)] 2)
                    have hNb := Blk.new1 w9 2 (.int .i64 (findI Lc d))
                    obtain ⟨Z, hZ⟩ : ∃ Z, findI Lc d = Z := ⟨_, rfl⟩
                    rw [hZ] at hge HEV f1 f2 hBu hNb ⊢
                    clear hZ hin N2 hda hrd hb9
                    go_wp2_with
                      (at_builtin; go_must (refine wpList_append_bun _ rfl _ _ 52 rfl 2 (.int .i64 0) 1 8 Tryz.underlying52 info_int64 rfl (by decide) (hBu) (by simp <;> omega) 3 _ rfl rfl ⟨w9.heap.size, 0, none⟩ 1 1 [.int .i64 Z] rfl (news_blk hNb) none_own rfl (by simp [Value.oneCell']) (by omega) (by omega) (by unfold maxLen; omega) ?_); intro g6 cap6 w6 hbun6 hb6)
                    have Hds : Hid (((rowE F n m x).take (q + 1)).map D.int = ((rowE F n m x).take q).map D.int ++ [D.int Z]) := by show _ = _; rw [rowE_take hqlt, List.map_append, HEV.out]; rfl
                    have Hfin := Lib.hid (And.intro hbun6 (((HBe10.out.alloc (by omega) (.cells #[.int .i64 Z] 2))).trans hb6))
                    clear hbun6 hb6
                    go_wp2_with fail
                    go_roundw
                    case rel =>
                      refine ⟨q + 1, by go_num, by omega, HG2, ?_, Hfin.out.2⟩
                      have h := Hfin.out.1
                      rw [Hds.out, HEL.out]
                      exact h
                    case measure => simp [intOf]; omega
                  · have hfi := findI_neg hin
                    have HEV : Hid (numO F (nxtE m q x) = (Lc.length : Int)) := by show _ = _; exact Hnew.out hin
                    have HEL : Hid (stC A n e k x m (q + 1) = Lc ++ [d]) := by show _ = _; exact HLn.out hin
                    have N3 := N2.below hb9
                    have n0 := N3.c0
                    have n1 := N3.c1
                    have n2 := N3.c2
                    have ltN := N3.lt
                    have hBl := HB10.out.alloc (.cells #[.int .i64 d.kind, .int .i64 d.num, .slice s7 d.kids.length c7] 30)
                    have hNl := Blk.new3 w9 30 (.int .i64 d.kind) (.int .i64 d.num) (.slice s7 d.kids.length c7)
                    rw [hfi]
                    clear hfi f1 f2 hin N2 N3 hda hrd hb9
                    go_wp2_with (first
                      | (at_builtin; (refine wpList_append_bun_mv _ rfl _ _ 28 rfl 30 (.agg #[.int .i64 0, .int .i64 0, .slice none 0 0]) 3 40 Tryz.underlying28 info_iExpr rfl (by decide) hBl (by simp; omega) 0 _ rfl rfl 4 (by decide) rfl ⟨w9.heap.size, 0, none⟩ 1 1 rfl (news_blk hNl) rfl (by simp [Value.oneCell']) (by omega) (by omega) (by unfold maxLen; omega) ?_); intro g5 cap5 w10 hbun5 hb10; have hz10 : w9.heap.size + 1 ≤ w10.heap.size := (by have q := hb10.size; simpa using q); have hBu := (hbun5.take 4).alloc (.cells #[.int .i64 (Lc.length : Int)] 2); have hNb := Blk.new1 w10 2 (.int .i64 (Lc.length : Int)); have Hb10 := Lib.hid hb10; clear hbun5 hb10)
                      | 
                        (at_builtin; go_must (refine wpList_append_bun _ rfl _ _ 52 rfl 2 (.int .i64 0) 1 8 Tryz.underlying52 info_int64 rfl (by decide) (hBu) (by simp <;> omega) 3 _ rfl rfl ⟨w10.heap.size, 0, none⟩ 1 1 [.int .i64 (Lc.length : Int)] rfl (news_blk hNb) none_own rfl (by simp [Value.oneCell']) (by omega) (by omega) (by unfold maxLen; omega) ?_); intro g6 cap6 w6 hbun6 hb6)
                        )
                    have Hds : Hid (((rowE F n m x).take (q + 1)).map D.int = ((rowE F n m x).take q).map D.int ++ [D.int (Lc.length : Int)]) := by show _ = _; rw [rowE_take hqlt, List.map_append, HEV.out]; rfl
                    have Hfin := Lib.hid (And.intro hbun6 ((((((HBe10.out.alloc (by omega) (.cells #[.int .i64 d.kind, .int .i64 d.num, .slice s7 d.kids.length c7] 30)).trans Hb10.out).alloc (by omega) (.cells #[.int .i64 (Lc.length : Int)] 2)))).trans hb6))
                    clear hbun6 hb6
                    go_wp2_with fail
                    go_roundw
                    case rel =>
                      refine ⟨q + 1, by go_num, by omega, HG2, ?_, Hfin.out.2⟩
                      have h := Hfin.out.1
                      rw [Hds.out, HEL.out, cellsL_snoc, List.length_append]
                      exact h
                    case measure => simp [intOf]; omega
end Go.Proofs.YtjlmdhoajfdkbaaGreatDoor

namespace Go.Proofs.YtjlmdhoajfdkbaaGreatDoor
set_option linter.unusedVariables false
set_option linter.unusedSimpArgs false
open Go.ChangeShapes Go.WideShapes Go.ChangeAt Go.RowKit Go.Deep
theorem made_app {B : Nat} {w w' : World} {t size n : Nat} (h : w'.ownsRow 0 t size (.slice (some ⟨w.heap.size, 0, none⟩) 0 n) 0 []) (hB : B ≤ w.heap.size) (hz : w.heap.size < w'.heap.size) : Bun B w' [.app t size 0 [] (.slice (some ⟨w.heap.size, 0, none⟩) 0 n)] :=
  Bun.single ⟨[], [], h, Ows.nil, by simp, by simp, fun b hb => by simp only [Value.ownBlock, Option.some.injEq] at hb; subst hb; exact ⟨hB, hz⟩⟩
theorem row_lt {w : World} {g t size m n : Nat} {xs : List Value} (h : w.ownsRow 0 t size (.slice (some ⟨g, 0, none⟩) m n) m xs) : g < w.heap.size := by
  rcases h.2 with ⟨h, -⟩ | ⟨g', cap, cur, e, -, hb, -⟩
  · cases h
  · simp only [Value.slice.injEq, Option.some.injEq, Addr.mk.injEq, and_true, true_and] at e
    obtain ⟨rfl, rfl⟩ := e
    exact (Array.getElem?_eq_some_iff.1 hb).1
set_option maxHeartbeats 4000000 in
theorem copyExprs_i {L : List Ex} {s : Option Addr} {c : Nat} {w : World} (hr : Rd w (kidsD L) (.slice s L.length c)) (hL : ∀ x ∈ L, x.size ≤ 100000) (hl : L.length ≤ 100000) :
    Calls Tryz.prog 74 #[.slice s L.length c] w fun f w' => ∃ s' c', f = .returned (.slice s' L.length c') ∧ Freshs w w' [kidsD L] [.slice s' L.length c'] ∧ Below w.heap.size w w' := by
  obtain ⟨-, hlc, hcap, -, -⟩ := kid_at hr
  unfold maxLen at hcap
  have HL := Lib.hid hL
  clear hL
  obtain ⟨i0, hi, hz0, hz1, hz2⟩ := info_parts info_iExpr
  go_enter Tryz.func74, Tryz.ntmps74
  go_wp2_with (at_make; refine wpList_make_own _ rfl _ _ 28 rfl 0 30 i0 (.agg #[.int .i64 0, .int .i64 0, .slice none 0 0]) 3 Tryz.underlying28 hi hz0 hz1 .i64 .i64 _ L.length rfl rfl rfl (by rw [hz2]; omega) (by unfold maxLen; omega) (by simp) ?_; intro w1 hown hgrow)
  have hbe1 : Below w.heap.size w w1 := Below.grown (Below.refl _ _) hgrow (by simp) (by simp)
  have hB1 := made_app (B := w.heap.size) hown (Nat.le_refl _) (row_lt hown)
  clear hown hgrow hi hz0 hz1 hz2
  go_loopw [3, 11] (fun v i wr => ∃ k : Nat, i = .int .i64 k ∧ k ≤ L.length ∧ Bun w.heap.size wr [.app 30 3 k (Ex.cellsL (L.take k)) v] ∧ Below w.heap.size w wr) (fun _ i _ => L.length - (intOf i).toNat)
  case atStart => exact ⟨0, rfl, by omega, by simpa [Ex.cellsL] using hB1, hbe1⟩
  case round =>
    clear hB1 hbe1
    obtain ⟨k, rfl, hk, hbun, hbe⟩ := hrel
    obtain ⟨wo, rfl⟩ : ∃ v, v = wr := ⟨_, rfl⟩
    obtain ⟨a0, c0, rfl, hc1, hc2⟩ := hbun.shape 0 rfl
    unfold maxLen at hc2
    have hzo := hbe.size
    have HB := Lib.hid hbun
    have HBe := Lib.hid hbe
    have hk0 := Int.natCast_nonneg k
    clear hbun hbe
    by_cases hlt : k < L.length
    rotate_left
    · obtain rfl : k = L.length := by omega
      have hf := HB.out.fresh (W := w) (Nat.le_refl _) 0 rfl
      rw [List.take_length] at hf
      have Hf := Lib.hid (Freshs.one hf)
      clear hf
      go_wp2_with fail
      go_ret
      exact ⟨a0, c0, rfl, Hf.out, HBe.out⟩
    · obtain ⟨x, hx⟩ : ∃ x, L[k]? = some x := ⟨_, List.getElem?_eq_getElem hlt⟩
      have hro := hr.below HBe.out
      obtain ⟨kb, ko, rfl⟩ := kid_some hro (fun h => by have h0 : L.length = 0 := congrArg List.length h; omega)
      obtain ⟨hkb, sx, cx, i0', i1, i2, hxr⟩ := kid_in hro hx
      have hxs := HL.out x (List.mem_of_getElem? hx)
      have hse := Ex.size_eq x
      have hk1 : (k : Int) < (L.length : Int) := by omega
      have Hds : Hid (Ex.cellsL (L.take (k + 1)) = Ex.cellsL (L.take k) ++ [.int x.kind, .int x.num, kidsD x.kids]) := Ex.cellsL_take_succ hx
      clear hx hro
      go_wp2_with fail
      clear i0' i1 i2
      obtain ⟨w2, e2, -, hb2, hz2⟩ := box3 wo 30 (.int .i64 x.kind) (.int .i64 x.num) (.slice sx x.kids.length cx)
      rw [e2]
      have HB2 := Lib.hid (HB.out.below hb2)
      have HBe2 := Lib.hid (HBe.out.trans (hb2.mono hzo))
      have hx2 := hxr.below hb2
      clear e2 hb2 hxr
      refine (copy_k (k := x.kind) (n := x.num) hx2 (by omega)).mono ?_
      rintro f w3 ⟨s3, c3, rfl, hf3, hb3⟩
      have hz3 := hb3.size
      have HB3 := Lib.hid (HB2.out.push_own hb3 (by omega) (own_ex hf3))
      have HBe3 := Lib.hid (HBe2.out.trans (hb3.mono (by omega)))
      have hBl := HB3.out.alloc (.cells #[.int .i64 x.kind, .int .i64 x.num, .slice s3 x.kids.length c3] 30)
      have hNl := Blk.new3 w3 30 (.int .i64 x.kind) (.int .i64 x.num) (.slice s3 x.kids.length c3)
      clear hx2 hf3 hb3
      go_wp2_with (at_builtin; go_must (refine wpList_append_bun_mv _ rfl _ _ 28 rfl 30 (.agg #[.int .i64 0, .int .i64 0, .slice none 0 0]) 3 40 Tryz.underlying28 info_iExpr rfl (by decide) hBl (by simp; omega) 0 _ rfl rfl 1 (by decide) rfl ⟨w3.heap.size, 0, none⟩ 1 1 rfl (news_blk hNl) rfl (by simp [Value.oneCell']) (by omega) (by omega) (by unfold maxLen; omega) ?_); intro g5 cap5 w4 hbun5 hb5)
      have Hfin := Lib.hid (And.intro (hbun5.take 1) ((HBe3.out.alloc (by omega) (.cells #[.int .i64 x.kind, .int .i64 x.num, .slice s3 x.kids.length c3] 30)).trans hb5))
      clear hbun5 hb5 hBl hNl
      go_wp2_with fail
      go_roundw
      case rel =>
        refine ⟨k + 1, by go_num, by omega, ?_, Hfin.out.2⟩
        have h := Hfin.out.1
        rw [Hds.out]
        exact h
      case measure => simp [intOf]; omega
end Go.Proofs.YtjlmdhoajfdkbaaGreatDoor

namespace Go.Proofs.YtjlmdhoajfdkbaaGreatDoor
set_option linter.unusedVariables false
set_option linter.unusedSimpArgs false
open Go.ChangeShapes Go.WideShapes Go.ChangeAt Go.RowKit Go.Deep
theorem okB_bd4 {t a : Int} {e : Ex} (h : okB t a e = true) : 0 ≤ t ∧ t ≤ 3 ∧ 0 ≤ a ∧ a ≤ 4 ∧ e.size ≤ 200 ∧ e.tree (t - 1) (a - 1) = true := by
  have h1 := sigB_bd (okB_sig h)
  obtain ⟨-, -, h3⟩ := okB_bd h
  exact ⟨h1.1, h1.2.1, h1.2.2.1, h1.2.2.2, h3, okB_tree h⟩
theorem statesOf_a {t a : Int} {e : Ex} {s : Option Addr} {c : Nat} {w : World} (hok : okB t a e = true) (hr : Rd w (kidsD e.kids) (.slice s e.kids.length c)) :
    Calls Tryz.prog 73 #[.agg #[.int .i64 t, .int .i64 a], .agg #[.int .i64 e.kind, .int .i64 e.num, .slice s e.kids.length c]] w fun f w' => ∃ s1 c1 s2 c2, f = .returned (.tuple #[.slice s1 (stLL (atomsN t).toNat a.toNat e).length c1, .slice s2 (stNN (atomsN t).toNat a.toNat e).length c2, .int .i64 (stCC (atomsN t).toNat a.toNat e)]) ∧
      Rd w' (kidsD (stLL (atomsN t).toNat a.toNat e)) (.slice s1 (stLL (atomsN t).toNat a.toNat e).length c1) ∧ Freshs w w' [iiiD (stNN (atomsN t).toNat a.toNat e)] [.slice s2 (stNN (atomsN t).toNat a.toNat e).length c2] ∧ Below w.heap.size w w' := by
  obtain ⟨h0, h1, h2, h3, h4, h5⟩ := okB_bd4 hok
  obtain ⟨n, rfl⟩ : ∃ n : Nat, a = (n : Int) := ⟨a.toNat, by omega⟩
  rw [Int.toNat_natCast]
  exact statesOf_i h0 h1 (by omega) hr h5 h4
theorem l02States_a {t a : Int} {e : Ex} {b o : Nat} {w : World} (hok : okB t a e = true) (hx : ExAt w b o e) :
    Calls Tryz.prog 72 #[.agg #[.int .i64 t, .int .i64 a], .pointer (some ⟨b, o, none⟩)] w fun f w' => ∃ s c s' c', f = .returned (.tuple #[.slice s (stLL (atomsN t).toNat a.toNat e).length c, .slice s' (stNN (atomsN t).toNat a.toNat e).length c', .int .i64 (stCC (atomsN t).toNat a.toNat e)]) ∧
      Freshs w w' [kidsD (stLL (atomsN t).toNat a.toNat e), iiiD (stNN (atomsN t).toNat a.toNat e)] [.slice s (stLL (atomsN t).toNat a.toNat e).length c, .slice s' (stNN (atomsN t).toNat a.toNat e).length c'] ∧ Below w.heap.size w w' := by
  obtain ⟨h0, h1, h2, h3, h4, h5⟩ := okB_bd4 hok
  obtain ⟨n, rfl⟩ : ∃ n : Nat, a = (n : Int) := ⟨a.toNat, by omega⟩
  rw [Int.toNat_natCast]
  exact l02States_i h0 h1 (by omega) hx h5 h4
theorem stLL_spec {t a : Int} {e : Ex} (hok : okB t a e = true) : (stLL (atomsN t).toNat a.toNat e).length ≤ 60 ∧ ∀ x ∈ stLL (atomsN t).toNat a.toNat e, x.size ≤ 800 := by
  obtain ⟨-, -, -, -, h4, h5⟩ := okB_bd4 hok
  by_cases h : stOk (atomsN t).toNat a.toNat e
  · rw [(stLL_yes h).1]
    exact ⟨h.1, fun x hx => (stL_spec h5 h4 60 x hx).2⟩
  · rw [(stLL_no h).1]
    simp
noncomputable def stsE (t a : Int) (e : Ex) : List Ex := if okB t a e = true then stLL (atomsN t).toNat a.toNat e else []
noncomputable def stsC (t a : Int) (e : Ex) : Int := if okB t a e = true then stCC (atomsN t).toNat a.toNat e else 1
theorem sizeL_le : ∀ L : List Ex, (∀ x ∈ L, x.size ≤ 800) → Ex.sizeL L ≤ 800 * L.length
  | [], _ => by simp [Ex.sizeL]
  | x :: r, h => by
    have h1 := sizeL_le r fun y hy => h y (List.mem_cons_of_mem _ hy)
    have h2 := h x (List.mem_cons_self ..)
    simp only [Ex.sizeL, List.length_cons]
    omega
theorem stsE_size (t a : Int) (e : Ex) : Ex.sizeL (stsE t a e) ≤ 48000 := by
  unfold stsE
  split
  · rename_i h
    obtain ⟨h1, h2⟩ := stLL_spec h
    have := sizeL_le _ h2
    omega
  · simp [Ex.sizeL]
theorem nil_kids {w w' : World} : Freshs w w' [kidsD []] [.slice none 0 0] := nil_freshs
theorem some_kids {w w' : World} (p : Addr) : Freshs w w' [kidsD []] [.slice (some p) 0 0] :=
  Freshs.one ⟨[], by simp only [kidsD, Ow]; exact ⟨some p, 0, rfl, by simp, by simp [maxLen], by simp [Ex.cellsL], by simp, Or.inl (by simp)⟩, by simp, by simp⟩
theorem Freshs.first {w w' : World} {d e : D} {u v : Value} (h : Freshs w w' [d, e] [u, v]) : Freshs w w' [d] [u] := by
  obtain ⟨F, h1, h2, h3⟩ := h
  obtain ⟨G, K, rfl, hx, -⟩ := ows_two h1
  exact Freshs.one ⟨G, hx, (List.nodup_append.1 h2).1, fun b hb => h3 b (List.mem_append_left _ hb)⟩
set_option maxHeartbeats 4000000 in
theorem implStatesOf_i {t a k n : Int} {ks : List Ex} {s : Option Addr} {c : Nat} {w : World} (hr : Rd w (kidsD ks) (.slice s ks.length c)) (h1 : Ex.sizeL ks ≤ 1048576) :
    Calls Tryz.prog 23 #[.agg #[.int .i64 t, .int .i64 a], .agg #[.int .i64 k, .int .i64 n, .slice s ks.length c]] w fun e w' => ∃ s' c', e = .returned (.tuple #[.slice s' (stsE t a (.mk k n ks)).length c', .int .i64 (stsC t a (.mk k n ks))]) ∧
      Freshs w w' [kidsD (stsE t a (.mk k n ks))] [.slice s' (stsE t a (.mk k n ks)).length c'] ∧ Below w.heap.size w w' := by
  have Hsz : Hid (Ex.size (.mk k n ks) ≤ 1073741824) := by show _ ≤ _; rw [Ex.size_eq]; simp only [Ex.kids]; omega
  go_enter Tryz.func23, Tryz.ntmps23
  go_wp2_with fail
  have L := (Blk.new2 w 33 (.int .i64 t) (.int .i64 a)).alloc (.cells #[.int .i64 k, .int .i64 n, .slice s ks.length c] 30)
  have M := Blk.new3 (w.alloc (.cells #[.int .i64 t, .int .i64 a] 33)) 30 (.int .i64 k) (.int .i64 n) (.slice s ks.length c)
  simp at M
  have hB : Below w.heap.size w ((w.alloc (.cells #[.int .i64 t, .int .i64 a] 33)).alloc (.cells #[.int .i64 k, .int .i64 n, .slice s ks.length c] 30)) := by (repeat' first | exact Below.refl _ _ | assumption | apply Below.alloc | apply Below.drew | apply Below.setCell | omega | (simp; done) | (simp; omega))
  have hB0 := hB
  generalize ((w.alloc (.cells #[.int .i64 t, .int .i64 a] 33)).alloc (.cells #[.int .i64 k, .int .i64 n, .slice s ks.length c] 30)) = v0 at L M hB hB0 ⊢
  have l0 := L.c0
  have l1 := L.c1
  have m0 := M.c0
  have m1 := M.c1
  have m2 := M.c2
  have ltL := L.lt
  have ltM := M.lt
  go_wp2_with fail
  refine (implValidExpr_i (hr.below hB)).mono ?_
  rintro x w1 ⟨rfl, hb⟩
  clear l0 l1 m0 m1 m2 ltL ltM
  replace hB := Below.on hB hb hB.size
  replace L := L.below hb
  replace M := M.below hb
  clear hb
  have szW1 := hB.size
  cases hs1 : okB t a (.mk k n ks)
  · have l0 := L.c0
    have l1 := L.c1
    have ltL := L.lt
    have m0 := M.c0
    have m1 := M.c1
    have m2 := M.c2
    have ltM := M.lt
    go_wp2_with fail
    go_ret2
    have e1 : stsE t a (.mk k n ks) = [] := by simp [stsE, hs1]
    have e2 : stsC t a (.mk k n ks) = 1 := by simp [stsC, hs1]
    rw [e1, e2]
    exact ⟨none, 0, rfl, nil_kids, hB⟩
  have Hs1 := Lib.hid hs1
  clear hs1
  have l0 := L.c0
  have l1 := L.c1
  have m0 := M.c0
  have m1 := M.c1
  have m2 := M.c2
  have ltL := L.lt
  have ltM := M.lt
  go_wp2_with fail
  refine (statesOf_a (e := .mk k n ks) Hs1.out (hr.below hB)).mono ?_
  rintro x w2 ⟨s2, c2, s2', c2', rfl, hrd, hf2, hb⟩
  clear l0 l1 m0 m1 m2 ltL ltM
  replace hB := Below.on hB hb hB.size
  replace L := L.below hb
  replace M := M.below hb
  clear hb
  have szW2 := hB.size
  have l0 := L.c0
  have l1 := L.c1
  have m0 := M.c0
  have m1 := M.c1
  have m2 := M.c2
  have ltL := L.lt
  have ltM := M.lt
  go_wp2_with fail
  refine (copyExprs_i hrd (fun x hx => by have := (stLL_spec Hs1.out).2 x hx; omega) (by have := (stLL_spec Hs1.out).1; omega)).mono ?_
  rintro x w3 ⟨s3, c3, rfl, hf3, hb⟩
  clear l0 l1 m0 m1 m2 ltL ltM
  replace hB := Below.on hB hb hB.size
  replace L := L.below hb
  replace M := M.below hb
  clear hb
  have szW3 := hB.size
  have l0 := L.c0
  have l1 := L.c1
  have m0 := M.c0
  have m1 := M.c1
  have m2 := M.c2
  have ltL := L.lt
  have ltM := M.lt
  go_wp2_with fail
  go_ret2
  have e1 : stsE t a (.mk k n ks) = stLL (atomsN t).toNat a.toNat (.mk k n ks) := by simp [stsE, Hs1.out]
  have e2 : stsC t a (.mk k n ks) = stCC (atomsN t).toNat a.toNat (.mk k n ks) := by simp [stsC, Hs1.out]
  rw [e1, e2]
  exact ⟨s3, c3, rfl, hf3.from szW2, hB⟩
set_option maxHeartbeats 4000000 in
theorem specStatesOf_i {t a k n : Int} {ks : List Ex} {s : Option Addr} {c : Nat} {w : World} (hr : Rd w (kidsD ks) (.slice s ks.length c)) (h1 : Ex.sizeL ks ≤ 1048576) :
    Calls Tryz.prog 22 #[.agg #[.int .i64 t, .int .i64 a], .agg #[.int .i64 k, .int .i64 n, .slice s ks.length c]] w fun e w' => ∃ s' c', e = .returned (.tuple #[.slice s' (stsE t a (.mk k n ks)).length c', .int .i64 (stsC t a (.mk k n ks))]) ∧
      Freshs w w' [kidsD (stsE t a (.mk k n ks))] [.slice s' (stsE t a (.mk k n ks)).length c'] ∧ Below w.heap.size w w' := by
  have Hsz : Hid (Ex.size (.mk k n ks) ≤ 1073741824) := by show _ ≤ _; rw [Ex.size_eq]; simp only [Ex.kids]; omega
  go_enter Tryz.func22, Tryz.ntmps22
  go_wp2_with fail
  have L := (Blk.new2 w 33 (.int .i64 t) (.int .i64 a)).alloc (.cells #[.int .i64 k, .int .i64 n, .slice s ks.length c] 30)
  have M := Blk.new3 (w.alloc (.cells #[.int .i64 t, .int .i64 a] 33)) 30 (.int .i64 k) (.int .i64 n) (.slice s ks.length c)
  simp at M
  have hB : Below w.heap.size w ((w.alloc (.cells #[.int .i64 t, .int .i64 a] 33)).alloc (.cells #[.int .i64 k, .int .i64 n, .slice s ks.length c] 30)) := by (repeat' first | exact Below.refl _ _ | assumption | apply Below.alloc | apply Below.drew | apply Below.setCell | omega | (simp; done) | (simp; omega))
  have hB0 := hB
  generalize ((w.alloc (.cells #[.int .i64 t, .int .i64 a] 33)).alloc (.cells #[.int .i64 k, .int .i64 n, .slice s ks.length c] 30)) = v0 at L M hB hB0 ⊢
  have l0 := L.c0
  have l1 := L.c1
  have m0 := M.c0
  have m1 := M.c1
  have m2 := M.c2
  have ltL := L.lt
  have ltM := M.lt
  go_wp2_with fail
  refine (l01Ok_i (M.exAt (hr.below hB)) Hsz.out).mono ?_
  rintro x w1 ⟨rfl, hb⟩
  clear l0 l1 m0 m1 m2 ltL ltM
  replace hB := Below.on hB hb hB.size
  replace L := L.below hb
  replace M := M.below hb
  clear hb
  have szW1 := hB.size
  cases hs1 : okB t a (.mk k n ks)
  · have l0 := L.c0
    have l1 := L.c1
    have ltL := L.lt
    have m0 := M.c0
    have m1 := M.c1
    have m2 := M.c2
    have ltM := M.lt
    go_wp2_with fail
    go_ret2
    have e1 : stsE t a (.mk k n ks) = [] := by simp [stsE, hs1]
    have e2 : stsC t a (.mk k n ks) = 1 := by simp [stsC, hs1]
    rw [e1, e2]
    exact ⟨_, _, rfl, some_kids _, by (repeat' first | exact Below.refl _ _ | assumption | apply Below.alloc | apply Below.drew | apply Below.setCell | omega | (simp; done) | (simp; omega))⟩
  have Hs1 := Lib.hid hs1
  clear hs1
  have l0 := L.c0
  have l1 := L.c1
  have m0 := M.c0
  have m1 := M.c1
  have m2 := M.c2
  have ltL := L.lt
  have ltM := M.lt
  go_wp2_with fail
  refine (l02States_a (e := .mk k n ks) Hs1.out (M.exAt (hr.below hB))).mono ?_
  rintro x w2 ⟨s2, c2, s2', c2', rfl, hf2, hb⟩
  clear l0 l1 m0 m1 m2 ltL ltM
  replace hB := Below.on hB hb hB.size
  replace L := L.below hb
  replace M := M.below hb
  clear hb
  have szW2 := hB.size
  have l0 := L.c0
  have l1 := L.c1
  have m0 := M.c0
  have m1 := M.c1
  have m2 := M.c2
  have ltL := L.lt
  have ltM := M.lt
  go_wp2_with fail
  go_ret2
  have e1 : stsE t a (.mk k n ks) = stLL (atomsN t).toNat a.toNat (.mk k n ks) := by simp [stsE, Hs1.out]
  have e2 : stsC t a (.mk k n ks) = stCC (atomsN t).toNat a.toNat (.mk k n ks) := by simp [stsC, Hs1.out]
  rw [e1, e2]
  exact ⟨s2, c2, rfl, hf2.first.from szW1, hB⟩
end Go.Proofs.YtjlmdhoajfdkbaaGreatDoor

namespace Go.Proofs.YtjlmdhoajfdkbaaGreatDoor
set_option linter.unusedVariables false
set_option linter.unusedSimpArgs false
open Go.ChangeShapes Go.WideShapes Go.ChangeAt Go.RowKit Go.Sort
theorem marksL_cells : ∀ ks : List Ex, D.marksL (Ex.cellsL ks) = 2 * Ex.sizeL ks
  | [] => by simp [Ex.cellsL, D.marksL, Ex.sizeL]
  | .mk k n us :: r => by
    have h1 := marksL_cells us
    have h2 := marksL_cells r
    simp only [Ex.cellsL, Ex.cells, List.cons_append, List.nil_append, D.marksL, D.marks, Ex.sizeL, Ex.size, h1, h2]
    omega
theorem cellsL_take : ∀ (ks : List Ex) (j : Nat), (Ex.cellsL ks).take (j * 3) = Ex.cellsL (ks.take j)
  | [], j => by simp [Ex.cellsL]
  | e :: r, 0 => by simp [Ex.cellsL]
  | e :: r, j + 1 => by
    simp only [List.take_succ_cons, Ex.cellsL]
    rw [← cellsL_take r j, List.take_append, Ex.cells_length, List.take_of_length_le (by rw [Ex.cells_length]; omega)]
    congr 2
    omega
set_option maxHeartbeats 2000000 in
theorem markExprS_all (N : Nat) : ∀ (ks : List Ex) (s : Option Addr) (c k : Nat) (F : List Nat) (w : World), Ex.sizeL ks ≤ N → Ow w (kidsD ks) (.slice s ks.length c) F → F.Nodup → k + 2 * Ex.sizeL ks ≤ 1000000000000 →
    Calls Tryz.prog 25 #[.slice s ks.length c, .int .i64 k] w fun e w' => e = .returned (.int .i64 (k + 2 * Ex.sizeL ks : Nat)) ∧ Ow w' (D.mark (kidsD ks) k) (.slice s ks.length c) F ∧ Only F w w' := by
  induction N using Nat.strongRecOn with
  | _ N ih =>
  intro ks s c k F w hN h hn hk
  have hkl := Ex.length_le_sizeL ks
  have H0 : Ow w (.sl 3 ks.length (mkd (Ex.cellsL ks) (0 * 3) k)) (.slice s ks.length c) F := by rw [Nat.zero_mul, mkd_zero]; exact h
  go_enter Tryz.func25, Tryz.ntmps25
  go_wp2_with fail
  go_loopw [1, 5] (fun q i wr => ∃ j : Nat, j ≤ ks.length ∧ i = .int .i64 j ∧ q = .int .i64 (k + 2 * Ex.sizeL (ks.take j) : Nat) ∧ Ow wr (.sl 3 ks.length (mkd (Ex.cellsL ks) (j * 3) k)) (.slice s ks.length c) F ∧ Only F w wr) (fun _ i _ => ks.length - (intOf i).toNat)
  case atStart => exact ⟨0, by omega, rfl, by simp [Ex.sizeL], H0, Only.refl _ _⟩
  case round =>
    clear h H0
    obtain ⟨j, hj, rfl, rfl, h, hO⟩ := hrel
    by_cases hlt : j < ks.length
    · obtain ⟨x, hx⟩ : ∃ e, ks[j]? = some e := ⟨_, List.getElem?_eq_getElem hlt⟩
      obtain ⟨b, o, rfl⟩ := h.spot (by omega)
      have hxs := Ex.size_eq x
      have hxm := Ex.sizeL_mem (List.mem_of_getElem? hx)
      have htk := Ex.sizeL_take_succ hx
      have htl := Ex.sizeL_take_le ks (j + 1)
      have c0 := Ex.cellsL_at ks j x hx 0 (by omega)
      have c1 := Ex.cellsL_at ks j x hx 1 (by omega)
      have c2 := Ex.cellsL_at ks j x hx 2 (by omega)
      rw [Ex.cells_eq] at c0 c1 c2
      rw [show 3 * j + 0 = j * 3 by omega] at c0
      rw [show 3 * j + 1 = j * 3 + 1 by omega] at c1
      rw [show 3 * j + 2 = j * 3 + 2 by omega] at c2
      simp only [List.getElem?_cons_zero, List.getElem?_cons_succ] at c0 c1 c2
      obtain ⟨q, hq⟩ : ∃ q, k + 2 * Ex.sizeL (ks.take j) = q := ⟨_, rfl⟩
      have m0 : D.marksL ((Ex.cellsL ks).take (j * 3)) = 2 * Ex.sizeL (ks.take j) := by rw [cellsL_take, marksL_cells]
      have m1 : D.marksL ((Ex.cellsL ks).take (j * 3 + 1)) = 2 * Ex.sizeL (ks.take j) + 1 := by rw [marks_step c0, m0]; rfl
      have m2 : D.marksL ((Ex.cellsL ks).take (j * 3 + 2)) = 2 * Ex.sizeL (ks.take j) + 2 := by rw [marks_step c1, m1]; rfl
      obtain ⟨g0, z0, gl, s0⟩ := h.int_cell hn (mkd_at c0 (Nat.le_refl _) k)
      obtain ⟨p1, p2⟩ := s0 (q : Int)
      have e1 := mkd_step c0 k
      rw [m0, hq] at e1
      rw [show D.mark (D.int x.kind) q = D.int (q : Int) from by simp only [D.mark]] at e1
      rw [e1] at p1
      obtain ⟨g1, z1, -, s1⟩ := p1.int_cell hn (mkd_at c1 (Nat.le_refl _) k)
      obtain ⟨q1, q2⟩ := s1 ((q : Int) + 1)
      have e2 := mkd_step c1 k
      rw [m1, show k + (2 * Ex.sizeL (ks.take j) + 1) = q + 1 by omega] at e2
      rw [show D.mark (D.int x.num) (q + 1) = D.int ((q : Int) + 1) from by simp only [D.mark]; congr 1] at e2
      rw [e2] at q1
      obtain ⟨a', c', G, g2, z2, -, -, hGF, hGn, hG, s2⟩ := q1.sl_cell hn (mkd_at c2 (Nat.le_refl _) k)
      have e3 := mkd_step c2 k
      rw [m2, show k + (2 * Ex.sizeL (ks.take j) + 2) = q + 2 by omega] at e3
      rw [show j * 3 + 2 + 1 = (j + 1) * 3 by omega] at e3
      have He3 := Lib.hid e3
      have q12 := hO.trans (p2.trans q2)
      simp only [← Nat.add_assoc] at s2 q12
      have Hs2 := Lib.hid s2
      have Hq12 := Lib.hid q12
      have Hq : Hid (q + 2 + 2 * Ex.sizeL x.kids = k + 2 * Ex.sizeL (ks.take (j + 1))) := by show _ = _; omega
      have hqb : q + 2 + 2 * Ex.sizeL x.kids ≤ 1000000000000 := by omega
      have hxN : Ex.sizeL x.kids < N := by omega
      rw [← Nat.add_assoc] at g1 z1 g2 z2
      rw [hq]
      simp only [← Nat.add_assoc] at hG g2 z2
      clear q12 e1 e2 e3 m0 m1 m2 c0 c1 c2 hq p1 p2 q1 q2 s0 s1 s2 hxs hxm htk htl hO h hx
      go_wp2_with fail
      rw [show ((q : Int) + 1 + 1) = ((q + 2 : Nat) : Int) from by omega]
      refine (ih _ hxN x.kids a' c' (q + 2) G _ (Nat.le_refl _) hG hGn hqb).mono ?_
      rintro e w1 ⟨rfl, hm, hO2⟩
      obtain ⟨t1, t2⟩ := Hs2.out w1 _ hm hO2
      have t3 : Ow w1 (.sl 3 ks.length (mkd (Ex.cellsL ks) ((j + 1) * 3) k)) (.slice (some ⟨b, o, none⟩) ks.length c) F := by rw [← He3.out]; exact t1
      have Hfin := Lib.hid (And.intro t3 (Hq12.out.trans t2))
      clear t1 t2 t3 hm hO2 hG g2 z2 g0 z0 g1 z1
      rw [Hq.out]
      go_wp2_with fail
      go_roundw
      case rel => exact ⟨j + 1, by omega, by go_num, rfl, Hfin.out.1, Hfin.out.2⟩
      case measure => simp [intOf]; omega
    · obtain rfl : j = ks.length := by omega
      have e := mkd_all (Ex.cellsL ks) k
      rw [Ex.cellsL_length] at e
      rw [e] at h
      rw [List.take_length] at *
      go_wp2_with fail
      go_ret
      exact ⟨rfl, h, hO⟩
theorem markExpr_i {kd n : Int} {ks : List Ex} {s : Option Addr} {c k : Nat} {F : List Nat} {w : World} (h : Ow w (kidsD ks) (.slice s ks.length c) F) (hn : F.Nodup) (hk : k + 2 * Ex.sizeL ks ≤ 1000000000000) :
    Calls Tryz.prog 20 #[.agg #[.int .i64 kd, .int .i64 n, .slice s ks.length c], .int .i64 k] w fun e w' => e = .returned (.int .i64 (k + 2 * Ex.sizeL ks : Nat)) ∧ Ow w' (D.mark (kidsD ks) k) (.slice s ks.length c) F ∧ Only F w w' := by
  have hO : Only F w (w.alloc (.cells #[.int .i64 kd, .int .i64 n, .slice s ks.length c] 30)) := (Only.refl _ _).alloc _
  have h' := h.keep (w' := w.alloc (.cells #[.int .i64 kd, .int .i64 n, .slice s ks.length c] 30)) fun b hb => Below.heap_alloc w _ b (h.lt b hb)
  go_enter Tryz.func20, Tryz.ntmps20
  go_wp2_with fail
  refine (markExprS_all _ ks s c k F _ (Nat.le_refl _) h' hn hk).mono ?_
  rintro e w1 ⟨rfl, hm, hO2⟩
  go_wp2_with fail
  go_ret
  exact ⟨rfl, hm, hO.trans hO2⟩
set_option maxHeartbeats 2000000 in
theorem heldExprS_all (N : Nat) : ∀ (ks : List Ex) (s : Option Addr) (c k : Nat) (w : World), Ex.sizeL ks ≤ N → Rd w (D.mark (kidsD ks) k) (.slice s ks.length c) → k + 2 * Ex.sizeL ks ≤ 1000000000000 →
    Calls Tryz.prog 26 #[.slice s ks.length c, .int .i64 k] w fun e w' => e = .returned (.int .i64 (k + 2 * Ex.sizeL ks : Nat)) ∧ w = w' := by
  induction N using Nat.strongRecOn with
  | _ N ih =>
  intro ks s c k w hN h hk
  have hkl := Ex.length_le_sizeL ks
  have h' := h
  unfold kidsD D.mark at h'
  obtain ⟨-, hln, hcp, -, -, h4⟩ := h'.sl_at
  unfold maxLen at hcp
  clear h'
  go_enter Tryz.func26, Tryz.ntmps26
  go_wp2_with fail
  go_loop [1, 5] (fun q i => ∃ j : Nat, j ≤ ks.length ∧ i = .int .i64 j ∧ q = .int .i64 (k + 2 * Ex.sizeL (ks.take j) : Nat)) (fun _ i => ks.length - (intOf i).toNat)
  case atStart => exact ⟨0, by omega, rfl, by simp [Ex.sizeL]⟩
  case round =>
    obtain ⟨j, hj, rfl, rfl⟩ := hrel
    by_cases hlt : j < ks.length
    · obtain ⟨x, hx⟩ : ∃ e, ks[j]? = some e := ⟨_, List.getElem?_eq_getElem hlt⟩
      rcases h4 with h4 | ⟨b, o, rfl, h4⟩
      · omega
      have hxs := Ex.size_eq x
      have hxm := Ex.sizeL_mem (List.mem_of_getElem? hx)
      have htk := Ex.sizeL_take_succ hx
      have htl := Ex.sizeL_take_le ks (j + 1)
      have c0 := Ex.cellsL_at ks j x hx 0 (by omega)
      have c1 := Ex.cellsL_at ks j x hx 1 (by omega)
      have c2 := Ex.cellsL_at ks j x hx 2 (by omega)
      rw [Ex.cells_eq] at c0 c1 c2
      rw [show 3 * j + 0 = j * 3 by omega] at c0
      rw [show 3 * j + 1 = j * 3 + 1 by omega] at c1
      rw [show 3 * j + 2 = j * 3 + 2 by omega] at c2
      simp only [List.getElem?_cons_zero, List.getElem?_cons_succ] at c0 c1 c2
      obtain ⟨q, hq⟩ : ∃ q, k + 2 * Ex.sizeL (ks.take j) = q := ⟨_, rfl⟩
      have m0 : D.marksL ((Ex.cellsL ks).take (j * 3)) = 2 * Ex.sizeL (ks.take j) := by rw [cellsL_take, marksL_cells]
      have m1 : D.marksL ((Ex.cellsL ks).take (j * 3 + 1)) = 2 * Ex.sizeL (ks.take j) + 1 := by rw [marks_step c0, m0]; rfl
      have m2 : D.marksL ((Ex.cellsL ks).take (j * 3 + 2)) = 2 * Ex.sizeL (ks.take j) + 2 := by rw [marks_step c1, m1]; rfl
      have a0 := markL_at c0 k
      have a1 := markL_at c1 k
      have a2 := markL_at c2 k
      rw [m0, hq] at a0
      rw [m1, show k + (2 * Ex.sizeL (ks.take j) + 1) = q + 1 by omega] at a1
      rw [m2, show k + (2 * Ex.sizeL (ks.take j) + 2) = q + 2 by omega] at a2
      obtain ⟨x0, g0, r0⟩ := h4 _ _ a0
      obtain ⟨x1, g1, r1⟩ := h4 _ _ a1
      obtain ⟨x2, g2, r2⟩ := h4 _ _ a2
      simp only [D.mark, Rd] at r0 r1
      subst r0 r1
      obtain ⟨a', c', rfl, -⟩ : ∃ a' c', x2 = .slice a' x.kids.length c' ∧ True := by
        unfold kidsD D.mark at r2
        obtain ⟨a', c', e, _⟩ := r2.slice
        exact ⟨a', c', e, trivial⟩
      have Hq : Hid (q + 2 + 2 * Ex.sizeL x.kids = k + 2 * Ex.sizeL (ks.take (j + 1))) := by show _ = _; omega
      have hqb : q + 2 + 2 * Ex.sizeL x.kids ≤ 1000000000000 := by omega
      have hxN : Ex.sizeL x.kids < N := by omega
      rw [← Nat.add_assoc] at g1 g2
      rw [hq]
      rw [show ((q + 1 : Nat) : Int) = (q : Int) + 1 from by omega] at g1
      clear m0 m1 m2 c0 c1 c2 a0 a1 a2 hq hxs hxm htk htl h hx h4
      go_wp2_with fail
      rw [show ((q : Int) + 1 + 1) = ((q + 2 : Nat) : Int) from by omega]
      refine (ih _ hxN x.kids a' c' (q + 2) _ (Nat.le_refl _) r2 hqb).mono ?_
      rintro e w' ⟨rfl, rfl⟩
      rw [Hq.out]
      clear g0 g1 g2
      go_wp2_with fail
      go_round
      case rel => exact ⟨j + 1, by omega, by go_num, rfl⟩
      case measure => simp [intOf]; omega
    · obtain rfl : j = ks.length := by omega
      rw [List.take_length] at *
      go_wp2_with fail
      go_ret
      exact ⟨rfl, rfl⟩
theorem Ows.single {w : World} {d : D} {v : Value} {F : List Nat} (h : Ows w [d] [v] F) : Ow w d v F := by
  simp only [Ows] at h
  obtain ⟨x, r, G, K, e1, e2, h1, e3, rfl⟩ := h
  simp only [List.cons.injEq] at e1
  obtain ⟨rfl, -⟩ := e1
  rw [e2, List.append_nil]
  exact h1
theorem Ow.single {w : World} {d : D} {v : Value} {F : List Nat} (h : Ow w d v F) : Ows w [d] [v] F := by
  have := Ows.cons h Ows.nil
  simpa using this
theorem markExprL_i {kd n : Int} {ks : List Ex} {s : Option Addr} {c k : Nat} {F : List Nat} {w : World} (h : Ows w [kidsD ks] [.slice s ks.length c] F) (hn : F.Nodup) (hk : k + 2 * Ex.sizeL ks ≤ 1000000000000) :
    Calls Tryz.prog 20 #[.agg #[.int .i64 kd, .int .i64 n, .slice s ks.length c], .int .i64 k] w fun e w' => e = .returned (.int .i64 (k + 2 * Ex.sizeL ks : Nat)) ∧ Ows w' (D.markL [kidsD ks] k) [.slice s ks.length c] F ∧ Only F w w' :=
  (markExpr_i h.single hn hk).mono fun _ _ ⟨h1, h2, h3⟩ => ⟨h1, h2.single, h3⟩
end Go.Proofs.YtjlmdhoajfdkbaaGreatDoor

namespace Go.Proofs.YtjlmdhoajfdkbaaGreatDoor
set_option linter.unusedVariables false
set_option linter.unusedSimpArgs false
open Go.ChangeShapes Go.WideShapes Go.ChangeAt Go.RowKit
def Szd (n : Nat) (left : Int) (e : Ending) : Prop := ∃ r : Int, e = .returned (.int .i64 r) ∧ r ≤ left ∧ -1 ≤ r ∧ (0 ≤ r → (n : Int) + r ≤ left)
def SzS (N : Nat) : Prop := ∀ (ks : List Ex) (s : Option Addr) (cap : Nat) (left : Int) (w : World), Ex.sizeL ks ≤ N → Rd w (kidsD ks) (.slice s ks.length cap) → 0 ≤ left → left ≤ 1048576 →
    Calls Tryz.prog 61 #[.slice s ks.length cap, .int .i64 left] w fun e w' => Szd (Ex.sizeL ks) left e ∧ Below w.heap.size w w'
theorem szExpr_of {N : Nat} (hS : SzS N) (k n : Int) (ks : List Ex) (s : Option Addr) (cap : Nat) (left : Int) (w : World) (hN : Ex.sizeL ks ≤ N) (hr : Rd w (kidsD ks) (.slice s ks.length cap)) (h0 : 0 ≤ left) (h1 : left ≤ 1048576) :
    Calls Tryz.prog 14 #[.agg #[.int .i64 k, .int .i64 n, .slice s ks.length cap], .int .i64 left] w fun e w' => Szd (Ex.sizeL ks) left e ∧ Below w.heap.size w w' := by
  go_enter Tryz.func14, Tryz.ntmps14
  go_wp2_with fail
  refine (hS ks s cap left _ hN (hr.alloc _) h0 h1).mono ?_
  rintro e w1 ⟨⟨r, rfl, r1, r2, r3⟩, hb⟩
  have hB : Below w.heap.size w w1 := Below.on (by (repeat' first | exact Below.refl _ _ | assumption | apply Below.alloc | apply Below.drew | apply Below.setCell | omega | (simp; done) | (simp; omega))) hb (by simp)
  clear hb
  go_wp2
  · go_ret
    exact ⟨⟨-1, rfl, by omega, by omega, by omega⟩, hB⟩
  · go_ret
    exact ⟨⟨r, rfl, r1, r2, r3⟩, hB⟩
set_option maxHeartbeats 400000 in
theorem szExprS_all (N : Nat) : SzS N := by
  induction N using Nat.strongRecOn with
  | _ N ih =>
  intro ks s cap left w hN hr h0 h1
  obtain ⟨-, hlen, hcap, -, -⟩ := kid_at hr
  unfold maxLen at hcap
  have hsz := Ex.length_le_sizeL ks
  by_cases hneg : left - (ks.length : Int) < 0
  · go_enter Tryz.func61, Tryz.ntmps61
    go_wp2_with fail
    go_ret
    exact ⟨⟨-1, rfl, by omega, by omega, by omega⟩, Below.refl _ _⟩
  · have hd : decide (left - (ks.length : Int) < 0) = false := by simpa using hneg
    go_enter Tryz.func61, Tryz.ntmps61
    go_wp2_with fail
    go_loopw [1, 5] (fun l i wr => ∃ (k : Nat) (r : Int), k ≤ ks.length ∧ i = .int .i64 k ∧ l = .int .i64 r ∧ 0 ≤ r ∧ (ks.length : Int) + (Ex.sizeL (ks.take k) : Int) - k + r ≤ left ∧ r ≤ left ∧ Below w.heap.size w wr) (fun _ i _ => ks.length - (intOf i).toNat)
    case atStart => exact ⟨0, _, by omega, rfl, rfl, by omega, by simp [Ex.sizeL]; omega, by omega, Below.refl _ _⟩
    case round =>
      obtain ⟨k, r, hk, rfl, rfl, hr0, hr1, hr2, hB⟩ := hrel
      by_cases hlt : k < ks.length
      · obtain ⟨e, he⟩ : ∃ e, ks[k]? = some e := ⟨_, List.getElem?_eq_getElem hlt⟩
        obtain ⟨b, o, rfl⟩ := kid_some hr (by intro h; simp [h] at hlt)
        obtain ⟨hbl, s', c', g0, g1, g2, gr⟩ := kid_in (hr.below hB) he
        have hse := Ex.size_eq e
        have hmem := Ex.sizeL_mem (List.mem_of_getElem? he)
        have htk := Ex.sizeL_take_succ he
        have Htk := Lib.hid htk
        have Hse := Lib.hid hse
        have hlt' : Ex.sizeL e.kids < N := by omega
        clear htk hse
        go_wp2_with fail
        refine (szExpr_of (ih _ hlt') _ _ _ _ _ _ _ (Nat.le_refl _) gr hr0 (by omega)).mono ?_
        rintro e1 w1 ⟨⟨r', rfl, r1, r2, r3⟩, hb⟩
        have hB1 : Below w.heap.size w w1 := Below.on hB hb hB.size
        by_cases hr' : r' < 0
        · go_wp2_with fail
          go_ret
          exact ⟨⟨-1, rfl, by omega, by omega, by omega⟩, hB1⟩
        · have hd' : decide (r' < 0) = false := by simpa using hr'
          go_wp2_with fail
          go_roundw
          case rel =>
            have := Htk.out
            have := Hse.out
            exact ⟨k + 1, r', by omega, by go_num, rfl, by omega, by omega, by omega, hB1⟩
          case measure => simp [intOf]; omega
      · obtain rfl : k = ks.length := by omega
        have hfull : Ex.sizeL (ks.take ks.length) = Ex.sizeL ks := by rw [List.take_length]
        have H := Lib.hid hfull
        clear hfull
        go_wp2_with fail
        go_ret
        have := H.out
        exact ⟨⟨r, rfl, by omega, by omega, by omega⟩, hB⟩
theorem szExpr_i {k n : Int} {ks : List Ex} {s : Option Addr} {cap : Nat} {left : Int} {w : World} (hr : Rd w (kidsD ks) (.slice s ks.length cap)) (h0 : 0 ≤ left) (h1 : left ≤ 1048576) :
    Calls Tryz.prog 14 #[.agg #[.int .i64 k, .int .i64 n, .slice s ks.length cap], .int .i64 left] w fun e w' => Szd (Ex.sizeL ks) left e ∧ Below w.heap.size w w' :=
  szExpr_of (szExprS_all _) k n ks s cap left w (Nat.le_refl _) hr h0 h1
end Go.Proofs.YtjlmdhoajfdkbaaGreatDoor
