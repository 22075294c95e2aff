/-
  Parts of a proof, joined: DerT, MarkE, Sz, To, Eq, LawDerive, CDerive. No condition.
-/
import Derived.Lib.AppendStr
import Derived.WalkKit
import Derived.ProofKit
import Derived.OpenShut
import Derived.ChangeSame
import Derived.Carry
import Derived.Deep.Slices
import Derived.Deep.LoopGhost
import Derived.Deep.DeepFit
import Derived.Deep.DeepMust
import Derived.Deep.RegionWith
import Derived.Deep.RegionHeld3
import Derived.Deep.QuietTactic
import Derived.BigQuiet
import Derived.WalkSpells
import Derived.WalkLawsBesides
import Derived.WalkSmall
import Derived.Lib.Hide
import Derived.Lib.QuietBelow
import Derived.Deep.CutRange
import Derived.Shelf.Strings.Builder1
import Derived.Shelf.Small.Bits
import Derived.Shelf.Small.Strs
import Derived.Shelf.Strings.BuilderF
import Derived.Shelf.Strings.BuilderK
import Derived.Shelf.Strconv.Itoa0
import Derived.Shelf.Strconv.Itoa1
import Derived.Shelf.LaysM
import Derived.Shelf.Strconv.Itoa2
import Derived.Shelf.Strconv.Itoa3
import Derived.Shelf.Strconv.Itoa4
import Derived.Shelf.Strings.BuilderCap
import Derived.Test.YtjlmdhoajfdkbaaGreatDoorProg
import Derived.Deep.AppendLies
import Derived.Shelf.SlGeneric
import Derived.Shelf.SlSortCmp.WholeK
import Derived.Ground.SlsfProg
import Derived.Maps.OwnOps
import Derived.DeepKeys4
import Derived.Test.YtjlmdhoajfdkbaaGreatDoorTie
import Derived.Test.YtjlmdhoajfdkbaaGreatDoorCards
import Derived.Handed
import Derived.LaidLaws
import Derived.LaidMore
import Derived.Stop.Joined
import Derived.Test.YtjlmdhoajfdkbaaGreatDoorRows
import Derived.JoinedOf
import Derived.Test.YtjlmdhoajfdkbaaGreatDoorPk0
import Derived.Test.YtjlmdhoajfdkbaaGreatDoorPk1
import Derived.Test.YtjlmdhoajfdkbaaGreatDoorPk2
import Derived.Test.YtjlmdhoajfdkbaaGreatDoorPk3
import Derived.Test.YtjlmdhoajfdkbaaGreatDoorPk4
namespace Go.Proofs.YtjlmdhoajfdkbaaGreatDoor
set_option linter.unusedVariables false
set_option linter.unusedSimpArgs false
open Go.ChangeShapes Go.WideShapes Go.ChangeAt Go.RowKit Go.Deep Go.Sort
theorem okB_bd3 {t a : Int} {e : Ex} (h : okB t a e = true) : t - 1 ≤ 2 ∧ a - 1 ≤ 8 ∧ e.size ≤ 200 ∧ e.tree (t - 1) (a - 1) = true := by
  have h1 := sigB_bd (okB_sig h)
  obtain ⟨-, -, h3⟩ := okB_bd h
  exact ⟨by omega, by omega, h3, okB_tree h⟩
theorem derived_some {tm am m x : Int} (ht2 : tm ≤ 2) (ha : am ≤ 8) (h0 : 0 ≤ m) (h7 : m ≤ 7) {X : Nat → Prop} {e d : Ex} {s : Option Addr} {c : Nat} {w : World} (hX : ∀ b, X b → b < w.heap.size) (hx : ExX X w e s c) (htr : e.tree tm am = true) (hs : e.size ≤ 10000) (ho : Hid (e.step m x = some d)) :
    Calls Tryz.prog 70 #[.agg #[.int .i64 e.kind, .int .i64 e.num, .slice s e.kids.length c], .int .i64 m, .int .i64 x] w fun f w' => ∃ s' c', f = .returned (.tuple #[.agg #[.int .i64 d.kind, .int .i64 d.num, .slice s' d.kids.length c'], .bool true]) ∧ ExX X w' d s' c' ∧ Below w.heap.size w w' := by
  have := derived_all tm am m x ht2 ha h0 h7 _ e X s c w (Nat.le_refl _) hX hx htr hs
  rw [ho.out] at this
  exact this
theorem derived_none {tm am m x : Int} (ht2 : tm ≤ 2) (ha : am ≤ 8) (h0 : 0 ≤ m) (h7 : m ≤ 7) {X : Nat → Prop} {e : Ex} {s : Option Addr} {c : Nat} {w : World} (hX : ∀ b, X b → b < w.heap.size) (hx : ExX X w e s c) (htr : e.tree tm am = true) (hs : e.size ≤ 10000) (ho : Hid (e.step m x = none)) :
    Calls Tryz.prog 70 #[.agg #[.int .i64 e.kind, .int .i64 e.num, .slice s e.kids.length c], .int .i64 m, .int .i64 x] w fun f w' => ∃ s' c', f = .returned (.tuple #[.agg #[.int .i64 0, .int .i64 0, .slice s' 0 c'], .bool false]) ∧ Below w.heap.size w w' := by
  have := derived_all tm am m x ht2 ha h0 h7 _ e X s c w (Nat.le_refl _) hX hx htr hs
  rw [ho.out] at this
  exact this.mono fun _ _ ⟨s', c', h1, _, h3⟩ => ⟨s', c', h1, h3⟩
theorem step_some' {tm am m x : Int} (ht2 : tm ≤ 2) (ha : am ≤ 8) (h0 : 0 ≤ m) (h7 : m ≤ 7) {e d : Ex} {b o : Nat} {w : World} (hx : ExAt w b o e) (htr : e.tree tm am = true) (hs : e.size ≤ 10000) (ho : Hid (e.step m x = some d)) :
    Calls Tryz.prog 65 #[.pointer (some ⟨b, o, none⟩), .int .i64 m, .int .i64 x] w fun f w' => ∃ s' c', f = .returned (.tuple #[.agg #[.int .i64 d.kind, .int .i64 d.num, .slice s' d.kids.length c'], .bool true]) ∧ Freshs w w' [kidsD d.kids] [.slice s' d.kids.length c'] ∧ Below w.heap.size w w' := by
  have := l02Step_all tm am m x ht2 ha h0 h7 _ e b o w (Nat.le_refl _) hx htr hs
  rw [ho.out] at this
  exact this.mono fun _ _ ⟨y, s', c', h1, h2, h3⟩ => by obtain ⟨rfl, h4⟩ := h2 d rfl; exact ⟨s', c', h1, h4, h3⟩
theorem step_none' {tm am m x : Int} (ht2 : tm ≤ 2) (ha : am ≤ 8) (h0 : 0 ≤ m) (h7 : m ≤ 7) {e : Ex} {b o : Nat} {w : World} (hx : ExAt w b o e) (htr : e.tree tm am = true) (hs : e.size ≤ 10000) (ho : Hid (e.step m x = none)) :
    Calls Tryz.prog 65 #[.pointer (some ⟨b, o, none⟩), .int .i64 m, .int .i64 x] w fun f w' => ∃ (y : Ex) (s' : Option Addr) (c' : Nat), f = .returned (.tuple #[.agg #[.int .i64 y.kind, .int .i64 y.num, .slice s' y.kids.length c'], .bool false]) ∧ Below w.heap.size w w' := by
  have := l02Step_all tm am m x ht2 ha h0 h7 _ e b o w (Nat.le_refl _) hx htr hs
  rw [ho.out] at this
  exact this.mono fun _ _ ⟨y, s', c', h1, h2, h3⟩ => ⟨y, s', c', h1, h3⟩
theorem l02Act_i {t a x : Int} {w : World} (ha : 0 ≤ a ∧ a ≤ 4) : Calls Tryz.prog 64 #[.agg #[.int .i64 t, .int .i64 a], .int .i64 x] w fun e w' => e = .returned (.bool (inB x 0 (a - 1))) ∧ Below w.heap.size w w' := by
  obtain ⟨ha0, ha1⟩ := ha
  go_enter Tryz.func64, Tryz.ntmps64
  go_wp2_with fail
  have L := Blk.new2 w 33 (.int .i64 t) (.int .i64 a)
  have hB : Below w.heap.size w (w.alloc (.cells #[.int .i64 t, .int .i64 a] 33)) := by (repeat' (first | exact Below.refl _ _ | assumption | (refine Below.alloc ?_ (by first | omega | (simp; done) | (simp; omega)) _) | (refine Below.drew ?_) | (refine Below.setCell ?_ (by first | omega | (simp; done) | (simp; omega)) _)))
  have hB0 := hB
  generalize (w.alloc (.cells #[.int .i64 t, .int .i64 a] 33)) = v0 at L hB hB0 ⊢
  have l0 := L.c0
  have l1 := L.c1
  have ltL := L.lt
  go_wp2_with fail
  refine (in_any _ _ _ _).mono ?_
  rintro x w1 ⟨rfl, rfl⟩
  clear l0 l1 ltL
  have l0 := L.c0
  have l1 := L.c1
  have ltL := L.lt
  go_wp2_with fail
  go_ret
  exact ⟨rfl, hB⟩
noncomputable def derE (t a m x : Int) (e : Ex) : Ex := if (okB t a e && (atomB t m && inB x 0 (a - 1))) = true then optE (e.step m x) else .mk 0 0 []
noncomputable def derC (t a m x : Int) (e : Ex) : Int := if okB t a e = true then (if atomB t m = true then (if inB x 0 (a - 1) = true then (if (e.step m x).isSome then 0 else 3) else 2) else 2) else 1
theorem derE_size (t a m x k n : Int) (ks : List Ex) : Ex.sizeL (derE t a m x (.mk k n ks)).kids ≤ 800 := by
  unfold derE
  split
  · rename_i h
    rw [Bool.and_eq_true] at h
    cases ho : Ex.step m x (.mk k n ks) with
    | none => simp [optE, Ex.kids, Ex.sizeL]
    | some d =>
      have h2 := (step_spec _ _ m x _ (.mk k n ks) d (Nat.le_refl _) (okB_tree h.1) ho).2
      have h3 := Ex.size_eq d
      show Ex.sizeL d.kids ≤ 800
      omega
  · simp [Ex.kids, Ex.sizeL]
set_option maxHeartbeats 4000000 in
theorem implDerive_i {t a k n m x : Int} {ks : List Ex} {s : Option Addr} {c : Nat} {w : World} (hr : Rd w (kidsD ks) (.slice s ks.length c)) (h1 : Ex.sizeL ks ≤ 1048576) :
    Calls Tryz.prog 18 #[.agg #[.int .i64 t, .int .i64 a], .agg #[.int .i64 k, .int .i64 n, .slice s ks.length c], .int .i64 m, .int .i64 x] w fun e w' => ∃ s' c', e = .returned (.tuple #[.agg #[.int .i64 (derE t a m x (.mk k n ks)).kind, .int .i64 (derE t a m x (.mk k n ks)).num, .slice s' (derE t a m x (.mk k n ks)).kids.length c'], .int .i64 (derC t a m x (.mk k n ks))]) ∧
      Freshs w w' [kidsD (derE t a m x (.mk k n ks)).kids] [.slice s' (derE t a m x (.mk k n ks)).kids.length c'] ∧ Below w.heap.size w w' := by
  have Hsz : Hid (Ex.size (.mk k n ks) ≤ 1073741824) := by show _ ≤ _; rw [Ex.size_eq]; simp only [Ex.kids]; omega
  cases ho : Ex.step m x (.mk k n ks) with
  | none =>
    have Ho := Lib.hid ho
    clear ho
    go_enter Tryz.func18, Tryz.ntmps18
    go_wp2_with fail
    have L := ((Blk.new2 w 33 (.int .i64 t) (.int .i64 a)).alloc (.cells #[.int .i64 k, .int .i64 n, .slice s ks.length c] 30)).alloc (.cells #[.int .i64 0, .int .i64 0, .slice none 0 0] 30)
    have M := (Blk.new3 (w.alloc (.cells #[.int .i64 t, .int .i64 a] 33)) 30 (.int .i64 k) (.int .i64 n) (.slice s ks.length c)).alloc (.cells #[.int .i64 0, .int .i64 0, .slice none 0 0] 30)
    simp at M
    have R := Blk.new3 ((w.alloc (.cells #[.int .i64 t, .int .i64 a] 33)).alloc (.cells #[.int .i64 k, .int .i64 n, .slice s ks.length c] 30)) 30 (.int .i64 0) (.int .i64 0) (.slice none 0 0)
    simp at R
    have hB : Below w.heap.size w (((w.alloc (.cells #[.int .i64 t, .int .i64 a] 33)).alloc (.cells #[.int .i64 k, .int .i64 n, .slice s ks.length c] 30)).alloc (.cells #[.int .i64 0, .int .i64 0, .slice none 0 0] 30)) := by (repeat' (first | exact Below.refl _ _ | assumption | (refine Below.alloc ?_ (by first | omega | (simp; done) | (simp; omega)) _) | (refine Below.drew ?_) | (refine Below.setCell ?_ (by first | omega | (simp; done) | (simp; omega)) _)))
    have hB0 := hB
    generalize (((w.alloc (.cells #[.int .i64 t, .int .i64 a] 33)).alloc (.cells #[.int .i64 k, .int .i64 n, .slice s ks.length c] 30)).alloc (.cells #[.int .i64 0, .int .i64 0, .slice none 0 0] 30)) = v0 at L M R hB hB0 ⊢
    have l0 := L.c0
    have l1 := L.c1
    have m0 := M.c0
    have m1 := M.c1
    have m2 := M.c2
    have r0 := R.c0
    have r1 := R.c1
    have r2 := R.c2
    have ltL := L.lt
    have ltM := M.lt
    have ltR := R.lt
    have zz0 := R.frozen 0
    have zz1 := R.frozen 1
    have zz2 := R.frozen 2
    go_wp2_with fail
    refine (implValidExpr_i (hr.below hB)).mono ?_
    rintro x w1 ⟨rfl, hb⟩
    clear l0 l1 m0 m1 m2 r0 r1 r2 ltL ltM ltR zz0 zz1 zz2
    replace hB := Below.on hB hb hB.size
    replace L := L.below hb
    replace M := M.below hb
    replace R := R.below hb
    clear hb
    have szW1 := hB.size
    have rlt1 := R.lt
    cases hs1 : okB t a (.mk k n ks)
    · have l0 := L.c0
      have l1 := L.c1
      have ltL := L.lt
      have m0 := M.c0
      have m1 := M.c1
      have m2 := M.c2
      have ltM := M.lt
      have r0 := R.c0
      have zz0 := R.frozen 0
      have r1 := R.c1
      have zz1 := R.frozen 1
      have r2 := R.c2
      have zz2 := R.frozen 2
      have ltR := R.lt
      go_wp2_with fail
      have R' := (((R.set 0 (.int .i64 0)).set 1 (.int .i64 0)).set 2 (.slice none 0 0))
      have c0 := R'.c0
      have c1 := R'.c1
      have c2 := R'.c2
      refine bodyPost_ret (v := .tuple #[.agg #[.int .i64 0, .int .i64 0, .slice none 0 0], .int .i64 1]) (by simp [results, Tryz.results18, go_sem, c0, c1, c2]) rfl ?_
      have e1 : derE t a m x (.mk k n ks) = .mk 0 0 [] := by simp [derE, hs1]
      have e2 : derC t a m x (.mk k n ks) = 1 := by simp [derC, hs1]
      rw [e1, e2]
      exact ⟨none, 0, rfl, fresh_nil1 _ _, by (repeat' (first | exact Below.refl _ _ | assumption | (refine Below.alloc ?_ (by first | omega | (simp; done) | (simp; omega)) _) | (refine Below.drew ?_) | (refine Below.setCell ?_ (by first | omega | (simp; done) | (simp; omega)) _)))⟩
    have Hs1 := Lib.hid hs1
    clear hs1
    have l0 := L.c0
    have l1 := L.c1
    have m0 := M.c0
    have m1 := M.c1
    have m2 := M.c2
    have r0 := R.c0
    have r1 := R.c1
    have r2 := R.c2
    have ltL := L.lt
    have ltM := M.lt
    have ltR := R.lt
    have zz0 := R.frozen 0
    have zz1 := R.frozen 1
    have zz2 := R.frozen 2
    go_wp2_with fail
    obtain ⟨-, -, ha0, ha4⟩ := sigB_bd (okB_sig Hs1.out)
    refine (isAtom_i (okB_sig Hs1.out)).mono ?_
    rintro x w2 ⟨rfl, hb⟩
    clear l0 l1 m0 m1 m2 r0 r1 r2 ltL ltM ltR zz0 zz1 zz2
    replace hB := Below.on hB hb hB.size
    replace L := L.below hb
    replace M := M.below hb
    replace R := R.below hb
    clear hb
    have szW2 := hB.size
    have rlt2 := R.lt
    cases hs2 : atomB t m
    · have l0 := L.c0
      have l1 := L.c1
      have ltL := L.lt
      have m0 := M.c0
      have m1 := M.c1
      have m2 := M.c2
      have ltM := M.lt
      have r0 := R.c0
      have zz0 := R.frozen 0
      have r1 := R.c1
      have zz1 := R.frozen 1
      have r2 := R.c2
      have zz2 := R.frozen 2
      have ltR := R.lt
      go_wp2_with fail
      have R' := (((R.set 0 (.int .i64 0)).set 1 (.int .i64 0)).set 2 (.slice none 0 0))
      have c0 := R'.c0
      have c1 := R'.c1
      have c2 := R'.c2
      refine bodyPost_ret (v := .tuple #[.agg #[.int .i64 0, .int .i64 0, .slice none 0 0], .int .i64 2]) (by simp [results, Tryz.results18, go_sem, c0, c1, c2]) rfl ?_
      have e1 : derE t a m x (.mk k n ks) = .mk 0 0 [] := by simp [derE, Hs1.out, hs2]
      have e2 : derC t a m x (.mk k n ks) = 2 := by simp [derC, Hs1.out, hs2]
      rw [e1, e2]
      exact ⟨none, 0, rfl, fresh_nil1 _ _, by (repeat' (first | exact Below.refl _ _ | assumption | (refine Below.alloc ?_ (by first | omega | (simp; done) | (simp; omega)) _) | (refine Below.drew ?_) | (refine Below.setCell ?_ (by first | omega | (simp; done) | (simp; omega)) _)))⟩
    have Hs2 := Lib.hid hs2
    clear hs2
    have l0 := L.c0
    have l1 := L.c1
    have m0 := M.c0
    have m1 := M.c1
    have m2 := M.c2
    have r0 := R.c0
    have r1 := R.c1
    have r2 := R.c2
    have ltL := L.lt
    have ltM := M.lt
    have ltR := R.lt
    have zz0 := R.frozen 0
    have zz1 := R.frozen 1
    have zz2 := R.frozen 2
    go_wp2_with fail
    refine (within_any _ _ _ _).mono ?_
    rintro x w3 ⟨rfl, rfl⟩
    clear l0 l1 m0 m1 m2 r0 r1 r2 ltL ltM ltR zz0 zz1 zz2
    cases hs3 : inB x 0 (a - 1)
    · have l0 := L.c0
      have l1 := L.c1
      have ltL := L.lt
      have m0 := M.c0
      have m1 := M.c1
      have m2 := M.c2
      have ltM := M.lt
      have r0 := R.c0
      have zz0 := R.frozen 0
      have r1 := R.c1
      have zz1 := R.frozen 1
      have r2 := R.c2
      have zz2 := R.frozen 2
      have ltR := R.lt
      go_wp2_with fail
      have R' := (((R.set 0 (.int .i64 0)).set 1 (.int .i64 0)).set 2 (.slice none 0 0))
      have c0 := R'.c0
      have c1 := R'.c1
      have c2 := R'.c2
      refine bodyPost_ret (v := .tuple #[.agg #[.int .i64 0, .int .i64 0, .slice none 0 0], .int .i64 2]) (by simp [results, Tryz.results18, go_sem, c0, c1, c2]) rfl ?_
      have e1 : derE t a m x (.mk k n ks) = .mk 0 0 [] := by simp [derE, Hs1.out, Hs2.out, hs3]
      have e2 : derC t a m x (.mk k n ks) = 2 := by simp [derC, Hs1.out, Hs2.out, hs3]
      rw [e1, e2]
      exact ⟨none, 0, rfl, fresh_nil1 _ _, by (repeat' (first | exact Below.refl _ _ | assumption | (refine Below.alloc ?_ (by first | omega | (simp; done) | (simp; omega)) _) | (refine Below.drew ?_) | (refine Below.setCell ?_ (by first | omega | (simp; done) | (simp; omega)) _)))⟩
    have Hs3 := Lib.hid hs3
    clear hs3
    have l0 := L.c0
    have l1 := L.c1
    have m0 := M.c0
    have m1 := M.c1
    have m2 := M.c2
    have r0 := R.c0
    have r1 := R.c1
    have r2 := R.c2
    have ltL := L.lt
    have ltM := M.lt
    have ltR := R.lt
    have zz0 := R.frozen 0
    have zz1 := R.frozen 1
    have zz2 := R.frozen 2
    go_wp2_with fail
    have A0 := (okB_bd3 Hs1.out).1
    have A1 := (okB_bd3 Hs1.out).2.1
    have A2 := (atomB_bd (okB_sig Hs1.out) Hs2.out).2.1
    have A3 := (atomB_bd (okB_sig Hs1.out) Hs2.out).2.2
    have A4 := (okB_bd3 Hs1.out).2.2.2
    have A5 := (okB_bd3 Hs1.out).2.2.1
    have HA4 := Lib.hid A4
    clear A4
    refine (derived_none A0 A1 A2 A3 (X := fun _ => False) (e := .mk k n ks) (fun _ h => h.elim) (RdX.all (hr.below hB)) HA4.out (by omega) Ho).mono ?_
    rintro x w4 ⟨s4, c4, rfl, hb⟩
    clear l0 l1 m0 m1 m2 r0 r1 r2 ltL ltM ltR zz0 zz1 zz2
    replace hB := Below.on hB hb hB.size
    replace L := L.below hb
    replace M := M.below hb
    replace R := R.below hb
    clear hb
    have szW4 := hB.size
    have rlt4 := R.lt
    have l0 := L.c0
    have l1 := L.c1
    have m0 := M.c0
    have m1 := M.c1
    have m2 := M.c2
    have r0 := R.c0
    have r1 := R.c1
    have r2 := R.c2
    have ltL := L.lt
    have ltM := M.lt
    have ltR := R.lt
    have zz0 := R.frozen 0
    have zz1 := R.frozen 1
    have zz2 := R.frozen 2
    go_wp2_with fail
    have r0 := R.c0
    have r1 := R.c1
    have r2 := R.c2
    have z0 := R.frozen 0
    have z1 := R.frozen 1
    have z2 := R.frozen 2
    have ltR := R.lt
    go_wp2_with fail
    have T2 := (((R.set 0 (.int .i64 0)).set 1 (.int .i64 0)).set 2 (.slice none 0 0)).alloc (.cells #[.int .i64 0, .int .i64 0, .slice s4 0 c4] 30)
    have hs5 : Spares (fun y => y = w.heap.size + 1 + 1) w4 ((((w4.setCell ⟨w.heap.size + 1 + 1, 0, none⟩ (.int .i64 0)).setCell ⟨w.heap.size + 1 + 1, 1, none⟩ (.int .i64 0)).setCell ⟨w.heap.size + 1 + 1, 2, none⟩ (.slice none 0 0)).alloc (.cells #[.int .i64 0, .int .i64 0, .slice s4 0 c4] 30)) := (Spares.set (Spares.set (Spares.set (Spares.refl w4)))).trans (Spares.of_below (Below.alloc (Below.refl _ _) (Nat.le_refl _) _))
    generalize (((w4.setCell ⟨w.heap.size + 1 + 1, 0, none⟩ (.int .i64 0)).setCell ⟨w.heap.size + 1 + 1, 1, none⟩ (.int .i64 0)).setCell ⟨w.heap.size + 1 + 1, 2, none⟩ (.slice none 0 0)).alloc (.cells #[.int .i64 0, .int .i64 0, .slice s4 0 c4] 30) = w5 at T2 hs5 ⊢
    have t0 := T2.c0
    have t1 := T2.c1
    have t2 := T2.c2
    have hzB5 := hB.size
    have hB5 := hB.trans (hs5.below (B := w.heap.size) (by omega) (fun y hy => by omega))
    refine bodyPost_ret (v := .tuple #[.agg #[.int .i64 0, .int .i64 0, .slice none 0 0], .int .i64 3]) (by simp [results, Tryz.results18, go_sem, t0, t1, t2]) rfl ?_
    have e1 : derE t a m x (.mk k n ks) = .mk 0 0 [] := by simp [derE, Ho.out, optE]
    have e2 : derC t a m x (.mk k n ks) = 3 := by simp [derC, Ho.out, Hs1.out, Hs2.out, Hs3.out]
    rw [e1, e2]
    exact ⟨none, 0, rfl, fresh_nil1 _ _, hB5⟩
  | some d =>
    have Ho := Lib.hid ho
    clear ho
    go_enter Tryz.func18, Tryz.ntmps18
    go_wp2_with fail
    have L := ((Blk.new2 w 33 (.int .i64 t) (.int .i64 a)).alloc (.cells #[.int .i64 k, .int .i64 n, .slice s ks.length c] 30)).alloc (.cells #[.int .i64 0, .int .i64 0, .slice none 0 0] 30)
    have M := (Blk.new3 (w.alloc (.cells #[.int .i64 t, .int .i64 a] 33)) 30 (.int .i64 k) (.int .i64 n) (.slice s ks.length c)).alloc (.cells #[.int .i64 0, .int .i64 0, .slice none 0 0] 30)
    simp at M
    have R := Blk.new3 ((w.alloc (.cells #[.int .i64 t, .int .i64 a] 33)).alloc (.cells #[.int .i64 k, .int .i64 n, .slice s ks.length c] 30)) 30 (.int .i64 0) (.int .i64 0) (.slice none 0 0)
    simp at R
    have hB : Below w.heap.size w (((w.alloc (.cells #[.int .i64 t, .int .i64 a] 33)).alloc (.cells #[.int .i64 k, .int .i64 n, .slice s ks.length c] 30)).alloc (.cells #[.int .i64 0, .int .i64 0, .slice none 0 0] 30)) := by (repeat' (first | exact Below.refl _ _ | assumption | (refine Below.alloc ?_ (by first | omega | (simp; done) | (simp; omega)) _) | (refine Below.drew ?_) | (refine Below.setCell ?_ (by first | omega | (simp; done) | (simp; omega)) _)))
    have hB0 := hB
    generalize (((w.alloc (.cells #[.int .i64 t, .int .i64 a] 33)).alloc (.cells #[.int .i64 k, .int .i64 n, .slice s ks.length c] 30)).alloc (.cells #[.int .i64 0, .int .i64 0, .slice none 0 0] 30)) = v0 at L M R hB hB0 ⊢
    have l0 := L.c0
    have l1 := L.c1
    have m0 := M.c0
    have m1 := M.c1
    have m2 := M.c2
    have r0 := R.c0
    have r1 := R.c1
    have r2 := R.c2
    have ltL := L.lt
    have ltM := M.lt
    have ltR := R.lt
    have zz0 := R.frozen 0
    have zz1 := R.frozen 1
    have zz2 := R.frozen 2
    go_wp2_with fail
    refine (implValidExpr_i (hr.below hB)).mono ?_
    rintro x w1 ⟨rfl, hb⟩
    clear l0 l1 m0 m1 m2 r0 r1 r2 ltL ltM ltR zz0 zz1 zz2
    replace hB := Below.on hB hb hB.size
    replace L := L.below hb
    replace M := M.below hb
    replace R := R.below hb
    clear hb
    have szW1 := hB.size
    have rlt1 := R.lt
    cases hs1 : okB t a (.mk k n ks)
    · have l0 := L.c0
      have l1 := L.c1
      have ltL := L.lt
      have m0 := M.c0
      have m1 := M.c1
      have m2 := M.c2
      have ltM := M.lt
      have r0 := R.c0
      have zz0 := R.frozen 0
      have r1 := R.c1
      have zz1 := R.frozen 1
      have r2 := R.c2
      have zz2 := R.frozen 2
      have ltR := R.lt
      go_wp2_with fail
      have R' := (((R.set 0 (.int .i64 0)).set 1 (.int .i64 0)).set 2 (.slice none 0 0))
      have c0 := R'.c0
      have c1 := R'.c1
      have c2 := R'.c2
      refine bodyPost_ret (v := .tuple #[.agg #[.int .i64 0, .int .i64 0, .slice none 0 0], .int .i64 1]) (by simp [results, Tryz.results18, go_sem, c0, c1, c2]) rfl ?_
      have e1 : derE t a m x (.mk k n ks) = .mk 0 0 [] := by simp [derE, hs1]
      have e2 : derC t a m x (.mk k n ks) = 1 := by simp [derC, hs1]
      rw [e1, e2]
      exact ⟨none, 0, rfl, fresh_nil1 _ _, by (repeat' (first | exact Below.refl _ _ | assumption | (refine Below.alloc ?_ (by first | omega | (simp; done) | (simp; omega)) _) | (refine Below.drew ?_) | (refine Below.setCell ?_ (by first | omega | (simp; done) | (simp; omega)) _)))⟩
    have Hs1 := Lib.hid hs1
    clear hs1
    have l0 := L.c0
    have l1 := L.c1
    have m0 := M.c0
    have m1 := M.c1
    have m2 := M.c2
    have r0 := R.c0
    have r1 := R.c1
    have r2 := R.c2
    have ltL := L.lt
    have ltM := M.lt
    have ltR := R.lt
    have zz0 := R.frozen 0
    have zz1 := R.frozen 1
    have zz2 := R.frozen 2
    go_wp2_with fail
    obtain ⟨-, -, ha0, ha4⟩ := sigB_bd (okB_sig Hs1.out)
    refine (isAtom_i (okB_sig Hs1.out)).mono ?_
    rintro x w2 ⟨rfl, hb⟩
    clear l0 l1 m0 m1 m2 r0 r1 r2 ltL ltM ltR zz0 zz1 zz2
    replace hB := Below.on hB hb hB.size
    replace L := L.below hb
    replace M := M.below hb
    replace R := R.below hb
    clear hb
    have szW2 := hB.size
    have rlt2 := R.lt
    cases hs2 : atomB t m
    · have l0 := L.c0
      have l1 := L.c1
      have ltL := L.lt
      have m0 := M.c0
      have m1 := M.c1
      have m2 := M.c2
      have ltM := M.lt
      have r0 := R.c0
      have zz0 := R.frozen 0
      have r1 := R.c1
      have zz1 := R.frozen 1
      have r2 := R.c2
      have zz2 := R.frozen 2
      have ltR := R.lt
      go_wp2_with fail
      have R' := (((R.set 0 (.int .i64 0)).set 1 (.int .i64 0)).set 2 (.slice none 0 0))
      have c0 := R'.c0
      have c1 := R'.c1
      have c2 := R'.c2
      refine bodyPost_ret (v := .tuple #[.agg #[.int .i64 0, .int .i64 0, .slice none 0 0], .int .i64 2]) (by simp [results, Tryz.results18, go_sem, c0, c1, c2]) rfl ?_
      have e1 : derE t a m x (.mk k n ks) = .mk 0 0 [] := by simp [derE, Hs1.out, hs2]
      have e2 : derC t a m x (.mk k n ks) = 2 := by simp [derC, Hs1.out, hs2]
      rw [e1, e2]
      exact ⟨none, 0, rfl, fresh_nil1 _ _, by (repeat' (first | exact Below.refl _ _ | assumption | (refine Below.alloc ?_ (by first | omega | (simp; done) | (simp; omega)) _) | (refine Below.drew ?_) | (refine Below.setCell ?_ (by first | omega | (simp; done) | (simp; omega)) _)))⟩
    have Hs2 := Lib.hid hs2
    clear hs2
    have l0 := L.c0
    have l1 := L.c1
    have m0 := M.c0
    have m1 := M.c1
    have m2 := M.c2
    have r0 := R.c0
    have r1 := R.c1
    have r2 := R.c2
    have ltL := L.lt
    have ltM := M.lt
    have ltR := R.lt
    have zz0 := R.frozen 0
    have zz1 := R.frozen 1
    have zz2 := R.frozen 2
    go_wp2_with fail
    refine (within_any _ _ _ _).mono ?_
    rintro x w3 ⟨rfl, rfl⟩
    clear l0 l1 m0 m1 m2 r0 r1 r2 ltL ltM ltR zz0 zz1 zz2
    cases hs3 : inB x 0 (a - 1)
    · have l0 := L.c0
      have l1 := L.c1
      have ltL := L.lt
      have m0 := M.c0
      have m1 := M.c1
      have m2 := M.c2
      have ltM := M.lt
      have r0 := R.c0
      have zz0 := R.frozen 0
      have r1 := R.c1
      have zz1 := R.frozen 1
      have r2 := R.c2
      have zz2 := R.frozen 2
      have ltR := R.lt
      go_wp2_with fail
      have R' := (((R.set 0 (.int .i64 0)).set 1 (.int .i64 0)).set 2 (.slice none 0 0))
      have c0 := R'.c0
      have c1 := R'.c1
      have c2 := R'.c2
      refine bodyPost_ret (v := .tuple #[.agg #[.int .i64 0, .int .i64 0, .slice none 0 0], .int .i64 2]) (by simp [results, Tryz.results18, go_sem, c0, c1, c2]) rfl ?_
      have e1 : derE t a m x (.mk k n ks) = .mk 0 0 [] := by simp [derE, Hs1.out, Hs2.out, hs3]
      have e2 : derC t a m x (.mk k n ks) = 2 := by simp [derC, Hs1.out, Hs2.out, hs3]
      rw [e1, e2]
      exact ⟨none, 0, rfl, fresh_nil1 _ _, by (repeat' (first | exact Below.refl _ _ | assumption | (refine Below.alloc ?_ (by first | omega | (simp; done) | (simp; omega)) _) | (refine Below.drew ?_) | (refine Below.setCell ?_ (by first | omega | (simp; done) | (simp; omega)) _)))⟩
    have Hs3 := Lib.hid hs3
    clear hs3
    have l0 := L.c0
    have l1 := L.c1
    have m0 := M.c0
    have m1 := M.c1
    have m2 := M.c2
    have r0 := R.c0
    have r1 := R.c1
    have r2 := R.c2
    have ltL := L.lt
    have ltM := M.lt
    have ltR := R.lt
    have zz0 := R.frozen 0
    have zz1 := R.frozen 1
    have zz2 := R.frozen 2
    go_wp2_with fail
    have A0 := (okB_bd3 Hs1.out).1
    have A1 := (okB_bd3 Hs1.out).2.1
    have A2 := (atomB_bd (okB_sig Hs1.out) Hs2.out).2.1
    have A3 := (atomB_bd (okB_sig Hs1.out) Hs2.out).2.2
    have A4 := (okB_bd3 Hs1.out).2.2.2
    have A5 := (okB_bd3 Hs1.out).2.2.1
    have HA4 := Lib.hid A4
    clear A4
    refine (derived_some A0 A1 A2 A3 (X := fun _ => False) (e := .mk k n ks) (fun _ h => h.elim) (RdX.all (hr.below hB)) HA4.out (by omega) Ho).mono ?_
    rintro x w4 ⟨s4, c4, rfl, hd4, hb⟩
    clear l0 l1 m0 m1 m2 r0 r1 r2 ltL ltM ltR zz0 zz1 zz2
    replace hB := Below.on hB hb hB.size
    replace L := L.below hb
    replace M := M.below hb
    replace R := R.below hb
    clear hb
    have szW4 := hB.size
    have rlt4 := R.lt
    have l0 := L.c0
    have l1 := L.c1
    have m0 := M.c0
    have m1 := M.c1
    have m2 := M.c2
    have r0 := R.c0
    have r1 := R.c1
    have r2 := R.c2
    have ltL := L.lt
    have ltM := M.lt
    have ltR := R.lt
    have zz0 := R.frozen 0
    have zz1 := R.frozen 1
    have zz2 := R.frozen 2
    go_wp2_with fail
    have N1 : Blk (w4.alloc (.cells #[.int .i64 d.kind, .int .i64 d.num, .slice s4 d.kids.length c4] 30)) w4.heap.size 30 [.int .i64 d.kind, .int .i64 d.num, .slice s4 d.kids.length c4] := Blk.new3 _ _ _ _ _
    have hb5 : Below w4.heap.size w4 (w4.alloc (.cells #[.int .i64 d.kind, .int .i64 d.num, .slice s4 d.kids.length c4] 30)) := by (repeat' (first | exact Below.refl _ _ | assumption | (refine Below.alloc ?_ (by first | omega | (simp; done) | (simp; omega)) _) | (refine Below.drew ?_) | (refine Below.setCell ?_ (by first | omega | (simp; done) | (simp; omega)) _)))
    generalize w4.alloc (.cells #[.int .i64 d.kind, .int .i64 d.num, .slice s4 d.kids.length c4] 30) = w5 at N1 hb5 ⊢
    replace hB := Below.on hB hb5 hB.size
    replace R := R.below hb5
    refine (copy_k (k := d.kind) (n := d.num) (hd4.below hb5).rd (by have h2 := (step_spec _ _ m x _ (.mk k n ks) d (Nat.le_refl _) HA4.out Ho.out).2; have h3 := Ex.size_eq d; omega)).mono ?_
    rintro f w6 ⟨s6, c6, rfl, hf6, hb⟩
    have hzw := hB.size
    have hzr := R.lt
    replace hB := Below.on hB hb hB.size
    replace R := R.below hb
    have r0 := R.c0
    have r1 := R.c1
    have r2 := R.c2
    have z0 := R.frozen 0
    have z1 := R.frozen 1
    have z2 := R.frozen 2
    have ltR := R.lt
    go_wp2_with fail
    have T2 := ((R.set 0 (.int .i64 d.kind)).set 1 (.int .i64 d.num)).set 2 (.slice s6 d.kids.length c6)
    have hs5 : Spares (fun y => y = w.heap.size + 1 + 1) w6 (((w6.setCell ⟨w.heap.size + 1 + 1, 0, none⟩ (.int .i64 d.kind)).setCell ⟨w.heap.size + 1 + 1, 1, none⟩ (.int .i64 d.num)).setCell ⟨w.heap.size + 1 + 1, 2, none⟩ (.slice s6 d.kids.length c6)) := Spares.set (Spares.set (Spares.set (Spares.refl w6)))
    generalize (((w6.setCell ⟨w.heap.size + 1 + 1, 0, none⟩ (.int .i64 d.kind)).setCell ⟨w.heap.size + 1 + 1, 1, none⟩ (.int .i64 d.num)).setCell ⟨w.heap.size + 1 + 1, 2, none⟩ (.slice s6 d.kids.length c6)) = w5 at T2 hs5 ⊢
    have t0 := T2.c0
    have t1 := T2.c1
    have t2 := T2.c2
    have hzB5 := hB.size
    have hB5 := hB.trans (hs5.below (B := w.heap.size) (by omega) (fun y hy => by omega))
    refine bodyPost_ret (v := .tuple #[.agg #[.int .i64 d.kind, .int .i64 d.num, .slice s6 d.kids.length c6], .int .i64 0]) (by simp [results, Tryz.results18, go_sem, t0, t1, t2]) rfl ?_
    have e1 : derE t a m x (.mk k n ks) = d := by simp [derE, Ho.out, Hs1.out, Hs2.out, Hs3.out, optE]
    have e2 : derC t a m x (.mk k n ks) = 0 := by simp [derC, Ho.out, Hs1.out, Hs2.out, Hs3.out]
    rw [e1, e2]
    exact ⟨_, _, rfl, Freshs.from (Freshs.keep hf6 (fun y _ hy2 => hs5.block y hy2 (by omega))) hzw, hB5⟩
set_option maxHeartbeats 4000000 in
theorem specDerive_i {t a k n m x : Int} {ks : List Ex} {s : Option Addr} {c : Nat} {w : World} (hr : Rd w (kidsD ks) (.slice s ks.length c)) (h1 : Ex.sizeL ks ≤ 1048576) :
    Calls Tryz.prog 15 #[.agg #[.int .i64 t, .int .i64 a], .agg #[.int .i64 k, .int .i64 n, .slice s ks.length c], .int .i64 m, .int .i64 x] w fun e w' => ∃ s' c', e = .returned (.tuple #[.agg #[.int .i64 (derE t a m x (.mk k n ks)).kind, .int .i64 (derE t a m x (.mk k n ks)).num, .slice s' (derE t a m x (.mk k n ks)).kids.length c'], .int .i64 (derC t a m x (.mk k n ks))]) ∧
      Freshs w w' [kidsD (derE t a m x (.mk k n ks)).kids] [.slice s' (derE t a m x (.mk k n ks)).kids.length c'] ∧ Below w.heap.size w w' := by
  have Hsz : Hid (Ex.size (.mk k n ks) ≤ 1073741824) := by show _ ≤ _; rw [Ex.size_eq]; simp only [Ex.kids]; omega
  cases ho : Ex.step m x (.mk k n ks) with
  | none =>
    have Ho := Lib.hid ho
    clear ho
    go_enter Tryz.func15, Tryz.ntmps15
    go_wp2_with fail
    have L := ((Blk.new2 w 33 (.int .i64 t) (.int .i64 a)).alloc (.cells #[.int .i64 k, .int .i64 n, .slice s ks.length c] 30)).alloc (.cells #[.int .i64 0, .int .i64 0, .slice none 0 0] 30)
    have M := (Blk.new3 (w.alloc (.cells #[.int .i64 t, .int .i64 a] 33)) 30 (.int .i64 k) (.int .i64 n) (.slice s ks.length c)).alloc (.cells #[.int .i64 0, .int .i64 0, .slice none 0 0] 30)
    simp at M
    have R := Blk.new3 ((w.alloc (.cells #[.int .i64 t, .int .i64 a] 33)).alloc (.cells #[.int .i64 k, .int .i64 n, .slice s ks.length c] 30)) 30 (.int .i64 0) (.int .i64 0) (.slice none 0 0)
    simp at R
    have hB : Below w.heap.size w (((w.alloc (.cells #[.int .i64 t, .int .i64 a] 33)).alloc (.cells #[.int .i64 k, .int .i64 n, .slice s ks.length c] 30)).alloc (.cells #[.int .i64 0, .int .i64 0, .slice none 0 0] 30)) := by (repeat' (first | exact Below.refl _ _ | assumption | (refine Below.alloc ?_ (by first | omega | (simp; done) | (simp; omega)) _) | (refine Below.drew ?_) | (refine Below.setCell ?_ (by first | omega | (simp; done) | (simp; omega)) _)))
    have hB0 := hB
    generalize (((w.alloc (.cells #[.int .i64 t, .int .i64 a] 33)).alloc (.cells #[.int .i64 k, .int .i64 n, .slice s ks.length c] 30)).alloc (.cells #[.int .i64 0, .int .i64 0, .slice none 0 0] 30)) = v0 at L M R hB hB0 ⊢
    have l0 := L.c0
    have l1 := L.c1
    have m0 := M.c0
    have m1 := M.c1
    have m2 := M.c2
    have r0 := R.c0
    have r1 := R.c1
    have r2 := R.c2
    have ltL := L.lt
    have ltM := M.lt
    have ltR := R.lt
    have zz0 := R.frozen 0
    have zz1 := R.frozen 1
    have zz2 := R.frozen 2
    go_wp2_with fail
    refine (l01Ok_i (M.exAt (hr.below hB)) Hsz.out).mono ?_
    rintro x w1 ⟨rfl, hb⟩
    clear l0 l1 m0 m1 m2 r0 r1 r2 ltL ltM ltR zz0 zz1 zz2
    replace hB := Below.on hB hb hB.size
    replace L := L.below hb
    replace M := M.below hb
    replace R := R.below hb
    clear hb
    have szW1 := hB.size
    have rlt1 := R.lt
    cases hs1 : okB t a (.mk k n ks)
    · have l0 := L.c0
      have l1 := L.c1
      have ltL := L.lt
      have m0 := M.c0
      have m1 := M.c1
      have m2 := M.c2
      have ltM := M.lt
      have r0 := R.c0
      have zz0 := R.frozen 0
      have r1 := R.c1
      have zz1 := R.frozen 1
      have r2 := R.c2
      have zz2 := R.frozen 2
      have ltR := R.lt
      go_wp2_with fail
      have R' := (((R.set 0 (.int .i64 0)).set 1 (.int .i64 0)).set 2 (.slice none 0 0))
      have c0 := R'.c0
      have c1 := R'.c1
      have c2 := R'.c2
      refine bodyPost_ret (v := .tuple #[.agg #[.int .i64 0, .int .i64 0, .slice none 0 0], .int .i64 1]) (by simp [results, Tryz.results15, go_sem, c0, c1, c2]) rfl ?_
      have e1 : derE t a m x (.mk k n ks) = .mk 0 0 [] := by simp [derE, hs1]
      have e2 : derC t a m x (.mk k n ks) = 1 := by simp [derC, hs1]
      rw [e1, e2]
      exact ⟨none, 0, rfl, fresh_nil1 _ _, by (repeat' (first | exact Below.refl _ _ | assumption | (refine Below.alloc ?_ (by first | omega | (simp; done) | (simp; omega)) _) | (refine Below.drew ?_) | (refine Below.setCell ?_ (by first | omega | (simp; done) | (simp; omega)) _)))⟩
    have Hs1 := Lib.hid hs1
    clear hs1
    have l0 := L.c0
    have l1 := L.c1
    have m0 := M.c0
    have m1 := M.c1
    have m2 := M.c2
    have r0 := R.c0
    have r1 := R.c1
    have r2 := R.c2
    have ltL := L.lt
    have ltM := M.lt
    have ltR := R.lt
    have zz0 := R.frozen 0
    have zz1 := R.frozen 1
    have zz2 := R.frozen 2
    go_wp2_with fail
    refine (l02Atom_i (okB_sig Hs1.out)).mono ?_
    rintro x w2 ⟨rfl, hb⟩
    clear l0 l1 m0 m1 m2 r0 r1 r2 ltL ltM ltR zz0 zz1 zz2
    replace hB := Below.on hB hb hB.size
    replace L := L.below hb
    replace M := M.below hb
    replace R := R.below hb
    clear hb
    have szW2 := hB.size
    have rlt2 := R.lt
    cases hs2 : atomB t m
    · have l0 := L.c0
      have l1 := L.c1
      have ltL := L.lt
      have m0 := M.c0
      have m1 := M.c1
      have m2 := M.c2
      have ltM := M.lt
      have r0 := R.c0
      have zz0 := R.frozen 0
      have r1 := R.c1
      have zz1 := R.frozen 1
      have r2 := R.c2
      have zz2 := R.frozen 2
      have ltR := R.lt
      go_wp2_with fail
      have R' := (((R.set 0 (.int .i64 0)).set 1 (.int .i64 0)).set 2 (.slice none 0 0))
      have c0 := R'.c0
      have c1 := R'.c1
      have c2 := R'.c2
      refine bodyPost_ret (v := .tuple #[.agg #[.int .i64 0, .int .i64 0, .slice none 0 0], .int .i64 2]) (by simp [results, Tryz.results15, go_sem, c0, c1, c2]) rfl ?_
      have e1 : derE t a m x (.mk k n ks) = .mk 0 0 [] := by simp [derE, Hs1.out, hs2]
      have e2 : derC t a m x (.mk k n ks) = 2 := by simp [derC, Hs1.out, hs2]
      rw [e1, e2]
      exact ⟨none, 0, rfl, fresh_nil1 _ _, by (repeat' (first | exact Below.refl _ _ | assumption | (refine Below.alloc ?_ (by first | omega | (simp; done) | (simp; omega)) _) | (refine Below.drew ?_) | (refine Below.setCell ?_ (by first | omega | (simp; done) | (simp; omega)) _)))⟩
    have Hs2 := Lib.hid hs2
    clear hs2
    have l0 := L.c0
    have l1 := L.c1
    have m0 := M.c0
    have m1 := M.c1
    have m2 := M.c2
    have r0 := R.c0
    have r1 := R.c1
    have r2 := R.c2
    have ltL := L.lt
    have ltM := M.lt
    have ltR := R.lt
    have zz0 := R.frozen 0
    have zz1 := R.frozen 1
    have zz2 := R.frozen 2
    go_wp2_with fail
    refine (l02Act_i (sigB_bd (okB_sig Hs1.out)).2.2).mono ?_
    rintro x w3 ⟨rfl, hb⟩
    clear l0 l1 m0 m1 m2 r0 r1 r2 ltL ltM ltR zz0 zz1 zz2
    replace hB := Below.on hB hb hB.size
    replace L := L.below hb
    replace M := M.below hb
    replace R := R.below hb
    clear hb
    have szW3 := hB.size
    have rlt3 := R.lt
    cases hs3 : inB x 0 (a - 1)
    · have l0 := L.c0
      have l1 := L.c1
      have ltL := L.lt
      have m0 := M.c0
      have m1 := M.c1
      have m2 := M.c2
      have ltM := M.lt
      have r0 := R.c0
      have zz0 := R.frozen 0
      have r1 := R.c1
      have zz1 := R.frozen 1
      have r2 := R.c2
      have zz2 := R.frozen 2
      have ltR := R.lt
      go_wp2_with fail
      have R' := (((R.set 0 (.int .i64 0)).set 1 (.int .i64 0)).set 2 (.slice none 0 0))
      have c0 := R'.c0
      have c1 := R'.c1
      have c2 := R'.c2
      refine bodyPost_ret (v := .tuple #[.agg #[.int .i64 0, .int .i64 0, .slice none 0 0], .int .i64 2]) (by simp [results, Tryz.results15, go_sem, c0, c1, c2]) rfl ?_
      have e1 : derE t a m x (.mk k n ks) = .mk 0 0 [] := by simp [derE, Hs1.out, Hs2.out, hs3]
      have e2 : derC t a m x (.mk k n ks) = 2 := by simp [derC, Hs1.out, Hs2.out, hs3]
      rw [e1, e2]
      exact ⟨none, 0, rfl, fresh_nil1 _ _, by (repeat' (first | exact Below.refl _ _ | assumption | (refine Below.alloc ?_ (by first | omega | (simp; done) | (simp; omega)) _) | (refine Below.drew ?_) | (refine Below.setCell ?_ (by first | omega | (simp; done) | (simp; omega)) _)))⟩
    have Hs3 := Lib.hid hs3
    clear hs3
    have l0 := L.c0
    have l1 := L.c1
    have m0 := M.c0
    have m1 := M.c1
    have m2 := M.c2
    have r0 := R.c0
    have r1 := R.c1
    have r2 := R.c2
    have ltL := L.lt
    have ltM := M.lt
    have ltR := R.lt
    have zz0 := R.frozen 0
    have zz1 := R.frozen 1
    have zz2 := R.frozen 2
    go_wp2_with fail
    have A0 := (okB_bd3 Hs1.out).1
    have A1 := (okB_bd3 Hs1.out).2.1
    have A2 := (atomB_bd (okB_sig Hs1.out) Hs2.out).2.1
    have A3 := (atomB_bd (okB_sig Hs1.out) Hs2.out).2.2
    have A4 := (okB_bd3 Hs1.out).2.2.2
    have A5 := (okB_bd3 Hs1.out).2.2.1
    have HA4 := Lib.hid A4
    clear A4
    refine (step_none' A0 A1 A2 A3 (M.exAt (hr.below hB)) HA4.out (by omega) Ho).mono ?_
    rintro x w4 ⟨y4, s4, c4, rfl, hb⟩
    clear l0 l1 m0 m1 m2 r0 r1 r2 ltL ltM ltR zz0 zz1 zz2
    replace hB := Below.on hB hb hB.size
    replace L := L.below hb
    replace M := M.below hb
    replace R := R.below hb
    clear hb
    have szW4 := hB.size
    have rlt4 := R.lt
    have l0 := L.c0
    have l1 := L.c1
    have m0 := M.c0
    have m1 := M.c1
    have m2 := M.c2
    have r0 := R.c0
    have r1 := R.c1
    have r2 := R.c2
    have ltL := L.lt
    have ltM := M.lt
    have ltR := R.lt
    have zz0 := R.frozen 0
    have zz1 := R.frozen 1
    have zz2 := R.frozen 2
    go_wp2_with fail
    have r0 := R.c0
    have r1 := R.c1
    have r2 := R.c2
    have z0 := R.frozen 0
    have z1 := R.frozen 1
    have z2 := R.frozen 2
    have ltR := R.lt
    go_wp2_with fail
    have T2 := (((R.set 0 (.int .i64 0)).set 1 (.int .i64 0)).set 2 (.slice none 0 0)).alloc (.cells #[.int .i64 y4.kind, .int .i64 y4.num, .slice s4 y4.kids.length c4] 30)
    have hs5 : Spares (fun y => y = w.heap.size + 1 + 1) w4 ((((w4.setCell ⟨w.heap.size + 1 + 1, 0, none⟩ (.int .i64 0)).setCell ⟨w.heap.size + 1 + 1, 1, none⟩ (.int .i64 0)).setCell ⟨w.heap.size + 1 + 1, 2, none⟩ (.slice none 0 0)).alloc (.cells #[.int .i64 y4.kind, .int .i64 y4.num, .slice s4 y4.kids.length c4] 30)) := (Spares.set (Spares.set (Spares.set (Spares.refl w4)))).trans (Spares.of_below (Below.alloc (Below.refl _ _) (Nat.le_refl _) _))
    generalize (((w4.setCell ⟨w.heap.size + 1 + 1, 0, none⟩ (.int .i64 0)).setCell ⟨w.heap.size + 1 + 1, 1, none⟩ (.int .i64 0)).setCell ⟨w.heap.size + 1 + 1, 2, none⟩ (.slice none 0 0)).alloc (.cells #[.int .i64 y4.kind, .int .i64 y4.num, .slice s4 y4.kids.length c4] 30) = w5 at T2 hs5 ⊢
    have t0 := T2.c0
    have t1 := T2.c1
    have t2 := T2.c2
    have hzB5 := hB.size
    have hB5 := hB.trans (hs5.below (B := w.heap.size) (by omega) (fun y hy => by omega))
    refine bodyPost_ret (v := .tuple #[.agg #[.int .i64 0, .int .i64 0, .slice none 0 0], .int .i64 3]) (by simp [results, Tryz.results15, go_sem, t0, t1, t2]) rfl ?_
    have e1 : derE t a m x (.mk k n ks) = .mk 0 0 [] := by simp [derE, Ho.out, optE]
    have e2 : derC t a m x (.mk k n ks) = 3 := by simp [derC, Ho.out, Hs1.out, Hs2.out, Hs3.out]
    rw [e1, e2]
    exact ⟨none, 0, rfl, fresh_nil1 _ _, hB5⟩
  | some d =>
    have Ho := Lib.hid ho
    clear ho
    go_enter Tryz.func15, Tryz.ntmps15
    go_wp2_with fail
    have L := ((Blk.new2 w 33 (.int .i64 t) (.int .i64 a)).alloc (.cells #[.int .i64 k, .int .i64 n, .slice s ks.length c] 30)).alloc (.cells #[.int .i64 0, .int .i64 0, .slice none 0 0] 30)
    have M := (Blk.new3 (w.alloc (.cells #[.int .i64 t, .int .i64 a] 33)) 30 (.int .i64 k) (.int .i64 n) (.slice s ks.length c)).alloc (.cells #[.int .i64 0, .int .i64 0, .slice none 0 0] 30)
    simp at M
    have R := Blk.new3 ((w.alloc (.cells #[.int .i64 t, .int .i64 a] 33)).alloc (.cells #[.int .i64 k, .int .i64 n, .slice s ks.length c] 30)) 30 (.int .i64 0) (.int .i64 0) (.slice none 0 0)
    simp at R
    have hB : Below w.heap.size w (((w.alloc (.cells #[.int .i64 t, .int .i64 a] 33)).alloc (.cells #[.int .i64 k, .int .i64 n, .slice s ks.length c] 30)).alloc (.cells #[.int .i64 0, .int .i64 0, .slice none 0 0] 30)) := by (repeat' (first | exact Below.refl _ _ | assumption | (refine Below.alloc ?_ (by first | omega | (simp; done) | (simp; omega)) _) | (refine Below.drew ?_) | (refine Below.setCell ?_ (by first | omega | (simp; done) | (simp; omega)) _)))
    have hB0 := hB
    generalize (((w.alloc (.cells #[.int .i64 t, .int .i64 a] 33)).alloc (.cells #[.int .i64 k, .int .i64 n, .slice s ks.length c] 30)).alloc (.cells #[.int .i64 0, .int .i64 0, .slice none 0 0] 30)) = v0 at L M R hB hB0 ⊢
    have l0 := L.c0
    have l1 := L.c1
    have m0 := M.c0
    have m1 := M.c1
    have m2 := M.c2
    have r0 := R.c0
    have r1 := R.c1
    have r2 := R.c2
    have ltL := L.lt
    have ltM := M.lt
    have ltR := R.lt
    have zz0 := R.frozen 0
    have zz1 := R.frozen 1
    have zz2 := R.frozen 2
    go_wp2_with fail
    refine (l01Ok_i (M.exAt (hr.below hB)) Hsz.out).mono ?_
    rintro x w1 ⟨rfl, hb⟩
    clear l0 l1 m0 m1 m2 r0 r1 r2 ltL ltM ltR zz0 zz1 zz2
    replace hB := Below.on hB hb hB.size
    replace L := L.below hb
    replace M := M.below hb
    replace R := R.below hb
    clear hb
    have szW1 := hB.size
    have rlt1 := R.lt
    cases hs1 : okB t a (.mk k n ks)
    · have l0 := L.c0
      have l1 := L.c1
      have ltL := L.lt
      have m0 := M.c0
      have m1 := M.c1
      have m2 := M.c2
      have ltM := M.lt
      have r0 := R.c0
      have zz0 := R.frozen 0
      have r1 := R.c1
      have zz1 := R.frozen 1
      have r2 := R.c2
      have zz2 := R.frozen 2
      have ltR := R.lt
      go_wp2_with fail
      have R' := (((R.set 0 (.int .i64 0)).set 1 (.int .i64 0)).set 2 (.slice none 0 0))
      have c0 := R'.c0
      have c1 := R'.c1
      have c2 := R'.c2
      refine bodyPost_ret (v := .tuple #[.agg #[.int .i64 0, .int .i64 0, .slice none 0 0], .int .i64 1]) (by simp [results, Tryz.results15, go_sem, c0, c1, c2]) rfl ?_
      have e1 : derE t a m x (.mk k n ks) = .mk 0 0 [] := by simp [derE, hs1]
      have e2 : derC t a m x (.mk k n ks) = 1 := by simp [derC, hs1]
      rw [e1, e2]
      exact ⟨none, 0, rfl, fresh_nil1 _ _, by (repeat' (first | exact Below.refl _ _ | assumption | (refine Below.alloc ?_ (by first | omega | (simp; done) | (simp; omega)) _) | (refine Below.drew ?_) | (refine Below.setCell ?_ (by first | omega | (simp; done) | (simp; omega)) _)))⟩
    have Hs1 := Lib.hid hs1
    clear hs1
    have l0 := L.c0
    have l1 := L.c1
    have m0 := M.c0
    have m1 := M.c1
    have m2 := M.c2
    have r0 := R.c0
    have r1 := R.c1
    have r2 := R.c2
    have ltL := L.lt
    have ltM := M.lt
    have ltR := R.lt
    have zz0 := R.frozen 0
    have zz1 := R.frozen 1
    have zz2 := R.frozen 2
    go_wp2_with fail
    refine (l02Atom_i (okB_sig Hs1.out)).mono ?_
    rintro x w2 ⟨rfl, hb⟩
    clear l0 l1 m0 m1 m2 r0 r1 r2 ltL ltM ltR zz0 zz1 zz2
    replace hB := Below.on hB hb hB.size
    replace L := L.below hb
    replace M := M.below hb
    replace R := R.below hb
    clear hb
    have szW2 := hB.size
    have rlt2 := R.lt
    cases hs2 : atomB t m
    · have l0 := L.c0
      have l1 := L.c1
      have ltL := L.lt
      have m0 := M.c0
      have m1 := M.c1
      have m2 := M.c2
      have ltM := M.lt
      have r0 := R.c0
      have zz0 := R.frozen 0
      have r1 := R.c1
      have zz1 := R.frozen 1
      have r2 := R.c2
      have zz2 := R.frozen 2
      have ltR := R.lt
      go_wp2_with fail
      have R' := (((R.set 0 (.int .i64 0)).set 1 (.int .i64 0)).set 2 (.slice none 0 0))
      have c0 := R'.c0
      have c1 := R'.c1
      have c2 := R'.c2
      refine bodyPost_ret (v := .tuple #[.agg #[.int .i64 0, .int .i64 0, .slice none 0 0], .int .i64 2]) (by simp [results, Tryz.results15, go_sem, c0, c1, c2]) rfl ?_
      have e1 : derE t a m x (.mk k n ks) = .mk 0 0 [] := by simp [derE, Hs1.out, hs2]
      have e2 : derC t a m x (.mk k n ks) = 2 := by simp [derC, Hs1.out, hs2]
      rw [e1, e2]
      exact ⟨none, 0, rfl, fresh_nil1 _ _, by (repeat' (first | exact Below.refl _ _ | assumption | (refine Below.alloc ?_ (by first | omega | (simp; done) | (simp; omega)) _) | (refine Below.drew ?_) | (refine Below.setCell ?_ (by first | omega | (simp; done) | (simp; omega)) _)))⟩
    have Hs2 := Lib.hid hs2
    clear hs2
    have l0 := L.c0
    have l1 := L.c1
    have m0 := M.c0
    have m1 := M.c1
    have m2 := M.c2
    have r0 := R.c0
    have r1 := R.c1
    have r2 := R.c2
    have ltL := L.lt
    have ltM := M.lt
    have ltR := R.lt
    have zz0 := R.frozen 0
    have zz1 := R.frozen 1
    have zz2 := R.frozen 2
    go_wp2_with fail
    refine (l02Act_i (sigB_bd (okB_sig Hs1.out)).2.2).mono ?_
    rintro x w3 ⟨rfl, hb⟩
    clear l0 l1 m0 m1 m2 r0 r1 r2 ltL ltM ltR zz0 zz1 zz2
    replace hB := Below.on hB hb hB.size
    replace L := L.below hb
    replace M := M.below hb
    replace R := R.below hb
    clear hb
    have szW3 := hB.size
    have rlt3 := R.lt
    cases hs3 : inB x 0 (a - 1)
    · have l0 := L.c0
      have l1 := L.c1
      have ltL := L.lt
      have m0 := M.c0
      have m1 := M.c1
      have m2 := M.c2
      have ltM := M.lt
      have r0 := R.c0
      have zz0 := R.frozen 0
      have r1 := R.c1
      have zz1 := R.frozen 1
      have r2 := R.c2
      have zz2 := R.frozen 2
      have ltR := R.lt
      go_wp2_with fail
      have R' := (((R.set 0 (.int .i64 0)).set 1 (.int .i64 0)).set 2 (.slice none 0 0))
      have c0 := R'.c0
      have c1 := R'.c1
      have c2 := R'.c2
      refine bodyPost_ret (v := .tuple #[.agg #[.int .i64 0, .int .i64 0, .slice none 0 0], .int .i64 2]) (by simp [results, Tryz.results15, go_sem, c0, c1, c2]) rfl ?_
      have e1 : derE t a m x (.mk k n ks) = .mk 0 0 [] := by simp [derE, Hs1.out, Hs2.out, hs3]
      have e2 : derC t a m x (.mk k n ks) = 2 := by simp [derC, Hs1.out, Hs2.out, hs3]
      rw [e1, e2]
      exact ⟨none, 0, rfl, fresh_nil1 _ _, by (repeat' (first | exact Below.refl _ _ | assumption | (refine Below.alloc ?_ (by first | omega | (simp; done) | (simp; omega)) _) | (refine Below.drew ?_) | (refine Below.setCell ?_ (by first | omega | (simp; done) | (simp; omega)) _)))⟩
    have Hs3 := Lib.hid hs3
    clear hs3
    have l0 := L.c0
    have l1 := L.c1
    have m0 := M.c0
    have m1 := M.c1
    have m2 := M.c2
    have r0 := R.c0
    have r1 := R.c1
    have r2 := R.c2
    have ltL := L.lt
    have ltM := M.lt
    have ltR := R.lt
    have zz0 := R.frozen 0
    have zz1 := R.frozen 1
    have zz2 := R.frozen 2
    go_wp2_with fail
    have A0 := (okB_bd3 Hs1.out).1
    have A1 := (okB_bd3 Hs1.out).2.1
    have A2 := (atomB_bd (okB_sig Hs1.out) Hs2.out).2.1
    have A3 := (atomB_bd (okB_sig Hs1.out) Hs2.out).2.2
    have A4 := (okB_bd3 Hs1.out).2.2.2
    have A5 := (okB_bd3 Hs1.out).2.2.1
    have HA4 := Lib.hid A4
    clear A4
    refine (step_some' A0 A1 A2 A3 (M.exAt (hr.below hB)) HA4.out (by omega) Ho).mono ?_
    rintro x w4 ⟨s4, c4, rfl, hf4, hb⟩
    clear l0 l1 m0 m1 m2 r0 r1 r2 ltL ltM ltR zz0 zz1 zz2
    replace hB := Below.on hB hb hB.size
    replace L := L.below hb
    replace M := M.below hb
    replace R := R.below hb
    clear hb
    have szW4 := hB.size
    have rlt4 := R.lt
    have l0 := L.c0
    have l1 := L.c1
    have m0 := M.c0
    have m1 := M.c1
    have m2 := M.c2
    have r0 := R.c0
    have r1 := R.c1
    have r2 := R.c2
    have ltL := L.lt
    have ltM := M.lt
    have ltR := R.lt
    have zz0 := R.frozen 0
    have zz1 := R.frozen 1
    have zz2 := R.frozen 2
    go_wp2_with fail
    have r0 := R.c0
    have r1 := R.c1
    have r2 := R.c2
    have z0 := R.frozen 0
    have z1 := R.frozen 1
    have z2 := R.frozen 2
    have ltR := R.lt
    go_wp2_with fail
    have T2 := (((R.set 0 (.int .i64 d.kind)).set 1 (.int .i64 d.num)).set 2 (.slice s4 d.kids.length c4)).alloc (.cells #[.int .i64 d.kind, .int .i64 d.num, .slice s4 d.kids.length c4] 30)
    have hs5 : Spares (fun y => y = w.heap.size + 1 + 1) w4 ((((w4.setCell ⟨w.heap.size + 1 + 1, 0, none⟩ (.int .i64 d.kind)).setCell ⟨w.heap.size + 1 + 1, 1, none⟩ (.int .i64 d.num)).setCell ⟨w.heap.size + 1 + 1, 2, none⟩ (.slice s4 d.kids.length c4)).alloc (.cells #[.int .i64 d.kind, .int .i64 d.num, .slice s4 d.kids.length c4] 30)) := (Spares.set (Spares.set (Spares.set (Spares.refl w4)))).trans (Spares.of_below (Below.alloc (Below.refl _ _) (Nat.le_refl _) _))
    generalize (((w4.setCell ⟨w.heap.size + 1 + 1, 0, none⟩ (.int .i64 d.kind)).setCell ⟨w.heap.size + 1 + 1, 1, none⟩ (.int .i64 d.num)).setCell ⟨w.heap.size + 1 + 1, 2, none⟩ (.slice s4 d.kids.length c4)).alloc (.cells #[.int .i64 d.kind, .int .i64 d.num, .slice s4 d.kids.length c4] 30) = w5 at T2 hs5 ⊢
    have t0 := T2.c0
    have t1 := T2.c1
    have t2 := T2.c2
    have hzB5 := hB.size
    have hB5 := hB.trans (hs5.below (B := w.heap.size) (by omega) (fun y hy => by omega))
    refine bodyPost_ret (v := .tuple #[.agg #[.int .i64 d.kind, .int .i64 d.num, .slice s4 d.kids.length c4], .int .i64 0]) (by simp [results, Tryz.results15, go_sem, t0, t1, t2]) rfl ?_
    have e1 : derE t a m x (.mk k n ks) = d := by simp [derE, Ho.out, Hs1.out, Hs2.out, Hs3.out, optE]
    have e2 : derC t a m x (.mk k n ks) = 0 := by simp [derC, Ho.out, Hs1.out, Hs2.out, Hs3.out]
    rw [e1, e2]
    exact ⟨_, _, rfl, Freshs.from (Freshs.keep hf4 (fun y _ hy2 => hs5.block y hy2 (by omega))) szW3, hB5⟩
end Go.Proofs.YtjlmdhoajfdkbaaGreatDoor

namespace Go.Proofs.YtjlmdhoajfdkbaaGreatDoor
set_option linter.unusedVariables false
set_option linter.unusedSimpArgs false
open Go.ChangeShapes Go.WideShapes Go.ChangeAt Go.RowKit Go.Sort
theorem marksL_cells : ∀ ks : List Ex, D.marksL (Ex.cellsL ks) = 2 * Ex.sizeL ks
  | [] => by simp [Ex.cellsL, D.marksL, Ex.sizeL]
  | .mk k n us :: r => by
    have h1 := marksL_cells us
    have h2 := marksL_cells r
    simp only [Ex.cellsL, Ex.cells, List.cons_append, List.nil_append, D.marksL, D.marks, Ex.sizeL, Ex.size, h1, h2]
    omega
theorem cellsL_take : ∀ (ks : List Ex) (j : Nat), (Ex.cellsL ks).take (j * 3) = Ex.cellsL (ks.take j)
  | [], j => by simp [Ex.cellsL]
  | e :: r, 0 => by simp [Ex.cellsL]
  | e :: r, j + 1 => by
    simp only [List.take_succ_cons, Ex.cellsL]
    rw [← cellsL_take r j, List.take_append, Ex.cells_length, List.take_of_length_le (by rw [Ex.cells_length]; omega)]
    congr 2
    omega
set_option maxHeartbeats 2000000 in
theorem markExprS_all (N : Nat) : ∀ (ks : List Ex) (s : Option Addr) (c k : Nat) (F : List Nat) (w : World), Ex.sizeL ks ≤ N → Ow w (kidsD ks) (.slice s ks.length c) F → F.Nodup → k + 2 * Ex.sizeL ks ≤ 1000000000000 →
    Calls Tryz.prog 25 #[.slice s ks.length c, .int .i64 k] w fun e w' => e = .returned (.int .i64 (k + 2 * Ex.sizeL ks : Nat)) ∧ Ow w' (D.mark (kidsD ks) k) (.slice s ks.length c) F ∧ Only F w w' := by
  induction N using Nat.strongRecOn with
  | _ N ih =>
  intro ks s c k F w hN h hn hk
  have hkl := Ex.length_le_sizeL ks
  have H0 : Ow w (.sl 3 ks.length (mkd (Ex.cellsL ks) (0 * 3) k)) (.slice s ks.length c) F := by rw [Nat.zero_mul, mkd_zero]; exact h
  go_enter Tryz.func25, Tryz.ntmps25
  go_wp2_with fail
  go_loopw [1, 5] (fun q i wr => ∃ j : Nat, j ≤ ks.length ∧ i = .int .i64 j ∧ q = .int .i64 (k + 2 * Ex.sizeL (ks.take j) : Nat) ∧ Ow wr (.sl 3 ks.length (mkd (Ex.cellsL ks) (j * 3) k)) (.slice s ks.length c) F ∧ Only F w wr) (fun _ i _ => ks.length - (intOf i).toNat)
  case atStart => exact ⟨0, by omega, rfl, by simp [Ex.sizeL], H0, Only.refl _ _⟩
  case round =>
    clear h H0
    obtain ⟨j, hj, rfl, rfl, h, hO⟩ := hrel
    by_cases hlt : j < ks.length
    · obtain ⟨x, hx⟩ : ∃ e, ks[j]? = some e := ⟨_, List.getElem?_eq_getElem hlt⟩
      obtain ⟨b, o, rfl⟩ := h.spot (by omega)
      have hxs := Ex.size_eq x
      have hxm := Ex.sizeL_mem (List.mem_of_getElem? hx)
      have htk := Ex.sizeL_take_succ hx
      have htl := Ex.sizeL_take_le ks (j + 1)
      have c0 := Ex.cellsL_at ks j x hx 0 (by omega)
      have c1 := Ex.cellsL_at ks j x hx 1 (by omega)
      have c2 := Ex.cellsL_at ks j x hx 2 (by omega)
      rw [Ex.cells_eq] at c0 c1 c2
      rw [show 3 * j + 0 = j * 3 by omega] at c0
      rw [show 3 * j + 1 = j * 3 + 1 by omega] at c1
      rw [show 3 * j + 2 = j * 3 + 2 by omega] at c2
      simp only [List.getElem?_cons_zero, List.getElem?_cons_succ] at c0 c1 c2
      obtain ⟨q, hq⟩ : ∃ q, k + 2 * Ex.sizeL (ks.take j) = q := ⟨_, rfl⟩
      have m0 : D.marksL ((Ex.cellsL ks).take (j * 3)) = 2 * Ex.sizeL (ks.take j) := by rw [cellsL_take, marksL_cells]
      have m1 : D.marksL ((Ex.cellsL ks).take (j * 3 + 1)) = 2 * Ex.sizeL (ks.take j) + 1 := by rw [marks_step c0, m0]; rfl
      have m2 : D.marksL ((Ex.cellsL ks).take (j * 3 + 2)) = 2 * Ex.sizeL (ks.take j) + 2 := by rw [marks_step c1, m1]; rfl
      obtain ⟨g0, z0, gl, s0⟩ := h.int_cell hn (mkd_at c0 (Nat.le_refl _) k)
      obtain ⟨p1, p2⟩ := s0 (q : Int)
      have e1 := mkd_step c0 k
      rw [m0, hq] at e1
      rw [show D.mark (D.int x.kind) q = D.int (q : Int) from by simp only [D.mark]] at e1
      rw [e1] at p1
      obtain ⟨g1, z1, -, s1⟩ := p1.int_cell hn (mkd_at c1 (Nat.le_refl _) k)
      obtain ⟨q1, q2⟩ := s1 ((q : Int) + 1)
      have e2 := mkd_step c1 k
      rw [m1, show k + (2 * Ex.sizeL (ks.take j) + 1) = q + 1 by omega] at e2
      rw [show D.mark (D.int x.num) (q + 1) = D.int ((q : Int) + 1) from by simp only [D.mark]; congr 1] at e2
      rw [e2] at q1
      obtain ⟨a', c', G, g2, z2, -, -, hGF, hGn, hG, s2⟩ := q1.sl_cell hn (mkd_at c2 (Nat.le_refl _) k)
      have e3 := mkd_step c2 k
      rw [m2, show k + (2 * Ex.sizeL (ks.take j) + 2) = q + 2 by omega] at e3
      rw [show j * 3 + 2 + 1 = (j + 1) * 3 by omega] at e3
      have He3 := Lib.hid e3
      have q12 := hO.trans (p2.trans q2)
      simp only [← Nat.add_assoc] at s2 q12
      have Hs2 := Lib.hid s2
      have Hq12 := Lib.hid q12
      have Hq : Hid (q + 2 + 2 * Ex.sizeL x.kids = k + 2 * Ex.sizeL (ks.take (j + 1))) := by show _ = _; omega
      have hqb : q + 2 + 2 * Ex.sizeL x.kids ≤ 1000000000000 := by omega
      have hxN : Ex.sizeL x.kids < N := by omega
      rw [← Nat.add_assoc] at g1 z1 g2 z2
      rw [hq]
      simp only [← Nat.add_assoc] at hG g2 z2
      clear q12 e1 e2 e3 m0 m1 m2 c0 c1 c2 hq p1 p2 q1 q2 s0 s1 s2 hxs hxm htk htl hO h hx
      go_wp2_with fail
      rw [show ((q : Int) + 1 + 1) = ((q + 2 : Nat) : Int) from by omega]
      refine (ih _ hxN x.kids a' c' (q + 2) G _ (Nat.le_refl _) hG hGn hqb).mono ?_
      rintro e w1 ⟨rfl, hm, hO2⟩
      obtain ⟨t1, t2⟩ := Hs2.out w1 _ hm hO2
      have t3 : Ow w1 (.sl 3 ks.length (mkd (Ex.cellsL ks) ((j + 1) * 3) k)) (.slice (some ⟨b, o, none⟩) ks.length c) F := by rw [← He3.out]; exact t1
      have Hfin := Lib.hid (And.intro t3 (Hq12.out.trans t2))
      clear t1 t2 t3 hm hO2 hG g2 z2 g0 z0 g1 z1
      rw [Hq.out]
      go_wp2_with fail
      go_roundw
      case rel => exact ⟨j + 1, by omega, by go_num, rfl, Hfin.out.1, Hfin.out.2⟩
      case measure => simp [intOf]; omega
    · obtain rfl : j = ks.length := by omega
      have e := mkd_all (Ex.cellsL ks) k
      rw [Ex.cellsL_length] at e
      rw [e] at h
      rw [List.take_length] at *
      go_wp2_with fail
      go_ret
      exact ⟨rfl, h, hO⟩
theorem markExpr_i {kd n : Int} {ks : List Ex} {s : Option Addr} {c k : Nat} {F : List Nat} {w : World} (h : Ow w (kidsD ks) (.slice s ks.length c) F) (hn : F.Nodup) (hk : k + 2 * Ex.sizeL ks ≤ 1000000000000) :
    Calls Tryz.prog 20 #[.agg #[.int .i64 kd, .int .i64 n, .slice s ks.length c], .int .i64 k] w fun e w' => e = .returned (.int .i64 (k + 2 * Ex.sizeL ks : Nat)) ∧ Ow w' (D.mark (kidsD ks) k) (.slice s ks.length c) F ∧ Only F w w' := by
  have hO : Only F w (w.alloc (.cells #[.int .i64 kd, .int .i64 n, .slice s ks.length c] 30)) := (Only.refl _ _).alloc _
  have h' := h.keep (w' := w.alloc (.cells #[.int .i64 kd, .int .i64 n, .slice s ks.length c] 30)) fun b hb => Below.heap_alloc w _ b (h.lt b hb)
  go_enter Tryz.func20, Tryz.ntmps20
  go_wp2_with fail
  refine (markExprS_all _ ks s c k F _ (Nat.le_refl _) h' hn hk).mono ?_
  rintro e w1 ⟨rfl, hm, hO2⟩
  go_wp2_with fail
  go_ret
  exact ⟨rfl, hm, hO.trans hO2⟩
set_option maxHeartbeats 2000000 in
theorem heldExprS_all (N : Nat) : ∀ (ks : List Ex) (s : Option Addr) (c k : Nat) (w : World), Ex.sizeL ks ≤ N → Rd w (D.mark (kidsD ks) k) (.slice s ks.length c) → k + 2 * Ex.sizeL ks ≤ 1000000000000 →
    Calls Tryz.prog 26 #[.slice s ks.length c, .int .i64 k] w fun e w' => e = .returned (.int .i64 (k + 2 * Ex.sizeL ks : Nat)) ∧ w = w' := by
  induction N using Nat.strongRecOn with
  | _ N ih =>
  intro ks s c k w hN h hk
  have hkl := Ex.length_le_sizeL ks
  have h' := h
  unfold kidsD D.mark at h'
  obtain ⟨-, hln, hcp, -, -, h4⟩ := h'.sl_at
  unfold maxLen at hcp
  clear h'
  go_enter Tryz.func26, Tryz.ntmps26
  go_wp2_with fail
  go_loop [1, 5] (fun q i => ∃ j : Nat, j ≤ ks.length ∧ i = .int .i64 j ∧ q = .int .i64 (k + 2 * Ex.sizeL (ks.take j) : Nat)) (fun _ i => ks.length - (intOf i).toNat)
  case atStart => exact ⟨0, by omega, rfl, by simp [Ex.sizeL]⟩
  case round =>
    obtain ⟨j, hj, rfl, rfl⟩ := hrel
    by_cases hlt : j < ks.length
    · obtain ⟨x, hx⟩ : ∃ e, ks[j]? = some e := ⟨_, List.getElem?_eq_getElem hlt⟩
      rcases h4 with h4 | ⟨b, o, rfl, h4⟩
      · omega
      have hxs := Ex.size_eq x
      have hxm := Ex.sizeL_mem (List.mem_of_getElem? hx)
      have htk := Ex.sizeL_take_succ hx
      have htl := Ex.sizeL_take_le ks (j + 1)
      have c0 := Ex.cellsL_at ks j x hx 0 (by omega)
      have c1 := Ex.cellsL_at ks j x hx 1 (by omega)
      have c2 := Ex.cellsL_at ks j x hx 2 (by omega)
      rw [Ex.cells_eq] at c0 c1 c2
      rw [show 3 * j + 0 = j * 3 by omega] at c0
      rw [show 3 * j + 1 = j * 3 + 1 by omega] at c1
      rw [show 3 * j + 2 = j * 3 + 2 by omega] at c2
      simp only [List.getElem?_cons_zero, List.getElem?_cons_succ] at c0 c1 c2
      obtain ⟨q, hq⟩ : ∃ q, k + 2 * Ex.sizeL (ks.take j) = q := ⟨_, rfl⟩
      have m0 : D.marksL ((Ex.cellsL ks).take (j * 3)) = 2 * Ex.sizeL (ks.take j) := by rw [cellsL_take, marksL_cells]
      have m1 : D.marksL ((Ex.cellsL ks).take (j * 3 + 1)) = 2 * Ex.sizeL (ks.take j) + 1 := by rw [marks_step c0, m0]; rfl
      have m2 : D.marksL ((Ex.cellsL ks).take (j * 3 + 2)) = 2 * Ex.sizeL (ks.take j) + 2 := by rw [marks_step c1, m1]; rfl
      have a0 := markL_at c0 k
      have a1 := markL_at c1 k
      have a2 := markL_at c2 k
      rw [m0, hq] at a0
      rw [m1, show k + (2 * Ex.sizeL (ks.take j) + 1) = q + 1 by omega] at a1
      rw [m2, show k + (2 * Ex.sizeL (ks.take j) + 2) = q + 2 by omega] at a2
      obtain ⟨x0, g0, r0⟩ := h4 _ _ a0
      obtain ⟨x1, g1, r1⟩ := h4 _ _ a1
      obtain ⟨x2, g2, r2⟩ := h4 _ _ a2
      simp only [D.mark, Rd] at r0 r1
      subst r0 r1
      obtain ⟨a', c', rfl, -⟩ : ∃ a' c', x2 = .slice a' x.kids.length c' ∧ True := by
        unfold kidsD D.mark at r2
        obtain ⟨a', c', e, _⟩ := r2.slice
        exact ⟨a', c', e, trivial⟩
      have Hq : Hid (q + 2 + 2 * Ex.sizeL x.kids = k + 2 * Ex.sizeL (ks.take (j + 1))) := by show _ = _; omega
      have hqb : q + 2 + 2 * Ex.sizeL x.kids ≤ 1000000000000 := by omega
      have hxN : Ex.sizeL x.kids < N := by omega
      rw [← Nat.add_assoc] at g1 g2
      rw [hq]
      rw [show ((q + 1 : Nat) : Int) = (q : Int) + 1 from by omega] at g1
      clear m0 m1 m2 c0 c1 c2 a0 a1 a2 hq hxs hxm htk htl h hx h4
      go_wp2_with fail
      rw [show ((q : Int) + 1 + 1) = ((q + 2 : Nat) : Int) from by omega]
      refine (ih _ hxN x.kids a' c' (q + 2) _ (Nat.le_refl _) r2 hqb).mono ?_
      rintro e w' ⟨rfl, rfl⟩
      rw [Hq.out]
      clear g0 g1 g2
      go_wp2_with fail
      go_round
      case rel => exact ⟨j + 1, by omega, by go_num, rfl⟩
      case measure => simp [intOf]; omega
    · obtain rfl : j = ks.length := by omega
      rw [List.take_length] at *
      go_wp2_with fail
      go_ret
      exact ⟨rfl, rfl⟩
theorem heldExpr_i {kd n : Int} {ks : List Ex} {s : Option Addr} {c k : Nat} {w : World} (h : Rd w (D.mark (kidsD ks) k) (.slice s ks.length c)) (hk : k + 2 * Ex.sizeL ks ≤ 1000000000000) :
    Calls Tryz.prog 21 #[.agg #[.int .i64 kd, .int .i64 n, .slice s ks.length c], .int .i64 k] w fun e w' => e = .returned (.int .i64 (k + 2 * Ex.sizeL ks : Nat)) ∧ Below w.heap.size w w' := by
  have h' := h.alloc (.cells #[.int .i64 kd, .int .i64 n, .slice s ks.length c] 30)
  go_enter Tryz.func21, Tryz.ntmps21
  go_wp2_with fail
  refine (heldExprS_all _ ks s c k _ (Nat.le_refl _) h' hk).mono ?_
  rintro e w' ⟨rfl, rfl⟩
  go_wp2_with fail
  go_ret
  exact ⟨rfl, by (repeat' (first | exact Below.refl _ _ | assumption | (refine Below.alloc ?_ (by first | omega | (simp; done) | (simp; omega)) _) | (refine Below.drew ?_) | (refine Below.setCell ?_ (by first | omega | (simp; done) | (simp; omega)) _)))⟩
theorem Ows.single {w : World} {d : D} {v : Value} {F : List Nat} (h : Ows w [d] [v] F) : Ow w d v F := by
  simp only [Ows] at h
  obtain ⟨x, r, G, K, e1, e2, h1, e3, rfl⟩ := h
  simp only [List.cons.injEq] at e1
  obtain ⟨rfl, -⟩ := e1
  rw [e2, List.append_nil]
  exact h1
theorem Ow.single {w : World} {d : D} {v : Value} {F : List Nat} (h : Ow w d v F) : Ows w [d] [v] F := by
  have := Ows.cons h Ows.nil
  simpa using this
theorem markExprL_i {kd n : Int} {ks : List Ex} {s : Option Addr} {c k : Nat} {F : List Nat} {w : World} (h : Ows w [kidsD ks] [.slice s ks.length c] F) (hn : F.Nodup) (hk : k + 2 * Ex.sizeL ks ≤ 1000000000000) :
    Calls Tryz.prog 20 #[.agg #[.int .i64 kd, .int .i64 n, .slice s ks.length c], .int .i64 k] w fun e w' => e = .returned (.int .i64 (k + 2 * Ex.sizeL ks : Nat)) ∧ Ows w' (D.markL [kidsD ks] k) [.slice s ks.length c] F ∧ Only F w w' :=
  (markExpr_i h.single hn hk).mono fun _ _ ⟨h1, h2, h3⟩ => ⟨h1, h2.single, h3⟩
theorem heldExprL_i {kd n : Int} {ks : List Ex} {s : Option Addr} {c k : Nat} {w : World} (h : Rds w (D.markL [kidsD ks] k) [.slice s ks.length c]) (hk : k + 2 * Ex.sizeL ks ≤ 1000000000000) :
    Calls Tryz.prog 21 #[.agg #[.int .i64 kd, .int .i64 n, .slice s ks.length c], .int .i64 k] w fun e w' => e = .returned (.int .i64 (k + 2 * Ex.sizeL ks : Nat)) ∧ Below w.heap.size w w' :=
  heldExpr_i (Rds.one h) hk
end Go.Proofs.YtjlmdhoajfdkbaaGreatDoor

namespace Go.Proofs.YtjlmdhoajfdkbaaGreatDoor
set_option linter.unusedVariables false
set_option linter.unusedSimpArgs false
open Go.ChangeShapes Go.WideShapes Go.ChangeAt Go.RowKit
def Szd (n : Nat) (left : Int) (e : Ending) : Prop := ∃ r : Int, e = .returned (.int .i64 r) ∧ r ≤ left ∧ -1 ≤ r ∧ (0 ≤ r → (n : Int) + r ≤ left)
def SzS (N : Nat) : Prop := ∀ (ks : List Ex) (s : Option Addr) (cap : Nat) (left : Int) (w : World), Ex.sizeL ks ≤ N → Rd w (kidsD ks) (.slice s ks.length cap) → 0 ≤ left → left ≤ 1048576 →
    Calls Tryz.prog 61 #[.slice s ks.length cap, .int .i64 left] w fun e w' => Szd (Ex.sizeL ks) left e ∧ Below w.heap.size w w'
theorem szExpr_of {N : Nat} (hS : SzS N) (k n : Int) (ks : List Ex) (s : Option Addr) (cap : Nat) (left : Int) (w : World) (hN : Ex.sizeL ks ≤ N) (hr : Rd w (kidsD ks) (.slice s ks.length cap)) (h0 : 0 ≤ left) (h1 : left ≤ 1048576) :
    Calls Tryz.prog 14 #[.agg #[.int .i64 k, .int .i64 n, .slice s ks.length cap], .int .i64 left] w fun e w' => Szd (Ex.sizeL ks) left e ∧ Below w.heap.size w w' := by
  go_enter Tryz.func14, Tryz.ntmps14
  go_wp2_with fail
  refine (hS ks s cap left _ hN (hr.alloc _) h0 h1).mono ?_
  rintro e w1 ⟨⟨r, rfl, r1, r2, r3⟩, hb⟩
  have hB : Below w.heap.size w w1 := Below.on (by (repeat' (first | exact Below.refl _ _ | assumption | (refine Below.alloc ?_ (by first | omega | (simp; done) | (simp; omega)) _) | (refine Below.drew ?_) | (refine Below.setCell ?_ (by first | omega | (simp; done) | (simp; omega)) _)))) hb (by simp)
  clear hb
  go_wp2
  · go_ret
    exact ⟨⟨-1, rfl, by omega, by omega, by omega⟩, hB⟩
  · go_ret
    exact ⟨⟨r, rfl, r1, r2, r3⟩, hB⟩
set_option maxHeartbeats 400000 in
theorem szExprS_all (N : Nat) : SzS N := by
  induction N using Nat.strongRecOn with
  | _ N ih =>
  intro ks s cap left w hN hr h0 h1
  obtain ⟨-, hlen, hcap, -, -⟩ := kid_at hr
  unfold maxLen at hcap
  have hsz := Ex.length_le_sizeL ks
  by_cases hneg : left - (ks.length : Int) < 0
  · go_enter Tryz.func61, Tryz.ntmps61
    go_wp2_with fail
    go_ret
    exact ⟨⟨-1, rfl, by omega, by omega, by omega⟩, Below.refl _ _⟩
  · have hd : decide (left - (ks.length : Int) < 0) = false := by simpa using hneg
    go_enter Tryz.func61, Tryz.ntmps61
    go_wp2_with fail
    go_loopw [1, 5] (fun l i wr => ∃ (k : Nat) (r : Int), k ≤ ks.length ∧ i = .int .i64 k ∧ l = .int .i64 r ∧ 0 ≤ r ∧ (ks.length : Int) + (Ex.sizeL (ks.take k) : Int) - k + r ≤ left ∧ r ≤ left ∧ Below w.heap.size w wr) (fun _ i _ => ks.length - (intOf i).toNat)
    case atStart => exact ⟨0, _, by omega, rfl, rfl, by omega, by simp [Ex.sizeL]; omega, by omega, Below.refl _ _⟩
    case round =>
      obtain ⟨k, r, hk, rfl, rfl, hr0, hr1, hr2, hB⟩ := hrel
      by_cases hlt : k < ks.length
      · obtain ⟨e, he⟩ : ∃ e, ks[k]? = some e := ⟨_, List.getElem?_eq_getElem hlt⟩
        obtain ⟨b, o, rfl⟩ := kid_some hr (by intro h; simp [h] at hlt)
        obtain ⟨hbl, s', c', g0, g1, g2, gr⟩ := kid_in (hr.below hB) he
        have hse := Ex.size_eq e
        have hmem := Ex.sizeL_mem (List.mem_of_getElem? he)
        have htk := Ex.sizeL_take_succ he
        have Htk := Lib.hid htk
        have Hse := Lib.hid hse
        have hlt' : Ex.sizeL e.kids < N := by omega
        clear htk hse
        go_wp2_with fail
        refine (szExpr_of (ih _ hlt') _ _ _ _ _ _ _ (Nat.le_refl _) gr hr0 (by omega)).mono ?_
        rintro e1 w1 ⟨⟨r', rfl, r1, r2, r3⟩, hb⟩
        have hB1 : Below w.heap.size w w1 := Below.on hB hb hB.size
        by_cases hr' : r' < 0
        · go_wp2_with fail
          go_ret
          exact ⟨⟨-1, rfl, by omega, by omega, by omega⟩, hB1⟩
        · have hd' : decide (r' < 0) = false := by simpa using hr'
          go_wp2_with fail
          go_roundw
          case rel =>
            have := Htk.out
            have := Hse.out
            exact ⟨k + 1, r', by omega, by go_num, rfl, by omega, by omega, by omega, hB1⟩
          case measure => simp [intOf]; omega
      · obtain rfl : k = ks.length := by omega
        have hfull : Ex.sizeL (ks.take ks.length) = Ex.sizeL ks := by rw [List.take_length]
        have H := Lib.hid hfull
        clear hfull
        go_wp2_with fail
        go_ret
        have := H.out
        exact ⟨⟨r, rfl, by omega, by omega, by omega⟩, hB⟩
theorem szExpr_i {k n : Int} {ks : List Ex} {s : Option Addr} {cap : Nat} {left : Int} {w : World} (hr : Rd w (kidsD ks) (.slice s ks.length cap)) (h0 : 0 ≤ left) (h1 : left ≤ 1048576) :
    Calls Tryz.prog 14 #[.agg #[.int .i64 k, .int .i64 n, .slice s ks.length cap], .int .i64 left] w fun e w' => Szd (Ex.sizeL ks) left e ∧ Below w.heap.size w w' :=
  szExpr_of (szExprS_all _) k n ks s cap left w (Nat.le_refl _) hr h0 h1
end Go.Proofs.YtjlmdhoajfdkbaaGreatDoor

namespace Go.Proofs.YtjlmdhoajfdkbaaGreatDoor
set_option linter.unusedVariables false
set_option linter.unusedSimpArgs false
open Go.ChangeShapes Go.WideShapes Go.ChangeAt Go.RowKit
theorem info_implExpr : (Tryz.prog.info? 30).map (fun i => (i.zero, i.size, i.bytes)) = some (some (.agg #[.int .i64 0, .int .i64 0, .slice none 0 0]), 3, 40) := by kernel_rfl
def ToS (N : Nat) : Prop := ∀ (ks : List Ex) (s : Option Addr) (cap : Nat) (w : World), Ex.sizeL ks ≤ N → Rd w (kidsD ks) (.slice s ks.length cap) → Ex.sizeL ks ≤ 1048576 →
    Calls Tryz.prog 66 #[.slice s ks.length cap] w fun e w' => ∃ s' c', e = .returned (.slice s' ks.length c') ∧ Fresh w w' (kidsD ks) (.slice s' ks.length c') ∧ Below w.heap.size w w'
theorem toExpr_of {N : Nat} (hS : ToS N) (k n : Int) (ks : List Ex) (s : Option Addr) (cap : Nat) (w : World) (hN : Ex.sizeL ks ≤ N) (hr : Rd w (kidsD ks) (.slice s ks.length cap)) (h1 : Ex.sizeL ks ≤ 1048576) :
    Calls Tryz.prog 17 #[.agg #[.int .i64 k, .int .i64 n, .slice s ks.length cap]] w fun e w' => ∃ s' c', e = .returned (.agg #[.int .i64 k, .int .i64 n, .slice s' ks.length c']) ∧ Fresh w w' (kidsD ks) (.slice s' ks.length c') ∧ Below w.heap.size w w' := by
  go_enter Tryz.func17, Tryz.ntmps17
  go_wp2_with fail
  refine (hS ks s cap _ hN (by repeat (first | exact hr | apply Rd.alloc)) h1).mono ?_
  rintro e w1 ⟨s', c', rfl, hfr, hb⟩
  obtain ⟨hc, hf, hz⟩ := bcell hb
  simp at hz
  have q0 : w.heap.size < w1.heap.size := by omega
  have q1 : w.heap.size + 1 < w1.heap.size := by omega
  have q2 : w.heap.size + 1 + 1 < w1.heap.size := by omega
  have hB : Below w.heap.size w w1 := Below.on (by (repeat' (first | exact Below.refl _ _ | assumption | (refine Below.alloc ?_ (by first | omega | (simp; done) | (simp; omega)) _) | (refine Below.drew ?_) | (refine Below.setCell ?_ (by first | omega | (simp; done) | (simp; omega)) _)))) hb (by simp; omega)
  clear hb
  go_wp2
  refine bodyPost_ret (v := .agg #[.int .i64 k, .int .i64 n, .slice s' ks.length c']) (by simp [results, Tryz.results17, go_sem, hc]) rfl ⟨s', c', rfl, ?_, by (repeat' (first | exact Below.refl _ _ | assumption | (refine Below.alloc ?_ (by first | omega | (simp; done) | (simp; omega)) _) | (refine Below.drew ?_) | (refine Below.setCell ?_ (by first | omega | (simp; done) | (simp; omega)) _)))⟩
  refine Fresh.from (hfr.keep fun b h1 _ => ?_) (by simp; omega)
  simp at h1
  rw [Below.heap_setCell _ _ _ _ (by simp; omega), Below.heap_setCell _ _ _ _ (by simp; omega), Below.heap_setCell _ _ _ _ (by simp; omega), Below.heap_setCell _ _ _ _ (by simp; omega)]
theorem toExprS_all (N : Nat) : ToS N := by
  induction N using Nat.strongRecOn with
  | _ N ih =>
  intro ks s cap w hN hr h1
  obtain ⟨-, hlen, hcap, -, -⟩ := kid_at hr
  unfold maxLen at hcap
  have hsz := Ex.length_le_sizeL ks
  obtain ⟨i0, hi, hz0, hz1, hz2⟩ := info_parts info_implExpr
  go_enter Tryz.func66, Tryz.ntmps66
  go_wp2_with (at_make; refine wpList_make_full _ rfl _ _ 28 rfl w.heap.size 30 i0 (.agg #[.int .i64 0, .int .i64 0, .slice none 0 0]) 3 Tryz.underlying28 hi hz0 hz1 .i64 .i64 _ _ ks.length rfl rfl rfl rfl (by rw [hz2]; omega) (by unfold maxLen; omega) (Nat.le_refl _) ?_; intro w0 hown hgrow)
  have hp := Part.start hown
  have hB0 : Below w.heap.size w w0 := Below.grown (Below.refl _ _) hgrow (Nat.le_refl _) (by simp)
  have hz0' := hp.lt
  clear hown hgrow
  go_loopw [4] (fun i wr => ∃ k : Nat, k ≤ ks.length ∧ i = .int .i64 k ∧ Part wr w.heap.size 30 (Ex.cellsL (ks.take k)) (ks.length * 3) ∧ Below w.heap.size w wr) (fun i _ => ks.length - (intOf i).toNat)
  case atStart => exact ⟨0, by omega, rfl, by simpa [Ex.cellsL] using hp, hB0⟩
  case round =>
    clear hp hB0 hz0'
    obtain ⟨k, hk, rfl, hp, hB⟩ := hrel
    by_cases hlt : k < ks.length
    · obtain ⟨e, he⟩ : ∃ e, ks[k]? = some e := ⟨_, List.getElem?_eq_getElem hlt⟩
      obtain ⟨b, o, rfl⟩ := kid_some hr (by intro h; simp [h] at hlt)
      obtain ⟨hbl, s', c', g0, g1, g2, gr⟩ := kid_in (hr.below hB) he
      have hlt' : Ex.sizeL e.kids < N := by
        have := Ex.size_eq e
        have := Ex.sizeL_mem (List.mem_of_getElem? he)
        omega
      have hle : Ex.sizeL e.kids ≤ 1048576 := by
        have := Ex.size_eq e
        have := Ex.sizeL_mem (List.mem_of_getElem? he)
        omega
      go_wp2_with fail
      refine (toExpr_of (ih _ hlt') _ _ _ _ _ _ (Nat.le_refl _) gr hle).mono ?_
      rintro e1 w1 ⟨s2, c2, rfl, ⟨G, hG1, hG2, hG3⟩, hb⟩
      have hlt2 := hp.lt
      have hz := hb.size
      obtain ⟨y0, d0⟩ := (hp.below hb).cell (k * 3) (by omega)
      obtain ⟨y1, d1⟩ := (hp.below hb).cell (k * 3 + 1) (by omega)
      obtain ⟨y2, d2⟩ := (hp.below hb).cell (k * 3 + 2) (by omega)
      have z0 := (hp.below hb).frozen (k * 3)
      have z1 := (hp.below hb).frozen (k * 3 + 1)
      have z2 := (hp.below hb).frozen (k * 3 + 2)
      have hst := hp.step hb (Ows.three (k := e.kind) (n := e.num) hG1) hG2 hG3 (o := k * 3) (by rw [Ex.cellsL_length, List.length_take, Nat.min_eq_left hk]) (by simp; omega)
      rw [← Ex.cellsL_take_succ he] at hst
      have Hst : Hid (Part (((w1.setCell ⟨w.heap.size, k * 3, none⟩ (.int .i64 e.kind)).setCell ⟨w.heap.size, k * 3 + 1, none⟩ (.int .i64 e.num)).setCell ⟨w.heap.size, k * 3 + 2, none⟩ (.slice s2 e.kids.length c2)) w.heap.size 30 (Ex.cellsL (ks.take (k + 1))) (ks.length * 3)) := hst
      have hB1 : Below w.heap.size w w1 := Below.on hB hb (by omega)
      clear hst
      go_wp2_with fail
      go_roundw
      case rel => exact ⟨k + 1, by omega, by go_num, Hst.out, by (repeat' (first | exact Below.refl _ _ | assumption | (refine Below.alloc ?_ (by first | omega | (simp; done) | (simp; omega)) _) | (refine Below.drew ?_) | (refine Below.setCell ?_ (by first | omega | (simp; done) | (simp; omega)) _)))⟩
      case measure => simp [intOf]; omega
    · obtain rfl : k = ks.length := by omega
      rw [List.take_length] at hp
      go_wp2_with fail
      go_ret
      exact ⟨_, _, rfl, hp.done (Nat.le_refl _) (Ex.cellsL_length ks) (Nat.le_refl _) (by unfold maxLen; omega), hB⟩
theorem toExpr_any (k n : Int) (ks : List Ex) (s : Option Addr) (cap : Nat) (w : World) (hr : Rd w (kidsD ks) (.slice s ks.length cap)) (h1 : Ex.sizeL ks ≤ 1048576) :
    Calls Tryz.prog 17 #[.agg #[.int .i64 k, .int .i64 n, .slice s ks.length cap]] w fun e w' => ∃ s' c', e = .returned (.agg #[.int .i64 k, .int .i64 n, .slice s' ks.length c']) ∧ Fresh w w' (kidsD ks) (.slice s' ks.length c') ∧ Below w.heap.size w w' :=
  toExpr_of (toExprS_all _) k n ks s cap w (Nat.le_refl _) hr h1
theorem toExpr_i {k n : Int} {ks : List Ex} {s : Option Addr} {cap : Nat} {w : World} (hr : Rd w (kidsD ks) (.slice s ks.length cap)) (h1 : Ex.sizeL ks ≤ 1048576) :
    Calls Tryz.prog 17 #[.agg #[.int .i64 k, .int .i64 n, .slice s ks.length cap]] w fun e w' => ∃ s' c', e = .returned (.agg #[.int .i64 k, .int .i64 n, .slice s' ks.length c']) ∧ Freshs w w' [kidsD ks] [.slice s' ks.length c'] ∧ Below w.heap.size w w' :=
  (toExpr_any k n ks s cap w hr h1).mono fun _ _ ⟨s', c', he, hf, hb⟩ => ⟨s', c', he, Freshs.one hf, hb⟩
end Go.Proofs.YtjlmdhoajfdkbaaGreatDoor

namespace Go.Proofs.YtjlmdhoajfdkbaaGreatDoor
set_option linter.unusedVariables false
set_option linter.unusedSimpArgs false
open Go.ChangeShapes Go.WideShapes Go.ChangeAt Go.RowKit Go.Sort
def EqS (N : Nat) : Prop := ∀ (ks js : List Ex) (s t : Option Addr) (cap cap' : Nat) (w : World), Ex.sizeL ks ≤ N → Rd w (kidsD ks) (.slice s ks.length cap) → Rd w (kidsD js) (.slice t js.length cap') →
    Calls Tryz.prog 24 #[.slice s ks.length cap, .slice t js.length cap'] w fun e w' => e = .returned (.bool (eqb ks js)) ∧ Below w.heap.size w w'
theorem eqExpr_of {N : Nat} (hS : EqS N) (k n k' n' : Int) (ks js : List Ex) (s t : Option Addr) (cap cap' : Nat) (w : World) (hN : Ex.sizeL ks ≤ N) (hr : Rd w (kidsD ks) (.slice s ks.length cap)) (hr' : Rd w (kidsD js) (.slice t js.length cap')) :
    Calls Tryz.prog 19 #[.agg #[.int .i64 k, .int .i64 n, .slice s ks.length cap], .agg #[.int .i64 k', .int .i64 n', .slice t js.length cap']] w fun e w' => e = .returned (.bool (eqb (Ex.mk k n ks) (Ex.mk k' n' js))) ∧ Below w.heap.size w w' := by
  by_cases h1 : k = k'
  · subst h1
    by_cases h2 : n = n'
    · subst h2
      have b1 : (k != k) = false := by simp
      have b2 : (n != n) = false := by simp
      have e1 : eqb (Ex.mk k n ks) (Ex.mk k n js) = eqb ks js := by
        by_cases h : ks = js
        · rw [eqb_true h, eqb_true (by rw [h])]
        · rw [eqb_false h, eqb_false (by simp [h])]
      rw [e1]
      clear e1
      go_enter Tryz.func19, Tryz.ntmps19
      go_wp2_with fail
      refine (hS ks js s t cap cap' _ hN (by repeat (first | exact hr | apply Rd.alloc)) (by repeat (first | exact hr' | apply Rd.alloc))).mono ?_
      rintro e w1 ⟨rfl, hb⟩
      have hB : Below w.heap.size w w1 := Below.on (by (repeat' (first | exact Below.refl _ _ | assumption | (refine Below.alloc ?_ (by first | omega | (simp; done) | (simp; omega)) _) | (refine Below.drew ?_) | (refine Below.setCell ?_ (by first | omega | (simp; done) | (simp; omega)) _)))) hb (by simp; omega)
      clear hb
      go_wp2
      all_goals go_ret
      all_goals exact ⟨by simp_all, hB⟩
    · have b1 : (k != k) = false := by simp
      have b2 : (n != n') = true := by simp [h2]
      have e1 : eqb (Ex.mk k n ks) (Ex.mk k n' js) = false := eqb_false (by simp [h2])
      rw [e1]
      go_enter Tryz.func19, Tryz.ntmps19
      go_wp2_with fail
      go_ret
      exact ⟨rfl, by (repeat' (first | exact Below.refl _ _ | assumption | (refine Below.alloc ?_ (by first | omega | (simp; done) | (simp; omega)) _) | (refine Below.drew ?_) | (refine Below.setCell ?_ (by first | omega | (simp; done) | (simp; omega)) _)))⟩
  · have b1 : (k != k') = true := by simp [h1]
    have e1 : eqb (Ex.mk k n ks) (Ex.mk k' n' js) = false := eqb_false (by simp [h1])
    rw [e1]
    go_enter Tryz.func19, Tryz.ntmps19
    go_wp2_with fail
    go_ret
    exact ⟨rfl, by (repeat' (first | exact Below.refl _ _ | assumption | (refine Below.alloc ?_ (by first | omega | (simp; done) | (simp; omega)) _) | (refine Below.drew ?_) | (refine Below.setCell ?_ (by first | omega | (simp; done) | (simp; omega)) _)))⟩
theorem eqExprS_all (N : Nat) : EqS N := by
  induction N using Nat.strongRecOn with
  | _ N ih =>
  intro ks js s t cap cap' w hN hr hr'
  obtain ⟨-, hlen, hcap, -, -⟩ := kid_at hr
  obtain ⟨-, hlen', hcap', -, -⟩ := kid_at hr'
  unfold maxLen at hcap hcap'
  by_cases hl : ks.length = js.length
  · have b1 : ((ks.length : Int) != (js.length : Int)) = false := by simp [hl]
    have Hl := Lib.hid hl
    clear hl
    go_enter Tryz.func24, Tryz.ntmps24
    go_wp2_with fail
    go_loopw [5] (fun i wr => ∃ k : Nat, k ≤ ks.length ∧ i = .int .i64 k ∧ ks.take k = js.take k ∧ Below w.heap.size w wr) (fun i _ => ks.length - (intOf i).toNat)
    case atStart => exact ⟨0, by omega, rfl, by simp, Below.refl _ _⟩
    case round =>
      obtain ⟨k, hk, rfl, hpre, hB⟩ := hrel
      have Hpre := Lib.hid hpre
      clear hpre
      by_cases hlt : k < ks.length
      · have hlt' : k < js.length := by have := Hl.out; omega
        obtain ⟨e, he⟩ : ∃ e, ks[k]? = some e := ⟨_, List.getElem?_eq_getElem hlt⟩
        obtain ⟨f, hf⟩ : ∃ e, js[k]? = some e := ⟨_, List.getElem?_eq_getElem hlt'⟩
        obtain ⟨b, o, rfl⟩ := kid_some hr (by intro h; simp [h] at hlt)
        obtain ⟨c, p, rfl⟩ := kid_some hr' (by intro h; simp [h] at hlt')
        obtain ⟨-, s', c', g0, g1, g2, gr⟩ := kid_in (hr.below hB) he
        obtain ⟨-, t', d', k0, k1, k2, kr⟩ := kid_in (hr'.below hB) hf
        have hltN : Ex.sizeL e.kids < N := by
          have := Ex.size_eq e
          have := Ex.sizeL_mem (List.mem_of_getElem? he)
          omega
        have ha := Int.natCast_nonneg k
        have hb : (k : Int) < (ks.length : Int) := by omega
        have hb' : (k : Int) < (js.length : Int) := by omega
        have i0 := fun d os => cell_regrown g0 d os
        have i1 := fun d os => cell_regrown g1 d os
        have i2 := fun d os => cell_regrown g2 d os
        have j0 := fun d os => cell_regrown k0 d os
        have j1 := fun d os => cell_regrown k1 d os
        have j2 := fun d os => cell_regrown k2 d os
        clear g0 g1 g2 k0 k1 k2
        go_wp2_with fail
        refine Go.wp_region_quiet_below (by kernel_rfl) (by kernel_rfl) ?_
        repeat (quiet_step (exact Calls.regrown_of (eqExpr_of (ih _ hltN) _ _ _ _ _ _ _ _ _ _ _ (Nat.le_refl _) (gr.below (below_regrown _ _ _)) (kr.below (below_regrown _ _ _)))))
        refine wpQuiet_nil ?_; intro _ hw'; obtain ⟨⟨dq, osq⟩, hw''⟩ := hw'; subst hw''; have hq := below_regrown wr dq osq; revert hq; generalize grow (redrawn wr dq) osq = w1; intro hq
        have hB1 : Below w.heap.size w w1 := Below.on hB hq hB.size
        clear hq i0 i1 i2 j0 j1 j2
        by_cases hef : e = f
        · have c1 : eqb (Ex.mk e.kind e.num e.kids) (Ex.mk f.kind f.num f.kids) = true := eqb_true (by rw [hef])
          have Hst : Hid (ks.take (k + 1) = js.take (k + 1)) := by
            have h1 := List.getElem?_eq_some_iff.1 he
            have h2 := List.getElem?_eq_some_iff.1 hf
            show _ = _
            rw [List.take_succ_eq_append_getElem hlt, List.take_succ_eq_append_getElem hlt', Hpre.out, h1.2, h2.2, hef]
          clear hef
          simp only [c1, Bool.not_true]
          go_wp2_with fail
          go_roundw
          case rel => exact ⟨k + 1, by omega, by go_num, Hst.out, hB1⟩
          case measure => simp [intOf]; omega
        · have c1 : eqb (Ex.mk e.kind e.num e.kids) (Ex.mk f.kind f.num f.kids) = false := eqb_false (by rw [← Ex.eta, ← Ex.eta]; exact hef)
          have c2 : eqb ks js = false := eqb_false (by
            intro h
            rw [h] at he
            exact hef (Option.some.inj (he.symm.trans hf)))
          simp only [c1, Bool.not_false]
          go_wp2_with fail
          go_ret
          exact ⟨by first | rfl | (rw [c2]; rfl), hB1⟩
      · obtain rfl : k = ks.length := by omega
        have c2 : eqb ks js = true := eqb_true (by
          have := Hpre.out
          rwa [List.take_length, Hl.out, List.take_length] at this)
        go_wp2_with fail
        go_ret
        exact ⟨by first | rfl | (rw [c2]; rfl), hB⟩
  · have b1 : ((ks.length : Int) != (js.length : Int)) = true := by simp; omega
    have c2 : eqb ks js = false := eqb_false (by intro h; rw [h] at hl; exact hl rfl)
    go_enter Tryz.func24, Tryz.ntmps24
    go_wp2_with fail
    go_ret
    exact ⟨by first | rfl | (rw [c2]; rfl), Below.refl _ _⟩
theorem eqExpr_i {k n k' n' : Int} {ks js : List Ex} {s t : Option Addr} {cap cap' : Nat} {w : World} (hr : Rd w (kidsD ks) (.slice s ks.length cap)) (hr' : Rd w (kidsD js) (.slice t js.length cap')) :
    Calls Tryz.prog 19 #[.agg #[.int .i64 k, .int .i64 n, .slice s ks.length cap], .agg #[.int .i64 k', .int .i64 n', .slice t js.length cap']] w fun e w' => e = .returned (.bool (eqb (Ex.mk k n ks) (Ex.mk k' n' js))) ∧ Below w.heap.size w w' :=
  eqExpr_of (eqExprS_all _) k n k' n' ks js s t cap cap' w (Nat.le_refl _) hr hr'
end Go.Proofs.YtjlmdhoajfdkbaaGreatDoor

namespace Go.Proofs.YtjlmdhoajfdkbaaGreatDoor
set_option linter.unusedVariables false
set_option linter.unusedSimpArgs false
open Go.ChangeShapes Go.WideShapes Go.ChangeAt Go.RowKit
set_option maxRecDepth 100000 in
set_option maxHeartbeats 16000000 in
theorem law_Derive (t0 a0 : Int) (k1 n1 : Int) (ks1 : List Ex) (s1 : Option Addr) (c1 : Nat) (x2 : Int) (x3 : Int) (w : World) (hr1 : Rd w (kidsD ks1) (.slice s1 ks1.length c1)) :
    Calls Tryz.prog 3 #[.agg #[.int .i64 t0, .int .i64 a0], .agg #[.int .i64 k1, .int .i64 n1, .slice s1 ks1.length c1], .int .i64 x2, .int .i64 x3] w fun e w' => e = .returned (.bool true) ∧ Below w.heap.size w w' := by
  have ef1 : eqb (Ex.mk k1 n1 ks1) (Ex.mk k1 n1 ks1) = true := by simp [eqb_true]
  have efR : eqb (Ex.mk (derE t0 a0 x2 x3 (.mk k1 n1 ks1)).kind (derE t0 a0 x2 x3 (.mk k1 n1 ks1)).num (derE t0 a0 x2 x3 (.mk k1 n1 ks1)).kids) (Ex.mk (derE t0 a0 x2 x3 (.mk k1 n1 ks1)).kind (derE t0 a0 x2 x3 (.mk k1 n1 ks1)).num (derE t0 a0 x2 x3 (.mk k1 n1 ks1)).kids) = true := by simp [eqb_true]
  go_enter Tryz.func3, Tryz.ntmps3
  go_wp2_with fail
  have L0 := (Blk.new2 w 23 (.int .i64 t0) (.int .i64 a0)).alloc (.cells #[.int .i64 k1, .int .i64 n1, .slice s1 ks1.length c1] 26)
  have L1 := Blk.new3 (w.alloc (.cells #[.int .i64 t0, .int .i64 a0] 23)) 26 (.int .i64 k1) (.int .i64 n1) (.slice s1 ks1.length c1)
  simp at L1
  have hB : Below w.heap.size w ((w.alloc (.cells #[.int .i64 t0, .int .i64 a0] 23)).alloc (.cells #[.int .i64 k1, .int .i64 n1, .slice s1 ks1.length c1] 26)) := by (repeat' (first | exact Below.refl _ _ | assumption | (refine Below.alloc ?_ (by first | omega | (simp; done) | (simp; omega)) _) | (refine Below.drew ?_) | (refine Below.setCell ?_ (by first | omega | (simp; done) | (simp; omega)) _)))
  generalize ((w.alloc (.cells #[.int .i64 t0, .int .i64 a0] 23)).alloc (.cells #[.int .i64 k1, .int .i64 n1, .slice s1 ks1.length c1] 26)) = v0 at L0 L1 hB ⊢
  have lt_v0_L0 := L0.lt
  have lt_v0_L1 := L1.lt
  have szB := hB.size
  have l0c0 := L0.c0
  have l0c1 := L0.c1
  have l1c0 := L1.c0
  have l1c1 := L1.c1
  have l1c2 := L1.c2
  have ltL0 := L0.lt
  have ltL1 := L1.lt
  go_wp2_with fail
  refine (szExpr_i (hr1.below hB) (by omega) (by omega)).mono ?_
  rintro e v1 ⟨⟨r1, rfl, ra1, rb1, rc1⟩, hb⟩
  clear l0c0 l0c1 l1c0 l1c1 l1c2 ltL0 ltL1
  have sz_v0_v1 := (hb).size
  replace L0 := L0.below hb
  replace L1 := L1.below hb
  replace hB := Below.on hB hb hB.size
  clear hb
  have l0c0 := L0.c0
  have l0c1 := L0.c1
  have l1c0 := L1.c0
  have l1c1 := L1.c1
  have l1c2 := L1.c2
  have ltL0 := L0.lt
  have ltL1 := L1.lt
  by_cases hneg1 : r1 < 0
  · go_wp2_with fail
    go_ret
    exact ⟨rfl, hB⟩
  have hd1 : decide (r1 < 0) = false := by simpa using hneg1
  have rd1 := rc1 (by omega)
  clear rc1
  have hsz1 : Ex.sizeL ks1 ≤ 1048576 := by omega
  have bX := derE_size t0 a0 x2 x3 k1 n1 ks1
  clear l0c0 l0c1 l1c0 l1c1 l1c2 ltL0 ltL1
  have l0c0 := L0.c0
  have l0c1 := L0.c1
  have l1c0 := L1.c0
  have l1c1 := L1.c1
  have l1c2 := L1.c2
  have ltL0 := L0.lt
  have ltL1 := L1.lt
  go_wp2_with fail
  have hB0 := hB
  refine region_rg 11 [9, 12] [0, 1, 2, 3, 4, 5, 6, 7, 8, 10] (fun i iv vs wx => match i with
    | 0 => vs 0 = .agg #[.int .i64 t0, .int .i64 a0]
    | 1 => vs 1 = .agg #[.int .i64 t0, .int .i64 a0]
    | 2 => vs 2 = .agg #[.int .i64 k1, .int .i64 n1, .slice s1 ks1.length c1]
    | 3 => ∃ sxza1 cxza1, vs 3 = .agg #[.int .i64 k1, .int .i64 n1, .slice sxza1 ks1.length cxza1] ∧ FreshIn (iv 3) wx [(kidsD ks1)] [.slice sxza1 ks1.length cxza1]
    | 4 => vs 4 = .int .i64 x2
    | 5 => vs 5 = .int .i64 x3
    | 6 => ∃ zaa zac, vs 6 = .tuple #[.agg #[.int .i64 (derE t0 a0 x2 x3 (.mk k1 n1 ks1)).kind, .int .i64 (derE t0 a0 x2 x3 (.mk k1 n1 ks1)).num, .slice zaa (derE t0 a0 x2 x3 (.mk k1 n1 ks1)).kids.length zac], .int .i64 (derC t0 a0 x2 x3 (.mk k1 n1 ks1))] ∧ FreshIn (iv 6) wx [kidsD (derE t0 a0 x2 x3 (.mk k1 n1 ks1)).kids] [.slice zaa (derE t0 a0 x2 x3 (.mk k1 n1 ks1)).kids.length zac]
    | 7 => vs 7 = vs 6 ∧ ∃ arr, vs 7 = .tuple arr ∧ 1 < arr.size
    | 8 => vs 8 = tupAt (vs 7) 0
    | 10 => vs 10 = .pointer (some ⟨(iv 10).1, 0, none⟩) ∧ (iv 10).2 = (iv 10).1 + 1 ∧ Blk wx (iv 10).1 30 [.int .i64 0, .int .i64 0, .slice none 0 0]
    | _ => True) (fun vs wx => ∃ p zaa zac, vs 10 = .pointer (some ⟨p, 0, none⟩) ∧ vs 7 = .tuple #[.agg #[.int .i64 (derE t0 a0 x2 x3 (.mk k1 n1 ks1)).kind, .int .i64 (derE t0 a0 x2 x3 (.mk k1 n1 ks1)).num, .slice zaa (derE t0 a0 x2 x3 (.mk k1 n1 ks1)).kids.length zac], .int .i64 (derC t0 a0 x2 x3 (.mk k1 n1 ks1))] ∧ v1.heap.size ≤ p ∧ Blk wx p 30 [.int .i64 (derE t0 a0 x2 x3 (.mk k1 n1 ks1)).kind, .int .i64 (derE t0 a0 x2 x3 (.mk k1 n1 ks1)).num, .slice zaa (derE t0 a0 x2 x3 (.mk k1 n1 ks1)).kids.length zac] ∧ (∃ F, Ows wx [kidsD (derE t0 a0 x2 x3 (.mk k1 n1 ks1)).kids] [.slice zaa (derE t0 a0 x2 x3 (.mk k1 n1 ks1)).kids.length zac] F ∧ F.Nodup ∧ ∀ b ∈ F, v1.heap.size ≤ b ∧ b ≠ p ∧ b < wx.heap.size) ∧ Below v1.heap.size v1 wx)
    (by kernel_rfl) (by kernel_rfl) (by kernel_rfl) (by kernel_rfl) ?hJ ?hX ?hF ?hstep ?hstore ?hQ (by kernel_rfl)
  case hX =>
    intro i o t k hi ho hop iv vs w hj
    simp only [List.mem_cons, List.not_mem_nil, or_false] at hi
    rcases hi with rfl | rfl
    · simp at ho
      subst ho
      simp at hop
      obtain ⟨rfl, rfl⟩ := hop
      have hj2 : vs 7 = vs 6 ∧ ∃ arr, vs 7 = .tuple arr ∧ 1 < arr.size := hj
      obtain ⟨-, arr, q1, q2⟩ := hj2
      exact ⟨arr, q1, by omega⟩
    · simp at ho
      subst ho
      simp at hop
  case hF =>
    intro vs vs' wx h hf
    have e7 := h 7 (mem_of (by kernel_rfl))
    have e10 := h 10 (mem_of (by kernel_rfl))
    show ∃ p zaa zac, vs' 10 = .pointer (some ⟨p, 0, none⟩) ∧ vs' 7 = .tuple #[.agg #[.int .i64 (derE t0 a0 x2 x3 (.mk k1 n1 ks1)).kind, .int .i64 (derE t0 a0 x2 x3 (.mk k1 n1 ks1)).num, .slice zaa (derE t0 a0 x2 x3 (.mk k1 n1 ks1)).kids.length zac], .int .i64 (derC t0 a0 x2 x3 (.mk k1 n1 ks1))] ∧ v1.heap.size ≤ p ∧ Blk wx p 30 [.int .i64 (derE t0 a0 x2 x3 (.mk k1 n1 ks1)).kind, .int .i64 (derE t0 a0 x2 x3 (.mk k1 n1 ks1)).num, .slice zaa (derE t0 a0 x2 x3 (.mk k1 n1 ks1)).kids.length zac] ∧ (∃ F, Ows wx [kidsD (derE t0 a0 x2 x3 (.mk k1 n1 ks1)).kids] [.slice zaa (derE t0 a0 x2 x3 (.mk k1 n1 ks1)).kids.length zac] F ∧ F.Nodup ∧ ∀ b ∈ F, v1.heap.size ≤ b ∧ b ≠ p ∧ b < wx.heap.size) ∧ Below v1.heap.size v1 wx
    rw [← e7, ← e10]
    exact hf
  case hJ =>
    intro i hi iv iv' vs vs' wx wx' ha hv hb hj
    simp only [List.mem_cons, List.not_mem_nil, or_false] at hi
    rcases hi with rfl | rfl | rfl | rfl | rfl | rfl | rfl | rfl | rfl | rfl
    · have e0 := hv.out 0 (mem_of (by kernel_rfl))
      have hj' : vs 0 = .agg #[.int .i64 t0, .int .i64 a0] := hj
      show vs' 0 = .agg #[.int .i64 t0, .int .i64 a0]
      rw [← e0]
      exact hj'
    · have e1 := hv.out 1 (mem_of (by kernel_rfl))
      have hj' : vs 1 = .agg #[.int .i64 t0, .int .i64 a0] := hj
      show vs' 1 = .agg #[.int .i64 t0, .int .i64 a0]
      rw [← e1]
      exact hj'
    · have e2 := hv.out 2 (mem_of (by kernel_rfl))
      have hj' : vs 2 = .agg #[.int .i64 k1, .int .i64 n1, .slice s1 ks1.length c1] := hj
      show vs' 2 = .agg #[.int .i64 k1, .int .i64 n1, .slice s1 ks1.length c1]
      rw [← e2]
      exact hj'
    · have e3 := hv.out 3 (mem_of (by kernel_rfl))
      have g3 := ha.out 3 (mem_of (by kernel_rfl))
      obtain ⟨sxza1, cxza1, q1, q2⟩ := hj
      exact ⟨sxza1, cxza1, e3 ▸ q1, g3 ▸ q2.below hb⟩
    · have e4 := hv.out 4 (mem_of (by kernel_rfl))
      have hj' : vs 4 = .int .i64 x2 := hj
      show vs' 4 = .int .i64 x2
      rw [← e4]
      exact hj'
    · have e5 := hv.out 5 (mem_of (by kernel_rfl))
      have hj' : vs 5 = .int .i64 x3 := hj
      show vs' 5 = .int .i64 x3
      rw [← e5]
      exact hj'
    · have e6 := hv.out 6 (mem_of (by kernel_rfl))
      have g6 := ha.out 6 (mem_of (by kernel_rfl))
      obtain ⟨zaa, zac, q1, q2⟩ := hj
      exact ⟨zaa, zac, e6 ▸ q1, g6 ▸ q2.below hb⟩
    · have e7 := hv.out 7 (mem_of (by kernel_rfl))
      have e6 := hv.out 6 (mem_of (by kernel_rfl))
      have hj' : vs 7 = vs 6 ∧ ∃ arr, vs 7 = .tuple arr ∧ 1 < arr.size := hj
      show vs' 7 = vs' 6 ∧ ∃ arr, vs' 7 = .tuple arr ∧ 1 < arr.size
      rw [← e6, ← e7]
      exact hj'
    · have e8 := hv.out 8 (mem_of (by kernel_rfl))
      have e7 := hv.out 7 (mem_of (by kernel_rfl))
      have hj' : vs 8 = tupAt (vs 7) 0 := hj
      show vs' 8 = tupAt (vs' 7) 0
      rw [← e7, ← e8]
      exact hj'
    · have e10 := hv.out 10 (mem_of (by kernel_rfl))
      have g10 := ha.out 10 (mem_of (by kernel_rfl))
      obtain ⟨q1, q3, q2⟩ := hj
      show vs' 10 = .pointer (some ⟨(iv' 10).1, 0, none⟩) ∧ (iv' 10).2 = (iv' 10).1 + 1 ∧ Blk wx' (iv' 10).1 30 [.int .i64 0, .int .i64 0, .slice none 0 0]
      rw [← e10, ← g10]
      exact ⟨q1, q3, q2.below hb⟩
  case hstep =>
    intro i hi o ho iv vs w1 hB hd hbd hsep K hK
    simp only [List.mem_cons, List.not_mem_nil, or_false] at hi
    have hBw := Below.on hB0 hB hB0.size
    have L0s := L0.below hB
    have l0s0 := L0s.c0
    have l0s1 := L0s.c1
    have L1s := L1.below hB
    have l1s0 := L1s.c0
    have l1s1 := L1s.c1
    have l1s2 := L1s.c2
    rcases hi with rfl | rfl | rfl | rfl | rfl | rfl | rfl | rfl | rfl | rfl
    all_goals
      simp at ho
      subst ho
      simp only [putFrom, Act.put, List.setIfInBounds_toArray, List.set_cons_succ, List.set_cons_zero]
    · go_wp2_with fail
      exact Onward.mk (hK (.agg #[.int .i64 t0, .int .i64 a0]) _ _ (by simp only [putFrom, Act.put, List.setIfInBounds_toArray, List.set_cons_succ, List.set_cons_zero]) (Below.refl _ _) (fun iv' _ _ => rfl))
    · have h0 : vs 0 = .agg #[.int .i64 t0, .int .i64 a0] := hd.out 0 (mem_of (by kernel_rfl)) (by decide)
      go_wp2_with fail
      refine (toSig_any t0 a0 _).mono ?_
      rintro e w2 ⟨rfl, hb⟩
      go_wp2_with fail
      exact Onward.mk (hK (.agg #[.int .i64 t0, .int .i64 a0]) _ _ (by simp only [putFrom, Act.put, List.setIfInBounds_toArray, List.set_cons_succ, List.set_cons_zero, h0]) hb (fun iv' _ _ => rfl))
    · go_wp2_with fail
      exact Onward.mk (hK (.agg #[.int .i64 k1, .int .i64 n1, .slice s1 ks1.length c1]) _ _ (by simp only [putFrom, Act.put, List.setIfInBounds_toArray, List.set_cons_succ, List.set_cons_zero]) (Below.refl _ _) (fun iv' _ _ => rfl))
    · have h2 : vs 2 = .agg #[.int .i64 k1, .int .i64 n1, .slice s1 ks1.length c1] := hd.out 2 (mem_of (by kernel_rfl)) (by decide)
      go_wp2_with fail
      refine (toExpr_i (hr1.below hBw) hsz1).mono ?_
      rintro e w2 ⟨sxza1, cxza1, rfl, hf, hb⟩
      go_wp2_with fail
      exact Onward.mk (hK (.agg #[.int .i64 k1, .int .i64 n1, .slice sxza1 ks1.length cxza1]) _ _ (by simp only [putFrom, Act.put, List.setIfInBounds_toArray, List.set_cons_succ, List.set_cons_zero, h2]) hb (fun iv' _ hi => ⟨sxza1, cxza1, rfl, by rw [hi]; exact Freshs.stretch (hf)⟩))
    · go_wp2_with fail
      exact Onward.mk (hK (.int .i64 x2) _ _ (by simp only [putFrom, Act.put, List.setIfInBounds_toArray, List.set_cons_succ, List.set_cons_zero]) (Below.refl _ _) (fun iv' _ _ => rfl))
    · go_wp2_with fail
      exact Onward.mk (hK (.int .i64 x3) _ _ (by simp only [putFrom, Act.put, List.setIfInBounds_toArray, List.set_cons_succ, List.set_cons_zero]) (Below.refl _ _) (fun iv' _ _ => rfl))
    · have h1 : vs 1 = .agg #[.int .i64 t0, .int .i64 a0] := hd.out 1 (mem_of (by kernel_rfl)) (by decide)
      obtain ⟨sxza1, cxza1, h3, f3⟩ := hd.out 3 (mem_of (by kernel_rfl)) (by decide)
      have h4 : vs 4 = .int .i64 x2 := hd.out 4 (mem_of (by kernel_rfl)) (by decide)
      have h5 : vs 5 = .int .i64 x3 := hd.out 5 (mem_of (by kernel_rfl)) (by decide)
      go_wp2_with fail
      refine (specDerive_i (f3.rds).one hsz1).mono ?_
      rintro e w2 ⟨zaa, zac, rfl, hf, hb⟩
      go_wp2_with fail
      exact Onward.mk (hK (.tuple #[.agg #[.int .i64 (derE t0 a0 x2 x3 (.mk k1 n1 ks1)).kind, .int .i64 (derE t0 a0 x2 x3 (.mk k1 n1 ks1)).num, .slice zaa (derE t0 a0 x2 x3 (.mk k1 n1 ks1)).kids.length zac], .int .i64 (derC t0 a0 x2 x3 (.mk k1 n1 ks1))]) _ _ (by simp only [putFrom, Act.put, List.setIfInBounds_toArray, List.set_cons_succ, List.set_cons_zero, h1, h3, h4, h5]) hb (fun iv' _ hi => ⟨zaa, zac, rfl, by rw [hi]; exact Freshs.stretch (hf)⟩))
    · obtain ⟨zaa, zac, h6, f6⟩ := hd.out 6 (mem_of (by kernel_rfl)) (by decide)
      go_wp2_with fail
      exact Onward.mk (hK (.tuple #[.agg #[.int .i64 (derE t0 a0 x2 x3 (.mk k1 n1 ks1)).kind, .int .i64 (derE t0 a0 x2 x3 (.mk k1 n1 ks1)).num, .slice zaa (derE t0 a0 x2 x3 (.mk k1 n1 ks1)).kids.length zac], .int .i64 (derC t0 a0 x2 x3 (.mk k1 n1 ks1))]) _ _ (by simp only [putFrom, Act.put, List.setIfInBounds_toArray, List.set_cons_succ, List.set_cons_zero, h6]) (Below.refl _ _) (fun iv' _ _ => by
        show (.tuple #[.agg #[.int .i64 (derE t0 a0 x2 x3 (.mk k1 n1 ks1)).kind, .int .i64 (derE t0 a0 x2 x3 (.mk k1 n1 ks1)).num, .slice zaa (derE t0 a0 x2 x3 (.mk k1 n1 ks1)).kids.length zac], .int .i64 (derC t0 a0 x2 x3 (.mk k1 n1 ks1))] : Value) = vs 6 ∧ ∃ arr, (.tuple #[.agg #[.int .i64 (derE t0 a0 x2 x3 (.mk k1 n1 ks1)).kind, .int .i64 (derE t0 a0 x2 x3 (.mk k1 n1 ks1)).num, .slice zaa (derE t0 a0 x2 x3 (.mk k1 n1 ks1)).kids.length zac], .int .i64 (derC t0 a0 x2 x3 (.mk k1 n1 ks1))] : Value) = .tuple arr ∧ 1 < arr.size
        exact ⟨by simp only [h6], _, rfl, by simp⟩))
    · obtain ⟨zaa, zac, h6, f6⟩ := hd.out 6 (mem_of (by kernel_rfl)) (by decide)
      obtain ⟨h7, s7⟩ := hd.out 7 (mem_of (by kernel_rfl)) (by decide)
      go_wp2_with fail
      exact Onward.mk (hK (.agg #[.int .i64 (derE t0 a0 x2 x3 (.mk k1 n1 ks1)).kind, .int .i64 (derE t0 a0 x2 x3 (.mk k1 n1 ks1)).num, .slice zaa (derE t0 a0 x2 x3 (.mk k1 n1 ks1)).kids.length zac]) _ _ (by simp only [putFrom, Act.put, List.setIfInBounds_toArray, List.set_cons_succ, List.set_cons_zero, h6, h7]) (Below.refl _ _) (fun iv' _ _ => by
        show (.agg #[.int .i64 (derE t0 a0 x2 x3 (.mk k1 n1 ks1)).kind, .int .i64 (derE t0 a0 x2 x3 (.mk k1 n1 ks1)).num, .slice zaa (derE t0 a0 x2 x3 (.mk k1 n1 ks1)).kids.length zac] : Value) = tupAt (vs 7) 0
        simp only [h6, h7, tupAt]; rfl))
    · go_wp2_with fail
      exact Onward.mk (hK (.pointer (some ⟨w1.heap.size, 0, none⟩)) _ _ (by simp only [putFrom, Act.put, List.setIfInBounds_toArray, List.set_cons_succ, List.set_cons_zero]) (Below.alloc (Below.refl _ _) (Nat.le_refl _) _) (fun iv' _ hi => by
        show Value.pointer (some ⟨w1.heap.size, 0, none⟩) = .pointer (some ⟨(iv' 10).1, 0, none⟩) ∧ (iv' 10).2 = (iv' 10).1 + 1 ∧ Blk _ (iv' 10).1 30 [.int .i64 0, .int .i64 0, .slice none 0 0]
        rw [hi]
        exact ⟨rfl, by simp, Blk.new3 _ _ _ _ _⟩))
  case hstore =>
    intro o ho iv vs w1 hB hd hsep K hK
    simp at ho
    subst ho
    simp only [putFrom, Act.put, List.setIfInBounds_toArray, List.set_cons_succ, List.set_cons_zero]
    have h0 : vs 0 = .agg #[.int .i64 t0, .int .i64 a0] := (hd.out 0 (mem_of (by kernel_rfl))).1
    have h1 : vs 1 = .agg #[.int .i64 t0, .int .i64 a0] := (hd.out 1 (mem_of (by kernel_rfl))).1
    have h2 : vs 2 = .agg #[.int .i64 k1, .int .i64 n1, .slice s1 ks1.length c1] := (hd.out 2 (mem_of (by kernel_rfl))).1
    obtain ⟨⟨sxza1, cxza1, h3, f3⟩, b3, -, u3⟩ := hd.out 3 (mem_of (by kernel_rfl))
    have h4 : vs 4 = .int .i64 x2 := (hd.out 4 (mem_of (by kernel_rfl))).1
    have h5 : vs 5 = .int .i64 x3 := (hd.out 5 (mem_of (by kernel_rfl))).1
    obtain ⟨⟨zaa, zac, h6, f6⟩, b6, -, u6⟩ := hd.out 6 (mem_of (by kernel_rfl))
    obtain ⟨⟨h7, s7⟩, b7, -, u7⟩ := hd.out 7 (mem_of (by kernel_rfl))
    have h8 : vs 8 = tupAt (vs 7) 0 := (hd.out 8 (mem_of (by kernel_rfl))).1
    obtain ⟨⟨h10, q10, f10⟩, b10, -, u10⟩ := hd.out 10 (mem_of (by kernel_rfl))
    have k8 : vs 8 = .agg #[.int .i64 (derE t0 a0 x2 x3 (.mk k1 n1 ks1)).kind, .int .i64 (derE t0 a0 x2 x3 (.mk k1 n1 ks1)).num, .slice zaa (derE t0 a0 x2 x3 (.mk k1 n1 ks1)).kids.length zac] := by rw [h8, h7, h6]; rfl
    have K7 : Hid (vs 7 = .tuple #[.agg #[.int .i64 (derE t0 a0 x2 x3 (.mk k1 n1 ks1)).kind, .int .i64 (derE t0 a0 x2 x3 (.mk k1 n1 ks1)).num, .slice zaa (derE t0 a0 x2 x3 (.mk k1 n1 ks1)).kids.length zac], .int .i64 (derC t0 a0 x2 x3 (.mk k1 n1 ks1))]) := by show _ = _; rw [h7, h6]
    obtain ⟨p, hp⟩ : ∃ p, (iv 10).1 = p := ⟨_, rfl⟩
    have hsep2 := hsep.out 6 (mem_of (by kernel_rfl)) 10 (mem_of (by kernel_rfl)) (by decide)
    unfold Sep at hsep2
    rw [hp] at h10 q10 f10 b10 hsep2
    obtain ⟨F, oF, nF, lF⟩ := f6
    have r0 := f10.c0
    have y0 := f10.frozen 0
    have r1 := f10.c1
    have y1 := f10.frozen 1
    have r2 := f10.c2
    have y2 := f10.frozen 2
    clear h0 h1 h2 h3 h4 h5 h6 h7 h8 s7
    go_wp2_with fail
    refine Onward.mk (hK _ _ (by simp only [putFrom, Act.put, List.setIfInBounds_toArray, List.set_cons_succ, List.set_cons_zero, h10, k8]) ⟨p, zaa, zac, h10, K7.out, b10, (((f10.set 0 _).set 1 _).set 2 _), ⟨F, oF.keep fun b hm => ?_, nF, fun b hm => ?_⟩, ?_⟩)
    · have h1 := lF b hm
      have h2 : b ≠ p := by omega
      repeat rw [Below.heap_setCell _ _ _ _ h2]
    · have h1 := lF b hm
      have h2 := oF.lt b hm
      simp only [World.setCell, Array.size_modify]
      omega
    · exact Below.setCell (Below.setCell (Below.setCell (hB) (by simp; omega) _) (by simp; omega) _) (by simp; omega) _
  case hQ =>
    rintro zas v2 hE ⟨zap, zaa, zac, h8, h7, lpza, ZA, ⟨Fza, oza, nza, luza⟩, hb⟩
    have h9 : zas 9 = tupAt (zas 7) 1 := hE 9 (mem_of (by kernel_rfl))
    have h10 : zas 12 = zas 9 := hE 12 (mem_of (by kernel_rfl))
    rw [h9, h7] at h10
    replace h10 : zas 12 = .int .i64 (derC t0 a0 x2 x3 (.mk k1 n1 ks1)) := h10
    simp only [putFrom, Act.put, List.setIfInBounds_toArray, List.set_cons_succ, List.set_cons_zero, h8, h10]
    clear h7 h8 h9 h10 hE
    clear l0c0 l0c1 l1c0 l1c1 l1c2 ltL0 ltL1
    have sz_v1_v2 := (hb).size
    replace L0 := L0.below hb
    replace L1 := L1.below hb
    replace hB := Below.on hB hb hB.size
    clear hb
    have lza : ∀ b ∈ Fza, v1.heap.size ≤ b ∧ b ≠ zap := fun b hm => ⟨(luza b hm).1, (luza b hm).2.1⟩
    have uza : ∀ b ∈ Fza, b < v2.heap.size := fun b hm => (luza b hm).2.2
    clear luza
    have lt_v2_L0 := L0.lt
    have lt_v2_L1 := L1.lt
    have lt_v2_ZA := ZA.lt
    have l0c0 := L0.c0
    have l0c1 := L0.c1
    have l1c0 := L1.c0
    have l1c1 := L1.c1
    have l1c2 := L1.c2
    have zac0 := ZA.c0
    have zac1 := ZA.c1
    have zac2 := ZA.c2
    have ltL0 := L0.lt
    have ltL1 := L1.lt
    have ltZA := ZA.lt
    go_wp2_with fail
    refine (toExpr_i (hr1.below hB) hsz1).mono ?_
    rintro e v3 ⟨sxx1, cxx1, rfl, ⟨FX1, oX1, nX1, lX1⟩, hb⟩
    have uX1 := oX1.lt
    clear l0c0 l0c1 l1c0 l1c1 l1c2 zac0 zac1 zac2 ltL0 ltL1 ltZA
    have sz_v2_v3 := (hb).size
    replace L0 := L0.below hb
    replace L1 := L1.below hb
    replace ZA := ZA.below hb
    replace oza := oza.keep fun b hm => (hb).block b (oza.lt b hm)
    replace hB := Below.on hB hb hB.size
    clear hb
    have l0c0 := L0.c0
    have l0c1 := L0.c1
    have l1c0 := L1.c0
    have l1c1 := L1.c1
    have l1c2 := L1.c2
    have zac0 := ZA.c0
    have zac1 := ZA.c1
    have zac2 := ZA.c2
    have ltL0 := L0.lt
    have ltL1 := L1.lt
    have ltZA := ZA.lt
    go_wp2_with fail
    have X1 := Blk.new3 v3 30 (.int .i64 k1) (.int .i64 n1) (.slice sxx1 ks1.length cxx1)
    clear l0c0 l0c1 l1c0 l1c1 l1c2 zac0 zac1 zac2 ltL0 ltL1 ltZA
    replace L0 := L0.alloc (.cells #[.int .i64 k1, .int .i64 n1, .slice sxx1 ks1.length cxx1] 30)
    replace L1 := L1.alloc (.cells #[.int .i64 k1, .int .i64 n1, .slice sxx1 ks1.length cxx1] 30)
    replace ZA := ZA.alloc (.cells #[.int .i64 k1, .int .i64 n1, .slice sxx1 ks1.length cxx1] 30)
    replace oza := oza.keep (w' := v3.alloc (.cells #[.int .i64 k1, .int .i64 n1, .slice sxx1 ks1.length cxx1] 30)) fun b hm => Below.heap_alloc v3 _ b (oza.lt b hm)
    replace oX1 := oX1.keep (w' := v3.alloc (.cells #[.int .i64 k1, .int .i64 n1, .slice sxx1 ks1.length cxx1] 30)) fun b hm => Below.heap_alloc v3 _ b (oX1.lt b hm)
    replace hB := hB.alloc hB.size (.cells #[.int .i64 k1, .int .i64 n1, .slice sxx1 ks1.length cxx1] 30)
    have szA : (v3.alloc (.cells #[.int .i64 k1, .int .i64 n1, .slice sxx1 ks1.length cxx1] 30)).heap.size = v3.heap.size + 1 := by simp
    generalize v3.alloc (.cells #[.int .i64 k1, .int .i64 n1, .slice sxx1 ks1.length cxx1] 30) = v4 at L0 L1 ZA X1 oza oX1 hB szA ⊢
    have sz_v4 := szA
    clear szA
    have lt_v4_L0 := L0.lt
    have lt_v4_L1 := L1.lt
    have lt_v4_ZA := ZA.lt
    have lt_v4_X1 := X1.lt
    have l0c0 := L0.c0
    have l0c1 := L0.c1
    have l1c0 := L1.c0
    have l1c1 := L1.c1
    have l1c2 := L1.c2
    have zac0 := ZA.c0
    have zac1 := ZA.c1
    have zac2 := ZA.c2
    have x1c0 := X1.c0
    have x1c1 := X1.c1
    have x1c2 := X1.c2
    have ltL0 := L0.lt
    have ltL1 := L1.lt
    have ltZA := ZA.lt
    have ltX1 := X1.lt
    go_wp2_with fail
    clear l0c0 l0c1 l1c0 l1c1 l1c2 zac0 zac1 zac2 x1c0 x1c1 x1c2 ltL0 ltL1 ltZA ltX1
    have hB0 := hB
    refine region_rg 10 [8, 11] [0, 1, 2, 3, 4, 5, 6, 7, 9] (fun i iv vs wx => match i with
      | 0 => vs 0 = .agg #[.int .i64 t0, .int .i64 a0]
      | 1 => vs 1 = .agg #[.int .i64 t0, .int .i64 a0]
      | 2 => vs 2 = .agg #[.int .i64 k1, .int .i64 n1, .slice sxx1 ks1.length cxx1]
      | 3 => vs 3 = .int .i64 x2
      | 4 => vs 4 = .int .i64 x3
      | 5 => ∃ zba zbc, vs 5 = .tuple #[.agg #[.int .i64 (derE t0 a0 x2 x3 (.mk k1 n1 ks1)).kind, .int .i64 (derE t0 a0 x2 x3 (.mk k1 n1 ks1)).num, .slice zba (derE t0 a0 x2 x3 (.mk k1 n1 ks1)).kids.length zbc], .int .i64 (derC t0 a0 x2 x3 (.mk k1 n1 ks1))] ∧ FreshIn (iv 5) wx [kidsD (derE t0 a0 x2 x3 (.mk k1 n1 ks1)).kids] [.slice zba (derE t0 a0 x2 x3 (.mk k1 n1 ks1)).kids.length zbc]
      | 6 => vs 6 = vs 5 ∧ ∃ arr, vs 6 = .tuple arr ∧ 1 < arr.size
      | 7 => vs 7 = tupAt (vs 6) 0
      | 9 => vs 9 = .pointer (some ⟨(iv 9).1, 0, none⟩) ∧ (iv 9).2 = (iv 9).1 + 1 ∧ Blk wx (iv 9).1 30 [.int .i64 0, .int .i64 0, .slice none 0 0]
      | _ => True) (fun vs wx => ∃ p zba zbc, vs 9 = .pointer (some ⟨p, 0, none⟩) ∧ vs 6 = .tuple #[.agg #[.int .i64 (derE t0 a0 x2 x3 (.mk k1 n1 ks1)).kind, .int .i64 (derE t0 a0 x2 x3 (.mk k1 n1 ks1)).num, .slice zba (derE t0 a0 x2 x3 (.mk k1 n1 ks1)).kids.length zbc], .int .i64 (derC t0 a0 x2 x3 (.mk k1 n1 ks1))] ∧ v4.heap.size ≤ p ∧ Blk wx p 30 [.int .i64 (derE t0 a0 x2 x3 (.mk k1 n1 ks1)).kind, .int .i64 (derE t0 a0 x2 x3 (.mk k1 n1 ks1)).num, .slice zba (derE t0 a0 x2 x3 (.mk k1 n1 ks1)).kids.length zbc] ∧ (∃ F, Ows wx [kidsD (derE t0 a0 x2 x3 (.mk k1 n1 ks1)).kids] [.slice zba (derE t0 a0 x2 x3 (.mk k1 n1 ks1)).kids.length zbc] F ∧ F.Nodup ∧ ∀ b ∈ F, v4.heap.size ≤ b ∧ b ≠ p ∧ b < wx.heap.size) ∧ Below v4.heap.size v4 wx)
      (by kernel_rfl) (by kernel_rfl) (by kernel_rfl) (by kernel_rfl) ?hJ ?hX ?hF ?hstep ?hstore ?hQ (by kernel_rfl)
    case hX =>
      intro i o t k hi ho hop iv vs w hj
      simp only [List.mem_cons, List.not_mem_nil, or_false] at hi
      rcases hi with rfl | rfl
      · simp at ho
        subst ho
        simp at hop
        obtain ⟨rfl, rfl⟩ := hop
        have hj2 : vs 6 = vs 5 ∧ ∃ arr, vs 6 = .tuple arr ∧ 1 < arr.size := hj
        obtain ⟨-, arr, q1, q2⟩ := hj2
        exact ⟨arr, q1, by omega⟩
      · simp at ho
        subst ho
        simp at hop
    case hF =>
      intro vs vs' wx h hf
      have e6 := h 6 (mem_of (by kernel_rfl))
      have e9 := h 9 (mem_of (by kernel_rfl))
      show ∃ p zba zbc, vs' 9 = .pointer (some ⟨p, 0, none⟩) ∧ vs' 6 = .tuple #[.agg #[.int .i64 (derE t0 a0 x2 x3 (.mk k1 n1 ks1)).kind, .int .i64 (derE t0 a0 x2 x3 (.mk k1 n1 ks1)).num, .slice zba (derE t0 a0 x2 x3 (.mk k1 n1 ks1)).kids.length zbc], .int .i64 (derC t0 a0 x2 x3 (.mk k1 n1 ks1))] ∧ v4.heap.size ≤ p ∧ Blk wx p 30 [.int .i64 (derE t0 a0 x2 x3 (.mk k1 n1 ks1)).kind, .int .i64 (derE t0 a0 x2 x3 (.mk k1 n1 ks1)).num, .slice zba (derE t0 a0 x2 x3 (.mk k1 n1 ks1)).kids.length zbc] ∧ (∃ F, Ows wx [kidsD (derE t0 a0 x2 x3 (.mk k1 n1 ks1)).kids] [.slice zba (derE t0 a0 x2 x3 (.mk k1 n1 ks1)).kids.length zbc] F ∧ F.Nodup ∧ ∀ b ∈ F, v4.heap.size ≤ b ∧ b ≠ p ∧ b < wx.heap.size) ∧ Below v4.heap.size v4 wx
      rw [← e6, ← e9]
      exact hf
    case hJ =>
      intro i hi iv iv' vs vs' wx wx' ha hv hb hj
      simp only [List.mem_cons, List.not_mem_nil, or_false] at hi
      rcases hi with rfl | rfl | rfl | rfl | rfl | rfl | rfl | rfl | rfl
      · have e0 := hv.out 0 (mem_of (by kernel_rfl))
        have hj' : vs 0 = .agg #[.int .i64 t0, .int .i64 a0] := hj
        show vs' 0 = .agg #[.int .i64 t0, .int .i64 a0]
        rw [← e0]
        exact hj'
      · have e1 := hv.out 1 (mem_of (by kernel_rfl))
        have hj' : vs 1 = .agg #[.int .i64 t0, .int .i64 a0] := hj
        show vs' 1 = .agg #[.int .i64 t0, .int .i64 a0]
        rw [← e1]
        exact hj'
      · have e2 := hv.out 2 (mem_of (by kernel_rfl))
        have hj' : vs 2 = .agg #[.int .i64 k1, .int .i64 n1, .slice sxx1 ks1.length cxx1] := hj
        show vs' 2 = .agg #[.int .i64 k1, .int .i64 n1, .slice sxx1 ks1.length cxx1]
        rw [← e2]
        exact hj'
      · have e3 := hv.out 3 (mem_of (by kernel_rfl))
        have hj' : vs 3 = .int .i64 x2 := hj
        show vs' 3 = .int .i64 x2
        rw [← e3]
        exact hj'
      · have e4 := hv.out 4 (mem_of (by kernel_rfl))
        have hj' : vs 4 = .int .i64 x3 := hj
        show vs' 4 = .int .i64 x3
        rw [← e4]
        exact hj'
      · have e5 := hv.out 5 (mem_of (by kernel_rfl))
        have g5 := ha.out 5 (mem_of (by kernel_rfl))
        obtain ⟨zba, zbc, q1, q2⟩ := hj
        exact ⟨zba, zbc, e5 ▸ q1, g5 ▸ q2.below hb⟩
      · have e6 := hv.out 6 (mem_of (by kernel_rfl))
        have e5 := hv.out 5 (mem_of (by kernel_rfl))
        have hj' : vs 6 = vs 5 ∧ ∃ arr, vs 6 = .tuple arr ∧ 1 < arr.size := hj
        show vs' 6 = vs' 5 ∧ ∃ arr, vs' 6 = .tuple arr ∧ 1 < arr.size
        rw [← e5, ← e6]
        exact hj'
      · have e7 := hv.out 7 (mem_of (by kernel_rfl))
        have e6 := hv.out 6 (mem_of (by kernel_rfl))
        have hj' : vs 7 = tupAt (vs 6) 0 := hj
        show vs' 7 = tupAt (vs' 6) 0
        rw [← e6, ← e7]
        exact hj'
      · have e9 := hv.out 9 (mem_of (by kernel_rfl))
        have g9 := ha.out 9 (mem_of (by kernel_rfl))
        obtain ⟨q1, q3, q2⟩ := hj
        show vs' 9 = .pointer (some ⟨(iv' 9).1, 0, none⟩) ∧ (iv' 9).2 = (iv' 9).1 + 1 ∧ Blk wx' (iv' 9).1 30 [.int .i64 0, .int .i64 0, .slice none 0 0]
        rw [← e9, ← g9]
        exact ⟨q1, q3, q2.below hb⟩
    case hstep =>
      intro i hi o ho iv vs w1 hB hd hbd hsep K hK
      simp only [List.mem_cons, List.not_mem_nil, or_false] at hi
      have hBw := Below.on hB0 hB hB0.size
      have L0s := L0.below hB
      have l0s0 := L0s.c0
      have l0s1 := L0s.c1
      have L1s := L1.below hB
      have l1s0 := L1s.c0
      have l1s1 := L1s.c1
      have l1s2 := L1s.c2
      have ZAs := ZA.below hB
      have zas0 := ZAs.c0
      have zas1 := ZAs.c1
      have zas2 := ZAs.c2
      have X1s := X1.below hB
      have x1s0 := X1s.c0
      have x1s1 := X1s.c1
      have x1s2 := X1s.c2
      rcases hi with rfl | rfl | rfl | rfl | rfl | rfl | rfl | rfl | rfl
      all_goals
        simp at ho
        subst ho
        simp only [putFrom, Act.put, List.setIfInBounds_toArray, List.set_cons_succ, List.set_cons_zero]
      · go_wp2_with fail
        exact Onward.mk (hK (.agg #[.int .i64 t0, .int .i64 a0]) _ _ (by simp only [putFrom, Act.put, List.setIfInBounds_toArray, List.set_cons_succ, List.set_cons_zero]) (Below.refl _ _) (fun iv' _ _ => rfl))
      · have h0 : vs 0 = .agg #[.int .i64 t0, .int .i64 a0] := hd.out 0 (mem_of (by kernel_rfl)) (by decide)
        go_wp2_with fail
        refine (toSig_any t0 a0 _).mono ?_
        rintro e w2 ⟨rfl, hb⟩
        go_wp2_with fail
        exact Onward.mk (hK (.agg #[.int .i64 t0, .int .i64 a0]) _ _ (by simp only [putFrom, Act.put, List.setIfInBounds_toArray, List.set_cons_succ, List.set_cons_zero, h0]) hb (fun iv' _ _ => rfl))
      · go_wp2_with fail
        exact Onward.mk (hK (.agg #[.int .i64 k1, .int .i64 n1, .slice sxx1 ks1.length cxx1]) _ _ (by simp only [putFrom, Act.put, List.setIfInBounds_toArray, List.set_cons_succ, List.set_cons_zero]) (Below.refl _ _) (fun iv' _ _ => rfl))
      · go_wp2_with fail
        exact Onward.mk (hK (.int .i64 x2) _ _ (by simp only [putFrom, Act.put, List.setIfInBounds_toArray, List.set_cons_succ, List.set_cons_zero]) (Below.refl _ _) (fun iv' _ _ => rfl))
      · go_wp2_with fail
        exact Onward.mk (hK (.int .i64 x3) _ _ (by simp only [putFrom, Act.put, List.setIfInBounds_toArray, List.set_cons_succ, List.set_cons_zero]) (Below.refl _ _) (fun iv' _ _ => rfl))
      · have h1 : vs 1 = .agg #[.int .i64 t0, .int .i64 a0] := hd.out 1 (mem_of (by kernel_rfl)) (by decide)
        have h2 : vs 2 = .agg #[.int .i64 k1, .int .i64 n1, .slice sxx1 ks1.length cxx1] := hd.out 2 (mem_of (by kernel_rfl)) (by decide)
        have h3 : vs 3 = .int .i64 x2 := hd.out 3 (mem_of (by kernel_rfl)) (by decide)
        have h4 : vs 4 = .int .i64 x3 := hd.out 4 (mem_of (by kernel_rfl)) (by decide)
        go_wp2_with fail
        refine (implDerive_i (((oX1.rds.below hB)).one) hsz1).mono ?_
        rintro e w2 ⟨zba, zbc, rfl, hf, hb⟩
        go_wp2_with fail
        exact Onward.mk (hK (.tuple #[.agg #[.int .i64 (derE t0 a0 x2 x3 (.mk k1 n1 ks1)).kind, .int .i64 (derE t0 a0 x2 x3 (.mk k1 n1 ks1)).num, .slice zba (derE t0 a0 x2 x3 (.mk k1 n1 ks1)).kids.length zbc], .int .i64 (derC t0 a0 x2 x3 (.mk k1 n1 ks1))]) _ _ (by simp only [putFrom, Act.put, List.setIfInBounds_toArray, List.set_cons_succ, List.set_cons_zero, h1, h2, h3, h4]) hb (fun iv' _ hi => ⟨zba, zbc, rfl, by rw [hi]; exact Freshs.stretch (hf)⟩))
      · obtain ⟨zba, zbc, h5, f5⟩ := hd.out 5 (mem_of (by kernel_rfl)) (by decide)
        go_wp2_with fail
        exact Onward.mk (hK (.tuple #[.agg #[.int .i64 (derE t0 a0 x2 x3 (.mk k1 n1 ks1)).kind, .int .i64 (derE t0 a0 x2 x3 (.mk k1 n1 ks1)).num, .slice zba (derE t0 a0 x2 x3 (.mk k1 n1 ks1)).kids.length zbc], .int .i64 (derC t0 a0 x2 x3 (.mk k1 n1 ks1))]) _ _ (by simp only [putFrom, Act.put, List.setIfInBounds_toArray, List.set_cons_succ, List.set_cons_zero, h5]) (Below.refl _ _) (fun iv' _ _ => by
          show (.tuple #[.agg #[.int .i64 (derE t0 a0 x2 x3 (.mk k1 n1 ks1)).kind, .int .i64 (derE t0 a0 x2 x3 (.mk k1 n1 ks1)).num, .slice zba (derE t0 a0 x2 x3 (.mk k1 n1 ks1)).kids.length zbc], .int .i64 (derC t0 a0 x2 x3 (.mk k1 n1 ks1))] : Value) = vs 5 ∧ ∃ arr, (.tuple #[.agg #[.int .i64 (derE t0 a0 x2 x3 (.mk k1 n1 ks1)).kind, .int .i64 (derE t0 a0 x2 x3 (.mk k1 n1 ks1)).num, .slice zba (derE t0 a0 x2 x3 (.mk k1 n1 ks1)).kids.length zbc], .int .i64 (derC t0 a0 x2 x3 (.mk k1 n1 ks1))] : Value) = .tuple arr ∧ 1 < arr.size
          exact ⟨by simp only [h5], _, rfl, by simp⟩))
      · obtain ⟨zba, zbc, h5, f5⟩ := hd.out 5 (mem_of (by kernel_rfl)) (by decide)
        obtain ⟨h6, s6⟩ := hd.out 6 (mem_of (by kernel_rfl)) (by decide)
        go_wp2_with fail
        exact Onward.mk (hK (.agg #[.int .i64 (derE t0 a0 x2 x3 (.mk k1 n1 ks1)).kind, .int .i64 (derE t0 a0 x2 x3 (.mk k1 n1 ks1)).num, .slice zba (derE t0 a0 x2 x3 (.mk k1 n1 ks1)).kids.length zbc]) _ _ (by simp only [putFrom, Act.put, List.setIfInBounds_toArray, List.set_cons_succ, List.set_cons_zero, h5, h6]) (Below.refl _ _) (fun iv' _ _ => by
          show (.agg #[.int .i64 (derE t0 a0 x2 x3 (.mk k1 n1 ks1)).kind, .int .i64 (derE t0 a0 x2 x3 (.mk k1 n1 ks1)).num, .slice zba (derE t0 a0 x2 x3 (.mk k1 n1 ks1)).kids.length zbc] : Value) = tupAt (vs 6) 0
          simp only [h5, h6, tupAt]; rfl))
      · go_wp2_with fail
        exact Onward.mk (hK (.pointer (some ⟨w1.heap.size, 0, none⟩)) _ _ (by simp only [putFrom, Act.put, List.setIfInBounds_toArray, List.set_cons_succ, List.set_cons_zero]) (Below.alloc (Below.refl _ _) (Nat.le_refl _) _) (fun iv' _ hi => by
          show Value.pointer (some ⟨w1.heap.size, 0, none⟩) = .pointer (some ⟨(iv' 9).1, 0, none⟩) ∧ (iv' 9).2 = (iv' 9).1 + 1 ∧ Blk _ (iv' 9).1 30 [.int .i64 0, .int .i64 0, .slice none 0 0]
          rw [hi]
          exact ⟨rfl, by simp, Blk.new3 _ _ _ _ _⟩))
    case hstore =>
      intro o ho iv vs w1 hB hd hsep K hK
      simp at ho
      subst ho
      simp only [putFrom, Act.put, List.setIfInBounds_toArray, List.set_cons_succ, List.set_cons_zero]
      have h0 : vs 0 = .agg #[.int .i64 t0, .int .i64 a0] := (hd.out 0 (mem_of (by kernel_rfl))).1
      have h1 : vs 1 = .agg #[.int .i64 t0, .int .i64 a0] := (hd.out 1 (mem_of (by kernel_rfl))).1
      have h2 : vs 2 = .agg #[.int .i64 k1, .int .i64 n1, .slice sxx1 ks1.length cxx1] := (hd.out 2 (mem_of (by kernel_rfl))).1
      have h3 : vs 3 = .int .i64 x2 := (hd.out 3 (mem_of (by kernel_rfl))).1
      have h4 : vs 4 = .int .i64 x3 := (hd.out 4 (mem_of (by kernel_rfl))).1
      obtain ⟨⟨zba, zbc, h5, f5⟩, b5, -, u5⟩ := hd.out 5 (mem_of (by kernel_rfl))
      obtain ⟨⟨h6, s6⟩, b6, -, u6⟩ := hd.out 6 (mem_of (by kernel_rfl))
      have h7 : vs 7 = tupAt (vs 6) 0 := (hd.out 7 (mem_of (by kernel_rfl))).1
      obtain ⟨⟨h9, q9, f9⟩, b9, -, u9⟩ := hd.out 9 (mem_of (by kernel_rfl))
      have k7 : vs 7 = .agg #[.int .i64 (derE t0 a0 x2 x3 (.mk k1 n1 ks1)).kind, .int .i64 (derE t0 a0 x2 x3 (.mk k1 n1 ks1)).num, .slice zba (derE t0 a0 x2 x3 (.mk k1 n1 ks1)).kids.length zbc] := by rw [h7, h6, h5]; rfl
      have K6 : Hid (vs 6 = .tuple #[.agg #[.int .i64 (derE t0 a0 x2 x3 (.mk k1 n1 ks1)).kind, .int .i64 (derE t0 a0 x2 x3 (.mk k1 n1 ks1)).num, .slice zba (derE t0 a0 x2 x3 (.mk k1 n1 ks1)).kids.length zbc], .int .i64 (derC t0 a0 x2 x3 (.mk k1 n1 ks1))]) := by show _ = _; rw [h6, h5]
      obtain ⟨p, hp⟩ : ∃ p, (iv 9).1 = p := ⟨_, rfl⟩
      have hsep2 := hsep.out 5 (mem_of (by kernel_rfl)) 9 (mem_of (by kernel_rfl)) (by decide)
      unfold Sep at hsep2
      rw [hp] at h9 q9 f9 b9 hsep2
      obtain ⟨F, oF, nF, lF⟩ := f5
      have r0 := f9.c0
      have y0 := f9.frozen 0
      have r1 := f9.c1
      have y1 := f9.frozen 1
      have r2 := f9.c2
      have y2 := f9.frozen 2
      clear h0 h1 h2 h3 h4 h5 h6 h7 s6
      go_wp2_with fail
      refine Onward.mk (hK _ _ (by simp only [putFrom, Act.put, List.setIfInBounds_toArray, List.set_cons_succ, List.set_cons_zero, h9, k7]) ⟨p, zba, zbc, h9, K6.out, b9, (((f9.set 0 _).set 1 _).set 2 _), ⟨F, oF.keep fun b hm => ?_, nF, fun b hm => ?_⟩, ?_⟩)
      · have h1 := lF b hm
        have h2 : b ≠ p := by omega
        repeat rw [Below.heap_setCell _ _ _ _ h2]
      · have h1 := lF b hm
        have h2 := oF.lt b hm
        simp only [World.setCell, Array.size_modify]
        omega
      · exact Below.setCell (Below.setCell (Below.setCell (hB) (by simp; omega) _) (by simp; omega) _) (by simp; omega) _
    case hQ =>
      rintro zbs v5 hE ⟨zbp, zba, zbc, h8, h7, lpzb, ZB, ⟨Fzb, ozb, nzb, luzb⟩, hb⟩
      have h9 : zbs 8 = tupAt (zbs 6) 1 := hE 8 (mem_of (by kernel_rfl))
      have h10 : zbs 11 = zbs 8 := hE 11 (mem_of (by kernel_rfl))
      rw [h9, h7] at h10
      replace h10 : zbs 11 = .int .i64 (derC t0 a0 x2 x3 (.mk k1 n1 ks1)) := h10
      simp only [putFrom, Act.put, List.setIfInBounds_toArray, List.set_cons_succ, List.set_cons_zero, h8, h10]
      clear h7 h8 h9 h10 hE
      have sz_v4_v5 := (hb).size
      replace L0 := L0.below hb
      replace L1 := L1.below hb
      replace ZA := ZA.below hb
      replace X1 := X1.below hb
      replace oza := oza.keep fun b hm => (hb).block b (oza.lt b hm)
      replace oX1 := oX1.keep fun b hm => (hb).block b (oX1.lt b hm)
      replace hB := Below.on hB hb hB.size
      clear hb
      have lzb : ∀ b ∈ Fzb, v4.heap.size ≤ b ∧ b ≠ zbp := fun b hm => ⟨(luzb b hm).1, (luzb b hm).2.1⟩
      have uzb : ∀ b ∈ Fzb, b < v5.heap.size := fun b hm => (luzb b hm).2.2
      clear luzb
      have lt_v5_L0 := L0.lt
      have lt_v5_L1 := L1.lt
      have lt_v5_ZA := ZA.lt
      have lt_v5_X1 := X1.lt
      have lt_v5_ZB := ZB.lt
      have l0c0 := L0.c0
      have l0c1 := L0.c1
      have l1c0 := L1.c0
      have l1c1 := L1.c1
      have l1c2 := L1.c2
      have zac0 := ZA.c0
      have zac1 := ZA.c1
      have zac2 := ZA.c2
      have x1c0 := X1.c0
      have x1c1 := X1.c1
      have x1c2 := X1.c2
      have zbc0 := ZB.c0
      have zbc1 := ZB.c1
      have zbc2 := ZB.c2
      have ltL0 := L0.lt
      have ltL1 := L1.lt
      have ltZA := ZA.lt
      have ltX1 := X1.lt
      have ltZB := ZB.lt
      go_wp2_with fail
      refine (eqExpr_i ((ozb.rds).one) ((oza.rds).one)).mono ?_
      rintro e v6 ⟨rfl, hb⟩
      clear l0c0 l0c1 l1c0 l1c1 l1c2 zac0 zac1 zac2 x1c0 x1c1 x1c2 zbc0 zbc1 zbc2 ltL0 ltL1 ltZA ltX1 ltZB
      have sz_v5_v6 := (hb).size
      replace L0 := L0.below hb
      replace L1 := L1.below hb
      replace ZA := ZA.below hb
      replace X1 := X1.below hb
      replace ZB := ZB.below hb
      replace oza := oza.keep fun b hm => (hb).block b (oza.lt b hm)
      replace oX1 := oX1.keep fun b hm => (hb).block b (oX1.lt b hm)
      replace ozb := ozb.keep fun b hm => (hb).block b (ozb.lt b hm)
      replace hB := Below.on hB hb hB.size
      clear hb
      rw [efR]
      have l0c0 := L0.c0
      have l0c1 := L0.c1
      have l1c0 := L1.c0
      have l1c1 := L1.c1
      have l1c2 := L1.c2
      have zac0 := ZA.c0
      have zac1 := ZA.c1
      have zac2 := ZA.c2
      have x1c0 := X1.c0
      have x1c1 := X1.c1
      have x1c2 := X1.c2
      have zbc0 := ZB.c0
      have zbc1 := ZB.c1
      have zbc2 := ZB.c2
      have ltL0 := L0.lt
      have ltL1 := L1.lt
      have ltZA := ZA.lt
      have ltX1 := X1.lt
      have ltZB := ZB.lt
      go_wp2_with fail
      go_region_held3 (fun w' => (∀ b o, b < v6.heap.size → w'.cell? ⟨b, o, none⟩ = v6.cell? ⟨b, o, none⟩) ∧ Below v6.heap.size v6 w')
        (first | exact kp_drew v6 | exact kp_on ‹_› hb)
        (first
          | (go_at_call 17; have hK := ‹(∀ b o, b < v6.heap.size → _) ∧ Below v6.heap.size v6 _›; ((with_reducible refine (toExpr_i (hr1.below (Below.on hB hK.2 hB.size)) hsz1).mono ?_); rintro e wy1 ⟨sxy1, cxy1, rfl, hfy1, hb⟩))
          | (go_at_call 19; have hK := ‹(∀ b o, b < v6.heap.size → _) ∧ Below v6.heap.size v6 _›; ((with_reducible refine (eqExpr_i (((oX1.rds).one).below hK.2) ((hfy1.rds).one)).mono ?_); rintro e v7 ⟨rfl, hb⟩)))
      have hK := ‹(∀ b o, b < v6.heap.size → _) ∧ Below v6.heap.size v6 _›
      clear l0c0 l0c1 l1c0 l1c1 l1c2 zac0 zac1 zac2 x1c0 x1c1 x1c2 zbc0 zbc1 zbc2 ltL0 ltL1 ltZA ltX1 ltZB
      have sz_v6_v7 := (hK.2).size
      replace L0 := L0.below hK.2
      replace L1 := L1.below hK.2
      replace ZA := ZA.below hK.2
      replace X1 := X1.below hK.2
      replace ZB := ZB.below hK.2
      replace oza := oza.keep fun b hm => (hK.2).block b (oza.lt b hm)
      replace oX1 := oX1.keep fun b hm => (hK.2).block b (oX1.lt b hm)
      replace ozb := ozb.keep fun b hm => (hK.2).block b (ozb.lt b hm)
      replace hB := Below.on hB hK.2 hB.size
      clear hK
      try simp only [ef1, Bool.not_true]
      have l0c0 := L0.c0
      have l0c1 := L0.c1
      have l1c0 := L1.c0
      have l1c1 := L1.c1
      have l1c2 := L1.c2
      have zac0 := ZA.c0
      have zac1 := ZA.c1
      have zac2 := ZA.c2
      have x1c0 := X1.c0
      have x1c1 := X1.c1
      have x1c2 := X1.c2
      have zbc0 := ZB.c0
      have zbc1 := ZB.c1
      have zbc2 := ZB.c2
      have ltL0 := L0.lt
      have ltL1 := L1.lt
      have ltZA := ZA.lt
      have ltX1 := X1.lt
      have ltZB := ZB.lt
      go_wp2_with fail
      refine (markExprL_i (k := 1) oX1 nX1 (by omega)).mono ?_
      rintro e v8 ⟨rfl, om, hO⟩
      clear l0c0 l0c1 l1c0 l1c1 l1c2 zac0 zac1 zac2 x1c0 x1c1 x1c2 zbc0 zbc1 zbc2 ltL0 ltL1 ltZA ltX1 ltZB
      have sz_v7_v8 := (hO).size
      replace L0 := L0.keep ((hO).block _ L0.lt (fun hm => by have h1 := lX1 _ hm; have h2 := uX1 _ hm; omega))
      replace L1 := L1.keep ((hO).block _ L1.lt (fun hm => by have h1 := lX1 _ hm; have h2 := uX1 _ hm; omega))
      replace ZA := ZA.keep ((hO).block _ ZA.lt (fun hm => by have h1 := lX1 _ hm; have h2 := uX1 _ hm; omega))
      replace X1 := X1.keep ((hO).block _ X1.lt (fun hm => by have h1 := lX1 _ hm; have h2 := uX1 _ hm; omega))
      replace ZB := ZB.keep ((hO).block _ ZB.lt (fun hm => by have h1 := lX1 _ hm; have h2 := uX1 _ hm; omega))
      replace oza := oza.keep fun b hm => (hO).block b (oza.lt b hm) (fun hm' => by have h1 := lX1 _ hm'; have h2 := uX1 _ hm'; have h3 := lza _ hm; have h4 := uza _ hm; omega)
      replace ozb := ozb.keep fun b hm => (hO).block b (ozb.lt b hm) (fun hm' => by have h1 := lX1 _ hm'; have h2 := uX1 _ hm'; have h3 := lzb _ hm; have h4 := uzb _ hm; omega)
      replace hB := hB.trans ((hO).below hB.size (fun b hm => by have h1 := lX1 _ hm; have h2 := hB.size; omega))
      replace oX1 := om
      clear om hO
      have l0c0 := L0.c0
      have l0c1 := L0.c1
      have l1c0 := L1.c0
      have l1c1 := L1.c1
      have l1c2 := L1.c2
      have zac0 := ZA.c0
      have zac1 := ZA.c1
      have zac2 := ZA.c2
      have x1c0 := X1.c0
      have x1c1 := X1.c1
      have x1c2 := X1.c2
      have zbc0 := ZB.c0
      have zbc1 := ZB.c1
      have zbc2 := ZB.c2
      have ltL0 := L0.lt
      have ltL1 := L1.lt
      have ltZA := ZA.lt
      have ltX1 := X1.lt
      have ltZB := ZB.lt
      go_wp2_with fail
      refine (eqExpr_i ((ozb.rds).one) ((oza.rds).one)).mono ?_
      rintro e v9 ⟨rfl, hb⟩
      clear l0c0 l0c1 l1c0 l1c1 l1c2 zac0 zac1 zac2 x1c0 x1c1 x1c2 zbc0 zbc1 zbc2 ltL0 ltL1 ltZA ltX1 ltZB
      have sz_v8_v9 := (hb).size
      replace L0 := L0.below hb
      replace L1 := L1.below hb
      replace ZA := ZA.below hb
      replace X1 := X1.below hb
      replace ZB := ZB.below hb
      replace oza := oza.keep fun b hm => (hb).block b (oza.lt b hm)
      replace oX1 := oX1.keep fun b hm => (hb).block b (oX1.lt b hm)
      replace ozb := ozb.keep fun b hm => (hb).block b (ozb.lt b hm)
      replace hB := Below.on hB hb hB.size
      clear hb
      rw [efR]
      have l0c0 := L0.c0
      have l0c1 := L0.c1
      have l1c0 := L1.c0
      have l1c1 := L1.c1
      have l1c2 := L1.c2
      have zac0 := ZA.c0
      have zac1 := ZA.c1
      have zac2 := ZA.c2
      have x1c0 := X1.c0
      have x1c1 := X1.c1
      have x1c2 := X1.c2
      have zbc0 := ZB.c0
      have zbc1 := ZB.c1
      have zbc2 := ZB.c2
      have ltL0 := L0.lt
      have ltL1 := L1.lt
      have ltZA := ZA.lt
      have ltX1 := X1.lt
      have ltZB := ZB.lt
      go_wp2_with fail
      refine (markExprL_i (k := 1) ozb nzb (by omega)).mono ?_
      rintro e v10 ⟨rfl, om, hO⟩
      clear l0c0 l0c1 l1c0 l1c1 l1c2 zac0 zac1 zac2 x1c0 x1c1 x1c2 zbc0 zbc1 zbc2 ltL0 ltL1 ltZA ltX1 ltZB
      have sz_v9_v10 := (hO).size
      replace L0 := L0.keep ((hO).block _ L0.lt (fun hm => by have h1 := lzb _ hm; have h2 := uzb _ hm; omega))
      replace L1 := L1.keep ((hO).block _ L1.lt (fun hm => by have h1 := lzb _ hm; have h2 := uzb _ hm; omega))
      replace ZA := ZA.keep ((hO).block _ ZA.lt (fun hm => by have h1 := lzb _ hm; have h2 := uzb _ hm; omega))
      replace X1 := X1.keep ((hO).block _ X1.lt (fun hm => by have h1 := lzb _ hm; have h2 := uzb _ hm; omega))
      replace ZB := ZB.keep ((hO).block _ ZB.lt (fun hm => by have h1 := lzb _ hm; have h2 := uzb _ hm; omega))
      replace oza := oza.keep fun b hm => (hO).block b (oza.lt b hm) (fun hm' => by have h1 := lzb _ hm'; have h2 := uzb _ hm'; have h3 := lza _ hm; have h4 := uza _ hm; omega)
      replace oX1 := oX1.keep fun b hm => (hO).block b (oX1.lt b hm) (fun hm' => by have h1 := lzb _ hm'; have h2 := uzb _ hm'; have h3 := lX1 _ hm; have h4 := uX1 _ hm; omega)
      replace hB := hB.trans ((hO).below hB.size (fun b hm => by have h1 := lzb _ hm; have h2 := hB.size; omega))
      replace ozb := om
      clear om hO
      have l0c0 := L0.c0
      have l0c1 := L0.c1
      have l1c0 := L1.c0
      have l1c1 := L1.c1
      have l1c2 := L1.c2
      have zac0 := ZA.c0
      have zac1 := ZA.c1
      have zac2 := ZA.c2
      have x1c0 := X1.c0
      have x1c1 := X1.c1
      have x1c2 := X1.c2
      have zbc0 := ZB.c0
      have zbc1 := ZB.c1
      have zbc2 := ZB.c2
      have ltL0 := L0.lt
      have ltL1 := L1.lt
      have ltZA := ZA.lt
      have ltX1 := X1.lt
      have ltZB := ZB.lt
      go_wp2_with fail
      refine (heldExprL_i (k := 1) ozb.rds (by omega)).mono ?_
      rintro e v11 ⟨rfl, hb⟩
      clear l0c0 l0c1 l1c0 l1c1 l1c2 zac0 zac1 zac2 x1c0 x1c1 x1c2 zbc0 zbc1 zbc2 ltL0 ltL1 ltZA ltX1 ltZB
      have sz_v10_v11 := (hb).size
      replace L0 := L0.below hb
      replace L1 := L1.below hb
      replace ZA := ZA.below hb
      replace X1 := X1.below hb
      replace ZB := ZB.below hb
      replace oza := oza.keep fun b hm => (hb).block b (oza.lt b hm)
      replace oX1 := oX1.keep fun b hm => (hb).block b (oX1.lt b hm)
      replace ozb := ozb.keep fun b hm => (hb).block b (ozb.lt b hm)
      replace hB := Below.on hB hb hB.size
      clear hb
      have l0c0 := L0.c0
      have l0c1 := L0.c1
      have l1c0 := L1.c0
      have l1c1 := L1.c1
      have l1c2 := L1.c2
      have zac0 := ZA.c0
      have zac1 := ZA.c1
      have zac2 := ZA.c2
      have x1c0 := X1.c0
      have x1c1 := X1.c1
      have x1c2 := X1.c2
      have zbc0 := ZB.c0
      have zbc1 := ZB.c1
      have zbc2 := ZB.c2
      have ltL0 := L0.lt
      have ltL1 := L1.lt
      have ltZA := ZA.lt
      have ltX1 := X1.lt
      have ltZB := ZB.lt
      go_wp2_with fail
      clear l0c0 l0c1 l1c0 l1c1 l1c2 zac0 zac1 zac2 x1c0 x1c1 x1c2 zbc0 zbc1 zbc2 ltL0 ltL1 ltZA ltX1 ltZB
      have hB0 := hB
      refine region_rg 11 [9, 12] [0, 1, 2, 3, 4, 5, 6, 7, 8, 10] (fun i iv vs wx => match i with
        | 0 => vs 0 = .agg #[.int .i64 t0, .int .i64 a0]
        | 1 => vs 1 = .agg #[.int .i64 t0, .int .i64 a0]
        | 2 => vs 2 = .agg #[.int .i64 k1, .int .i64 n1, .slice s1 ks1.length c1]
        | 3 => ∃ sxzc1 cxzc1, vs 3 = .agg #[.int .i64 k1, .int .i64 n1, .slice sxzc1 ks1.length cxzc1] ∧ FreshIn (iv 3) wx [(kidsD ks1)] [.slice sxzc1 ks1.length cxzc1]
        | 4 => vs 4 = .int .i64 x2
        | 5 => vs 5 = .int .i64 x3
        | 6 => ∃ zca zcc, vs 6 = .tuple #[.agg #[.int .i64 (derE t0 a0 x2 x3 (.mk k1 n1 ks1)).kind, .int .i64 (derE t0 a0 x2 x3 (.mk k1 n1 ks1)).num, .slice zca (derE t0 a0 x2 x3 (.mk k1 n1 ks1)).kids.length zcc], .int .i64 (derC t0 a0 x2 x3 (.mk k1 n1 ks1))] ∧ FreshIn (iv 6) wx [kidsD (derE t0 a0 x2 x3 (.mk k1 n1 ks1)).kids] [.slice zca (derE t0 a0 x2 x3 (.mk k1 n1 ks1)).kids.length zcc]
        | 7 => vs 7 = vs 6 ∧ ∃ arr, vs 7 = .tuple arr ∧ 1 < arr.size
        | 8 => vs 8 = tupAt (vs 7) 0
        | 10 => vs 10 = .pointer (some ⟨(iv 10).1, 0, none⟩) ∧ (iv 10).2 = (iv 10).1 + 1 ∧ Blk wx (iv 10).1 30 [.int .i64 0, .int .i64 0, .slice none 0 0]
        | _ => True) (fun vs wx => ∃ p zca zcc, vs 10 = .pointer (some ⟨p, 0, none⟩) ∧ vs 7 = .tuple #[.agg #[.int .i64 (derE t0 a0 x2 x3 (.mk k1 n1 ks1)).kind, .int .i64 (derE t0 a0 x2 x3 (.mk k1 n1 ks1)).num, .slice zca (derE t0 a0 x2 x3 (.mk k1 n1 ks1)).kids.length zcc], .int .i64 (derC t0 a0 x2 x3 (.mk k1 n1 ks1))] ∧ v11.heap.size ≤ p ∧ Blk wx p 30 [.int .i64 (derE t0 a0 x2 x3 (.mk k1 n1 ks1)).kind, .int .i64 (derE t0 a0 x2 x3 (.mk k1 n1 ks1)).num, .slice zca (derE t0 a0 x2 x3 (.mk k1 n1 ks1)).kids.length zcc] ∧ (∃ F, Ows wx [kidsD (derE t0 a0 x2 x3 (.mk k1 n1 ks1)).kids] [.slice zca (derE t0 a0 x2 x3 (.mk k1 n1 ks1)).kids.length zcc] F ∧ F.Nodup ∧ ∀ b ∈ F, v11.heap.size ≤ b ∧ b ≠ p ∧ b < wx.heap.size) ∧ Below v11.heap.size v11 wx)
        (by kernel_rfl) (by kernel_rfl) (by kernel_rfl) (by kernel_rfl) ?hJ ?hX ?hF ?hstep ?hstore ?hQ (by kernel_rfl)
      case hX =>
        intro i o t k hi ho hop iv vs w hj
        simp only [List.mem_cons, List.not_mem_nil, or_false] at hi
        rcases hi with rfl | rfl
        · simp at ho
          subst ho
          simp at hop
          obtain ⟨rfl, rfl⟩ := hop
          have hj2 : vs 7 = vs 6 ∧ ∃ arr, vs 7 = .tuple arr ∧ 1 < arr.size := hj
          obtain ⟨-, arr, q1, q2⟩ := hj2
          exact ⟨arr, q1, by omega⟩
        · simp at ho
          subst ho
          simp at hop
      case hF =>
        intro vs vs' wx h hf
        have e7 := h 7 (mem_of (by kernel_rfl))
        have e10 := h 10 (mem_of (by kernel_rfl))
        show ∃ p zca zcc, vs' 10 = .pointer (some ⟨p, 0, none⟩) ∧ vs' 7 = .tuple #[.agg #[.int .i64 (derE t0 a0 x2 x3 (.mk k1 n1 ks1)).kind, .int .i64 (derE t0 a0 x2 x3 (.mk k1 n1 ks1)).num, .slice zca (derE t0 a0 x2 x3 (.mk k1 n1 ks1)).kids.length zcc], .int .i64 (derC t0 a0 x2 x3 (.mk k1 n1 ks1))] ∧ v11.heap.size ≤ p ∧ Blk wx p 30 [.int .i64 (derE t0 a0 x2 x3 (.mk k1 n1 ks1)).kind, .int .i64 (derE t0 a0 x2 x3 (.mk k1 n1 ks1)).num, .slice zca (derE t0 a0 x2 x3 (.mk k1 n1 ks1)).kids.length zcc] ∧ (∃ F, Ows wx [kidsD (derE t0 a0 x2 x3 (.mk k1 n1 ks1)).kids] [.slice zca (derE t0 a0 x2 x3 (.mk k1 n1 ks1)).kids.length zcc] F ∧ F.Nodup ∧ ∀ b ∈ F, v11.heap.size ≤ b ∧ b ≠ p ∧ b < wx.heap.size) ∧ Below v11.heap.size v11 wx
        rw [← e7, ← e10]
        exact hf
      case hJ =>
        intro i hi iv iv' vs vs' wx wx' ha hv hb hj
        simp only [List.mem_cons, List.not_mem_nil, or_false] at hi
        rcases hi with rfl | rfl | rfl | rfl | rfl | rfl | rfl | rfl | rfl | rfl
        · have e0 := hv.out 0 (mem_of (by kernel_rfl))
          have hj' : vs 0 = .agg #[.int .i64 t0, .int .i64 a0] := hj
          show vs' 0 = .agg #[.int .i64 t0, .int .i64 a0]
          rw [← e0]
          exact hj'
        · have e1 := hv.out 1 (mem_of (by kernel_rfl))
          have hj' : vs 1 = .agg #[.int .i64 t0, .int .i64 a0] := hj
          show vs' 1 = .agg #[.int .i64 t0, .int .i64 a0]
          rw [← e1]
          exact hj'
        · have e2 := hv.out 2 (mem_of (by kernel_rfl))
          have hj' : vs 2 = .agg #[.int .i64 k1, .int .i64 n1, .slice s1 ks1.length c1] := hj
          show vs' 2 = .agg #[.int .i64 k1, .int .i64 n1, .slice s1 ks1.length c1]
          rw [← e2]
          exact hj'
        · have e3 := hv.out 3 (mem_of (by kernel_rfl))
          have g3 := ha.out 3 (mem_of (by kernel_rfl))
          obtain ⟨sxzc1, cxzc1, q1, q2⟩ := hj
          exact ⟨sxzc1, cxzc1, e3 ▸ q1, g3 ▸ q2.below hb⟩
        · have e4 := hv.out 4 (mem_of (by kernel_rfl))
          have hj' : vs 4 = .int .i64 x2 := hj
          show vs' 4 = .int .i64 x2
          rw [← e4]
          exact hj'
        · have e5 := hv.out 5 (mem_of (by kernel_rfl))
          have hj' : vs 5 = .int .i64 x3 := hj
          show vs' 5 = .int .i64 x3
          rw [← e5]
          exact hj'
        · have e6 := hv.out 6 (mem_of (by kernel_rfl))
          have g6 := ha.out 6 (mem_of (by kernel_rfl))
          obtain ⟨zca, zcc, q1, q2⟩ := hj
          exact ⟨zca, zcc, e6 ▸ q1, g6 ▸ q2.below hb⟩
        · have e7 := hv.out 7 (mem_of (by kernel_rfl))
          have e6 := hv.out 6 (mem_of (by kernel_rfl))
          have hj' : vs 7 = vs 6 ∧ ∃ arr, vs 7 = .tuple arr ∧ 1 < arr.size := hj
          show vs' 7 = vs' 6 ∧ ∃ arr, vs' 7 = .tuple arr ∧ 1 < arr.size
          rw [← e6, ← e7]
          exact hj'
        · have e8 := hv.out 8 (mem_of (by kernel_rfl))
          have e7 := hv.out 7 (mem_of (by kernel_rfl))
          have hj' : vs 8 = tupAt (vs 7) 0 := hj
          show vs' 8 = tupAt (vs' 7) 0
          rw [← e7, ← e8]
          exact hj'
        · have e10 := hv.out 10 (mem_of (by kernel_rfl))
          have g10 := ha.out 10 (mem_of (by kernel_rfl))
          obtain ⟨q1, q3, q2⟩ := hj
          show vs' 10 = .pointer (some ⟨(iv' 10).1, 0, none⟩) ∧ (iv' 10).2 = (iv' 10).1 + 1 ∧ Blk wx' (iv' 10).1 30 [.int .i64 0, .int .i64 0, .slice none 0 0]
          rw [← e10, ← g10]
          exact ⟨q1, q3, q2.below hb⟩
      case hstep =>
        intro i hi o ho iv vs w1 hB hd hbd hsep K hK
        simp only [List.mem_cons, List.not_mem_nil, or_false] at hi
        have hBw := Below.on hB0 hB hB0.size
        have L0s := L0.below hB
        have l0s0 := L0s.c0
        have l0s1 := L0s.c1
        have L1s := L1.below hB
        have l1s0 := L1s.c0
        have l1s1 := L1s.c1
        have l1s2 := L1s.c2
        have ZAs := ZA.below hB
        have zas0 := ZAs.c0
        have zas1 := ZAs.c1
        have zas2 := ZAs.c2
        have X1s := X1.below hB
        have x1s0 := X1s.c0
        have x1s1 := X1s.c1
        have x1s2 := X1s.c2
        have ZBs := ZB.below hB
        have zbs0 := ZBs.c0
        have zbs1 := ZBs.c1
        have zbs2 := ZBs.c2
        rcases hi with rfl | rfl | rfl | rfl | rfl | rfl | rfl | rfl | rfl | rfl
        all_goals
          simp at ho
          subst ho
          simp only [putFrom, Act.put, List.setIfInBounds_toArray, List.set_cons_succ, List.set_cons_zero]
        · go_wp2_with fail
          exact Onward.mk (hK (.agg #[.int .i64 t0, .int .i64 a0]) _ _ (by simp only [putFrom, Act.put, List.setIfInBounds_toArray, List.set_cons_succ, List.set_cons_zero]) (Below.refl _ _) (fun iv' _ _ => rfl))
        · have h0 : vs 0 = .agg #[.int .i64 t0, .int .i64 a0] := hd.out 0 (mem_of (by kernel_rfl)) (by decide)
          go_wp2_with fail
          refine (toSig_any t0 a0 _).mono ?_
          rintro e w2 ⟨rfl, hb⟩
          go_wp2_with fail
          exact Onward.mk (hK (.agg #[.int .i64 t0, .int .i64 a0]) _ _ (by simp only [putFrom, Act.put, List.setIfInBounds_toArray, List.set_cons_succ, List.set_cons_zero, h0]) hb (fun iv' _ _ => rfl))
        · go_wp2_with fail
          exact Onward.mk (hK (.agg #[.int .i64 k1, .int .i64 n1, .slice s1 ks1.length c1]) _ _ (by simp only [putFrom, Act.put, List.setIfInBounds_toArray, List.set_cons_succ, List.set_cons_zero]) (Below.refl _ _) (fun iv' _ _ => rfl))
        · have h2 : vs 2 = .agg #[.int .i64 k1, .int .i64 n1, .slice s1 ks1.length c1] := hd.out 2 (mem_of (by kernel_rfl)) (by decide)
          go_wp2_with fail
          refine (toExpr_i (hr1.below hBw) hsz1).mono ?_
          rintro e w2 ⟨sxzc1, cxzc1, rfl, hf, hb⟩
          go_wp2_with fail
          exact Onward.mk (hK (.agg #[.int .i64 k1, .int .i64 n1, .slice sxzc1 ks1.length cxzc1]) _ _ (by simp only [putFrom, Act.put, List.setIfInBounds_toArray, List.set_cons_succ, List.set_cons_zero, h2]) hb (fun iv' _ hi => ⟨sxzc1, cxzc1, rfl, by rw [hi]; exact Freshs.stretch (hf)⟩))
        · go_wp2_with fail
          exact Onward.mk (hK (.int .i64 x2) _ _ (by simp only [putFrom, Act.put, List.setIfInBounds_toArray, List.set_cons_succ, List.set_cons_zero]) (Below.refl _ _) (fun iv' _ _ => rfl))
        · go_wp2_with fail
          exact Onward.mk (hK (.int .i64 x3) _ _ (by simp only [putFrom, Act.put, List.setIfInBounds_toArray, List.set_cons_succ, List.set_cons_zero]) (Below.refl _ _) (fun iv' _ _ => rfl))
        · have h1 : vs 1 = .agg #[.int .i64 t0, .int .i64 a0] := hd.out 1 (mem_of (by kernel_rfl)) (by decide)
          obtain ⟨sxzc1, cxzc1, h3, f3⟩ := hd.out 3 (mem_of (by kernel_rfl)) (by decide)
          have h4 : vs 4 = .int .i64 x2 := hd.out 4 (mem_of (by kernel_rfl)) (by decide)
          have h5 : vs 5 = .int .i64 x3 := hd.out 5 (mem_of (by kernel_rfl)) (by decide)
          go_wp2_with fail
          refine (implDerive_i (f3.rds).one hsz1).mono ?_
          rintro e w2 ⟨zca, zcc, rfl, hf, hb⟩
          go_wp2_with fail
          exact Onward.mk (hK (.tuple #[.agg #[.int .i64 (derE t0 a0 x2 x3 (.mk k1 n1 ks1)).kind, .int .i64 (derE t0 a0 x2 x3 (.mk k1 n1 ks1)).num, .slice zca (derE t0 a0 x2 x3 (.mk k1 n1 ks1)).kids.length zcc], .int .i64 (derC t0 a0 x2 x3 (.mk k1 n1 ks1))]) _ _ (by simp only [putFrom, Act.put, List.setIfInBounds_toArray, List.set_cons_succ, List.set_cons_zero, h1, h3, h4, h5]) hb (fun iv' _ hi => ⟨zca, zcc, rfl, by rw [hi]; exact Freshs.stretch (hf)⟩))
        · obtain ⟨zca, zcc, h6, f6⟩ := hd.out 6 (mem_of (by kernel_rfl)) (by decide)
          go_wp2_with fail
          exact Onward.mk (hK (.tuple #[.agg #[.int .i64 (derE t0 a0 x2 x3 (.mk k1 n1 ks1)).kind, .int .i64 (derE t0 a0 x2 x3 (.mk k1 n1 ks1)).num, .slice zca (derE t0 a0 x2 x3 (.mk k1 n1 ks1)).kids.length zcc], .int .i64 (derC t0 a0 x2 x3 (.mk k1 n1 ks1))]) _ _ (by simp only [putFrom, Act.put, List.setIfInBounds_toArray, List.set_cons_succ, List.set_cons_zero, h6]) (Below.refl _ _) (fun iv' _ _ => by
            show (.tuple #[.agg #[.int .i64 (derE t0 a0 x2 x3 (.mk k1 n1 ks1)).kind, .int .i64 (derE t0 a0 x2 x3 (.mk k1 n1 ks1)).num, .slice zca (derE t0 a0 x2 x3 (.mk k1 n1 ks1)).kids.length zcc], .int .i64 (derC t0 a0 x2 x3 (.mk k1 n1 ks1))] : Value) = vs 6 ∧ ∃ arr, (.tuple #[.agg #[.int .i64 (derE t0 a0 x2 x3 (.mk k1 n1 ks1)).kind, .int .i64 (derE t0 a0 x2 x3 (.mk k1 n1 ks1)).num, .slice zca (derE t0 a0 x2 x3 (.mk k1 n1 ks1)).kids.length zcc], .int .i64 (derC t0 a0 x2 x3 (.mk k1 n1 ks1))] : Value) = .tuple arr ∧ 1 < arr.size
            exact ⟨by simp only [h6], _, rfl, by simp⟩))
        · obtain ⟨zca, zcc, h6, f6⟩ := hd.out 6 (mem_of (by kernel_rfl)) (by decide)
          obtain ⟨h7, s7⟩ := hd.out 7 (mem_of (by kernel_rfl)) (by decide)
          go_wp2_with fail
          exact Onward.mk (hK (.agg #[.int .i64 (derE t0 a0 x2 x3 (.mk k1 n1 ks1)).kind, .int .i64 (derE t0 a0 x2 x3 (.mk k1 n1 ks1)).num, .slice zca (derE t0 a0 x2 x3 (.mk k1 n1 ks1)).kids.length zcc]) _ _ (by simp only [putFrom, Act.put, List.setIfInBounds_toArray, List.set_cons_succ, List.set_cons_zero, h6, h7]) (Below.refl _ _) (fun iv' _ _ => by
            show (.agg #[.int .i64 (derE t0 a0 x2 x3 (.mk k1 n1 ks1)).kind, .int .i64 (derE t0 a0 x2 x3 (.mk k1 n1 ks1)).num, .slice zca (derE t0 a0 x2 x3 (.mk k1 n1 ks1)).kids.length zcc] : Value) = tupAt (vs 7) 0
            simp only [h6, h7, tupAt]; rfl))
        · go_wp2_with fail
          exact Onward.mk (hK (.pointer (some ⟨w1.heap.size, 0, none⟩)) _ _ (by simp only [putFrom, Act.put, List.setIfInBounds_toArray, List.set_cons_succ, List.set_cons_zero]) (Below.alloc (Below.refl _ _) (Nat.le_refl _) _) (fun iv' _ hi => by
            show Value.pointer (some ⟨w1.heap.size, 0, none⟩) = .pointer (some ⟨(iv' 10).1, 0, none⟩) ∧ (iv' 10).2 = (iv' 10).1 + 1 ∧ Blk _ (iv' 10).1 30 [.int .i64 0, .int .i64 0, .slice none 0 0]
            rw [hi]
            exact ⟨rfl, by simp, Blk.new3 _ _ _ _ _⟩))
      case hstore =>
        intro o ho iv vs w1 hB hd hsep K hK
        simp at ho
        subst ho
        simp only [putFrom, Act.put, List.setIfInBounds_toArray, List.set_cons_succ, List.set_cons_zero]
        have h0 : vs 0 = .agg #[.int .i64 t0, .int .i64 a0] := (hd.out 0 (mem_of (by kernel_rfl))).1
        have h1 : vs 1 = .agg #[.int .i64 t0, .int .i64 a0] := (hd.out 1 (mem_of (by kernel_rfl))).1
        have h2 : vs 2 = .agg #[.int .i64 k1, .int .i64 n1, .slice s1 ks1.length c1] := (hd.out 2 (mem_of (by kernel_rfl))).1
        obtain ⟨⟨sxzc1, cxzc1, h3, f3⟩, b3, -, u3⟩ := hd.out 3 (mem_of (by kernel_rfl))
        have h4 : vs 4 = .int .i64 x2 := (hd.out 4 (mem_of (by kernel_rfl))).1
        have h5 : vs 5 = .int .i64 x3 := (hd.out 5 (mem_of (by kernel_rfl))).1
        obtain ⟨⟨zca, zcc, h6, f6⟩, b6, -, u6⟩ := hd.out 6 (mem_of (by kernel_rfl))
        obtain ⟨⟨h7, s7⟩, b7, -, u7⟩ := hd.out 7 (mem_of (by kernel_rfl))
        have h8 : vs 8 = tupAt (vs 7) 0 := (hd.out 8 (mem_of (by kernel_rfl))).1
        obtain ⟨⟨h10, q10, f10⟩, b10, -, u10⟩ := hd.out 10 (mem_of (by kernel_rfl))
        have k8 : vs 8 = .agg #[.int .i64 (derE t0 a0 x2 x3 (.mk k1 n1 ks1)).kind, .int .i64 (derE t0 a0 x2 x3 (.mk k1 n1 ks1)).num, .slice zca (derE t0 a0 x2 x3 (.mk k1 n1 ks1)).kids.length zcc] := by rw [h8, h7, h6]; rfl
        have K7 : Hid (vs 7 = .tuple #[.agg #[.int .i64 (derE t0 a0 x2 x3 (.mk k1 n1 ks1)).kind, .int .i64 (derE t0 a0 x2 x3 (.mk k1 n1 ks1)).num, .slice zca (derE t0 a0 x2 x3 (.mk k1 n1 ks1)).kids.length zcc], .int .i64 (derC t0 a0 x2 x3 (.mk k1 n1 ks1))]) := by show _ = _; rw [h7, h6]
        obtain ⟨p, hp⟩ : ∃ p, (iv 10).1 = p := ⟨_, rfl⟩
        have hsep2 := hsep.out 6 (mem_of (by kernel_rfl)) 10 (mem_of (by kernel_rfl)) (by decide)
        unfold Sep at hsep2
        rw [hp] at h10 q10 f10 b10 hsep2
        obtain ⟨F, oF, nF, lF⟩ := f6
        have r0 := f10.c0
        have y0 := f10.frozen 0
        have r1 := f10.c1
        have y1 := f10.frozen 1
        have r2 := f10.c2
        have y2 := f10.frozen 2
        clear h0 h1 h2 h3 h4 h5 h6 h7 h8 s7
        go_wp2_with fail
        refine Onward.mk (hK _ _ (by simp only [putFrom, Act.put, List.setIfInBounds_toArray, List.set_cons_succ, List.set_cons_zero, h10, k8]) ⟨p, zca, zcc, h10, K7.out, b10, (((f10.set 0 _).set 1 _).set 2 _), ⟨F, oF.keep fun b hm => ?_, nF, fun b hm => ?_⟩, ?_⟩)
        · have h1 := lF b hm
          have h2 : b ≠ p := by omega
          repeat rw [Below.heap_setCell _ _ _ _ h2]
        · have h1 := lF b hm
          have h2 := oF.lt b hm
          simp only [World.setCell, Array.size_modify]
          omega
        · exact Below.setCell (Below.setCell (Below.setCell (hB) (by simp; omega) _) (by simp; omega) _) (by simp; omega) _
      case hQ =>
        rintro zcs v12 hE ⟨zcp, zca, zcc, h8, h7, lpzc, ZC, ⟨Fzc, ozc, nzc, luzc⟩, hb⟩
        have h9 : zcs 9 = tupAt (zcs 7) 1 := hE 9 (mem_of (by kernel_rfl))
        have h10 : zcs 12 = zcs 9 := hE 12 (mem_of (by kernel_rfl))
        rw [h9, h7] at h10
        replace h10 : zcs 12 = .int .i64 (derC t0 a0 x2 x3 (.mk k1 n1 ks1)) := h10
        simp only [putFrom, Act.put, List.setIfInBounds_toArray, List.set_cons_succ, List.set_cons_zero, h8, h10]
        clear h7 h8 h9 h10 hE
        have sz_v11_v12 := (hb).size
        replace L0 := L0.below hb
        replace L1 := L1.below hb
        replace ZA := ZA.below hb
        replace X1 := X1.below hb
        replace ZB := ZB.below hb
        replace oza := oza.keep fun b hm => (hb).block b (oza.lt b hm)
        replace oX1 := oX1.keep fun b hm => (hb).block b (oX1.lt b hm)
        replace ozb := ozb.keep fun b hm => (hb).block b (ozb.lt b hm)
        replace hB := Below.on hB hb hB.size
        clear hb
        have lzc : ∀ b ∈ Fzc, v11.heap.size ≤ b ∧ b ≠ zcp := fun b hm => ⟨(luzc b hm).1, (luzc b hm).2.1⟩
        have uzc : ∀ b ∈ Fzc, b < v12.heap.size := fun b hm => (luzc b hm).2.2
        clear luzc
        have lt_v12_L0 := L0.lt
        have lt_v12_L1 := L1.lt
        have lt_v12_ZA := ZA.lt
        have lt_v12_X1 := X1.lt
        have lt_v12_ZB := ZB.lt
        have lt_v12_ZC := ZC.lt
        have l0c0 := L0.c0
        have l0c1 := L0.c1
        have l1c0 := L1.c0
        have l1c1 := L1.c1
        have l1c2 := L1.c2
        have zac0 := ZA.c0
        have zac1 := ZA.c1
        have zac2 := ZA.c2
        have x1c0 := X1.c0
        have x1c1 := X1.c1
        have x1c2 := X1.c2
        have zbc0 := ZB.c0
        have zbc1 := ZB.c1
        have zbc2 := ZB.c2
        have zcc0 := ZC.c0
        have zcc1 := ZC.c1
        have zcc2 := ZC.c2
        have ltL0 := L0.lt
        have ltL1 := L1.lt
        have ltZA := ZA.lt
        have ltX1 := X1.lt
        have ltZB := ZB.lt
        have ltZC := ZC.lt
        go_wp2_with fail
        refine (eqExpr_i ((ozc.rds).one) ((oza.rds).one)).mono ?_
        rintro e v13 ⟨rfl, hb⟩
        clear l0c0 l0c1 l1c0 l1c1 l1c2 zac0 zac1 zac2 x1c0 x1c1 x1c2 zbc0 zbc1 zbc2 zcc0 zcc1 zcc2 ltL0 ltL1 ltZA ltX1 ltZB ltZC
        have sz_v12_v13 := (hb).size
        replace L0 := L0.below hb
        replace L1 := L1.below hb
        replace ZA := ZA.below hb
        replace X1 := X1.below hb
        replace ZB := ZB.below hb
        replace ZC := ZC.below hb
        replace oza := oza.keep fun b hm => (hb).block b (oza.lt b hm)
        replace oX1 := oX1.keep fun b hm => (hb).block b (oX1.lt b hm)
        replace ozb := ozb.keep fun b hm => (hb).block b (ozb.lt b hm)
        replace ozc := ozc.keep fun b hm => (hb).block b (ozc.lt b hm)
        replace hB := Below.on hB hb hB.size
        clear hb
        rw [efR]
        have l0c0 := L0.c0
        have l0c1 := L0.c1
        have l1c0 := L1.c0
        have l1c1 := L1.c1
        have l1c2 := L1.c2
        have zac0 := ZA.c0
        have zac1 := ZA.c1
        have zac2 := ZA.c2
        have x1c0 := X1.c0
        have x1c1 := X1.c1
        have x1c2 := X1.c2
        have zbc0 := ZB.c0
        have zbc1 := ZB.c1
        have zbc2 := ZB.c2
        have zcc0 := ZC.c0
        have zcc1 := ZC.c1
        have zcc2 := ZC.c2
        have ltL0 := L0.lt
        have ltL1 := L1.lt
        have ltZA := ZA.lt
        have ltX1 := X1.lt
        have ltZB := ZB.lt
        have ltZC := ZC.lt
        go_wp2_with fail
        refine (heldExprL_i (k := 1) ozb.rds (by omega)).mono ?_
        rintro e v14 ⟨rfl, hb⟩
        clear l0c0 l0c1 l1c0 l1c1 l1c2 zac0 zac1 zac2 x1c0 x1c1 x1c2 zbc0 zbc1 zbc2 zcc0 zcc1 zcc2 ltL0 ltL1 ltZA ltX1 ltZB ltZC
        have sz_v13_v14 := (hb).size
        replace L0 := L0.below hb
        replace L1 := L1.below hb
        replace ZA := ZA.below hb
        replace X1 := X1.below hb
        replace ZB := ZB.below hb
        replace ZC := ZC.below hb
        replace oza := oza.keep fun b hm => (hb).block b (oza.lt b hm)
        replace oX1 := oX1.keep fun b hm => (hb).block b (oX1.lt b hm)
        replace ozb := ozb.keep fun b hm => (hb).block b (ozb.lt b hm)
        replace ozc := ozc.keep fun b hm => (hb).block b (ozc.lt b hm)
        replace hB := Below.on hB hb hB.size
        clear hb
        have l0c0 := L0.c0
        have l0c1 := L0.c1
        have l1c0 := L1.c0
        have l1c1 := L1.c1
        have l1c2 := L1.c2
        have zac0 := ZA.c0
        have zac1 := ZA.c1
        have zac2 := ZA.c2
        have x1c0 := X1.c0
        have x1c1 := X1.c1
        have x1c2 := X1.c2
        have zbc0 := ZB.c0
        have zbc1 := ZB.c1
        have zbc2 := ZB.c2
        have zcc0 := ZC.c0
        have zcc1 := ZC.c1
        have zcc2 := ZC.c2
        have ltL0 := L0.lt
        have ltL1 := L1.lt
        have ltZA := ZA.lt
        have ltX1 := X1.lt
        have ltZB := ZB.lt
        have ltZC := ZC.lt
        go_wp2_with fail
        go_ret
        exact ⟨rfl, hB⟩
set_option maxRecDepth 100000 in
theorem law_Derive_of {H : Type} {enc : TypeId × Value → H} (W : World) (args : Array Value) (ds : List (DataW H)) (ps : List MemPlace) (hA : DataW.TrodAll enc Tryz.prog W 0 (fun _ => true) true Tryz.f3.params.toList args.toList ds ps)
    (hval : ∀ (j : Nat) t v, Tryz.f3.params[j]? = some t → args[j]? = some v → ∃ base, Value.okWide Tryz.prog W .any base t v) :
    Calls Tryz.prog 3 args W fun e W' => e = .returned (.bool true) ∧ Below W.heap.size W W' := by
  rw [Tryz.params3] at hA hval
  obtain ⟨v0, vs0, d0', ds0, p0, q0, hargs, rfl, rfl, h0, ra0⟩ := trodAll_cons hA
  obtain ⟨v1, vs1, d1', ds1, p1, q1, rfl, rfl, rfl, h1, ra1⟩ := trodAll_cons ra0
  obtain ⟨v2, vs2, d2', ds2, p2, q2, rfl, rfl, rfl, h2, ra2⟩ := trodAll_cons ra1
  obtain ⟨v3, vs3, d3', ds3, p3, q3, rfl, rfl, rfl, h3, ra3⟩ := trodAll_cons ra2
  obtain ⟨rfl, rfl, rfl⟩ := trodAll_nil ra3
  obtain rfl : args = #[v0, v1, v2, v3] := Array.toList_inj.1 hargs
  obtain ⟨t0, a0, rfl⟩ := open_lawsSig h0
  obtain ⟨k1, n1, ks1, s1, c1, rfl, hr1⟩ := open_lawsExpr h1
  obtain ⟨base2, hv2⟩ := hval 2 2 v2 rfl rfl
  obtain ⟨x2, rfl, rfl, rfl, -⟩ := open_int Tryz.underlying2 hv2 h2
  obtain ⟨base3, hv3⟩ := hval 3 2 v3 rfl rfl
  obtain ⟨x3, rfl, rfl, rfl, -⟩ := open_int Tryz.underlying2 hv3 h3
  exact law_Derive t0 a0 k1 n1 ks1 s1 c1 x2 x3 W hr1
end Go.Proofs.YtjlmdhoajfdkbaaGreatDoor

namespace Go.Proofs.YtjlmdhoajfdkbaaGreatDoor
set_option linter.unusedVariables false
set_option linter.unusedSimpArgs false
open Go Go.ChangeShapes Go.Deep Go.WideShapes Go.ChangeAt Go.RowKit
set_option maxRecDepth 100000 in
theorem fnExactDerive_closed : joinedFacts Tryz.prog 3 Tryz.f3 Rows.fnExactDeriveSpec Rows.fnExactDeriveRow = true := by
  unfold joinedFacts
  exact (band (band (band (band (band (band (band (band (band (band (band (band (band (band (band (band (band (band (band (band (band (band (band (band (band (band (band (band (band (band (band fnExactDerive_k0 fnExactDerive_k1) fnExactDerive_k2) fnExactDerive_k3) fnExactDerive_k4) fnExactDerive_k5) fnExactDerive_k6) fnExactDerive_k7) fnExactDerive_k8) fnExactDerive_k9) fnExactDerive_k10) fnExactDerive_k11) fnExactDerive_k12) fnExactDerive_k13) fnExactDerive_k14) fnExactDerive_k15) fnExactDerive_k16) fnExactDerive_k17) fnExactDerive_k18) fnExactDerive_k19) fnExactDerive_k20) fnExactDerive_k21) fnExactDerive_k22) fnExactDerive_k23) fnExactDerive_k24) fnExactDerive_k25) fnExactDerive_k26) fnExactDerive_k27) fnExactDerive_k28) fnExactDerive_k29) fnExactDerive_k30) fnExactDerive_k31)
theorem door_met (os : Os) (args : Array Value) : laidMetH Tryz.prog [("math/bits.deBruijn32tab", Rows.laid_math_bits_deBruijn32tab), ("math/bits.deBruijn64tab", Rows.laid_math_bits_deBruijn64tab), ("internal/strconv.uint64pow10", Rows.laid_internal_strconv_uint64pow10)] ((World.doorLaid Tryz.prog 24 os).forCall (fun _ _ => 0) ⟨#[], args, []⟩).memory :=
  laidMetH_of_parts3 (fuel := 8) (laidMet_of_run' 8 (by kernel_rfl) (by kernel_rfl)) (by kernel_rfl) (by kernel_rfl)
set_option maxRecDepth 100000 in
theorem fnExactDerive_lifted (os : Os) (started : os.Started) (H : Type) (enc : TypeId × Value → H) :
    ReturnsInHanded {} Tryz.checked os 3 .any (fun w args => (Rows.fnExactDeriveSpec.pre enc Tryz.prog Tryz.f3 [] false w args ∧ laidMetH Tryz.prog [("math/bits.deBruijn32tab", Rows.laid_math_bits_deBruijn32tab), ("math/bits.deBruijn64tab", Rows.laid_math_bits_deBruijn64tab), ("internal/strconv.uint64pow10", Rows.laid_internal_strconv_uint64pow10)] w) ∧ sizedMet enc Tryz.prog Tryz.f3 (OpenSpec.ofChange Rows.fnExactDeriveSpec) false w args)
      (Rows.fnExactDeriveSpec.post enc Tryz.prog Tryz.f3 false true false false) :=
  laid_lifted (C := Tryz.checked) own laid (by kernel_rfl) rfl (by kernel_rfl) Tryz.underlying4 Tryz.func3 (by kernel_rfl)
    (fun H ds h => by
      rw [Tryz.params3] at h
      match ds, h with | [d0, d1, d2, d3], _ => rfl) os started H enc
    (ChangeSpec.witness_shaped (enc := enc) (C := Tryz.checked) (os := os) (X := fun w _ => laidMetH Tryz.prog [("math/bits.deBruijn32tab", Rows.laid_math_bits_deBruijn32tab), ("math/bits.deBruijn64tab", Rows.laid_math_bits_deBruijn64tab), ("internal/strconv.uint64pow10", Rows.laid_internal_strconv_uint64pow10)] w) false (World.doorLaid Tryz.prog 24 os) #[.agg #[.int .i64 0, .int .i64 0], .agg #[.int .i64 0, .int .i64 0, .slice none 0 0], .int .i64 0, .int .i64 0] 8 rfl (World.shaped_of_RefB (by kernel_rfl) (by kernel_rfl)) (by kernel_rfl) (by kernel_rfl) (by kernel_rfl) (door_met os _))
    (fun W args ds ps hA hval _ => law_Derive_of W args ds ps hA hval)
theorem fnExactDerive_over : Rows.FnExactDeriveSaid :=
  OpenClaim.holds_of_wide 3 Tryz.f3 rfl rfl rfl rfl rfl rfl rfl ⟨rfl, rfl, rfl, rfl, rfl⟩ rfl rfl rfl rfl rfl (by kernel_rfl) Tryz.func3 fnExactDerive_closed
    (of_decide_eq_true (by kernel_rfl)) (by unfold Func.isWrapper; rw [if_neg (of_decide_eq_false (by kernel_rfl))]; exact ⟨rfl, rfl⟩)
    (fun os started H enc _ => fnExactDerive_lifted os started H enc)
theorem fnExactDeriveCard_proved : Rows.FnExactDeriveCardSaid :=
  Claim7.holds_tied_plain_at .later [] [.data, .data, .data] true Rows.fnExactDeriveCard.stood.harness false
    fnExactDerive_over (fun _ h => by cases h) (by kernel_rfl) (fun _ h => by cases h) fnExactDerive_row_tie rfl ⟨rfl, rfl⟩ (by kernel_rfl) rfl
    (fun f fn hf hfn => by
      obtain rfl : f = 3 := Option.some.inj ((show Tryz.prog.funcNamed "loop.example/g01101/laws.FnExactDerive" = some 3 by kernel_rfl).symm.trans hf) |>.symm
      obtain rfl : fn = Tryz.f3 := (Option.some.inj (Tryz.func3.symm.trans hfn)).symm
      exact ⟨by kernel_rfl, fun j t ht => by
        have hall : (Tryz.f3.params.toList.all fun u => !Tryz.prog.wantsStandIn u) = true := by kernel_rfl
        have hm : t ∈ Tryz.f3.params.toList := by simpa using Array.mem_of_getElem? ht
        exact (show Tryz.prog.wantsStandIn t = false by simpa using List.all_eq_true.1 hall t hm)⟩)
    (by kernel_rfl)
#print axioms fnExactDeriveCard_proved
end Go.Proofs.YtjlmdhoajfdkbaaGreatDoor
