/-
  Parts of a proof, joined: WdD. No condition.
-/
import Derived.Test.YtfhlddbngjlhbaaPk14
namespace Go.Proofs.Ytfhlddbngjlhbaa
set_option linter.unusedVariables false
set_option linter.unusedSimpArgs false
open Go.ChangeShapes Go.WideShapes Go.ChangeAt Go.RowKit Go.Deep Go.Sort
theorem rds_intsD {w : World} : ∀ {zs : List Int} {xs : List Value}, Rds w (zs.map D.int) xs → xs = zs.map (Value.int .i64)
 | [], xs, h => by simpa [Rds] using h
 | z :: r, xs, h => by
  simp only [List.map_cons, Rds] at h
  obtain ⟨x, q, rfl, h1, h2⟩ := h
  simp only [Rd] at h1
  rw [h1, rds_intsD h2]
  rfl
abbrev valI (v : Value) : Int := match v with | .int _ n => n | _ => 0
theorem ints_owsD {w : World} : ∀ zs : List Int, Ows w (zs.map D.int) (zs.map (Value.int .i64)) []
 | [] => Ows.nil
 | z :: r => Ows.cons (F := []) (Ow.int z) (ints_owsD r)
theorem ints_app {w : World} {g t : Nat} {zs : List Int} (h : Blk w g t (zs.map (Value.int .i64))) (hm : zs.length ≤ maxLen) : AppS (fun b => b = g) w t 1 zs.length (zs.map D.int) (.slice (some ⟨g, 0, none⟩) zs.length zs.length) :=
 ⟨zs.map (Value.int .i64), [], ⟨by simp, Or.inr ⟨g, zs.length, (zs.map (Value.int .i64)).toArray, rfl, Nat.zero_le _, h, Nat.le_refl _, hm, by simp, by rw [List.toList_toArray, Nat.mul_one, List.take_of_length_le (by simp)]⟩⟩, (ints_owsD zs), by simp, by simp, fun b hb => by simpa [Value.ownBlock] using hb.symm⟩
theorem atomsOf_i {t a : Int} {w : World} (hs : sigB t a = true) : Calls Try.prog 83 #[.agg #[.int .i64 t, .int .i64 a]] w fun e w' => e = .returned (.int .i64 (atomsN t)) ∧ Below w.heap.size w w' := by
 obtain ⟨ht0, ht1, ha0, ha1⟩ := sigB_bd hs
 have hin : inB t 0 3 = true := by simp only [inB, Bool.and_eq_true, decide_eq_true_eq]; omega
 go_enter Try.func83, Try.ntmps83
 go_wp2_with fail
 have L := Blk.new2 w 29 (.int .i64 t) (.int .i64 a)
 have hB : Below w.heap.size w (w.alloc (.cells #[.int .i64 t, .int .i64 a] 29)) := by (repeat' first | exact Below.refl _ _ | assumption | apply Below.alloc | apply Below.drew | apply Below.setCell | omega | (simp; done) | (simp; omega))
 have hB0 := hB
 generalize (w.alloc (.cells #[.int .i64 t, .int .i64 a] 29)) = v0 at L hB hB0 ⊢
 have l0 := L.c0
 have l1 := L.c1
 have ltL := L.lt
 go_wp2_with fail
 refine (in_any t 0 3 _).mono ?_
 rintro x w1 ⟨rfl, rfl⟩
 clear l0 l1 ltL
 cases hs1 : inB t 0 3
 ·
  have l0 := L.c0
  have l1 := L.c1
  have ltL := L.lt
  go_wp2_with fail
  exact absurd hin (by rw [hs1]; decide)
 have Hs1 := Lib.hid hs1
 clear hs1
 have l0 := L.c0
 have l1 := L.c1
 have ltL := L.lt
 go_wp2_with fail
 refine (l01Atoms_i ht0 ht1).mono ?_
 rintro x w2 ⟨rfl, hb⟩
 clear l0 l1 ltL
 replace hB := Below.on hB hb hB.size
 replace L := L.below hb
 clear hb
 have szW2 := hB.size
 have l0 := L.c0
 have l1 := L.c1
 have ltL := L.lt
 go_wp2_with fail
 go_ret
 exact ⟨rfl, hB⟩
theorem max_B {a b : Int} {w : World} : Calls Try.prog 71 #[.int .i64 a, .int .i64 b] w fun e w' => e = .returned (.int .i64 (max a b)) ∧ Below w.heap.size w w' :=
 l00Max_i.mono fun _ _ ⟨h1, h2⟩ => ⟨h1, below_self h2⟩
theorem WdB.made {B : Nat} {w : World} {wb g : Nat} {z : Int} (hg : Blk w g 2 [.int .i64 z]) (hw : Blk w wb 44 [.slice (some ⟨g, 0, none⟩) 1 1, .slice none 0 0]) (h1 : B ≤ g) (h2 : B ≤ wb) (hne : g ≠ wb) : WdB B w wb [z] [] (.slice (some ⟨g, 0, none⟩) 1 1) (.slice none 0 0) := by
 refine ⟨fun b => if b = g then 0 else 1, fun i it hi => ?_⟩
 match i, hi with
 | 0, hi =>
  obtain rfl := Option.some.inj hi
  exact AppS.more (ints_app (zs := [z]) hg (by unfold maxLen; simp)) fun b hl hb => ⟨by omega, hl, by dsimp only; rw [if_pos hb]⟩
 | 1, hi =>
  obtain rfl := Option.some.inj hi
  exact ⟨⟨h2, hw.lt, by dsimp only; rw [if_neg (fun e => hne e.symm)]⟩, hw⟩
 | 2, hi =>
  obtain rfl := Option.some.inj hi
  exact ⟨[], [], ⟨by simp, Or.inl ⟨rfl, rfl⟩⟩, Ows.nil, by simp, by simp, by simp [Value.ownBlock]⟩
 | n + 3, hi => simp at hi
theorem WdB.partsB {B : Nat} {w : World} {wb : Nat} {xs ys : List Int} {va vb : Value} (h : WdB B w wb xs ys va vb) : ∃ own : Nat → Nat, own wb = 1 ∧ B ≤ wb ∧ wb < w.heap.size ∧ AppS (fun b => B ≤ b ∧ b < w.heap.size ∧ own b = 0) w 2 1 xs.length (xs.map D.int) va ∧
  AppS (fun b => B ≤ b ∧ b < w.heap.size ∧ own b = 2) w 2 1 ys.length (ys.map D.int) vb ∧
  (∀ (w' : World) (v : Value) (x : Int) (S : Nat → Prop), B ≤ w.heap.size → w.heap.size ≤ w'.heap.size → (∀ b, B ≤ b → b < w.heap.size → own b = 2 → w'.heap[b]? = w.heap[b]?) → AppS S w' 2 1 (xs.length + 1) (xs.map D.int ++ [.int x]) v → (∀ b, b < w'.heap.size → S b → (B ≤ b ∧ b < w.heap.size ∧ own b = 0) ∨ w.heap.size ≤ b) → Blk w' wb 44 [v, vb] → WdB B w' wb (xs ++ [x]) ys v vb) ∧
  (∀ (w' : World) (v : Value) (x : Int) (S : Nat → Prop), B ≤ w.heap.size → w.heap.size ≤ w'.heap.size → (∀ b, B ≤ b → b < w.heap.size → own b = 0 → w'.heap[b]? = w.heap[b]?) → AppS S w' 2 1 (ys.length + 1) (ys.map D.int ++ [.int x]) v → (∀ b, b < w'.heap.size → S b → (B ≤ b ∧ b < w.heap.size ∧ own b = 2) ∨ w.heap.size ≤ b) → Blk w' wb 44 [va, v] → WdB B w' wb xs (ys ++ [x]) va v) := by
 obtain ⟨own, h⟩ := h
 have h0 := h 0 _ rfl
 have h1 := h 1 _ rfl
 have h2 := h 2 _ rfl
 have how : own wb = 1 := h1.1.2.2
 have hwb : wb < w.heap.size := h1.1.2.1
 have hwB : B ≤ wb := h1.1.1
 have h0' : AppS (fun b => B ≤ b ∧ b < w.heap.size ∧ own b = 0) w 2 1 xs.length (xs.map D.int) va := h0
 have h2' : AppS (fun b => B ≤ b ∧ b < w.heap.size ∧ own b = 2) w 2 1 ys.length (ys.map D.int) vb := h2
 refine ⟨own, how, hwB, hwb, h0, h2, ?_, ?_⟩
 ·
  intro w' v x S hB hz hk ha hS hb
  classical
  refine ⟨fun b => if S b then 0 else if b = wb then 1 else if own b = 2 ∧ b < w.heap.size then 2 else 3, fun i it hi => ?_⟩
  match i, hi with
  | 0, hi =>
   obtain rfl := Option.some.inj hi
   show AppS _ w' 2 1 (xs ++ [x]).length ((xs ++ [x]).map D.int) v
   rw [List.length_append, List.map_append]
   exact AppS.more ha fun b hl hs => ⟨by rcases hS b hl hs with q | q <;> omega, hl, by dsimp only; rw [if_pos hs]⟩
  | 1, hi =>
   obtain rfl := Option.some.inj hi
   exact ⟨⟨hwB, hb.lt, by dsimp only; rw [if_neg (fun hs => by rcases hS wb hb.lt hs with q | q <;> omega), if_pos rfl]⟩, hb⟩
  | 2, hi =>
   obtain rfl := Option.some.inj hi
   exact AppS.more (h2'.keep fun b hl q => hk b q.1 q.2.1 q.2.2) fun b hl q => ⟨q.1, hl, by dsimp only; rw [if_neg (fun hs => by rcases hS b hl hs with r | r <;> omega), if_neg (fun e => by rw [e] at q; omega), if_pos ⟨q.2.2, q.2.1⟩]⟩
  | n + 3, hi => simp at hi
 ·
  intro w' v x S hB hz hk ha hS hb
  classical
  refine ⟨fun b => if S b then 2 else if b = wb then 1 else if own b = 0 ∧ b < w.heap.size then 0 else 3, fun i it hi => ?_⟩
  match i, hi with
  | 2, hi =>
   obtain rfl := Option.some.inj hi
   show AppS _ w' 2 1 (ys ++ [x]).length ((ys ++ [x]).map D.int) v
   rw [List.length_append, List.map_append]
   exact AppS.more ha fun b hl hs => ⟨by rcases hS b hl hs with q | q <;> omega, hl, by dsimp only; rw [if_pos hs]⟩
  | 1, hi =>
   obtain rfl := Option.some.inj hi
   exact ⟨⟨hwB, hb.lt, by dsimp only; rw [if_neg (fun hs => by rcases hS wb hb.lt hs with q | q <;> omega), if_pos rfl]⟩, hb⟩
  | 0, hi =>
   obtain rfl := Option.some.inj hi
   exact AppS.more (h0'.keep fun b hl q => hk b q.1 q.2.1 q.2.2) fun b hl q => ⟨q.1, hl, by dsimp only; rw [if_neg (fun hs => by rcases hS b hl hs with r | r <;> omega), if_neg (fun e => by rw [e] at q; omega), if_pos ⟨q.2.2, q.2.1⟩]⟩
  | n + 3, hi => simp at hi
def actsN (w : World) (wb : Nat) : Nat := match w.cell? ⟨wb, 1, none⟩ with | some (.slice _ n _) => n | _ => 0
theorem actsN_eq {w : World} {wb t n c : Nat} {v : Value} {p : Option Addr} (h : Blk w wb t [v, .slice p n c]) : actsN w wb = n := by unfold actsN; rw [h.c1]
theorem blk_ne {w : World} {g b t t' : Nat} {x y x' y' : Value} {m : Int} {p : Option Addr} {n c : Nat} (h : Blk w g t [.int .i64 m, x, y]) (k : Blk w b t' [.slice p n c, x', y']) : g ≠ b := by
 intro e
 rw [e] at h
 have q := h.c0.symm.trans k.c0
 simp at q
structure AnyZ (N : Nat) where
 v : Int
 p : Nat
 y : Int
 hp : p ≤ N
set_option maxHeartbeats 4000000 in
theorem among_at {B b N g : Nat} {x y z : Int} {xs : List Int} {s : Option Addr} {c : Nat} {w : World} (h : SrcV B b xs s c N w) (hN : N < 1000000000000) (hg : Blk w g 2 [.int .i64 x, .int .i64 y, .int .i64 z]) (hgb : g ≠ b) :
  Calls Try.prog 84 #[.pointer (some ⟨b, 0, none⟩), .slice (some ⟨g, 0, none⟩) 3 3] w fun f w' => ∃ u : AnyZ (N + 1), f = .returned (.int .i64 u.v) ∧ Freshs w w' [] [] ∧ Spares (fun i => i = b) w w' ∧ Blk w' b 101 [.slice s xs.length c, .int .i64 u.p, .int .u64 u.y] := by
 go_enter Try.func84, Try.ntmps84
 go_wp2_with fail
 refine (pick_v (n := 3) h hN (by omega)).mono ?_
 rintro f w' ⟨k, rfl, k0, k1, ⟨-, p', z', e1, -, -, e4⟩, hs⟩
 have hg' := hg.keep (hs.block _ hg.lt hgb)
 obtain ⟨k', rfl⟩ : ∃ k' : Nat, k = (k' : Int) := ⟨k.toNat, by omega⟩
 have hk3 : k' < 3 := by omega
 have hkz : (k' : Int) < 3 := by omega
 obtain ⟨v, hv⟩ : ∃ v : Int, w'.cell? ⟨g, k', none⟩ = some (.int .i64 v) := by
  rw [hg'.cell]
  match k', hk3 with
  | 0, _ => exact ⟨x, rfl⟩
  | 1, _ => exact ⟨y, rfl⟩
  | 2, _ => exact ⟨z, rfl⟩
 have hv' : w'.cell? ⟨g, 0 + k', none⟩ = some (.int .i64 v) := by rw [Nat.zero_add]; exact hv
 have Hs := Lib.hid (And.intro hs e1)
 clear k1 hs e1 hg hg'
 go_wp2_with fail
 go_ret
 exact ⟨⟨v, p', z', e4⟩, rfl, Freshs.nil, Hs.out.1, Hs.out.2⟩
structure WdS (B sb wb K M : Nat) (w0 w : World) (xs ys : List Int) (va vb : Value) : Prop where
 wd : WdB w0.heap.size w wb xs ys va vb
 one : 1 ≤ xs.length
 lx : xs.length ≤ K
 ly : ys.length ≤ K
 dr : Drew B sb M w0 w
theorem WdS.more {B sb wb K M K' M' : Nat} {w0 w : World} {xs ys : List Int} {va vb : Value} (h : WdS B sb wb K M w0 w xs ys va vb) (hK : K ≤ K') (hM : M ≤ M') : WdS B sb wb K' M' w0 w xs ys va vb := ⟨h.wd, h.one, by have := h.lx; omega, by have := h.ly; omega, h.dr.more hM⟩
theorem WdS.draw {B sb wb K M M' : Nat} {w0 w w' : World} {xs ys : List Int} {va vb : Value} (h : WdS B sb wb K M w0 w xs ys va vb) (hs : sb < w0.heap.size) (d : Drew B sb M' w w') : WdS B sb wb K M' w0 w' xs ys va vb :=
 ⟨Bun.keep h.wd d.size (fun b hB hl => d.2.block b hl (by omega)), h.one, h.lx, h.ly, h.dr.trans d⟩
theorem WdB.headA {B : Nat} {w : World} {wb : Nat} {xs ys : List Int} {va vb : Value} (h : WdB B w wb xs ys va vb) (h1 : 1 ≤ xs.length) : ∃ (ga cap : Nat) (x : Value) (rest : List Value), va = .slice (some ⟨ga, 0, none⟩) xs.length cap ∧ xs.length ≤ cap ∧ Blk w ga 2 (x :: rest) ∧ B ≤ ga ∧ ga ≠ wb ∧
  ∀ (w' : World) (z : Int), w.heap.size ≤ w'.heap.size → (∀ b, B ≤ b → b < w.heap.size → b ≠ ga → w'.heap[b]? = w.heap[b]?) → Blk w' ga 2 (.int .i64 z :: rest) → WdB B w' wb (z :: xs.drop 1) ys va vb := by
 obtain ⟨own, h⟩ := h
 have h0 := h 0 _ rfl
 have h1' := h 1 _ rfl
 have h2 := h 2 _ rfl
 have how : own wb = 1 := h1'.1.2.2
 have h0' : AppS (fun b => B ≤ b ∧ b < w.heap.size ∧ own b = 0) w 2 1 xs.length (xs.map D.int) va := h0
 have h2' : AppS (fun b => B ≤ b ∧ b < w.heap.size ∧ own b = 2) w 2 1 ys.length (ys.map D.int) vb := h2
 obtain ⟨us, F, ⟨hl, hr⟩, hows, hF, hF2, hS⟩ := h0'
 rcases hr with ⟨_, hz⟩ | ⟨ga, cap, cur, rfl, _, hg, hc1, hc2, hc3, htk⟩
 ·
  omega
 have hga := hS ga rfl
 have hlen : cur.toList.length = cap := by rw [Array.length_toList, hc3, Nat.mul_one]
 obtain ⟨x, rest, hcur⟩ : ∃ x rest, cur.toList = x :: rest := by
  cases hcl : cur.toList with
  | nil => rw [hcl] at hlen; simp at hlen; omega
  | cons x rest => exact ⟨x, rest, rfl⟩
 have hblk : Blk w ga 2 (x :: rest) := by
  unfold Blk
  rw [← hcur]
  exact hg
 refine ⟨ga, cap, x, rest, rfl, hc1, hblk, hga.1, fun e => by rw [e, how] at hga; omega, fun w' z hz hk hb => ?_⟩
 have hus : us = xs.map (Value.int .i64) := rds_intsD hows.rds
 have hgw : ∀ b, (B ≤ b ∧ b < w.heap.size ∧ own b = 2) → b ≠ ga := fun b q e => by rw [e] at q; omega
 refine ⟨own, fun i it hi => ?_⟩
 match i, hi with
 | 0, hi =>
  obtain rfl := Option.some.inj hi
  have hxl : (z :: xs.drop 1).length = xs.length := by simp; omega
  show AppS _ w' 2 1 (z :: xs.drop 1).length ((z :: xs.drop 1).map D.int) _
  rw [hxl]
  refine ⟨(z :: xs.drop 1).map (Value.int .i64), [], ⟨by rw [List.length_map, hxl, Nat.mul_one], Or.inr ⟨ga, cap, (.int .i64 z :: rest : List Value).toArray, rfl, Nat.zero_le _, (show w'.heap[ga]? = some (.cells (.int .i64 z :: rest : List Value).toArray 2 (0, 0)) from hb), hc1, hc2, ?_, ?_⟩⟩, ints_owsD _, by simp, by simp, fun b hbb => ?_⟩
  ·
   rw [List.size_toArray, Nat.mul_one, ← hlen, hcur]; rfl
  ·
   rw [List.toList_toArray]
   rw [hcur, hus] at htk
   rw [Nat.mul_one] at htk ⊢
   obtain ⟨m, hm⟩ : ∃ m, xs.length = m + 1 := ⟨xs.length - 1, by omega⟩
   rw [hm, List.take_succ_cons] at htk ⊢
   match xs, htk with
   | q :: r, htk =>
    simp only [List.map_cons, List.cons.injEq] at htk
    simp only [List.drop_succ_cons, List.drop_zero, List.map_cons, List.cons.injEq, true_and]
    exact htk.2
   | [], _ => simp at hm
  ·
   obtain rfl : b = ga := by simpa [Value.ownBlock] using hbb.symm
   exact ⟨hga.1, by omega, hga.2.2⟩
 | 1, hi =>
  obtain rfl := Option.some.inj hi
  exact ⟨⟨h1'.1.1, by have := h1'.1.2.1; omega, how⟩, h1'.2.keep (hk wb h1'.1.1 h1'.1.2.1 (fun e => by rw [← e, how] at hga; omega))⟩
 | 2, hi =>
  obtain rfl := Option.some.inj hi
  exact AppS.more (h2'.keep fun b hl q => hk b q.1 q.2.1 (hgw b q)) fun b hl q => ⟨q.1, hl, q.2.2⟩
 | n + 3, hi => simp at hi
theorem Drew.base {B b M : Nat} {w0 w1 w2 : World} (h : Drew B b M w0 w1) (hb : Below w0.heap.size w1 w2) (hB : B ≤ w0.heap.size) (hs : b < w0.heap.size) : Drew B b M w0 w2 :=
 ⟨h.1.keep (hb.mono hB) (hb.block _ hs), ⟨hb.os.trans h.2.os, hb.tape.trans h.2.tape, hb.output.trans h.2.output, Nat.le_trans h.2.size hb.size, fun i hi hn => (hb.block i hi).trans (h.2.block i hi hn)⟩⟩
set_option maxRecDepth 100000 in
set_option maxHeartbeats 16000000 in
theorem drawWord_i {B b N : Nat} {t a : Int} {w : World} (h : SrcW B b N w) (hN : N ≤ 1000000) (hB : B ≤ w.heap.size) (hs : sigB t a = true) :
    Calls Try.prog 69 #[.pointer (some ⟨b, 0, none⟩), .agg #[.int .i64 t, .int .i64 a]] w fun f w' => ∃ (xs ys : List Int) (s : Option Addr) (c : Nat) (u : Option Addr) (d : Nat), f = .returned (.agg #[.slice s xs.length c, .slice u ys.length d]) ∧ Freshs w w' (wordD xs ys) [.slice s xs.length c, .slice u ys.length d] ∧ Drew B b (N + 40) w w' := by
  have hbw := h.lt
  have hBs := hB
  obtain ⟨ht0, ht3, ha0, ha4⟩ := sigB_bd hs
  obtain ⟨hat1, hat8⟩ := atomsN_bd t
  obtain ⟨A, hA⟩ : ∃ A, atomsN t = A := ⟨_, rfl⟩
  have hcall := fun W => atomsOf_i (w := W) hs
  rw [hA] at hcall hat1 hat8
  have Hcall := Lib.hid hcall
  have Hs := Lib.hid hs
  clear hcall hs hA
  have Hmx : Hid (∀ W, Calls Try.prog 71 #[.int .i64 1, .int .i64 A] W fun e w' => e = .returned (.int .i64 A) ∧ Below W.heap.size W w') := fun W => by
    have h := max_B (a := 1) (b := A) (w := W)
    rw [show max 1 A = A by omega] at h
    exact h
  obtain ⟨m, hm⟩ : ∃ m, max 1 a = m := ⟨_, rfl⟩
  have Hma : Hid (∀ W, Calls Try.prog 71 #[.int .i64 1, .int .i64 a] W fun e w' => e = .returned (.int .i64 m) ∧ Below W.heap.size W w') := fun W => by
    have h := max_B (a := 1) (b := a) (w := W)
    rw [hm] at h
    exact h
  have hm4 : m ≤ 4 := by omega
  clear hm
  go_enter Try.func69, Try.ntmps69
  go_wp2_with fail
  obtain ⟨w1, e1, G, hb1, hz1⟩ := box2 w 29 (.int .i64 t) (.int .i64 a)
  rw [e1]
  obtain ⟨w0, e0, R, hb2, hz2⟩ := box2 w1 44 (.slice none 0 0) (.slice none 0 0)
  rw [e0]
  rw [hz1] at R
  replace G := G.below hb2
  have D := (h.drew.on hb1).on hb2
  have hz0 : w0.heap.size = w.heap.size + 2 := by omega
  clear e1 e0 hb1 hb2 hz1 hz2 h
  obtain ⟨sb, rfl⟩ : ∃ v, v = b := ⟨_, rfl⟩
  have HD0 := Lib.hid D
  have hB0 : B ≤ w0.heap.size := by omega
  have hsb : sb < w0.heap.size := by omega
  have HR := Lib.hid R
  obtain ⟨xs, s, c, hSV⟩ := D.1.v
  obtain ⟨hb0, p, z, KS, hrx, hxs, hpN⟩ := hSV
  have HRX := Lib.hid hrx
  have HXS := Lib.hid hxs
  have HD := Lib.hid D
  have hzD := D.size
  clear D hrx hxs
  have HG := Lib.hid G
  have hGb : ∀ m b, (fun m b => (m = 0 ∧ b = sb)) m b → (B) ≤ b ∧ b < (w0).heap.size := by
    intro m b hg
    rcases hg with ⟨rfl, hg⟩
    · subst hg
      have q := KS.lt
      omega
  have hGd : ∀ m m' b, (fun m b => (m = 0 ∧ b = sb)) m b → (fun m b => (m = 0 ∧ b = sb)) m' b → m = m' := by
    intro m m' b h h'
    rcases h with ⟨rfl, h⟩ <;> rcases h' with ⟨rfl, h'⟩ <;> first
      | rfl
  refine region_rs [(9, 8)] [(1, 0)] (fun m b => (m = 0 ∧ b = sb)) (B) (fun i iv vs wx => match i with
    | 0 => vs 0 = .pointer (some ⟨sb, 0, none⟩)
    | 1 => ∃ u, vs 1 = .int .i64 (PickZ.v (n := 8) (N := N + 1) u) ∧ FreshIn (iv 1) wx [] [] ∧ Blk wx (sb) 101 [.slice s xs.length c, .int .i64 u.p, .int .u64 u.y]
    | 2 => vs 2 = .agg #[.int .i64 t, .int .i64 a]
    | 3 => vs 3 = .int .i64 A
    | 4 => vs 4 = .int .i64 A
    | 5 => vs 5 = .int .i64 ((valI (vs 1)).tmod A)
    | 6 => vs 6 = .slice (some ⟨(iv 6).1, 0, none⟩) 1 1 ∧ (iv 6).2 = (iv 6).1 + 1 ∧ Blk wx (iv 6).1 2 [vs 5]
    | 7 => vs 7 = .agg #[vs 6, .slice none 0 0]
    | 8 => vs 8 = .pointer (some ⟨(iv 8).1, 0, none⟩) ∧ (iv 8).2 = (iv 8).1 + 1 ∧ Blk wx (iv 8).1 44 [.slice none 0 0, .slice none 0 0]
    | 9 => (iv 8).2 = (iv 8).1 + 1 ∧ Blk wx ((iv 8).1) 44 [vs 6, .slice none 0 0]
    | _ => True) (fun i iv vs => match i with
    | 0 => vs 0 = .pointer (some ⟨sb, 0, none⟩)
    | 1 => ∃ u, vs 1 = .int .i64 (PickZ.v (n := 8) (N := N + 1) u)
    | 2 => vs 2 = .agg #[.int .i64 t, .int .i64 a]
    | 3 => vs 3 = .int .i64 A
    | 4 => vs 4 = .int .i64 A
    | 5 => vs 5 = .int .i64 ((valI (vs 1)).tmod A)
    | 6 => vs 6 = .slice (some ⟨(iv 6).1, 0, none⟩) 1 1 ∧ (iv 6).2 = (iv 6).1 + 1
    | 7 => vs 7 = .agg #[vs 6, .slice none 0 0]
    | 8 => vs 8 = .pointer (some ⟨(iv 8).1, 0, none⟩) ∧ (iv 8).2 = (iv 8).1 + 1
    | 9 => True
    | _ => True) (by kernel_rfl) (by kernel_rfl) [0, 1, 2, 3, 4, 5, 6, 7, 8, 9] (by kernel_rfl) ?hbase ?hGb ?hG ?hJ ?hE ?hEE ?hstep ?hQ
  case hbase => first | exact Nat.le_refl _ | omega | (simp; omega)
  case hGb =>
    exact hGb
  case hG =>
    exact hGd
  case hJ =>
    intro i hi iv iv' vs vs' wx wx' ha hv hz hk hj
    simp only [List.mem_cons, List.not_mem_nil, or_false] at hi
    rcases hi with rfl | rfl | rfl | rfl | rfl | rfl | rfl | rfl | rfl | rfl
    · exact (hv.out 0 (mem_of (by kernel_rfl))).symm.trans hj
    · have e1 := hv.out 1 (mem_of (by kernel_rfl))
      have g1 := ha.out 1 (mem_of (by kernel_rfl))
      obtain ⟨u, q1, q2, q3⟩ := hj
      exact ⟨u, e1 ▸ q1, g1 ▸ q2.keep (fun b hb h1 h2 => hk.out b hb (foot_own h1 h2)), q3.keep (hk.out _ q3.lt (foot_given 0 (by decide) ⟨rfl, rfl⟩))⟩
    · exact (hv.out 2 (mem_of (by kernel_rfl))).symm.trans hj
    · exact (hv.out 3 (mem_of (by kernel_rfl))).symm.trans hj
    · exact (hv.out 4 (mem_of (by kernel_rfl))).symm.trans hj
    · have e1 := hv.out 1 (mem_of (by kernel_rfl))
      have e5 := hv.out 5 (mem_of (by kernel_rfl))
      have hj' : vs 5 = .int .i64 ((valI (vs 1)).tmod A) := hj
      show vs' 5 = .int .i64 ((valI (vs' 1)).tmod A)
      rw [← e1, ← e5]
      exact hj'
    · have e5 := hv.out 5 (mem_of (by kernel_rfl))
      have e6 := hv.out 6 (mem_of (by kernel_rfl))
      have g6 := ha.out 6 (mem_of (by kernel_rfl))
      obtain ⟨q1, q3, q2⟩ := hj
      show vs' 6 = .slice (some ⟨(iv' 6).1, 0, none⟩) 1 1 ∧ (iv' 6).2 = (iv' 6).1 + 1 ∧ Blk wx' (iv' 6).1 2 [vs' 5]
      rw [← e5, ← e6, ← g6]
      exact ⟨q1, q3, q2.keep (hk.out _ q2.lt (foot_own (Nat.le_refl _) (by omega)))⟩
    · have e6 := hv.out 6 (mem_of (by kernel_rfl))
      have e7 := hv.out 7 (mem_of (by kernel_rfl))
      have hj' : vs 7 = .agg #[vs 6, .slice none 0 0] := hj
      show vs' 7 = .agg #[vs' 6, .slice none 0 0]
      rw [← e6, ← e7]
      exact hj'
    · have e8 := hv.out 8 (mem_of (by kernel_rfl))
      have g8 := ha.out 8 (mem_of (by kernel_rfl))
      obtain ⟨q1, q3, q2⟩ := hj
      show vs' 8 = .pointer (some ⟨(iv' 8).1, 0, none⟩) ∧ (iv' 8).2 = (iv' 8).1 + 1 ∧ Blk wx' (iv' 8).1 44 [.slice none 0 0, .slice none 0 0]
      rw [← e8, ← g8]
      exact ⟨q1, q3, q2.keep (hk.out _ q2.lt (foot_own (Nat.le_refl _) (by omega)))⟩
    · have e6 := hv.out 6 (mem_of (by kernel_rfl))
      have g8 := ha.out 8 (mem_of (by kernel_rfl))
      have hj' : (iv 8).2 = (iv 8).1 + 1 ∧ Blk wx ((iv 8).1) 44 [vs 6, .slice none 0 0] := hj
      show (iv' 8).2 = (iv' 8).1 + 1 ∧ Blk wx' ((iv' 8).1) 44 [vs' 6, .slice none 0 0]
      rw [← e6, ← g8]
      exact ⟨hj'.1, hj'.2.keep (hk.out _ hj'.2.lt ⟨8, mem_of (by kernel_rfl), Or.inl ⟨Nat.le_refl _, by omega⟩⟩)⟩
  case hE =>
    intro i hi iv vs wx hj
    simp only [List.mem_cons, List.not_mem_nil, or_false] at hi
    rcases hi with rfl | rfl | rfl | rfl | rfl | rfl | rfl | rfl | rfl | rfl
    · exact hj
    · obtain ⟨u, q1, -⟩ := hj
      exact ⟨u, q1⟩
    · exact hj
    · exact hj
    · exact hj
    · exact hj
    · exact ⟨hj.1, hj.2.1⟩
    · exact hj
    · exact ⟨hj.1, hj.2.1⟩
    · trivial
  case hEE =>
    intro i hi iv iv' vs vs' ha hv hj
    simp only [List.mem_cons, List.not_mem_nil, or_false] at hi
    rcases hi with rfl | rfl | rfl | rfl | rfl | rfl | rfl | rfl | rfl | rfl
    · exact (hv.out 0 (mem_of (by kernel_rfl))).symm.trans hj
    · have e1 := hv.out 1 (mem_of (by kernel_rfl))
      have hj' : ∃ u, vs 1 = .int .i64 (PickZ.v (n := 8) (N := N + 1) u) := hj
      show ∃ u, vs' 1 = .int .i64 (PickZ.v (n := 8) (N := N + 1) u)
      rw [← e1]
      exact hj'
    · exact (hv.out 2 (mem_of (by kernel_rfl))).symm.trans hj
    · exact (hv.out 3 (mem_of (by kernel_rfl))).symm.trans hj
    · exact (hv.out 4 (mem_of (by kernel_rfl))).symm.trans hj
    · have e1 := hv.out 1 (mem_of (by kernel_rfl))
      have e5 := hv.out 5 (mem_of (by kernel_rfl))
      have hj' : vs 5 = .int .i64 ((valI (vs 1)).tmod A) := hj
      show vs' 5 = .int .i64 ((valI (vs' 1)).tmod A)
      rw [← e1, ← e5]
      exact hj'
    · have e6 := hv.out 6 (mem_of (by kernel_rfl))
      have g6 := ha.out 6 (mem_of (by kernel_rfl))
      have hj' : vs 6 = .slice (some ⟨(iv 6).1, 0, none⟩) 1 1 ∧ (iv 6).2 = (iv 6).1 + 1 := hj
      show vs' 6 = .slice (some ⟨(iv' 6).1, 0, none⟩) 1 1 ∧ (iv' 6).2 = (iv' 6).1 + 1
      rw [← e6, ← g6]
      exact hj'
    · have e6 := hv.out 6 (mem_of (by kernel_rfl))
      have e7 := hv.out 7 (mem_of (by kernel_rfl))
      have hj' : vs 7 = .agg #[vs 6, .slice none 0 0] := hj
      show vs' 7 = .agg #[vs' 6, .slice none 0 0]
      rw [← e6, ← e7]
      exact hj'
    · have e8 := hv.out 8 (mem_of (by kernel_rfl))
      have g8 := ha.out 8 (mem_of (by kernel_rfl))
      have hj' : vs 8 = .pointer (some ⟨(iv 8).1, 0, none⟩) ∧ (iv 8).2 = (iv 8).1 + 1 := hj
      show vs' 8 = .pointer (some ⟨(iv' 8).1, 0, none⟩) ∧ (iv' 8).2 = (iv' 8).1 + 1
      rw [← e8, ← g8]
      exact hj'
    · trivial
  case hstep =>
    intro i hi opr ho iv vs w1 hB hS hSo hd he hbd hsep hun K hK
    simp only [List.mem_cons, List.not_mem_nil, or_false] at hi
    have hzB := hB.size
    have HGb := Lib.hid hGb
    clear hGb hGd
    have G1 := HG.out.keep (hSo.out.block _ HG.out.lt (fun ⟨m, hm⟩ => by have := hm.2; omega))
    have g0 := G1.c0
    have g1 := G1.c1
    have ltg := G1.lt
    clear G1
    generalize hA : putFrom _ 0 vs _ = A at hK ⊢
    simp only [putFrom, puts] at hA
    rcases hi with rfl | rfl | rfl | rfl | rfl | rfl | rfl | rfl | rfl | rfl
    all_goals
      simp at ho
      subst ho
      subst hA
    · go_wp2_with fail
      exact Onward.mk (hK (.pointer (some ⟨sb, 0, none⟩)) _ _ (fun h => by cases h) (by first | rfl | (simp only [puts])) (Spares.refl _) (fun iv' _ _ => rfl))
    · have h0 : vs 0 = .pointer (some ⟨sb, 0, none⟩) := hd.out 0 (mem_of (by kernel_rfl)) (by decide) (by kernel_rfl)
      have KS1 := KS.keep (hS.out 0 _ (by kernel_rfl) ⟨rfl, rfl⟩)
      have ksc0 := KS1.c0
      have ksz0 := KS1.frozen 0
      have ksc1 := KS1.c1
      have ksz1 := KS1.frozen 1
      have ksc2 := KS1.c2
      have ksz2 := KS1.frozen 2
      have kslt := KS1.lt
      go_wp2_with fail
      refine (pick_at (n := 8) (N := N) (c := c) ⟨hb0, p, z, KS1, HRX.out.keep ⟨hB.size, fun i hi hn => hB.block i (by omega)⟩, HXS.out, by omega⟩ (by omega) (by omega)).mono ?_
      rintro e w2 ⟨u, rfl, hf, hs, hbk⟩
      go_wp2_with fail
      exact Onward.mk (hK (.int .i64 (PickZ.v (n := 8) (N := N + 1) u)) _ _ (fun h => by cases h) (by first | rfl | (simp only [puts, h0])) (hs.more (fun b h => Or.inl ⟨0, by decide, ⟨rfl, h⟩⟩)) (fun iv' _ hi => ⟨u, rfl, by rw [hi]; exact Freshs.stretch (hf), hbk⟩))
    · go_wp2_with fail
      exact Onward.mk (hK (.agg #[.int .i64 t, .int .i64 a]) _ _ (fun h => by cases h) (by first | rfl | (simp only [puts])) (Spares.refl _) (fun iv' _ _ => rfl))
    · have h2 : vs 2 = .agg #[.int .i64 t, .int .i64 a] := hd.out 2 (mem_of (by kernel_rfl)) (by decide) (by kernel_rfl)
      go_wp2_with fail
      refine (Hcall.out _).mono ?_
      rintro e w2 ⟨rfl, hb⟩
      go_wp2_with fail
      exact Onward.mk (hK (.int .i64 A) _ _ (fun h => by cases h) (by first | rfl | (simp only [puts, h2])) (Spares.of_below hb) (fun iv' _ _ => rfl))
    · have h3 : vs 3 = .int .i64 A := hd.out 3 (mem_of (by kernel_rfl)) (by decide) (by kernel_rfl)
      go_wp2_with fail
      refine (Hmx.out _).mono ?_
      rintro e w2 ⟨rfl, hb⟩
      go_wp2_with fail
      exact Onward.mk (hK (.int .i64 A) _ _ (fun h => by cases h) (by first | rfl | (simp only [puts, h3])) (Spares.of_below hb) (fun iv' _ _ => rfl))
    · obtain ⟨u, h1, f1, fb1⟩ := hd.out 1 (mem_of (by kernel_rfl)) (by decide) (by kernel_rfl)
      have h4 : vs 4 = .int .i64 A := hd.out 4 (mem_of (by kernel_rfl)) (by decide) (by kernel_rfl)
      go_wp2_with fail
      exact Onward.mk (hK (.int .i64 (u.v.tmod A)) _ _ (fun h => by cases h) (by first | rfl | (simp only [puts, h1, h4])) (Spares.refl _) (fun iv' _ _ => by
        show (.int .i64 (u.v.tmod A) : Value) = .int .i64 ((valI (vs 1)).tmod A)
        simp only [h1, h4]))
    · have h5 : vs 5 = .int .i64 ((valI (vs 1)).tmod A) := hd.out 5 (mem_of (by kernel_rfl)) (by decide) (by kernel_rfl)
      go_wp2_with fail
      exact Onward.mk (hK (.slice (some ⟨w1.heap.size, 0, none⟩) 1 1) _ _ (fun h => by cases h) (by first | rfl | (simp only [puts, h5])) (Spares.of_below (Below.alloc (Below.refl _ _) (Nat.le_refl _) _)) (fun iv' _ hi => by
        show Value.slice (some ⟨w1.heap.size, 0, none⟩) 1 1 = .slice (some ⟨(iv' 6).1, 0, none⟩) 1 1 ∧ (iv' 6).2 = (iv' 6).1 + 1 ∧ Blk _ (iv' 6).1 2 [vs 5]
        rw [hi, h5]
        exact ⟨rfl, by simp, Blk.new1 _ _ _⟩))
    · obtain ⟨h6, q6, f6⟩ := hd.out 6 (mem_of (by kernel_rfl)) (by decide) (by kernel_rfl)
      go_wp2_with fail
      exact Onward.mk (hK (.agg #[vs 6, .slice none 0 0]) _ _ (fun h => by cases h) (by first | rfl | (simp only [puts, h6])) (Spares.refl _) (fun iv' _ _ => by
        show (.agg #[vs 6, .slice none 0 0] : Value) = .agg #[vs 6, .slice none 0 0]
        simp only [h6]))
    · go_wp2_with fail
      exact Onward.mk (hK (.pointer (some ⟨w1.heap.size, 0, none⟩)) _ _ (fun h => by cases h) (by first | rfl | (simp only [puts])) (Spares.of_below (Below.alloc (Below.refl _ _) (Nat.le_refl _) _)) (fun iv' _ hi => by
        show Value.pointer (some ⟨w1.heap.size, 0, none⟩) = .pointer (some ⟨(iv' 8).1, 0, none⟩) ∧ (iv' 8).2 = (iv' 8).1 + 1 ∧ Blk _ (iv' 8).1 44 [.slice none 0 0, .slice none 0 0]
        rw [hi]
        exact ⟨rfl, by simp, Blk.new2 _ _ _ _⟩))
    · have h7 : vs 7 = .agg #[vs 6, .slice none 0 0] := hd.out 7 (mem_of (by kernel_rfl)) (by decide) (by kernel_rfl)
      obtain ⟨h6, q6, f6⟩ := hd.out 6 (mem_of (by kernel_rfl)) (by decide) (by kernel_rfl)
      obtain ⟨h8, q8, f8⟩ := hd.out 8 (mem_of (by kernel_rfl)) (by decide) (by kernel_rfl)
      have bc0 := f8.c0
      have bz0 := f8.frozen 0
      have bc1 := f8.c1
      have bz1 := f8.frozen 1
      have blt := f8.lt
      go_wp2_with fail
      exact Onward.mk (hK undef _ _ (fun _ => rfl) (by simp only [puts, h7, h6, h8]) ((spares_sets (b0 := (iv 8).1) (by repeat (first | exact Spares.refl _ | apply Spares.set))).more (fun b h => Or.inr ⟨8, by decide, foot_own (by omega) (by omega)⟩)) (fun iv' ag hi => by
        show (iv' 8).2 = (iv' 8).1 + 1 ∧ Blk _ ((iv' 8).1) 44 [vs 6, .slice none 0 0]
        rw [← ag.out 8 (mem_of (by kernel_rfl)), h6]
        exact ⟨q8, ((f8.set 0 _).set 1 _)⟩))
  case hQ =>
    intro iv vs wx hB hSp hd he hbd hsep
    have hzB := hB.size
    have h0 : vs 0 = .pointer (some ⟨sb, 0, none⟩) := hd.out 0 (mem_of (by kernel_rfl)) (not_eaten (by kernel_rfl))
    obtain ⟨u, h1, f1, fb1⟩ := hd.out 1 (mem_of (by kernel_rfl)) (not_eaten (by kernel_rfl))
    have h2 : vs 2 = .agg #[.int .i64 t, .int .i64 a] := hd.out 2 (mem_of (by kernel_rfl)) (not_eaten (by kernel_rfl))
    have h3 : vs 3 = .int .i64 A := hd.out 3 (mem_of (by kernel_rfl)) (not_eaten (by kernel_rfl))
    have h4 : vs 4 = .int .i64 A := hd.out 4 (mem_of (by kernel_rfl)) (not_eaten (by kernel_rfl))
    have h5 : vs 5 = .int .i64 ((valI (vs 1)).tmod A) := hd.out 5 (mem_of (by kernel_rfl)) (not_eaten (by kernel_rfl))
    obtain ⟨h6, q6, f6⟩ := hd.out 6 (mem_of (by kernel_rfl)) (not_eaten (by kernel_rfl))
    have h7 : vs 7 = .agg #[vs 6, .slice none 0 0] := hd.out 7 (mem_of (by kernel_rfl)) (not_eaten (by kernel_rfl))
    obtain ⟨h8, q8⟩ := he.out 8 (mem_of (by kernel_rfl))
    obtain ⟨q9, f9⟩ := hd.out 9 (mem_of (by kernel_rfl)) (not_eaten (by kernel_rfl))
    simp only [putFrom, puts]
    obtain ⟨q1, f9⟩ := (⟨q8, f9⟩ : _ ∧ _)
    have bd6 := hbd.out 6 (mem_of (by kernel_rfl))
    have bd8 := hbd.out 8 (mem_of (by kernel_rfl))
    have sp68 := hsep.out 6 (mem_of (by kernel_rfl)) 8 (mem_of (by kernel_rfl)) (by decide)
    unfold Sep at sp68
    rw [h5, h1] at f6
    rw [h6] at f9
    obtain ⟨g6, hg6⟩ : ∃ v, (iv 6).1 = v := ⟨_, rfl⟩
    obtain ⟨wb, hwb⟩ : ∃ v, (iv 8).1 = v := ⟨_, rfl⟩
    rw [hg6] at f6 f9 bd6 sp68 q6
    rw [hwb] at f9 bd8 sp68 q8 h8
    have up := u.hp
    have hS' : SrcW B sb (N + 1) wx := ⟨hb0, xs, s, c, u.p, u.y, fb1, HRX.out.keep ⟨hB.size, fun i hi hn => hB.block i (by omega)⟩, HXS.out, by omega⟩
    have HS : Hid (WdS B sb wb 1 (N + 1) w0 wx [u.v.tmod A] [] (.slice (some ⟨g6, 0, none⟩) 1 1) (.slice none 0 0)) := ⟨WdB.made f6 f9 (by omega) (by omega) (by omega), Nat.le_refl _, Nat.le_refl _, Nat.zero_le _, hS', hSp.out.more (fun i ⟨m, hm⟩ => hm.2)⟩
    simp only [h8]
    clear hd he hbd hsep h0 h1 h2 h3 h4 h5 h6 h7 h8 f1 fb1 f6 f9 q1 q6 q8 q9 hS' bd6 bd8 sp68 hB hSp hGb hGd KS HRX HXS HD
    go_wp2_with fail
    refine (pick_i HS.out.dr.1 (by omega) (by omega)).mono ?_
    rintro f w2 ⟨k0, rfl, k1, k2, D1⟩
    have HS2 := Lib.hid (HS.out.draw (by omega) D1)
    obtain ⟨k, rfl⟩ : ∃ k : Nat, k0 = (k : Int) := ⟨k0.toNat, by omega⟩
    clear D1 HS
    go_wp2_with fail
    go_loopw [6] (fun i wr => ∃ (j : Nat) (ax ay : List Int) (va vb : Value), j ≤ 4 ∧ i = .int .i64 j ∧ WdS B sb wb (1 + (4 - j)) (N + 2 + 2 * (4 - j)) w0 wr ax ay va vb) (fun i _ => (intOf i).toNat)
    case atStart => exact ⟨k, _, _, _, _, by omega, rfl, HS2.out.more (by omega) (by omega)⟩
    case round =>
      clear HS2
      obtain ⟨j, ax, ay, va, vb, hj, rfl, hst⟩ := hrel
      obtain ⟨wr', rfl⟩ : ∃ v, v = wr := ⟨_, rfl⟩
      obtain ⟨a1, ca1, rfl, hca1, hca2⟩ := hst.wd.shapeA
      obtain ⟨a2, ca2, rfl, hcb1, hcb2⟩ := hst.wd.shapeB
      unfold maxLen at hca2 hcb2
      have hj0 := Int.natCast_nonneg j
      have HS := Lib.hid hst
      have hzr := hst.dr.size
      by_cases hj1 : 0 < j
      rotate_left
      · obtain rfl : j = 0 := by omega
        clear hst
        have e0 : ((0 : Nat) : Int) = 0 := rfl
        go_wp2_with fail
        refine (pick_i HS.out.dr.1 (by omega) (by omega)).mono ?_
        rintro f w3 ⟨q0, rfl, q1, q2, D1⟩
        have HS2 := Lib.hid (HS.out.draw hsb D1)
        clear D1 HS
        have HS := HS2
        clear HS2
        by_cases c0 : q0 = 0
        · subst c0
          have hBn : Bun w0.heap.size w3 [.app 2 1 ax.length (ax.map D.int) (.slice a1 ax.length ca1), .box wb 44 [.slice a1 ax.length ca1, .slice a2 ay.length ca2], .app 2 1 ay.length (ay.map D.int) (.slice a2 ay.length ca2)] := HS.out.wd
          have hBu := hBn.alloc (.cells #[.int .i64 0] 2)
          have hNb := Blk.new1 w3 2 (.int .i64 0)
          obtain ⟨x0, x1, ltx⟩ := (hBn.box 1 rfl).1.all2
          have hlx := HS.out.lx
          have hly := HS.out.ly
          have hwz := HS.out.dr.size
          clear hBn
          go_wp2_with (first
            | (at_builtin; go_must (refine wpList_append_bun _ rfl _ _ 42 rfl 2 (.int .i64 0) 1 8 Try.underlying42 info_int64 rfl (by decide) hBu (by simp <;> omega) 2 _ rfl rfl ⟨w3.heap.size, 0, none⟩ 1 1 [.int .i64 0] rfl (news_blk hNb) (int_own _ _) rfl (by simp [Value.oneCell']) (by omega) (by omega) (by unfold maxLen; omega) ?_); intro g7 cap7 w7 hbun7 hb7
               have hs7 := hbun7.store 1 rfl 1 (.slice (some ⟨g7, 0, none⟩) (ay.length + 1) cap7)
               obtain ⟨y0, y1, lty⟩ := (hbun7.box 1 rfl).1.all2
               have yf := (hbun7.box 1 rfl).1.frozen 1
               have hb7s : Below w0.heap.size w3 (w7.setCell ⟨wb, 1, none⟩ (.slice (some ⟨g7, 0, none⟩) (ay.length + 1) cap7)) := Below.setCell (p := ⟨wb, 1, none⟩) ((Below.alloc (Below.refl w0.heap.size w3) (by omega) (.cells #[.int .i64 0] 2)).trans hb7) (by have := (hbun7.box 1 rfl).2; exact this) _
               have hdr7 := HS.out.dr.base hb7s hB0 hsb
               obtain ⟨s0, s1, lts⟩ := (hs7.box 1 rfl).1.all2
               have RW := hdr7.blk HR.out (show w.heap.size + 1 ≠ sb by omega)
               obtain ⟨r0, r1, rl⟩ := RW.all2
               have rf0 := RW.frozen 0
               have rf1 := RW.frozen 1
               have hend := hdr7))
          have hwd7 : WdB w0.heap.size (w7.setCell ⟨wb, 1, none⟩ (.slice (some ⟨g7, 0, none⟩) (ay.length + 1) cap7)) wb ax (ay ++ [0]) (.slice a1 ax.length ca1) (.slice (some ⟨g7, 0, none⟩) (ay ++ [0]).length cap7) := by
            unfold WdB
            rw [List.length_append, List.map_append]
            exact hs7
          have el : (ay ++ [(0 : Int)]).length = ay.length + 1 := by simp
          obtain ⟨w8, hw8⟩ : ∃ v, w7.setCell ⟨wb, 1, none⟩ (.slice (some ⟨g7, 0, none⟩) (ay.length + 1) cap7) = v := ⟨_, rfl⟩
          rw [hw8] at RW hdr7 hwd7 ⊢
          obtain ⟨w9, e9, R9, hs9⟩ := Blk.set2 RW (.slice a1 ax.length ca1) (.slice (some ⟨g7, 0, none⟩) (ay.length + 1) cap7)
          rw [e9]
          obtain ⟨rr0, rr1, -⟩ := R9.all2
          refine bodyPost_ret (v := .agg #[.slice a1 ax.length ca1, .slice (some ⟨g7, 0, none⟩) (ay.length + 1) cap7]) (by simp [results, Try.results69, go_sem, rr0, rr1]) rfl ?_
          have hwz := (hdr7).size
          exact ⟨_, _, _, _, _, _, by rw [el], (((hwd7).freshs (W := w0) (Nat.le_refl _)).keep fun b h1 h2 => hs9.block b h2 (by omega)).from (by omega), ((HD0.out.trans (hdr7)).set hs9 (by omega) hBs hbw).more (by omega)⟩
        have n0 : (q0 == 0) = false := by simpa using c0
        by_cases c1 : q0 = 1
        · subst c1
          obtain ⟨ga, cap1, x1, rest, e1, hcc, KA, hgB, hgw, hset⟩ := HS.out.wd.headA HS.out.one
          simp only [Value.slice.injEq, true_and] at e1
          obtain ⟨rfl, rfl⟩ := e1
          have Hset := Lib.hid hset
          have D := HS.out.dr
          have hax1 : (0 : Int) < (ax.length : Int) := by have := HS.out.one; omega
          have HWd := Lib.hid HS.out.wd.box.1
          have hwbB := HS.out.wd.box.2
          clear hset
          go_wp2_with fail
          obtain ⟨xs, s, c, hSV⟩ := D.1.v
          obtain ⟨hb0, p, z, KS, hrx, hxs, hpN⟩ := hSV
          have HRX := Lib.hid hrx
          have HXS := Lib.hid hxs
          have HD := Lib.hid D
          have hzD := D.size
          clear D hrx hxs
          have hGb : ∀ m b, (fun m b => (m = 0 ∧ b = sb) ∨ (m = 1 ∧ b = ga)) m b → (B) ≤ b ∧ b < (w3).heap.size := by
            intro m b hg
            rcases hg with ⟨rfl, hg⟩ | ⟨rfl, hg⟩
            · subst hg
              have q := KS.lt
              omega
            · subst hg
              have q := KA.lt
              omega
          have hGd : ∀ m m' b, (fun m b => (m = 0 ∧ b = sb) ∨ (m = 1 ∧ b = ga)) m b → (fun m b => (m = 0 ∧ b = sb) ∨ (m = 1 ∧ b = ga)) m' b → m = m' := by
            intro m m' b h h'
            rcases h with ⟨rfl, h⟩ | ⟨rfl, h⟩ <;> rcases h' with ⟨rfl, h'⟩ | ⟨rfl, h'⟩ <;> first
              | rfl
              | (exfalso; omega)
          refine region_rs [] [(4, 0), (6, 1)] (fun m b => (m = 0 ∧ b = sb) ∨ (m = 1 ∧ b = ga)) (B) (fun i iv vs wx => match i with
            | 0 => vs 0 = .pointer (some ⟨wb, 0, none⟩)
            | 1 => vs 1 = .slice (some ⟨ga, 0, none⟩) ax.length ca1
            | 2 => vs 2 = .pointer (some ⟨sb, 0, none⟩)
            | 3 => vs 3 = .slice (some ⟨(iv 3).1, 0, none⟩) 3 3 ∧ (iv 3).2 = (iv 3).1 + 1 ∧ Blk wx (iv 3).1 2 [.int .i64 (-1), .int .i64 8, .int .i64 2]
            | 4 => ∃ u, vs 4 = .int .i64 (AnyZ.v (N := (N + 2 + 2 * (4 - 0) + 1) + 1) u) ∧ FreshIn (iv 4) wx [] [] ∧ Blk wx (sb) 101 [.slice s xs.length c, .int .i64 u.p, .int .u64 u.y]
            | 5 => vs 5 = .pointer (some ⟨ga, 0, none⟩)
            | 6 => Blk wx (ga) 2 (.int .i64 (valI (vs 4)) :: rest)
            | _ => True) (fun i iv vs => match i with
            | 0 => vs 0 = .pointer (some ⟨wb, 0, none⟩)
            | 1 => vs 1 = .slice (some ⟨ga, 0, none⟩) ax.length ca1
            | 2 => vs 2 = .pointer (some ⟨sb, 0, none⟩)
            | 3 => vs 3 = .slice (some ⟨(iv 3).1, 0, none⟩) 3 3 ∧ (iv 3).2 = (iv 3).1 + 1
            | 4 => ∃ u, vs 4 = .int .i64 (AnyZ.v (N := (N + 2 + 2 * (4 - 0) + 1) + 1) u)
            | 5 => vs 5 = .pointer (some ⟨ga, 0, none⟩)
            | 6 => True
            | _ => True) (by kernel_rfl) (by kernel_rfl) [0, 1, 2, 3, 4, 5, 6] (by kernel_rfl) ?hbase ?hGb ?hG ?hJ ?hE ?hEE ?hstep ?hQ
          case hbase => first | exact Nat.le_refl _ | omega | (simp; omega)
          case hGb =>
            exact hGb
          case hG =>
            exact hGd
          case hJ =>
            intro i hi iv iv' vs vs' wx wx' ha hv hz hk hj
            simp only [List.mem_cons, List.not_mem_nil, or_false] at hi
            rcases hi with rfl | rfl | rfl | rfl | rfl | rfl | rfl
            · exact (hv.out 0 (mem_of (by kernel_rfl))).symm.trans hj
            · exact (hv.out 1 (mem_of (by kernel_rfl))).symm.trans hj
            · exact (hv.out 2 (mem_of (by kernel_rfl))).symm.trans hj
            · have e3 := hv.out 3 (mem_of (by kernel_rfl))
              have g3 := ha.out 3 (mem_of (by kernel_rfl))
              obtain ⟨q1, q3, q2⟩ := hj
              show vs' 3 = .slice (some ⟨(iv' 3).1, 0, none⟩) 3 3 ∧ (iv' 3).2 = (iv' 3).1 + 1 ∧ Blk wx' (iv' 3).1 2 [.int .i64 (-1), .int .i64 8, .int .i64 2]
              rw [← e3, ← g3]
              exact ⟨q1, q3, q2.keep (hk.out _ q2.lt (foot_own (Nat.le_refl _) (by omega)))⟩
            · have e4 := hv.out 4 (mem_of (by kernel_rfl))
              have g4 := ha.out 4 (mem_of (by kernel_rfl))
              obtain ⟨u, q1, q2, q3⟩ := hj
              exact ⟨u, e4 ▸ q1, g4 ▸ q2.keep (fun b hb h1 h2 => hk.out b hb (foot_own h1 h2)), q3.keep (hk.out _ q3.lt (foot_given 0 (by decide) (Or.inl ⟨rfl, rfl⟩)))⟩
            · exact (hv.out 5 (mem_of (by kernel_rfl))).symm.trans hj
            · have e4 := hv.out 4 (mem_of (by kernel_rfl))
              have hj' : Blk wx (ga) 2 (.int .i64 (valI (vs 4)) :: rest) := hj
              show Blk wx' (ga) 2 (.int .i64 (valI (vs' 4)) :: rest)
              rw [← e4]
              exact hj'.keep (hk.out _ hj'.lt (foot_given 1 (by decide) (Or.inr ⟨rfl, rfl⟩)))
          case hE =>
            intro i hi iv vs wx hj
            simp only [List.mem_cons, List.not_mem_nil, or_false] at hi
            rcases hi with rfl | rfl | rfl | rfl | rfl | rfl | rfl
            · exact hj
            · exact hj
            · exact hj
            · exact ⟨hj.1, hj.2.1⟩
            · obtain ⟨u, q1, -⟩ := hj
              exact ⟨u, q1⟩
            · exact hj
            · trivial
          case hEE =>
            intro i hi iv iv' vs vs' ha hv hj
            simp only [List.mem_cons, List.not_mem_nil, or_false] at hi
            rcases hi with rfl | rfl | rfl | rfl | rfl | rfl | rfl
            · exact (hv.out 0 (mem_of (by kernel_rfl))).symm.trans hj
            · exact (hv.out 1 (mem_of (by kernel_rfl))).symm.trans hj
            · exact (hv.out 2 (mem_of (by kernel_rfl))).symm.trans hj
            · have e3 := hv.out 3 (mem_of (by kernel_rfl))
              have g3 := ha.out 3 (mem_of (by kernel_rfl))
              have hj' : vs 3 = .slice (some ⟨(iv 3).1, 0, none⟩) 3 3 ∧ (iv 3).2 = (iv 3).1 + 1 := hj
              show vs' 3 = .slice (some ⟨(iv' 3).1, 0, none⟩) 3 3 ∧ (iv' 3).2 = (iv' 3).1 + 1
              rw [← e3, ← g3]
              exact hj'
            · have e4 := hv.out 4 (mem_of (by kernel_rfl))
              have hj' : ∃ u, vs 4 = .int .i64 (AnyZ.v (N := (N + 2 + 2 * (4 - 0) + 1) + 1) u) := hj
              show ∃ u, vs' 4 = .int .i64 (AnyZ.v (N := (N + 2 + 2 * (4 - 0) + 1) + 1) u)
              rw [← e4]
              exact hj'
            · exact (hv.out 5 (mem_of (by kernel_rfl))).symm.trans hj
            · trivial
          case hstep =>
            intro i hi opr ho iv vs w1 hB hS hSo hd he hbd hsep hun K hK
            simp only [List.mem_cons, List.not_mem_nil, or_false] at hi
            have hzB := hB.size
            have HGb := Lib.hid hGb
            clear hGb hGd
            have W1 := HWd.out.keep (hSo.out.block _ HWd.out.lt (fun ⟨m, hm⟩ => by rcases hm with ⟨_, h⟩ | ⟨_, h⟩ <;> omega))
            have ww0 := W1.c0
            have ww1 := W1.c1
            have ltw := W1.lt
            clear W1
            generalize hA : putFrom _ 0 vs _ = A at hK ⊢
            simp only [putFrom, puts] at hA
            rcases hi with rfl | rfl | rfl | rfl | rfl | rfl | rfl
            all_goals
              simp at ho
              subst ho
              subst hA
            · go_wp2_with fail
              exact Onward.mk (hK (.pointer (some ⟨wb, 0, none⟩)) _ _ (fun h => by cases h) (by first | rfl | (simp only [puts])) (Spares.refl _) (fun iv' _ _ => rfl))
            · have h0 : vs 0 = .pointer (some ⟨wb, 0, none⟩) := hd.out 0 (mem_of (by kernel_rfl)) (by decide) (by kernel_rfl)
              go_wp2_with fail
              exact Onward.mk (hK (.slice (some ⟨ga, 0, none⟩) ax.length ca1) _ _ (fun h => by cases h) (by first | rfl | (simp only [puts, h0])) (Spares.refl _) (fun iv' _ _ => rfl))
            · go_wp2_with fail
              exact Onward.mk (hK (.pointer (some ⟨sb, 0, none⟩)) _ _ (fun h => by cases h) (by first | rfl | (simp only [puts])) (Spares.refl _) (fun iv' _ _ => rfl))
            · go_wp2_with fail
              exact Onward.mk (hK (.slice (some ⟨w1.heap.size, 0, none⟩) 3 3) _ _ (fun h => by cases h) (by first | rfl | (simp only [puts])) (Spares.of_below (Below.alloc (Below.refl _ _) (Nat.le_refl _) _)) (fun iv' _ hi => by
                show Value.slice (some ⟨w1.heap.size, 0, none⟩) 3 3 = .slice (some ⟨(iv' 3).1, 0, none⟩) 3 3 ∧ (iv' 3).2 = (iv' 3).1 + 1 ∧ Blk _ (iv' 3).1 2 [.int .i64 (-1), .int .i64 8, .int .i64 2]
                rw [hi]
                exact ⟨rfl, by simp, Blk.new3 _ _ _ _ _⟩))
            · have h2 : vs 2 = .pointer (some ⟨sb, 0, none⟩) := hd.out 2 (mem_of (by kernel_rfl)) (by decide) (by kernel_rfl)
              obtain ⟨h3, q3, f3⟩ := hd.out 3 (mem_of (by kernel_rfl)) (by decide) (by kernel_rfl)
              have KS1 := KS.keep (hS.out 0 _ (by kernel_rfl) (Or.inl ⟨rfl, rfl⟩))
              have ksc0 := KS1.c0
              have ksz0 := KS1.frozen 0
              have ksc1 := KS1.c1
              have ksz1 := KS1.frozen 1
              have ksc2 := KS1.c2
              have ksz2 := KS1.frozen 2
              have kslt := KS1.lt
              go_wp2_with fail
              refine (among_at (N := (N + 2 + 2 * (4 - 0) + 1)) (c := c) ⟨hb0, p, z, KS1, HRX.out.keep ⟨hB.size, fun i hi hn => hB.block i (by omega)⟩, HXS.out, by omega⟩ (by omega) f3 (blk_ne f3 KS1)).mono ?_
              rintro e w2 ⟨u, rfl, hf, hs, hbk⟩
              go_wp2_with fail
              exact Onward.mk (hK (.int .i64 (AnyZ.v (N := (N + 2 + 2 * (4 - 0) + 1) + 1) u)) _ _ (fun h => by cases h) (by first | rfl | (simp only [puts, h2, h3])) (hs.more (fun b h => Or.inl ⟨0, by decide, (Or.inl ⟨rfl, h⟩)⟩)) (fun iv' _ hi => ⟨u, rfl, by rw [hi]; exact Freshs.stretch (hf), hbk⟩))
            · have h1 : vs 1 = .slice (some ⟨ga, 0, none⟩) ax.length ca1 := hd.out 1 (mem_of (by kernel_rfl)) (by decide) (by kernel_rfl)
              go_wp2_with fail
              exact Onward.mk (hK (.pointer (some ⟨ga, 0, none⟩)) _ _ (fun h => by cases h) (by first | rfl | (simp only [puts, h1])) (Spares.refl _) (fun iv' _ _ => rfl))
            · have h5 : vs 5 = .pointer (some ⟨ga, 0, none⟩) := hd.out 5 (mem_of (by kernel_rfl)) (by decide) (by kernel_rfl)
              obtain ⟨u, h4, f4, fb4⟩ := hd.out 4 (mem_of (by kernel_rfl)) (by decide) (by kernel_rfl)
              have KA1 := KA.keep (hS.out 1 _ (by kernel_rfl) (Or.inr ⟨rfl, rfl⟩))
              have kac0 := KA1.c0
              have kaz0 := KA1.frozen 0
              have kalt := KA1.lt
              go_wp2_with fail
              exact Onward.mk (hK undef _ _ (fun _ => rfl) (by simp only [puts, h5, h4]) ((spares_sets (b0 := ga) (by repeat (first | exact Spares.refl _ | apply Spares.set))).more (fun b h => Or.inl ⟨1, by decide, (Or.inr ⟨rfl, h⟩)⟩)) (fun iv' ag hi => by
                show Blk _ (ga) 2 (.int .i64 (valI (vs 4)) :: rest)
                rw [h4]
                exact (KA1.set 0 _)))
          case hQ =>
            intro iv vs wx hB hSp hd he hbd hsep
            have hzB := hB.size
            have h0 : vs 0 = .pointer (some ⟨wb, 0, none⟩) := hd.out 0 (mem_of (by kernel_rfl)) (not_eaten (by kernel_rfl))
            have h1 : vs 1 = .slice (some ⟨ga, 0, none⟩) ax.length ca1 := hd.out 1 (mem_of (by kernel_rfl)) (not_eaten (by kernel_rfl))
            have h2 : vs 2 = .pointer (some ⟨sb, 0, none⟩) := hd.out 2 (mem_of (by kernel_rfl)) (not_eaten (by kernel_rfl))
            obtain ⟨h3, q3, f3⟩ := hd.out 3 (mem_of (by kernel_rfl)) (not_eaten (by kernel_rfl))
            obtain ⟨u, h4, f4, fb4⟩ := hd.out 4 (mem_of (by kernel_rfl)) (not_eaten (by kernel_rfl))
            have h5 : vs 5 = .pointer (some ⟨ga, 0, none⟩) := hd.out 5 (mem_of (by kernel_rfl)) (not_eaten (by kernel_rfl))
            have f6 : Blk _ (ga) 2 (.int .i64 (valI (vs 4)) :: rest) := hd.out 6 (mem_of (by kernel_rfl)) (not_eaten (by kernel_rfl))
            simp only [putFrom, puts]
            rw [h4] at f6
            have up := u.hp
            have hzx := hSp.out.size
            have hS' : SrcW B sb ((N + 2 + 2 * (4 - 0) + 1) + 1) wx := ⟨hb0, xs, s, c, u.p, u.y, fb4, HRX.out.keep ⟨hB.size, fun i hi hn => hB.block i (by omega)⟩, HXS.out, by omega⟩
            have hdr : Drew B sb ((N + 2 + 2 * (4 - 0) + 1) + 1) w0 wx := ⟨hS', ⟨hSp.out.os.trans HD.out.2.os, hSp.out.tape.trans HD.out.2.tape, hSp.out.output.trans HD.out.2.output, by omega, fun i hi hn => (hSp.out.block i (by omega) (fun ⟨m, hm⟩ => by rcases hm with ⟨_, h⟩ | ⟨_, h⟩ <;> omega)).trans (HD.out.2.block i hi hn)⟩⟩
            have hln : (u.v :: ax.drop 1).length = ax.length := by have := HS.out.one; simp; omega
            have hlx := HS.out.lx
            have hly := HS.out.ly
            have hwd3 : WdB w0.heap.size wx wb (u.v :: ax.drop 1) ay (.slice (some ⟨ga, 0, none⟩) ax.length ca1) (.slice a2 ay.length ca2) := Hset.out wx u.v hzx (fun b h1 h2 h3 => hSp.out.block b h2 (fun ⟨m, hm⟩ => by rcases hm with ⟨_, h⟩ | ⟨_, h⟩ <;> omega)) f6
            have HS3 : Hid (WdS B sb wb 5 ((N + 2 + 2 * (4 - 0) + 1) + 1) w0 wx (u.v :: ax.drop 1) ay (.slice (some ⟨ga, 0, none⟩) ax.length ca1) (.slice a2 ay.length ca2)) := ⟨hwd3, by simp, by omega, by omega, hdr⟩
            have Hln := Lib.hid hln
            clear hd he hbd hsep h0 h1 h2 h3 h4 h5 f3 q3 f4 fb4 f6 hB hSp hS' hdr hGb hGd KS HRX HXS HD HS hwd3 hln KA HWd
            obtain ⟨ax2, hax2⟩ : ∃ l, u.v :: ax.drop 1 = l := ⟨_, rfl⟩
            have hln2 := Hln.out
            rw [hax2] at HS3 hln2
            rw [← hln2] at HS3
            have HS := HS3
            clear HS3 Hln hax2 hln2 Hset hax1
            obtain ⟨x0, x1, lx⟩ := HS.out.wd.box.1.all2
            have RW := HS.out.dr.blk HR.out (show w.heap.size + 1 ≠ sb by omega)
            obtain ⟨r0, r1, rl⟩ := RW.all2
            have rf0 := RW.frozen 0
            have rf1 := RW.frozen 1
            go_wp2_with fail
            obtain ⟨w9, e9, R9, hs9⟩ := Blk.set2 RW (.slice (some ⟨ga, 0, none⟩) ax2.length ca1) (.slice a2 ay.length ca2)
            rw [e9]
            obtain ⟨rr0, rr1, -⟩ := R9.all2
            refine bodyPost_ret (v := .agg #[.slice (some ⟨ga, 0, none⟩) ax2.length ca1, .slice a2 ay.length ca2]) (by simp [results, Try.results69, go_sem, rr0, rr1]) rfl ?_
            have hwz := (HS.out.dr).size
            exact ⟨_, _, _, _, _, _, rfl, (((HS.out.wd).freshs (W := w0) (Nat.le_refl _)).keep fun b h1 h2 => hs9.block b h2 (by omega)).from (by omega), ((HD0.out.trans (HS.out.dr)).set hs9 (by omega) hBs hbw).more (by omega)⟩
        have n1 : (q0 == 1) = false := by simpa using c1
        by_cases c2 : q0 = 2
        · subst c2
          have HS3 : Hid (WdS B sb wb 20 (N + 12 + ay.length) w0 w3 ax ay (.slice a1 ax.length ca1) (.slice a2 ay.length ca2) ∧ ax.length ≤ 5 + ay.length ∧ ay.length ≤ 11) := ⟨HS.out.more (by omega) (by omega), by have := HS.out.lx; omega, by have := HS.out.ly; omega⟩
          clear HS hca1 hca2 hcb1 hcb2 c0 c1 n0 n1
          go_wp2_with fail
          go_loopw [67] (fun _ wr => ∃ (ax ay : List Int) (va vb : Value), WdS B sb wb 20 (N + 12 + ay.length) w0 wr ax ay va vb ∧ ax.length ≤ 5 + ay.length ∧ ay.length ≤ 11) (fun _ wr => 12 - actsN wr wb)
          case atStart => exact ⟨_, _, _, _, HS3.out⟩
          case round =>
            clear HS3
            obtain ⟨ax, ay, va, vb, hst, hl5, hl11⟩ := hrel
            obtain ⟨wq, rfl⟩ : ∃ v, v = wr := ⟨_, rfl⟩
            obtain ⟨a1, ca1, rfl, hca1, hca2⟩ := hst.wd.shapeA
            obtain ⟨a2, ca2, rfl, hcb1, hcb2⟩ := hst.wd.shapeB
            unfold maxLen at hca2 hcb2
            have HS := Lib.hid hst
            have hzr := hst.dr.size
            have hact := actsN_eq hst.wd.box.1
            clear hst
            have D := HS.out.dr
            have HWd := Lib.hid HS.out.wd.box.1
            have hwbB := HS.out.wd.box.2
            go_wp2_with fail
            obtain ⟨xs, s, c, hSV⟩ := D.1.v
            obtain ⟨hb0, p, z, KS, hrx, hxs, hpN⟩ := hSV
            have HRX := Lib.hid hrx
            have HXS := Lib.hid hxs
            have HD := Lib.hid D
            have hzD := D.size
            clear D hrx hxs
            have hGb : ∀ m b, (fun m b => (m = 0 ∧ b = sb)) m b → (B) ≤ b ∧ b < (wq).heap.size := by
              intro m b hg
              rcases hg with ⟨rfl, hg⟩
              · subst hg
                have q := KS.lt
                omega
            have hGd : ∀ m m' b, (fun m b => (m = 0 ∧ b = sb)) m b → (fun m b => (m = 0 ∧ b = sb)) m' b → m = m' := by
              intro m m' b h h'
              rcases h with ⟨rfl, h⟩ <;> rcases h' with ⟨rfl, h'⟩ <;> first
                | rfl
            refine region_rs [] [(4, 0)] (fun m b => (m = 0 ∧ b = sb)) (B) (fun i iv vs wx => match i with
              | 0 => vs 0 = .pointer (some ⟨wb, 1, none⟩)
              | 1 => vs 1 = .slice a2 ay.length ca2
              | 2 => vs 2 = .int .i64 ay.length
              | 3 => vs 3 = .pointer (some ⟨sb, 0, none⟩)
              | 4 => ∃ u, vs 4 = .int .i64 (PickZ.v (n := 2) (N := (N + 12 + ay.length) + 1) u) ∧ FreshIn (iv 4) wx [] [] ∧ Blk wx (sb) 101 [.slice s xs.length c, .int .i64 u.p, .int .u64 u.y]
              | 5 => vs 5 = .int .i64 (wrap64 (10 + valI (vs 4)))
              | 6 => vs 6 = .bool (decide ((ay.length:Int) < valI (vs 5)))
              | _ => True) (fun i iv vs => match i with
              | 0 => vs 0 = .pointer (some ⟨wb, 1, none⟩)
              | 1 => vs 1 = .slice a2 ay.length ca2
              | 2 => vs 2 = .int .i64 ay.length
              | 3 => vs 3 = .pointer (some ⟨sb, 0, none⟩)
              | 4 => ∃ u, vs 4 = .int .i64 (PickZ.v (n := 2) (N := (N + 12 + ay.length) + 1) u)
              | 5 => vs 5 = .int .i64 (wrap64 (10 + valI (vs 4)))
              | 6 => vs 6 = .bool (decide ((ay.length:Int) < valI (vs 5)))
              | _ => True) (by kernel_rfl) (by kernel_rfl) [0, 1, 2, 3, 4, 5, 6] (by kernel_rfl) ?hbase ?hGb ?hG ?hJ ?hE ?hEE ?hstep ?hQ
            case hbase => first | exact Nat.le_refl _ | omega | (simp; omega)
            case hGb =>
              exact hGb
            case hG =>
              exact hGd
            case hJ =>
              intro i hi iv iv' vs vs' wx wx' ha hv hz hk hj
              simp only [List.mem_cons, List.not_mem_nil, or_false] at hi
              rcases hi with rfl | rfl | rfl | rfl | rfl | rfl | rfl
              · exact (hv.out 0 (mem_of (by kernel_rfl))).symm.trans hj
              · exact (hv.out 1 (mem_of (by kernel_rfl))).symm.trans hj
              · exact (hv.out 2 (mem_of (by kernel_rfl))).symm.trans hj
              · exact (hv.out 3 (mem_of (by kernel_rfl))).symm.trans hj
              · have e4 := hv.out 4 (mem_of (by kernel_rfl))
                have g4 := ha.out 4 (mem_of (by kernel_rfl))
                obtain ⟨u, q1, q2, q3⟩ := hj
                exact ⟨u, e4 ▸ q1, g4 ▸ q2.keep (fun b hb h1 h2 => hk.out b hb (foot_own h1 h2)), q3.keep (hk.out _ q3.lt (foot_given 0 (by decide) ⟨rfl, rfl⟩))⟩
              · have e4 := hv.out 4 (mem_of (by kernel_rfl))
                have e5 := hv.out 5 (mem_of (by kernel_rfl))
                have hj' : vs 5 = .int .i64 (wrap64 (10 + valI (vs 4))) := hj
                show vs' 5 = .int .i64 (wrap64 (10 + valI (vs' 4)))
                rw [← e4, ← e5]
                exact hj'
              · have e5 := hv.out 5 (mem_of (by kernel_rfl))
                have e6 := hv.out 6 (mem_of (by kernel_rfl))
                have hj' : vs 6 = .bool (decide ((ay.length:Int) < valI (vs 5))) := hj
                show vs' 6 = .bool (decide ((ay.length:Int) < valI (vs' 5)))
                rw [← e5, ← e6]
                exact hj'
            case hE =>
              intro i hi iv vs wx hj
              simp only [List.mem_cons, List.not_mem_nil, or_false] at hi
              rcases hi with rfl | rfl | rfl | rfl | rfl | rfl | rfl
              · exact hj
              · exact hj
              · exact hj
              · exact hj
              · obtain ⟨u, q1, -⟩ := hj
                exact ⟨u, q1⟩
              · exact hj
              · exact hj
            case hEE =>
              intro i hi iv iv' vs vs' ha hv hj
              simp only [List.mem_cons, List.not_mem_nil, or_false] at hi
              rcases hi with rfl | rfl | rfl | rfl | rfl | rfl | rfl
              · exact (hv.out 0 (mem_of (by kernel_rfl))).symm.trans hj
              · exact (hv.out 1 (mem_of (by kernel_rfl))).symm.trans hj
              · exact (hv.out 2 (mem_of (by kernel_rfl))).symm.trans hj
              · exact (hv.out 3 (mem_of (by kernel_rfl))).symm.trans hj
              · have e4 := hv.out 4 (mem_of (by kernel_rfl))
                have hj' : ∃ u, vs 4 = .int .i64 (PickZ.v (n := 2) (N := (N + 12 + ay.length) + 1) u) := hj
                show ∃ u, vs' 4 = .int .i64 (PickZ.v (n := 2) (N := (N + 12 + ay.length) + 1) u)
                rw [← e4]
                exact hj'
              · have e4 := hv.out 4 (mem_of (by kernel_rfl))
                have e5 := hv.out 5 (mem_of (by kernel_rfl))
                have hj' : vs 5 = .int .i64 (wrap64 (10 + valI (vs 4))) := hj
                show vs' 5 = .int .i64 (wrap64 (10 + valI (vs' 4)))
                rw [← e4, ← e5]
                exact hj'
              · have e5 := hv.out 5 (mem_of (by kernel_rfl))
                have e6 := hv.out 6 (mem_of (by kernel_rfl))
                have hj' : vs 6 = .bool (decide ((ay.length:Int) < valI (vs 5))) := hj
                show vs' 6 = .bool (decide ((ay.length:Int) < valI (vs' 5)))
                rw [← e5, ← e6]
                exact hj'
            case hstep =>
              intro i hi opr ho iv vs w1 hB hS hSo hd he hbd hsep hun K hK
              simp only [List.mem_cons, List.not_mem_nil, or_false] at hi
              have hzB := hB.size
              have HGb := Lib.hid hGb
              clear hGb hGd
              have W1 := HWd.out.keep (hSo.out.block _ HWd.out.lt (fun ⟨m, hm⟩ => by have := hm.2; omega))
              have ww0 := W1.c0
              have ww1 := W1.c1
              have ltw := W1.lt
              clear W1
              generalize hA : putFrom _ 0 vs _ = A at hK ⊢
              simp only [putFrom, puts] at hA
              rcases hi with rfl | rfl | rfl | rfl | rfl | rfl | rfl
              all_goals
                simp at ho
                subst ho
                subst hA
              · go_wp2_with fail
                exact Onward.mk (hK (.pointer (some ⟨wb, 1, none⟩)) _ _ (fun h => by cases h) (by first | rfl | (simp only [puts])) (Spares.refl _) (fun iv' _ _ => rfl))
              · have h0 : vs 0 = .pointer (some ⟨wb, 1, none⟩) := hd.out 0 (mem_of (by kernel_rfl)) (by decide) (by kernel_rfl)
                go_wp2_with fail
                exact Onward.mk (hK (.slice a2 ay.length ca2) _ _ (fun h => by cases h) (by first | rfl | (simp only [puts, h0])) (Spares.refl _) (fun iv' _ _ => rfl))
              · have h1 : vs 1 = .slice a2 ay.length ca2 := hd.out 1 (mem_of (by kernel_rfl)) (by decide) (by kernel_rfl)
                go_wp2_with fail
                exact Onward.mk (hK (.int .i64 ay.length) _ _ (fun h => by cases h) (by first | rfl | (simp only [puts, h1])) (Spares.refl _) (fun iv' _ _ => rfl))
              · go_wp2_with fail
                exact Onward.mk (hK (.pointer (some ⟨sb, 0, none⟩)) _ _ (fun h => by cases h) (by first | rfl | (simp only [puts])) (Spares.refl _) (fun iv' _ _ => rfl))
              · have h3 : vs 3 = .pointer (some ⟨sb, 0, none⟩) := hd.out 3 (mem_of (by kernel_rfl)) (by decide) (by kernel_rfl)
                have KS1 := KS.keep (hS.out 0 _ (by kernel_rfl) ⟨rfl, rfl⟩)
                have ksc0 := KS1.c0
                have ksz0 := KS1.frozen 0
                have ksc1 := KS1.c1
                have ksz1 := KS1.frozen 1
                have ksc2 := KS1.c2
                have ksz2 := KS1.frozen 2
                have kslt := KS1.lt
                go_wp2_with fail
                refine (pick_at (n := 2) (N := (N + 12 + ay.length)) (c := c) ⟨hb0, p, z, KS1, HRX.out.keep ⟨hB.size, fun i hi hn => hB.block i (by omega)⟩, HXS.out, by omega⟩ (by omega) (by omega)).mono ?_
                rintro e w2 ⟨u, rfl, hf, hs, hbk⟩
                go_wp2_with fail
                exact Onward.mk (hK (.int .i64 (PickZ.v (n := 2) (N := (N + 12 + ay.length) + 1) u)) _ _ (fun h => by cases h) (by first | rfl | (simp only [puts, h3])) (hs.more (fun b h => Or.inl ⟨0, by decide, ⟨rfl, h⟩⟩)) (fun iv' _ hi => ⟨u, rfl, by rw [hi]; exact Freshs.stretch (hf), hbk⟩))
              · obtain ⟨u, h4, f4, fb4⟩ := hd.out 4 (mem_of (by kernel_rfl)) (by decide) (by kernel_rfl)
                go_wp2_with fail
                exact Onward.mk (hK (.int .i64 (wrap64 (10 + u.v))) _ _ (fun h => by cases h) (by first | rfl | (simp only [puts, h4])) (Spares.refl _) (fun iv' _ _ => by
                  show (.int .i64 (wrap64 (10 + u.v)) : Value) = .int .i64 (wrap64 (10 + valI (vs 4)))
                  simp only [h4]))
              · obtain ⟨u, h4, f4, fb4⟩ := hd.out 4 (mem_of (by kernel_rfl)) (by decide) (by kernel_rfl)
                have h2 : vs 2 = .int .i64 ay.length := hd.out 2 (mem_of (by kernel_rfl)) (by decide) (by kernel_rfl)
                have h5 : vs 5 = .int .i64 (wrap64 (10 + valI (vs 4))) := hd.out 5 (mem_of (by kernel_rfl)) (by decide) (by kernel_rfl)
                go_wp2_with fail
                exact Onward.mk (hK (.bool (decide ((ay.length:Int) < wrap64 (10 + u.v)))) _ _ (fun h => by cases h) (by first | rfl | (simp only [puts, h4, h2, h5])) (Spares.refl _) (fun iv' _ _ => by
                  show (.bool (decide ((ay.length:Int) < wrap64 (10 + u.v))) : Value) = .bool (decide ((ay.length:Int) < valI (vs 5)))
                  simp only [h4, h2, h5]))
            case hQ =>
              intro iv vs wx hB hSp hd he hbd hsep
              have hzB := hB.size
              have h0 : vs 0 = .pointer (some ⟨wb, 1, none⟩) := hd.out 0 (mem_of (by kernel_rfl)) (not_eaten (by kernel_rfl))
              have h1 : vs 1 = .slice a2 ay.length ca2 := hd.out 1 (mem_of (by kernel_rfl)) (not_eaten (by kernel_rfl))
              have h2 : vs 2 = .int .i64 ay.length := hd.out 2 (mem_of (by kernel_rfl)) (not_eaten (by kernel_rfl))
              have h3 : vs 3 = .pointer (some ⟨sb, 0, none⟩) := hd.out 3 (mem_of (by kernel_rfl)) (not_eaten (by kernel_rfl))
              obtain ⟨u, h4, f4, fb4⟩ := hd.out 4 (mem_of (by kernel_rfl)) (not_eaten (by kernel_rfl))
              have h5 : vs 5 = .int .i64 (wrap64 (10 + valI (vs 4))) := hd.out 5 (mem_of (by kernel_rfl)) (not_eaten (by kernel_rfl))
              have h6 : vs 6 = .bool (decide ((ay.length:Int) < valI (vs 5))) := hd.out 6 (mem_of (by kernel_rfl)) (not_eaten (by kernel_rfl))
              simp only [putFrom, puts]
              have up := u.hp
              have u0 := u.h0
              have u1 := u.h1
              have e10 : wrap64 (10 + u.v) = 10 + u.v := by unfold wrap64; omega
              rw [h5, h4] at h6
              simp only [valI] at h6
              rw [e10] at h6
              have hzx := hSp.out.size
              have hS' : SrcW B sb ((N + 12 + ay.length) + 1) wx := ⟨hb0, xs, s, c, u.p, u.y, fb4, HRX.out.keep ⟨hB.size, fun i hi hn => hB.block i (by omega)⟩, HXS.out, by omega⟩
              have hdr : Drew B sb ((N + 12 + ay.length) + 1) w0 wx := ⟨hS', ⟨hSp.out.os.trans HD.out.2.os, hSp.out.tape.trans HD.out.2.tape, hSp.out.output.trans HD.out.2.output, by omega, fun i hi hn => (hSp.out.block i (by omega) (fun ⟨m, hm⟩ => by have := hm.2; omega)).trans (HD.out.2.block i hi hn)⟩⟩
              have HS3 : Hid (WdS B sb wb 20 ((N + 12 + ay.length) + 1) w0 wx ax ay (.slice a1 ax.length ca1) (.slice a2 ay.length ca2)) := ⟨Bun.keep HS.out.wd hzx (fun b h1 h2 => hSp.out.block b h2 (fun ⟨m, hm⟩ => by have := hm.2; omega)), HS.out.one, HS.out.lx, HS.out.ly, hdr⟩
              obtain ⟨q, hq⟩ : ∃ q, decide ((ay.length : Int) < 10 + u.v) = q := ⟨_, rfl⟩
              rw [hq] at h6
              clear hd he hbd hsep h0 h1 h2 h3 h4 h5 f4 fb4 hB hSp hS' hdr hGb hGd KS HRX HXS HD HS e10
              have HS := HS3
              clear HS3 HWd
              cases q with
              | false =>
                clear hq
                simp only [h6]
                obtain ⟨x0, x1, lx⟩ := HS.out.wd.box.1.all2
                have RW := HS.out.dr.blk HR.out (show w.heap.size + 1 ≠ sb by omega)
                obtain ⟨r0, r1, rl⟩ := RW.all2
                have rf0 := RW.frozen 0
                have rf1 := RW.frozen 1
                go_wp2_with fail
                obtain ⟨w9, e9, R9, hs9⟩ := Blk.set2 RW (.slice a1 ax.length ca1) (.slice a2 ay.length ca2)
                rw [e9]
                obtain ⟨rr0, rr1, -⟩ := R9.all2
                refine bodyPost_ret (v := .agg #[.slice a1 ax.length ca1, .slice a2 ay.length ca2]) (by simp [results, Try.results69, go_sem, rr0, rr1]) rfl ?_
                have hwz := (HS.out.dr).size
                exact ⟨_, _, _, _, _, _, rfl, (((HS.out.wd).freshs (W := w0) (Nat.le_refl _)).keep fun b h1 h2 => hs9.block b h2 (by omega)).from (by omega), ((HD0.out.trans (HS.out.dr)).set hs9 (by omega) hBs hbw).more (by omega)⟩
              | true =>
                have hq' : (ay.length : Int) < 10 + u.v := of_decide_eq_true hq
                have hy11 : ay.length ≤ 10 := by omega
                clear hq hq' u0 u1 up
                simp only [h6]
                have hBn : Bun w0.heap.size wx [.app 2 1 ax.length (ax.map D.int) (.slice a1 ax.length ca1), .box wb 44 [.slice a1 ax.length ca1, .slice a2 ay.length ca2], .app 2 1 ay.length (ay.map D.int) (.slice a2 ay.length ca2)] := HS.out.wd
                have hBu := hBn.alloc (.cells #[.int .i64 0] 2)
                have hNb := Blk.new1 wx 2 (.int .i64 0)
                obtain ⟨x0, x1, ltx⟩ := (hBn.box 1 rfl).1.all2
                have hlx := HS.out.lx
                have hly := HS.out.ly
                have hwz := HS.out.dr.size
                clear hBn
                go_wp2_with (first
                  | (at_builtin; refine wpList_append_bun _ rfl _ _ 42 rfl 2 (.int .i64 0) 1 8 Try.underlying42 info_int64 rfl (by decide) hBu (by simp <;> omega) 2 _ rfl rfl ⟨wx.heap.size, 0, none⟩ 1 1 [.int .i64 0] rfl (news_blk hNb) (int_own _ _) rfl (by simp [Value.oneCell']) (by omega) (by omega) (by unfold maxLen; omega) ?_; intro g7 cap7 w7 hbun7 hb7
                     have hs7 := hbun7.store 1 rfl 1 (.slice (some ⟨g7, 0, none⟩) (ay.length + 1) cap7)
                     obtain ⟨y0, y1, lty⟩ := (hbun7.box 1 rfl).1.all2
                     have yf := (hbun7.box 1 rfl).1.frozen 1
                     obtain ⟨s0, s1, lts⟩ := (hs7.box 1 rfl).1.all2
                     have hb7s : Below w0.heap.size wx (w7.setCell ⟨wb, 1, none⟩ (.slice (some ⟨g7, 0, none⟩) (ay.length + 1) cap7)) := Below.setCell (p := ⟨wb, 1, none⟩) ((Below.alloc (Below.refl w0.heap.size wx) (by omega) (.cells #[.int .i64 0] 2)).trans hb7) (by have := (hbun7.box 1 rfl).2; exact this) _
                     have hdr7 := HS.out.dr.base hb7s hB0 hsb
                     have hBu8 := hs7.alloc (.cells #[.int .i64 0] 2)
                     have hNb8 := Blk.new1 (w7.setCell ⟨wb, 1, none⟩ (.slice (some ⟨g7, 0, none⟩) (ay.length + 1) cap7)) 2 (.int .i64 0)
                     have hz7 : (w7.setCell ⟨wb, 1, none⟩ (.slice (some ⟨g7, 0, none⟩) (ay.length + 1) cap7)).heap.size = w7.heap.size := by simp [World.setCell]
                     have hdz7 := hdr7.size
                     rw [hz7] at hNb8
                     obtain ⟨x0', x1', ltx'⟩ := (hBu8.box 1 rfl).1.all2
                     clear hBu hNb hb7 hb7s hbun7
                     have hend := hdr7)
                  | (at_builtin; refine wpList_append_bun _ rfl _ _ 42 rfl 2 (.int .i64 0) 1 8 Try.underlying42 info_int64 rfl (by decide) hBu8 (by simp <;> omega) 0 _ rfl rfl ⟨w7.heap.size, 0, none⟩ 1 1 [.int .i64 0] rfl (news_blk hNb8) (int_own _ _) rfl (by simp [Value.oneCell']) (by omega) (by omega) (by unfold maxLen; omega) ?_; intro g8 cap8 w8 hbun8 hb8
                     have hs8 := hbun8.store 1 rfl 0 (.slice (some ⟨g8, 0, none⟩) (ax.length + 1) cap8)
                     obtain ⟨y0', y1', lty'⟩ := (hbun8.box 1 rfl).1.all2
                     have yf' := (hbun8.box 1 rfl).1.frozen 0
                     obtain ⟨s0', s1', lts'⟩ := (hs8.box 1 rfl).1.all2
                     have hend := hs8))
                obtain ⟨w9, hw9⟩ : ∃ v, w8.setCell ⟨wb, 0, none⟩ (.slice (some ⟨g8, 0, none⟩) (ax.length + 1) cap8) = v := ⟨_, rfl⟩
                have hwb0 := (hbun8.box 1 rfl).2
                have hb8s : Below w0.heap.size _ (w8.setCell ⟨wb, 0, none⟩ (.slice (some ⟨g8, 0, none⟩) (ax.length + 1) cap8)) := Below.setCell (p := ⟨wb, 0, none⟩) ((Below.alloc (Below.refl w0.heap.size (w7.setCell ⟨wb, 1, none⟩ (.slice (some ⟨g7, 0, none⟩) (ay.length + 1) cap7))) (by omega) (.cells #[.int .i64 0] 2)).trans hb8) hwb0 _
                have hdr8 := hdr7.base hb8s hB0 hsb
                have hbx : Blk (w8.setCell ⟨wb, 0, none⟩ (.slice (some ⟨g8, 0, none⟩) (ax.length + 1) cap8)) wb 44 [.slice (some ⟨g8, 0, none⟩) (ax.length + 1) cap8, .slice (some ⟨g7, 0, none⟩) (ay.length + 1) cap7] := (hs8.box 1 rfl).1
                have hwd8 : WdB w0.heap.size (w8.setCell ⟨wb, 0, none⟩ (.slice (some ⟨g8, 0, none⟩) (ax.length + 1) cap8)) wb (ax ++ [0]) (ay ++ [0]) (.slice (some ⟨g8, 0, none⟩) (ax.length + 1) cap8) (.slice (some ⟨g7, 0, none⟩) (ay.length + 1) cap7) := by
                  unfold WdB
                  rw [List.length_append, List.length_append, List.map_append, List.map_append]
                  exact hs8
                rw [hw9] at hdr8 hbx hwd8 ⊢
                have h1 := HS.out.one
                refine ⟨⟨ax ++ [0], ay ++ [0], _, _, ⟨hwd8, by rw [List.length_append]; omega, by rw [List.length_append]; simp; omega, by rw [List.length_append]; simp; omega, hdr8.more (by rw [List.length_append]; simp; omega)⟩, by rw [List.length_append, List.length_append]; simp; omega, by rw [List.length_append]; simp; omega⟩, ?_⟩
                rw [actsN_eq hbx, hact]
                omega
        have n2 : (q0 == 2) = false := by simpa using c2
        obtain ⟨x0, x1, lx⟩ := HS.out.wd.box.1.all2
        have RW := HS.out.dr.blk HR.out (show w.heap.size + 1 ≠ sb by omega)
        obtain ⟨r0, r1, rl⟩ := RW.all2
        have rf0 := RW.frozen 0
        have rf1 := RW.frozen 1
        go_wp2_with fail
        obtain ⟨w9, e9, R9, hs9⟩ := Blk.set2 RW (.slice a1 ax.length ca1) (.slice a2 ay.length ca2)
        rw [e9]
        obtain ⟨rr0, rr1, -⟩ := R9.all2
        refine bodyPost_ret (v := .agg #[.slice a1 ax.length ca1, .slice a2 ay.length ca2]) (by simp [results, Try.results69, go_sem, rr0, rr1]) rfl ?_
        have hwz := (HS.out.dr).size
        exact ⟨_, _, _, _, _, _, rfl, (((HS.out.wd).freshs (W := w0) (Nat.le_refl _)).keep fun b h1 h2 => hs9.block b h2 (by omega)).from (by omega), ((HD0.out.trans (HS.out.dr)).set hs9 (by omega) hBs hbw).more (by omega)⟩
      have hjz : (0 : Int) < (j : Int) := by omega
      clear hst
      go_wp2_with fail
      obtain ⟨own, how1, hwl, hwlt, hA0, hA2, tA, tB⟩ := HS.out.wd.partsB
      have HtA := Lib.hid tA
      have HtB := Lib.hid tB
      have V := hA2
      have Vf := fun (b : Nat) (h : w0.heap.size ≤ b ∧ b < wr'.heap.size ∧ own b = 2) => (And.intro (by omega) h.2.1 : B ≤ b ∧ b < wr'.heap.size)
      have K2 := HS.out.wd.box.1
      have D := HS.out.dr
      have hlx := HS.out.lx
      have hly := HS.out.ly
      clear hA0 hA2 tA tB
      obtain ⟨xs, s, c, hSV⟩ := D.1.v
      obtain ⟨hb0, p, z, KS, hrx, hxs, hpN⟩ := hSV
      have HRX := Lib.hid hrx
      have HXS := Lib.hid hxs
      have HD := Lib.hid D
      have hzD := D.size
      clear D hrx hxs
      have HGr := Lib.hid (HD.out.blk HG.out (show w.heap.size ≠ sb by omega))
      have hGb : ∀ m b, (fun m b => (m = 0 ∧ (w0.heap.size ≤ b ∧ b < wr'.heap.size ∧ own b = 2)) ∨ (m = 1 ∧ b = wb) ∨ (m = 2 ∧ b = sb)) m b → (B) ≤ b ∧ b < (wr').heap.size := by
        intro m b hg
        rcases hg with ⟨rfl, hg⟩ | ⟨rfl, hg⟩ | ⟨rfl, hg⟩
        · have q := Vf b hg
          omega
        · subst hg
          have q := K2.lt
          omega
        · subst hg
          have q := KS.lt
          omega
      have hGd : ∀ m m' b, (fun m b => (m = 0 ∧ (w0.heap.size ≤ b ∧ b < wr'.heap.size ∧ own b = 2)) ∨ (m = 1 ∧ b = wb) ∨ (m = 2 ∧ b = sb)) m b → (fun m b => (m = 0 ∧ (w0.heap.size ≤ b ∧ b < wr'.heap.size ∧ own b = 2)) ∨ (m = 1 ∧ b = wb) ∨ (m = 2 ∧ b = sb)) m' b → m = m' := by
        intro m1 m2 b h h'
        rcases h with ⟨rfl, h⟩ | ⟨rfl, h⟩ | ⟨rfl, h⟩ <;> rcases h' with ⟨rfl, h'⟩ | ⟨rfl, h'⟩ | ⟨rfl, h'⟩ <;> first
          | rfl
          | (exfalso; have q1 := h.1; have q2 := h.2.2; omega)
          | (exfalso; have q1 := h'.1; have q2 := h'.2.2; omega)
          | (exfalso; rw [h] at h'; have q1 := h'.1; have q2 := h'.2.2; omega)
          | (exfalso; rw [h'] at h; have q1 := h.1; have q2 := h.2.2; omega)
          | (exfalso; omega)
      refine region_rs [] [(6, 2), (8, 0), (10, 1)] (fun m b => (m = 0 ∧ (w0.heap.size ≤ b ∧ b < wr'.heap.size ∧ own b = 2)) ∨ (m = 1 ∧ b = wb) ∨ (m = 2 ∧ b = sb)) (B) (fun i iv vs wx => match i with
        | 0 => vs 0 = .pointer (some ⟨wb, 1, none⟩)
        | 1 => vs 1 = .slice a2 ay.length ca2
        | 2 => vs 2 = .pointer (some ⟨sb, 0, none⟩)
        | 3 => vs 3 = .pointer (some ⟨w.heap.size, 1, none⟩)
        | 4 => vs 4 = .int .i64 a
        | 5 => vs 5 = .int .i64 m
        | 6 => ∃ u, vs 6 = .int .i64 (PickZ.v (n := m) (N := (N + 2 + 2 * (4 - j)) + 1) u) ∧ FreshIn (iv 6) wx [] [] ∧ Blk wx (sb) 101 [.slice s xs.length c, .int .i64 u.p, .int .u64 u.y]
        | 7 => vs 7 = .slice (some ⟨(iv 7).1, 0, none⟩) 1 1 ∧ (iv 7).2 = (iv 7).1 + 1 ∧ Blk wx (iv 7).1 2 [.int .i64 (valI (vs 6))]
        | 8 => ∃ g cap, vs 8 = .slice (some ⟨g, 0, none⟩) (ay.length + 1) cap ∧ AppS (foot [] [(6, 2), (8, 0), (10, 1)] (fun m b => (m = 0 ∧ (w0.heap.size ≤ b ∧ b < wr'.heap.size ∧ own b = 2)) ∨ (m = 1 ∧ b = wb) ∨ (m = 2 ∧ b = sb)) 11 8 iv) wx 2 1 (ay.length + 1) (ay.map D.int ++ [.int (valI (vs 6))]) (.slice (some ⟨g, 0, none⟩) (ay.length + 1) cap)
        | 9 => vs 9 = .pointer (some ⟨wb, 1, none⟩)
        | 10 => Blk wx (wb) 44 [.slice a1 ax.length ca1, vs 8]
        | _ => True) (fun i iv vs => match i with
        | 0 => vs 0 = .pointer (some ⟨wb, 1, none⟩)
        | 1 => vs 1 = .slice a2 ay.length ca2
        | 2 => vs 2 = .pointer (some ⟨sb, 0, none⟩)
        | 3 => vs 3 = .pointer (some ⟨w.heap.size, 1, none⟩)
        | 4 => vs 4 = .int .i64 a
        | 5 => vs 5 = .int .i64 m
        | 6 => ∃ u, vs 6 = .int .i64 (PickZ.v (n := m) (N := (N + 2 + 2 * (4 - j)) + 1) u)
        | 7 => vs 7 = .slice (some ⟨(iv 7).1, 0, none⟩) 1 1 ∧ (iv 7).2 = (iv 7).1 + 1
        | 8 => ∃ g cap, vs 8 = .slice (some ⟨g, 0, none⟩) (ay.length + 1) cap
        | 9 => vs 9 = .pointer (some ⟨wb, 1, none⟩)
        | 10 => True
        | _ => True) (by kernel_rfl) (by kernel_rfl) [0, 1, 2, 3, 4, 5, 6, 7, 8, 9, 10] (by kernel_rfl) ?hbase ?hGb ?hG ?hJ ?hE ?hEE ?hstep ?hQ
      case hbase => first | exact Nat.le_refl _ | omega | (simp; omega)
      case hGb =>
        exact hGb
      case hG =>
        exact hGd
      case hJ =>
        intro i hi iv iv' vs vs' wx wx' ha hv hz hk hj
        simp only [List.mem_cons, List.not_mem_nil, or_false] at hi
        rcases hi with rfl | rfl | rfl | rfl | rfl | rfl | rfl | rfl | rfl | rfl | rfl
        · exact (hv.out 0 (mem_of (by kernel_rfl))).symm.trans hj
        · exact (hv.out 1 (mem_of (by kernel_rfl))).symm.trans hj
        · exact (hv.out 2 (mem_of (by kernel_rfl))).symm.trans hj
        · exact (hv.out 3 (mem_of (by kernel_rfl))).symm.trans hj
        · exact (hv.out 4 (mem_of (by kernel_rfl))).symm.trans hj
        · exact (hv.out 5 (mem_of (by kernel_rfl))).symm.trans hj
        · have e6 := hv.out 6 (mem_of (by kernel_rfl))
          have g6 := ha.out 6 (mem_of (by kernel_rfl))
          obtain ⟨u, q1, q2, q3⟩ := hj
          exact ⟨u, e6 ▸ q1, g6 ▸ q2.keep (fun b hb h1 h2 => hk.out b hb (foot_own h1 h2)), q3.keep (hk.out _ q3.lt (foot_given 2 (by decide) (Or.inr (Or.inr ⟨rfl, rfl⟩))))⟩
        · have e6 := hv.out 6 (mem_of (by kernel_rfl))
          have e7 := hv.out 7 (mem_of (by kernel_rfl))
          have g7 := ha.out 7 (mem_of (by kernel_rfl))
          obtain ⟨q1, q3, q2⟩ := hj
          show vs' 7 = .slice (some ⟨(iv' 7).1, 0, none⟩) 1 1 ∧ (iv' 7).2 = (iv' 7).1 + 1 ∧ Blk wx' (iv' 7).1 2 [.int .i64 (valI (vs' 6))]
          rw [← e6, ← e7, ← g7]
          exact ⟨q1, q3, q2.keep (hk.out _ q2.lt (foot_own (Nat.le_refl _) (by omega)))⟩
        · have e8 := hv.out 8 (mem_of (by kernel_rfl))
          obtain ⟨g, cap, q1, q2⟩ := hj
          have e6 := hv.out 6 (mem_of (by kernel_rfl))
          refine ⟨g, cap, e8 ▸ q1, ?_⟩
          rw [← e6]
          exact (q2.keep (fun b hb h1 => hk.out b hb h1)).more (fun b hb h1 => foot_agree (l := ancs _ 11 8) (by exact of_decide_eq_true (by kernel_rfl)) ha.out h1)
        · exact (hv.out 9 (mem_of (by kernel_rfl))).symm.trans hj
        · have e8 := hv.out 8 (mem_of (by kernel_rfl))
          have hj' : Blk wx (wb) 44 [.slice a1 ax.length ca1, vs 8] := hj
          show Blk wx' (wb) 44 [.slice a1 ax.length ca1, vs' 8]
          rw [← e8]
          exact hj'.keep (hk.out _ hj'.lt (foot_given 1 (by decide) (Or.inr (Or.inl ⟨rfl, rfl⟩))))
      case hE =>
        intro i hi iv vs wx hj
        simp only [List.mem_cons, List.not_mem_nil, or_false] at hi
        rcases hi with rfl | rfl | rfl | rfl | rfl | rfl | rfl | rfl | rfl | rfl | rfl
        · exact hj
        · exact hj
        · exact hj
        · exact hj
        · exact hj
        · exact hj
        · obtain ⟨u, q1, -⟩ := hj
          exact ⟨u, q1⟩
        · exact ⟨hj.1, hj.2.1⟩
        · obtain ⟨g, cap, q1, -⟩ := hj
          exact ⟨g, cap, q1⟩
        · exact hj
        · trivial
      case hEE =>
        intro i hi iv iv' vs vs' ha hv hj
        simp only [List.mem_cons, List.not_mem_nil, or_false] at hi
        rcases hi with rfl | rfl | rfl | rfl | rfl | rfl | rfl | rfl | rfl | rfl | rfl
        · exact (hv.out 0 (mem_of (by kernel_rfl))).symm.trans hj
        · exact (hv.out 1 (mem_of (by kernel_rfl))).symm.trans hj
        · exact (hv.out 2 (mem_of (by kernel_rfl))).symm.trans hj
        · exact (hv.out 3 (mem_of (by kernel_rfl))).symm.trans hj
        · exact (hv.out 4 (mem_of (by kernel_rfl))).symm.trans hj
        · exact (hv.out 5 (mem_of (by kernel_rfl))).symm.trans hj
        · have e6 := hv.out 6 (mem_of (by kernel_rfl))
          have hj' : ∃ u, vs 6 = .int .i64 (PickZ.v (n := m) (N := (N + 2 + 2 * (4 - j)) + 1) u) := hj
          show ∃ u, vs' 6 = .int .i64 (PickZ.v (n := m) (N := (N + 2 + 2 * (4 - j)) + 1) u)
          rw [← e6]
          exact hj'
        · have e7 := hv.out 7 (mem_of (by kernel_rfl))
          have g7 := ha.out 7 (mem_of (by kernel_rfl))
          have hj' : vs 7 = .slice (some ⟨(iv 7).1, 0, none⟩) 1 1 ∧ (iv 7).2 = (iv 7).1 + 1 := hj
          show vs' 7 = .slice (some ⟨(iv' 7).1, 0, none⟩) 1 1 ∧ (iv' 7).2 = (iv' 7).1 + 1
          rw [← e7, ← g7]
          exact hj'
        · have e8 := hv.out 8 (mem_of (by kernel_rfl))
          have hj' : ∃ g cap, vs 8 = .slice (some ⟨g, 0, none⟩) (ay.length + 1) cap := hj
          show ∃ g cap, vs' 8 = .slice (some ⟨g, 0, none⟩) (ay.length + 1) cap
          rw [← e8]
          exact hj'
        · exact (hv.out 9 (mem_of (by kernel_rfl))).symm.trans hj
        · trivial
      case hstep =>
        intro i hi opr ho iv vs w1 hB hS hSo hd he hbd hsep hun K hK
        simp only [List.mem_cons, List.not_mem_nil, or_false] at hi
        have hzB := hB.size
        have HGb := Lib.hid hGb
        clear hGb hGd
        have G1 := HGr.out.keep (hSo.out.block _ HGr.out.lt (fun ⟨m, hm⟩ => by rcases hm with ⟨_, h⟩ | ⟨_, h⟩ | ⟨_, h⟩ <;> omega))
        have g0 := G1.c0
        have g1 := G1.c1
        have ltg := G1.lt
        clear G1
        generalize hA : putFrom _ 0 vs _ = A at hK ⊢
        simp only [putFrom, puts] at hA
        rcases hi with rfl | rfl | rfl | rfl | rfl | rfl | rfl | rfl | rfl | rfl | rfl
        all_goals
          simp at ho
          subst ho
          subst hA
        · go_wp2_with fail
          exact Onward.mk (hK (.pointer (some ⟨wb, 1, none⟩)) _ _ (fun h => by cases h) (by first | rfl | (simp only [puts])) (Spares.refl _) (fun iv' _ _ => rfl))
        · have h0 : vs 0 = .pointer (some ⟨wb, 1, none⟩) := hd.out 0 (mem_of (by kernel_rfl)) (by decide) (by kernel_rfl)
          have K21 := K2.keep (hS.out 1 _ (by kernel_rfl) (Or.inr (Or.inl ⟨rfl, rfl⟩)))
          have k2c0 := K21.c0
          have k2z0 := K21.frozen 0
          have k2c1 := K21.c1
          have k2z1 := K21.frozen 1
          have k2lt := K21.lt
          go_wp2_with fail
          exact Onward.mk (hK (.slice a2 ay.length ca2) _ _ (fun h => by cases h) (by first | rfl | (simp only [puts, h0])) (Spares.refl _) (fun iv' _ _ => rfl))
        · go_wp2_with fail
          exact Onward.mk (hK (.pointer (some ⟨sb, 0, none⟩)) _ _ (fun h => by cases h) (by first | rfl | (simp only [puts])) (Spares.refl _) (fun iv' _ _ => rfl))
        · go_wp2_with fail
          exact Onward.mk (hK (.pointer (some ⟨w.heap.size, 1, none⟩)) _ _ (fun h => by cases h) (by first | rfl | (simp only [puts])) (Spares.refl _) (fun iv' _ _ => rfl))
        · have h3 : vs 3 = .pointer (some ⟨w.heap.size, 1, none⟩) := hd.out 3 (mem_of (by kernel_rfl)) (by decide) (by kernel_rfl)
          go_wp2_with fail
          exact Onward.mk (hK (.int .i64 a) _ _ (fun h => by cases h) (by first | rfl | (simp only [puts, h3])) (Spares.refl _) (fun iv' _ _ => rfl))
        · have h4 : vs 4 = .int .i64 a := hd.out 4 (mem_of (by kernel_rfl)) (by decide) (by kernel_rfl)
          go_wp2_with fail
          refine (Hma.out _).mono ?_
          rintro e w2 ⟨rfl, hb⟩
          go_wp2_with fail
          exact Onward.mk (hK (.int .i64 m) _ _ (fun h => by cases h) (by first | rfl | (simp only [puts, h4])) (Spares.of_below hb) (fun iv' _ _ => rfl))
        · have h2 : vs 2 = .pointer (some ⟨sb, 0, none⟩) := hd.out 2 (mem_of (by kernel_rfl)) (by decide) (by kernel_rfl)
          have h5 : vs 5 = .int .i64 m := hd.out 5 (mem_of (by kernel_rfl)) (by decide) (by kernel_rfl)
          have KS1 := KS.keep (hS.out 2 _ (by kernel_rfl) (Or.inr (Or.inr ⟨rfl, rfl⟩)))
          have ksc0 := KS1.c0
          have ksz0 := KS1.frozen 0
          have ksc1 := KS1.c1
          have ksz1 := KS1.frozen 1
          have ksc2 := KS1.c2
          have ksz2 := KS1.frozen 2
          have kslt := KS1.lt
          go_wp2_with fail
          refine (pick_at (n := m) (N := (N + 2 + 2 * (4 - j))) (c := c) ⟨hb0, p, z, KS1, HRX.out.keep ⟨hB.size, fun i hi hn => hB.block i (by omega)⟩, HXS.out, by omega⟩ (by omega) (by omega)).mono ?_
          rintro e w2 ⟨u, rfl, hf, hs, hbk⟩
          go_wp2_with fail
          exact Onward.mk (hK (.int .i64 (PickZ.v (n := m) (N := (N + 2 + 2 * (4 - j)) + 1) u)) _ _ (fun h => by cases h) (by first | rfl | (simp only [puts, h2, h5])) (hs.more (fun b h => Or.inl ⟨2, by decide, (Or.inr (Or.inr ⟨rfl, h⟩))⟩)) (fun iv' _ hi => ⟨u, rfl, by rw [hi]; exact Freshs.stretch (hf), hbk⟩))
        · obtain ⟨u, h6, f6, fb6⟩ := hd.out 6 (mem_of (by kernel_rfl)) (by decide) (by kernel_rfl)
          go_wp2_with fail
          exact Onward.mk (hK (.slice (some ⟨w1.heap.size, 0, none⟩) 1 1) _ _ (fun h => by cases h) (by first | rfl | (simp only [puts, h6])) (Spares.of_below (Below.alloc (Below.refl _ _) (Nat.le_refl _) _)) (fun iv' _ hi => by
            show Value.slice (some ⟨w1.heap.size, 0, none⟩) 1 1 = .slice (some ⟨(iv' 7).1, 0, none⟩) 1 1 ∧ (iv' 7).2 = (iv' 7).1 + 1 ∧ Blk _ (iv' 7).1 2 [.int .i64 (valI (vs 6))]
            rw [hi, h6]
            exact ⟨rfl, by simp, Blk.new1 _ _ _⟩))
        · have h1 : vs 1 = .slice a2 ay.length ca2 := hd.out 1 (mem_of (by kernel_rfl)) (by decide) (by kernel_rfl)
          obtain ⟨u, h6, f6, fb6⟩ := hd.out 6 (mem_of (by kernel_rfl)) (by decide) (by kernel_rfl)
          obtain ⟨h7, q7, f7⟩ := hd.out 7 (mem_of (by kernel_rfl)) (by decide) (by kernel_rfl)
          have V1 := V.keep (fun b _ hb => hS.out 0 b (by kernel_rfl) (Or.inl ⟨rfl, hb⟩))
          simp only [h1, h6, h7]
          have f7' : Blk w1 (iv 7).1 2 [.int .i64 (valI (vs 6))] := by first | exact f7 | (rw [h6] at f7; exact f7)
          refine wpList_append_s w1 (by rfl) _ _ 42 (by rfl) 2 ((.int .i64 0)) 1 8 Try.underlying42 info_int64 rfl (by decide) (S := (fun b => (w0.heap.size ≤ b ∧ b < wr'.heap.size ∧ own b = 2))) (T := (fun _ => False)) _ (by rfl) V1 ⟨(iv 7).1, 0, none⟩ 1 1 [.int .i64 (valI (vs 6))] (by rfl) (news_blk f7') (int_own w1 (valI (vs 6))) (fun _ _ _ h => h) (by simp) (by simp [Value.oneCell']) (by omega) (by omega) (by unfold maxLen; omega) ?_
          intro g cap w2 hap ht
          go_wp2_with fail
          exact Onward.mk (hK (.slice (some ⟨g, 0, none⟩) (ay.length + 1) cap) _ _ (fun h => by cases h) (by first | rfl | (simp only [puts, h1, h6, h7])) (ht.more (fun b h => Or.inl ⟨0, by decide, (Or.inl ⟨rfl, h⟩)⟩)) (fun iv' ag hi => ⟨g, cap, rfl, hap.more (fun b _ h => by rcases h with h | h | h; exact foot_given 0 (by decide) (Or.inl ⟨rfl, h⟩); exact h.elim; exact foot_new hi h.1 h.2)⟩))
        · go_wp2_with fail
          exact Onward.mk (hK (.pointer (some ⟨wb, 1, none⟩)) _ _ (fun h => by cases h) (by first | rfl | (simp only [puts])) (Spares.refl _) (fun iv' _ _ => rfl))
        · have h9 : vs 9 = .pointer (some ⟨wb, 1, none⟩) := hd.out 9 (mem_of (by kernel_rfl)) (by decide) (by kernel_rfl)
          obtain ⟨g8, cap8, h8, f8⟩ := hd.out 8 (mem_of (by kernel_rfl)) (by decide) (by kernel_rfl)
          have K21 := K2.keep (hS.out 1 _ (by kernel_rfl) (Or.inr (Or.inl ⟨rfl, rfl⟩)))
          have k2c0 := K21.c0
          have k2z0 := K21.frozen 0
          have k2c1 := K21.c1
          have k2z1 := K21.frozen 1
          have k2lt := K21.lt
          go_wp2_with fail
          exact Onward.mk (hK undef _ _ (fun _ => rfl) (by simp only [puts, h9, h8]) ((spares_sets (b0 := wb) (by repeat (first | exact Spares.refl _ | apply Spares.set))).more (fun b h => Or.inl ⟨1, by decide, (Or.inr (Or.inl ⟨rfl, h⟩))⟩)) (fun iv' ag hi => by
            show Blk _ (wb) 44 [.slice a1 ax.length ca1, vs 8]
            rw [h8]
            exact (K21.set 1 _)))
      case hQ =>
        intro iv vs wx hB hSp hd he hbd hsep
        have hzB := hB.size
        have h0 : vs 0 = .pointer (some ⟨wb, 1, none⟩) := hd.out 0 (mem_of (by kernel_rfl)) (not_eaten (by kernel_rfl))
        have h1 : vs 1 = .slice a2 ay.length ca2 := hd.out 1 (mem_of (by kernel_rfl)) (not_eaten (by kernel_rfl))
        have h2 : vs 2 = .pointer (some ⟨sb, 0, none⟩) := hd.out 2 (mem_of (by kernel_rfl)) (not_eaten (by kernel_rfl))
        have h3 : vs 3 = .pointer (some ⟨w.heap.size, 1, none⟩) := hd.out 3 (mem_of (by kernel_rfl)) (not_eaten (by kernel_rfl))
        have h4 : vs 4 = .int .i64 a := hd.out 4 (mem_of (by kernel_rfl)) (not_eaten (by kernel_rfl))
        have h5 : vs 5 = .int .i64 m := hd.out 5 (mem_of (by kernel_rfl)) (not_eaten (by kernel_rfl))
        obtain ⟨u, h6, f6, fb6⟩ := hd.out 6 (mem_of (by kernel_rfl)) (not_eaten (by kernel_rfl))
        obtain ⟨h7, q7, f7⟩ := hd.out 7 (mem_of (by kernel_rfl)) (not_eaten (by kernel_rfl))
        obtain ⟨g8, cap8, h8, f8⟩ := hd.out 8 (mem_of (by kernel_rfl)) (not_eaten (by kernel_rfl))
        have h9 : vs 9 = .pointer (some ⟨wb, 1, none⟩) := hd.out 9 (mem_of (by kernel_rfl)) (not_eaten (by kernel_rfl))
        have f10 : Blk _ (wb) 44 [.slice a1 ax.length ca1, vs 8] := hd.out 10 (mem_of (by kernel_rfl)) (not_eaten (by kernel_rfl))
        have lo8 : ∀ b, foot [] [(6, 2), (8, 0), (10, 1)] (fun m b => (m = 0 ∧ (w0.heap.size ≤ b ∧ b < wr'.heap.size ∧ own b = 2)) ∨ (m = 1 ∧ b = wb) ∨ (m = 2 ∧ b = sb)) 11 8 iv b → (B) ≤ b := by
          rintro b ⟨j, hj, hh⟩
          have hj' := of_decide_eq_true (List.all_eq_true.1 (show ((chainOf [] 11 8).all fun j => decide (j ∈ [8])) = true from by kernel_rfl) j hj)
          simp only [List.mem_cons, List.not_mem_nil, or_false] at hj'
          rcases hj' with rfl
          · have q := (hbd.out 8 (mem_of (by kernel_rfl))).1
            rcases hh with hh | ⟨m, hm, hg⟩
            · omega
            · simp at hm
              subst hm
              simp at hg
              have q' := Vf b hg
              omega
        simp only [putFrom, puts]
        have so8 : ∀ b, (foot [] [(6, 2), (8, 0), (10, 1)] (fun m b => (m = 0 ∧ (w0.heap.size ≤ b ∧ b < wr'.heap.size ∧ own b = 2)) ∨ (m = 1 ∧ b = wb) ∨ (m = 2 ∧ b = sb)) 11 8 iv) b → (w0.heap.size ≤ b ∧ b < wr'.heap.size ∧ own b = 2) ∨ (wr').heap.size ≤ b := by
          rintro b ⟨j, hj, hh⟩
          have hj' := of_decide_eq_true (List.all_eq_true.1 (show ((chainOf [] 11 8).all fun j => decide (j ∈ [8])) = true from by kernel_rfl) j hj)
          simp only [List.mem_cons, List.not_mem_nil, or_false] at hj'
          rcases hj' with rfl
          · have q := (hbd.out 8 (mem_of (by kernel_rfl))).1
            rcases hh with hh | ⟨m, hm, hg⟩
            · exact Or.inr (by omega)
            · simp at hm; subst hm; simp at hg; exact Or.inl hg
        rw [h8] at f10
        rw [h6] at f8
        have up := u.hp
        have hzx := hSp.out.size
        have hS' : SrcW B sb ((N + 2 + 2 * (4 - j)) + 1) wx := ⟨hb0, xs, s, c, u.p, u.y, fb6, HRX.out.keep ⟨hB.size, fun i hi hn => hB.block i (by omega)⟩, HXS.out, by omega⟩
        have hdr : Drew B sb ((N + 2 + 2 * (4 - j)) + 1) w0 wx := ⟨hS', HD.out.2.os |> fun q => ⟨hSp.out.os.trans q, hSp.out.tape.trans HD.out.2.tape, hSp.out.output.trans HD.out.2.output, by omega, fun i hi hn => (hSp.out.block i (by omega) (fun ⟨m, hm⟩ => by rcases hm with ⟨_, h⟩ | ⟨_, h⟩ | ⟨_, h⟩ <;> omega)).trans (HD.out.2.block i hi hn)⟩⟩
        have HS3 : Hid (WdS B sb wb ((1 + (4 - j)) + 1) ((N + 2 + 2 * (4 - j)) + 1) w0 wx ax (ay ++ [u.v]) (.slice a1 ax.length ca1) (.slice (some ⟨g8, 0, none⟩) (ay.length + 1) cap8)) :=
          ⟨HtB.out wx _ u.v _ (by omega) hzx (fun b h1 h2 h3 => hSp.out.block b h2 (fun ⟨m, hm⟩ => by rcases hm with ⟨_, h⟩ | ⟨_, h⟩ | ⟨_, h⟩; omega; (rw [h] at h3; omega); omega)) f8 (fun b _ h => so8 b h) f10, HS.out.one, by omega, by rw [List.length_append]; simp; omega, hdr⟩
        clear hd he hbd hsep h0 h1 h2 h3 h4 h5 h6 h7 h8 h9 so8 lo8 f8 f10 f6 fb6 f7 q7 how1 hwl hwlt HtA HtB V Vf K2 hB hSp hS' hdr hGb hGd KS HRX HXS HD HS
        obtain ⟨wz, rfl⟩ : ∃ v, v = wx := ⟨_, rfl⟩
        have HS := HS3
        clear HS3
        obtain ⟨ay', hay'⟩ : ∃ l, ay ++ [u.v] = l := ⟨_, rfl⟩
        obtain ⟨vb', hvb'⟩ : ∃ v : Value, .slice (some ⟨g8, 0, none⟩) (ay.length + 1) cap8 = v := ⟨_, rfl⟩
        rw [hay', hvb'] at HS
        clear hay' hvb' hca1 hca2 hcb1 hcb2
        obtain ⟨ay, rfl⟩ : ∃ v, v = ay' := ⟨_, rfl⟩
        obtain ⟨_, _, e1, hca1, hca2⟩ := HS.out.wd.shapeA
        simp only [Value.slice.injEq, true_and] at e1
        obtain ⟨rfl, rfl⟩ := e1
        unfold maxLen at hca2
        have hzr := HS.out.dr.size
        clear hzx hzD
        go_wp2_with fail
        obtain ⟨own, how1, hwl, hwlt, hA0, hA2, tA, tB⟩ := HS.out.wd.partsB
        have HtA := Lib.hid tA
        have HtB := Lib.hid tB
        have V := hA0
        have Vf := fun (b : Nat) (h : w0.heap.size ≤ b ∧ b < wz.heap.size ∧ own b = 0) => (And.intro (by omega) h.2.1 : B ≤ b ∧ b < wz.heap.size)
        have K2 := HS.out.wd.box.1
        have D := HS.out.dr
        have hlx := HS.out.lx
        have hly := HS.out.ly
        clear hA0 hA2 tA tB
        obtain ⟨xs, s, c, hSV⟩ := D.1.v
        obtain ⟨hb0, p, z, KS, hrx, hxs, hpN⟩ := hSV
        have HRX := Lib.hid hrx
        have HXS := Lib.hid hxs
        have HD := Lib.hid D
        have hzD := D.size
        clear D hrx hxs
        have HGr := Lib.hid (HD.out.blk HG.out (show w.heap.size ≠ sb by omega))
        have hGb : ∀ m b, (fun m b => (m = 0 ∧ (w0.heap.size ≤ b ∧ b < wz.heap.size ∧ own b = 0)) ∨ (m = 1 ∧ b = wb) ∨ (m = 2 ∧ b = sb)) m b → (B) ≤ b ∧ b < (wz).heap.size := by
          intro m b hg
          rcases hg with ⟨rfl, hg⟩ | ⟨rfl, hg⟩ | ⟨rfl, hg⟩
          · have q := Vf b hg
            omega
          · subst hg
            have q := K2.lt
            omega
          · subst hg
            have q := KS.lt
            omega
        have hGd : ∀ m m' b, (fun m b => (m = 0 ∧ (w0.heap.size ≤ b ∧ b < wz.heap.size ∧ own b = 0)) ∨ (m = 1 ∧ b = wb) ∨ (m = 2 ∧ b = sb)) m b → (fun m b => (m = 0 ∧ (w0.heap.size ≤ b ∧ b < wz.heap.size ∧ own b = 0)) ∨ (m = 1 ∧ b = wb) ∨ (m = 2 ∧ b = sb)) m' b → m = m' := by
          intro m1 m2 b h h'
          rcases h with ⟨rfl, h⟩ | ⟨rfl, h⟩ | ⟨rfl, h⟩ <;> rcases h' with ⟨rfl, h'⟩ | ⟨rfl, h'⟩ | ⟨rfl, h'⟩ <;> first
            | rfl
            | (exfalso; have q1 := h.1; have q2 := h.2.2; omega)
            | (exfalso; have q1 := h'.1; have q2 := h'.2.2; omega)
            | (exfalso; rw [h] at h'; have q1 := h'.1; have q2 := h'.2.2; omega)
            | (exfalso; rw [h'] at h; have q1 := h.1; have q2 := h.2.2; omega)
            | (exfalso; omega)
        refine region_rs [] [(3, 2), (9, 0), (11, 1)] (fun m b => (m = 0 ∧ (w0.heap.size ≤ b ∧ b < wz.heap.size ∧ own b = 0)) ∨ (m = 1 ∧ b = wb) ∨ (m = 2 ∧ b = sb)) (B) (fun i iv vs wx => match i with
          | 0 => vs 0 = .pointer (some ⟨wb, 0, none⟩)
          | 1 => vs 1 = .slice a1 ax.length ca1
          | 2 => vs 2 = .pointer (some ⟨sb, 0, none⟩)
          | 3 => ∃ u, vs 3 = .int .i64 (PickZ.v (n := 8) (N := (N + 2 + 2 * (4 - j) + 1) + 1) u) ∧ FreshIn (iv 3) wx [] [] ∧ Blk wx (sb) 101 [.slice s xs.length c, .int .i64 u.p, .int .u64 u.y]
          | 4 => vs 4 = .agg #[.int .i64 t, .int .i64 a]
          | 5 => vs 5 = .int .i64 A
          | 6 => vs 6 = .int .i64 A
          | 7 => vs 7 = .int .i64 ((valI (vs 3)).tmod A)
          | 8 => vs 8 = .slice (some ⟨(iv 8).1, 0, none⟩) 1 1 ∧ (iv 8).2 = (iv 8).1 + 1 ∧ Blk wx (iv 8).1 2 [.int .i64 (valI (vs 7))]
          | 9 => ∃ g cap, vs 9 = .slice (some ⟨g, 0, none⟩) (ax.length + 1) cap ∧ AppS (foot [] [(3, 2), (9, 0), (11, 1)] (fun m b => (m = 0 ∧ (w0.heap.size ≤ b ∧ b < wz.heap.size ∧ own b = 0)) ∨ (m = 1 ∧ b = wb) ∨ (m = 2 ∧ b = sb)) 12 9 iv) wx 2 1 (ax.length + 1) (ax.map D.int ++ [.int (valI (vs 7))]) (.slice (some ⟨g, 0, none⟩) (ax.length + 1) cap)
          | 10 => vs 10 = .pointer (some ⟨wb, 0, none⟩)
          | 11 => Blk wx (wb) 44 [vs 9, vb']
          | _ => True) (fun i iv vs => match i with
          | 0 => vs 0 = .pointer (some ⟨wb, 0, none⟩)
          | 1 => vs 1 = .slice a1 ax.length ca1
          | 2 => vs 2 = .pointer (some ⟨sb, 0, none⟩)
          | 3 => ∃ u, vs 3 = .int .i64 (PickZ.v (n := 8) (N := (N + 2 + 2 * (4 - j) + 1) + 1) u)
          | 4 => vs 4 = .agg #[.int .i64 t, .int .i64 a]
          | 5 => vs 5 = .int .i64 A
          | 6 => vs 6 = .int .i64 A
          | 7 => vs 7 = .int .i64 ((valI (vs 3)).tmod A)
          | 8 => vs 8 = .slice (some ⟨(iv 8).1, 0, none⟩) 1 1 ∧ (iv 8).2 = (iv 8).1 + 1
          | 9 => ∃ g cap, vs 9 = .slice (some ⟨g, 0, none⟩) (ax.length + 1) cap
          | 10 => vs 10 = .pointer (some ⟨wb, 0, none⟩)
          | 11 => True
          | _ => True) (by kernel_rfl) (by kernel_rfl) [0, 1, 2, 3, 4, 5, 6, 7, 8, 9, 10, 11] (by kernel_rfl) ?hbase ?hGb ?hG ?hJ ?hE ?hEE ?hstep ?hQ
        case hbase => first | exact Nat.le_refl _ | omega | (simp; omega)
        case hGb =>
          exact hGb
        case hG =>
          exact hGd
        case hJ =>
          intro i hi iv iv' vs vs' wx wx' ha hv hz hk hj
          simp only [List.mem_cons, List.not_mem_nil, or_false] at hi
          rcases hi with rfl | rfl | rfl | rfl | rfl | rfl | rfl | rfl | rfl | rfl | rfl | rfl
          · exact (hv.out 0 (mem_of (by kernel_rfl))).symm.trans hj
          · exact (hv.out 1 (mem_of (by kernel_rfl))).symm.trans hj
          · exact (hv.out 2 (mem_of (by kernel_rfl))).symm.trans hj
          · have e3 := hv.out 3 (mem_of (by kernel_rfl))
            have g3 := ha.out 3 (mem_of (by kernel_rfl))
            obtain ⟨u, q1, q2, q3⟩ := hj
            exact ⟨u, e3 ▸ q1, g3 ▸ q2.keep (fun b hb h1 h2 => hk.out b hb (foot_own h1 h2)), q3.keep (hk.out _ q3.lt (foot_given 2 (by decide) (Or.inr (Or.inr ⟨rfl, rfl⟩))))⟩
          · exact (hv.out 4 (mem_of (by kernel_rfl))).symm.trans hj
          · exact (hv.out 5 (mem_of (by kernel_rfl))).symm.trans hj
          · exact (hv.out 6 (mem_of (by kernel_rfl))).symm.trans hj
          · have e3 := hv.out 3 (mem_of (by kernel_rfl))
            have e7 := hv.out 7 (mem_of (by kernel_rfl))
            have hj' : vs 7 = .int .i64 ((valI (vs 3)).tmod A) := hj
            show vs' 7 = .int .i64 ((valI (vs' 3)).tmod A)
            rw [← e3, ← e7]
            exact hj'
          · have e7 := hv.out 7 (mem_of (by kernel_rfl))
            have e8 := hv.out 8 (mem_of (by kernel_rfl))
            have g8 := ha.out 8 (mem_of (by kernel_rfl))
            obtain ⟨q1, q3, q2⟩ := hj
            show vs' 8 = .slice (some ⟨(iv' 8).1, 0, none⟩) 1 1 ∧ (iv' 8).2 = (iv' 8).1 + 1 ∧ Blk wx' (iv' 8).1 2 [.int .i64 (valI (vs' 7))]
            rw [← e7, ← e8, ← g8]
            exact ⟨q1, q3, q2.keep (hk.out _ q2.lt (foot_own (Nat.le_refl _) (by omega)))⟩
          · have e9 := hv.out 9 (mem_of (by kernel_rfl))
            obtain ⟨g, cap, q1, q2⟩ := hj
            have e7 := hv.out 7 (mem_of (by kernel_rfl))
            refine ⟨g, cap, e9 ▸ q1, ?_⟩
            rw [← e7]
            exact (q2.keep (fun b hb h1 => hk.out b hb h1)).more (fun b hb h1 => foot_agree (l := ancs _ 12 9) (by exact of_decide_eq_true (by kernel_rfl)) ha.out h1)
          · exact (hv.out 10 (mem_of (by kernel_rfl))).symm.trans hj
          · have e9 := hv.out 9 (mem_of (by kernel_rfl))
            have hj' : Blk wx (wb) 44 [vs 9, vb'] := hj
            show Blk wx' (wb) 44 [vs' 9, vb']
            rw [← e9]
            exact hj'.keep (hk.out _ hj'.lt (foot_given 1 (by decide) (Or.inr (Or.inl ⟨rfl, rfl⟩))))
        case hE =>
          intro i hi iv vs wx hj
          simp only [List.mem_cons, List.not_mem_nil, or_false] at hi
          rcases hi with rfl | rfl | rfl | rfl | rfl | rfl | rfl | rfl | rfl | rfl | rfl | rfl
          · exact hj
          · exact hj
          · exact hj
          · obtain ⟨u, q1, -⟩ := hj
            exact ⟨u, q1⟩
          · exact hj
          · exact hj
          · exact hj
          · exact hj
          · exact ⟨hj.1, hj.2.1⟩
          · obtain ⟨g, cap, q1, -⟩ := hj
            exact ⟨g, cap, q1⟩
          · exact hj
          · trivial
        case hEE =>
          intro i hi iv iv' vs vs' ha hv hj
          simp only [List.mem_cons, List.not_mem_nil, or_false] at hi
          rcases hi with rfl | rfl | rfl | rfl | rfl | rfl | rfl | rfl | rfl | rfl | rfl | rfl
          · exact (hv.out 0 (mem_of (by kernel_rfl))).symm.trans hj
          · exact (hv.out 1 (mem_of (by kernel_rfl))).symm.trans hj
          · exact (hv.out 2 (mem_of (by kernel_rfl))).symm.trans hj
          · have e3 := hv.out 3 (mem_of (by kernel_rfl))
            have hj' : ∃ u, vs 3 = .int .i64 (PickZ.v (n := 8) (N := (N + 2 + 2 * (4 - j) + 1) + 1) u) := hj
            show ∃ u, vs' 3 = .int .i64 (PickZ.v (n := 8) (N := (N + 2 + 2 * (4 - j) + 1) + 1) u)
            rw [← e3]
            exact hj'
          · exact (hv.out 4 (mem_of (by kernel_rfl))).symm.trans hj
          · exact (hv.out 5 (mem_of (by kernel_rfl))).symm.trans hj
          · exact (hv.out 6 (mem_of (by kernel_rfl))).symm.trans hj
          · have e3 := hv.out 3 (mem_of (by kernel_rfl))
            have e7 := hv.out 7 (mem_of (by kernel_rfl))
            have hj' : vs 7 = .int .i64 ((valI (vs 3)).tmod A) := hj
            show vs' 7 = .int .i64 ((valI (vs' 3)).tmod A)
            rw [← e3, ← e7]
            exact hj'
          · have e8 := hv.out 8 (mem_of (by kernel_rfl))
            have g8 := ha.out 8 (mem_of (by kernel_rfl))
            have hj' : vs 8 = .slice (some ⟨(iv 8).1, 0, none⟩) 1 1 ∧ (iv 8).2 = (iv 8).1 + 1 := hj
            show vs' 8 = .slice (some ⟨(iv' 8).1, 0, none⟩) 1 1 ∧ (iv' 8).2 = (iv' 8).1 + 1
            rw [← e8, ← g8]
            exact hj'
          · have e9 := hv.out 9 (mem_of (by kernel_rfl))
            have hj' : ∃ g cap, vs 9 = .slice (some ⟨g, 0, none⟩) (ax.length + 1) cap := hj
            show ∃ g cap, vs' 9 = .slice (some ⟨g, 0, none⟩) (ax.length + 1) cap
            rw [← e9]
            exact hj'
          · exact (hv.out 10 (mem_of (by kernel_rfl))).symm.trans hj
          · trivial
        case hstep =>
          intro i hi opr ho iv vs w1 hB hS hSo hd he hbd hsep hun K hK
          simp only [List.mem_cons, List.not_mem_nil, or_false] at hi
          have hzB := hB.size
          have HGb := Lib.hid hGb
          clear hGb hGd
          have G1 := HGr.out.keep (hSo.out.block _ HGr.out.lt (fun ⟨m, hm⟩ => by rcases hm with ⟨_, h⟩ | ⟨_, h⟩ | ⟨_, h⟩ <;> omega))
          have g0 := G1.c0
          have g1 := G1.c1
          have ltg := G1.lt
          clear G1
          generalize hA : putFrom _ 0 vs _ = A at hK ⊢
          simp only [putFrom, puts] at hA
          rcases hi with rfl | rfl | rfl | rfl | rfl | rfl | rfl | rfl | rfl | rfl | rfl | rfl
          all_goals
            simp at ho
            subst ho
            subst hA
          · go_wp2_with fail
            exact Onward.mk (hK (.pointer (some ⟨wb, 0, none⟩)) _ _ (fun h => by cases h) (by first | rfl | (simp only [puts])) (Spares.refl _) (fun iv' _ _ => rfl))
          · have h0 : vs 0 = .pointer (some ⟨wb, 0, none⟩) := hd.out 0 (mem_of (by kernel_rfl)) (by decide) (by kernel_rfl)
            have K21 := K2.keep (hS.out 1 _ (by kernel_rfl) (Or.inr (Or.inl ⟨rfl, rfl⟩)))
            have k2c0 := K21.c0
            have k2z0 := K21.frozen 0
            have k2c1 := K21.c1
            have k2z1 := K21.frozen 1
            have k2lt := K21.lt
            go_wp2_with fail
            exact Onward.mk (hK (.slice a1 ax.length ca1) _ _ (fun h => by cases h) (by first | rfl | (simp only [puts, h0])) (Spares.refl _) (fun iv' _ _ => rfl))
          · go_wp2_with fail
            exact Onward.mk (hK (.pointer (some ⟨sb, 0, none⟩)) _ _ (fun h => by cases h) (by first | rfl | (simp only [puts])) (Spares.refl _) (fun iv' _ _ => rfl))
          · have h2 : vs 2 = .pointer (some ⟨sb, 0, none⟩) := hd.out 2 (mem_of (by kernel_rfl)) (by decide) (by kernel_rfl)
            have KS1 := KS.keep (hS.out 2 _ (by kernel_rfl) (Or.inr (Or.inr ⟨rfl, rfl⟩)))
            have ksc0 := KS1.c0
            have ksz0 := KS1.frozen 0
            have ksc1 := KS1.c1
            have ksz1 := KS1.frozen 1
            have ksc2 := KS1.c2
            have ksz2 := KS1.frozen 2
            have kslt := KS1.lt
            go_wp2_with fail
            refine (pick_at (n := 8) (N := (N + 2 + 2 * (4 - j) + 1)) (c := c) ⟨hb0, p, z, KS1, HRX.out.keep ⟨hB.size, fun i hi hn => hB.block i (by omega)⟩, HXS.out, by omega⟩ (by omega) (by omega)).mono ?_
            rintro e w2 ⟨u, rfl, hf, hs, hbk⟩
            go_wp2_with fail
            exact Onward.mk (hK (.int .i64 (PickZ.v (n := 8) (N := (N + 2 + 2 * (4 - j) + 1) + 1) u)) _ _ (fun h => by cases h) (by first | rfl | (simp only [puts, h2])) (hs.more (fun b h => Or.inl ⟨2, by decide, (Or.inr (Or.inr ⟨rfl, h⟩))⟩)) (fun iv' _ hi => ⟨u, rfl, by rw [hi]; exact Freshs.stretch (hf), hbk⟩))
          · go_wp2_with fail
            exact Onward.mk (hK (.agg #[.int .i64 t, .int .i64 a]) _ _ (fun h => by cases h) (by first | rfl | (simp only [puts])) (Spares.refl _) (fun iv' _ _ => rfl))
          · have h4 : vs 4 = .agg #[.int .i64 t, .int .i64 a] := hd.out 4 (mem_of (by kernel_rfl)) (by decide) (by kernel_rfl)
            go_wp2_with fail
            refine (Hcall.out _).mono ?_
            rintro e w2 ⟨rfl, hb⟩
            go_wp2_with fail
            exact Onward.mk (hK (.int .i64 A) _ _ (fun h => by cases h) (by first | rfl | (simp only [puts, h4])) (Spares.of_below hb) (fun iv' _ _ => rfl))
          · have h5 : vs 5 = .int .i64 A := hd.out 5 (mem_of (by kernel_rfl)) (by decide) (by kernel_rfl)
            go_wp2_with fail
            refine (Hmx.out _).mono ?_
            rintro e w2 ⟨rfl, hb⟩
            go_wp2_with fail
            exact Onward.mk (hK (.int .i64 A) _ _ (fun h => by cases h) (by first | rfl | (simp only [puts, h5])) (Spares.of_below hb) (fun iv' _ _ => rfl))
          · obtain ⟨u, h3, f3, fb3⟩ := hd.out 3 (mem_of (by kernel_rfl)) (by decide) (by kernel_rfl)
            have h6 : vs 6 = .int .i64 A := hd.out 6 (mem_of (by kernel_rfl)) (by decide) (by kernel_rfl)
            go_wp2_with fail
            exact Onward.mk (hK (.int .i64 (u.v.tmod A)) _ _ (fun h => by cases h) (by first | rfl | (simp only [puts, h3, h6])) (Spares.refl _) (fun iv' _ _ => by
              show (.int .i64 (u.v.tmod A) : Value) = .int .i64 ((valI (vs 3)).tmod A)
              simp only [h3, h6]))
          · have h7 : vs 7 = .int .i64 ((valI (vs 3)).tmod A) := hd.out 7 (mem_of (by kernel_rfl)) (by decide) (by kernel_rfl)
            go_wp2_with fail
            exact Onward.mk (hK (.slice (some ⟨w1.heap.size, 0, none⟩) 1 1) _ _ (fun h => by cases h) (by first | rfl | (simp only [puts, h7])) (Spares.of_below (Below.alloc (Below.refl _ _) (Nat.le_refl _) _)) (fun iv' _ hi => by
              show Value.slice (some ⟨w1.heap.size, 0, none⟩) 1 1 = .slice (some ⟨(iv' 8).1, 0, none⟩) 1 1 ∧ (iv' 8).2 = (iv' 8).1 + 1 ∧ Blk _ (iv' 8).1 2 [.int .i64 (valI (vs 7))]
              rw [hi, h7]
              exact ⟨rfl, by simp, Blk.new1 _ _ _⟩))
          · have h1 : vs 1 = .slice a1 ax.length ca1 := hd.out 1 (mem_of (by kernel_rfl)) (by decide) (by kernel_rfl)
            have h7 : vs 7 = .int .i64 ((valI (vs 3)).tmod A) := hd.out 7 (mem_of (by kernel_rfl)) (by decide) (by kernel_rfl)
            obtain ⟨h8, q8, f8⟩ := hd.out 8 (mem_of (by kernel_rfl)) (by decide) (by kernel_rfl)
            have V1 := V.keep (fun b _ hb => hS.out 0 b (by kernel_rfl) (Or.inl ⟨rfl, hb⟩))
            simp only [h1, h7, h8]
            have f8' : Blk w1 (iv 8).1 2 [.int .i64 (valI (vs 7))] := by first | exact f8 | (rw [h7] at f8; exact f8)
            refine wpList_append_s w1 (by rfl) _ _ 42 (by rfl) 2 ((.int .i64 0)) 1 8 Try.underlying42 info_int64 rfl (by decide) (S := (fun b => (w0.heap.size ≤ b ∧ b < wz.heap.size ∧ own b = 0))) (T := (fun _ => False)) _ (by rfl) V1 ⟨(iv 8).1, 0, none⟩ 1 1 [.int .i64 (valI (vs 7))] (by rfl) (news_blk f8') (int_own w1 (valI (vs 7))) (fun _ _ _ h => h) (by simp) (by simp [Value.oneCell']) (by omega) (by omega) (by unfold maxLen; omega) ?_
            intro g cap w2 hap ht
            go_wp2_with fail
            exact Onward.mk (hK (.slice (some ⟨g, 0, none⟩) (ax.length + 1) cap) _ _ (fun h => by cases h) (by first | rfl | (simp only [puts, h1, h7, h8])) (ht.more (fun b h => Or.inl ⟨0, by decide, (Or.inl ⟨rfl, h⟩)⟩)) (fun iv' ag hi => ⟨g, cap, rfl, hap.more (fun b _ h => by rcases h with h | h | h; exact foot_given 0 (by decide) (Or.inl ⟨rfl, h⟩); exact h.elim; exact foot_new hi h.1 h.2)⟩))
          · go_wp2_with fail
            exact Onward.mk (hK (.pointer (some ⟨wb, 0, none⟩)) _ _ (fun h => by cases h) (by first | rfl | (simp only [puts])) (Spares.refl _) (fun iv' _ _ => rfl))
          · have h10 : vs 10 = .pointer (some ⟨wb, 0, none⟩) := hd.out 10 (mem_of (by kernel_rfl)) (by decide) (by kernel_rfl)
            obtain ⟨g9, cap9, h9, f9⟩ := hd.out 9 (mem_of (by kernel_rfl)) (by decide) (by kernel_rfl)
            have K21 := K2.keep (hS.out 1 _ (by kernel_rfl) (Or.inr (Or.inl ⟨rfl, rfl⟩)))
            have k2c0 := K21.c0
            have k2z0 := K21.frozen 0
            have k2c1 := K21.c1
            have k2z1 := K21.frozen 1
            have k2lt := K21.lt
            go_wp2_with fail
            exact Onward.mk (hK undef _ _ (fun _ => rfl) (by simp only [puts, h10, h9]) ((spares_sets (b0 := wb) (by repeat (first | exact Spares.refl _ | apply Spares.set))).more (fun b h => Or.inl ⟨1, by decide, (Or.inr (Or.inl ⟨rfl, h⟩))⟩)) (fun iv' ag hi => by
              show Blk _ (wb) 44 [vs 9, vb']
              rw [h9]
              exact (K21.set 0 _)))
        case hQ =>
          intro iv vs wx hB hSp hd he hbd hsep
          have hzB := hB.size
          have h0 : vs 0 = .pointer (some ⟨wb, 0, none⟩) := hd.out 0 (mem_of (by kernel_rfl)) (not_eaten (by kernel_rfl))
          have h1 : vs 1 = .slice a1 ax.length ca1 := hd.out 1 (mem_of (by kernel_rfl)) (not_eaten (by kernel_rfl))
          have h2 : vs 2 = .pointer (some ⟨sb, 0, none⟩) := hd.out 2 (mem_of (by kernel_rfl)) (not_eaten (by kernel_rfl))
          obtain ⟨u, h3, f3, fb3⟩ := hd.out 3 (mem_of (by kernel_rfl)) (not_eaten (by kernel_rfl))
          have h4 : vs 4 = .agg #[.int .i64 t, .int .i64 a] := hd.out 4 (mem_of (by kernel_rfl)) (not_eaten (by kernel_rfl))
          have h5 : vs 5 = .int .i64 A := hd.out 5 (mem_of (by kernel_rfl)) (not_eaten (by kernel_rfl))
          have h6 : vs 6 = .int .i64 A := hd.out 6 (mem_of (by kernel_rfl)) (not_eaten (by kernel_rfl))
          have h7 : vs 7 = .int .i64 ((valI (vs 3)).tmod A) := hd.out 7 (mem_of (by kernel_rfl)) (not_eaten (by kernel_rfl))
          obtain ⟨h8, q8, f8⟩ := hd.out 8 (mem_of (by kernel_rfl)) (not_eaten (by kernel_rfl))
          obtain ⟨g9, cap9, h9, f9⟩ := hd.out 9 (mem_of (by kernel_rfl)) (not_eaten (by kernel_rfl))
          have h10 : vs 10 = .pointer (some ⟨wb, 0, none⟩) := hd.out 10 (mem_of (by kernel_rfl)) (not_eaten (by kernel_rfl))
          have f11 : Blk _ (wb) 44 [vs 9, vb'] := hd.out 11 (mem_of (by kernel_rfl)) (not_eaten (by kernel_rfl))
          have lo9 : ∀ b, foot [] [(3, 2), (9, 0), (11, 1)] (fun m b => (m = 0 ∧ (w0.heap.size ≤ b ∧ b < wz.heap.size ∧ own b = 0)) ∨ (m = 1 ∧ b = wb) ∨ (m = 2 ∧ b = sb)) 12 9 iv b → (B) ≤ b := by
            rintro b ⟨j, hj, hh⟩
            have hj' := of_decide_eq_true (List.all_eq_true.1 (show ((chainOf [] 12 9).all fun j => decide (j ∈ [9])) = true from by kernel_rfl) j hj)
            simp only [List.mem_cons, List.not_mem_nil, or_false] at hj'
            rcases hj' with rfl
            · have q := (hbd.out 9 (mem_of (by kernel_rfl))).1
              rcases hh with hh | ⟨m, hm, hg⟩
              · omega
              · simp at hm
                subst hm
                simp at hg
                have q' := Vf b hg
                omega
          simp only [putFrom, puts]
          have so9 : ∀ b, (foot [] [(3, 2), (9, 0), (11, 1)] (fun m b => (m = 0 ∧ (w0.heap.size ≤ b ∧ b < wz.heap.size ∧ own b = 0)) ∨ (m = 1 ∧ b = wb) ∨ (m = 2 ∧ b = sb)) 12 9 iv) b → (w0.heap.size ≤ b ∧ b < wz.heap.size ∧ own b = 0) ∨ (wz).heap.size ≤ b := by
            rintro b ⟨j, hj, hh⟩
            have hj' := of_decide_eq_true (List.all_eq_true.1 (show ((chainOf [] 12 9).all fun j => decide (j ∈ [9])) = true from by kernel_rfl) j hj)
            simp only [List.mem_cons, List.not_mem_nil, or_false] at hj'
            rcases hj' with rfl
            · have q := (hbd.out 9 (mem_of (by kernel_rfl))).1
              rcases hh with hh | ⟨m, hm, hg⟩
              · exact Or.inr (by omega)
              · simp at hm; subst hm; simp at hg; exact Or.inl hg
          rw [h9] at f11
          rw [h7, h3] at f9
          have up := u.hp
          have hzx := hSp.out.size
          have hS' : SrcW B sb ((N + 2 + 2 * (4 - j) + 1) + 1) wx := ⟨hb0, xs, s, c, u.p, u.y, fb3, HRX.out.keep ⟨hB.size, fun i hi hn => hB.block i (by omega)⟩, HXS.out, by omega⟩
          have hdr : Drew B sb ((N + 2 + 2 * (4 - j) + 1) + 1) w0 wx := ⟨hS', HD.out.2.os |> fun q => ⟨hSp.out.os.trans q, hSp.out.tape.trans HD.out.2.tape, hSp.out.output.trans HD.out.2.output, by omega, fun i hi hn => (hSp.out.block i (by omega) (fun ⟨m, hm⟩ => by rcases hm with ⟨_, h⟩ | ⟨_, h⟩ | ⟨_, h⟩ <;> omega)).trans (HD.out.2.block i hi hn)⟩⟩
          have HS3 : Hid (WdS B sb wb (1 + (4 - j) + 1) ((N + 2 + 2 * (4 - j) + 1) + 1) w0 wx (ax ++ [u.v.tmod A]) ay (.slice (some ⟨g9, 0, none⟩) (ax.length + 1) cap9) (vb')) :=
            ⟨HtA.out wx _ (u.v.tmod A) _ (by omega) hzx (fun b h1 h2 h3 => hSp.out.block b h2 (fun ⟨m, hm⟩ => by rcases hm with ⟨_, h⟩ | ⟨_, h⟩ | ⟨_, h⟩; omega; (rw [h] at h3; omega); omega)) f9 (fun b _ h => so9 b h) f11, by rw [List.length_append]; simp, by rw [List.length_append]; simp; omega, by omega, hdr⟩
          clear hd he hbd hsep h0 h1 h2 h3 h4 h5 h6 h7 h8 h9 h10 so9 lo9 f9 f11 f3 fb3 f8 q8 how1 hwl hwlt HtA HtB V Vf K2 hB hSp hS' hdr hGb hGd KS HRX HXS HD HS
          obtain ⟨wy, rfl⟩ : ∃ v, v = wx := ⟨_, rfl⟩
          have HS := HS3
          clear HS3
          have e4 : IntKind.i64.wrap ((j : Int) - 1) = ((j - 1 : Nat) : Int) := by rw [show (j : Int) - 1 = ((j - 1 : Nat) : Int) by omega]; exact wrap_of (by omega) (by omega)
          go_wp2_with fail
          go_roundw
          case rel => exact ⟨j - 1, _, _, _, _, by omega, by go_num, HS.out.more (by omega) (by omega)⟩
          case measure => simp [intOf]; omega
end Go.Proofs.Ytfhlddbngjlhbaa
