/-
  Parts of a proof, joined: DerUS, WdB, Src. No condition.
-/
import Derived.Laws.BitsLemmas
import Derived.Laws.Bits64
import Derived.Test.YtbflhjjnemdecaaPk12
namespace Go.Proofs.Ytbflhjjnemdecaa
set_option linter.unusedVariables false
set_option linter.unusedSimpArgs false
open Go.ChangeShapes Go.WideShapes Go.ChangeAt Go.RowKit Go.Deep Go.Sort
theorem step_some' {tm am m x : Int} (ht2 : tm ≤ 2) (ha : am ≤ 8) (h0 : 0 ≤ m) (h7 : m ≤ 7) {e d : Ex} {b o : Nat} {w : World} (hx : ExAt w b o e) (htr : e.tree tm am = true) (hs : e.size ≤ 10000) (ho : Hid (e.step m x = some d)) :
  Calls Try.prog 136 #[.pointer (some ⟨b, o, none⟩), .int .i64 m, .int .i64 x] w fun f w' => ∃ s' c', f = .returned (.tuple #[.agg #[.int .i64 d.kind, .int .i64 d.num, .slice s' d.kids.length c'], .bool true]) ∧ Freshs w w' [kidsD d.kids] [.slice s' d.kids.length c'] ∧ Below w.heap.size w w' := by
 have := l02Step_all tm am m x ht2 ha h0 h7 _ e b o w (Nat.le_refl _) hx htr hs
 rw [ho.out] at this
 exact this.mono fun _ _ ⟨y, s', c', h1, h2, h3⟩ => by obtain ⟨rfl, h4⟩ := h2 d rfl; exact ⟨s', c', h1, h4, h3⟩
theorem step_none' {tm am m x : Int} (ht2 : tm ≤ 2) (ha : am ≤ 8) (h0 : 0 ≤ m) (h7 : m ≤ 7) {e : Ex} {b o : Nat} {w : World} (hx : ExAt w b o e) (htr : e.tree tm am = true) (hs : e.size ≤ 10000) (ho : Hid (e.step m x = none)) :
  Calls Try.prog 136 #[.pointer (some ⟨b, o, none⟩), .int .i64 m, .int .i64 x] w fun f w' => ∃ (y : Ex) (s' : Option Addr) (c' : Nat), f = .returned (.tuple #[.agg #[.int .i64 y.kind, .int .i64 y.num, .slice s' y.kids.length c'], .bool false]) ∧ Below w.heap.size w w' := by
 have := l02Step_all tm am m x ht2 ha h0 h7 _ e b o w (Nat.le_refl _) hx htr hs
 rw [ho.out] at this
 exact this.mono fun _ _ ⟨y, s', c', h1, h2, h3⟩ => ⟨y, s', c', h1, h3⟩
end Go.Proofs.Ytbflhjjnemdecaa

namespace Go.Proofs.Ytbflhjjnemdecaa
set_option linter.unusedVariables false
set_option linter.unusedSimpArgs false
open Go.ChangeShapes Go.WideShapes Go.ChangeAt Go.RowKit Go.Deep
theorem int_own (w : World) (x : Int) : OwS (fun _ => False) w [.int x] [.int .i64 x] := ⟨[], Ows.cons (F := []) (by simp [Ow]) Ows.nil, by simp, by simp⟩
def WdB (B : Nat) (w : World) (wb : Nat) (xs ys : List Int) (va vb : Value) : Prop :=
 Bun B w [.app 2 1 xs.length (xs.map D.int) va, .box wb 40 [va, vb], .app 2 1 ys.length (ys.map D.int) vb]
theorem WdB.box {B : Nat} {w : World} {wb : Nat} {xs ys : List Int} {va vb : Value} (h : WdB B w wb xs ys va vb) : Blk w wb 40 [va, vb] ∧ B ≤ wb := Bun.box h 1 rfl
theorem WdB.shapeA {B : Nat} {w : World} {wb : Nat} {xs ys : List Int} {va vb : Value} (h : WdB B w wb xs ys va vb) : ∃ a cap, va = .slice a xs.length cap ∧ xs.length ≤ cap ∧ cap ≤ maxLen := Bun.shape h 0 rfl
theorem WdB.shapeB {B : Nat} {w : World} {wb : Nat} {xs ys : List Int} {va vb : Value} (h : WdB B w wb xs ys va vb) : ∃ a cap, vb = .slice a ys.length cap ∧ ys.length ≤ cap ∧ cap ≤ maxLen := Bun.shape h 2 rfl
theorem WdB.owns {B : Nat} {w : World} {wb : Nat} {xs ys : List Int} {va vb : Value} (h : WdB B w wb xs ys va vb) : ∃ F G : List Nat, Ow w (intsD xs) va F ∧ F.Nodup ∧ Ow w (intsD ys) vb G ∧ G.Nodup ∧ (∀ b ∈ F, B ≤ b ∧ b ≠ wb ∧ b ∉ G) ∧ ∀ b ∈ G, B ≤ b ∧ b ≠ wb := by
 obtain ⟨own, h⟩ := h
 have h0 := h 0 _ rfl
 have h1 := h 1 _ rfl
 have h2 := h 2 _ rfl
 have h0' : AppS (fun b => B ≤ b ∧ b < w.heap.size ∧ own b = 0) w 2 1 xs.length (xs.map D.int) va := h0
 have h2' : AppS (fun b => B ≤ b ∧ b < w.heap.size ∧ own b = 2) w 2 1 ys.length (ys.map D.int) vb := h2
 obtain ⟨F, f1, f2, f3⟩ := h0'.foot
 obtain ⟨G, g1, g2, g3⟩ := h2'.foot
 have hw : own wb = 1 := h1.1.2.2
 refine ⟨F, G, f1, f2, g1, g2, fun b hb => ?_, fun b hb => ?_⟩
 ·
  have q := f3 b hb
  refine ⟨q.1, fun e => ?_, fun hg => ?_⟩
  ·
   rw [e, hw] at q; omega
  ·
   have := g3 b hg; omega
 ·
  have q := g3 b hb
  exact ⟨q.1, fun e => by rw [e, hw] at q; omega⟩
end Go.Proofs.Ytbflhjjnemdecaa

namespace Go.Proofs.Ytbflhjjnemdecaa
set_option linter.unusedVariables false
set_option linter.unusedSimpArgs false
open Go.ChangeShapes Go.WideShapes Go.ChangeAt Go.RowKit Go.Deep Go.Sort
def bytesD (xs : List Int) : D := .sl 1 xs.length (xs.map fun x => D.raw (.int .u8 x))
def SrcV (B b : Nat) (xs : List Int) (s : Option Addr) (c N : Nat) (w : World) : Prop :=
 B ≤ b ∧ ∃ (p : Nat) (z : Int), Blk w b 155 [.slice s xs.length c, .int .i64 p, .int .u64 z] ∧ RdX (fun i => B ≤ i) w (bytesD xs) (.slice s xs.length c) ∧ (∀ x ∈ xs, 0 ≤ x ∧ x ≤ 255) ∧ p ≤ N
def SrcW (B b N : Nat) (w : World) : Prop :=
 B ≤ b ∧ ∃ (xs : List Int) (s : Option Addr) (c p : Nat) (z : Int), Blk w b 155 [.slice s xs.length c, .int .i64 p, .int .u64 z] ∧ RdX (fun i => B ≤ i) w (bytesD xs) (.slice s xs.length c) ∧ (∀ x ∈ xs, 0 ≤ x ∧ x ≤ 255) ∧ p ≤ N
theorem SrcW.keep {B b N : Nat} {w w' : World} (h : SrcW B b N w) (hb : Below B w w') (hk : w'.heap[b]? = w.heap[b]?) : SrcW B b N w' := by
 obtain ⟨h0, xs, s, c, p, z, h1, h2, h3⟩ := h
 exact ⟨h0, xs, s, c, p, z, h1.keep hk, h2.keep ⟨hb.size, fun i hi hn => hb.block i (by omega)⟩, h3⟩
theorem SrcW.lt {B b N : Nat} {w : World} (h : SrcW B b N w) : b < w.heap.size := by
 obtain ⟨h0, xs, s, c, p, z, h1, h2, h3⟩ := h
 exact h1.lt
theorem SrcW.below {B b N : Nat} {w w' : World} (h : SrcW B b N w) (hb : Below w.heap.size w w') : SrcW B b N w' :=
 h.keep (hb.mono (by have := h.lt; have := h.1; omega)) (hb.block _ h.lt)
theorem SrcW.more {B b N M : Nat} {w : World} (h : SrcW B b N w) (hM : N ≤ M) : SrcW B b M w := by
 obtain ⟨h0, xs, s, c, p, z, h1, h2, h3, h4⟩ := h
 exact ⟨h0, xs, s, c, p, z, h1, h2, h3, by omega⟩
theorem byte_in {w : World} {xs : List Int} {b o len cap : Nat} (h : Rd w (bytesD xs) (.slice (some ⟨b, o, none⟩) len cap)) {i : Nat} {x : Int} (hx : xs[i]? = some x) : b < w.heap.size ∧ w.cell? ⟨b, o + i, none⟩ = some (.int .u8 x) := by
 obtain ⟨_, _, _, _, _, h4⟩ := h.sl_at
 have hi := (List.getElem?_eq_some_iff.1 hx).1
 rcases h4 with h4 | ⟨b', o', e1, h4⟩
 ·
  omega
 ·
  simp only [Option.some.injEq, Addr.mk.injEq, and_true] at e1
  obtain ⟨rfl, rfl⟩ := e1
  obtain ⟨v, h5, h6⟩ := h4 i (D.raw (.int .u8 x)) (by rw [List.getElem?_map, hx]; rfl)
  obtain rfl : v = .int .u8 x := by simp only [Rd] at h6; exact h6.1
  exact ⟨World.block_lt_of_cell? w _ h5, h5⟩
theorem byte_some {w : World} {xs : List Int} {a : Option Addr} {len cap : Nat} (h : Rd w (bytesD xs) (.slice a len cap)) (hk : 0 < xs.length) : ∃ b o, a = some ⟨b, o, none⟩ := by
 obtain ⟨_, _, _, _, _, h4⟩ := h.sl_at
 rcases h4 with h4 | ⟨b', o', e1, _⟩
 ·
  omega
 ·
  exact ⟨b', o', e1⟩
theorem and255 (z : Int) (h0 : 0 ≤ z) (h1 : z < 16777216) : 0 ≤ wrap64 (bits BinOp.and IntKind.u64 z 255) ∧ wrap64 (bits BinOp.and IntKind.u64 z 255) ≤ 255 := by
 obtain ⟨n, rfl⟩ := Int.eq_ofNat_of_zero_le h0
 have h := (bits_nat .u64 63 (by decide) (fun n h0 h1 => by rw [IntKind.wrap_u64]; omega) n 255 (by omega) (by decide)).1
 have hle : n &&& 255 ≤ 255 := Nat.and_le_right
 have h' : bits BinOp.and IntKind.u64 (n : Int) 255 = ((n &&& 255 : Nat) : Int) := h
 rw [h']
 unfold wrap64
 omega
theorem seed_small {z y : Int} (h : IntKind.u64.wrap y = z) : 0 ≤ z / 1099511627776 ∧ z / 1099511627776 < 16777216 := by
 rw [IntKind.wrap_u64] at h
 omega
theorem src_set {w : World} {b t : Nat} {a x y : Value} (h : Blk w b t [a, x, y]) (x' y' : Value) : ∃ w', (w.setCell ⟨b, 1, none⟩ x').setCell ⟨b, 2, none⟩ y' = w' ∧ Blk w' b t [a, x', y'] ∧ Spares (fun i => i = b) w w' :=
 ⟨_, rfl, (h.set 1 x').set 2 y', Spares.set (Spares.set (Spares.refl w))⟩
set_option maxHeartbeats 4000000 in
theorem next_v {B b N : Nat} {xs : List Int} {s : Option Addr} {c : Nat} {w : World} (h : SrcV B b xs s c N w) (hN : N < 1000000000000) : Calls Try.prog 131 #[.pointer (some ⟨b, 0, none⟩)] w fun f w' => ∃ z : Int, f = .returned (.int .i64 z) ∧ 0 ≤ z ∧ z ≤ 255 ∧ SrcV B b xs s c (N + 1) w' ∧ Spares (fun i => i = b) w w' := by
 obtain ⟨hBb, p, z, K, hr, hx, hp⟩ := h
 obtain ⟨n0, n1, n2, f0, f1, f2, lt⟩ := K.all3
 obtain ⟨-, hl, hc, -⟩ := hr.rd.sl_at
 unfold maxLen at hc
 have Hr := Lib.hid hr
 have Hx := Lib.hid hx
 have HK := Lib.hid K
 have HB := Lib.hid (Spares.refl (X := fun i => i = b) w)
 have hp0 := Int.natCast_nonneg p
 by_cases hlt : p < xs.length
 ·
  obtain ⟨x, hxp⟩ : ∃ x, xs[p]? = some x := ⟨_, List.getElem?_eq_getElem hlt⟩
  obtain ⟨hx0, hx1⟩ := Hx.out x (List.mem_of_getElem? hxp)
  obtain ⟨sb, so, rfl⟩ := byte_some Hr.out.rd (by omega)
  have Hxp := Lib.hid hxp
  have hpl : (p : Int) < (xs.length : Int) := by omega
  clear hxp hr hx K
  go_enter Try.func131, Try.ntmps131
  go_wp2_with fail
  have gn0 := fun d os => cell_regrown n0 d os
  have gn1 := fun d os => cell_regrown n1 d os
  have gn2 := fun d os => cell_regrown n2 d os
  skip
  refine Go.wp_region_quiet_below (by kernel_rfl) (by kernel_rfl) ?_
  repeat (first | go_big_quiet_step ((fail)) | quiet_step ((fail)))
  refine wpQuiet_nil ?_; intro _ hw'; obtain ⟨⟨dq, osq⟩, hw''⟩ := hw'; subst hw''; have hq := below_regrown w dq osq; revert hq; generalize grow (redrawn w dq) osq = w1; intro hq
  have hzw1 := hq.size
  replace HK := Lib.hid (HK.out.below hq)
  replace Hr := Lib.hid (Hr.out.below hq)
  replace HB := Lib.hid (HB.out.trans (Spares.of_below hq))
  have hz0w1 := HB.out.size
  clear gn0 gn1 gn2 n0 n1 n2 f0 f1 f2 lt hq
  obtain ⟨n0, n1, n2, f0, f1, f2, lt⟩ := HK.out.all3
  go_wp2_with fail
  obtain ⟨ltS, g0⟩ := byte_in Hr.out.rd Hxp.out
  have gn0 := fun d os => cell_regrown n0 d os
  have gn1 := fun d os => cell_regrown n1 d os
  have gn2 := fun d os => cell_regrown n2 d os
  have gg0 := fun d os => cell_regrown g0 d os
  refine Go.wp_region_quiet_below (by kernel_rfl) (by kernel_rfl) ?_
  repeat (first | go_big_quiet_step ((fail)) | quiet_step ((fail)))
  refine wpQuiet_nil ?_; intro _ hw'; obtain ⟨⟨dq, osq⟩, hw''⟩ := hw'; subst hw''; have hq := below_regrown w1 dq osq; revert hq; generalize grow (redrawn w1 dq) osq = w2; intro hq
  have hzw2 := hq.size
  replace HK := Lib.hid (HK.out.below hq)
  replace Hr := Lib.hid (Hr.out.below hq)
  replace HB := Lib.hid (HB.out.trans (Spares.of_below hq))
  have hz0w2 := HB.out.size
  clear gn0 gn1 gn2 n0 n1 n2 f0 f1 f2 lt hq
  obtain ⟨n0, n1, n2, f0, f1, f2, lt⟩ := HK.out.all3
  go_wp2_with fail
  clear g0 gg0
  obtain ⟨z', hz'⟩ : ∃ z', IntKind.u64.wrap (IntKind.u64.wrap (IntKind.u64.wrap (z * 6364136223846793005) + x) + 1442695040888963407) = z' := ⟨_, rfl⟩
  rw [hz']
  obtain ⟨w3, e3, K3, hs3⟩ := src_set HK.out (.int .i64 ((p : Int) + 1)) (.int .u64 z')
  rw [e3]
  have hB3 : Below B w2 w3 := hs3.below (by omega) (fun i hi => by omega)
  replace Hr := Lib.hid (Hr.out.keep ⟨hs3.size, fun i hi hn => hs3.block i hi (fun e => hn (by omega))⟩)
  replace HB := Lib.hid (HB.out.trans hs3)
  replace HK := Lib.hid K3
  clear e3 n0 n1 n2 f0 f1 f2 lt K3 hs3 hB3
  obtain ⟨n0, n1, n2, f0, f1, f2, lt⟩ := HK.out.all3
  have gn0 := fun d os => cell_regrown n0 d os
  have gn1 := fun d os => cell_regrown n1 d os
  have gn2 := fun d os => cell_regrown n2 d os
  skip
  refine Go.wp_region_quiet_below (by kernel_rfl) (by kernel_rfl) ?_
  repeat (first | go_big_quiet_step ((fail)) | quiet_step ((fail)))
  refine wpQuiet_nil ?_; intro _ hw'; obtain ⟨⟨dq, osq⟩, hw''⟩ := hw'; subst hw''; have hq := below_regrown w3 dq osq; revert hq; generalize grow (redrawn w3 dq) osq = w4; intro hq
  have hzw4 := hq.size
  replace HK := Lib.hid (HK.out.below hq)
  replace Hr := Lib.hid (Hr.out.below hq)
  replace HB := Lib.hid (HB.out.trans (Spares.of_below hq))
  have hz0w4 := HB.out.size
  clear gn0 gn1 gn2 n0 n1 n2 f0 f1 f2 lt hq
  obtain ⟨n0, n1, n2, f0, f1, f2, lt⟩ := HK.out.all3
  go_wp2_with fail
  go_ret
  have e1 : ((p + 1 : Nat) : Int) = (p : Int) + 1 := by omega
  exact ⟨x, rfl, hx0, hx1, ⟨hBb, p + 1, z', by rw [e1]; exact HK.out, Hr.out, Hx.out, by omega⟩, HB.out⟩
 ·
  have hpl : ¬ (p : Int) < (xs.length : Int) := by omega
  clear hr hx K
  go_enter Try.func131, Try.ntmps131
  go_wp2_with fail
  have gn0 := fun d os => cell_regrown n0 d os
  have gn1 := fun d os => cell_regrown n1 d os
  have gn2 := fun d os => cell_regrown n2 d os
  skip
  refine Go.wp_region_quiet_below (by kernel_rfl) (by kernel_rfl) ?_
  repeat (first | go_big_quiet_step ((fail)) | quiet_step ((fail)))
  refine wpQuiet_nil ?_; intro _ hw'; obtain ⟨⟨dq, osq⟩, hw''⟩ := hw'; subst hw''; have hq := below_regrown w dq osq; revert hq; generalize grow (redrawn w dq) osq = w2; intro hq
  have hzw2 := hq.size
  replace HK := Lib.hid (HK.out.below hq)
  replace Hr := Lib.hid (Hr.out.below hq)
  replace HB := Lib.hid (HB.out.trans (Spares.of_below hq))
  have hz0w2 := HB.out.size
  clear gn0 gn1 gn2 n0 n1 n2 f0 f1 f2 lt hq
  obtain ⟨n0, n1, n2, f0, f1, f2, lt⟩ := HK.out.all3
  go_wp2_with fail
  obtain ⟨z', hz'⟩ : ∃ z', IntKind.u64.wrap (IntKind.u64.wrap (IntKind.u64.wrap (z * 6364136223846793005)) + 1442695040888963407) = z' := ⟨_, rfl⟩
  rw [hz']
  obtain ⟨w3, e3, K3, hs3⟩ := src_set HK.out (.int .i64 ((p : Int) + 1)) (.int .u64 z')
  rw [e3]
  have hB3 : Below B w2 w3 := hs3.below (by omega) (fun i hi => by omega)
  replace Hr := Lib.hid (Hr.out.keep ⟨hs3.size, fun i hi hn => hs3.block i hi (fun e => hn (by omega))⟩)
  replace HB := Lib.hid (HB.out.trans hs3)
  replace HK := Lib.hid K3
  clear e3 n0 n1 n2 f0 f1 f2 lt K3 hs3 hB3
  obtain ⟨n0, n1, n2, f0, f1, f2, lt⟩ := HK.out.all3
  have gn0 := fun d os => cell_regrown n0 d os
  have gn1 := fun d os => cell_regrown n1 d os
  have gn2 := fun d os => cell_regrown n2 d os
  skip
  refine Go.wp_region_quiet_below (by kernel_rfl) (by kernel_rfl) ?_
  repeat (first | go_big_quiet_step ((fail)) | quiet_step ((fail)))
  refine wpQuiet_nil ?_; intro _ hw'; obtain ⟨⟨dq, osq⟩, hw''⟩ := hw'; subst hw''; have hq := below_regrown w3 dq osq; revert hq; generalize grow (redrawn w3 dq) osq = w4; intro hq
  have hzw4 := hq.size
  replace HK := Lib.hid (HK.out.below hq)
  replace Hr := Lib.hid (Hr.out.below hq)
  replace HB := Lib.hid (HB.out.trans (Spares.of_below hq))
  have hz0w4 := HB.out.size
  clear gn0 gn1 gn2 n0 n1 n2 f0 f1 f2 lt hq
  obtain ⟨n0, n1, n2, f0, f1, f2, lt⟩ := HK.out.all3
  go_wp2_with fail
  obtain ⟨q1, q2⟩ := seed_small hz'
  obtain ⟨q3, q4⟩ := and255 _ q1 q2
  go_ret
  have e1 : ((p + 1 : Nat) : Int) = (p : Int) + 1 := by omega
  exact ⟨_, rfl, q3, q4, ⟨hBb, p + 1, z', by rw [e1]; exact HK.out, Hr.out, Hx.out, by omega⟩, HB.out⟩
theorem SrcV.more {B b N M : Nat} {xs : List Int} {s : Option Addr} {c : Nat} {w : World} (h : SrcV B b xs s c N w) (hM : N ≤ M) : SrcV B b xs s c M w := by
 obtain ⟨h0, p, z, h1, h2, h3, h4⟩ := h
 exact ⟨h0, p, z, h1, h2, h3, by omega⟩
theorem SrcV.w {B b N : Nat} {xs : List Int} {s : Option Addr} {c : Nat} {w : World} (h : SrcV B b xs s c N w) : SrcW B b N w := ⟨h.1, xs, s, c, h.2⟩
theorem SrcW.v {B b N : Nat} {w : World} (h : SrcW B b N w) : ∃ xs s c, SrcV B b xs s c N w := by
 obtain ⟨h0, xs, s, c, h1⟩ := h
 exact ⟨xs, s, c, h0, h1⟩
def Drew (B b N : Nat) (w w' : World) : Prop := SrcW B b N w' ∧ Spares (fun i => i = b) w w'
theorem Drew.below {B b N : Nat} {w w' : World} (h : Drew B b N w w') (hB : B ≤ w.heap.size) : Below B w w' := h.2.below hB (fun i hi => by have := h.1.1; omega)
theorem pick_v {B b N : Nat} {xs : List Int} {s : Option Addr} {c : Nat} {n : Int} {w : World} (h : SrcV B b xs s c N w) (hN : N < 1000000000000) (hn : n ≤ 200) : Calls Try.prog 82 #[.pointer (some ⟨b, 0, none⟩), .int .i64 n] w fun f w' => ∃ z : Int, f = .returned (.int .i64 z) ∧ 0 ≤ z ∧ (z < n ∨ z = 0) ∧ SrcV B b xs s c (N + 1) w' ∧ Spares (fun i => i = b) w w' := by
 by_cases h1 : n ≤ 1
 ·
  go_enter Try.func82, Try.ntmps82
  go_wp2_with fail
  go_ret
  exact ⟨0, rfl, by omega, Or.inr rfl, h.more (by omega), Spares.refl _⟩
 ·
  go_enter Try.func82, Try.ntmps82
  go_wp2_with fail
  refine (next_v h hN).mono ?_
  rintro f w1 ⟨z, rfl, h2, h3, h4, h5⟩
  have hm : 0 ≤ z % n ∧ z % n < n := ⟨Int.emod_nonneg _ (by omega), Int.emod_lt_of_pos _ (by omega)⟩
  go_wp2_with fail
  go_ret
  exact ⟨_, rfl, hm.1, Or.inl hm.2, h4, h5⟩
theorem pick_i {B b N : Nat} {n : Int} {w : World} (h : SrcW B b N w) (hN : N < 1000000000000) (hn : n ≤ 200) : Calls Try.prog 82 #[.pointer (some ⟨b, 0, none⟩), .int .i64 n] w fun f w' => ∃ z : Int, f = .returned (.int .i64 z) ∧ 0 ≤ z ∧ (z < n ∨ z = 0) ∧ Drew B b (N + 1) w w' := by
 obtain ⟨xs, s, c, h⟩ := h.v
 refine (pick_v h hN hn).mono ?_
 rintro f w' ⟨z, h1, h2, h3, h4, h5⟩
 exact ⟨z, h1, h2, h3, h4.w, h5⟩
theorem one_i {B b N : Nat} {n : Int} {w : World} (h : SrcW B b N w) (hN : N < 1000000000000) (hn : n ≤ 200) : Calls Try.prog 132 #[.pointer (some ⟨b, 0, none⟩), .int .i64 n] w fun f w' => ∃ v : Bool, f = .returned (.bool v) ∧ Drew B b (N + 1) w w' := by
 go_enter Try.func132, Try.ntmps132
 go_wp2_with fail
 refine (pick_i h hN hn).mono ?_
 rintro f w1 ⟨z, rfl, h2, h3, h4⟩
 go_wp2_with fail
 go_ret
 exact ⟨_, rfl, h4⟩
theorem from_i {xs : List Int} {s : Option Addr} {c : Nat} {w : World} (hr : Rd w (bytesD xs) (.slice s xs.length c)) (hx : ∀ x ∈ xs, 0 ≤ x ∧ x ≤ 255) :
  Calls Try.prog 81 #[.slice s xs.length c] w fun f w' => ∃ b, f = .returned (.pointer (some ⟨b, 0, none⟩)) ∧ SrcW w.heap.size b 0 w' ∧ Below w.heap.size w w' := by
 go_enter Try.func81, Try.ntmps81
 go_wp2_with fail
 obtain ⟨w1, e1, K, hb, hz⟩ := box3 w 155 (.slice s xs.length c) (.int .i64 0) (.int .u64 0)
 rw [e1]
 go_ret
 exact ⟨_, rfl, ⟨Nat.le_refl _, xs, s, c, 0, 0, K, (RdX.of_rd hr (fun b hb => hb)).below hb, hx, Nat.le_refl _⟩, hb⟩
theorem Drew.blk {B b N : Nat} {w w' : World} (h : Drew B b N w w') {g t : Nat} {cs : List Value} (k : Blk w g t cs) (hg : g ≠ b) : Blk w' g t cs := k.keep (h.2.block _ k.lt hg)
theorem Drew.trans {B b N M : Nat} {w w1 w2 : World} (h : Drew B b N w w1) (k : Drew B b M w1 w2) : Drew B b M w w2 := ⟨k.1, h.2.trans k.2⟩
theorem Drew.on {B b N : Nat} {w w1 w2 : World} (h : Drew B b N w w1) (k : Below w1.heap.size w1 w2) : Drew B b N w w2 := ⟨h.1.below k, h.2.trans (Spares.of_below k)⟩
theorem SrcW.drew {B b N : Nat} {w : World} (h : SrcW B b N w) : Drew B b N w w := ⟨h, Spares.refl _⟩
theorem Drew.more {B b N M : Nat} {w w' : World} (h : Drew B b N w w') (hM : N ≤ M) : Drew B b M w w' := ⟨h.1.more hM, h.2⟩
theorem Drew.size {B b N : Nat} {w w' : World} (h : Drew B b N w w') : w.heap.size ≤ w'.heap.size := h.2.size
theorem Blk.set2 {w : World} {g t : Nat} {a b : Value} (h : Blk w g t [a, b]) (x y : Value) : ∃ w', (w.setCell ⟨g, 0, none⟩ x).setCell ⟨g, 1, none⟩ y = w' ∧ Blk w' g t [x, y] ∧ Spares (fun i => i = g) w w' :=
 ⟨_, rfl, (h.set 0 x).set 1 y, Spares.set (Spares.set (Spares.refl w))⟩
theorem Drew.set {B b N : Nat} {w w1 w2 : World} (h : Drew B b N w w1) {g : Nat} (k : Spares (fun i => i = g) w1 w2) (hg : w.heap.size ≤ g) (hB : B ≤ w.heap.size) (hb : b < w.heap.size) : Drew B b N w w2 := by
 have hz := h.size
 refine ⟨h.1.keep (k.below (by omega) (fun i hi => by omega)) (k.block _ (by omega) (by omega)), ?_⟩
 exact ⟨k.os.trans h.2.os, k.tape.trans h.2.tape, k.output.trans h.2.output, Nat.le_trans hz k.size, fun i hi hn => (k.block i (by omega) (by omega)).trans (h.2.block i hi hn)⟩
theorem drawSig_i {B b N : Nat} {w : World} (h : SrcW B b N w) (hN : N < 100000000000) (hB : B ≤ w.heap.size) :
  Calls Try.prog 88 #[.pointer (some ⟨b, 0, none⟩)] w fun f w' => ∃ t a : Int, f = .returned (.agg #[.int .i64 t, .int .i64 a]) ∧ sigB t a = true ∧ Drew B b (N + 4) w w' := by
 have hbw := h.lt
 go_enter Try.func88, Try.ntmps88
 go_wp2_with fail
 obtain ⟨w1, e1, R, hb1, hz1⟩ := box2 w 34 (.int .i64 0) (.int .i64 0)
 rw [e1]
 have D := h.drew.on hb1
 clear e1
 refine (pick_i D.1 (by omega) (by omega)).mono ?_
 rintro f w2 ⟨x, rfl, x0, x1, D1⟩
 replace R := D1.blk R (by omega)
 replace D := D.trans D1
 have hz2 := D1.size
 clear D1 hb1
 go_wp2_with fail
 refine (pick_i D.1 (by omega) (by omega)).mono ?_
 rintro f w3 ⟨y, rfl, y0, y1, D1⟩
 replace R := D1.blk R (by omega)
 replace D := D.trans D1
 have hz3 := D1.size
 clear D1
 go_wp2_with fail
 obtain ⟨w4, e4, L, hb4, hz4⟩ := box2 w3 34 (.int .i64 (1 + x)) (.int .i64 (1 + y))
 rw [e4]
 replace R := R.below hb4
 replace D := D.on hb4
 clear e4 hb4
 refine (pick_i D.1 (by omega) (by omega)).mono ?_
 rintro f w5 ⟨k, rfl, k0, k1, D1⟩
 replace R := D1.blk R (by omega)
 replace L := D1.blk L (by omega)
 replace D := D.trans D1
 have hz5 := D1.size
 clear D1
 by_cases hk0 : k = 0
 ·
  subst hk0
  go_wp2_with fail
  refine (pick_i D.1 (by omega) (by omega)).mono ?_
  rintro f w6 ⟨u, rfl, u0, u1, D1⟩
  replace R := D1.blk R (by omega)
  replace L := D1.blk L (by omega)
  replace D := D.trans D1
  have hz6 := D1.size
  clear D1
  obtain ⟨l0, l1, ltL⟩ := L.all2
  have lf := L.frozen 0
  have rf0 := R.frozen 0
  have rf1 := R.frozen 1
  obtain ⟨rr0, rr1, ltR⟩ := R.all2
  have hne : w3.heap.size ≠ w.heap.size := by omega
  go_wp2_with fail
  obtain ⟨w7, e7, L7, hs7⟩ : ∃ w7, w6.setCell ⟨w3.heap.size, 0, none⟩ (.int .i64 u) = w7 ∧ Blk w7 w3.heap.size 34 [.int .i64 u, .int .i64 (1 + y)] ∧ Spares (fun i => i = w3.heap.size) w6 w7 := ⟨_, rfl, L.set 0 _, Spares.set (Spares.refl _)⟩
  rw [e7]
  replace R := R.keep (hs7.block _ ltR (by omega))
  replace D := D.set hs7 (by omega) (by omega) hbw
  replace L := L7
  clear e7 hs7 L7 lf ltL ltR l0 l1 rr0 rr1 rf0 rf1
  obtain ⟨w9, e9, R9, hs9⟩ := Blk.set2 R (.int .i64 u) (.int .i64 (1 + y))
  rw [e9]
  obtain ⟨r0, r1, -⟩ := R9.all2
  have D9 := D.set hs9 (by omega) (by omega) hbw
  refine bodyPost_ret (v := .agg #[.int .i64 u, .int .i64 (1 + y)]) (by simp [results, Try.results88, go_sem, r0, r1]) rfl ?_
  exact ⟨_, _, rfl, by simp only [sigB, inB, Bool.and_eq_true, decide_eq_true_eq]; omega, D9.more (by omega)⟩
 by_cases hk1 : k = 1
 ·
  subst hk1
  go_wp2_with fail
  refine (pick_i D.1 (by omega) (by omega)).mono ?_
  rintro f w6 ⟨u, rfl, u0, u1, D1⟩
  replace R := D1.blk R (by omega)
  replace L := D1.blk L (by omega)
  replace D := D.trans D1
  have hz6 := D1.size
  clear D1
  obtain ⟨l0, l1, ltL⟩ := L.all2
  have lf := L.frozen 1
  have rf0 := R.frozen 0
  have rf1 := R.frozen 1
  obtain ⟨rr0, rr1, ltR⟩ := R.all2
  have hne : w3.heap.size ≠ w.heap.size := by omega
  go_wp2_with fail
  obtain ⟨w7, e7, L7, hs7⟩ : ∃ w7, w6.setCell ⟨w3.heap.size, 1, none⟩ (.int .i64 u) = w7 ∧ Blk w7 w3.heap.size 34 [.int .i64 (1 + x), .int .i64 u] ∧ Spares (fun i => i = w3.heap.size) w6 w7 := ⟨_, rfl, L.set 1 _, Spares.set (Spares.refl _)⟩
  rw [e7]
  replace R := R.keep (hs7.block _ ltR (by omega))
  replace D := D.set hs7 (by omega) (by omega) hbw
  replace L := L7
  clear e7 hs7 L7 lf ltL ltR l0 l1 rr0 rr1 rf0 rf1
  obtain ⟨w9, e9, R9, hs9⟩ := Blk.set2 R (.int .i64 (1 + x)) (.int .i64 u)
  rw [e9]
  obtain ⟨r0, r1, -⟩ := R9.all2
  have D9 := D.set hs9 (by omega) (by omega) hbw
  refine bodyPost_ret (v := .agg #[.int .i64 (1 + x), .int .i64 u]) (by simp [results, Try.results88, go_sem, r0, r1]) rfl ?_
  exact ⟨_, _, rfl, by simp only [sigB, inB, Bool.and_eq_true, decide_eq_true_eq]; omega, D9.more (by omega)⟩
 ·
  skip
  obtain ⟨l0, l1, ltL⟩ := L.all2
  have rf0 := R.frozen 0
  have rf1 := R.frozen 1
  obtain ⟨rr0, rr1, ltR⟩ := R.all2
  go_wp2_with fail
  obtain ⟨w9, e9, R9, hs9⟩ := Blk.set2 R (.int .i64 (1 + x)) (.int .i64 (1 + y))
  rw [e9]
  obtain ⟨r0, r1, -⟩ := R9.all2
  have D9 := D.set hs9 (by omega) (by omega) hbw
  refine bodyPost_ret (v := .agg #[.int .i64 (1 + x), .int .i64 (1 + y)]) (by simp [results, Try.results88, go_sem, r0, r1]) rfl ?_
  exact ⟨_, _, rfl, by simp only [sigB, inB, Bool.and_eq_true, decide_eq_true_eq]; omega, D9.more (by omega)⟩
end Go.Proofs.Ytbflhjjnemdecaa
