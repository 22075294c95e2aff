/-
  Parts of a proof, joined: DerUS, StP, InfoA, StS, WdB, Src, Draw, MarkW, Aut, Aut3, Valid. No condition.
-/
import Derived.Laws.BitsLemmas
import Derived.Laws.Bits64
import Derived.Test.YtfhlddbngjlhbaaPk12
namespace Go.Proofs.Ytfhlddbngjlhbaa
set_option linter.unusedVariables false
set_option linter.unusedSimpArgs false
open Go.ChangeShapes Go.WideShapes Go.ChangeAt Go.RowKit Go.Deep Go.Sort
theorem step_some' {tm am m x : Int} (ht2 : tm ≤ 2) (ha : am ≤ 8) (h0 : 0 ≤ m) (h7 : m ≤ 7) {e d : Ex} {b o : Nat} {w : World} (hx : ExAt w b o e) (htr : e.tree tm am = true) (hs : e.size ≤ 10000) (ho : Hid (e.step m x = some d)) :
  Calls Try.prog 73 #[.pointer (some ⟨b, o, none⟩), .int .i64 m, .int .i64 x] w fun f w' => ∃ s' c', f = .returned (.tuple #[.agg #[.int .i64 d.kind, .int .i64 d.num, .slice s' d.kids.length c'], .bool true]) ∧ Freshs w w' [kidsD d.kids] [.slice s' d.kids.length c'] ∧ Below w.heap.size w w' := by
 have := l02Step_all tm am m x ht2 ha h0 h7 _ e b o w (Nat.le_refl _) hx htr hs
 rw [ho.out] at this
 exact this.mono fun _ _ ⟨y, s', c', h1, h2, h3⟩ => by obtain ⟨rfl, h4⟩ := h2 d rfl; exact ⟨s', c', h1, h4, h3⟩
theorem step_none' {tm am m x : Int} (ht2 : tm ≤ 2) (ha : am ≤ 8) (h0 : 0 ≤ m) (h7 : m ≤ 7) {e : Ex} {b o : Nat} {w : World} (hx : ExAt w b o e) (htr : e.tree tm am = true) (hs : e.size ≤ 10000) (ho : Hid (e.step m x = none)) :
  Calls Try.prog 73 #[.pointer (some ⟨b, o, none⟩), .int .i64 m, .int .i64 x] w fun f w' => ∃ (y : Ex) (s' : Option Addr) (c' : Nat), f = .returned (.tuple #[.agg #[.int .i64 y.kind, .int .i64 y.num, .slice s' y.kids.length c'], .bool false]) ∧ Below w.heap.size w w' := by
 have := l02Step_all tm am m x ht2 ha h0 h7 _ e b o w (Nat.le_refl _) hx htr hs
 rw [ho.out] at this
 exact this.mono fun _ _ ⟨y, s', c', h1, h2, h3⟩ => ⟨y, s', c', h1, h3⟩
end Go.Proofs.Ytfhlddbngjlhbaa

namespace Go.Proofs.Ytfhlddbngjlhbaa
set_option linter.unusedVariables false
set_option linter.unusedSimpArgs false
def grid {β : Type} (f : Nat → Nat → β) (A a : Nat) : List β := ((List.range A).map fun m => (List.range a).map (f m)).flatten
theorem grid_succ {β : Type} (f : Nat → Nat → β) (A a : Nat) : grid f (A + 1) a = grid f A a ++ (List.range a).map (f A) := by
 unfold grid
 rw [List.range_succ, List.map_append, List.flatten_append]
 simp
theorem grid_len {β : Type} (f : Nat → Nat → β) (a : Nat) : ∀ A, (grid f A a).length = A * a
 | 0 => by simp [grid]
 | A + 1 => by rw [grid_succ, List.length_append, grid_len f a A, Nat.succ_mul]; simp
theorem grid_at {β : Type} (f : Nat → Nat → β) {a m k : Nat} (hk : k < a) : ∀ {A : Nat}, m < A → (grid f A a)[m * a + k]? = some (f m k)
 | 0, h => absurd h (Nat.not_lt_zero _)
 | A + 1, h => by
  rw [grid_succ]
  by_cases hm : m < A
  ·
   rw [List.getElem?_append_left]
   ·
    exact grid_at f hk hm
   ·
    rw [grid_len]
    have h1 : (m + 1) * a ≤ A * a := Nat.mul_le_mul_right a hm
    rw [Nat.succ_mul] at h1
    omega
  ·
   obtain rfl : m = A := by omega
   rw [List.getElem?_append_right (by rw [grid_len]; omega), grid_len, show m * a + k - m * a = k by omega, List.getElem?_map, List.getElem?_range hk]
   rfl
theorem grid_mem {β : Type} {f : Nat → Nat → β} {A a : Nat} {x : β} (h : x ∈ grid f A a) : ∃ m k, m < A ∧ k < a ∧ f m k = x := by
 unfold grid at h
 obtain ⟨r, hr, hx⟩ := List.mem_flatten.1 h
 obtain ⟨m, hm, rfl⟩ := List.mem_map.1 hr
 obtain ⟨k, hk, rfl⟩ := List.mem_map.1 hx
 exact ⟨m, k, List.mem_range.1 hm, List.mem_range.1 hk, rfl⟩
section
variable {α : Type} [DecidableEq α]
def curG (s : α) (f : Nat → Nat → α → Option α) (A a i : Nat) (x : α) (m k : Nat) : List α := upto (expl s (fun y => grid (fun m k => f m k y) A a) i) (grid (fun m k => f m k x) A a) (m * a + k)
variable {s : α} {f : Nat → Nat → α → Option α} {A a i : Nat} {x : α}
theorem curG_zero : curG s f A a i x 0 0 = expl s (fun y => grid (fun m k => f m k y) A a) i := by
 unfold curG
 rw [Nat.zero_mul, upto_zero]
theorem curG_line {m : Nat} : curG s f A a i x m a = curG s f A a i x (m + 1) 0 := by
 unfold curG
 rw [Nat.succ_mul, Nat.add_zero]
theorem curG_cell {m k : Nat} (hm : m < A) (hk : k < a) : curG s f A a i x m (k + 1) = grow1 (curG s f A a i x m k) (f m k x) := by
 unfold curG
 rw [← Nat.add_assoc]
 exact upto_succ (grid_at (fun m k => f m k x) hk hm)
theorem curG_all (h : (expl s (fun y => grid (fun m k => f m k y) A a) i)[i]? = some x) : curG s f A a i x A 0 = expl s (fun y => grid (fun m k => f m k y) A a) (i + 1) := by
 unfold curG
 rw [upto_all (by rw [grid_len]; omega), expl_succ h]
theorem curG_prefix {m k : Nat} (h : (expl s (fun y => grid (fun m k => f m k y) A a) i)[i]? = some x) : curG s f A a i x m k <+: expl s (fun y => grid (fun m k => f m k y) A a) (i + 1) := by
 rw [expl_succ h, ← upto_all (L := expl s (fun y => grid (fun m k => f m k y) A a) i) (ss := grid (fun m k => f m k x) A a) (Nat.le_refl _)]
 unfold curG
 by_cases hl : m * a + k ≤ (grid (fun m k => f m k x) A a).length
 ·
  exact upto_le hl
 ·
  rw [upto_all (by omega), upto_all (Nat.le_refl _)]
  exact List.prefix_refl _
theorem curG_old {m k : Nat} : expl s (fun y => grid (fun m k => f m k y) A a) i <+: curG s f A a i x m k := upto_prefix _ _ _
theorem growL_all {P : α → Prop} : ∀ (ss : List (Option α)) (L : List α), (∀ y ∈ L, P y) → (∀ y, some y ∈ ss → P y) → ∀ y ∈ growL L ss, P y
 | [], _, h, _ => h
 | o :: r, L, h, hs => by
  refine growL_all r (grow1 L o) (fun y hy => ?_) (fun y hy => hs y (List.mem_cons_of_mem _ hy))
  cases o with
  | none => exact h y hy
  | some z =>
   by_cases hz : z ∈ L
   ·
    rw [grow1_old hz] at hy; exact h y hy
   ·
    rw [grow1_new hz] at hy
    rcases List.mem_append.1 hy with hy | hy
    ·
     exact h y hy
    ·
     rw [List.mem_singleton] at hy
     subst hy
     exact hs y (List.mem_cons_self ..)
theorem expl_all {P : α → Prop} (hs : P s) (hf : ∀ y, P y → ∀ m k, m < A → k < a → ∀ z, f m k y = some z → P z) : ∀ i, ∀ y ∈ expl s (fun y => grid (fun m k => f m k y) A a) i, P y
 | 0 => fun y hy => by simp [expl] at hy; subst hy; exact hs
 | i + 1 => fun y hy => by
  have ih := expl_all hs hf i
  cases hx : (expl s (fun y => grid (fun m k => f m k y) A a) i)[i]? with
  | none => simp only [expl, hx] at hy; exact ih y hy
  | some x =>
   rw [expl_succ hx] at hy
   refine growL_all _ _ ih (fun z hz => ?_) y hy
   obtain ⟨m, k, hm, hk, h⟩ := grid_mem hz
   exact hf x (ih x (List.mem_of_getElem? hx)) m k hm hk z h
end
end Go.Proofs.Ytfhlddbngjlhbaa

namespace Go.Proofs.Ytfhlddbngjlhbaa
set_option linter.unusedVariables false
set_option linter.unusedSimpArgs false
open Go.ChangeShapes Go.WideShapes Go.ChangeAt Go.RowKit Go.Deep
theorem info_i64s : (Try.prog.info? 42).map (fun i => (i.zero, i.size, i.bytes)) = some (some (.slice none 0 0), 1, 24) := by kernel_rfl
theorem info_i64ss : (Try.prog.info? 76).map (fun i => (i.zero, i.size, i.bytes)) = some (some (.slice none 0 0), 1, 24) := by kernel_rfl
end Go.Proofs.Ytfhlddbngjlhbaa

namespace Go.Proofs.Ytfhlddbngjlhbaa
set_option linter.unusedVariables false
set_option linter.unusedSimpArgs false
open Go.ChangeShapes Go.WideShapes Go.ChangeAt Go.RowKit Go.Deep
theorem AppS.made {S : Nat → Prop} {w : World} {t size m : Nat} {es : List D} {news : List Value} (h : OwS S w es news) (hS : ∀ b, S b → b < w.heap.size) (hl : news.length = m * size) (hm : m ≤ maxLen) :
  AppS (fun b => S b ∨ b = w.heap.size) (w.alloc (.cells news.toArray t)) t size m es (.slice (some ⟨w.heap.size, 0, none⟩) m m) := by
 obtain ⟨F, h1, h2, h3⟩ := h
 have hb := Blk.made w t news.toArray
 refine ⟨news, F, ⟨hl, Or.inr ⟨w.heap.size, m, news.toArray, rfl, Nat.zero_le _, by simpa [Blk] using hb, Nat.le_refl _, hm, by simp [hl], ?_⟩⟩, h1.keep fun b hm => Below.heap_alloc w _ b (h1.lt b hm), h2, fun b hb' => ⟨Or.inl (h3 b hb'), ?_⟩, fun b hb' => ?_⟩
 ·
  rw [← hl]; simp
 ·
  have := hS b (h3 b hb')
  simp only [Value.ownBlock, ne_eq, Option.some.injEq]
  omega
 ·
  simp only [Value.ownBlock, Option.some.injEq] at hb'
  exact Or.inr hb'.symm
end Go.Proofs.Ytfhlddbngjlhbaa

namespace Go.Proofs.Ytfhlddbngjlhbaa
set_option linter.unusedVariables false
set_option linter.unusedSimpArgs false
open Go.ChangeShapes Go.WideShapes Go.ChangeAt Go.RowKit Go.Deep
theorem int_own (w : World) (x : Int) : OwS (fun _ => False) w [.int x] [.int .i64 x] := ⟨[], Ows.cons (F := []) (by simp [Ow]) Ows.nil, by simp, by simp⟩
def WdB (B : Nat) (w : World) (wb : Nat) (xs ys : List Int) (va vb : Value) : Prop :=
 Bun B w [.app 2 1 xs.length (xs.map D.int) va, .box wb 44 [va, vb], .app 2 1 ys.length (ys.map D.int) vb]
theorem WdB.box {B : Nat} {w : World} {wb : Nat} {xs ys : List Int} {va vb : Value} (h : WdB B w wb xs ys va vb) : Blk w wb 44 [va, vb] ∧ B ≤ wb := Bun.box h 1 rfl
theorem WdB.shapeA {B : Nat} {w : World} {wb : Nat} {xs ys : List Int} {va vb : Value} (h : WdB B w wb xs ys va vb) : ∃ a cap, va = .slice a xs.length cap ∧ xs.length ≤ cap ∧ cap ≤ maxLen := Bun.shape h 0 rfl
theorem WdB.shapeB {B : Nat} {w : World} {wb : Nat} {xs ys : List Int} {va vb : Value} (h : WdB B w wb xs ys va vb) : ∃ a cap, vb = .slice a ys.length cap ∧ ys.length ≤ cap ∧ cap ≤ maxLen := Bun.shape h 2 rfl
theorem WdB.owns {B : Nat} {w : World} {wb : Nat} {xs ys : List Int} {va vb : Value} (h : WdB B w wb xs ys va vb) : ∃ F G : List Nat, Ow w (intsD xs) va F ∧ F.Nodup ∧ Ow w (intsD ys) vb G ∧ G.Nodup ∧ (∀ b ∈ F, B ≤ b ∧ b ≠ wb ∧ b ∉ G) ∧ ∀ b ∈ G, B ≤ b ∧ b ≠ wb := by
 obtain ⟨own, h⟩ := h
 have h0 := h 0 _ rfl
 have h1 := h 1 _ rfl
 have h2 := h 2 _ rfl
 have h0' : AppS (fun b => B ≤ b ∧ b < w.heap.size ∧ own b = 0) w 2 1 xs.length (xs.map D.int) va := h0
 have h2' : AppS (fun b => B ≤ b ∧ b < w.heap.size ∧ own b = 2) w 2 1 ys.length (ys.map D.int) vb := h2
 obtain ⟨F, f1, f2, f3⟩ := h0'.foot
 obtain ⟨G, g1, g2, g3⟩ := h2'.foot
 have hw : own wb = 1 := h1.1.2.2
 refine ⟨F, G, f1, f2, g1, g2, fun b hb => ?_, fun b hb => ?_⟩
 ·
  have q := f3 b hb
  refine ⟨q.1, fun e => ?_, fun hg => ?_⟩
  ·
   rw [e, hw] at q; omega
  ·
   have := g3 b hg; omega
 ·
  have q := g3 b hb
  exact ⟨q.1, fun e => by rw [e, hw] at q; omega⟩
end Go.Proofs.Ytfhlddbngjlhbaa

namespace Go.Proofs.Ytfhlddbngjlhbaa
set_option linter.unusedVariables false
set_option linter.unusedSimpArgs false
open Go.ChangeShapes Go.WideShapes Go.ChangeAt Go.RowKit Go.Deep Go.Sort
def bytesD (xs : List Int) : D := .sl 1 xs.length (xs.map fun x => D.raw (.int .u8 x))
def SrcV (B b : Nat) (xs : List Int) (s : Option Addr) (c N : Nat) (w : World) : Prop :=
 B ≤ b ∧ ∃ (p : Nat) (z : Int), Blk w b 101 [.slice s xs.length c, .int .i64 p, .int .u64 z] ∧ RdX (fun i => B ≤ i) w (bytesD xs) (.slice s xs.length c) ∧ (∀ x ∈ xs, 0 ≤ x ∧ x ≤ 255) ∧ p ≤ N
def SrcW (B b N : Nat) (w : World) : Prop :=
 B ≤ b ∧ ∃ (xs : List Int) (s : Option Addr) (c p : Nat) (z : Int), Blk w b 101 [.slice s xs.length c, .int .i64 p, .int .u64 z] ∧ RdX (fun i => B ≤ i) w (bytesD xs) (.slice s xs.length c) ∧ (∀ x ∈ xs, 0 ≤ x ∧ x ≤ 255) ∧ p ≤ N
theorem SrcW.keep {B b N : Nat} {w w' : World} (h : SrcW B b N w) (hb : Below B w w') (hk : w'.heap[b]? = w.heap[b]?) : SrcW B b N w' := by
 obtain ⟨h0, xs, s, c, p, z, h1, h2, h3⟩ := h
 exact ⟨h0, xs, s, c, p, z, h1.keep hk, h2.keep ⟨hb.size, fun i hi hn => hb.block i (by omega)⟩, h3⟩
theorem SrcW.lt {B b N : Nat} {w : World} (h : SrcW B b N w) : b < w.heap.size := by
 obtain ⟨h0, xs, s, c, p, z, h1, h2, h3⟩ := h
 exact h1.lt
theorem SrcW.below {B b N : Nat} {w w' : World} (h : SrcW B b N w) (hb : Below w.heap.size w w') : SrcW B b N w' :=
 h.keep (hb.mono (by have := h.lt; have := h.1; omega)) (hb.block _ h.lt)
theorem SrcW.more {B b N M : Nat} {w : World} (h : SrcW B b N w) (hM : N ≤ M) : SrcW B b M w := by
 obtain ⟨h0, xs, s, c, p, z, h1, h2, h3, h4⟩ := h
 exact ⟨h0, xs, s, c, p, z, h1, h2, h3, by omega⟩
theorem byte_in {w : World} {xs : List Int} {b o len cap : Nat} (h : Rd w (bytesD xs) (.slice (some ⟨b, o, none⟩) len cap)) {i : Nat} {x : Int} (hx : xs[i]? = some x) : b < w.heap.size ∧ w.cell? ⟨b, o + i, none⟩ = some (.int .u8 x) := by
 obtain ⟨_, _, _, _, _, h4⟩ := h.sl_at
 have hi := (List.getElem?_eq_some_iff.1 hx).1
 rcases h4 with h4 | ⟨b', o', e1, h4⟩
 ·
  omega
 ·
  simp only [Option.some.injEq, Addr.mk.injEq, and_true] at e1
  obtain ⟨rfl, rfl⟩ := e1
  obtain ⟨v, h5, h6⟩ := h4 i (D.raw (.int .u8 x)) (by rw [List.getElem?_map, hx]; rfl)
  obtain rfl : v = .int .u8 x := by simp only [Rd] at h6; exact h6.1
  exact ⟨World.block_lt_of_cell? w _ h5, h5⟩
theorem byte_some {w : World} {xs : List Int} {a : Option Addr} {len cap : Nat} (h : Rd w (bytesD xs) (.slice a len cap)) (hk : 0 < xs.length) : ∃ b o, a = some ⟨b, o, none⟩ := by
 obtain ⟨_, _, _, _, _, h4⟩ := h.sl_at
 rcases h4 with h4 | ⟨b', o', e1, _⟩
 ·
  omega
 ·
  exact ⟨b', o', e1⟩
theorem and255 (z : Int) (h0 : 0 ≤ z) (h1 : z < 16777216) : 0 ≤ wrap64 (bits BinOp.and IntKind.u64 z 255) ∧ wrap64 (bits BinOp.and IntKind.u64 z 255) ≤ 255 := by
 obtain ⟨n, rfl⟩ := Int.eq_ofNat_of_zero_le h0
 have h := (bits_nat .u64 63 (by decide) (fun n h0 h1 => by rw [IntKind.wrap_u64]; omega) n 255 (by omega) (by decide)).1
 have hle : n &&& 255 ≤ 255 := Nat.and_le_right
 have h' : bits BinOp.and IntKind.u64 (n : Int) 255 = ((n &&& 255 : Nat) : Int) := h
 rw [h']
 unfold wrap64
 omega
theorem seed_small {z y : Int} (h : IntKind.u64.wrap y = z) : 0 ≤ z / 1099511627776 ∧ z / 1099511627776 < 16777216 := by
 rw [IntKind.wrap_u64] at h
 omega
theorem src_set {w : World} {b t : Nat} {a x y : Value} (h : Blk w b t [a, x, y]) (x' y' : Value) : ∃ w', (w.setCell ⟨b, 1, none⟩ x').setCell ⟨b, 2, none⟩ y' = w' ∧ Blk w' b t [a, x', y'] ∧ Spares (fun i => i = b) w w' :=
 ⟨_, rfl, (h.set 1 x').set 2 y', Spares.set (Spares.set (Spares.refl w))⟩
set_option maxHeartbeats 4000000 in
theorem next_v {B b N : Nat} {xs : List Int} {s : Option Addr} {c : Nat} {w : World} (h : SrcV B b xs s c N w) (hN : N < 1000000000000) : Calls Try.prog 66 #[.pointer (some ⟨b, 0, none⟩)] w fun f w' => ∃ z : Int, f = .returned (.int .i64 z) ∧ 0 ≤ z ∧ z ≤ 255 ∧ SrcV B b xs s c (N + 1) w' ∧ Spares (fun i => i = b) w w' := by
 obtain ⟨hBb, p, z, K, hr, hx, hp⟩ := h
 obtain ⟨n0, n1, n2, f0, f1, f2, lt⟩ := K.all3
 obtain ⟨-, hl, hc, -⟩ := hr.rd.sl_at
 unfold maxLen at hc
 have Hr := Lib.hid hr
 have Hx := Lib.hid hx
 have HK := Lib.hid K
 have HB := Lib.hid (Spares.refl (X := fun i => i = b) w)
 have hp0 := Int.natCast_nonneg p
 by_cases hlt : p < xs.length
 ·
  obtain ⟨x, hxp⟩ : ∃ x, xs[p]? = some x := ⟨_, List.getElem?_eq_getElem hlt⟩
  obtain ⟨hx0, hx1⟩ := Hx.out x (List.mem_of_getElem? hxp)
  obtain ⟨sb, so, rfl⟩ := byte_some Hr.out.rd (by omega)
  have Hxp := Lib.hid hxp
  have hpl : (p : Int) < (xs.length : Int) := by omega
  clear hxp hr hx K
  go_enter Try.func66, Try.ntmps66
  go_wp2_with fail
  have gn0 := fun d os => cell_regrown n0 d os
  have gn1 := fun d os => cell_regrown n1 d os
  have gn2 := fun d os => cell_regrown n2 d os
  skip
  refine Go.wp_region_quiet_below (by kernel_rfl) (by kernel_rfl) ?_
  repeat (first | go_big_quiet_step ((fail)) | quiet_step ((fail)))
  refine wpQuiet_nil ?_; intro _ hw'; obtain ⟨⟨dq, osq⟩, hw''⟩ := hw'; subst hw''; have hq := below_regrown w dq osq; revert hq; generalize grow (redrawn w dq) osq = w1; intro hq
  have hzw1 := hq.size
  replace HK := Lib.hid (HK.out.below hq)
  replace Hr := Lib.hid (Hr.out.below hq)
  replace HB := Lib.hid (HB.out.trans (Spares.of_below hq))
  have hz0w1 := HB.out.size
  clear gn0 gn1 gn2 n0 n1 n2 f0 f1 f2 lt hq
  obtain ⟨n0, n1, n2, f0, f1, f2, lt⟩ := HK.out.all3
  go_wp2_with fail
  obtain ⟨ltS, g0⟩ := byte_in Hr.out.rd Hxp.out
  have gn0 := fun d os => cell_regrown n0 d os
  have gn1 := fun d os => cell_regrown n1 d os
  have gn2 := fun d os => cell_regrown n2 d os
  have gg0 := fun d os => cell_regrown g0 d os
  refine Go.wp_region_quiet_below (by kernel_rfl) (by kernel_rfl) ?_
  repeat (first | go_big_quiet_step ((fail)) | quiet_step ((fail)))
  refine wpQuiet_nil ?_; intro _ hw'; obtain ⟨⟨dq, osq⟩, hw''⟩ := hw'; subst hw''; have hq := below_regrown w1 dq osq; revert hq; generalize grow (redrawn w1 dq) osq = w2; intro hq
  have hzw2 := hq.size
  replace HK := Lib.hid (HK.out.below hq)
  replace Hr := Lib.hid (Hr.out.below hq)
  replace HB := Lib.hid (HB.out.trans (Spares.of_below hq))
  have hz0w2 := HB.out.size
  clear gn0 gn1 gn2 n0 n1 n2 f0 f1 f2 lt hq
  obtain ⟨n0, n1, n2, f0, f1, f2, lt⟩ := HK.out.all3
  go_wp2_with fail
  clear g0 gg0
  obtain ⟨z', hz'⟩ : ∃ z', IntKind.u64.wrap (IntKind.u64.wrap (IntKind.u64.wrap (z * 6364136223846793005) + x) + 1442695040888963407) = z' := ⟨_, rfl⟩
  rw [hz']
  obtain ⟨w3, e3, K3, hs3⟩ := src_set HK.out (.int .i64 ((p : Int) + 1)) (.int .u64 z')
  rw [e3]
  have hB3 : Below B w2 w3 := hs3.below (by omega) (fun i hi => by omega)
  replace Hr := Lib.hid (Hr.out.keep ⟨hs3.size, fun i hi hn => hs3.block i hi (fun e => hn (by omega))⟩)
  replace HB := Lib.hid (HB.out.trans hs3)
  replace HK := Lib.hid K3
  clear e3 n0 n1 n2 f0 f1 f2 lt K3 hs3 hB3
  obtain ⟨n0, n1, n2, f0, f1, f2, lt⟩ := HK.out.all3
  have gn0 := fun d os => cell_regrown n0 d os
  have gn1 := fun d os => cell_regrown n1 d os
  have gn2 := fun d os => cell_regrown n2 d os
  skip
  refine Go.wp_region_quiet_below (by kernel_rfl) (by kernel_rfl) ?_
  repeat (first | go_big_quiet_step ((fail)) | quiet_step ((fail)))
  refine wpQuiet_nil ?_; intro _ hw'; obtain ⟨⟨dq, osq⟩, hw''⟩ := hw'; subst hw''; have hq := below_regrown w3 dq osq; revert hq; generalize grow (redrawn w3 dq) osq = w4; intro hq
  have hzw4 := hq.size
  replace HK := Lib.hid (HK.out.below hq)
  replace Hr := Lib.hid (Hr.out.below hq)
  replace HB := Lib.hid (HB.out.trans (Spares.of_below hq))
  have hz0w4 := HB.out.size
  clear gn0 gn1 gn2 n0 n1 n2 f0 f1 f2 lt hq
  obtain ⟨n0, n1, n2, f0, f1, f2, lt⟩ := HK.out.all3
  go_wp2_with fail
  go_ret
  have e1 : ((p + 1 : Nat) : Int) = (p : Int) + 1 := by omega
  exact ⟨x, rfl, hx0, hx1, ⟨hBb, p + 1, z', by rw [e1]; exact HK.out, Hr.out, Hx.out, by omega⟩, HB.out⟩
 ·
  have hpl : ¬ (p : Int) < (xs.length : Int) := by omega
  clear hr hx K
  go_enter Try.func66, Try.ntmps66
  go_wp2_with fail
  have gn0 := fun d os => cell_regrown n0 d os
  have gn1 := fun d os => cell_regrown n1 d os
  have gn2 := fun d os => cell_regrown n2 d os
  skip
  refine Go.wp_region_quiet_below (by kernel_rfl) (by kernel_rfl) ?_
  repeat (first | go_big_quiet_step ((fail)) | quiet_step ((fail)))
  refine wpQuiet_nil ?_; intro _ hw'; obtain ⟨⟨dq, osq⟩, hw''⟩ := hw'; subst hw''; have hq := below_regrown w dq osq; revert hq; generalize grow (redrawn w dq) osq = w2; intro hq
  have hzw2 := hq.size
  replace HK := Lib.hid (HK.out.below hq)
  replace Hr := Lib.hid (Hr.out.below hq)
  replace HB := Lib.hid (HB.out.trans (Spares.of_below hq))
  have hz0w2 := HB.out.size
  clear gn0 gn1 gn2 n0 n1 n2 f0 f1 f2 lt hq
  obtain ⟨n0, n1, n2, f0, f1, f2, lt⟩ := HK.out.all3
  go_wp2_with fail
  obtain ⟨z', hz'⟩ : ∃ z', IntKind.u64.wrap (IntKind.u64.wrap (IntKind.u64.wrap (z * 6364136223846793005)) + 1442695040888963407) = z' := ⟨_, rfl⟩
  rw [hz']
  obtain ⟨w3, e3, K3, hs3⟩ := src_set HK.out (.int .i64 ((p : Int) + 1)) (.int .u64 z')
  rw [e3]
  have hB3 : Below B w2 w3 := hs3.below (by omega) (fun i hi => by omega)
  replace Hr := Lib.hid (Hr.out.keep ⟨hs3.size, fun i hi hn => hs3.block i hi (fun e => hn (by omega))⟩)
  replace HB := Lib.hid (HB.out.trans hs3)
  replace HK := Lib.hid K3
  clear e3 n0 n1 n2 f0 f1 f2 lt K3 hs3 hB3
  obtain ⟨n0, n1, n2, f0, f1, f2, lt⟩ := HK.out.all3
  have gn0 := fun d os => cell_regrown n0 d os
  have gn1 := fun d os => cell_regrown n1 d os
  have gn2 := fun d os => cell_regrown n2 d os
  skip
  refine Go.wp_region_quiet_below (by kernel_rfl) (by kernel_rfl) ?_
  repeat (first | go_big_quiet_step ((fail)) | quiet_step ((fail)))
  refine wpQuiet_nil ?_; intro _ hw'; obtain ⟨⟨dq, osq⟩, hw''⟩ := hw'; subst hw''; have hq := below_regrown w3 dq osq; revert hq; generalize grow (redrawn w3 dq) osq = w4; intro hq
  have hzw4 := hq.size
  replace HK := Lib.hid (HK.out.below hq)
  replace Hr := Lib.hid (Hr.out.below hq)
  replace HB := Lib.hid (HB.out.trans (Spares.of_below hq))
  have hz0w4 := HB.out.size
  clear gn0 gn1 gn2 n0 n1 n2 f0 f1 f2 lt hq
  obtain ⟨n0, n1, n2, f0, f1, f2, lt⟩ := HK.out.all3
  go_wp2_with fail
  obtain ⟨q1, q2⟩ := seed_small hz'
  obtain ⟨q3, q4⟩ := and255 _ q1 q2
  go_ret
  have e1 : ((p + 1 : Nat) : Int) = (p : Int) + 1 := by omega
  exact ⟨_, rfl, q3, q4, ⟨hBb, p + 1, z', by rw [e1]; exact HK.out, Hr.out, Hx.out, by omega⟩, HB.out⟩
theorem SrcV.more {B b N M : Nat} {xs : List Int} {s : Option Addr} {c : Nat} {w : World} (h : SrcV B b xs s c N w) (hM : N ≤ M) : SrcV B b xs s c M w := by
 obtain ⟨h0, p, z, h1, h2, h3, h4⟩ := h
 exact ⟨h0, p, z, h1, h2, h3, by omega⟩
theorem SrcV.w {B b N : Nat} {xs : List Int} {s : Option Addr} {c : Nat} {w : World} (h : SrcV B b xs s c N w) : SrcW B b N w := ⟨h.1, xs, s, c, h.2⟩
theorem SrcW.v {B b N : Nat} {w : World} (h : SrcW B b N w) : ∃ xs s c, SrcV B b xs s c N w := by
 obtain ⟨h0, xs, s, c, h1⟩ := h
 exact ⟨xs, s, c, h0, h1⟩
def Drew (B b N : Nat) (w w' : World) : Prop := SrcW B b N w' ∧ Spares (fun i => i = b) w w'
theorem Drew.below {B b N : Nat} {w w' : World} (h : Drew B b N w w') (hB : B ≤ w.heap.size) : Below B w w' := h.2.below hB (fun i hi => by have := h.1.1; omega)
theorem pick_v {B b N : Nat} {xs : List Int} {s : Option Addr} {c : Nat} {n : Int} {w : World} (h : SrcV B b xs s c N w) (hN : N < 1000000000000) (hn : n ≤ 200) : Calls Try.prog 39 #[.pointer (some ⟨b, 0, none⟩), .int .i64 n] w fun f w' => ∃ z : Int, f = .returned (.int .i64 z) ∧ 0 ≤ z ∧ (z < n ∨ z = 0) ∧ SrcV B b xs s c (N + 1) w' ∧ Spares (fun i => i = b) w w' := by
 by_cases h1 : n ≤ 1
 ·
  go_enter Try.func39, Try.ntmps39
  go_wp2_with fail
  go_ret
  exact ⟨0, rfl, by omega, Or.inr rfl, h.more (by omega), Spares.refl _⟩
 ·
  go_enter Try.func39, Try.ntmps39
  go_wp2_with fail
  refine (next_v h hN).mono ?_
  rintro f w1 ⟨z, rfl, h2, h3, h4, h5⟩
  have hm : 0 ≤ z % n ∧ z % n < n := ⟨Int.emod_nonneg _ (by omega), Int.emod_lt_of_pos _ (by omega)⟩
  go_wp2_with fail
  go_ret
  exact ⟨_, rfl, hm.1, Or.inl hm.2, h4, h5⟩
theorem pick_i {B b N : Nat} {n : Int} {w : World} (h : SrcW B b N w) (hN : N < 1000000000000) (hn : n ≤ 200) : Calls Try.prog 39 #[.pointer (some ⟨b, 0, none⟩), .int .i64 n] w fun f w' => ∃ z : Int, f = .returned (.int .i64 z) ∧ 0 ≤ z ∧ (z < n ∨ z = 0) ∧ Drew B b (N + 1) w w' := by
 obtain ⟨xs, s, c, h⟩ := h.v
 refine (pick_v h hN hn).mono ?_
 rintro f w' ⟨z, h1, h2, h3, h4, h5⟩
 exact ⟨z, h1, h2, h3, h4.w, h5⟩
theorem one_i {B b N : Nat} {n : Int} {w : World} (h : SrcW B b N w) (hN : N < 1000000000000) (hn : n ≤ 200) : Calls Try.prog 67 #[.pointer (some ⟨b, 0, none⟩), .int .i64 n] w fun f w' => ∃ v : Bool, f = .returned (.bool v) ∧ Drew B b (N + 1) w w' := by
 go_enter Try.func67, Try.ntmps67
 go_wp2_with fail
 refine (pick_i h hN hn).mono ?_
 rintro f w1 ⟨z, rfl, h2, h3, h4⟩
 go_wp2_with fail
 go_ret
 exact ⟨_, rfl, h4⟩
theorem from_i {xs : List Int} {s : Option Addr} {c : Nat} {w : World} (hr : Rd w (bytesD xs) (.slice s xs.length c)) (hx : ∀ x ∈ xs, 0 ≤ x ∧ x ≤ 255) :
  Calls Try.prog 38 #[.slice s xs.length c] w fun f w' => ∃ b, f = .returned (.pointer (some ⟨b, 0, none⟩)) ∧ SrcW w.heap.size b 0 w' ∧ Below w.heap.size w w' := by
 go_enter Try.func38, Try.ntmps38
 go_wp2_with fail
 obtain ⟨w1, e1, K, hb, hz⟩ := box3 w 101 (.slice s xs.length c) (.int .i64 0) (.int .u64 0)
 rw [e1]
 go_ret
 exact ⟨_, rfl, ⟨Nat.le_refl _, xs, s, c, 0, 0, K, (RdX.of_rd hr (fun b hb => hb)).below hb, hx, Nat.le_refl _⟩, hb⟩
theorem Drew.blk {B b N : Nat} {w w' : World} (h : Drew B b N w w') {g t : Nat} {cs : List Value} (k : Blk w g t cs) (hg : g ≠ b) : Blk w' g t cs := k.keep (h.2.block _ k.lt hg)
theorem Drew.trans {B b N M : Nat} {w w1 w2 : World} (h : Drew B b N w w1) (k : Drew B b M w1 w2) : Drew B b M w w2 := ⟨k.1, h.2.trans k.2⟩
theorem Drew.on {B b N : Nat} {w w1 w2 : World} (h : Drew B b N w w1) (k : Below w1.heap.size w1 w2) : Drew B b N w w2 := ⟨h.1.below k, h.2.trans (Spares.of_below k)⟩
theorem SrcW.drew {B b N : Nat} {w : World} (h : SrcW B b N w) : Drew B b N w w := ⟨h, Spares.refl _⟩
theorem Drew.more {B b N M : Nat} {w w' : World} (h : Drew B b N w w') (hM : N ≤ M) : Drew B b M w w' := ⟨h.1.more hM, h.2⟩
theorem Drew.size {B b N : Nat} {w w' : World} (h : Drew B b N w w') : w.heap.size ≤ w'.heap.size := h.2.size
theorem Blk.set2 {w : World} {g t : Nat} {a b : Value} (h : Blk w g t [a, b]) (x y : Value) : ∃ w', (w.setCell ⟨g, 0, none⟩ x).setCell ⟨g, 1, none⟩ y = w' ∧ Blk w' g t [x, y] ∧ Spares (fun i => i = g) w w' :=
 ⟨_, rfl, (h.set 0 x).set 1 y, Spares.set (Spares.set (Spares.refl w))⟩
theorem Drew.set {B b N : Nat} {w w1 w2 : World} (h : Drew B b N w w1) {g : Nat} (k : Spares (fun i => i = g) w1 w2) (hg : w.heap.size ≤ g) (hB : B ≤ w.heap.size) (hb : b < w.heap.size) : Drew B b N w w2 := by
 have hz := h.size
 refine ⟨h.1.keep (k.below (by omega) (fun i hi => by omega)) (k.block _ (by omega) (by omega)), ?_⟩
 exact ⟨k.os.trans h.2.os, k.tape.trans h.2.tape, k.output.trans h.2.output, Nat.le_trans hz k.size, fun i hi hn => (k.block i (by omega) (by omega)).trans (h.2.block i hi hn)⟩
end Go.Proofs.Ytfhlddbngjlhbaa

namespace Go.Proofs.Ytfhlddbngjlhbaa
set_option linter.unusedVariables false
set_option linter.unusedSimpArgs false
open Go.ChangeShapes Go.WideShapes Go.ChangeAt Go.RowKit Go.Deep Go.Sort
structure PickZ (n : Int) (N : Nat) where
 v : Int
 p : Nat
 y : Int
 h0 : 0 ≤ v
 h1 : v < n ∨ v = 0
 hp : p ≤ N
theorem pick_at {B b N : Nat} {n : Int} {xs : List Int} {s : Option Addr} {c : Nat} {w : World} (h : SrcV B b xs s c N w) (hN : N < 1000000000000) (hn : n ≤ 200) :
  Calls Try.prog 39 #[.pointer (some ⟨b, 0, none⟩), .int .i64 n] w fun f w' => ∃ u : PickZ n (N + 1), f = .returned (.int .i64 u.v) ∧ Freshs w w' [] [] ∧ Spares (fun i => i = b) w w' ∧ Blk w' b 101 [.slice s xs.length c, .int .i64 u.p, .int .u64 u.y] := by
 refine (pick_v h hN hn).mono ?_
 rintro f w' ⟨u, rfl, u0, u1, ⟨h0, p', z', k1, k2, k3, k4⟩, hs⟩
 exact ⟨⟨u, p', z', u0, u1, k4⟩, rfl, Freshs.nil, hs, k1⟩
end Go.Proofs.Ytfhlddbngjlhbaa

namespace Go.Proofs.Ytfhlddbngjlhbaa
set_option linter.unusedVariables false
set_option linter.unusedSimpArgs false
open Go.ChangeShapes Go.WideShapes Go.ChangeAt Go.RowKit Go.Sort
def wordD (xs ys : List Int) : List D := [intsD xs, intsD ys]
end Go.Proofs.Ytfhlddbngjlhbaa

namespace Go.Proofs.Ytfhlddbngjlhbaa
set_option linter.unusedVariables false
set_option linter.unusedSimpArgs false
open Go.ChangeShapes Go.WideShapes Go.ChangeAt Go.RowKit Go.Sort
theorem info_int64s : (Try.prog.info? 42).map (fun i => (i.zero, i.size, i.bytes)) = some (some (.slice none 0 0), 1, 24) := by kernel_rfl
end Go.Proofs.Ytfhlddbngjlhbaa

namespace Go.Proofs.Ytfhlddbngjlhbaa
set_option linter.unusedVariables false
set_option linter.unusedSimpArgs false
open Go.ChangeShapes Go.WideShapes Go.ChangeAt Go.RowKit Go.Sort
def autD (ac : List (List Bool)) (nx : List (List (List Int))) : List D := [bbD ac, iiiD nx]
end Go.Proofs.Ytfhlddbngjlhbaa

namespace Go.Proofs.Ytfhlddbngjlhbaa
set_option linter.unusedVariables false
set_option linter.unusedSimpArgs false
open Go.ChangeShapes Go.WideShapes Go.ChangeAt Go.RowKit Go.Sort
def RowOk (a n : Int) (row : List Int) : Prop := (row.length : Int) = a ∧ ∀ (l : Nat) (z : Int), row[l]? = some z → -1 ≤ z ∧ z ≤ n - 1
def StOk (t a n : Int) (ar : List Bool) (nr : List (List Int)) : Prop := (ar.length : Int) = atomsN t ∧ (nr.length : Int) = atomsN t ∧ ∀ (j : Nat) (row : List Int), nr[j]? = some row → RowOk a n row
structure AutOk (t a : Int) (ac : List (List Bool)) (nx : List (List (List Int))) : Prop where
 sig : sigB t a = true
 lo : 1 ≤ ac.length
 hi : ac.length ≤ 60
 len : nx.length = ac.length
 st : ∀ (i : Nat) (ar : List Bool) (nr : List (List Int)), ac[i]? = some ar → nx[i]? = some nr → StOk t a ac.length ar nr
noncomputable def autB (t a : Int) (ac : List (List Bool)) (nx : List (List (List Int))) : Bool := @decide (AutOk t a ac nx) (Classical.propDecidable _)
theorem autB_true {t a : Int} {ac : List (List Bool)} {nx : List (List (List Int))} : autB t a ac nx = true ↔ AutOk t a ac nx := by unfold autB; exact @decide_eq_true_iff _ (Classical.propDecidable _)
theorem autB_yes {t a : Int} {ac : List (List Bool)} {nx : List (List (List Int))} (h : AutOk t a ac nx) : autB t a ac nx = true := autB_true.2 h
theorem autB_no {t a : Int} {ac : List (List Bool)} {nx : List (List (List Int))} (h : ¬ AutOk t a ac nx) : autB t a ac nx = false := by
 cases hb : autB t a ac nx
 ·
  rfl
 ·
  exact absurd (autB_true.1 hb) h
def StsOk (t a : Int) (ac : List (List Bool)) (nx : List (List (List Int))) (k : Nat) : Prop := ∀ (i : Nat) (ar : List Bool) (nr : List (List Int)), i < k → ac[i]? = some ar → nx[i]? = some nr → StOk t a ac.length ar nr
theorem StsOk.zero {t a : Int} {ac : List (List Bool)} {nx : List (List (List Int))} : StsOk t a ac nx 0 := fun _ _ _ h => by omega
theorem StsOk.succ {t a : Int} {ac : List (List Bool)} {nx : List (List (List Int))} {k : Nat} {ar : List Bool} {nr : List (List Int)} (h : StsOk t a ac nx k) (h1 : ac[k]? = some ar) (h2 : nx[k]? = some nr) (hs : StOk t a ac.length ar nr) : StsOk t a ac nx (k + 1) := by
 intro i ar' nr' hi h3 h4
 by_cases hik : i = k
 ·
  subst hik
  rw [h1] at h3
  rw [h2] at h4
  cases h3
  cases h4
  exact hs
 ·
  exact h i ar' nr' (by omega) h3 h4
def RowsOk (a n : Int) (nr : List (List Int)) (k : Nat) : Prop := ∀ (j : Nat) (row : List Int), j < k → nr[j]? = some row → RowOk a n row
theorem RowsOk.zero {a n : Int} {nr : List (List Int)} : RowsOk a n nr 0 := fun _ _ h => by omega
theorem RowsOk.succ {a n : Int} {nr : List (List Int)} {k : Nat} {row : List Int} (h : RowsOk a n nr k) (h1 : nr[k]? = some row) (hs : RowOk a n row) : RowsOk a n nr (k + 1) := by
 intro j row' hj h2
 by_cases hjk : j = k
 ·
  subst hjk
  rw [h1] at h2
  cases h2
  exact hs
 ·
  exact h j row' (by omega) h2
def CellsOk (n : Int) (row : List Int) (k : Nat) : Prop := ∀ (l : Nat) (z : Int), l < k → row[l]? = some z → -1 ≤ z ∧ z ≤ n - 1
theorem CellsOk.zero {n : Int} {row : List Int} : CellsOk n row 0 := fun _ _ h => by omega
theorem CellsOk.succ {n : Int} {row : List Int} {k : Nat} {z : Int} (h : CellsOk n row k) (h1 : row[k]? = some z) (hs : inB z (-1) (n - 1) = true) : CellsOk n row (k + 1) := by
 intro l z' hl h2
 by_cases hlk : l = k
 ·
  subst hlk
  rw [h1] at h2
  cases h2
  simp only [inB, Bool.and_eq_true, decide_eq_true_eq] at hs
  exact hs
 ·
  exact h l z' (by omega) h2
def AutAt (w : World) (b o : Nat) (t a : Int) (ac : List (List Bool)) (nx : List (List (List Int))) (s u : Option Addr) (c d : Nat) : Prop :=
 w.cell? ⟨b, o, none⟩ = some (.int .i64 t) ∧ w.cell? ⟨b, o + 1, none⟩ = some (.int .i64 a) ∧ w.cell? ⟨b, o + 2, none⟩ = some (.slice s ac.length c) ∧ w.cell? ⟨b, o + 3, none⟩ = some (.slice u nx.length d) ∧
  Rd w (bbD ac) (.slice s ac.length c) ∧ Rd w (iiiD nx) (.slice u nx.length d)
theorem AutAt.lt {w : World} {b o : Nat} {t a : Int} {ac : List (List Bool)} {nx : List (List (List Int))} {s u : Option Addr} {c d : Nat} (h : AutAt w b o t a ac nx s u c d) : b < w.heap.size := World.block_lt_of_cell? w _ h.1
theorem AutAt.below {w w' : World} {b o : Nat} {t a : Int} {ac : List (List Bool)} {nx : List (List (List Int))} {s u : Option Addr} {c d : Nat} (h : AutAt w b o t a ac nx s u c d) (hb : Below w.heap.size w w') : AutAt w' b o t a ac nx s u c d := by
 have hl := h.lt
 obtain ⟨h0, h1, h2, h3, h4, h5⟩ := h
 exact ⟨(hb.cell (p := ⟨b, o, none⟩) hl).trans h0, (hb.cell (p := ⟨b, o + 1, none⟩) hl).trans h1, (hb.cell (p := ⟨b, o + 2, none⟩) hl).trans h2, (hb.cell (p := ⟨b, o + 3, none⟩) hl).trans h3, h4.below hb, h5.below hb⟩
set_option maxRecDepth 100000 in
set_option maxHeartbeats 16000000 in
theorem l02Ok_i {t a : Int} {ac : List (List Bool)} {nx : List (List (List Int))} {s u : Option Addr} {c d b o : Nat} {w : World} (h : AutAt w b o t a ac nx s u c d) :
  Calls Try.prog 22 #[.pointer (some ⟨b, o, none⟩)] w fun e w' => e = .returned (.bool (autB t a ac nx)) ∧ Below w.heap.size w w' := by
 obtain ⟨hlen, hcap⟩ := nest_bd h.2.2.2.2.1
 obtain ⟨hlen', hcap'⟩ := nest_bd h.2.2.2.2.2
 unfold maxLen at hcap hcap'
 obtain ⟨g0, g1, g2, g3, g4, g5⟩ := h
 have h : AutAt w b o t a ac nx s u c d := ⟨g0, g1, g2, g3, g4, g5⟩
 have hbl := h.lt
 go_enter Try.func22, Try.ntmps22
 go_wp2_with fail
 refine (l01Sig_any t a _).mono ?_
 rintro e w1 ⟨rfl, hB⟩
 cases hs : sigB t a
 ·
  have c1 : autB t a ac nx = false := autB_no fun q => by rw [q.sig] at hs; cases hs
  have C1 := Lib.hid c1
  clear c1 hs
  go_wp2_with fail
  go_ret
  exact ⟨ret_bool (by rw [C1.out]), hB⟩
 have Hs := Lib.hid hs
 clear hs
 go_wp2_with fail
 refine (in_any _ _ _ _).mono ?_
 rintro e w' ⟨rfl, rfl⟩
 by_cases hn : 1 ≤ ac.length ∧ ac.length ≤ 60
 rotate_left
 ·
  have c1 : autB t a ac nx = false := autB_no fun q => hn ⟨q.lo, q.hi⟩
  have c2 : inB (ac.length : Int) 1 60 = false := by simp [inB]; omega
  have C1 := Lib.hid c1
  rw [c2]
  clear c1 c2 hn
  go_wp2_with fail
  go_ret
  exact ⟨ret_bool (by rw [C1.out]), hB⟩
 obtain ⟨hn1, hn2⟩ := hn
 have c2 : inB (ac.length : Int) 1 60 = true := by simp [inB]; omega
 rw [c2]
 clear c2
 have h1 := h.below hB
 have k3 := h1.2.2.2.1
 by_cases hl : nx.length = ac.length
 rotate_left
 ·
  have c1 : autB t a ac nx = false := autB_no fun q => hl q.len
  have c2 : ((nx.length : Int) != (ac.length : Int)) = true := by simp; omega
  have C1 := Lib.hid c1
  clear c1 hl
  go_wp2_with fail
  go_ret
  exact ⟨ret_bool (by rw [C1.out]), hB⟩
 have c2 : ((nx.length : Int) != (ac.length : Int)) = false := by simp [hl]
 have Hl := Lib.hid hl
 have hl1 : nx.length ≤ ac.length := by omega
 have hl2 : ac.length ≤ nx.length := by omega
 clear hl
 obtain ⟨ht0, ht1, ha0, ha1⟩ := sigB_bd Hs.out
 have hat := atomsN_bd t
 obtain ⟨sb, so, rfl⟩ := nest_some (f := boolsD) g4 (by omega)
 obtain ⟨ub, uo, rfl⟩ := nest_some (f := iiD) g5 (by omega)
 have HB1 := Lib.hid hB
 have Hh := Lib.hid h
 clear h1 g0 g1 g2 g3 h
 go_wp2_with fail
 clear k3 c2
 go_loopw [4] (fun i wr => ∃ k : Nat, k ≤ ac.length ∧ i = .int .i64 k ∧ StsOk t a ac nx k ∧ Below w.heap.size w wr) (fun i _ => ac.length - (intOf i).toNat)
 case atStart => exact ⟨0, by omega, rfl, StsOk.zero, HB1.out⟩
 case round =>
  clear HB1 hB
  obtain ⟨k, hk, rfl, hst, hB⟩ := hrel
  have szB := hB.size
  have Hst := Lib.hid hst
  have HB := Lib.hid hB
  clear hst hB
  by_cases hlt : k < ac.length
  rotate_left
  ·
   have c1 : autB t a ac nx = true := autB_yes ⟨Hs.out, hn1, hn2, Hl.out, fun i ar nr h1 h2 => Hst.out i ar nr (by have := (List.getElem?_eq_some_iff.1 h1).1; omega) h1 h2⟩
   have C1 := Lib.hid c1
   clear c1
   go_wp2_with fail
   go_ret
   exact ⟨ret_bool (by rw [C1.out]), HB.out⟩
  obtain ⟨ar, har⟩ : ∃ e, ac[k]? = some e := ⟨_, List.getElem?_eq_getElem hlt⟩
  obtain ⟨nr, hnr⟩ : ∃ e, nx[k]? = some e := ⟨_, List.getElem?_eq_getElem (by omega)⟩
  obtain ⟨hsl, sa, ca, a0, ra⟩ := nest_sl (g := D.bool) g4 har
  obtain ⟨hul, sn, cn, b0, rb⟩ := nest_sl (g := intsD) g5 hnr
  obtain ⟨ra1, ra2⟩ := nest_bd ra
  obtain ⟨rb1, rb2⟩ := nest_bd rb
  unfold maxLen at ra2 rb2
  have A0 := Lib.hid a0
  have B0 := Lib.hid b0
  have Har := Lib.hid har
  have Hnr := Lib.hid hnr
  have hkz := Int.natCast_nonneg k
  have hkb : (k : Int) < (ac.length : Int) := by omega
  have hkc : (k : Int) < (nx.length : Int) := by omega
  clear a0 b0 har hnr
  by_cases hA : (ar.length : Int) = atomsN t
  rotate_left
  ·
   have c1 : autB t a ac nx = false := autB_no fun q => hA (q.st k ar nr Har.out Hnr.out).1
   have C1 := Lib.hid c1
   have bA : ((ar.length : Int) != atomsN t) = true := by simp [hA]
   clear c1 hA
   obtain ⟨c0, c1', c2', c3', -, -⟩ := Hh.out.below HB.out
   have a0 := (HB.out.cell (p := ⟨sb, so + k, none⟩) hsl).trans A0.out
   have b0 := (HB.out.cell (p := ⟨ub, uo + k, none⟩) hul).trans B0.out
   have gc0 := fun d os => cell_regrown c0 d os
   have gc1 := fun d os => cell_regrown c1' d os
   have gc2 := fun d os => cell_regrown c2' d os
   have gc3 := fun d os => cell_regrown c3' d os
   have ga0 := fun d os => cell_regrown a0 d os
   have gb0 := fun d os => cell_regrown b0 d os
   go_wp2_with fail
   refine Go.wp_region_quiet_below (by kernel_rfl) (by kernel_rfl) ?_
   repeat (first | go_big_quiet_step ((exact Calls.regrown_of (l01Atoms_i ht0 ht1))) | quiet_step ((exact Calls.regrown_of (l01Atoms_i ht0 ht1))))
   refine wpQuiet_nil ?_; intro _ hw'; obtain ⟨⟨dq, osq⟩, hw''⟩ := hw'; subst hw''; have hq := below_regrown wr dq osq; revert hq; generalize grow (redrawn wr dq) osq = w2; intro hq
   have hB2 : Below w.heap.size w w2 := Below.on HB.out hq HB.out.size
   clear hq c0 c1' c2' c3' a0 b0 gc0 gc1 gc2 gc3 ga0 gb0
   go_wp2_with fail
   go_ret
   exact ⟨ret_bool (by rw [C1.out]), hB2⟩
  have bA : ((ar.length : Int) != atomsN t) = false := by simp [hA]
  have HA := Lib.hid hA
  clear hA
  by_cases hN : (nr.length : Int) = atomsN t
  rotate_left
  ·
   have c1 : autB t a ac nx = false := autB_no fun q => hN (q.st k ar nr Har.out Hnr.out).2.1
   have C1 := Lib.hid c1
   have bN : ((nr.length : Int) != atomsN t) = true := by simp [hN]
   clear c1 hN
   obtain ⟨c0, c1', c2', c3', -, -⟩ := Hh.out.below HB.out
   have a0 := (HB.out.cell (p := ⟨sb, so + k, none⟩) hsl).trans A0.out
   have b0 := (HB.out.cell (p := ⟨ub, uo + k, none⟩) hul).trans B0.out
   have gc0 := fun d os => cell_regrown c0 d os
   have gc1 := fun d os => cell_regrown c1' d os
   have gc2 := fun d os => cell_regrown c2' d os
   have gc3 := fun d os => cell_regrown c3' d os
   have ga0 := fun d os => cell_regrown a0 d os
   have gb0 := fun d os => cell_regrown b0 d os
   go_wp2_with fail
   refine Go.wp_region_quiet_below (by kernel_rfl) (by kernel_rfl) ?_
   repeat (first | go_big_quiet_step ((exact Calls.regrown_of (l01Atoms_i ht0 ht1))) | quiet_step ((exact Calls.regrown_of (l01Atoms_i ht0 ht1))))
   refine wpQuiet_nil ?_; intro _ hw'; obtain ⟨⟨dq, osq⟩, hw''⟩ := hw'; subst hw''; have hq := below_regrown wr dq osq; revert hq; generalize grow (redrawn wr dq) osq = w2; intro hq
   have hB2 : Below w.heap.size w w2 := Below.on HB.out hq HB.out.size
   clear hq c0 c1' c2' c3' a0 b0 gc0 gc1 gc2 gc3 ga0 gb0
   go_wp2_with fail
   go_ret
   exact ⟨ret_bool (by rw [C1.out]), hB2⟩
  have bN : ((nr.length : Int) != atomsN t) = false := by simp [hN]
  have HN := Lib.hid hN
  clear hN
  obtain ⟨c0, c1', c2', c3', -, -⟩ := Hh.out.below HB.out
  have a0 := (HB.out.cell (p := ⟨sb, so + k, none⟩) hsl).trans A0.out
  have b0 := (HB.out.cell (p := ⟨ub, uo + k, none⟩) hul).trans B0.out
  have gc0 := fun d os => cell_regrown c0 d os
  have gc1 := fun d os => cell_regrown c1' d os
  have gc2 := fun d os => cell_regrown c2' d os
  have gc3 := fun d os => cell_regrown c3' d os
  have ga0 := fun d os => cell_regrown a0 d os
  have gb0 := fun d os => cell_regrown b0 d os
  go_wp2_with fail
  refine Go.wp_region_quiet_below (by kernel_rfl) (by kernel_rfl) ?_
  repeat (first | go_big_quiet_step ((exact Calls.regrown_of (l01Atoms_i ht0 ht1))) | quiet_step ((exact Calls.regrown_of (l01Atoms_i ht0 ht1))))
  refine wpQuiet_nil ?_; intro _ hw'; obtain ⟨⟨dq, osq⟩, hw''⟩ := hw'; subst hw''; have hq := below_regrown wr dq osq; revert hq; generalize grow (redrawn wr dq) osq = w2; intro hq
  have hB2 : Below w.heap.size w w2 := Below.on HB.out hq HB.out.size
  clear hq c0 c1' c2' c3' a0 b0 gc0 gc1 gc2 gc3 ga0 gb0
  clear bA bN HB
  have hnp : 0 < nr.length := by have := HN.out; omega
  obtain ⟨vb, vo, rfl⟩ := nest_some (f := intsD) rb hnp
  have q1 : IntKind.i64.wrap ((ac.length : Int) - 1) = ac.length - 1 := wrap_of (by omega) (by omega)
  go_wp2_with fail
  go_loopw [5] (fun i wr => ∃ j : Nat, j ≤ nr.length ∧ i = .int .i64 j ∧ RowsOk a ac.length nr j ∧ Below w.heap.size w wr) (fun i _ => nr.length - (intOf i).toNat)
  case atStart => exact ⟨0, by omega, rfl, RowsOk.zero, hB2⟩
  case round =>
   clear hB2
   obtain ⟨j, hj, rfl, hro, hB⟩ := hrel
   have szB := hB.size
   have Hro := Lib.hid hro
   have HB := Lib.hid hB
   clear hro hB
   by_cases hjl : j < nr.length
   rotate_left
   ·
    have Hs' := Lib.hid (Hst.out.succ Har.out Hnr.out ⟨HA.out, HN.out, fun i row h => Hro.out i row (by have := (List.getElem?_eq_some_iff.1 h).1; omega) h⟩)
    obtain ⟨c0, c1', c2', c3', -, -⟩ := Hh.out.below HB.out
    have a0 := (HB.out.cell (p := ⟨sb, so + k, none⟩) hsl).trans A0.out
    have b0 := (HB.out.cell (p := ⟨ub, uo + k, none⟩) hul).trans B0.out
    have gc0 := fun d os => cell_regrown c0 d os
    have gc1 := fun d os => cell_regrown c1' d os
    have gc2 := fun d os => cell_regrown c2' d os
    have gc3 := fun d os => cell_regrown c3' d os
    have ga0 := fun d os => cell_regrown a0 d os
    have gb0 := fun d os => cell_regrown b0 d os
    clear gc0 gc1 gc2 gc3 ga0 gb0
    go_wp2_with fail
    go_roundw
    case rel => exact ⟨k + 1, by omega, by go_num, Hs'.out, HB.out⟩
    case measure => simp [intOf]; omega
   obtain ⟨row, hrow⟩ : ∃ e, nr[j]? = some e := ⟨_, List.getElem?_eq_getElem hjl⟩
   obtain ⟨hvl, sr, cr, r0, rr⟩ := nest_sl (g := D.int) rb hrow
   obtain ⟨rr1, rr2⟩ := nest_bd rr
   unfold maxLen at rr2
   have R0 := Lib.hid r0
   have Hrow := Lib.hid hrow
   have hjz := Int.natCast_nonneg j
   have hjb : (j : Int) < (nr.length : Int) := by omega
   clear r0 hrow
   by_cases hA2 : (row.length : Int) = a
   rotate_left
   ·
    have C1 := Lib.hid (show autB t a ac nx = false from autB_no fun q => hA2 ((q.st k ar nr Har.out Hnr.out).2.2 j row Hrow.out).1)
    have bA : ((row.length : Int) != a) = true := by simp [hA2]
    clear hA2
    obtain ⟨c0, c1', c2', c3', -, -⟩ := Hh.out.below HB.out
    have a0 := (HB.out.cell (p := ⟨sb, so + k, none⟩) hsl).trans A0.out
    have b0 := (HB.out.cell (p := ⟨ub, uo + k, none⟩) hul).trans B0.out
    have gc0 := fun d os => cell_regrown c0 d os
    have gc1 := fun d os => cell_regrown c1' d os
    have gc2 := fun d os => cell_regrown c2' d os
    have gc3 := fun d os => cell_regrown c3' d os
    have ga0 := fun d os => cell_regrown a0 d os
    have gb0 := fun d os => cell_regrown b0 d os
    have r0 := (HB.out.cell (p := ⟨vb, vo + j, none⟩) hvl).trans R0.out
    have gr0 := fun d os => cell_regrown r0 d os
    go_wp2_with fail
    refine Go.wp_region_quiet_below (by kernel_rfl) (by kernel_rfl) ?_
    repeat (first | go_big_quiet_step ((fail)) | quiet_step ((fail)))
    refine wpQuiet_nil ?_; intro _ hw'; obtain ⟨⟨dq, osq⟩, hw''⟩ := hw'; subst hw''; have hq := below_regrown wr dq osq; revert hq; generalize grow (redrawn wr dq) osq = w2; intro hq
    have hB2 : Below w.heap.size w w2 := Below.on HB.out hq HB.out.size
    clear hq c0 c1' c2' c3' a0 b0 r0 gc0 gc1 gc2 gc3 ga0 gb0 gr0
    go_wp2_with fail
    go_wp2_with fail
    go_ret
    exact ⟨ret_bool (by rw [C1.out]), hB2⟩
   have bA : ((row.length : Int) != a) = false := by simp [hA2]
   have HA2 := Lib.hid hA2
   clear hA2
   obtain ⟨c0, c1', c2', c3', -, -⟩ := Hh.out.below HB.out
   have a0 := (HB.out.cell (p := ⟨sb, so + k, none⟩) hsl).trans A0.out
   have b0 := (HB.out.cell (p := ⟨ub, uo + k, none⟩) hul).trans B0.out
   have gc0 := fun d os => cell_regrown c0 d os
   have gc1 := fun d os => cell_regrown c1' d os
   have gc2 := fun d os => cell_regrown c2' d os
   have gc3 := fun d os => cell_regrown c3' d os
   have ga0 := fun d os => cell_regrown a0 d os
   have gb0 := fun d os => cell_regrown b0 d os
   have r0 := (HB.out.cell (p := ⟨vb, vo + j, none⟩) hvl).trans R0.out
   have gr0 := fun d os => cell_regrown r0 d os
   go_wp2_with fail
   refine Go.wp_region_quiet_below (by kernel_rfl) (by kernel_rfl) ?_
   repeat (first | go_big_quiet_step ((fail)) | quiet_step ((fail)))
   refine wpQuiet_nil ?_; intro _ hw'; obtain ⟨⟨dq, osq⟩, hw''⟩ := hw'; subst hw''; have hq := below_regrown wr dq osq; revert hq; generalize grow (redrawn wr dq) osq = w2; intro hq
   have hB2 : Below w.heap.size w w2 := Below.on HB.out hq HB.out.size
   clear hq c0 c1' c2' c3' a0 b0 r0 gc0 gc1 gc2 gc3 ga0 gb0 gr0
   go_wp2_with fail
   clear bA HB
   go_loopw [6] (fun i wr => ∃ l : Nat, l ≤ row.length ∧ i = .int .i64 l ∧ CellsOk ac.length row l ∧ Below w.heap.size w wr) (fun i _ => row.length - (intOf i).toNat)
   case atStart => exact ⟨0, by omega, rfl, CellsOk.zero, hB2⟩
   case round =>
    clear hB2
    obtain ⟨l, hl, rfl, hce, hB⟩ := hrel
    have szB := hB.size
    have Hce := Lib.hid hce
    have HB := Lib.hid hB
    clear hce hB
    have hlz := Int.natCast_nonneg l
    obtain ⟨c0, c1', c2', c3', -, -⟩ := Hh.out.below HB.out
    have b0 := (HB.out.cell (p := ⟨ub, uo + k, none⟩) hul).trans B0.out
    have r0 := (HB.out.cell (p := ⟨vb, vo + j, none⟩) hvl).trans R0.out
    by_cases hll : l < row.length
    rotate_left
    ·
     have Hs' := Lib.hid (Hro.out.succ Hrow.out ⟨HA2.out, fun i z h => Hce.out i z (by have := (List.getElem?_eq_some_iff.1 h).1; omega) h⟩)
     go_wp2_with fail
     go_roundw
     case rel => exact ⟨j + 1, by omega, by go_num, Hs'.out, HB.out⟩
     case measure => simp [intOf]; omega
    have hlb : (l : Int) < (row.length : Int) := by omega
    obtain ⟨z, hz⟩ : ∃ e, row[l]? = some e := ⟨_, List.getElem?_eq_getElem hll⟩
    obtain ⟨tb, to', rfl⟩ := nest_some (f := D.int) rr (by omega)
    obtain ⟨-, z0⟩ := int_in (rr.below HB.out) hz
    have Hz := Lib.hid hz
    clear hz
    go_wp2_with fail
    refine (in_any _ _ _ _).mono ?_
    rintro e w' ⟨rfl, rfl⟩
    cases hin : inB z (-1) (ac.length - 1)
    ·
     have C1 := Lib.hid (show autB t a ac nx = false from autB_no fun q => by
      have h1 := ((q.st k ar nr Har.out Hnr.out).2.2 j row Hrow.out).2 l z Hz.out
      have h2 : inB z (-1) (ac.length - 1) = true := by simp only [inB, Bool.and_eq_true, decide_eq_true_eq]; exact h1
      rw [h2] at hin
      cases hin)
     clear hin
     go_wp2_with fail
     go_ret
     exact ⟨ret_bool (by rw [C1.out]), HB.out⟩
    ·
     have Hs' := Lib.hid (Hce.out.succ Hz.out hin)
     clear hin
     go_wp2_with fail
     go_roundw
     case rel => exact ⟨l + 1, by omega, by go_num, Hs'.out, HB.out⟩
     case measure => simp [intOf]; omega
end Go.Proofs.Ytfhlddbngjlhbaa
