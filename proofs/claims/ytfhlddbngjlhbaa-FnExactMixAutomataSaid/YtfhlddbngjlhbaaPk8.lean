/-
  Parts of a proof, joined: MadP, MapL, MadO, MadS, CountF, PrS, PrL, LangA, MixP, MixQ, Rnd, MixC, MixS0, RegOf. No condition.
-/
import Derived.Laws.BitsLemmas
import Derived.Laws.Bits64
import Derived.Test.YtfhlddbngjlhbaaPk7
namespace Go.Proofs.Ytfhlddbngjlhbaa
set_option linter.unusedVariables false
set_option linter.unusedSimpArgs false
open Go.ChangeShapes Go.WideShapes Go.ChangeAt Go.RowKit Go.Deep
theorem box4 (w : World) (t : TypeId) (a b c d : Value) : ∃ w', w.alloc (.cells #[a, b, c, d] t) = w' ∧ Blk w' w.heap.size t [a, b, c, d] ∧ Below w.heap.size w w' ∧ w'.heap.size = w.heap.size + 1 :=
 ⟨_, rfl, Blk.new4 w t a b c d, Below.alloc (Below.refl _ _) (Nat.le_refl _) _, by simp⟩
theorem Blk.all4 {w : World} {g t : Nat} {a b c d : Value} (h : Blk w g t [a, b, c, d]) : w.cell? ⟨g, 0, none⟩ = some a ∧ w.cell? ⟨g, 1, none⟩ = some b ∧ w.cell? ⟨g, 2, none⟩ = some c ∧ w.cell? ⟨g, 3, none⟩ = some d ∧
  w.frozen? ⟨g, 0, none⟩ = false ∧ w.frozen? ⟨g, 1, none⟩ = false ∧ w.frozen? ⟨g, 2, none⟩ = false ∧ w.frozen? ⟨g, 3, none⟩ = false ∧ g < w.heap.size :=
 ⟨h.c0, h.c1, h.c2, h.c3, h.frozen 0, h.frozen 1, h.frozen 2, h.frozen 3, h.lt⟩
theorem set4 {w : World} {g t : Nat} {a b c d : Value} (h : Blk w g t [a, b, c, d]) (x y z u : Value) : ∃ w', (((w.setCell ⟨g, 0, none⟩ x).setCell ⟨g, 1, none⟩ y).setCell ⟨g, 2, none⟩ z).setCell ⟨g, 3, none⟩ u = w' ∧ Blk w' g t [x, y, z, u] ∧ Spares (fun i => i = g) w w' :=
 ⟨_, rfl, (((h.set 0 x).set 1 y).set 2 z).set 3 u, Spares.set (Spares.set (Spares.set (Spares.set (Spares.refl w))))⟩
end Go.Proofs.Ytfhlddbngjlhbaa

namespace Go.Proofs.Ytfhlddbngjlhbaa
set_option linter.unusedVariables false
set_option linter.unusedSimpArgs false
open Go.ChangeShapes Go.WideShapes Go.ChangeAt Go.RowKit Go.Deep Go.ChangeMaps Go.MapKept
theorem Bun.push_one {B : Nat} {w w' : World} {items : List Item} (h : Bun B w items) (hB : B ≤ w.heap.size) (hb : Below w.heap.size w w') {P : World → Prop} (hg : w.heap.size < w'.heap.size) (hP : ∀ w1, w1.heap[w.heap.size]? = w'.heap[w.heap.size]? → P w1) : Bun B w' (items ++ [.one w.heap.size P]) :=
 h.push hb ⟨⟨hB, hg, Nat.le_refl _⟩, hg, hP⟩
end Go.Proofs.Ytfhlddbngjlhbaa

namespace Go.Proofs.Ytfhlddbngjlhbaa
set_option linter.unusedVariables false
set_option linter.unusedSimpArgs false
open Go.ChangeShapes Go.WideShapes Go.ChangeAt Go.RowKit Go.Deep
theorem accL_le {α : Type} {c : α → Nat} {k : Nat} : ∀ {xs : List α}, (∀ x ∈ xs, c x ≤ k) → accL c xs ≤ xs.length * k
 | [], _ => by simp [accL]
 | x :: r, h => by
  have h1 := accL_le (xs := r) fun y hy => h y (List.mem_cons_of_mem _ hy)
  have h2 := h x (List.mem_cons_self ..)
  simp only [accL, List.length_cons, Nat.succ_mul]
  omega
theorem nest_marks {α : Type} {f : α → D} (xs : List α) : (nestD f xs).marks = accL (fun x => (f x).marks) xs := by
 show D.marksL (xs.map f) = _
 exact marksL_map xs
theorem nest_marks_le {α : Type} {f : α → D} {xs : List α} {k n : Nat} (h : ∀ x ∈ xs, (f x).marks ≤ k) (hn : xs.length ≤ n) : (nestD f xs).marks ≤ n * k := by
 rw [nest_marks]
 exact Nat.le_trans (accL_le h) (Nat.mul_le_mul_right k hn)
end Go.Proofs.Ytfhlddbngjlhbaa

namespace Go.Proofs.Ytfhlddbngjlhbaa
set_option linter.unusedVariables false
set_option linter.unusedSimpArgs false
open Go.ChangeShapes Go.WideShapes Go.ChangeAt Go.RowKit Go.Deep
theorem nil_au {w w' : World} : Freshs w w' (autD [] []) [.slice none 0 0, .slice none 0 0] := by
 refine ⟨[], Ows.cons (F := []) (G := []) ?_ (Ows.cons (F := []) (G := []) ?_ Ows.nil), by simp, by simp⟩
 ·
  simp only [bbD, nestD, Ow]
  exact ⟨_, 0, rfl, by simp, by simp [maxLen], by simp, by simp, Or.inl (by simp)⟩
 ·
  simp only [iiiD, nestD, Ow]
  exact ⟨_, 0, rfl, by simp, by simp [maxLen], by simp, by simp, Or.inl (by simp)⟩
end Go.Proofs.Ytfhlddbngjlhbaa

namespace Go.Proofs.Ytfhlddbngjlhbaa
set_option linter.unusedVariables false
set_option linter.unusedSimpArgs false
open Go.ChangeShapes Go.WideShapes Go.ChangeAt Go.RowKit Go.Sort
theorem Blk.autAt' {w : World} {g T : Nat} {t a : Int} {ac : List (List Bool)} {nx : List (List (List Int))} {s u : Option Addr} {c d : Nat} (L : Blk w g T [.int .i64 t, .int .i64 a, .slice s ac.length c, .slice u nx.length d]) (hr : Rd w (bbD ac) (.slice s ac.length c)) (hq : Rd w (iiiD nx) (.slice u nx.length d)) : AutAt w g 0 t a ac nx s u c d :=
 ⟨L.c0, L.c1, L.c2, L.c3, hr, hq⟩
end Go.Proofs.Ytfhlddbngjlhbaa

namespace Go.Proofs.Ytfhlddbngjlhbaa
set_option linter.unusedVariables false
set_option linter.unusedSimpArgs false
open Go.ChangeShapes Go.WideShapes Go.ChangeAt Go.RowKit Go.Deep
theorem goN_neg {nx : List (List (List Int))} {s : Int} {m k : Nat} (h : s < 0) : goN nx s m k = -1 := if_pos h
theorem goN_pos {nx : List (List (List Int))} {s m k : Nat} : goN nx (s : Int) m k = stepN nx s m k := by
 unfold goN
 rw [if_neg (by omega), Int.toNat_natCast]
theorem hasN_neg {ac : List (List Bool)} {s : Int} {m : Nat} (h : s < 0) : hasN ac s m = false := by unfold hasN; rw [decide_eq_false (by omega : ¬ 0 ≤ s)]; rfl
theorem hasN_pos {ac : List (List Bool)} {s m : Nat} : hasN ac (s : Int) m = (ac.getD s []).getD m false := by unfold hasN; simp
set_option maxHeartbeats 4000000 in
theorem l02Go_i {t a s : Int} {m k b o : Nat} {ac : List (List Bool)} {nx : List (List (List Int))} {sa u : Option Addr} {c d : Nat} {w : World} (h : AutAt w b o t a ac nx sa u c d) (hok : AutOk t a ac nx) (hs : s < ac.length) (hm : (m : Int) < atomsN t) (hk : (k : Int) < a) :
  Calls Try.prog 53 #[.pointer (some ⟨b, o, none⟩), .int .i64 s, .int .i64 m, .int .i64 k] w fun e w' => e = .returned (.int .i64 (goN nx s m k)) ∧ w' = w := by
 by_cases h0 : s < 0
 ·
  rw [goN_neg h0]
  clear h hok
  go_enter Try.func53, Try.ntmps53
  go_wp2_with fail
  go_ret
  exact ⟨rfl, rfl⟩
 ·
  obtain ⟨s, rfl⟩ : ∃ n : Nat, s = (n : Int) := ⟨s.toNat, by omega⟩
  obtain ⟨nr, row, z, hnr, hrow, hz, -, -, e1⟩ := hok.next (s := s) (x := m) (y := k) (by omega) hm hk
  have HE : Hid (goN nx (s : Int) m k = z) := by show _ = _; rw [goN_pos, e1]
  rw [HE.out]
  obtain ⟨c0, c1', c2', c3', hr, hq⟩ := h
  clear e1 HE
  have hs0 := Int.natCast_nonneg s
  have hm0 := Int.natCast_nonneg m
  have hlen := hok.len
  obtain ⟨ub, uo, rfl⟩ := nest_some (f := iiD) hq (by omega)
  obtain ⟨hcap1, hcap2⟩ := nest_bd hq
  unfold maxLen at hcap2
  obtain ⟨hul, sn, cn, b0, rb⟩ := nest_sl (g := intsD) hq hnr
  have hml := (List.getElem?_eq_some_iff.1 hrow).1
  have hkl := (List.getElem?_eq_some_iff.1 hz).1
  obtain ⟨vb, vo, rfl⟩ := nest_some (f := intsD) rb (by omega)
  obtain ⟨hcap3, hcap4⟩ := nest_bd rb
  unfold maxLen at hcap4
  obtain ⟨hvl, sr, cr, r0, rr⟩ := nest_sl (g := D.int) rb hrow
  obtain ⟨tb, to', rfl⟩ := nest_some (f := D.int) rr (by omega)
  obtain ⟨hcap5, hcap6⟩ := nest_bd rr
  unfold maxLen at hcap6
  obtain ⟨htl, q0⟩ := int_in rr hz
  have hk0 := Int.natCast_nonneg k
  have i1 : (s : Int) < (nx.length : Int) := by omega
  have i2 : (m : Int) < (nr.length : Int) := by omega
  have i3 : (k : Int) < (row.length : Int) := by omega
  clear hnr hrow hz rb rr
  clear hr hq hok
  go_enter Try.func53, Try.ntmps53
  go_wp2_with fail
  go_ret
  exact ⟨rfl, rfl⟩
set_option maxHeartbeats 4000000 in
theorem l02Has_i {t a s : Int} {m b o : Nat} {ac : List (List Bool)} {nx : List (List (List Int))} {sa u : Option Addr} {c d : Nat} {w : World} (h : AutAt w b o t a ac nx sa u c d) (hok : AutOk t a ac nx) (hs : s < ac.length) (hm : (m : Int) < atomsN t) :
  Calls Try.prog 52 #[.pointer (some ⟨b, o, none⟩), .int .i64 s, .int .i64 m] w fun e w' => e = .returned (.bool (hasN ac s m)) ∧ w' = w := by
 by_cases h0 : s < 0
 ·
  rw [hasN_neg h0]
  have hge : decide ((0 : Int) ≤ s) = false := by simp; omega
  clear h hok
  go_enter Try.func52, Try.ntmps52
  go_wp2_with fail
  go_ret
  exact ⟨rfl, rfl⟩
 ·
  obtain ⟨s, rfl⟩ : ∃ n : Nat, s = (n : Int) := ⟨s.toNat, by omega⟩
  obtain ⟨ar, z, har, hz, e1⟩ := hok.acc (s := s) (x := m) (by omega) hm
  have HE : Hid (hasN ac (s : Int) m = z) := by show _ = _; rw [hasN_pos, e1]
  rw [HE.out]
  obtain ⟨c0, c1', c2', c3', hr, hq⟩ := h
  clear e1 HE
  have hs0 := Int.natCast_nonneg s
  have hm0 := Int.natCast_nonneg m
  obtain ⟨ub, uo, rfl⟩ := nest_some (f := boolsD) hr (by omega)
  obtain ⟨hcap1, hcap2⟩ := nest_bd hr
  unfold maxLen at hcap2
  obtain ⟨hul, sn, cn, b0, rb⟩ := nest_sl (g := D.bool) hr har
  have hml := (List.getElem?_eq_some_iff.1 hz).1
  obtain ⟨vb, vo, rfl⟩ := nest_some (f := D.bool) rb (by omega)
  obtain ⟨hcap3, hcap4⟩ := nest_bd rb
  unfold maxLen at hcap4
  obtain ⟨hvl, q0⟩ := bool_in rb hz
  have i1 : (s : Int) < (ac.length : Int) := by omega
  have i2 : (m : Int) < (ar.length : Int) := by omega
  clear har hz rb
  clear hr hq hok
  go_enter Try.func52, Try.ntmps52
  go_wp2_with fail
  go_ret
  exact ⟨rfl, rfl⟩
set_option maxHeartbeats 4000000 in
theorem nextOf_i {t a s : Int} {m k : Nat} {ac : List (List Bool)} {nx : List (List (List Int))} {sa u : Option Addr} {c d : Nat} {w : World} (hr : Rd w (bbD ac) (.slice sa ac.length c)) (hq : Rd w (iiiD nx) (.slice u nx.length d)) (hok : AutOk t a ac nx) (hs : s < ac.length) (hm : (m : Int) < atomsN t) (hk : (k : Int) < a) :
  Calls Try.prog 59 #[.agg #[.int .i64 t, .int .i64 a, .slice sa ac.length c, .slice u nx.length d], .int .i64 s, .int .i64 m, .int .i64 k] w fun e w' => e = .returned (.int .i64 (goN nx s m k)) ∧ Below w.heap.size w w' := by
 by_cases h0 : s < 0
 ·
  rw [goN_neg h0]
  clear hr hq hok
  go_enter Try.func59, Try.ntmps59
  go_wp2_with fail
  go_ret
  exact ⟨rfl, by (repeat' first | exact Below.refl _ _ | assumption | apply Below.alloc | apply Below.drew | apply Below.setCell | omega | (simp; done) | (simp; omega))⟩
 ·
  obtain ⟨s, rfl⟩ : ∃ n : Nat, s = (n : Int) := ⟨s.toNat, by omega⟩
  obtain ⟨nr, row, z, hnr, hrow, hz, -, -, e1⟩ := hok.next (s := s) (x := m) (y := k) (by omega) hm hk
  have HE : Hid (goN nx (s : Int) m k = z) := by show _ = _; rw [goN_pos, e1]
  rw [HE.out]
  clear e1 HE
  have hs0 := Int.natCast_nonneg s
  have hm0 := Int.natCast_nonneg m
  have hlen := hok.len
  obtain ⟨ub, uo, rfl⟩ := nest_some (f := iiD) hq (by omega)
  obtain ⟨hcap1, hcap2⟩ := nest_bd hq
  unfold maxLen at hcap2
  obtain ⟨hul, sn, cn, b0, rb⟩ := nest_sl (g := intsD) hq hnr
  have hml := (List.getElem?_eq_some_iff.1 hrow).1
  have hkl := (List.getElem?_eq_some_iff.1 hz).1
  obtain ⟨vb, vo, rfl⟩ := nest_some (f := intsD) rb (by omega)
  obtain ⟨hcap3, hcap4⟩ := nest_bd rb
  unfold maxLen at hcap4
  obtain ⟨hvl, sr, cr, r0, rr⟩ := nest_sl (g := D.int) rb hrow
  obtain ⟨tb, to', rfl⟩ := nest_some (f := D.int) rr (by omega)
  obtain ⟨hcap5, hcap6⟩ := nest_bd rr
  unfold maxLen at hcap6
  obtain ⟨htl, q0⟩ := int_in rr hz
  have hk0 := Int.natCast_nonneg k
  have i1 : (s : Int) < (nx.length : Int) := by omega
  have i2 : (m : Int) < (nr.length : Int) := by omega
  have i3 : (k : Int) < (row.length : Int) := by omega
  clear hnr hrow hz rb rr
  clear hr hq hok
  go_enter Try.func59, Try.ntmps59
  go_wp2_with fail
  go_ret
  exact ⟨rfl, by (repeat' first | exact Below.refl _ _ | assumption | apply Below.alloc | apply Below.drew | apply Below.setCell | omega | (simp; done) | (simp; omega))⟩
end Go.Proofs.Ytfhlddbngjlhbaa

namespace Go.Proofs.Ytfhlddbngjlhbaa
set_option linter.unusedVariables false
set_option linter.unusedSimpArgs false
open Go.ChangeShapes Go.WideShapes Go.ChangeAt Go.RowKit Go.Deep
theorem rd_part {w : World} {L : List (Int × Int)} {f : Int × Int → Int} {v : Value} (h : Rd w (.sl 1 L.length ((L.map f).map D.int)) v) : Rd w (intsD (L.map f)) v := by
 show Rd w (.sl 1 (L.map f).length ((L.map f).map D.int)) v
 rw [List.length_map]
 exact h
theorem part_at {L : List (Int × Int)} {f : Int × Int → Int} {i : Nat} {p : Int × Int} (h : L[i]? = some p) : (L.map f)[i]? = some (f p) := by rw [List.getElem?_map, h]; rfl
theorem nxtP_none {nx ny : List (List (List Int))} {m k : Nat} {p : Int × Int} {X Y : Int} (h1 : goN nx p.1 m k = X) (h2 : goN ny p.2 m k = Y) (hx : X < 0) (hy : Y < 0) : nxtP nx ny m k p = none := by unfold nxtP; rw [h1, h2, if_pos ⟨hx, hy⟩]
theorem nxtP_some {nx ny : List (List (List Int))} {m k : Nat} {p : Int × Int} {X Y : Int} (h1 : goN nx p.1 m k = X) (h2 : goN ny p.2 m k = Y) (h : ¬ (X < 0 ∧ Y < 0)) : nxtP nx ny m k p = some (X, Y) := by unfold nxtP; rw [h1, h2, if_neg h]
theorem prC_none {nx ny : List (List (List Int))} {A a i : Nat} {x : Int × Int} {m k : Nat} (hm : m < A) (hk : k < a) (h : nxtP nx ny m k x = none) : prC nx ny A a i x m (k + 1) = prC nx ny A a i x m k := by rw [prC_cell hm hk, h]; rfl
theorem prC_was {nx ny : List (List (List Int))} {A a i : Nat} {x z : Int × Int} {m k : Nat} (hm : m < A) (hk : k < a) (h : nxtP nx ny m k x = some z) (hz : z ∈ prC nx ny A a i x m k) : prC nx ny A a i x m (k + 1) = prC nx ny A a i x m k := by rw [prC_cell hm hk, h, grow1_old hz]
theorem prC_new {nx ny : List (List (List Int))} {A a i : Nat} {x z : Int × Int} {m k : Nat} (hm : m < A) (hk : k < a) (h : nxtP nx ny m k x = some z) (hz : z ∉ prC nx ny A a i x m k) : prC nx ny A a i x m (k + 1) = prC nx ny A a i x m k ++ [z] := by rw [prC_cell hm hk, h, grow1_new hz]
def seenB (L : List (Int × Int)) (z : Int × Int) (k : Nat) : Bool := decide (z ∈ L.take k)
theorem seen_zero {L : List (Int × Int)} {z : Int × Int} : seenB L z 0 = false := by simp [seenB]
theorem seen_succ {L : List (Int × Int)} {z p : Int × Int} {k : Nat} (h : L[k]? = some p) (hs : seenB L z k = false) : seenB L z (k + 1) = (p.1 == z.1 && p.2 == z.2) := by
 obtain ⟨hk, rfl⟩ := List.getElem?_eq_some_iff.1 h
 unfold seenB at hs ⊢
 rw [decide_eq_false_iff_not] at hs
 rw [List.take_succ_eq_append_getElem hk, Bool.eq_iff_iff, decide_eq_true_eq, List.mem_append, List.mem_singleton, Bool.and_eq_true, beq_iff_eq, beq_iff_eq]
 constructor
 ·
  rintro (h | h)
  ·
   exact absurd h hs
  ·
   rw [h]; exact ⟨rfl, rfl⟩
 ·
  rintro ⟨h1, h2⟩
  exact Or.inr (Prod.ext h1.symm h2.symm)
theorem seen_no {L : List (Int × Int)} {z : Int × Int} (h : false = seenB L z L.length) : z ∉ L := by
 have := of_decide_eq_false h.symm
 rwa [List.take_length] at this
theorem bun_zero {B : Nat} {w : World} {items : List Item} (h : Bun B w items) (hB : B ≤ w.heap.size) {t : Nat} {v : Int} : Bun B (w.alloc (.cells #[.int .i64 v] t)) (items ++ [.app t 1 1 [D.int v] (.slice (some ⟨w.heap.size, 0, none⟩) 1 1)]) := by
 refine h.push (Below.alloc (Below.refl _ _) (Nat.le_refl _) _) ?_
 refine AppS.more (AppS.made (t := t) (size := 1) (m := 1) (S := fun _ => False) (none_own (w := w) (v := v)) (fun b h => h.elim) rfl (by unfold maxLen; omega)) fun b _ hc => ?_
 have hz : (w.alloc (.cells #[.int .i64 v] t)).heap.size = w.heap.size + 1 := by simp
 rcases hc with hc | hc
 ·
  exact hc.elim
 ·
  omega
end Go.Proofs.Ytfhlddbngjlhbaa

namespace Go.Proofs.Ytfhlddbngjlhbaa
set_option linter.unusedVariables false
set_option linter.unusedSimpArgs false
section
variable {α : Type} [DecidableEq α]
theorem growL_has : ∀ (ss : List (Option α)) (L : List α) {y : α}, some y ∈ ss → y ∈ growL L ss
 | o :: r, L, y, h => by
  show y ∈ growL (grow1 L o) r
  rcases List.mem_cons.1 h with h | h
  ·
   subst h
   exact (growL_prefix r _).subset grow1_mem
  ·
   exact growL_has r _ h
theorem expl_closed {s : α} {succ : α → List (Option α)} {k : Nat} (h : (expl s succ k).length ≤ k) {x y : α} (hx : x ∈ expl s succ k) (hy : some y ∈ succ x) : y ∈ expl s succ k := by
 obtain ⟨i, hi⟩ := List.mem_iff_getElem?.1 hx
 have hlt := (List.getElem?_eq_some_iff.1 hi).1
 have hik : i < k := by omega
 have hpos : i < (expl s succ i).length := by
  rcases Nat.lt_or_ge i (expl s succ i).length with q | q
  ·
   exact q
  ·
   rw [expl_stop q k (by omega)] at hlt
   omega
 have hii : (expl s succ i)[i]? = some x := by
  have h1 : (expl s succ i)[i]? = some (expl s succ i)[i] := List.getElem?_eq_getElem hpos
  have h2 := prefix_get (expl_prefix s succ (show i ≤ k by omega)) h1
  rw [hi] at h2
  rw [h1, ← h2]
 refine (expl_prefix s succ (show i + 1 ≤ k by omega)).subset ?_
 rw [expl_succ hii]
 exact growL_has _ _ hy
theorem grid_has {β : Type} {f : Nat → Nat → β} {A a m k : Nat} (hm : m < A) (hk : k < a) : f m k ∈ grid f A a := List.mem_of_getElem? (grid_at f hk hm)
end
section
variable {t a : Int} {ac bc : List (List Bool)} {nx ny : List (List (List Int))}
theorem prF_closed (h : AutOk t a ac nx) (h' : AutOk t a bc ny) {m k : Nat} (hm : m < (atomsN t).toNat) (hk : k < a.toNat) {p z : Int × Int} (hp : p ∈ prF nx ny (atomsN t).toNat a.toNat) (hz : nxtP nx ny m k p = some z) : z ∈ prF nx ny (atomsN t).toNat a.toNat :=
 expl_closed (prL_many h h' 3721) hp (by rw [← hz]; exact grid_has (f := fun m k => nxtP nx ny m k p) hm hk)
end
end Go.Proofs.Ytfhlddbngjlhbaa

namespace Go.Proofs.Ytfhlddbngjlhbaa
set_option linter.unusedVariables false
set_option linter.unusedSimpArgs false
def mixB (k : Int) (x y : Bool) : Bool := if k = 1 then x || y else if k = 2 then x && y else x && !y
def accM (k : Int) (ac bc : List (List Bool)) (A : Nat) (p : Int × Int) : List Bool := (List.range A).map fun m => mixB k (hasN ac p.1 m) (hasN bc p.2 m)
def rowM (nx ny : List (List (List Int))) (L : List (Int × Int)) (a m : Nat) (p : Int × Int) : List Int := (List.range a).map fun k => numO L (nxtP nx ny m k p)
def rowsM (nx ny : List (List (List Int))) (L : List (Int × Int)) (A a : Nat) (p : Int × Int) : List (List Int) := (List.range A).map fun m => rowM nx ny L a m p
def mxOk (nx ny : List (List (List Int))) (A a : Nat) : Prop := (prF nx ny A a).length ≤ 60
open Classical in
noncomputable def mxA (k : Int) (ac bc : List (List Bool)) (nx ny : List (List (List Int))) (A a : Nat) : List (List Bool) := if mxOk nx ny A a then (prF nx ny A a).map (accM k ac bc A) else []
open Classical in
noncomputable def mxX (nx ny : List (List (List Int))) (A a : Nat) : List (List (List Int)) := if mxOk nx ny A a then (prF nx ny A a).map (rowsM nx ny (prF nx ny A a) A a) else []
open Classical in
noncomputable def mxC (nx ny : List (List (List Int))) (A a : Nat) : Int := if mxOk nx ny A a then 0 else 3
theorem accM_len (k : Int) (ac bc : List (List Bool)) (A : Nat) (p : Int × Int) : (accM k ac bc A p).length = A := by simp [accM]
theorem accM_take {k : Int} {ac bc : List (List Bool)} {A m : Nat} {p : Int × Int} (hm : m < A) : (accM k ac bc A p).take (m + 1) = (accM k ac bc A p).take m ++ [mixB k (hasN ac p.1 m) (hasN bc p.2 m)] := by
 have hl : m < (accM k ac bc A p).length := by rw [accM_len]; exact hm
 rw [List.take_succ_eq_append_getElem hl]
 simp [accM]
theorem rowM_len (nx ny : List (List (List Int))) (L : List (Int × Int)) (a m : Nat) (p : Int × Int) : (rowM nx ny L a m p).length = a := by simp [rowM]
theorem rowM_take {nx ny : List (List (List Int))} {L : List (Int × Int)} {a m k : Nat} {p : Int × Int} (hk : k < a) : (rowM nx ny L a m p).take (k + 1) = (rowM nx ny L a m p).take k ++ [numO L (nxtP nx ny m k p)] := by
 have hl : k < (rowM nx ny L a m p).length := by rw [rowM_len]; exact hk
 rw [List.take_succ_eq_append_getElem hl]
 simp [rowM]
theorem rowsM_len (nx ny : List (List (List Int))) (L : List (Int × Int)) (A a : Nat) (p : Int × Int) : (rowsM nx ny L A a p).length = A := by simp [rowsM]
theorem rowsM_take {nx ny : List (List (List Int))} {L : List (Int × Int)} {A a m : Nat} {p : Int × Int} (hm : m < A) : (rowsM nx ny L A a p).take (m + 1) = (rowsM nx ny L A a p).take m ++ [rowM nx ny L a m p] := by
 have hl : m < (rowsM nx ny L A a p).length := by rw [rowsM_len]; exact hm
 rw [List.take_succ_eq_append_getElem hl]
 simp [rowsM]
theorem map_take_succ {α β : Type} {f : α → β} {L : List α} {i : Nat} {x : α} (h : L[i]? = some x) : (L.map f).take (i + 1) = (L.map f).take i ++ [f x] := by
 obtain ⟨hi, rfl⟩ := List.getElem?_eq_some_iff.1 h
 have hl : i < (L.map f).length := by simpa using hi
 rw [List.take_succ_eq_append_getElem hl]
 simp
section
variable {t a : Int} {ac bc : List (List Bool)} {nx ny : List (List (List Int))}
theorem mix_len {k : Int} {A b : Nat} (hok : mxOk nx ny A b) : (mxA k ac bc nx ny A b).length = (prF nx ny A b).length ∧ (mxX nx ny A b).length = (prF nx ny A b).length := by
 unfold mxA mxX
 rw [if_pos hok, if_pos hok]
 simp
theorem mix_ok (h : AutOk t a ac nx) (h' : AutOk t a bc ny) {k : Int} (hok : mxOk nx ny (atomsN t).toNat a.toNat) : AutOk t a (mxA k ac bc nx ny (atomsN t).toNat a.toNat) (mxX nx ny (atomsN t).toNat a.toNat) := by
 obtain ⟨e1, e2⟩ := mix_len (k := k) (ac := ac) (bc := bc) hok
 obtain ⟨d1, d2, d3, d4⟩ := h.dims
 have hp : 1 ≤ (prF nx ny (atomsN t).toNat a.toNat).length := expl_pos _ _ _
 refine ⟨h.sig, by rw [e1]; exact hp, by rw [e1]; exact hok, by rw [e1, e2], ?_⟩
 intro i ar nr h1 h2
 rw [e1]
 unfold mxA at h1
 unfold mxX at h2
 rw [if_pos hok, List.getElem?_map] at h1 h2
 obtain ⟨p, hpi, rfl⟩ := Option.map_eq_some_iff.1 h1
 rw [hpi] at h2
 obtain rfl := Option.some.inj h2
 refine ⟨by rw [accM_len]; omega, by rw [rowsM_len]; omega, ?_⟩
 intro m row hr
 have hm : m < (atomsN t).toNat := by have := (List.getElem?_eq_some_iff.1 hr).1; rwa [rowsM_len] at this
 unfold rowsM at hr
 rw [List.getElem?_map, List.getElem?_range hm] at hr
 obtain rfl := Option.some.inj hr
 refine ⟨by rw [rowM_len]; omega, ?_⟩
 intro q z hz
 have hq : q < a.toNat := by have := (List.getElem?_eq_some_iff.1 hz).1; rwa [rowM_len] at this
 unfold rowM at hz
 rw [List.getElem?_map, List.getElem?_range hq] at hz
 have hz' : numO (prF nx ny (atomsN t).toNat a.toNat) (nxtP nx ny m q p) = z := Option.some.inj hz
 subst hz'
 have := numO_bd (L := prF nx ny (atomsN t).toNat a.toNat) (o := nxtP nx ny m q p) fun x hx => prF_closed h h' hm hq (List.mem_of_getElem? hpi) hx
 exact ⟨this.1, by omega⟩
theorem at_num {α : Type} [DecidableEq α] {L : List α} {z : α} (h : z ∈ L) : ∃ i : Nat, numO L (some z) = (i : Int) ∧ L[i]? = some z :=
 ⟨L.idxOf z, rfl, by rw [List.getElem?_eq_getElem (List.idxOf_lt_length_of_mem h), List.getElem_idxOf]⟩
end
end Go.Proofs.Ytfhlddbngjlhbaa

namespace Go.Proofs.Ytfhlddbngjlhbaa
set_option linter.unusedVariables false
set_option linter.unusedSimpArgs false
section
variable {t a : Int} {ac bc : List (List Bool)} {nx ny : List (List (List Int))}
theorem prL_in (h : AutOk t a ac nx) (h' : AutOk t a bc ny) (i : Nat) : prL nx ny (atomsN t).toNat a.toNat i <+: prF nx ny (atomsN t).toNat a.toNat := by
 by_cases hi : i ≤ 3721
 ·
  exact expl_prefix _ _ hi
 ·
  have : prL nx ny (atomsN t).toNat a.toNat i = prF nx ny (atomsN t).toNat a.toNat := prL_stop (i := 3721) (prL_many h h' 3721) (by omega)
  rw [this]
  exact List.prefix_refl _
theorem prC_in (h : AutOk t a ac nx) (h' : AutOk t a bc ny) {i m k : Nat} {x : Int × Int} (hx : (prL nx ny (atomsN t).toNat a.toNat i)[i]? = some x) : prC nx ny (atomsN t).toNat a.toNat i x m k <+: prF nx ny (atomsN t).toNat a.toNat :=
 (prC_prefix hx).trans (prL_in h h' (i + 1))
theorem prF_nodup : (prF nx ny (atomsN t).toNat a.toNat).Nodup := expl_nodup _ _ _
theorem mx_at (h : AutOk t a ac nx) (h' : AutOk t a bc ny) {i : Nat} {x : Int × Int} (hx : (prL nx ny (atomsN t).toNat a.toNat i)[i]? = some x) : (prF nx ny (atomsN t).toNat a.toNat)[i]? = some x := prefix_get (prL_in h h' i) hx
theorem mx_num (h : AutOk t a ac nx) (h' : AutOk t a bc ny) {i m k j : Nat} {x z : Int × Int} (hx : (prL nx ny (atomsN t).toNat a.toNat i)[i]? = some x) {o : Option (Int × Int)} (ho : o = some z) (hj : (prC nx ny (atomsN t).toNat a.toNat i x m k)[j]? = some z) : numO (prF nx ny (atomsN t).toNat a.toNat) o = (j : Int) := by
 subst ho
 have q := prefix_get (prC_in h h' hx) hj
 have q2 := prF_nodup (t := t) (a := a) (nx := nx) (ny := ny)
 generalize prF nx ny (atomsN t).toNat a.toNat = L at q q2 ⊢
 simp only [numO]
 rw [idxOf_at q2 q]
theorem mx_ok_le (h : AutOk t a ac nx) (h' : AutOk t a bc ny) (hok : mxOk nx ny (atomsN t).toNat a.toNat) : (∀ i, (prL nx ny (atomsN t).toNat a.toNat i).length ≤ 60) ∧ ∀ i x m k, (prL nx ny (atomsN t).toNat a.toNat i)[i]? = some x → (prC nx ny (atomsN t).toNat a.toNat i x m k).length ≤ 60 :=
 ⟨fun i => by have q := prefix_length (prL_in h h' i); unfold mxOk at hok; omega, fun i x m k hx => by have q := prefix_length (prC_in (m := m) (k := k) h h' hx); unfold mxOk at hok; omega⟩
theorem prL_live {A b : Nat} (i : Nat) : ∀ p ∈ prL nx ny A b i, ¬ (p.1 < 0 ∧ p.2 < 0) := by
 refine expl_all ?_ ?_ i
 ·
  show ¬ ((0 : Int) < 0 ∧ (0 : Int) < 0)
  omega
 ·
  intro y hy m k hm hk z hz
  unfold nxtP at hz
  split at hz
  ·
   cases hz
  ·
   rename_i hn
   obtain rfl := Option.some.inj hz
   exact hn
theorem prC_live {A b i m k : Nat} {x : Int × Int} (hx : (prL nx ny A b i)[i]? = some x) : ∀ p ∈ prC nx ny A b i x m k, ¬ (p.1 < 0 ∧ p.2 < 0) := fun p hp => prL_live (i + 1) p ((prC_prefix hx).subset hp)
noncomputable def mxT (nx ny : List (List (List Int))) (A b : Nat) (v : Int) : Int := if mxC nx ny A b = 0 then v else 0
theorem mx_yes {k : Int} {A b : Nat} (h : mxOk nx ny A b) : (∀ v, mxT nx ny A b v = v) ∧ mxA k ac bc nx ny A b = (prF nx ny A b).map (accM k ac bc A) ∧ mxX nx ny A b = (prF nx ny A b).map (rowsM nx ny (prF nx ny A b) A b) ∧ mxC nx ny A b = 0 := by
 have h0 : mxC nx ny A b = 0 := by unfold mxC; rw [if_pos h]
 refine ⟨fun v => by unfold mxT; rw [if_pos h0], ?_, ?_, h0⟩
 ·
  unfold mxA; rw [if_pos h]
 ·
  unfold mxX; rw [if_pos h]
theorem mx_no {k : Int} {A b : Nat} (h : ¬ mxOk nx ny A b) : (∀ v, mxT nx ny A b v = 0) ∧ mxA k ac bc nx ny A b = [] ∧ mxX nx ny A b = [] ∧ mxC nx ny A b = 3 := by
 have h0 : mxC nx ny A b = 3 := by unfold mxC; rw [if_neg h]
 refine ⟨fun v => by unfold mxT; rw [if_neg (by omega)], ?_, ?_, h0⟩
 ·
  unfold mxA; rw [if_neg h]
 ·
  unfold mxX; rw [if_neg h]
end
end Go.Proofs.Ytfhlddbngjlhbaa

namespace Go.Proofs.Ytfhlddbngjlhbaa
set_option linter.unusedVariables false
set_option linter.unusedSimpArgs false
open Go.ChangeShapes Go.WideShapes Go.ChangeAt Go.RowKit Go.Deep Go.Sort
theorem rn_bl : (Try.prog.info? 4).map (fun i => (i.zero, i.size, i.bytes)) = some (some (.bool false), 1, 1) := by kernel_rfl
theorem rn_bls : (Try.prog.info? 77).map (fun i => (i.zero, i.size, i.bytes)) = some (some (.slice none 0 0), 1, 24) := by kernel_rfl
theorem rn_none {w : World} {v : Int} : OwS (fun _ => False) w [D.int v] [.int .i64 v] := ⟨[], Ows.cons (F := []) (by simp [Ow]) Ows.nil, by simp, by simp⟩
theorem rn_noneb {w : World} {v : Bool} : OwS (fun _ => False) w [D.bool v] [.bool v] := ⟨[], Ows.cons (F := []) (by simp [Ow]) Ows.nil, by simp, by simp⟩
theorem rn_new (u : World) (s T : Nat) (v : Value) (h : u.heap.size = s := by simp) : Blk (u.alloc (.cells #[v] T)) s T [v] := by subst h; exact Blk.new1 u T v
end Go.Proofs.Ytfhlddbngjlhbaa

namespace Go.Proofs.Ytfhlddbngjlhbaa
set_option linter.unusedVariables false
set_option linter.unusedSimpArgs false
open Go.ChangeShapes Go.WideShapes Go.ChangeAt Go.RowKit Go.Deep
theorem Bun.turn_app {B : Nat} {w w' : World} {items : List Item} {own : Nat → Nat} (h : ∀ (i : Nat) (it : Item), items[i]? = some it → it.on (fun b => B ≤ b ∧ b < w.heap.size ∧ own b = i) w) (hz : w.heap.size ≤ w'.heap.size) (hB : B ≤ w.heap.size) (k : Nat)
  {S : Nat → Prop} {t size n : Nat} {ds : List D} {v : Value} (hk : ∀ b, b < w.heap.size → ¬ (B ≤ b ∧ b < w.heap.size ∧ own b = k) → w'.heap[b]? = w.heap[b]?) (f : AppS S w' t size n ds v) (hs : ∀ b, b < w'.heap.size → S b → (B ≤ b ∧ b < w.heap.size ∧ own b = k) ∨ w.heap.size ≤ b) : Bun B w' (items.set k (.app t size n ds v)) := by
 have := bun_turn (w' := w') h hz k items.length (it' := .app t size n ds v) (fun b hb h1 _ => hk b hb (fun q => h1 q.2.2)) (AppS.more f fun b hb hS => by
  rcases hs b hb hS with q | q
  ·
   exact ⟨q.1, hb, Or.inr (Or.inl q.2.2)⟩
  ·
   exact ⟨by omega, hb, Or.inl q⟩)
 rwa [set_none] at this
end Go.Proofs.Ytfhlddbngjlhbaa

namespace Go.Proofs.Ytfhlddbngjlhbaa
set_option linter.unusedVariables false
set_option linter.unusedSimpArgs false
open Go.ChangeShapes Go.WideShapes Go.ChangeAt Go.RowKit Go.Deep
theorem l02Mixed_i {k : Int} {x y : Bool} {w : World} : Calls Try.prog 51 #[.int .i64 k, .bool x, .bool y] w fun f w' => f = .returned (.bool (mixB k x y)) ∧ w' = w := by
 by_cases h1 : k = 1
 ·
  subst h1
  cases x <;> cases y
  all_goals
   go_enter Try.func51, Try.ntmps51
   go_wp2_with fail
   go_ret
   exact ⟨rfl, rfl⟩
 by_cases h2 : k = 2
 ·
  subst h2
  cases x <;> cases y
  all_goals
   go_enter Try.func51, Try.ntmps51
   go_wp2_with fail
   go_ret
   exact ⟨rfl, rfl⟩
 have e : mixB k x y = (x && !y) := by unfold mixB; rw [if_neg h1, if_neg h2]
 rw [e]
 clear e
 cases x <;> cases y
 all_goals
  go_enter Try.func51, Try.ntmps51
  go_wp2_with fail
  go_ret
  exact ⟨rfl, rfl⟩
def MxW (B g : Nat) (t a : Int) (w0 wr : World) (L : List (Int × Int)) (k : Nat) (MA : List (List Bool)) (MX : List (List (List Int))) (v0 v1 vA vX : Value) (more : List Item) : Prop :=
 Bun B wr ([.app 2 1 L.length ((L.map Prod.fst).map D.int) v0, .app 2 1 L.length ((L.map Prod.snd).map D.int) v1, .box g 31 [.int .i64 t, .int .i64 a, vA, vX], .app 77 1 k (MA.map boolsD) vA, .app 76 1 k (MX.map iiD) vX] ++ more) ∧ Below B w0 wr
theorem l02Has_b {t a s : Int} {m b o : Nat} {ac : List (List Bool)} {nx : List (List (List Int))} {sa u : Option Addr} {c d : Nat} {w : World} {v : Bool} (hv : hasN ac s m = v) (h : AutAt w b o t a ac nx sa u c d) (hok : AutOk t a ac nx) (hs : s < ac.length) (hm : (m : Int) < atomsN t) :
  Calls Try.prog 52 #[.pointer (some ⟨b, o, none⟩), .int .i64 s, .int .i64 m] w fun e w' => e = .returned (.bool v) ∧ Below w.heap.size w w' :=
 (l02Has_i h hok hs hm).mono fun e w' ⟨h1, h2⟩ => ⟨by rw [h1, hv], by rw [h2]; exact Below.refl _ _⟩
theorem l02Mixed_b {k : Int} {x y v : Bool} {w : World} (hv : mixB k x y = v) : Calls Try.prog 51 #[.int .i64 k, .bool x, .bool y] w fun f w' => f = .returned (.bool v) ∧ Below w.heap.size w w' :=
 l02Mixed_i.mono fun e w' ⟨h1, h2⟩ => ⟨by rw [h1, hv], by rw [h2]; exact Below.refl _ _⟩
end Go.Proofs.Ytfhlddbngjlhbaa

namespace Go.Proofs.Ytfhlddbngjlhbaa
set_option linter.unusedVariables false
set_option linter.unusedSimpArgs false
def regOf (n : Nat) : Code → Option Code
 | .region k ops d => if k = n then some (.region k ops d) else none
 | .loop c => regOf n c
 | .seq a b => match regOf n a with
  | some c => some c
  | none => regOf n b
 | .block _ c => regOf n c
 | .scope c => regOf n c
 | .cond _ a b => match regOf n a with
  | some c => some c
  | none => regOf n b
 | _ => none
end Go.Proofs.Ytfhlddbngjlhbaa
