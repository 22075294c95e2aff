/-
  Parts of a proof, joined: Ints, Trace, Grow, TidyP, Lang, StP, Mark, Nest, Word, MarkW, App. No condition.
-/
import Derived.Deep.AppendLies
import Derived.Test.YtfhlddbngjlhbaaDoorPk3
namespace Go.Proofs.YtfhlddbngjlhbaaDoor
set_option linter.unusedVariables false
set_option linter.unusedSimpArgs false
open Go.ChangeShapes Go.WideShapes Go.ChangeAt Go.RowKit
theorem info_int64 : (Tryd.prog.info? 2).map (fun i => (i.zero, i.size, i.bytes)) = some (some (.int .i64 0), 1, 8) := by kernel_rfl
theorem szInt64S_any (zs : List Int) (s : Option Addr) (cap : Nat) (left : Int) (w : World) (hr : Rd w (intsD zs) (.slice s zs.length cap)) (h0 : 0 ≤ left) (h1 : left ≤ 1048576) :
  Calls Tryd.prog 48 #[.slice s zs.length cap, .int .i64 left] w fun e w' => (∃ r : Int, e = .returned (.int .i64 r) ∧ r ≤ left ∧ -1 ≤ r ∧ (0 ≤ r → (zs.length : Int) + r ≤ left)) ∧ w = w' := by
 obtain ⟨-, hlen, hcap, -⟩ := hr.sl_at
 unfold maxLen at hcap
 by_cases hneg : left - (zs.length : Int) < 0
 ·
  go_enter Tryd.func48, Tryd.ntmps48
  go_wp2_with fail
  go_ret
  exact ⟨⟨-1, rfl, by omega, by omega, by omega⟩, rfl⟩
 ·
  have hd : decide (left - (zs.length : Int) < 0) = false := by simpa using hneg
  go_enter Tryd.func48, Tryd.ntmps48
  go_wp2_with fail
  go_ret
  exact ⟨⟨_, rfl, by omega, by omega, by omega⟩, rfl⟩
theorem toInt64S_any (zs : List Int) (s : Option Addr) (cap : Nat) (w : World) (hr : Rd w (intsD zs) (.slice s zs.length cap)) (h1 : zs.length ≤ 1048576) :
  Calls Tryd.prog 51 #[.slice s zs.length cap] w fun e w' => ∃ s' c', e = .returned (.slice s' zs.length c') ∧ Fresh w w' (intsD zs) (.slice s' zs.length c') ∧ Below w.heap.size w w' := by
 obtain ⟨-, hlen, hcap, -⟩ := hr.sl_at
 unfold maxLen at hcap
 obtain ⟨i0, hi, hz0, hz1, hz2⟩ := info_parts info_int64
 go_enter Tryd.func51, Tryd.ntmps51
 go_wp2_with (at_make; refine wpList_make_full _ rfl _ _ 58 rfl w.heap.size 2 i0 (.int .i64 0) 1 Tryd.underlying58 hi hz0 hz1 .i64 .i64 _ _ zs.length rfl rfl rfl rfl (by rw [hz2]; omega) (by unfold maxLen; omega) (Nat.le_refl _) ?_; intro w0 hown hgrow)
 have hp := Part.start hown
 have hB0 : Below w.heap.size w w0 := Below.grown (Below.refl _ _) hgrow (Nat.le_refl _) (by simp)
 have hz0' := hp.lt
 clear hown hgrow
 go_loopw [4] (fun i wr => ∃ k : Nat, k ≤ zs.length ∧ i = .int .i64 k ∧ Part wr w.heap.size 2 ((zs.take k).map D.int) (zs.length * 1) ∧ Below w.heap.size w wr) (fun i _ => zs.length - (intOf i).toNat)
 case atStart => exact ⟨0, by omega, rfl, by simpa using hp, hB0⟩
 case round =>
  clear hp hB0 hz0'
  obtain ⟨k, hk, rfl, hp, hB⟩ := hrel
  by_cases hlt : k < zs.length
  ·
   obtain ⟨z, hz⟩ : ∃ z, zs[k]? = some z := ⟨_, List.getElem?_eq_getElem hlt⟩
   obtain ⟨b, o, rfl⟩ := int_some hr (by omega)
   obtain ⟨_, g0⟩ := int_in (hr.below hB) hz
   obtain ⟨y0, d0⟩ := hp.cell k (by omega)
   have z0 := hp.frozen k
   have Hst := Lib.hid (hp.int hz (by omega))
   have hlt2 := hp.lt
   go_wp2_with fail
   go_roundw
   case rel => exact ⟨k + 1, by omega, by go_num, Hst.out, by (repeat' first | exact Below.refl _ _ | assumption | apply Below.alloc | apply Below.drew | apply Below.setCell | omega | (simp; done) | (simp; omega))⟩
   case measure => simp [intOf]; omega
  ·
   obtain rfl : k = zs.length := by omega
   rw [List.take_length] at hp
   go_wp2_with fail
   go_ret
   exact ⟨_, _, rfl, hp.done (Nat.le_refl _) (by simp) (Nat.le_refl _) (by unfold maxLen; omega), hB⟩
theorem eqInt64S_any (xs ys : List Int) (s t : Option Addr) (c d : Nat) (w : World) (hr : Rd w (intsD xs) (.slice s xs.length c)) (hr' : Rd w (intsD ys) (.slice t ys.length d)) :
  Calls Tryd.prog 56 #[.slice s xs.length c, .slice t ys.length d] w fun e w' => e = .returned (.bool (eqb xs ys)) ∧ Below w.heap.size w w' := by
 obtain ⟨-, hlen, hcap, -⟩ := hr.sl_at
 obtain ⟨-, hlen', hcap', -⟩ := hr'.sl_at
 unfold maxLen at hcap hcap'
 by_cases hl : xs.length = ys.length
 ·
  have b1 : ((xs.length : Int) != (ys.length : Int)) = false := by simp [hl]
  have Hl := Lib.hid hl
  clear hl
  go_enter Tryd.func56, Tryd.ntmps56
  go_wp2_with fail
  go_loopw [5] (fun i wr => ∃ k : Nat, k ≤ xs.length ∧ i = .int .i64 k ∧ xs.take k = ys.take k ∧ Below w.heap.size w wr) (fun i _ => xs.length - (intOf i).toNat)
  case atStart => exact ⟨0, by omega, rfl, by simp, Below.refl _ _⟩
  case round =>
   obtain ⟨k, hk, rfl, hpre, hB⟩ := hrel
   have Hpre := Lib.hid hpre
   clear hpre
   by_cases hlt : k < xs.length
   ·
    have hlt' : k < ys.length := by have := Hl.out; omega
    obtain ⟨x, hx⟩ : ∃ e, xs[k]? = some e := ⟨_, List.getElem?_eq_getElem hlt⟩
    obtain ⟨y, hy⟩ : ∃ e, ys[k]? = some e := ⟨_, List.getElem?_eq_getElem hlt'⟩
    obtain ⟨b, o, rfl⟩ := int_some hr (by omega)
    obtain ⟨b', o', rfl⟩ := int_some hr' (by omega)
    obtain ⟨-, g0⟩ := int_in (hr.below hB) hx
    obtain ⟨-, g1⟩ := int_in (hr'.below hB) hy
    have ha := Int.natCast_nonneg k
    have hb : (k : Int) < (xs.length : Int) := by omega
    have hb' : (k : Int) < (ys.length : Int) := by omega
    by_cases hxy : x = y
    ·
     have Hst : Hid (xs.take (k + 1) = ys.take (k + 1)) := by
      have h1 := (List.getElem?_eq_some_iff.1 hx).2
      have h2 := (List.getElem?_eq_some_iff.1 hy).2
      show _ = _
      rw [List.take_succ_eq_append_getElem hlt, List.take_succ_eq_append_getElem hlt', Hpre.out, h1, h2, hxy]
     subst hxy
     have b2 : (x != x) = false := by simp
     go_wp2_with fail
     go_quiet (fail)
     go_wp2_with fail
     go_roundw
     case rel => exact ⟨k + 1, by omega, by go_num, Hst.out, hB.trans (below_draws _ _ _)⟩
     case measure => simp [intOf]; omega
    ·
     have b2 : (x != y) = true := by simp [hxy]
     have c2 : eqb xs ys = false := eqb_false (by
      intro h
      rw [h] at hx
      exact hxy (Option.some.inj (hx.symm.trans hy)))
     go_wp2_with fail
     go_quiet (fail)
     go_wp2_with fail
     go_ret
     exact ⟨by first | rfl | (rw [c2]; rfl), hB.trans (below_draws _ _ _)⟩
   ·
    obtain rfl : k = xs.length := by omega
    have c2 : eqb xs ys = true := eqb_true (by
     have := Hpre.out
     rwa [List.take_length, Hl.out, List.take_length] at this)
    go_wp2_with fail
    go_ret
    exact ⟨by first | rfl | (rw [c2]; rfl), hB⟩
 ·
  have b1 : ((xs.length : Int) != (ys.length : Int)) = true := by simp; omega
  have c2 : eqb xs ys = false := eqb_false (by intro h; rw [h] at hl; exact hl rfl)
  rw [c2]
  go_enter Tryd.func56, Tryd.ntmps56
  go_wp2_with fail
  go_ret
  exact ⟨rfl, Below.refl _ _⟩
end Go.Proofs.YtfhlddbngjlhbaaDoor

namespace Go.Proofs.YtfhlddbngjlhbaaDoor
set_option linter.unusedVariables false
set_option linter.unusedSimpArgs false
open Go.ChangeShapes Go.WideShapes Go.ChangeAt Go.RowKit Go.Sort
def atomsN (t : Int) : Int := if t = 0 then 1 else if t = 1 then 2 else if t = 2 then 4 else 8
theorem atomsN_bd (t : Int) : 1 ≤ atomsN t ∧ atomsN t ≤ 8 := by unfold atomsN; split <;> (try split) <;> (try split) <;> omega
theorem sigB_bd {t a : Int} (h : sigB t a = true) : 0 ≤ t ∧ t ≤ 3 ∧ 0 ≤ a ∧ a ≤ 4 := by
 simp [sigB, inB] at h
 omega
theorem atomsIn_i {t a : Int} {w : World} (h0 : 0 ≤ t) (h1 : t ≤ 3) : Calls Tryd.prog 38 #[.agg #[.int .i64 t, .int .i64 a]] w fun e w' => e = .returned (.int .i64 (atomsN t)) ∧ Below w.heap.size w w' := by
 have h : t = 0 ∨ t = 1 ∨ t = 2 ∨ t = 3 := by omega
 rcases h with h | h | h | h
 all_goals
  subst h
  go_enter Tryd.func38, Tryd.ntmps38
  go_wp2
  go_ret
  exact ⟨rfl, by (repeat' first | exact Below.refl _ _ | assumption | apply Below.alloc | apply Below.drew | apply Below.setCell | omega | (simp; done) | (simp; omega))⟩
theorem l01Atoms_i {t a : Int} {w : World} (h0 : 0 ≤ t) (h1 : t ≤ 3) : Calls Tryd.prog 31 #[.agg #[.int .i64 t, .int .i64 a]] w fun e w' => e = .returned (.int .i64 (atomsN t)) ∧ Below w.heap.size w w' := by
 have h : t = 0 ∨ t = 1 ∨ t = 2 ∨ t = 3 := by omega
 rcases h with h | h | h | h
 all_goals
  subst h
  go_enter Tryd.func31, Tryd.ntmps31
  go_wp2
  go_ret
  exact ⟨rfl, by (repeat' first | exact Below.refl _ _ | assumption | apply Below.alloc | apply Below.drew | apply Below.setCell | omega | (simp; done) | (simp; omega))⟩
theorem wrap_of {n : Int} (h0 : -1000000 ≤ n) (h1 : n ≤ 1000000000000000000) : IntKind.i64.wrap n = n := IntWalk.i64_in n (by omega)
end Go.Proofs.YtfhlddbngjlhbaaDoor

namespace Go.Proofs.YtfhlddbngjlhbaaDoor
set_option linter.unusedVariables false
set_option linter.unusedSimpArgs false
section
variable {α : Type} [DecidableEq α]
def grow1 (L : List α) : Option α → List α
 | none => L
 | some x => if x ∈ L then L else L ++ [x]
def growL (L : List α) (ss : List (Option α)) : List α := ss.foldl grow1 L
def numO (L : List α) : Option α → Int
 | none => -1
 | some x => (L.idxOf x : Int)
def upto (L : List α) (ss : List (Option α)) (m : Nat) : List α := growL L (ss.take m)
def expl (s : α) (succ : α → List (Option α)) : Nat → List α
 | 0 => [s]
 | k + 1 => match (expl s succ k)[k]? with
  | none => expl s succ k
  | some x => growL (expl s succ k) (succ x)
theorem grow1_prefix (L : List α) (o : Option α) : L <+: grow1 L o := by
 cases o with
 | none => exact List.prefix_refl _
 | some x =>
  show L <+: if x ∈ L then L else L ++ [x]
  by_cases h : x ∈ L
  ·
   rw [if_pos h]; exact List.prefix_refl _
  ·
   rw [if_neg h]; exact List.prefix_append _ _
theorem growL_prefix : ∀ (ss : List (Option α)) (L : List α), L <+: growL L ss
 | [], L => List.prefix_refl _
 | o :: r, L => (grow1_prefix L o).trans (growL_prefix r (grow1 L o))
theorem growL_append (L : List α) (a b : List (Option α)) : growL L (a ++ b) = growL (growL L a) b := List.foldl_append
theorem upto_zero (L : List α) (ss : List (Option α)) : upto L ss 0 = L := rfl
theorem upto_succ {L : List α} {ss : List (Option α)} {m : Nat} {o : Option α} (h : ss[m]? = some o) : upto L ss (m + 1) = grow1 (upto L ss m) o := by
 obtain ⟨hm, rfl⟩ := List.getElem?_eq_some_iff.1 h
 unfold upto
 rw [List.take_succ_eq_append_getElem hm, growL_append]
 rfl
theorem upto_all {L : List α} {ss : List (Option α)} {m : Nat} (h : ss.length ≤ m) : upto L ss m = growL L ss := by
 unfold upto
 rw [List.take_of_length_le h]
theorem upto_le {L : List α} {ss : List (Option α)} {m n : Nat} (h : m ≤ n) : upto L ss m <+: upto L ss n := by
 unfold upto
 have : ss.take n = ss.take m ++ (ss.take n).drop m := by
  have h1 := (List.take_append_drop m (ss.take n)).symm
  rwa [List.take_take, Nat.min_eq_left h] at h1
 rw [this, growL_append]
 exact growL_prefix _ _
omit [DecidableEq α] in
theorem prefix_get {L M : List α} (h : L <+: M) {i : Nat} {x : α} (hx : L[i]? = some x) : M[i]? = some x := by
 obtain ⟨r, rfl⟩ := h
 rw [List.getElem?_append_left (List.getElem?_eq_some_iff.1 hx).1]
 exact hx
omit [DecidableEq α] in
theorem prefix_length {L M : List α} (h : L <+: M) : L.length ≤ M.length := by
 obtain ⟨r, rfl⟩ := h
 simp
theorem grow1_old {L : List α} {x : α} (h : x ∈ L) : grow1 L (some x) = L := if_pos h
theorem grow1_new {L : List α} {x : α} (h : x ∉ L) : grow1 L (some x) = L ++ [x] := if_neg h
theorem grow1_nodup {L : List α} (h : L.Nodup) (o : Option α) : (grow1 L o).Nodup := by
 cases o with
 | none => exact h
 | some x =>
  by_cases hx : x ∈ L
  ·
   rw [grow1_old hx]; exact h
  ·
   rw [grow1_new hx, List.nodup_append]
   exact ⟨h, by simp, fun a ha b hb hab => by
    simp only [List.mem_singleton] at hb
    exact hx (by rw [← hb, ← hab]; exact ha)⟩
theorem growL_nodup : ∀ (ss : List (Option α)) {L : List α}, L.Nodup → (growL L ss).Nodup
 | [], _, h => h
 | o :: r, _, h => growL_nodup r (grow1_nodup h o)
theorem expl_nodup (s : α) (succ : α → List (Option α)) : ∀ k, (expl s succ k).Nodup
 | 0 => by simp [expl]
 | k + 1 => by
  simp only [expl]
  split
  ·
   exact expl_nodup s succ k
  ·
   exact growL_nodup _ (expl_nodup s succ k)
theorem expl_succ {s : α} {succ : α → List (Option α)} {k : Nat} {x : α} (h : (expl s succ k)[k]? = some x) : expl s succ (k + 1) = growL (expl s succ k) (succ x) := by
 simp only [expl, h]
theorem expl_stop {s : α} {succ : α → List (Option α)} {k : Nat} (h : (expl s succ k).length ≤ k) : ∀ m, k ≤ m → expl s succ m = expl s succ k := by
 intro m hm
 induction hm with
 | refl => rfl
 | step hkm ih =>
  simp only [expl, ih]
  rw [List.getElem?_eq_none (by have : k ≤ _ := hkm; omega)]
theorem expl_step_prefix (s : α) (succ : α → List (Option α)) (k : Nat) : expl s succ k <+: expl s succ (k + 1) := by
 simp only [expl]
 split
 ·
  exact List.prefix_refl _
 ·
  exact growL_prefix _ _
theorem expl_prefix (s : α) (succ : α → List (Option α)) {k m : Nat} (h : k ≤ m) : expl s succ k <+: expl s succ m := by
 induction h with
 | refl => exact List.prefix_refl _
 | step _ ih => exact ih.trans (expl_step_prefix s succ _)
theorem idxOf_prefix {L M : List α} (h : L <+: M) {x : α} (hx : x ∈ L) : M.idxOf x = L.idxOf x := by
 obtain ⟨r, rfl⟩ := h
 rw [List.idxOf_append, if_pos hx]
theorem idxOf_at {L : List α} (hn : L.Nodup) {i : Nat} {x : α} (h : L[i]? = some x) : L.idxOf x = i := by
 obtain ⟨hi, rfl⟩ := List.getElem?_eq_some_iff.1 h
 exact hn.idxOf_getElem i hi
theorem idxOf_new {L : List α} {x : α} (h : x ∉ L) : (L ++ [x]).idxOf x = L.length := by
 rw [List.idxOf_append, if_neg h]
 simp
end
end Go.Proofs.YtfhlddbngjlhbaaDoor

namespace Go.Proofs.YtfhlddbngjlhbaaDoor
set_option linter.unusedVariables false
set_option linter.unusedSimpArgs false
noncomputable instance exDec : DecidableEq Ex := fun a b => Classical.propDecidable (a = b)
theorem growL_mem {α : Type} [DecidableEq α] : ∀ (ss : List α) (L : List α) (x : α), x ∈ growL L (ss.map some) ↔ x ∈ L ∨ x ∈ ss
 | [], L, x => by simp [growL]
 | s :: r, L, x => by
  show x ∈ growL (grow1 L (some s)) (r.map some) ↔ _
  rw [growL_mem r]
  by_cases h : s ∈ L
  ·
   rw [grow1_old h]
   constructor
   ·
    rintro (q | q); exact Or.inl q; exact Or.inr (List.mem_cons_of_mem _ q)
   ·
    rintro (q | q)
    ·
     exact Or.inl q
    ·
     rcases List.mem_cons.1 q with rfl | q; exact Or.inl h; exact Or.inr q
  ·
   rw [grow1_new h]
   simp [or_assoc]
end Go.Proofs.YtfhlddbngjlhbaaDoor

namespace Go.Proofs.YtfhlddbngjlhbaaDoor
set_option linter.unusedVariables false
set_option linter.unusedSimpArgs false
def hdA : List (Nat × Nat) → Nat → Nat
 | [], m => m
 | p :: _, _ => p.1
end Go.Proofs.YtfhlddbngjlhbaaDoor

namespace Go.Proofs.YtfhlddbngjlhbaaDoor
set_option linter.unusedVariables false
set_option linter.unusedSimpArgs false
def grid {β : Type} (f : Nat → Nat → β) (A a : Nat) : List β := ((List.range A).map fun m => (List.range a).map (f m)).flatten
theorem grid_succ {β : Type} (f : Nat → Nat → β) (A a : Nat) : grid f (A + 1) a = grid f A a ++ (List.range a).map (f A) := by
 unfold grid
 rw [List.range_succ, List.map_append, List.flatten_append]
 simp
theorem grid_len {β : Type} (f : Nat → Nat → β) (a : Nat) : ∀ A, (grid f A a).length = A * a
 | 0 => by simp [grid]
 | A + 1 => by rw [grid_succ, List.length_append, grid_len f a A, Nat.succ_mul]; simp
theorem grid_at {β : Type} (f : Nat → Nat → β) {a m k : Nat} (hk : k < a) : ∀ {A : Nat}, m < A → (grid f A a)[m * a + k]? = some (f m k)
 | 0, h => absurd h (Nat.not_lt_zero _)
 | A + 1, h => by
  rw [grid_succ]
  by_cases hm : m < A
  ·
   rw [List.getElem?_append_left]
   ·
    exact grid_at f hk hm
   ·
    rw [grid_len]
    have h1 : (m + 1) * a ≤ A * a := Nat.mul_le_mul_right a hm
    rw [Nat.succ_mul] at h1
    omega
  ·
   obtain rfl : m = A := by omega
   rw [List.getElem?_append_right (by rw [grid_len]; omega), grid_len, show m * a + k - m * a = k by omega, List.getElem?_map, List.getElem?_range hk]
   rfl
theorem grid_mem {β : Type} {f : Nat → Nat → β} {A a : Nat} {x : β} (h : x ∈ grid f A a) : ∃ m k, m < A ∧ k < a ∧ f m k = x := by
 unfold grid at h
 obtain ⟨r, hr, hx⟩ := List.mem_flatten.1 h
 obtain ⟨m, hm, rfl⟩ := List.mem_map.1 hr
 obtain ⟨k, hk, rfl⟩ := List.mem_map.1 hx
 exact ⟨m, k, List.mem_range.1 hm, List.mem_range.1 hk, rfl⟩
section
variable {α : Type} [DecidableEq α]
def curG (s : α) (f : Nat → Nat → α → Option α) (A a i : Nat) (x : α) (m k : Nat) : List α := upto (expl s (fun y => grid (fun m k => f m k y) A a) i) (grid (fun m k => f m k x) A a) (m * a + k)
variable {s : α} {f : Nat → Nat → α → Option α} {A a i : Nat} {x : α}
theorem curG_zero : curG s f A a i x 0 0 = expl s (fun y => grid (fun m k => f m k y) A a) i := by
 unfold curG
 rw [Nat.zero_mul, upto_zero]
theorem curG_line {m : Nat} : curG s f A a i x m a = curG s f A a i x (m + 1) 0 := by
 unfold curG
 rw [Nat.succ_mul, Nat.add_zero]
theorem curG_cell {m k : Nat} (hm : m < A) (hk : k < a) : curG s f A a i x m (k + 1) = grow1 (curG s f A a i x m k) (f m k x) := by
 unfold curG
 rw [← Nat.add_assoc]
 exact upto_succ (grid_at (fun m k => f m k x) hk hm)
theorem curG_all (h : (expl s (fun y => grid (fun m k => f m k y) A a) i)[i]? = some x) : curG s f A a i x A 0 = expl s (fun y => grid (fun m k => f m k y) A a) (i + 1) := by
 unfold curG
 rw [upto_all (by rw [grid_len]; omega), expl_succ h]
theorem curG_prefix {m k : Nat} (h : (expl s (fun y => grid (fun m k => f m k y) A a) i)[i]? = some x) : curG s f A a i x m k <+: expl s (fun y => grid (fun m k => f m k y) A a) (i + 1) := by
 rw [expl_succ h, ← upto_all (L := expl s (fun y => grid (fun m k => f m k y) A a) i) (ss := grid (fun m k => f m k x) A a) (Nat.le_refl _)]
 unfold curG
 by_cases hl : m * a + k ≤ (grid (fun m k => f m k x) A a).length
 ·
  exact upto_le hl
 ·
  rw [upto_all (by omega), upto_all (Nat.le_refl _)]
  exact List.prefix_refl _
theorem growL_all {P : α → Prop} : ∀ (ss : List (Option α)) (L : List α), (∀ y ∈ L, P y) → (∀ y, some y ∈ ss → P y) → ∀ y ∈ growL L ss, P y
 | [], _, h, _ => h
 | o :: r, L, h, hs => by
  refine growL_all r (grow1 L o) (fun y hy => ?_) (fun y hy => hs y (List.mem_cons_of_mem _ hy))
  cases o with
  | none => exact h y hy
  | some z =>
   by_cases hz : z ∈ L
   ·
    rw [grow1_old hz] at hy; exact h y hy
   ·
    rw [grow1_new hz] at hy
    rcases List.mem_append.1 hy with hy | hy
    ·
     exact h y hy
    ·
     rw [List.mem_singleton] at hy
     subst hy
     exact hs y (List.mem_cons_self ..)
theorem expl_all {P : α → Prop} (hs : P s) (hf : ∀ y, P y → ∀ m k, m < A → k < a → ∀ z, f m k y = some z → P z) : ∀ i, ∀ y ∈ expl s (fun y => grid (fun m k => f m k y) A a) i, P y
 | 0 => fun y hy => by simp [expl] at hy; subst hy; exact hs
 | i + 1 => fun y hy => by
  have ih := expl_all hs hf i
  cases hx : (expl s (fun y => grid (fun m k => f m k y) A a) i)[i]? with
  | none => simp only [expl, hx] at hy; exact ih y hy
  | some x =>
   rw [expl_succ hx] at hy
   refine growL_all _ _ ih (fun z hz => ?_) y hy
   obtain ⟨m, k, hm, hk, h⟩ := grid_mem hz
   exact hf x (ih x (List.mem_of_getElem? hx)) m k hm hk z h
end
end Go.Proofs.YtfhlddbngjlhbaaDoor

namespace Go.Proofs.YtfhlddbngjlhbaaDoor
set_option linter.unusedVariables false
set_option linter.unusedSimpArgs false
open Go.ChangeShapes Go.WideShapes Go.ChangeAt Go.RowKit Go.Deep
mutual
def D.marks : D → Nat
 | .int _ => 1
 | .bool _ => 1
 | .str _ => 0
 | .raw _ => 0
 | .sl _ _ cs => D.marksL cs
def D.marksL : List D → Nat
 | [] => 0
 | c :: cs => D.marks c + D.marksL cs
end
mutual
def D.mark : D → Nat → D
 | .int _, k => .int k
 | .bool _, k => .bool ((k : Int).tmod 3 == 0)
 | .str s, _ => .str s
 | .raw u, _ => .raw u
 | .sl size n cs, k => .sl size n (D.markL cs k)
def D.markL : List D → Nat → List D
 | [], _ => []
 | c :: cs, k => D.mark c k :: D.markL cs (k + D.marks c)
end
theorem markL_append : ∀ (a b : List D) (k : Nat), D.markL (a ++ b) k = D.markL a k ++ D.markL b (k + D.marksL a)
 | [], b, k => by simp [D.markL, D.marksL]
 | c :: a, b, k => by simp only [List.cons_append, D.markL, D.marksL, markL_append a b, Nat.add_assoc]
theorem markL_length : ∀ (a : List D) (k : Nat), (D.markL a k).length = a.length
 | [], _ => by simp [D.markL]
 | c :: a, k => by simp [D.markL, markL_length a]
theorem markL_at {cs : List D} {j : Nat} {c : D} (h : cs[j]? = some c) (k : Nat) : (D.markL cs k)[j]? = some (c.mark (k + D.marksL (cs.take j))) := by
 obtain ⟨hj, rfl⟩ := List.getElem?_eq_some_iff.1 h
 have e : D.markL cs k = D.markL (cs.take j) k ++ D.markL (cs.drop j) (k + D.marksL (cs.take j)) := by rw [← markL_append, List.take_append_drop]
 rw [e, List.getElem?_append_right (by rw [markL_length, List.length_take]; omega), markL_length, List.length_take, Nat.min_eq_left (by omega), Nat.sub_self, List.drop_eq_getElem_cons hj]
 simp [D.markL]
def mkd (cs : List D) (j k : Nat) : List D := D.markL (cs.take j) k ++ cs.drop j
theorem mkd_zero (cs : List D) (k : Nat) : mkd cs 0 k = cs := by simp [mkd, D.markL]
theorem mkd_all (cs : List D) (k : Nat) : mkd cs cs.length k = D.markL cs k := by simp [mkd]
theorem mkd_at {cs : List D} {i j : Nat} {c : D} (h : cs[i]? = some c) (hij : j ≤ i) (k : Nat) : (mkd cs j k)[i]? = some c := by
 obtain ⟨hj, rfl⟩ := List.getElem?_eq_some_iff.1 h
 unfold mkd
 rw [List.getElem?_append_right (by rw [markL_length, List.length_take]; omega), markL_length, List.length_take, Nat.min_eq_left (by omega), List.getElem?_drop]
 rw [show j + (i - j) = i by omega]
 exact h
theorem mkd_step {cs : List D} {j : Nat} {c : D} (h : cs[j]? = some c) (k : Nat) : (mkd cs j k).set j (c.mark (k + D.marksL (cs.take j))) = mkd cs (j + 1) k := by
 obtain ⟨hj, rfl⟩ := List.getElem?_eq_some_iff.1 h
 unfold mkd
 have e1 : (D.markL (cs.take j) k).length = j := by rw [markL_length, List.length_take]; omega
 rw [List.set_append_right _ _ (by omega), e1, Nat.sub_self, List.drop_eq_getElem_cons hj, List.set_cons_zero, List.take_succ_eq_append_getElem hj, markL_append]
 simp [D.markL]
theorem Ows.split {w : World} : ∀ {cs : List D} {xs : List Value} {F : List Nat}, Ows w cs xs F → ∀ {j : Nat} {c : D}, cs[j]? = some c →
  ∃ x A G B, xs[j]? = some x ∧ F = A ++ (G ++ B) ∧ Ow w c x G ∧
   (∀ w' c' x' G', Ow w' c' x' G' → (∀ b ∈ A ++ B, w'.heap[b]? = w.heap[b]?) → Ows w' (cs.set j c') (xs.set j x') (A ++ (G' ++ B)))
 | [], _, _, _, j, c, hj => by simp at hj
 | c0 :: cs, _, _, h, j, c, hj => by
  simp only [Ows] at h
  obtain ⟨x, r, G, K, rfl, rfl, h1, h2⟩ := h
  cases j with
  | zero =>
   simp at hj
   subst hj
   refine ⟨x, [], G, K, by simp, by simp, h1, fun w' c' x' G' h' hk => ?_⟩
   simp only [List.set_cons_zero, Ows, List.nil_append]
   exact ⟨x', r, G', K, rfl, rfl, h', h2.keep fun b hb => hk b (by simpa using hb)⟩
  | succ j =>
   obtain ⟨y, A, G1, B, e1, e2, e3, e4⟩ := Ows.split h2 (j := j) (c := c) (by simpa using hj)
   subst e2
   refine ⟨y, G ++ A, G1, B, by simpa using e1, by simp, e3, fun w' c' x' G' h' hk => ?_⟩
   have := e4 w' c' x' G' h' (fun b hb => hk b (by
    rcases List.mem_append.1 hb with hb | hb
    ·
     exact List.mem_append_left _ (List.mem_append_right _ hb)
    ·
     exact List.mem_append_right _ hb))
   simp only [List.set_cons_succ, Ows]
   exact ⟨x, _, G, A ++ (G' ++ B), rfl, by simp, h1.keep fun b hb => hk b (by simp [hb]), this⟩
theorem Free.blk {w : World} {b : Nat} (h : Free w b) : ∃ t cur, Blk w b t cur := by
 obtain ⟨cur, t, h⟩ := h
 exact ⟨t, cur.toList, by simpa [Blk] using h⟩
theorem Free.set {w : World} {b : Nat} (h : Free w b) (i : Nat) (v : Value) : Free (w.setCell ⟨b, i, none⟩ v) b := by
 obtain ⟨t, cur, h⟩ := h.blk
 exact (h.set i v).free
theorem Row.set {w : World} {b o : Nat} {xs : List Value} (hf : Free w b) (h : Row w b o xs) (j : Nat) (v : Value) : Row (w.setCell ⟨b, o + j, none⟩ v) b o (xs.set j v) := by
 obtain ⟨t, cur, hb⟩ := hf.blk
 have hb' := hb.set (o + j) v
 intro i hi
 have h1 := h i (by simpa using hi)
 rw [hb.cell] at h1
 rw [hb'.cell, List.getElem?_set, List.getElem?_set]
 by_cases hij : j = i
 ·
  subst hij
  have hlen : j < xs.length := by simpa using hi
  have hcur : o + j < cur.length := by
   by_cases hc : o + j < cur.length
   ·
    exact hc
   ·
    rw [List.getElem?_eq_none (by omega), List.getElem?_eq_getElem hlen] at h1
    cases h1
  simp [hlen, hcur]
 ·
  rw [if_neg (by omega), if_neg hij, h1]
theorem Ow.cells {w : World} {size n len cap : Nat} {cs : List D} {a : Option Addr} {F : List Nat} (h : Ow w (.sl size n cs) (.slice a len cap) F) : len = n ∧ n ≤ cap ∧ cap ≤ maxLen ∧ cs.length = n * size := by
 simp only [Ow] at h
 obtain ⟨a', cap', h1, h2, h3, h4, _⟩ := h
 simp only [Value.slice.injEq] at h1
 obtain ⟨rfl, rfl, rfl⟩ := h1
 exact ⟨rfl, h2, h3, h4⟩
theorem Ow.spot {w : World} {size n len cap : Nat} {cs : List D} {a : Option Addr} {F : List Nat} (h : Ow w (.sl size n cs) (.slice a len cap) F) (hn : 0 < n) : ∃ b o, a = some ⟨b, o, none⟩ := by
 simp only [Ow] at h
 obtain ⟨a', cap', h1, h2, h3, h4, h6, h5⟩ := h
 simp only [Value.slice.injEq] at h1
 obtain ⟨rfl, rfl, rfl⟩ := h1
 rcases h5 with h5 | ⟨b, o, xs, G, e1, _⟩
 ·
  omega
 ·
  exact ⟨b, o, e1⟩
theorem Ow.cell {w : World} {size n b o len cap : Nat} {cs : List D} {F : List Nat} (h : Ow w (.sl size n cs) (.slice (some ⟨b, o, none⟩) len cap) F) (hn : F.Nodup) {j : Nat} {c : D} (hj : cs[j]? = some c) :
  ∃ x G, w.cell? ⟨b, o + j, none⟩ = some x ∧ w.frozen? ⟨b, o + j, none⟩ = false ∧ b ∈ F ∧ b < w.heap.size ∧ b ∉ G ∧ (∀ g ∈ G, g ∈ F) ∧ G.Nodup ∧ Ow w c x G ∧
   (∀ w' c', Ow w' c' x G → Only G w w' → Ow w' (.sl size n (cs.set j c')) (.slice (some ⟨b, o, none⟩) len cap) F) ∧
   (G = [] → ∀ c' x', (∀ w', Ow w' c' x' []) → Ow (w.setCell ⟨b, o + j, none⟩ x') (.sl size n (cs.set j c')) (.slice (some ⟨b, o, none⟩) len cap) F) := by
 simp only [Ow] at h
 obtain ⟨a, cap', h1, h2, h3, h4, h6, h5⟩ := h
 simp only [Value.slice.injEq] at h1
 obtain ⟨rfl, rfl, rfl⟩ := h1
 rcases h5 with ⟨h0, _⟩ | ⟨b', o', xs, K, e1, rfl, hf, hrow, hows⟩
 ·
  have := (List.getElem?_eq_some_iff.1 hj).1
  rw [h4, h0] at this
  omega
 simp only [Option.some.injEq, Addr.mk.injEq, and_true] at e1
 obtain ⟨rfl, rfl⟩ := e1
 obtain ⟨x, A, G, B, s1, s2, s3, s4⟩ := hows.split hj
 subst s2
 rw [List.nodup_cons] at hn
 obtain ⟨hnb, hnd⟩ := hn
 have hbl := hf.lt
 have ndG : G.Nodup := by
  rw [List.nodup_append, List.nodup_append] at hnd
  exact hnd.2.1.1
 have dis : ∀ g ∈ A ++ B, g ∉ G := by
  intro g hg hg'
  rw [List.nodup_append, List.nodup_append] at hnd
  rcases List.mem_append.1 hg with hg | hg
  ·
   exact hnd.2.2 g hg g (List.mem_append_left _ hg') rfl
  ·
   exact hnd.2.1.2.2 g hg' g hg rfl
 have hltAB : ∀ g ∈ A ++ B, g < w.heap.size := fun g hg => hows.lt g (by
  rcases List.mem_append.1 hg with hg | hg
  ·
   exact List.mem_append_left _ hg
  ·
   exact List.mem_append_right _ (List.mem_append_right _ hg))
 have hj' : j < xs.length := (List.getElem?_eq_some_iff.1 s1).1
 refine ⟨x, G, (hrow j hj').trans s1, hf.frozen _, List.mem_cons_self .., hbl, fun hm => hnb (List.mem_append_right _ (List.mem_append_left _ hm)), fun g hg => List.mem_cons_of_mem _ (List.mem_append_right _ (List.mem_append_left _ hg)), ndG, s3, ?_, ?_⟩
 ·
  intro w' c' hc' honly
  have hb' : w'.heap[b]? = w.heap[b]? := honly.block b hbl (fun hm => hnb (List.mem_append_right _ (List.mem_append_left _ hm)))
  have hset := s4 w' c' x G hc' (fun g hg => honly.block g (hltAB g hg) (dis g hg))
  rw [show xs.set j x = xs by
   obtain ⟨hl, hx⟩ := List.getElem?_eq_some_iff.1 s1
   rw [← hx]; exact List.set_getElem_self hl] at hset
  obtain ⟨cur, t, hcur⟩ := hf
  simp only [Ow]
  exact ⟨_, cap, rfl, h2, h3, by rw [List.length_set]; exact h4, h6, Or.inr ⟨b, o, xs, A ++ (G ++ B), rfl, rfl, ⟨cur, t, hb'.trans hcur⟩, hrow.congr hb', hset⟩⟩
 ·
  intro hG c' x' hc'
  subst hG
  have hset := s4 (w.setCell ⟨b, o + j, none⟩ x') c' x' [] (hc' _) (fun g hg => Below.heap_setCell _ _ _ _ (fun e => hnb (by
   have e' : g = b := e
   rw [← e']
   rcases List.mem_append.1 hg with hg | hg
   ·
    exact List.mem_append_left _ hg
   ·
    exact List.mem_append_right _ (List.mem_append_right _ hg))))
  simp only [Ow]
  exact ⟨_, cap, rfl, h2, h3, by rw [List.length_set]; exact h4, h6, Or.inr ⟨b, o, _, _, rfl, rfl, hf.set _ _, hrow.set hf j x', hset⟩⟩
theorem Ow.int_cell {w : World} {size n b o len cap : Nat} {cs : List D} {F : List Nat} (h : Ow w (.sl size n cs) (.slice (some ⟨b, o, none⟩) len cap) F) (hn : F.Nodup) {j : Nat} {z : Int} (hj : cs[j]? = some (.int z)) :
  w.cell? ⟨b, o + j, none⟩ = some (.int .i64 z) ∧ w.frozen? ⟨b, o + j, none⟩ = false ∧ b < w.heap.size ∧
   (∀ z' : Int, Ow (w.setCell ⟨b, o + j, none⟩ (.int .i64 z')) (.sl size n (cs.set j (.int z'))) (.slice (some ⟨b, o, none⟩) len cap) F ∧ Only F w (w.setCell ⟨b, o + j, none⟩ (.int .i64 z'))) := by
 obtain ⟨x, G, h1, h2, h3, h4, h5, h6, h7, h8, h9, h10⟩ := h.cell hn hj
 simp only [Ow] at h8
 obtain ⟨rfl, rfl⟩ := h8
 exact ⟨h1, h2, h4, fun z' => ⟨h10 rfl _ _ (fun _ => Ow.int _), (Only.refl F w).setCell h3 _⟩⟩
theorem Ow.bool_cell {w : World} {size n b o len cap : Nat} {cs : List D} {F : List Nat} (h : Ow w (.sl size n cs) (.slice (some ⟨b, o, none⟩) len cap) F) (hn : F.Nodup) {j : Nat} {z : Bool} (hj : cs[j]? = some (.bool z)) :
  w.cell? ⟨b, o + j, none⟩ = some (.bool z) ∧ w.frozen? ⟨b, o + j, none⟩ = false ∧ b < w.heap.size ∧
   (∀ z' : Bool, Ow (w.setCell ⟨b, o + j, none⟩ (.bool z')) (.sl size n (cs.set j (.bool z'))) (.slice (some ⟨b, o, none⟩) len cap) F ∧ Only F w (w.setCell ⟨b, o + j, none⟩ (.bool z'))) := by
 obtain ⟨x, G, h1, h2, h3, h4, h5, h6, h7, h8, h9, h10⟩ := h.cell hn hj
 simp only [Ow] at h8
 obtain ⟨rfl, rfl⟩ := h8
 exact ⟨h1, h2, h4, fun z' => ⟨h10 rfl _ _ (fun _ => Ow.bool _), (Only.refl F w).setCell h3 _⟩⟩
theorem Ow.sl_cell {w : World} {size n b o len cap : Nat} {cs : List D} {F : List Nat} (h : Ow w (.sl size n cs) (.slice (some ⟨b, o, none⟩) len cap) F) (hn : F.Nodup) {j size' n' : Nat} {ds : List D} (hj : cs[j]? = some (.sl size' n' ds)) :
  ∃ a c G, w.cell? ⟨b, o + j, none⟩ = some (.slice a n' c) ∧ w.frozen? ⟨b, o + j, none⟩ = false ∧ b < w.heap.size ∧ b ∉ G ∧ (∀ g ∈ G, g ∈ F) ∧ G.Nodup ∧ Ow w (.sl size' n' ds) (.slice a n' c) G ∧
   (∀ w' ds', Ow w' (.sl size' n' ds') (.slice a n' c) G → Only G w w' → Ow w' (.sl size n (cs.set j (.sl size' n' ds'))) (.slice (some ⟨b, o, none⟩) len cap) F ∧ Only F w w') := by
 obtain ⟨x, G, h1, h2, h3, h4, h5, h6, h7, h8, h9, h10⟩ := h.cell hn hj
 have h8' := h8
 simp only [Ow] at h8'
 obtain ⟨a, c, rfl, _⟩ := h8'
 exact ⟨a, c, G, h1, h2, h4, h5, h6, h7, h8, fun w' ds' k1 k2 => ⟨h9 w' _ k1 k2, k2.more h6⟩⟩
theorem marksL_ints : ∀ zs : List Int, D.marksL (zs.map D.int) = zs.length
 | [] => rfl
 | z :: r => by simp only [List.map_cons, D.marksL, D.marks, marksL_ints r, List.length_cons]; omega
theorem ints_at {zs : List Int} {i : Nat} {z : Int} (h : zs[i]? = some z) : (zs.map D.int)[i]? = some (D.int z) := by rw [List.getElem?_map, h]; rfl
theorem ints_take (zs : List Int) (i : Nat) (h : i ≤ zs.length) : D.marksL ((zs.map D.int).take i) = i := by rw [← List.map_take, marksL_ints, List.length_take]; omega
end Go.Proofs.YtfhlddbngjlhbaaDoor

namespace Go.Proofs.YtfhlddbngjlhbaaDoor
set_option linter.unusedVariables false
set_option linter.unusedSimpArgs false
open Go.ChangeShapes Go.WideShapes Go.ChangeAt Go.RowKit Go.Deep
def nestD {α : Type} (f : α → D) (xs : List α) : D := .sl 1 xs.length (xs.map f)
def boolsD (bs : List Bool) : D := nestD D.bool bs
def bbD (xs : List (List Bool)) : D := nestD boolsD xs
def iiD (xs : List (List Int)) : D := nestD intsD xs
def iiiD (xs : List (List (List Int))) : D := nestD iiD xs
def accL {α : Type} (c : α → Nat) : List α → Nat
 | [] => 0
 | x :: r => c x + accL c r
section
variable {α : Type}
theorem accL_append (c : α → Nat) : ∀ a b : List α, accL c (a ++ b) = accL c a + accL c b
 | [], b => by simp [accL]
 | x :: a, b => by simp only [List.cons_append, accL, accL_append c a b]; omega
theorem accL_take_succ {c : α → Nat} {xs : List α} {i : Nat} {x : α} (h : xs[i]? = some x) : accL c (xs.take (i + 1)) = accL c (xs.take i) + c x := by
 obtain ⟨hi, rfl⟩ := List.getElem?_eq_some_iff.1 h
 rw [List.take_succ_eq_append_getElem hi, accL_append]
 simp [accL]
theorem accL_take_le (c : α → Nat) (xs : List α) (i : Nat) : accL c (xs.take i) ≤ accL c xs := by
 have := accL_append c (xs.take i) (xs.drop i)
 rw [List.take_append_drop] at this
 omega
theorem accL_mem {c : α → Nat} {xs : List α} {i : Nat} {x : α} (h : xs[i]? = some x) : c x ≤ accL c xs := by
 have h1 := accL_take_succ (c := c) h
 have h2 := accL_take_le c xs (i + 1)
 omega
variable {w : World} {f : α → D} {xs : List α}
theorem nest_in {b o len cap : Nat} (h : Rd w (nestD f xs) (.slice (some ⟨b, o, none⟩) len cap)) {i : Nat} {x : α} (hx : xs[i]? = some x) : b < w.heap.size ∧ ∃ v, w.cell? ⟨b, o + i, none⟩ = some v ∧ Rd w (f x) v := by
 obtain ⟨_, _, _, _, _, h4⟩ := Rd.sl_at h
 rcases h4 with h4 | ⟨b', o', e1, h4⟩
 ·
  have := (List.getElem?_eq_some_iff.1 hx).1
  omega
 ·
  simp only [Option.some.injEq, Addr.mk.injEq, and_true] at e1
  obtain ⟨rfl, rfl⟩ := e1
  obtain ⟨v, h5, h6⟩ := h4 i (f x) (by rw [List.getElem?_map, hx]; rfl)
  exact ⟨World.block_lt_of_cell? w _ h5, v, h5, h6⟩
theorem nest_some {a : Option Addr} {len cap : Nat} (h : Rd w (nestD f xs) (.slice a len cap)) (hk : 0 < xs.length) : ∃ b o, a = some ⟨b, o, none⟩ := by
 obtain ⟨_, _, _, _, _, h4⟩ := Rd.sl_at h
 rcases h4 with h4 | ⟨b, o, e, _⟩
 ·
  omega
 ·
  exact ⟨b, o, e⟩
theorem nest_bd {a : Option Addr} {len cap : Nat} (h : Rd w (nestD f xs) (.slice a len cap)) : xs.length ≤ cap ∧ cap ≤ maxLen := by
 obtain ⟨_, h2, h3, _⟩ := Rd.sl_at h
 exact ⟨h2, h3⟩
theorem nest_sl {β : Type} {g : β → D} {ys : List (List β)} {b o len cap : Nat} (h : Rd w (nestD (nestD g) ys) (.slice (some ⟨b, o, none⟩) len cap)) {i : Nat} {x : List β} (hx : ys[i]? = some x) :
  b < w.heap.size ∧ ∃ s c, w.cell? ⟨b, o + i, none⟩ = some (.slice s x.length c) ∧ Rd w (nestD g x) (.slice s x.length c) := by
 obtain ⟨h1, v, h2, h3⟩ := nest_in h hx
 obtain ⟨s, c, rfl, _⟩ := Rd.slice h3
 exact ⟨h1, s, c, h2, h3⟩
theorem marksL_map : ∀ xs : List α, D.marksL (xs.map f) = accL (fun x => (f x).marks) xs
 | [] => rfl
 | x :: r => by simp only [List.map_cons, D.marksL, accL, marksL_map r]
theorem map_at {i : Nat} {x : α} (h : xs[i]? = some x) : (xs.map f)[i]? = some (f x) := by rw [List.getElem?_map, h]; rfl
theorem map_take_marks (i : Nat) : D.marksL ((xs.map f).take i) = accL (fun x => (f x).marks) (xs.take i) := by rw [← List.map_take, marksL_map]
theorem Part.nest {w' : World} {g t len k : Nat} {x : α} {v : Value} (h : Part w g t ((xs.take k).map f) len) (hx : xs[k]? = some x) (hf : Fresh w w' (f x) v) (hb : Below w.heap.size w w') (hk : k + 1 ≤ len) :
  Part (w'.setCell ⟨g, k, none⟩ v) g t ((xs.take (k + 1)).map f) len := by
 obtain ⟨hlt, rfl⟩ := List.getElem?_eq_some_iff.1 hx
 obtain ⟨F, h1, h2, h3⟩ := hf
 rw [List.take_succ_eq_append_getElem hlt, List.map_append]
 exact h.one hb h1 h2 h3 (by simp; omega) hk
theorem Part.bool {bs : List Bool} {g t len k : Nat} {z : Bool} (h : Part w g t ((bs.take k).map D.bool) len) (hz : bs[k]? = some z) (hk : k + 1 ≤ len) :
  Part (w.setCell ⟨g, k, none⟩ (.bool z)) g t ((bs.take (k + 1)).map D.bool) len := by
 obtain ⟨hlt, rfl⟩ := List.getElem?_eq_some_iff.1 hz
 rw [List.take_succ_eq_append_getElem hlt, List.map_append]
 exact h.one (Below.refl _ _) (Ow.bool _) (by simp) (by simp) (by simp; omega) hk
theorem bool_in {bs : List Bool} {b o len cap : Nat} (h : Rd w (boolsD bs) (.slice (some ⟨b, o, none⟩) len cap)) {i : Nat} {z : Bool} (hz : bs[i]? = some z) : b < w.heap.size ∧ w.cell? ⟨b, o + i, none⟩ = some (.bool z) := by
 obtain ⟨h1, v, h2, h3⟩ := nest_in h hz
 simp only [Rd] at h3
 subst h3
 exact ⟨h1, h2⟩
end
theorem bools_marks : ∀ zs : List Bool, (boolsD zs).marks = zs.length := by
 intro zs
 show D.marksL (zs.map D.bool) = zs.length
 induction zs with
 | nil => rfl
 | cons z r ih => simp only [List.map_cons, D.marksL, D.marks, ih, List.length_cons]; omega
theorem bools_take (zs : List Bool) (i : Nat) (h : i ≤ zs.length) : D.marksL ((zs.map D.bool).take i) = i := by
 rw [← List.map_take]
 have := bools_marks (zs.take i)
 rw [List.length_take, Nat.min_eq_left h] at this
 exact this
theorem mark_bool {z : Bool} {q : Nat} : D.mark (.bool z) q = .bool ((q : Int) % 3 == 0) := by
 simp only [D.mark]
 congr 2
theorem take_same {α : Type} {xs ys : List α} {k : Nat} {x : α} (hx : xs[k]? = some x) (hy : ys[k]? = some x) (h : xs.take k = ys.take k) : xs.take (k + 1) = ys.take (k + 1) := by
 obtain ⟨h1, e1⟩ := List.getElem?_eq_some_iff.1 hx
 obtain ⟨h2, e2⟩ := List.getElem?_eq_some_iff.1 hy
 rw [List.take_succ_eq_append_getElem h1, List.take_succ_eq_append_getElem h2, h, e1, e2]
end Go.Proofs.YtfhlddbngjlhbaaDoor

namespace Go.Proofs.YtfhlddbngjlhbaaDoor
set_option linter.unusedVariables false
set_option linter.unusedSimpArgs false
open Go.ChangeShapes Go.WideShapes Go.ChangeAt Go.RowKit
def SzR (n : Nat) (left : Int) (e : Ending) : Prop := ∃ r : Int, e = .returned (.int .i64 r) ∧ r ≤ left ∧ -1 ≤ r ∧ (0 ≤ r → (n : Int) + r ≤ left)
end Go.Proofs.YtfhlddbngjlhbaaDoor

namespace Go.Proofs.YtfhlddbngjlhbaaDoor
set_option linter.unusedVariables false
set_option linter.unusedSimpArgs false
open Go.ChangeShapes Go.WideShapes Go.ChangeAt Go.RowKit Go.Sort
theorem markInt64S_i {zs : List Int} {s : Option Addr} {c k : Nat} {F : List Nat} {w : World} (h : Ow w (intsD zs) (.slice s zs.length c) F) (hn : F.Nodup) (hk : k ≤ 1000000000000) (hlen : zs.length ≤ 1000000000000) :
  Calls Tryd.prog 57 #[.slice s zs.length c, .int .i64 k] w fun e w' => e = .returned (.int .i64 (k + zs.length : Nat)) ∧ Ow w' (D.mark (intsD zs) k) (.slice s zs.length c) F ∧ Only F w w' := by
 have H0 : Ow w (.sl 1 zs.length (mkd (zs.map D.int) 0 k)) (.slice s zs.length c) F := by rw [mkd_zero]; exact h
 go_enter Tryd.func57, Tryd.ntmps57
 go_wp2_with fail
 go_loopw [1, 5] (fun q i wr => ∃ j : Nat, j ≤ zs.length ∧ i = .int .i64 j ∧ q = .int .i64 (k + j : Nat) ∧ Ow wr (.sl 1 zs.length (mkd (zs.map D.int) j k)) (.slice s zs.length c) F ∧ Only F w wr) (fun _ i _ => zs.length - (intOf i).toNat)
 case atStart => exact ⟨0, by omega, rfl, rfl, H0, Only.refl _ _⟩
 case round =>
  clear h H0
  obtain ⟨j, hj, rfl, rfl, h, hO⟩ := hrel
  by_cases hlt : j < zs.length
  ·
   obtain ⟨z, hz⟩ : ∃ e, zs[j]? = some e := ⟨_, List.getElem?_eq_getElem hlt⟩
   obtain ⟨b, o, rfl⟩ := h.spot (by omega)
   have hat := mkd_at (ints_at hz) (Nat.le_refl j) k
   obtain ⟨g0, g1, g2, g3⟩ := h.int_cell hn hat
   have Hst : Hid (Ow (wr.setCell ⟨b, o + j, none⟩ (.int .i64 (k + j : Nat))) (.sl 1 zs.length (mkd (zs.map D.int) (j + 1) k)) (.slice (some ⟨b, o, none⟩) zs.length c) F ∧ Only F w (wr.setCell ⟨b, o + j, none⟩ (.int .i64 (k + j : Nat)))) := by
    obtain ⟨q1, q2⟩ := g3 (k + j : Nat)
    refine ⟨?_, hO.trans q2⟩
    have e := mkd_step (ints_at hz) k
    rw [ints_take _ _ hj] at e
    rw [← e]
    exact q1
   clear g3 hat
   go_wp2_with fail
   go_roundw
   case rel => exact ⟨j + 1, by omega, by go_num, by go_num, Hst.out.1, Hst.out.2⟩
   case measure => simp [intOf]; omega
  ·
   obtain rfl : j = zs.length := by omega
   have e := mkd_all (zs.map D.int) k
   rw [List.length_map] at e
   rw [e] at h
   go_wp2_with fail
   go_ret
   exact ⟨rfl, h, hO⟩
theorem heldInt64S_i {zs : List Int} {s : Option Addr} {c k : Nat} {w : World} (h : Rd w (D.mark (intsD zs) k) (.slice s zs.length c)) (hk : k ≤ 1000000000000) (hlen : zs.length ≤ 1000000000000) :
  Calls Tryd.prog 58 #[.slice s zs.length c, .int .i64 k] w fun e w' => e = .returned (.int .i64 (k + zs.length : Nat)) ∧ w = w' := by
 have h' := h
 unfold intsD D.mark at h'
 obtain ⟨-, -, -, -, -, h4⟩ := h'.sl_at
 go_enter Tryd.func58, Tryd.ntmps58
 go_wp2_with fail
 go_loop [1, 5] (fun q i => ∃ j : Nat, j ≤ zs.length ∧ i = .int .i64 j ∧ q = .int .i64 (k + j : Nat)) (fun _ i => zs.length - (intOf i).toNat)
 case atStart => exact ⟨0, by omega, rfl, rfl⟩
 case round =>
  obtain ⟨j, hj, rfl, rfl⟩ := hrel
  by_cases hlt : j < zs.length
  ·
   obtain ⟨z, hz⟩ : ∃ e, zs[j]? = some e := ⟨_, List.getElem?_eq_getElem hlt⟩
   have hat := markL_at (ints_at hz) k
   rw [ints_take _ _ hj] at hat
   rcases h4 with h4 | ⟨b, o, rfl, h4⟩
   ·
    omega
   obtain ⟨x, hx, hr⟩ := h4 _ _ hat
   simp only [D.mark, Rd] at hr
   subst hr
   clear h4 hat
   go_wp2_with fail
   go_round
   case rel => exact ⟨j + 1, by omega, by go_num, by go_num⟩
   case measure => simp [intOf]; omega
  ·
   obtain rfl : j = zs.length := by omega
   go_wp2_with fail
   go_ret
   exact ⟨rfl, rfl⟩
theorem Ows.two {w : World} {d e : D} {u v : Value} {F : List Nat} (h : Ows w [d, e] [u, v] F) : ∃ G K, F = G ++ K ∧ Ow w d u G ∧ Ow w e v K := by
 simp only [Ows] at h
 obtain ⟨x, r, G, K, e1, rfl, h1, y, q, A, B, e2, rfl, h2, e3, rfl⟩ := h
 simp only [List.cons.injEq] at e1
 obtain ⟨rfl, rfl⟩ := e1
 simp only [List.cons.injEq] at e2
 obtain ⟨rfl, _⟩ := e2
 exact ⟨G, A, by simp, h1, h2⟩
theorem Ows.mk2 {w : World} {d e : D} {u v : Value} {G K : List Nat} (h : Ow w d u G) (k : Ow w e v K) : Ows w [d, e] [u, v] (G ++ K) := by
 have := Ows.cons h (Ows.cons k Ows.nil)
 simpa using this
end Go.Proofs.YtfhlddbngjlhbaaDoor

namespace Go.Proofs.YtfhlddbngjlhbaaDoor
set_option linter.unusedVariables false
set_option linter.unusedSimpArgs false
open Go.ChangeShapes Go.WideShapes Go.ChangeAt Go.RowKit Go.Deep
def App (W w : World) (t : TypeId) (size n : Nat) (ds : List D) (v : Value) : Prop :=
 ∃ xs F, w.ownsRow W.heap.size t size v n xs ∧ Ows w ds xs F ∧ F.Nodup ∧ ∀ b ∈ F, W.heap.size ≤ b ∧ v.ownBlock ≠ some b
theorem App.empty {W w : World} {t size g : Nat} (h : Blk w g t []) (hg : W.heap.size ≤ g) : App W w t size 0 [] (.slice (some ⟨g, 0, none⟩) 0 0) :=
 ⟨[], [], ⟨by simp, Or.inr ⟨g, 0, #[], rfl, hg, by simpa [Blk] using h, by omega, by simp [maxLen], by simp, by simp⟩⟩, Ows.nil, by simp, by simp⟩
theorem App.len {W w : World} {t size n : Nat} {ds : List D} {v : Value} (h : App W w t size n ds v) : ds.length = n * size := by
 obtain ⟨xs, F, h1, h2, _⟩ := h
 rw [← h2.length, h1.1]
theorem App.shape {W w : World} {t size n : Nat} {ds : List D} {v : Value} (h : App W w t size n ds v) : ∃ a cap, v = .slice a n cap ∧ n ≤ cap ∧ cap ≤ maxLen := by
 obtain ⟨xs, F, ⟨_, h1⟩, _⟩ := h
 rcases h1 with ⟨rfl, rfl⟩ | ⟨g, cap, cur, rfl, _, _, h2, h3, _⟩
 ·
  exact ⟨none, 0, rfl, by omega, by simp [maxLen]⟩
 ·
  exact ⟨_, cap, rfl, h2, h3⟩
theorem App.lt {W w : World} {t size n : Nat} {ds : List D} {v : Value} (h : App W w t size n ds v) : ∀ k, v.ownBlock = some k → W.heap.size ≤ k ∧ k < w.heap.size := by
 obtain ⟨xs, F, h1, _⟩ := h
 exact h1.lt
theorem App.keep {W w w' : World} {t size n : Nat} {ds : List D} {v : Value} (h : App W w t size n ds v) (hk : ∀ b, b < w.heap.size → W.heap.size ≤ b → w'.heap[b]? = w.heap[b]?) : App W w' t size n ds v := by
 obtain ⟨xs, F, h1, h2, h3, h4⟩ := h
 refine ⟨xs, F, ⟨h1.1, ?_⟩, h2.keep fun b hb => hk b (h2.lt b hb) (h4 b hb).1, h3, h4⟩
 rcases h1.2 with h | ⟨g, cap, cur, e, hg, hb, hr⟩
 ·
  exact Or.inl h
 ·
  exact Or.inr ⟨g, cap, cur, e, hg, (hk g (Array.getElem?_eq_some_iff.1 hb).1 hg).trans hb, hr⟩
theorem App.below {W w w' : World} {t size n : Nat} {ds : List D} {v : Value} (h : App W w t size n ds v) (hb : Below w.heap.size w w') : App W w' t size n ds v := h.keep fun b hl _ => hb.block b hl
theorem App.fresh {W w : World} {t size n : Nat} {ds : List D} {v : Value} (h : App W w t size n ds v) : Fresh W w (.sl size n ds) v := by
 have hlen := h.len
 obtain ⟨xs, F, h1, h2, h3, h4⟩ := h
 have hxl := h1.1
 rcases h1.2 with ⟨rfl, rfl⟩ | ⟨g, cap, cur, rfl, hg, hb, h5, h6, h7, h8⟩
 ·
  exact ⟨[], by simp only [Ow]; exact ⟨_, 0, rfl, by omega, by simp [maxLen], hlen, by simp, Or.inl (by simp)⟩, by simp, by simp⟩
 ·
  by_cases h0 : n = 0
  ·
   exact ⟨[], by simp only [Ow]; exact ⟨_, cap, rfl, h5, h6, hlen, by simp, Or.inl (by simp [h0])⟩, by simp, by simp⟩
  ·
   have hblk : Blk w g t cur.toList := by simpa [Blk] using hb
   refine ⟨g :: F, by simp only [Ow]; exact ⟨_, cap, rfl, h5, h6, hlen, by simp, Or.inr ⟨g, 0, xs, F, rfl, rfl, hblk.free, hblk.row (by rw [hxl]; exact h8), h2⟩⟩, ?_, ?_⟩
   ·
    rw [List.nodup_cons]
    exact ⟨fun hm => (h4 g hm).2 rfl, h3⟩
   ·
    intro b hm
    rcases List.mem_cons.1 hm with rfl | hm
    ·
     exact hg
    ·
     exact (h4 b hm).1
theorem App.rd {W w : World} {t size n : Nat} {ds : List D} {v : Value} (h : App W w t size n ds v) : Rd w (.sl size n ds) v := h.fresh.rd
theorem wpList_append_app {P : Program} (w : World) {ops : Array Oper} {rest : List Oper} {o : Oper} {a : Act} {Q : Exit → Act → World → Prop} (hgd : o.guard = none) (s x : Operand) (t : TypeId)
  (ho : o.op = .call { callee := .builtin .append, args := #[s, x], argTypes := #[t, t] })
  (e : TypeId) (z : Value) (size bytes : Nat) (ht : P.underlying t = some (.slice e)) (hinfo : (P.info? e).map (fun i => (i.zero, i.size, i.bytes)) = some (some z, size, bytes)) (hzs : z.cells.size = size) (hsz : 0 < size)
  {W w1 : World} (v : Value) {n : Nat} {ds : List D} (hs : a.eval s = v) (happ : App W w1 e size n ds v) (hb : Below w1.heap.size w1 w) (hB : W.heap.size ≤ w1.heap.size)
  (ad : Addr) (m c : Nat) {es : List D} (news : List Value) (hx : a.eval x = .slice (some ad) m c) (hnews : ∀ j u, news[j]? = some u → w.cell? (ad.add j) = some u) (hes : Freshs w1 w es news)
  (hl : news.length = m * size) (h1 : ∀ u ∈ news, u.oneCell' = true) (hm : 0 < m) (hbytes : (n + m) * bytes ≤ 140737488355328) (h63 : n + m ≤ maxLen)
  (h : ∀ g cap w', App W w' e size (n + m) (ds ++ es) (.slice (some ⟨g, 0, none⟩) (n + m) cap) → Below W.heap.size w w' → wpList P ops Q rest (a.put o.dst (.slice (some ⟨g, 0, none⟩) (n + m) cap)) w') : wpList P ops Q (o :: rest) a w := by
 obtain ⟨i, hi, hz, hsize, hby⟩ := info_parts hinfo
 have hz1 := hb.size
 obtain ⟨xs, F, a1, a2, a3, a4⟩ := happ.below hb
 have a5 := happ.lt
 obtain ⟨G, g1, g2, g3⟩ := hes
 obtain ⟨xs', F', b1, b2, b3, b4⟩ := happ
 -- the same cells and blocks as in w1
 have a6 : ∀ b ∈ F', b < w1.heap.size := b2.lt
 have b1' : w.ownsRow W.heap.size e size v n xs' := by
  refine ⟨b1.1, ?_⟩
  rcases b1.2 with h | ⟨g, cap, cur, q, hg, hbb, hr⟩
  ·
   exact Or.inl h
  ·
   exact Or.inr ⟨g, cap, cur, q, hg, (hb.block g (Array.getElem?_eq_some_iff.1 hbb).1).trans hbb, hr⟩
 have b2' : Ows w ds xs' F' := b2.keep fun b hb' => hb.block b (a6 b hb')
 refine wpList_append_lies w hgd s x t ho W.heap.size e i z size bytes ht hi hz hsize hby hzs hsz v n xs' hs b1' ad m c news hx hl hnews h1 hm h63 hbytes (by omega) w.heap.size rfl ?_
 intro g cap w' k1 k2 k3 k4
 have hF : ∀ b ∈ F', some b ≠ v.ownBlock := fun b hb' e => (b4 b hb').2 e.symm
 have hG : ∀ b ∈ G, some b ≠ v.ownBlock := fun b hb' e => by have := (a5 b e.symm).2; have := g3 b hb'; omega
 refine h g cap w' ⟨xs' ++ news, F' ++ G, k1, Ows.append (b2'.keep fun b hb' => k2.block b (b2'.lt b hb') (hF b hb')) (g1.keep fun b hb' => k2.block b (g1.lt b hb') (hG b hb')), ?_, ?_⟩ ⟨k2.os, k2.tape, k2.output, k2.size, fun b hb' => k2.block b (by omega) (fun e => by have := (a5 b e.symm).1; omega)⟩
 ·
  rw [List.nodup_append]
  refine ⟨b3, g2, fun p hp q hq hpq => ?_⟩
  subst hpq
  have := a6 p hp
  have := g3 p hq
  omega
 ·
  intro b hm'
  have hgb : ∀ b, some b ≠ v.ownBlock → b < w.heap.size → Value.ownBlock (.slice (some ⟨g, 0, none⟩) (n + m) cap) ≠ some b := by
   intro b hne hlt e
   simp only [Value.ownBlock, Option.some.injEq] at e
   subst e
   rcases k3 with k3 | k3
   ·
    exact hne k3.symm
   ·
    omega
  rcases List.mem_append.1 hm' with hm' | hm'
  ·
   exact ⟨(b4 b hm').1, hgb b (hF b hm') (b2'.lt b hm')⟩
  ·
   exact ⟨by have := g3 b hm'; omega, hgb b (hG b hm') (g1.lt b hm')⟩
theorem Freshs.int {w w' : World} (z : Int) : Freshs w w' [.int z] [.int .i64 z] := ⟨[], Ows.cons (Ow.int z) Ows.nil, by simp, by simp⟩
theorem equalIn_nil {P : Program} (w : World) (d : Nat) (t e : TypeId) (a : Option Addr) (l c : Nat) (h : P.underlying t = some (.slice e)) : (Op.equalIn (d + 1) t (.slice a l c) (.slice none 0 0)).run P w = .ok a.isNone w := by
 cases a <;> simp [Op.equalIn, run_underlying h]
theorem equal_nil {P : Program} (w : World) (t e : TypeId) (a : Option Addr) (l c : Nat) (h : P.underlying t = some (.slice e)) : (Op.equal t (.slice a l c) (.slice none 0 0)).run P w = .ok a.isNone w := equalIn_nil w 9999 t e a l c h
theorem eql_nil {P : Program} (t e : TypeId) (a : Option Addr) (l c : Nat) (h : P.underlying t = some (.slice e)) (w : World) : (binOp .eql t (.slice a l c) (.slice none 0 0)).run P w = .ok (.bool a.isNone) w := by
 simp [binOp, equal_nil w t e a l c h]
end Go.Proofs.YtfhlddbngjlhbaaDoor
