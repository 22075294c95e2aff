/-
  Lists that grow while they are gone through: what is found from a beginning by steps. No program in sight.
-/
import Derived.Test.YtlnojmmjpgpjdaaDoorBase
namespace Go.Proofs.YtlnojmmjpgpjdaaDoor

section
variable {α : Type} [DecidableEq α]
/-- A thing behind a list, once. -/
def grow1 (L : List α) : Option α → List α
  | none => L
  | some x => if x ∈ L then L else L ++ [x]
def growL (L : List α) (ss : List (Option α)) : List α := ss.foldl grow1 L
/-- The number of a thing, -1 for none. -/
def numO (L : List α) : Option α → Int
  | none => -1
  | some x => (L.idxOf x : Int)
/-- The list behind so many steps of a row. -/
def upto (L : List α) (ss : List (Option α)) (m : Nat) : List α := growL L (ss.take m)
/-- The number that step m of a row gives. -/
def ent (L : List α) (ss : List (Option α)) (m : Nat) : Int := numO (upto L ss (m + 1)) (ss.getD m none)
/-- The list behind so many rows. -/
def expl (s : α) (succ : α → List (Option α)) : Nat → List α
  | 0 => [s]
  | k + 1 => match (expl s succ k)[k]? with
    | none => expl s succ k
    | some x => growL (expl s succ k) (succ x)

theorem grow1_prefix (L : List α) (o : Option α) : L <+: grow1 L o := by
  cases o with
  | none => exact List.prefix_refl _
  | some x =>
    show L <+: if x ∈ L then L else L ++ [x]
    by_cases h : x ∈ L
    · rw [if_pos h]; exact List.prefix_refl _
    · rw [if_neg h]; exact List.prefix_append _ _
theorem growL_prefix : ∀ (ss : List (Option α)) (L : List α), L <+: growL L ss
  | [], L => List.prefix_refl _
  | o :: r, L => (grow1_prefix L o).trans (growL_prefix r (grow1 L o))
theorem growL_append (L : List α) (a b : List (Option α)) : growL L (a ++ b) = growL (growL L a) b := List.foldl_append
theorem upto_zero (L : List α) (ss : List (Option α)) : upto L ss 0 = L := rfl
theorem upto_succ {L : List α} {ss : List (Option α)} {m : Nat} {o : Option α} (h : ss[m]? = some o) : upto L ss (m + 1) = grow1 (upto L ss m) o := by
  obtain ⟨hm, rfl⟩ := List.getElem?_eq_some_iff.1 h
  unfold upto
  rw [List.take_succ_eq_append_getElem hm, growL_append]
  rfl
theorem upto_all {L : List α} {ss : List (Option α)} {m : Nat} (h : ss.length ≤ m) : upto L ss m = growL L ss := by
  unfold upto
  rw [List.take_of_length_le h]
theorem upto_prefix (L : List α) (ss : List (Option α)) (m : Nat) : L <+: upto L ss m := growL_prefix _ _
theorem upto_le {L : List α} {ss : List (Option α)} {m n : Nat} (h : m ≤ n) : upto L ss m <+: upto L ss n := by
  unfold upto
  have : ss.take n = ss.take m ++ (ss.take n).drop m := by
    have h1 := (List.take_append_drop m (ss.take n)).symm
    rwa [List.take_take, Nat.min_eq_left h] at h1
  rw [this, growL_append]
  exact growL_prefix _ _
omit [DecidableEq α] in
theorem prefix_get {L M : List α} (h : L <+: M) {i : Nat} {x : α} (hx : L[i]? = some x) : M[i]? = some x := by
  obtain ⟨r, rfl⟩ := h
  rw [List.getElem?_append_left (List.getElem?_eq_some_iff.1 hx).1]
  exact hx
omit [DecidableEq α] in
theorem prefix_length {L M : List α} (h : L <+: M) : L.length ≤ M.length := by
  obtain ⟨r, rfl⟩ := h
  simp
theorem grow1_old {L : List α} {x : α} (h : x ∈ L) : grow1 L (some x) = L := if_pos h
theorem grow1_new {L : List α} {x : α} (h : x ∉ L) : grow1 L (some x) = L ++ [x] := if_neg h
theorem grow1_mem {L : List α} {x : α} : x ∈ grow1 L (some x) := by
  by_cases h : x ∈ L
  · rw [grow1_old h]; exact h
  · rw [grow1_new h]; simp
theorem grow1_nodup {L : List α} (h : L.Nodup) (o : Option α) : (grow1 L o).Nodup := by
  cases o with
  | none => exact h
  | some x =>
    by_cases hx : x ∈ L
    · rw [grow1_old hx]; exact h
    · rw [grow1_new hx, List.nodup_append]
      exact ⟨h, by simp, fun a ha b hb hab => by
        simp only [List.mem_singleton] at hb
        exact hx (by rw [← hb, ← hab]; exact ha)⟩
theorem growL_nodup : ∀ (ss : List (Option α)) {L : List α}, L.Nodup → (growL L ss).Nodup
  | [], _, h => h
  | o :: r, _, h => growL_nodup r (grow1_nodup h o)
theorem upto_nodup {L : List α} (h : L.Nodup) (ss : List (Option α)) (m : Nat) : (upto L ss m).Nodup := growL_nodup _ h
theorem expl_nodup (s : α) (succ : α → List (Option α)) : ∀ k, (expl s succ k).Nodup
  | 0 => by simp [expl]
  | k + 1 => by
    simp only [expl]
    split
    · exact expl_nodup s succ k
    · exact growL_nodup _ (expl_nodup s succ k)
theorem expl_succ {s : α} {succ : α → List (Option α)} {k : Nat} {x : α} (h : (expl s succ k)[k]? = some x) : expl s succ (k + 1) = growL (expl s succ k) (succ x) := by
  simp only [expl, h]
theorem expl_stop {s : α} {succ : α → List (Option α)} {k : Nat} (h : (expl s succ k).length ≤ k) : ∀ m, k ≤ m → expl s succ m = expl s succ k := by
  intro m hm
  induction hm with
  | refl => rfl
  | step hkm ih =>
    simp only [expl, ih]
    rw [List.getElem?_eq_none (by have : k ≤ _ := hkm; omega)]
theorem expl_step_prefix (s : α) (succ : α → List (Option α)) (k : Nat) : expl s succ k <+: expl s succ (k + 1) := by
  simp only [expl]
  split
  · exact List.prefix_refl _
  · exact growL_prefix _ _
theorem expl_prefix (s : α) (succ : α → List (Option α)) {k m : Nat} (h : k ≤ m) : expl s succ k <+: expl s succ m := by
  induction h with
  | refl => exact List.prefix_refl _
  | step _ ih => exact ih.trans (expl_step_prefix s succ _)
theorem expl_pos (s : α) (succ : α → List (Option α)) (k : Nat) : 1 ≤ (expl s succ k).length := by
  have := prefix_length (expl_prefix s succ (Nat.zero_le k))
  simpa [expl] using this

/-- More than a limit are found. -/
def manyB (lim : Nat) (s : α) (succ : α → List (Option α)) : Prop := ∃ k, lim < (expl s succ k).length
theorem manyB_yes {lim k : Nat} {s : α} {succ : α → List (Option α)} (h : lim < (expl s succ k).length) : manyB lim s succ := ⟨k, h⟩
theorem manyB_no {lim k : Nat} {s : α} {succ : α → List (Option α)} (h : (expl s succ k).length ≤ k) (hl : (expl s succ k).length ≤ lim) : ¬ manyB lim s succ := by
  rintro ⟨m, hm⟩
  by_cases hkm : k ≤ m
  · rw [expl_stop h m hkm] at hm
    omega
  · have := prefix_length (expl_prefix s succ (show m ≤ k by omega))
    omega
/-- All that is found, where it is not more than the limit. -/
theorem expl_final {lim k : Nat} {s : α} {succ : α → List (Option α)} (h : (expl s succ k).length ≤ k) (hl : k ≤ lim) : expl s succ lim = expl s succ k := expl_stop h lim hl
/-- A number stays. -/
theorem idxOf_prefix {L M : List α} (h : L <+: M) {x : α} (hx : x ∈ L) : M.idxOf x = L.idxOf x := by
  obtain ⟨r, rfl⟩ := h
  rw [List.idxOf_append, if_pos hx]
theorem idxOf_at {L : List α} (hn : L.Nodup) {i : Nat} {x : α} (h : L[i]? = some x) : L.idxOf x = i := by
  obtain ⟨hi, rfl⟩ := List.getElem?_eq_some_iff.1 h
  exact hn.idxOf_getElem i hi
theorem idxOf_new {L : List α} {x : α} (h : x ∉ L) : (L ++ [x]).idxOf x = L.length := by
  rw [List.idxOf_append, if_neg h]
  simp
theorem numO_bd {L : List α} {o : Option α} (h : ∀ x, o = some x → x ∈ L) : -1 ≤ numO L o ∧ numO L o < L.length := by
  cases o with
  | none => simp only [numO]; omega
  | some x =>
    have := List.idxOf_lt_length_of_mem (h x rfl)
    simp only [numO]
    omega
theorem ent_eq {L : List α} {ss : List (Option α)} {m : Nat} {o : Option α} (h : ss[m]? = some o) : ent L ss m = numO (upto L ss (m + 1)) o := by
  unfold ent
  rw [List.getD_eq_getElem?_getD, h]
  rfl
theorem upto_mem {L : List α} {ss : List (Option α)} {m : Nat} {x : α} (h : ss[m]? = some (some x)) : x ∈ upto L ss (m + 1) := by
  rw [upto_succ h]
  exact grow1_mem
end
end Go.Proofs.YtlnojmmjpgpjdaaDoor
