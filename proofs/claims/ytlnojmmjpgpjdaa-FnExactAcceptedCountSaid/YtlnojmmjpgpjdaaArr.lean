/-
  Rows that are made at once and written in place. No program in sight.
-/
import Derived.Test.YtlnojmmjpgpjdaaNest
namespace Go.Proofs.Ytlnojmmjpgpjdaa
open Go.ChangeShapes Go.WideShapes Go.ChangeAt Go.RowKit Go.Deep

theorem madeCells_one (z : Value) (n : Nat) : (madeCells #[z] n).toList = List.replicate n z := by
  apply List.ext_getElem
  · simp [madeCells]
  · intro i h1 h2
    simp [madeCells, Nat.mod_one]
/-- What make leaves: a block of zeros. -/
theorem made_blk {w : World} {base t n g : Nat} {z : Value} {cs : Array Value} (hz : cs = #[z]) (h : w.ownsRow base t 1 (.slice (some ⟨g, 0, none⟩) n n) n (madeCells cs (n * 1)).toList) : Blk w g t (List.replicate n z) ∧ base ≤ g := by
  subst hz
  obtain ⟨h0, h⟩ := h
  rcases h with ⟨h, _⟩ | ⟨g', cap, cur, hv, hb, hg, _, _, hs, ht⟩
  · cases h
  · simp only [Value.slice.injEq, Option.some.injEq, Addr.mk.injEq, and_true, true_and] at hv
    obtain ⟨rfl, rfl⟩ := hv
    rw [madeCells_one, Nat.mul_one, List.take_of_length_le (by simp; omega)] at ht
    refine ⟨?_, hb⟩
    unfold Blk
    rw [hg, ← ht]
section
variable {α : Type} {f : α → Value} {w : World} {g t : Nat} {L : List α}
theorem arr_cell (h : Blk w g t (L.map f)) {i : Nat} {x : α} (hx : L[i]? = some x) : w.cell? ⟨g, i, none⟩ = some (f x) := by rw [h.cell, List.getElem?_map, hx]; rfl
theorem arr_set (h : Blk w g t (L.map f)) (i : Nat) (x : α) : Blk (w.setCell ⟨g, i, none⟩ (f x)) g t ((L.set i x).map f) := by
  rw [List.map_set]
  exact h.set i (f x)
/-- A row that is full: a slice of its own. -/
theorem arr_fresh {W : World} {fd : α → D} (h : Blk w g t (L.map f)) (hW : W.heap.size ≤ g) (hf : ∀ x, Ow w (fd x) (f x) []) {n : Nat} (hn : L.length = n) (hm : n ≤ maxLen) : Fresh W w (nestD fd L) (.slice (some ⟨g, 0, none⟩) n n) := by
  subst hn
  have hows : Ows w (L.map fd) (L.map f) [] := by
    clear h hm
    induction L with
    | nil => exact Ows.nil
    | cons x r ih => exact Ows.cons (hf x) ih
  by_cases h0 : L.length = 0
  · exact ⟨[], by simp only [nestD, Ow]; exact ⟨_, _, rfl, Nat.le_refl _, hm, by simp, by simp, Or.inl ⟨h0, trivial⟩⟩, by simp, by simp⟩
  · refine ⟨[g], by simp only [nestD, Ow]; exact ⟨_, _, rfl, Nat.le_refl _, hm, by simp, by simp, Or.inr ⟨g, 0, L.map f, [], rfl, rfl, h.free, h.row (List.take_length ..), hows⟩⟩, by simp, by simp [hW]⟩
end

/-- Filled as far as k; what is behind is the zero. -/
def FillL {α : Type} (z : α) (full : List α) (k : Nat) (L : List α) : Prop := L.length = full.length ∧ (∀ j, j < k → L[j]? = full[j]?) ∧ ∀ j, k ≤ j → j < full.length → L[j]? = some z
section
variable {α : Type} {z : α} {full L : List α} {k : Nat}
theorem FillL.start {n : Nat} (hn : full.length = n) : FillL z full 0 (List.replicate n z) := by
  subst hn
  exact ⟨by simp, fun j hj => by omega, fun j _ hj => by simp [hj]⟩
theorem FillL.at (h : FillL z full k L) (hk : k < full.length) : L[k]? = some z := h.2.2 k (Nat.le_refl _) hk
theorem FillL.step (h : FillL z full k L) {v : α} (hv : full[k]? = some v) : FillL z full (k + 1) (L.set k v) := by
  obtain ⟨h1, h2, h3⟩ := h
  have hk := (List.getElem?_eq_some_iff.1 hv).1
  refine ⟨by simpa using h1, fun j hj => ?_, fun j hj hl => ?_⟩
  · by_cases hjk : k = j
    · subst hjk
      rw [List.getElem?_set_self (by omega), hv]
    · rw [List.getElem?_set_ne hjk]
      exact h2 j (by omega)
  · rw [List.getElem?_set_ne (by omega)]
    exact h3 j (by omega) hl
theorem FillL.all (h : FillL z full full.length L) : L = full := by
  obtain ⟨h1, h2, h3⟩ := h
  apply List.ext_getElem?
  intro j
  by_cases hj : j < full.length
  · exact h2 j hj
  · rw [List.getElem?_eq_none (by omega), List.getElem?_eq_none (by omega)]
theorem set_zero_same {i : Nat} {x : α} (h : L[i]? = some x) : L.set i x = L := by
  obtain ⟨h1, h2⟩ := List.getElem?_eq_some_iff.1 h
  rw [← h2]
  exact List.set_getElem_self h1
theorem set_twice {i : Nat} {x y : α} : (L.set i x).set i y = L.set i y := List.set_set ..
theorem set_at {i : Nat} {x : α} (h : i < L.length) : (L.set i x)[i]? = some x := by rw [List.getElem?_set_self h]
end
end Go.Proofs.Ytlnojmmjpgpjdaa
