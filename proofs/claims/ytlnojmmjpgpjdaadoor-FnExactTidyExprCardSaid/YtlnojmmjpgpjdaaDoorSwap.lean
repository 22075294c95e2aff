/-
  slices.Reverse of numbers.
-/
import Derived.Test.YtlnojmmjpgpjdaaDoorMark
import Derived.Test.YtlnojmmjpgpjdaaDoorOwn
namespace Go.Proofs.YtlnojmmjpgpjdaaDoor
open Go.ChangeShapes Go.WideShapes Go.ChangeAt Go.RowKit Go.Deep Go.Sort

/-- Turned as far as k places from both ends. -/
def Turned {α : Type} (zs ys : List α) (k : Nat) : Prop := ys.length = zs.length ∧ ∀ p, p < zs.length → ys[p]? = if p < k ∨ zs.length - k ≤ p then zs[zs.length - 1 - p]? else zs[p]?
theorem Turned.zero {α : Type} (zs : List α) : Turned zs zs 0 := ⟨rfl, fun p hp => by rw [if_neg (by omega)]⟩
theorem Turned.step {α : Type} {zs ys : List α} {k : Nat} {a b : α} (h : Turned zs ys k) (hk : k < zs.length - 1 - k) (ha : zs[k]? = some a) (hb : zs[zs.length - 1 - k]? = some b) :
    ys[k]? = some a ∧ ys[zs.length - 1 - k]? = some b ∧ Turned zs ((ys.set k b).set (zs.length - 1 - k) a) (k + 1) := by
  obtain ⟨hl, h⟩ := h
  have h1 := h k (by omega)
  have h2 := h (zs.length - 1 - k) (by omega)
  rw [if_neg (by omega)] at h1 h2
  refine ⟨by rw [h1, ha], by rw [h2, hb], by simp [hl], fun p hp => ?_⟩
  rw [List.getElem?_set, List.getElem?_set]
  have h3 := h p hp
  by_cases e1 : zs.length - 1 - k = p
  · rw [if_pos e1, if_pos (by simp; omega), if_pos (by omega), show zs.length - 1 - p = k by omega, ha]
  · rw [if_neg e1]
    by_cases e2 : k = p
    · rw [if_pos e2, if_pos (by omega), if_pos (by omega)]
      subst e2
      rw [hb]
    · rw [if_neg e2, h3]
      by_cases e3 : p < k ∨ zs.length - k ≤ p
      · rw [if_pos e3, if_pos (by omega)]
      · rw [if_neg e3, if_neg (by omega)]
theorem Turned.done {α : Type} {zs ys : List α} {k : Nat} (h : Turned zs ys k) (hk : zs.length - 1 - k ≤ k) : ys = zs.reverse := by
  obtain ⟨hl, h⟩ := h
  apply List.ext_getElem?
  intro p
  by_cases hp : p < zs.length
  · rw [h p hp, List.getElem?_reverse hp]
    by_cases e : p < k ∨ zs.length - k ≤ p
    · rw [if_pos e]
    · rw [if_neg e, show zs.length - 1 - p = p by omega]
  · rw [List.getElem?_eq_none (by omega), List.getElem?_eq_none (by simp; omega)]

end Go.Proofs.YtlnojmmjpgpjdaaDoor
