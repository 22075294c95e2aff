/-
  The text of an expression tells the expression (of those that have a tree's form). No program in sight.
-/
import Derived.Test.YtlnojmmjpgpjdaaDoorTextE
namespace Go.Proofs.YtlnojmmjpgpjdaaDoor
open Go.ChangeShapes Go.WideShapes Go.ChangeAt Go.RowKit

theorem digit_inj {m n : Nat} (hm : m < 10) (hn : n < 10) {r s : List UInt8} (h : Lib.decDigits m ++ r = Lib.decDigits n ++ s) : m = n ∧ r = s := by
  rw [Lib.decDigits_one hm, Lib.decDigits_one hn] at h
  simp only [List.cons_append, List.nil_append, List.cons.injEq] at h
  refine ⟨?_, h.2⟩
  have := congrArg UInt8.toNat h.1
  simp at this
  omega

/-- A star behind x, i times. -/
def starN : Nat → Ex → Ex
  | 0, x => x
  | i + 1, x => .mk 8 0 [starN i x]
theorem starN_text (x : Ex) : ∀ i, (starN i x).text = x.text ++ List.replicate i 42
  | 0 => by simp [starN]
  | i + 1 => by
    simp only [starN, Ex.text, Ex.textL]
    rw [starN_text x i]
    simp [texC, List.replicate_succ']
theorem star_base (tm am : Int) (N : Nat) : ∀ e : Ex, e.size ≤ N → e.tree tm am = true → ∃ i x, e = starN i x ∧ x.kind ≠ 8 ∧ x.tree tm am = true ∧ x.size ≤ e.size := by
  induction N using Nat.strongRecOn with
  | _ N ih =>
  intro e hN ht
  by_cases h8 : e.kind = 8
  · obtain ⟨k, n, ks⟩ := e
    simp only [Ex.kind] at h8
    subst h8
    obtain ⟨hk, hnum, -, htl⟩ := tree_parts ht
    obtain ⟨x, rfl⟩ := one_kid hk (by omega)
    have hx : x.tree tm am = true := Ex.treeL_mem htl (by simp)
    have hs := Ex.size_eq (.mk 8 n [x])
    simp only [Ex.kids, Ex.sizeL] at hs
    obtain ⟨i, y, hy, h1, h2, h3⟩ := ih x.size (by omega) x (Nat.le_refl _) hx
    obtain rfl : n = 0 := by simpa [numB] using hnum
    exact ⟨i + 1, y, by rw [hy]; rfl, h1, h2, by omega⟩
  · exact ⟨0, e, rfl, h8, ht, Nat.le_refl _⟩

theorem rep_inj : ∀ (i j : Nat) {r s : List UInt8}, r.head? ≠ some 42 → s.head? ≠ some 42 → List.replicate i 42 ++ r = List.replicate j 42 ++ s → i = j ∧ r = s
  | 0, 0, r, s, _, _, h => ⟨rfl, by simpa using h⟩
  | 0, j + 1, r, s, h1, _, h => by rw [List.replicate_zero, List.nil_append] at h; rw [h] at h1; simp [List.replicate_succ] at h1
  | i + 1, 0, r, s, _, h2, h => by rw [List.replicate_zero, List.nil_append] at h; rw [← h] at h2; simp [List.replicate_succ] at h2
  | i + 1, j + 1, r, s, h1, h2, h => by
    simp only [List.replicate_succ, List.cons_append, List.cons.injEq, true_and] at h
    obtain ⟨a, b⟩ := rep_inj i j h1 h2 h
    exact ⟨by omega, b⟩

/-- Conditions have no stars on the way down their left. -/
theorem cond_kind {e : Ex} (h : e.cond = true) : e.kind ≠ 8 := by
  intro h8
  obtain ⟨k, n, ks⟩ := e
  simp only [Ex.kind] at h8
  subst h8
  simp [Ex.cond, condKind] at h

theorem text_head (tm am : Int) (N : Nat) : ∀ e : Ex, e.size ≤ N → e.tree tm am = true → ∃ c l, e.text = c :: l ∧ c ≠ 43 := by
  induction N using Nat.strongRecOn with
  | _ N ih =>
  intro e hN ht
  obtain ⟨k, n, ks⟩ := e
  obtain ⟨hk, -, -, htl⟩ := tree_parts ht
  have hs := Ex.size_eq (.mk k n ks)
  simp only [Ex.kids] at hs
  rcases kind_cases hk with rfl | rfl | rfl | rfl | rfl | rfl | rfl | rfl
  · exact ⟨48, [], by simp [Ex.text, texC], by decide⟩
  · exact ⟨49, [], by simp [Ex.text, texC], by decide⟩
  · exact ⟨116, _, by simp [Ex.text, texC]; rfl, by decide⟩
  · exact ⟨97, _, by simp [Ex.text, texC]; rfl, by decide⟩
  · exact ⟨126, _, by simp [Ex.text, texC]; rfl, by decide⟩
  · exact ⟨40, _, by simp [Ex.text, texC]; rfl, by decide⟩
  · exact ⟨40, _, by simp [Ex.text, texC]; rfl, by decide⟩
  · obtain ⟨x, rfl⟩ := one_kid hk (by omega)
    simp only [Ex.sizeL] at hs
    obtain ⟨c, l, h1, h2⟩ := ih x.size (by omega) x (Nat.le_refl _) (Ex.treeL_mem htl (by simp))
    exact ⟨c, l ++ [42], by simp [Ex.text, texC, Ex.textL, h1], h2⟩

theorem text_inj_core (tm am : Int) (ht : tm ≤ 8) (ha : am ≤ 8) (N : Nat) : ∀ (e f : Ex) (r s : List UInt8), e.size ≤ N → e.tree tm am = true → f.tree tm am = true → e.kind ≠ 8 → f.kind ≠ 8 → e.text ++ r = f.text ++ s → e = f ∧ r = s := by
  induction N using Nat.strongRecOn with
  | _ N ih =>
  intro e f r s hN he hf h8 h8' h
  have whole : ∀ (x y : Ex) (r s : List UInt8), x.size < N → x.tree tm am = true → y.tree tm am = true → r.head? ≠ some 42 → s.head? ≠ some 42 → x.text ++ r = y.text ++ s → x = y ∧ r = s := by
    intro x y r s hx tx ty hr hs h
    obtain ⟨i, x0, rfl, a1, a2, a3⟩ := star_base tm am _ x (Nat.le_refl _) tx
    obtain ⟨j, y0, rfl, b1, b2, b3⟩ := star_base tm am _ y (Nat.le_refl _) ty
    rw [starN_text, starN_text, List.append_assoc, List.append_assoc] at h
    obtain ⟨rfl, h'⟩ := ih x0.size (by omega) x0 y0 _ _ (Nat.le_refl _) a2 b2 a1 b1 h
    obtain ⟨rfl, rfl⟩ := rep_inj i j hr hs h'
    exact ⟨rfl, rfl⟩
  obtain ⟨k, n, ks⟩ := e
  obtain ⟨k', n', ks'⟩ := f
  obtain ⟨hk, hnum, hc, htl⟩ := tree_parts he
  obtain ⟨hk', hnum', hc', htl'⟩ := tree_parts hf
  simp only [Ex.kind] at h8 h8'
  have hs := Ex.size_eq (.mk k n ks)
  simp only [Ex.kids] at hs
  have z0 : ∀ {q : Int} {l : List Ex}, kidsN q = (l.length : Int) → q = 1 ∨ q = 2 ∨ q = 3 ∨ q = 4 → l = [] := by
    intro q l hq hh
    have : kidsN q = 0 := by unfold kidsN; rw [if_pos hh]
    exact List.eq_nil_of_length_eq_zero (by omega)
  rcases kind_cases hk with rfl | rfl | rfl | rfl | rfl | rfl | rfl | rfl <;> rcases kind_cases hk' with rfl | rfl | rfl | rfl | rfl | rfl | rfl | rfl
  all_goals first
    | exact absurd rfl h8
    | exact absurd rfl h8'
    | (exfalso; simp [Ex.text, texC] at h; done)
    | skip
  · obtain rfl := z0 hk (by omega)
    obtain rfl := z0 hk' (by omega)
    obtain rfl : n = 0 := by simpa [numB] using hnum
    obtain rfl : n' = 0 := by simpa [numB] using hnum'
    exact ⟨rfl, by simpa [Ex.text, texC] using h⟩
  · obtain rfl := z0 hk (by omega)
    obtain rfl := z0 hk' (by omega)
    obtain rfl : n = 0 := by simpa [numB] using hnum
    obtain rfl : n' = 0 := by simpa [numB] using hnum'
    exact ⟨rfl, by simpa [Ex.text, texC] using h⟩
  · obtain rfl := z0 hk (by omega)
    obtain rfl := z0 hk' (by omega)
    obtain ⟨a0, a8⟩ := numB_any (by omega) hnum ht ha
    obtain ⟨b0, b8⟩ := numB_any (by omega) hnum' ht ha
    simp [Ex.text, texC] at h
    obtain ⟨h1, h2⟩ := digit_inj (by omega) (by omega) h
    obtain rfl : n = n' := by omega
    exact ⟨rfl, h2⟩
  · obtain rfl := z0 hk (by omega)
    obtain rfl := z0 hk' (by omega)
    obtain ⟨a0, a8⟩ := numB_any (by omega) hnum ht ha
    obtain ⟨b0, b8⟩ := numB_any (by omega) hnum' ht ha
    simp [Ex.text, texC] at h
    obtain ⟨h1, h2⟩ := digit_inj (by omega) (by omega) h
    obtain rfl : n = n' := by omega
    exact ⟨rfl, h2⟩
  · obtain ⟨x, rfl⟩ := one_kid hk (by omega)
    obtain ⟨y, rfl⟩ := one_kid hk' (by omega)
    obtain rfl : n = 0 := by simpa [numB] using hnum
    obtain rfl : n' = 0 := by simpa [numB] using hnum'
    have cx : x.cond = true := by simpa [Ex.condL] using hc rfl
    have cy : y.cond = true := by simpa [Ex.condL] using hc' rfl
    simp [Ex.text, texC, Ex.textL] at h
    simp only [Ex.sizeL] at hs
    obtain ⟨rfl, h'⟩ := ih x.size (by omega) x y r s (Nat.le_refl _) (Ex.treeL_mem htl (by simp)) (Ex.treeL_mem htl' (by simp)) (cond_kind cx) (cond_kind cy) h
    exact ⟨rfl, h'⟩
  all_goals
    obtain ⟨x, y, rfl⟩ := two_kids hk (by omega)
    obtain ⟨x', y', rfl⟩ := two_kids hk' (by omega)
    obtain rfl : n = 0 := by simpa [numB] using hnum
    obtain rfl : n' = 0 := by simpa [numB] using hnum'
    have ty : y.tree tm am = true := Ex.treeL_mem htl (by simp)
    have ty' : y'.tree tm am = true := Ex.treeL_mem htl' (by simp)
    simp [Ex.text, texC, Ex.textL] at h
    simp only [Ex.sizeL] at hs
    obtain ⟨hxx, h2⟩ := whole x x' _ _ (by omega) (Ex.treeL_mem htl (by simp)) (Ex.treeL_mem htl' (by simp)) (by simp) (by simp) h
    subst hxx
    clear h
    obtain ⟨c1, l1, q1, p1⟩ := text_head tm am _ y (Nat.le_refl _) ty
    obtain ⟨c2, l2, q2, p2⟩ := text_head tm am _ y' (Nat.le_refl _) ty'
    first
      | (exfalso; rw [q1] at h2; simp at h2; exact p1 h2.1)
      | (exfalso; rw [q2] at h2; simp at h2; exact p2 h2.1.symm)
      | (simp at h2
         obtain ⟨hyy, h3⟩ := whole y y' _ _ (by omega) ty ty' (by simp) (by simp) h2
         subst hyy
         exact ⟨rfl, by simpa using h3⟩)

theorem text_inj {tm am : Int} (ht : tm ≤ 8) (ha : am ≤ 8) {e f : Ex} (he : e.tree tm am = true) (hf : f.tree tm am = true) (h : e.text = f.text) : e = f := by
  obtain ⟨i, x0, rfl, a1, a2, -⟩ := star_base tm am _ e (Nat.le_refl _) he
  obtain ⟨j, y0, rfl, b1, b2, -⟩ := star_base tm am _ f (Nat.le_refl _) hf
  rw [starN_text, starN_text] at h
  obtain ⟨rfl, h'⟩ := text_inj_core tm am ht ha _ x0 y0 _ _ (Nat.le_refl _) a2 b2 a1 b1 h
  obtain ⟨rfl, -⟩ := rep_inj i j (r := []) (s := []) (by simp) (by simp) (by simpa using h')
  rfl
end Go.Proofs.YtlnojmmjpgpjdaaDoor
