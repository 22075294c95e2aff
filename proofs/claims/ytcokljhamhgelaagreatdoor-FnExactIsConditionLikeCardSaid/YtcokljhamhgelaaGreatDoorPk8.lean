/-
  Parts of a proof, joined: TidyP, DerP, Lang, StP, Mark, Nest, App. No condition.
-/
import Derived.Deep.AppendLies
import Derived.Test.YtcokljhamhgelaaGreatDoorPk7
namespace Go.Proofs.YtcokljhamhgelaaGreatDoor
set_option linter.unusedVariables false
set_option linter.unusedSimpArgs false
noncomputable instance exDec : DecidableEq Ex := fun a b => Classical.propDecidable (a = b)
def Ex.two (k : Int) (a b : Ex) : Ex := .mk k 0 [a, b]
def Ex.leaf (k : Int) : Ex := .mk k 0 []
def summC (k n : Int) (ks : List Ex) (rs : List (List Ex)) : List Ex := if k = 1 then [] else if k = 6 then rs.flatten else [.mk k n ks]
mutual
def Ex.summ : Ex → List Ex
 | .mk k n ks => summC k n ks (Ex.summL ks)
def Ex.summL : List Ex → List (List Ex)
 | [] => []
 | e :: r => e.summ :: Ex.summL r
end
theorem Ex.summ_zero {n : Int} {ks : List Ex} : (Ex.mk 1 n ks).summ = [] := by simp [Ex.summ, summC]
theorem Ex.summ_sum {n : Int} {a b : Ex} : (Ex.mk 6 n [a, b]).summ = a.summ ++ b.summ := by simp [Ex.summ, summC, Ex.summL]
theorem Ex.summ_else {k n : Int} {ks : List Ex} (h1 : k ≠ 1) (h6 : k ≠ 6) : (Ex.mk k n ks).summ = [.mk k n ks] := by simp [Ex.summ, summC, h1, h6]
def sizes (L : List Ex) : Nat := (L.map Ex.size).sum
theorem sizes_append (a b : List Ex) : sizes (a ++ b) = sizes a + sizes b := by simp [sizes]
theorem summ_spec (tm am : Int) (N : Nat) : ∀ e : Ex, e.size ≤ N → e.tree tm am = true → (∀ x ∈ e.summ, x.tree tm am = true ∧ x.size ≤ e.size) ∧ sizes e.summ + e.summ.length ≤ e.size + 1 := by
 induction N using Nat.strongRecOn with
 | _ N ih =>
 intro e hN ht
 obtain ⟨k, n, ks⟩ := e
 by_cases h1 : k = 1
 ·
  subst h1
  rw [Ex.summ_zero]
  simp [sizes]
 by_cases h6 : k = 6
 ·
  subst h6
  obtain ⟨hk, -, -, htl⟩ := tree_parts ht
  obtain ⟨a, b, rfl⟩ := two_kids hk (by omega)
  have hs := Ex.size_eq (.mk 6 n [a, b])
  simp only [Ex.kids, Ex.sizeL] at hs
  obtain ⟨a1, a2⟩ := ih a.size (by omega) a (Nat.le_refl _) (Ex.treeL_mem htl (by simp))
  obtain ⟨b1, b2⟩ := ih b.size (by omega) b (Nat.le_refl _) (Ex.treeL_mem htl (by simp))
  rw [Ex.summ_sum]
  refine ⟨fun x hx => ?_, by rw [sizes_append, List.length_append]; omega⟩
  rcases List.mem_append.1 hx with hx | hx
  ·
   exact ⟨(a1 x hx).1, by have := (a1 x hx).2; omega⟩
  ·
   exact ⟨(b1 x hx).1, by have := (b1 x hx).2; omega⟩
 ·
  rw [Ex.summ_else h1 h6]
  refine ⟨fun x hx => ?_, by simp [sizes]⟩
  rw [List.mem_singleton] at hx
  subst hx
  exact ⟨ht, Nat.le_refl _⟩
def Ex.lt (a b : Ex) : Bool := decide (a.text < b.text)
def insT (e : Ex) (L : List Ex) : List Ex := L.takeWhile (fun x => Ex.lt x e) ++ e :: L.dropWhile (fun x => x.lt e)
def sortI (L : List Ex) : List Ex := L.foldl (fun acc e => insT e acc) []
theorem insT_perm (e : Ex) (L : List Ex) : (insT e L).Perm (e :: L) := by
 unfold insT
 refine List.perm_middle.trans ?_
 rw [List.takeWhile_append_dropWhile]
theorem sortI_perm_aux : ∀ (L acc : List Ex), (L.foldl (fun acc e => insT e acc) acc).Perm (acc ++ L)
 | [], acc => by simp
 | e :: r, acc => by
  refine (sortI_perm_aux r (insT e acc)).trans ?_
  refine ((insT_perm e acc).append_right r).trans ?_
  exact (List.perm_middle (a := e) (l₁ := acc) (l₂ := r)).symm
theorem sortI_perm (L : List Ex) : (sortI L).Perm L := by have := sortI_perm_aux L []; rwa [List.nil_append] at this
def leT (a b : Ex) : Prop := ¬ b.text < a.text
theorem leT_trans {a b c : Ex} (h : leT a b) (k : leT b c) : leT a c := by
 unfold leT at *
 rw [List.not_lt] at *
 exact List.le_trans h k
theorem leT_of_lt {a b : Ex} (h : a.text < b.text) : leT a b := List.lt_asymm h
theorem insT_sorted (e : Ex) : ∀ L : List Ex, L.Pairwise leT → (insT e L).Pairwise leT
 | [], _ => by simp [insT]
 | x :: r, h => by
  rw [List.pairwise_cons] at h
  unfold insT
  by_cases hx : x.lt e = true
  ·
   rw [List.takeWhile_cons_of_pos (p := fun x => Ex.lt x e) hx, List.dropWhile_cons_of_pos (p := fun x => Ex.lt x e) hx, List.cons_append, List.pairwise_cons]
   refine ⟨fun y hy => ?_, insT_sorted e r h.2⟩
   have hy' : y ∈ insT e r := hy
   rcases List.mem_cons.1 ((insT_perm e r).mem_iff.1 hy') with rfl | hy2
   ·
    exact leT_of_lt (by simpa [Ex.lt] using hx)
   ·
    exact h.1 y hy2
  ·
   rw [List.takeWhile_cons_of_neg (p := fun x => Ex.lt x e) hx, List.dropWhile_cons_of_neg (p := fun x => Ex.lt x e) hx, List.nil_append, List.pairwise_cons]
   have hxe : leT e x := by simpa [Ex.lt, leT] using hx
   refine ⟨fun y hy => ?_, List.pairwise_cons.2 h⟩
   rcases List.mem_cons.1 hy with rfl | hy
   ·
    exact hxe
   ·
    exact leT_trans hxe (h.1 y hy)
theorem sortI_sorted_aux : ∀ (L acc : List Ex), acc.Pairwise leT → (L.foldl (fun acc e => insT e acc) acc).Pairwise leT
 | [], _, h => h
 | e :: r, acc, h => sortI_sorted_aux r _ (insT_sorted e acc h)
theorem sortI_sorted (L : List Ex) : (sortI L).Pairwise leT := sortI_sorted_aux L [] List.Pairwise.nil
theorem sortI_unique {tm am : Int} (ht : tm ≤ 8) (ha : am ≤ 8) {L M : List Ex} (hL : ∀ x ∈ L, x.tree tm am = true) (hp : M.Perm L) (hs : M.Pairwise leT) : M = sortI L := by
 refine List.Perm.eq_of_pairwise (le := leT) (fun a b h1 h2 h3 h4 => ?_) hs (sortI_sorted L) (hp.trans (sortI_perm L).symm)
 have ha' := hL a (hp.mem_iff.1 h1)
 have hb' := hL b ((sortI_perm L).mem_iff.1 h2)
 unfold leT at h3 h4
 rw [List.not_lt] at h3 h4
 exact text_inj ht ha ha' hb' (List.le_antisymm h3 h4)
noncomputable def nub (L : List Ex) : List Ex := growL [] (L.map some)
def foldS : List Ex → Ex
 | [] => .leaf 1
 | x :: r => r.foldl (fun a b => .two 6 a b) x
noncomputable def sumT (x y : Ex) : Ex := foldS (sortI (nub (x.summ ++ y.summ)))
theorem growL_mem {α : Type} [DecidableEq α] : ∀ (ss : List α) (L : List α) (x : α), x ∈ growL L (ss.map some) ↔ x ∈ L ∨ x ∈ ss
 | [], L, x => by simp [growL]
 | s :: r, L, x => by
  show x ∈ growL (grow1 L (some s)) (r.map some) ↔ _
  rw [growL_mem r]
  by_cases h : s ∈ L
  ·
   rw [grow1_old h]
   constructor
   ·
    rintro (q | q); exact Or.inl q; exact Or.inr (List.mem_cons_of_mem _ q)
   ·
    rintro (q | q)
    ·
     exact Or.inl q
    ·
     rcases List.mem_cons.1 q with rfl | q; exact Or.inl h; exact Or.inr q
  ·
   rw [grow1_new h]
   simp [or_assoc]
theorem nub_mem {L : List Ex} {x : Ex} : x ∈ nub L ↔ x ∈ L := by unfold nub; rw [growL_mem]; simp
theorem grow_sizes : ∀ (ss : List Ex) (L : List Ex), sizes (growL L (ss.map some)) + (growL L (ss.map some)).length ≤ sizes L + L.length + (sizes ss + ss.length)
 | [], L => by simp [growL, sizes]
 | s :: r, L => by
  show sizes (growL (grow1 L (some s)) (r.map some)) + (growL (grow1 L (some s)) (r.map some)).length ≤ _
  have := grow_sizes r (grow1 L (some s))
  have h2 : sizes (s :: r) = s.size + sizes r := by simp [sizes]
  have h3 : sizes (grow1 L (some s)) + (grow1 L (some s)).length ≤ sizes L + L.length + (s.size + 1) := by
   by_cases h : s ∈ L
   ·
    rw [grow1_old h]; omega
   ·
    rw [grow1_new h, sizes_append, List.length_append]
    simp [sizes]
    omega
  rw [h2, List.length_cons]
  omega
theorem nub_sizes (L : List Ex) : sizes (nub L) + (nub L).length ≤ sizes L + L.length := by
 have := grow_sizes L []
 simpa [nub, sizes] using this
theorem foldS_size : ∀ (r : List Ex) (x : Ex), (r.foldl (fun a b => Ex.two 6 a b) x).size = x.size + sizes r + r.length
 | [], x => by simp [sizes]
 | e :: r, x => by
  rw [List.foldl_cons, foldS_size r]
  have : (Ex.two 6 x e).size = 1 + (x.size + e.size) := by rw [Ex.size_eq]; simp [Ex.two, Ex.kids, Ex.sizeL]
  simp [this, sizes]
  omega
theorem sizes_perm {L M : List Ex} (h : L.Perm M) : sizes L = sizes M := List.Perm.sum_nat (h.map Ex.size)
theorem tree_two {tm am k : Int} {a b : Ex} (hk : k = 6 ∨ k = 7) (ha : a.tree tm am = true) (hb : b.tree tm am = true) : (Ex.two k a b).tree tm am = true := by
 rcases hk with rfl | rfl <;> simp [Ex.two, Ex.tree, Ex.treeL, ha, hb, nodeB, kidsN, numB]
theorem tree_leaf {tm am k : Int} (hk : k = 1 ∨ k = 2) : (Ex.leaf k).tree tm am = true := by
 rcases hk with rfl | rfl <;> simp [Ex.leaf, Ex.tree, Ex.treeL, nodeB, kidsN, numB]
theorem foldS_tree {tm am : Int} : ∀ (r : List Ex) (x : Ex), x.tree tm am = true → (∀ y ∈ r, y.tree tm am = true) → (r.foldl (fun a b => Ex.two 6 a b) x).tree tm am = true
 | [], x, h, _ => h
 | e :: r, x, h, hr => foldS_tree r _ (tree_two (Or.inl rfl) h (hr e (by simp))) (fun y hy => hr y (by simp [hy]))
theorem sumT_spec {tm am : Int} {x y : Ex} (hx : x.tree tm am = true) (hy : y.tree tm am = true) : (sumT x y).tree tm am = true ∧ (sumT x y).size ≤ 1 + x.size + y.size := by
 obtain ⟨x1, x2⟩ := summ_spec tm am _ x (Nat.le_refl _) hx
 obtain ⟨y1, y2⟩ := summ_spec tm am _ y (Nat.le_refl _) hy
 have hm : ∀ z ∈ sortI (nub (x.summ ++ y.summ)), z.tree tm am = true := fun z hz => by
  have := nub_mem.1 ((sortI_perm _).mem_iff.1 hz)
  rcases List.mem_append.1 this with h | h
  ·
   exact (x1 z h).1
  ·
   exact (y1 z h).1
 have hs := nub_sizes (x.summ ++ y.summ)
 rw [sizes_append, List.length_append, ← sizes_perm (sortI_perm (nub _)), ← (sortI_perm (nub _)).length_eq] at hs
 unfold sumT
 generalize sortI (nub (x.summ ++ y.summ)) = L at hm hs
 cases L with
 | nil => exact ⟨tree_leaf (Or.inl rfl), by simp [foldS, Ex.leaf, Ex.size, Ex.sizeL]; omega⟩
 | cons z r =>
  refine ⟨foldS_tree r z (hm z (by simp)) (fun q hq => hm q (by simp [hq])), ?_⟩
  show (r.foldl (fun a b => Ex.two 6 a b) z).size ≤ _
  rw [foldS_size]
  have hz : sizes (z :: r) = z.size + sizes r := by simp [sizes]
  rw [hz, List.length_cons] at hs
  omega
def dotC (k n : Int) (ks : List Ex) (fs : List (Ex → Ex)) (y : Ex) : Ex :=
 if k = 1 ∨ y.kind = 1 then .leaf 1 else if k = 2 then y else if y.kind = 2 then .mk k n ks
 else if k = 7 then fs.foldr (fun f z => f z) y else .two 7 (.mk k n ks) y
mutual
def Ex.dot : Ex → Ex → Ex
 | .mk k n ks => fun y => dotC k n ks (Ex.dotL ks) y
def Ex.dotL : List Ex → List (Ex → Ex)
 | [] => []
 | e :: r => e.dot :: Ex.dotL r
end
theorem Ex.dot_eq (k n : Int) (ks : List Ex) (y : Ex) : (Ex.mk k n ks).dot y = dotC k n ks (Ex.dotL ks) y := by simp only [Ex.dot]
theorem Ex.dot_seven {n : Int} {a b y : Ex} (h1 : y.kind ≠ 1) (h2 : y.kind ≠ 2) : (Ex.mk 7 n [a, b]).dot y = a.dot (b.dot y) := by
 rw [Ex.dot_eq]
 simp [dotC, h1, h2, Ex.dotL]
theorem dot_spec (tm am : Int) (N : Nat) : ∀ x y : Ex, x.size ≤ N → x.tree tm am = true → y.tree tm am = true → (x.dot y).tree tm am = true ∧ (x.dot y).size ≤ 1 + x.size + y.size := by
 induction N using Nat.strongRecOn with
 | _ N ih =>
 intro x y hN hx hy
 obtain ⟨k, n, ks⟩ := x
 have hs := Ex.size_eq (.mk k n ks)
 simp only [Ex.kids] at hs
 by_cases h1 : k = 1 ∨ y.kind = 1
 ·
  rw [Ex.dot_eq, dotC, if_pos h1]
  exact ⟨tree_leaf (Or.inl rfl), by simp [Ex.leaf, Ex.size, Ex.sizeL]; omega⟩
 by_cases h2 : k = 2
 ·
  rw [Ex.dot_eq, dotC, if_neg h1, if_pos h2]
  exact ⟨hy, by omega⟩
 by_cases h3 : y.kind = 2
 ·
  rw [Ex.dot_eq, dotC, if_neg h1, if_neg h2, if_pos h3]
  exact ⟨hx, by omega⟩
 by_cases h7 : k = 7
 ·
  subst h7
  obtain ⟨hk, -, -, htl⟩ := tree_parts hx
  obtain ⟨a, b, rfl⟩ := two_kids hk (by omega)
  simp only [Ex.sizeL] at hs
  obtain ⟨b1, b2⟩ := ih b.size (by omega) b y (Nat.le_refl _) (Ex.treeL_mem htl (by simp)) hy
  obtain ⟨a1, a2⟩ := ih a.size (by omega) a (b.dot y) (Nat.le_refl _) (Ex.treeL_mem htl (by simp)) b1
  rw [Ex.dot_seven (by omega) h3]
  exact ⟨a1, by omega⟩
 ·
  rw [Ex.dot_eq, dotC, if_neg h1, if_neg h2, if_neg h3, if_neg h7]
  exact ⟨tree_two (Or.inr rfl) hx hy, by rw [Ex.size_eq]; simp [Ex.two, Ex.kids, Ex.sizeL]; omega⟩
def Ex.star (x : Ex) : Ex := if x.cond = true then .leaf 2 else if x.kind = 8 then x else .mk 8 0 [x]
theorem star_spec {tm am : Int} {x : Ex} (hx : x.tree tm am = true) : x.star.tree tm am = true ∧ x.star.size ≤ 1 + x.size := by
 unfold Ex.star
 split
 ·
  exact ⟨tree_leaf (Or.inr rfl), by simp [Ex.leaf, Ex.size, Ex.sizeL]⟩
 split
 ·
  exact ⟨hx, by omega⟩
 ·
  exact ⟨by simp [Ex.tree, Ex.treeL, hx, nodeB, kidsN, numB], by simp [Ex.size, Ex.sizeL]⟩
noncomputable def tidyC (k n : Int) (ks ts : List Ex) : Ex :=
 if k = 6 then sumT (ts.getD 0 (.leaf 1)) (ts.getD 1 (.leaf 1)) else if k = 7 then (ts.getD 0 (.leaf 1)).dot (ts.getD 1 (.leaf 1)) else if k = 8 then (ts.getD 0 (.leaf 1)).star else .mk k n ks
mutual
noncomputable def Ex.tidy : Ex → Ex
 | .mk k n ks => tidyC k n ks (Ex.tidyL ks)
noncomputable def Ex.tidyL : List Ex → List Ex
 | [] => []
 | e :: r => e.tidy :: Ex.tidyL r
end
theorem Ex.tidy_eq (k n : Int) (ks : List Ex) : (Ex.mk k n ks).tidy = tidyC k n ks (Ex.tidyL ks) := by simp only [Ex.tidy]
theorem Ex.tidy_sum {n : Int} {a b : Ex} : (Ex.mk 6 n [a, b]).tidy = sumT a.tidy b.tidy := by rw [Ex.tidy_eq]; simp [tidyC, Ex.tidyL]
theorem Ex.tidy_dot {n : Int} {a b : Ex} : (Ex.mk 7 n [a, b]).tidy = a.tidy.dot b.tidy := by rw [Ex.tidy_eq]; simp [tidyC, Ex.tidyL]
theorem Ex.tidy_star {n : Int} {a : Ex} : (Ex.mk 8 n [a]).tidy = a.tidy.star := by rw [Ex.tidy_eq]; simp [tidyC, Ex.tidyL]
theorem Ex.tidy_else {k n : Int} {ks : List Ex} (h6 : k ≠ 6) (h7 : k ≠ 7) (h8 : k ≠ 8) : (Ex.mk k n ks).tidy = .mk k n ks := by rw [Ex.tidy_eq, tidyC, if_neg h6, if_neg h7, if_neg h8]
theorem tidy_spec (tm am : Int) (N : Nat) : ∀ e : Ex, e.size ≤ N → e.tree tm am = true → e.tidy.tree tm am = true ∧ e.tidy.size ≤ e.size := by
 induction N using Nat.strongRecOn with
 | _ N ih =>
 intro e hN ht
 obtain ⟨k, n, ks⟩ := e
 obtain ⟨hk, -, -, htl⟩ := tree_parts ht
 have hs := Ex.size_eq (.mk k n ks)
 simp only [Ex.kids] at hs
 by_cases h67 : k = 6 ∨ k = 7
 ·
  obtain ⟨a, b, rfl⟩ := two_kids hk h67
  simp only [Ex.sizeL] at hs
  obtain ⟨a1, a2⟩ := ih a.size (by omega) a (Nat.le_refl _) (Ex.treeL_mem htl (by simp))
  obtain ⟨b1, b2⟩ := ih b.size (by omega) b (Nat.le_refl _) (Ex.treeL_mem htl (by simp))
  rcases h67 with rfl | rfl
  ·
   rw [Ex.tidy_sum]
   obtain ⟨c1, c2⟩ := sumT_spec a1 b1
   exact ⟨c1, by omega⟩
  ·
   rw [Ex.tidy_dot]
   obtain ⟨c1, c2⟩ := dot_spec tm am _ a.tidy b.tidy (Nat.le_refl _) a1 b1
   exact ⟨c1, by omega⟩
 by_cases h8 : k = 8
 ·
  subst h8
  obtain ⟨a, rfl⟩ := one_kid hk (by omega)
  simp only [Ex.sizeL] at hs
  obtain ⟨a1, a2⟩ := ih a.size (by omega) a (Nat.le_refl _) (Ex.treeL_mem htl (by simp))
  rw [Ex.tidy_star]
  obtain ⟨c1, c2⟩ := star_spec a1
  exact ⟨c1, by omega⟩
 ·
  rw [Ex.tidy_else (by omega) (by omega) h8]
  exact ⟨ht, Nat.le_refl _⟩
end Go.Proofs.YtcokljhamhgelaaGreatDoor

namespace Go.Proofs.YtcokljhamhgelaaGreatDoor
set_option linter.unusedVariables false
set_option linter.unusedSimpArgs false
noncomputable def limE (e : Ex) : Option Ex := if e.size ≤ 800 then some e.tidy else none
noncomputable def stepC (emp : Ex → Bool) (x k n : Int) (ks : List Ex) (ds : List (Option Ex)) : Option Ex :=
 if k = 4 then some (.leaf (if n = x then 2 else 1))
 else if k = 6 then (ds.getD 0 none).bind fun a => (ds.getD 1 none).bind fun b => limE (.two 6 a b)
 else if k = 7 then (ds.getD 0 none).bind fun a => if emp (ks.getD 0 (.leaf 1)) = true then (ds.getD 1 none).bind fun b => limE (.two 6 (.two 7 a (ks.getD 1 (.leaf 1))) b) else limE (.two 7 a (ks.getD 1 (.leaf 1)))
 else if k = 8 then (ds.getD 0 none).bind fun a => limE (.two 7 a (.mk k n ks))
 else some (.leaf 1)
mutual
noncomputable def Ex.step (m x : Int) : Ex → Option Ex
 | .mk k n ks => stepC (Ex.emp m) x k n ks (Ex.stepL m x ks)
noncomputable def Ex.stepL (m x : Int) : List Ex → List (Option Ex)
 | [] => []
 | e :: r => e.step m x :: Ex.stepL m x r
end
theorem Ex.step_eq (m x k n : Int) (ks : List Ex) : (Ex.mk k n ks).step m x = stepC (Ex.emp m) x k n ks (Ex.stepL m x ks) := by simp only [Ex.step]
theorem Ex.step_act {m x n : Int} {ks : List Ex} : (Ex.mk 4 n ks).step m x = some (.leaf (if n = x then 2 else 1)) := by rw [Ex.step_eq]; simp [stepC]
theorem Ex.step_sum {m x n : Int} {a b : Ex} : (Ex.mk 6 n [a, b]).step m x = (a.step m x).bind fun p => (b.step m x).bind fun q => limE (.two 6 p q) := by rw [Ex.step_eq]; simp [stepC, Ex.stepL]
theorem Ex.step_dot {m x n : Int} {a b : Ex} : (Ex.mk 7 n [a, b]).step m x = (a.step m x).bind fun p => if a.emp m = true then (b.step m x).bind fun q => limE (.two 6 (.two 7 p b) q) else limE (.two 7 p b) := by rw [Ex.step_eq]; simp [stepC, Ex.stepL]
theorem Ex.step_star {m x n : Int} {a : Ex} : (Ex.mk 8 n [a]).step m x = (a.step m x).bind fun p => limE (.two 7 p (.mk 8 n [a])) := by rw [Ex.step_eq]; simp [stepC, Ex.stepL]
theorem Ex.step_else {m x k n : Int} {ks : List Ex} (h4 : k ≠ 4) (h6 : k ≠ 6) (h7 : k ≠ 7) (h8 : k ≠ 8) : (Ex.mk k n ks).step m x = some (.leaf 1) := by rw [Ex.step_eq, stepC, if_neg h4, if_neg h6, if_neg h7, if_neg h8]
theorem size_two (k : Int) (a b : Ex) : (Ex.two k a b).size = 1 + a.size + b.size := by rw [Ex.size_eq]; simp [Ex.two, Ex.kids, Ex.sizeL]; omega
theorem limE_spec {tm am : Int} {e d : Ex} (h : limE e = some d) (ht : e.tree tm am = true) : d.tree tm am = true ∧ d.size ≤ 800 := by
 unfold limE at h
 split at h
 ·
  obtain rfl := Option.some.inj h
  obtain ⟨h1, h2⟩ := tidy_spec tm am _ e (Nat.le_refl _) ht
  exact ⟨h1, by omega⟩
 ·
  cases h
theorem step_spec (tm am m x : Int) (N : Nat) : ∀ e d : Ex, e.size ≤ N → e.tree tm am = true → e.step m x = some d → d.tree tm am = true ∧ d.size ≤ 800 := by
 induction N using Nat.strongRecOn with
 | _ N ih =>
 intro e d hN ht h
 obtain ⟨k, n, ks⟩ := e
 obtain ⟨hk, -, -, htl⟩ := tree_parts ht
 have hs := Ex.size_eq (.mk k n ks)
 simp only [Ex.kids] at hs
 by_cases h4 : k = 4
 ·
  subst h4
  rw [Ex.step_act] at h
  obtain rfl := Option.some.inj h
  refine ⟨?_, by simp [Ex.leaf, Ex.size, Ex.sizeL]⟩
  split
  ·
   exact tree_leaf (Or.inr rfl)
  ·
   exact tree_leaf (Or.inl rfl)
 by_cases h6 : k = 6
 ·
  obtain ⟨a, b, rfl⟩ := two_kids hk (Or.inl h6)
  subst h6
  simp only [Ex.sizeL] at hs
  rw [Ex.step_sum] at h
  obtain ⟨p, hp, h⟩ := Option.bind_eq_some_iff.1 h
  obtain ⟨q, hq, h⟩ := Option.bind_eq_some_iff.1 h
  exact limE_spec h (tree_two (Or.inl rfl) (ih a.size (by omega) a p (Nat.le_refl _) (Ex.treeL_mem htl (by simp)) hp).1 (ih b.size (by omega) b q (Nat.le_refl _) (Ex.treeL_mem htl (by simp)) hq).1)
 by_cases h7 : k = 7
 ·
  obtain ⟨a, b, rfl⟩ := two_kids hk (Or.inr h7)
  subst h7
  simp only [Ex.sizeL] at hs
  rw [Ex.step_dot] at h
  obtain ⟨p, hp, h⟩ := Option.bind_eq_some_iff.1 h
  have hbt : b.tree tm am = true := Ex.treeL_mem htl (by simp)
  have hpt := (ih a.size (by omega) a p (Nat.le_refl _) (Ex.treeL_mem htl (by simp)) hp).1
  split at h
  ·
   obtain ⟨q, hq, h⟩ := Option.bind_eq_some_iff.1 h
   exact limE_spec h (tree_two (Or.inl rfl) (tree_two (Or.inr rfl) hpt hbt) (ih b.size (by omega) b q (Nat.le_refl _) hbt hq).1)
  ·
   exact limE_spec h (tree_two (Or.inr rfl) hpt hbt)
 by_cases h8 : k = 8
 ·
  subst h8
  obtain ⟨a, rfl⟩ := one_kid hk (by omega)
  simp only [Ex.sizeL] at hs
  rw [Ex.step_star] at h
  obtain ⟨p, hp, h⟩ := Option.bind_eq_some_iff.1 h
  exact limE_spec h (tree_two (Or.inr rfl) (ih a.size (by omega) a p (Nat.le_refl _) (Ex.treeL_mem htl (by simp)) hp).1 ht)
 ·
  rw [Ex.step_else h4 h6 h7 h8] at h
  obtain rfl := Option.some.inj h
  exact ⟨tree_leaf (Or.inl rfl), by simp [Ex.leaf, Ex.size, Ex.sizeL]⟩
end Go.Proofs.YtcokljhamhgelaaGreatDoor

namespace Go.Proofs.YtcokljhamhgelaaGreatDoor
set_option linter.unusedVariables false
set_option linter.unusedSimpArgs false
def hdA : List (Nat × Nat) → Nat → Nat
 | [], m => m
 | p :: _, _ => p.1
end Go.Proofs.YtcokljhamhgelaaGreatDoor

namespace Go.Proofs.YtcokljhamhgelaaGreatDoor
set_option linter.unusedVariables false
set_option linter.unusedSimpArgs false
def grid {β : Type} (f : Nat → Nat → β) (A a : Nat) : List β := ((List.range A).map fun m => (List.range a).map (f m)).flatten
theorem grid_succ {β : Type} (f : Nat → Nat → β) (A a : Nat) : grid f (A + 1) a = grid f A a ++ (List.range a).map (f A) := by
 unfold grid
 rw [List.range_succ, List.map_append, List.flatten_append]
 simp
theorem grid_len {β : Type} (f : Nat → Nat → β) (a : Nat) : ∀ A, (grid f A a).length = A * a
 | 0 => by simp [grid]
 | A + 1 => by rw [grid_succ, List.length_append, grid_len f a A, Nat.succ_mul]; simp
theorem grid_at {β : Type} (f : Nat → Nat → β) {a m k : Nat} (hk : k < a) : ∀ {A : Nat}, m < A → (grid f A a)[m * a + k]? = some (f m k)
 | 0, h => absurd h (Nat.not_lt_zero _)
 | A + 1, h => by
  rw [grid_succ]
  by_cases hm : m < A
  ·
   rw [List.getElem?_append_left]
   ·
    exact grid_at f hk hm
   ·
    rw [grid_len]
    have h1 : (m + 1) * a ≤ A * a := Nat.mul_le_mul_right a hm
    rw [Nat.succ_mul] at h1
    omega
  ·
   obtain rfl : m = A := by omega
   rw [List.getElem?_append_right (by rw [grid_len]; omega), grid_len, show m * a + k - m * a = k by omega, List.getElem?_map, List.getElem?_range hk]
   rfl
theorem grid_mem {β : Type} {f : Nat → Nat → β} {A a : Nat} {x : β} (h : x ∈ grid f A a) : ∃ m k, m < A ∧ k < a ∧ f m k = x := by
 unfold grid at h
 obtain ⟨r, hr, hx⟩ := List.mem_flatten.1 h
 obtain ⟨m, hm, rfl⟩ := List.mem_map.1 hr
 obtain ⟨k, hk, rfl⟩ := List.mem_map.1 hx
 exact ⟨m, k, List.mem_range.1 hm, List.mem_range.1 hk, rfl⟩
section
variable {α : Type} [DecidableEq α]
def curG (s : α) (f : Nat → Nat → α → Option α) (A a i : Nat) (x : α) (m k : Nat) : List α := upto (expl s (fun y => grid (fun m k => f m k y) A a) i) (grid (fun m k => f m k x) A a) (m * a + k)
variable {s : α} {f : Nat → Nat → α → Option α} {A a i : Nat} {x : α}
theorem curG_zero : curG s f A a i x 0 0 = expl s (fun y => grid (fun m k => f m k y) A a) i := by
 unfold curG
 rw [Nat.zero_mul, upto_zero]
theorem curG_line {m : Nat} : curG s f A a i x m a = curG s f A a i x (m + 1) 0 := by
 unfold curG
 rw [Nat.succ_mul, Nat.add_zero]
theorem curG_cell {m k : Nat} (hm : m < A) (hk : k < a) : curG s f A a i x m (k + 1) = grow1 (curG s f A a i x m k) (f m k x) := by
 unfold curG
 rw [← Nat.add_assoc]
 exact upto_succ (grid_at (fun m k => f m k x) hk hm)
theorem curG_all (h : (expl s (fun y => grid (fun m k => f m k y) A a) i)[i]? = some x) : curG s f A a i x A 0 = expl s (fun y => grid (fun m k => f m k y) A a) (i + 1) := by
 unfold curG
 rw [upto_all (by rw [grid_len]; omega), expl_succ h]
theorem curG_prefix {m k : Nat} (h : (expl s (fun y => grid (fun m k => f m k y) A a) i)[i]? = some x) : curG s f A a i x m k <+: expl s (fun y => grid (fun m k => f m k y) A a) (i + 1) := by
 rw [expl_succ h, ← upto_all (L := expl s (fun y => grid (fun m k => f m k y) A a) i) (ss := grid (fun m k => f m k x) A a) (Nat.le_refl _)]
 unfold curG
 by_cases hl : m * a + k ≤ (grid (fun m k => f m k x) A a).length
 ·
  exact upto_le hl
 ·
  rw [upto_all (by omega), upto_all (Nat.le_refl _)]
  exact List.prefix_refl _
theorem curG_nodup {m k : Nat} : (curG s f A a i x m k).Nodup := upto_nodup (expl_nodup _ _ _) _ _
theorem curG_old {m k : Nat} : expl s (fun y => grid (fun m k => f m k y) A a) i <+: curG s f A a i x m k := upto_prefix _ _ _
theorem growL_all {P : α → Prop} : ∀ (ss : List (Option α)) (L : List α), (∀ y ∈ L, P y) → (∀ y, some y ∈ ss → P y) → ∀ y ∈ growL L ss, P y
 | [], _, h, _ => h
 | o :: r, L, h, hs => by
  refine growL_all r (grow1 L o) (fun y hy => ?_) (fun y hy => hs y (List.mem_cons_of_mem _ hy))
  cases o with
  | none => exact h y hy
  | some z =>
   by_cases hz : z ∈ L
   ·
    rw [grow1_old hz] at hy; exact h y hy
   ·
    rw [grow1_new hz] at hy
    rcases List.mem_append.1 hy with hy | hy
    ·
     exact h y hy
    ·
     rw [List.mem_singleton] at hy
     subst hy
     exact hs y (List.mem_cons_self ..)
theorem expl_all {P : α → Prop} (hs : P s) (hf : ∀ y, P y → ∀ m k, m < A → k < a → ∀ z, f m k y = some z → P z) : ∀ i, ∀ y ∈ expl s (fun y => grid (fun m k => f m k y) A a) i, P y
 | 0 => fun y hy => by simp [expl] at hy; subst hy; exact hs
 | i + 1 => fun y hy => by
  have ih := expl_all hs hf i
  cases hx : (expl s (fun y => grid (fun m k => f m k y) A a) i)[i]? with
  | none => simp only [expl, hx] at hy; exact ih y hy
  | some x =>
   rw [expl_succ hx] at hy
   refine growL_all _ _ ih (fun z hz => ?_) y hy
   obtain ⟨m, k, hm, hk, h⟩ := grid_mem hz
   exact hf x (ih x (List.mem_of_getElem? hx)) m k hm hk z h
end
noncomputable def nxtE (m x : Nat) (e : Ex) : Option Ex := (e.step m x).bind fun d => if d.kind = 1 then none else some d
noncomputable def stL (A a : Nat) (e : Ex) (i : Nat) : List Ex := expl e.tidy (fun y => grid (fun m k => nxtE m k y) A a) i
noncomputable def stC (A a : Nat) (e : Ex) (i : Nat) (x : Ex) (m k : Nat) : List Ex := curG e.tidy nxtE A a i x m k
def stOk (A a : Nat) (e : Ex) : Prop := (stL A a e 60).length ≤ 60 ∧ ∀ y ∈ stL A a e 60, ∀ m k, m < A → k < a → y.step m k ≠ none
noncomputable def rowE (L : List Ex) (a m : Nat) (x : Ex) : List Int := (List.range a).map fun k => numO L (nxtE m k x)
noncomputable def rowsE (L : List Ex) (A a : Nat) (x : Ex) : List (List Int) := (List.range A).map fun m => rowE L a m x
noncomputable def stN (A a : Nat) (e : Ex) : List (List (List Int)) := (stL A a e 60).map (rowsE (stL A a e 60) A a)
theorem stL_spec {tm am : Int} {A a : Nat} {e : Ex} (ht : e.tree tm am = true) (hs : e.size ≤ 200) (i : Nat) : ∀ y ∈ stL A a e i, y.tree tm am = true ∧ y.size ≤ 800 := by
 refine expl_all ?_ ?_ i
 ·
  have := tidy_spec tm am _ e (Nat.le_refl _) ht
  exact ⟨this.1, by omega⟩
 ·
  intro y hy m k _ _ z hz
  unfold nxtE at hz
  obtain ⟨d, hd, h⟩ := Option.bind_eq_some_iff.1 hz
  split at h
  ·
   cases h
  ·
   obtain rfl := Option.some.inj h
   exact step_spec tm am m k _ y d (Nat.le_refl _) hy.1 hd
theorem stL_prefix {A a : Nat} {e : Ex} {i : Nat} (h : i ≤ 60) : stL A a e i <+: stL A a e 60 := expl_prefix _ _ h
theorem stL_pos (A a : Nat) (e : Ex) (i : Nat) : 1 ≤ (stL A a e i).length := expl_pos _ _ _
theorem stC_zero {A a : Nat} {e : Ex} {i : Nat} {x : Ex} : stC A a e i x 0 0 = stL A a e i := curG_zero
theorem stC_line {A a : Nat} {e : Ex} {i : Nat} {x : Ex} {m : Nat} : stC A a e i x m a = stC A a e i x (m + 1) 0 := curG_line
theorem stC_cell {A a : Nat} {e : Ex} {i : Nat} {x : Ex} {m k : Nat} (hm : m < A) (hk : k < a) : stC A a e i x m (k + 1) = grow1 (stC A a e i x m k) (nxtE m k x) := curG_cell hm hk
theorem stC_all {A a : Nat} {e : Ex} {i : Nat} {x : Ex} (h : (stL A a e i)[i]? = some x) : stC A a e i x A 0 = stL A a e (i + 1) := curG_all h
theorem stC_prefix {A a : Nat} {e : Ex} {i : Nat} {x : Ex} {m k : Nat} (h : (stL A a e i)[i]? = some x) (hi : i < 60) : stC A a e i x m k <+: stL A a e 60 := (curG_prefix h).trans (stL_prefix (by omega))
theorem stC_old {A a : Nat} {e : Ex} {i : Nat} {x : Ex} {m k : Nat} : stL A a e i <+: stC A a e i x m k := curG_old
theorem stC_nodup {A a : Nat} {e : Ex} {i : Nat} {x : Ex} {m k : Nat} : (stC A a e i x m k).Nodup := curG_nodup
theorem stC_spec {tm am : Int} {A a : Nat} {e : Ex} (ht : e.tree tm am = true) (hs : e.size ≤ 200) {i : Nat} {x : Ex} {m k : Nat} (h : (stL A a e i)[i]? = some x) (hi : i < 60) : ∀ y ∈ stC A a e i x m k, y.tree tm am = true ∧ y.size ≤ 800 :=
 fun y hy => stL_spec ht hs 60 y ((stC_prefix h hi).subset hy)
theorem stL_at {A a : Nat} {e : Ex} {i : Nat} {x : Ex} {m k : Nat} (h : (stL A a e i)[i]? = some x) : (stC A a e i x m k)[i]? = some x := prefix_get stC_old h
theorem stOk_bad {A a : Nat} {e : Ex} {i : Nat} {x : Ex} {m k : Nat} (h : (stL A a e i)[i]? = some x) (hi : i < 60) (hm : m < A) (hk : k < a) (hn : x.step m k = none) : ¬ stOk A a e :=
 fun hok => hok.2 x ((stL_prefix (by omega)).subset (List.mem_of_getElem? h)) m k hm hk hn
theorem stOk_many {A a : Nat} {e : Ex} {i : Nat} {x : Ex} {m k : Nat} (h : (stL A a e i)[i]? = some x) (hi : i < 60) (hl : 60 < (stC A a e i x m k).length) : ¬ stOk A a e :=
 fun hok => by have := prefix_length (stC_prefix (m := m) (k := k) h hi); have := hok.1; omega
theorem stOk_many' {A a : Nat} {e : Ex} {i : Nat} (hi : i ≤ 60) (hl : 60 < (stL A a e i).length) : ¬ stOk A a e :=
 fun hok => by have := prefix_length (stL_prefix (A := A) (a := a) (e := e) hi); have := hok.1; omega
theorem stL_done {A a : Nat} {e : Ex} {i : Nat} (hd : (stL A a e i).length ≤ i) (hi : i ≤ 60) : stL A a e 60 = stL A a e i := expl_stop hd 60 hi
theorem stOk_done {A a : Nat} {e : Ex} {i : Nat} (hd : (stL A a e i).length ≤ i) (hi : i ≤ 60) (hg : ∀ j x, j < i → (stL A a e j)[j]? = some x → ∀ m k, m < A → k < a → x.step m k ≠ none) : stOk A a e := by
 have hf := stL_done hd hi
 refine ⟨by rw [hf]; omega, fun y hy m k hm hk => ?_⟩
 rw [hf] at hy
 obtain ⟨j, hj⟩ := List.mem_iff_getElem?.1 hy
 have hj' := (List.getElem?_eq_some_iff.1 hj).1
 have hji : j < i := by omega
 have hpos : j < (stL A a e j).length := by
  rcases Nat.lt_or_ge j (stL A a e j).length with h | h
  ·
   exact h
  ·
   have h1 := expl_stop (s := e.tidy) (succ := fun y => grid (fun m k => nxtE m k y) A a) (k := j) h i (by omega)
   have h2 : stL A a e i = stL A a e j := h1
   rw [h2] at hj'
   omega
 have hjj : (stL A a e j)[j]? = some y := by
  have h1 : (stL A a e j)[j]? = some (stL A a e j)[j] := List.getElem?_eq_getElem hpos
  have h2 := prefix_get (expl_prefix e.tidy (fun y => grid (fun m k => nxtE m k y) A a) (show j ≤ i by omega)) h1
  have h3 : (stL A a e i)[j]? = some (stL A a e j)[j] := h2
  rw [hj] at h3
  rw [h1, ← h3]
 exact hg j y hji hjj m k hm hk
theorem numO_st {A a : Nat} {e : Ex} {i : Nat} {x : Ex} {m k m' k' : Nat} (h : (stL A a e i)[i]? = some x) (hi : i < 60) (hm : ∀ d, nxtE m' k' x = some d → d ∈ stC A a e i x m k) : numO (stC A a e i x m k) (nxtE m' k' x) = numO (stL A a e 60) (nxtE m' k' x) := by
 obtain ⟨L, hL⟩ : ∃ L, L = stL A a e 60 := ⟨_, rfl⟩
 have hp := stC_prefix (m := m) (k := k) h hi
 rw [← hL] at hp ⊢
 cases hd : nxtE m' k' x with
 | none => simp only [numO]
 | some d =>
  simp only [numO]
  rw [idxOf_prefix hp (hm d hd)]
theorem stC_mem {A a : Nat} {e : Ex} {i : Nat} {x : Ex} {m k : Nat} (hm : m < A) (hk : k < a) {d : Ex} (hd : nxtE m k x = some d) : d ∈ stC A a e i x m (k + 1) := by
 rw [stC_cell hm hk, hd]
 exact grow1_mem
theorem num_at {A a : Nat} {e : Ex} {i : Nat} {x : Ex} {m k : Nat} (h : (stL A a e i)[i]? = some x) (hi : i < 60) (hm : m < A) (hk : k < a) {d : Ex} (hd : nxtE m k x = some d) :
  ((stC A a e i x m (k + 1)).idxOf d : Int) = numO (stL A a e 60) (nxtE m k x) := by
 have := numO_st (m := m) (k := k + 1) (m' := m) (k' := k) h hi (fun d' hd' => stC_mem hm hk hd')
 rw [← this, hd]
 rfl
theorem rowE_len (L : List Ex) (a m : Nat) (x : Ex) : (rowE L a m x).length = a := by simp [rowE]
theorem rowE_take {L : List Ex} {a m k : Nat} {x : Ex} (hk : k < a) : (rowE L a m x).take (k + 1) = (rowE L a m x).take k ++ [numO L (nxtE m k x)] := by
 have hl : k < (rowE L a m x).length := by rw [rowE_len]; exact hk
 rw [List.take_succ_eq_append_getElem hl]
 simp [rowE]
theorem rowsE_len (L : List Ex) (A a : Nat) (x : Ex) : (rowsE L A a x).length = A := by simp [rowsE]
theorem rowsE_take {L : List Ex} {A a m : Nat} {x : Ex} (hm : m < A) : (rowsE L A a x).take (m + 1) = (rowsE L A a x).take m ++ [rowE L a m x] := by
 have hl : m < (rowsE L A a x).length := by rw [rowsE_len]; exact hm
 rw [List.take_succ_eq_append_getElem hl]
 simp [rowsE]
noncomputable def stR (A a : Nat) (e : Ex) (i : Nat) : List (List (List Int)) := ((stL A a e 60).take i).map (rowsE (stL A a e 60) A a)
theorem stR_succ {A a : Nat} {e : Ex} {i : Nat} {x : Ex} (h : (stL A a e i)[i]? = some x) (hi : i < 60) : stR A a e (i + 1) = stR A a e i ++ [rowsE (stL A a e 60) A a x] := by
 have h1 := prefix_get (stL_prefix (A := A) (a := a) (e := e) (show i ≤ 60 by omega)) h
 obtain ⟨hl, h2⟩ := List.getElem?_eq_some_iff.1 h1
 unfold stR
 rw [List.take_succ_eq_append_getElem hl, List.map_append, h2]
 rfl
theorem stR_done {A a : Nat} {e : Ex} {i : Nat} (hd : (stL A a e i).length ≤ i) (hi : i ≤ 60) : stR A a e i = stN A a e := by
 unfold stR stN
 rw [List.take_of_length_le (by rw [stL_done hd hi]; exact hd)]
end Go.Proofs.YtcokljhamhgelaaGreatDoor

namespace Go.Proofs.YtcokljhamhgelaaGreatDoor
set_option linter.unusedVariables false
set_option linter.unusedSimpArgs false
open Go.ChangeShapes Go.WideShapes Go.ChangeAt Go.RowKit Go.Deep
theorem Ows.split {w : World} : ∀ {cs : List D} {xs : List Value} {F : List Nat}, Ows w cs xs F → ∀ {j : Nat} {c : D}, cs[j]? = some c →
  ∃ x A G B, xs[j]? = some x ∧ F = A ++ (G ++ B) ∧ Ow w c x G ∧
   (∀ w' c' x' G', Ow w' c' x' G' → (∀ b ∈ A ++ B, w'.heap[b]? = w.heap[b]?) → Ows w' (cs.set j c') (xs.set j x') (A ++ (G' ++ B)))
 | [], _, _, _, j, c, hj => by simp at hj
 | c0 :: cs, _, _, h, j, c, hj => by
  simp only [Ows] at h
  obtain ⟨x, r, G, K, rfl, rfl, h1, h2⟩ := h
  cases j with
  | zero =>
   simp at hj
   subst hj
   refine ⟨x, [], G, K, by simp, by simp, h1, fun w' c' x' G' h' hk => ?_⟩
   simp only [List.set_cons_zero, Ows, List.nil_append]
   exact ⟨x', r, G', K, rfl, rfl, h', h2.keep fun b hb => hk b (by simpa using hb)⟩
  | succ j =>
   obtain ⟨y, A, G1, B, e1, e2, e3, e4⟩ := Ows.split h2 (j := j) (c := c) (by simpa using hj)
   subst e2
   refine ⟨y, G ++ A, G1, B, by simpa using e1, by simp, e3, fun w' c' x' G' h' hk => ?_⟩
   have := e4 w' c' x' G' h' (fun b hb => hk b (by
    rcases List.mem_append.1 hb with hb | hb
    ·
     exact List.mem_append_left _ (List.mem_append_right _ hb)
    ·
     exact List.mem_append_right _ hb))
   simp only [List.set_cons_succ, Ows]
   exact ⟨x, _, G, A ++ (G' ++ B), rfl, by simp, h1.keep fun b hb => hk b (by simp [hb]), this⟩
theorem Free.blk {w : World} {b : Nat} (h : Free w b) : ∃ t cur, Blk w b t cur := by
 obtain ⟨cur, t, h⟩ := h
 exact ⟨t, cur.toList, by simpa [Blk] using h⟩
theorem Free.set {w : World} {b : Nat} (h : Free w b) (i : Nat) (v : Value) : Free (w.setCell ⟨b, i, none⟩ v) b := by
 obtain ⟨t, cur, h⟩ := h.blk
 exact (h.set i v).free
theorem Row.set {w : World} {b o : Nat} {xs : List Value} (hf : Free w b) (h : Row w b o xs) (j : Nat) (v : Value) : Row (w.setCell ⟨b, o + j, none⟩ v) b o (xs.set j v) := by
 obtain ⟨t, cur, hb⟩ := hf.blk
 have hb' := hb.set (o + j) v
 intro i hi
 have h1 := h i (by simpa using hi)
 rw [hb.cell] at h1
 rw [hb'.cell, List.getElem?_set, List.getElem?_set]
 by_cases hij : j = i
 ·
  subst hij
  have hlen : j < xs.length := by simpa using hi
  have hcur : o + j < cur.length := by
   by_cases hc : o + j < cur.length
   ·
    exact hc
   ·
    rw [List.getElem?_eq_none (by omega), List.getElem?_eq_getElem hlen] at h1
    cases h1
  simp [hlen, hcur]
 ·
  rw [if_neg (by omega), if_neg hij, h1]
theorem Ow.cell {w : World} {size n b o len cap : Nat} {cs : List D} {F : List Nat} (h : Ow w (.sl size n cs) (.slice (some ⟨b, o, none⟩) len cap) F) (hn : F.Nodup) {j : Nat} {c : D} (hj : cs[j]? = some c) :
  ∃ x G, w.cell? ⟨b, o + j, none⟩ = some x ∧ w.frozen? ⟨b, o + j, none⟩ = false ∧ b ∈ F ∧ b < w.heap.size ∧ b ∉ G ∧ (∀ g ∈ G, g ∈ F) ∧ G.Nodup ∧ Ow w c x G ∧
   (∀ w' c', Ow w' c' x G → Only G w w' → Ow w' (.sl size n (cs.set j c')) (.slice (some ⟨b, o, none⟩) len cap) F) ∧
   (G = [] → ∀ c' x', (∀ w', Ow w' c' x' []) → Ow (w.setCell ⟨b, o + j, none⟩ x') (.sl size n (cs.set j c')) (.slice (some ⟨b, o, none⟩) len cap) F) := by
 simp only [Ow] at h
 obtain ⟨a, cap', h1, h2, h3, h4, h6, h5⟩ := h
 simp only [Value.slice.injEq] at h1
 obtain ⟨rfl, rfl, rfl⟩ := h1
 rcases h5 with ⟨h0, _⟩ | ⟨b', o', xs, K, e1, rfl, hf, hrow, hows⟩
 ·
  have := (List.getElem?_eq_some_iff.1 hj).1
  rw [h4, h0] at this
  omega
 simp only [Option.some.injEq, Addr.mk.injEq, and_true] at e1
 obtain ⟨rfl, rfl⟩ := e1
 obtain ⟨x, A, G, B, s1, s2, s3, s4⟩ := hows.split hj
 subst s2
 rw [List.nodup_cons] at hn
 obtain ⟨hnb, hnd⟩ := hn
 have hbl := hf.lt
 have ndG : G.Nodup := by
  rw [List.nodup_append, List.nodup_append] at hnd
  exact hnd.2.1.1
 have dis : ∀ g ∈ A ++ B, g ∉ G := by
  intro g hg hg'
  rw [List.nodup_append, List.nodup_append] at hnd
  rcases List.mem_append.1 hg with hg | hg
  ·
   exact hnd.2.2 g hg g (List.mem_append_left _ hg') rfl
  ·
   exact hnd.2.1.2.2 g hg' g hg rfl
 have hltAB : ∀ g ∈ A ++ B, g < w.heap.size := fun g hg => hows.lt g (by
  rcases List.mem_append.1 hg with hg | hg
  ·
   exact List.mem_append_left _ hg
  ·
   exact List.mem_append_right _ (List.mem_append_right _ hg))
 have hj' : j < xs.length := (List.getElem?_eq_some_iff.1 s1).1
 refine ⟨x, G, (hrow j hj').trans s1, hf.frozen _, List.mem_cons_self .., hbl, fun hm => hnb (List.mem_append_right _ (List.mem_append_left _ hm)), fun g hg => List.mem_cons_of_mem _ (List.mem_append_right _ (List.mem_append_left _ hg)), ndG, s3, ?_, ?_⟩
 ·
  intro w' c' hc' honly
  have hb' : w'.heap[b]? = w.heap[b]? := honly.block b hbl (fun hm => hnb (List.mem_append_right _ (List.mem_append_left _ hm)))
  have hset := s4 w' c' x G hc' (fun g hg => honly.block g (hltAB g hg) (dis g hg))
  rw [show xs.set j x = xs by
   obtain ⟨hl, hx⟩ := List.getElem?_eq_some_iff.1 s1
   rw [← hx]; exact List.set_getElem_self hl] at hset
  obtain ⟨cur, t, hcur⟩ := hf
  simp only [Ow]
  exact ⟨_, cap, rfl, h2, h3, by rw [List.length_set]; exact h4, h6, Or.inr ⟨b, o, xs, A ++ (G ++ B), rfl, rfl, ⟨cur, t, hb'.trans hcur⟩, hrow.congr hb', hset⟩⟩
 ·
  intro hG c' x' hc'
  subst hG
  have hset := s4 (w.setCell ⟨b, o + j, none⟩ x') c' x' [] (hc' _) (fun g hg => Below.heap_setCell _ _ _ _ (fun e => hnb (by
   have e' : g = b := e
   rw [← e']
   rcases List.mem_append.1 hg with hg | hg
   ·
    exact List.mem_append_left _ hg
   ·
    exact List.mem_append_right _ (List.mem_append_right _ hg))))
  simp only [Ow]
  exact ⟨_, cap, rfl, h2, h3, by rw [List.length_set]; exact h4, h6, Or.inr ⟨b, o, _, _, rfl, rfl, hf.set _ _, hrow.set hf j x', hset⟩⟩
theorem Ow.int_cell {w : World} {size n b o len cap : Nat} {cs : List D} {F : List Nat} (h : Ow w (.sl size n cs) (.slice (some ⟨b, o, none⟩) len cap) F) (hn : F.Nodup) {j : Nat} {z : Int} (hj : cs[j]? = some (.int z)) :
  w.cell? ⟨b, o + j, none⟩ = some (.int .i64 z) ∧ w.frozen? ⟨b, o + j, none⟩ = false ∧ b < w.heap.size ∧
   (∀ z' : Int, Ow (w.setCell ⟨b, o + j, none⟩ (.int .i64 z')) (.sl size n (cs.set j (.int z'))) (.slice (some ⟨b, o, none⟩) len cap) F ∧ Only F w (w.setCell ⟨b, o + j, none⟩ (.int .i64 z'))) := by
 obtain ⟨x, G, h1, h2, h3, h4, h5, h6, h7, h8, h9, h10⟩ := h.cell hn hj
 simp only [Ow] at h8
 obtain ⟨rfl, rfl⟩ := h8
 exact ⟨h1, h2, h4, fun z' => ⟨h10 rfl _ _ (fun _ => Ow.int _), (Only.refl F w).setCell h3 _⟩⟩
theorem ints_at {zs : List Int} {i : Nat} {z : Int} (h : zs[i]? = some z) : (zs.map D.int)[i]? = some (D.int z) := by rw [List.getElem?_map, h]; rfl
end Go.Proofs.YtcokljhamhgelaaGreatDoor

namespace Go.Proofs.YtcokljhamhgelaaGreatDoor
set_option linter.unusedVariables false
set_option linter.unusedSimpArgs false
open Go.ChangeShapes Go.WideShapes Go.ChangeAt Go.RowKit Go.Deep
def nestD {α : Type} (f : α → D) (xs : List α) : D := .sl 1 xs.length (xs.map f)
def boolsD (bs : List Bool) : D := nestD D.bool bs
def bbD (xs : List (List Bool)) : D := nestD boolsD xs
def iiD (xs : List (List Int)) : D := nestD intsD xs
def iiiD (xs : List (List (List Int))) : D := nestD iiD xs
section
variable {α : Type}
variable {w : World} {f : α → D} {xs : List α}
theorem nest_in {b o len cap : Nat} (h : Rd w (nestD f xs) (.slice (some ⟨b, o, none⟩) len cap)) {i : Nat} {x : α} (hx : xs[i]? = some x) : b < w.heap.size ∧ ∃ v, w.cell? ⟨b, o + i, none⟩ = some v ∧ Rd w (f x) v := by
 obtain ⟨_, _, _, _, _, h4⟩ := Rd.sl_at h
 rcases h4 with h4 | ⟨b', o', e1, h4⟩
 ·
  have := (List.getElem?_eq_some_iff.1 hx).1
  omega
 ·
  simp only [Option.some.injEq, Addr.mk.injEq, and_true] at e1
  obtain ⟨rfl, rfl⟩ := e1
  obtain ⟨v, h5, h6⟩ := h4 i (f x) (by rw [List.getElem?_map, hx]; rfl)
  exact ⟨World.block_lt_of_cell? w _ h5, v, h5, h6⟩
theorem nest_some {a : Option Addr} {len cap : Nat} (h : Rd w (nestD f xs) (.slice a len cap)) (hk : 0 < xs.length) : ∃ b o, a = some ⟨b, o, none⟩ := by
 obtain ⟨_, _, _, _, _, h4⟩ := Rd.sl_at h
 rcases h4 with h4 | ⟨b, o, e, _⟩
 ·
  omega
 ·
  exact ⟨b, o, e⟩
theorem nest_bd {a : Option Addr} {len cap : Nat} (h : Rd w (nestD f xs) (.slice a len cap)) : xs.length ≤ cap ∧ cap ≤ maxLen := by
 obtain ⟨_, h2, h3, _⟩ := Rd.sl_at h
 exact ⟨h2, h3⟩
theorem nest_sl {β : Type} {g : β → D} {ys : List (List β)} {b o len cap : Nat} (h : Rd w (nestD (nestD g) ys) (.slice (some ⟨b, o, none⟩) len cap)) {i : Nat} {x : List β} (hx : ys[i]? = some x) :
  b < w.heap.size ∧ ∃ s c, w.cell? ⟨b, o + i, none⟩ = some (.slice s x.length c) ∧ Rd w (nestD g x) (.slice s x.length c) := by
 obtain ⟨h1, v, h2, h3⟩ := nest_in h hx
 obtain ⟨s, c, rfl, _⟩ := Rd.slice h3
 exact ⟨h1, s, c, h2, h3⟩
theorem bool_in {bs : List Bool} {b o len cap : Nat} (h : Rd w (boolsD bs) (.slice (some ⟨b, o, none⟩) len cap)) {i : Nat} {z : Bool} (hz : bs[i]? = some z) : b < w.heap.size ∧ w.cell? ⟨b, o + i, none⟩ = some (.bool z) := by
 obtain ⟨h1, v, h2, h3⟩ := nest_in h hz
 simp only [Rd] at h3
 subst h3
 exact ⟨h1, h2⟩
end
theorem take_same {α : Type} {xs ys : List α} {k : Nat} {x : α} (hx : xs[k]? = some x) (hy : ys[k]? = some x) (h : xs.take k = ys.take k) : xs.take (k + 1) = ys.take (k + 1) := by
 obtain ⟨h1, e1⟩ := List.getElem?_eq_some_iff.1 hx
 obtain ⟨h2, e2⟩ := List.getElem?_eq_some_iff.1 hy
 rw [List.take_succ_eq_append_getElem h1, List.take_succ_eq_append_getElem h2, h, e1, e2]
end Go.Proofs.YtcokljhamhgelaaGreatDoor

namespace Go.Proofs.YtcokljhamhgelaaGreatDoor
set_option linter.unusedVariables false
set_option linter.unusedSimpArgs false
open Go.ChangeShapes Go.WideShapes Go.ChangeAt Go.RowKit Go.Deep
def App (W w : World) (t : TypeId) (size n : Nat) (ds : List D) (v : Value) : Prop :=
 ∃ xs F, w.ownsRow W.heap.size t size v n xs ∧ Ows w ds xs F ∧ F.Nodup ∧ ∀ b ∈ F, W.heap.size ≤ b ∧ v.ownBlock ≠ some b
theorem App.nil {W w : World} {t size : Nat} : App W w t size 0 [] (.slice none 0 0) := ⟨[], [], World.ownsRow_nil _ _ _ _, Ows.nil, by simp, by simp⟩
theorem App.empty {W w : World} {t size g : Nat} (h : Blk w g t []) (hg : W.heap.size ≤ g) : App W w t size 0 [] (.slice (some ⟨g, 0, none⟩) 0 0) :=
 ⟨[], [], ⟨by simp, Or.inr ⟨g, 0, #[], rfl, hg, by simpa [Blk] using h, by omega, by simp [maxLen], by simp, by simp⟩⟩, Ows.nil, by simp, by simp⟩
theorem App.len {W w : World} {t size n : Nat} {ds : List D} {v : Value} (h : App W w t size n ds v) : ds.length = n * size := by
 obtain ⟨xs, F, h1, h2, _⟩ := h
 rw [← h2.length, h1.1]
theorem App.shape {W w : World} {t size n : Nat} {ds : List D} {v : Value} (h : App W w t size n ds v) : ∃ a cap, v = .slice a n cap ∧ n ≤ cap ∧ cap ≤ maxLen := by
 obtain ⟨xs, F, ⟨_, h1⟩, _⟩ := h
 rcases h1 with ⟨rfl, rfl⟩ | ⟨g, cap, cur, rfl, _, _, h2, h3, _⟩
 ·
  exact ⟨none, 0, rfl, by omega, by simp [maxLen]⟩
 ·
  exact ⟨_, cap, rfl, h2, h3⟩
theorem App.lt {W w : World} {t size n : Nat} {ds : List D} {v : Value} (h : App W w t size n ds v) : ∀ k, v.ownBlock = some k → W.heap.size ≤ k ∧ k < w.heap.size := by
 obtain ⟨xs, F, h1, _⟩ := h
 exact h1.lt
theorem App.keep {W w w' : World} {t size n : Nat} {ds : List D} {v : Value} (h : App W w t size n ds v) (hk : ∀ b, b < w.heap.size → W.heap.size ≤ b → w'.heap[b]? = w.heap[b]?) : App W w' t size n ds v := by
 obtain ⟨xs, F, h1, h2, h3, h4⟩ := h
 refine ⟨xs, F, ⟨h1.1, ?_⟩, h2.keep fun b hb => hk b (h2.lt b hb) (h4 b hb).1, h3, h4⟩
 rcases h1.2 with h | ⟨g, cap, cur, e, hg, hb, hr⟩
 ·
  exact Or.inl h
 ·
  exact Or.inr ⟨g, cap, cur, e, hg, (hk g (Array.getElem?_eq_some_iff.1 hb).1 hg).trans hb, hr⟩
theorem App.below {W w w' : World} {t size n : Nat} {ds : List D} {v : Value} (h : App W w t size n ds v) (hb : Below w.heap.size w w') : App W w' t size n ds v := h.keep fun b hl _ => hb.block b hl
theorem App.fresh {W w : World} {t size n : Nat} {ds : List D} {v : Value} (h : App W w t size n ds v) : Fresh W w (.sl size n ds) v := by
 have hlen := h.len
 obtain ⟨xs, F, h1, h2, h3, h4⟩ := h
 have hxl := h1.1
 rcases h1.2 with ⟨rfl, rfl⟩ | ⟨g, cap, cur, rfl, hg, hb, h5, h6, h7, h8⟩
 ·
  exact ⟨[], by simp only [Ow]; exact ⟨_, 0, rfl, by omega, by simp [maxLen], hlen, by simp, Or.inl (by simp)⟩, by simp, by simp⟩
 ·
  by_cases h0 : n = 0
  ·
   exact ⟨[], by simp only [Ow]; exact ⟨_, cap, rfl, h5, h6, hlen, by simp, Or.inl (by simp [h0])⟩, by simp, by simp⟩
  ·
   have hblk : Blk w g t cur.toList := by simpa [Blk] using hb
   refine ⟨g :: F, by simp only [Ow]; exact ⟨_, cap, rfl, h5, h6, hlen, by simp, Or.inr ⟨g, 0, xs, F, rfl, rfl, hblk.free, hblk.row (by rw [hxl]; exact h8), h2⟩⟩, ?_, ?_⟩
   ·
    rw [List.nodup_cons]
    exact ⟨fun hm => (h4 g hm).2 rfl, h3⟩
   ·
    intro b hm
    rcases List.mem_cons.1 hm with rfl | hm
    ·
     exact hg
    ·
     exact (h4 b hm).1
theorem App.rd {W w : World} {t size n : Nat} {ds : List D} {v : Value} (h : App W w t size n ds v) : Rd w (.sl size n ds) v := h.fresh.rd
theorem wpList_append_app {P : Program} (w : World) {ops : Array Oper} {rest : List Oper} {o : Oper} {a : Act} {Q : Exit → Act → World → Prop} (hgd : o.guard = none) (s x : Operand) (t : TypeId)
  (ho : o.op = .call { callee := .builtin .append, args := #[s, x], argTypes := #[t, t] })
  (e : TypeId) (z : Value) (size bytes : Nat) (ht : P.underlying t = some (.slice e)) (hinfo : (P.info? e).map (fun i => (i.zero, i.size, i.bytes)) = some (some z, size, bytes)) (hzs : z.cells.size = size) (hsz : 0 < size)
  {W w1 : World} (v : Value) {n : Nat} {ds : List D} (hs : a.eval s = v) (happ : App W w1 e size n ds v) (hb : Below w1.heap.size w1 w) (hB : W.heap.size ≤ w1.heap.size)
  (ad : Addr) (m c : Nat) {es : List D} (news : List Value) (hx : a.eval x = .slice (some ad) m c) (hnews : ∀ j u, news[j]? = some u → w.cell? (ad.add j) = some u) (hes : Freshs w1 w es news)
  (hl : news.length = m * size) (h1 : ∀ u ∈ news, u.oneCell' = true) (hm : 0 < m) (hbytes : (n + m) * bytes ≤ 140737488355328) (h63 : n + m ≤ maxLen)
  (h : ∀ g cap w', App W w' e size (n + m) (ds ++ es) (.slice (some ⟨g, 0, none⟩) (n + m) cap) → Below W.heap.size w w' → wpList P ops Q rest (a.put o.dst (.slice (some ⟨g, 0, none⟩) (n + m) cap)) w') : wpList P ops Q (o :: rest) a w := by
 obtain ⟨i, hi, hz, hsize, hby⟩ := info_parts hinfo
 have hz1 := hb.size
 obtain ⟨xs, F, a1, a2, a3, a4⟩ := happ.below hb
 have a5 := happ.lt
 obtain ⟨G, g1, g2, g3⟩ := hes
 obtain ⟨xs', F', b1, b2, b3, b4⟩ := happ
 -- the same cells and blocks as in w1
 have a6 : ∀ b ∈ F', b < w1.heap.size := b2.lt
 have b1' : w.ownsRow W.heap.size e size v n xs' := by
  refine ⟨b1.1, ?_⟩
  rcases b1.2 with h | ⟨g, cap, cur, q, hg, hbb, hr⟩
  ·
   exact Or.inl h
  ·
   exact Or.inr ⟨g, cap, cur, q, hg, (hb.block g (Array.getElem?_eq_some_iff.1 hbb).1).trans hbb, hr⟩
 have b2' : Ows w ds xs' F' := b2.keep fun b hb' => hb.block b (a6 b hb')
 refine wpList_append_lies w hgd s x t ho W.heap.size e i z size bytes ht hi hz hsize hby hzs hsz v n xs' hs b1' ad m c news hx hl hnews h1 hm h63 hbytes (by omega) w.heap.size rfl ?_
 intro g cap w' k1 k2 k3 k4
 have hF : ∀ b ∈ F', some b ≠ v.ownBlock := fun b hb' e => (b4 b hb').2 e.symm
 have hG : ∀ b ∈ G, some b ≠ v.ownBlock := fun b hb' e => by have := (a5 b e.symm).2; have := g3 b hb'; omega
 refine h g cap w' ⟨xs' ++ news, F' ++ G, k1, Ows.append (b2'.keep fun b hb' => k2.block b (b2'.lt b hb') (hF b hb')) (g1.keep fun b hb' => k2.block b (g1.lt b hb') (hG b hb')), ?_, ?_⟩ ⟨k2.os, k2.tape, k2.output, k2.size, fun b hb' => k2.block b (by omega) (fun e => by have := (a5 b e.symm).1; omega)⟩
 ·
  rw [List.nodup_append]
  refine ⟨b3, g2, fun p hp q hq hpq => ?_⟩
  subst hpq
  have := a6 p hp
  have := g3 p hq
  omega
 ·
  intro b hm'
  have hgb : ∀ b, some b ≠ v.ownBlock → b < w.heap.size → Value.ownBlock (.slice (some ⟨g, 0, none⟩) (n + m) cap) ≠ some b := by
   intro b hne hlt e
   simp only [Value.ownBlock, Option.some.injEq] at e
   subst e
   rcases k3 with k3 | k3
   ·
    exact hne k3.symm
   ·
    omega
  rcases List.mem_append.1 hm' with hm' | hm'
  ·
   exact ⟨(b4 b hm').1, hgb b (hF b hm') (b2'.lt b hm')⟩
  ·
   exact ⟨by have := g3 b hm'; omega, hgb b (hG b hm') (g1.lt b hm')⟩
theorem Freshs.int {w w' : World} (z : Int) : Freshs w w' [.int z] [.int .i64 z] := ⟨[], Ows.cons (Ow.int z) Ows.nil, by simp, by simp⟩
end Go.Proofs.YtcokljhamhgelaaGreatDoor
