/-
  Parts of a proof, joined: TidyP, DerP, CbP, App, Aps, Rdx. No condition.
-/
import Derived.Deep.AppendLies
import Derived.Test.YtcokljhamhgelaaGreatDoorPk7
namespace Go.Proofs.YtcokljhamhgelaaGreatDoor
set_option linter.unusedVariables false
set_option linter.unusedSimpArgs false
noncomputable instance exDec : DecidableEq Ex := fun a b => Classical.propDecidable (a = b)
def Ex.two (k : Int) (a b : Ex) : Ex := .mk k 0 [a, b]
def Ex.leaf (k : Int) : Ex := .mk k 0 []
def summC (k n : Int) (ks : List Ex) (rs : List (List Ex)) : List Ex := if k = 1 then [] else if k = 6 then rs.flatten else [.mk k n ks]
mutual
def Ex.summ : Ex → List Ex
 | .mk k n ks => summC k n ks (Ex.summL ks)
def Ex.summL : List Ex → List (List Ex)
 | [] => []
 | e :: r => e.summ :: Ex.summL r
end
theorem Ex.summ_zero {n : Int} {ks : List Ex} : (Ex.mk 1 n ks).summ = [] := by simp [Ex.summ, summC]
theorem Ex.summ_sum {n : Int} {a b : Ex} : (Ex.mk 6 n [a, b]).summ = a.summ ++ b.summ := by simp [Ex.summ, summC, Ex.summL]
theorem Ex.summ_else {k n : Int} {ks : List Ex} (h1 : k ≠ 1) (h6 : k ≠ 6) : (Ex.mk k n ks).summ = [.mk k n ks] := by simp [Ex.summ, summC, h1, h6]
def sizes (L : List Ex) : Nat := (L.map Ex.size).sum
theorem sizes_append (a b : List Ex) : sizes (a ++ b) = sizes a + sizes b := by simp [sizes]
theorem summ_spec (tm am : Int) (N : Nat) : ∀ e : Ex, e.size ≤ N → e.tree tm am = true → (∀ x ∈ e.summ, x.tree tm am = true ∧ x.size ≤ e.size) ∧ sizes e.summ + e.summ.length ≤ e.size + 1 := by
 induction N using Nat.strongRecOn with
 | _ N ih =>
 intro e hN ht
 obtain ⟨k, n, ks⟩ := e
 by_cases h1 : k = 1
 ·
  subst h1
  rw [Ex.summ_zero]
  simp [sizes]
 by_cases h6 : k = 6
 ·
  subst h6
  obtain ⟨hk, -, -, htl⟩ := tree_parts ht
  obtain ⟨a, b, rfl⟩ := two_kids hk (by omega)
  have hs := Ex.size_eq (.mk 6 n [a, b])
  simp only [Ex.kids, Ex.sizeL] at hs
  obtain ⟨a1, a2⟩ := ih a.size (by omega) a (Nat.le_refl _) (Ex.treeL_mem htl (by simp))
  obtain ⟨b1, b2⟩ := ih b.size (by omega) b (Nat.le_refl _) (Ex.treeL_mem htl (by simp))
  rw [Ex.summ_sum]
  refine ⟨fun x hx => ?_, by rw [sizes_append, List.length_append]; omega⟩
  rcases List.mem_append.1 hx with hx | hx
  ·
   exact ⟨(a1 x hx).1, by have := (a1 x hx).2; omega⟩
  ·
   exact ⟨(b1 x hx).1, by have := (b1 x hx).2; omega⟩
 ·
  rw [Ex.summ_else h1 h6]
  refine ⟨fun x hx => ?_, by simp [sizes]⟩
  rw [List.mem_singleton] at hx
  subst hx
  exact ⟨ht, Nat.le_refl _⟩
def Ex.lt (a b : Ex) : Bool := decide (a.text < b.text)
def insT (e : Ex) (L : List Ex) : List Ex := L.takeWhile (fun x => Ex.lt x e) ++ e :: L.dropWhile (fun x => x.lt e)
def sortI (L : List Ex) : List Ex := L.foldl (fun acc e => insT e acc) []
theorem insT_perm (e : Ex) (L : List Ex) : (insT e L).Perm (e :: L) := by
 unfold insT
 refine List.perm_middle.trans ?_
 rw [List.takeWhile_append_dropWhile]
theorem sortI_perm_aux : ∀ (L acc : List Ex), (L.foldl (fun acc e => insT e acc) acc).Perm (acc ++ L)
 | [], acc => by simp
 | e :: r, acc => by
  refine (sortI_perm_aux r (insT e acc)).trans ?_
  refine ((insT_perm e acc).append_right r).trans ?_
  exact (List.perm_middle (a := e) (l₁ := acc) (l₂ := r)).symm
theorem sortI_perm (L : List Ex) : (sortI L).Perm L := by have := sortI_perm_aux L []; rwa [List.nil_append] at this
def leT (a b : Ex) : Prop := ¬ b.text < a.text
theorem leT_trans {a b c : Ex} (h : leT a b) (k : leT b c) : leT a c := by
 unfold leT at *
 rw [List.not_lt] at *
 exact List.le_trans h k
theorem leT_of_lt {a b : Ex} (h : a.text < b.text) : leT a b := List.lt_asymm h
theorem insT_sorted (e : Ex) : ∀ L : List Ex, L.Pairwise leT → (insT e L).Pairwise leT
 | [], _ => by simp [insT]
 | x :: r, h => by
  rw [List.pairwise_cons] at h
  unfold insT
  by_cases hx : x.lt e = true
  ·
   rw [List.takeWhile_cons_of_pos (p := fun x => Ex.lt x e) hx, List.dropWhile_cons_of_pos (p := fun x => Ex.lt x e) hx, List.cons_append, List.pairwise_cons]
   refine ⟨fun y hy => ?_, insT_sorted e r h.2⟩
   have hy' : y ∈ insT e r := hy
   rcases List.mem_cons.1 ((insT_perm e r).mem_iff.1 hy') with rfl | hy2
   ·
    exact leT_of_lt (by simpa [Ex.lt] using hx)
   ·
    exact h.1 y hy2
  ·
   rw [List.takeWhile_cons_of_neg (p := fun x => Ex.lt x e) hx, List.dropWhile_cons_of_neg (p := fun x => Ex.lt x e) hx, List.nil_append, List.pairwise_cons]
   have hxe : leT e x := by simpa [Ex.lt, leT] using hx
   refine ⟨fun y hy => ?_, List.pairwise_cons.2 h⟩
   rcases List.mem_cons.1 hy with rfl | hy
   ·
    exact hxe
   ·
    exact leT_trans hxe (h.1 y hy)
theorem sortI_sorted_aux : ∀ (L acc : List Ex), acc.Pairwise leT → (L.foldl (fun acc e => insT e acc) acc).Pairwise leT
 | [], _, h => h
 | e :: r, acc, h => sortI_sorted_aux r _ (insT_sorted e acc h)
theorem sortI_sorted (L : List Ex) : (sortI L).Pairwise leT := sortI_sorted_aux L [] List.Pairwise.nil
theorem sortI_unique {tm am : Int} (ht : tm ≤ 8) (ha : am ≤ 8) {L M : List Ex} (hL : ∀ x ∈ L, x.tree tm am = true) (hp : M.Perm L) (hs : M.Pairwise leT) : M = sortI L := by
 refine List.Perm.eq_of_pairwise (le := leT) (fun a b h1 h2 h3 h4 => ?_) hs (sortI_sorted L) (hp.trans (sortI_perm L).symm)
 have ha' := hL a (hp.mem_iff.1 h1)
 have hb' := hL b ((sortI_perm L).mem_iff.1 h2)
 unfold leT at h3 h4
 rw [List.not_lt] at h3 h4
 exact text_inj ht ha ha' hb' (List.le_antisymm h3 h4)
noncomputable def nub (L : List Ex) : List Ex := growL [] (L.map some)
def foldS : List Ex → Ex
 | [] => .leaf 1
 | x :: r => r.foldl (fun a b => .two 6 a b) x
noncomputable def sumT (x y : Ex) : Ex := foldS (sortI (nub (x.summ ++ y.summ)))
theorem growL_mem {α : Type} [DecidableEq α] : ∀ (ss : List α) (L : List α) (x : α), x ∈ growL L (ss.map some) ↔ x ∈ L ∨ x ∈ ss
 | [], L, x => by simp [growL]
 | s :: r, L, x => by
  show x ∈ growL (grow1 L (some s)) (r.map some) ↔ _
  rw [growL_mem r]
  by_cases h : s ∈ L
  ·
   rw [grow1_old h]
   constructor
   ·
    rintro (q | q); exact Or.inl q; exact Or.inr (List.mem_cons_of_mem _ q)
   ·
    rintro (q | q)
    ·
     exact Or.inl q
    ·
     rcases List.mem_cons.1 q with rfl | q; exact Or.inl h; exact Or.inr q
  ·
   rw [grow1_new h]
   simp [or_assoc]
theorem nub_mem {L : List Ex} {x : Ex} : x ∈ nub L ↔ x ∈ L := by unfold nub; rw [growL_mem]; simp
theorem grow_sizes : ∀ (ss : List Ex) (L : List Ex), sizes (growL L (ss.map some)) + (growL L (ss.map some)).length ≤ sizes L + L.length + (sizes ss + ss.length)
 | [], L => by simp [growL, sizes]
 | s :: r, L => by
  show sizes (growL (grow1 L (some s)) (r.map some)) + (growL (grow1 L (some s)) (r.map some)).length ≤ _
  have := grow_sizes r (grow1 L (some s))
  have h2 : sizes (s :: r) = s.size + sizes r := by simp [sizes]
  have h3 : sizes (grow1 L (some s)) + (grow1 L (some s)).length ≤ sizes L + L.length + (s.size + 1) := by
   by_cases h : s ∈ L
   ·
    rw [grow1_old h]; omega
   ·
    rw [grow1_new h, sizes_append, List.length_append]
    simp [sizes]
    omega
  rw [h2, List.length_cons]
  omega
theorem nub_sizes (L : List Ex) : sizes (nub L) + (nub L).length ≤ sizes L + L.length := by
 have := grow_sizes L []
 simpa [nub, sizes] using this
theorem foldS_size : ∀ (r : List Ex) (x : Ex), (r.foldl (fun a b => Ex.two 6 a b) x).size = x.size + sizes r + r.length
 | [], x => by simp [sizes]
 | e :: r, x => by
  rw [List.foldl_cons, foldS_size r]
  have : (Ex.two 6 x e).size = 1 + (x.size + e.size) := by rw [Ex.size_eq]; simp [Ex.two, Ex.kids, Ex.sizeL]
  simp [this, sizes]
  omega
theorem sizes_perm {L M : List Ex} (h : L.Perm M) : sizes L = sizes M := List.Perm.sum_nat (h.map Ex.size)
theorem tree_two {tm am k : Int} {a b : Ex} (hk : k = 6 ∨ k = 7) (ha : a.tree tm am = true) (hb : b.tree tm am = true) : (Ex.two k a b).tree tm am = true := by
 rcases hk with rfl | rfl <;> simp [Ex.two, Ex.tree, Ex.treeL, ha, hb, nodeB, kidsN, numB]
theorem tree_leaf {tm am k : Int} (hk : k = 1 ∨ k = 2) : (Ex.leaf k).tree tm am = true := by
 rcases hk with rfl | rfl <;> simp [Ex.leaf, Ex.tree, Ex.treeL, nodeB, kidsN, numB]
theorem foldS_tree {tm am : Int} : ∀ (r : List Ex) (x : Ex), x.tree tm am = true → (∀ y ∈ r, y.tree tm am = true) → (r.foldl (fun a b => Ex.two 6 a b) x).tree tm am = true
 | [], x, h, _ => h
 | e :: r, x, h, hr => foldS_tree r _ (tree_two (Or.inl rfl) h (hr e (by simp))) (fun y hy => hr y (by simp [hy]))
theorem sumT_spec {tm am : Int} {x y : Ex} (hx : x.tree tm am = true) (hy : y.tree tm am = true) : (sumT x y).tree tm am = true ∧ (sumT x y).size ≤ 1 + x.size + y.size := by
 obtain ⟨x1, x2⟩ := summ_spec tm am _ x (Nat.le_refl _) hx
 obtain ⟨y1, y2⟩ := summ_spec tm am _ y (Nat.le_refl _) hy
 have hm : ∀ z ∈ sortI (nub (x.summ ++ y.summ)), z.tree tm am = true := fun z hz => by
  have := nub_mem.1 ((sortI_perm _).mem_iff.1 hz)
  rcases List.mem_append.1 this with h | h
  ·
   exact (x1 z h).1
  ·
   exact (y1 z h).1
 have hs := nub_sizes (x.summ ++ y.summ)
 rw [sizes_append, List.length_append, ← sizes_perm (sortI_perm (nub _)), ← (sortI_perm (nub _)).length_eq] at hs
 unfold sumT
 generalize sortI (nub (x.summ ++ y.summ)) = L at hm hs
 cases L with
 | nil => exact ⟨tree_leaf (Or.inl rfl), by simp [foldS, Ex.leaf, Ex.size, Ex.sizeL]; omega⟩
 | cons z r =>
  refine ⟨foldS_tree r z (hm z (by simp)) (fun q hq => hm q (by simp [hq])), ?_⟩
  show (r.foldl (fun a b => Ex.two 6 a b) z).size ≤ _
  rw [foldS_size]
  have hz : sizes (z :: r) = z.size + sizes r := by simp [sizes]
  rw [hz, List.length_cons] at hs
  omega
def dotC (k n : Int) (ks : List Ex) (fs : List (Ex → Ex)) (y : Ex) : Ex :=
 if k = 1 ∨ y.kind = 1 then .leaf 1 else if k = 2 then y else if y.kind = 2 then .mk k n ks
 else if k = 7 then fs.foldr (fun f z => f z) y else .two 7 (.mk k n ks) y
mutual
def Ex.dot : Ex → Ex → Ex
 | .mk k n ks => fun y => dotC k n ks (Ex.dotL ks) y
def Ex.dotL : List Ex → List (Ex → Ex)
 | [] => []
 | e :: r => e.dot :: Ex.dotL r
end
theorem Ex.dot_eq (k n : Int) (ks : List Ex) (y : Ex) : (Ex.mk k n ks).dot y = dotC k n ks (Ex.dotL ks) y := by simp only [Ex.dot]
theorem Ex.dot_seven {n : Int} {a b y : Ex} (h1 : y.kind ≠ 1) (h2 : y.kind ≠ 2) : (Ex.mk 7 n [a, b]).dot y = a.dot (b.dot y) := by
 rw [Ex.dot_eq]
 simp [dotC, h1, h2, Ex.dotL]
theorem dot_spec (tm am : Int) (N : Nat) : ∀ x y : Ex, x.size ≤ N → x.tree tm am = true → y.tree tm am = true → (x.dot y).tree tm am = true ∧ (x.dot y).size ≤ 1 + x.size + y.size := by
 induction N using Nat.strongRecOn with
 | _ N ih =>
 intro x y hN hx hy
 obtain ⟨k, n, ks⟩ := x
 have hs := Ex.size_eq (.mk k n ks)
 simp only [Ex.kids] at hs
 by_cases h1 : k = 1 ∨ y.kind = 1
 ·
  rw [Ex.dot_eq, dotC, if_pos h1]
  exact ⟨tree_leaf (Or.inl rfl), by simp [Ex.leaf, Ex.size, Ex.sizeL]; omega⟩
 by_cases h2 : k = 2
 ·
  rw [Ex.dot_eq, dotC, if_neg h1, if_pos h2]
  exact ⟨hy, by omega⟩
 by_cases h3 : y.kind = 2
 ·
  rw [Ex.dot_eq, dotC, if_neg h1, if_neg h2, if_pos h3]
  exact ⟨hx, by omega⟩
 by_cases h7 : k = 7
 ·
  subst h7
  obtain ⟨hk, -, -, htl⟩ := tree_parts hx
  obtain ⟨a, b, rfl⟩ := two_kids hk (by omega)
  simp only [Ex.sizeL] at hs
  obtain ⟨b1, b2⟩ := ih b.size (by omega) b y (Nat.le_refl _) (Ex.treeL_mem htl (by simp)) hy
  obtain ⟨a1, a2⟩ := ih a.size (by omega) a (b.dot y) (Nat.le_refl _) (Ex.treeL_mem htl (by simp)) b1
  rw [Ex.dot_seven (by omega) h3]
  exact ⟨a1, by omega⟩
 ·
  rw [Ex.dot_eq, dotC, if_neg h1, if_neg h2, if_neg h3, if_neg h7]
  exact ⟨tree_two (Or.inr rfl) hx hy, by rw [Ex.size_eq]; simp [Ex.two, Ex.kids, Ex.sizeL]; omega⟩
def Ex.star (x : Ex) : Ex := if x.cond = true then .leaf 2 else if x.kind = 8 then x else .mk 8 0 [x]
theorem star_spec {tm am : Int} {x : Ex} (hx : x.tree tm am = true) : x.star.tree tm am = true ∧ x.star.size ≤ 1 + x.size := by
 unfold Ex.star
 split
 ·
  exact ⟨tree_leaf (Or.inr rfl), by simp [Ex.leaf, Ex.size, Ex.sizeL]⟩
 split
 ·
  exact ⟨hx, by omega⟩
 ·
  exact ⟨by simp [Ex.tree, Ex.treeL, hx, nodeB, kidsN, numB], by simp [Ex.size, Ex.sizeL]⟩
noncomputable def tidyC (k n : Int) (ks ts : List Ex) : Ex :=
 if k = 6 then sumT (ts.getD 0 (.leaf 1)) (ts.getD 1 (.leaf 1)) else if k = 7 then (ts.getD 0 (.leaf 1)).dot (ts.getD 1 (.leaf 1)) else if k = 8 then (ts.getD 0 (.leaf 1)).star else .mk k n ks
mutual
noncomputable def Ex.tidy : Ex → Ex
 | .mk k n ks => tidyC k n ks (Ex.tidyL ks)
noncomputable def Ex.tidyL : List Ex → List Ex
 | [] => []
 | e :: r => e.tidy :: Ex.tidyL r
end
theorem Ex.tidy_eq (k n : Int) (ks : List Ex) : (Ex.mk k n ks).tidy = tidyC k n ks (Ex.tidyL ks) := by simp only [Ex.tidy]
theorem Ex.tidy_sum {n : Int} {a b : Ex} : (Ex.mk 6 n [a, b]).tidy = sumT a.tidy b.tidy := by rw [Ex.tidy_eq]; simp [tidyC, Ex.tidyL]
theorem Ex.tidy_dot {n : Int} {a b : Ex} : (Ex.mk 7 n [a, b]).tidy = a.tidy.dot b.tidy := by rw [Ex.tidy_eq]; simp [tidyC, Ex.tidyL]
theorem Ex.tidy_star {n : Int} {a : Ex} : (Ex.mk 8 n [a]).tidy = a.tidy.star := by rw [Ex.tidy_eq]; simp [tidyC, Ex.tidyL]
theorem Ex.tidy_else {k n : Int} {ks : List Ex} (h6 : k ≠ 6) (h7 : k ≠ 7) (h8 : k ≠ 8) : (Ex.mk k n ks).tidy = .mk k n ks := by rw [Ex.tidy_eq, tidyC, if_neg h6, if_neg h7, if_neg h8]
theorem tidy_spec (tm am : Int) (N : Nat) : ∀ e : Ex, e.size ≤ N → e.tree tm am = true → e.tidy.tree tm am = true ∧ e.tidy.size ≤ e.size := by
 induction N using Nat.strongRecOn with
 | _ N ih =>
 intro e hN ht
 obtain ⟨k, n, ks⟩ := e
 obtain ⟨hk, -, -, htl⟩ := tree_parts ht
 have hs := Ex.size_eq (.mk k n ks)
 simp only [Ex.kids] at hs
 by_cases h67 : k = 6 ∨ k = 7
 ·
  obtain ⟨a, b, rfl⟩ := two_kids hk h67
  simp only [Ex.sizeL] at hs
  obtain ⟨a1, a2⟩ := ih a.size (by omega) a (Nat.le_refl _) (Ex.treeL_mem htl (by simp))
  obtain ⟨b1, b2⟩ := ih b.size (by omega) b (Nat.le_refl _) (Ex.treeL_mem htl (by simp))
  rcases h67 with rfl | rfl
  ·
   rw [Ex.tidy_sum]
   obtain ⟨c1, c2⟩ := sumT_spec a1 b1
   exact ⟨c1, by omega⟩
  ·
   rw [Ex.tidy_dot]
   obtain ⟨c1, c2⟩ := dot_spec tm am _ a.tidy b.tidy (Nat.le_refl _) a1 b1
   exact ⟨c1, by omega⟩
 by_cases h8 : k = 8
 ·
  subst h8
  obtain ⟨a, rfl⟩ := one_kid hk (by omega)
  simp only [Ex.sizeL] at hs
  obtain ⟨a1, a2⟩ := ih a.size (by omega) a (Nat.le_refl _) (Ex.treeL_mem htl (by simp))
  rw [Ex.tidy_star]
  obtain ⟨c1, c2⟩ := star_spec a1
  exact ⟨c1, by omega⟩
 ·
  rw [Ex.tidy_else (by omega) (by omega) h8]
  exact ⟨ht, Nat.le_refl _⟩
end Go.Proofs.YtcokljhamhgelaaGreatDoor

namespace Go.Proofs.YtcokljhamhgelaaGreatDoor
set_option linter.unusedVariables false
set_option linter.unusedSimpArgs false
noncomputable def limE (e : Ex) : Option Ex := if e.size ≤ 800 then some e.tidy else none
noncomputable def stepC (emp : Ex → Bool) (x k n : Int) (ks : List Ex) (ds : List (Option Ex)) : Option Ex :=
 if k = 4 then some (.leaf (if n = x then 2 else 1))
 else if k = 6 then (ds.getD 0 none).bind fun a => (ds.getD 1 none).bind fun b => limE (.two 6 a b)
 else if k = 7 then (ds.getD 0 none).bind fun a => if emp (ks.getD 0 (.leaf 1)) = true then (ds.getD 1 none).bind fun b => limE (.two 6 (.two 7 a (ks.getD 1 (.leaf 1))) b) else limE (.two 7 a (ks.getD 1 (.leaf 1)))
 else if k = 8 then (ds.getD 0 none).bind fun a => limE (.two 7 a (.mk k n ks))
 else some (.leaf 1)
mutual
noncomputable def Ex.step (m x : Int) : Ex → Option Ex
 | .mk k n ks => stepC (Ex.emp m) x k n ks (Ex.stepL m x ks)
noncomputable def Ex.stepL (m x : Int) : List Ex → List (Option Ex)
 | [] => []
 | e :: r => e.step m x :: Ex.stepL m x r
end
theorem Ex.step_eq (m x k n : Int) (ks : List Ex) : (Ex.mk k n ks).step m x = stepC (Ex.emp m) x k n ks (Ex.stepL m x ks) := by simp only [Ex.step]
theorem Ex.step_act {m x n : Int} {ks : List Ex} : (Ex.mk 4 n ks).step m x = some (.leaf (if n = x then 2 else 1)) := by rw [Ex.step_eq]; simp [stepC]
theorem Ex.step_sum {m x n : Int} {a b : Ex} : (Ex.mk 6 n [a, b]).step m x = (a.step m x).bind fun p => (b.step m x).bind fun q => limE (.two 6 p q) := by rw [Ex.step_eq]; simp [stepC, Ex.stepL]
theorem Ex.step_dot {m x n : Int} {a b : Ex} : (Ex.mk 7 n [a, b]).step m x = (a.step m x).bind fun p => if a.emp m = true then (b.step m x).bind fun q => limE (.two 6 (.two 7 p b) q) else limE (.two 7 p b) := by rw [Ex.step_eq]; simp [stepC, Ex.stepL]
theorem Ex.step_star {m x n : Int} {a : Ex} : (Ex.mk 8 n [a]).step m x = (a.step m x).bind fun p => limE (.two 7 p (.mk 8 n [a])) := by rw [Ex.step_eq]; simp [stepC, Ex.stepL]
theorem Ex.step_else {m x k n : Int} {ks : List Ex} (h4 : k ≠ 4) (h6 : k ≠ 6) (h7 : k ≠ 7) (h8 : k ≠ 8) : (Ex.mk k n ks).step m x = some (.leaf 1) := by rw [Ex.step_eq, stepC, if_neg h4, if_neg h6, if_neg h7, if_neg h8]
theorem size_two (k : Int) (a b : Ex) : (Ex.two k a b).size = 1 + a.size + b.size := by rw [Ex.size_eq]; simp [Ex.two, Ex.kids, Ex.sizeL]; omega
theorem limE_spec {tm am : Int} {e d : Ex} (h : limE e = some d) (ht : e.tree tm am = true) : d.tree tm am = true ∧ d.size ≤ 800 := by
 unfold limE at h
 split at h
 ·
  obtain rfl := Option.some.inj h
  obtain ⟨h1, h2⟩ := tidy_spec tm am _ e (Nat.le_refl _) ht
  exact ⟨h1, by omega⟩
 ·
  cases h
theorem step_spec (tm am m x : Int) (N : Nat) : ∀ e d : Ex, e.size ≤ N → e.tree tm am = true → e.step m x = some d → d.tree tm am = true ∧ d.size ≤ 800 := by
 induction N using Nat.strongRecOn with
 | _ N ih =>
 intro e d hN ht h
 obtain ⟨k, n, ks⟩ := e
 obtain ⟨hk, -, -, htl⟩ := tree_parts ht
 have hs := Ex.size_eq (.mk k n ks)
 simp only [Ex.kids] at hs
 by_cases h4 : k = 4
 ·
  subst h4
  rw [Ex.step_act] at h
  obtain rfl := Option.some.inj h
  refine ⟨?_, by simp [Ex.leaf, Ex.size, Ex.sizeL]⟩
  split
  ·
   exact tree_leaf (Or.inr rfl)
  ·
   exact tree_leaf (Or.inl rfl)
 by_cases h6 : k = 6
 ·
  obtain ⟨a, b, rfl⟩ := two_kids hk (Or.inl h6)
  subst h6
  simp only [Ex.sizeL] at hs
  rw [Ex.step_sum] at h
  obtain ⟨p, hp, h⟩ := Option.bind_eq_some_iff.1 h
  obtain ⟨q, hq, h⟩ := Option.bind_eq_some_iff.1 h
  exact limE_spec h (tree_two (Or.inl rfl) (ih a.size (by omega) a p (Nat.le_refl _) (Ex.treeL_mem htl (by simp)) hp).1 (ih b.size (by omega) b q (Nat.le_refl _) (Ex.treeL_mem htl (by simp)) hq).1)
 by_cases h7 : k = 7
 ·
  obtain ⟨a, b, rfl⟩ := two_kids hk (Or.inr h7)
  subst h7
  simp only [Ex.sizeL] at hs
  rw [Ex.step_dot] at h
  obtain ⟨p, hp, h⟩ := Option.bind_eq_some_iff.1 h
  have hbt : b.tree tm am = true := Ex.treeL_mem htl (by simp)
  have hpt := (ih a.size (by omega) a p (Nat.le_refl _) (Ex.treeL_mem htl (by simp)) hp).1
  split at h
  ·
   obtain ⟨q, hq, h⟩ := Option.bind_eq_some_iff.1 h
   exact limE_spec h (tree_two (Or.inl rfl) (tree_two (Or.inr rfl) hpt hbt) (ih b.size (by omega) b q (Nat.le_refl _) hbt hq).1)
  ·
   exact limE_spec h (tree_two (Or.inr rfl) hpt hbt)
 by_cases h8 : k = 8
 ·
  subst h8
  obtain ⟨a, rfl⟩ := one_kid hk (by omega)
  simp only [Ex.sizeL] at hs
  rw [Ex.step_star] at h
  obtain ⟨p, hp, h⟩ := Option.bind_eq_some_iff.1 h
  exact limE_spec h (tree_two (Or.inr rfl) (ih a.size (by omega) a p (Nat.le_refl _) (Ex.treeL_mem htl (by simp)) hp).1 ht)
 ·
  rw [Ex.step_else h4 h6 h7 h8] at h
  obtain rfl := Option.some.inj h
  exact ⟨tree_leaf (Or.inl rfl), by simp [Ex.leaf, Ex.size, Ex.sizeL]⟩
end Go.Proofs.YtcokljhamhgelaaGreatDoor

namespace Go.Proofs.YtcokljhamhgelaaGreatDoor
set_option linter.unusedVariables false
set_option linter.unusedSimpArgs false
noncomputable def inL (L : List (Ex × Ex)) (x y : Ex) : Bool := @decide ((x, y) ∈ L) (Classical.propDecidable _)
theorem inL_true {L : List (Ex × Ex)} {x y : Ex} : inL L x y = true ↔ (x, y) ∈ L := by unfold inL; exact @decide_eq_true_iff _ (Classical.propDecidable _)
theorem inL_false {L : List (Ex × Ex)} {x y : Ex} : inL L x y = false ↔ (x, y) ∉ L := by
 rw [← Bool.not_eq_true, inL_true]
noncomputable def st2 (p : Ex × Ex) (m k : Nat) : Bool := (p.1.step m k).isSome && (p.2.step m k).isSome
noncomputable def in2 (L : List (Ex × Ex)) (p : Ex × Ex) (m k : Nat) : Bool :=
 match p.1.step m k, p.2.step m k with
 | some x, some y => inL L x y
 | _, _ => false
theorem in2_some {L : List (Ex × Ex)} {p : Ex × Ex} {m k : Nat} {x y : Ex} (h1 : p.1.step m k = some x) (h2 : p.2.step m k = some y) : in2 L p m k = inL L x y := by unfold in2; rw [h1, h2]
noncomputable def gK (L : List (Ex × Ex)) (p : Ex × Ex) (m k : Nat) : Bool := (List.range k).all fun q => in2 L p m q
noncomputable def gM (L : List (Ex × Ex)) (n : Nat) (p : Ex × Ex) (m : Nat) : Bool := (List.range m).all fun j => (p.1.emp j == p.2.emp j) && gK L p j n
theorem gK_zero (L : List (Ex × Ex)) (p : Ex × Ex) (m : Nat) : gK L p m 0 = true := rfl
theorem gK_succ (L : List (Ex × Ex)) (p : Ex × Ex) (m k : Nat) : gK L p m (k + 1) = (gK L p m k && in2 L p m k) := by unfold gK; rw [List.range_succ, List.all_append]; simp
theorem gM_zero (L : List (Ex × Ex)) (n : Nat) (p : Ex × Ex) : gM L n p 0 = true := rfl
theorem gM_succ (L : List (Ex × Ex)) (n : Nat) (p : Ex × Ex) (m : Nat) : gM L n p (m + 1) = (gM L n p m && ((p.1.emp m == p.2.emp m) && gK L p m n)) := by unfold gM; rw [List.range_succ, List.all_append]; simp
def okK (p : Ex × Ex) (m k : Nat) : Prop := ∀ q, q < k → st2 p m q = true
def okM (n : Nat) (p : Ex × Ex) (m : Nat) : Prop := ∀ j, j < m → okK p j n
theorem okK.succ {p : Ex × Ex} {m k : Nat} (h : okK p m k) (h2 : st2 p m k = true) : okK p m (k + 1) := fun q hq => by
 by_cases e : q = k
 ·
  rw [e]; exact h2
 ·
  exact h q (by omega)
theorem okM.succ {n : Nat} {p : Ex × Ex} {m : Nat} (h : okM n p m) (h2 : okK p m n) : okM n p (m + 1) := fun j hj => by
 by_cases e : j = m
 ·
  rw [e]; exact h2
 ·
  exact h j (by omega)
open Classical in
noncomputable def fwC (A n : Nat) (p : Ex × Ex) : Int := if okM n p A then 0 else 3
open Classical in
noncomputable def fwB (L : List (Ex × Ex)) (A n : Nat) (p : Ex × Ex) : Bool := if okM n p A then gM L n p A else false
theorem fw_yes {L : List (Ex × Ex)} {A n : Nat} {p : Ex × Ex} (h : okM n p A) : fwC A n p = 0 ∧ fwB L A n p = gM L n p A := ⟨if_pos h, if_pos h⟩
theorem fw_no {L : List (Ex × Ex)} {A n m k : Nat} {p : Ex × Ex} (hm : m < A) (hk : k < n) (h : st2 p m k = false) : fwC A n p = 3 ∧ fwB L A n p = false := by
 have hn : ¬ okM n p A := fun q => by
  have := q m hm k hk
  rw [h] at this
  cases this
 exact ⟨if_neg hn, if_neg hn⟩
theorem st2_yes {p : Ex × Ex} {m k : Nat} {x y : Ex} (h1 : p.1.step m k = some x) (h2 : p.2.step m k = some y) : st2 p m k = true := by unfold st2; rw [h1, h2]; rfl
noncomputable def gL (L : List (Ex × Ex)) (A n i : Nat) : Bool := (L.take i).all fun p => gM L n p A
theorem gL_zero (L : List (Ex × Ex)) (A n : Nat) : gL L A n 0 = true := by simp [gL]
theorem gL_succ {L : List (Ex × Ex)} {A n i : Nat} {p : Ex × Ex} (h : L[i]? = some p) : gL L A n (i + 1) = (gL L A n i && gM L n p A) := by
 obtain ⟨h1, rfl⟩ := List.getElem?_eq_some_iff.1 h
 unfold gL
 rw [List.take_succ_eq_append_getElem h1, List.all_append]
 simp
def okL (L : List (Ex × Ex)) (A n i : Nat) : Prop := ∀ p ∈ L.take i, okM n p A
theorem okL.succ {L : List (Ex × Ex)} {A n i : Nat} {p : Ex × Ex} (h : okL L A n i) (hp : L[i]? = some p) (h2 : okM n p A) : okL L A n (i + 1) := fun q hq => by
 obtain ⟨h1, rfl⟩ := List.getElem?_eq_some_iff.1 hp
 rw [List.take_succ_eq_append_getElem h1, List.mem_append, List.mem_singleton] at hq
 rcases hq with hq | hq
 ·
  exact h q hq
 ·
  rw [hq]; exact h2
end Go.Proofs.YtcokljhamhgelaaGreatDoor

namespace Go.Proofs.YtcokljhamhgelaaGreatDoor
set_option linter.unusedVariables false
set_option linter.unusedSimpArgs false
open Go.ChangeShapes Go.WideShapes Go.ChangeAt Go.RowKit Go.Deep
def App (W w : World) (t : TypeId) (size n : Nat) (ds : List D) (v : Value) : Prop :=
 ∃ xs F, w.ownsRow W.heap.size t size v n xs ∧ Ows w ds xs F ∧ F.Nodup ∧ ∀ b ∈ F, W.heap.size ≤ b ∧ v.ownBlock ≠ some b
theorem App.nil {W w : World} {t size : Nat} : App W w t size 0 [] (.slice none 0 0) := ⟨[], [], World.ownsRow_nil _ _ _ _, Ows.nil, by simp, by simp⟩
theorem App.len {W w : World} {t size n : Nat} {ds : List D} {v : Value} (h : App W w t size n ds v) : ds.length = n * size := by
 obtain ⟨xs, F, h1, h2, _⟩ := h
 rw [← h2.length, h1.1]
theorem App.shape {W w : World} {t size n : Nat} {ds : List D} {v : Value} (h : App W w t size n ds v) : ∃ a cap, v = .slice a n cap ∧ n ≤ cap ∧ cap ≤ maxLen := by
 obtain ⟨xs, F, ⟨_, h1⟩, _⟩ := h
 rcases h1 with ⟨rfl, rfl⟩ | ⟨g, cap, cur, rfl, _, _, h2, h3, _⟩
 ·
  exact ⟨none, 0, rfl, by omega, by simp [maxLen]⟩
 ·
  exact ⟨_, cap, rfl, h2, h3⟩
theorem App.lt {W w : World} {t size n : Nat} {ds : List D} {v : Value} (h : App W w t size n ds v) : ∀ k, v.ownBlock = some k → W.heap.size ≤ k ∧ k < w.heap.size := by
 obtain ⟨xs, F, h1, _⟩ := h
 exact h1.lt
theorem App.fresh {W w : World} {t size n : Nat} {ds : List D} {v : Value} (h : App W w t size n ds v) : Fresh W w (.sl size n ds) v := by
 have hlen := h.len
 obtain ⟨xs, F, h1, h2, h3, h4⟩ := h
 have hxl := h1.1
 rcases h1.2 with ⟨rfl, rfl⟩ | ⟨g, cap, cur, rfl, hg, hb, h5, h6, h7, h8⟩
 ·
  exact ⟨[], by simp only [Ow]; exact ⟨_, 0, rfl, by omega, by simp [maxLen], hlen, by simp, Or.inl (by simp)⟩, by simp, by simp⟩
 ·
  by_cases h0 : n = 0
  ·
   exact ⟨[], by simp only [Ow]; exact ⟨_, cap, rfl, h5, h6, hlen, by simp, Or.inl (by simp [h0])⟩, by simp, by simp⟩
  ·
   have hblk : Blk w g t cur.toList := by simpa [Blk] using hb
   refine ⟨g :: F, by simp only [Ow]; exact ⟨_, cap, rfl, h5, h6, hlen, by simp, Or.inr ⟨g, 0, xs, F, rfl, rfl, hblk.free, hblk.row (by rw [hxl]; exact h8), h2⟩⟩, ?_, ?_⟩
   ·
    rw [List.nodup_cons]
    exact ⟨fun hm => (h4 g hm).2 rfl, h3⟩
   ·
    intro b hm
    rcases List.mem_cons.1 hm with rfl | hm
    ·
     exact hg
    ·
     exact (h4 b hm).1
end Go.Proofs.YtcokljhamhgelaaGreatDoor

namespace Go.Proofs.YtcokljhamhgelaaGreatDoor
set_option linter.unusedVariables false
set_option linter.unusedSimpArgs false
open Go.ChangeShapes Go.WideShapes Go.ChangeAt Go.RowKit Go.Deep
def AppS (S : Nat → Prop) (w : World) (t : TypeId) (size n : Nat) (ds : List D) (v : Value) : Prop :=
 ∃ xs F, w.ownsRow 0 t size v n xs ∧ Ows w ds xs F ∧ F.Nodup ∧ (∀ b ∈ F, S b ∧ v.ownBlock ≠ some b) ∧ ∀ b, v.ownBlock = some b → S b
def OwS (S : Nat → Prop) (w : World) (ds : List D) (vs : List Value) : Prop := ∃ F : List Nat, Ows w ds vs F ∧ F.Nodup ∧ ∀ b ∈ F, S b
theorem OwS.keep {S : Nat → Prop} {w w' : World} {ds : List D} {vs : List Value} (h : OwS S w ds vs) (hk : ∀ b, b < w.heap.size → S b → w'.heap[b]? = w.heap[b]?) : OwS S w' ds vs := by
 obtain ⟨F, h1, h2, h3⟩ := h
 exact ⟨F, h1.keep fun b hb => hk b (h1.lt b hb) (h3 b hb), h2, h3⟩
theorem FreshIn.keep {p : Nat × Nat} {w w' : World} {ds : List D} {vs : List Value} (h : FreshIn p w ds vs) (hk : ∀ b, b < w.heap.size → p.1 ≤ b → b < p.2 → w'.heap[b]? = w.heap[b]?) : FreshIn p w' ds vs :=
 OwS.keep h fun b h1 h2 => hk b h1 h2.1 h2.2
theorem FreshIn.three {p : Nat × Nat} {w : World} {a b : Int} {d : D} {v : Value} (h : FreshIn p w [d] [v]) : FreshIn p w [.int a, .int b, d] [.int .i64 a, .int .i64 b, v] := by
 obtain ⟨F, h1, h2, h3⟩ := h
 refine ⟨F, ?_, h2, h3⟩
 simp only [Ows] at h1 ⊢
 obtain ⟨x, r, G, K, e1, e2, h4, e3, e4⟩ := h1
 exact ⟨_, _, [], F, rfl, rfl, by simp [Ow], _, _, [], F, rfl, rfl, by simp [Ow], x, r, G, K, e1, e2, h4, e3, e4⟩
theorem AppS.keep {S : Nat → Prop} {w w' : World} {t size n : Nat} {ds : List D} {v : Value} (h : AppS S w t size n ds v) (hk : ∀ b, b < w.heap.size → S b → w'.heap[b]? = w.heap[b]?) : AppS S w' t size n ds v := by
 obtain ⟨xs, F, h1, h2, h3, h4, h5⟩ := h
 refine ⟨xs, F, ⟨h1.1, ?_⟩, h2.keep fun b hb => hk b (h2.lt b hb) (h4 b hb).1, h3, h4, h5⟩
 rcases h1.2 with h | ⟨g, cap, cur, e, hg, hb, hr⟩
 ·
  exact Or.inl h
 ·
  exact Or.inr ⟨g, cap, cur, e, hg, (hk g (Array.getElem?_eq_some_iff.1 hb).1 (h5 g (by rw [e]; rfl))).trans hb, hr⟩
theorem AppS.more {S T : Nat → Prop} {w : World} {t size n : Nat} {ds : List D} {v : Value} (h : AppS S w t size n ds v) (hs : ∀ b, b < w.heap.size → S b → T b) : AppS T w t size n ds v := by
 obtain ⟨xs, F, h1, h2, h3, h4, h5⟩ := h
 exact ⟨xs, F, h1, h2, h3, fun b hb => ⟨hs b (h2.lt b hb) (h4 b hb).1, (h4 b hb).2⟩, fun b hb => hs b (h1.lt b hb).2 (h5 b hb)⟩
theorem AppS.app {S : Nat → Prop} {W w : World} {t size n : Nat} {ds : List D} {v : Value} (h : AppS S w t size n ds v) (hS : ∀ b, S b → W.heap.size ≤ b) : App W w t size n ds v := by
 obtain ⟨xs, F, h1, h2, h3, h4, h5⟩ := h
 refine ⟨xs, F, ⟨h1.1, ?_⟩, h2, h3, fun b hb => ⟨hS b (h4 b hb).1, (h4 b hb).2⟩⟩
 rcases h1.2 with h | ⟨g, cap, cur, e, _, hb, hr⟩
 ·
  exact Or.inl h
 ·
  exact Or.inr ⟨g, cap, cur, e, hS g (h5 g (by rw [e]; rfl)), hb, hr⟩
theorem App.foot {W w : World} {t size n : Nat} {ds : List D} {v : Value} (h : App W w t size n ds v) : ∃ Fs : List Nat, AppS (· ∈ Fs) w t size n ds v ∧ ∀ b ∈ Fs, W.heap.size ≤ b ∧ b < w.heap.size := by
 have hlt := h.lt
 obtain ⟨xs, F, h1, h2, h3, h4⟩ := h
 have h1' : w.ownsRow 0 t size v n xs := ⟨h1.1, by
  rcases h1.2 with h | ⟨g, cap, cur, e, _, hb, hr⟩
  ·
   exact Or.inl h
  ·
   exact Or.inr ⟨g, cap, cur, e, Nat.zero_le _, hb, hr⟩⟩
 refine ⟨(match v.ownBlock with | some g => g :: F | none => F), ⟨xs, F, h1', h2, h3, fun b hb => ⟨?_, (h4 b hb).2⟩, fun b hb => ?_⟩, fun b hb => ?_⟩
 ·
  cases v.ownBlock <;> simp [hb]
 ·
  rw [hb]; simp
 ·
  cases hv : v.ownBlock with
  | none => rw [hv] at hb; exact ⟨(h4 b hb).1, h2.lt b hb⟩
  | some g =>
   rw [hv] at hb
   rcases List.mem_cons.1 hb with rfl | hb
   ·
    exact hlt b hv
   ·
    exact ⟨(h4 b hb).1, h2.lt b hb⟩
theorem AppS.shape {S : Nat → Prop} {w : World} {t size n : Nat} {ds : List D} {v : Value} (h : AppS S w t size n ds v) : ∃ a cap, v = .slice a n cap ∧ n ≤ cap ∧ cap ≤ maxLen := by
 obtain ⟨xs, F, ⟨_, h1⟩, _⟩ := h
 rcases h1 with ⟨rfl, rfl⟩ | ⟨g, cap, cur, rfl, _, _, h2, h3, _⟩
 ·
  exact ⟨none, 0, rfl, by omega, by simp [maxLen]⟩
 ·
  exact ⟨_, cap, rfl, h2, h3⟩
theorem news_blk {w : World} {g T : Nat} {vs : List Value} (h : Blk w g T vs) : ∀ j u, vs[j]? = some u → w.cell? ((⟨g, 0, none⟩ : Addr).add j) = some u := by
 intro j u hj
 rw [add_plain, Nat.zero_add, h.cell, hj]
theorem wpList_append_s {P : Program} (w : World) {ops : Array Oper} {rest : List Oper} {o : Oper} {a : Act} {Q : Exit → Act → World → Prop} (hgd : o.guard = none) (s x : Operand) (t : TypeId)
  (ho : o.op = .call { callee := .builtin .append, args := #[s, x], argTypes := #[t, t] })
  (e : TypeId) (z : Value) (size bytes : Nat) (ht : P.underlying t = some (.slice e)) (hinfo : (P.info? e).map (fun i => (i.zero, i.size, i.bytes)) = some (some z, size, bytes)) (hzs : z.cells.size = size) (hsz : 0 < size)
  {S T : Nat → Prop} (v : Value) {n : Nat} {ds : List D} (hs : a.eval s = v) (happ : AppS S w e size n ds v)
  (ad : Addr) (m c : Nat) {es : List D} (news : List Value) (hx : a.eval x = .slice (some ad) m c) (hnews : ∀ j u, news[j]? = some u → w.cell? (ad.add j) = some u) (hes : OwS T w es news) (hST : ∀ b, b < w.heap.size → S b → T b → False)
  (hl : news.length = m * size) (h1 : ∀ u ∈ news, u.oneCell' = true) (hm : 0 < m) (hbytes : (n + m) * bytes ≤ 140737488355328) (h63 : n + m ≤ maxLen)
  (h : ∀ g cap w', AppS (fun b => S b ∨ T b ∨ (w.heap.size ≤ b ∧ b < w'.heap.size)) w' e size (n + m) (ds ++ es) (.slice (some ⟨g, 0, none⟩) (n + m) cap) → Spares S w w' →
   wpList P ops Q rest (a.put o.dst (.slice (some ⟨g, 0, none⟩) (n + m) cap)) w') : wpList P ops Q (o :: rest) a w := by
 obtain ⟨i, hi, hz, hsize, hby⟩ := info_parts hinfo
 obtain ⟨xs, F, a1, a2, a3, a4, a5⟩ := happ
 obtain ⟨G, g1, g2, g3⟩ := hes
 refine wpList_append_lies w hgd s x t ho 0 e i z size bytes ht hi hz hsize hby hzs hsz v n xs hs a1 ad m c news hx hl hnews h1 hm h63 hbytes (Nat.zero_le _) w.heap.size rfl ?_
 intro g cap w' k1 k2 k3 k4
 have hF : ∀ b ∈ F, some b ≠ v.ownBlock := fun b hb' e => (a4 b hb').2 e.symm
 have hG : ∀ b ∈ G, some b ≠ v.ownBlock := fun b hb' e => hST b (g1.lt b hb') (a5 b e.symm) (g3 b hb')
 have hgb : ∀ b, some b ≠ v.ownBlock → b < w.heap.size → Value.ownBlock (.slice (some ⟨g, 0, none⟩) (n + m) cap) ≠ some b := by
  intro b hne hlt e
  simp only [Value.ownBlock, Option.some.injEq] at e
  subst e
  rcases k3 with k3 | k3
  ·
   exact hne k3.symm
  ·
   omega
 refine h g cap w' ⟨xs ++ news, F ++ G, k1, Ows.append (a2.keep fun b hb' => k2.block b (a2.lt b hb') (hF b hb')) (g1.keep fun b hb' => k2.block b (g1.lt b hb') (hG b hb')), ?_, ?_, ?_⟩
  ⟨k2.os, k2.tape, k2.output, k2.size, fun b hb' hn => k2.block b hb' (fun e => hn (a5 b e.symm))⟩
 ·
  rw [List.nodup_append]
  refine ⟨a3, g2, fun p hp q hq hpq => ?_⟩
  subst hpq
  exact hST p (a2.lt p hp) (a4 p hp).1 (g3 p hq)
 ·
  intro b hm'
  rcases List.mem_append.1 hm' with hm' | hm'
  ·
   exact ⟨Or.inl (a4 b hm').1, hgb b (hF b hm') (a2.lt b hm')⟩
  ·
   exact ⟨Or.inr (Or.inl (g3 b hm')), hgb b (hG b hm') (g1.lt b hm')⟩
 ·
  intro b hb'
  simp only [Value.ownBlock, Option.some.injEq] at hb'
  subst hb'
  rcases k3 with k3 | k3
  ·
   exact Or.inl (a5 _ k3)
  ·
   exact Or.inr (Or.inr ⟨by omega, k4⟩)
end Go.Proofs.YtcokljhamhgelaaGreatDoor

namespace Go.Proofs.YtcokljhamhgelaaGreatDoor
set_option linter.unusedVariables false
set_option linter.unusedSimpArgs false
open Go.ChangeShapes Go.WideShapes Go.ChangeAt Go.RowKit Go.Deep
def KeptX (X : Nat → Prop) (w w' : World) : Prop := w.heap.size ≤ w'.heap.size ∧ ∀ b, b < w.heap.size → ¬ X b → w'.heap[b]? = w.heap[b]?
theorem KeptX.refl (X : Nat → Prop) (w : World) : KeptX X w w := ⟨Nat.le_refl _, fun _ _ _ => rfl⟩
theorem KeptX.trans {X : Nat → Prop} {a b c : World} (h : KeptX X a b) (k : KeptX X b c) : KeptX X a c :=
 ⟨Nat.le_trans h.1 k.1, fun i hi hx => (k.2 i (Nat.lt_of_lt_of_le hi h.1) hx).trans (h.2 i hi hx)⟩
theorem KeptX.of_below {X : Nat → Prop} {w w' : World} (h : Below w.heap.size w w') : KeptX X w w' := ⟨h.size, fun b hb _ => h.block b hb⟩
theorem KeptX.of_spares {X Y : Nat → Prop} {w w' : World} (h : Spares Y w w') (hY : ∀ b, b < w.heap.size → Y b → X b) : KeptX X w w' := ⟨h.size, fun b hb hx => h.block b hb fun hy => hx (hY b hb hy)⟩
theorem KeptX.more {X Y : Nat → Prop} {w w' : World} (h : KeptX X w w') (hs : ∀ b, b < w.heap.size → X b → Y b) : KeptX Y w w' := ⟨h.1, fun b hb hy => h.2 b hb fun hx => hy (hs b hb hx)⟩
def RdX (X : Nat → Prop) (w : World) (d : D) (v : Value) : Prop := ∀ w', KeptX X w w' → Rd w' d v
theorem RdX.rd {X : Nat → Prop} {w : World} {d : D} {v : Value} (h : RdX X w d v) : Rd w d v := h w (KeptX.refl X w)
theorem RdX.keep {X : Nat → Prop} {w w' : World} {d : D} {v : Value} (h : RdX X w d v) (hk : KeptX X w w') : RdX X w' d v := fun _ k => h _ (hk.trans k)
theorem RdX.below {X : Nat → Prop} {w w' : World} {d : D} {v : Value} (h : RdX X w d v) (hb : Below w.heap.size w w') : RdX X w' d v := h.keep (KeptX.of_below hb)
theorem RdX.less {X Y : Nat → Prop} {w : World} {d : D} {v : Value} (h : RdX X w d v) (hs : ∀ b, b < w.heap.size → Y b → X b) : RdX Y w d v := fun w' k => h w' (k.more hs)
theorem RdX.of_rd {X : Nat → Prop} {w : World} {d : D} {v : Value} (h : Rd w d v) (hX : ∀ b, X b → w.heap.size ≤ b) : RdX X w d v := fun _ k => h.keep fun b hb => k.2 b hb fun hx => by have := hX b hx; omega
theorem RdX.all {w : World} {d : D} {v : Value} (h : Rd w d v) : RdX (fun _ => False) w d v := RdX.of_rd h fun _ h => h.elim
theorem RdX.nil {X : Nat → Prop} {w : World} {size : Nat} : RdX X w (.sl size 0 []) (.slice Option.none 0 0) := fun _ _ => by simp only [Rd]; exact ⟨Option.none, 0, rfl, Nat.le_refl _, by unfold maxLen; omega, by simp, fun _ => rfl, Or.inl trivial⟩
theorem RdX.fresh {X : Nat → Prop} {w w' : World} {d : D} {v : Value} (h : Freshs w w' [d] [v]) (hX : ∀ b, X b → b < w.heap.size) : RdX X w' d v := by
 obtain ⟨F, h1, h2, h3⟩ := h
 intro w2 k
 exact Rds.one (h1.keep fun b hb => k.2 b (h1.lt b hb) fun hx => by have := h3 b hb; have := hX b hx; omega).rds
def RdO (W0 : World) (X F : Nat → Prop) (w : World) (d : D) (v : Value) : Prop :=
 ∀ w', w.heap.size ≤ w'.heap.size → KeptX X W0 w' → (∀ b, b < w.heap.size → F b → w'.heap[b]? = w.heap[b]?) → Rd w' d v
theorem RdO.keep {W0 : World} {X F F' : Nat → Prop} {w w' : World} {d : D} {v : Value} (h : RdO W0 X F w d v) (hz : w.heap.size ≤ w'.heap.size) (hk : ∀ b, b < w.heap.size → F b → w'.heap[b]? = w.heap[b]?) (hF : ∀ b, F b → F' b) : RdO W0 X F' w' d v :=
 fun w2 h1 h2 h3 => h w2 (Nat.le_trans hz h1) h2 fun b hb hf => (h3 b (Nat.lt_of_lt_of_le hb hz) (hF b hf)).trans (hk b hb hf)
def OutX (W0 : World) (X F : Nat → Prop) (w : World) (b : Nat) : Prop := b < w.heap.size ∧ ¬ ((b < W0.heap.size ∧ ¬ X b) ∨ F b)
theorem OutX.lt {W0 : World} {X F : Nat → Prop} {w : World} : ∀ b, OutX W0 X F w b → b < w.heap.size := fun _ h => h.1
theorem OutX.kept {W0 : World} {X F : Nat → Prop} {w w2 : World} (k : KeptX (OutX W0 X F w) w w2) (hW : KeptX X W0 w) : KeptX X W0 w2 :=
 ⟨Nat.le_trans hW.1 k.1, fun b hb hx => (k.2 b (Nat.lt_of_lt_of_le hb hW.1) fun ho => ho.2 (Or.inl ⟨hb, hx⟩)).trans (hW.2 b hb hx)⟩
theorem OutX.foot {W0 : World} {X F : Nat → Prop} {w w2 : World} (k : KeptX (OutX W0 X F w) w w2) {b : Nat} (hb : b < w.heap.size) (hf : F b) : w2.heap[b]? = w.heap[b]? := k.2 b hb fun ho => ho.2 (Or.inr hf)
theorem RdO.toX {W0 : World} {X F F' : Nat → Prop} {w : World} {d : D} {v : Value} (h : RdO W0 X F w d v) (hW : KeptX X W0 w) (hF : ∀ b, F b → F' b) : RdX (OutX W0 X F' w) w d v :=
 fun w2 k => h w2 k.1 (OutX.kept k hW) fun b hb hf => OutX.foot k hb (hF b hf)
theorem RdX.toOut {W0 : World} {X F : Nat → Prop} {w : World} {d : D} {v : Value} (h : RdX X W0 d v) (hW : KeptX X W0 w) : RdX (OutX W0 X F w) w d v :=
 fun w2 k => h w2 (OutX.kept k hW)
theorem RdO.ofX {W0 : World} {X F F' : Nat → Prop} {w w2 : World} {d : D} {v : Value} (h : RdX (OutX W0 X F' w) w2 d v) (hb : Below w.heap.size w w2) (hW : KeptX X W0 w) (hF : ∀ b, F' b → F b) (hn : ∀ b, w.heap.size ≤ b → b < w2.heap.size → F b) : RdO W0 X F w2 d v :=
 fun w3 hz k3 h3 => h w3 ⟨hz, fun b hb2 hno => by
  by_cases hl : b < w.heap.size
  ·
   by_cases hf : F' b
   ·
    exact h3 b hb2 (hF b hf)
   ·
    by_cases ho : b < W0.heap.size ∧ ¬ X b
    ·
     exact (k3.2 b ho.1 ho.2).trans (((hW.trans (KeptX.of_below hb)).2 b ho.1 ho.2).symm)
    ·
     exact absurd ⟨hl, fun q => q.elim ho hf⟩ hno
  ·
   exact h3 b hb2 (hn b (by omega) hb2)⟩
theorem RdO.done {W0 : World} {X F : Nat → Prop} {w : World} {d : D} {v : Value} (h : RdO W0 X F w d v) (hW : KeptX X W0 w) (hF : ∀ b, F b → ¬ X b) : RdX X w d v :=
 fun w2 k => h w2 k.1 (hW.trans k) fun b hb hf => k.2 b hb (hF b hf)
theorem foot_no {C D : List (Nat × Nat)} {G : Nat → Nat → Prop} {n i B z : Nat} {iv : Nat → Nat × Nat} {l : List Nat} (hl : ((chainOf C n i).all fun j => l.contains j) = true) (hD : ((chainOf C n i).all fun j => D.all fun p => p.1 != j) = true)
  (hb : ∀ j ∈ l, B ≤ (iv j).1 ∧ (iv j).1 ≤ (iv j).2 ∧ (iv j).2 ≤ z) {b : Nat} (hf : foot C D G n i iv b) : B ≤ b := by
 obtain ⟨j, hj, h | ⟨m, hm, hg⟩⟩ := hf
 ·
  have := List.all_eq_true.1 hl j hj
  have := (hb j (by simpa using this)).1
  omega
 ·
  have := List.all_eq_true.1 (List.all_eq_true.1 hD j hj) (j, m) hm
  simp at this
theorem kidsD_nil {X : Nat → Prop} {w : World} : RdX X w (kidsD []) (.slice none 0 0) := RdX.nil
def ExX (X : Nat → Prop) (w : World) (e : Ex) (s : Option Addr) (c : Nat) : Prop := RdX X w (kidsD e.kids) (.slice s e.kids.length c)
theorem kidsD_one {X : Nat → Prop} {w : World} {g t : Nat} {x : Ex} {sx : Option Addr} {cx : Nat} (h : Blk w g t [.int .i64 x.kind, .int .i64 x.num, .slice sx x.kids.length cx]) (hg : ¬ X g) (hx : ExX X w x sx cx) : RdX X w (kidsD [x]) (.slice (some ⟨g, 0, none⟩) 1 1) := by
 intro w' k
 have h' := h.keep (k.2 g h.lt hg)
 have hx' := hx w' k
 unfold kidsD
 simp only [Rd]
 have hrow : Row w' g 0 [.int .i64 x.kind, .int .i64 x.num, .slice sx x.kids.length cx] := h'.row rfl
 refine ⟨some ⟨g, 0, none⟩, 1, rfl, Nat.le_refl _, by unfold maxLen; omega, by rw [Ex.cellsL_length], (fun h => by cases h), Or.inr ⟨g, 0, _, rfl, hrow, ?_⟩⟩
 simp only [Ex.cellsL, List.append_nil]
 rw [Ex.cells_eq]
 simp only [Rds, Rd]
 exact ⟨_, _, rfl, rfl, _, _, rfl, rfl, _, _, rfl, hx', rfl⟩
theorem kidsD_two {X : Nat → Prop} {w : World} {g t : Nat} {x y : Ex} {sx sy : Option Addr} {cx cy : Nat} (h : Blk w g t [.int .i64 x.kind, .int .i64 x.num, .slice sx x.kids.length cx, .int .i64 y.kind, .int .i64 y.num, .slice sy y.kids.length cy]) (hg : ¬ X g)
  (hx : ExX X w x sx cx) (hy : ExX X w y sy cy) : RdX X w (kidsD [x, y]) (.slice (some ⟨g, 0, none⟩) 2 2) := by
 intro w' k
 have h' := h.keep (k.2 g h.lt hg)
 have hx' := hx w' k
 have hy' := hy w' k
 unfold kidsD
 simp only [Rd]
 have hrow : Row w' g 0 [.int .i64 x.kind, .int .i64 x.num, .slice sx x.kids.length cx, .int .i64 y.kind, .int .i64 y.num, .slice sy y.kids.length cy] := h'.row rfl
 refine ⟨some ⟨g, 0, none⟩, 2, rfl, Nat.le_refl _, by unfold maxLen; omega, by rw [Ex.cellsL_length], (fun h => by cases h), Or.inr ⟨g, 0, _, rfl, hrow, ?_⟩⟩
 simp only [Ex.cellsL, List.append_nil]
 rw [Ex.cells_eq, Ex.cells_eq]
 simp only [List.cons_append, List.nil_append, Rds, Rd]
 exact ⟨_, _, rfl, rfl, _, _, rfl, rfl, _, _, rfl, hx', _, _, rfl, rfl, _, _, rfl, rfl, _, _, rfl, hy', rfl⟩
theorem RdX.row_out {X : Nat → Prop} {w : World} {ks : List Ex} {b o len cap : Nat} (h : RdX X w (kidsD ks) (.slice (some ⟨b, o, none⟩) len cap)) {i : Nat} {x : Ex} (hx : ks[i]? = some x) : ¬ X b := by
 intro hb
 have hlt := (kid_in h.rd hx).1
 have k : KeptX X w { w with heap := w.heap.setIfInBounds b (.cells #[] 0) } :=
  ⟨by simp, fun j hj hn => by
   have hne : b ≠ j := fun e => hn (e ▸ hb)
   simp [Array.getElem?_setIfInBounds_ne hne]⟩
 obtain ⟨-, s', c', k0, -⟩ := kid_in (h _ k) hx
 have hblk : Blk { w with heap := w.heap.setIfInBounds b (.cells #[] 0) } b 0 [] := by
  unfold Blk
  simp [hlt]
 rw [hblk.cell] at k0
 simp at k0
theorem kidX {X : Nat → Prop} {w : World} {ks : List Ex} {b o len cap : Nat} (h : RdX X w (kidsD ks) (.slice (some ⟨b, o, none⟩) len cap)) {i : Nat} {x : Ex} (hx : ks[i]? = some x) :
  b < w.heap.size ∧ ¬ X b ∧ ∃ s c, w.cell? ⟨b, o + i * 3, none⟩ = some (.int .i64 x.kind) ∧ w.cell? ⟨b, o + i * 3 + 1, none⟩ = some (.int .i64 x.num) ∧ w.cell? ⟨b, o + i * 3 + 2, none⟩ = some (.slice s x.kids.length c) ∧ ExX X w x s c := by
 obtain ⟨hb, s, c, h0, h1, h2, h3⟩ := kid_in h.rd hx
 have hn := h.row_out hx
 refine ⟨hb, hn, s, c, h0, h1, h2, fun w' k => ?_⟩
 obtain ⟨-, s', c', k0, k1, k2, k3⟩ := kid_in (h w' k) hx
 have e := World.cell?_of_block (w := w) (w' := w') (a := ⟨b, o + i * 3 + 2, none⟩) (k.2 b hb hn)
 rw [k2, h2] at e
 simp only [Option.some.injEq, Value.slice.injEq, true_and] at e
 obtain ⟨rfl, rfl⟩ := e
 exact k3
end Go.Proofs.YtcokljhamhgelaaGreatDoor
