/-
  Parts of a proof, joined: LiveT, PrL, LangA, MixP, LsP, LeP. No condition.
-/
import Derived.Test.YtcokljhamhgelaaGreatDoorPk27
namespace Go.Proofs.YtcokljhamhgelaaGreatDoor
set_option linter.unusedVariables false
set_option linter.unusedSimpArgs false
open Go.ChangeShapes Go.WideShapes Go.ChangeAt Go.RowKit Go.Deep
theorem autAt_box {w : World} {g T : Nat} {t a : Int} {ac : List (List Bool)} {nx : List (List (List Int))} {s u : Option Addr} {c d : Nat} (L : Blk w g T [.int .i64 t, .int .i64 a, .slice s ac.length c, .slice u nx.length d]) (h : Rds w (autD ac nx) [.slice s ac.length c, .slice u nx.length d]) : AutAt w g 0 t a ac nx s u c d :=
 L.autAt' (Rds.two h).1 (Rds.two h).2
end Go.Proofs.YtcokljhamhgelaaGreatDoor

namespace Go.Proofs.YtcokljhamhgelaaGreatDoor
set_option linter.unusedVariables false
set_option linter.unusedSimpArgs false
open Go.ChangeShapes Go.WideShapes Go.ChangeAt Go.RowKit Go.Deep
theorem bun_zero {B : Nat} {w : World} {items : List Item} (h : Bun B w items) (hB : B ≤ w.heap.size) {t : Nat} {v : Int} : Bun B (w.alloc (.cells #[.int .i64 v] t)) (items ++ [.app t 1 1 [D.int v] (.slice (some ⟨w.heap.size, 0, none⟩) 1 1)]) := by
 refine h.push (Below.alloc (Below.refl _ _) (Nat.le_refl _) _) ?_
 refine AppS.more (AppS.made (t := t) (size := 1) (m := 1) (S := fun _ => False) (none_own (w := w) (v := v)) (fun b h => h.elim) rfl (by unfold maxLen; omega)) fun b _ hc => ?_
 have hz : (w.alloc (.cells #[.int .i64 v] t)).heap.size = w.heap.size + 1 := by simp
 rcases hc with hc | hc
 ·
  exact hc.elim
 ·
  omega
end Go.Proofs.YtcokljhamhgelaaGreatDoor

namespace Go.Proofs.YtcokljhamhgelaaGreatDoor
set_option linter.unusedVariables false
set_option linter.unusedSimpArgs false
def okW (A a : Nat) (ws : List (Nat × Nat)) (m : Nat) : Prop := (∀ q ∈ ws, q.1 < A ∧ q.2 < a) ∧ m < A
theorem okW.tail {A a : Nat} {q : Nat × Nat} {ws : List (Nat × Nat)} {m : Nat} (h : okW A a (q :: ws) m) : q.1 < A ∧ q.2 < a ∧ okW A a ws m :=
 ⟨(h.1 q (by simp)).1, (h.1 q (by simp)).2, fun p hp => h.1 p (by simp [hp]), h.2⟩
def accN (ac : List (List Bool)) (nx : List (List (List Int))) : Int → List (Nat × Nat) → Nat → Bool
 | s, [], m => hasN ac s m
 | s, q :: ws, m => accN ac nx (goN nx s q.1 q.2) ws m
theorem accN_neg (ac : List (List Bool)) (nx : List (List (List Int))) : ∀ (ws : List (Nat × Nat)) (s : Int) (m : Nat), s < 0 → accN ac nx s ws m = false
 | [], s, m, h => by
  show hasN ac s m = false
  unfold hasN
  rw [decide_eq_false (by omega), Bool.false_and]
 | q :: ws, s, m, h => by
  show accN ac nx (goN nx s q.1 q.2) ws m = false
  refine accN_neg ac nx ws _ m ?_
  unfold goN
  rw [if_pos h]
  omega
section
variable {α : Type} [DecidableEq α]
end
section
variable {t a : Int} {ac bc : List (List Bool)} {nx ny : List (List (List Int))}
end
end Go.Proofs.YtcokljhamhgelaaGreatDoor

namespace Go.Proofs.YtcokljhamhgelaaGreatDoor
set_option linter.unusedVariables false
set_option linter.unusedSimpArgs false
open Classical in
open Classical in
open Classical in
theorem map_take_succ {α β : Type} {f : α → β} {L : List α} {i : Nat} {x : α} (h : L[i]? = some x) : (L.map f).take (i + 1) = (L.map f).take i ++ [f x] := by
 obtain ⟨hi, rfl⟩ := List.getElem?_eq_some_iff.1 h
 have hl : i < (L.map f).length := by simpa using hi
 rw [List.take_succ_eq_append_getElem hl]
 simp
section
variable {t a : Int} {ac bc : List (List Bool)} {nx ny : List (List (List Int))}
end
end Go.Proofs.YtcokljhamhgelaaGreatDoor

namespace Go.Proofs.YtcokljhamhgelaaGreatDoor
set_option linter.unusedVariables false
set_option linter.unusedSimpArgs false
section
variable {κ : Type} [DecidableEq κ]
def keyL (f : Int → κ) (L : List Int) : List κ := growL [] (L.map fun s => some (f s))
theorem keyL_nodup (f : Int → κ) (L : List Int) : (keyL f L).Nodup := growL_nodup _ List.nodup_nil
theorem keyL_mem {f : Int → κ} {L : List Int} {x : κ} : x ∈ keyL f L ↔ ∃ s ∈ L, f s = x := by
 unfold keyL
 rw [show (L.map fun s => some (f s)) = (L.map f).map some by rw [List.map_map]; rfl, growL_mem]
 simp
def numK (f : Int → κ) (L : List Int) (s : Int) : Int := ((keyL f L).idxOf (f s) : Int)
theorem numK_iff {f : Int → κ} {L : List Int} {s s' : Int} (h : s ∈ L) (h' : s' ∈ L) : numK f L s = numK f L s' ↔ f s = f s' := by
 constructor
 ·
  intro e
  unfold numK at e
  have h1 : f s ∈ keyL f L := keyL_mem.2 ⟨s, h, rfl⟩
  have h2 : f s' ∈ keyL f L := keyL_mem.2 ⟨s', h', rfl⟩
  have e' : (keyL f L).idxOf (f s) = (keyL f L).idxOf (f s') := by omega
  have a1 : (keyL f L)[(keyL f L).idxOf (f s)]? = some (f s) := by rw [List.getElem?_eq_getElem (List.idxOf_lt_length_of_mem h1), List.getElem_idxOf]
  have a2 : (keyL f L)[(keyL f L).idxOf (f s')]? = some (f s') := by rw [List.getElem?_eq_getElem (List.idxOf_lt_length_of_mem h2), List.getElem_idxOf]
  rw [e', a2] at a1
  exact (Option.some.inj a1).symm
 ·
  intro e
  unfold numK
  rw [e]
theorem numK_bd {f : Int → κ} {L : List Int} {s : Int} (h : s ∈ L) : 0 ≤ numK f L s ∧ numK f L s < (keyL f L).length := by
 have := List.idxOf_lt_length_of_mem (keyL_mem.2 ⟨s, h, rfl⟩ : f s ∈ keyL f L)
 unfold numK
 omega
theorem keyL_le (f : Int → κ) (L : List Int) : (keyL f L).length ≤ L.length := by
 have key : ∀ (ss : List (Option κ)) (M : List κ), (growL M ss).length ≤ M.length + ss.length := by
  intro ss
  induction ss with
  | nil => intro M; exact Nat.le_refl _
  | cons o r ih =>
   intro M
   have h1 := ih (grow1 M o)
   have h2 : (grow1 M o).length ≤ M.length + 1 := by
    cases o with
    | none => exact Nat.le_succ _
    | some x =>
     by_cases hx : x ∈ M
     ·
      rw [grow1_old hx]; omega
     ·
      rw [grow1_new hx]; simp
   show (growL (grow1 M o) r).length ≤ _
   simp only [List.length_cons]
   omega
 have := key (L.map fun s => some (f s)) []
 simpa [keyL] using this
theorem keyL_pos {f : Int → κ} {L : List Int} (h : L ≠ []) : 1 ≤ (keyL f L).length := by
 obtain ⟨s, hs⟩ := List.exists_mem_of_ne_nil L h
 exact List.length_pos_of_mem (keyL_mem.2 ⟨s, hs, rfl⟩)
theorem keyL_cons (f : Int → κ) (L : List Int) (s : Int) : keyL f (L ++ [s]) = grow1 (keyL f L) (some (f s)) := by
 unfold keyL
 rw [List.map_append, growL_append]
 rfl
theorem cover_nodup : ∀ (L M : List κ), L.Nodup → (∀ x ∈ L, x ∈ M) → M.length ≤ L.length → M.Nodup ∧ ∀ x ∈ M, x ∈ L
 | [], M, _, _, hl => by
  obtain rfl : M = [] := List.eq_nil_of_length_eq_zero (by simpa using hl)
  exact ⟨List.nodup_nil, fun _ h => h⟩
 | x :: L, M, hn, hc, hl => by
  have hx := hc x (List.mem_cons_self ..)
  have hp := List.perm_cons_erase hx
  have hn' := List.nodup_cons.1 hn
  have hlen := hp.length_eq
  simp only [List.length_cons] at hlen hl
  obtain ⟨h1, h2⟩ := cover_nodup L (M.erase x) hn'.2 (fun y hy => by
   have := hp.mem_iff.1 (hc y (List.mem_cons_of_mem _ hy))
   rcases List.mem_cons.1 this with rfl | h
   ·
    exact absurd hy hn'.1
   ·
    exact h) (by omega)
  refine ⟨hp.nodup_iff.2 (List.nodup_cons.2 ⟨fun h => hn'.1 (h2 x h), h1⟩), fun y hy => ?_⟩
  rcases List.mem_cons.1 (hp.mem_iff.1 hy) with rfl | h
  ·
   exact List.mem_cons_self ..
  ·
   exact List.mem_cons_of_mem _ (h2 y h)
end
section
variable {κ χ : Type} [DecidableEq κ] [DecidableEq χ]
theorem finer {f : Int → κ} {g : Int → χ} {L : List Int} (h : ∀ s ∈ L, ∀ s' ∈ L, g s = g s' → f s = f s') :
  (keyL f L).length ≤ (keyL g L).length ∧ ((keyL g L).length ≤ (keyL f L).length → ∀ s ∈ L, ∀ s' ∈ L, f s = f s' → g s = g s') := by
 classical
 have hch : ∀ y : χ, ∃ x : κ, ∀ s ∈ L, g s = y → f s = x := fun y => by
  by_cases hy : ∃ s ∈ L, g s = y
  ·
   obtain ⟨s, hs, rfl⟩ := hy
   exact ⟨f s, fun s' hs' e => h s' hs' s hs e⟩
  ·
   exact ⟨f 0, fun s hs e => absurd ⟨s, hs, e⟩ hy⟩
 obtain ⟨φ, hφ⟩ := Classical.axiomOfChoice hch
 have hcov : ∀ x ∈ keyL f L, x ∈ (keyL g L).map φ := fun x hx => by
  obtain ⟨s, hs, rfl⟩ := keyL_mem.1 hx
  exact List.mem_map.2 ⟨g s, keyL_mem.2 ⟨s, hs, rfl⟩, (hφ (g s) s hs rfl).symm⟩
 have hle : ∀ (P Q : List κ), P.Nodup → (∀ x ∈ P, x ∈ Q) → P.length ≤ Q.length := fun P Q hn hc => by
  rcases Nat.lt_or_ge Q.length P.length with hl | hl
  ·
   obtain ⟨h1, h2⟩ := cover_nodup P Q hn hc (by omega)
   exact Nat.le_of_eq ((List.perm_ext_iff_of_nodup hn h1).2 fun x => ⟨hc x, h2 x⟩).length_eq
  ·
   exact hl
 refine ⟨by have := hle _ _ (keyL_nodup f L) hcov; simpa using this, fun hl s hs s' hs' e => ?_⟩
 obtain ⟨hn, -⟩ := cover_nodup _ _ (keyL_nodup f L) hcov (by simpa using hl)
 have m1 : g s ∈ keyL g L := keyL_mem.2 ⟨s, hs, rfl⟩
 have m2 : g s' ∈ keyL g L := keyL_mem.2 ⟨s', hs', rfl⟩
 have e' : φ (g s) = φ (g s') := by rw [← hφ (g s) s hs rfl, ← hφ (g s') s' hs' rfl, e]
 obtain ⟨i, hi, hie⟩ := List.getElem_of_mem m1
 obtain ⟨j, hj, hje⟩ := List.getElem_of_mem m2
 have hij : i = j := by
  have hi' : i < ((keyL g L).map φ).length := by simpa using hi
  have hj' : j < ((keyL g L).map φ).length := by simpa using hj
  exact (List.getElem_inj (h₀ := hi') (h₁ := hj') hn).1 (by simp [hie, hje, e'])
 subst hij
 rw [← hie, ← hje]
end
abbrev WL := List (Nat × Nat) → Nat → Bool
noncomputable instance instDecWL : DecidableEq WL := fun _ _ => Classical.propDecidable _
def noW : WL := fun _ _ => false
noncomputable def lgN (ac : List (List Bool)) (nx : List (List (List Int))) (A a : Nat) (s : Int) : WL := fun ws m => @decide (okW A a ws m) (Classical.propDecidable _) && accN ac nx s ws m
noncomputable def derW (m k : Nat) (l : WL) : Option WL := if (fun ws => l ((m, k) :: ws)) = noW then none else some fun ws => l ((m, k) :: ws)
section
variable {ac : List (List Bool)} {nx : List (List (List Int))} {A a : Nat}
theorem lgN_ok {s : Int} {ws : List (Nat × Nat)} {m : Nat} (hw : okW A a ws m) : lgN ac nx A a s ws m = accN ac nx s ws m := by
 unfold lgN
 rw [@decide_eq_true _ (Classical.propDecidable _) hw, Bool.true_and]
theorem lgN_bad {s : Int} {ws : List (Nat × Nat)} {m : Nat} (hw : ¬ okW A a ws m) : lgN ac nx A a s ws m = false := by
 unfold lgN
 rw [@decide_eq_false _ (Classical.propDecidable _) hw, Bool.false_and]
theorem lgN_eq {s s' : Int} : lgN ac nx A a s = lgN ac nx A a s' ↔ ∀ ws m, okW A a ws m → accN ac nx s ws m = accN ac nx s' ws m := by
 constructor
 ·
  intro h ws m hw
  have := congrFun (congrFun h ws) m
  rwa [lgN_ok hw, lgN_ok hw] at this
 ·
  intro h
  funext ws m
  by_cases hw : okW A a ws m
  ·
   rw [lgN_ok hw, lgN_ok hw, h ws m hw]
  ·
   rw [lgN_bad hw, lgN_bad hw]
theorem lgN_neg {s : Int} (h : s < 0) : lgN ac nx A a s = noW := by
 funext ws m
 unfold lgN
 rw [accN_neg _ _ _ _ _ h, Bool.and_false]
 rfl
theorem okW_cons {m k : Nat} {ws : List (Nat × Nat)} {x : Nat} (hm : m < A) (hk : k < a) (h : okW A a ws x) : okW A a ((m, k) :: ws) x :=
 ⟨fun q hq => by
  rcases List.mem_cons.1 hq with rfl | hq
  ·
   exact ⟨hm, hk⟩
  ·
   exact h.1 q hq, h.2⟩
theorem lgN_go {s : Int} {m k : Nat} (hm : m < A) (hk : k < a) : (fun ws => lgN ac nx A a s ((m, k) :: ws)) = lgN ac nx A a (goN nx s m k) := by
 funext ws x
 by_cases h : okW A a ws x
 ·
  rw [lgN_ok h, lgN_ok (okW_cons hm hk h)]
  rfl
 ·
  rw [lgN_bad h, lgN_bad fun q => h q.tail.2.2]
theorem derW_lgN {s : Int} {m k : Nat} (hm : m < A) (hk : k < a) : derW m k (lgN ac nx A a s) = if lgN ac nx A a (goN nx s m k) = noW then none else some (lgN ac nx A a (goN nx s m k)) := by
 unfold derW
 rw [lgN_go hm hk]
theorem lgN_has {s : Int} {m : Nat} (hm : m < A) : lgN ac nx A a s [] m = hasN ac s m := by
 have hw : okW A a [] m := ⟨by simp, hm⟩
 rw [lgN_ok hw]
 rfl
theorem lgN_step {s s' : Int} (h : lgN ac nx A a s = lgN ac nx A a s') : (∀ m, m < A → hasN ac s m = hasN ac s' m) ∧ ∀ m k, m < A → k < a → lgN ac nx A a (goN nx s m k) = lgN ac nx A a (goN nx s' m k) := by
 refine ⟨fun m hm => ?_, fun m k hm hk => ?_⟩
 ·
  rw [← lgN_has (nx := nx) (a := a) hm, h, lgN_has hm]
 ·
  rw [← lgN_go hm hk, h, lgN_go hm hk]
end
noncomputable def lsL (l : WL) (A a i : Nat) : List WL := expl l (fun y => grid (fun m k => derW m k y) A a) i
noncomputable def lsC (l : WL) (A a i : Nat) (x : WL) (m k : Nat) : List WL := curG l derW A a i x m k
noncomputable def lsF (l : WL) (A a : Nat) : List WL := lsL l A a 60
def accLs (A : Nat) (l : WL) : List Bool := (List.range A).map (l [])
noncomputable def rowR (L : List WL) (a m : Nat) (l : WL) : List Int := (List.range a).map fun k => numO L (derW m k l)
noncomputable def rowsR (L : List WL) (A a : Nat) (l : WL) : List (List Int) := (List.range A).map fun m => rowR L a m l
noncomputable def lsA (l : WL) (A a : Nat) : List (List Bool) := (lsF l A a).map (accLs A)
noncomputable def lsX (l : WL) (A a : Nat) : List (List (List Int)) := (lsF l A a).map (rowsR (lsF l A a) A a)
theorem rowR_take {L : List WL} {a m k : Nat} {l : WL} (hk : k < a) : (rowR L a m l).take (k + 1) = (rowR L a m l).take k ++ [numO L (derW m k l)] := by
 have hl : k < (rowR L a m l).length := by simpa [rowR] using hk
 rw [List.take_succ_eq_append_getElem hl]
 simp [rowR]
theorem rowsR_take {L : List WL} {A a m : Nat} {l : WL} (hm : m < A) : (rowsR L A a l).take (m + 1) = (rowsR L A a l).take m ++ [rowR L a m l] := by
 have hl : m < (rowsR L A a l).length := by simpa [rowsR] using hm
 rw [List.take_succ_eq_append_getElem hl]
 simp [rowsR]
section
variable {t a : Int} {ac : List (List Bool)} {nx : List (List (List Int))}
theorem lsL_states (h : AutOk t a ac nx) (i : Nat) : ∀ l ∈ lsL (lgN ac nx (atomsN t).toNat a.toNat 0) (atomsN t).toNat a.toNat i, ∃ s : Nat, s < ac.length ∧ l = lgN ac nx (atomsN t).toNat a.toNat (s : Int) := by
 refine expl_all ?_ ?_ i
 ·
  exact ⟨0, h.lo, rfl⟩
 ·
  rintro y ⟨s, hs, rfl⟩ m k hm hk z hz
  rw [derW_lgN hm hk] at hz
  split at hz
  ·
   cases hz
  ·
   rename_i hn
   obtain rfl := Option.some.inj hz
   have hb := goN_bd h (s := (s : Int)) (m := m) (k := k) (by omega) (by omega) (by omega)
   have h0 : 0 ≤ goN nx s m k := by
    rcases Int.lt_or_le (goN nx s m k) 0 with q | q
    ·
     exact absurd (lgN_neg q) hn
    ·
     exact q
   exact ⟨(goN nx s m k).toNat, by omega, by rw [Int.toNat_of_nonneg h0]⟩
theorem lsL_len (h : AutOk t a ac nx) (i : Nat) : (lsL (lgN ac nx (atomsN t).toNat a.toNat 0) (atomsN t).toNat a.toNat i).length ≤ ac.length := by
 have hst := lsL_states h i
 have hch : ∀ l : WL, ∃ s : Nat, l ∈ lsL (lgN ac nx (atomsN t).toNat a.toNat 0) (atomsN t).toNat a.toNat i → s < ac.length ∧ l = lgN ac nx (atomsN t).toNat a.toNat (s : Int) := fun l => by
  by_cases hl : l ∈ lsL (lgN ac nx (atomsN t).toNat a.toNat 0) (atomsN t).toNat a.toNat i
  ·
   obtain ⟨s, hs⟩ := hst l hl
   exact ⟨s, fun _ => hs⟩
  ·
   exact ⟨0, fun q => absurd q hl⟩
 obtain ⟨φ, hφ⟩ := Classical.axiomOfChoice hch
 have hn : (lsL (lgN ac nx (atomsN t).toNat a.toNat 0) (atomsN t).toNat a.toNat i).Nodup := expl_nodup _ _ _
 have := pigeon ac.length ((lsL (lgN ac nx (atomsN t).toNat a.toNat 0) (atomsN t).toNat a.toNat i).map φ) (by
  rw [List.nodup_iff_pairwise_ne, List.pairwise_map]
  refine List.Pairwise.imp_of_mem ?_ (List.nodup_iff_pairwise_ne.1 hn)
  intro p q hp hq hne e
  exact hne (by rw [(hφ p hp).2, (hφ q hq).2, e])) (fun x hx => by
  obtain ⟨l, hl, rfl⟩ := List.mem_map.1 hx
  exact (hφ l hl).1)
 simpa using this
theorem lsL_all (h : AutOk t a ac nx) {i : Nat} (hd : (lsL (lgN ac nx (atomsN t).toNat a.toNat 0) (atomsN t).toNat a.toNat i).length ≤ i) : lsL (lgN ac nx (atomsN t).toNat a.toNat 0) (atomsN t).toNat a.toNat i = lsF (lgN ac nx (atomsN t).toNat a.toNat 0) (atomsN t).toNat a.toNat := by
 unfold lsF
 by_cases hi : i ≤ 60
 ·
  exact (expl_stop hd 60 hi).symm
 ·
  have h1 := lsL_len h 60
  have h2 := h.hi
  exact expl_stop (s := lgN ac nx (atomsN t).toNat a.toNat 0) (succ := fun y => grid (fun m k => derW m k y) (atomsN t).toNat a.toNat) (k := 60) (by show (lsL _ _ _ 60).length ≤ 60; omega) i (by omega)
def keyI (ac : List (List Bool)) (nx : List (List (List Int))) (A a : Nat) (c : Int → Int) (s : Int) : Int × List (Bool × List Int) := (c s, (List.range A).map fun m => (hasN ac s m, (List.range a).map fun k => c (goN nx s m k)))
def stI (N : Nat) : List Int := -1 :: (List.range N).map fun (i : Nat) => (i : Int)
theorem stI_mem {N : Nat} {s : Int} : s ∈ stI N ↔ -1 ≤ s ∧ s < N := by
 unfold stI
 simp only [List.mem_cons, List.mem_map, List.mem_range]
 constructor
 ·
  rintro (rfl | ⟨i, hi, rfl⟩)
  ·
   omega
  ·
   omega
 ·
  rintro ⟨h1, h2⟩
  by_cases hs : s = -1
  ·
   exact Or.inl hs
  ·
   exact Or.inr ⟨s.toNat, by omega, by omega⟩
def clsI (ac : List (List Bool)) (nx : List (List (List Int))) (A a : Nat) : Nat → Int → Int
 | 0 => fun _ => 0
 | r + 1 => numK (keyI ac nx A a (clsI ac nx A a r)) (stI ac.length)
theorem keyI_eq {A a : Nat} {c : Int → Int} {s s' : Int} : keyI ac nx A a c s = keyI ac nx A a c s' ↔ c s = c s' ∧ (∀ m, m < A → hasN ac s m = hasN ac s' m) ∧ ∀ m k, m < A → k < a → c (goN nx s m k) = c (goN nx s' m k) := by
 unfold keyI
 simp only [Prod.mk.injEq]
 constructor
 ·
  rintro ⟨h1, h2⟩
  have h3 := List.map_inj_left.1 h2
  refine ⟨h1, fun m hm => ?_, fun m k hm hk => ?_⟩
  ·
   have := h3 m (List.mem_range.2 hm)
   simp only [Prod.mk.injEq] at this
   exact this.1
  ·
   have := h3 m (List.mem_range.2 hm)
   simp only [Prod.mk.injEq] at this
   exact List.map_inj_left.1 this.2 k (List.mem_range.2 hk)
 ·
  rintro ⟨h1, h2, h3⟩
  refine ⟨h1, List.map_congr_left fun m hm => ?_⟩
  have hm := List.mem_range.1 hm
  rw [h2 m hm, List.map_congr_left fun k hk => h3 m k hm (List.mem_range.1 hk)]
theorem goN_in (h : AutOk t a ac nx) {s : Int} {m k : Nat} (hs : s ∈ stI ac.length) (hm : m < (atomsN t).toNat) (hk : k < a.toNat) : goN nx s m k ∈ stI ac.length := by
 have h1 := stI_mem.1 hs
 exact stI_mem.2 (goN_bd h h1.2 (by omega) (by omega))
end
section
variable {t a : Int} {ac : List (List Bool)} {nx : List (List (List Int))}
theorem accW_iff (h : AutOk t a ac nx) : ∀ (n s : Nat), s < ac.length → (accW ac nx n s = true ↔ ∃ ws m, ws.length = n ∧ okW (atomsN t).toNat a.toNat ws m ∧ accN ac nx (s : Int) ws m = true)
 | 0, s, hs => by
  obtain ⟨ar, har⟩ : ∃ e, ac[s]? = some e := ⟨_, List.getElem?_eq_getElem hs⟩
  obtain ⟨nr, hnr⟩ : ∃ e, nx[s]? = some e := ⟨_, List.getElem?_eq_getElem (by rw [h.len]; exact hs)⟩
  have hl := (h.st _ _ _ har hnr).1
  have e0 : ac.getD s [] = ar := by rw [List.getD_eq_getElem?_getD, har]; rfl
  have e1 : ∀ m, hasN ac (s : Int) m = ar.getD m false := fun m => by
   unfold hasN
   rw [decide_eq_true (by omega), Bool.true_and, Int.toNat_natCast, e0]
  show (ac.getD s []).any id = true ↔ _
  rw [e0, List.any_eq_true]
  constructor
  ·
   rintro ⟨b, hb, hbt⟩
   obtain ⟨m, hm, rfl⟩ := List.getElem_of_mem hb
   refine ⟨[], m, rfl, ⟨by simp, by omega⟩, ?_⟩
   show hasN ac (s : Int) m = true
   rw [e1, List.getD_eq_getElem?_getD, List.getElem?_eq_getElem hm]
   exact hbt
  ·
   rintro ⟨ws, m, hw, ho, ha⟩
   obtain rfl := List.eq_nil_of_length_eq_zero hw
   have ha' : hasN ac (s : Int) m = true := ha
   rw [e1, List.getD_eq_getElem?_getD, List.getElem?_eq_getElem (by have := ho.2; omega)] at ha'
   exact ⟨_, List.getElem_mem _, ha'⟩
 | n + 1, s, hs => by
  obtain ⟨ar, har⟩ : ∃ e, ac[s]? = some e := ⟨_, List.getElem?_eq_getElem hs⟩
  obtain ⟨nr, hnr⟩ : ∃ e, nx[s]? = some e := ⟨_, List.getElem?_eq_getElem (by rw [h.len]; exact hs)⟩
  obtain ⟨-, hl, hrow⟩ := h.st _ _ _ har hnr
  have e0 : nx.getD s [] = nr := by rw [List.getD_eq_getElem?_getD, hnr]; rfl
  have e1 : ∀ (m k : Nat) (row : List Int), nr[m]? = some row → goN nx (s : Int) m k = row.getD k (-1) := fun m k row hr => by
   unfold goN stepN
   rw [if_neg (by omega), Int.toNat_natCast, e0, List.getD_eq_getElem?_getD (l := nr), hr]
   rfl
  rw [accW_succ, e0]
  constructor
  ·
   rintro ⟨row, hr, z, hz, h0, ha⟩
   obtain ⟨m, hm, rfl⟩ := List.getElem_of_mem hr
   obtain ⟨k, hk, rfl⟩ := List.getElem_of_mem hz
   have hmm : nr[m]? = some nr[m] := List.getElem?_eq_getElem hm
   obtain ⟨hrl, hzb⟩ := hrow m _ hmm
   have hb := hzb k _ (List.getElem?_eq_getElem hk)
   obtain ⟨ws, x, hw, ho, hacc⟩ := (accW_iff h n _ (by omega)).1 ha
   refine ⟨(m, k) :: ws, x, by simp [hw], okW_cons (by omega) (by omega) ho, ?_⟩
   show accN ac nx (goN nx (s : Int) m k) ws x = true
   rw [e1 m k _ hmm, List.getD_eq_getElem?_getD, List.getElem?_eq_getElem hk, Option.getD_some]
   rw [Int.toNat_of_nonneg h0] at hacc
   exact hacc
  ·
   rintro ⟨ws, x, hw, ho, ha⟩
   obtain ⟨q, ws, rfl⟩ : ∃ q r, ws = q :: r := by
    cases ws with
    | nil => simp at hw
    | cons q r => exact ⟨q, r, rfl⟩
   obtain ⟨hq1, hq2, ho'⟩ := ho.tail
   obtain ⟨row, hr⟩ : ∃ e, nr[q.1]? = some e := ⟨_, List.getElem?_eq_getElem (by omega)⟩
   obtain ⟨hrl, hzb⟩ := hrow q.1 row hr
   obtain ⟨z, hz⟩ : ∃ e, row[q.2]? = some e := ⟨_, List.getElem?_eq_getElem (by omega)⟩
   have ha' : accN ac nx (goN nx (s : Int) q.1 q.2) ws x = true := ha
   rw [e1 q.1 q.2 row hr, List.getD_eq_getElem?_getD, hz, Option.getD_some] at ha'
   have h0 : 0 ≤ z := by
    rcases Int.lt_or_le z 0 with hn | hn
    ·
     rw [accN_neg _ _ _ _ _ hn] at ha'; cases ha'
    ·
     exact hn
   have hb := hzb q.2 z hz
   refine ⟨row, List.mem_of_getElem? hr, z, List.mem_of_getElem? hz, h0, (accW_iff h n _ (by omega)).2 ⟨ws, x, by simpa using hw, ho', ?_⟩⟩
   rw [Int.toNat_of_nonneg h0]
   exact ha'
theorem live_iff (h : AutOk t a ac nx) {s : Nat} (hs : s < ac.length) : Live ac nx s ↔ lgN ac nx (atomsN t).toNat a.toNat (s : Int) ≠ noW := by
 constructor
 ·
  rintro ⟨n, hn⟩ e
  obtain ⟨ws, m, -, ho, ha⟩ := (accW_iff h n s hs).1 hn
  have := congrFun (congrFun e ws) m
  rw [lgN_ok ho, ha] at this
  cases this
 ·
  intro hne
  apply Classical.byContradiction
  intro hd
  apply hne
  funext ws m
  by_cases ho : okW (atomsN t).toNat a.toNat ws m
  ·
   rw [lgN_ok ho]
   cases ha : accN ac nx (s : Int) ws m with
   | false => rfl
   | true => exact absurd ⟨ws.length, (accW_iff h _ s hs).2 ⟨ws, m, rfl, ho, ha⟩⟩ hd
  ·
   rw [lgN_bad ho]
   rfl
noncomputable def cutZ (ac : List (List Bool)) (nx : List (List (List Int))) (z : Int) : Int := if 0 ≤ z ∧ liveB ac nx z.toNat = false then -1 else z
noncomputable def cutX (ac : List (List Bool)) (nx : List (List (List Int))) : List (List (List Int)) := nx.map fun nr => nr.map fun row => row.map (cutZ ac nx)
theorem getD_map {α β : Type} {f : α → β} {l : List α} {i : Nat} {d : α} {e : β} (h : f d = e) : (l.map f).getD i e = f (l.getD i d) := by
 rw [List.getD_eq_getElem?_getD, List.getD_eq_getElem?_getD, List.getElem?_map]
 cases l[i]? with
 | none => exact h.symm
 | some x => rfl
theorem cut_go (s : Int) (m k : Nat) : goN (cutX ac nx) s m k = cutZ ac nx (goN nx s m k) := by
 unfold goN
 have e : cutZ ac nx (-1) = -1 := by unfold cutZ; rw [if_neg (by omega)]
 by_cases hs : s < 0
 ·
  rw [if_pos hs, if_pos hs, e]
 ·
  rw [if_neg hs, if_neg hs]
  unfold stepN cutX
  rw [getD_map (d := []) (e := []) rfl, getD_map (d := []) (e := []) rfl, getD_map e]
theorem cut_bd (h : AutOk t a ac nx) {s : Int} {m k : Nat} (hs : s < ac.length) (hm : m < (atomsN t).toNat) (hk : k < a.toNat) : -1 ≤ goN (cutX ac nx) s m k ∧ goN (cutX ac nx) s m k < ac.length := by
 rw [cut_go]
 have := goN_bd h hs (m := m) (k := k) (by omega) (by omega)
 unfold cutZ
 have := h.lo
 split <;> omega
theorem cut_lgN (h : AutOk t a ac nx) {s : Int} {m k : Nat} (hs : s < ac.length) (hm : m < (atomsN t).toNat) (hk : k < a.toNat) : lgN ac nx (atomsN t).toNat a.toNat (goN (cutX ac nx) s m k) = lgN ac nx (atomsN t).toNat a.toNat (goN nx s m k) ∧
  (goN (cutX ac nx) s m k < 0 ↔ lgN ac nx (atomsN t).toNat a.toNat (goN nx s m k) = noW) := by
 rw [cut_go]
 have hb := goN_bd h hs (m := m) (k := k) (by omega) (by omega)
 generalize goN nx s m k = z at hb
 unfold cutZ
 by_cases h0 : 0 ≤ z
 ·
  have hlt : z.toNat < ac.length := by omega
  have hl := live_iff h hlt
  rw [Int.toNat_of_nonneg h0] at hl
  by_cases hd : liveB ac nx z.toNat = false
  ·
   have hnl : ¬ Live ac nx z.toNat := fun q => by rw [liveB_true.2 q] at hd; cases hd
   have hno : lgN ac nx (atomsN t).toNat a.toNat z = noW := by
    apply Classical.byContradiction
    intro q
    exact hnl (hl.2 q)
   rw [if_pos ⟨h0, hd⟩, hno, lgN_neg (by omega)]
   exact ⟨rfl, fun _ => rfl, fun _ => by omega⟩
  ·
   have hd' : liveB ac nx z.toNat = true := by simpa using hd
   have hne := hl.1 (liveB_true.1 hd')
   rw [if_neg fun q => hd q.2]
   exact ⟨rfl, fun q => by omega, fun q => absurd q hne⟩
 ·
  rw [if_neg fun q => h0 q.1]
  exact ⟨rfl, fun _ => lgN_neg (by omega), fun _ => by omega⟩
def stB (N : Nat) : List Int := (List.range N).map fun (i : Nat) => (i : Int)
theorem stB_mem {N : Nat} {s : Int} : s ∈ stB N ↔ 0 ≤ s ∧ s < N := by
 unfold stB
 simp only [List.mem_map, List.mem_range]
 constructor
 ·
  rintro ⟨i, hi, rfl⟩; omega
 ·
  rintro ⟨h1, h2⟩; exact ⟨s.toNat, by omega, by omega⟩
theorem stB_succ (N : Nat) : stB (N + 1) = stB N ++ [(N : Int)] := by unfold stB; rw [List.range_succ, List.map_append]; rfl
noncomputable def clsB (ac : List (List Bool)) (nx : List (List (List Int))) (A a : Nat) : Nat → Int → Int
 | 0 => fun s => if s < 0 then -1 else 0
 | r + 1 => fun s => if s < 0 then -1 else numK (keyI ac (cutX ac nx) A a (clsB ac nx A a r)) (stB ac.length) s
noncomputable def keyB (ac : List (List Bool)) (nx : List (List (List Int))) (A a r : Nat) : Int → Int × List (Bool × List Int) := keyI ac (cutX ac nx) A a (clsB ac nx A a r)
noncomputable def cntC (ac : List (List Bool)) (nx : List (List (List Int))) (A a : Nat) : Nat → Nat
 | 0 => 1
 | r + 1 => (keyL (keyB ac nx A a r) (stB ac.length)).length
theorem clsB_neg {A a r : Nat} {s : Int} (h : s < 0) : clsB ac nx A a r s = -1 := by cases r <;> exact if_pos h
theorem clsB_succ {A a r : Nat} {s : Int} (h : 0 ≤ s) : clsB ac nx A a (r + 1) s = numK (keyB ac nx A a r) (stB ac.length) s := if_neg (by omega)
theorem clsB_nonneg {A a r : Nat} {s : Int} (h : s ∈ stB ac.length) : 0 ≤ clsB ac nx A a r s := by
 have h1 := stB_mem.1 h
 cases r with
 | zero => show 0 ≤ (if s < 0 then (-1 : Int) else 0); rw [if_neg (by omega)]; omega
 | succ r => rw [clsB_succ h1.1]; exact (numK_bd h).1
theorem clsB_same (h : AutOk t a ac nx) : ∀ (r : Nat) (s s' : Int), s ∈ stB ac.length → s' ∈ stB ac.length → lgN ac nx (atomsN t).toNat a.toNat s = lgN ac nx (atomsN t).toNat a.toNat s' → clsB ac nx (atomsN t).toNat a.toNat r s = clsB ac nx (atomsN t).toNat a.toNat r s'
 | 0, s, s', hs, hs', _ => by
  have h1 := stB_mem.1 hs
  have h2 := stB_mem.1 hs'
  show (if s < 0 then (-1 : Int) else 0) = (if s' < 0 then (-1 : Int) else 0)
  rw [if_neg (by omega), if_neg (by omega)]
 | r + 1, s, s', hs, hs', e => by
  have h1 := stB_mem.1 hs
  have h2 := stB_mem.1 hs'
  rw [clsB_succ h1.1, clsB_succ h2.1]
  refine (numK_iff hs hs').2 (keyI_eq.2 ⟨clsB_same h r s s' hs hs' e, (lgN_step e).1, fun m k hm hk => ?_⟩)
  obtain ⟨c1, c2⟩ := cut_lgN h h1.2 hm hk
  obtain ⟨c3, c4⟩ := cut_lgN h h2.2 hm hk
  have e' := (lgN_step e).2 m k hm hk
  obtain ⟨b1, b2⟩ := cut_bd h h1.2 hm hk
  obtain ⟨b3, b4⟩ := cut_bd h h2.2 hm hk
  by_cases hn : goN (cutX ac nx) s m k < 0
  ·
   rw [clsB_neg hn, clsB_neg (c4.2 (by rw [← e']; exact c2.1 hn))]
  ·
   have hn' : ¬ goN (cutX ac nx) s' m k < 0 := fun q => hn (c2.2 (by rw [e']; exact c4.1 q))
   exact clsB_same h r _ _ (stB_mem.2 ⟨by omega, b2⟩) (stB_mem.2 ⟨by omega, b4⟩) (by rw [c1, c3]; exact e')
theorem clsB_finer {A a : Nat} (r : Nat) {s s' : Int} (hs : s ∈ stB ac.length) (hs' : s' ∈ stB ac.length) (e : clsB ac nx A a (r + 1) s = clsB ac nx A a (r + 1) s') : keyB ac nx A a r s = keyB ac nx A a r s' := by
 rw [clsB_succ (stB_mem.1 hs).1, clsB_succ (stB_mem.1 hs').1] at e
 exact (numK_iff hs hs').1 e
theorem cntC_eq (h : 1 ≤ ac.length) {A a : Nat} (r : Nat) : (keyL (clsB ac nx A a r) (stB ac.length)).length = cntC ac nx A a r := by
 cases r with
 | zero =>
  have h1 : 1 ≤ (keyL (clsB ac nx A a 0) (stB ac.length)).length := keyL_pos (by have q0 : (0 : Int) ∈ stB ac.length := stB_mem.2 ⟨Int.le_refl 0, by omega⟩; intro q; rw [q] at q0; simp at q0)
  have h2 : (keyL (clsB ac nx A a 0) (stB ac.length)).length ≤ 1 := by
   have := (finer (L := stB ac.length) (f := clsB ac nx A a 0) (g := fun _ => (0 : Int)) fun s hs s' hs' _ => by
    have h1 := stB_mem.1 hs
    have h2 := stB_mem.1 hs'
    show (if s < 0 then (-1 : Int) else 0) = (if s' < 0 then (-1 : Int) else 0)
    rw [if_neg (by omega), if_neg (by omega)]).1
   refine Nat.le_trans this ?_
   have := pigeon 1 ((keyL (fun _ : Int => (0 : Int)) (stB ac.length)).map Int.toNat) (by
    rw [List.nodup_iff_pairwise_ne, List.pairwise_map]
    refine List.Pairwise.imp_of_mem ?_ (List.nodup_iff_pairwise_ne.1 (keyL_nodup _ _))
    intro p q hp hq hne
    obtain ⟨_, _, rfl⟩ := keyL_mem.1 hp
    obtain ⟨_, _, rfl⟩ := keyL_mem.1 hq
    exact absurd rfl hne) (fun x hx => by
    obtain ⟨y, hy, rfl⟩ := List.mem_map.1 hx
    obtain ⟨_, _, rfl⟩ := keyL_mem.1 hy
    decide)
   simpa using this
  show _ = 1
  omega
 | succ r =>
  apply Nat.le_antisymm
  ·
   exact (finer fun s hs s' hs' e => by
    rw [clsB_succ (stB_mem.1 hs).1, clsB_succ (stB_mem.1 hs').1]
    exact (numK_iff hs hs').2 e).1
  ·
   exact (finer fun s hs s' hs' e => clsB_finer r hs hs' e).1
theorem cntC_mono (h : 1 ≤ ac.length) {A a : Nat} (r : Nat) : cntC ac nx A a r ≤ cntC ac nx A a (r + 1) := by
 rw [← cntC_eq h]
 exact (finer fun s hs s' hs' e => (keyI_eq.1 e).1).1
theorem cntC_le {A a : Nat} (h : 1 ≤ ac.length) (r : Nat) : cntC ac nx A a r ≤ ac.length := by
 cases r with
 | zero => exact h
 | succ r =>
  refine Nat.le_trans (keyL_le (keyB ac nx A a r) (stB ac.length)) ?_
  simp [stB]
theorem clsB_stop (h : AutOk t a ac nx) {r : Nat} (hc : cntC ac nx (atomsN t).toNat a.toNat (r + 1) = cntC ac nx (atomsN t).toNat a.toNat r) {s s' : Int} (hs : s ∈ stB ac.length) (hs' : s' ∈ stB ac.length) :
  clsB ac nx (atomsN t).toNat a.toNat r s = clsB ac nx (atomsN t).toNat a.toNat r s' ↔ lgN ac nx (atomsN t).toNat a.toNat s = lgN ac nx (atomsN t).toNat a.toNat s' := by
 refine ⟨fun e => ?_, clsB_same h r s s' hs hs'⟩
 have hst := (finer (L := stB ac.length) (f := clsB ac nx (atomsN t).toNat a.toNat r) (g := keyB ac nx (atomsN t).toNat a.toNat r) fun s hs s' hs' e => (keyI_eq.1 e).1).2 (by rw [cntC_eq h.lo, ← hc]; exact Nat.le_refl _)
 have key : ∀ (ws : List (Nat × Nat)) (s s' : Int) (m : Nat), s ∈ stB ac.length → s' ∈ stB ac.length → clsB ac nx (atomsN t).toNat a.toNat r s = clsB ac nx (atomsN t).toNat a.toNat r s' → okW (atomsN t).toNat a.toNat ws m → accN ac nx s ws m = accN ac nx s' ws m := by
  intro ws
  induction ws with
  | nil => intro s s' m hs hs' e hw; exact (keyI_eq.1 (hst s hs s' hs' e)).2.1 m hw.2
  | cons q ws ih =>
   intro s s' m hs hs' e hw
   obtain ⟨hq1, hq2, hw'⟩ := hw.tail
   have h1 := stB_mem.1 hs
   have h2 := stB_mem.1 hs'
   have e2 := (keyI_eq.1 (hst s hs s' hs' e)).2.2 q.1 q.2 hq1 hq2
   obtain ⟨c1, c2⟩ := cut_lgN h h1.2 hq1 hq2
   obtain ⟨c3, c4⟩ := cut_lgN h h2.2 hq1 hq2
   obtain ⟨b1, b2⟩ := cut_bd h h1.2 hq1 hq2
   obtain ⟨b3, b4⟩ := cut_bd h h2.2 hq1 hq2
   show accN ac nx (goN nx s q.1 q.2) ws m = accN ac nx (goN nx s' q.1 q.2) ws m
   rw [← lgN_eq.1 c1 ws m hw', ← lgN_eq.1 c3 ws m hw']
   by_cases hn : goN (cutX ac nx) s q.1 q.2 < 0
   ·
    have hn' : goN (cutX ac nx) s' q.1 q.2 < 0 := by
     rcases Int.lt_or_le (goN (cutX ac nx) s' q.1 q.2) 0 with q1 | q1
     ·
      exact q1
     ·
      rw [clsB_neg hn] at e2
      have := clsB_nonneg (nx := nx) (A := (atomsN t).toNat) (a := a.toNat) (r := r) (stB_mem.2 ⟨q1, b4⟩)
      omega
    rw [accN_neg _ _ _ _ _ hn, accN_neg _ _ _ _ _ hn']
   ·
    have hn' : ¬ goN (cutX ac nx) s' q.1 q.2 < 0 := fun q1 => by
     rw [clsB_neg q1] at e2
     have := clsB_nonneg (nx := nx) (A := (atomsN t).toNat) (a := a.toNat) (r := r) (stB_mem.2 ⟨by omega, b2⟩)
     omega
    exact ih _ _ m (stB_mem.2 ⟨by omega, b2⟩) (stB_mem.2 ⟨by omega, b4⟩) e2 hw'
 exact lgN_eq.2 fun ws m hw => key ws s s' m hs hs' e hw
theorem numK_new {κ : Type} [DecidableEq κ] {f : Int → κ} {N i : Nat} (hi : i < N) (hn : f (i : Int) ∉ keyL f (stB i)) : numK f (stB N) (i : Int) = ((keyL f (stB i)).length : Int) := by
 have hp : keyL f (stB (i + 1)) <+: keyL f (stB N) := by
  unfold keyL
  obtain ⟨d, rfl⟩ : ∃ d, N = i + 1 + d := ⟨N - (i + 1), by omega⟩
  have : ∃ M, stB (i + 1 + d) = stB (i + 1) ++ M := by
   clear hi
   induction d with
   | zero => exact ⟨[], by simp⟩
   | succ d ih =>
    obtain ⟨M, hM⟩ := ih
    exact ⟨M ++ [((i + 1 + d : Nat) : Int)], by rw [← Nat.add_assoc, stB_succ, hM, List.append_assoc]⟩
  obtain ⟨M, hM⟩ := this
  rw [hM, List.map_append, growL_append]
  exact growL_prefix _ _
 unfold numK
 have h1 : keyL f (stB (i + 1)) = keyL f (stB i) ++ [f (i : Int)] := by rw [stB_succ, keyL_cons, grow1_new hn]
 rw [idxOf_prefix hp (by rw [h1]; simp), h1, idxOf_new hn]
end
end Go.Proofs.YtcokljhamhgelaaGreatDoor

namespace Go.Proofs.YtcokljhamhgelaaGreatDoor
set_option linter.unusedVariables false
set_option linter.unusedSimpArgs false
structure ClOk (ac : List (List Bool)) (nx : List (List (List Int))) (A a : Nat) (D : Int) (f : Int → Int) : Prop where
 dead : ∀ s : Int, 0 ≤ s → s < ac.length → (f s = D ↔ lgN ac nx A a s = noW)
 same : ∀ s s' : Int, 0 ≤ s → s < ac.length → 0 ≤ s' → s' < ac.length → (f s = f s' ↔ lgN ac nx A a s = lgN ac nx A a s')
def StIn (N : Nat) (S : List Int) : Prop := ∀ s ∈ S, 0 ≤ s ∧ s < N
theorem idx_map {α β γ : Type} [DecidableEq β] [DecidableEq γ] {f : α → β} {g : α → γ} {z : α} : ∀ {S : List α}, (∀ s ∈ S, f s = f z ↔ g s = g z) → (S.map f).idxOf (f z) = (S.map g).idxOf (g z)
 | [], _ => rfl
 | s :: S, h => by
  have h1 := h s (List.mem_cons_self ..)
  have ih := idx_map (S := S) fun x hx => h x (List.mem_cons_of_mem _ hx)
  simp only [List.map_cons, List.idxOf_cons]
  by_cases e : f s = f z
  ·
   rw [e, h1.1 e, beq_self_eq_true, beq_self_eq_true]
   rfl
  ·
   have e' : ¬ g s = g z := fun q => e (h1.2 q)
   rw [beq_eq_false_iff_ne.2 e, beq_eq_false_iff_ne.2 e', ih]
section
variable {ac : List (List Bool)} {nx : List (List (List Int))} {A a : Nat} {D : Int} {f : Int → Int}
theorem ClOk.mem (h : ClOk ac nx A a D f) {S : List Int} {z : Int} (hS : StIn ac.length S) (h0 : 0 ≤ z) (h1 : z < ac.length) : f z ∈ S.map f ↔ lgN ac nx A a z ∈ S.map (lgN ac nx A a) := by
 simp only [List.mem_map]
 constructor
 ·
  rintro ⟨s, hs, e⟩
  exact ⟨s, hs, (h.same s z (hS s hs).1 (hS s hs).2 h0 h1).1 e⟩
 ·
  rintro ⟨s, hs, e⟩
  exact ⟨s, hs, (h.same s z (hS s hs).1 (hS s hs).2 h0 h1).2 e⟩
theorem ClOk.idx (h : ClOk ac nx A a D f) {S : List Int} {z : Int} (hS : StIn ac.length S) (h0 : 0 ≤ z) (h1 : z < ac.length) : (S.map f).idxOf (f z) = (S.map (lgN ac nx A a)).idxOf (lgN ac nx A a z) :=
 idx_map fun s hs => h.same s z (hS s hs).1 (hS s hs).2 h0 h1
theorem der_none (h : ClOk ac nx A a D f) {s : Int} {m k : Nat} (hm : m < A) (hk : k < a) (hb : goN nx s m k < ac.length) (hz : goN nx s m k < 0 ∨ f (goN nx s m k) = D) : derW m k (lgN ac nx A a s) = none := by
 rw [derW_lgN hm hk]
 by_cases h0 : goN nx s m k < 0
 ·
  rw [lgN_neg h0, if_pos rfl]
 ·
  rcases hz with q | q
  ·
   exact absurd q h0
  ·
   rw [if_pos ((h.dead _ (by omega) hb).1 q)]
theorem der_some (h : ClOk ac nx A a D f) {s : Int} {m k : Nat} (hm : m < A) (hk : k < a) (hb : goN nx s m k < ac.length) (h0 : 0 ≤ goN nx s m k) (hz : f (goN nx s m k) ≠ D) : derW m k (lgN ac nx A a s) = some (lgN ac nx A a (goN nx s m k)) := by
 rw [derW_lgN hm hk, if_neg fun q => hz ((h.dead _ h0 hb).2 q)]
theorem lsC_zero {l x : WL} {i : Nat} : lsC l A a i x 0 0 = lsL l A a i := curG_zero
theorem lsC_line {l x : WL} {i m : Nat} : lsC l A a i x m a = lsC l A a i x (m + 1) 0 := curG_line
theorem lsC_cell {l x : WL} {i m k : Nat} (hm : m < A) (hk : k < a) : lsC l A a i x m (k + 1) = grow1 (lsC l A a i x m k) (derW m k x) := curG_cell hm hk
theorem lsC_all {l x : WL} {i : Nat} (h : (lsL l A a i)[i]? = some x) : lsC l A a i x A 0 = lsL l A a (i + 1) := curG_all h
theorem lsC_prefix {l x : WL} {i m k : Nat} (h : (lsL l A a i)[i]? = some x) : lsC l A a i x m k <+: lsL l A a (i + 1) := curG_prefix h
end
section
variable {t a : Int} {ac : List (List Bool)} {nx : List (List (List Int))}
theorem lsL_in (h : AutOk t a ac nx) (i : Nat) : lsL (lgN ac nx (atomsN t).toNat a.toNat 0) (atomsN t).toNat a.toNat i <+: lsF (lgN ac nx (atomsN t).toNat a.toNat 0) (atomsN t).toNat a.toNat := by
 by_cases hi : i ≤ 60
 ·
  exact expl_prefix _ _ hi
 ·
  rw [lsL_all h (by have := lsL_len h i; have := h.hi; omega)]
  exact List.prefix_refl _
theorem lsC_in (h : AutOk t a ac nx) {i m k : Nat} {x : WL} (hx : (lsL (lgN ac nx (atomsN t).toNat a.toNat 0) (atomsN t).toNat a.toNat i)[i]? = some x) : lsC (lgN ac nx (atomsN t).toNat a.toNat 0) (atomsN t).toNat a.toNat i x m k <+: lsF (lgN ac nx (atomsN t).toNat a.toNat 0) (atomsN t).toNat a.toNat :=
 (lsC_prefix hx).trans (lsL_in h (i + 1))
theorem lsC_len (h : AutOk t a ac nx) {i m k : Nat} {x : WL} (hx : (lsL (lgN ac nx (atomsN t).toNat a.toNat 0) (atomsN t).toNat a.toNat i)[i]? = some x) : (lsC (lgN ac nx (atomsN t).toNat a.toNat 0) (atomsN t).toNat a.toNat i x m k).length ≤ ac.length :=
 Nat.le_trans (prefix_length (lsC_prefix hx)) (lsL_len h (i + 1))
theorem lsF_nodup : (lsF (lgN ac nx (atomsN t).toNat a.toNat 0) (atomsN t).toNat a.toNat).Nodup := expl_nodup _ _ _
theorem ls_num_at {α : Type} [DecidableEq α] {L M : List α} (hd : M.Nodup) (hp : L <+: M) {j : Nat} {z : α} (hz : L[j]? = some z) : numO M (some z) = (j : Int) := by
 simp only [numO]
 rw [idxOf_at hd (prefix_get hp hz)]
theorem ls_num (h : AutOk t a ac nx) {i m k j : Nat} {x z : WL} (hx : (lsL (lgN ac nx (atomsN t).toNat a.toNat 0) (atomsN t).toNat a.toNat i)[i]? = some x) (hj : (lsC (lgN ac nx (atomsN t).toNat a.toNat 0) (atomsN t).toNat a.toNat i x m k)[j]? = some z) :
  numO (lsF (lgN ac nx (atomsN t).toNat a.toNat 0) (atomsN t).toNat a.toNat) (some z) = (j : Int) := ls_num_at lsF_nodup (lsC_in h hx) hj
theorem acc_ls (h : AutOk t a ac nx) {s : Nat} {ar : List Bool} (har : ac[s]? = some ar) : ar = accLs (atomsN t).toNat (lgN ac nx (atomsN t).toNat a.toNat (s : Int)) := by
 have hl := h.acc_row har
 apply List.ext_getElem?
 intro m
 unfold accLs
 rw [List.getElem?_map]
 by_cases hm : m < (atomsN t).toNat
 ·
  rw [List.getElem?_range hm, Option.map_some, lgN_has hm]
  unfold hasN
  rw [decide_eq_true (by omega), Bool.true_and, Int.toNat_natCast, List.getD_eq_getElem?_getD (l := ac), har]
  simp only [Option.getD_some, List.getD_eq_getElem?_getD]
  rw [List.getElem?_eq_getElem (by omega)]
  rfl
 ·
  rw [List.getElem?_eq_none (by omega), List.getElem?_eq_none (by simp; omega)]
  rfl
noncomputable def clsF (ac : List (List Bool)) (nx : List (List (List Int))) (A a r : Nat) (s : Int) : Int := if liveB ac nx s.toNat = true then clsB ac nx A a r s else -1
theorem clsF_ok (h : AutOk t a ac nx) {r : Nat} (hc : cntC ac nx (atomsN t).toNat a.toNat (r + 1) = cntC ac nx (atomsN t).toNat a.toNat r) : ClOk ac nx (atomsN t).toNat a.toNat (-1) (clsF ac nx (atomsN t).toNat a.toNat r) := by
 have hlv : ∀ s : Int, 0 ≤ s → s < ac.length → (liveB ac nx s.toNat = true ↔ lgN ac nx (atomsN t).toNat a.toNat s ≠ noW) := fun s h0 h1 => by
  have := live_iff h (s := s.toNat) (by omega)
  rw [Int.toNat_of_nonneg h0] at this
  rw [liveB_true, this]
 have hdd : ∀ s : Int, 0 ≤ s → s < ac.length → (clsF ac nx (atomsN t).toNat a.toNat r s = -1 ↔ lgN ac nx (atomsN t).toNat a.toNat s = noW) := fun s h0 h1 => by
  unfold clsF
  by_cases hl : liveB ac nx s.toNat = true
  ·
   rw [if_pos hl]
   have := clsB_nonneg (nx := nx) (A := (atomsN t).toNat) (a := a.toNat) (r := r) (stB_mem.2 ⟨h0, h1⟩)
   exact ⟨fun q => by omega, fun q => absurd q ((hlv s h0 h1).1 hl)⟩
  ·
   rw [if_neg hl]
   refine ⟨fun _ => ?_, fun _ => rfl⟩
   apply Classical.byContradiction
   intro q
   exact hl ((hlv s h0 h1).2 q)
 refine ⟨hdd, fun s s' h0 h1 h0' h1' => ?_⟩
 by_cases hl : liveB ac nx s.toNat = true
 ·
  by_cases hl' : liveB ac nx s'.toNat = true
  ·
   unfold clsF
   rw [if_pos hl, if_pos hl']
   exact clsB_stop h hc (stB_mem.2 ⟨h0, h1⟩) (stB_mem.2 ⟨h0', h1'⟩)
  ·
   have e' : lgN ac nx (atomsN t).toNat a.toNat s' = noW := by
    apply Classical.byContradiction
    intro q
    exact hl' ((hlv s' h0' h1').2 q)
   rw [e', (hdd s' h0' h1').2 e']
   exact hdd s h0 h1
 ·
  have e : lgN ac nx (atomsN t).toNat a.toNat s = noW := by
   apply Classical.byContradiction
   intro q
   exact hl ((hlv s h0 h1).2 q)
  rw [e, (hdd s h0 h1).2 e]
  exact ⟨fun q => ((hdd s' h0' h1').1 q.symm).symm, fun q => ((hdd s' h0' h1').2 q.symm).symm⟩
end
end Go.Proofs.YtcokljhamhgelaaGreatDoor
