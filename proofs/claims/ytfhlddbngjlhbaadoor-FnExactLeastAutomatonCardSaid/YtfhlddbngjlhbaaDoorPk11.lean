/-
  Parts of a proof, joined: LeQ, LeK. No condition.
-/
import Derived.Test.YtfhlddbngjlhbaaDoorPk10
namespace Go.Proofs.YtfhlddbngjlhbaaDoor
set_option linter.unusedVariables false
set_option linter.unusedSimpArgs false
def clL (C : List Int) (z : Int) : Int := if z < 0 then -1 else C.getD z.toNat 0
theorem clL_neg {C : List Int} {z : Int} (h : z < 0) : clL C z = -1 := if_pos h
theorem clL_at {C : List Int} {z : Nat} {v : Int} (h : C[z]? = some v) : clL C (z : Int) = v := by
 unfold clL
 rw [if_neg (by omega), Int.toNat_natCast, List.getD_eq_getElem?_getD, h]
 rfl
theorem idxOf_first {α : Type} [DecidableEq α] : ∀ {L : List α} {x : α} {k : Nat}, L[k]? = some x → (∀ j, j < k → L[j]? ≠ some x) → L.idxOf x = k
 | [], _, _, h, _ => by simp at h
 | y :: r, x, 0, h, _ => by
  simp at h
  rw [h]
  simp
 | y :: r, x, k + 1, h, hn => by
  have hy : y ≠ x := fun e => hn 0 (by omega) (by simp [e])
  have := idxOf_first (L := r) (x := x) (k := k) (by simpa using h) (fun j hj => by have := hn (j + 1) (by omega); simpa using this)
  rw [List.idxOf_cons, beq_eq_false_iff_ne.2 hy, this]
  rfl
def idxI (L : List Int) (n : Int) : Int := if n ∈ L then (L.idxOf n : Int) else -1
theorem idxI_yes {L : List Int} {k : Nat} {n : Int} (h : L[k]? = some n) (hn : ∀ j, j < k → L[j]? ≠ some n) : idxI L n = (k : Int) := by
 unfold idxI
 rw [if_pos (List.mem_of_getElem? h), idxOf_first h hn]
theorem idxI_no {L : List Int} {n : Int} (hn : ∀ j, j < L.length → L[j]? ≠ some n) : idxI L n = -1 := by
 unfold idxI
 rw [if_neg]
 intro h
 obtain ⟨j, hj⟩ := List.mem_iff_getElem?.1 h
 exact hn j (List.getElem?_eq_some_iff.1 hj).1 hj
def rowC (C row : List Int) : List Int := row.map (clL C)
def rowsC (C : List Int) (nr : List (List Int)) : List (List Int) := nr.map (rowC C)
noncomputable def alkB (ac : List (List Bool)) (nx : List (List (List Int))) (C : List Int) (x y : Nat) : Bool := eqb (ac.getD x []) (ac.getD y []) && eqb (rowsC C (nx.getD x [])) (rowsC C (nx.getD y []))
theorem hasN_nat {ac : List (List Bool)} {s m : Nat} : hasN ac (s : Int) m = (ac.getD s []).getD m false := by unfold hasN; simp
theorem goN_nat {nx : List (List (List Int))} {s m k : Nat} : goN nx (s : Int) m k = ((nx.getD s []).getD m []).getD k (-1) := by
 unfold goN
 rw [if_neg (by omega), Int.toNat_natCast]
 rfl
theorem getD_of {α : Type} {l : List α} {i : Nat} {d x : α} (h : l[i]? = some x) : l.getD i d = x := by rw [List.getD_eq_getElem?_getD, h]; rfl
section
variable {t a : Int} {ac : List (List Bool)} {nx : List (List (List Int))} {C : List Int}
theorem alk_iff (h : AutOk t a ac nx) {x y : Nat} (hx : x < ac.length) (hy : y < ac.length) : alkB ac nx C x y = true ↔ (∀ m, m < (atomsN t).toNat → hasN ac (x : Int) m = hasN ac (y : Int) m) ∧ ∀ m k, m < (atomsN t).toNat → k < a.toNat → clL C (goN nx (x : Int) m k) = clL C (goN nx (y : Int) m k) := by
 obtain ⟨ar, har⟩ : ∃ e, ac[x]? = some e := ⟨_, List.getElem?_eq_getElem hx⟩
 obtain ⟨ar', har'⟩ : ∃ e, ac[y]? = some e := ⟨_, List.getElem?_eq_getElem hy⟩
 obtain ⟨nr, hnr⟩ : ∃ e, nx[x]? = some e := ⟨_, List.getElem?_eq_getElem (by rw [h.len]; exact hx)⟩
 obtain ⟨nr', hnr'⟩ : ∃ e, nx[y]? = some e := ⟨_, List.getElem?_eq_getElem (by rw [h.len]; exact hy)⟩
 obtain ⟨l1, l2, l3⟩ := h.st _ _ _ har hnr
 obtain ⟨l1', l2', l3'⟩ := h.st _ _ _ har' hnr'
 have e1 : ∀ m, hasN ac (x : Int) m = ar.getD m false := fun m => by rw [hasN_nat, getD_of har]
 have e2 : ∀ m, hasN ac (y : Int) m = ar'.getD m false := fun m => by rw [hasN_nat, getD_of har']
 have e3 : ∀ m k, goN nx (x : Int) m k = (nr.getD m []).getD k (-1) := fun m k => by rw [goN_nat, getD_of hnr]
 have e4 : ∀ m k, goN nx (y : Int) m k = (nr'.getD m []).getD k (-1) := fun m k => by rw [goN_nat, getD_of hnr']
 unfold alkB
 rw [getD_of har, getD_of har', getD_of hnr, getD_of hnr', Bool.and_eq_true, eqb_iff, eqb_iff]
 constructor
 ·
  rintro ⟨rfl, hr⟩
  refine ⟨fun m _ => by rw [e1, e2], fun m k hm hk => ?_⟩
  obtain ⟨row, hrow⟩ : ∃ e, nr[m]? = some e := ⟨_, List.getElem?_eq_getElem (by omega)⟩
  obtain ⟨row', hrow'⟩ : ∃ e, nr'[m]? = some e := ⟨_, List.getElem?_eq_getElem (by omega)⟩
  obtain ⟨q1, -⟩ := l3 _ _ hrow
  obtain ⟨q1', -⟩ := l3' _ _ hrow'
  have h1 : rowC C row = rowC C row' := by
   have := congrArg (fun l : List (List Int) => l[m]?) hr
   simpa [rowsC, hrow, hrow'] using this
  have h2 := congrArg (fun l : List Int => l[k]?) h1
  rw [e3, e4, getD_of hrow, getD_of hrow']
  rw [List.getD_eq_getElem?_getD, List.getD_eq_getElem?_getD, List.getElem?_eq_getElem (by omega), List.getElem?_eq_getElem (by omega)]
  simpa [rowC, List.getElem?_eq_getElem (show k < row.length by omega), List.getElem?_eq_getElem (show k < row'.length by omega)] using h2
 ·
  rintro ⟨h1, h2⟩
  refine ⟨?_, ?_⟩
  ·
   apply List.ext_getElem?
   intro m
   by_cases hm : m < (atomsN t).toNat
   ·
    have := h1 m hm
    rw [e1, e2, List.getD_eq_getElem?_getD, List.getD_eq_getElem?_getD, List.getElem?_eq_getElem (by omega), List.getElem?_eq_getElem (by omega)] at this
    rw [List.getElem?_eq_getElem (by omega), List.getElem?_eq_getElem (by omega)]
    exact congrArg some this
   ·
    rw [List.getElem?_eq_none (by omega), List.getElem?_eq_none (by omega)]
  ·
   apply List.ext_getElem?
   intro m
   by_cases hm : m < (atomsN t).toNat
   ·
    obtain ⟨row, hrow⟩ : ∃ e, nr[m]? = some e := ⟨_, List.getElem?_eq_getElem (by omega)⟩
    obtain ⟨row', hrow'⟩ : ∃ e, nr'[m]? = some e := ⟨_, List.getElem?_eq_getElem (by omega)⟩
    obtain ⟨q1, -⟩ := l3 _ _ hrow
    obtain ⟨q1', -⟩ := l3' _ _ hrow'
    unfold rowsC
    rw [List.getElem?_map, List.getElem?_map, hrow, hrow']
    refine congrArg some ?_
    show rowC C row = rowC C row'
    apply List.ext_getElem?
    intro k
    unfold rowC
    rw [List.getElem?_map, List.getElem?_map]
    by_cases hk : k < a.toNat
    ·
     have := h2 m k hm hk
     rw [e3, e4, getD_of hrow, getD_of hrow', List.getD_eq_getElem?_getD, List.getD_eq_getElem?_getD, List.getElem?_eq_getElem (by omega), List.getElem?_eq_getElem (by omega)] at this
     rw [List.getElem?_eq_getElem (by omega), List.getElem?_eq_getElem (by omega)]
     exact congrArg some this
    ·
     rw [List.getElem?_eq_none (by omega), List.getElem?_eq_none (by omega)]
   ·
    unfold rowsC
    rw [List.getElem?_eq_none (by rw [List.length_map]; omega), List.getElem?_eq_none (by rw [List.length_map]; omega)]
theorem take_step {α β : Type} {f : α → β} {L M : List α} {k : Nat} {x y : α} (hx : L[k]? = some x) (hy : M[k]? = some y) (h : (L.take k).map f = (M.take k).map f) (e : f x = f y) : (L.take (k + 1)).map f = (M.take (k + 1)).map f := by
 obtain ⟨h1, rfl⟩ := List.getElem?_eq_some_iff.1 hx
 obtain ⟨h2, rfl⟩ := List.getElem?_eq_some_iff.1 hy
 rw [List.take_succ_eq_append_getElem h1, List.take_succ_eq_append_getElem h2, List.map_append, List.map_append, h]
 simp [e]
theorem map_differ {α β : Type} {f : α → β} {L M : List α} {k : Nat} {x y : α} (hx : L[k]? = some x) (hy : M[k]? = some y) (e : f x ≠ f y) : L.map f ≠ M.map f := by
 intro q
 have := congrArg (fun l : List β => l[k]?) q
 simp only [List.getElem?_map, hx, hy, Option.map_some, Option.some.injEq] at this
 exact e this
end
section
variable {κ : Type} [DecidableEq κ]
theorem keyL_congr {f g : Int → κ} {L : List Int} (h : ∀ s ∈ L, f s = g s) : keyL f L = keyL g L := by
 unfold keyL
 rw [List.map_congr_left fun s hs => by rw [h s hs]]
theorem numK_congr {f g : Int → κ} {L : List Int} (h : ∀ s ∈ L, f s = g s) {s : Int} (hs : s ∈ L) : numK f L s = numK g L s := by
 unfold numK
 rw [keyL_congr h, h s hs]
def spO (f : Int → κ) (N i : Nat) : List Int := (stB i).map (numK f (stB N))
theorem stB_len (N : Nat) : (stB N).length = N := by simp [stB]
theorem stB_at {N i : Nat} (h : i < N) : (stB N)[i]? = some (i : Int) := by simp [stB, h]
theorem spO_len (f : Int → κ) (N i : Nat) : (spO f N i).length = i := by simp [spO, stB_len]
theorem spO_at {f : Int → κ} {N i j : Nat} (h : j < i) : (spO f N i)[j]? = some (numK f (stB N) (j : Int)) := by
 unfold spO
 rw [List.getElem?_map, stB_at h]
 rfl
theorem spO_succ {f : Int → κ} {N i : Nat} : spO f N (i + 1) = spO f N i ++ [numK f (stB N) (i : Int)] := by
 unfold spO
 rw [stB_succ, List.map_append]
 rfl
theorem sp_old {f : Int → κ} {N i j : Nat} (hj : j < i) (e : f (i : Int) = f (j : Int)) : numK f (stB N) (i : Int) = numK f (stB N) (j : Int) ∧ (keyL f (stB (i + 1))).length = (keyL f (stB i)).length := by
 refine ⟨by unfold numK; rw [e], ?_⟩
 rw [stB_succ, keyL_cons, grow1_old (by rw [e]; exact keyL_mem.2 ⟨_, stB_mem.2 ⟨by omega, by omega⟩, rfl⟩)]
theorem sp_new {f : Int → κ} {N i : Nat} (hi : i < N) (h : ∀ j, j < i → f (i : Int) ≠ f (j : Int)) : numK f (stB N) (i : Int) = ((keyL f (stB i)).length : Int) ∧ (keyL f (stB (i + 1))).length = (keyL f (stB i)).length + 1 := by
 have hn : f (i : Int) ∉ keyL f (stB i) := fun q => by
  obtain ⟨s, hs, e⟩ := keyL_mem.1 q
  have hb := stB_mem.1 hs
  obtain ⟨j, rfl⟩ : ∃ j : Nat, s = (j : Int) := ⟨s.toNat, by omega⟩
  exact h j (by omega) e.symm
 refine ⟨numK_new hi hn, ?_⟩
 rw [stB_succ, keyL_cons, grow1_new hn]
 simp
theorem keyL_stB (f : Int → κ) (i : Nat) : (keyL f (stB i)).length ≤ i := by
 have := keyL_le f (stB i)
 rwa [stB_len] at this
end
abbrev kyC (ac : List (List Bool)) (nx : List (List (List Int))) (A a : Nat) (C : List Int) : Int → Int × List (Bool × List Int) := keyI ac nx A a (clL C)
section
variable {t a : Int} {ac : List (List Bool)} {nx : List (List (List Int))} {C : List Int}
theorem ky_iff (h : AutOk t a ac nx) {x y : Nat} (hx : x < ac.length) (hy : y < ac.length) : kyC ac nx (atomsN t).toNat a.toNat C (x : Int) = kyC ac nx (atomsN t).toNat a.toNat C (y : Int) ↔ clL C (x : Int) = clL C (y : Int) ∧ alkB ac nx C x y = true := by
 unfold kyC
 rw [keyI_eq, alk_iff h hx hy]
theorem cut_ok (h : AutOk t a ac nx) : AutOk t a ac (cutX ac nx) := by
 refine ⟨h.sig, h.lo, h.hi, by unfold cutX; rw [List.length_map]; exact h.len, fun i ar nr har hnr => ?_⟩
 unfold cutX at hnr
 rw [List.getElem?_map] at hnr
 cases hq : nx[i]? with
 | none => rw [hq] at hnr; cases hnr
 | some nr0 =>
  rw [hq] at hnr
  obtain rfl := Option.some.inj hnr
  obtain ⟨l1, l2, l3⟩ := h.st _ _ _ har hq
  refine ⟨l1, by rw [List.length_map]; exact l2, fun m row hrow => ?_⟩
  rw [List.getElem?_map] at hrow
  cases hq2 : nr0[m]? with
  | none => rw [hq2] at hrow; cases hrow
  | some row0 =>
   rw [hq2] at hrow
   obtain rfl := Option.some.inj hrow
   obtain ⟨l4, l5⟩ := l3 _ _ hq2
   refine ⟨by rw [List.length_map]; exact l4, fun k z hz => ?_⟩
   rw [List.getElem?_map] at hz
   cases hq3 : row0[k]? with
   | none => rw [hq3] at hz; cases hz
   | some z0 =>
    rw [hq3] at hz
    obtain rfl := Option.some.inj hz
    have := l5 _ _ hq3
    have := h.lo
    unfold cutZ
    split <;> omega
noncomputable def clsC (ac : List (List Bool)) (nx : List (List (List Int))) (A a r : Nat) : List Int := (stB ac.length).map (clsB ac nx A a r)
theorem clsC_len {A a r : Nat} : (clsC ac nx A a r).length = ac.length := by unfold clsC; rw [List.length_map, stB_len]
theorem clsC_at {A a r s : Nat} (h : s < ac.length) : (clsC ac nx A a r)[s]? = some (clsB ac nx A a r (s : Int)) := by unfold clsC; rw [List.getElem?_map, stB_at h]; rfl
theorem clsC_zero {A a : Nat} : clsC ac nx A a 0 = List.replicate ac.length 0 := by
 apply List.ext_getElem?
 intro i
 by_cases hi : i < ac.length
 ·
  rw [clsC_at hi, List.getElem?_replicate, if_pos hi]
  show some (if (i : Int) < 0 then (-1 : Int) else 0) = _
  rw [if_neg (by omega)]
 ·
  rw [List.getElem?_eq_none (by rw [clsC_len]; omega), List.getElem?_eq_none (by rw [List.length_replicate]; omega)]
theorem clsC_cl {A a r : Nat} {z : Int} (h : z < ac.length) : clL (clsC ac nx A a r) z = clsB ac nx A a r z := by
 by_cases h0 : z < 0
 ·
  rw [clL_neg h0, clsB_neg h0]
 ·
  obtain ⟨n, rfl⟩ : ∃ n : Nat, z = (n : Int) := ⟨z.toNat, by omega⟩
  exact clL_at (clsC_at (by omega))
theorem ky_cls (h : AutOk t a ac nx) (r : Nat) : ∀ s ∈ stB ac.length, kyC ac (cutX ac nx) (atomsN t).toNat a.toNat (clsC ac nx (atomsN t).toNat a.toNat r) s = keyB ac nx (atomsN t).toNat a.toNat r s := fun s hs => by
 have hb := stB_mem.1 hs
 unfold kyC keyB keyI
 rw [clsC_cl hb.2]
 refine congrArg _ (List.map_congr_left fun m hm => ?_)
 refine congrArg _ (List.map_congr_left fun k hk => ?_)
 exact clsC_cl (cut_bd h hb.2 (List.mem_range.1 hm) (List.mem_range.1 hk)).2
theorem sp_cls (h : AutOk t a ac nx) (r : Nat) : spO (kyC ac (cutX ac nx) (atomsN t).toNat a.toNat (clsC ac nx (atomsN t).toNat a.toNat r)) ac.length ac.length = clsC ac nx (atomsN t).toNat a.toNat (r + 1) ∧ (keyL (kyC ac (cutX ac nx) (atomsN t).toNat a.toNat (clsC ac nx (atomsN t).toNat a.toNat r)) (stB ac.length)).length = cntC ac nx (atomsN t).toNat a.toNat (r + 1) := by
 have hk := ky_cls h r
 refine ⟨?_, by rw [keyL_congr hk]; rfl⟩
 show List.map _ (stB ac.length) = List.map _ (stB ac.length)
 refine List.map_congr_left fun s hs => ?_
 rw [numK_congr hk hs, clsB_succ (stB_mem.1 hs).1]
noncomputable def clsE (ac : List (List Bool)) (nx : List (List (List Int))) (A a r : Nat) : List Int := (stB ac.length).map (clsF ac nx A a r)
theorem clsE_len {A a r : Nat} : (clsE ac nx A a r).length = ac.length := by unfold clsE; rw [List.length_map, stB_len]
theorem clsE_at {A a r s : Nat} (h : s < ac.length) : (clsE ac nx A a r)[s]? = some (clsF ac nx A a r (s : Int)) := by unfold clsE; rw [List.getElem?_map, stB_at h]; rfl
noncomputable def clsM (ac : List (List Bool)) (nx : List (List (List Int))) (A a r i : Nat) : List Int := (clsE ac nx A a r).take i ++ (clsC ac nx A a r).drop i
theorem clsM_zero {A a r : Nat} : clsM ac nx A a r 0 = clsC ac nx A a r := by simp [clsM]
theorem clsM_all {A a r : Nat} : clsM ac nx A a r ac.length = clsE ac nx A a r := by
 unfold clsM
 rw [List.take_of_length_le (by rw [clsE_len]; exact Nat.le_refl _), List.drop_of_length_le (by rw [clsC_len]; exact Nat.le_refl _), List.append_nil]
theorem clsM_len {A a r i : Nat} : (clsM ac nx A a r i).length = ac.length := by
 unfold clsM
 rw [List.length_append, List.length_take, List.length_drop, clsE_len, clsC_len]
 omega
theorem clsM_at {A a r i : Nat} (h : i < ac.length) : (clsM ac nx A a r i)[i]? = some (clsB ac nx A a r (i : Int)) := by
 unfold clsM
 rw [List.getElem?_append_right (by rw [List.length_take, clsE_len]; omega), List.length_take, clsE_len, List.getElem?_drop]
 rw [show i + (i - min i ac.length) = i by omega]
 exact clsC_at h
theorem clsM_yes {A a r i : Nat} (h : i < ac.length) (hl : liveB ac nx i = true) : clsM ac nx A a r (i + 1) = clsM ac nx A a r i := by
 have e : clsF ac nx A a r (i : Int) = clsB ac nx A a r (i : Int) := by unfold clsF; rw [Int.toNat_natCast, if_pos hl]
 unfold clsM
 rw [List.take_add_one, clsE_at h, e, List.append_assoc]
 congr 1
 have hc := clsC_at (nx := nx) (A := A) (a := a) (r := r) h
 obtain ⟨h1, h2⟩ := List.getElem?_eq_some_iff.1 hc
 rw [List.drop_eq_getElem_cons h1, h2]
 rfl
theorem clsM_no {A a r i : Nat} (h : i < ac.length) (hl : liveB ac nx i = false) : clsM ac nx A a r (i + 1) = (clsM ac nx A a r i).set i (-1) := by
 have e : clsF ac nx A a r (i : Int) = -1 := by unfold clsF; rw [Int.toNat_natCast, if_neg (by rw [hl]; decide)]
 unfold clsM
 have hlt : ((clsE ac nx A a r).take i).length = i := by rw [List.length_take, clsE_len]; omega
 have hc := clsC_at (nx := nx) (A := A) (a := a) (r := r) h
 obtain ⟨h1, h2⟩ := List.getElem?_eq_some_iff.1 hc
 rw [List.take_add_one, clsE_at h, e, List.append_assoc, List.drop_eq_getElem_cons h1, List.set_append_right _ _ (by omega), hlt, Nat.sub_self]
 rfl
end
section
variable {t a : Int} {ac : List (List Bool)} {nx : List (List (List Int))}
theorem clsI_ok (h : AutOk t a ac nx) {r : Nat} (hc : cntI ac nx (atomsN t).toNat a.toNat (r + 1) = cntI ac nx (atomsN t).toNat a.toNat r) : ClOk ac nx (atomsN t).toNat a.toNat 0 (clsI ac nx (atomsN t).toNat a.toNat (r + 1)) := by
 have hlo := h.lo
 refine ⟨fun s h0 h1 => ?_, fun s s' h0 h1 h0' h1' => clsI_stop h hc (stI_mem.2 ⟨by omega, h1⟩) (stI_mem.2 ⟨by omega, h1'⟩)⟩
 have key := clsI_stop h hc (s := s) (s' := -1) (stI_mem.2 ⟨by omega, h1⟩) (stI_mem.2 ⟨by omega, by omega⟩)
 rw [clsI_none, lgN_neg (s := -1) (by omega)] at key
 exact key
theorem get_idx {α : Type} [DecidableEq α] {L : List α} {x : α} (h : x ∈ L) : L[L.idxOf x]? = some x := by
 rw [List.getElem?_eq_getElem (List.idxOf_lt_length_of_mem h), List.getElem_idxOf]
theorem ls_step (h : AutOk t a ac nx) {D : Int} {f : Int → Int} (hc : ClOk ac nx (atomsN t).toNat a.toNat D f) {S : List Int} {i m k : Nat} {s : Int} (hS : StIn ac.length S)
  (hx : (lsL (lgN ac nx (atomsN t).toNat a.toNat 0) (atomsN t).toNat a.toNat i)[i]? = some (lgN ac nx (atomsN t).toNat a.toNat s))
  (hSL : S.map (lgN ac nx (atomsN t).toNat a.toNat) = lsC (lgN ac nx (atomsN t).toNat a.toNat 0) (atomsN t).toNat a.toNat i (lgN ac nx (atomsN t).toNat a.toNat s) m k) (hs1 : s < ac.length) (hm : m < (atomsN t).toNat) (hk : k < a.toNat) :
  (goN nx s m k < 0 ∨ f (goN nx s m k) = D → S.map (lgN ac nx (atomsN t).toNat a.toNat) = lsC (lgN ac nx (atomsN t).toNat a.toNat 0) (atomsN t).toNat a.toNat i (lgN ac nx (atomsN t).toNat a.toNat s) m (k + 1) ∧ numO (lsF (lgN ac nx (atomsN t).toNat a.toNat 0) (atomsN t).toNat a.toNat) (derW m k (lgN ac nx (atomsN t).toNat a.toNat s)) = -1) ∧
  (0 ≤ goN nx s m k → f (goN nx s m k) ≠ D → f (goN nx s m k) ∈ S.map f → S.map (lgN ac nx (atomsN t).toNat a.toNat) = lsC (lgN ac nx (atomsN t).toNat a.toNat 0) (atomsN t).toNat a.toNat i (lgN ac nx (atomsN t).toNat a.toNat s) m (k + 1) ∧ numO (lsF (lgN ac nx (atomsN t).toNat a.toNat 0) (atomsN t).toNat a.toNat) (derW m k (lgN ac nx (atomsN t).toNat a.toNat s)) = ((S.map f).idxOf (f (goN nx s m k)) : Int)) ∧
  (0 ≤ goN nx s m k → f (goN nx s m k) ≠ D → f (goN nx s m k) ∉ S.map f → (S ++ [goN nx s m k]).map (lgN ac nx (atomsN t).toNat a.toNat) = lsC (lgN ac nx (atomsN t).toNat a.toNat 0) (atomsN t).toNat a.toNat i (lgN ac nx (atomsN t).toNat a.toNat s) m (k + 1) ∧ numO (lsF (lgN ac nx (atomsN t).toNat a.toNat 0) (atomsN t).toNat a.toNat) (derW m k (lgN ac nx (atomsN t).toNat a.toNat s)) = (S.length : Int) ∧ StIn ac.length (S ++ [goN nx s m k])) := by
 have hb := goN_bd h hs1 (m := m) (k := k) (by omega) (by omega)
 refine ⟨fun hz => ?_, fun h0 hz hin => ?_, fun h0 hz hin => ?_⟩
 ·
  rw [lsC_cell hm hk, der_none hc hm hk hb.2 hz]
  exact ⟨hSL, rfl⟩
 ·
  have hd := der_some hc hm hk hb.2 h0 hz
  have hin' := (hc.mem hS h0 hb.2).1 hin
  rw [lsC_cell hm hk, hd, ← hSL, grow1_old hin', hc.idx hS h0 hb.2]
  refine ⟨rfl, ls_num h hx (m := m) (k := k) ?_⟩
  rw [← hSL]
  exact get_idx hin'
 ·
  have hd := der_some hc hm hk hb.2 h0 hz
  have hin' : lgN ac nx (atomsN t).toNat a.toNat (goN nx s m k) ∉ S.map (lgN ac nx (atomsN t).toNat a.toNat) := fun q => hin ((hc.mem hS h0 hb.2).2 q)
  have e : (S ++ [goN nx s m k]).map (lgN ac nx (atomsN t).toNat a.toNat) = lsC (lgN ac nx (atomsN t).toNat a.toNat 0) (atomsN t).toNat a.toNat i (lgN ac nx (atomsN t).toNat a.toNat s) m (k + 1) := by
   rw [lsC_cell hm hk, hd, ← hSL, grow1_new hin', List.map_append]
   rfl
  refine ⟨e, ?_, ?_⟩
  ·
   rw [hd]
   refine ls_num h hx (m := m) (k := k + 1) ?_
   rw [← e, List.map_append, List.getElem?_append_right (by simp)]
   simp
  ·
   intro x hx
   rcases List.mem_append.1 hx with hx | hx
   ·
    exact hS x hx
   ·
    rw [List.mem_singleton] at hx
    rw [hx]
    exact ⟨h0, hb.2⟩
theorem clsF_bd {A a r : Nat} {s : Int} (h0 : 0 ≤ s) (h1 : s < ac.length) : clsF ac nx A a r s = -1 ∨ 0 ≤ clsF ac nx A a r s := by
 unfold clsF
 split
 ·
  exact Or.inr (clsB_nonneg (stB_mem.2 ⟨h0, h1⟩))
 ·
  exact Or.inl rfl
end
end Go.Proofs.YtfhlddbngjlhbaaDoor

namespace Go.Proofs.YtfhlddbngjlhbaaDoor
set_option linter.unusedVariables false
set_option linter.unusedSimpArgs false
def dgt (z : Int) : List UInt8 := Lib.decDigits z.toNat
def isDg (c : UInt8) : Prop := 48 ≤ c.toNat ∧ c.toNat ≤ 57
theorem dig_dg {z : Int} (h0 : 0 ≤ z) (h : z < 100) : (∀ c ∈ dgt z, isDg c) ∧ ∀ y : Int, 0 ≤ y → y < 100 → dgt z = dgt y → z = y := by
 obtain ⟨m, rfl⟩ : ∃ m : Nat, z = (m : Int) := ⟨z.toNat, by omega⟩
 have key : ∀ k : Nat, k < 100 → (k < 10 ∧ dgt (k : Int) = [UInt8.ofNat (48 + k)]) ∨ (10 ≤ k ∧ dgt (k : Int) = [UInt8.ofNat (48 + k / 10), UInt8.ofNat (48 + k % 10)]) := fun k hk => by
  unfold dgt
  rw [Int.toNat_natCast]
  by_cases h1 : k < 10
  ·
   exact Or.inl ⟨h1, Lib.decDigits_one h1⟩
  ·
   exact Or.inr ⟨by omega, Lib.decDigits_two h1 hk⟩
 have nat : ∀ k : Nat, k < 10 → (UInt8.ofNat (48 + k)).toNat = 48 + k := fun k hk => by simp; omega
 refine ⟨fun c hc => ?_, fun y hy0 hy he => ?_⟩
 ·
  rcases key m (by omega) with ⟨h1, e⟩ | ⟨h1, e⟩
  ·
   rw [e, List.mem_singleton] at hc
   subst hc
   unfold isDg
   rw [nat m h1]
   omega
  ·
   rw [e] at hc
   simp only [List.mem_cons, List.not_mem_nil, or_false] at hc
   unfold isDg
   rcases hc with rfl | rfl
   ·
    rw [nat _ (by omega)]; omega
   ·
    rw [nat _ (by omega)]; omega
 ·
  obtain ⟨k, rfl⟩ : ∃ k : Nat, y = (k : Int) := ⟨y.toNat, by omega⟩
  rcases key m (by omega) with ⟨h1, e⟩ | ⟨h1, e⟩ <;> rcases key k (by omega) with ⟨h2, e'⟩ | ⟨h2, e'⟩
  ·
   rw [e, e'] at he
   have := congrArg UInt8.toNat (List.cons.inj he).1
   rw [nat m h1, nat k h2] at this
   omega
  ·
   rw [e, e'] at he
   exact absurd (congrArg List.length he) (by simp)
  ·
   rw [e, e'] at he
   exact absurd (congrArg List.length he) (by simp)
  ·
   rw [e, e'] at he
   have q1 := congrArg UInt8.toNat (List.cons.inj he).1
   have q2 := congrArg UInt8.toNat (List.cons.inj (List.cons.inj he).2).1
   rw [nat _ (by omega), nat _ (by omega)] at q1 q2
   omega
theorem dg_split : ∀ {xs ys : List UInt8} {c d : UInt8} {r s : List UInt8}, (∀ x ∈ xs, isDg x) → (∀ x ∈ ys, isDg x) → ¬ isDg c → ¬ isDg d → xs ++ c :: r = ys ++ d :: s → xs = ys ∧ c = d ∧ r = s
 | [], [], _, _, _, _, _, _, _, _, h => by
  simp only [List.nil_append, List.cons.injEq] at h
  exact ⟨rfl, h⟩
 | [], y :: ys, _, _, _, _, _, hy, hc, _, h => by
  simp only [List.nil_append, List.cons_append, List.cons.injEq] at h
  exact absurd (by rw [h.1]; exact hy y (List.mem_cons_self ..)) hc
 | x :: xs, [], _, _, _, _, hx, _, _, hd, h => by
  simp only [List.nil_append, List.cons_append, List.cons.injEq] at h
  exact absurd (by rw [← h.1]; exact hx x (List.mem_cons_self ..)) hd
 | x :: xs, y :: ys, _, _, _, _, hx, hy, hc, hd, h => by
  simp only [List.cons_append, List.cons.injEq] at h
  obtain ⟨e1, e2, e3⟩ := dg_split (fun z hz => hx z (List.mem_cons_of_mem _ hz)) (fun z hz => hy z (List.mem_cons_of_mem _ hz)) hc hd h.2
  exact ⟨by rw [h.1, e1], e2, e3⟩
def Sm (z : Int) : Prop := 0 ≤ z ∧ z < 100
theorem dg_inj {x y : Int} (hx : Sm x) (hy : Sm y) {c d : UInt8} {r s : List UInt8} (hc : ¬ isDg c) (hd : ¬ isDg d) (h : dgt x ++ c :: r = dgt y ++ d :: s) : x = y ∧ c = d ∧ r = s := by
 obtain ⟨e1, e2, e3⟩ := dg_split (dig_dg hx.1 hx.2).1 (dig_dg hy.1 hy.2).1 hc hd h
 exact ⟨(dig_dg hx.1 hx.2).2 y hy.1 hy.2 e1, e2, e3⟩
theorem nd32 : ¬ isDg 32 := by unfold isDg; decide
theorem nd59 : ¬ isDg 59 := by unfold isDg; decide
theorem nd124 : ¬ isDg 124 := by unfold isDg; decide
def rwT (xs : List Int) : List UInt8 := xs.flatMap fun x => 32 :: dgt x
theorem rwT_cons (x : Int) (r : List Int) : rwT (x :: r) = 32 :: (dgt x ++ rwT r) := by simp [rwT]
theorem rwT_snoc (r : List Int) (x : Int) : rwT (r ++ [x]) = rwT r ++ 32 :: dgt x := by simp [rwT]
theorem rwT_head (xs : List Int) (r : List UInt8) : ∃ c s, rwT xs ++ 59 :: r = c :: s ∧ ¬ isDg c ∧ c ≠ 43 := by
 cases xs with
 | nil => exact ⟨59, r, rfl, nd59, by decide⟩
 | cons x xs => exact ⟨32, _, by rw [rwT_cons]; rfl, nd32, by decide⟩
theorem rwT_inj : ∀ {xs ys : List Int} {r s : List UInt8}, (∀ x ∈ xs, Sm x) → (∀ x ∈ ys, Sm x) → rwT xs ++ 59 :: r = rwT ys ++ 59 :: s → xs = ys ∧ r = s
 | [], [], _, _, _, _, h => by
  simp only [rwT, List.flatMap_nil, List.nil_append, List.cons.injEq, true_and] at h
  exact ⟨rfl, h⟩
 | [], y :: ys, _, _, _, _, h => by
  rw [rwT_cons] at h
  simp [rwT] at h
 | x :: xs, [], _, _, _, _, h => by
  rw [rwT_cons] at h
  simp [rwT] at h
 | x :: xs, y :: ys, r, s, hx, hy, h => by
  rw [rwT_cons, rwT_cons] at h
  simp only [List.cons_append, List.append_assoc, List.cons.injEq, true_and] at h
  obtain ⟨c, r', e1, hc, -⟩ := rwT_head xs r
  obtain ⟨d, s', e2, hd, -⟩ := rwT_head ys s
  rw [e1, e2] at h
  obtain ⟨q1, q2, q3⟩ := dg_inj (hx x (List.mem_cons_self ..)) (hy y (List.mem_cons_self ..)) hc hd h
  obtain ⟨q4, q5⟩ := rwT_inj (xs := xs) (ys := ys) (r := r) (s := s) (fun z hz => hx z (List.mem_cons_of_mem _ hz)) (fun z hz => hy z (List.mem_cons_of_mem _ hz)) (by rw [e1, e2, q2, q3])
  exact ⟨by rw [q1, q4], q5⟩
def atT (p : Bool × List Int) : List UInt8 := (if p.1 then [43] else []) ++ rwT p.2 ++ [59]
theorem atT_inj {p q : Bool × List Int} {r s : List UInt8} (hp : ∀ x ∈ p.2, Sm x) (hq : ∀ x ∈ q.2, Sm x) (h : atT p ++ r = atT q ++ s) : p = q ∧ r = s := by
 obtain ⟨b, xs⟩ := p
 obtain ⟨b', ys⟩ := q
 unfold atT at h
 simp only [List.append_assoc, List.singleton_append] at h hp hq
 obtain ⟨c, r', e1, -, hc⟩ := rwT_head xs r
 obtain ⟨d, s', e2, -, hd⟩ := rwT_head ys s
 cases b <;> cases b'
 ·
  obtain ⟨q1, q2⟩ := rwT_inj hp hq (by simpa using h)
  exact ⟨by rw [q1], q2⟩
 ·
  rw [e1] at h
  simp at h
  exact absurd h.1 hc
 ·
  rw [e2] at h
  simp at h
  exact absurd h.1.symm hd
 ·
  obtain ⟨q1, q2⟩ := rwT_inj hp hq (by simpa using h)
  exact ⟨by rw [q1], q2⟩
theorem ats_inj : ∀ {L M : List (Bool × List Int)}, (∀ p ∈ L, ∀ x ∈ p.2, Sm x) → (∀ p ∈ M, ∀ x ∈ p.2, Sm x) → L.length = M.length → L.flatMap atT = M.flatMap atT → L = M
 | [], [], _, _, _, _ => rfl
 | [], _ :: _, _, _, h, _ => by simp at h
 | _ :: _, [], _, _, h, _ => by simp at h
 | p :: L, q :: M, hp, hq, hl, h => by
  simp only [List.flatMap_cons] at h
  obtain ⟨e1, e2⟩ := atT_inj (hp p (List.mem_cons_self ..)) (hq q (List.mem_cons_self ..)) h
  rw [e1, ats_inj (fun z hz => hp z (List.mem_cons_of_mem _ hz)) (fun z hz => hq z (List.mem_cons_of_mem _ hz)) (by simpa using hl) e2]
def kyT (p : Int × List (Bool × List Int)) : List UInt8 := dgt p.1 ++ 124 :: p.2.flatMap atT
theorem kyT_inj {p q : Int × List (Bool × List Int)} (hp : Sm p.1) (hq : Sm q.1) (hp2 : ∀ z ∈ p.2, ∀ x ∈ z.2, Sm x) (hq2 : ∀ z ∈ q.2, ∀ x ∈ z.2, Sm x) (hl : p.2.length = q.2.length) (h : kyT p = kyT q) : p = q := by
 unfold kyT at h
 obtain ⟨e1, -, e2⟩ := dg_inj hp hq nd124 nd124 h
 exact Prod.ext e1 (ats_inj hp2 hq2 hl e2)
def clN (O : List Int) (N : Nat) (z : Int) : Int := if z < 0 then O.getD N 0 else O.getD z.toNat 0
section
variable {t a : Int} {ac : List (List Bool)} {nx : List (List (List Int))} {O : List Int}
theorem clN_sm {N : Nat} (hO : ∀ x ∈ O, Sm x) (z : Int) : Sm (clN O N z) := by
 have : ∀ i, Sm (O.getD i 0) := fun i => by
  rw [List.getD_eq_getElem?_getD]
  cases h : O[i]? with
  | none => exact ⟨Int.le_refl _, by decide⟩
  | some x => exact hO x (List.mem_of_getElem? h)
 unfold clN
 split
 ·
  exact this _
 ·
  exact this _
def skT (ac : List (List Bool)) (nx : List (List (List Int))) (A a : Nat) (O : List Int) (s : Int) : List UInt8 := kyT (keyI ac nx A a (clN O ac.length) s)
theorem skT_iff {A a : Nat} (hO : ∀ x ∈ O, Sm x) {s s' : Int} : skT ac nx A a O s = skT ac nx A a O s' ↔ keyI ac nx A a (clN O ac.length) s = keyI ac nx A a (clN O ac.length) s' := by
 refine ⟨fun h => ?_, fun h => by unfold skT; rw [h]⟩
 refine kyT_inj (clN_sm hO s) (clN_sm hO s') (fun z hz x hx => ?_) (fun z hz x hx => ?_) (by simp [keyI]) h
 ·
  unfold keyI at hz
  obtain ⟨m, -, rfl⟩ := List.mem_map.1 hz
  obtain ⟨k, -, rfl⟩ := List.mem_map.1 hx
  exact clN_sm hO _
 ·
  unfold keyI at hz
  obtain ⟨m, -, rfl⟩ := List.mem_map.1 hz
  obtain ⟨k, -, rfl⟩ := List.mem_map.1 hx
  exact clN_sm hO _
theorem grow_map {α β : Type} [DecidableEq α] [DecidableEq β] {f : Int → α} {g : Int → β} : ∀ (L M : List Int), (∀ s ∈ M ++ L, ∀ s' ∈ M ++ L, f s = f s' ↔ g s = g s') → (keyL f (M ++ L)).length = (keyL g (M ++ L)).length := fun L M h => by
 have h1 := (finer (f := f) (g := g) (L := M ++ L) fun s hs s' hs' e => (h s hs s' hs').2 e).1
 have h2 := (finer (f := g) (g := f) (L := M ++ L) fun s hs s' hs' e => (h s hs s' hs').1 e).1
 omega
theorem keyL_idx {α β : Type} [DecidableEq α] [DecidableEq β] {f : Int → α} {g : Int → β} : ∀ (n : Nat) (L : List Int), L.length = n → (∀ s ∈ L, ∀ s' ∈ L, f s = f s' ↔ g s = g s') → ∀ s ∈ L, (keyL f L).idxOf (f s) = (keyL g L).idxOf (g s)
 | 0, L, hl, _ => by
  obtain rfl := List.eq_nil_of_length_eq_zero hl
  simp
 | n + 1, L, hl, h => by
  obtain ⟨M, x, rfl⟩ : ∃ M x, L = M ++ [x] := by
   have hne : L ≠ [] := fun e => by rw [e] at hl; simp at hl
   exact ⟨L.dropLast, L.getLast hne, (List.dropLast_concat_getLast hne).symm⟩
  have hM : ∀ s ∈ M, ∀ s' ∈ M, f s = f s' ↔ g s = g s' := fun s hs s' hs' => h s (List.mem_append_left _ hs) s' (List.mem_append_left _ hs')
  have ih := keyL_idx n M (by simpa using hl) hM
  have hlen : (keyL f M).length = (keyL g M).length := by
   have := grow_map (f := f) (g := g) M [] (by simpa using hM)
   simpa using this
  have hold : ∀ s ∈ M, (keyL f (M ++ [x])).idxOf (f s) = (keyL g (M ++ [x])).idxOf (g s) := fun s hs => by
   rw [keyL_cons, keyL_cons, idxOf_prefix (grow1_prefix _ _) (keyL_mem.2 ⟨s, hs, rfl⟩), idxOf_prefix (grow1_prefix _ _) (keyL_mem.2 ⟨s, hs, rfl⟩)]
   exact ih s hs
  intro s hs
  rcases List.mem_append.1 hs with hs | hs
  ·
   exact hold s hs
  ·
   rw [List.mem_singleton] at hs
   subst hs
   by_cases hin : f s ∈ keyL f M
   ·
    obtain ⟨y, hy, e⟩ := keyL_mem.1 hin
    have e' : g y = g s := (h y (List.mem_append_left _ hy) s (by simp)).1 e
    rw [← e, ← e']
    exact hold y hy
   ·
    have hin' : g s ∉ keyL g M := fun q => by
     obtain ⟨y, hy, e⟩ := keyL_mem.1 q
     exact hin (keyL_mem.2 ⟨y, hy, (h y (List.mem_append_left _ hy) s (by simp)).2 e⟩)
    rw [keyL_cons, keyL_cons, grow1_new hin, grow1_new hin', idxOf_new hin, idxOf_new hin', hlen]
end
def mapT (L : List (List UInt8)) : List (List UInt8 × Int) := L.zipIdx.map fun p => (p.1, (p.2 : Int))
theorem mapT_snoc (L : List (List UInt8)) (d : List UInt8) : mapT (L ++ [d]) = mapT L ++ [(d, (L.length : Int))] := by simp [mapT, List.zipIdx_append]
theorem mapT_len (L : List (List UInt8)) : (mapT L).length = L.length := by simp [mapT]
theorem mapT_at {L : List (List UInt8)} {j : Nat} {d : List UInt8} (h : L[j]? = some d) : (mapT L)[j]? = some (d, (j : Int)) := by
 unfold mapT
 rw [List.getElem?_map, List.getElem?_zipIdx, h]
 simp
theorem mapT_keys (L : List (List UInt8)) : (mapT L).map (·.1) = L := by
 apply List.ext_getElem?
 intro i
 unfold mapT
 rw [List.getElem?_map, List.getElem?_map, List.getElem?_zipIdx]
 cases L[i]? <;> rfl
def idxN {α : Type} [DecidableEq α] (L : List α) (x : α) : Nat := L.idxOf x
theorem mapT_in {L : List (List UInt8)} (hn : L.Nodup) {d : List UInt8} (h : d ∈ L) : findM (mapT L) d = some (idxN L d : Int) :=
 findM_at (by rw [mapT_keys]; exact hn) (mapT_at (get_idx h))
theorem mapT_out {L : List (List UInt8)} {d : List UInt8} (h : d ∉ L) : findM (mapT L) d = none :=
 findM_none.2 fun p hp e => h (by rw [← mapT_keys L, ← e]; exact List.mem_map.2 ⟨p, hp, rfl⟩)
theorem stI_succ (N : Nat) : stI (N + 1) = stI N ++ [(N : Int)] := by
 unfold stI
 rw [List.range_succ, List.map_append]
 rfl
theorem stI_prefix {i N : Nat} (h : i ≤ N) : ∃ M, stI N = stI i ++ M := by
 obtain ⟨d, rfl⟩ : ∃ d, N = i + d := ⟨N - i, by omega⟩
 clear h
 induction d with
 | zero => exact ⟨[], by simp⟩
 | succ d ih =>
  obtain ⟨M, hM⟩ := ih
  exact ⟨M ++ [((i + d : Nat) : Int)], by rw [← Nat.add_assoc, stI_succ, hM, List.append_assoc]⟩
section
variable {κ : Type} [DecidableEq κ]
def kyL (f : Int → κ) (i : Nat) : List κ := keyL f (stI i)
theorem kyL_zero (f : Int → κ) : kyL f 0 = [f (-1)] := by
 show growL [] [some (f (-1))] = [f (-1)]
 exact grow1_new List.not_mem_nil
theorem kyL_succ (f : Int → κ) (i : Nat) : kyL f (i + 1) = grow1 (kyL f i) (some (f (i : Int))) := by
 unfold kyL
 rw [stI_succ, keyL_cons]
theorem kyL_nodup (f : Int → κ) (i : Nat) : (kyL f i).Nodup := keyL_nodup _ _
theorem kyL_num {f : Int → κ} {i N : Nat} (h : i < N) : f (i : Int) ∈ kyL f (i + 1) ∧ (idxN (kyL f (i + 1)) (f (i : Int)) : Int) = numK f (stI N) (i : Int) := by
 have hm : f (i : Int) ∈ kyL f (i + 1) := keyL_mem.2 ⟨_, stI_mem.2 ⟨by omega, by omega⟩, rfl⟩
 refine ⟨hm, ?_⟩
 obtain ⟨M, hM⟩ := stI_prefix (i := i + 1) (N := N) (by omega)
 have hp : kyL f (i + 1) <+: keyL f (stI N) := by
  unfold kyL keyL
  rw [hM, List.map_append, growL_append]
  exact growL_prefix _ _
 unfold numK idxN
 rw [idxOf_prefix hp hm]
end
section
variable {t a : Int} {ac : List (List Bool)} {nx : List (List (List Int))}
def oL (ac : List (List Bool)) (nx : List (List (List Int))) (A a r : Nat) : List Int := (List.range ac.length).map (fun (i : Nat) => clsI ac nx A a r (i : Int)) ++ [0]
theorem oL_len {A a r : Nat} : (oL ac nx A a r).length = ac.length + 1 := by simp [oL]
theorem oL_at {A a r i : Nat} (h : i < ac.length) : (oL ac nx A a r)[i]? = some (clsI ac nx A a r (i : Int)) := by
 unfold oL
 rw [List.getElem?_append_left (by simpa using h)]
 simp [h]
theorem oL_last {A a r : Nat} : (oL ac nx A a r)[ac.length]? = some 0 := by
 unfold oL
 rw [List.getElem?_append_right (by simp)]
 simp
theorem oL_zero {A a : Nat} : oL ac nx A a 0 = List.replicate (ac.length + 1) 0 := by
 apply List.ext_getElem?
 intro i
 by_cases hi : i < ac.length
 ·
  rw [oL_at hi, List.getElem?_replicate, if_pos (by omega)]
  rfl
 ·
  by_cases hn : i = ac.length
  ·
   subst hn
   rw [oL_last, List.getElem?_replicate, if_pos (by omega)]
  ·
   rw [List.getElem?_eq_none (by rw [oL_len]; omega), List.getElem?_eq_none (by rw [List.length_replicate]; omega)]
theorem clN_oL {A a r : Nat} {z : Int} (h : z ∈ stI ac.length) : clN (oL ac nx A a r) ac.length z = clsI ac nx A a r z := by
 have hb := stI_mem.1 h
 unfold clN
 by_cases h0 : z < 0
 ·
  obtain rfl : z = -1 := by omega
  rw [if_pos (by omega), getD_of oL_last, clsI_none]
 ·
  obtain ⟨n, rfl⟩ : ∃ n : Nat, z = (n : Int) := ⟨z.toNat, by omega⟩
  rw [if_neg (by omega), Int.toNat_natCast, getD_of (oL_at (by omega))]
theorem oL_sm {A a r : Nat} (h60 : ac.length ≤ 60) : ∀ x ∈ oL ac nx A a r, Sm x := by
 intro x hx
 unfold oL at hx
 rcases List.mem_append.1 hx with hx | hx
 ·
  obtain ⟨i, hi, rfl⟩ := List.mem_map.1 hx
  have hi := List.mem_range.1 hi
  cases r with
  | zero =>
   have e : clsI ac nx A a 0 (i : Int) = 0 := rfl
   rw [e]
   exact ⟨Int.le_refl _, by decide⟩
  | succ r =>
   have h1 := numK_bd (f := keyI ac nx A a (clsI ac nx A a r)) (stI_mem.2 ⟨by omega, by omega⟩ : (i : Int) ∈ stI ac.length)
   have h2 := keyL_le (keyI ac nx A a (clsI ac nx A a r)) (stI ac.length)
   have h3 : (stI ac.length).length = ac.length + 1 := by simp [stI]
   have e : clsI ac nx A a (r + 1) (i : Int) = numK (keyI ac nx A a (clsI ac nx A a r)) (stI ac.length) (i : Int) := rfl
   rw [e]
   unfold Sm
   omega
 ·
  rw [List.mem_singleton] at hx
  subst hx
  exact ⟨Int.le_refl _, by decide⟩
def skR (ac : List (List Bool)) (nx : List (List (List Int))) (A a r : Nat) : Int → List UInt8 := skT ac nx A a (oL ac nx A a r)
theorem skR_iff (h : AutOk t a ac nx) (r : Nat) : ∀ s ∈ stI ac.length, ∀ s' ∈ stI ac.length, skR ac nx (atomsN t).toNat a.toNat r s = skR ac nx (atomsN t).toNat a.toNat r s' ↔ keyI ac nx (atomsN t).toNat a.toNat (clsI ac nx (atomsN t).toNat a.toNat r) s = keyI ac nx (atomsN t).toNat a.toNat (clsI ac nx (atomsN t).toNat a.toNat r) s' := by
 have hk : ∀ s ∈ stI ac.length, keyI ac nx (atomsN t).toNat a.toNat (clN (oL ac nx (atomsN t).toNat a.toNat r) ac.length) s = keyI ac nx (atomsN t).toNat a.toNat (clsI ac nx (atomsN t).toNat a.toNat r) s := fun s hs => by
  unfold keyI
  rw [clN_oL hs]
  refine congrArg _ (List.map_congr_left fun m hm => ?_)
  refine congrArg _ (List.map_congr_left fun k hk => ?_)
  exact clN_oL (goN_in h hs (List.mem_range.1 hm) (List.mem_range.1 hk))
 intro s hs s' hs'
 unfold skR
 rw [skT_iff (oL_sm h.hi), hk s hs, hk s' hs']
theorem skR_num (h : AutOk t a ac nx) (r : Nat) {i : Nat} (hi : i < ac.length) : numK (skR ac nx (atomsN t).toNat a.toNat r) (stI ac.length) (i : Int) = clsI ac nx (atomsN t).toNat a.toNat (r + 1) (i : Int) := by
 exact congrArg (fun n : Nat => (n : Int)) (keyL_idx (f := skR ac nx (atomsN t).toNat a.toNat r) (g := keyI ac nx (atomsN t).toNat a.toNat (clsI ac nx (atomsN t).toNat a.toNat r)) _ (stI ac.length) rfl (skR_iff h r) _ (stI_mem.2 ⟨by omega, by omega⟩))
theorem skR_cnt (h : AutOk t a ac nx) (r : Nat) : (kyL (skR ac nx (atomsN t).toNat a.toNat r) ac.length).length = cntI ac nx (atomsN t).toNat a.toNat (r + 1) := by
 exact grow_map (f := skR ac nx (atomsN t).toNat a.toNat r) (g := keyI ac nx (atomsN t).toNat a.toNat (clsI ac nx (atomsN t).toNat a.toNat r)) (stI ac.length) [] (skR_iff h r)
def oM (ac : List (List Bool)) (nx : List (List (List Int))) (A a r i : Nat) : List Int := (oL ac nx A a (r + 1)).take i ++ List.replicate (ac.length + 1 - i) 0
theorem oM_zero {A a r : Nat} : oM ac nx A a r 0 = List.replicate (ac.length + 1) 0 := by simp [oM]
theorem oM_len {A a r i : Nat} (h : i ≤ ac.length) : (oM ac nx A a r i).length = ac.length + 1 := by
 unfold oM
 rw [List.length_append, List.length_take, oL_len, List.length_replicate]
 omega
theorem oM_at {A a r i : Nat} (h : i < ac.length) : (oM ac nx A a r i)[i]? = some 0 := by
 unfold oM
 rw [List.getElem?_append_right (by rw [List.length_take, oL_len]; omega), List.length_take, oL_len, List.getElem?_replicate, if_pos (by omega)]
theorem oM_set {A a r i : Nat} (h : i < ac.length) : (oM ac nx A a r i).set i (clsI ac nx A a (r + 1) (i : Int)) = oM ac nx A a r (i + 1) := by
 unfold oM
 have hl : ((oL ac nx A a (r + 1)).take i).length = i := by rw [List.length_take, oL_len]; omega
 rw [List.set_append_right _ _ (by omega), hl, Nat.sub_self, List.take_add_one, oL_at h, List.append_assoc]
 rw [show ac.length + 1 - i = (ac.length + 1 - (i + 1)) + 1 by omega, List.replicate_succ]
 rfl
theorem oM_all {A a r : Nat} : oM ac nx A a r ac.length = oL ac nx A a (r + 1) := by
 unfold oM
 rw [show ac.length + 1 - ac.length = 1 by omega]
 unfold oL
 rw [List.take_left' (by simp)]
 rfl
end
end Go.Proofs.YtfhlddbngjlhbaaDoor
