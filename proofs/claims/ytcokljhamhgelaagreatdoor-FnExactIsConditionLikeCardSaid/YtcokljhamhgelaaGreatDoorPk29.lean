/-
  Parts of a proof, joined: LeQ, SameA, LeS, LeS2. No condition.
-/
import Derived.Test.YtcokljhamhgelaaGreatDoorPk28
namespace Go.Proofs.YtcokljhamhgelaaGreatDoor
set_option linter.unusedVariables false
set_option linter.unusedSimpArgs false
def clL (C : List Int) (z : Int) : Int := if z < 0 then -1 else C.getD z.toNat 0
theorem clL_neg {C : List Int} {z : Int} (h : z < 0) : clL C z = -1 := if_pos h
theorem clL_at {C : List Int} {z : Nat} {v : Int} (h : C[z]? = some v) : clL C (z : Int) = v := by
 unfold clL
 rw [if_neg (by omega), Int.toNat_natCast, List.getD_eq_getElem?_getD, h]
 rfl
theorem idxOf_first {α : Type} [DecidableEq α] : ∀ {L : List α} {x : α} {k : Nat}, L[k]? = some x → (∀ j, j < k → L[j]? ≠ some x) → L.idxOf x = k
 | [], _, _, h, _ => by simp at h
 | y :: r, x, 0, h, _ => by
  simp at h
  rw [h]
  simp
 | y :: r, x, k + 1, h, hn => by
  have hy : y ≠ x := fun e => hn 0 (by omega) (by simp [e])
  have := idxOf_first (L := r) (x := x) (k := k) (by simpa using h) (fun j hj => by have := hn (j + 1) (by omega); simpa using this)
  rw [List.idxOf_cons, beq_eq_false_iff_ne.2 hy, this]
  rfl
def idxI (L : List Int) (n : Int) : Int := if n ∈ L then (L.idxOf n : Int) else -1
theorem idxI_yes {L : List Int} {k : Nat} {n : Int} (h : L[k]? = some n) (hn : ∀ j, j < k → L[j]? ≠ some n) : idxI L n = (k : Int) := by
 unfold idxI
 rw [if_pos (List.mem_of_getElem? h), idxOf_first h hn]
theorem idxI_no {L : List Int} {n : Int} (hn : ∀ j, j < L.length → L[j]? ≠ some n) : idxI L n = -1 := by
 unfold idxI
 rw [if_neg]
 intro h
 obtain ⟨j, hj⟩ := List.mem_iff_getElem?.1 h
 exact hn j (List.getElem?_eq_some_iff.1 hj).1 hj
def rowC (C row : List Int) : List Int := row.map (clL C)
def rowsC (C : List Int) (nr : List (List Int)) : List (List Int) := nr.map (rowC C)
noncomputable def alkB (ac : List (List Bool)) (nx : List (List (List Int))) (C : List Int) (x y : Nat) : Bool := eqb (ac.getD x []) (ac.getD y []) && eqb (rowsC C (nx.getD x [])) (rowsC C (nx.getD y []))
theorem hasN_nat {ac : List (List Bool)} {s m : Nat} : hasN ac (s : Int) m = (ac.getD s []).getD m false := by unfold hasN; simp
theorem goN_nat {nx : List (List (List Int))} {s m k : Nat} : goN nx (s : Int) m k = ((nx.getD s []).getD m []).getD k (-1) := by
 unfold goN
 rw [if_neg (by omega), Int.toNat_natCast]
 rfl
theorem getD_of {α : Type} {l : List α} {i : Nat} {d x : α} (h : l[i]? = some x) : l.getD i d = x := by rw [List.getD_eq_getElem?_getD, h]; rfl
section
variable {t a : Int} {ac : List (List Bool)} {nx : List (List (List Int))} {C : List Int}
theorem alk_iff (h : AutOk t a ac nx) {x y : Nat} (hx : x < ac.length) (hy : y < ac.length) : alkB ac nx C x y = true ↔ (∀ m, m < (atomsN t).toNat → hasN ac (x : Int) m = hasN ac (y : Int) m) ∧ ∀ m k, m < (atomsN t).toNat → k < a.toNat → clL C (goN nx (x : Int) m k) = clL C (goN nx (y : Int) m k) := by
 obtain ⟨ar, har⟩ : ∃ e, ac[x]? = some e := ⟨_, List.getElem?_eq_getElem hx⟩
 obtain ⟨ar', har'⟩ : ∃ e, ac[y]? = some e := ⟨_, List.getElem?_eq_getElem hy⟩
 obtain ⟨nr, hnr⟩ : ∃ e, nx[x]? = some e := ⟨_, List.getElem?_eq_getElem (by rw [h.len]; exact hx)⟩
 obtain ⟨nr', hnr'⟩ : ∃ e, nx[y]? = some e := ⟨_, List.getElem?_eq_getElem (by rw [h.len]; exact hy)⟩
 obtain ⟨l1, l2, l3⟩ := h.st _ _ _ har hnr
 obtain ⟨l1', l2', l3'⟩ := h.st _ _ _ har' hnr'
 have e1 : ∀ m, hasN ac (x : Int) m = ar.getD m false := fun m => by rw [hasN_nat, getD_of har]
 have e2 : ∀ m, hasN ac (y : Int) m = ar'.getD m false := fun m => by rw [hasN_nat, getD_of har']
 have e3 : ∀ m k, goN nx (x : Int) m k = (nr.getD m []).getD k (-1) := fun m k => by rw [goN_nat, getD_of hnr]
 have e4 : ∀ m k, goN nx (y : Int) m k = (nr'.getD m []).getD k (-1) := fun m k => by rw [goN_nat, getD_of hnr']
 unfold alkB
 rw [getD_of har, getD_of har', getD_of hnr, getD_of hnr', Bool.and_eq_true, eqb_iff, eqb_iff]
 constructor
 ·
  rintro ⟨rfl, hr⟩
  refine ⟨fun m _ => by rw [e1, e2], fun m k hm hk => ?_⟩
  obtain ⟨row, hrow⟩ : ∃ e, nr[m]? = some e := ⟨_, List.getElem?_eq_getElem (by omega)⟩
  obtain ⟨row', hrow'⟩ : ∃ e, nr'[m]? = some e := ⟨_, List.getElem?_eq_getElem (by omega)⟩
  obtain ⟨q1, -⟩ := l3 _ _ hrow
  obtain ⟨q1', -⟩ := l3' _ _ hrow'
  have h1 : rowC C row = rowC C row' := by
   have := congrArg (fun l : List (List Int) => l[m]?) hr
   simpa [rowsC, hrow, hrow'] using this
  have h2 := congrArg (fun l : List Int => l[k]?) h1
  rw [e3, e4, getD_of hrow, getD_of hrow']
  rw [List.getD_eq_getElem?_getD, List.getD_eq_getElem?_getD, List.getElem?_eq_getElem (by omega), List.getElem?_eq_getElem (by omega)]
  simpa [rowC, List.getElem?_eq_getElem (show k < row.length by omega), List.getElem?_eq_getElem (show k < row'.length by omega)] using h2
 ·
  rintro ⟨h1, h2⟩
  refine ⟨?_, ?_⟩
  ·
   apply List.ext_getElem?
   intro m
   by_cases hm : m < (atomsN t).toNat
   ·
    have := h1 m hm
    rw [e1, e2, List.getD_eq_getElem?_getD, List.getD_eq_getElem?_getD, List.getElem?_eq_getElem (by omega), List.getElem?_eq_getElem (by omega)] at this
    rw [List.getElem?_eq_getElem (by omega), List.getElem?_eq_getElem (by omega)]
    exact congrArg some this
   ·
    rw [List.getElem?_eq_none (by omega), List.getElem?_eq_none (by omega)]
  ·
   apply List.ext_getElem?
   intro m
   by_cases hm : m < (atomsN t).toNat
   ·
    obtain ⟨row, hrow⟩ : ∃ e, nr[m]? = some e := ⟨_, List.getElem?_eq_getElem (by omega)⟩
    obtain ⟨row', hrow'⟩ : ∃ e, nr'[m]? = some e := ⟨_, List.getElem?_eq_getElem (by omega)⟩
    obtain ⟨q1, -⟩ := l3 _ _ hrow
    obtain ⟨q1', -⟩ := l3' _ _ hrow'
    unfold rowsC
    rw [List.getElem?_map, List.getElem?_map, hrow, hrow']
    refine congrArg some ?_
    show rowC C row = rowC C row'
    apply List.ext_getElem?
    intro k
    unfold rowC
    rw [List.getElem?_map, List.getElem?_map]
    by_cases hk : k < a.toNat
    ·
     have := h2 m k hm hk
     rw [e3, e4, getD_of hrow, getD_of hrow', List.getD_eq_getElem?_getD, List.getD_eq_getElem?_getD, List.getElem?_eq_getElem (by omega), List.getElem?_eq_getElem (by omega)] at this
     rw [List.getElem?_eq_getElem (by omega), List.getElem?_eq_getElem (by omega)]
     exact congrArg some this
    ·
     rw [List.getElem?_eq_none (by omega), List.getElem?_eq_none (by omega)]
   ·
    unfold rowsC
    rw [List.getElem?_eq_none (by rw [List.length_map]; omega), List.getElem?_eq_none (by rw [List.length_map]; omega)]
theorem take_step {α β : Type} {f : α → β} {L M : List α} {k : Nat} {x y : α} (hx : L[k]? = some x) (hy : M[k]? = some y) (h : (L.take k).map f = (M.take k).map f) (e : f x = f y) : (L.take (k + 1)).map f = (M.take (k + 1)).map f := by
 obtain ⟨h1, rfl⟩ := List.getElem?_eq_some_iff.1 hx
 obtain ⟨h2, rfl⟩ := List.getElem?_eq_some_iff.1 hy
 rw [List.take_succ_eq_append_getElem h1, List.take_succ_eq_append_getElem h2, List.map_append, List.map_append, h]
 simp [e]
theorem map_differ {α β : Type} {f : α → β} {L M : List α} {k : Nat} {x y : α} (hx : L[k]? = some x) (hy : M[k]? = some y) (e : f x ≠ f y) : L.map f ≠ M.map f := by
 intro q
 have := congrArg (fun l : List β => l[k]?) q
 simp only [List.getElem?_map, hx, hy, Option.map_some, Option.some.injEq] at this
 exact e this
end
section
variable {κ : Type} [DecidableEq κ]
theorem keyL_congr {f g : Int → κ} {L : List Int} (h : ∀ s ∈ L, f s = g s) : keyL f L = keyL g L := by
 unfold keyL
 rw [List.map_congr_left fun s hs => by rw [h s hs]]
theorem numK_congr {f g : Int → κ} {L : List Int} (h : ∀ s ∈ L, f s = g s) {s : Int} (hs : s ∈ L) : numK f L s = numK g L s := by
 unfold numK
 rw [keyL_congr h, h s hs]
def spO (f : Int → κ) (N i : Nat) : List Int := (stB i).map (numK f (stB N))
theorem stB_len (N : Nat) : (stB N).length = N := by simp [stB]
theorem stB_at {N i : Nat} (h : i < N) : (stB N)[i]? = some (i : Int) := by simp [stB, h]
theorem spO_len (f : Int → κ) (N i : Nat) : (spO f N i).length = i := by simp [spO, stB_len]
theorem spO_at {f : Int → κ} {N i j : Nat} (h : j < i) : (spO f N i)[j]? = some (numK f (stB N) (j : Int)) := by
 unfold spO
 rw [List.getElem?_map, stB_at h]
 rfl
theorem spO_succ {f : Int → κ} {N i : Nat} : spO f N (i + 1) = spO f N i ++ [numK f (stB N) (i : Int)] := by
 unfold spO
 rw [stB_succ, List.map_append]
 rfl
theorem sp_old {f : Int → κ} {N i j : Nat} (hj : j < i) (e : f (i : Int) = f (j : Int)) : numK f (stB N) (i : Int) = numK f (stB N) (j : Int) ∧ (keyL f (stB (i + 1))).length = (keyL f (stB i)).length := by
 refine ⟨by unfold numK; rw [e], ?_⟩
 rw [stB_succ, keyL_cons, grow1_old (by rw [e]; exact keyL_mem.2 ⟨_, stB_mem.2 ⟨by omega, by omega⟩, rfl⟩)]
theorem sp_new {f : Int → κ} {N i : Nat} (hi : i < N) (h : ∀ j, j < i → f (i : Int) ≠ f (j : Int)) : numK f (stB N) (i : Int) = ((keyL f (stB i)).length : Int) ∧ (keyL f (stB (i + 1))).length = (keyL f (stB i)).length + 1 := by
 have hn : f (i : Int) ∉ keyL f (stB i) := fun q => by
  obtain ⟨s, hs, e⟩ := keyL_mem.1 q
  have hb := stB_mem.1 hs
  obtain ⟨j, rfl⟩ : ∃ j : Nat, s = (j : Int) := ⟨s.toNat, by omega⟩
  exact h j (by omega) e.symm
 refine ⟨numK_new hi hn, ?_⟩
 rw [stB_succ, keyL_cons, grow1_new hn]
 simp
theorem keyL_stB (f : Int → κ) (i : Nat) : (keyL f (stB i)).length ≤ i := by
 have := keyL_le f (stB i)
 rwa [stB_len] at this
end
abbrev kyC (ac : List (List Bool)) (nx : List (List (List Int))) (A a : Nat) (C : List Int) : Int → Int × List (Bool × List Int) := keyI ac nx A a (clL C)
section
variable {t a : Int} {ac : List (List Bool)} {nx : List (List (List Int))} {C : List Int}
theorem ky_iff (h : AutOk t a ac nx) {x y : Nat} (hx : x < ac.length) (hy : y < ac.length) : kyC ac nx (atomsN t).toNat a.toNat C (x : Int) = kyC ac nx (atomsN t).toNat a.toNat C (y : Int) ↔ clL C (x : Int) = clL C (y : Int) ∧ alkB ac nx C x y = true := by
 unfold kyC
 rw [keyI_eq, alk_iff h hx hy]
theorem cut_ok (h : AutOk t a ac nx) : AutOk t a ac (cutX ac nx) := by
 refine ⟨h.sig, h.lo, h.hi, by unfold cutX; rw [List.length_map]; exact h.len, fun i ar nr har hnr => ?_⟩
 unfold cutX at hnr
 rw [List.getElem?_map] at hnr
 cases hq : nx[i]? with
 | none => rw [hq] at hnr; cases hnr
 | some nr0 =>
  rw [hq] at hnr
  obtain rfl := Option.some.inj hnr
  obtain ⟨l1, l2, l3⟩ := h.st _ _ _ har hq
  refine ⟨l1, by rw [List.length_map]; exact l2, fun m row hrow => ?_⟩
  rw [List.getElem?_map] at hrow
  cases hq2 : nr0[m]? with
  | none => rw [hq2] at hrow; cases hrow
  | some row0 =>
   rw [hq2] at hrow
   obtain rfl := Option.some.inj hrow
   obtain ⟨l4, l5⟩ := l3 _ _ hq2
   refine ⟨by rw [List.length_map]; exact l4, fun k z hz => ?_⟩
   rw [List.getElem?_map] at hz
   cases hq3 : row0[k]? with
   | none => rw [hq3] at hz; cases hz
   | some z0 =>
    rw [hq3] at hz
    obtain rfl := Option.some.inj hz
    have := l5 _ _ hq3
    have := h.lo
    unfold cutZ
    split <;> omega
noncomputable def clsC (ac : List (List Bool)) (nx : List (List (List Int))) (A a r : Nat) : List Int := (stB ac.length).map (clsB ac nx A a r)
theorem clsC_len {A a r : Nat} : (clsC ac nx A a r).length = ac.length := by unfold clsC; rw [List.length_map, stB_len]
theorem clsC_at {A a r s : Nat} (h : s < ac.length) : (clsC ac nx A a r)[s]? = some (clsB ac nx A a r (s : Int)) := by unfold clsC; rw [List.getElem?_map, stB_at h]; rfl
theorem clsC_zero {A a : Nat} : clsC ac nx A a 0 = List.replicate ac.length 0 := by
 apply List.ext_getElem?
 intro i
 by_cases hi : i < ac.length
 ·
  rw [clsC_at hi, List.getElem?_replicate, if_pos hi]
  show some (if (i : Int) < 0 then (-1 : Int) else 0) = _
  rw [if_neg (by omega)]
 ·
  rw [List.getElem?_eq_none (by rw [clsC_len]; omega), List.getElem?_eq_none (by rw [List.length_replicate]; omega)]
theorem clsC_cl {A a r : Nat} {z : Int} (h : z < ac.length) : clL (clsC ac nx A a r) z = clsB ac nx A a r z := by
 by_cases h0 : z < 0
 ·
  rw [clL_neg h0, clsB_neg h0]
 ·
  obtain ⟨n, rfl⟩ : ∃ n : Nat, z = (n : Int) := ⟨z.toNat, by omega⟩
  exact clL_at (clsC_at (by omega))
theorem ky_cls (h : AutOk t a ac nx) (r : Nat) : ∀ s ∈ stB ac.length, kyC ac (cutX ac nx) (atomsN t).toNat a.toNat (clsC ac nx (atomsN t).toNat a.toNat r) s = keyB ac nx (atomsN t).toNat a.toNat r s := fun s hs => by
 have hb := stB_mem.1 hs
 unfold kyC keyB keyI
 rw [clsC_cl hb.2]
 refine congrArg _ (List.map_congr_left fun m hm => ?_)
 refine congrArg _ (List.map_congr_left fun k hk => ?_)
 exact clsC_cl (cut_bd h hb.2 (List.mem_range.1 hm) (List.mem_range.1 hk)).2
theorem sp_cls (h : AutOk t a ac nx) (r : Nat) : spO (kyC ac (cutX ac nx) (atomsN t).toNat a.toNat (clsC ac nx (atomsN t).toNat a.toNat r)) ac.length ac.length = clsC ac nx (atomsN t).toNat a.toNat (r + 1) ∧ (keyL (kyC ac (cutX ac nx) (atomsN t).toNat a.toNat (clsC ac nx (atomsN t).toNat a.toNat r)) (stB ac.length)).length = cntC ac nx (atomsN t).toNat a.toNat (r + 1) := by
 have hk := ky_cls h r
 refine ⟨?_, by rw [keyL_congr hk]; rfl⟩
 show List.map _ (stB ac.length) = List.map _ (stB ac.length)
 refine List.map_congr_left fun s hs => ?_
 rw [numK_congr hk hs, clsB_succ (stB_mem.1 hs).1]
noncomputable def clsE (ac : List (List Bool)) (nx : List (List (List Int))) (A a r : Nat) : List Int := (stB ac.length).map (clsF ac nx A a r)
theorem clsE_len {A a r : Nat} : (clsE ac nx A a r).length = ac.length := by unfold clsE; rw [List.length_map, stB_len]
theorem clsE_at {A a r s : Nat} (h : s < ac.length) : (clsE ac nx A a r)[s]? = some (clsF ac nx A a r (s : Int)) := by unfold clsE; rw [List.getElem?_map, stB_at h]; rfl
noncomputable def clsM (ac : List (List Bool)) (nx : List (List (List Int))) (A a r i : Nat) : List Int := (clsE ac nx A a r).take i ++ (clsC ac nx A a r).drop i
theorem clsM_zero {A a r : Nat} : clsM ac nx A a r 0 = clsC ac nx A a r := by simp [clsM]
theorem clsM_all {A a r : Nat} : clsM ac nx A a r ac.length = clsE ac nx A a r := by
 unfold clsM
 rw [List.take_of_length_le (by rw [clsE_len]; exact Nat.le_refl _), List.drop_of_length_le (by rw [clsC_len]; exact Nat.le_refl _), List.append_nil]
theorem clsM_len {A a r i : Nat} : (clsM ac nx A a r i).length = ac.length := by
 unfold clsM
 rw [List.length_append, List.length_take, List.length_drop, clsE_len, clsC_len]
 omega
theorem clsM_at {A a r i : Nat} (h : i < ac.length) : (clsM ac nx A a r i)[i]? = some (clsB ac nx A a r (i : Int)) := by
 unfold clsM
 rw [List.getElem?_append_right (by rw [List.length_take, clsE_len]; omega), List.length_take, clsE_len, List.getElem?_drop]
 rw [show i + (i - min i ac.length) = i by omega]
 exact clsC_at h
theorem clsM_yes {A a r i : Nat} (h : i < ac.length) (hl : liveB ac nx i = true) : clsM ac nx A a r (i + 1) = clsM ac nx A a r i := by
 have e : clsF ac nx A a r (i : Int) = clsB ac nx A a r (i : Int) := by unfold clsF; rw [Int.toNat_natCast, if_pos hl]
 unfold clsM
 rw [List.take_add_one, clsE_at h, e, List.append_assoc]
 congr 1
 have hc := clsC_at (nx := nx) (A := A) (a := a) (r := r) h
 obtain ⟨h1, h2⟩ := List.getElem?_eq_some_iff.1 hc
 rw [List.drop_eq_getElem_cons h1, h2]
 rfl
theorem clsM_no {A a r i : Nat} (h : i < ac.length) (hl : liveB ac nx i = false) : clsM ac nx A a r (i + 1) = (clsM ac nx A a r i).set i (-1) := by
 have e : clsF ac nx A a r (i : Int) = -1 := by unfold clsF; rw [Int.toNat_natCast, if_neg (by rw [hl]; decide)]
 unfold clsM
 have hlt : ((clsE ac nx A a r).take i).length = i := by rw [List.length_take, clsE_len]; omega
 have hc := clsC_at (nx := nx) (A := A) (a := a) (r := r) h
 obtain ⟨h1, h2⟩ := List.getElem?_eq_some_iff.1 hc
 rw [List.take_add_one, clsE_at h, e, List.append_assoc, List.drop_eq_getElem_cons h1, List.set_append_right _ _ (by omega), hlt, Nat.sub_self]
 rfl
end
section
variable {t a : Int} {ac : List (List Bool)} {nx : List (List (List Int))}
theorem get_idx {α : Type} [DecidableEq α] {L : List α} {x : α} (h : x ∈ L) : L[L.idxOf x]? = some x := by
 rw [List.getElem?_eq_getElem (List.idxOf_lt_length_of_mem h), List.getElem_idxOf]
theorem ls_step (h : AutOk t a ac nx) {D : Int} {f : Int → Int} (hc : ClOk ac nx (atomsN t).toNat a.toNat D f) {S : List Int} {i m k : Nat} {s : Int} (hS : StIn ac.length S)
  (hx : (lsL (lgN ac nx (atomsN t).toNat a.toNat 0) (atomsN t).toNat a.toNat i)[i]? = some (lgN ac nx (atomsN t).toNat a.toNat s))
  (hSL : S.map (lgN ac nx (atomsN t).toNat a.toNat) = lsC (lgN ac nx (atomsN t).toNat a.toNat 0) (atomsN t).toNat a.toNat i (lgN ac nx (atomsN t).toNat a.toNat s) m k) (hs1 : s < ac.length) (hm : m < (atomsN t).toNat) (hk : k < a.toNat) :
  (goN nx s m k < 0 ∨ f (goN nx s m k) = D → S.map (lgN ac nx (atomsN t).toNat a.toNat) = lsC (lgN ac nx (atomsN t).toNat a.toNat 0) (atomsN t).toNat a.toNat i (lgN ac nx (atomsN t).toNat a.toNat s) m (k + 1) ∧ numO (lsF (lgN ac nx (atomsN t).toNat a.toNat 0) (atomsN t).toNat a.toNat) (derW m k (lgN ac nx (atomsN t).toNat a.toNat s)) = -1) ∧
  (0 ≤ goN nx s m k → f (goN nx s m k) ≠ D → f (goN nx s m k) ∈ S.map f → S.map (lgN ac nx (atomsN t).toNat a.toNat) = lsC (lgN ac nx (atomsN t).toNat a.toNat 0) (atomsN t).toNat a.toNat i (lgN ac nx (atomsN t).toNat a.toNat s) m (k + 1) ∧ numO (lsF (lgN ac nx (atomsN t).toNat a.toNat 0) (atomsN t).toNat a.toNat) (derW m k (lgN ac nx (atomsN t).toNat a.toNat s)) = ((S.map f).idxOf (f (goN nx s m k)) : Int)) ∧
  (0 ≤ goN nx s m k → f (goN nx s m k) ≠ D → f (goN nx s m k) ∉ S.map f → (S ++ [goN nx s m k]).map (lgN ac nx (atomsN t).toNat a.toNat) = lsC (lgN ac nx (atomsN t).toNat a.toNat 0) (atomsN t).toNat a.toNat i (lgN ac nx (atomsN t).toNat a.toNat s) m (k + 1) ∧ numO (lsF (lgN ac nx (atomsN t).toNat a.toNat 0) (atomsN t).toNat a.toNat) (derW m k (lgN ac nx (atomsN t).toNat a.toNat s)) = (S.length : Int) ∧ StIn ac.length (S ++ [goN nx s m k])) := by
 have hb := goN_bd h hs1 (m := m) (k := k) (by omega) (by omega)
 refine ⟨fun hz => ?_, fun h0 hz hin => ?_, fun h0 hz hin => ?_⟩
 ·
  rw [lsC_cell hm hk, der_none hc hm hk hb.2 hz]
  exact ⟨hSL, rfl⟩
 ·
  have hd := der_some hc hm hk hb.2 h0 hz
  have hin' := (hc.mem hS h0 hb.2).1 hin
  rw [lsC_cell hm hk, hd, ← hSL, grow1_old hin', hc.idx hS h0 hb.2]
  refine ⟨rfl, ls_num h hx (m := m) (k := k) ?_⟩
  rw [← hSL]
  exact get_idx hin'
 ·
  have hd := der_some hc hm hk hb.2 h0 hz
  have hin' : lgN ac nx (atomsN t).toNat a.toNat (goN nx s m k) ∉ S.map (lgN ac nx (atomsN t).toNat a.toNat) := fun q => hin ((hc.mem hS h0 hb.2).2 q)
  have e : (S ++ [goN nx s m k]).map (lgN ac nx (atomsN t).toNat a.toNat) = lsC (lgN ac nx (atomsN t).toNat a.toNat 0) (atomsN t).toNat a.toNat i (lgN ac nx (atomsN t).toNat a.toNat s) m (k + 1) := by
   rw [lsC_cell hm hk, hd, ← hSL, grow1_new hin', List.map_append]
   rfl
  refine ⟨e, ?_, ?_⟩
  ·
   rw [hd]
   refine ls_num h hx (m := m) (k := k + 1) ?_
   rw [← e, List.map_append, List.getElem?_append_right (by simp)]
   simp
  ·
   intro x hx
   rcases List.mem_append.1 hx with hx | hx
   ·
    exact hS x hx
   ·
    rw [List.mem_singleton] at hx
    rw [hx]
    exact ⟨h0, hb.2⟩
theorem clsF_bd {A a r : Nat} {s : Int} (h0 : 0 ≤ s) (h1 : s < ac.length) : clsF ac nx A a r s = -1 ∨ 0 ≤ clsF ac nx A a r s := by
 unfold clsF
 split
 ·
  exact Or.inr (clsB_nonneg (stB_mem.2 ⟨h0, h1⟩))
 ·
  exact Or.inl rfl
end
end Go.Proofs.YtcokljhamhgelaaGreatDoor

namespace Go.Proofs.YtcokljhamhgelaaGreatDoor
set_option linter.unusedVariables false
set_option linter.unusedSimpArgs false
open Go.ChangeShapes Go.WideShapes Go.ChangeAt Go.RowKit Go.Sort
set_option maxHeartbeats 4000000 in
theorem l02SameRow_any (xs ys : List Bool) (s t : Option Addr) (c d : Nat) (w : World) (hr : Rd w (boolsD xs) (.slice s xs.length c)) (hr' : Rd w (boolsD ys) (.slice t ys.length d)) :
  Calls Tryz.prog 108 #[.slice s xs.length c, .slice t ys.length d] w fun e w' => e = .returned (.bool (eqb xs ys)) ∧ Below w.heap.size w w' := by
 obtain ⟨hlen, hcap⟩ := nest_bd hr
 obtain ⟨hlen', hcap'⟩ := nest_bd hr'
 unfold maxLen at hcap hcap'
 by_cases hl : xs.length = ys.length
 ·
  have b1 : ((xs.length : Int) != (ys.length : Int)) = false := by simp [hl]
  have Hl := Lib.hid hl
  clear hl
  go_enter Tryz.func108, Tryz.ntmps108
  go_wp2_with fail
  go_loopw [5] (fun i wr => ∃ k : Nat, k ≤ xs.length ∧ i = .int .i64 k ∧ xs.take k = ys.take k ∧ Below w.heap.size w wr) (fun i _ => xs.length - (intOf i).toNat)
  case atStart => exact ⟨0, by omega, rfl, by simp, Below.refl _ _⟩
  case round =>
   obtain ⟨k, hk, rfl, hpre, hB⟩ := hrel
   have Hpre := Lib.hid hpre
   clear hpre
   by_cases hlt : k < xs.length
   ·
    have hlt' : k < ys.length := by have := Hl.out; omega
    obtain ⟨x, hx⟩ : ∃ e, xs[k]? = some e := ⟨_, List.getElem?_eq_getElem hlt⟩
    obtain ⟨y, hy⟩ : ∃ e, ys[k]? = some e := ⟨_, List.getElem?_eq_getElem hlt'⟩
    obtain ⟨b, o, rfl⟩ := nest_some hr (by omega)
    obtain ⟨b', o', rfl⟩ := nest_some hr' (by omega)
    obtain ⟨hbl, g0⟩ := bool_in hr hx
    obtain ⟨hbl', k0⟩ := bool_in hr' hy
    have ha := Int.natCast_nonneg k
    have hb : (k : Int) < (xs.length : Int) := by omega
    have hb' : (k : Int) < (ys.length : Int) := by omega
    have HB := Lib.hid hB
    have G0 := Lib.hid g0
    have K0 := Lib.hid k0
    clear g0 k0
    have szB := hB.size
    have Hx := Lib.hid hx
    have Hy := Lib.hid hy
    clear hx hy
    go_wp2_with fail
    refine region_rs [] [] (fun _ _ => False) (wr.heap.size) (fun i iv vs wx => match i with
     | 0 => vs 0 = .slice (some ⟨b, o, none⟩) xs.length c
     | 1 => vs 1 = .int .i64 k
     | 2 => vs 2 = .pointer (some ⟨b, o + k, none⟩)
     | 3 => vs 3 = .bool x
     | 4 => vs 4 = .slice (some ⟨b', o', none⟩) ys.length d
     | 5 => vs 5 = .int .i64 k
     | 6 => vs 6 = .pointer (some ⟨b', o' + k, none⟩)
     | 7 => vs 7 = .bool y
     | 8 => vs 8 = .bool (x != y)
     | _ => True) (fun i iv vs => match i with
     | 0 => vs 0 = .slice (some ⟨b, o, none⟩) xs.length c
     | 1 => vs 1 = .int .i64 k
     | 2 => vs 2 = .pointer (some ⟨b, o + k, none⟩)
     | 3 => vs 3 = .bool x
     | 4 => vs 4 = .slice (some ⟨b', o', none⟩) ys.length d
     | 5 => vs 5 = .int .i64 k
     | 6 => vs 6 = .pointer (some ⟨b', o' + k, none⟩)
     | 7 => vs 7 = .bool y
     | 8 => vs 8 = .bool (x != y)
     | _ => True) (by kernel_rfl) (by kernel_rfl) [0, 1, 2, 3, 4, 5, 6, 7, 8] (by kernel_rfl) ?hbase ?hGb ?hG ?hJ ?hE ?hEE ?hstep ?hQ
    case hbase => first | exact Nat.le_refl _ | omega | (simp; omega)
    case hGb =>
     exact fun _ _ h => h.elim
    case hG =>
     exact fun _ _ _ h => h.elim
    case hJ =>
     intro i hi iv iv' vs vs' wx wx' ha hv hz hk hj
     simp only [List.mem_cons, List.not_mem_nil, or_false] at hi
     rcases hi with rfl | rfl | rfl | rfl | rfl | rfl | rfl | rfl | rfl
     ·
      exact (hv.out 0 (mem_of (by kernel_rfl))).symm.trans hj
     ·
      exact (hv.out 1 (mem_of (by kernel_rfl))).symm.trans hj
     ·
      exact (hv.out 2 (mem_of (by kernel_rfl))).symm.trans hj
     ·
      exact (hv.out 3 (mem_of (by kernel_rfl))).symm.trans hj
     ·
      exact (hv.out 4 (mem_of (by kernel_rfl))).symm.trans hj
     ·
      exact (hv.out 5 (mem_of (by kernel_rfl))).symm.trans hj
     ·
      exact (hv.out 6 (mem_of (by kernel_rfl))).symm.trans hj
     ·
      exact (hv.out 7 (mem_of (by kernel_rfl))).symm.trans hj
     ·
      exact (hv.out 8 (mem_of (by kernel_rfl))).symm.trans hj
    case hE =>
     intro i hi iv vs wx hj
     simp only [List.mem_cons, List.not_mem_nil, or_false] at hi
     rcases hi with rfl | rfl | rfl | rfl | rfl | rfl | rfl | rfl | rfl
     ·
      exact hj
     ·
      exact hj
     ·
      exact hj
     ·
      exact hj
     ·
      exact hj
     ·
      exact hj
     ·
      exact hj
     ·
      exact hj
     ·
      exact hj
    case hEE =>
     intro i hi iv iv' vs vs' ha hv hj
     simp only [List.mem_cons, List.not_mem_nil, or_false] at hi
     rcases hi with rfl | rfl | rfl | rfl | rfl | rfl | rfl | rfl | rfl
     ·
      exact (hv.out 0 (mem_of (by kernel_rfl))).symm.trans hj
     ·
      exact (hv.out 1 (mem_of (by kernel_rfl))).symm.trans hj
     ·
      exact (hv.out 2 (mem_of (by kernel_rfl))).symm.trans hj
     ·
      exact (hv.out 3 (mem_of (by kernel_rfl))).symm.trans hj
     ·
      exact (hv.out 4 (mem_of (by kernel_rfl))).symm.trans hj
     ·
      exact (hv.out 5 (mem_of (by kernel_rfl))).symm.trans hj
     ·
      exact (hv.out 6 (mem_of (by kernel_rfl))).symm.trans hj
     ·
      exact (hv.out 7 (mem_of (by kernel_rfl))).symm.trans hj
     ·
      exact (hv.out 8 (mem_of (by kernel_rfl))).symm.trans hj
    case hstep =>
     intro i hi opr ho iv vs w1 hB hS hSo hd he hbd hsep hun K hK
     simp only [List.mem_cons, List.not_mem_nil, or_false] at hi
     have hzB := hB.size
     have hBw1 : Below w.heap.size w w1 := HB.out.trans (hB.mono szB)
     have g0 := (hBw1.cell (p := ⟨b, o + k, none⟩) hbl).trans G0.out
     have k0 := (hBw1.cell (p := ⟨b', o' + k, none⟩) hbl').trans K0.out
     generalize hA : putFrom _ 0 vs _ = A at hK ⊢
     simp only [putFrom, puts] at hA
     rcases hi with rfl | rfl | rfl | rfl | rfl | rfl | rfl | rfl | rfl
     all_goals
      simp at ho
      subst ho
      subst hA
     ·
      go_wp2_with fail
      exact Onward.mk (hK (.slice (some ⟨b, o, none⟩) xs.length c) _ _ (fun h => by cases h) (by first | rfl | (simp only [puts])) (Spares.refl _) (fun iv' _ _ => rfl))
     ·
      go_wp2_with fail
      exact Onward.mk (hK (.int .i64 k) _ _ (fun h => by cases h) (by first | rfl | (simp only [puts])) (Spares.refl _) (fun iv' _ _ => rfl))
     ·
      have h0 : vs 0 = .slice (some ⟨b, o, none⟩) xs.length c := hd.out 0 (mem_of (by kernel_rfl)) (by decide) (by kernel_rfl)
      have h1 : vs 1 = .int .i64 k := hd.out 1 (mem_of (by kernel_rfl)) (by decide) (by kernel_rfl)
      go_wp2_with fail
      exact Onward.mk (hK (.pointer (some ⟨b, o + k, none⟩)) _ _ (fun h => by cases h) (by first | rfl | (simp only [puts, h0, h1])) (Spares.refl _) (fun iv' _ _ => rfl))
     ·
      have h2 : vs 2 = .pointer (some ⟨b, o + k, none⟩) := hd.out 2 (mem_of (by kernel_rfl)) (by decide) (by kernel_rfl)
      go_wp2_with fail
      exact Onward.mk (hK (.bool x) _ _ (fun h => by cases h) (by first | rfl | (simp only [puts, h2])) (Spares.refl _) (fun iv' _ _ => rfl))
     ·
      go_wp2_with fail
      exact Onward.mk (hK (.slice (some ⟨b', o', none⟩) ys.length d) _ _ (fun h => by cases h) (by first | rfl | (simp only [puts])) (Spares.refl _) (fun iv' _ _ => rfl))
     ·
      go_wp2_with fail
      exact Onward.mk (hK (.int .i64 k) _ _ (fun h => by cases h) (by first | rfl | (simp only [puts])) (Spares.refl _) (fun iv' _ _ => rfl))
     ·
      have h4 : vs 4 = .slice (some ⟨b', o', none⟩) ys.length d := hd.out 4 (mem_of (by kernel_rfl)) (by decide) (by kernel_rfl)
      have h5 : vs 5 = .int .i64 k := hd.out 5 (mem_of (by kernel_rfl)) (by decide) (by kernel_rfl)
      go_wp2_with fail
      exact Onward.mk (hK (.pointer (some ⟨b', o' + k, none⟩)) _ _ (fun h => by cases h) (by first | rfl | (simp only [puts, h4, h5])) (Spares.refl _) (fun iv' _ _ => rfl))
     ·
      have h6 : vs 6 = .pointer (some ⟨b', o' + k, none⟩) := hd.out 6 (mem_of (by kernel_rfl)) (by decide) (by kernel_rfl)
      go_wp2_with fail
      exact Onward.mk (hK (.bool y) _ _ (fun h => by cases h) (by first | rfl | (simp only [puts, h6])) (Spares.refl _) (fun iv' _ _ => rfl))
     ·
      have h3 : vs 3 = .bool x := hd.out 3 (mem_of (by kernel_rfl)) (by decide) (by kernel_rfl)
      have h7 : vs 7 = .bool y := hd.out 7 (mem_of (by kernel_rfl)) (by decide) (by kernel_rfl)
      rcases x with _ | _ <;> rcases y with _ | _ <;> (go_wp2_with fail; first
       | exact Onward.mk (hK (.bool true) _ _ (by simp) (by simp only [putFrom, puts, h3, h7]) (Spares.of_below (Below.refl _ _)) (fun iv' _ _ => rfl))
       | exact Onward.mk (hK (.bool false) _ _ (by simp) (by simp only [putFrom, puts, h3, h7]) (Spares.of_below (Below.refl _ _)) (fun iv' _ _ => rfl)))
    case hQ =>
     intro iv vs wx hB hSp hd he hbd hsep
     have hzB := hB.size
     have h0 : vs 0 = .slice (some ⟨b, o, none⟩) xs.length c := hd.out 0 (mem_of (by kernel_rfl)) (not_eaten (by kernel_rfl))
     have h1 : vs 1 = .int .i64 k := hd.out 1 (mem_of (by kernel_rfl)) (not_eaten (by kernel_rfl))
     have h2 : vs 2 = .pointer (some ⟨b, o + k, none⟩) := hd.out 2 (mem_of (by kernel_rfl)) (not_eaten (by kernel_rfl))
     have h3 : vs 3 = .bool x := hd.out 3 (mem_of (by kernel_rfl)) (not_eaten (by kernel_rfl))
     have h4 : vs 4 = .slice (some ⟨b', o', none⟩) ys.length d := hd.out 4 (mem_of (by kernel_rfl)) (not_eaten (by kernel_rfl))
     have h5 : vs 5 = .int .i64 k := hd.out 5 (mem_of (by kernel_rfl)) (not_eaten (by kernel_rfl))
     have h6 : vs 6 = .pointer (some ⟨b', o' + k, none⟩) := hd.out 6 (mem_of (by kernel_rfl)) (not_eaten (by kernel_rfl))
     have h7 : vs 7 = .bool y := hd.out 7 (mem_of (by kernel_rfl)) (not_eaten (by kernel_rfl))
     have h8 : vs 8 = .bool (x != y) := hd.out 8 (mem_of (by kernel_rfl)) (not_eaten (by kernel_rfl))
     simp only [putFrom, puts]
     have hBx : Below w.heap.size w wx := HB.out.trans (hB.mono szB)
     simp only [h8]
     clear hd he hbd hsep h0 h1 h2 h3 h4 h5 h6 h7 h8 hB
     by_cases hxy : x = y
     ·
      subst hxy
      have b2 : (x != x) = false := by simp
      have Hst : Hid (xs.take (k + 1) = ys.take (k + 1)) := take_same Hx.out Hy.out Hpre.out
      rw [b2]
      clear b2
      go_wp2_with fail
      go_roundw
      case rel => exact ⟨k + 1, by omega, by go_num, Hst.out, hBx⟩
      case measure => simp [intOf]; omega
     ·
      have b2 : (x != y) = true := by simp [hxy]
      have c2 : eqb xs ys = false := eqb_false (by
       intro h
       have := Hx.out
       rw [h] at this
       exact hxy (Option.some.inj (this.symm.trans Hy.out)))
      have C2 := Lib.hid c2
      rw [b2]
      clear b2 c2 hxy
      go_wp2_with fail
      go_ret
      exact ⟨ret_bool (by rw [C2.out]), hBx⟩
   ·
    obtain rfl : k = xs.length := by omega
    have c2 : eqb xs ys = true := eqb_true (by
     have := Hpre.out
     rwa [List.take_length, Hl.out, List.take_length] at this)
    have C2 := Lib.hid c2
    clear c2
    go_wp2_with fail
    go_ret
    exact ⟨ret_bool (by rw [C2.out]), hB⟩
 ·
  have b1 : ((xs.length : Int) != (ys.length : Int)) = true := by simp; omega
  have c2 : eqb xs ys = false := eqb_false (by intro h; rw [h] at hl; exact hl rfl)
  rw [c2]
  clear c2 hl
  go_enter Tryz.func108, Tryz.ntmps108
  go_wp2_with fail
  go_ret
  exact ⟨rfl, Below.refl _ _⟩
end Go.Proofs.YtcokljhamhgelaaGreatDoor

namespace Go.Proofs.YtcokljhamhgelaaGreatDoor
set_option linter.unusedVariables false
set_option linter.unusedSimpArgs false
open Go.ChangeShapes Go.WideShapes Go.ChangeAt Go.RowKit Go.Sort Go.Deep
theorem l02Class_i {C : List Int} {s : Option Addr} {c : Nat} {z : Int} {w : World} (hr : Rd w (intsD C) (.slice s C.length c)) (hz : z < C.length) :
  Calls Tryz.prog 40 #[.slice s C.length c, .int .i64 z] w fun e w' => e = .returned (.int .i64 (clL C z)) ∧ w' = w := by
 by_cases h0 : z < 0
 ·
  rw [clL_neg h0]
  go_enter Tryz.func40, Tryz.ntmps40
  go_wp2_with fail
  go_ret
  exact ⟨rfl, rfl⟩
 ·
  obtain ⟨n, rfl⟩ : ∃ n : Nat, z = (n : Int) := ⟨z.toNat, by omega⟩
  obtain ⟨v, hv⟩ : ∃ e, C[n]? = some e := ⟨_, List.getElem?_eq_getElem (by omega)⟩
  obtain ⟨b, o, rfl⟩ := nest_some (f := D.int) hr (by omega)
  obtain ⟨-, q0⟩ := int_in hr hv
  obtain ⟨hcap1, hcap2⟩ := nest_bd (f := D.int) hr
  unfold maxLen at hcap2
  rw [clL_at hv]
  have hn0 := Int.natCast_nonneg n
  have hd : decide ((n : Int) < 0) = false := by apply decide_eq_false; omega
  clear hv hr
  go_enter Tryz.func40, Tryz.ntmps40
  go_wp2_with fail
  go_ret
  exact ⟨rfl, rfl⟩
theorem l02Class_n {C : List Int} {s : Option Addr} {c n : Nat} {z : Int} {w : World} (hr : Rd w (intsD C) (.slice s n c)) (hn : C.length = n) (hz : z < n) :
  Calls Tryz.prog 40 #[.slice s n c, .int .i64 z] w fun e w' => e = .returned (.int .i64 (clL C z)) ∧ w' = w := by
 subst hn
 exact l02Class_i hr hz
theorem l02Class_b {C : List Int} {s : Option Addr} {c n : Nat} {z : Int} {w : World} (hr : Rd w (intsD C) (.slice s n c)) (hn : C.length = n) (hz : z < n) :
  Calls Tryz.prog 40 #[.slice s n c, .int .i64 z] w fun e w' => e = .returned (.int .i64 (clL C z)) ∧ Below w.heap.size w w' :=
 (l02Class_n hr hn hz).mono fun e w' ⟨h1, h2⟩ => ⟨h1, by rw [h2]; exact Below.refl _ _⟩
set_option maxHeartbeats 4000000 in
theorem l02Index_i {L : List Int} {s : Option Addr} {c : Nat} {n : Int} {w : World} (hr : Rd w (intsD L) (.slice s L.length c)) :
  Calls Tryz.prog 41 #[.slice s L.length c, .int .i64 n] w fun e w' => e = .returned (.int .i64 (idxI L n)) ∧ w' = w := by
 obtain ⟨hcap1, hcap2⟩ := nest_bd (f := D.int) hr
 unfold maxLen at hcap2
 go_enter Tryz.func41, Tryz.ntmps41
 go_wp2_with fail
 go_loop [5] (fun i => ∃ k : Nat, k ≤ L.length ∧ i = .int .i64 k ∧ Hid (∀ j, j < k → L[j]? ≠ some n)) (fun i => L.length - (intOf i).toNat)
 case atStart => exact ⟨0, by omega, rfl, fun j hj => by omega⟩
 case round =>
  obtain ⟨k, hk, rfl, Hno⟩ := hrel
  have hk0 := Int.natCast_nonneg k
  by_cases hlt : k < L.length
  ·
   obtain ⟨x, hx⟩ : ∃ x, L[k]? = some x := ⟨_, List.getElem?_eq_getElem hlt⟩
   obtain ⟨kb, ko, rfl⟩ := nest_some (f := D.int) hr (by omega)
   obtain ⟨-, q0⟩ := int_in hr hx
   have hk1 : (k : Int) < (L.length : Int) := by omega
   have Hx := Lib.hid hx
   clear hx
   cases he : (x == n)
   ·
    have Hno2 : Hid (∀ j, j < k + 1 → L[j]? ≠ some n) := fun j hj => by
     by_cases hjk : j = k
     ·
      subst hjk
      rw [Hx.out]
      intro h
      rw [Option.some.inj h, beq_self_eq_true] at he
      cases he
     ·
      exact Hno.out j (by omega)
    clear Hno
    go_wp2_with fail
    go_round
    case rel => exact ⟨k + 1, by omega, by go_num, Hno2⟩
    case measure => simp [intOf]; omega
   ·
    have E1 : Hid (idxI L n = (k : Int)) := idxI_yes (by rw [Hx.out, eq_of_beq he]) Hno.out
    clear Hno
    go_wp2_with fail
    go_ret
    exact ⟨ret_int E1.out.symm, rfl⟩
  ·
   obtain rfl : k = L.length := by omega
   have E1 : Hid (idxI L n = -1) := idxI_no Hno.out
   clear Hno
   go_wp2_with fail
   go_ret
   exact ⟨ret_int E1.out.symm, rfl⟩
set_option maxRecDepth 100000 in
set_option maxHeartbeats 16000000 in
theorem l02Alike_i {t a : Int} {ac : List (List Bool)} {nx : List (List (List Int))} {s u : Option Addr} {c d b o x y : Nat} {C : List Int} {sc : Option Addr} {cc : Nat} {w : World} (h : AutAt w b o t a ac nx s u c d) (hok : AutOk t a ac nx) (hC : Rd w (intsD C) (.slice sc ac.length cc)) (hCl : C.length = ac.length) (hx : x < ac.length) (hy : y < ac.length) :
  Calls Tryz.prog 100 #[.pointer (some ⟨b, o, none⟩), .slice sc ac.length cc, .int .i64 x, .int .i64 y] w fun e w' => e = .returned (.bool (alkB ac nx C x y)) ∧ Below w.heap.size w w' := by
 obtain ⟨hdm1, hdm2, hdm3, hdm4⟩ := hok.dims
 obtain ⟨ar, har⟩ : ∃ e, ac[x]? = some e := ⟨_, List.getElem?_eq_getElem hx⟩
 obtain ⟨ar', har'⟩ : ∃ e, ac[y]? = some e := ⟨_, List.getElem?_eq_getElem hy⟩
 obtain ⟨nr, hnr⟩ : ∃ e, nx[x]? = some e := ⟨_, List.getElem?_eq_getElem (by rw [hok.len]; exact hx)⟩
 obtain ⟨nr', hnr'⟩ : ∃ e, nx[y]? = some e := ⟨_, List.getElem?_eq_getElem (by rw [hok.len]; exact hy)⟩
 have Halk := Lib.hid (show alkB ac nx C x y = (eqb ar ar' && eqb (rowsC C nr) (rowsC C nr')) by unfold alkB; rw [getD_of har, getD_of har', getD_of hnr, getD_of hnr'])
 obtain ⟨l1, l2⟩ := hok.row hnr
 obtain ⟨l1', l2'⟩ := hok.row hnr'
 have hnl := hok.len
 have g4 := h.2.2.2.2.1
 have g5 := h.2.2.2.2.2
 obtain ⟨hlen, hcap⟩ := nest_bd g4
 obtain ⟨hlen', hcap'⟩ := nest_bd g5
 unfold maxLen at hcap hcap'
 obtain ⟨sb, so, rfl⟩ := nest_some (f := boolsD) g4 (by omega)
 obtain ⟨ub, uo, rfl⟩ := nest_some (f := iiD) g5 (by omega)
 have hx0 := Int.natCast_nonneg x
 have hy0 := Int.natCast_nonneg y
 have hxb : (x : Int) < (ac.length : Int) := by omega
 have hyb : (y : Int) < (ac.length : Int) := by omega
 have hxc : (x : Int) < (nx.length : Int) := by omega
 have hyc : (y : Int) < (nx.length : Int) := by omega
 have Hh := Lib.hid h
 have HC := Lib.hid hC
 have HCl := Lib.hid hCl
 have Hl2 := Lib.hid l2
 have Hl2' := Lib.hid l2'
 have Hnr := Lib.hid hnr
 have Hnr' := Lib.hid hnr'
 have hll : nr.length = nr'.length := by omega
 have hn8 : nr.length ≤ 8 := by omega
 obtain ⟨-, s1, c1, a0, r1⟩ := nest_sl (g := D.bool) g4 har
 obtain ⟨-, s2, c2, b0, r2⟩ := nest_sl (g := D.bool) g4 har'
 obtain ⟨-, -, c2', -, -, -⟩ := h
 have gc2 := fun d os => cell_regrown c2' d os
 have ga0 := fun d os => cell_regrown a0 d os
 have gb0 := fun d os => cell_regrown b0 d os
 clear hok g4 g5 hC hCl l2 l2' hnr hnr' har har' hnl
 go_enter Tryz.func100, Tryz.ntmps100
 go_wp2_with fail
 refine Go.wp_region_quiet_below (by kernel_rfl) (by kernel_rfl) ?_
 repeat (first | go_big_quiet_step ((exact Calls.regrown_of (l02SameRow_any ar ar' _ _ _ _ _ (r1.below (below_regrown _ _ _)) (r2.below (below_regrown _ _ _))))) | quiet_step ((exact Calls.regrown_of (l02SameRow_any ar ar' _ _ _ _ _ (r1.below (below_regrown _ _ _)) (r2.below (below_regrown _ _ _))))))
 refine wpQuiet_nil ?_; intro _ hw'; obtain ⟨⟨dq, osq⟩, hw''⟩ := hw'; subst hw''; have hq := below_regrown w dq osq; revert hq; generalize grow (redrawn w dq) osq = w1; intro hq
 clear c2' gc2 ga0 gb0 a0 b0 r1 r2
 by_cases har : ar = ar'
 rotate_left
 ·
  have e1 : eqb ar ar' = false := eqb_false har
  have E : Hid (alkB ac nx C x y = false) := by show _ = _; rw [Halk.out, e1]; rfl
  rw [e1]
  clear e1 har
  go_wp2_with fail
  go_ret
  exact ⟨ret_bool E.out.symm, hq⟩
 have e1 : eqb ar ar' = true := eqb_true har
 have Halk2 : Hid (alkB ac nx C x y = eqb (rowsC C nr) (rowsC C nr')) := by show _ = _; rw [Halk.out, e1, Bool.true_and]
 rw [e1]
 have HQ := Lib.hid hq
 clear e1 har Halk hq
 go_wp2_with fail
 go_loopw [9] (fun i wr => ∃ m : Nat, m ≤ nr.length ∧ i = .int .i64 m ∧ Hid ((nr.take m).map (rowC C) = (nr'.take m).map (rowC C)) ∧ Below w.heap.size w wr) (fun i _ => nr.length - (intOf i).toNat)
 case atStart => exact ⟨0, by omega, rfl, by show _ = _; simp, HQ.out⟩
 case round =>
  clear HQ
  obtain ⟨m, hm, rfl, Hpre, hB⟩ := hrel
  obtain ⟨wm, rfl⟩ : ∃ v, v = wr := ⟨_, rfl⟩
  have hm0 := Int.natCast_nonneg m
  have HB := Lib.hid hB
  clear hB
  obtain ⟨-, -, c2', c3', g4, g5⟩ := Hh.out.below (HB.out)
  obtain ⟨-, sn, cn, a1, r1⟩ := nest_sl (g := intsD) g5 Hnr.out
  clear g4 g5 r1 c2'
  by_cases hml : m < nr.length
  rotate_left
  ·
   obtain rfl : m = nr.length := by omega
   have E : Hid (alkB ac nx C x y = true) := by
    show _ = _
    rw [Halk2.out]
    have h := Hpre.out
    rw [List.take_length, hll, List.take_length] at h
    exact eqb_true h
   clear Hpre
   go_wp2_with fail
   go_ret
   exact ⟨ret_bool E.out.symm, HB.out⟩
  have hmb : (m : Int) < (nr.length : Int) := by omega
  have hmc : (m : Int) < (nr'.length : Int) := by omega
  obtain ⟨row, hrow⟩ : ∃ e, nr[m]? = some e := ⟨_, List.getElem?_eq_getElem (by omega)⟩
  obtain ⟨row', hrow'⟩ : ∃ e, nr'[m]? = some e := ⟨_, List.getElem?_eq_getElem (by omega)⟩
  obtain ⟨q1, q2⟩ := Hl2.out _ _ hrow
  obtain ⟨q1', q2'⟩ := Hl2'.out _ _ hrow'
  have Hq2 := Lib.hid q2
  have Hq2' := Lib.hid q2'
  have Hrow := Lib.hid hrow
  have Hrow' := Lib.hid hrow'
  have hrl : row.length = row'.length := by omega
  have hr4 : row.length ≤ 4 := by omega
  clear hrow hrow' q1 q1' q2 q2'
  go_wp2_with fail
  clear c3' a1
  go_loopw [10] (fun i wr => ∃ k : Nat, k ≤ row.length ∧ i = .int .i64 k ∧ Hid ((row.take k).map (clL C) = (row'.take k).map (clL C)) ∧ Below w.heap.size w wr) (fun i _ => row.length - (intOf i).toNat)
  case atStart => exact ⟨0, by omega, rfl, by show _ = _; simp, HB.out⟩
  case round =>
   clear HB
   obtain ⟨k, hk, rfl, Hpr2, hB⟩ := hrel
   obtain ⟨wk, rfl⟩ : ∃ v, v = wr := ⟨_, rfl⟩
   have hk0 := Int.natCast_nonneg k
   have HB := Lib.hid hB
   clear hB
   obtain ⟨-, -, c2', c3', g4, g5⟩ := Hh.out.below (HB.out)
   obtain ⟨-, sn, cn, a1, r1⟩ := nest_sl (g := intsD) g5 Hnr.out
   obtain ⟨-, sm, cm, a2, r2⟩ := nest_sl (g := intsD) g5 Hnr'.out
   have gc3 := fun d os => cell_regrown c3' d os
   have ga1 := fun d os => cell_regrown a1 d os
   have ga2 := fun d os => cell_regrown a2 d os
   obtain ⟨nb, no, rfl⟩ := nest_some (f := intsD) r1 (by omega)
   obtain ⟨mb, mo, rfl⟩ := nest_some (f := intsD) r2 (by omega)
   obtain ⟨n1, n2⟩ := nest_bd r1
   obtain ⟨n3, n4⟩ := nest_bd r2
   obtain ⟨-, sr, cr, p1, t1⟩ := nest_sl (g := D.int) r1 Hrow.out
   obtain ⟨-, sq, cq, p2, t2⟩ := nest_sl (g := D.int) r2 Hrow'.out
   unfold maxLen at n2 n4
   clear g4 g5 r1 r2 c2'
   by_cases hkl : k < row.length
   rotate_left
   ·
    obtain rfl : k = row.length := by omega
    have Hnx : Hid ((nr.take (m + 1)).map (rowC C) = (nr'.take (m + 1)).map (rowC C)) := by
     refine take_step Hrow.out Hrow'.out Hpre.out ?_
     have h := Hpr2.out
     rw [List.take_length, hrl, List.take_length] at h
     exact h
    clear Hpre Hpr2
    go_wp2_with fail
    go_roundw
    case rel => exact ⟨m + 1, by omega, by go_num, Hnx, HB.out⟩
    case measure => simp [intOf]; omega
   obtain ⟨z, hz⟩ : ∃ e, row[k]? = some e := ⟨_, List.getElem?_eq_getElem hkl⟩
   obtain ⟨z', hz'⟩ : ∃ e, row'[k]? = some e := ⟨_, List.getElem?_eq_getElem (by omega)⟩
   obtain ⟨rb, ro, rfl⟩ := nest_some (f := D.int) t1 (by omega)
   obtain ⟨qb, qo, rfl⟩ := nest_some (f := D.int) t2 (by omega)
   obtain ⟨-, v1⟩ := int_in t1 hz
   obtain ⟨-, v2⟩ := int_in t2 hz'
   obtain ⟨n5, n6⟩ := nest_bd (f := D.int) t1
   obtain ⟨n7, n8⟩ := nest_bd (f := D.int) t2
   unfold maxLen at n6 n8
   have hzb := Hq2.out k z hz
   have hzb' := Hq2'.out k z' hz'
   have Hz := Lib.hid hz
   have Hz' := Lib.hid hz'
   have hkb : (k : Int) < (row.length : Int) := by omega
   have hkc : (k : Int) < (row'.length : Int) := by omega
   have gp1 := fun d os => cell_regrown p1 d os
   have gp2 := fun d os => cell_regrown p2 d os
   have gv1 := fun d os => cell_regrown v1 d os
   have gv2 := fun d os => cell_regrown v2 d os
   have hCr := HC.out.below HB.out
   have hk1 := fun (ws : World) (v : Int) (hv : v < ac.length) (hb : Below wk.heap.size wk ws) => l02Class_b (z := v) (hCr.below hb) HCl.out hv
   clear t1 t2 hz hz'
   go_wp2_with fail
   refine Go.wp_region_quiet_below (by kernel_rfl) (by kernel_rfl) ?_
   repeat (first | go_big_quiet_step ((exact Calls.regrown_of (hk1 _ _ (by omega) (below_regrown _ _ _)))) | quiet_step ((exact Calls.regrown_of (hk1 _ _ (by omega) (below_regrown _ _ _)))))
   refine wpQuiet_nil ?_; intro _ hw'; obtain ⟨⟨dq, osq⟩, hw''⟩ := hw'; subst hw''; have hq := below_regrown wk dq osq; revert hq; generalize grow (redrawn wk dq) osq = w2; intro hq
   have hB2 : Below w.heap.size w w2 := Below.on HB.out hq HB.out.size
   clear hq c3' gc3 a1 a2 ga1 ga2 p1 p2 gp1 gp2 v1 v2 gv1 gv2 hCr hk1
   by_cases hzz : clL C z = clL C z'
   ·
    have Hnx : Hid ((row.take (k + 1)).map (clL C) = (row'.take (k + 1)).map (clL C)) := take_step Hz.out Hz'.out Hpr2.out hzz
    have e2 : (clL C z != clL C z') = false := by simp [hzz]
    rw [e2]
    clear e2 hzz Hpr2
    go_wp2_with fail
    go_roundw
    case rel => exact ⟨k + 1, by omega, by go_num, Hnx, hB2⟩
    case measure => simp [intOf]; omega
   ·
    have E : Hid (alkB ac nx C x y = false) := by
     show _ = _
     rw [Halk2.out]
     exact eqb_false (map_differ (f := rowC C) Hrow.out Hrow'.out (map_differ (f := clL C) Hz.out Hz'.out hzz))
    have e2 : (clL C z != clL C z') = true := by simp [hzz]
    rw [e2]
    clear e2 hzz Hpr2
    go_wp2_with fail
    go_ret
    exact ⟨ret_bool E.out.symm, hB2⟩
end Go.Proofs.YtcokljhamhgelaaGreatDoor

namespace Go.Proofs.YtcokljhamhgelaaGreatDoor
set_option linter.unusedVariables false
set_option linter.unusedSimpArgs false
open Go.ChangeShapes Go.WideShapes Go.ChangeAt Go.RowKit Go.Sort Go.Deep
set_option maxRecDepth 100000 in
set_option maxHeartbeats 16000000 in
theorem l02Split_i {t a : Int} {ac : List (List Bool)} {nx : List (List (List Int))} {s u : Option Addr} {c d b o : Nat} {C : List Int} {sc : Option Addr} {cc : Nat} {w : World} (h : AutAt w b o t a ac nx s u c d) (hok : AutOk t a ac nx) (hC : Rd w (intsD C) (.slice sc ac.length cc)) (hCl : C.length = ac.length) :
  Calls Tryz.prog 73 #[.pointer (some ⟨b, o, none⟩), .slice sc ac.length cc] w fun e w' => ∃ s' c', e = .returned (.tuple #[.slice s' ac.length c', .int .i64 ((keyL (kyC ac nx (atomsN t).toNat a.toNat C) (stB ac.length)).length : Nat)]) ∧
   Fresh w w' (intsD (spO (kyC ac nx (atomsN t).toNat a.toNat C) ac.length ac.length)) (.slice s' ac.length c') ∧ Below w.heap.size w w' := by
 have hky := fun (x y : Nat) (hx : x < ac.length) (hy : y < ac.length) => ky_iff (C := C) hok hx hy
 obtain ⟨f, hf⟩ : ∃ f, kyC ac nx (atomsN t).toNat a.toNat C = f := ⟨_, rfl⟩
 rw [hf] at hky ⊢
 have hn1 := hok.lo
 have hn2 := hok.hi
 have Hky := Lib.hid hky
 have Hok := Lib.hid hok
 have Hh := Lib.hid h
 obtain ⟨N, hN⟩ : ∃ N, ac.length = N := ⟨_, rfl⟩
 rw [hN] at hn1 hn2 hCl hC ⊢
 have HC := Lib.hid hC
 have HCl := Lib.hid hCl
 have HN := Lib.hid hN
 obtain ⟨kb, ko, rfl⟩ := nest_some (f := D.int) hC (by omega)
 obtain ⟨m1, m2⟩ := nest_bd (f := D.int) hC
 unfold maxLen at m2
 have h0 := App.empty (W := w) (size := 1) (Blk.made w 2 #[]) (Nat.le_refl _)
 clear hf hky hok h hC hN hCl
 go_enter Tryz.func73, Tryz.ntmps73
 go_wp2_with fail
 go_loopw [6, 7, 8] (fun v n i wr => ∃ k : Nat, k ≤ N ∧ i = .int .i64 k ∧ n = .int .i64 ((keyL f (stB k)).length : Nat) ∧ App w wr 2 1 k ((spO f N k).map D.int) v ∧ Below w.heap.size w wr) (fun _ _ i _ => N - (intOf i).toNat)
 case atStart => exact ⟨0, by omega, rfl, rfl, by simpa [spO, stB] using h0, by (repeat' first | exact Below.refl _ _ | assumption | apply Below.alloc | apply Below.drew | apply Below.setCell | omega | (simp; done) | (simp; omega))⟩
 case round =>
  clear h0
  obtain ⟨k, hk, rfl, rfl, happ, hB⟩ := hrel
  obtain ⟨wo, rfl⟩ : ∃ v, v = wr := ⟨_, rfl⟩
  obtain ⟨av, capv, rfl, hcap1, hcap2⟩ := happ.shape
  unfold maxLen at hcap2
  have hk0 := Int.natCast_nonneg k
  have szB := hB.size
  have HA := Lib.hid happ
  have HB := Lib.hid hB
  have hkn := keyL_stB f k
  obtain ⟨q, hq⟩ : ∃ q, (keyL f (stB k)).length = q := ⟨_, rfl⟩
  have Hq := Lib.hid hq
  rw [hq] at hkn ⊢
  clear happ hB hq
  by_cases hlt : k < N
  rotate_left
  ·
   obtain rfl : k = N := by omega
   have hf := HA.out.freshN (spO_len f k k)
   go_wp2_with fail
   go_ret2
   exact ⟨av, capv, by rw [Hq.out]; rfl, hf, HB.out⟩
  have hk1 : (k : Int) < (N : Int) := by omega
  obtain ⟨x, hx⟩ : ∃ x, C[k]? = some x := ⟨_, List.getElem?_eq_getElem (by have := HCl.out; omega)⟩
  have Hx := Lib.hid hx
  clear hx
  go_wp2_with fail
  go_loopw [9, 10] (fun y j wr => ∃ l : Nat, l ≤ k ∧ j = .int .i64 l ∧ ((y = .int .i64 (-1) ∧ Hid (∀ j', j' < l → f (k : Int) ≠ f (j' : Int))) ∨ ∃ v : Int, y = .int .i64 v ∧ 0 ≤ v ∧ Hid (∃ j' : Nat, j' < k ∧ f (k : Int) = f (j' : Int) ∧ v = numK f (stB N) (j' : Int))) ∧ Below wo.heap.size wo wr) (fun _ j _ => k - (intOf j).toNat)
  case atStart => exact ⟨0, by omega, rfl, Or.inl ⟨rfl, fun j hj => by omega⟩, Below.refl _ _⟩
  case round =>
   obtain ⟨l, hl, rfl, hcase, hBl⟩ := hrel
   obtain ⟨wl, rfl⟩ : ∃ v, v = wr := ⟨_, rfl⟩
   have hl0 := Int.natCast_nonneg l
   have szl := hBl.size
   have HBl := Lib.hid hBl
   clear hBl
   rcases hcase with ⟨rfl, Hno⟩ | ⟨v, rfl, hv0, HJ⟩
   rotate_left
   ·
    obtain ⟨j', hj', he, hv⟩ := HJ.out
    obtain ⟨s1, s2⟩ := sp_old (N := N) hj' he
    have hds : Hid ((spO f N (k + 1)).map D.int = (spO f N k).map D.int ++ [D.int v]) := by show _ = _; rw [spO_succ, List.map_append, s1, hv]; rfl
    have hct : Hid ((keyL f (stB (k + 1))).length = q) := by show _ = _; rw [s2, Hq.out]
    have hvd : decide (v < 0) = false := by apply decide_eq_false; omega
    have happ := HA.out
    clear hj' he hv s1 s2 HJ
    by_cases hlk : l < k
    all_goals
     go_wp2_with (at_builtin; go_must (refine wpList_append_app _ rfl _ _ 56 rfl 2 (.int .i64 0) 1 8 Tryz.underlying56 info_int64 rfl (by decide) _ rfl happ (HBl.out.alloc szl _) szB ⟨wl.heap.size, 0, none⟩ 1 1 [.int .i64 v] rfl (news_blk (Blk.made _ _ _)) (Freshs.int v) rfl (by simp [Value.oneCell']) (by omega) (by omega) (by unfold maxLen; omega) ?_); intro g3 cap3 w3 happ3 hb3)
     have hB3 : Below w.heap.size w w3 := ((HB.out.trans (HBl.out.mono szB)).alloc (by omega) _).trans hb3
     have Hfin := Lib.hid (And.intro happ3 hB3)
     clear happ3 hb3 hB3 happ
     go_wp2_with fail
     go_roundw
     case rel =>
      refine ⟨k + 1, by omega, by go_num, by rw [hct.out], ?_, Hfin.out.2⟩
      rw [hds.out]
      exact Hfin.out.1
     case measure => simp [intOf]; omega
   by_cases hlk : l < k
   rotate_left
   ·
    obtain rfl : l = k := by omega
    obtain ⟨s1, s2⟩ := sp_new hlt Hno.out
    have hds : Hid ((spO f N (l + 1)).map D.int = (spO f N l).map D.int ++ [D.int (q : Int)]) := by show _ = _; rw [spO_succ, List.map_append, s1, Hq.out]; rfl
    have hct : Hid ((keyL f (stB (l + 1))).length = q + 1) := by show _ = _; rw [s2, Hq.out]
    have happ := HA.out
    have hq0 := Int.natCast_nonneg q
    clear s1 s2 Hno
    go_wp2_with (at_builtin; go_must (refine wpList_append_app _ rfl _ _ 56 rfl 2 (.int .i64 0) 1 8 Tryz.underlying56 info_int64 rfl (by decide) _ rfl happ (HBl.out.alloc szl _) szB ⟨wl.heap.size, 0, none⟩ 1 1 [.int .i64 (q : Int)] rfl (news_blk (Blk.made _ _ _)) (Freshs.int _) rfl (by simp [Value.oneCell']) (by omega) (by omega) (by unfold maxLen; omega) ?_); intro g3 cap3 w3 happ3 hb3)
    have hB3 : Below w.heap.size w w3 := ((HB.out.trans (HBl.out.mono szB)).alloc (by omega) _).trans hb3
    have Hfin := Lib.hid (And.intro happ3 hB3)
    clear happ3 hb3 hB3 happ
    go_wp2_with fail
    go_roundw
    case rel =>
     refine ⟨l + 1, by omega, by go_num, by rw [hct.out]; go_num, ?_, Hfin.out.2⟩
     rw [hds.out]
     exact Hfin.out.1
    case measure => simp [intOf]; omega
   obtain ⟨y, hy⟩ : ∃ y, C[l]? = some y := ⟨_, List.getElem?_eq_getElem (by have := HCl.out; omega)⟩
   have hl1 : (l : Int) < (N : Int) := by omega
   have hl2 : (l : Int) < (k : Int) := by omega
   have hBw := HB.out.trans (HBl.out.mono szB)
   have hCr := HC.out.below hBw
   obtain ⟨-, x0⟩ := int_in hCr Hx.out
   obtain ⟨-, y0⟩ := int_in hCr hy
   have gx0 := fun d os => cell_regrown x0 d os
   have gy0 := fun d os => cell_regrown y0 d os
   have Hiff := Lib.hid (Hky.out k l (by rw [HN.out]; exact hlt) (by rw [HN.out]; omega))
   rw [clL_at Hx.out, clL_at hy] at Hiff
   have hla : l < N := by omega
   have hnk := (numK_bd (f := f) (stB_mem.2 ⟨hl0, by omega⟩ : (l : Int) ∈ stB N)).1
   have hat := Hh.out.below hBw
   clear hy
   cases heq : (x == y)
   ·
    have Hno2 : Hid (∀ j', j' < l + 1 → f (k : Int) ≠ f (j' : Int)) := fun j' hj' e => by
     by_cases hjl : j' = l
     ·
      subst hjl
      have h := (Hiff.out.1 e).1
      rw [h, beq_self_eq_true] at heq
      cases heq
     ·
      exact Hno.out j' (by omega) e
    clear Hno Hiff hat
    go_wp2_with fail
    refine Go.wp_region_quiet_below (by kernel_rfl) (by kernel_rfl) ?_
    repeat (first | go_big_quiet_step ((fail)) | quiet_step ((fail)))
    refine wpQuiet_nil ?_; intro _ hw'; obtain ⟨⟨dq, osq⟩, hw''⟩ := hw'; subst hw''; have hq := below_regrown wl dq osq; revert hq; generalize grow (redrawn wl dq) osq = w2; intro hq
    have hB2 := HBl.out.trans (hq.mono szl)
    clear hq x0 y0 gx0 gy0 hCr hBw
    go_wp2_with fail
    go_roundw
    case rel => exact ⟨l + 1, by omega, by go_num, Or.inl ⟨rfl, Hno2⟩, hB2⟩
    case measure => simp [intOf]; omega
   ·
    obtain ⟨al, hal⟩ : ∃ v, alkB ac nx C k l = v := ⟨_, rfl⟩
    have Hal := Lib.hid hal
    have halk := fun (ws : World) (hb : Below wl.heap.size wl ws) => l02Alike_i (x := k) (y := l) (hat.below hb) Hok.out (by rw [HN.out]; exact hCr.below hb) (by rw [HN.out]; exact HCl.out) (by rw [HN.out]; exact hlt) (by rw [HN.out]; exact hla)
    rw [hal, HN.out] at halk
    clear hal hat
    go_wp2_with fail
    refine Go.wp_region_quiet_below (by kernel_rfl) (by kernel_rfl) ?_
    repeat (first | go_big_quiet_step ((exact Calls.regrown_of (halk _ (below_regrown _ _ _)))) | quiet_step ((exact Calls.regrown_of (halk _ (below_regrown _ _ _)))))
    refine wpQuiet_nil ?_; intro _ hw'; obtain ⟨⟨dq, osq⟩, hw''⟩ := hw'; subst hw''; have hq := below_regrown wl dq osq; revert hq; generalize grow (redrawn wl dq) osq = w2; intro hq
    have hB2 := HBl.out.trans (hq.mono szl)
    have sz2 := hB2.size
    clear hq x0 y0 gx0 gy0 hCr hBw halk
    cases al
    ·
     have Hno2 : Hid (∀ j', j' < l + 1 → f (k : Int) ≠ f (j' : Int)) := fun j' hj' e => by
      by_cases hjl : j' = l
      ·
       subst hjl
       have h := (Hiff.out.1 e).2
       rw [Hal.out] at h
       cases h
      ·
       exact Hno.out j' (by omega) e
     clear Hno Hiff
     go_wp2_with fail
     go_roundw
     case rel => exact ⟨l + 1, by omega, by go_num, Or.inl ⟨rfl, Hno2⟩, hB2⟩
     case measure => simp [intOf]; omega
    ·
     have HJ : Hid (∃ j' : Nat, j' < k ∧ f (k : Int) = f (j' : Int) ∧ numK f (stB N) (l : Int) = numK f (stB N) (j' : Int)) := ⟨l, hlk, Hiff.out.2 ⟨eq_of_beq heq, Hal.out⟩, rfl⟩
     have hR := HA.out.rd.below hB2
     obtain ⟨ab, ao, rfl⟩ := nest_some (f := D.int) (xs := spO f N k) (by simpa [nestD, spO_len] using hR) (by rw [spO_len]; omega)
     obtain ⟨-, v0⟩ := int_in (zs := spO f N k) (by simpa [intsD, spO_len] using hR) (spO_at (N := N) hlk)
     obtain ⟨vv, hvv⟩ : ∃ v, numK f (stB N) (l : Int) = v := ⟨_, rfl⟩
     rw [hvv] at v0 HJ hnk
     clear Hno Hiff hR hvv
     go_wp2_with fail
     go_roundw
     case rel => exact ⟨l + 1, by omega, by go_num, Or.inr ⟨vv, rfl, hnk, HJ⟩, hB2⟩
     case measure => simp [intOf]; omega
end Go.Proofs.YtcokljhamhgelaaGreatDoor
