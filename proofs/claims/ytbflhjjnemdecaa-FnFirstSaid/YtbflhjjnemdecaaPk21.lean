/-
  Parts of a proof, joined: LwM, WordL, MixP, LsP, FstQ, FstT, Less. No condition.
-/
import Derived.Test.YtbflhjjnemdecaaPk17
import Derived.Test.YtbflhjjnemdecaaPk20
namespace Go.Proofs.Ytbflhjjnemdecaa
set_option linter.unusedVariables false
set_option linter.unusedSimpArgs false
open Go.ChangeShapes Go.WideShapes Go.ChangeAt Go.RowKit Go.Deep Go.Sort
theorem okB_one {t a : Int} (h : sigB t a = true) : okB t a (.mk 2 0 []) = true := okB_of h (tree_leaf (k := 2) (Or.inr rfl)) (by rw [Ex.size_eq]; simp [Ex.kids, Ex.sizeL])
theorem kids_none {w : World} : Rd w (kidsD []) (.slice none 0 0) := by
 have h2 : AppS (fun _ => True) w 38 3 0 [] (.slice none 0 0) := ⟨[], [], ⟨by simp, Or.inl ⟨rfl, rfl⟩⟩, Ows.nil, by simp, by simp, by simp [Value.ownBlock]⟩
 exact h2.rd
theorem run_l {t a : Int} {ac : List (List Bool)} {nx : List (List (List Int))} {xs ys : List Int} {s u p q : Option Addr} {c d pc qc : Nat} {w : World} (hA : Rds w (autD ac nx) [.slice s ac.length c, .slice u nx.length d]) (hx : Rd w (intsD xs) (.slice p xs.length pc)) (hy : Rd w (intsD ys) (.slice q ys.length qc)) (hok : AutOk t a ac nx) (hw : wordB t a xs ys = true) {v : Bool} (hv : runsB ac nx xs ys = v) :
  Calls Try.prog 33 #[.agg #[.int .i64 t, .int .i64 a, .slice s ac.length c, .slice u nx.length d], .agg #[.slice p xs.length pc, .slice q ys.length qc]] w fun z w' => z = .returned (.tuple #[.bool v, .int .i64 0]) ∧ Below w.heap.size w w' := by
 refine (implRunAutomaton_i (t := t) (a := a) hA.two.1 hA.two.2 hx hy).mono ?_
 rintro z w' ⟨h1, h2⟩
 have e1 : runR t a ac nx xs ys = v := by unfold runR; rw [autB_yes hok, hw, hv]; rfl
 have e2 : runK t a ac nx xs ys = 0 := by unfold runK; rw [autB_yes hok, hw]; rfl
 rw [e1, e2] at h1
 exact ⟨h1, h2⟩
theorem cnt_l {t a x : Int} {ac : List (List Bool)} {nx : List (List (List Int))} {s u : Option Addr} {c d : Nat} {w : World} (hA : Rds w (autD ac nx) [.slice s ac.length c, .slice u nx.length d]) {v : Int} (hv : accR t a ac nx x = v) (hk : accK t a ac nx x = 0) :
  Calls Try.prog 35 #[.agg #[.int .i64 t, .int .i64 a, .slice s ac.length c, .slice u nx.length d], .int .i64 x] w fun z w' => z = .returned (.tuple #[.int .i64 v, .int .i64 0]) ∧ Below w.heap.size w w' := by
 refine (implAcceptedCount_i (t := t) (a := a) (x := x) hA.two.1 hA.two.2).mono ?_
 rintro z w' ⟨h1, h2⟩
 rw [hv, hk] at h1
 exact ⟨h1, h2⟩
end Go.Proofs.Ytbflhjjnemdecaa

namespace Go.Proofs.Ytbflhjjnemdecaa
set_option linter.unusedVariables false
set_option linter.unusedSimpArgs false
def lessL : List Int → List Int → List Int → List Int → Bool
 | p :: ps, qs, u :: us, vs => if p = u then (if qs.head? = vs.head? ∨ qs = [] ∨ vs = [] then lessL ps qs.tail us vs.tail else decide (qs.headD 0 < vs.headD 0)) else decide (p < u)
 | _, _, _, _ => false
def lessW (ps qs us vs : List Int) : Bool := if qs.length = vs.length then lessL ps qs us vs else decide (qs.length < vs.length)
theorem drop_cons {l : List Int} {k : Nat} {x : Int} (h : l[k]? = some x) : l.drop k = x :: l.drop (k + 1) := by
 obtain ⟨hk, rfl⟩ := List.getElem?_eq_some_iff.1 h
 exact List.drop_eq_getElem_cons hk
theorem less_step {ps qs us vs : List Int} {k : Nat} {p q u v : Int} (h1 : ps[k]? = some p) (h2 : us[k]? = some u) (h3 : qs[k]? = some q) (h4 : vs[k]? = some v) :
  lessL (ps.drop k) (qs.drop k) (us.drop k) (vs.drop k) = if p = u then (if q = v then lessL (ps.drop (k + 1)) (qs.drop (k + 1)) (us.drop (k + 1)) (vs.drop (k + 1)) else decide (q < v)) else decide (p < u) := by
 rw [drop_cons h1, drop_cons h2, drop_cons h3, drop_cons h4]
 simp [lessL]
theorem less_last {ps qs us vs : List Int} {k : Nat} {p u : Int} (h1 : ps[k]? = some p) (h2 : us[k]? = some u) (h3 : qs.length ≤ k) (h4 : vs.length ≤ k) :
  lessL (ps.drop k) (qs.drop k) (us.drop k) (vs.drop k) = if p = u then lessL (ps.drop (k + 1)) (qs.drop (k + 1)) (us.drop (k + 1)) (vs.drop (k + 1)) else decide (p < u) := by
 rw [drop_cons h1, drop_cons h2, List.drop_eq_nil_of_le h3, List.drop_eq_nil_of_le h4, List.drop_eq_nil_of_le (show qs.length ≤ k + 1 by omega), List.drop_eq_nil_of_le (show vs.length ≤ k + 1 by omega)]
 simp [lessL]
theorem less_end {ps qs us vs : List Int} {k : Nat} (h : ps.length ≤ k ∨ us.length ≤ k) : lessL (ps.drop k) (qs.drop k) (us.drop k) (vs.drop k) = false := by
 rcases h with h | h
 ·
  rw [List.drop_eq_nil_of_le h]
  unfold lessL
  rfl
 ·
  rw [List.drop_eq_nil_of_le h]
  cases ps.drop k <;> rfl
end Go.Proofs.Ytbflhjjnemdecaa

namespace Go.Proofs.Ytbflhjjnemdecaa
set_option linter.unusedVariables false
set_option linter.unusedSimpArgs false
open Classical in
open Classical in
open Classical in
section
variable {t a : Int} {ac bc : List (List Bool)} {nx ny : List (List (List Int))}
theorem runN_go {nx : List (List (List Int))} {xs ys : List Int} : ∀ k, (∀ j, j ≤ k → 0 ≤ runN nx xs ys j) → goW nx 0 (segW xs ys 0 k) = runN nx xs ys k
 | 0, _ => by rw [segW_self]; rfl
 | k + 1, h => by
  have hk := h k (by omega)
  rw [segW_succ xs ys (Nat.zero_le k), goW_append, runN_go k fun j hj => h j (by omega)]
  show goN nx (runN nx xs ys k) (atW xs k) (ys.getD k 0).toNat = _
  unfold goN
  rw [if_neg (by omega)]
  rfl
theorem goW_neg (nx : List (List (List Int))) : ∀ (ws : List (Nat × Nat)) (s : Int), s < 0 → goW nx s ws < 0
 | [], s, h => h
 | q :: ws, s, h => goW_neg nx ws _ (by unfold goN; rw [if_pos h]; omega)
theorem first_neg {f : Nat → Int} (h0 : 0 ≤ f 0) : ∀ n, (∀ j, j ≤ n → 0 ≤ f j) ∨ ∃ k, k < n ∧ (∀ j, j ≤ k → 0 ≤ f j) ∧ f (k + 1) < 0
 | 0 => Or.inl fun j hj => by
  obtain rfl : j = 0 := by omega
  exact h0
 | n + 1 => by
  rcases first_neg h0 n with h | ⟨k, k1, k2⟩
  ·
   by_cases hn : 0 ≤ f (n + 1)
   ·
    refine Or.inl fun j hj => ?_
    by_cases he : j = n + 1
    ·
     rw [he]; exact hn
    ·
     exact h j (by omega)
   ·
    exact Or.inr ⟨n, by omega, h, by omega⟩
  ·
   exact Or.inr ⟨k, by omega, k2⟩
theorem runs_acc {ac : List (List Bool)} {nx : List (List (List Int))} {xs ys : List Int} : runsB ac nx xs ys = accN ac nx 0 (segW xs ys 0 ys.length) (atW xs ys.length) := by
 rw [accN_goW]
 by_cases hall : ∀ k, k ≤ ys.length → 0 ≤ runN nx xs ys k
 ·
  rw [runN_go _ hall]
  have h0 := hall _ (Nat.le_refl _)
  unfold runsB hasN
  rw [@decide_eq_true _ (Classical.propDecidable _) hall, decide_eq_true h0]
  rfl
 ·
  obtain ⟨k, k1, k2, k3⟩ := (first_neg (f := runN nx xs ys) (Int.le_refl 0) ys.length).resolve_left hall
  rw [runsB_no (show k + 1 ≤ ys.length by omega) k3]
  have hg : goW nx 0 (segW xs ys 0 (k + 1)) < 0 := by
   rw [segW_succ xs ys (Nat.zero_le k), goW_append, runN_go k k2]
   show goN nx (runN nx xs ys k) (atW xs k) (ys.getD k 0).toNat < 0
   unfold goN
   rw [if_neg (by have := k2 k (Nat.le_refl _); omega)]
   exact k3
  rw [segW_append xs ys (show 0 ≤ k + 1 by omega) (show k + 1 ≤ ys.length by omega), goW_append]
  unfold hasN
  rw [decide_eq_false (by have := goW_neg nx (segW xs ys (k + 1) ys.length) _ hg; omega), Bool.false_and]
end
end Go.Proofs.Ytbflhjjnemdecaa

namespace Go.Proofs.Ytbflhjjnemdecaa
set_option linter.unusedVariables false
set_option linter.unusedSimpArgs false
section
variable {κ : Type} [DecidableEq κ]
end
section
variable {κ χ : Type} [DecidableEq κ] [DecidableEq χ]
end
abbrev WL := List (Nat × Nat) → Nat → Bool
noncomputable instance instDecWL : DecidableEq WL := fun _ _ => Classical.propDecidable _
section
variable {ac : List (List Bool)} {nx : List (List (List Int))} {A a : Nat}
theorem okW_cons {m k : Nat} {ws : List (Nat × Nat)} {x : Nat} (hm : m < A) (hk : k < a) (h : okW A a ws x) : okW A a ((m, k) :: ws) x :=
 ⟨fun q hq => by
  rcases List.mem_cons.1 hq with rfl | hq
  ·
   exact ⟨hm, hk⟩
  ·
   exact h.1 q hq, h.2⟩
end
section
variable {t a : Int} {ac : List (List Bool)} {nx : List (List (List Int))}
end
section
variable {t a : Int} {ac : List (List Bool)} {nx : List (List (List Int))}
theorem accW_iff (h : AutOk t a ac nx) : ∀ (n s : Nat), s < ac.length → (accW ac nx n s = true ↔ ∃ ws m, ws.length = n ∧ okW (atomsN t).toNat a.toNat ws m ∧ accN ac nx (s : Int) ws m = true)
 | 0, s, hs => by
  obtain ⟨ar, har⟩ : ∃ e, ac[s]? = some e := ⟨_, List.getElem?_eq_getElem hs⟩
  obtain ⟨nr, hnr⟩ : ∃ e, nx[s]? = some e := ⟨_, List.getElem?_eq_getElem (by rw [h.len]; exact hs)⟩
  have hl := (h.st _ _ _ har hnr).1
  have e0 : ac.getD s [] = ar := by rw [List.getD_eq_getElem?_getD, har]; rfl
  have e1 : ∀ m, hasN ac (s : Int) m = ar.getD m false := fun m => by
   unfold hasN
   rw [decide_eq_true (by omega), Bool.true_and, Int.toNat_natCast, e0]
  show (ac.getD s []).any id = true ↔ _
  rw [e0, List.any_eq_true]
  constructor
  ·
   rintro ⟨b, hb, hbt⟩
   obtain ⟨m, hm, rfl⟩ := List.getElem_of_mem hb
   refine ⟨[], m, rfl, ⟨by simp, by omega⟩, ?_⟩
   show hasN ac (s : Int) m = true
   rw [e1, List.getD_eq_getElem?_getD, List.getElem?_eq_getElem hm]
   exact hbt
  ·
   rintro ⟨ws, m, hw, ho, ha⟩
   obtain rfl := List.eq_nil_of_length_eq_zero hw
   have ha' : hasN ac (s : Int) m = true := ha
   rw [e1, List.getD_eq_getElem?_getD, List.getElem?_eq_getElem (by have := ho.2; omega)] at ha'
   exact ⟨_, List.getElem_mem _, ha'⟩
 | n + 1, s, hs => by
  obtain ⟨ar, har⟩ : ∃ e, ac[s]? = some e := ⟨_, List.getElem?_eq_getElem hs⟩
  obtain ⟨nr, hnr⟩ : ∃ e, nx[s]? = some e := ⟨_, List.getElem?_eq_getElem (by rw [h.len]; exact hs)⟩
  obtain ⟨-, hl, hrow⟩ := h.st _ _ _ har hnr
  have e0 : nx.getD s [] = nr := by rw [List.getD_eq_getElem?_getD, hnr]; rfl
  have e1 : ∀ (m k : Nat) (row : List Int), nr[m]? = some row → goN nx (s : Int) m k = row.getD k (-1) := fun m k row hr => by
   unfold goN stepN
   rw [if_neg (by omega), Int.toNat_natCast, e0, List.getD_eq_getElem?_getD (l := nr), hr]
   rfl
  rw [accW_succ, e0]
  constructor
  ·
   rintro ⟨row, hr, z, hz, h0, ha⟩
   obtain ⟨m, hm, rfl⟩ := List.getElem_of_mem hr
   obtain ⟨k, hk, rfl⟩ := List.getElem_of_mem hz
   have hmm : nr[m]? = some nr[m] := List.getElem?_eq_getElem hm
   obtain ⟨hrl, hzb⟩ := hrow m _ hmm
   have hb := hzb k _ (List.getElem?_eq_getElem hk)
   obtain ⟨ws, x, hw, ho, hacc⟩ := (accW_iff h n _ (by omega)).1 ha
   refine ⟨(m, k) :: ws, x, by simp [hw], okW_cons (by omega) (by omega) ho, ?_⟩
   show accN ac nx (goN nx (s : Int) m k) ws x = true
   rw [e1 m k _ hmm, List.getD_eq_getElem?_getD, List.getElem?_eq_getElem hk, Option.getD_some]
   rw [Int.toNat_of_nonneg h0] at hacc
   exact hacc
  ·
   rintro ⟨ws, x, hw, ho, ha⟩
   obtain ⟨q, ws, rfl⟩ : ∃ q r, ws = q :: r := by
    cases ws with
    | nil => simp at hw
    | cons q r => exact ⟨q, r, rfl⟩
   obtain ⟨hq1, hq2, ho'⟩ := ho.tail
   obtain ⟨row, hr⟩ : ∃ e, nr[q.1]? = some e := ⟨_, List.getElem?_eq_getElem (by omega)⟩
   obtain ⟨hrl, hzb⟩ := hrow q.1 row hr
   obtain ⟨z, hz⟩ : ∃ e, row[q.2]? = some e := ⟨_, List.getElem?_eq_getElem (by omega)⟩
   have ha' : accN ac nx (goN nx (s : Int) q.1 q.2) ws x = true := ha
   rw [e1 q.1 q.2 row hr, List.getD_eq_getElem?_getD, hz, Option.getD_some] at ha'
   have h0 : 0 ≤ z := by
    rcases Int.lt_or_le z 0 with hn | hn
    ·
     rw [accN_neg _ _ _ _ _ hn] at ha'; cases ha'
    ·
     exact hn
   have hb := hzb q.2 z hz
   refine ⟨row, List.mem_of_getElem? hr, z, List.mem_of_getElem? hz, h0, (accW_iff h n _ (by omega)).2 ⟨ws, x, by simpa using hw, ho', ?_⟩⟩
   rw [Int.toNat_of_nonneg h0]
   exact ha'
end
end Go.Proofs.Ytbflhjjnemdecaa

namespace Go.Proofs.Ytbflhjjnemdecaa
set_option linter.unusedVariables false
set_option linter.unusedSimpArgs false
open Go.ChangeShapes Go.WideShapes Go.ChangeAt Go.RowKit Go.Deep
section
variable {t a : Int} {ac : List (List Bool)} {nx : List (List (List Int))} {N : Nat}
theorem fxA_at {k : Nat} (hk : k < N) : (fxA ac nx N)[k]? = some ((chJ (accW ac nx (N - k - 1)) (nx.getD (stW ac nx N k) []) : Nat) : Int) := by
 unfold fxA
 rw [List.getElem?_append_left (by rw [fxW_len]; exact hk)]
 unfold fxW
 rw [List.getElem?_map, List.getElem?_range hk]
 rfl
theorem fxA_last : (fxA ac nx N)[N]? = some ((laW ac (stW ac nx N N) : Nat) : Int) := by
 unfold fxA
 rw [List.getElem?_append_right (by rw [fxW_len]; omega), fxW_len, Nat.sub_self]
 rfl
theorem fyW_at {k : Nat} (hk : k < N) : (fyW ac nx N N)[k]? = some ((chL (accW ac nx (N - k - 1)) (nx.getD (stW ac nx N k) []) : Nat) : Int) := by
 unfold fyW
 rw [List.getElem?_map, List.getElem?_range hk]
 rfl
theorem getD_some {l : List Int} {k : Nat} {x : Int} (h : l[k]? = some x) : l.getD k 0 = x := by rw [List.getD_eq_getElem?_getD, h]; rfl
theorem goN_cell {s j l : Nat} {nr : List (List Int)} {row : List Int} {z : Int} (h1 : nx[s]? = some nr) (h2 : nr[j]? = some row) (h3 : row[l]? = some z) : goN nx (s : Int) j l = z := by
 unfold goN stepN
 rw [if_neg (by omega), Int.toNat_natCast]
 simp [List.getD_eq_getElem?_getD, h1, h2, h3]
theorem first_run_from (h : AutOk t a ac nx) (o : OnW ac nx N 0) : ∀ j k, k + j = N → accN ac nx (stW ac nx N k : Int) (segW (fxA ac nx N) (fyW ac nx N N) k N) (atW (fxA ac nx N) N) = true
 | 0, k, hk => by
  obtain rfl : k = N := by omega
  rw [segW_self]
  show hasN ac (stW ac nx k k : Int) _ = true
  have ok := OnW.all h o k (Nat.le_refl _)
  have hacc := ok.acc
  rw [Nat.sub_self] at hacc
  obtain ⟨ar, har⟩ : ∃ e, ac[stW ac nx k k]? = some e := ⟨_, List.getElem?_eq_getElem ok.lt⟩
  obtain ⟨h1, h2, h3⟩ := last_atom har hacc
  have e : atW (fxA ac nx k) k = laW ac (stW ac nx k k) := by unfold atW; rw [getD_some fxA_last, Int.toNat_natCast]
  rw [e]
  unfold hasN
  rw [decide_eq_true (by omega), Bool.true_and, Int.toNat_natCast]
  simp [List.getD_eq_getElem?_getD, har, h2]
 | j + 1, k, hk => by
  have hlt : k < N := by omega
  have ok := OnW.all h o k (by omega)
  obtain ⟨nr, z, h1, h2, h3, -, -, -⟩ := ok.step h hlt
  obtain ⟨row, r1, r2, -⟩ := h2.cell
  rw [segW_append _ _ (show k ≤ k + 1 by omega) (show k + 1 ≤ N by omega), segW_one]
  show accN ac nx (goN nx (stW ac nx N k : Int) (atW (fxA ac nx N) k) ((fyW ac nx N N).getD k 0).toNat) _ _ = true
  have e1 : atW (fxA ac nx N) k = chJ (accW ac nx (N - k - 1)) (nx.getD (stW ac nx N k) []) := by unfold atW; rw [getD_some (fxA_at hlt), Int.toNat_natCast]
  rw [e1, getD_some (fyW_at hlt), Int.toNat_natCast, goN_cell h1 r1 r2, h3]
  exact first_run_from h o j (k + 1) (by omega)
theorem first_run (h : AutOk t a ac nx) (o : OnW ac nx N 0) : runsB ac nx (fxA ac nx N) (fyW ac nx N N) = true := by
 rw [runs_acc, fyW_len]
 have := first_run_from h o N 0 (by omega)
 exact this
theorem first_word (h : AutOk t a ac nx) (o : OnW ac nx N 0) (h10 : N ≤ 10) : wordB t a (fxA ac nx N) (fyW ac nx N N) = true := by
 unfold wordB
 simp only [Bool.and_eq_true, decide_eq_true_eq]
 refine ⟨⟨⟨⟨h.sig, by rw [fyW_len]; exact h10⟩, by rw [fxA_len, fyW_len]⟩, ?_⟩, ?_⟩
 ·
  unfold allIn
  rw [List.all_eq_true]
  intro z hz
  obtain ⟨i, hi⟩ := List.mem_iff_getElem?.1 hz
  have hil := (List.getElem?_eq_some_iff.1 hi).1
  rw [fxA_len] at hil
  simp only [inB, Bool.and_eq_true, decide_eq_true_eq]
  by_cases hlt : i < N
  ·
   rw [fxA_at hlt] at hi
   obtain ⟨nr, z', h1, h2, h3, -, -, -⟩ := (OnW.all h o i (by omega)).step h hlt
   obtain ⟨row, r1, r2, -⟩ := h2.cell
   have := (List.getElem?_eq_some_iff.1 r1).1
   obtain ⟨ar, har⟩ : ∃ e, ac[stW ac nx N i]? = some e := ⟨_, List.getElem?_eq_getElem (OnW.all h o i (by omega)).lt⟩
   have := (h.st _ _ _ har h1).2.1
   have := Option.some.inj hi
   omega
  ·
   obtain rfl : i = N := by omega
   rw [fxA_last] at hi
   have ok := OnW.all h o i (Nat.le_refl _)
   have hacc := ok.acc
   rw [Nat.sub_self] at hacc
   obtain ⟨ar, har⟩ : ∃ e, ac[stW ac nx i i]? = some e := ⟨_, List.getElem?_eq_getElem ok.lt⟩
   obtain ⟨nr, hnr⟩ : ∃ e, nx[stW ac nx i i]? = some e := ⟨_, List.getElem?_eq_getElem (by rw [h.len]; exact ok.lt)⟩
   have := (last_atom har hacc).1
   have := (h.st _ _ _ har hnr).1
   have := Option.some.inj hi
   omega
 ·
  unfold allIn
  rw [List.all_eq_true]
  intro z hz
  obtain ⟨i, hi⟩ := List.mem_iff_getElem?.1 hz
  have hil := (List.getElem?_eq_some_iff.1 hi).1
  rw [fyW_len] at hil
  simp only [inB, Bool.and_eq_true, decide_eq_true_eq]
  rw [fyW_at hil] at hi
  obtain ⟨nr, z', h1, h2, h3, -, -, -⟩ := (OnW.all h o i (by omega)).step h hil
  obtain ⟨row, r1, r2, -⟩ := h2.cell
  have := (List.getElem?_eq_some_iff.1 r2).1
  obtain ⟨ar, har⟩ : ∃ e, ac[stW ac nx N i]? = some e := ⟨_, List.getElem?_eq_getElem (OnW.all h o i (by omega)).lt⟩
  have := ((h.st _ _ _ har h1).2.2 _ _ r1).1
  have := Option.some.inj hi
  omega
theorem word_at {ps qs : List Int} (hw : wordB t a ps qs = true) {i : Nat} : (i ≤ qs.length → ∃ m : Nat, ps[i]? = some (m : Int) ∧ (m : Int) < atomsN t) ∧ (i < qs.length → ∃ m : Nat, qs[i]? = some (m : Int) ∧ (m : Int) < a) := by
 obtain ⟨h1, h2, h3, h4⟩ := wordB_parts hw
 constructor
 ·
  intro hi
  obtain ⟨z, hz⟩ : ∃ z, ps[i]? = some z := ⟨_, List.getElem?_eq_getElem (by omega)⟩
  obtain ⟨m, rfl, hm⟩ := allIn_at h3 hz
  exact ⟨m, hz, hm⟩
 ·
  intro hi
  obtain ⟨z, hz⟩ : ∃ z, qs[i]? = some z := ⟨_, List.getElem?_eq_getElem hi⟩
  obtain ⟨m, rfl, hm⟩ := allIn_at h4 hz
  exact ⟨m, hz, hm⟩
theorem word_ok {ps qs : List Int} (hw : wordB t a ps qs = true) {k : Nat} : okW (atomsN t).toNat a.toNat (segW ps qs k qs.length) (atW ps qs.length) := by
 constructor
 ·
  intro q hq
  unfold segW at hq
  obtain ⟨j, hj, rfl⟩ := List.mem_map.1 hq
  have hj := List.mem_range.1 hj
  obtain ⟨m, h1, h2⟩ := (word_at hw (i := k + j)).1 (by omega)
  obtain ⟨m', h3, h4⟩ := (word_at hw (i := k + j)).2 (by omega)
  simp only [getD_some h1, getD_some h3]
  omega
 ·
  obtain ⟨m, h1, h2⟩ := (word_at hw (i := qs.length)).1 (Nat.le_refl _)
  unfold atW
  rw [getD_some h1]
  omega
theorem first_least (h : AutOk t a ac nx) (o : OnW ac nx N 0) {ps qs : List Int} (hw : wordB t a ps qs = true) (hq : qs.length = N) : ∀ j k, k + j = N → accN ac nx (stW ac nx N k : Int) (segW ps qs k N) (atW ps N) = true →
  lessL (ps.drop k) (qs.drop k) ((fxA ac nx N).drop k) ((fyW ac nx N N).drop k) = false
 | 0, k, hk, ha => by
  obtain rfl : k = N := by omega
  obtain ⟨m, h1, h2⟩ := (word_at hw (i := k)).1 (by omega)
  rw [less_last h1 fxA_last (by omega) (by rw [fyW_len]; omega), less_end (Or.inl (by have := (wordB_parts hw).2.1; omega))]
  rw [segW_self] at ha
  replace ha : hasN ac (stW ac nx k k : Int) (atW ps k) = true := ha
  have ok := OnW.all h o k (Nat.le_refl _)
  have hacc := ok.acc
  rw [Nat.sub_self] at hacc
  obtain ⟨ar, har⟩ : ∃ e, ac[stW ac nx k k]? = some e := ⟨_, List.getElem?_eq_getElem ok.lt⟩
  obtain ⟨h3, h4, h5⟩ := last_atom har hacc
  have hm : ¬ m < laW ac (stW ac nx k k) := fun hlt => by
   have h6 := h5 m hlt
   unfold hasN at ha
   have e : atW ps k = m := by unfold atW; rw [getD_some h1, Int.toNat_natCast]
   rw [decide_eq_true (by omega), Bool.true_and, Int.toNat_natCast, e] at ha
   simp [List.getD_eq_getElem?_getD, har, h6] at ha
  split
  ·
   rfl
  ·
   apply decide_eq_false
   omega
 | j + 1, k, hk, ha => by
  have hlt : k < N := by omega
  have ok := OnW.all h o k (by omega)
  obtain ⟨nr, z, h1, h2, h3, -, -, -⟩ := ok.step h hlt
  obtain ⟨row, r1, r2, r3⟩ := h2.cell
  obtain ⟨p, p1, p2⟩ := (word_at hw (i := k)).1 (by omega)
  obtain ⟨q, q1, q2⟩ := (word_at hw (i := k)).2 (by omega)
  rw [less_step p1 (fxA_at hlt) q1 (fyW_at hlt)]
  rw [segW_append _ _ (show k ≤ k + 1 by omega) (show k + 1 ≤ N by omega), segW_one] at ha
  replace ha : accN ac nx (goN nx (stW ac nx N k : Int) (atW ps k) (qs.getD k 0).toNat) (segW ps qs (k + 1) N) (atW ps N) = true := ha
  have e1 : atW ps k = p := by unfold atW; rw [getD_some p1, Int.toNat_natCast]
  rw [e1, getD_some q1, Int.toNat_natCast] at ha
  obtain ⟨nr', row', y, n1, n2, n3, n4, n5, n6⟩ := h.next ok.lt p2 q2
  rw [h1] at n1
  obtain rfl := Option.some.inj n1
  rw [goN_cell h1 n2 n3] at ha
  have hy0 : 0 ≤ y := by
   rcases Int.lt_or_le y 0 with q | q
   ·
    rw [accN_neg _ _ _ _ _ q] at ha; cases ha
   ·
    exact q
  obtain ⟨y', rfl⟩ := Int.eq_ofNat_of_zero_le hy0
  have hacc : accW ac nx (N - k - 1) y' = true := (accW_iff h _ _ (by omega)).2 ⟨_, _, by rw [segW_length]; omega, by have := word_ok hw (k := k + 1); rw [hq] at this; exact this, ha⟩
  have hit : hitZ (accW ac nx (N - k - 1)) (y' : Int) = true := by unfold hitZ; rw [decide_eq_true (by omega), Bool.true_and, Int.toNat_natCast]; exact hacc
  have hrow : hitR (accW ac nx (N - k - 1)) row' = true := by rw [hitR_eq, List.any_eq_true]; exact ⟨_, List.mem_iff_getElem?.2 ⟨q, n3⟩, hit⟩
  have hp : ¬ p < chJ (accW ac nx (N - k - 1)) (nx.getD (stW ac nx N k) []) := fun hc => by
   have := h2.first p row' hc n2
   rw [hrow] at this
   cases this
  by_cases hpe : (p : Int) = (chJ (accW ac nx (N - k - 1)) (nx.getD (stW ac nx N k) []) : Int)
  ·
   rw [if_pos hpe]
   have hpe' : p = chJ (accW ac nx (N - k - 1)) (nx.getD (stW ac nx N k) []) := by omega
   rw [← hpe'] at r1
   rw [n2] at r1
   obtain rfl := Option.some.inj r1
   have hq' : ¬ q < chL (accW ac nx (N - k - 1)) (nx.getD (stW ac nx N k) []) := fun hc => by
    rw [hitR_eq, List.any_eq_false] at r3
    have := r3 (y' : Int) (List.mem_iff_getElem?.2 ⟨q, by rw [List.getElem?_take, if_pos hc]; exact n3⟩)
    exact this hit
   by_cases hqe : (q : Int) = (chL (accW ac nx (N - k - 1)) (nx.getD (stW ac nx N k) []) : Int)
   ·
    rw [if_pos hqe]
    have hqe' : q = chL (accW ac nx (N - k - 1)) (nx.getD (stW ac nx N k) []) := by omega
    rw [← hqe', n3] at r2
    have hz := Option.some.inj r2
    rw [hz, h3] at ha
    exact first_least h o hw hq j (k + 1) (by omega) ha
   ·
    rw [if_neg hqe]
    apply decide_eq_false
    omega
  ·
   rw [if_neg hpe]
   apply decide_eq_false
   omega
theorem runs_len (h : AutOk t a ac nx) {ps qs : List Int} (hw : wordB t a ps qs = true) (hr : runsB ac nx ps qs = true) : accW ac nx qs.length 0 = true := by
 rw [runs_acc] at hr
 exact (accW_iff h _ _ h.lo).2 ⟨_, _, by rw [segW_length]; omega, word_ok hw, hr⟩
theorem fiN_none (h : AutOk t a ac nx) (hN : fiN ac nx < 0) (m : Nat) : accW ac nx m 0 = false := by
 have h1 := (farV_spec (ac := ac) (nx := nx) (ac.length - 1) 0).2 hN
 have key : ∀ m, accW ac nx m 0 = false := by
  intro m
  induction m using Nat.strongRecOn with
  | _ m ih =>
   cases hb : accW ac nx m 0
   ·
    rfl
   ·
    have := least_lt h.targets h.lo hb ih
    rw [h1 m (by omega)] at hb
    cases hb
 exact key m
theorem fiN_on (h : AutOk t a ac nx) (hN : fiN ac nx = (N : Int)) : OnW ac nx N 0 ∧ ∀ m, m < N → accW ac nx m 0 = false := by
 obtain ⟨h1, h2⟩ := farV_eq hN
 exact ⟨OnW.start h h1 h2, h2⟩
theorem first_no (h : AutOk t a ac nx) {ps qs : List Int} (hw : wordB t a ps qs = true) (hc : fiC t a ac nx ≠ 0) : runsB ac nx ps qs = false := by
 cases hr : runsB ac nx ps qs
 ·
  rfl
 have h1 := runs_len h hw hr
 have h10 := (wordB_parts hw).1
 have hb := autB_yes h
 rcases Int.lt_or_le (fiN ac nx) 0 with hn | hn
 ·
  rw [fiN_none h hn] at h1
  cases h1
 ·
  obtain ⟨N, hN⟩ : ∃ N : Nat, fiN ac nx = N := ⟨(fiN ac nx).toNat, by omega⟩
  by_cases hl : N ≤ 10
  ·
   exact absurd (fi_good hb hN hl).2.2 hc
  ·
   rw [(fiN_on h hN).2 _ (by omega)] at h1
   cases h1
theorem first_yes (h : AutOk t a ac nx) (hc : fiC t a ac nx = 0) : wordB t a (fiX t a ac nx) (fiY t a ac nx) = true ∧ runsB ac nx (fiX t a ac nx) (fiY t a ac nx) = true ∧ (∀ ps qs, wordB t a ps qs = true → runsB ac nx ps qs = true → lessW ps qs (fiX t a ac nx) (fiY t a ac nx) = false) ∧
  ∀ n : Nat, n < (fiY t a ac nx).length → accR t a ac nx (n : Int) = 0 ∧ accK t a ac nx (n : Int) = 0 := by
 have hb := autB_yes h
 have hN0 : 0 ≤ fiN ac nx := by
  rcases Int.lt_or_le (fiN ac nx) 0 with hn | hn
  ·
   rw [(fi_none hb hn).2.2] at hc; omega
  ·
   exact hn
 obtain ⟨N, hN⟩ : ∃ N : Nat, fiN ac nx = N := ⟨(fiN ac nx).toNat, by omega⟩
 have h10 : N ≤ 10 := by
  rcases Nat.lt_or_ge 10 N with q | q
  ·
   rw [(fi_long hb hN q).2.2] at hc; omega
  ·
   exact q
 obtain ⟨e1, e2, -⟩ := fi_good hb hN h10
 rw [e1, e2]
 obtain ⟨o, ol⟩ := fiN_on h hN
 refine ⟨first_word h o h10, first_run h o, fun ps qs hw hr => ?_, fun n hn => ?_⟩
 ·
  have h1 := runs_len h hw hr
  have hge : N ≤ qs.length := by
   rcases Nat.lt_or_ge qs.length N with q | q
   ·
    rw [ol _ q] at h1; cases h1
   ·
    exact q
  unfold lessW
  rw [fyW_len]
  split
  ·
   rename_i he
   rw [runs_acc, he] at hr
   exact first_least h o hw he N 0 (by omega) hr
  ·
   apply decide_eq_false
   omega
 ·
  rw [fyW_len] at hn
  have hin : inB (n : Int) 0 10 = true := by simp only [inB, Bool.and_eq_true, decide_eq_true_eq]; omega
  constructor
  ·
   unfold accR
   rw [hb, hin, Bool.true_and, if_pos rfl, Int.toNat_natCast]
   obtain ⟨v, v1, v2, v3⟩ := cnt_pos h n 0 h.lo
   rw [List.getD_eq_getElem?_getD, v1]
   show v = 0
   have : ¬ 0 < v := fun q => by
    rw [ol n hn] at v3
    exact absurd (v3.1 q) (by decide)
   omega
  ·
   unfold accK
   rw [hb, hin]
   rfl
end
end Go.Proofs.Ytbflhjjnemdecaa

namespace Go.Proofs.Ytbflhjjnemdecaa
set_option linter.unusedVariables false
set_option linter.unusedSimpArgs false
open Go.ChangeShapes Go.WideShapes Go.ChangeAt Go.RowKit Go.Deep Go.Sort
theorem fresh_nilw (w w' : World) : Freshs w w' (wordD [] []) [.slice none 0 0, .slice none 0 0] :=
 ⟨[], Ows.cons (F := []) (by simp only [intsD, Ow]; exact ⟨_, _, rfl, by simp, by simp [maxLen], by simp, by simp, Or.inl ⟨by simp, trivial⟩⟩) (Ows.cons (F := []) (by simp only [intsD, Ow]; exact ⟨_, _, rfl, by simp, by simp [maxLen], by simp, by simp, Or.inl ⟨by simp, trivial⟩⟩) Ows.nil), by simp, by simp⟩
theorem fiN_cases (ac : List (List Bool)) (nx : List (List (List Int))) : fiN ac nx < 0 ∨ ∃ N : Nat, fiN ac nx = (N : Int) := by
 rcases Int.lt_or_le (fiN ac nx) 0 with h | h
 ·
  exact Or.inl h
 ·
  exact Or.inr ⟨(fiN ac nx).toNat, by omega⟩
set_option maxHeartbeats 8000000 in
theorem specFirstAccepted_i {t a : Int} {ac : List (List Bool)} {nx : List (List (List Int))} {s u : Option Addr} {c d : Nat} {w : World} (hr : Rd w (bbD ac) (.slice s ac.length c)) (hq : Rd w (iiiD nx) (.slice u nx.length d)) :
  Calls Try.prog 26 #[.agg #[.int .i64 t, .int .i64 a, .slice s ac.length c, .slice u nx.length d]] w fun e w' => ∃ s' c' u' d', e = .returned (.tuple #[.agg #[.slice s' (fiX t a ac nx).length c', .slice u' (fiY t a ac nx).length d'], .int .i64 (fiC t a ac nx)]) ∧
   Freshs w w' (wordD (fiX t a ac nx) (fiY t a ac nx)) [.slice s' (fiX t a ac nx).length c', .slice u' (fiY t a ac nx).length d'] ∧ Below w.heap.size w w' := by
 go_enter Try.func26, Try.ntmps26
 go_wp2_with fail
 obtain ⟨w0, e0, A1, hb0, hz0⟩ := box4 w 51 (.int .i64 t) (.int .i64 a) (.slice s ac.length c) (.slice u nx.length d)
 rw [e0]
 obtain ⟨w1, e1, R, hb1, hz1⟩ := box2 w0 40 (.slice none 0 0) (.slice none 0 0)
 rw [e1]
 have hB1 := hb0.trans (hb1.mono (by omega))
 replace A1 := A1.below hb1
 rw [hz0] at R
 have hA := A1.autAt' (hr.below hB1) (hq.below hB1)
 clear e0 e1 hb0 hb1 A1 hr hq hz0
 refine (l02Ok_i hA).mono ?_
 rintro f w2 ⟨rfl, hb2⟩
 have hB := hB1.trans (hb2.mono hB1.size)
 replace R := R.below hb2
 replace hA := hA.below hb2
 clear hB1 hb2 hz1
 cases hok : autB t a ac nx
 ·
  obtain ⟨e1, e2, e3⟩ := fi_inv hok
  clear hok hA
  obtain ⟨r0, r1, rl⟩ := R.all2
  have z0 := R.frozen 0
  have z1 := R.frozen 1
  go_wp2_with fail
  have K1 := ((R.set 0 (.slice none 0 0)).set 1 (.slice none 0 0))
  have k0 := K1.c0
  have k1 := K1.c1
  refine bodyPost_ret (v := .tuple #[.agg #[.slice none 0 0, .slice none 0 0], .int .i64 1]) (by simp [results, Try.results26, go_sem, k0, k1]) rfl ?_
  exact ⟨none, 0, none, 0, by rw [e1, e2, e3]; rfl, by rw [e1, e2]; exact fresh_nilw _ _, by exact Below.setCell (Below.setCell hB (by simp) _) (by simp) _⟩
 have hok' := autB_true.1 hok
 have hz2 := hB.size
 rcases fiN_cases ac nx with hN | ⟨N, hN⟩
 ·
  obtain ⟨e1, e2, e3⟩ := fi_none hok hN
  clear hok
  go_wp2_with fail
  refine (l02First_no hA hok' hN).mono ?_
  rintro f w3 ⟨rfl, hb3⟩
  replace hB := hB.trans (hb3.mono hz2)
  replace R := R.below hb3
  clear hA hok' hN hb3
  obtain ⟨q0, q1, ql⟩ := (Blk.new2 w3 40 (.slice none 0 0) (.slice none 0 0)).all2
  obtain ⟨r0, r1, rl⟩ := R.all2
  have z0 := R.frozen 0
  have z1 := R.frozen 1
  go_wp2_with fail
  have K1 := ((R.set 0 (.slice none 0 0)).set 1 (.slice none 0 0)).alloc (.cells #[.slice none 0 0, .slice none 0 0] 40)
  have k0 := K1.c0
  have k1 := K1.c1
  refine bodyPost_ret (v := .tuple #[.agg #[.slice none 0 0, .slice none 0 0], .int .i64 6]) (by simp [results, Try.results26, go_sem, k0, k1]) rfl ?_
  exact ⟨none, 0, none, 0, by rw [e1, e2, e3]; rfl, by rw [e1, e2]; exact fresh_nilw _ _, by exact Below.alloc (Below.setCell (Below.setCell hB (by simp) _) (by simp) _) (by simp; exact hB.size) _⟩
 ·
  go_wp2_with fail
  refine (l02First_yes hA hok' hN).mono ?_
  rintro f w3 ⟨s5, c5, s6, c6, rfl, hf3, hb3⟩
  have hB0 := hB
  have hRlt := R.lt
  replace hB := hB.trans (hb3.mono hz2)
  replace R := R.below hb3
  have hRl := R.lt
  have Q := Blk.new2 w3 40 (.slice s5 (N + 1) c5) (.slice s6 N c6)
  obtain ⟨q0, q1, ql⟩ := Q.all2
  clear hA hok' hb3
  by_cases h10 : N ≤ 10
  ·
   obtain ⟨e1, e2, e3⟩ := fi_good hok hN h10
   have d1 : decide ((10 : Int) < (N : Int)) = false := by simp; omega
   clear hok hN h10
   obtain ⟨r0, r1, rl⟩ := R.all2
   have z0 := R.frozen 0
   have z1 := R.frozen 1
   go_wp2_with fail
   have K1 := ((R.set 0 (.slice s5 (N + 1) c5)).set 1 (.slice s6 N c6)).alloc (.cells #[.slice s5 (N + 1) c5, .slice s6 N c6] 40)
   have k0 := K1.c0
   have k1 := K1.c1
   refine bodyPost_ret (v := .tuple #[.agg #[.slice s5 (N + 1) c5, .slice s6 N c6], .int .i64 0]) (by simp [results, Try.results26, go_sem, k0, k1]) rfl ?_
   have hz7 := hB0.size
   have hz8 := hRlt
   have hl1 : (fiX t a ac nx).length = N + 1 := by rw [e1, fxA_len]
   have hl2 : (fiY t a ac nx).length = N := by rw [e2, fyW_len]
   have hf5 : Freshs w2 w3 (wordD (fiX t a ac nx) (fiY t a ac nx)) [.slice s5 (N + 1) c5, .slice s6 N c6] := by rw [e1, e2]; exact hf3
   rw [hl1, hl2, e3]
   refine ⟨s5, c5, s6, c6, rfl, (hf5.keep fun b h1 h2 => ?_).from hz7, by exact Below.alloc (Below.setCell (Below.setCell hB (by simp) _) (by simp) _) (by simp; exact hB.size) _⟩
   have hbR : b ≠ w.heap.size + 1 := by omega
   rw [Below.heap_alloc _ _ _ (by simp; exact h2), Below.heap_setCell _ _ _ _ hbR, Below.heap_setCell _ _ _ _ hbR]
  ·
   obtain ⟨e1, e2, e3⟩ := fi_long hok hN (by omega)
   have d1 : decide ((10 : Int) < (N : Int)) = true := by simp; omega
   clear hok hN h10
   obtain ⟨r0, r1, rl⟩ := R.all2
   have z0 := R.frozen 0
   have z1 := R.frozen 1
   go_wp2_with fail
   have K1 := ((R.set 0 (.slice none 0 0)).set 1 (.slice none 0 0)).alloc (.cells #[.slice s5 (N + 1) c5, .slice s6 N c6] 40)
   have k0 := K1.c0
   have k1 := K1.c1
   refine bodyPost_ret (v := .tuple #[.agg #[.slice none 0 0, .slice none 0 0], .int .i64 3]) (by simp [results, Try.results26, go_sem, k0, k1]) rfl ?_
   exact ⟨none, 0, none, 0, by rw [e1, e2, e3]; rfl, by rw [e1, e2]; exact fresh_nilw _ _, by exact Below.alloc (Below.setCell (Below.setCell hB (by simp) _) (by simp) _) (by simp; exact hB.size) _⟩
set_option maxHeartbeats 8000000 in
theorem shortWord_i {t a : Int} {ac : List (List Bool)} {nx : List (List (List Int))} {s u : Option Addr} {c d : Nat} {w : World} (hr : Rd w (bbD ac) (.slice s ac.length c)) (hq : Rd w (iiiD nx) (.slice u nx.length d)) (hok : autB t a ac nx = true) :
  Calls Try.prog 78 #[.agg #[.int .i64 t, .int .i64 a, .slice s ac.length c, .slice u nx.length d]] w fun e w' => ∃ s' c' u' d', e = .returned (.tuple #[.agg #[.slice s' (fiX t a ac nx).length c', .slice u' (fiY t a ac nx).length d'], .int .i64 (fiC t a ac nx)]) ∧
   Freshs w w' (wordD (fiX t a ac nx) (fiY t a ac nx)) [.slice s' (fiX t a ac nx).length c', .slice u' (fiY t a ac nx).length d'] ∧ Below w.heap.size w w' := by
 have hok' := autB_true.1 hok
 go_enter Try.func78, Try.ntmps78
 go_wp2_with fail
 obtain ⟨w0, e0, A1, hb0, hz0⟩ := box4 w 51 (.int .i64 t) (.int .i64 a) (.slice s ac.length c) (.slice u nx.length d)
 rw [e0]
 obtain ⟨w1, e1, R, hb1, hz1⟩ := box2 w0 40 (.slice none 0 0) (.slice none 0 0)
 rw [e1]
 have hB1 := hb0.trans (hb1.mono (by omega))
 replace A1 := A1.below hb1
 rw [hz0] at R
 obtain ⟨l0, l1, l2, l3, -, -, -, -, ltL⟩ := A1.all4
 have hz9 := hB1.size
 clear e0 e1 hb0 hb1 A1 hz0 hz1
 rcases fiN_cases ac nx with hN | ⟨N, hN⟩
 ·
  obtain ⟨e1, e2, e3⟩ := fi_none hok hN
  clear hok
  go_wp2_with fail
  refine (firstAccepted_no (t := t) (a := a) (hr.below hB1) (hq.below hB1) hok' hN).mono ?_
  rintro f w3 ⟨rfl, hb3⟩
  have hB := hB1.trans (hb3.mono hB1.size)
  replace R := R.below hb3
  clear hok' hN hb3
  obtain ⟨q0, q1, ql⟩ := (Blk.new2 w3 40 (.slice none 0 0) (.slice none 0 0)).all2
  clear l0 l1 l2 l3 ltL
  obtain ⟨r0, r1, rl⟩ := R.all2
  have z0 := R.frozen 0
  have z1 := R.frozen 1
  go_wp2_with fail
  have K1 := ((R.set 0 (.slice none 0 0)).set 1 (.slice none 0 0)).alloc (.cells #[.slice none 0 0, .slice none 0 0] 40)
  have k0 := K1.c0
  have k1 := K1.c1
  refine bodyPost_ret (v := .tuple #[.agg #[.slice none 0 0, .slice none 0 0], .int .i64 6]) (by simp [results, Try.results78, go_sem, k0, k1]) rfl ?_
  exact ⟨none, 0, none, 0, by rw [e1, e2, e3]; rfl, by rw [e1, e2]; exact fresh_nilw _ _, by exact Below.alloc (Below.setCell (Below.setCell hB (by simp) _) (by simp) _) (by simp; exact hB.size) _⟩
 ·
  go_wp2_with fail
  refine (firstAccepted_yes (t := t) (a := a) (hr.below hB1) (hq.below hB1) hok' hN).mono ?_
  rintro f w3 ⟨s5, c5, s6, c6, rfl, hf3, hb3⟩
  have hB0 := hB1
  have hRlt := R.lt
  have hB := hB1.trans (hb3.mono hB1.size)
  replace R := R.below hb3
  have Q := Blk.new2 w3 40 (.slice s5 (N + 1) c5) (.slice s6 N c6)
  obtain ⟨q0, q1, ql⟩ := Q.all2
  clear hok' hb3 l0 l1 l2 l3 ltL
  by_cases h10 : N ≤ 10
  ·
   obtain ⟨e1, e2, e3⟩ := fi_good hok hN h10
   have d1 : decide ((10 : Int) < (N : Int)) = false := by simp; omega
   clear hok hN h10
   obtain ⟨r0, r1, rl⟩ := R.all2
   have z0 := R.frozen 0
   have z1 := R.frozen 1
   go_wp2_with fail
   have K1 := ((R.set 0 (.slice s5 (N + 1) c5)).set 1 (.slice s6 N c6)).alloc (.cells #[.slice s5 (N + 1) c5, .slice s6 N c6] 40)
   have k0 := K1.c0
   have k1 := K1.c1
   refine bodyPost_ret (v := .tuple #[.agg #[.slice s5 (N + 1) c5, .slice s6 N c6], .int .i64 0]) (by simp [results, Try.results78, go_sem, k0, k1]) rfl ?_
   have hz7 := hB0.size
   have hz8 := hRlt
   have hl1 : (fiX t a ac nx).length = N + 1 := by rw [e1, fxA_len]
   have hl2 : (fiY t a ac nx).length = N := by rw [e2, fyW_len]
   have hf5 : Freshs w1 w3 (wordD (fiX t a ac nx) (fiY t a ac nx)) [.slice s5 (N + 1) c5, .slice s6 N c6] := by rw [e1, e2]; exact hf3
   rw [hl1, hl2, e3]
   refine ⟨s5, c5, s6, c6, rfl, (hf5.keep fun b h1 h2 => ?_).from hz7, by exact Below.alloc (Below.setCell (Below.setCell hB (by simp) _) (by simp) _) (by simp; exact hB.size) _⟩
   have hbR : b ≠ w.heap.size + 1 := by omega
   rw [Below.heap_alloc _ _ _ (by simp; exact h2), Below.heap_setCell _ _ _ _ hbR, Below.heap_setCell _ _ _ _ hbR]
  ·
   obtain ⟨e1, e2, e3⟩ := fi_long hok hN (by omega)
   have d1 : decide ((10 : Int) < (N : Int)) = true := by simp; omega
   clear hok hN h10
   obtain ⟨r0, r1, rl⟩ := R.all2
   have z0 := R.frozen 0
   have z1 := R.frozen 1
   go_wp2_with fail
   have K1 := ((R.set 0 (.slice none 0 0)).set 1 (.slice none 0 0)).alloc (.cells #[.slice s5 (N + 1) c5, .slice s6 N c6] 40)
   have k0 := K1.c0
   have k1 := K1.c1
   refine bodyPost_ret (v := .tuple #[.agg #[.slice none 0 0, .slice none 0 0], .int .i64 3]) (by simp [results, Try.results78, go_sem, k0, k1]) rfl ?_
   exact ⟨none, 0, none, 0, by rw [e1, e2, e3]; rfl, by rw [e1, e2]; exact fresh_nilw _ _, by exact Below.alloc (Below.setCell (Below.setCell hB (by simp) _) (by simp) _) (by simp; exact hB.size) _⟩
set_option maxHeartbeats 8000000 in
theorem implFirstAccepted_i {t a : Int} {ac : List (List Bool)} {nx : List (List (List Int))} {s u : Option Addr} {c d : Nat} {w : World} (hr : Rd w (bbD ac) (.slice s ac.length c)) (hq : Rd w (iiiD nx) (.slice u nx.length d)) :
  Calls Try.prog 27 #[.agg #[.int .i64 t, .int .i64 a, .slice s ac.length c, .slice u nx.length d]] w fun e w' => ∃ s' c' u' d', e = .returned (.tuple #[.agg #[.slice s' (fiX t a ac nx).length c', .slice u' (fiY t a ac nx).length d'], .int .i64 (fiC t a ac nx)]) ∧
   Freshs w w' (wordD (fiX t a ac nx) (fiY t a ac nx)) [.slice s' (fiX t a ac nx).length c', .slice u' (fiY t a ac nx).length d'] ∧ Below w.heap.size w w' := by
 go_enter Try.func27, Try.ntmps27
 go_wp2_with fail
 obtain ⟨w0, e0, A1, hb0, hz0⟩ := box4 w 51 (.int .i64 t) (.int .i64 a) (.slice s ac.length c) (.slice u nx.length d)
 rw [e0]
 obtain ⟨w1, e1, R, hb1, hz1⟩ := box2 w0 40 (.slice none 0 0) (.slice none 0 0)
 rw [e1]
 have hB1 := hb0.trans (hb1.mono (by omega))
 replace A1 := A1.below hb1
 rw [hz0] at R
 obtain ⟨l0, l1, l2, l3, -, -, -, -, ltL⟩ := A1.all4
 clear e0 e1 hb0 hb1 hz0 hz1
 refine (implValidAutomaton_i (t := t) (a := a) (hr.below hB1) (hq.below hB1)).mono ?_
 rintro f w2 ⟨rfl, hb2⟩
 have hB := hB1.trans (hb2.mono hB1.size)
 replace R := R.below hb2
 replace A1 := A1.below hb2
 clear hB1 hb2 l0 l1 l2 l3 ltL
 cases hok : autB t a ac nx
 ·
  obtain ⟨e1, e2, e3⟩ := fi_inv hok
  clear hok A1
  obtain ⟨r0, r1, rl⟩ := R.all2
  have z0 := R.frozen 0
  have z1 := R.frozen 1
  go_wp2_with fail
  have K1 := ((R.set 0 (.slice none 0 0)).set 1 (.slice none 0 0))
  have k0 := K1.c0
  have k1 := K1.c1
  refine bodyPost_ret (v := .tuple #[.agg #[.slice none 0 0, .slice none 0 0], .int .i64 1]) (by simp [results, Try.results27, go_sem, k0, k1]) rfl ?_
  exact ⟨none, 0, none, 0, by rw [e1, e2, e3]; rfl, by rw [e1, e2]; exact fresh_nilw _ _, by exact Below.setCell (Below.setCell hB (by simp) _) (by simp) _⟩
 have hz2 := hB.size
 obtain ⟨l0, l1, l2, l3, -, -, -, -, ltL⟩ := A1.all4
 go_wp2_with fail
 refine (shortWord_i (t := t) (a := a) (hr.below hB) (hq.below hB) hok).mono ?_
 rintro f w3 ⟨s5, c5, s6, c6, rfl, hf3, hb3⟩
 have hB0 := hB
 have hRlt := R.lt
 replace hB := hB.trans (hb3.mono hz2)
 replace R := R.below hb3
 obtain ⟨X, hX⟩ : ∃ X, fiX t a ac nx = X := ⟨_, rfl⟩
 obtain ⟨Y, hY⟩ : ∃ Y, fiY t a ac nx = Y := ⟨_, rfl⟩
 obtain ⟨C, hC⟩ : ∃ C, fiC t a ac nx = C := ⟨_, rfl⟩
 rw [hX, hY] at hf3
 have HX := Lib.hid hX
 have HY := Lib.hid hY
 have HC := Lib.hid hC
 rw [hX, hY, hC]
 clear hok hb3 l0 l1 l2 l3 ltL A1 hX hY hC
 obtain ⟨r0, r1, rl⟩ := R.all2
 have z0 := R.frozen 0
 have z1 := R.frozen 1
 go_wp2_with fail
 have K1 := ((R.set 0 (.slice s5 X.length c5)).set 1 (.slice s6 Y.length c6))
 have k0 := K1.c0
 have k1 := K1.c1
 refine bodyPost_ret (v := .tuple #[.agg #[.slice s5 X.length c5, .slice s6 Y.length c6], .int .i64 C]) (by simp [results, Try.results27, go_sem, k0, k1]) rfl ?_
 rw [HX.out, HY.out, HC.out]
 refine ⟨s5, c5, s6, c6, rfl, (hf3.keep fun b h1 h2 => ?_).from hz2, Below.setCell (Below.setCell hB (by simp) _) (by simp) _⟩
 have hbR : b ≠ w.heap.size + 1 := by omega
 rw [Below.heap_setCell _ _ _ _ hbR, Below.heap_setCell _ _ _ _ hbR]
end Go.Proofs.Ytbflhjjnemdecaa

namespace Go.Proofs.Ytbflhjjnemdecaa
set_option linter.unusedVariables false
set_option linter.unusedSimpArgs false
open Go.ChangeShapes Go.WideShapes Go.ChangeAt Go.RowKit Go.Deep Go.Sort
set_option maxRecDepth 100000 in
set_option maxHeartbeats 4000000 in
theorem a2Less_i {ps qs us vs : List Int} {s1 s2 s3 s4 : Option Addr} {c1 c2 c3 c4 : Nat} {w : World} (hr1 : Rd w (intsD ps) (.slice s1 ps.length c1)) (hr2 : Rd w (intsD qs) (.slice s2 qs.length c2)) (hr3 : Rd w (intsD us) (.slice s3 us.length c3)) (hr4 : Rd w (intsD vs) (.slice s4 vs.length c4))
  (hl : ps.length = qs.length + 1) (hl' : us.length = vs.length + 1) :
  Calls Try.prog 47 #[.agg #[.slice s1 ps.length c1, .slice s2 qs.length c2], .agg #[.slice s3 us.length c3, .slice s4 vs.length c4]] w fun f w' => f = .returned (.bool (lessW ps qs us vs)) ∧ Below w.heap.size w w' := by
 obtain ⟨-, y1, x1, -⟩ := hr1.sl_at
 obtain ⟨-, y2, x2, -⟩ := hr2.sl_at
 obtain ⟨-, y3, x3, -⟩ := hr3.sl_at
 obtain ⟨-, y4, x4, -⟩ := hr4.sl_at
 unfold maxLen at x1 x2 x3 x4
 have Hl := Lib.hid (And.intro hl hl')
 clear hl hl'
 by_cases hlen : qs.length = vs.length
 rotate_left
 ·
  have hR : Hid (lessW ps qs us vs = decide (qs.length < vs.length)) := by show _ = _; unfold lessW; rw [if_neg hlen]
  have hne : ((qs.length : Int) != (vs.length : Int)) = true := by simp; omega
  clear hlen
  go_enter Try.func47, Try.ntmps47
  go_wp2_with fail
  obtain ⟨w1, e1, L, hb1, hz1⟩ := box2 w 40 (.slice s1 ps.length c1) (.slice s2 qs.length c2)
  rw [e1]
  obtain ⟨w2, e2, M, hb2, hz2⟩ := box2 w1 40 (.slice s3 us.length c3) (.slice s4 vs.length c4)
  rw [e2]
  rw [hz1] at M
  replace L := L.below hb2
  have HBW := Lib.hid (hb1.trans (hb2.mono (by omega)))
  clear e1 e2 hb1 hb2
  have hz3 : w2.heap.size = w.heap.size + 2 := by omega
  clear hz1 hz2
  have HL := Lib.hid L
  have HM := Lib.hid M
  clear L M
  go_ret
  exact ⟨ret_bool (by rw [hR.out]), HBW.out⟩
 obtain ⟨R, hRe⟩ : ∃ R, lessW ps qs us vs = R := ⟨_, rfl⟩
 rw [hRe]
 have HR0 : Hid (lessL (ps.drop 0) (qs.drop 0) (us.drop 0) (vs.drop 0) = R) := by show _ = _; rw [← hRe]; unfold lessW; rw [if_pos hlen]; rfl
 have hne : ((qs.length : Int) != (vs.length : Int)) = false := by simp; omega
 have hlu : us.length = ps.length := by have := Hl.out; omega
 have Hlen := Lib.hid (And.intro hlen (And.intro Hl.out.1 (And.intro Hl.out.2 hlu)))
 have hp1 : 1 ≤ ps.length := by have := Hl.out; omega
 have hu1 : 1 ≤ us.length := by omega
 obtain ⟨b1, o1, rfl⟩ := int_some hr1 (by omega)
 obtain ⟨b3, o3, rfl⟩ := int_some hr3 (by omega)
 clear hlen hlu hRe
 go_enter Try.func47, Try.ntmps47
 go_wp2_with fail
 obtain ⟨w1, e1, L, hb1, hz1⟩ := box2 w 40 (.slice (some ⟨b1, o1, none⟩) ps.length c1) (.slice s2 qs.length c2)
 rw [e1]
 obtain ⟨w2, e2, M, hb2, hz2⟩ := box2 w1 40 (.slice (some ⟨b3, o3, none⟩) us.length c3) (.slice s4 vs.length c4)
 rw [e2]
 rw [hz1] at M
 replace L := L.below hb2
 have HBW := Lib.hid (hb1.trans (hb2.mono (by omega)))
 clear e1 e2 hb1 hb2
 have hz3 : w2.heap.size = w.heap.size + 2 := by omega
 clear hz1 hz2
 have HL := Lib.hid L
 have HM := Lib.hid M
 clear L M
 have HR1 := Lib.hid (hr1.below HBW.out)
 have HR2 := Lib.hid (hr2.below HBW.out)
 have HR3 := Lib.hid (hr3.below HBW.out)
 have HR4 := Lib.hid (hr4.below HBW.out)
 clear hr1 hr2 hr3 hr4
 go_loopw [5] (fun i wr => ∃ k : Nat, i = .int .i64 k ∧ k ≤ ps.length ∧ Hid (lessL (ps.drop k) (qs.drop k) (us.drop k) (vs.drop k) = R) ∧ Hid (Below w2.heap.size w2 wr)) (fun i _ => ps.length - (intOf i).toNat)
 case atStart => exact ⟨0, rfl, by omega, HR0, Lib.hid (Below.refl _ _)⟩
 case round =>
  clear HR0
  obtain ⟨k, rfl, hk, HRk, HB⟩ := hrel
  obtain ⟨wo, rfl⟩ : ∃ v, v = wr := ⟨_, rfl⟩
  have hk0 := Int.natCast_nonneg k
  have hzo := HB.out.size
  have L4 := HL.out.below (HB).out
  have M4 := HM.out.below (HB).out
  obtain ⟨l0, l1, ltL⟩ := L4.all2
  obtain ⟨m0, m1, ltM⟩ := M4.all2
  have gl0 := fun d os => cell_regrown l0 d os
  have gl1 := fun d os => cell_regrown l1 d os
  have gm0 := fun d os => cell_regrown m0 d os
  have gm1 := fun d os => cell_regrown m1 d os
  clear L4 M4
  by_cases hlt : k < ps.length
  rotate_left
  ·
   obtain rfl : k = ps.length := by omega
   have hRf : R = false := by rw [← HRk.out]; exact less_end (Or.inl (Nat.le_refl _))
   go_wp2_with fail
   go_ret
   exact ⟨ret_bool hRf.symm, HBW.out.trans (HB.out.mono (by omega))⟩
  have hltu : k < us.length := by have := Hlen.out; omega
  have hi1 : (k : Int) < (ps.length : Int) := by omega
  have hi2 : (k : Int) < (us.length : Int) := by omega
  obtain ⟨p, hp⟩ : ∃ p, ps[k]? = some p := ⟨_, List.getElem?_eq_getElem hlt⟩
  obtain ⟨u, hu⟩ : ∃ u, us[k]? = some u := ⟨_, List.getElem?_eq_getElem hltu⟩
  have HP := Lib.hid hp
  have HU := Lib.hid hu
  obtain ⟨-, ca⟩ := int_in ((HR1).out.below (HB).out) hp
  obtain ⟨-, cb⟩ := int_in ((HR3).out.below (HB).out) hu
  have gca := fun d os => cell_regrown ca d os
  have gcb := fun d os => cell_regrown cb d os
  clear hp hu
  go_wp2_with fail
  refine Go.wp_region_quiet_below (by kernel_rfl) (by kernel_rfl) ?_
  repeat (first | go_big_quiet_step ((fail)) | quiet_step ((fail)))
  refine wpQuiet_nil ?_; intro _ hw'; obtain ⟨⟨dq, osq⟩, hw''⟩ := hw'; subst hw''; have hq := below_regrown wo dq osq; revert hq; generalize grow (redrawn wo dq) osq = wa; intro hq
  have HBwa := Lib.hid ((HB).out.trans (hq.mono (HB).out.size))
  clear hq
  clear l0 l1 m0 m1 gl0 gl1 gm0 gm1 ltL ltM
  clear ca cb gca gcb
  by_cases hpu : p = u
  rotate_left
  ·
   have hne2 : (p != u) = true := by simpa using hpu
   have hRf : Hid (R = decide (p < u)) := by
    show _ = _
    rw [← HRk.out]
    by_cases hkq : k < qs.length
    ·
     obtain ⟨q, hq⟩ : ∃ q, qs[k]? = some q := ⟨_, List.getElem?_eq_getElem hkq⟩
     obtain ⟨v, hv⟩ : ∃ v, vs[k]? = some v := ⟨_, List.getElem?_eq_getElem (by have := Hlen.out; omega)⟩
     rw [less_step HP.out HU.out hq hv, if_neg hpu]
    ·
     rw [less_last HP.out HU.out (by omega) (by have := Hlen.out; omega), if_neg hpu]
   have L4 := HL.out.below (HBwa).out
   have M4 := HM.out.below (HBwa).out
   obtain ⟨l0, l1, ltL⟩ := L4.all2
   obtain ⟨m0, m1, ltM⟩ := M4.all2
   have gl0 := fun d os => cell_regrown l0 d os
   have gl1 := fun d os => cell_regrown l1 d os
   have gm0 := fun d os => cell_regrown m0 d os
   have gm1 := fun d os => cell_regrown m1 d os
   clear L4 M4
   obtain ⟨-, ca⟩ := int_in ((HR1).out.below (HBwa).out) HP.out
   obtain ⟨-, cb⟩ := int_in ((HR3).out.below (HBwa).out) HU.out
   have gca := fun d os => cell_regrown ca d os
   have gcb := fun d os => cell_regrown cb d os
   clear hpu
   go_wp2_with fail
   refine Go.wp_region_quiet_below (by kernel_rfl) (by kernel_rfl) ?_
   repeat (first | go_big_quiet_step ((fail)) | quiet_step ((fail)))
   refine wpQuiet_nil ?_; intro _ hw'; obtain ⟨⟨dq, osq⟩, hw''⟩ := hw'; subst hw''; have hq := below_regrown wa dq osq; revert hq; generalize grow (redrawn wa dq) osq = wb; intro hq
   have HBwb := Lib.hid ((HBwa).out.trans (hq.mono (HBwa).out.size))
   clear hq
   go_wp2_with fail
   go_ret
   exact ⟨ret_bool hRf.out.symm, HBW.out.trans (HBwb.out.mono (by omega))⟩
  have hne2 : (p != u) = false := by simpa using hpu
  have L4 := HL.out.below (HBwa).out
  have M4 := HM.out.below (HBwa).out
  obtain ⟨l0, l1, ltL⟩ := L4.all2
  obtain ⟨m0, m1, ltM⟩ := M4.all2
  have gl0 := fun d os => cell_regrown l0 d os
  have gl1 := fun d os => cell_regrown l1 d os
  have gm0 := fun d os => cell_regrown m0 d os
  have gm1 := fun d os => cell_regrown m1 d os
  clear L4 M4
  by_cases hkq : k < qs.length
  rotate_left
  ·
   have HRn : Hid (lessL (ps.drop (k + 1)) (qs.drop (k + 1)) (us.drop (k + 1)) (vs.drop (k + 1)) = R) := by show _ = _; rw [← HRk.out, less_last HP.out HU.out (by omega) (by have := Hlen.out; omega), if_pos hpu]
   have hi3 : ¬ (k : Int) < (qs.length : Int) := by omega
   have hi5 : decide (k < qs.length) = false := decide_eq_false hkq
   clear hpu
   go_wp2_with fail
   refine Go.wp_region_quiet_below (by kernel_rfl) (by kernel_rfl) ?_
   repeat (first | go_big_quiet_step ((fail)) | quiet_step ((fail)))
   refine wpQuiet_nil ?_; intro _ hw'; obtain ⟨⟨dq, osq⟩, hw''⟩ := hw'; subst hw''; have hq := below_regrown wa dq osq; revert hq; generalize grow (redrawn wa dq) osq = wb; intro hq
   have HBwb := Lib.hid ((HBwa).out.trans (hq.mono (HBwa).out.size))
   clear hq
   go_wp2_with fail
   go_roundw
   case rel => exact ⟨k + 1, by go_num, by omega, HRn, HBwb⟩
   case measure => simp [intOf]; omega
  obtain ⟨q, hq⟩ : ∃ q, qs[k]? = some q := ⟨_, List.getElem?_eq_getElem hkq⟩
  obtain ⟨v, hv⟩ : ∃ v, vs[k]? = some v := ⟨_, List.getElem?_eq_getElem (by have := Hlen.out; omega)⟩
  have hi3 : (k : Int) < (qs.length : Int) := by omega
  have hi4 : (k : Int) < (vs.length : Int) := by have := Hlen.out; omega
  obtain ⟨b2, o2, rfl⟩ := int_some HR2.out (by omega)
  obtain ⟨b4, o4, rfl⟩ := int_some HR4.out (by omega)
  have HQ := Lib.hid hq
  have HV := Lib.hid hv
  have hstep : Hid (R = if q = v then lessL (ps.drop (k + 1)) (qs.drop (k + 1)) (us.drop (k + 1)) (vs.drop (k + 1)) else decide (q < v)) := by show _ = _; rw [← HRk.out, less_step HP.out HU.out hq hv, if_pos hpu]
  obtain ⟨-, cd⟩ := int_in ((HR2).out.below (HBwa).out) hq
  obtain ⟨-, ce⟩ := int_in ((HR4).out.below (HBwa).out) hv
  have gcd := fun d os => cell_regrown cd d os
  have gce := fun d os => cell_regrown ce d os
  clear hpu hkq hq hv
  go_wp2_with fail
  refine Go.wp_region_quiet_below (by kernel_rfl) (by kernel_rfl) ?_
  repeat (first | go_big_quiet_step ((fail)) | quiet_step ((fail)))
  refine wpQuiet_nil ?_; intro _ hw'; obtain ⟨⟨dq, osq⟩, hw''⟩ := hw'; subst hw''; have hq := below_regrown wa dq osq; revert hq; generalize grow (redrawn wa dq) osq = wb; intro hq
  have HBwb := Lib.hid ((HBwa).out.trans (hq.mono (HBwa).out.size))
  clear hq
  clear l0 l1 m0 m1 gl0 gl1 gm0 gm1 ltL ltM
  clear cd ce gcd gce
  by_cases hqv : q = v
  ·
   have hne3 : (q != v) = false := by simpa using hqv
   have HRn : Hid (lessL (ps.drop (k + 1)) (qs.drop (k + 1)) (us.drop (k + 1)) (vs.drop (k + 1)) = R) := by show _ = _; rw [hstep.out, if_pos hqv]
   clear hqv
   go_wp2_with fail
   go_roundw
   case rel => exact ⟨k + 1, by go_num, by omega, HRn, HBwb⟩
   case measure => simp [intOf]; omega
  ·
   have hne3 : (q != v) = true := by simpa using hqv
   have hRf : Hid (R = decide (q < v)) := by show _ = _; rw [hstep.out, if_neg hqv]
   have L4 := HL.out.below (HBwb).out
   have M4 := HM.out.below (HBwb).out
   obtain ⟨l0, l1, ltL⟩ := L4.all2
   obtain ⟨m0, m1, ltM⟩ := M4.all2
   have gl0 := fun d os => cell_regrown l0 d os
   have gl1 := fun d os => cell_regrown l1 d os
   have gm0 := fun d os => cell_regrown m0 d os
   have gm1 := fun d os => cell_regrown m1 d os
   clear L4 M4
   obtain ⟨-, cd⟩ := int_in ((HR2).out.below (HBwb).out) HQ.out
   obtain ⟨-, ce⟩ := int_in ((HR4).out.below (HBwb).out) HV.out
   have gcd := fun d os => cell_regrown cd d os
   have gce := fun d os => cell_regrown ce d os
   clear hqv
   go_wp2_with fail
   refine Go.wp_region_quiet_below (by kernel_rfl) (by kernel_rfl) ?_
   repeat (first | go_big_quiet_step ((fail)) | quiet_step ((fail)))
   refine wpQuiet_nil ?_; intro _ hw'; obtain ⟨⟨dq, osq⟩, hw''⟩ := hw'; subst hw''; have hq := below_regrown wb dq osq; revert hq; generalize grow (redrawn wb dq) osq = wc; intro hq
   have HBwc := Lib.hid ((HBwb).out.trans (hq.mono (HBwb).out.size))
   clear hq
   go_wp2_with fail
   go_ret
   exact ⟨ret_bool hRf.out.symm, HBW.out.trans (HBwc.out.mono (by omega))⟩
end Go.Proofs.Ytbflhjjnemdecaa
