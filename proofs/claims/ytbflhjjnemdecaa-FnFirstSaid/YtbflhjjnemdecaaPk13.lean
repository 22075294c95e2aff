/-
  Parts of a proof, joined: Cnt, LiveP, Arr, FarP, MadP, MadS, ValidI. No condition.
-/
import Derived.Test.YtbflhjjnemdecaaPk12
namespace Go.Proofs.Ytbflhjjnemdecaa
set_option linter.unusedVariables false
set_option linter.unusedSimpArgs false
open Go.ChangeShapes Go.WideShapes Go.ChangeAt Go.RowKit
def sumI {α : Type} (f : α → Int) : List α → Int
 | [] => 0
 | x :: r => f x + sumI f r
section
variable {α : Type} {f : α → Int}
theorem sumI_append : ∀ a b : List α, sumI f (a ++ b) = sumI f a + sumI f b
 | [], b => by simp [sumI]
 | x :: a, b => by simp only [List.cons_append, sumI, sumI_append a b]; omega
theorem sumI_take_succ {xs : List α} {i : Nat} {x : α} (h : xs[i]? = some x) : sumI f (xs.take (i + 1)) = sumI f (xs.take i) + f x := by
 obtain ⟨hi, rfl⟩ := List.getElem?_eq_some_iff.1 h
 rw [List.take_succ_eq_append_getElem hi, sumI_append]
 simp [sumI]
theorem sumI_bd {B : Int} : ∀ {xs : List α}, (∀ x ∈ xs, 0 ≤ f x ∧ f x ≤ B) → 0 ≤ sumI f xs ∧ sumI f xs ≤ xs.length * B
 | [], _ => by simp [sumI]
 | x :: r, h => by
  obtain ⟨h1, h2⟩ := h x (List.mem_cons_self ..)
  obtain ⟨h3, h4⟩ := sumI_bd (xs := r) fun y hy => h y (List.mem_cons_of_mem _ hy)
  simp only [sumI, List.length_cons]
  refine ⟨by omega, ?_⟩
  have : ((r.length + 1 : Nat) : Int) * B = r.length * B + B := by
   rw [Int.natCast_add, Int.add_mul]; simp
  omega
theorem sumI_bd_le {B M : Int} {n : Nat} {xs : List α} (h : ∀ x ∈ xs, 0 ≤ f x ∧ f x ≤ B) (hn : xs.length ≤ n) (hB : 0 ≤ B) (hM : n * B ≤ M) : 0 ≤ sumI f xs ∧ sumI f xs ≤ M := by
 obtain ⟨h1, h2⟩ := sumI_bd h
 have : (xs.length : Int) * B ≤ n * B := Int.mul_le_mul_of_nonneg_right (by omega) hB
 omega
end
def cnt0 (ar : List Bool) : Int := sumI (fun b => if b then 1 else 0) ar
def stepV (c : List Int) (z : Int) : Int := if 0 ≤ z then c.getD z.toNat 0 else 0
def cntRow (c : List Int) (row : List Int) : Int := sumI (stepV c) row
def cntRows (c : List Int) (nr : List (List Int)) : Int := sumI (cntRow c) nr
def cntN (ac : List (List Bool)) (nx : List (List (List Int))) : Nat → List Int
 | 0 => ac.map cnt0
 | n + 1 => nx.map (cntRows (cntN ac nx n))
theorem cntN_length {t a : Int} {ac : List (List Bool)} {nx : List (List (List Int))} (h : AutOk t a ac nx) : ∀ n, (cntN ac nx n).length = ac.length
 | 0 => by simp [cntN]
 | n + 1 => by simp [cntN, h.len]
def cntB (n : Nat) : Int := 8 * 32 ^ n
theorem cntB_succ (n : Nat) : cntB (n + 1) = 32 * cntB n := by unfold cntB; rw [Int.pow_succ]; omega
theorem cntB_nonneg : ∀ n, 0 ≤ cntB n
 | 0 => by decide
 | n + 1 => by rw [cntB_succ]; have := cntB_nonneg n; omega
theorem cntB_mono {n m : Nat} (h : n ≤ m) : cntB n ≤ cntB m := by
 induction h with
 | refl => exact Int.le_refl _
 | step _ ih => rw [cntB_succ]; have := cntB_nonneg n; rename_i m _; have := cntB_nonneg m; omega
theorem cntB_ten {n : Nat} (h : n ≤ 10) : cntB n ≤ 10000000000000000 := Int.le_trans (cntB_mono h) (by decide)
theorem AutOk.dims {t a : Int} {ac : List (List Bool)} {nx : List (List (List Int))} (h : AutOk t a ac nx) : 1 ≤ atomsN t ∧ atomsN t ≤ 8 ∧ 0 ≤ a ∧ a ≤ 4 := by
 obtain ⟨h0, h1, h2, h3⟩ := sigB_bd h.sig
 have := atomsN_bd t
 exact ⟨this.1, this.2, h2, h3⟩
theorem AutOk.row {t a : Int} {ac : List (List Bool)} {nx : List (List (List Int))} (h : AutOk t a ac nx) {i : Nat} {nr : List (List Int)} (h1 : nx[i]? = some nr) :
  (nr.length : Int) = atomsN t ∧ ∀ (j : Nat) (row : List Int), nr[j]? = some row → RowOk a ac.length row := by
 obtain ⟨ar, har⟩ : ∃ e, ac[i]? = some e := ⟨_, List.getElem?_eq_getElem (by have := (List.getElem?_eq_some_iff.1 h1).1; rw [h.len] at this; exact this)⟩
 obtain ⟨_, h2, h3⟩ := h.st i ar nr har h1
 exact ⟨h2, h3⟩
theorem AutOk.acc_row {t a : Int} {ac : List (List Bool)} {nx : List (List (List Int))} (h : AutOk t a ac nx) {i : Nat} {ar : List Bool} (h1 : ac[i]? = some ar) : (ar.length : Int) = atomsN t := by
 obtain ⟨nr, hnr⟩ : ∃ e, nx[i]? = some e := ⟨_, List.getElem?_eq_getElem (by have := (List.getElem?_eq_some_iff.1 h1).1; rw [h.len]; exact this)⟩
 exact (h.st i ar nr h1 hnr).1
theorem cnt0_bd {t a : Int} {ac : List (List Bool)} {nx : List (List (List Int))} (h : AutOk t a ac nx) {i : Nat} {ar : List Bool} (h1 : ac[i]? = some ar) (k : Nat) : 0 ≤ cnt0 (ar.take k) ∧ cnt0 (ar.take k) ≤ 8 := by
 have h2 := h.acc_row h1
 have h3 := h.dims
 refine sumI_bd_le (B := 1) (n := 8) (fun x _ => ?_) (by simp; omega) (by omega) (by omega)
 cases x <;> simp
theorem stepV_bd {c : List Int} {B : Int} (hB : 0 ≤ B) (hc : ∀ (i : Nat) (z : Int), c[i]? = some z → 0 ≤ z ∧ z ≤ B) (z : Int) : 0 ≤ stepV c z ∧ stepV c z ≤ B := by
 unfold stepV
 split
 ·
  rw [List.getD_eq_getElem?_getD]
  cases h : c[z.toNat]? with
  | none => simp; exact hB
  | some v => simpa using hc _ v h
 ·
  omega
theorem cntRow_bd {t a : Int} {ac : List (List Bool)} {nx : List (List (List Int))} (h : AutOk t a ac nx) {c : List Int} {B : Int} (hB : 0 ≤ B) (hc : ∀ (i : Nat) (z : Int), c[i]? = some z → 0 ≤ z ∧ z ≤ B)
  {row : List Int} (hr : RowOk a ac.length row) (k : Nat) : 0 ≤ cntRow c (row.take k) ∧ cntRow c (row.take k) ≤ 4 * B := by
 have h3 := h.dims
 have h4 := hr.1
 exact sumI_bd_le (n := 4) (fun z _ => stepV_bd hB hc z) (by simp; omega) hB (by omega)
theorem cntRows_bd {t a : Int} {ac : List (List Bool)} {nx : List (List (List Int))} (h : AutOk t a ac nx) {c : List Int} {B : Int} (hB : 0 ≤ B) (hc : ∀ (i : Nat) (z : Int), c[i]? = some z → 0 ≤ z ∧ z ≤ B)
  {i : Nat} {nr : List (List Int)} (hi : nx[i]? = some nr) (k : Nat) : 0 ≤ cntRows c (nr.take k) ∧ cntRows c (nr.take k) ≤ 32 * B := by
 have h3 := h.dims
 obtain ⟨h4, h5⟩ := h.row hi
 refine sumI_bd_le (n := 8) (B := 4 * B) (fun row hrow => ?_) (by simp; omega) (by omega) (by omega)
 obtain ⟨j, hj⟩ := List.mem_iff_getElem?.1 (List.mem_of_mem_take hrow)
 have := cntRow_bd h hB hc (h5 j row hj) row.length
 rwa [List.take_length] at this
theorem cntN_bd {t a : Int} {ac : List (List Bool)} {nx : List (List (List Int))} (h : AutOk t a ac nx) : ∀ (n i : Nat) (z : Int), (cntN ac nx n)[i]? = some z → 0 ≤ z ∧ z ≤ cntB n
 | 0, i, z, hz => by
  simp only [cntN, List.getElem?_map, Option.map_eq_some_iff] at hz
  obtain ⟨ar, h1, rfl⟩ := hz
  have := cnt0_bd h h1 ar.length
  rw [List.take_length] at this
  have e : cntB 0 = 8 := by decide
  omega
 | n + 1, i, z, hz => by
  simp only [cntN, List.getElem?_map, Option.map_eq_some_iff] at hz
  obtain ⟨nr, h1, rfl⟩ := hz
  have := cntRows_bd h (cntB_nonneg n) (cntN_bd h n) h1 nr.length
  rw [List.take_length] at this
  rw [cntB_succ]
  exact this
theorem cnt_round {t a : Int} {ac : List (List Bool)} {nx : List (List (List Int))} (h : AutOk t a ac nx) {n : Nat} (hn : n + 1 ≤ 10) {i j : Nat} {nr : List (List Int)} {row : List Int} (hi : nx[i]? = some nr) (hj : nr[j]? = some row) (k : Nat) :
  0 ≤ cntRows (cntN ac nx n) (nr.take j) + cntRow (cntN ac nx n) (row.take k) ∧ cntRows (cntN ac nx n) (nr.take j) + cntRow (cntN ac nx n) (row.take k) ≤ 100000000000000000 := by
 have h1 := cntRows_bd h (cntB_nonneg n) (cntN_bd h n) hi j
 have h2 := cntRow_bd h (cntB_nonneg n) (cntN_bd h n) ((h.row hi).2 j row hj) k
 have h3 := cntB_succ n
 have h4 := cntB_ten hn
 omega
theorem cnt_cell {t a : Int} {ac : List (List Bool)} {nx : List (List (List Int))} (h : AutOk t a ac nx) {n : Nat} (hn : n + 1 ≤ 10) {i j l : Nat} {nr : List (List Int)} {row : List Int} {z : Int} (hi : nx[i]? = some nr) (hj : nr[j]? = some row)
  (hz : row[l]? = some z) : -1 ≤ z ∧ z < ac.length ∧ (0 ≤ z → ∃ v, (cntN ac nx n)[z.toNat]? = some v ∧ 0 ≤ v ∧ v ≤ 10000000000000000 ∧ cntRow (cntN ac nx n) (row.take (l + 1)) = cntRow (cntN ac nx n) (row.take l) + v) ∧
   (z < 0 → cntRow (cntN ac nx n) (row.take (l + 1)) = cntRow (cntN ac nx n) (row.take l)) := by
 obtain ⟨h1, h2⟩ := ((h.row hi).2 j row hj).2 l z hz
 have hs := sumI_take_succ (f := stepV (cntN ac nx n)) hz
 refine ⟨h1, by omega, fun h0 => ?_, fun h0 => ?_⟩
 ·
  obtain ⟨v, hv⟩ : ∃ v, (cntN ac nx n)[z.toNat]? = some v := ⟨_, List.getElem?_eq_getElem (by rw [cntN_length h]; omega)⟩
  obtain ⟨h3, h4⟩ := cntN_bd h n _ v hv
  have h5 := cntB_ten (show n ≤ 10 by omega)
  refine ⟨v, hv, h3, by omega, ?_⟩
  unfold cntRow
  rw [hs]
  unfold stepV
  rw [if_pos h0, List.getD_eq_getElem?_getD, hv]
  rfl
 ·
  unfold cntRow
  rw [hs]
  unfold stepV
  rw [if_neg (by omega)]
  omega
theorem cntRows_succ {c : List Int} {nr : List (List Int)} {j : Nat} {row : List Int} (h : nr[j]? = some row) : cntRows c (nr.take (j + 1)) = cntRows c (nr.take j) + cntRow c row := sumI_take_succ h
theorem cnt0_succ {ar : List Bool} {j : Nat} {b : Bool} (h : ar[j]? = some b) : cnt0 (ar.take (j + 1)) = cnt0 (ar.take j) + if b then 1 else 0 := sumI_take_succ h
theorem cntN_at {ac : List (List Bool)} {nx : List (List (List Int))} {n i : Nat} {nr : List (List Int)} (hi : nx[i]? = some nr) : (cntN ac nx (n + 1))[i]? = some (cntRows (cntN ac nx n) nr) := by
 simp [cntN, hi]
theorem cntN_zero_at {ac : List (List Bool)} {nx : List (List (List Int))} {i : Nat} {ar : List Bool} (hi : ac[i]? = some ar) : (cntN ac nx 0)[i]? = some (cnt0 ar) := by
 simp [cntN, hi]
end Go.Proofs.Ytbflhjjnemdecaa

namespace Go.Proofs.Ytbflhjjnemdecaa
set_option linter.unusedVariables false
set_option linter.unusedSimpArgs false
open Go.ChangeShapes Go.WideShapes Go.ChangeAt Go.RowKit Go.Deep
def hitR (P : Nat → Bool) (row : List Int) : Bool := row.any fun z => decide (0 ≤ z) && P z.toNat
def accW (ac : List (List Bool)) (nx : List (List (List Int))) : Nat → Nat → Bool
 | 0 => fun s => (ac.getD s []).any id
 | n + 1 => fun s => (nx.getD s []).any (hitR (accW ac nx n))
def farV (ac : List (List Bool)) (nx : List (List (List Int))) : Nat → Nat → Int
 | 0 => fun s => if accW ac nx 0 s then 0 else -1
 | n + 1 => fun s => if 0 ≤ farV ac nx n s then farV ac nx n s else if accW ac nx (n + 1) s then ((n + 1 : Nat) : Int) else -1
def farL (ac : List (List Bool)) (nx : List (List (List Int))) (n : Nat) : List Int := (List.range ac.length).map (farV ac nx n)
def Live (ac : List (List Bool)) (nx : List (List (List Int))) (s : Nat) : Prop := ∃ n, accW ac nx n s = true
noncomputable def liveB (ac : List (List Bool)) (nx : List (List (List Int))) (s : Nat) : Bool := @decide (Live ac nx s) (Classical.propDecidable _)
noncomputable def liveL (ac : List (List Bool)) (nx : List (List (List Int))) : List Bool := (List.range ac.length).map (liveB ac nx)
def reachL (ac : List (List Bool)) (nx : List (List (List Int))) (n : Nat) : List Bool := (List.range ac.length).map (accW ac nx n)
section
variable {ac : List (List Bool)} {nx : List (List (List Int))}
theorem liveB_true {s : Nat} : liveB ac nx s = true ↔ Live ac nx s := by unfold liveB; exact @decide_eq_true_iff _ (Classical.propDecidable _)
theorem farL_len (n : Nat) : (farL ac nx n).length = ac.length := by simp [farL]
theorem liveL_len : (liveL ac nx).length = ac.length := by simp [liveL]
theorem reachL_len (n : Nat) : (reachL ac nx n).length = ac.length := by simp [reachL]
theorem farL_at {n s : Nat} (h : s < ac.length) : (farL ac nx n)[s]? = some (farV ac nx n s) := by simp [farL, h]
theorem liveL_at {s : Nat} (h : s < ac.length) : (liveL ac nx)[s]? = some (liveB ac nx s) := by simp [liveL, h]
theorem reachL_at {n s : Nat} (h : s < ac.length) : (reachL ac nx n)[s]? = some (accW ac nx n s) := by simp [reachL, h]
theorem hitR_true {P : Nat → Bool} {row : List Int} : hitR P row = true ↔ ∃ z ∈ row, 0 ≤ z ∧ P z.toNat = true := by
 simp only [hitR, List.any_eq_true, Bool.and_eq_true, decide_eq_true_eq]
theorem accW_succ {n s : Nat} : accW ac nx (n + 1) s = true ↔ ∃ row ∈ nx.getD s [], ∃ z ∈ row, 0 ≤ z ∧ accW ac nx n z.toNat = true := by
 show (nx.getD s []).any (hitR (accW ac nx n)) = true ↔ _
 simp only [List.any_eq_true, hitR_true]
theorem farV_bd : ∀ n s, -1 ≤ farV ac nx n s ∧ farV ac nx n s ≤ n
 | 0, s => by simp only [farV]; split <;> omega
 | n + 1, s => by
  have := farV_bd n s
  simp only [farV]
  split
  ·
   omega
  ·
   split <;> omega
theorem farV_spec : ∀ n s, (0 ≤ farV ac nx n s → ∃ m : Nat, m ≤ n ∧ farV ac nx n s = (m : Int) ∧ accW ac nx m s = true ∧ ∀ k, k < m → accW ac nx k s = false) ∧ (farV ac nx n s < 0 → ∀ m, m ≤ n → accW ac nx m s = false)
 | 0, s => by
  simp only [farV]
  by_cases h : accW ac nx 0 s = true
  ·
   rw [if_pos h]
   exact ⟨fun _ => ⟨0, Nat.le_refl _, rfl, h, fun k hk => by omega⟩, fun hn => by omega⟩
  ·
   rw [if_neg h]
   refine ⟨fun hn => by omega, fun _ m hm => ?_⟩
   obtain rfl : m = 0 := by omega
   simpa using h
 | n + 1, s => by
  obtain ⟨h1, h2⟩ := farV_spec n s
  simp only [farV]
  by_cases h : 0 ≤ farV ac nx n s
  ·
   rw [if_pos h]
   refine ⟨fun _ => ?_, fun hn => by omega⟩
   obtain ⟨m, hm, e, h3, h4⟩ := h1 h
   exact ⟨m, by omega, e, h3, h4⟩
  ·
   rw [if_neg h]
   have h3 := h2 (by omega)
   by_cases h4 : accW ac nx (n + 1) s = true
   ·
    rw [if_pos h4]
    exact ⟨fun _ => ⟨n + 1, Nat.le_refl _, rfl, h4, fun k hk => h3 k (by omega)⟩, fun hn => by omega⟩
   ·
    rw [if_neg h4]
    refine ⟨fun hn => by omega, fun _ m hm => ?_⟩
    by_cases he : m = n + 1
    ·
     rw [he]; simpa using h4
    ·
     exact h3 m (by omega)
theorem farV_eq {n s m : Nat} (h : farV ac nx n s = (m : Int)) : accW ac nx m s = true ∧ ∀ k, k < m → accW ac nx k s = false := by
 obtain ⟨m', _, e, h3, h4⟩ := (farV_spec (ac := ac) (nx := nx) n s).1 (by omega)
 obtain rfl : m' = m := by omega
 exact ⟨h3, h4⟩
theorem farV_of {n s m : Nat} (hm : m ≤ n) (h : accW ac nx m s = true) (hl : ∀ k, k < m → accW ac nx k s = false) : farV ac nx n s = (m : Int) := by
 rcases Int.lt_or_le (farV ac nx n s) 0 with hn | hn
 ·
  rw [(farV_spec n s).2 hn m hm] at h; cases h
 ·
  obtain ⟨m', _, e, h3, h4⟩ := (farV_spec n s).1 hn
  rcases Nat.lt_trichotomy m m' with hc | hc | hc
  ·
   rw [h4 m hc] at h; cases h
  ·
   rw [e, hc]
  ·
   rw [hl m' hc] at h3; cases h3
theorem Live.least {s : Nat} (h : Live ac nx s) : ∃ m, accW ac nx m s = true ∧ ∀ k, k < m → accW ac nx k s = false := by
 obtain ⟨n, hn⟩ := h
 rcases Int.lt_or_le (farV ac nx n s) 0 with h0 | h0
 ·
  rw [(farV_spec n s).2 h0 n (Nat.le_refl _)] at hn; cases hn
 ·
  obtain ⟨m, _, _, h3, h4⟩ := (farV_spec n s).1 h0
  exact ⟨m, h3, h4⟩
theorem farV_round {n s : Nat} (h : farV ac nx n s < 0) : farV ac nx (n + 1) s = if (nx.getD s []).any (hitR fun z => farV ac nx n z == (n : Int)) then ((n + 1 : Nat) : Int) else -1 := by
 have hlow := (farV_spec n s).2 h
 have he : accW ac nx (n + 1) s = (nx.getD s []).any (hitR fun z => farV ac nx n z == (n : Int)) := by
  rw [Bool.eq_iff_iff, accW_succ]
  simp only [List.any_eq_true, hitR_true, beq_iff_eq]
  constructor
  ·
   rintro ⟨row, hr, z, hz, h0, ha⟩
   refine ⟨row, hr, z, hz, h0, farV_of (Nat.le_refl _) ha fun k hk => ?_⟩
   cases hc : accW ac nx k z.toNat with
   | false => rfl
   | true =>
    have := hlow (k + 1) (by omega)
    rw [accW_succ.2 ⟨row, hr, z, hz, h0, hc⟩] at this
    cases this
  ·
   rintro ⟨row, hr, z, hz, h0, ha⟩
   exact ⟨row, hr, z, hz, h0, (farV_eq ha).1⟩
 simp only [farV]
 rw [if_neg (by omega), he]
theorem farV_stay {n s : Nat} (h : 0 ≤ farV ac nx n s) : farV ac nx (n + 1) s = farV ac nx n s := by simp only [farV]; rw [if_pos h]
theorem farV_mid {n s : Nat} : farV ac nx (n + 1) s = (n : Int) ↔ farV ac nx n s = (n : Int) := by
 by_cases h : 0 ≤ farV ac nx n s
 ·
  rw [farV_stay h]
 ·
  rw [farV_round (by omega)]
  split <;> omega
theorem least_down (h : ∀ s row z, row ∈ nx.getD s [] → z ∈ row → z < ac.length) : ∀ d s, s < ac.length → accW ac nx d s = true → (∀ k, k < d → accW ac nx k s = false) → ∀ k, k ≤ d → ∃ y, y < ac.length ∧ accW ac nx k y = true ∧ ∀ j, j < k → accW ac nx j y = false
 | 0, s, hs, ha, hl, k, hk => by
  obtain rfl : k = 0 := by omega
  exact ⟨s, hs, ha, hl⟩
 | d + 1, s, hs, ha, hl, k, hk => by
  by_cases he : k = d + 1
  ·
   subst he
   exact ⟨s, hs, ha, hl⟩
  ·
   obtain ⟨row, hr, z, hz, h0, hb⟩ := accW_succ.1 ha
   have hlt := h s row z hr hz
   refine least_down h d z.toNat (by omega) hb (fun j hj => ?_) k (by omega)
   cases hc : accW ac nx j z.toNat with
   | false => rfl
   | true =>
    have := hl (j + 1) (by omega)
    rw [accW_succ.2 ⟨row, hr, z, hz, h0, hc⟩] at this
    cases this
theorem pigeon : ∀ (n : Nat) (L : List Nat), L.Nodup → (∀ x ∈ L, x < n) → L.length ≤ n
 | 0, L, _, h => by
  cases L with
  | nil => simp
  | cons x r => have := h x (List.mem_cons_self ..); omega
 | n + 1, L, hd, h => by
  have h1 := pigeon n (L.erase n) (hd.erase n) fun x hx => by
   have h2 := h x (List.mem_of_mem_erase hx)
   have h3 := (List.Nodup.mem_erase_iff hd).1 hx
   omega
  rw [List.length_erase] at h1
  split at h1 <;> omega
theorem least_lt (h : ∀ s row z, row ∈ nx.getD s [] → z ∈ row → z < ac.length) {d s : Nat} (hs : s < ac.length) (ha : accW ac nx d s = true) (hl : ∀ k, k < d → accW ac nx k s = false) : d < ac.length := by
 have hd := least_down h d s hs ha hl
 have hc : ∀ k, ∃ y, k ≤ d → y < ac.length ∧ accW ac nx k y = true ∧ ∀ j, j < k → accW ac nx j y = false := fun k => by
  by_cases hk : k ≤ d
  ·
   obtain ⟨y, hy⟩ := hd k hk
   exact ⟨y, fun _ => hy⟩
  ·
   exact ⟨0, fun h => absurd h hk⟩
 obtain ⟨g, hg⟩ := Classical.axiomOfChoice hc
 have hp := pigeon ac.length ((List.range (d + 1)).map g) ?_ ?_
 ·
  simp at hp; omega
 ·
  rw [List.nodup_iff_pairwise_ne, List.pairwise_map]
  refine List.Pairwise.imp_of_mem ?_ (List.nodup_iff_pairwise_ne.1 List.nodup_range)
  intro i j hi hj hne e
  rw [List.mem_range] at hi hj
  obtain ⟨-, i1, i2⟩ := hg i (by omega)
  obtain ⟨-, j1, j2⟩ := hg j (by omega)
  rw [e] at i1 i2
  rcases Nat.lt_trichotomy i j with hc | hc | hc
  ·
   rw [j2 i hc] at i1; cases i1
  ·
   exact hne hc
  ·
   rw [i2 j hc] at j1; cases j1
 ·
  intro x hx
  obtain ⟨k, hk, rfl⟩ := List.mem_map.1 hx
  rw [List.mem_range] at hk
  exact (hg k (by omega)).1
end
theorem AutOk.targets {t a : Int} {ac : List (List Bool)} {nx : List (List (List Int))} (h : AutOk t a ac nx) : ∀ s row z, row ∈ nx.getD s [] → z ∈ row → z < ac.length := by
 intro s row z hr hz
 rw [List.getD_eq_getElem?_getD] at hr
 cases hs : nx[s]? with
 | none => rw [hs] at hr; simp at hr
 | some nr =>
  rw [hs] at hr
  obtain ⟨j, hj⟩ := List.mem_iff_getElem?.1 (show row ∈ nr from hr)
  obtain ⟨l, hl⟩ := List.mem_iff_getElem?.1 hz
  have := (((h.row hs).2 j row hj).2 l z hl).2
  omega
theorem far_live {t a : Int} {ac : List (List Bool)} {nx : List (List (List Int))} (h : AutOk t a ac nx) {s : Nat} (hs : s < ac.length) : liveB ac nx s = decide (0 ≤ farV ac nx (ac.length - 1) s) := by
 rw [Bool.eq_iff_iff, liveB_true, decide_eq_true_eq]
 constructor
 ·
  intro hl
  obtain ⟨m, h1, h2⟩ := hl.least
  have := least_lt h.targets hs h1 h2
  rw [farV_of (show m ≤ ac.length - 1 by omega) h1 h2]
  omega
 ·
  intro h0
  obtain ⟨m, _, _, h3, _⟩ := (farV_spec (ac.length - 1) s).1 h0
  exact ⟨m, h3⟩
theorem sumI_pos {α : Type} {f : α → Int} : ∀ {xs : List α}, (∀ x ∈ xs, 0 ≤ f x) → (0 < sumI f xs ↔ ∃ x ∈ xs, 0 < f x) ∧ 0 ≤ sumI f xs
 | [], _ => by simp [sumI]
 | x :: r, h => by
  obtain ⟨h1, h2⟩ := sumI_pos (xs := r) fun y hy => h y (List.mem_cons_of_mem _ hy)
  have h3 := h x (List.mem_cons_self ..)
  simp only [sumI]
  refine ⟨?_, by omega⟩
  constructor
  ·
   intro h4
   by_cases h5 : 0 < f x
   ·
    exact ⟨x, List.mem_cons_self .., h5⟩
   ·
    obtain ⟨y, hy, h6⟩ := h1.1 (by omega)
    exact ⟨y, List.mem_cons_of_mem _ hy, h6⟩
  ·
   rintro ⟨y, hy, h6⟩
   rcases List.mem_cons.1 hy with rfl | hy
   ·
    omega
   ·
    have := h1.2 ⟨y, hy, h6⟩; omega
theorem cnt_pos {t a : Int} {ac : List (List Bool)} {nx : List (List (List Int))} (h : AutOk t a ac nx) : ∀ (n s : Nat), s < ac.length → ∃ v, (cntN ac nx n)[s]? = some v ∧ 0 ≤ v ∧ (0 < v ↔ accW ac nx n s = true)
 | 0, s, hs => by
  obtain ⟨ar, har⟩ : ∃ e, ac[s]? = some e := ⟨_, List.getElem?_eq_getElem hs⟩
  refine ⟨cnt0 ar, cntN_zero_at har, ?_⟩
  have := sumI_pos (f := fun b : Bool => if b then (1 : Int) else 0) (xs := ar) (fun x _ => by cases x <;> simp)
  refine ⟨this.2, this.1.trans ?_⟩
  show _ ↔ (ac.getD s []).any id = true
  rw [List.getD_eq_getElem?_getD, har]
  simp only [Option.getD_some, List.any_eq_true, id]
  constructor
  ·
   rintro ⟨x, hx, hp⟩
   cases x
   ·
    simp at hp
   ·
    exact ⟨true, hx, rfl⟩
  ·
   rintro ⟨x, hx, rfl⟩
   exact ⟨true, hx, by simp⟩
 | n + 1, s, hs => by
  obtain ⟨nr, hnr⟩ : ∃ e, nx[s]? = some e := ⟨_, List.getElem?_eq_getElem (by rw [h.len]; exact hs)⟩
  have hstep : ∀ row ∈ nr, ∀ z ∈ row, 0 ≤ stepV (cntN ac nx n) z ∧ (0 < stepV (cntN ac nx n) z ↔ 0 ≤ z ∧ accW ac nx n z.toNat = true) := by
   intro row hr z hz
   have hlt := h.targets s row z (by rw [List.getD_eq_getElem?_getD, hnr]; exact hr) hz
   unfold stepV
   by_cases h0 : 0 ≤ z
   ·
    rw [if_pos h0]
    obtain ⟨v, hv, hv0, hv1⟩ := cnt_pos h n z.toNat (by omega)
    rw [List.getD_eq_getElem?_getD, hv]
    exact ⟨hv0, hv1.trans ⟨fun h => ⟨h0, h⟩, fun h => h.2⟩⟩
   ·
    rw [if_neg h0]
    exact ⟨by omega, by omega⟩
  have hrow : ∀ row ∈ nr, 0 ≤ cntRow (cntN ac nx n) row ∧ (0 < cntRow (cntN ac nx n) row ↔ ∃ z ∈ row, 0 ≤ z ∧ accW ac nx n z.toNat = true) := by
   intro row hr
   have := sumI_pos (f := stepV (cntN ac nx n)) (xs := row) (fun z hz => (hstep row hr z hz).1)
   refine ⟨this.2, this.1.trans ?_⟩
   constructor
   ·
    rintro ⟨z, hz, hp⟩
    exact ⟨z, hz, (hstep row hr z hz).2.1 hp⟩
   ·
    rintro ⟨z, hz, hp⟩
    exact ⟨z, hz, (hstep row hr z hz).2.2 hp⟩
  refine ⟨_, cntN_at hnr, ?_⟩
  have := sumI_pos (f := cntRow (cntN ac nx n)) (xs := nr) (fun row hr => (hrow row hr).1)
  refine ⟨this.2, this.1.trans ?_⟩
  rw [accW_succ, List.getD_eq_getElem?_getD, hnr]
  constructor
  ·
   rintro ⟨row, hr, hp⟩
   exact ⟨row, hr, (hrow row hr).2.1 hp⟩
  ·
   rintro ⟨row, hr, hp⟩
   exact ⟨row, hr, (hrow row hr).2.2 hp⟩
end Go.Proofs.Ytbflhjjnemdecaa

namespace Go.Proofs.Ytbflhjjnemdecaa
set_option linter.unusedVariables false
set_option linter.unusedSimpArgs false
open Go.ChangeShapes Go.WideShapes Go.ChangeAt Go.RowKit Go.Deep
theorem madeCells_one (z : Value) (n : Nat) : (madeCells #[z] n).toList = List.replicate n z := by
 apply List.ext_getElem
 ·
  simp [madeCells]
 ·
  intro i h1 h2
  simp [madeCells, Nat.mod_one]
theorem made_blk {w : World} {base t n g : Nat} {z : Value} {cs : Array Value} (hz : cs = #[z]) (h : w.ownsRow base t 1 (.slice (some ⟨g, 0, none⟩) n n) n (madeCells cs (n * 1)).toList) : Blk w g t (List.replicate n z) ∧ base ≤ g := by
 subst hz
 obtain ⟨h0, h⟩ := h
 rcases h with ⟨h, _⟩ | ⟨g', cap, cur, hv, hb, hg, _, _, hs, ht⟩
 ·
  cases h
 ·
  simp only [Value.slice.injEq, Option.some.injEq, Addr.mk.injEq, and_true, true_and] at hv
  obtain ⟨rfl, rfl⟩ := hv
  rw [madeCells_one, Nat.mul_one, List.take_of_length_le (by simp; omega)] at ht
  refine ⟨?_, hb⟩
  unfold Blk
  rw [hg, ← ht]
section
variable {α : Type} {f : α → Value} {w : World} {g t : Nat} {L : List α}
theorem arr_cell (h : Blk w g t (L.map f)) {i : Nat} {x : α} (hx : L[i]? = some x) : w.cell? ⟨g, i, none⟩ = some (f x) := by rw [h.cell, List.getElem?_map, hx]; rfl
theorem arr_set (h : Blk w g t (L.map f)) (i : Nat) (x : α) : Blk (w.setCell ⟨g, i, none⟩ (f x)) g t ((L.set i x).map f) := by
 rw [List.map_set]
 exact h.set i (f x)
theorem arr_fresh {W : World} {fd : α → D} (h : Blk w g t (L.map f)) (hW : W.heap.size ≤ g) (hf : ∀ x, Ow w (fd x) (f x) []) {n : Nat} (hn : L.length = n) (hm : n ≤ maxLen) : Fresh W w (nestD fd L) (.slice (some ⟨g, 0, none⟩) n n) := by
 subst hn
 have hows : Ows w (L.map fd) (L.map f) [] := by
  clear h hm
  induction L with
  | nil => exact Ows.nil
  | cons x r ih => exact Ows.cons (hf x) ih
 by_cases h0 : L.length = 0
 ·
  exact ⟨[], by simp only [nestD, Ow]; exact ⟨_, _, rfl, Nat.le_refl _, hm, by simp, by simp, Or.inl ⟨h0, trivial⟩⟩, by simp, by simp⟩
 ·
  refine ⟨[g], by simp only [nestD, Ow]; exact ⟨_, _, rfl, Nat.le_refl _, hm, by simp, by simp, Or.inr ⟨g, 0, L.map f, [], rfl, rfl, h.free, h.row (List.take_length ..), hows⟩⟩, by simp, by simp [hW]⟩
end
def FillL {α : Type} (z : α) (full : List α) (k : Nat) (L : List α) : Prop := L.length = full.length ∧ (∀ j, j < k → L[j]? = full[j]?) ∧ ∀ j, k ≤ j → j < full.length → L[j]? = some z
section
variable {α : Type} {z : α} {full L : List α} {k : Nat}
theorem FillL.start {n : Nat} (hn : full.length = n) : FillL z full 0 (List.replicate n z) := by
 subst hn
 exact ⟨by simp, fun j hj => by omega, fun j _ hj => by simp [hj]⟩
theorem FillL.at (h : FillL z full k L) (hk : k < full.length) : L[k]? = some z := h.2.2 k (Nat.le_refl _) hk
theorem FillL.step (h : FillL z full k L) {v : α} (hv : full[k]? = some v) : FillL z full (k + 1) (L.set k v) := by
 obtain ⟨h1, h2, h3⟩ := h
 have hk := (List.getElem?_eq_some_iff.1 hv).1
 refine ⟨by simpa using h1, fun j hj => ?_, fun j hj hl => ?_⟩
 ·
  by_cases hjk : k = j
  ·
   subst hjk
   rw [List.getElem?_set_self (by omega), hv]
  ·
   rw [List.getElem?_set_ne hjk]
   exact h2 j (by omega)
 ·
  rw [List.getElem?_set_ne (by omega)]
  exact h3 j (by omega) hl
theorem FillL.all (h : FillL z full full.length L) : L = full := by
 obtain ⟨h1, h2, h3⟩ := h
 apply List.ext_getElem?
 intro j
 by_cases hj : j < full.length
 ·
  exact h2 j hj
 ·
  rw [List.getElem?_eq_none (by omega), List.getElem?_eq_none (by omega)]
theorem set_zero_same {i : Nat} {x : α} (h : L[i]? = some x) : L.set i x = L := by
 obtain ⟨h1, h2⟩ := List.getElem?_eq_some_iff.1 h
 rw [← h2]
 exact List.set_getElem_self h1
theorem set_twice {i : Nat} {x y : α} : (L.set i x).set i y = L.set i y := List.set_set ..
theorem set_at {i : Nat} {x : α} (h : i < L.length) : (L.set i x)[i]? = some x := by rw [List.getElem?_set_self h]
end
end Go.Proofs.Ytbflhjjnemdecaa

namespace Go.Proofs.Ytbflhjjnemdecaa
set_option linter.unusedVariables false
set_option linter.unusedSimpArgs false
open Go.ChangeShapes Go.WideShapes Go.ChangeAt Go.RowKit Go.Deep
def IdxT (bs : List Bool) (r : Int) : Prop := (r = -1 ∧ ∀ j : Nat, j < bs.length → bs[j]? = some false) ∨ ∃ k : Nat, r = (k : Int) ∧ bs[k]? = some true ∧ ∀ j : Nat, j < k → bs[j]? = some false
theorem IdxT.any {bs : List Bool} {r : Int} (h : IdxT bs r) : decide (0 ≤ r) = bs.any id := by
 rcases h with ⟨rfl, h⟩ | ⟨k, rfl, h1, _⟩
 ·
  have : bs.any id = false := by
   cases hb : bs.any id with
   | false => rfl
   | true =>
    simp only [List.any_eq_true, id] at hb
    obtain ⟨x, hx, rfl⟩ := hb
    obtain ⟨j, hj⟩ := List.mem_iff_getElem?.1 hx
    rw [h j (List.getElem?_eq_some_iff.1 hj).1] at hj
    cases hj
  rw [this]
  decide
 ·
  have : bs.any id = true := by
   simp only [List.any_eq_true, id]
   exact ⟨true, List.mem_of_getElem? h1, rfl⟩
  rw [this]
  simp
def MidL (ac : List (List Bool)) (nx : List (List (List Int))) (m j : Nat) (L : List Int) : Prop := L.length = ac.length ∧ ∀ s, s < ac.length → L[s]? = some (if s < j then farV ac nx (m + 1) s else farV ac nx m s)
def midV (ac : List (List Bool)) (nx : List (List (List Int))) (m j : Nat) (nr : List (List Int)) (l : Nat) : Int :=
 if 0 ≤ farV ac nx m j then farV ac nx m j else if (nr.take l).any (hitR fun z => farV ac nx m z == (m : Int)) then ((m + 1 : Nat) : Int) else -1
section
variable {ac : List (List Bool)} {nx : List (List (List Int))} {m j : Nat} {L : List Int} {nr : List (List Int)}
theorem MidL.zero : MidL ac nx m 0 (farL ac nx m) := ⟨farL_len m, fun s hs => by rw [farL_at hs, if_neg (Nat.not_lt_zero _)]⟩
theorem MidL.all (h : MidL ac nx m ac.length L) : L = farL ac nx (m + 1) := by
 apply List.ext_getElem?
 intro s
 by_cases hs : s < ac.length
 ·
  rw [h.2 s hs, if_pos hs, farL_at hs]
 ·
  rw [List.getElem?_eq_none (by rw [h.1]; omega), List.getElem?_eq_none (by rw [farL_len]; omega)]
theorem MidL.step (h : MidL ac nx m j L) (hj : j < ac.length) : MidL ac nx m (j + 1) (L.set j (farV ac nx (m + 1) j)) := by
 refine ⟨by simpa using h.1, fun s hs => ?_⟩
 by_cases he : j = s
 ·
  subst he
  rw [List.getElem?_set_self (by rw [h.1]; exact hj), if_pos (Nat.lt_succ_self _)]
 ·
  rw [List.getElem?_set_ne he, h.2 s hs]
  by_cases h1 : s < j
  ·
   rw [if_pos h1, if_pos (by omega)]
  ·
   rw [if_neg h1, if_neg (by omega)]
theorem MidL.at (h : MidL ac nx m j L) (hj : j < ac.length) : L[j]? = some (farV ac nx m j) := by
 rw [h.2 j hj, if_neg (Nat.lt_irrefl _)]
theorem midV_zero : midV ac nx m j nr 0 = farV ac nx m j := by
 unfold midV
 by_cases h : 0 ≤ farV ac nx m j
 ·
  rw [if_pos h]
 ·
  rw [if_neg h]
  have := farV_bd (ac := ac) (nx := nx) m j
  simp
  omega
theorem midV_bd (hm : m ≤ 100) (l : Nat) : -1 ≤ midV ac nx m j nr l ∧ midV ac nx m j nr l ≤ 101 := by
 have := farV_bd (ac := ac) (nx := nx) m j
 unfold midV
 split
 ·
  omega
 ·
  split <;> omega
theorem midV_all (hn : nx[j]? = some nr) : midV ac nx m j nr nr.length = farV ac nx (m + 1) j := by
 unfold midV
 by_cases h : 0 ≤ farV ac nx m j
 ·
  rw [if_pos h, farV_stay h]
 ·
  rw [if_neg h, farV_round (by omega), List.take_length, List.getD_eq_getElem?_getD, hn]
  rfl
theorem midV_skip {l : Nat} (h : ¬ midV ac nx m j nr l < 0) : midV ac nx m j nr (l + 1) = midV ac nx m j nr l := by
 unfold midV at h ⊢
 by_cases h0 : 0 ≤ farV ac nx m j
 ·
  rw [if_pos h0, if_pos h0]
 ·
  rw [if_neg h0] at h ⊢
  rw [if_neg h0]
  by_cases hh : (nr.take l).any (hitR fun z => farV ac nx m z == (m : Int)) = true
  ·
   have : (nr.take (l + 1)).any (hitR fun z => farV ac nx m z == (m : Int)) = true := by
    rw [List.any_eq_true] at hh ⊢
    obtain ⟨x, hx, h1⟩ := hh
    exact ⟨x, (List.take_subset_take_left nr (Nat.le_succ l)) hx, h1⟩
   rw [if_pos hh, if_pos this]
  ·
   rw [if_neg hh] at h
   omega
theorem midV_step {l : Nat} {row : List Int} (h : midV ac nx m j nr l < 0) (hr : nr[l]? = some row) : midV ac nx m j nr (l + 1) = if hitR (fun z => farV ac nx m z == (m : Int)) row then ((m + 1 : Nat) : Int) else midV ac nx m j nr l := by
 obtain ⟨hl, rfl⟩ := List.getElem?_eq_some_iff.1 hr
 unfold midV at h ⊢
 by_cases h0 : 0 ≤ farV ac nx m j
 ·
  rw [if_pos h0] at h; omega
 ·
  rw [if_neg h0] at h ⊢
  rw [if_neg h0]
  by_cases hh : (nr.take l).any (hitR fun z => farV ac nx m z == (m : Int)) = true
  ·
   rw [if_pos hh] at h; omega
  ·
   rw [if_neg hh, List.take_succ_eq_append_getElem hl, List.any_append]
   simp only [Bool.not_eq_true] at hh
   rw [hh]
   simp
theorem MidL.hit (h : MidL ac nx m j L) (hj : j < ac.length) {l : Nat} (hv : midV ac nx m j nr l < 0) {row : List Int} (hz : ∀ z ∈ row, z < ac.length) :
  hitR (fun z => (L.set j (midV ac nx m j nr l)).getD z 0 == (m : Int)) row = hitR (fun z => farV ac nx m z == (m : Int)) row := by
 have hfar : farV ac nx m j < 0 := by
  unfold midV at hv
  by_cases h0 : 0 ≤ farV ac nx m j
  ·
   rw [if_pos h0] at hv; omega
  ·
   omega
 rw [Bool.eq_iff_iff, hitR_true, hitR_true]
 have key : ∀ z : Nat, z < ac.length → ((L.set j (midV ac nx m j nr l)).getD z 0 = (m : Int) ↔ farV ac nx m z = (m : Int)) := by
  intro z hzl
  rw [List.getD_eq_getElem?_getD]
  by_cases he : j = z
  ·
   subst he
   rw [List.getElem?_set_self (by rw [h.1]; exact hj)]
   simp only [Option.getD_some]
   omega
  ·
   rw [List.getElem?_set_ne he, h.2 z hzl]
   simp only [Option.getD_some]
   by_cases h1 : z < j
   ·
    rw [if_pos h1]; exact farV_mid
   ·
    rw [if_neg h1]
 constructor
 ·
  rintro ⟨z, hm, h0, h1⟩
  refine ⟨z, hm, h0, ?_⟩
  rw [beq_iff_eq] at h1 ⊢
  exact (key z.toNat (by have := hz z hm; omega)).1 h1
 ·
  rintro ⟨z, hm, h0, h1⟩
  refine ⟨z, hm, h0, ?_⟩
  rw [beq_iff_eq] at h1 ⊢
  exact (key z.toNat (by have := hz z hm; omega)).2 h1
end
theorem farV_zero {ac : List (List Bool)} {nx : List (List (List Int))} {s : Nat} {ar : List Bool} (h : ac[s]? = some ar) : farV ac nx 0 s = if ar.any id then 0 else -1 := by
 have e : accW ac nx 0 s = ar.any id := by
  show (ac.getD s []).any id = _
  rw [List.getD_eq_getElem?_getD, h]
  rfl
 simp only [farV]
 rw [e]
theorem hitR_none {P : Nat → Bool} {row : List Int} {k : Nat} {z : Int} (h : hitR P (row.take k) = false) (hz : row[k]? = some z) (hp : (decide (0 ≤ z) && P z.toNat) = false) : hitR P (row.take (k + 1)) = false := by
 obtain ⟨hk, rfl⟩ := List.getElem?_eq_some_iff.1 hz
 unfold hitR at h ⊢
 rw [List.take_succ_eq_append_getElem hk, List.any_append, h]
 simpa using hp
theorem hitR_found {P : Nat → Bool} {row : List Int} {k : Nat} {z : Int} (hz : row[k]? = some z) (hp : (decide (0 ≤ z) && P z.toNat) = true) : hitR P row = true := by
 rw [hitR_true]
 rw [Bool.and_eq_true, decide_eq_true_eq] at hp
 exact ⟨z, List.mem_of_getElem? hz, hp.1, hp.2⟩
end Go.Proofs.Ytbflhjjnemdecaa

namespace Go.Proofs.Ytbflhjjnemdecaa
set_option linter.unusedVariables false
set_option linter.unusedSimpArgs false
open Go.ChangeShapes Go.WideShapes Go.ChangeAt Go.RowKit Go.Deep
theorem box4 (w : World) (t : TypeId) (a b c d : Value) : ∃ w', w.alloc (.cells #[a, b, c, d] t) = w' ∧ Blk w' w.heap.size t [a, b, c, d] ∧ Below w.heap.size w w' ∧ w'.heap.size = w.heap.size + 1 :=
 ⟨_, rfl, Blk.new4 w t a b c d, Below.alloc (Below.refl _ _) (Nat.le_refl _) _, by simp⟩
theorem Blk.all4 {w : World} {g t : Nat} {a b c d : Value} (h : Blk w g t [a, b, c, d]) : w.cell? ⟨g, 0, none⟩ = some a ∧ w.cell? ⟨g, 1, none⟩ = some b ∧ w.cell? ⟨g, 2, none⟩ = some c ∧ w.cell? ⟨g, 3, none⟩ = some d ∧
  w.frozen? ⟨g, 0, none⟩ = false ∧ w.frozen? ⟨g, 1, none⟩ = false ∧ w.frozen? ⟨g, 2, none⟩ = false ∧ w.frozen? ⟨g, 3, none⟩ = false ∧ g < w.heap.size :=
 ⟨h.c0, h.c1, h.c2, h.c3, h.frozen 0, h.frozen 1, h.frozen 2, h.frozen 3, h.lt⟩
theorem set4 {w : World} {g t : Nat} {a b c d : Value} (h : Blk w g t [a, b, c, d]) (x y z u : Value) : ∃ w', (((w.setCell ⟨g, 0, none⟩ x).setCell ⟨g, 1, none⟩ y).setCell ⟨g, 2, none⟩ z).setCell ⟨g, 3, none⟩ u = w' ∧ Blk w' g t [x, y, z, u] ∧ Spares (fun i => i = g) w w' :=
 ⟨_, rfl, (((h.set 0 x).set 1 y).set 2 z).set 3 u, Spares.set (Spares.set (Spares.set (Spares.set (Spares.refl w))))⟩
end Go.Proofs.Ytbflhjjnemdecaa

namespace Go.Proofs.Ytbflhjjnemdecaa
set_option linter.unusedVariables false
set_option linter.unusedSimpArgs false
open Go.ChangeShapes Go.WideShapes Go.ChangeAt Go.RowKit Go.Deep
theorem info_bl : (Try.prog.info? 4).map (fun i => (i.zero, i.size, i.bytes)) = some (some (.bool false), 1, 1) := by kernel_rfl
theorem info_bls : (Try.prog.info? 114).map (fun i => (i.zero, i.size, i.bytes)) = some (some (.slice none 0 0), 1, 24) := by kernel_rfl
end Go.Proofs.Ytbflhjjnemdecaa

namespace Go.Proofs.Ytbflhjjnemdecaa
set_option linter.unusedVariables false
set_option linter.unusedSimpArgs false
open Go.ChangeShapes Go.WideShapes Go.ChangeAt Go.RowKit Go.Sort
theorem AutAt.box {t a : Int} {ac : List (List Bool)} {nx : List (List (List Int))} {s u : Option Addr} {c d : Nat} {w : World} (hr : Rd w (bbD ac) (.slice s ac.length c)) (hq : Rd w (iiiD nx) (.slice u nx.length d)) (T : TypeId) :
  AutAt (w.alloc (.cells #[.int .i64 t, .int .i64 a, .slice s ac.length c, .slice u nx.length d] T)) w.heap.size 0 t a ac nx s u c d := by
 have L := Blk.new4 w T (.int .i64 t) (.int .i64 a) (.slice s ac.length c) (.slice u nx.length d)
 exact ⟨L.c0, L.c1, L.c2, L.c3, hr.alloc _, hq.alloc _⟩
set_option maxRecDepth 100000 in
set_option maxHeartbeats 16000000 in
theorem implValidAutomaton_i {t a : Int} {ac : List (List Bool)} {nx : List (List (List Int))} {s u : Option Addr} {c d : Nat} {w : World} (hr : Rd w (bbD ac) (.slice s ac.length c)) (hq : Rd w (iiiD nx) (.slice u nx.length d)) :
  Calls Try.prog 67 #[.agg #[.int .i64 t, .int .i64 a, .slice s ac.length c, .slice u nx.length d]] w fun e w' => e = .returned (.bool (autB t a ac nx)) ∧ Below w.heap.size w w' := by
 obtain ⟨hlen, hcap⟩ := nest_bd hr
 obtain ⟨hlen', hcap'⟩ := nest_bd hq
 unfold maxLen at hcap hcap'
 go_enter Try.func67, Try.ntmps67
 go_wp2_with fail
 have h := AutAt.box (t := t) (a := a) hr hq 51
 have hB0 : Below w.heap.size w (w.alloc (.cells #[.int .i64 t, .int .i64 a, .slice s ac.length c, .slice u nx.length d] 51)) := by (repeat' first | exact Below.refl _ _ | assumption | apply Below.alloc | apply Below.drew | apply Below.setCell | omega | (simp; done) | (simp; omega))
 have hz : w.heap.size ≤ (w.alloc (.cells #[.int .i64 t, .int .i64 a, .slice s ac.length c, .slice u nx.length d] 51)).heap.size := by simp
 generalize w.alloc (.cells #[.int .i64 t, .int .i64 a, .slice s ac.length c, .slice u nx.length d] 51) = w0 at h hB0 hz ⊢
 have g4 := h.2.2.2.2.1
 have g5 := h.2.2.2.2.2
 have hbl := h.lt
 have Hh := Lib.hid h
 have HB0 := Lib.hid hB0
 have HZ := Lib.hid hz
 clear hr hq hB0 hz h
 refine (implValidSig_any t a _).mono ?_
 rintro e w1 ⟨rfl, hB⟩
 have hBw := Lib.hid (HB0.out.trans (hB.mono HZ.out))
 have HB := Lib.hid hB
 clear hB
 cases hs : sigB t a
 ·
  have C1 := Lib.hid (show autB t a ac nx = false from autB_no fun q => by rw [q.sig] at hs; cases hs)
  clear hs
  obtain ⟨c0, c1', c2', c3', -, -⟩ := Hh.out.below HB.out
  simp only [Nat.zero_add] at c1' c2' c3'
  go_wp2_with fail
  go_ret
  exact ⟨ret_bool (by rw [C1.out]), hBw.out⟩
 have Hs := Lib.hid hs
 clear hs
 by_cases hn1 : 1 ≤ ac.length
 rotate_left
 ·
  have C1 := Lib.hid (show autB t a ac nx = false from autB_no fun q => hn1 q.lo)
  obtain ⟨c0, c1', c2', c3', -, -⟩ := Hh.out.below HB.out
  simp only [Nat.zero_add] at c1' c2' c3'
  go_wp2_with fail
  go_ret
  exact ⟨ret_bool (by rw [C1.out]), hBw.out⟩
 by_cases hn2 : ac.length ≤ 60
 rotate_left
 ·
  have C1 := Lib.hid (show autB t a ac nx = false from autB_no fun q => hn2 q.hi)
  obtain ⟨c0, c1', c2', c3', -, -⟩ := Hh.out.below HB.out
  simp only [Nat.zero_add] at c1' c2' c3'
  go_wp2_with fail
  go_ret
  exact ⟨ret_bool (by rw [C1.out]), hBw.out⟩
 by_cases hl : nx.length = ac.length
 rotate_left
 ·
  have C1 := Lib.hid (show autB t a ac nx = false from autB_no fun q => hl q.len)
  have c2 : ((nx.length : Int) != (ac.length : Int)) = true := by simp; omega
  clear hl
  obtain ⟨c0, c1', c2', c3', -, -⟩ := Hh.out.below HB.out
  simp only [Nat.zero_add] at c1' c2' c3'
  go_wp2_with fail
  go_ret
  exact ⟨ret_bool (by rw [C1.out]), hBw.out⟩
 have c2 : ((nx.length : Int) != (ac.length : Int)) = false := by simp [hl]
 have Hl := Lib.hid hl
 have hl1 : nx.length ≤ ac.length := by omega
 have hl2 : ac.length ≤ nx.length := by omega
 clear hl
 obtain ⟨ht0, ht1, ha0, ha1⟩ := sigB_bd Hs.out
 have hat := atomsN_bd t
 obtain ⟨sb, so, rfl⟩ := nest_some (f := boolsD) g4 (by omega)
 obtain ⟨ub, uo, rfl⟩ := nest_some (f := iiD) g5 (by omega)
 obtain ⟨c0, c1', c2', c3', -, -⟩ := Hh.out.below HB.out
 simp only [Nat.zero_add] at c1' c2' c3'
 go_wp2_with fail
 clear c2 c0 c1' c2' c3'
 go_loopw [32] (fun i wr => ∃ k : Nat, k ≤ ac.length ∧ i = .int .i64 k ∧ StsOk t a ac nx k ∧ Below w0.heap.size w0 wr) (fun i _ => ac.length - (intOf i).toNat)
 case atStart => exact ⟨0, by omega, rfl, StsOk.zero, HB.out⟩
 case round =>
  clear HB hBw
  obtain ⟨k, hk, rfl, hst, hB⟩ := hrel
  have szB := hB.size
  have Hst := Lib.hid hst
  have HB := Lib.hid hB
  clear hst hB
  by_cases hlt : k < ac.length
  rotate_left
  ·
   have C1 := Lib.hid (show autB t a ac nx = true from autB_yes ⟨Hs.out, hn1, hn2, Hl.out, fun i ar nr h1 h2 => Hst.out i ar nr (by have := (List.getElem?_eq_some_iff.1 h1).1; omega) h1 h2⟩)
   have hBw := Lib.hid (HB0.out.trans (HB.out.mono HZ.out))
   go_wp2_with fail
   go_ret
   exact ⟨ret_bool (by rw [C1.out]), hBw.out⟩
  obtain ⟨ar, har⟩ : ∃ e, ac[k]? = some e := ⟨_, List.getElem?_eq_getElem hlt⟩
  obtain ⟨nr, hnr⟩ : ∃ e, nx[k]? = some e := ⟨_, List.getElem?_eq_getElem (by omega)⟩
  obtain ⟨hsl, sa, ca, a0, ra⟩ := nest_sl (g := D.bool) g4 har
  obtain ⟨hul, sn, cn, b0, rb⟩ := nest_sl (g := intsD) g5 hnr
  obtain ⟨ra1, ra2⟩ := nest_bd ra
  obtain ⟨rb1, rb2⟩ := nest_bd rb
  unfold maxLen at ra2 rb2
  have A0 := Lib.hid a0
  have B0 := Lib.hid b0
  have Har := Lib.hid har
  have Hnr := Lib.hid hnr
  have hkz := Int.natCast_nonneg k
  have hkb : (k : Int) < (ac.length : Int) := by omega
  have hkc : (k : Int) < (nx.length : Int) := by omega
  clear a0 b0 har hnr
  by_cases hA : (ar.length : Int) = atomsN t
  rotate_left
  ·
   have C1 := Lib.hid (show autB t a ac nx = false from autB_no fun q => hA (q.st k ar nr Har.out Hnr.out).1)
   have bA : ((ar.length : Int) != atomsN t) = true := by simp [hA]
   clear hA
   obtain ⟨c0, c1', c2', c3', -, -⟩ := Hh.out.below HB.out
   simp only [Nat.zero_add] at c1' c2' c3'
   have a0 := (HB.out.cell (p := ⟨sb, so + k, none⟩) hsl).trans A0.out
   have b0 := (HB.out.cell (p := ⟨ub, uo + k, none⟩) hul).trans B0.out
   have gc0 := fun d os => cell_regrown c0 d os
   have gc1 := fun d os => cell_regrown c1' d os
   have gc2 := fun d os => cell_regrown c2' d os
   have gc3 := fun d os => cell_regrown c3' d os
   have ga0 := fun d os => cell_regrown a0 d os
   have gb0 := fun d os => cell_regrown b0 d os
   go_wp2_with fail
   refine Go.wp_region_quiet_below (by kernel_rfl) (by kernel_rfl) ?_
   repeat (first | go_big_quiet_step ((exact Calls.regrown_of (atomsIn_i ht0 ht1))) | quiet_step ((exact Calls.regrown_of (atomsIn_i ht0 ht1))))
   refine wpQuiet_nil ?_; intro _ hw'; obtain ⟨⟨dq, osq⟩, hw''⟩ := hw'; subst hw''; have hq := below_regrown wr dq osq; revert hq; generalize grow (redrawn wr dq) osq = w2; intro hq
   have HB2 := Lib.hid (show Below w0.heap.size w0 w2 from Below.on HB.out hq HB.out.size)
   have hBw := Lib.hid (HB0.out.trans (HB2.out.mono HZ.out))
   clear hq c0 c1' c2' c3' a0 b0 gc0 gc1 gc2 gc3 ga0 gb0
   go_wp2_with fail
   go_ret
   exact ⟨ret_bool (by rw [C1.out]), hBw.out⟩
  have bA : ((ar.length : Int) != atomsN t) = false := by simp [hA]
  have HA := Lib.hid hA
  clear hA
  by_cases hN : (nr.length : Int) = atomsN t
  rotate_left
  ·
   have C1 := Lib.hid (show autB t a ac nx = false from autB_no fun q => hN (q.st k ar nr Har.out Hnr.out).2.1)
   have bN : ((nr.length : Int) != atomsN t) = true := by simp [hN]
   clear hN
   obtain ⟨c0, c1', c2', c3', -, -⟩ := Hh.out.below HB.out
   simp only [Nat.zero_add] at c1' c2' c3'
   have a0 := (HB.out.cell (p := ⟨sb, so + k, none⟩) hsl).trans A0.out
   have b0 := (HB.out.cell (p := ⟨ub, uo + k, none⟩) hul).trans B0.out
   have gc0 := fun d os => cell_regrown c0 d os
   have gc1 := fun d os => cell_regrown c1' d os
   have gc2 := fun d os => cell_regrown c2' d os
   have gc3 := fun d os => cell_regrown c3' d os
   have ga0 := fun d os => cell_regrown a0 d os
   have gb0 := fun d os => cell_regrown b0 d os
   go_wp2_with fail
   refine Go.wp_region_quiet_below (by kernel_rfl) (by kernel_rfl) ?_
   repeat (first | go_big_quiet_step ((exact Calls.regrown_of (atomsIn_i ht0 ht1))) | quiet_step ((exact Calls.regrown_of (atomsIn_i ht0 ht1))))
   refine wpQuiet_nil ?_; intro _ hw'; obtain ⟨⟨dq, osq⟩, hw''⟩ := hw'; subst hw''; have hq := below_regrown wr dq osq; revert hq; generalize grow (redrawn wr dq) osq = w2; intro hq
   have HB2 := Lib.hid (show Below w0.heap.size w0 w2 from Below.on HB.out hq HB.out.size)
   have hBw := Lib.hid (HB0.out.trans (HB2.out.mono HZ.out))
   clear hq c0 c1' c2' c3' a0 b0 gc0 gc1 gc2 gc3 ga0 gb0
   go_wp2_with fail
   go_ret
   exact ⟨ret_bool (by rw [C1.out]), hBw.out⟩
  have bN : ((nr.length : Int) != atomsN t) = false := by simp [hN]
  have HN := Lib.hid hN
  clear hN
  obtain ⟨c0, c1', c2', c3', -, -⟩ := Hh.out.below HB.out
  simp only [Nat.zero_add] at c1' c2' c3'
  have a0 := (HB.out.cell (p := ⟨sb, so + k, none⟩) hsl).trans A0.out
  have b0 := (HB.out.cell (p := ⟨ub, uo + k, none⟩) hul).trans B0.out
  have gc0 := fun d os => cell_regrown c0 d os
  have gc1 := fun d os => cell_regrown c1' d os
  have gc2 := fun d os => cell_regrown c2' d os
  have gc3 := fun d os => cell_regrown c3' d os
  have ga0 := fun d os => cell_regrown a0 d os
  have gb0 := fun d os => cell_regrown b0 d os
  go_wp2_with fail
  refine Go.wp_region_quiet_below (by kernel_rfl) (by kernel_rfl) ?_
  repeat (first | go_big_quiet_step ((exact Calls.regrown_of (atomsIn_i ht0 ht1))) | quiet_step ((exact Calls.regrown_of (atomsIn_i ht0 ht1))))
  refine wpQuiet_nil ?_; intro _ hw'; obtain ⟨⟨dq, osq⟩, hw''⟩ := hw'; subst hw''; have hq := below_regrown wr dq osq; revert hq; generalize grow (redrawn wr dq) osq = w2; intro hq
  have HB2 := Lib.hid (show Below w0.heap.size w0 w2 from Below.on HB.out hq HB.out.size)
  have hBw := Lib.hid (HB0.out.trans (HB2.out.mono HZ.out))
  clear hq c0 c1' c2' c3' a0 b0 gc0 gc1 gc2 gc3 ga0 gb0
  clear bA bN HB hBw
  have HB := HB2
  clear HB2
  have hnp : 0 < nr.length := by have := HN.out; omega
  obtain ⟨vb, vo, rfl⟩ := nest_some (f := intsD) rb hnp
  have q1 : IntKind.i64.wrap ((ac.length : Int) - 1) = ac.length - 1 := wrap_of (by omega) (by omega)
  obtain ⟨c0, c1', c2', c3', -, -⟩ := Hh.out.below HB.out
  simp only [Nat.zero_add] at c1' c2' c3'
  have b0 := (HB.out.cell (p := ⟨ub, uo + k, none⟩) hul).trans B0.out
  go_wp2_with fail
  clear c0 c1' c2' c3' b0
  go_loopw [63] (fun i wr => ∃ j : Nat, j ≤ nr.length ∧ i = .int .i64 j ∧ RowsOk a ac.length nr j ∧ Below w0.heap.size w0 wr) (fun i _ => nr.length - (intOf i).toNat)
  case atStart => exact ⟨0, by omega, rfl, RowsOk.zero, HB.out⟩
  case round =>
   clear HB
   obtain ⟨j, hj, rfl, hro, hB⟩ := hrel
   have szB := hB.size
   have Hro := Lib.hid hro
   have HB := Lib.hid hB
   clear hro hB
   by_cases hjl : j < nr.length
   rotate_left
   ·
    have Hs' := Lib.hid (Hst.out.succ Har.out Hnr.out ⟨HA.out, HN.out, fun i row h => Hro.out i row (by have := (List.getElem?_eq_some_iff.1 h).1; omega) h⟩)
    go_wp2_with fail
    go_roundw
    case rel => exact ⟨k + 1, by omega, by go_num, Hs'.out, HB.out⟩
    case measure => simp [intOf]; omega
   obtain ⟨row, hrow⟩ : ∃ e, nr[j]? = some e := ⟨_, List.getElem?_eq_getElem hjl⟩
   obtain ⟨hvl, sr, cr, r0, rr⟩ := nest_sl (g := D.int) rb hrow
   obtain ⟨rr1, rr2⟩ := nest_bd rr
   unfold maxLen at rr2
   replace r0 := (HB.out.cell (p := ⟨vb, vo + j, none⟩) hvl).trans r0
   have Hrow := Lib.hid hrow
   have hjz := Int.natCast_nonneg j
   have hjb : (j : Int) < (nr.length : Int) := by omega
   clear hrow
   by_cases hA2 : (row.length : Int) = a
   rotate_left
   ·
    have C1 := Lib.hid (show autB t a ac nx = false from autB_no fun q => hA2 ((q.st k ar nr Har.out Hnr.out).2.2 j row Hrow.out).1)
    have bA : ((row.length : Int) != a) = true := by simp [hA2]
    have hBw := Lib.hid (HB0.out.trans (HB.out.mono HZ.out))
    clear hA2
    obtain ⟨c0, c1', c2', c3', -, -⟩ := Hh.out.below HB.out
    simp only [Nat.zero_add] at c1' c2' c3'
    go_wp2_with fail
    go_ret
    exact ⟨ret_bool (by rw [C1.out]), hBw.out⟩
   have bA : ((row.length : Int) != a) = false := by simp [hA2]
   have HA2 := Lib.hid hA2
   clear hA2
   obtain ⟨c0, c1', c2', c3', -, -⟩ := Hh.out.below HB.out
   simp only [Nat.zero_add] at c1' c2' c3'
   go_wp2_with fail
   clear bA r0 c0 c1' c2' c3'
   go_loopw [75] (fun i wr => ∃ l : Nat, l ≤ row.length ∧ i = .int .i64 l ∧ CellsOk ac.length row l ∧ Below w0.heap.size w0 wr) (fun i _ => row.length - (intOf i).toNat)
   case atStart => exact ⟨0, by omega, rfl, CellsOk.zero, HB.out⟩
   case round =>
    clear HB
    obtain ⟨l, hl, rfl, hce, hB⟩ := hrel
    have szB := hB.size
    have Hce := Lib.hid hce
    have HB := Lib.hid hB
    clear hce hB
    have hlz := Int.natCast_nonneg l
    by_cases hll : l < row.length
    rotate_left
    ·
     have Hs' := Lib.hid (Hro.out.succ Hrow.out ⟨HA2.out, fun i z h => Hce.out i z (by have := (List.getElem?_eq_some_iff.1 h).1; omega) h⟩)
     go_wp2_with fail
     go_roundw
     case rel => exact ⟨j + 1, by omega, by go_num, Hs'.out, HB.out⟩
     case measure => simp [intOf]; omega
    have hlb : (l : Int) < (row.length : Int) := by omega
    obtain ⟨z, hz⟩ : ∃ e, row[l]? = some e := ⟨_, List.getElem?_eq_getElem hll⟩
    obtain ⟨tb, to', rfl⟩ := nest_some (f := D.int) rr (by omega)
    obtain ⟨-, z0⟩ := int_in (rr.below HB.out) hz
    have Hz := Lib.hid hz
    clear hz
    go_wp2_with fail
    refine (within_any _ _ _ _).mono ?_
    rintro e w' ⟨rfl, rfl⟩
    cases hin : inB z (-1) (ac.length - 1)
    ·
     have C1 := Lib.hid (show autB t a ac nx = false from autB_no fun q => by
      have h1 := ((q.st k ar nr Har.out Hnr.out).2.2 j row Hrow.out).2 l z Hz.out
      have h2 : inB z (-1) (ac.length - 1) = true := by simp only [inB, Bool.and_eq_true, decide_eq_true_eq]; exact h1
      rw [h2] at hin
      cases hin)
     have hBw := Lib.hid (HB0.out.trans (HB.out.mono HZ.out))
     clear hin
     go_wp2_with fail
     go_ret
     exact ⟨ret_bool (by rw [C1.out]), hBw.out⟩
    ·
     have Hs' := Lib.hid (Hce.out.succ Hz.out hin)
     clear hin
     go_wp2_with fail
     go_roundw
     case rel => exact ⟨l + 1, by omega, by go_num, Hs'.out, HB.out⟩
     case measure => simp [intOf]; omega
end Go.Proofs.Ytbflhjjnemdecaa
