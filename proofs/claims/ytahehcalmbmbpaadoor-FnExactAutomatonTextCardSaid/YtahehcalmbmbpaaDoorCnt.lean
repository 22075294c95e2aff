/-
  Numbers of accepted words, with no program in sight.
-/
import Derived.Test.YtahehcalmbmbpaaDoorValid
namespace Go.Proofs.YtahehcalmbmbpaaDoor
open Go.ChangeShapes Go.WideShapes Go.ChangeAt Go.RowKit

/-- A sum over a list. -/
def sumI {α : Type} (f : α → Int) : List α → Int
  | [] => 0
  | x :: r => f x + sumI f r
section
variable {α : Type} {f : α → Int}
theorem sumI_append : ∀ a b : List α, sumI f (a ++ b) = sumI f a + sumI f b
  | [], b => by simp [sumI]
  | x :: a, b => by simp only [List.cons_append, sumI, sumI_append a b]; omega
theorem sumI_take_succ {xs : List α} {i : Nat} {x : α} (h : xs[i]? = some x) : sumI f (xs.take (i + 1)) = sumI f (xs.take i) + f x := by
  obtain ⟨hi, rfl⟩ := List.getElem?_eq_some_iff.1 h
  rw [List.take_succ_eq_append_getElem hi, sumI_append]
  simp [sumI]
theorem sumI_bd {B : Int} : ∀ {xs : List α}, (∀ x ∈ xs, 0 ≤ f x ∧ f x ≤ B) → 0 ≤ sumI f xs ∧ sumI f xs ≤ xs.length * B
  | [], _ => by simp [sumI]
  | x :: r, h => by
    obtain ⟨h1, h2⟩ := h x (List.mem_cons_self ..)
    obtain ⟨h3, h4⟩ := sumI_bd (xs := r) fun y hy => h y (List.mem_cons_of_mem _ hy)
    simp only [sumI, List.length_cons]
    refine ⟨by omega, ?_⟩
    have : ((r.length + 1 : Nat) : Int) * B = r.length * B + B := by
      rw [Int.natCast_add, Int.add_mul]; simp
    omega
theorem sumI_bd_le {B M : Int} {n : Nat} {xs : List α} (h : ∀ x ∈ xs, 0 ≤ f x ∧ f x ≤ B) (hn : xs.length ≤ n) (hB : 0 ≤ B) (hM : n * B ≤ M) : 0 ≤ sumI f xs ∧ sumI f xs ≤ M := by
  obtain ⟨h1, h2⟩ := sumI_bd h
  have : (xs.length : Int) * B ≤ n * B := Int.mul_le_mul_of_nonneg_right (by omega) hB
  omega
end

/-- How many atoms a state accepts. -/
def cnt0 (ar : List Bool) : Int := sumI (fun b => if b then 1 else 0) ar
/-- What a step to a state adds. -/
def stepV (c : List Int) (z : Int) : Int := if 0 ≤ z then c.getD z.toNat 0 else 0
def cntRow (c : List Int) (row : List Int) : Int := sumI (stepV c) row
def cntRows (c : List Int) (nr : List (List Int)) : Int := sumI (cntRow c) nr
/-- For each state the number of accepted words of a length. -/
def cntN (ac : List (List Bool)) (nx : List (List (List Int))) : Nat → List Int
  | 0 => ac.map cnt0
  | n + 1 => nx.map (cntRows (cntN ac nx n))

theorem cntN_length {t a : Int} {ac : List (List Bool)} {nx : List (List (List Int))} (h : AutOk t a ac nx) : ∀ n, (cntN ac nx n).length = ac.length
  | 0 => by simp [cntN]
  | n + 1 => by simp [cntN, h.len]

/-- A bound for the numbers of a length. -/
def cntB (n : Nat) : Int := 8 * 32 ^ n
theorem cntB_succ (n : Nat) : cntB (n + 1) = 32 * cntB n := by unfold cntB; rw [Int.pow_succ]; omega
theorem cntB_nonneg : ∀ n, 0 ≤ cntB n
  | 0 => by decide
  | n + 1 => by rw [cntB_succ]; have := cntB_nonneg n; omega
theorem cntB_mono {n m : Nat} (h : n ≤ m) : cntB n ≤ cntB m := by
  induction h with
  | refl => exact Int.le_refl _
  | step _ ih => rw [cntB_succ]; have := cntB_nonneg n; rename_i m _; have := cntB_nonneg m; omega
theorem cntB_ten {n : Nat} (h : n ≤ 10) : cntB n ≤ 10000000000000000 := Int.le_trans (cntB_mono h) (by decide)

theorem AutOk.dims {t a : Int} {ac : List (List Bool)} {nx : List (List (List Int))} (h : AutOk t a ac nx) : 1 ≤ atomsN t ∧ atomsN t ≤ 8 ∧ 0 ≤ a ∧ a ≤ 4 := by
  obtain ⟨h0, h1, h2, h3⟩ := sigB_bd h.sig
  have := atomsN_bd t
  exact ⟨this.1, this.2, h2, h3⟩
theorem AutOk.row {t a : Int} {ac : List (List Bool)} {nx : List (List (List Int))} (h : AutOk t a ac nx) {i : Nat} {nr : List (List Int)} (h1 : nx[i]? = some nr) :
    (nr.length : Int) = atomsN t ∧ ∀ (j : Nat) (row : List Int), nr[j]? = some row → RowOk a ac.length row := by
  obtain ⟨ar, har⟩ : ∃ e, ac[i]? = some e := ⟨_, List.getElem?_eq_getElem (by have := (List.getElem?_eq_some_iff.1 h1).1; rw [h.len] at this; exact this)⟩
  obtain ⟨_, h2, h3⟩ := h.st i ar nr har h1
  exact ⟨h2, h3⟩
theorem AutOk.acc_row {t a : Int} {ac : List (List Bool)} {nx : List (List (List Int))} (h : AutOk t a ac nx) {i : Nat} {ar : List Bool} (h1 : ac[i]? = some ar) : (ar.length : Int) = atomsN t := by
  obtain ⟨nr, hnr⟩ : ∃ e, nx[i]? = some e := ⟨_, List.getElem?_eq_getElem (by have := (List.getElem?_eq_some_iff.1 h1).1; rw [h.len]; exact this)⟩
  exact (h.st i ar nr h1 hnr).1

theorem cnt0_bd {t a : Int} {ac : List (List Bool)} {nx : List (List (List Int))} (h : AutOk t a ac nx) {i : Nat} {ar : List Bool} (h1 : ac[i]? = some ar) (k : Nat) : 0 ≤ cnt0 (ar.take k) ∧ cnt0 (ar.take k) ≤ 8 := by
  have h2 := h.acc_row h1
  have h3 := h.dims
  refine sumI_bd_le (B := 1) (n := 8) (fun x _ => ?_) (by simp; omega) (by omega) (by omega)
  cases x <;> simp
theorem stepV_bd {c : List Int} {B : Int} (hB : 0 ≤ B) (hc : ∀ (i : Nat) (z : Int), c[i]? = some z → 0 ≤ z ∧ z ≤ B) (z : Int) : 0 ≤ stepV c z ∧ stepV c z ≤ B := by
  unfold stepV
  split
  · rw [List.getD_eq_getElem?_getD]
    cases h : c[z.toNat]? with
    | none => simp; exact hB
    | some v => simpa using hc _ v h
  · omega
theorem cntRow_bd {t a : Int} {ac : List (List Bool)} {nx : List (List (List Int))} (h : AutOk t a ac nx) {c : List Int} {B : Int} (hB : 0 ≤ B) (hc : ∀ (i : Nat) (z : Int), c[i]? = some z → 0 ≤ z ∧ z ≤ B)
    {row : List Int} (hr : RowOk a ac.length row) (k : Nat) : 0 ≤ cntRow c (row.take k) ∧ cntRow c (row.take k) ≤ 4 * B := by
  have h3 := h.dims
  have h4 := hr.1
  exact sumI_bd_le (n := 4) (fun z _ => stepV_bd hB hc z) (by simp; omega) hB (by omega)
theorem cntRows_bd {t a : Int} {ac : List (List Bool)} {nx : List (List (List Int))} (h : AutOk t a ac nx) {c : List Int} {B : Int} (hB : 0 ≤ B) (hc : ∀ (i : Nat) (z : Int), c[i]? = some z → 0 ≤ z ∧ z ≤ B)
    {i : Nat} {nr : List (List Int)} (hi : nx[i]? = some nr) (k : Nat) : 0 ≤ cntRows c (nr.take k) ∧ cntRows c (nr.take k) ≤ 32 * B := by
  have h3 := h.dims
  obtain ⟨h4, h5⟩ := h.row hi
  refine sumI_bd_le (n := 8) (B := 4 * B) (fun row hrow => ?_) (by simp; omega) (by omega) (by omega)
  obtain ⟨j, hj⟩ := List.mem_iff_getElem?.1 (List.mem_of_mem_take hrow)
  have := cntRow_bd h hB hc (h5 j row hj) row.length
  rwa [List.take_length] at this
theorem cntN_bd {t a : Int} {ac : List (List Bool)} {nx : List (List (List Int))} (h : AutOk t a ac nx) : ∀ (n i : Nat) (z : Int), (cntN ac nx n)[i]? = some z → 0 ≤ z ∧ z ≤ cntB n
  | 0, i, z, hz => by
    simp only [cntN, List.getElem?_map, Option.map_eq_some_iff] at hz
    obtain ⟨ar, h1, rfl⟩ := hz
    have := cnt0_bd h h1 ar.length
    rw [List.take_length] at this
    have e : cntB 0 = 8 := by decide
    omega
  | n + 1, i, z, hz => by
    simp only [cntN, List.getElem?_map, Option.map_eq_some_iff] at hz
    obtain ⟨nr, h1, rfl⟩ := hz
    have := cntRows_bd h (cntB_nonneg n) (cntN_bd h n) h1 nr.length
    rw [List.take_length] at this
    rw [cntB_succ]
    exact this
/-- What a round of the sums needs. -/
theorem cnt_round {t a : Int} {ac : List (List Bool)} {nx : List (List (List Int))} (h : AutOk t a ac nx) {n : Nat} (hn : n + 1 ≤ 10) {i j : Nat} {nr : List (List Int)} {row : List Int} (hi : nx[i]? = some nr) (hj : nr[j]? = some row) (k : Nat) :
    0 ≤ cntRows (cntN ac nx n) (nr.take j) + cntRow (cntN ac nx n) (row.take k) ∧ cntRows (cntN ac nx n) (nr.take j) + cntRow (cntN ac nx n) (row.take k) ≤ 100000000000000000 := by
  have h1 := cntRows_bd h (cntB_nonneg n) (cntN_bd h n) hi j
  have h2 := cntRow_bd h (cntB_nonneg n) (cntN_bd h n) ((h.row hi).2 j row hj) k
  have h3 := cntB_succ n
  have h4 := cntB_ten hn
  omega
theorem cnt_cell {t a : Int} {ac : List (List Bool)} {nx : List (List (List Int))} (h : AutOk t a ac nx) {n : Nat} (hn : n + 1 ≤ 10) {i j l : Nat} {nr : List (List Int)} {row : List Int} {z : Int} (hi : nx[i]? = some nr) (hj : nr[j]? = some row)
    (hz : row[l]? = some z) : -1 ≤ z ∧ z < ac.length ∧ (0 ≤ z → ∃ v, (cntN ac nx n)[z.toNat]? = some v ∧ 0 ≤ v ∧ v ≤ 10000000000000000 ∧ cntRow (cntN ac nx n) (row.take (l + 1)) = cntRow (cntN ac nx n) (row.take l) + v) ∧
      (z < 0 → cntRow (cntN ac nx n) (row.take (l + 1)) = cntRow (cntN ac nx n) (row.take l)) := by
  obtain ⟨h1, h2⟩ := ((h.row hi).2 j row hj).2 l z hz
  have hs := sumI_take_succ (f := stepV (cntN ac nx n)) hz
  refine ⟨h1, by omega, fun h0 => ?_, fun h0 => ?_⟩
  · obtain ⟨v, hv⟩ : ∃ v, (cntN ac nx n)[z.toNat]? = some v := ⟨_, List.getElem?_eq_getElem (by rw [cntN_length h]; omega)⟩
    obtain ⟨h3, h4⟩ := cntN_bd h n _ v hv
    have h5 := cntB_ten (show n ≤ 10 by omega)
    refine ⟨v, hv, h3, by omega, ?_⟩
    unfold cntRow
    rw [hs]
    unfold stepV
    rw [if_pos h0, List.getD_eq_getElem?_getD, hv]
    rfl
  · unfold cntRow
    rw [hs]
    unfold stepV
    rw [if_neg (by omega)]
    omega
theorem cntRows_succ {c : List Int} {nr : List (List Int)} {j : Nat} {row : List Int} (h : nr[j]? = some row) : cntRows c (nr.take (j + 1)) = cntRows c (nr.take j) + cntRow c row := sumI_take_succ h
theorem cnt0_succ {ar : List Bool} {j : Nat} {b : Bool} (h : ar[j]? = some b) : cnt0 (ar.take (j + 1)) = cnt0 (ar.take j) + if b then 1 else 0 := sumI_take_succ h
theorem cntN_at {ac : List (List Bool)} {nx : List (List (List Int))} {n i : Nat} {nr : List (List Int)} (hi : nx[i]? = some nr) : (cntN ac nx (n + 1))[i]? = some (cntRows (cntN ac nx n) nr) := by
  simp [cntN, hi]
theorem cntN_zero_at {ac : List (List Bool)} {nx : List (List (List Int))} {i : Nat} {ar : List Bool} (hi : ac[i]? = some ar) : (cntN ac nx 0)[i]? = some (cnt0 ar) := by
  simp [cntN, hi]
end Go.Proofs.YtahehcalmbmbpaaDoor
