/-
  Parts of a proof, joined: Cnt, LiveP, Arr, MadP, MapL, MadS, ValidI, Counts, FstS. No condition.
-/
import Derived.Test.YtfhlddbngjlhbaaPk13
namespace Go.Proofs.Ytfhlddbngjlhbaa
set_option linter.unusedVariables false
set_option linter.unusedSimpArgs false
open Go.ChangeShapes Go.WideShapes Go.ChangeAt Go.RowKit
def sumI {α : Type} (f : α → Int) : List α → Int
 | [] => 0
 | x :: r => f x + sumI f r
section
variable {α : Type} {f : α → Int}
theorem sumI_append : ∀ a b : List α, sumI f (a ++ b) = sumI f a + sumI f b
 | [], b => by simp [sumI]
 | x :: a, b => by simp only [List.cons_append, sumI, sumI_append a b]; omega
theorem sumI_take_succ {xs : List α} {i : Nat} {x : α} (h : xs[i]? = some x) : sumI f (xs.take (i + 1)) = sumI f (xs.take i) + f x := by
 obtain ⟨hi, rfl⟩ := List.getElem?_eq_some_iff.1 h
 rw [List.take_succ_eq_append_getElem hi, sumI_append]
 simp [sumI]
theorem sumI_bd {B : Int} : ∀ {xs : List α}, (∀ x ∈ xs, 0 ≤ f x ∧ f x ≤ B) → 0 ≤ sumI f xs ∧ sumI f xs ≤ xs.length * B
 | [], _ => by simp [sumI]
 | x :: r, h => by
  obtain ⟨h1, h2⟩ := h x (List.mem_cons_self ..)
  obtain ⟨h3, h4⟩ := sumI_bd (xs := r) fun y hy => h y (List.mem_cons_of_mem _ hy)
  simp only [sumI, List.length_cons]
  refine ⟨by omega, ?_⟩
  have : ((r.length + 1 : Nat) : Int) * B = r.length * B + B := by
   rw [Int.natCast_add, Int.add_mul]; simp
  omega
theorem sumI_bd_le {B M : Int} {n : Nat} {xs : List α} (h : ∀ x ∈ xs, 0 ≤ f x ∧ f x ≤ B) (hn : xs.length ≤ n) (hB : 0 ≤ B) (hM : n * B ≤ M) : 0 ≤ sumI f xs ∧ sumI f xs ≤ M := by
 obtain ⟨h1, h2⟩ := sumI_bd h
 have : (xs.length : Int) * B ≤ n * B := Int.mul_le_mul_of_nonneg_right (by omega) hB
 omega
end
def cnt0 (ar : List Bool) : Int := sumI (fun b => if b then 1 else 0) ar
def stepV (c : List Int) (z : Int) : Int := if 0 ≤ z then c.getD z.toNat 0 else 0
def cntRow (c : List Int) (row : List Int) : Int := sumI (stepV c) row
def cntRows (c : List Int) (nr : List (List Int)) : Int := sumI (cntRow c) nr
def cntN (ac : List (List Bool)) (nx : List (List (List Int))) : Nat → List Int
 | 0 => ac.map cnt0
 | n + 1 => nx.map (cntRows (cntN ac nx n))
theorem cntN_length {t a : Int} {ac : List (List Bool)} {nx : List (List (List Int))} (h : AutOk t a ac nx) : ∀ n, (cntN ac nx n).length = ac.length
 | 0 => by simp [cntN]
 | n + 1 => by simp [cntN, h.len]
def cntB (n : Nat) : Int := 8 * 32 ^ n
theorem cntB_succ (n : Nat) : cntB (n + 1) = 32 * cntB n := by unfold cntB; rw [Int.pow_succ]; omega
theorem cntB_nonneg : ∀ n, 0 ≤ cntB n
 | 0 => by decide
 | n + 1 => by rw [cntB_succ]; have := cntB_nonneg n; omega
theorem cntB_mono {n m : Nat} (h : n ≤ m) : cntB n ≤ cntB m := by
 induction h with
 | refl => exact Int.le_refl _
 | step _ ih => rw [cntB_succ]; have := cntB_nonneg n; rename_i m _; have := cntB_nonneg m; omega
theorem cntB_ten {n : Nat} (h : n ≤ 10) : cntB n ≤ 10000000000000000 := Int.le_trans (cntB_mono h) (by decide)
theorem AutOk.dims {t a : Int} {ac : List (List Bool)} {nx : List (List (List Int))} (h : AutOk t a ac nx) : 1 ≤ atomsN t ∧ atomsN t ≤ 8 ∧ 0 ≤ a ∧ a ≤ 4 := by
 obtain ⟨h0, h1, h2, h3⟩ := sigB_bd h.sig
 have := atomsN_bd t
 exact ⟨this.1, this.2, h2, h3⟩
theorem AutOk.row {t a : Int} {ac : List (List Bool)} {nx : List (List (List Int))} (h : AutOk t a ac nx) {i : Nat} {nr : List (List Int)} (h1 : nx[i]? = some nr) :
  (nr.length : Int) = atomsN t ∧ ∀ (j : Nat) (row : List Int), nr[j]? = some row → RowOk a ac.length row := by
 obtain ⟨ar, har⟩ : ∃ e, ac[i]? = some e := ⟨_, List.getElem?_eq_getElem (by have := (List.getElem?_eq_some_iff.1 h1).1; rw [h.len] at this; exact this)⟩
 obtain ⟨_, h2, h3⟩ := h.st i ar nr har h1
 exact ⟨h2, h3⟩
theorem AutOk.acc_row {t a : Int} {ac : List (List Bool)} {nx : List (List (List Int))} (h : AutOk t a ac nx) {i : Nat} {ar : List Bool} (h1 : ac[i]? = some ar) : (ar.length : Int) = atomsN t := by
 obtain ⟨nr, hnr⟩ : ∃ e, nx[i]? = some e := ⟨_, List.getElem?_eq_getElem (by have := (List.getElem?_eq_some_iff.1 h1).1; rw [h.len]; exact this)⟩
 exact (h.st i ar nr h1 hnr).1
theorem cnt0_bd {t a : Int} {ac : List (List Bool)} {nx : List (List (List Int))} (h : AutOk t a ac nx) {i : Nat} {ar : List Bool} (h1 : ac[i]? = some ar) (k : Nat) : 0 ≤ cnt0 (ar.take k) ∧ cnt0 (ar.take k) ≤ 8 := by
 have h2 := h.acc_row h1
 have h3 := h.dims
 refine sumI_bd_le (B := 1) (n := 8) (fun x _ => ?_) (by simp; omega) (by omega) (by omega)
 cases x <;> simp
theorem stepV_bd {c : List Int} {B : Int} (hB : 0 ≤ B) (hc : ∀ (i : Nat) (z : Int), c[i]? = some z → 0 ≤ z ∧ z ≤ B) (z : Int) : 0 ≤ stepV c z ∧ stepV c z ≤ B := by
 unfold stepV
 split
 ·
  rw [List.getD_eq_getElem?_getD]
  cases h : c[z.toNat]? with
  | none => simp; exact hB
  | some v => simpa using hc _ v h
 ·
  omega
theorem cntRow_bd {t a : Int} {ac : List (List Bool)} {nx : List (List (List Int))} (h : AutOk t a ac nx) {c : List Int} {B : Int} (hB : 0 ≤ B) (hc : ∀ (i : Nat) (z : Int), c[i]? = some z → 0 ≤ z ∧ z ≤ B)
  {row : List Int} (hr : RowOk a ac.length row) (k : Nat) : 0 ≤ cntRow c (row.take k) ∧ cntRow c (row.take k) ≤ 4 * B := by
 have h3 := h.dims
 have h4 := hr.1
 exact sumI_bd_le (n := 4) (fun z _ => stepV_bd hB hc z) (by simp; omega) hB (by omega)
theorem cntRows_bd {t a : Int} {ac : List (List Bool)} {nx : List (List (List Int))} (h : AutOk t a ac nx) {c : List Int} {B : Int} (hB : 0 ≤ B) (hc : ∀ (i : Nat) (z : Int), c[i]? = some z → 0 ≤ z ∧ z ≤ B)
  {i : Nat} {nr : List (List Int)} (hi : nx[i]? = some nr) (k : Nat) : 0 ≤ cntRows c (nr.take k) ∧ cntRows c (nr.take k) ≤ 32 * B := by
 have h3 := h.dims
 obtain ⟨h4, h5⟩ := h.row hi
 refine sumI_bd_le (n := 8) (B := 4 * B) (fun row hrow => ?_) (by simp; omega) (by omega) (by omega)
 obtain ⟨j, hj⟩ := List.mem_iff_getElem?.1 (List.mem_of_mem_take hrow)
 have := cntRow_bd h hB hc (h5 j row hj) row.length
 rwa [List.take_length] at this
theorem cntN_bd {t a : Int} {ac : List (List Bool)} {nx : List (List (List Int))} (h : AutOk t a ac nx) : ∀ (n i : Nat) (z : Int), (cntN ac nx n)[i]? = some z → 0 ≤ z ∧ z ≤ cntB n
 | 0, i, z, hz => by
  simp only [cntN, List.getElem?_map, Option.map_eq_some_iff] at hz
  obtain ⟨ar, h1, rfl⟩ := hz
  have := cnt0_bd h h1 ar.length
  rw [List.take_length] at this
  have e : cntB 0 = 8 := by decide
  omega
 | n + 1, i, z, hz => by
  simp only [cntN, List.getElem?_map, Option.map_eq_some_iff] at hz
  obtain ⟨nr, h1, rfl⟩ := hz
  have := cntRows_bd h (cntB_nonneg n) (cntN_bd h n) h1 nr.length
  rw [List.take_length] at this
  rw [cntB_succ]
  exact this
theorem cnt_round {t a : Int} {ac : List (List Bool)} {nx : List (List (List Int))} (h : AutOk t a ac nx) {n : Nat} (hn : n + 1 ≤ 10) {i j : Nat} {nr : List (List Int)} {row : List Int} (hi : nx[i]? = some nr) (hj : nr[j]? = some row) (k : Nat) :
  0 ≤ cntRows (cntN ac nx n) (nr.take j) + cntRow (cntN ac nx n) (row.take k) ∧ cntRows (cntN ac nx n) (nr.take j) + cntRow (cntN ac nx n) (row.take k) ≤ 100000000000000000 := by
 have h1 := cntRows_bd h (cntB_nonneg n) (cntN_bd h n) hi j
 have h2 := cntRow_bd h (cntB_nonneg n) (cntN_bd h n) ((h.row hi).2 j row hj) k
 have h3 := cntB_succ n
 have h4 := cntB_ten hn
 omega
theorem cnt_cell {t a : Int} {ac : List (List Bool)} {nx : List (List (List Int))} (h : AutOk t a ac nx) {n : Nat} (hn : n + 1 ≤ 10) {i j l : Nat} {nr : List (List Int)} {row : List Int} {z : Int} (hi : nx[i]? = some nr) (hj : nr[j]? = some row)
  (hz : row[l]? = some z) : -1 ≤ z ∧ z < ac.length ∧ (0 ≤ z → ∃ v, (cntN ac nx n)[z.toNat]? = some v ∧ 0 ≤ v ∧ v ≤ 10000000000000000 ∧ cntRow (cntN ac nx n) (row.take (l + 1)) = cntRow (cntN ac nx n) (row.take l) + v) ∧
   (z < 0 → cntRow (cntN ac nx n) (row.take (l + 1)) = cntRow (cntN ac nx n) (row.take l)) := by
 obtain ⟨h1, h2⟩ := ((h.row hi).2 j row hj).2 l z hz
 have hs := sumI_take_succ (f := stepV (cntN ac nx n)) hz
 refine ⟨h1, by omega, fun h0 => ?_, fun h0 => ?_⟩
 ·
  obtain ⟨v, hv⟩ : ∃ v, (cntN ac nx n)[z.toNat]? = some v := ⟨_, List.getElem?_eq_getElem (by rw [cntN_length h]; omega)⟩
  obtain ⟨h3, h4⟩ := cntN_bd h n _ v hv
  have h5 := cntB_ten (show n ≤ 10 by omega)
  refine ⟨v, hv, h3, by omega, ?_⟩
  unfold cntRow
  rw [hs]
  unfold stepV
  rw [if_pos h0, List.getD_eq_getElem?_getD, hv]
  rfl
 ·
  unfold cntRow
  rw [hs]
  unfold stepV
  rw [if_neg (by omega)]
  omega
theorem cntRows_succ {c : List Int} {nr : List (List Int)} {j : Nat} {row : List Int} (h : nr[j]? = some row) : cntRows c (nr.take (j + 1)) = cntRows c (nr.take j) + cntRow c row := sumI_take_succ h
theorem cnt0_succ {ar : List Bool} {j : Nat} {b : Bool} (h : ar[j]? = some b) : cnt0 (ar.take (j + 1)) = cnt0 (ar.take j) + if b then 1 else 0 := sumI_take_succ h
theorem cntN_at {ac : List (List Bool)} {nx : List (List (List Int))} {n i : Nat} {nr : List (List Int)} (hi : nx[i]? = some nr) : (cntN ac nx (n + 1))[i]? = some (cntRows (cntN ac nx n) nr) := by
 simp [cntN, hi]
theorem cntN_zero_at {ac : List (List Bool)} {nx : List (List (List Int))} {i : Nat} {ar : List Bool} (hi : ac[i]? = some ar) : (cntN ac nx 0)[i]? = some (cnt0 ar) := by
 simp [cntN, hi]
end Go.Proofs.Ytfhlddbngjlhbaa

namespace Go.Proofs.Ytfhlddbngjlhbaa
set_option linter.unusedVariables false
set_option linter.unusedSimpArgs false
open Go.ChangeShapes Go.WideShapes Go.ChangeAt Go.RowKit Go.Deep
def hitR (P : Nat → Bool) (row : List Int) : Bool := row.any fun z => decide (0 ≤ z) && P z.toNat
def accW (ac : List (List Bool)) (nx : List (List (List Int))) : Nat → Nat → Bool
 | 0 => fun s => (ac.getD s []).any id
 | n + 1 => fun s => (nx.getD s []).any (hitR (accW ac nx n))
def farV (ac : List (List Bool)) (nx : List (List (List Int))) : Nat → Nat → Int
 | 0 => fun s => if accW ac nx 0 s then 0 else -1
 | n + 1 => fun s => if 0 ≤ farV ac nx n s then farV ac nx n s else if accW ac nx (n + 1) s then ((n + 1 : Nat) : Int) else -1
section
variable {ac : List (List Bool)} {nx : List (List (List Int))}
theorem farV_bd : ∀ n s, -1 ≤ farV ac nx n s ∧ farV ac nx n s ≤ n
 | 0, s => by simp only [farV]; split <;> omega
 | n + 1, s => by
  have := farV_bd n s
  simp only [farV]
  split
  ·
   omega
  ·
   split <;> omega
theorem farV_spec : ∀ n s, (0 ≤ farV ac nx n s → ∃ m : Nat, m ≤ n ∧ farV ac nx n s = (m : Int) ∧ accW ac nx m s = true ∧ ∀ k, k < m → accW ac nx k s = false) ∧ (farV ac nx n s < 0 → ∀ m, m ≤ n → accW ac nx m s = false)
 | 0, s => by
  simp only [farV]
  by_cases h : accW ac nx 0 s = true
  ·
   rw [if_pos h]
   exact ⟨fun _ => ⟨0, Nat.le_refl _, rfl, h, fun k hk => by omega⟩, fun hn => by omega⟩
  ·
   rw [if_neg h]
   refine ⟨fun hn => by omega, fun _ m hm => ?_⟩
   obtain rfl : m = 0 := by omega
   simpa using h
 | n + 1, s => by
  obtain ⟨h1, h2⟩ := farV_spec n s
  simp only [farV]
  by_cases h : 0 ≤ farV ac nx n s
  ·
   rw [if_pos h]
   refine ⟨fun _ => ?_, fun hn => by omega⟩
   obtain ⟨m, hm, e, h3, h4⟩ := h1 h
   exact ⟨m, by omega, e, h3, h4⟩
  ·
   rw [if_neg h]
   have h3 := h2 (by omega)
   by_cases h4 : accW ac nx (n + 1) s = true
   ·
    rw [if_pos h4]
    exact ⟨fun _ => ⟨n + 1, Nat.le_refl _, rfl, h4, fun k hk => h3 k (by omega)⟩, fun hn => by omega⟩
   ·
    rw [if_neg h4]
    refine ⟨fun hn => by omega, fun _ m hm => ?_⟩
    by_cases he : m = n + 1
    ·
     rw [he]; simpa using h4
    ·
     exact h3 m (by omega)
theorem pigeon : ∀ (n : Nat) (L : List Nat), L.Nodup → (∀ x ∈ L, x < n) → L.length ≤ n
 | 0, L, _, h => by
  cases L with
  | nil => simp
  | cons x r => have := h x (List.mem_cons_self ..); omega
 | n + 1, L, hd, h => by
  have h1 := pigeon n (L.erase n) (hd.erase n) fun x hx => by
   have h2 := h x (List.mem_of_mem_erase hx)
   have h3 := (List.Nodup.mem_erase_iff hd).1 hx
   omega
  rw [List.length_erase] at h1
  split at h1 <;> omega
end
end Go.Proofs.Ytfhlddbngjlhbaa

namespace Go.Proofs.Ytfhlddbngjlhbaa
set_option linter.unusedVariables false
set_option linter.unusedSimpArgs false
open Go.ChangeShapes Go.WideShapes Go.ChangeAt Go.RowKit Go.Deep
theorem madeCells_one (z : Value) (n : Nat) : (madeCells #[z] n).toList = List.replicate n z := by
 apply List.ext_getElem
 ·
  simp [madeCells]
 ·
  intro i h1 h2
  simp [madeCells, Nat.mod_one]
theorem made_blk {w : World} {base t n g : Nat} {z : Value} {cs : Array Value} (hz : cs = #[z]) (h : w.ownsRow base t 1 (.slice (some ⟨g, 0, none⟩) n n) n (madeCells cs (n * 1)).toList) : Blk w g t (List.replicate n z) ∧ base ≤ g := by
 subst hz
 obtain ⟨h0, h⟩ := h
 rcases h with ⟨h, _⟩ | ⟨g', cap, cur, hv, hb, hg, _, _, hs, ht⟩
 ·
  cases h
 ·
  simp only [Value.slice.injEq, Option.some.injEq, Addr.mk.injEq, and_true, true_and] at hv
  obtain ⟨rfl, rfl⟩ := hv
  rw [madeCells_one, Nat.mul_one, List.take_of_length_le (by simp; omega)] at ht
  refine ⟨?_, hb⟩
  unfold Blk
  rw [hg, ← ht]
section
variable {α : Type} {f : α → Value} {w : World} {g t : Nat} {L : List α}
theorem arr_cell (h : Blk w g t (L.map f)) {i : Nat} {x : α} (hx : L[i]? = some x) : w.cell? ⟨g, i, none⟩ = some (f x) := by rw [h.cell, List.getElem?_map, hx]; rfl
theorem arr_set (h : Blk w g t (L.map f)) (i : Nat) (x : α) : Blk (w.setCell ⟨g, i, none⟩ (f x)) g t ((L.set i x).map f) := by
 rw [List.map_set]
 exact h.set i (f x)
theorem arr_fresh {W : World} {fd : α → D} (h : Blk w g t (L.map f)) (hW : W.heap.size ≤ g) (hf : ∀ x, Ow w (fd x) (f x) []) {n : Nat} (hn : L.length = n) (hm : n ≤ maxLen) : Fresh W w (nestD fd L) (.slice (some ⟨g, 0, none⟩) n n) := by
 subst hn
 have hows : Ows w (L.map fd) (L.map f) [] := by
  clear h hm
  induction L with
  | nil => exact Ows.nil
  | cons x r ih => exact Ows.cons (hf x) ih
 by_cases h0 : L.length = 0
 ·
  exact ⟨[], by simp only [nestD, Ow]; exact ⟨_, _, rfl, Nat.le_refl _, hm, by simp, by simp, Or.inl ⟨h0, trivial⟩⟩, by simp, by simp⟩
 ·
  refine ⟨[g], by simp only [nestD, Ow]; exact ⟨_, _, rfl, Nat.le_refl _, hm, by simp, by simp, Or.inr ⟨g, 0, L.map f, [], rfl, rfl, h.free, h.row (List.take_length ..), hows⟩⟩, by simp, by simp [hW]⟩
end
def FillL {α : Type} (z : α) (full : List α) (k : Nat) (L : List α) : Prop := L.length = full.length ∧ (∀ j, j < k → L[j]? = full[j]?) ∧ ∀ j, k ≤ j → j < full.length → L[j]? = some z
section
variable {α : Type} {z : α} {full L : List α} {k : Nat}
theorem FillL.start {n : Nat} (hn : full.length = n) : FillL z full 0 (List.replicate n z) := by
 subst hn
 exact ⟨by simp, fun j hj => by omega, fun j _ hj => by simp [hj]⟩
theorem FillL.at (h : FillL z full k L) (hk : k < full.length) : L[k]? = some z := h.2.2 k (Nat.le_refl _) hk
theorem FillL.step (h : FillL z full k L) {v : α} (hv : full[k]? = some v) : FillL z full (k + 1) (L.set k v) := by
 obtain ⟨h1, h2, h3⟩ := h
 have hk := (List.getElem?_eq_some_iff.1 hv).1
 refine ⟨by simpa using h1, fun j hj => ?_, fun j hj hl => ?_⟩
 ·
  by_cases hjk : k = j
  ·
   subst hjk
   rw [List.getElem?_set_self (by omega), hv]
  ·
   rw [List.getElem?_set_ne hjk]
   exact h2 j (by omega)
 ·
  rw [List.getElem?_set_ne (by omega)]
  exact h3 j (by omega) hl
theorem FillL.all (h : FillL z full full.length L) : L = full := by
 obtain ⟨h1, h2, h3⟩ := h
 apply List.ext_getElem?
 intro j
 by_cases hj : j < full.length
 ·
  exact h2 j hj
 ·
  rw [List.getElem?_eq_none (by omega), List.getElem?_eq_none (by omega)]
theorem set_zero_same {i : Nat} {x : α} (h : L[i]? = some x) : L.set i x = L := by
 obtain ⟨h1, h2⟩ := List.getElem?_eq_some_iff.1 h
 rw [← h2]
 exact List.set_getElem_self h1
theorem set_twice {i : Nat} {x y : α} : (L.set i x).set i y = L.set i y := List.set_set ..
theorem set_at {i : Nat} {x : α} (h : i < L.length) : (L.set i x)[i]? = some x := by rw [List.getElem?_set_self h]
end
end Go.Proofs.Ytfhlddbngjlhbaa

namespace Go.Proofs.Ytfhlddbngjlhbaa
set_option linter.unusedVariables false
set_option linter.unusedSimpArgs false
open Go.ChangeShapes Go.WideShapes Go.ChangeAt Go.RowKit Go.Deep
theorem box4 (w : World) (t : TypeId) (a b c d : Value) : ∃ w', w.alloc (.cells #[a, b, c, d] t) = w' ∧ Blk w' w.heap.size t [a, b, c, d] ∧ Below w.heap.size w w' ∧ w'.heap.size = w.heap.size + 1 :=
 ⟨_, rfl, Blk.new4 w t a b c d, Below.alloc (Below.refl _ _) (Nat.le_refl _) _, by simp⟩
theorem Blk.all4 {w : World} {g t : Nat} {a b c d : Value} (h : Blk w g t [a, b, c, d]) : w.cell? ⟨g, 0, none⟩ = some a ∧ w.cell? ⟨g, 1, none⟩ = some b ∧ w.cell? ⟨g, 2, none⟩ = some c ∧ w.cell? ⟨g, 3, none⟩ = some d ∧
  w.frozen? ⟨g, 0, none⟩ = false ∧ w.frozen? ⟨g, 1, none⟩ = false ∧ w.frozen? ⟨g, 2, none⟩ = false ∧ w.frozen? ⟨g, 3, none⟩ = false ∧ g < w.heap.size :=
 ⟨h.c0, h.c1, h.c2, h.c3, h.frozen 0, h.frozen 1, h.frozen 2, h.frozen 3, h.lt⟩
theorem set4 {w : World} {g t : Nat} {a b c d : Value} (h : Blk w g t [a, b, c, d]) (x y z u : Value) : ∃ w', (((w.setCell ⟨g, 0, none⟩ x).setCell ⟨g, 1, none⟩ y).setCell ⟨g, 2, none⟩ z).setCell ⟨g, 3, none⟩ u = w' ∧ Blk w' g t [x, y, z, u] ∧ Spares (fun i => i = g) w w' :=
 ⟨_, rfl, (((h.set 0 x).set 1 y).set 2 z).set 3 u, Spares.set (Spares.set (Spares.set (Spares.set (Spares.refl w))))⟩
end Go.Proofs.Ytfhlddbngjlhbaa

namespace Go.Proofs.Ytfhlddbngjlhbaa
set_option linter.unusedVariables false
set_option linter.unusedSimpArgs false
open Go.ChangeShapes Go.WideShapes Go.ChangeAt Go.RowKit Go.Deep Go.ChangeMaps Go.MapKept
theorem Bun.push_one {B : Nat} {w w' : World} {items : List Item} (h : Bun B w items) (hB : B ≤ w.heap.size) (hb : Below w.heap.size w w') {P : World → Prop} (hg : w.heap.size < w'.heap.size) (hP : ∀ w1, w1.heap[w.heap.size]? = w'.heap[w.heap.size]? → P w1) : Bun B w' (items ++ [.one w.heap.size P]) :=
 h.push hb ⟨⟨hB, hg, Nat.le_refl _⟩, hg, hP⟩
end Go.Proofs.Ytfhlddbngjlhbaa

namespace Go.Proofs.Ytfhlddbngjlhbaa
set_option linter.unusedVariables false
set_option linter.unusedSimpArgs false
open Go.ChangeShapes Go.WideShapes Go.ChangeAt Go.RowKit Go.Deep
theorem nil_au {w w' : World} : Freshs w w' (autD [] []) [.slice none 0 0, .slice none 0 0] := by
 refine ⟨[], Ows.cons (F := []) (G := []) ?_ (Ows.cons (F := []) (G := []) ?_ Ows.nil), by simp, by simp⟩
 ·
  simp only [bbD, nestD, Ow]
  exact ⟨_, 0, rfl, by simp, by simp [maxLen], by simp, by simp, Or.inl (by simp)⟩
 ·
  simp only [iiiD, nestD, Ow]
  exact ⟨_, 0, rfl, by simp, by simp [maxLen], by simp, by simp, Or.inl (by simp)⟩
end Go.Proofs.Ytfhlddbngjlhbaa

namespace Go.Proofs.Ytfhlddbngjlhbaa
set_option linter.unusedVariables false
set_option linter.unusedSimpArgs false
open Go.ChangeShapes Go.WideShapes Go.ChangeAt Go.RowKit Go.Sort
theorem AutAt.box {t a : Int} {ac : List (List Bool)} {nx : List (List (List Int))} {s u : Option Addr} {c d : Nat} {w : World} (hr : Rd w (bbD ac) (.slice s ac.length c)) (hq : Rd w (iiiD nx) (.slice u nx.length d)) (T : TypeId) :
  AutAt (w.alloc (.cells #[.int .i64 t, .int .i64 a, .slice s ac.length c, .slice u nx.length d] T)) w.heap.size 0 t a ac nx s u c d := by
 have L := Blk.new4 w T (.int .i64 t) (.int .i64 a) (.slice s ac.length c) (.slice u nx.length d)
 exact ⟨L.c0, L.c1, L.c2, L.c3, hr.alloc _, hq.alloc _⟩
set_option maxRecDepth 100000 in
set_option maxHeartbeats 16000000 in
theorem implValidAutomaton_i {t a : Int} {ac : List (List Bool)} {nx : List (List (List Int))} {s u : Option Addr} {c d : Nat} {w : World} (hr : Rd w (bbD ac) (.slice s ac.length c)) (hq : Rd w (iiiD nx) (.slice u nx.length d)) :
  Calls Try.prog 28 #[.agg #[.int .i64 t, .int .i64 a, .slice s ac.length c, .slice u nx.length d]] w fun e w' => e = .returned (.bool (autB t a ac nx)) ∧ Below w.heap.size w w' := by
 obtain ⟨hlen, hcap⟩ := nest_bd hr
 obtain ⟨hlen', hcap'⟩ := nest_bd hq
 unfold maxLen at hcap hcap'
 go_enter Try.func28, Try.ntmps28
 go_wp2_with fail
 have h := AutAt.box (t := t) (a := a) hr hq 31
 have hB0 : Below w.heap.size w (w.alloc (.cells #[.int .i64 t, .int .i64 a, .slice s ac.length c, .slice u nx.length d] 31)) := by (repeat' first | exact Below.refl _ _ | assumption | apply Below.alloc | apply Below.drew | apply Below.setCell | omega | (simp; done) | (simp; omega))
 have hz : w.heap.size ≤ (w.alloc (.cells #[.int .i64 t, .int .i64 a, .slice s ac.length c, .slice u nx.length d] 31)).heap.size := by simp
 generalize w.alloc (.cells #[.int .i64 t, .int .i64 a, .slice s ac.length c, .slice u nx.length d] 31) = w0 at h hB0 hz ⊢
 have g4 := h.2.2.2.2.1
 have g5 := h.2.2.2.2.2
 have hbl := h.lt
 have Hh := Lib.hid h
 have HB0 := Lib.hid hB0
 have HZ := Lib.hid hz
 clear hr hq hB0 hz h
 refine (implValidSig_any t a _).mono ?_
 rintro e w1 ⟨rfl, hB⟩
 have hBw := Lib.hid (HB0.out.trans (hB.mono HZ.out))
 have HB := Lib.hid hB
 clear hB
 cases hs : sigB t a
 ·
  have C1 := Lib.hid (show autB t a ac nx = false from autB_no fun q => by rw [q.sig] at hs; cases hs)
  clear hs
  obtain ⟨c0, c1', c2', c3', -, -⟩ := Hh.out.below HB.out
  simp only [Nat.zero_add] at c1' c2' c3'
  go_wp2_with fail
  go_ret
  exact ⟨ret_bool (by rw [C1.out]), hBw.out⟩
 have Hs := Lib.hid hs
 clear hs
 by_cases hn1 : 1 ≤ ac.length
 rotate_left
 ·
  have C1 := Lib.hid (show autB t a ac nx = false from autB_no fun q => hn1 q.lo)
  obtain ⟨c0, c1', c2', c3', -, -⟩ := Hh.out.below HB.out
  simp only [Nat.zero_add] at c1' c2' c3'
  go_wp2_with fail
  go_ret
  exact ⟨ret_bool (by rw [C1.out]), hBw.out⟩
 by_cases hn2 : ac.length ≤ 60
 rotate_left
 ·
  have C1 := Lib.hid (show autB t a ac nx = false from autB_no fun q => hn2 q.hi)
  obtain ⟨c0, c1', c2', c3', -, -⟩ := Hh.out.below HB.out
  simp only [Nat.zero_add] at c1' c2' c3'
  go_wp2_with fail
  go_ret
  exact ⟨ret_bool (by rw [C1.out]), hBw.out⟩
 by_cases hl : nx.length = ac.length
 rotate_left
 ·
  have C1 := Lib.hid (show autB t a ac nx = false from autB_no fun q => hl q.len)
  have c2 : ((nx.length : Int) != (ac.length : Int)) = true := by simp; omega
  clear hl
  obtain ⟨c0, c1', c2', c3', -, -⟩ := Hh.out.below HB.out
  simp only [Nat.zero_add] at c1' c2' c3'
  go_wp2_with fail
  go_ret
  exact ⟨ret_bool (by rw [C1.out]), hBw.out⟩
 have c2 : ((nx.length : Int) != (ac.length : Int)) = false := by simp [hl]
 have Hl := Lib.hid hl
 have hl1 : nx.length ≤ ac.length := by omega
 have hl2 : ac.length ≤ nx.length := by omega
 clear hl
 obtain ⟨ht0, ht1, ha0, ha1⟩ := sigB_bd Hs.out
 have hat := atomsN_bd t
 obtain ⟨sb, so, rfl⟩ := nest_some (f := boolsD) g4 (by omega)
 obtain ⟨ub, uo, rfl⟩ := nest_some (f := iiD) g5 (by omega)
 obtain ⟨c0, c1', c2', c3', -, -⟩ := Hh.out.below HB.out
 simp only [Nat.zero_add] at c1' c2' c3'
 go_wp2_with fail
 clear c2 c0 c1' c2' c3'
 go_loopw [32] (fun i wr => ∃ k : Nat, k ≤ ac.length ∧ i = .int .i64 k ∧ StsOk t a ac nx k ∧ Below w0.heap.size w0 wr) (fun i _ => ac.length - (intOf i).toNat)
 case atStart => exact ⟨0, by omega, rfl, StsOk.zero, HB.out⟩
 case round =>
  clear HB hBw
  obtain ⟨k, hk, rfl, hst, hB⟩ := hrel
  have szB := hB.size
  have Hst := Lib.hid hst
  have HB := Lib.hid hB
  clear hst hB
  by_cases hlt : k < ac.length
  rotate_left
  ·
   have C1 := Lib.hid (show autB t a ac nx = true from autB_yes ⟨Hs.out, hn1, hn2, Hl.out, fun i ar nr h1 h2 => Hst.out i ar nr (by have := (List.getElem?_eq_some_iff.1 h1).1; omega) h1 h2⟩)
   have hBw := Lib.hid (HB0.out.trans (HB.out.mono HZ.out))
   go_wp2_with fail
   go_ret
   exact ⟨ret_bool (by rw [C1.out]), hBw.out⟩
  obtain ⟨ar, har⟩ : ∃ e, ac[k]? = some e := ⟨_, List.getElem?_eq_getElem hlt⟩
  obtain ⟨nr, hnr⟩ : ∃ e, nx[k]? = some e := ⟨_, List.getElem?_eq_getElem (by omega)⟩
  obtain ⟨hsl, sa, ca, a0, ra⟩ := nest_sl (g := D.bool) g4 har
  obtain ⟨hul, sn, cn, b0, rb⟩ := nest_sl (g := intsD) g5 hnr
  obtain ⟨ra1, ra2⟩ := nest_bd ra
  obtain ⟨rb1, rb2⟩ := nest_bd rb
  unfold maxLen at ra2 rb2
  have A0 := Lib.hid a0
  have B0 := Lib.hid b0
  have Har := Lib.hid har
  have Hnr := Lib.hid hnr
  have hkz := Int.natCast_nonneg k
  have hkb : (k : Int) < (ac.length : Int) := by omega
  have hkc : (k : Int) < (nx.length : Int) := by omega
  clear a0 b0 har hnr
  by_cases hA : (ar.length : Int) = atomsN t
  rotate_left
  ·
   have C1 := Lib.hid (show autB t a ac nx = false from autB_no fun q => hA (q.st k ar nr Har.out Hnr.out).1)
   have bA : ((ar.length : Int) != atomsN t) = true := by simp [hA]
   clear hA
   obtain ⟨c0, c1', c2', c3', -, -⟩ := Hh.out.below HB.out
   simp only [Nat.zero_add] at c1' c2' c3'
   have a0 := (HB.out.cell (p := ⟨sb, so + k, none⟩) hsl).trans A0.out
   have b0 := (HB.out.cell (p := ⟨ub, uo + k, none⟩) hul).trans B0.out
   have gc0 := fun d os => cell_regrown c0 d os
   have gc1 := fun d os => cell_regrown c1' d os
   have gc2 := fun d os => cell_regrown c2' d os
   have gc3 := fun d os => cell_regrown c3' d os
   have ga0 := fun d os => cell_regrown a0 d os
   have gb0 := fun d os => cell_regrown b0 d os
   go_wp2_with fail
   refine Go.wp_region_quiet_below (by kernel_rfl) (by kernel_rfl) ?_
   repeat (first | go_big_quiet_step ((exact Calls.regrown_of (atomsIn_i ht0 ht1))) | quiet_step ((exact Calls.regrown_of (atomsIn_i ht0 ht1))))
   refine wpQuiet_nil ?_; intro _ hw'; obtain ⟨⟨dq, osq⟩, hw''⟩ := hw'; subst hw''; have hq := below_regrown wr dq osq; revert hq; generalize grow (redrawn wr dq) osq = w2; intro hq
   have HB2 := Lib.hid (show Below w0.heap.size w0 w2 from Below.on HB.out hq HB.out.size)
   have hBw := Lib.hid (HB0.out.trans (HB2.out.mono HZ.out))
   clear hq c0 c1' c2' c3' a0 b0 gc0 gc1 gc2 gc3 ga0 gb0
   go_wp2_with fail
   go_ret
   exact ⟨ret_bool (by rw [C1.out]), hBw.out⟩
  have bA : ((ar.length : Int) != atomsN t) = false := by simp [hA]
  have HA := Lib.hid hA
  clear hA
  by_cases hN : (nr.length : Int) = atomsN t
  rotate_left
  ·
   have C1 := Lib.hid (show autB t a ac nx = false from autB_no fun q => hN (q.st k ar nr Har.out Hnr.out).2.1)
   have bN : ((nr.length : Int) != atomsN t) = true := by simp [hN]
   clear hN
   obtain ⟨c0, c1', c2', c3', -, -⟩ := Hh.out.below HB.out
   simp only [Nat.zero_add] at c1' c2' c3'
   have a0 := (HB.out.cell (p := ⟨sb, so + k, none⟩) hsl).trans A0.out
   have b0 := (HB.out.cell (p := ⟨ub, uo + k, none⟩) hul).trans B0.out
   have gc0 := fun d os => cell_regrown c0 d os
   have gc1 := fun d os => cell_regrown c1' d os
   have gc2 := fun d os => cell_regrown c2' d os
   have gc3 := fun d os => cell_regrown c3' d os
   have ga0 := fun d os => cell_regrown a0 d os
   have gb0 := fun d os => cell_regrown b0 d os
   go_wp2_with fail
   refine Go.wp_region_quiet_below (by kernel_rfl) (by kernel_rfl) ?_
   repeat (first | go_big_quiet_step ((exact Calls.regrown_of (atomsIn_i ht0 ht1))) | quiet_step ((exact Calls.regrown_of (atomsIn_i ht0 ht1))))
   refine wpQuiet_nil ?_; intro _ hw'; obtain ⟨⟨dq, osq⟩, hw''⟩ := hw'; subst hw''; have hq := below_regrown wr dq osq; revert hq; generalize grow (redrawn wr dq) osq = w2; intro hq
   have HB2 := Lib.hid (show Below w0.heap.size w0 w2 from Below.on HB.out hq HB.out.size)
   have hBw := Lib.hid (HB0.out.trans (HB2.out.mono HZ.out))
   clear hq c0 c1' c2' c3' a0 b0 gc0 gc1 gc2 gc3 ga0 gb0
   go_wp2_with fail
   go_ret
   exact ⟨ret_bool (by rw [C1.out]), hBw.out⟩
  have bN : ((nr.length : Int) != atomsN t) = false := by simp [hN]
  have HN := Lib.hid hN
  clear hN
  obtain ⟨c0, c1', c2', c3', -, -⟩ := Hh.out.below HB.out
  simp only [Nat.zero_add] at c1' c2' c3'
  have a0 := (HB.out.cell (p := ⟨sb, so + k, none⟩) hsl).trans A0.out
  have b0 := (HB.out.cell (p := ⟨ub, uo + k, none⟩) hul).trans B0.out
  have gc0 := fun d os => cell_regrown c0 d os
  have gc1 := fun d os => cell_regrown c1' d os
  have gc2 := fun d os => cell_regrown c2' d os
  have gc3 := fun d os => cell_regrown c3' d os
  have ga0 := fun d os => cell_regrown a0 d os
  have gb0 := fun d os => cell_regrown b0 d os
  go_wp2_with fail
  refine Go.wp_region_quiet_below (by kernel_rfl) (by kernel_rfl) ?_
  repeat (first | go_big_quiet_step ((exact Calls.regrown_of (atomsIn_i ht0 ht1))) | quiet_step ((exact Calls.regrown_of (atomsIn_i ht0 ht1))))
  refine wpQuiet_nil ?_; intro _ hw'; obtain ⟨⟨dq, osq⟩, hw''⟩ := hw'; subst hw''; have hq := below_regrown wr dq osq; revert hq; generalize grow (redrawn wr dq) osq = w2; intro hq
  have HB2 := Lib.hid (show Below w0.heap.size w0 w2 from Below.on HB.out hq HB.out.size)
  have hBw := Lib.hid (HB0.out.trans (HB2.out.mono HZ.out))
  clear hq c0 c1' c2' c3' a0 b0 gc0 gc1 gc2 gc3 ga0 gb0
  clear bA bN HB hBw
  have HB := HB2
  clear HB2
  have hnp : 0 < nr.length := by have := HN.out; omega
  obtain ⟨vb, vo, rfl⟩ := nest_some (f := intsD) rb hnp
  have q1 : IntKind.i64.wrap ((ac.length : Int) - 1) = ac.length - 1 := wrap_of (by omega) (by omega)
  obtain ⟨c0, c1', c2', c3', -, -⟩ := Hh.out.below HB.out
  simp only [Nat.zero_add] at c1' c2' c3'
  have b0 := (HB.out.cell (p := ⟨ub, uo + k, none⟩) hul).trans B0.out
  go_wp2_with fail
  clear c0 c1' c2' c3' b0
  go_loopw [63] (fun i wr => ∃ j : Nat, j ≤ nr.length ∧ i = .int .i64 j ∧ RowsOk a ac.length nr j ∧ Below w0.heap.size w0 wr) (fun i _ => nr.length - (intOf i).toNat)
  case atStart => exact ⟨0, by omega, rfl, RowsOk.zero, HB.out⟩
  case round =>
   clear HB
   obtain ⟨j, hj, rfl, hro, hB⟩ := hrel
   have szB := hB.size
   have Hro := Lib.hid hro
   have HB := Lib.hid hB
   clear hro hB
   by_cases hjl : j < nr.length
   rotate_left
   ·
    have Hs' := Lib.hid (Hst.out.succ Har.out Hnr.out ⟨HA.out, HN.out, fun i row h => Hro.out i row (by have := (List.getElem?_eq_some_iff.1 h).1; omega) h⟩)
    go_wp2_with fail
    go_roundw
    case rel => exact ⟨k + 1, by omega, by go_num, Hs'.out, HB.out⟩
    case measure => simp [intOf]; omega
   obtain ⟨row, hrow⟩ : ∃ e, nr[j]? = some e := ⟨_, List.getElem?_eq_getElem hjl⟩
   obtain ⟨hvl, sr, cr, r0, rr⟩ := nest_sl (g := D.int) rb hrow
   obtain ⟨rr1, rr2⟩ := nest_bd rr
   unfold maxLen at rr2
   replace r0 := (HB.out.cell (p := ⟨vb, vo + j, none⟩) hvl).trans r0
   have Hrow := Lib.hid hrow
   have hjz := Int.natCast_nonneg j
   have hjb : (j : Int) < (nr.length : Int) := by omega
   clear hrow
   by_cases hA2 : (row.length : Int) = a
   rotate_left
   ·
    have C1 := Lib.hid (show autB t a ac nx = false from autB_no fun q => hA2 ((q.st k ar nr Har.out Hnr.out).2.2 j row Hrow.out).1)
    have bA : ((row.length : Int) != a) = true := by simp [hA2]
    have hBw := Lib.hid (HB0.out.trans (HB.out.mono HZ.out))
    clear hA2
    obtain ⟨c0, c1', c2', c3', -, -⟩ := Hh.out.below HB.out
    simp only [Nat.zero_add] at c1' c2' c3'
    go_wp2_with fail
    go_ret
    exact ⟨ret_bool (by rw [C1.out]), hBw.out⟩
   have bA : ((row.length : Int) != a) = false := by simp [hA2]
   have HA2 := Lib.hid hA2
   clear hA2
   obtain ⟨c0, c1', c2', c3', -, -⟩ := Hh.out.below HB.out
   simp only [Nat.zero_add] at c1' c2' c3'
   go_wp2_with fail
   clear bA r0 c0 c1' c2' c3'
   go_loopw [75] (fun i wr => ∃ l : Nat, l ≤ row.length ∧ i = .int .i64 l ∧ CellsOk ac.length row l ∧ Below w0.heap.size w0 wr) (fun i _ => row.length - (intOf i).toNat)
   case atStart => exact ⟨0, by omega, rfl, CellsOk.zero, HB.out⟩
   case round =>
    clear HB
    obtain ⟨l, hl, rfl, hce, hB⟩ := hrel
    have szB := hB.size
    have Hce := Lib.hid hce
    have HB := Lib.hid hB
    clear hce hB
    have hlz := Int.natCast_nonneg l
    by_cases hll : l < row.length
    rotate_left
    ·
     have Hs' := Lib.hid (Hro.out.succ Hrow.out ⟨HA2.out, fun i z h => Hce.out i z (by have := (List.getElem?_eq_some_iff.1 h).1; omega) h⟩)
     go_wp2_with fail
     go_roundw
     case rel => exact ⟨j + 1, by omega, by go_num, Hs'.out, HB.out⟩
     case measure => simp [intOf]; omega
    have hlb : (l : Int) < (row.length : Int) := by omega
    obtain ⟨z, hz⟩ : ∃ e, row[l]? = some e := ⟨_, List.getElem?_eq_getElem hll⟩
    obtain ⟨tb, to', rfl⟩ := nest_some (f := D.int) rr (by omega)
    obtain ⟨-, z0⟩ := int_in (rr.below HB.out) hz
    have Hz := Lib.hid hz
    clear hz
    go_wp2_with fail
    refine (within_any _ _ _ _).mono ?_
    rintro e w' ⟨rfl, rfl⟩
    cases hin : inB z (-1) (ac.length - 1)
    ·
     have C1 := Lib.hid (show autB t a ac nx = false from autB_no fun q => by
      have h1 := ((q.st k ar nr Har.out Hnr.out).2.2 j row Hrow.out).2 l z Hz.out
      have h2 : inB z (-1) (ac.length - 1) = true := by simp only [inB, Bool.and_eq_true, decide_eq_true_eq]; exact h1
      rw [h2] at hin
      cases hin)
     have hBw := Lib.hid (HB0.out.trans (HB.out.mono HZ.out))
     clear hin
     go_wp2_with fail
     go_ret
     exact ⟨ret_bool (by rw [C1.out]), hBw.out⟩
    ·
     have Hs' := Lib.hid (Hce.out.succ Hz.out hin)
     clear hin
     go_wp2_with fail
     go_roundw
     case rel => exact ⟨l + 1, by omega, by go_num, Hs'.out, HB.out⟩
     case measure => simp [intOf]; omega
end Go.Proofs.Ytfhlddbngjlhbaa

namespace Go.Proofs.Ytfhlddbngjlhbaa
set_option linter.unusedVariables false
set_option linter.unusedSimpArgs false
open Go.ChangeShapes Go.WideShapes Go.ChangeAt Go.RowKit Go.Sort
def cntsL (ac : List (List Bool)) (nx : List (List (List Int))) (k : Nat) : List (List Int) := (List.range k).map (cntN ac nx)
theorem cntsL_length (ac : List (List Bool)) (nx : List (List (List Int))) (k : Nat) : (cntsL ac nx k).length = k := by simp [cntsL]
theorem cntsL_at {ac : List (List Bool)} {nx : List (List (List Int))} {k i : Nat} (h : i < k) : (cntsL ac nx k)[i]? = some (cntN ac nx i) := by simp [cntsL, h]
theorem cntsL_succ (ac : List (List Bool)) (nx : List (List (List Int))) (k : Nat) : cntsL ac nx (k + 1) = cntsL ac nx k ++ [cntN ac nx k] := by simp [cntsL, List.range_succ]
theorem App.iid {W w : World} {t : TypeId} {xss : List (List Int)} {n : Nat} {v : Value} (h : App W w t 1 n (xss.map intsD) v) (hn : xss.length = n) : Rd w (nestD intsD xss) v := by
 subst hn
 exact h.rd
theorem App.freshN {α : Type} {f : α → D} {W w : World} {t : TypeId} {xs : List α} {n : Nat} {v : Value} (h : App W w t 1 n (xs.map f) v) (hn : xs.length = n) : Fresh W w (nestD f xs) v := by
 subst hn
 exact h.fresh
theorem App.sized {W w : World} {t : TypeId} {ds ds' : List D} {n n' : Nat} {v : Value} (h : App W w t 1 n ds v) (hd : ds = ds') (hn : n = n') : App W w t 1 n' ds' v := by
 subst hd hn
 exact h
set_option maxRecDepth 100000 in
set_option maxHeartbeats 16000000 in
theorem l02Counts_i {t a : Int} {ac : List (List Bool)} {nx : List (List (List Int))} {s u : Option Addr} {c d b o n : Nat} {w0 : World} (h : AutAt w0 b o t a ac nx s u c d) (hok : AutOk t a ac nx) (hn : n ≤ 10) :
  Calls Try.prog 45 #[.pointer (some ⟨b, o, none⟩), .int .i64 n] w0 fun e w' => ∃ s' c', e = .returned (.slice s' (n + 1) c') ∧ Fresh w0 w' (nestD intsD (cntsL ac nx (n + 1))) (.slice s' (n + 1) c') ∧ Below w0.heap.size w0 w' := by
 have g4 := h.2.2.2.2.1
 have g5 := h.2.2.2.2.2
 obtain ⟨hlen, hcap⟩ := nest_bd g4
 obtain ⟨hlen', hcap'⟩ := nest_bd g5
 unfold maxLen at hcap hcap'
 have hn1 := hok.lo
 have hn2 := hok.hi
 have hnl := Lib.hid hok.len
 have Hok := Lib.hid hok
 have Hh := Lib.hid h
 have h0 := App.empty (W := w0) (size := 1) (Blk.made w0 42 #[]) (Nat.le_refl _)
 clear hok h
 go_enter Try.func45, Try.ntmps45
 go_wp2_with fail
 go_loopw [5, 6] (fun v i wr => ∃ k : Nat, k ≤ n + 1 ∧ i = .int .i64 k ∧ App w0 wr 42 1 k ((cntsL ac nx k).map intsD) v ∧ Below w0.heap.size w0 wr) (fun _ i _ => n + 1 - (intOf i).toNat)
 case atStart => exact ⟨0, by omega, rfl, by simpa [cntsL] using h0, by (repeat' first | exact Below.refl _ _ | assumption | apply Below.alloc | apply Below.drew | apply Below.setCell | omega | (simp; done) | (simp; omega))⟩
 case round =>
  clear h0
  obtain ⟨k, hk, rfl, happ, hB⟩ := hrel
  have szB := hB.size
  obtain ⟨a', cap', rfl, hcap1, hcap2⟩ := happ.shape
  unfold maxLen at hcap2
  by_cases hkn : k ≤ n
  rotate_left
  ·
   obtain rfl : k = n + 1 := by omega
   have hf := happ.freshN (cntsL_length ac nx (n + 1))
   go_wp2_with fail
   go_ret
   exact ⟨a', cap', rfl, hf, hB⟩
  obtain ⟨wo, rfl⟩ : ∃ v, v = wr := ⟨_, rfl⟩
  have h1 := App.empty (W := wo) (size := 1) (Blk.made wo 2 #[]) (Nat.le_refl _)
  have hrd := happ.iid (cntsL_length ac nx k)
  have HA := Lib.hid happ
  have HB := Lib.hid hB
  have HR := Lib.hid hrd
  clear happ hB hrd
  go_wp2_with fail
  go_loopw [7, 8] (fun v i w2 => ∃ j : Nat, j ≤ ac.length ∧ i = .int .i64 j ∧ App wo w2 2 1 j (((cntN ac nx k).take j).map D.int) v ∧ Below wo.heap.size wo w2) (fun _ i _ => ac.length - (intOf i).toNat)
  case atStart => exact ⟨0, by omega, rfl, by simpa using h1, by (repeat' first | exact Below.refl _ _ | assumption | apply Below.alloc | apply Below.drew | apply Below.setCell | omega | (simp; done) | (simp; omega))⟩
  case round =>
   clear h1
   obtain ⟨j, hj, rfl, happ1, hB2⟩ := hrel
   obtain ⟨w2, rfl⟩ : ∃ v, v = wr := ⟨_, rfl⟩
   have hz2 := hB2.size
   obtain ⟨a1, cap1, rfl, hcap3, hcap4⟩ := happ1.shape
   unfold maxLen at hcap4
   have HA1 := Lib.hid happ1
   have HB2 := Lib.hid hB2
   have HBw := Lib.hid (HB.out.trans (hB2.mono szB))
   clear happ1 hB2
   by_cases hlt : j < ac.length
   rotate_left
   ·
    obtain rfl : j = ac.length := by omega
    have happ1 := HA1.out
    have HC := Lib.hid (cntsL_succ ac nx k)
    have HL := Lib.hid (cntN_length Hok.out k)
    have hf : Freshs wo w2 [intsD (cntN ac nx k)] [.slice a1 ac.length cap1] := Freshs.one (by
     have h1 := happ1
     rw [← HL.out, List.take_length] at h1
     rw [← HL.out]
     exact h1.freshN rfl)
    have hf2 := hf.on (Below.alloc (Below.refl _ _) (Nat.le_refl _) (.cells #[.slice a1 ac.length cap1] 42))
    have happ := HA.out
    obtain ⟨c0, c1', c2', c3', -, -⟩ := Hh.out.below HBw.out
    clear happ1 hf
    go_wp2_with (at_builtin; refine wpList_append_app _ rfl _ _ 76 rfl 42 (.slice none 0 0) 1 24 Try.underlying76 info_int64s rfl (by decide) _ rfl happ (HB2.out.alloc hz2 _) szB ⟨w2.heap.size, 0, none⟩ 1 1 [.slice a1 ac.length cap1] rfl (news_blk (Blk.made _ _ _)) hf2 rfl (by simp [Value.oneCell']) (by omega) (by omega) (by unfold maxLen; omega) ?_; intro g cap3 w3 happ3 hb3)
    have hB3 : Below w0.heap.size w0 w3 := (HBw.out.alloc (by omega) _).trans hb3
    have Hfin := Lib.hid (And.intro (happ3.sized (show _ = ((cntsL ac nx (k + 1)).map intsD) by rw [HC.out, List.map_append]; rfl) rfl) hB3)
    clear happ3 hb3 hB3 happ hf2
    go_wp2_with fail
    go_roundw
    case rel => exact ⟨k + 1, by omega, by go_num, Hfin.out.1, Hfin.out.2⟩
    case measure => simp [intOf]; omega
   obtain ⟨ar, har⟩ : ∃ e, ac[j]? = some e := ⟨_, List.getElem?_eq_getElem hlt⟩
   obtain ⟨nr, hnr⟩ : ∃ e, nx[j]? = some e := ⟨_, List.getElem?_eq_getElem (by have := hnl.out; omega)⟩
   obtain ⟨sb, so, rfl⟩ := nest_some (f := boolsD) g4 (by omega)
   obtain ⟨ub, uo, rfl⟩ := nest_some (f := iiD) g5 (by have := hnl.out; omega)
   obtain ⟨hsl, sa, ca, a0, ra⟩ := nest_sl (g := D.bool) (g4.below HBw.out) har
   obtain ⟨hul, sn, cn, b0, rb⟩ := nest_sl (g := intsD) (g5.below HBw.out) hnr
   obtain ⟨ra1, ra2⟩ := nest_bd ra
   obtain ⟨rb1, rb2⟩ := nest_bd rb
   unfold maxLen at ra2 rb2
   have hal : ar.length ≤ nr.length ∧ nr.length ≤ ar.length := by
    have h1 := Hok.out.acc_row har
    have h2 := (Hok.out.row hnr).1
    omega
   have hjz := Int.natCast_nonneg j
   have hjb : (j : Int) < (ac.length : Int) := by omega
   have hjc : (j : Int) < (nx.length : Int) := by have := hnl.out; omega
   obtain ⟨c0, c1', c2', c3', -, -⟩ := Hh.out.below HBw.out
   have hrec := HR.out.below HB2.out
   by_cases hk0 : k = 0
   ·
    have hq : (cntN ac nx k)[j]? = some (cnt0 ar) := by rw [hk0]; exact cntN_zero_at har
    have e0 : ((k : Int) == 0) = true := by simp [hk0]
    have e1 : decide ((0 : Int) < (k : Int)) = false := by simp [hk0]
    have e2 : decide (0 < k) = false := by simp [hk0]
    clear hk0
    have hbd := fun l => cnt0_bd Hok.out har l
    have Hbd := Lib.hid hbd
    have Hq := Lib.hid hq
    have Har := Lib.hid har
    have Hnr := Lib.hid hnr
    clear hbd hq har hnr
    go_wp2_with fail
    go_loop [9, 10] (fun q i => ∃ l : Nat, l ≤ ar.length ∧ i = .int .i64 l ∧ q = .int .i64 (cnt0 (ar.take l))) (fun _ i => ar.length - (intOf i).toNat)
    case atStart => exact ⟨0, by omega, rfl, by simp [cnt0, sumI]⟩
    case round =>
     obtain ⟨l, hl, rfl, rfl⟩ := hrel
     by_cases hll : l < ar.length
     rotate_left
     ·
      obtain rfl : l = ar.length := by omega
      obtain ⟨q, hqe⟩ : ∃ q, q = cnt0 ar := ⟨_, rfl⟩
      rw [List.take_length, ← hqe]
      have hq' := Hq.out
      rw [← hqe] at hq'
      have Hq := Lib.hid hq'
      clear hqe hq'
      have happ1 := HA1.out
      have Hst : Hid ((cntN ac nx k).take (j + 1) = (cntN ac nx k).take j ++ [q]) := by
       show _ = _
       obtain ⟨h1, h2⟩ := List.getElem?_eq_some_iff.1 Hq.out
       rw [List.take_succ_eq_append_getElem h1, h2]
      go_wp2_with (at_builtin; refine wpList_append_app _ rfl _ _ 42 rfl 2 (.int .i64 0) 1 8 Try.underlying42 info_int64 rfl (by decide) _ rfl happ1 (Below.alloc (Below.refl _ _) (Nat.le_refl _) _) hz2 ⟨w2.heap.size, 0, none⟩ 1 1 [.int .i64 q] rfl (news_blk (Blk.made _ _ _)) (Freshs.int q) rfl (by simp [Value.oneCell']) (by omega) (by omega) (by unfold maxLen; omega) ?_; intro g cap3 w3 happ3 hb3)
      have hB3 : Below wo.heap.size wo w3 := (HB2.out.alloc hz2 _).trans hb3
      have Hfin := Lib.hid (And.intro (happ3.sized (show _ = (((cntN ac nx k).take (j + 1)).map D.int) by rw [Hst.out, List.map_append]; rfl) rfl) hB3)
      clear happ1 happ3 hb3 hB3
      go_wp2_with fail
      go_roundw
      case rel => exact ⟨j + 1, by omega, by go_num, Hfin.out.1, Hfin.out.2⟩
      case measure => simp [intOf]; omega
     obtain ⟨z, hz⟩ : ∃ e, ar[l]? = some e := ⟨_, List.getElem?_eq_getElem hll⟩
     obtain ⟨rb', ro, rfl⟩ := nest_some (f := D.bool) ra (by omega)
     obtain ⟨-, z0⟩ := bool_in ra hz
     have hlz := Int.natCast_nonneg l
     have hlb : (l : Int) < (ar.length : Int) := by omega
     obtain ⟨k1, k2⟩ := Hbd.out l
     have Hs := Lib.hid (cnt0_succ hz)
     clear hz
     cases z
     all_goals
      go_wp2_with fail
      go_loop [9, 11] (fun q i => i = .int .i64 0 ∧ q = .int .i64 (cnt0 (ar.take (l + 1)))) (fun _ _ => 0)
      case atStart => exact ⟨rfl, by rw [Hs.out]; simp⟩
      case round =>
       obtain ⟨rfl, rfl⟩ := hrel
       go_wp2_with fail
       go_round
       case rel => exact ⟨l + 1, by omega, by go_num, rfl⟩
       case measure => simp [intOf]; omega
   ·
    obtain ⟨m0, hm0⟩ : ∃ m, k = m + 1 := ⟨k - 1, by omega⟩
    have hrow : (cntN ac nx k)[j]? = some (cntRows (cntN ac nx m0) nr) := by rw [hm0]; exact cntN_at hnr
    have e0 : ((k : Int) == 0) = false := by simp [hk0]
    have e1 : decide ((0 : Int) < (k : Int)) = true := by simp; omega
    have e2 : decide (0 < k) = true := by simp; omega
    have hmk : m0 < k := by omega
    have hm10 : m0 + 1 ≤ 10 := by omega
    have hbd := fun (i l : Nat) (row : List Int) (hi : nr[i]? = some row) => cnt_round Hok.out hm10 hnr hi l
    have hce := fun (i l : Nat) (row : List Int) (z : Int) (hi : nr[i]? = some row) (hl : row[l]? = some z) => cnt_cell Hok.out hm10 hnr hi hl
    obtain ⟨pb, po, rfl⟩ := nest_some hrec (by rw [cntsL_length]; omega)
    obtain ⟨hpl, sp, cp, p0, rp⟩ := nest_sl (g := D.int) hrec (cntsL_at (ac := ac) (nx := nx) hmk)
    have hpn := cntN_length Hok.out m0
    obtain ⟨sp', so', rfl⟩ := nest_some (f := D.int) rp (by omega)
    obtain ⟨rp1, rp2⟩ := nest_bd rp
    unfold maxLen at rp2
    have Hbd := Lib.hid hbd
    have Hce := Lib.hid hce
    have Hq := Lib.hid hrow
    have Hpn := Lib.hid hpn
    have hpn1 : (cntN ac nx m0).length ≤ ac.length := by omega
    have hpn2 : ac.length ≤ (cntN ac nx m0).length := by omega
    have q1 : IntKind.i64.wrap ((k : Int) - 1) = (m0 : Int) := by rw [show (k : Int) - 1 = (m0 : Int) by omega]; exact wrap_of (by omega) (by omega)
    have hm0z := Int.natCast_nonneg m0
    have hm0k : (m0 : Int) < (k : Int) := by omega
    clear hbd hce hrow har hnr hpn hm0 hk0
    go_wp2_with fail
    go_loop [9, 10] (fun q i => ∃ (l : Nat) (S : Int), l ≤ ar.length ∧ i = .int .i64 l ∧ q = .int .i64 S ∧ Hid (S = cntRows (cntN ac nx m0) (nr.take l))) (fun _ i => ar.length - (intOf i).toNat)
    case atStart => exact ⟨0, _, by omega, rfl, rfl, by show (0 : Int) = _; simp [cntRows, sumI]⟩
    case round =>
     obtain ⟨l, S, hl, rfl, rfl, HS⟩ := hrel
     by_cases hll : l < ar.length
     rotate_left
     ·
      obtain rfl : l = ar.length := by omega
      have hq : (cntN ac nx k)[j]? = some S := by
       have := HS.out
       rw [show ar.length = nr.length by omega, List.take_length] at this
       rw [this]
       exact Hq.out
      have Hq := Lib.hid hq
      clear hq
      obtain ⟨q, rfl⟩ : ∃ q, q = S := ⟨_, rfl⟩
      have happ1 := HA1.out
      have Hst : Hid ((cntN ac nx k).take (j + 1) = (cntN ac nx k).take j ++ [q]) := by
       show _ = _
       obtain ⟨h1, h2⟩ := List.getElem?_eq_some_iff.1 Hq.out
       rw [List.take_succ_eq_append_getElem h1, h2]
      go_wp2_with (at_builtin; refine wpList_append_app _ rfl _ _ 42 rfl 2 (.int .i64 0) 1 8 Try.underlying42 info_int64 rfl (by decide) _ rfl happ1 (Below.alloc (Below.refl _ _) (Nat.le_refl _) _) hz2 ⟨w2.heap.size, 0, none⟩ 1 1 [.int .i64 q] rfl (news_blk (Blk.made _ _ _)) (Freshs.int q) rfl (by simp [Value.oneCell']) (by omega) (by omega) (by unfold maxLen; omega) ?_; intro g cap3 w3 happ3 hb3)
      have hB3 : Below wo.heap.size wo w3 := (HB2.out.alloc hz2 _).trans hb3
      have Hfin := Lib.hid (And.intro (happ3.sized (show _ = (((cntN ac nx k).take (j + 1)).map D.int) by rw [Hst.out, List.map_append]; rfl) rfl) hB3)
      clear happ1 happ3 hb3 hB3
      go_wp2_with fail
      go_roundw
      case rel => exact ⟨j + 1, by omega, by go_num, Hfin.out.1, Hfin.out.2⟩
      case measure => simp [intOf]; omega
     have hln : l < nr.length := by omega
     obtain ⟨row, hrow⟩ : ∃ e, nr[l]? = some e := ⟨_, List.getElem?_eq_getElem hln⟩
     obtain ⟨vb, vo, rfl⟩ := nest_some (f := intsD) rb (by omega)
     obtain ⟨-, sr, cr, r0, rr⟩ := nest_sl (g := D.int) rb hrow
     obtain ⟨rr1, rr2⟩ := nest_bd rr
     unfold maxLen at rr2
     have hlz := Int.natCast_nonneg l
     have hlb : (l : Int) < (ar.length : Int) := by omega
     have hlc : (l : Int) < (nr.length : Int) := by omega
     have Hrow := Lib.hid hrow
     have Hs := Lib.hid (cntRows_succ (c := cntN ac nx m0) hrow)
     clear hrow
     go_wp2_with fail
     go_loop [9, 11] (fun q i => ∃ (m : Nat) (T : Int), m ≤ row.length ∧ i = .int .i64 m ∧ q = .int .i64 T ∧ Hid (T = cntRows (cntN ac nx m0) (nr.take l) + cntRow (cntN ac nx m0) (row.take m))) (fun _ i => row.length - (intOf i).toNat)
     case atStart => exact ⟨0, _, by omega, rfl, rfl, by show _ = _; rw [HS.out]; simp [cntRow, sumI]⟩
     case round =>
      obtain ⟨m, T, hm, rfl, rfl, HT⟩ := hrel
      by_cases hml : m < row.length
      rotate_left
      ·
       obtain rfl : m = row.length := by omega
       have HT2 : Hid (T = cntRows (cntN ac nx m0) (nr.take (l + 1))) := by show _ = _; rw [HT.out, List.take_length, Hs.out]
       go_wp2_with fail
       go_round
       case rel => exact ⟨l + 1, T, by omega, by go_num, rfl, HT2⟩
       case measure => simp [intOf]; omega
      obtain ⟨z, hz⟩ : ∃ e, row[m]? = some e := ⟨_, List.getElem?_eq_getElem hml⟩
      obtain ⟨tb, to', rfl⟩ := nest_some (f := D.int) rr (by omega)
      obtain ⟨-, z0⟩ := int_in rr hz
      have hmz := Int.natCast_nonneg m
      have hmb : (m : Int) < (row.length : Int) := by omega
      obtain ⟨t1, t2⟩ := Hbd.out l m row Hrow.out
      rw [← HT.out] at t1 t2
      obtain ⟨z1, z2, z3, z4⟩ := Hce.out l m row z Hrow.out hz
      clear hz
      by_cases hneg : z < 0
      ·
       have HT2 : Hid (T = cntRows (cntN ac nx m0) (nr.take l) + cntRow (cntN ac nx m0) (row.take (m + 1))) := by show _ = _; rw [HT.out, z4 hneg]
       clear z3 z4
       go_wp2_with fail
       go_round
       case rel => exact ⟨m + 1, T, by omega, by go_num, rfl, HT2⟩
       case measure => simp [intOf]; omega
      ·
       obtain ⟨zn, rfl⟩ : ∃ zn : Nat, z = (zn : Int) := ⟨z.toNat, by omega⟩
       obtain ⟨v, hv, v1, v2, v3⟩ := z3 (by omega)
       rw [Int.toNat_natCast] at hv
       obtain ⟨-, x0⟩ := int_in rp hv
       have HT2 : Hid (T + v = cntRows (cntN ac nx m0) (nr.take l) + cntRow (cntN ac nx m0) (row.take (m + 1))) := by show _ = _; rw [HT.out, v3]; omega
       have hzn := Int.natCast_nonneg zn
       have hznb : (zn : Int) < ((cntN ac nx m0).length : Int) := by omega
       clear z3 z4 hv v3
       go_wp2_with fail
       go_round
       case rel => exact ⟨m + 1, T + v, by omega, by go_num, by go_num, HT2⟩
       case measure => simp [intOf]; omega
end Go.Proofs.Ytfhlddbngjlhbaa

namespace Go.Proofs.Ytfhlddbngjlhbaa
set_option linter.unusedVariables false
set_option linter.unusedSimpArgs false
open Go.ChangeShapes Go.WideShapes Go.ChangeAt Go.RowKit Go.Deep Go.Sort
theorem WdB.freshs {W w : World} {B wb : Nat} {xs ys : List Int} {va vb : Value} (h : WdB B w wb xs ys va vb) (hB : W.heap.size ≤ B) : Freshs W w (wordD xs ys) [va, vb] := by
 obtain ⟨F, G, h1, h2, h3, h4, h5, h6⟩ := h.owns
 refine ⟨F ++ (G ++ []), Ows.cons h1 (Ows.cons h3 Ows.nil), ?_, ?_⟩
 ·
  rw [List.append_nil, List.nodup_append]
  exact ⟨h2, h4, fun a ha b hb e => (h5 a ha).2.2 (by rw [e]; exact hb)⟩
 ·
  intro b hm
  rw [List.append_nil] at hm
  rcases List.mem_append.1 hm with hm | hm
  ·
   have := (h5 b hm).1; omega
  ·
   have := (h6 b hm).1; omega
end Go.Proofs.Ytfhlddbngjlhbaa
