/-
  Words of a signature: atoms, inRange, isTrace, isWord, l01Word, ValidWord of both.
-/
import Derived.Test.YtlnojmmjpgpjdaaDoorInts
import Derived.Test.YtlnojmmjpgpjdaaDoorSig
namespace Go.Proofs.YtlnojmmjpgpjdaaDoor
open Go.ChangeShapes Go.WideShapes Go.ChangeAt Go.RowKit Go.Sort

/-- The number of atoms. -/
def atomsN (t : Int) : Int := if t = 0 then 1 else if t = 1 then 2 else if t = 2 then 4 else 8
theorem atomsN_bd (t : Int) : 1 ≤ atomsN t ∧ atomsN t ≤ 8 := by unfold atomsN; split <;> (try split) <;> (try split) <;> omega

/-- All numbers from 0 to one less than a number. -/
def allIn (zs : List Int) (n : Int) : Bool := zs.all fun z => inB z 0 (n - 1)
theorem allIn_take_succ {zs : List Int} {n : Int} {i : Nat} {z : Int} (h : zs[i]? = some z) : allIn (zs.take (i + 1)) n = (allIn (zs.take i) n && inB z 0 (n - 1)) := by
  obtain ⟨hi, rfl⟩ := List.getElem?_eq_some_iff.1 h
  unfold allIn
  rw [List.take_succ_eq_append_getElem hi, List.all_append]
  congr 1
  simp
theorem allIn_false {zs : List Int} {n : Int} {i : Nat} {z : Int} (h : zs[i]? = some z) (hc : inB z 0 (n - 1) = false) : allIn zs n = false := by
  unfold allIn
  rw [List.all_eq_false]
  exact ⟨z, List.mem_of_getElem? h, by simp [hc]⟩

/-- A word of a signature. -/
def wordB (t a : Int) (xs ys : List Int) : Bool := sigB t a && decide (ys.length ≤ 10) && decide (xs.length = ys.length + 1) && allIn xs (atomsN t) && allIn ys a

theorem sigB_bd {t a : Int} (h : sigB t a = true) : 0 ≤ t ∧ t ≤ 3 ∧ 0 ≤ a ∧ a ≤ 4 := by
  simp [sigB, inB] at h
  omega

theorem within_B (n lo hi : Int) (w : World) : Calls Tryd.prog 57 #[.int .i64 n, .int .i64 lo, .int .i64 hi] w fun e w' => e = .returned (.bool (inB n lo hi)) ∧ Below w.heap.size w w' :=
  (within_any n lo hi w).mono fun _ _ ⟨h1, h2⟩ => ⟨h1, below_self h2⟩
theorem in_B (n lo hi : Int) (w : World) : Calls Tryd.prog 48 #[.int .i64 n, .int .i64 lo, .int .i64 hi] w fun e w' => e = .returned (.bool (inB n lo hi)) ∧ Below w.heap.size w w' :=
  (in_any n lo hi w).mono fun _ _ ⟨h1, h2⟩ => ⟨h1, below_self h2⟩

theorem atomsIn_i {t a : Int} {w : World} (h0 : 0 ≤ t) (h1 : t ≤ 3) : Calls Tryd.prog 56 #[.agg #[.int .i64 t, .int .i64 a]] w fun e w' => e = .returned (.int .i64 (atomsN t)) ∧ Below w.heap.size w w' := by
  have h : t = 0 ∨ t = 1 ∨ t = 2 ∨ t = 3 := by omega
  rcases h with h | h | h | h
  all_goals
    subst h
    go_enter Tryd.func56, Tryd.ntmps56
    go_wp2
    go_ret
    exact ⟨rfl, by (repeat' (first | exact Below.refl _ _ | assumption | (refine Below.alloc ?_ (by first | omega | (simp; done) | (simp; omega)) _) | (refine Below.drew ?_) | (refine Below.setCell ?_ (by first | omega | (simp; done) | (simp; omega)) _)))⟩

theorem l01Atoms_i {t a : Int} {w : World} (h0 : 0 ≤ t) (h1 : t ≤ 3) : Calls Tryd.prog 49 #[.agg #[.int .i64 t, .int .i64 a]] w fun e w' => e = .returned (.int .i64 (atomsN t)) ∧ Below w.heap.size w w' := by
  have h : t = 0 ∨ t = 1 ∨ t = 2 ∨ t = 3 := by omega
  rcases h with h | h | h | h
  all_goals
    subst h
    go_enter Tryd.func49, Tryd.ntmps49
    go_wp2
    go_ret
    exact ⟨rfl, by (repeat' (first | exact Below.refl _ _ | assumption | (refine Below.alloc ?_ (by first | omega | (simp; done) | (simp; omega)) _) | (refine Below.drew ?_) | (refine Below.setCell ?_ (by first | omega | (simp; done) | (simp; omega)) _)))⟩

/-- A word lies at an address. -/
def WdAt (w : World) (b o : Nat) (xs ys : List Int) : Prop := ∃ s c t d, w.cell? ⟨b, o, none⟩ = some (.slice s xs.length c) ∧ w.cell? ⟨b, o + 1, none⟩ = some (.slice t ys.length d) ∧
  Rd w (intsD xs) (.slice s xs.length c) ∧ Rd w (intsD ys) (.slice t ys.length d)
theorem WdAt.below {w w' : World} {b o : Nat} {xs ys : List Int} (h : WdAt w b o xs ys) (hb : Below w.heap.size w w') : WdAt w' b o xs ys := by
  obtain ⟨s, c, t, d, h0, h1, h2, h3⟩ := h
  have hl : b < w.heap.size := World.block_lt_of_cell? w _ h0
  exact ⟨s, c, t, d, (hb.cell (p := ⟨b, o, none⟩) hl).trans h0, (hb.cell (p := ⟨b, o + 1, none⟩) hl).trans h1, h2.below hb, h3.below hb⟩

theorem wrap_of {n : Int} (h0 : -1000000 ≤ n) (h1 : n ≤ 1000000000000000000) : IntKind.i64.wrap n = n := IntWalk.i64_in n (by omega)

/-- A word of a signature that is valid. -/
def traceB (t a : Int) (xs ys : List Int) : Bool := decide (xs.length = ys.length + 1) && (allIn xs (atomsN t) && allIn ys a)

end Go.Proofs.YtlnojmmjpgpjdaaDoor
