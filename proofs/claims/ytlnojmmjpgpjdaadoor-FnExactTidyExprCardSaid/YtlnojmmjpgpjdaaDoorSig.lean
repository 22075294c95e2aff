/-
  Signatures and single numbers: contracts of toSig, ValidSig, within, l00In.
-/
import Derived.Test.YtlnojmmjpgpjdaaDoorOwn
namespace Go.Proofs.YtlnojmmjpgpjdaaDoor
open Go.ChangeShapes Go.WideShapes Go.ChangeAt Go.RowKit

/-- A number lies between two others. -/
def inB (n lo hi : Int) : Bool := decide (lo ≤ n) && decide (n ≤ hi)
/-- A signature is valid. -/
def sigB (t a : Int) : Bool := inB t 0 3 && inB a 0 4

theorem within_any (n lo hi : Int) (w : World) : Calls Tryd.prog 57 #[.int .i64 n, .int .i64 lo, .int .i64 hi] w fun e w' => e = .returned (.bool (inB n lo hi)) ∧ w = w' := by
  by_cases h1 : lo ≤ n
  · by_cases h2 : n ≤ hi
    · have e1 : inB n lo hi = true := by simp [inB, h1, h2]
      rw [e1]
      go_enter Tryd.func57, Tryd.ntmps57
      go_wp2
      go_ret
      exact ⟨rfl, rfl⟩
    · have e1 : inB n lo hi = false := by simp [inB, h2]
      rw [e1]
      go_enter Tryd.func57, Tryd.ntmps57
      go_wp2
      go_ret
      exact ⟨rfl, rfl⟩
  · have e1 : inB n lo hi = false := by simp [inB, h1]
    rw [e1]
    go_enter Tryd.func57, Tryd.ntmps57
    go_wp2
    go_ret
    exact ⟨rfl, rfl⟩

theorem in_any (n lo hi : Int) (w : World) : Calls Tryd.prog 48 #[.int .i64 n, .int .i64 lo, .int .i64 hi] w fun e w' => e = .returned (.bool (inB n lo hi)) ∧ w = w' := by
  by_cases h1 : lo ≤ n
  · by_cases h2 : n ≤ hi
    · have e1 : inB n lo hi = true := by simp [inB, h1, h2]
      rw [e1]
      go_enter Tryd.func48, Tryd.ntmps48
      go_wp2
      go_ret
      exact ⟨rfl, rfl⟩
    · have e1 : inB n lo hi = false := by simp [inB, h2]
      rw [e1]
      go_enter Tryd.func48, Tryd.ntmps48
      go_wp2
      go_ret
      exact ⟨rfl, rfl⟩
  · have e1 : inB n lo hi = false := by simp [inB, h1]
    rw [e1]
    go_enter Tryd.func48, Tryd.ntmps48
    go_wp2
    go_ret
    exact ⟨rfl, rfl⟩

theorem toSig_any (t a : Int) (w : World) : Calls Tryd.prog 14 #[.agg #[.int .i64 t, .int .i64 a]] w fun e w' => e = .returned (.agg #[.int .i64 t, .int .i64 a]) ∧ Below w.heap.size w w' := by
  go_enter Tryd.func14, Tryd.ntmps14
  go_wp2
  exact bodyPost_ret (v := .agg #[.int .i64 t, .int .i64 a]) (by simp [results, Tryd.results14, go_sem]) rfl ⟨rfl, by (repeat' (first | exact Below.refl _ _ | assumption | (refine Below.alloc ?_ (by first | omega | (simp; done) | (simp; omega)) _) | (refine Below.drew ?_) | (refine Below.setCell ?_ (by first | omega | (simp; done) | (simp; omega)) _)))⟩

theorem l01Sig_any (t a : Int) (w : World) : Calls Tryd.prog 47 #[.agg #[.int .i64 t, .int .i64 a]] w fun e w' => e = .returned (.bool (sigB t a)) ∧ Below w.heap.size w w' := by
  go_enter Tryd.func47, Tryd.ntmps47
  go_wp2_with ((go_at_call 48; ((with_reducible refine (in_any _ _ _ _).mono ?_); rintro e w' ⟨rfl, rfl⟩)))
  all_goals go_ret
  all_goals exact ⟨by simp [sigB, *], by (repeat' (first | exact Below.refl _ _ | assumption | (refine Below.alloc ?_ (by first | omega | (simp; done) | (simp; omega)) _) | (refine Below.drew ?_) | (refine Below.setCell ?_ (by first | omega | (simp; done) | (simp; omega)) _)))⟩

theorem implValidSig_any (t a : Int) (w : World) : Calls Tryd.prog 55 #[.agg #[.int .i64 t, .int .i64 a]] w fun e w' => e = .returned (.bool (sigB t a)) ∧ Below w.heap.size w w' := by
  go_enter Tryd.func55, Tryd.ntmps55
  go_wp2_with ((go_at_call 57; ((with_reducible refine (within_any _ _ _ _).mono ?_); rintro e w' ⟨rfl, rfl⟩)))
  all_goals go_ret
  all_goals exact ⟨by simp [sigB, *], by (repeat' (first | exact Below.refl _ _ | assumption | (refine Below.alloc ?_ (by first | omega | (simp; done) | (simp; omega)) _) | (refine Below.drew ?_) | (refine Below.setCell ?_ (by first | omega | (simp; done) | (simp; omega)) _)))⟩

end Go.Proofs.YtlnojmmjpgpjdaaDoor
