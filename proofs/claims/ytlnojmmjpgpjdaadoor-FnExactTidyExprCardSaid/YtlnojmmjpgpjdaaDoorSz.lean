/-
  The law's own count of an expression's nodes: szExpr.
-/
import Derived.Test.YtlnojmmjpgpjdaaDoorExpr
import Derived.Test.YtlnojmmjpgpjdaaDoorOwn
namespace Go.Proofs.YtlnojmmjpgpjdaaDoor
open Go.ChangeShapes Go.WideShapes Go.ChangeAt Go.RowKit

/-- What is left of a number when a list's nodes are counted: less than 0, or as many less at least. -/
def Szd (n : Nat) (left : Int) (e : Ending) : Prop := ∃ r : Int, e = .returned (.int .i64 r) ∧ r ≤ left ∧ -1 ≤ r ∧ (0 ≤ r → (n : Int) + r ≤ left)

def SzS (N : Nat) : Prop := ∀ (ks : List Ex) (s : Option Addr) (cap : Nat) (left : Int) (w : World), Ex.sizeL ks ≤ N → Rd w (kidsD ks) (.slice s ks.length cap) → 0 ≤ left → left ≤ 1048576 →
    Calls Tryd.prog 35 #[.slice s ks.length cap, .int .i64 left] w fun e w' => Szd (Ex.sizeL ks) left e ∧ Below w.heap.size w w'

theorem szExpr_of {N : Nat} (hS : SzS N) (k n : Int) (ks : List Ex) (s : Option Addr) (cap : Nat) (left : Int) (w : World) (hN : Ex.sizeL ks ≤ N) (hr : Rd w (kidsD ks) (.slice s ks.length cap)) (h0 : 0 ≤ left) (h1 : left ≤ 1048576) :
    Calls Tryd.prog 12 #[.agg #[.int .i64 k, .int .i64 n, .slice s ks.length cap], .int .i64 left] w fun e w' => Szd (Ex.sizeL ks) left e ∧ Below w.heap.size w w' := by
  go_enter Tryd.func12, Tryd.ntmps12
  go_wp2_with fail
  refine (hS ks s cap left _ hN (hr.alloc _) h0 h1).mono ?_
  rintro e w1 ⟨⟨r, rfl, r1, r2, r3⟩, hb⟩
  have hB : Below w.heap.size w w1 := Below.on (by (repeat' (first | exact Below.refl _ _ | assumption | (refine Below.alloc ?_ (by first | omega | (simp; done) | (simp; omega)) _) | (refine Below.drew ?_) | (refine Below.setCell ?_ (by first | omega | (simp; done) | (simp; omega)) _)))) hb (by simp)
  clear hb
  go_wp2
  · go_ret
    exact ⟨⟨-1, rfl, by omega, by omega, by omega⟩, hB⟩
  · go_ret
    exact ⟨⟨r, rfl, r1, r2, r3⟩, hB⟩

set_option maxHeartbeats 400000 in
theorem szExprS_all (N : Nat) : SzS N := by
  induction N using Nat.strongRecOn with
  | _ N ih =>
  intro ks s cap left w hN hr h0 h1
  obtain ⟨-, hlen, hcap, -, -⟩ := kid_at hr
  unfold maxLen at hcap
  have hsz := Ex.length_le_sizeL ks
  by_cases hneg : left - (ks.length : Int) < 0
  · go_enter Tryd.func35, Tryd.ntmps35
    go_wp2_with fail
    go_ret
    exact ⟨⟨-1, rfl, by omega, by omega, by omega⟩, Below.refl _ _⟩
  · have hd : decide (left - (ks.length : Int) < 0) = false := by simpa using hneg
    go_enter Tryd.func35, Tryd.ntmps35
    go_wp2_with fail
    go_loopw [1, 5] (fun l i wr => ∃ (k : Nat) (r : Int), k ≤ ks.length ∧ i = .int .i64 k ∧ l = .int .i64 r ∧ 0 ≤ r ∧ (ks.length : Int) + (Ex.sizeL (ks.take k) : Int) - k + r ≤ left ∧ r ≤ left ∧ Below w.heap.size w wr) (fun _ i _ => ks.length - (intOf i).toNat)
    case atStart => exact ⟨0, _, by omega, rfl, rfl, by omega, by simp [Ex.sizeL]; omega, by omega, Below.refl _ _⟩
    case round =>
      obtain ⟨k, r, hk, rfl, rfl, hr0, hr1, hr2, hB⟩ := hrel
      by_cases hlt : k < ks.length
      · obtain ⟨e, he⟩ : ∃ e, ks[k]? = some e := ⟨_, List.getElem?_eq_getElem hlt⟩
        obtain ⟨b, o, rfl⟩ := kid_some hr (by intro h; simp [h] at hlt)
        obtain ⟨hbl, s', c', g0, g1, g2, gr⟩ := kid_in (hr.below hB) he
        have hse := Ex.size_eq e
        have hmem := Ex.sizeL_mem (List.mem_of_getElem? he)
        have htk := Ex.sizeL_take_succ he
        have Htk := Lib.hid htk
        have Hse := Lib.hid hse
        have hlt' : Ex.sizeL e.kids < N := by omega
        clear htk hse
        go_wp2_with fail
        refine (szExpr_of (ih _ hlt') _ _ _ _ _ _ _ (Nat.le_refl _) gr hr0 (by omega)).mono ?_
        rintro e1 w1 ⟨⟨r', rfl, r1, r2, r3⟩, hb⟩
        have hB1 : Below w.heap.size w w1 := Below.on hB hb hB.size
        by_cases hr' : r' < 0
        · go_wp2_with fail
          go_ret
          exact ⟨⟨-1, rfl, by omega, by omega, by omega⟩, hB1⟩
        · have hd' : decide (r' < 0) = false := by simpa using hr'
          go_wp2_with fail
          go_roundw
          case rel =>
            have := Htk.out
            have := Hse.out
            exact ⟨k + 1, r', by omega, by go_num, rfl, by omega, by omega, by omega, hB1⟩
          case measure => simp [intOf]; omega
      · obtain rfl : k = ks.length := by omega
        have hfull : Ex.sizeL (ks.take ks.length) = Ex.sizeL ks := by rw [List.take_length]
        have H := Lib.hid hfull
        clear hfull
        go_wp2_with fail
        go_ret
        have := H.out
        exact ⟨⟨r, rfl, by omega, by omega, by omega⟩, hB⟩

/-- The count of a list's nodes, from a number that is not too large. -/
theorem szExprS_any (ks : List Ex) (s : Option Addr) (cap : Nat) (left : Int) (w : World) (hr : Rd w (kidsD ks) (.slice s ks.length cap)) (h0 : 0 ≤ left) (h1 : left ≤ 1048576) :
    Calls Tryd.prog 35 #[.slice s ks.length cap, .int .i64 left] w fun e w' => Szd (Ex.sizeL ks) left e ∧ Below w.heap.size w w' :=
  szExprS_all _ ks s cap left w (Nat.le_refl _) hr h0 h1

theorem szExpr_i {k n : Int} {ks : List Ex} {s : Option Addr} {cap : Nat} {left : Int} {w : World} (hr : Rd w (kidsD ks) (.slice s ks.length cap)) (h0 : 0 ≤ left) (h1 : left ≤ 1048576) :
    Calls Tryd.prog 12 #[.agg #[.int .i64 k, .int .i64 n, .slice s ks.length cap], .int .i64 left] w fun e w' => Szd (Ex.sizeL ks) left e ∧ Below w.heap.size w w' :=
  szExpr_of (szExprS_all _) k n ks s cap left w (Nat.le_refl _) hr h0 h1

end Go.Proofs.YtlnojmmjpgpjdaaDoor
