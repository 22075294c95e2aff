/-
  Slices of slices as data. No program in sight.
-/
import Derived.Test.YtahehcalmbmbpaaDoorMark
namespace Go.Proofs.YtahehcalmbmbpaaDoor
open Go.ChangeShapes Go.WideShapes Go.ChangeAt Go.RowKit Go.Deep

/-- A slice whose elements are one cell each. -/
def nestD {α : Type} (f : α → D) (xs : List α) : D := .sl 1 xs.length (xs.map f)
def boolsD (bs : List Bool) : D := nestD D.bool bs
def bbD (xs : List (List Bool)) : D := nestD boolsD xs
def iiD (xs : List (List Int)) : D := nestD intsD xs
def iiiD (xs : List (List (List Int))) : D := nestD iiD xs
def accL {α : Type} (c : α → Nat) : List α → Nat
  | [] => 0
  | x :: r => c x + accL c r
section
variable {α : Type}
theorem accL_append (c : α → Nat) : ∀ a b : List α, accL c (a ++ b) = accL c a + accL c b
  | [], b => by simp [accL]
  | x :: a, b => by simp only [List.cons_append, accL, accL_append c a b]; omega
theorem accL_take_succ {c : α → Nat} {xs : List α} {i : Nat} {x : α} (h : xs[i]? = some x) : accL c (xs.take (i + 1)) = accL c (xs.take i) + c x := by
  obtain ⟨hi, rfl⟩ := List.getElem?_eq_some_iff.1 h
  rw [List.take_succ_eq_append_getElem hi, accL_append]
  simp [accL]
theorem accL_take_le (c : α → Nat) (xs : List α) (i : Nat) : accL c (xs.take i) ≤ accL c xs := by
  have := accL_append c (xs.take i) (xs.drop i)
  rw [List.take_append_drop] at this
  omega
theorem accL_mem {c : α → Nat} {xs : List α} {i : Nat} {x : α} (h : xs[i]? = some x) : c x ≤ accL c xs := by
  have h1 := accL_take_succ (c := c) h
  have h2 := accL_take_le c xs (i + 1)
  omega
variable {w : World} {f : α → D} {xs : List α}
theorem nest_in {b o len cap : Nat} (h : Rd w (nestD f xs) (.slice (some ⟨b, o, none⟩) len cap)) {i : Nat} {x : α} (hx : xs[i]? = some x) : b < w.heap.size ∧ ∃ v, w.cell? ⟨b, o + i, none⟩ = some v ∧ Rd w (f x) v := by
  obtain ⟨_, _, _, _, _, h4⟩ := Rd.sl_at h
  rcases h4 with h4 | ⟨b', o', e1, h4⟩
  · have := (List.getElem?_eq_some_iff.1 hx).1
    omega
  · simp only [Option.some.injEq, Addr.mk.injEq, and_true] at e1
    obtain ⟨rfl, rfl⟩ := e1
    obtain ⟨v, h5, h6⟩ := h4 i (f x) (by rw [List.getElem?_map, hx]; rfl)
    exact ⟨World.block_lt_of_cell? w _ h5, v, h5, h6⟩
theorem nest_some {a : Option Addr} {len cap : Nat} (h : Rd w (nestD f xs) (.slice a len cap)) (hk : 0 < xs.length) : ∃ b o, a = some ⟨b, o, none⟩ := by
  obtain ⟨_, _, _, _, _, h4⟩ := Rd.sl_at h
  rcases h4 with h4 | ⟨b, o, e, _⟩
  · omega
  · exact ⟨b, o, e⟩
theorem nest_bd {a : Option Addr} {len cap : Nat} (h : Rd w (nestD f xs) (.slice a len cap)) : xs.length ≤ cap ∧ cap ≤ maxLen := by
  obtain ⟨_, h2, h3, _⟩ := Rd.sl_at h
  exact ⟨h2, h3⟩
/-- An element that is a slice. -/
theorem nest_sl {β : Type} {g : β → D} {ys : List (List β)} {b o len cap : Nat} (h : Rd w (nestD (nestD g) ys) (.slice (some ⟨b, o, none⟩) len cap)) {i : Nat} {x : List β} (hx : ys[i]? = some x) :
    b < w.heap.size ∧ ∃ s c, w.cell? ⟨b, o + i, none⟩ = some (.slice s x.length c) ∧ Rd w (nestD g x) (.slice s x.length c) := by
  obtain ⟨h1, v, h2, h3⟩ := nest_in h hx
  obtain ⟨s, c, rfl, _⟩ := Rd.slice h3
  exact ⟨h1, s, c, h2, h3⟩
theorem marksL_map : ∀ xs : List α, D.marksL (xs.map f) = accL (fun x => (f x).marks) xs
  | [] => rfl
  | x :: r => by simp only [List.map_cons, D.marksL, accL, marksL_map r]
theorem map_at {i : Nat} {x : α} (h : xs[i]? = some x) : (xs.map f)[i]? = some (f x) := by rw [List.getElem?_map, h]; rfl
theorem map_take_marks (i : Nat) : D.marksL ((xs.map f).take i) = accL (fun x => (f x).marks) (xs.take i) := by rw [← List.map_take, marksL_map]
/-- One element more of a row of slices. -/
theorem Part.nest {w' : World} {g t len k : Nat} {x : α} {v : Value} (h : Part w g t ((xs.take k).map f) len) (hx : xs[k]? = some x) (hf : Fresh w w' (f x) v) (hb : Below w.heap.size w w') (hk : k + 1 ≤ len) :
    Part (w'.setCell ⟨g, k, none⟩ v) g t ((xs.take (k + 1)).map f) len := by
  obtain ⟨hlt, rfl⟩ := List.getElem?_eq_some_iff.1 hx
  obtain ⟨F, h1, h2, h3⟩ := hf
  rw [List.take_succ_eq_append_getElem hlt, List.map_append]
  exact h.one hb h1 h2 h3 (by simp; omega) hk
theorem Part.bool {bs : List Bool} {g t len k : Nat} {z : Bool} (h : Part w g t ((bs.take k).map D.bool) len) (hz : bs[k]? = some z) (hk : k + 1 ≤ len) :
    Part (w.setCell ⟨g, k, none⟩ (.bool z)) g t ((bs.take (k + 1)).map D.bool) len := by
  obtain ⟨hlt, rfl⟩ := List.getElem?_eq_some_iff.1 hz
  rw [List.take_succ_eq_append_getElem hlt, List.map_append]
  exact h.one (Below.refl _ _) (Ow.bool _) (by simp) (by simp) (by simp; omega) hk
theorem bool_in {bs : List Bool} {b o len cap : Nat} (h : Rd w (boolsD bs) (.slice (some ⟨b, o, none⟩) len cap)) {i : Nat} {z : Bool} (hz : bs[i]? = some z) : b < w.heap.size ∧ w.cell? ⟨b, o + i, none⟩ = some (.bool z) := by
  obtain ⟨h1, v, h2, h3⟩ := nest_in h hz
  simp only [Rd] at h3
  subst h3
  exact ⟨h1, h2⟩
end
theorem bools_marks : ∀ zs : List Bool, (boolsD zs).marks = zs.length := by
  intro zs
  show D.marksL (zs.map D.bool) = zs.length
  induction zs with
  | nil => rfl
  | cons z r ih => simp only [List.map_cons, D.marksL, D.marks, ih, List.length_cons]; omega
theorem bools_take (zs : List Bool) (i : Nat) (h : i ≤ zs.length) : D.marksL ((zs.map D.bool).take i) = i := by
  rw [← List.map_take]
  have := bools_marks (zs.take i)
  rw [List.length_take, Nat.min_eq_left h] at this
  exact this
theorem mark_bool {z : Bool} {q : Nat} : D.mark (.bool z) q = .bool ((q : Int) % 3 == 0) := by
  simp only [D.mark]
  congr 2
/-- What was compared so far is the same. -/
theorem take_same {α : Type} {xs ys : List α} {k : Nat} {x : α} (hx : xs[k]? = some x) (hy : ys[k]? = some x) (h : xs.take k = ys.take k) : xs.take (k + 1) = ys.take (k + 1) := by
  obtain ⟨h1, e1⟩ := List.getElem?_eq_some_iff.1 hx
  obtain ⟨h2, e2⟩ := List.getElem?_eq_some_iff.1 hy
  rw [List.take_succ_eq_append_getElem h1, List.take_succ_eq_append_getElem h2, h, e1, e2]
end Go.Proofs.YtahehcalmbmbpaaDoor
