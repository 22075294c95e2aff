/-
  Conditions at atoms: l01True, truth, isAtom, l02Atom, TruthAt; l02Empty, emptyAt, EmptyAt.
-/
import Derived.Test.YtlnojmmjpgpjdaaDoorShaped
namespace Go.Proofs.YtlnojmmjpgpjdaaDoor
open Go.ChangeShapes Go.WideShapes Go.ChangeAt Go.RowKit Go.Sort

/-- A bit of an atom. -/
def bitB (atom n : Int) : Bool := (atom / 2 ^ n.toNat) % 2 == 1
def truC (atom k n : Int) (bs : List Bool) : Bool :=
  if k = 2 then true else if k = 3 then bitB atom n else if k = 5 then !(bs.getD 0 false) else if k = 6 then (bs.getD 0 false || bs.getD 1 false) else if k = 7 then (bs.getD 0 false && bs.getD 1 false) else false
mutual
/-- A condition at an atom. -/
def Ex.tru (atom : Int) : Ex → Bool
  | .mk k n ks => truC atom k n (Ex.truL atom ks)
def Ex.truL (atom : Int) : List Ex → List Bool
  | [] => []
  | e :: r => Ex.tru atom e :: Ex.truL atom r
end
theorem Ex.tru_eq (atom : Int) (e : Ex) : e.tru atom = truC atom e.kind e.num (Ex.truL atom e.kids) := by cases e; simp only [Ex.tru, Ex.kind, Ex.num, Ex.kids]
theorem Ex.truL_at {atom : Int} : ∀ {ks : List Ex} {i : Nat} {x : Ex}, ks[i]? = some x → (Ex.truL atom ks).getD i false = x.tru atom
  | [], i, x, h => by simp at h
  | e :: r, 0, x, h => by simp at h; subst h; simp [Ex.truL]
  | e :: r, i + 1, x, h => by
    have := Ex.truL_at (atom := atom) (ks := r) (i := i) (x := x) (by simpa using h)
    simpa [Ex.truL] using this
def empC (atom k n : Int) (ks : List Ex) (bs : List Bool) : Bool :=
  if k = 2 ∨ k = 8 then true else if k = 3 ∨ k = 5 then truC atom k n (Ex.truL atom ks) else if k = 6 then (bs.getD 0 false || bs.getD 1 false) else if k = 7 then (bs.getD 0 false && bs.getD 1 false) else false
mutual
/-- Has an expression the word of length 0 with an atom? -/
def Ex.emp (atom : Int) : Ex → Bool
  | .mk k n ks => empC atom k n ks (Ex.empL atom ks)
def Ex.empL (atom : Int) : List Ex → List Bool
  | [] => []
  | e :: r => Ex.emp atom e :: Ex.empL atom r
end
theorem Ex.emp_eq (atom : Int) (e : Ex) : e.emp atom = empC atom e.kind e.num e.kids (Ex.empL atom e.kids) := by cases e; simp only [Ex.emp, Ex.kind, Ex.num, Ex.kids]
theorem Ex.empL_at {atom : Int} : ∀ {ks : List Ex} {i : Nat} {x : Ex}, ks[i]? = some x → (Ex.empL atom ks).getD i false = x.emp atom
  | [], i, x, h => by simp at h
  | e :: r, 0, x, h => by simp at h; subst h; simp [Ex.empL]
  | e :: r, i + 1, x, h => by
    have := Ex.empL_at (atom := atom) (ks := r) (i := i) (x := x) (by simpa using h)
    simpa [Ex.empL] using this

theorem Ex.treeL_mem {tm am : Int} : ∀ {ks : List Ex} {x : Ex}, Ex.treeL tm am ks = true → x ∈ ks → x.tree tm am = true
  | [], _, _, h => by simp at h
  | e :: r, x, ht, h => by
    simp only [Ex.treeL, Bool.and_eq_true] at ht
    rcases List.mem_cons.1 h with rfl | h
    · exact ht.1
    · exact Ex.treeL_mem ht.2 h
theorem Ex.condL_mem : ∀ {ks : List Ex} {x : Ex}, Ex.condL ks = true → x ∈ ks → x.cond = true
  | [], _, _, h => by simp at h
  | e :: r, x, ht, h => by
    simp only [Ex.condL, Bool.and_eq_true] at ht
    rcases List.mem_cons.1 h with rfl | h
    · exact ht.1
    · exact Ex.condL_mem ht.2 h
/-- What the form of the table says of a node. -/
theorem tree_parts {tm am k n : Int} {ks : List Ex} (h : Ex.tree tm am (.mk k n ks) = true) : kidsN k = (ks.length : Int) ∧ numB tm am k n = true ∧ (k = 5 → Ex.condL ks = true) ∧ Ex.treeL tm am ks = true := by
  simp only [Ex.tree, nodeB, Bool.and_eq_true, beq_iff_eq, Bool.or_eq_true, bne_iff_ne] at h
  refine ⟨h.1.1.1, h.1.1.2, fun hk => ?_, h.2⟩
  rcases h.1.2 with h | h
  · exact absurd hk h
  · exact h
theorem two_kids {k : Int} {ks : List Ex} (h : kidsN k = (ks.length : Int)) (hk : k = 6 ∨ k = 7) : ∃ x y, ks = [x, y] := by
  have : kidsN k = 2 := by unfold kidsN; rw [if_neg (by omega), if_neg (by omega), if_pos (by omega)]
  match ks, h with
  | [x, y], _ => exact ⟨x, y, rfl⟩
  | [], h => simp at h; omega
  | [x], h => simp at h; omega
  | x :: y :: z :: r, h => simp at h; omega
theorem one_kid {k : Int} {ks : List Ex} (h : kidsN k = (ks.length : Int)) (hk : k = 5 ∨ k = 8) : ∃ x, ks = [x] := by
  have : kidsN k = 1 := by unfold kidsN; rw [if_neg (by omega), if_pos (by omega)]
  match ks, h with
  | [x], _ => exact ⟨x, rfl⟩
  | [], h => simp at h; omega
  | x :: y :: r, h => simp at h; omega

/-- The bounds under which a number of a test is read. -/
theorem numB_test {tm am n : Int} (h : numB tm am 3 n = true) : 0 ≤ n ∧ n ≤ tm := by
  simp [numB, inB] at h
  omega

/-- Is a number an atom? -/
def atomB (t x : Int) : Bool := inB x 0 (atomsN t - 1)
theorem okB_sig {t a : Int} {e : Ex} (h : okB t a e = true) : sigB t a = true := by simp only [okB, Bool.and_eq_true] at h; exact h.1
theorem okB_tree {t a : Int} {e : Ex} (h : okB t a e = true) : e.tree (t - 1) (a - 1) = true := by simp only [okB, Bool.and_eq_true] at h; exact h.2.2
theorem atomB_bd {t a x : Int} (hs : sigB t a = true) (h : atomB t x = true) : t - 1 ≤ 2 ∧ 0 ≤ x ∧ x ≤ 7 := by
  obtain ⟨ht0, ht1, ha0, ha1⟩ := sigB_bd hs
  have hat := atomsN_bd t
  simp only [atomB, inB, Bool.and_eq_true, decide_eq_true_eq] at h
  omega
def truR (t a k n : Int) (ks : List Ex) (x : Int) : Bool := okB t a (.mk k n ks) && (Ex.cond (.mk k n ks) && (atomB t x && Ex.tru x (.mk k n ks)))
def truK (t a k n : Int) (ks : List Ex) (x : Int) : Int := if okB t a (.mk k n ks) = true then (if Ex.cond (.mk k n ks) = true then (if atomB t x = true then 0 else 2) else 4) else 1

end Go.Proofs.YtlnojmmjpgpjdaaDoor
