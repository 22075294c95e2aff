/-
  Conditions at atoms: l01True, truth, isAtom, l02Atom, TruthAt; l02Empty, emptyAt, EmptyAt.
-/
import Derived.Test.YtlnojmmjpgpjdaaShaped
namespace Go.Proofs.Ytlnojmmjpgpjdaa
open Go.ChangeShapes Go.WideShapes Go.ChangeAt Go.RowKit Go.Sort

/-- A bit of an atom. -/
def bitB (atom n : Int) : Bool := (atom / 2 ^ n.toNat) % 2 == 1
def truC (atom k n : Int) (bs : List Bool) : Bool :=
  if k = 2 then true else if k = 3 then bitB atom n else if k = 5 then !(bs.getD 0 false) else if k = 6 then (bs.getD 0 false || bs.getD 1 false) else if k = 7 then (bs.getD 0 false && bs.getD 1 false) else false
mutual
/-- A condition at an atom. -/
def Ex.tru (atom : Int) : Ex → Bool
  | .mk k n ks => truC atom k n (Ex.truL atom ks)
def Ex.truL (atom : Int) : List Ex → List Bool
  | [] => []
  | e :: r => Ex.tru atom e :: Ex.truL atom r
end
theorem Ex.tru_eq (atom : Int) (e : Ex) : e.tru atom = truC atom e.kind e.num (Ex.truL atom e.kids) := by cases e; simp only [Ex.tru, Ex.kind, Ex.num, Ex.kids]
theorem Ex.truL_at {atom : Int} : ∀ {ks : List Ex} {i : Nat} {x : Ex}, ks[i]? = some x → (Ex.truL atom ks).getD i false = x.tru atom
  | [], i, x, h => by simp at h
  | e :: r, 0, x, h => by simp at h; subst h; simp [Ex.truL]
  | e :: r, i + 1, x, h => by
    have := Ex.truL_at (atom := atom) (ks := r) (i := i) (x := x) (by simpa using h)
    simpa [Ex.truL] using this
def empC (atom k n : Int) (ks : List Ex) (bs : List Bool) : Bool :=
  if k = 2 ∨ k = 8 then true else if k = 3 ∨ k = 5 then truC atom k n (Ex.truL atom ks) else if k = 6 then (bs.getD 0 false || bs.getD 1 false) else if k = 7 then (bs.getD 0 false && bs.getD 1 false) else false
mutual
/-- Has an expression the word of length 0 with an atom? -/
def Ex.emp (atom : Int) : Ex → Bool
  | .mk k n ks => empC atom k n ks (Ex.empL atom ks)
def Ex.empL (atom : Int) : List Ex → List Bool
  | [] => []
  | e :: r => Ex.emp atom e :: Ex.empL atom r
end
theorem Ex.emp_eq (atom : Int) (e : Ex) : e.emp atom = empC atom e.kind e.num e.kids (Ex.empL atom e.kids) := by cases e; simp only [Ex.emp, Ex.kind, Ex.num, Ex.kids]
theorem Ex.empL_at {atom : Int} : ∀ {ks : List Ex} {i : Nat} {x : Ex}, ks[i]? = some x → (Ex.empL atom ks).getD i false = x.emp atom
  | [], i, x, h => by simp at h
  | e :: r, 0, x, h => by simp at h; subst h; simp [Ex.empL]
  | e :: r, i + 1, x, h => by
    have := Ex.empL_at (atom := atom) (ks := r) (i := i) (x := x) (by simpa using h)
    simpa [Ex.empL] using this

theorem Ex.treeL_mem {tm am : Int} : ∀ {ks : List Ex} {x : Ex}, Ex.treeL tm am ks = true → x ∈ ks → x.tree tm am = true
  | [], _, _, h => by simp at h
  | e :: r, x, ht, h => by
    simp only [Ex.treeL, Bool.and_eq_true] at ht
    rcases List.mem_cons.1 h with rfl | h
    · exact ht.1
    · exact Ex.treeL_mem ht.2 h
theorem Ex.condL_mem : ∀ {ks : List Ex} {x : Ex}, Ex.condL ks = true → x ∈ ks → x.cond = true
  | [], _, _, h => by simp at h
  | e :: r, x, ht, h => by
    simp only [Ex.condL, Bool.and_eq_true] at ht
    rcases List.mem_cons.1 h with rfl | h
    · exact ht.1
    · exact Ex.condL_mem ht.2 h
/-- What the form of the table says of a node. -/
theorem tree_parts {tm am k n : Int} {ks : List Ex} (h : Ex.tree tm am (.mk k n ks) = true) : kidsN k = (ks.length : Int) ∧ numB tm am k n = true ∧ (k = 5 → Ex.condL ks = true) ∧ Ex.treeL tm am ks = true := by
  simp only [Ex.tree, nodeB, Bool.and_eq_true, beq_iff_eq, Bool.or_eq_true, bne_iff_ne] at h
  refine ⟨h.1.1.1, h.1.1.2, fun hk => ?_, h.2⟩
  rcases h.1.2 with h | h
  · exact absurd hk h
  · exact h
theorem two_kids {k : Int} {ks : List Ex} (h : kidsN k = (ks.length : Int)) (hk : k = 6 ∨ k = 7) : ∃ x y, ks = [x, y] := by
  have : kidsN k = 2 := by unfold kidsN; rw [if_neg (by omega), if_neg (by omega), if_pos (by omega)]
  match ks, h with
  | [x, y], _ => exact ⟨x, y, rfl⟩
  | [], h => simp at h; omega
  | [x], h => simp at h; omega
  | x :: y :: z :: r, h => simp at h; omega
theorem one_kid {k : Int} {ks : List Ex} (h : kidsN k = (ks.length : Int)) (hk : k = 5 ∨ k = 8) : ∃ x, ks = [x] := by
  have : kidsN k = 1 := by unfold kidsN; rw [if_neg (by omega), if_pos (by omega)]
  match ks, h with
  | [x], _ => exact ⟨x, rfl⟩
  | [], h => simp at h; omega
  | x :: y :: r, h => simp at h; omega

/-- The bounds under which a number of a test is read. -/
theorem numB_test {tm am n : Int} (h : numB tm am 3 n = true) : 0 ≤ n ∧ n ≤ tm := by
  simp [numB, inB] at h
  omega

set_option maxHeartbeats 4000000 in
theorem truth_all (tm am atom : Int) (ht : tm ≤ 2) (h0 : 0 ≤ atom) (h7 : atom ≤ 7) (N : Nat) : ∀ (k n : Int) (ks : List Ex) (s : Option Addr) (c : Nat) (w : World), Ex.sizeL ks ≤ N → Rd w (kidsD ks) (.slice s ks.length c) →
    Ex.tree tm am (.mk k n ks) = true → Ex.cond (.mk k n ks) = true →
    Calls Try.prog 135 #[.agg #[.int .i64 k, .int .i64 n, .slice s ks.length c], .int .i64 atom] w fun f w' => f = .returned (.bool (Ex.tru atom (.mk k n ks))) ∧ Below w.heap.size w w' := by
  induction N using Nat.strongRecOn with
  | _ N ih =>
  intro k n ks s c w hN hr htr hc
  obtain ⟨hk, hnum, -, htl⟩ := tree_parts htr
  rw [Ex.cond_eq] at hc
  simp only [Ex.kind, Ex.kids, Bool.and_eq_true] at hc
  obtain ⟨hck, hcl⟩ := hc
  have hk' : k = 1 ∨ k = 2 ∨ k = 3 ∨ k = 5 ∨ k = 6 ∨ k = 7 := by simpa [condKind] using hck
  clear hck htr
  rcases hk' with rfl | rfl | rfl | rfl | rfl | rfl
  · have e : Ex.tru atom (.mk 1 n ks) = false := by simp [Ex.tru, truC]
    rw [e]
    clear hk hnum htl hcl e
    go_enter Try.func135, Try.ntmps135
    go_wp2_with fail
    go_ret
    exact ⟨rfl, by (repeat' (first | exact Below.refl _ _ | assumption | (refine Below.alloc ?_ (by first | omega | (simp; done) | (simp; omega)) _) | (refine Below.drew ?_) | (refine Below.setCell ?_ (by first | omega | (simp; done) | (simp; omega)) _)))⟩
  · have e : Ex.tru atom (.mk 2 n ks) = true := by simp [Ex.tru, truC]
    rw [e]
    clear hk hnum htl hcl e
    go_enter Try.func135, Try.ntmps135
    go_wp2_with fail
    go_ret
    exact ⟨rfl, by (repeat' (first | exact Below.refl _ _ | assumption | (refine Below.alloc ?_ (by first | omega | (simp; done) | (simp; omega)) _) | (refine Below.drew ?_) | (refine Below.setCell ?_ (by first | omega | (simp; done) | (simp; omega)) _)))⟩
  · have e : Ex.tru atom (.mk 3 n ks) = bitB atom n := by simp [Ex.tru, truC]
    obtain ⟨n0, n1⟩ := numB_test hnum
    rw [e]
    clear hk hnum htl hcl e
    have hn : n = 0 ∨ n = 1 ∨ n = 2 := by omega
    have ha : atom = 0 ∨ atom = 1 ∨ atom = 2 ∨ atom = 3 ∨ atom = 4 ∨ atom = 5 ∨ atom = 6 ∨ atom = 7 := by omega
    clear ih
    rcases hn with rfl | rfl | rfl <;> rcases ha with rfl | rfl | rfl | rfl | rfl | rfl | rfl | rfl
    all_goals
      go_enter Try.func135, Try.ntmps135
      go_wp2
      go_ret
      exact ⟨rfl, by (repeat' (first | exact Below.refl _ _ | assumption | (refine Below.alloc ?_ (by first | omega | (simp; done) | (simp; omega)) _) | (refine Below.drew ?_) | (refine Below.setCell ?_ (by first | omega | (simp; done) | (simp; omega)) _)))⟩
  · obtain ⟨x, rfl⟩ := one_kid hk (by omega)
    have hx : [x][0]? = some x := rfl
    obtain ⟨b', o', rfl⟩ := kid_some hr (by simp)
    have e : Ex.tru atom (.mk 5 n [x]) = !(Ex.tru atom (.mk x.kind x.num x.kids)) := by rw [← Ex.eta x]; simp [Ex.tru, Ex.truL, truC]
    have hxt : Ex.tree tm am (.mk x.kind x.num x.kids) = true := by rw [← Ex.eta x]; exact Ex.treeL_mem htl (by simp)
    have hxc : Ex.cond (.mk x.kind x.num x.kids) = true := by rw [← Ex.eta x]; exact Ex.condL_mem hcl (by simp)
    have hxs : Ex.sizeL x.kids < N := by have := Ex.size_eq x; simp only [Ex.sizeL] at hN; omega
    rw [e]
    clear hk hnum htl hcl e
    obtain ⟨hbl, s', c', g0, g1, g2, gr⟩ := kid_in hr hx
    simp only [Nat.zero_mul, Nat.add_zero] at g0 g1 g2
    go_enter Try.func135, Try.ntmps135
    go_wp2_with fail
    refine (ih _ hxs _ _ _ _ _ _ (Nat.le_refl _) (gr.alloc _) hxt hxc).mono ?_
    rintro y w1 ⟨rfl, hb⟩
    have hB : Below w.heap.size w w1 := Below.on (by (repeat' (first | exact Below.refl _ _ | assumption | (refine Below.alloc ?_ (by first | omega | (simp; done) | (simp; omega)) _) | (refine Below.drew ?_) | (refine Below.setCell ?_ (by first | omega | (simp; done) | (simp; omega)) _)))) hb (by simp)
    go_wp2_with fail
    go_ret
    exact ⟨rfl, hB⟩
  · obtain ⟨x, y, rfl⟩ := two_kids hk (by omega)
    have hx : [x, y][0]? = some x := rfl
    have hy : [x, y][1]? = some y := rfl
    obtain ⟨b', o', rfl⟩ := kid_some hr (by simp)
    have e : Ex.tru atom (.mk 6 n [x, y]) = or (Ex.tru atom (.mk x.kind x.num x.kids)) (Ex.tru atom (.mk y.kind y.num y.kids)) := by rw [← Ex.eta x, ← Ex.eta y]; simp [Ex.tru, Ex.truL, truC]
    have hxt : Ex.tree tm am (.mk x.kind x.num x.kids) = true := by rw [← Ex.eta x]; exact Ex.treeL_mem htl (by simp)
    have hyt : Ex.tree tm am (.mk y.kind y.num y.kids) = true := by rw [← Ex.eta y]; exact Ex.treeL_mem htl (by simp)
    have hxc : Ex.cond (.mk x.kind x.num x.kids) = true ∧ Ex.cond (.mk y.kind y.num y.kids) = true := ⟨by rw [← Ex.eta x]; exact Ex.condL_mem hcl (by simp), by rw [← Ex.eta y]; exact Ex.condL_mem hcl (by simp)⟩
    have hxs : Ex.sizeL x.kids < N := by have := Ex.size_eq x; simp only [Ex.sizeL] at hN; omega
    have hys : Ex.sizeL y.kids < N := by have := Ex.size_eq y; simp only [Ex.sizeL] at hN; omega
    rw [e]
    clear hk hnum htl hcl e
    obtain ⟨hbl, s', c', g0, g1, g2, gr⟩ := kid_in hr hx
    obtain ⟨-, s2, c2, k0, k1, k2, kr⟩ := kid_in hr hy
    simp only [Nat.zero_mul, Nat.add_zero] at g0 g1 g2
    simp only [Nat.one_mul] at k0 k1 k2
    have L := Blk.new3 w 47 (.int .i64 6) (.int .i64 n) (.slice (some ⟨b', o', none⟩) 2 c)
    go_enter Try.func135, Try.ntmps135
    go_wp2_with fail
    refine (ih _ hxs _ _ _ _ _ _ (Nat.le_refl _) (gr.alloc _) hxt hxc.1).mono ?_
    rintro z w1 ⟨rfl, hb⟩
    have hB : Below w.heap.size w w1 := Below.on (by (repeat' (first | exact Below.refl _ _ | assumption | (refine Below.alloc ?_ (by first | omega | (simp; done) | (simp; omega)) _) | (refine Below.drew ?_) | (refine Below.setCell ?_ (by first | omega | (simp; done) | (simp; omega)) _)))) hb (by simp)
    replace L := L.below hb
    have l2 := L.c2
    have k0' := (hB.cell (p := ⟨b', o' + 3, none⟩) hbl).trans k0
    have k1' := (hB.cell (p := ⟨b', o' + 3 + 1, none⟩) hbl).trans k1
    have k2' := (hB.cell (p := ⟨b', o' + 3 + 2, none⟩) hbl).trans k2
    clear k0 k1 k2 g0 g1 g2 hb
    cases h1 : Ex.tru atom (.mk x.kind x.num x.kids)
    all_goals
      go_wp2_with fail
      first
        | (refine (ih _ hys _ _ _ _ _ _ (Nat.le_refl _) (kr.below hB) hyt hxc.2).mono ?_
           rintro z w2 ⟨rfl, hb⟩
           replace hB := Below.on hB hb hB.size
           go_wp2_with fail
           go_ret
           exact ⟨ret_bool (by simp [h1]), hB⟩)
        | (go_ret
           exact ⟨ret_bool (by simp [h1]), hB⟩)
  · obtain ⟨x, y, rfl⟩ := two_kids hk (by omega)
    have hx : [x, y][0]? = some x := rfl
    have hy : [x, y][1]? = some y := rfl
    obtain ⟨b', o', rfl⟩ := kid_some hr (by simp)
    have e : Ex.tru atom (.mk 7 n [x, y]) = and (Ex.tru atom (.mk x.kind x.num x.kids)) (Ex.tru atom (.mk y.kind y.num y.kids)) := by rw [← Ex.eta x, ← Ex.eta y]; simp [Ex.tru, Ex.truL, truC]
    have hxt : Ex.tree tm am (.mk x.kind x.num x.kids) = true := by rw [← Ex.eta x]; exact Ex.treeL_mem htl (by simp)
    have hyt : Ex.tree tm am (.mk y.kind y.num y.kids) = true := by rw [← Ex.eta y]; exact Ex.treeL_mem htl (by simp)
    have hxc : Ex.cond (.mk x.kind x.num x.kids) = true ∧ Ex.cond (.mk y.kind y.num y.kids) = true := ⟨by rw [← Ex.eta x]; exact Ex.condL_mem hcl (by simp), by rw [← Ex.eta y]; exact Ex.condL_mem hcl (by simp)⟩
    have hxs : Ex.sizeL x.kids < N := by have := Ex.size_eq x; simp only [Ex.sizeL] at hN; omega
    have hys : Ex.sizeL y.kids < N := by have := Ex.size_eq y; simp only [Ex.sizeL] at hN; omega
    rw [e]
    clear hk hnum htl hcl e
    obtain ⟨hbl, s', c', g0, g1, g2, gr⟩ := kid_in hr hx
    obtain ⟨-, s2, c2, k0, k1, k2, kr⟩ := kid_in hr hy
    simp only [Nat.zero_mul, Nat.add_zero] at g0 g1 g2
    simp only [Nat.one_mul] at k0 k1 k2
    have L := Blk.new3 w 47 (.int .i64 7) (.int .i64 n) (.slice (some ⟨b', o', none⟩) 2 c)
    go_enter Try.func135, Try.ntmps135
    go_wp2_with fail
    refine (ih _ hxs _ _ _ _ _ _ (Nat.le_refl _) (gr.alloc _) hxt hxc.1).mono ?_
    rintro z w1 ⟨rfl, hb⟩
    have hB : Below w.heap.size w w1 := Below.on (by (repeat' (first | exact Below.refl _ _ | assumption | (refine Below.alloc ?_ (by first | omega | (simp; done) | (simp; omega)) _) | (refine Below.drew ?_) | (refine Below.setCell ?_ (by first | omega | (simp; done) | (simp; omega)) _)))) hb (by simp)
    replace L := L.below hb
    have l2 := L.c2
    have k0' := (hB.cell (p := ⟨b', o' + 3, none⟩) hbl).trans k0
    have k1' := (hB.cell (p := ⟨b', o' + 3 + 1, none⟩) hbl).trans k1
    have k2' := (hB.cell (p := ⟨b', o' + 3 + 2, none⟩) hbl).trans k2
    clear k0 k1 k2 g0 g1 g2 hb
    cases h1 : Ex.tru atom (.mk x.kind x.num x.kids)
    all_goals
      go_wp2_with fail
      first
        | (refine (ih _ hys _ _ _ _ _ _ (Nat.le_refl _) (kr.below hB) hyt hxc.2).mono ?_
           rintro z w2 ⟨rfl, hb⟩
           replace hB := Below.on hB hb hB.size
           go_wp2_with fail
           go_ret
           exact ⟨ret_bool (by simp [h1]), hB⟩)
        | (go_ret
           exact ⟨ret_bool (by simp [h1]), hB⟩)

set_option maxHeartbeats 4000000 in
theorem l01True_all (tm am atom : Int) (ht : tm ≤ 2) (h0 : 0 ≤ atom) (h7 : atom ≤ 7) (N : Nat) : ∀ (e : Ex) (b o : Nat) (w : World), e.size ≤ N → ExAt w b o e → e.tree tm am = true → e.cond = true →
    Calls Try.prog 113 #[.pointer (some ⟨b, o, none⟩), .int .i64 atom] w fun f w' => f = .returned (.bool (e.tru atom)) ∧ w = w' := by
  induction N using Nat.strongRecOn with
  | _ N ih =>
  intro e b o w hN hr htr hc
  obtain ⟨k, n, ks⟩ := e
  obtain ⟨g0, g1, s, c, g2, hr⟩ := hr
  simp only [Ex.kind, Ex.num, Ex.kids] at g0 g1 g2 hr
  obtain ⟨hk, hnum, -, htl⟩ := tree_parts htr
  rw [Ex.cond_eq] at hc
  simp only [Ex.kind, Ex.kids, Bool.and_eq_true] at hc
  obtain ⟨hck, hcl⟩ := hc
  have hk' : k = 1 ∨ k = 2 ∨ k = 3 ∨ k = 5 ∨ k = 6 ∨ k = 7 := by simpa [condKind] using hck
  clear hck htr
  rcases hk' with rfl | rfl | rfl | rfl | rfl | rfl
  · have e : Ex.tru atom (.mk 1 n ks) = false := by simp [Ex.tru, truC]
    rw [e]
    clear hk hnum htl hcl e
    go_enter Try.func113, Try.ntmps113
    go_wp2_with fail
    go_ret
    exact ⟨rfl, rfl⟩
  · have e : Ex.tru atom (.mk 2 n ks) = true := by simp [Ex.tru, truC]
    rw [e]
    clear hk hnum htl hcl e
    go_enter Try.func113, Try.ntmps113
    go_wp2_with fail
    go_ret
    exact ⟨rfl, rfl⟩
  · have e : Ex.tru atom (.mk 3 n ks) = bitB atom n := by simp [Ex.tru, truC]
    obtain ⟨n0, n1⟩ := numB_test hnum
    rw [e]
    clear hk hnum htl hcl e
    have hn : n = 0 ∨ n = 1 ∨ n = 2 := by omega
    have ha : atom = 0 ∨ atom = 1 ∨ atom = 2 ∨ atom = 3 ∨ atom = 4 ∨ atom = 5 ∨ atom = 6 ∨ atom = 7 := by omega
    clear ih
    rcases hn with rfl | rfl | rfl <;> rcases ha with rfl | rfl | rfl | rfl | rfl | rfl | rfl | rfl
    all_goals
      go_enter Try.func113, Try.ntmps113
      go_wp2
      go_ret
      exact ⟨rfl, rfl⟩
  · obtain ⟨x, rfl⟩ := one_kid hk (by omega)
    have hx : [x][0]? = some x := rfl
    obtain ⟨b', o', rfl⟩ := kid_some hr (by simp)
    have e : Ex.tru atom (.mk 5 n [x]) = !(Ex.tru atom x) := by simp [Ex.tru, Ex.truL, truC]
    have hxt : Ex.tree tm am x = true := Ex.treeL_mem htl (by simp)
    have hxc : Ex.cond x = true := Ex.condL_mem hcl (by simp)
    have hxs : x.size < N := by simp only [Ex.size, Ex.sizeL] at hN; omega
    have hax := kid_exAt hr hx
    simp only [Nat.zero_mul, Nat.add_zero] at hax
    obtain ⟨-, hlen, hcap, -, -⟩ := kid_at hr
    unfold maxLen at hcap
    simp only [List.length_cons, List.length_nil] at hlen
    rw [e]
    clear hk hnum htl hcl e
    go_enter Try.func113, Try.ntmps113
    go_wp2_with fail
    refine (ih _ hxs x _ _ _ (Nat.le_refl _) hax hxt hxc).mono ?_
    rintro y w' ⟨rfl, rfl⟩
    go_wp2_with fail
    go_ret
    exact ⟨rfl, rfl⟩
  · obtain ⟨x, y, rfl⟩ := two_kids hk (by omega)
    have hx : [x, y][0]? = some x := rfl
    have hy : [x, y][1]? = some y := rfl
    obtain ⟨b', o', rfl⟩ := kid_some hr (by simp)
    have e : Ex.tru atom (.mk 6 n [x, y]) = or (Ex.tru atom x) (Ex.tru atom y) := by simp [Ex.tru, Ex.truL, truC]
    have hxt : Ex.tree tm am x = true := Ex.treeL_mem htl (by simp)
    have hyt : Ex.tree tm am y = true := Ex.treeL_mem htl (by simp)
    have hxc : Ex.cond x = true ∧ Ex.cond y = true := ⟨Ex.condL_mem hcl (by simp), Ex.condL_mem hcl (by simp)⟩
    have hxs : x.size < N := by simp only [Ex.size, Ex.sizeL] at hN; omega
    have hys : y.size < N := by simp only [Ex.size, Ex.sizeL] at hN; omega
    have hax := kid_exAt hr hx
    have hay := kid_exAt hr hy
    simp only [Nat.zero_mul, Nat.one_mul, Nat.add_zero] at hax hay
    obtain ⟨-, hlen, hcap, -, -⟩ := kid_at hr
    unfold maxLen at hcap
    simp only [List.length_cons, List.length_nil] at hlen
    rw [e]
    clear hk hnum htl hcl e
    go_enter Try.func113, Try.ntmps113
    go_wp2_with fail
    refine (ih _ hxs x _ _ _ (Nat.le_refl _) hax hxt hxc.1).mono ?_
    rintro z w' ⟨rfl, rfl⟩
    cases h1 : Ex.tru atom x
    all_goals
      go_wp2_with fail
      first
        | (refine (ih _ hys y _ _ _ (Nat.le_refl _) hay hyt hxc.2).mono ?_
           rintro z w' ⟨rfl, rfl⟩
           go_wp2_with fail
           go_ret
           exact ⟨ret_bool (by simp [h1]), rfl⟩)
        | (go_ret
           exact ⟨ret_bool (by simp [h1]), rfl⟩)
  · obtain ⟨x, y, rfl⟩ := two_kids hk (by omega)
    have hx : [x, y][0]? = some x := rfl
    have hy : [x, y][1]? = some y := rfl
    obtain ⟨b', o', rfl⟩ := kid_some hr (by simp)
    have e : Ex.tru atom (.mk 7 n [x, y]) = and (Ex.tru atom x) (Ex.tru atom y) := by simp [Ex.tru, Ex.truL, truC]
    have hxt : Ex.tree tm am x = true := Ex.treeL_mem htl (by simp)
    have hyt : Ex.tree tm am y = true := Ex.treeL_mem htl (by simp)
    have hxc : Ex.cond x = true ∧ Ex.cond y = true := ⟨Ex.condL_mem hcl (by simp), Ex.condL_mem hcl (by simp)⟩
    have hxs : x.size < N := by simp only [Ex.size, Ex.sizeL] at hN; omega
    have hys : y.size < N := by simp only [Ex.size, Ex.sizeL] at hN; omega
    have hax := kid_exAt hr hx
    have hay := kid_exAt hr hy
    simp only [Nat.zero_mul, Nat.one_mul, Nat.add_zero] at hax hay
    obtain ⟨-, hlen, hcap, -, -⟩ := kid_at hr
    unfold maxLen at hcap
    simp only [List.length_cons, List.length_nil] at hlen
    rw [e]
    clear hk hnum htl hcl e
    go_enter Try.func113, Try.ntmps113
    go_wp2_with fail
    refine (ih _ hxs x _ _ _ (Nat.le_refl _) hax hxt hxc.1).mono ?_
    rintro z w' ⟨rfl, rfl⟩
    cases h1 : Ex.tru atom x
    all_goals
      go_wp2_with fail
      first
        | (refine (ih _ hys y _ _ _ (Nat.le_refl _) hay hyt hxc.2).mono ?_
           rintro z w' ⟨rfl, rfl⟩
           go_wp2_with fail
           go_ret
           exact ⟨ret_bool (by simp [h1]), rfl⟩)
        | (go_ret
           exact ⟨ret_bool (by simp [h1]), rfl⟩)

/-- Is a number an atom? -/
def atomB (t x : Int) : Bool := inB x 0 (atomsN t - 1)
theorem okB_sig {t a : Int} {e : Ex} (h : okB t a e = true) : sigB t a = true := by simp only [okB, Bool.and_eq_true] at h; exact h.1
theorem okB_tree {t a : Int} {e : Ex} (h : okB t a e = true) : e.tree (t - 1) (a - 1) = true := by simp only [okB, Bool.and_eq_true] at h; exact h.2.2
theorem atomB_bd {t a x : Int} (hs : sigB t a = true) (h : atomB t x = true) : t - 1 ≤ 2 ∧ 0 ≤ x ∧ x ≤ 7 := by
  obtain ⟨ht0, ht1, ha0, ha1⟩ := sigB_bd hs
  have hat := atomsN_bd t
  simp only [atomB, inB, Bool.and_eq_true, decide_eq_true_eq] at h
  omega
def truR (t a k n : Int) (ks : List Ex) (x : Int) : Bool := okB t a (.mk k n ks) && (Ex.cond (.mk k n ks) && (atomB t x && Ex.tru x (.mk k n ks)))
def truK (t a k n : Int) (ks : List Ex) (x : Int) : Int := if okB t a (.mk k n ks) = true then (if Ex.cond (.mk k n ks) = true then (if atomB t x = true then 0 else 2) else 4) else 1

end Go.Proofs.Ytlnojmmjpgpjdaa
