/-
  The word of length 0: l02Empty, emptyAt, EmptyAt of both.
-/
import Derived.Test.YtjjcidfpjgmgcaaTruth
namespace Go.Proofs.Ytjjcidfpjgmgcaa
open Go.ChangeShapes Go.WideShapes Go.ChangeAt Go.RowKit Go.Sort

theorem kind_cases {k : Int} {n : Nat} (h : kidsN k = (n : Int)) : k = 1 ∨ k = 2 ∨ k = 3 ∨ k = 4 ∨ k = 5 ∨ k = 6 ∨ k = 7 ∨ k = 8 := by
  by_cases hk : k = 1 ∨ k = 2 ∨ k = 3 ∨ k = 4 ∨ k = 5 ∨ k = 6 ∨ k = 7 ∨ k = 8
  · exact hk
  · exfalso
    unfold kidsN at h
    rw [if_neg (by omega), if_neg (by omega), if_neg (by omega)] at h
    omega

set_option maxHeartbeats 4000000 in
theorem emptyAt_all (tm am atom : Int) (ht : tm ≤ 2) (h0 : 0 ≤ atom) (h7 : atom ≤ 7) (N : Nat) : ∀ (k n : Int) (ks : List Ex) (s : Option Addr) (c : Nat) (w : World), Ex.sizeL ks ≤ N → Rd w (kidsD ks) (.slice s ks.length c) →
    Ex.tree tm am (.mk k n ks) = true →
    Calls Try.prog 77 #[.agg #[.int .i64 k, .int .i64 n, .slice s ks.length c], .int .i64 atom] w fun f w' => f = .returned (.bool (Ex.emp atom (.mk k n ks))) ∧ Below w.heap.size w w' := by
  induction N using Nat.strongRecOn with
  | _ N ih =>
  intro k n ks s c w hN hr htr
  obtain ⟨hk, hnum, hc, htl⟩ := tree_parts htr
  rcases kind_cases hk with rfl | rfl | rfl | rfl | rfl | rfl | rfl | rfl
  · have e : Ex.emp atom (.mk 1 n ks) = false := by simp [Ex.emp, empC]
    rw [e]
    clear hk hnum htl e hc
    go_enter Try.func77, Try.ntmps77
    go_wp2_with fail
    go_ret
    exact ⟨rfl, by (repeat' (first | exact Below.refl _ _ | assumption | (refine Below.alloc ?_ (by first | omega | (simp; done) | (simp; omega)) _) | (refine Below.drew ?_) | (refine Below.setCell ?_ (by first | omega | (simp; done) | (simp; omega)) _)))⟩
  · have e : Ex.emp atom (.mk 2 n ks) = true := by simp [Ex.emp, empC]
    rw [e]
    clear hk hnum htl e hc
    go_enter Try.func77, Try.ntmps77
    go_wp2_with fail
    go_ret
    exact ⟨rfl, by (repeat' (first | exact Below.refl _ _ | assumption | (refine Below.alloc ?_ (by first | omega | (simp; done) | (simp; omega)) _) | (refine Below.drew ?_) | (refine Below.setCell ?_ (by first | omega | (simp; done) | (simp; omega)) _)))⟩
  · have e : Ex.emp atom (.mk 3 n ks) = Ex.tru atom (.mk 3 n ks) := by simp [Ex.emp, empC, Ex.tru]
    have hcc : Ex.cond (.mk 3 n ks) = true := by rw [Ex.cond_eq]; simp [Ex.kind, Ex.kids, condKind, kidsN_zero hk (by omega), Ex.condL]
    rw [e]
    clear hk hnum htl e hc
    go_enter Try.func77, Try.ntmps77
    go_wp2_with fail
    refine (truth_all tm am atom ht h0 h7 _ _ _ _ _ _ _ (Nat.le_refl _) (hr.alloc _) htr hcc).mono ?_
    rintro y w1 ⟨rfl, hb⟩
    have hB : Below w.heap.size w w1 := Below.on (by (repeat' (first | exact Below.refl _ _ | assumption | (refine Below.alloc ?_ (by first | omega | (simp; done) | (simp; omega)) _) | (refine Below.drew ?_) | (refine Below.setCell ?_ (by first | omega | (simp; done) | (simp; omega)) _)))) hb (by simp)
    go_wp2_with fail
    go_ret
    exact ⟨rfl, hB⟩
  · have e : Ex.emp atom (.mk 4 n ks) = false := by simp [Ex.emp, empC]
    rw [e]
    clear hk hnum htl e hc
    go_enter Try.func77, Try.ntmps77
    go_wp2_with fail
    go_ret
    exact ⟨rfl, by (repeat' (first | exact Below.refl _ _ | assumption | (refine Below.alloc ?_ (by first | omega | (simp; done) | (simp; omega)) _) | (refine Below.drew ?_) | (refine Below.setCell ?_ (by first | omega | (simp; done) | (simp; omega)) _)))⟩
  · have e : Ex.emp atom (.mk 5 n ks) = Ex.tru atom (.mk 5 n ks) := by simp [Ex.emp, empC, Ex.tru]
    have hcc : Ex.cond (.mk 5 n ks) = true := by rw [Ex.cond_eq]; simp [Ex.kind, Ex.kids, condKind, hc rfl]
    rw [e]
    clear hk hnum htl e hc
    go_enter Try.func77, Try.ntmps77
    go_wp2_with fail
    refine (truth_all tm am atom ht h0 h7 _ _ _ _ _ _ _ (Nat.le_refl _) (hr.alloc _) htr hcc).mono ?_
    rintro y w1 ⟨rfl, hb⟩
    have hB : Below w.heap.size w w1 := Below.on (by (repeat' (first | exact Below.refl _ _ | assumption | (refine Below.alloc ?_ (by first | omega | (simp; done) | (simp; omega)) _) | (refine Below.drew ?_) | (refine Below.setCell ?_ (by first | omega | (simp; done) | (simp; omega)) _)))) hb (by simp)
    go_wp2_with fail
    go_ret
    exact ⟨rfl, hB⟩
  · obtain ⟨x, y, rfl⟩ := two_kids hk (by omega)
    have hx : [x, y][0]? = some x := rfl
    have hy : [x, y][1]? = some y := rfl
    obtain ⟨b', o', rfl⟩ := kid_some hr (by simp)
    have e : Ex.emp atom (.mk 6 n [x, y]) = or (Ex.emp atom (.mk x.kind x.num x.kids)) (Ex.emp atom (.mk y.kind y.num y.kids)) := by rw [← Ex.eta x, ← Ex.eta y]; simp [Ex.emp, Ex.empL, empC]
    have hxt : Ex.tree tm am (.mk x.kind x.num x.kids) = true := by rw [← Ex.eta x]; exact Ex.treeL_mem htl (by simp)
    have hyt : Ex.tree tm am (.mk y.kind y.num y.kids) = true := by rw [← Ex.eta y]; exact Ex.treeL_mem htl (by simp)
    skip
    have hxs : Ex.sizeL x.kids < N := by have := Ex.size_eq x; simp only [Ex.sizeL] at hN; omega
    have hys : Ex.sizeL y.kids < N := by have := Ex.size_eq y; simp only [Ex.sizeL] at hN; omega
    rw [e]
    clear hk hnum htl hc htr e
    obtain ⟨hbl, s', c', g0, g1, g2, gr⟩ := kid_in hr hx
    obtain ⟨-, s2, c2, k0, k1, k2, kr⟩ := kid_in hr hy
    simp only [Nat.zero_mul, Nat.add_zero] at g0 g1 g2
    simp only [Nat.one_mul] at k0 k1 k2
    have L := Blk.new3 w 45 (.int .i64 6) (.int .i64 n) (.slice (some ⟨b', o', none⟩) 2 c)
    go_enter Try.func77, Try.ntmps77
    go_wp2_with fail
    refine (ih _ hxs _ _ _ _ _ _ (Nat.le_refl _) (gr.alloc _) hxt ).mono ?_
    rintro z w1 ⟨rfl, hb⟩
    have hB : Below w.heap.size w w1 := Below.on (by (repeat' (first | exact Below.refl _ _ | assumption | (refine Below.alloc ?_ (by first | omega | (simp; done) | (simp; omega)) _) | (refine Below.drew ?_) | (refine Below.setCell ?_ (by first | omega | (simp; done) | (simp; omega)) _)))) hb (by simp)
    replace L := L.below hb
    have l2 := L.c2
    have k0' := (hB.cell (p := ⟨b', o' + 3, none⟩) hbl).trans k0
    have k1' := (hB.cell (p := ⟨b', o' + 3 + 1, none⟩) hbl).trans k1
    have k2' := (hB.cell (p := ⟨b', o' + 3 + 2, none⟩) hbl).trans k2
    clear k0 k1 k2 g0 g1 g2 hb
    cases h1 : Ex.emp atom (.mk x.kind x.num x.kids)
    all_goals
      go_wp2_with fail
      first
        | (refine (ih _ hys _ _ _ _ _ _ (Nat.le_refl _) (kr.below hB) hyt ).mono ?_
           rintro z w2 ⟨rfl, hb⟩
           replace hB := Below.on hB hb hB.size
           go_wp2_with fail
           go_ret
           exact ⟨ret_bool (by simp [h1]), hB⟩)
        | (go_ret
           exact ⟨ret_bool (by simp [h1]), hB⟩)
  · obtain ⟨x, y, rfl⟩ := two_kids hk (by omega)
    have hx : [x, y][0]? = some x := rfl
    have hy : [x, y][1]? = some y := rfl
    obtain ⟨b', o', rfl⟩ := kid_some hr (by simp)
    have e : Ex.emp atom (.mk 7 n [x, y]) = and (Ex.emp atom (.mk x.kind x.num x.kids)) (Ex.emp atom (.mk y.kind y.num y.kids)) := by rw [← Ex.eta x, ← Ex.eta y]; simp [Ex.emp, Ex.empL, empC]
    have hxt : Ex.tree tm am (.mk x.kind x.num x.kids) = true := by rw [← Ex.eta x]; exact Ex.treeL_mem htl (by simp)
    have hyt : Ex.tree tm am (.mk y.kind y.num y.kids) = true := by rw [← Ex.eta y]; exact Ex.treeL_mem htl (by simp)
    skip
    have hxs : Ex.sizeL x.kids < N := by have := Ex.size_eq x; simp only [Ex.sizeL] at hN; omega
    have hys : Ex.sizeL y.kids < N := by have := Ex.size_eq y; simp only [Ex.sizeL] at hN; omega
    rw [e]
    clear hk hnum htl hc htr e
    obtain ⟨hbl, s', c', g0, g1, g2, gr⟩ := kid_in hr hx
    obtain ⟨-, s2, c2, k0, k1, k2, kr⟩ := kid_in hr hy
    simp only [Nat.zero_mul, Nat.add_zero] at g0 g1 g2
    simp only [Nat.one_mul] at k0 k1 k2
    have L := Blk.new3 w 45 (.int .i64 7) (.int .i64 n) (.slice (some ⟨b', o', none⟩) 2 c)
    go_enter Try.func77, Try.ntmps77
    go_wp2_with fail
    refine (ih _ hxs _ _ _ _ _ _ (Nat.le_refl _) (gr.alloc _) hxt ).mono ?_
    rintro z w1 ⟨rfl, hb⟩
    have hB : Below w.heap.size w w1 := Below.on (by (repeat' (first | exact Below.refl _ _ | assumption | (refine Below.alloc ?_ (by first | omega | (simp; done) | (simp; omega)) _) | (refine Below.drew ?_) | (refine Below.setCell ?_ (by first | omega | (simp; done) | (simp; omega)) _)))) hb (by simp)
    replace L := L.below hb
    have l2 := L.c2
    have k0' := (hB.cell (p := ⟨b', o' + 3, none⟩) hbl).trans k0
    have k1' := (hB.cell (p := ⟨b', o' + 3 + 1, none⟩) hbl).trans k1
    have k2' := (hB.cell (p := ⟨b', o' + 3 + 2, none⟩) hbl).trans k2
    clear k0 k1 k2 g0 g1 g2 hb
    cases h1 : Ex.emp atom (.mk x.kind x.num x.kids)
    all_goals
      go_wp2_with fail
      first
        | (refine (ih _ hys _ _ _ _ _ _ (Nat.le_refl _) (kr.below hB) hyt ).mono ?_
           rintro z w2 ⟨rfl, hb⟩
           replace hB := Below.on hB hb hB.size
           go_wp2_with fail
           go_ret
           exact ⟨ret_bool (by simp [h1]), hB⟩)
        | (go_ret
           exact ⟨ret_bool (by simp [h1]), hB⟩)
  · have e : Ex.emp atom (.mk 8 n ks) = true := by simp [Ex.emp, empC]
    rw [e]
    clear hk hnum htl e hc
    go_enter Try.func77, Try.ntmps77
    go_wp2_with fail
    go_ret
    exact ⟨rfl, by (repeat' (first | exact Below.refl _ _ | assumption | (refine Below.alloc ?_ (by first | omega | (simp; done) | (simp; omega)) _) | (refine Below.drew ?_) | (refine Below.setCell ?_ (by first | omega | (simp; done) | (simp; omega)) _)))⟩

theorem kidsN_none {k : Int} {ks : List Ex} (h : kidsN k = (ks.length : Int)) (hk : k = 1 ∨ k = 2 ∨ k = 3 ∨ k = 4) : ks = [] := by
  unfold kidsN at h; rw [if_pos hk] at h; exact List.eq_nil_of_length_eq_zero (by omega)
set_option maxHeartbeats 4000000 in
theorem l02Empty_all (tm am atom : Int) (ht : tm ≤ 2) (h0 : 0 ≤ atom) (h7 : atom ≤ 7) (N : Nat) : ∀ (e : Ex) (b o : Nat) (w : World), e.size ≤ N → ExAt w b o e → e.tree tm am = true →
    Calls Try.prog 76 #[.pointer (some ⟨b, o, none⟩), .int .i64 atom] w fun f w' => f = .returned (.bool (e.emp atom)) ∧ w = w' := by
  induction N using Nat.strongRecOn with
  | _ N ih =>
  intro e b o w hN hr htr
  obtain ⟨k, n, ks⟩ := e
  obtain ⟨g0, g1, s, c, g2, hr⟩ := hr
  simp only [Ex.kind, Ex.num, Ex.kids] at g0 g1 g2 hr
  obtain ⟨hk, hnum, hc, htl⟩ := tree_parts htr
  rcases kind_cases hk with rfl | rfl | rfl | rfl | rfl | rfl | rfl | rfl
  · have e : Ex.emp atom (.mk 1 n ks) = Ex.tru atom (.mk 1 n ks) := by simp [Ex.emp, empC, Ex.tru, truC]
    have hcc : Ex.cond (.mk 1 n ks) = true := by rw [Ex.cond_eq]; simp [Ex.kind, Ex.kids, condKind, kidsN_none hk (by omega), Ex.condL]
    rw [e]
    clear hk hnum htl e hc
    have hat : ExAt w b o (.mk 1 n ks) := ⟨g0, g1, s, c, g2, hr⟩
    go_enter Try.func76, Try.ntmps76
    go_wp2_with fail
    refine (l01True_all tm am atom ht h0 h7 _ _ _ _ _ (Nat.le_refl _) hat htr hcc).mono ?_
    rintro y w' ⟨rfl, rfl⟩
    go_wp2_with fail
    go_ret
    exact ⟨rfl, rfl⟩
  · have e : Ex.emp atom (.mk 2 n ks) = Ex.tru atom (.mk 2 n ks) := by simp [Ex.emp, empC, Ex.tru, truC]
    have hcc : Ex.cond (.mk 2 n ks) = true := by rw [Ex.cond_eq]; simp [Ex.kind, Ex.kids, condKind, kidsN_none hk (by omega), Ex.condL]
    rw [e]
    clear hk hnum htl e hc
    have hat : ExAt w b o (.mk 2 n ks) := ⟨g0, g1, s, c, g2, hr⟩
    go_enter Try.func76, Try.ntmps76
    go_wp2_with fail
    refine (l01True_all tm am atom ht h0 h7 _ _ _ _ _ (Nat.le_refl _) hat htr hcc).mono ?_
    rintro y w' ⟨rfl, rfl⟩
    go_wp2_with fail
    go_ret
    exact ⟨rfl, rfl⟩
  · have e : Ex.emp atom (.mk 3 n ks) = Ex.tru atom (.mk 3 n ks) := by simp [Ex.emp, empC, Ex.tru, truC]
    have hcc : Ex.cond (.mk 3 n ks) = true := by rw [Ex.cond_eq]; simp [Ex.kind, Ex.kids, condKind, kidsN_none hk (by omega), Ex.condL]
    rw [e]
    clear hk hnum htl e hc
    have hat : ExAt w b o (.mk 3 n ks) := ⟨g0, g1, s, c, g2, hr⟩
    go_enter Try.func76, Try.ntmps76
    go_wp2_with fail
    refine (l01True_all tm am atom ht h0 h7 _ _ _ _ _ (Nat.le_refl _) hat htr hcc).mono ?_
    rintro y w' ⟨rfl, rfl⟩
    go_wp2_with fail
    go_ret
    exact ⟨rfl, rfl⟩
  · have e : Ex.emp atom (.mk 4 n ks) = false := by simp [Ex.emp, empC]
    rw [e]
    clear hk hnum htl e hc
    go_enter Try.func76, Try.ntmps76
    go_wp2_with fail
    go_ret
    exact ⟨rfl, rfl⟩
  · have e : Ex.emp atom (.mk 5 n ks) = Ex.tru atom (.mk 5 n ks) := by simp [Ex.emp, empC, Ex.tru, truC]
    have hcc : Ex.cond (.mk 5 n ks) = true := by rw [Ex.cond_eq]; simp [Ex.kind, Ex.kids, condKind, hc rfl]
    rw [e]
    clear hk hnum htl e hc
    have hat : ExAt w b o (.mk 5 n ks) := ⟨g0, g1, s, c, g2, hr⟩
    go_enter Try.func76, Try.ntmps76
    go_wp2_with fail
    refine (l01True_all tm am atom ht h0 h7 _ _ _ _ _ (Nat.le_refl _) hat htr hcc).mono ?_
    rintro y w' ⟨rfl, rfl⟩
    go_wp2_with fail
    go_ret
    exact ⟨rfl, rfl⟩
  · obtain ⟨x, y, rfl⟩ := two_kids hk (by omega)
    have hx : [x, y][0]? = some x := rfl
    have hy : [x, y][1]? = some y := rfl
    obtain ⟨b', o', rfl⟩ := kid_some hr (by simp)
    have e : Ex.emp atom (.mk 6 n [x, y]) = or (Ex.emp atom x) (Ex.emp atom y) := by simp [Ex.emp, Ex.empL, empC]
    have hxt : Ex.tree tm am x = true := Ex.treeL_mem htl (by simp)
    have hyt : Ex.tree tm am y = true := Ex.treeL_mem htl (by simp)
    skip
    have hxs : x.size < N := by simp only [Ex.size, Ex.sizeL] at hN; omega
    have hys : y.size < N := by simp only [Ex.size, Ex.sizeL] at hN; omega
    have hax := kid_exAt hr hx
    have hay := kid_exAt hr hy
    simp only [Nat.zero_mul, Nat.one_mul, Nat.add_zero] at hax hay
    obtain ⟨-, hlen, hcap, -, -⟩ := kid_at hr
    unfold maxLen at hcap
    simp only [List.length_cons, List.length_nil] at hlen
    rw [e]
    clear hk hnum htl hc htr e
    go_enter Try.func76, Try.ntmps76
    go_wp2_with fail
    refine (ih _ hxs x _ _ _ (Nat.le_refl _) hax hxt ).mono ?_
    rintro z w' ⟨rfl, rfl⟩
    cases h1 : Ex.emp atom x
    all_goals
      go_wp2_with fail
      first
        | (refine (ih _ hys y _ _ _ (Nat.le_refl _) hay hyt ).mono ?_
           rintro z w' ⟨rfl, rfl⟩
           go_wp2_with fail
           go_ret
           exact ⟨ret_bool (by simp [h1]), rfl⟩)
        | (go_ret
           exact ⟨ret_bool (by simp [h1]), rfl⟩)
  · obtain ⟨x, y, rfl⟩ := two_kids hk (by omega)
    have hx : [x, y][0]? = some x := rfl
    have hy : [x, y][1]? = some y := rfl
    obtain ⟨b', o', rfl⟩ := kid_some hr (by simp)
    have e : Ex.emp atom (.mk 7 n [x, y]) = and (Ex.emp atom x) (Ex.emp atom y) := by simp [Ex.emp, Ex.empL, empC]
    have hxt : Ex.tree tm am x = true := Ex.treeL_mem htl (by simp)
    have hyt : Ex.tree tm am y = true := Ex.treeL_mem htl (by simp)
    skip
    have hxs : x.size < N := by simp only [Ex.size, Ex.sizeL] at hN; omega
    have hys : y.size < N := by simp only [Ex.size, Ex.sizeL] at hN; omega
    have hax := kid_exAt hr hx
    have hay := kid_exAt hr hy
    simp only [Nat.zero_mul, Nat.one_mul, Nat.add_zero] at hax hay
    obtain ⟨-, hlen, hcap, -, -⟩ := kid_at hr
    unfold maxLen at hcap
    simp only [List.length_cons, List.length_nil] at hlen
    rw [e]
    clear hk hnum htl hc htr e
    go_enter Try.func76, Try.ntmps76
    go_wp2_with fail
    refine (ih _ hxs x _ _ _ (Nat.le_refl _) hax hxt ).mono ?_
    rintro z w' ⟨rfl, rfl⟩
    cases h1 : Ex.emp atom x
    all_goals
      go_wp2_with fail
      first
        | (refine (ih _ hys y _ _ _ (Nat.le_refl _) hay hyt ).mono ?_
           rintro z w' ⟨rfl, rfl⟩
           go_wp2_with fail
           go_ret
           exact ⟨ret_bool (by simp [h1]), rfl⟩)
        | (go_ret
           exact ⟨ret_bool (by simp [h1]), rfl⟩)
  · have e : Ex.emp atom (.mk 8 n ks) = true := by simp [Ex.emp, empC]
    rw [e]
    clear hk hnum htl e hc
    go_enter Try.func76, Try.ntmps76
    go_wp2_with fail
    go_ret
    exact ⟨rfl, rfl⟩

def empR (t a k n : Int) (ks : List Ex) (x : Int) : Bool := okB t a (.mk k n ks) && (atomB t x && Ex.emp x (.mk k n ks))
def empK (t a k n : Int) (ks : List Ex) (x : Int) : Int := if okB t a (.mk k n ks) = true then (if atomB t x = true then 0 else 2) else 1

set_option maxHeartbeats 2000000 in
theorem implEmptyAt_i {t a k n x : Int} {ks : List Ex} {s : Option Addr} {c : Nat} {w : World} (hr : Rd w (kidsD ks) (.slice s ks.length c)) :
    Calls Try.prog 28 #[.agg #[.int .i64 t, .int .i64 a], .agg #[.int .i64 k, .int .i64 n, .slice s ks.length c], .int .i64 x] w fun e w' => e = .returned (.tuple #[.bool (empR t a k n ks x), .int .i64 (empK t a k n ks x)]) ∧ Below w.heap.size w w' := by
  go_enter Try.func28, Try.ntmps28
  go_wp2_with fail
  have L := (Blk.new2 w 31 (.int .i64 t) (.int .i64 a)).alloc (.cells #[.int .i64 k, .int .i64 n, .slice s ks.length c] 45)
  have M := Blk.new3 (w.alloc (.cells #[.int .i64 t, .int .i64 a] 31)) 45 (.int .i64 k) (.int .i64 n) (.slice s ks.length c)
  simp at M
  have hB : Below w.heap.size w ((w.alloc (.cells #[.int .i64 t, .int .i64 a] 31)).alloc (.cells #[.int .i64 k, .int .i64 n, .slice s ks.length c] 45)) := by (repeat' (first | exact Below.refl _ _ | assumption | (refine Below.alloc ?_ (by first | omega | (simp; done) | (simp; omega)) _) | (refine Below.drew ?_) | (refine Below.setCell ?_ (by first | omega | (simp; done) | (simp; omega)) _)))
  have hB0 := hB
  generalize ((w.alloc (.cells #[.int .i64 t, .int .i64 a] 31)).alloc (.cells #[.int .i64 k, .int .i64 n, .slice s ks.length c] 45)) = v0 at L M hB hB0 ⊢
  have l0 := L.c0
  have l1 := L.c1
  have m0 := M.c0
  have m1 := M.c1
  have m2 := M.c2
  have ltL := L.lt
  have ltM := M.lt
  go_wp2_with fail
  refine (implValidExpr_i (hr.below hB)).mono ?_
  rintro x w1 ⟨rfl, hb⟩
  clear l0 l1 m0 m1 m2 ltL ltM
  replace hB := Below.on hB hb hB.size
  replace L := L.below hb
  replace M := M.below hb
  clear hb
  cases hs1 : okB t a (.mk k n ks)
  · go_wp2_with fail
    go_ret2
    exact ⟨ret_bi (by simp [empR, hs1]) (by simp [empK, hs1]), hB⟩
  have Hs1 := Lib.hid hs1
  clear hs1
  have l0 := L.c0
  have l1 := L.c1
  have m0 := M.c0
  have m1 := M.c1
  have m2 := M.c2
  have ltL := L.lt
  have ltM := M.lt
  go_wp2_with fail
  refine (isAtom_i (okB_sig Hs1.out)).mono ?_
  rintro x w2 ⟨rfl, hb⟩
  clear l0 l1 m0 m1 m2 ltL ltM
  replace hB := Below.on hB hb hB.size
  replace L := L.below hb
  replace M := M.below hb
  clear hb
  cases hs2 : atomB t x
  · go_wp2_with fail
    go_ret2
    exact ⟨ret_bi (by simp [empR, Hs1.out, hs2]) (by simp [empK, Hs1.out, hs2]), hB⟩
  have Hs2 := Lib.hid hs2
  clear hs2
  have l0 := L.c0
  have l1 := L.c1
  have m0 := M.c0
  have m1 := M.c1
  have m2 := M.c2
  have ltL := L.lt
  have ltM := M.lt
  go_wp2_with fail
  refine (emptyAt_all (t - 1) (a - 1) x (atomB_bd (okB_sig Hs1.out) Hs2.out).1 (atomB_bd (okB_sig Hs1.out) Hs2.out).2.1 (atomB_bd (okB_sig Hs1.out) Hs2.out).2.2 _ _ _ _ _ _ _ (Nat.le_refl _) (hr.below hB) (okB_tree Hs1.out)).mono ?_
  rintro x w3 ⟨rfl, hb⟩
  clear l0 l1 m0 m1 m2 ltL ltM
  replace hB := Below.on hB hb hB.size
  replace L := L.below hb
  replace M := M.below hb
  clear hb
  have l0 := L.c0
  have l1 := L.c1
  have m0 := M.c0
  have m1 := M.c1
  have m2 := M.c2
  have ltL := L.lt
  have ltM := M.lt
  go_wp2_with fail
  go_ret2
  exact ⟨ret_bi (by simp [empR, Hs1.out, Hs2.out]) (by simp [empK, Hs1.out, Hs2.out]), hB⟩

set_option maxHeartbeats 2000000 in
theorem specEmptyAt_i {t a k n x : Int} {ks : List Ex} {s : Option Addr} {c : Nat} {w : World} (hr : Rd w (kidsD ks) (.slice s ks.length c)) (h1 : Ex.sizeL ks ≤ 1048576) :
    Calls Try.prog 27 #[.agg #[.int .i64 t, .int .i64 a], .agg #[.int .i64 k, .int .i64 n, .slice s ks.length c], .int .i64 x] w fun e w' => e = .returned (.tuple #[.bool (empR t a k n ks x), .int .i64 (empK t a k n ks x)]) ∧ Below w.heap.size w w' := by
  have Hsz : Hid (Ex.size (.mk k n ks) ≤ 1073741824) := by show _ ≤ _; rw [Ex.size_eq]; simp only [Ex.kids]; omega
  go_enter Try.func27, Try.ntmps27
  go_wp2_with fail
  have L := (Blk.new2 w 31 (.int .i64 t) (.int .i64 a)).alloc (.cells #[.int .i64 k, .int .i64 n, .slice s ks.length c] 45)
  have M := Blk.new3 (w.alloc (.cells #[.int .i64 t, .int .i64 a] 31)) 45 (.int .i64 k) (.int .i64 n) (.slice s ks.length c)
  simp at M
  have hB : Below w.heap.size w ((w.alloc (.cells #[.int .i64 t, .int .i64 a] 31)).alloc (.cells #[.int .i64 k, .int .i64 n, .slice s ks.length c] 45)) := by (repeat' (first | exact Below.refl _ _ | assumption | (refine Below.alloc ?_ (by first | omega | (simp; done) | (simp; omega)) _) | (refine Below.drew ?_) | (refine Below.setCell ?_ (by first | omega | (simp; done) | (simp; omega)) _)))
  have hB0 := hB
  generalize ((w.alloc (.cells #[.int .i64 t, .int .i64 a] 31)).alloc (.cells #[.int .i64 k, .int .i64 n, .slice s ks.length c] 45)) = v0 at L M hB hB0 ⊢
  have l0 := L.c0
  have l1 := L.c1
  have m0 := M.c0
  have m1 := M.c1
  have m2 := M.c2
  have ltL := L.lt
  have ltM := M.lt
  go_wp2_with fail
  refine (l01Ok_i (M.exAt (hr.below hB)) Hsz.out).mono ?_
  rintro x w1 ⟨rfl, hb⟩
  clear l0 l1 m0 m1 m2 ltL ltM
  replace hB := Below.on hB hb hB.size
  replace L := L.below hb
  replace M := M.below hb
  clear hb
  cases hs1 : okB t a (.mk k n ks)
  · go_wp2_with fail
    go_ret2
    exact ⟨ret_bi (by simp [empR, hs1]) (by simp [empK, hs1]), hB⟩
  have Hs1 := Lib.hid hs1
  clear hs1
  have l0 := L.c0
  have l1 := L.c1
  have m0 := M.c0
  have m1 := M.c1
  have m2 := M.c2
  have ltL := L.lt
  have ltM := M.lt
  go_wp2_with fail
  refine (l02Atom_i (okB_sig Hs1.out)).mono ?_
  rintro x w2 ⟨rfl, hb⟩
  clear l0 l1 m0 m1 m2 ltL ltM
  replace hB := Below.on hB hb hB.size
  replace L := L.below hb
  replace M := M.below hb
  clear hb
  cases hs2 : atomB t x
  · go_wp2_with fail
    go_ret2
    exact ⟨ret_bi (by simp [empR, Hs1.out, hs2]) (by simp [empK, Hs1.out, hs2]), hB⟩
  have Hs2 := Lib.hid hs2
  clear hs2
  have l0 := L.c0
  have l1 := L.c1
  have m0 := M.c0
  have m1 := M.c1
  have m2 := M.c2
  have ltL := L.lt
  have ltM := M.lt
  go_wp2_with fail
  refine (l02Empty_all (t - 1) (a - 1) x (atomB_bd (okB_sig Hs1.out) Hs2.out).1 (atomB_bd (okB_sig Hs1.out) Hs2.out).2.1 (atomB_bd (okB_sig Hs1.out) Hs2.out).2.2 _ (.mk k n ks) _ _ _ (Nat.le_refl _) (M.exAt (hr.below hB)) (okB_tree Hs1.out)).mono ?_
  rintro x w3 ⟨rfl, rfl⟩
  clear l0 l1 m0 m1 m2 ltL ltM
  have l0 := L.c0
  have l1 := L.c1
  have m0 := M.c0
  have m1 := M.c1
  have m2 := M.c2
  have ltL := L.lt
  have ltM := M.lt
  go_wp2_with fail
  go_ret2
  exact ⟨ret_bi (by simp [empR, Hs1.out, Hs2.out]) (by simp [empK, Hs1.out, Hs2.out]), hB⟩
end Go.Proofs.Ytjjcidfpjgmgcaa
