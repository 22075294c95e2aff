/-
  Parts of a proof, joined: Truth, Empty, TextE, Grow, TidyP, DerP. No condition.
-/
import Derived.Lib.AppendStr
import Derived.Test.YtbflhjjnemdecaaPk3
namespace Go.Proofs.Ytbflhjjnemdecaa
set_option linter.unusedVariables false
set_option linter.unusedSimpArgs false
open Go.ChangeShapes Go.WideShapes Go.ChangeAt Go.RowKit Go.Sort
def bitB (atom n : Int) : Bool := (atom / 2 ^ n.toNat) % 2 == 1
def truC (atom k n : Int) (bs : List Bool) : Bool :=
 if k = 2 then true else if k = 3 then bitB atom n else if k = 5 then !(bs.getD 0 false) else if k = 6 then (bs.getD 0 false || bs.getD 1 false) else if k = 7 then (bs.getD 0 false && bs.getD 1 false) else false
mutual
def Ex.tru (atom : Int) : Ex → Bool
 | .mk k n ks => truC atom k n (Ex.truL atom ks)
def Ex.truL (atom : Int) : List Ex → List Bool
 | [] => []
 | e :: r => Ex.tru atom e :: Ex.truL atom r
end
def empC (atom k n : Int) (ks : List Ex) (bs : List Bool) : Bool :=
 if k = 2 ∨ k = 8 then true else if k = 3 ∨ k = 5 then truC atom k n (Ex.truL atom ks) else if k = 6 then (bs.getD 0 false || bs.getD 1 false) else if k = 7 then (bs.getD 0 false && bs.getD 1 false) else false
mutual
def Ex.emp (atom : Int) : Ex → Bool
 | .mk k n ks => empC atom k n ks (Ex.empL atom ks)
def Ex.empL (atom : Int) : List Ex → List Bool
 | [] => []
 | e :: r => Ex.emp atom e :: Ex.empL atom r
end
theorem Ex.treeL_mem {tm am : Int} : ∀ {ks : List Ex} {x : Ex}, Ex.treeL tm am ks = true → x ∈ ks → x.tree tm am = true
 | [], _, _, h => by simp at h
 | e :: r, x, ht, h => by
  simp only [Ex.treeL, Bool.and_eq_true] at ht
  rcases List.mem_cons.1 h with rfl | h
  ·
   exact ht.1
  ·
   exact Ex.treeL_mem ht.2 h
theorem Ex.condL_mem : ∀ {ks : List Ex} {x : Ex}, Ex.condL ks = true → x ∈ ks → x.cond = true
 | [], _, _, h => by simp at h
 | e :: r, x, ht, h => by
  simp only [Ex.condL, Bool.and_eq_true] at ht
  rcases List.mem_cons.1 h with rfl | h
  ·
   exact ht.1
  ·
   exact Ex.condL_mem ht.2 h
theorem tree_parts {tm am k n : Int} {ks : List Ex} (h : Ex.tree tm am (.mk k n ks) = true) : kidsN k = (ks.length : Int) ∧ numB tm am k n = true ∧ (k = 5 → Ex.condL ks = true) ∧ Ex.treeL tm am ks = true := by
 simp only [Ex.tree, nodeB, Bool.and_eq_true, beq_iff_eq, Bool.or_eq_true, bne_iff_ne] at h
 refine ⟨h.1.1.1, h.1.1.2, fun hk => ?_, h.2⟩
 rcases h.1.2 with h | h
 ·
  exact absurd hk h
 ·
  exact h
theorem two_kids {k : Int} {ks : List Ex} (h : kidsN k = (ks.length : Int)) (hk : k = 6 ∨ k = 7) : ∃ x y, ks = [x, y] := by
 have : kidsN k = 2 := by unfold kidsN; rw [if_neg (by omega), if_neg (by omega), if_pos (by omega)]
 match ks, h with
 | [x, y], _ => exact ⟨x, y, rfl⟩
 | [], h => simp at h; omega
 | [x], h => simp at h; omega
 | x :: y :: z :: r, h => simp at h; omega
theorem one_kid {k : Int} {ks : List Ex} (h : kidsN k = (ks.length : Int)) (hk : k = 5 ∨ k = 8) : ∃ x, ks = [x] := by
 have : kidsN k = 1 := by unfold kidsN; rw [if_neg (by omega), if_pos (by omega)]
 match ks, h with
 | [x], _ => exact ⟨x, rfl⟩
 | [], h => simp at h; omega
 | x :: y :: r, h => simp at h; omega
theorem numB_test {tm am n : Int} (h : numB tm am 3 n = true) : 0 ≤ n ∧ n ≤ tm := by
 simp [numB, inB] at h
 omega
set_option maxHeartbeats 4000000 in
theorem truth_all (tm am atom : Int) (ht : tm ≤ 2) (h0 : 0 ≤ atom) (h7 : atom ≤ 7) (N : Nat) : ∀ (k n : Int) (ks : List Ex) (s : Option Addr) (c : Nat) (w : World), Ex.sizeL ks ≤ N → Rd w (kidsD ks) (.slice s ks.length c) →
    Ex.tree tm am (.mk k n ks) = true → Ex.cond (.mk k n ks) = true →
    Calls Try.prog 146 #[.agg #[.int .i64 k, .int .i64 n, .slice s ks.length c], .int .i64 atom] w fun f w' => f = .returned (.bool (Ex.tru atom (.mk k n ks))) ∧ Below w.heap.size w w' := by
  induction N using Nat.strongRecOn with
  | _ N ih =>
  intro k n ks s c w hN hr htr hc
  obtain ⟨hk, hnum, -, htl⟩ := tree_parts htr
  rw [Ex.cond_eq] at hc
  simp only [Ex.kind, Ex.kids, Bool.and_eq_true] at hc
  obtain ⟨hck, hcl⟩ := hc
  have hk' : k = 1 ∨ k = 2 ∨ k = 3 ∨ k = 5 ∨ k = 6 ∨ k = 7 := by simpa [condKind] using hck
  clear hck htr
  rcases hk' with rfl | rfl | rfl | rfl | rfl | rfl
  · have e : Ex.tru atom (.mk 1 n ks) = false := by simp [Ex.tru, truC]
    rw [e]
    clear hk hnum htl hcl e
    go_enter Try.func146, Try.ntmps146
    go_wp2_with fail
    go_ret
    exact ⟨rfl, by (repeat' first | exact Below.refl _ _ | assumption | apply Below.alloc | apply Below.drew | apply Below.setCell | omega | (simp; done) | (simp; omega))⟩
  · have e : Ex.tru atom (.mk 2 n ks) = true := by simp [Ex.tru, truC]
    rw [e]
    clear hk hnum htl hcl e
    go_enter Try.func146, Try.ntmps146
    go_wp2_with fail
    go_ret
    exact ⟨rfl, by (repeat' first | exact Below.refl _ _ | assumption | apply Below.alloc | apply Below.drew | apply Below.setCell | omega | (simp; done) | (simp; omega))⟩
  · have e : Ex.tru atom (.mk 3 n ks) = bitB atom n := by simp [Ex.tru, truC]
    obtain ⟨n0, n1⟩ := numB_test hnum
    rw [e]
    clear hk hnum htl hcl e
    have hn : n = 0 ∨ n = 1 ∨ n = 2 := by omega
    have ha : atom = 0 ∨ atom = 1 ∨ atom = 2 ∨ atom = 3 ∨ atom = 4 ∨ atom = 5 ∨ atom = 6 ∨ atom = 7 := by omega
    clear ih
    rcases hn with rfl | rfl | rfl <;> rcases ha with rfl | rfl | rfl | rfl | rfl | rfl | rfl | rfl
    all_goals
      go_enter Try.func146, Try.ntmps146
      go_wp2
      go_ret
      exact ⟨rfl, by (repeat' first | exact Below.refl _ _ | assumption | apply Below.alloc | apply Below.drew | apply Below.setCell | omega | (simp; done) | (simp; omega))⟩
  · obtain ⟨x, rfl⟩ := one_kid hk (by omega)
    have hx : [x][0]? = some x := rfl
    obtain ⟨b', o', rfl⟩ := kid_some hr (by simp)
    have e : Ex.tru atom (.mk 5 n [x]) = !(Ex.tru atom (.mk x.kind x.num x.kids)) := by rw [← Ex.eta x]; simp [Ex.tru, Ex.truL, truC]
    have hxt : Ex.tree tm am (.mk x.kind x.num x.kids) = true := by rw [← Ex.eta x]; exact Ex.treeL_mem htl (by simp)
    have hxc : Ex.cond (.mk x.kind x.num x.kids) = true := by rw [← Ex.eta x]; exact Ex.condL_mem hcl (by simp)
    have hxs : Ex.sizeL x.kids < N := by have := Ex.size_eq x; simp only [Ex.sizeL] at hN; omega
    rw [e]
    clear hk hnum htl hcl e
    obtain ⟨hbl, s', c', g0, g1, g2, gr⟩ := kid_in hr hx
    simp only [Nat.zero_mul, Nat.add_zero] at g0 g1 g2
    go_enter Try.func146, Try.ntmps146
    go_wp2_with fail
    refine (ih _ hxs _ _ _ _ _ _ (Nat.le_refl _) (gr.alloc _) hxt hxc).mono ?_
    rintro y w1 ⟨rfl, hb⟩
    have hB : Below w.heap.size w w1 := Below.on (by (repeat' first | exact Below.refl _ _ | assumption | apply Below.alloc | apply Below.drew | apply Below.setCell | omega | (simp; done) | (simp; omega))) hb (by simp)
    go_wp2_with fail
    go_ret
    exact ⟨rfl, hB⟩
  · obtain ⟨x, y, rfl⟩ := two_kids hk (by omega)
    have hx : [x, y][0]? = some x := rfl
    have hy : [x, y][1]? = some y := rfl
    obtain ⟨b', o', rfl⟩ := kid_some hr (by simp)
    have e : Ex.tru atom (.mk 6 n [x, y]) = or (Ex.tru atom (.mk x.kind x.num x.kids)) (Ex.tru atom (.mk y.kind y.num y.kids)) := by rw [← Ex.eta x, ← Ex.eta y]; simp [Ex.tru, Ex.truL, truC]
    have hxt : Ex.tree tm am (.mk x.kind x.num x.kids) = true := by rw [← Ex.eta x]; exact Ex.treeL_mem htl (by simp)
    have hyt : Ex.tree tm am (.mk y.kind y.num y.kids) = true := by rw [← Ex.eta y]; exact Ex.treeL_mem htl (by simp)
    have hxc : Ex.cond (.mk x.kind x.num x.kids) = true ∧ Ex.cond (.mk y.kind y.num y.kids) = true := ⟨by rw [← Ex.eta x]; exact Ex.condL_mem hcl (by simp), by rw [← Ex.eta y]; exact Ex.condL_mem hcl (by simp)⟩
    have hxs : Ex.sizeL x.kids < N := by have := Ex.size_eq x; simp only [Ex.sizeL] at hN; omega
    have hys : Ex.sizeL y.kids < N := by have := Ex.size_eq y; simp only [Ex.sizeL] at hN; omega
    rw [e]
    clear hk hnum htl hcl e
    obtain ⟨hbl, s', c', g0, g1, g2, gr⟩ := kid_in hr hx
    obtain ⟨-, s2, c2, k0, k1, k2, kr⟩ := kid_in hr hy
    simp only [Nat.zero_mul, Nat.add_zero] at g0 g1 g2
    simp only [Nat.one_mul] at k0 k1 k2
    have L := Blk.new3 w 38 (.int .i64 6) (.int .i64 n) (.slice (some ⟨b', o', none⟩) 2 c)
    go_enter Try.func146, Try.ntmps146
    go_wp2_with fail
    refine (ih _ hxs _ _ _ _ _ _ (Nat.le_refl _) (gr.alloc _) hxt hxc.1).mono ?_
    rintro z w1 ⟨rfl, hb⟩
    have hB : Below w.heap.size w w1 := Below.on (by (repeat' first | exact Below.refl _ _ | assumption | apply Below.alloc | apply Below.drew | apply Below.setCell | omega | (simp; done) | (simp; omega))) hb (by simp)
    replace L := L.below hb
    have l2 := L.c2
    have k0' := (hB.cell (p := ⟨b', o' + 3, none⟩) hbl).trans k0
    have k1' := (hB.cell (p := ⟨b', o' + 3 + 1, none⟩) hbl).trans k1
    have k2' := (hB.cell (p := ⟨b', o' + 3 + 2, none⟩) hbl).trans k2
    clear k0 k1 k2 g0 g1 g2 hb
    cases h1 : Ex.tru atom (.mk x.kind x.num x.kids)
    all_goals
      go_wp2_with fail
      first
        | (refine (ih _ hys _ _ _ _ _ _ (Nat.le_refl _) (kr.below hB) hyt hxc.2).mono ?_
           rintro z w2 ⟨rfl, hb⟩
           replace hB := Below.on hB hb hB.size
           go_wp2_with fail
           go_ret
           exact ⟨ret_bool (by simp [h1]), hB⟩)
        | (go_ret
           exact ⟨ret_bool (by simp [h1]), hB⟩)
  · obtain ⟨x, y, rfl⟩ := two_kids hk (by omega)
    have hx : [x, y][0]? = some x := rfl
    have hy : [x, y][1]? = some y := rfl
    obtain ⟨b', o', rfl⟩ := kid_some hr (by simp)
    have e : Ex.tru atom (.mk 7 n [x, y]) = and (Ex.tru atom (.mk x.kind x.num x.kids)) (Ex.tru atom (.mk y.kind y.num y.kids)) := by rw [← Ex.eta x, ← Ex.eta y]; simp [Ex.tru, Ex.truL, truC]
    have hxt : Ex.tree tm am (.mk x.kind x.num x.kids) = true := by rw [← Ex.eta x]; exact Ex.treeL_mem htl (by simp)
    have hyt : Ex.tree tm am (.mk y.kind y.num y.kids) = true := by rw [← Ex.eta y]; exact Ex.treeL_mem htl (by simp)
    have hxc : Ex.cond (.mk x.kind x.num x.kids) = true ∧ Ex.cond (.mk y.kind y.num y.kids) = true := ⟨by rw [← Ex.eta x]; exact Ex.condL_mem hcl (by simp), by rw [← Ex.eta y]; exact Ex.condL_mem hcl (by simp)⟩
    have hxs : Ex.sizeL x.kids < N := by have := Ex.size_eq x; simp only [Ex.sizeL] at hN; omega
    have hys : Ex.sizeL y.kids < N := by have := Ex.size_eq y; simp only [Ex.sizeL] at hN; omega
    rw [e]
    clear hk hnum htl hcl e
    obtain ⟨hbl, s', c', g0, g1, g2, gr⟩ := kid_in hr hx
    obtain ⟨-, s2, c2, k0, k1, k2, kr⟩ := kid_in hr hy
    simp only [Nat.zero_mul, Nat.add_zero] at g0 g1 g2
    simp only [Nat.one_mul] at k0 k1 k2
    have L := Blk.new3 w 38 (.int .i64 7) (.int .i64 n) (.slice (some ⟨b', o', none⟩) 2 c)
    go_enter Try.func146, Try.ntmps146
    go_wp2_with fail
    refine (ih _ hxs _ _ _ _ _ _ (Nat.le_refl _) (gr.alloc _) hxt hxc.1).mono ?_
    rintro z w1 ⟨rfl, hb⟩
    have hB : Below w.heap.size w w1 := Below.on (by (repeat' first | exact Below.refl _ _ | assumption | apply Below.alloc | apply Below.drew | apply Below.setCell | omega | (simp; done) | (simp; omega))) hb (by simp)
    replace L := L.below hb
    have l2 := L.c2
    have k0' := (hB.cell (p := ⟨b', o' + 3, none⟩) hbl).trans k0
    have k1' := (hB.cell (p := ⟨b', o' + 3 + 1, none⟩) hbl).trans k1
    have k2' := (hB.cell (p := ⟨b', o' + 3 + 2, none⟩) hbl).trans k2
    clear k0 k1 k2 g0 g1 g2 hb
    cases h1 : Ex.tru atom (.mk x.kind x.num x.kids)
    all_goals
      go_wp2_with fail
      first
        | (refine (ih _ hys _ _ _ _ _ _ (Nat.le_refl _) (kr.below hB) hyt hxc.2).mono ?_
           rintro z w2 ⟨rfl, hb⟩
           replace hB := Below.on hB hb hB.size
           go_wp2_with fail
           go_ret
           exact ⟨ret_bool (by simp [h1]), hB⟩)
        | (go_ret
           exact ⟨ret_bool (by simp [h1]), hB⟩)
set_option maxHeartbeats 4000000 in
theorem l01True_all (tm am atom : Int) (ht : tm ≤ 2) (h0 : 0 ≤ atom) (h7 : atom ≤ 7) (N : Nat) : ∀ (e : Ex) (b o : Nat) (w : World), e.size ≤ N → ExAt w b o e → e.tree tm am = true → e.cond = true →
    Calls Try.prog 106 #[.pointer (some ⟨b, o, none⟩), .int .i64 atom] w fun f w' => f = .returned (.bool (e.tru atom)) ∧ w = w' := by
  induction N using Nat.strongRecOn with
  | _ N ih =>
  intro e b o w hN hr htr hc
  obtain ⟨k, n, ks⟩ := e
  obtain ⟨g0, g1, s, c, g2, hr⟩ := hr
  simp only [Ex.kind, Ex.num, Ex.kids] at g0 g1 g2 hr
  obtain ⟨hk, hnum, -, htl⟩ := tree_parts htr
  rw [Ex.cond_eq] at hc
  simp only [Ex.kind, Ex.kids, Bool.and_eq_true] at hc
  obtain ⟨hck, hcl⟩ := hc
  have hk' : k = 1 ∨ k = 2 ∨ k = 3 ∨ k = 5 ∨ k = 6 ∨ k = 7 := by simpa [condKind] using hck
  clear hck htr
  rcases hk' with rfl | rfl | rfl | rfl | rfl | rfl
  · have e : Ex.tru atom (.mk 1 n ks) = false := by simp [Ex.tru, truC]
    rw [e]
    clear hk hnum htl hcl e
    go_enter Try.func106, Try.ntmps106
    go_wp2_with fail
    go_ret
    exact ⟨rfl, rfl⟩
  · have e : Ex.tru atom (.mk 2 n ks) = true := by simp [Ex.tru, truC]
    rw [e]
    clear hk hnum htl hcl e
    go_enter Try.func106, Try.ntmps106
    go_wp2_with fail
    go_ret
    exact ⟨rfl, rfl⟩
  · have e : Ex.tru atom (.mk 3 n ks) = bitB atom n := by simp [Ex.tru, truC]
    obtain ⟨n0, n1⟩ := numB_test hnum
    rw [e]
    clear hk hnum htl hcl e
    have hn : n = 0 ∨ n = 1 ∨ n = 2 := by omega
    have ha : atom = 0 ∨ atom = 1 ∨ atom = 2 ∨ atom = 3 ∨ atom = 4 ∨ atom = 5 ∨ atom = 6 ∨ atom = 7 := by omega
    clear ih
    rcases hn with rfl | rfl | rfl <;> rcases ha with rfl | rfl | rfl | rfl | rfl | rfl | rfl | rfl
    all_goals
      go_enter Try.func106, Try.ntmps106
      go_wp2
      go_ret
      exact ⟨rfl, rfl⟩
  · obtain ⟨x, rfl⟩ := one_kid hk (by omega)
    have hx : [x][0]? = some x := rfl
    obtain ⟨b', o', rfl⟩ := kid_some hr (by simp)
    have e : Ex.tru atom (.mk 5 n [x]) = !(Ex.tru atom x) := by simp [Ex.tru, Ex.truL, truC]
    have hxt : Ex.tree tm am x = true := Ex.treeL_mem htl (by simp)
    have hxc : Ex.cond x = true := Ex.condL_mem hcl (by simp)
    have hxs : x.size < N := by simp only [Ex.size, Ex.sizeL] at hN; omega
    have hax := kid_exAt hr hx
    simp only [Nat.zero_mul, Nat.add_zero] at hax
    obtain ⟨-, hlen, hcap, -, -⟩ := kid_at hr
    unfold maxLen at hcap
    simp only [List.length_cons, List.length_nil] at hlen
    rw [e]
    clear hk hnum htl hcl e
    go_enter Try.func106, Try.ntmps106
    go_wp2_with fail
    refine (ih _ hxs x _ _ _ (Nat.le_refl _) hax hxt hxc).mono ?_
    rintro y w' ⟨rfl, rfl⟩
    go_wp2_with fail
    go_ret
    exact ⟨rfl, rfl⟩
  · obtain ⟨x, y, rfl⟩ := two_kids hk (by omega)
    have hx : [x, y][0]? = some x := rfl
    have hy : [x, y][1]? = some y := rfl
    obtain ⟨b', o', rfl⟩ := kid_some hr (by simp)
    have e : Ex.tru atom (.mk 6 n [x, y]) = or (Ex.tru atom x) (Ex.tru atom y) := by simp [Ex.tru, Ex.truL, truC]
    have hxt : Ex.tree tm am x = true := Ex.treeL_mem htl (by simp)
    have hyt : Ex.tree tm am y = true := Ex.treeL_mem htl (by simp)
    have hxc : Ex.cond x = true ∧ Ex.cond y = true := ⟨Ex.condL_mem hcl (by simp), Ex.condL_mem hcl (by simp)⟩
    have hxs : x.size < N := by simp only [Ex.size, Ex.sizeL] at hN; omega
    have hys : y.size < N := by simp only [Ex.size, Ex.sizeL] at hN; omega
    have hax := kid_exAt hr hx
    have hay := kid_exAt hr hy
    simp only [Nat.zero_mul, Nat.one_mul, Nat.add_zero] at hax hay
    obtain ⟨-, hlen, hcap, -, -⟩ := kid_at hr
    unfold maxLen at hcap
    simp only [List.length_cons, List.length_nil] at hlen
    rw [e]
    clear hk hnum htl hcl e
    go_enter Try.func106, Try.ntmps106
    go_wp2_with fail
    refine (ih _ hxs x _ _ _ (Nat.le_refl _) hax hxt hxc.1).mono ?_
    rintro z w' ⟨rfl, rfl⟩
    cases h1 : Ex.tru atom x
    all_goals
      go_wp2_with fail
      first
        | (refine (ih _ hys y _ _ _ (Nat.le_refl _) hay hyt hxc.2).mono ?_
           rintro z w' ⟨rfl, rfl⟩
           go_wp2_with fail
           go_ret
           exact ⟨ret_bool (by simp [h1]), rfl⟩)
        | (go_ret
           exact ⟨ret_bool (by simp [h1]), rfl⟩)
  · obtain ⟨x, y, rfl⟩ := two_kids hk (by omega)
    have hx : [x, y][0]? = some x := rfl
    have hy : [x, y][1]? = some y := rfl
    obtain ⟨b', o', rfl⟩ := kid_some hr (by simp)
    have e : Ex.tru atom (.mk 7 n [x, y]) = and (Ex.tru atom x) (Ex.tru atom y) := by simp [Ex.tru, Ex.truL, truC]
    have hxt : Ex.tree tm am x = true := Ex.treeL_mem htl (by simp)
    have hyt : Ex.tree tm am y = true := Ex.treeL_mem htl (by simp)
    have hxc : Ex.cond x = true ∧ Ex.cond y = true := ⟨Ex.condL_mem hcl (by simp), Ex.condL_mem hcl (by simp)⟩
    have hxs : x.size < N := by simp only [Ex.size, Ex.sizeL] at hN; omega
    have hys : y.size < N := by simp only [Ex.size, Ex.sizeL] at hN; omega
    have hax := kid_exAt hr hx
    have hay := kid_exAt hr hy
    simp only [Nat.zero_mul, Nat.one_mul, Nat.add_zero] at hax hay
    obtain ⟨-, hlen, hcap, -, -⟩ := kid_at hr
    unfold maxLen at hcap
    simp only [List.length_cons, List.length_nil] at hlen
    rw [e]
    clear hk hnum htl hcl e
    go_enter Try.func106, Try.ntmps106
    go_wp2_with fail
    refine (ih _ hxs x _ _ _ (Nat.le_refl _) hax hxt hxc.1).mono ?_
    rintro z w' ⟨rfl, rfl⟩
    cases h1 : Ex.tru atom x
    all_goals
      go_wp2_with fail
      first
        | (refine (ih _ hys y _ _ _ (Nat.le_refl _) hay hyt hxc.2).mono ?_
           rintro z w' ⟨rfl, rfl⟩
           go_wp2_with fail
           go_ret
           exact ⟨ret_bool (by simp [h1]), rfl⟩)
        | (go_ret
           exact ⟨ret_bool (by simp [h1]), rfl⟩)
theorem okB_sig {t a : Int} {e : Ex} (h : okB t a e = true) : sigB t a = true := by simp only [okB, Bool.and_eq_true] at h; exact h.1
theorem okB_tree {t a : Int} {e : Ex} (h : okB t a e = true) : e.tree (t - 1) (a - 1) = true := by simp only [okB, Bool.and_eq_true] at h; exact h.2.2
end Go.Proofs.Ytbflhjjnemdecaa

namespace Go.Proofs.Ytbflhjjnemdecaa
set_option linter.unusedVariables false
set_option linter.unusedSimpArgs false
open Go.ChangeShapes Go.WideShapes Go.ChangeAt Go.RowKit Go.Sort
theorem kind_cases {k : Int} {n : Nat} (h : kidsN k = (n : Int)) : k = 1 ∨ k = 2 ∨ k = 3 ∨ k = 4 ∨ k = 5 ∨ k = 6 ∨ k = 7 ∨ k = 8 := by
 by_cases hk : k = 1 ∨ k = 2 ∨ k = 3 ∨ k = 4 ∨ k = 5 ∨ k = 6 ∨ k = 7 ∨ k = 8
 ·
  exact hk
 ·
  exfalso
  unfold kidsN at h
  rw [if_neg (by omega), if_neg (by omega), if_neg (by omega)] at h
  omega
theorem kidsN_none {k : Int} {ks : List Ex} (h : kidsN k = (ks.length : Int)) (hk : k = 1 ∨ k = 2 ∨ k = 3 ∨ k = 4) : ks = [] := by
 unfold kidsN at h; rw [if_pos hk] at h; exact List.eq_nil_of_length_eq_zero (by omega)
set_option maxHeartbeats 4000000 in
theorem l02Empty_all (tm am atom : Int) (ht : tm ≤ 2) (h0 : 0 ≤ atom) (h7 : atom ≤ 7) (N : Nat) : ∀ (e : Ex) (b o : Nat) (w : World), e.size ≤ N → ExAt w b o e → e.tree tm am = true →
    Calls Try.prog 135 #[.pointer (some ⟨b, o, none⟩), .int .i64 atom] w fun f w' => f = .returned (.bool (e.emp atom)) ∧ w = w' := by
  induction N using Nat.strongRecOn with
  | _ N ih =>
  intro e b o w hN hr htr
  obtain ⟨k, n, ks⟩ := e
  obtain ⟨g0, g1, s, c, g2, hr⟩ := hr
  simp only [Ex.kind, Ex.num, Ex.kids] at g0 g1 g2 hr
  obtain ⟨hk, hnum, hc, htl⟩ := tree_parts htr
  rcases kind_cases hk with rfl | rfl | rfl | rfl | rfl | rfl | rfl | rfl
  · have e : Ex.emp atom (.mk 1 n ks) = Ex.tru atom (.mk 1 n ks) := by simp [Ex.emp, empC, Ex.tru, truC]
    have hcc : Ex.cond (.mk 1 n ks) = true := by rw [Ex.cond_eq]; simp [Ex.kind, Ex.kids, condKind, kidsN_none hk (by omega), Ex.condL]
    rw [e]
    clear hk hnum htl e hc
    have hat : ExAt w b o (.mk 1 n ks) := ⟨g0, g1, s, c, g2, hr⟩
    go_enter Try.func135, Try.ntmps135
    go_wp2_with fail
    refine (l01True_all tm am atom ht h0 h7 _ _ _ _ _ (Nat.le_refl _) hat htr hcc).mono ?_
    rintro y w' ⟨rfl, rfl⟩
    go_wp2_with fail
    go_ret
    exact ⟨rfl, rfl⟩
  · have e : Ex.emp atom (.mk 2 n ks) = Ex.tru atom (.mk 2 n ks) := by simp [Ex.emp, empC, Ex.tru, truC]
    have hcc : Ex.cond (.mk 2 n ks) = true := by rw [Ex.cond_eq]; simp [Ex.kind, Ex.kids, condKind, kidsN_none hk (by omega), Ex.condL]
    rw [e]
    clear hk hnum htl e hc
    have hat : ExAt w b o (.mk 2 n ks) := ⟨g0, g1, s, c, g2, hr⟩
    go_enter Try.func135, Try.ntmps135
    go_wp2_with fail
    refine (l01True_all tm am atom ht h0 h7 _ _ _ _ _ (Nat.le_refl _) hat htr hcc).mono ?_
    rintro y w' ⟨rfl, rfl⟩
    go_wp2_with fail
    go_ret
    exact ⟨rfl, rfl⟩
  · have e : Ex.emp atom (.mk 3 n ks) = Ex.tru atom (.mk 3 n ks) := by simp [Ex.emp, empC, Ex.tru, truC]
    have hcc : Ex.cond (.mk 3 n ks) = true := by rw [Ex.cond_eq]; simp [Ex.kind, Ex.kids, condKind, kidsN_none hk (by omega), Ex.condL]
    rw [e]
    clear hk hnum htl e hc
    have hat : ExAt w b o (.mk 3 n ks) := ⟨g0, g1, s, c, g2, hr⟩
    go_enter Try.func135, Try.ntmps135
    go_wp2_with fail
    refine (l01True_all tm am atom ht h0 h7 _ _ _ _ _ (Nat.le_refl _) hat htr hcc).mono ?_
    rintro y w' ⟨rfl, rfl⟩
    go_wp2_with fail
    go_ret
    exact ⟨rfl, rfl⟩
  · have e : Ex.emp atom (.mk 4 n ks) = false := by simp [Ex.emp, empC]
    rw [e]
    clear hk hnum htl e hc
    go_enter Try.func135, Try.ntmps135
    go_wp2_with fail
    go_ret
    exact ⟨rfl, rfl⟩
  · have e : Ex.emp atom (.mk 5 n ks) = Ex.tru atom (.mk 5 n ks) := by simp [Ex.emp, empC, Ex.tru, truC]
    have hcc : Ex.cond (.mk 5 n ks) = true := by rw [Ex.cond_eq]; simp [Ex.kind, Ex.kids, condKind, hc rfl]
    rw [e]
    clear hk hnum htl e hc
    have hat : ExAt w b o (.mk 5 n ks) := ⟨g0, g1, s, c, g2, hr⟩
    go_enter Try.func135, Try.ntmps135
    go_wp2_with fail
    refine (l01True_all tm am atom ht h0 h7 _ _ _ _ _ (Nat.le_refl _) hat htr hcc).mono ?_
    rintro y w' ⟨rfl, rfl⟩
    go_wp2_with fail
    go_ret
    exact ⟨rfl, rfl⟩
  · obtain ⟨x, y, rfl⟩ := two_kids hk (by omega)
    have hx : [x, y][0]? = some x := rfl
    have hy : [x, y][1]? = some y := rfl
    obtain ⟨b', o', rfl⟩ := kid_some hr (by simp)
    have e : Ex.emp atom (.mk 6 n [x, y]) = or (Ex.emp atom x) (Ex.emp atom y) := by simp [Ex.emp, Ex.empL, empC]
    have hxt : Ex.tree tm am x = true := Ex.treeL_mem htl (by simp)
    have hyt : Ex.tree tm am y = true := Ex.treeL_mem htl (by simp)
    skip
    have hxs : x.size < N := by simp only [Ex.size, Ex.sizeL] at hN; omega
    have hys : y.size < N := by simp only [Ex.size, Ex.sizeL] at hN; omega
    have hax := kid_exAt hr hx
    have hay := kid_exAt hr hy
    simp only [Nat.zero_mul, Nat.one_mul, Nat.add_zero] at hax hay
    obtain ⟨-, hlen, hcap, -, -⟩ := kid_at hr
    unfold maxLen at hcap
    simp only [List.length_cons, List.length_nil] at hlen
    rw [e]
    clear hk hnum htl hc htr e
    go_enter Try.func135, Try.ntmps135
    go_wp2_with fail
    refine (ih _ hxs x _ _ _ (Nat.le_refl _) hax hxt ).mono ?_
    rintro z w' ⟨rfl, rfl⟩
    cases h1 : Ex.emp atom x
    all_goals
      go_wp2_with fail
      first
        | (refine (ih _ hys y _ _ _ (Nat.le_refl _) hay hyt ).mono ?_
           rintro z w' ⟨rfl, rfl⟩
           go_wp2_with fail
           go_ret
           exact ⟨ret_bool (by simp [h1]), rfl⟩)
        | (go_ret
           exact ⟨ret_bool (by simp [h1]), rfl⟩)
  · obtain ⟨x, y, rfl⟩ := two_kids hk (by omega)
    have hx : [x, y][0]? = some x := rfl
    have hy : [x, y][1]? = some y := rfl
    obtain ⟨b', o', rfl⟩ := kid_some hr (by simp)
    have e : Ex.emp atom (.mk 7 n [x, y]) = and (Ex.emp atom x) (Ex.emp atom y) := by simp [Ex.emp, Ex.empL, empC]
    have hxt : Ex.tree tm am x = true := Ex.treeL_mem htl (by simp)
    have hyt : Ex.tree tm am y = true := Ex.treeL_mem htl (by simp)
    skip
    have hxs : x.size < N := by simp only [Ex.size, Ex.sizeL] at hN; omega
    have hys : y.size < N := by simp only [Ex.size, Ex.sizeL] at hN; omega
    have hax := kid_exAt hr hx
    have hay := kid_exAt hr hy
    simp only [Nat.zero_mul, Nat.one_mul, Nat.add_zero] at hax hay
    obtain ⟨-, hlen, hcap, -, -⟩ := kid_at hr
    unfold maxLen at hcap
    simp only [List.length_cons, List.length_nil] at hlen
    rw [e]
    clear hk hnum htl hc htr e
    go_enter Try.func135, Try.ntmps135
    go_wp2_with fail
    refine (ih _ hxs x _ _ _ (Nat.le_refl _) hax hxt ).mono ?_
    rintro z w' ⟨rfl, rfl⟩
    cases h1 : Ex.emp atom x
    all_goals
      go_wp2_with fail
      first
        | (refine (ih _ hys y _ _ _ (Nat.le_refl _) hay hyt ).mono ?_
           rintro z w' ⟨rfl, rfl⟩
           go_wp2_with fail
           go_ret
           exact ⟨ret_bool (by simp [h1]), rfl⟩)
        | (go_ret
           exact ⟨ret_bool (by simp [h1]), rfl⟩)
  · have e : Ex.emp atom (.mk 8 n ks) = true := by simp [Ex.emp, empC]
    rw [e]
    clear hk hnum htl e hc
    go_enter Try.func135, Try.ntmps135
    go_wp2_with fail
    go_ret
    exact ⟨rfl, rfl⟩
end Go.Proofs.Ytbflhjjnemdecaa

namespace Go.Proofs.Ytbflhjjnemdecaa
set_option linter.unusedVariables false
set_option linter.unusedSimpArgs false
open Go.ChangeShapes Go.WideShapes Go.ChangeAt Go.RowKit Go.Sort
def texC (k n : Int) (ts : List (List UInt8)) : List UInt8 :=
 if k = 1 then [48] else if k = 2 then [49] else if k = 3 then [116] ++ Lib.decDigits n.toNat else if k = 4 then [97] ++ Lib.decDigits n.toNat else if k = 5 then [126] ++ ts.getD 0 []
 else if k = 6 then [40] ++ ts.getD 0 [] ++ [32, 43, 32] ++ ts.getD 1 [] ++ [41] else if k = 7 then [40] ++ ts.getD 0 [] ++ [32] ++ ts.getD 1 [] ++ [41] else ts.getD 0 [] ++ [42]
mutual
def Ex.text : Ex → List UInt8
 | .mk k n ks => texC k n (Ex.textL ks)
def Ex.textL : List Ex → List (List UInt8)
 | [] => []
 | e :: r => e.text :: Ex.textL r
end
theorem numB_any {tm am k n : Int} (hk : k = 3 ∨ k = 4) (h : numB tm am k n = true) (ht : tm ≤ 8) (ha : am ≤ 8) : 0 ≤ n ∧ n ≤ 8 := by
 rcases hk with rfl | rfl <;> simp [numB, inB] at h <;> omega
theorem digits_one {m : Nat} (h : m < 10) : (Lib.decDigits m).length = 1 := by rw [Lib.decDigits_one h]; rfl
theorem text_bound (tm am : Int) (ht : tm ≤ 8) (ha : am ≤ 8) (N : Nat) : ∀ e : Ex, e.size ≤ N → e.tree tm am = true → e.text.length ≤ 5 * e.size := by
 induction N using Nat.strongRecOn with
 | _ N ih =>
 intro e hN htr
 obtain ⟨k, n, ks⟩ := e
 obtain ⟨hk, hnum, hc, htl⟩ := tree_parts htr
 have hs := Ex.size_eq (.mk k n ks)
 simp only [Ex.kids] at hs
 have kid : ∀ x, x ∈ ks → x.text.length ≤ 5 * x.size := fun x hx => ih x.size (by have := Ex.sizeL_mem hx; omega) x (Nat.le_refl _) (Ex.treeL_mem htl hx)
 rcases kind_cases hk with rfl | rfl | rfl | rfl | rfl | rfl | rfl | rfl
 ·
  simp [Ex.text, texC]; omega
 ·
  simp [Ex.text, texC]; omega
 ·
  obtain ⟨h0, h8⟩ := numB_any (by omega) hnum ht ha
  simp only [Ex.text, texC]
  simp [digits_one (show n.toNat < 10 by omega)]
  omega
 ·
  obtain ⟨h0, h8⟩ := numB_any (by omega) hnum ht ha
  simp only [Ex.text, texC]
  simp [digits_one (show n.toNat < 10 by omega)]
  omega
 ·
  obtain ⟨x, rfl⟩ := one_kid hk (by omega)
  have := kid x (by simp)
  simp [Ex.text, texC, Ex.textL]
  simp only [Ex.sizeL] at hs
  omega
 ·
  obtain ⟨x, y, rfl⟩ := two_kids hk (by omega)
  have := kid x (by simp)
  have := kid y (by simp)
  simp [Ex.text, texC, Ex.textL]
  simp only [Ex.sizeL] at hs
  omega
 ·
  obtain ⟨x, y, rfl⟩ := two_kids hk (by omega)
  have := kid x (by simp)
  have := kid y (by simp)
  simp [Ex.text, texC, Ex.textL]
  simp only [Ex.sizeL] at hs
  omega
 ·
  obtain ⟨x, rfl⟩ := one_kid hk (by omega)
  have := kid x (by simp)
  simp [Ex.text, texC, Ex.textL]
  simp only [Ex.sizeL] at hs
  omega
end Go.Proofs.Ytbflhjjnemdecaa

namespace Go.Proofs.Ytbflhjjnemdecaa
set_option linter.unusedVariables false
set_option linter.unusedSimpArgs false
section
variable {α : Type} [DecidableEq α]
def grow1 (L : List α) : Option α → List α
 | none => L
 | some x => if x ∈ L then L else L ++ [x]
def growL (L : List α) (ss : List (Option α)) : List α := ss.foldl grow1 L
theorem growL_append (L : List α) (a b : List (Option α)) : growL L (a ++ b) = growL (growL L a) b := List.foldl_append
theorem grow1_old {L : List α} {x : α} (h : x ∈ L) : grow1 L (some x) = L := if_pos h
theorem grow1_new {L : List α} {x : α} (h : x ∉ L) : grow1 L (some x) = L ++ [x] := if_neg h
end
end Go.Proofs.Ytbflhjjnemdecaa

namespace Go.Proofs.Ytbflhjjnemdecaa
set_option linter.unusedVariables false
set_option linter.unusedSimpArgs false
noncomputable instance exDec : DecidableEq Ex := fun a b => Classical.propDecidable (a = b)
def Ex.two (k : Int) (a b : Ex) : Ex := .mk k 0 [a, b]
def Ex.leaf (k : Int) : Ex := .mk k 0 []
def summC (k n : Int) (ks : List Ex) (rs : List (List Ex)) : List Ex := if k = 1 then [] else if k = 6 then rs.flatten else [.mk k n ks]
mutual
def Ex.summ : Ex → List Ex
 | .mk k n ks => summC k n ks (Ex.summL ks)
def Ex.summL : List Ex → List (List Ex)
 | [] => []
 | e :: r => e.summ :: Ex.summL r
end
theorem Ex.summ_zero {n : Int} {ks : List Ex} : (Ex.mk 1 n ks).summ = [] := by simp [Ex.summ, summC]
theorem Ex.summ_sum {n : Int} {a b : Ex} : (Ex.mk 6 n [a, b]).summ = a.summ ++ b.summ := by simp [Ex.summ, summC, Ex.summL]
theorem Ex.summ_else {k n : Int} {ks : List Ex} (h1 : k ≠ 1) (h6 : k ≠ 6) : (Ex.mk k n ks).summ = [.mk k n ks] := by simp [Ex.summ, summC, h1, h6]
def sizes (L : List Ex) : Nat := (L.map Ex.size).sum
theorem sizes_append (a b : List Ex) : sizes (a ++ b) = sizes a + sizes b := by simp [sizes]
theorem summ_spec (tm am : Int) (N : Nat) : ∀ e : Ex, e.size ≤ N → e.tree tm am = true → (∀ x ∈ e.summ, x.tree tm am = true ∧ x.size ≤ e.size) ∧ sizes e.summ + e.summ.length ≤ e.size + 1 := by
 induction N using Nat.strongRecOn with
 | _ N ih =>
 intro e hN ht
 obtain ⟨k, n, ks⟩ := e
 by_cases h1 : k = 1
 ·
  subst h1
  rw [Ex.summ_zero]
  simp [sizes]
 by_cases h6 : k = 6
 ·
  subst h6
  obtain ⟨hk, -, -, htl⟩ := tree_parts ht
  obtain ⟨a, b, rfl⟩ := two_kids hk (by omega)
  have hs := Ex.size_eq (.mk 6 n [a, b])
  simp only [Ex.kids, Ex.sizeL] at hs
  obtain ⟨a1, a2⟩ := ih a.size (by omega) a (Nat.le_refl _) (Ex.treeL_mem htl (by simp))
  obtain ⟨b1, b2⟩ := ih b.size (by omega) b (Nat.le_refl _) (Ex.treeL_mem htl (by simp))
  rw [Ex.summ_sum]
  refine ⟨fun x hx => ?_, by rw [sizes_append, List.length_append]; omega⟩
  rcases List.mem_append.1 hx with hx | hx
  ·
   exact ⟨(a1 x hx).1, by have := (a1 x hx).2; omega⟩
  ·
   exact ⟨(b1 x hx).1, by have := (b1 x hx).2; omega⟩
 ·
  rw [Ex.summ_else h1 h6]
  refine ⟨fun x hx => ?_, by simp [sizes]⟩
  rw [List.mem_singleton] at hx
  subst hx
  exact ⟨ht, Nat.le_refl _⟩
def Ex.lt (a b : Ex) : Bool := decide (a.text < b.text)
def insT (e : Ex) (L : List Ex) : List Ex := L.takeWhile (fun x => Ex.lt x e) ++ e :: L.dropWhile (fun x => x.lt e)
def sortI (L : List Ex) : List Ex := L.foldl (fun acc e => insT e acc) []
theorem insT_perm (e : Ex) (L : List Ex) : (insT e L).Perm (e :: L) := by
 unfold insT
 refine List.perm_middle.trans ?_
 rw [List.takeWhile_append_dropWhile]
theorem sortI_perm_aux : ∀ (L acc : List Ex), (L.foldl (fun acc e => insT e acc) acc).Perm (acc ++ L)
 | [], acc => by simp
 | e :: r, acc => by
  refine (sortI_perm_aux r (insT e acc)).trans ?_
  refine ((insT_perm e acc).append_right r).trans ?_
  exact (List.perm_middle (a := e) (l₁ := acc) (l₂ := r)).symm
theorem sortI_perm (L : List Ex) : (sortI L).Perm L := by have := sortI_perm_aux L []; rwa [List.nil_append] at this
noncomputable def nub (L : List Ex) : List Ex := growL [] (L.map some)
def foldS : List Ex → Ex
 | [] => .leaf 1
 | x :: r => r.foldl (fun a b => .two 6 a b) x
noncomputable def sumT (x y : Ex) : Ex := foldS (sortI (nub (x.summ ++ y.summ)))
theorem growL_mem {α : Type} [DecidableEq α] : ∀ (ss : List α) (L : List α) (x : α), x ∈ growL L (ss.map some) ↔ x ∈ L ∨ x ∈ ss
 | [], L, x => by simp [growL]
 | s :: r, L, x => by
  show x ∈ growL (grow1 L (some s)) (r.map some) ↔ _
  rw [growL_mem r]
  by_cases h : s ∈ L
  ·
   rw [grow1_old h]
   constructor
   ·
    rintro (q | q); exact Or.inl q; exact Or.inr (List.mem_cons_of_mem _ q)
   ·
    rintro (q | q)
    ·
     exact Or.inl q
    ·
     rcases List.mem_cons.1 q with rfl | q; exact Or.inl h; exact Or.inr q
  ·
   rw [grow1_new h]
   simp [or_assoc]
theorem nub_mem {L : List Ex} {x : Ex} : x ∈ nub L ↔ x ∈ L := by unfold nub; rw [growL_mem]; simp
theorem grow_sizes : ∀ (ss : List Ex) (L : List Ex), sizes (growL L (ss.map some)) + (growL L (ss.map some)).length ≤ sizes L + L.length + (sizes ss + ss.length)
 | [], L => by simp [growL, sizes]
 | s :: r, L => by
  show sizes (growL (grow1 L (some s)) (r.map some)) + (growL (grow1 L (some s)) (r.map some)).length ≤ _
  have := grow_sizes r (grow1 L (some s))
  have h2 : sizes (s :: r) = s.size + sizes r := by simp [sizes]
  have h3 : sizes (grow1 L (some s)) + (grow1 L (some s)).length ≤ sizes L + L.length + (s.size + 1) := by
   by_cases h : s ∈ L
   ·
    rw [grow1_old h]; omega
   ·
    rw [grow1_new h, sizes_append, List.length_append]
    simp [sizes]
    omega
  rw [h2, List.length_cons]
  omega
theorem nub_sizes (L : List Ex) : sizes (nub L) + (nub L).length ≤ sizes L + L.length := by
 have := grow_sizes L []
 simpa [nub, sizes] using this
theorem foldS_size : ∀ (r : List Ex) (x : Ex), (r.foldl (fun a b => Ex.two 6 a b) x).size = x.size + sizes r + r.length
 | [], x => by simp [sizes]
 | e :: r, x => by
  rw [List.foldl_cons, foldS_size r]
  have : (Ex.two 6 x e).size = 1 + (x.size + e.size) := by rw [Ex.size_eq]; simp [Ex.two, Ex.kids, Ex.sizeL]
  simp [this, sizes]
  omega
theorem sizes_perm {L M : List Ex} (h : L.Perm M) : sizes L = sizes M := List.Perm.sum_nat (h.map Ex.size)
theorem tree_two {tm am k : Int} {a b : Ex} (hk : k = 6 ∨ k = 7) (ha : a.tree tm am = true) (hb : b.tree tm am = true) : (Ex.two k a b).tree tm am = true := by
 rcases hk with rfl | rfl <;> simp [Ex.two, Ex.tree, Ex.treeL, ha, hb, nodeB, kidsN, numB]
theorem tree_leaf {tm am k : Int} (hk : k = 1 ∨ k = 2) : (Ex.leaf k).tree tm am = true := by
 rcases hk with rfl | rfl <;> simp [Ex.leaf, Ex.tree, Ex.treeL, nodeB, kidsN, numB]
theorem foldS_tree {tm am : Int} : ∀ (r : List Ex) (x : Ex), x.tree tm am = true → (∀ y ∈ r, y.tree tm am = true) → (r.foldl (fun a b => Ex.two 6 a b) x).tree tm am = true
 | [], x, h, _ => h
 | e :: r, x, h, hr => foldS_tree r _ (tree_two (Or.inl rfl) h (hr e (by simp))) (fun y hy => hr y (by simp [hy]))
theorem sumT_spec {tm am : Int} {x y : Ex} (hx : x.tree tm am = true) (hy : y.tree tm am = true) : (sumT x y).tree tm am = true ∧ (sumT x y).size ≤ 1 + x.size + y.size := by
 obtain ⟨x1, x2⟩ := summ_spec tm am _ x (Nat.le_refl _) hx
 obtain ⟨y1, y2⟩ := summ_spec tm am _ y (Nat.le_refl _) hy
 have hm : ∀ z ∈ sortI (nub (x.summ ++ y.summ)), z.tree tm am = true := fun z hz => by
  have := nub_mem.1 ((sortI_perm _).mem_iff.1 hz)
  rcases List.mem_append.1 this with h | h
  ·
   exact (x1 z h).1
  ·
   exact (y1 z h).1
 have hs := nub_sizes (x.summ ++ y.summ)
 rw [sizes_append, List.length_append, ← sizes_perm (sortI_perm (nub _)), ← (sortI_perm (nub _)).length_eq] at hs
 unfold sumT
 generalize sortI (nub (x.summ ++ y.summ)) = L at hm hs
 cases L with
 | nil => exact ⟨tree_leaf (Or.inl rfl), by simp [foldS, Ex.leaf, Ex.size, Ex.sizeL]; omega⟩
 | cons z r =>
  refine ⟨foldS_tree r z (hm z (by simp)) (fun q hq => hm q (by simp [hq])), ?_⟩
  show (r.foldl (fun a b => Ex.two 6 a b) z).size ≤ _
  rw [foldS_size]
  have hz : sizes (z :: r) = z.size + sizes r := by simp [sizes]
  rw [hz, List.length_cons] at hs
  omega
def dotC (k n : Int) (ks : List Ex) (fs : List (Ex → Ex)) (y : Ex) : Ex :=
 if k = 1 ∨ y.kind = 1 then .leaf 1 else if k = 2 then y else if y.kind = 2 then .mk k n ks
 else if k = 7 then fs.foldr (fun f z => f z) y else .two 7 (.mk k n ks) y
mutual
def Ex.dot : Ex → Ex → Ex
 | .mk k n ks => fun y => dotC k n ks (Ex.dotL ks) y
def Ex.dotL : List Ex → List (Ex → Ex)
 | [] => []
 | e :: r => e.dot :: Ex.dotL r
end
theorem Ex.dot_eq (k n : Int) (ks : List Ex) (y : Ex) : (Ex.mk k n ks).dot y = dotC k n ks (Ex.dotL ks) y := by simp only [Ex.dot]
theorem Ex.dot_seven {n : Int} {a b y : Ex} (h1 : y.kind ≠ 1) (h2 : y.kind ≠ 2) : (Ex.mk 7 n [a, b]).dot y = a.dot (b.dot y) := by
 rw [Ex.dot_eq]
 simp [dotC, h1, h2, Ex.dotL]
theorem dot_spec (tm am : Int) (N : Nat) : ∀ x y : Ex, x.size ≤ N → x.tree tm am = true → y.tree tm am = true → (x.dot y).tree tm am = true ∧ (x.dot y).size ≤ 1 + x.size + y.size := by
 induction N using Nat.strongRecOn with
 | _ N ih =>
 intro x y hN hx hy
 obtain ⟨k, n, ks⟩ := x
 have hs := Ex.size_eq (.mk k n ks)
 simp only [Ex.kids] at hs
 by_cases h1 : k = 1 ∨ y.kind = 1
 ·
  rw [Ex.dot_eq, dotC, if_pos h1]
  exact ⟨tree_leaf (Or.inl rfl), by simp [Ex.leaf, Ex.size, Ex.sizeL]; omega⟩
 by_cases h2 : k = 2
 ·
  rw [Ex.dot_eq, dotC, if_neg h1, if_pos h2]
  exact ⟨hy, by omega⟩
 by_cases h3 : y.kind = 2
 ·
  rw [Ex.dot_eq, dotC, if_neg h1, if_neg h2, if_pos h3]
  exact ⟨hx, by omega⟩
 by_cases h7 : k = 7
 ·
  subst h7
  obtain ⟨hk, -, -, htl⟩ := tree_parts hx
  obtain ⟨a, b, rfl⟩ := two_kids hk (by omega)
  simp only [Ex.sizeL] at hs
  obtain ⟨b1, b2⟩ := ih b.size (by omega) b y (Nat.le_refl _) (Ex.treeL_mem htl (by simp)) hy
  obtain ⟨a1, a2⟩ := ih a.size (by omega) a (b.dot y) (Nat.le_refl _) (Ex.treeL_mem htl (by simp)) b1
  rw [Ex.dot_seven (by omega) h3]
  exact ⟨a1, by omega⟩
 ·
  rw [Ex.dot_eq, dotC, if_neg h1, if_neg h2, if_neg h3, if_neg h7]
  exact ⟨tree_two (Or.inr rfl) hx hy, by rw [Ex.size_eq]; simp [Ex.two, Ex.kids, Ex.sizeL]; omega⟩
def Ex.star (x : Ex) : Ex := if x.cond = true then .leaf 2 else if x.kind = 8 then x else .mk 8 0 [x]
theorem star_spec {tm am : Int} {x : Ex} (hx : x.tree tm am = true) : x.star.tree tm am = true ∧ x.star.size ≤ 1 + x.size := by
 unfold Ex.star
 split
 ·
  exact ⟨tree_leaf (Or.inr rfl), by simp [Ex.leaf, Ex.size, Ex.sizeL]⟩
 split
 ·
  exact ⟨hx, by omega⟩
 ·
  exact ⟨by simp [Ex.tree, Ex.treeL, hx, nodeB, kidsN, numB], by simp [Ex.size, Ex.sizeL]⟩
noncomputable def tidyC (k n : Int) (ks ts : List Ex) : Ex :=
 if k = 6 then sumT (ts.getD 0 (.leaf 1)) (ts.getD 1 (.leaf 1)) else if k = 7 then (ts.getD 0 (.leaf 1)).dot (ts.getD 1 (.leaf 1)) else if k = 8 then (ts.getD 0 (.leaf 1)).star else .mk k n ks
mutual
noncomputable def Ex.tidy : Ex → Ex
 | .mk k n ks => tidyC k n ks (Ex.tidyL ks)
noncomputable def Ex.tidyL : List Ex → List Ex
 | [] => []
 | e :: r => e.tidy :: Ex.tidyL r
end
theorem Ex.tidy_eq (k n : Int) (ks : List Ex) : (Ex.mk k n ks).tidy = tidyC k n ks (Ex.tidyL ks) := by simp only [Ex.tidy]
theorem Ex.tidy_sum {n : Int} {a b : Ex} : (Ex.mk 6 n [a, b]).tidy = sumT a.tidy b.tidy := by rw [Ex.tidy_eq]; simp [tidyC, Ex.tidyL]
theorem Ex.tidy_dot {n : Int} {a b : Ex} : (Ex.mk 7 n [a, b]).tidy = a.tidy.dot b.tidy := by rw [Ex.tidy_eq]; simp [tidyC, Ex.tidyL]
theorem Ex.tidy_star {n : Int} {a : Ex} : (Ex.mk 8 n [a]).tidy = a.tidy.star := by rw [Ex.tidy_eq]; simp [tidyC, Ex.tidyL]
theorem Ex.tidy_else {k n : Int} {ks : List Ex} (h6 : k ≠ 6) (h7 : k ≠ 7) (h8 : k ≠ 8) : (Ex.mk k n ks).tidy = .mk k n ks := by rw [Ex.tidy_eq, tidyC, if_neg h6, if_neg h7, if_neg h8]
theorem tidy_spec (tm am : Int) (N : Nat) : ∀ e : Ex, e.size ≤ N → e.tree tm am = true → e.tidy.tree tm am = true ∧ e.tidy.size ≤ e.size := by
 induction N using Nat.strongRecOn with
 | _ N ih =>
 intro e hN ht
 obtain ⟨k, n, ks⟩ := e
 obtain ⟨hk, -, -, htl⟩ := tree_parts ht
 have hs := Ex.size_eq (.mk k n ks)
 simp only [Ex.kids] at hs
 by_cases h67 : k = 6 ∨ k = 7
 ·
  obtain ⟨a, b, rfl⟩ := two_kids hk h67
  simp only [Ex.sizeL] at hs
  obtain ⟨a1, a2⟩ := ih a.size (by omega) a (Nat.le_refl _) (Ex.treeL_mem htl (by simp))
  obtain ⟨b1, b2⟩ := ih b.size (by omega) b (Nat.le_refl _) (Ex.treeL_mem htl (by simp))
  rcases h67 with rfl | rfl
  ·
   rw [Ex.tidy_sum]
   obtain ⟨c1, c2⟩ := sumT_spec a1 b1
   exact ⟨c1, by omega⟩
  ·
   rw [Ex.tidy_dot]
   obtain ⟨c1, c2⟩ := dot_spec tm am _ a.tidy b.tidy (Nat.le_refl _) a1 b1
   exact ⟨c1, by omega⟩
 by_cases h8 : k = 8
 ·
  subst h8
  obtain ⟨a, rfl⟩ := one_kid hk (by omega)
  simp only [Ex.sizeL] at hs
  obtain ⟨a1, a2⟩ := ih a.size (by omega) a (Nat.le_refl _) (Ex.treeL_mem htl (by simp))
  rw [Ex.tidy_star]
  obtain ⟨c1, c2⟩ := star_spec a1
  exact ⟨c1, by omega⟩
 ·
  rw [Ex.tidy_else (by omega) (by omega) h8]
  exact ⟨ht, Nat.le_refl _⟩
end Go.Proofs.Ytbflhjjnemdecaa

namespace Go.Proofs.Ytbflhjjnemdecaa
set_option linter.unusedVariables false
set_option linter.unusedSimpArgs false
noncomputable def limE (e : Ex) : Option Ex := if e.size ≤ 800 then some e.tidy else none
noncomputable def stepC (emp : Ex → Bool) (x k n : Int) (ks : List Ex) (ds : List (Option Ex)) : Option Ex :=
 if k = 4 then some (.leaf (if n = x then 2 else 1))
 else if k = 6 then (ds.getD 0 none).bind fun a => (ds.getD 1 none).bind fun b => limE (.two 6 a b)
 else if k = 7 then (ds.getD 0 none).bind fun a => if emp (ks.getD 0 (.leaf 1)) = true then (ds.getD 1 none).bind fun b => limE (.two 6 (.two 7 a (ks.getD 1 (.leaf 1))) b) else limE (.two 7 a (ks.getD 1 (.leaf 1)))
 else if k = 8 then (ds.getD 0 none).bind fun a => limE (.two 7 a (.mk k n ks))
 else some (.leaf 1)
mutual
noncomputable def Ex.step (m x : Int) : Ex → Option Ex
 | .mk k n ks => stepC (Ex.emp m) x k n ks (Ex.stepL m x ks)
noncomputable def Ex.stepL (m x : Int) : List Ex → List (Option Ex)
 | [] => []
 | e :: r => e.step m x :: Ex.stepL m x r
end
theorem Ex.step_eq (m x k n : Int) (ks : List Ex) : (Ex.mk k n ks).step m x = stepC (Ex.emp m) x k n ks (Ex.stepL m x ks) := by simp only [Ex.step]
theorem Ex.step_act {m x n : Int} {ks : List Ex} : (Ex.mk 4 n ks).step m x = some (.leaf (if n = x then 2 else 1)) := by rw [Ex.step_eq]; simp [stepC]
theorem Ex.step_sum {m x n : Int} {a b : Ex} : (Ex.mk 6 n [a, b]).step m x = (a.step m x).bind fun p => (b.step m x).bind fun q => limE (.two 6 p q) := by rw [Ex.step_eq]; simp [stepC, Ex.stepL]
theorem Ex.step_dot {m x n : Int} {a b : Ex} : (Ex.mk 7 n [a, b]).step m x = (a.step m x).bind fun p => if a.emp m = true then (b.step m x).bind fun q => limE (.two 6 (.two 7 p b) q) else limE (.two 7 p b) := by rw [Ex.step_eq]; simp [stepC, Ex.stepL]
theorem Ex.step_star {m x n : Int} {a : Ex} : (Ex.mk 8 n [a]).step m x = (a.step m x).bind fun p => limE (.two 7 p (.mk 8 n [a])) := by rw [Ex.step_eq]; simp [stepC, Ex.stepL]
theorem Ex.step_else {m x k n : Int} {ks : List Ex} (h4 : k ≠ 4) (h6 : k ≠ 6) (h7 : k ≠ 7) (h8 : k ≠ 8) : (Ex.mk k n ks).step m x = some (.leaf 1) := by rw [Ex.step_eq, stepC, if_neg h4, if_neg h6, if_neg h7, if_neg h8]
theorem size_two (k : Int) (a b : Ex) : (Ex.two k a b).size = 1 + a.size + b.size := by rw [Ex.size_eq]; simp [Ex.two, Ex.kids, Ex.sizeL]; omega
theorem limE_spec {tm am : Int} {e d : Ex} (h : limE e = some d) (ht : e.tree tm am = true) : d.tree tm am = true ∧ d.size ≤ 800 := by
 unfold limE at h
 split at h
 ·
  obtain rfl := Option.some.inj h
  obtain ⟨h1, h2⟩ := tidy_spec tm am _ e (Nat.le_refl _) ht
  exact ⟨h1, by omega⟩
 ·
  cases h
theorem step_spec (tm am m x : Int) (N : Nat) : ∀ e d : Ex, e.size ≤ N → e.tree tm am = true → e.step m x = some d → d.tree tm am = true ∧ d.size ≤ 800 := by
 induction N using Nat.strongRecOn with
 | _ N ih =>
 intro e d hN ht h
 obtain ⟨k, n, ks⟩ := e
 obtain ⟨hk, -, -, htl⟩ := tree_parts ht
 have hs := Ex.size_eq (.mk k n ks)
 simp only [Ex.kids] at hs
 by_cases h4 : k = 4
 ·
  subst h4
  rw [Ex.step_act] at h
  obtain rfl := Option.some.inj h
  refine ⟨?_, by simp [Ex.leaf, Ex.size, Ex.sizeL]⟩
  split
  ·
   exact tree_leaf (Or.inr rfl)
  ·
   exact tree_leaf (Or.inl rfl)
 by_cases h6 : k = 6
 ·
  obtain ⟨a, b, rfl⟩ := two_kids hk (Or.inl h6)
  subst h6
  simp only [Ex.sizeL] at hs
  rw [Ex.step_sum] at h
  obtain ⟨p, hp, h⟩ := Option.bind_eq_some_iff.1 h
  obtain ⟨q, hq, h⟩ := Option.bind_eq_some_iff.1 h
  exact limE_spec h (tree_two (Or.inl rfl) (ih a.size (by omega) a p (Nat.le_refl _) (Ex.treeL_mem htl (by simp)) hp).1 (ih b.size (by omega) b q (Nat.le_refl _) (Ex.treeL_mem htl (by simp)) hq).1)
 by_cases h7 : k = 7
 ·
  obtain ⟨a, b, rfl⟩ := two_kids hk (Or.inr h7)
  subst h7
  simp only [Ex.sizeL] at hs
  rw [Ex.step_dot] at h
  obtain ⟨p, hp, h⟩ := Option.bind_eq_some_iff.1 h
  have hbt : b.tree tm am = true := Ex.treeL_mem htl (by simp)
  have hpt := (ih a.size (by omega) a p (Nat.le_refl _) (Ex.treeL_mem htl (by simp)) hp).1
  split at h
  ·
   obtain ⟨q, hq, h⟩ := Option.bind_eq_some_iff.1 h
   exact limE_spec h (tree_two (Or.inl rfl) (tree_two (Or.inr rfl) hpt hbt) (ih b.size (by omega) b q (Nat.le_refl _) hbt hq).1)
  ·
   exact limE_spec h (tree_two (Or.inr rfl) hpt hbt)
 by_cases h8 : k = 8
 ·
  subst h8
  obtain ⟨a, rfl⟩ := one_kid hk (by omega)
  simp only [Ex.sizeL] at hs
  rw [Ex.step_star] at h
  obtain ⟨p, hp, h⟩ := Option.bind_eq_some_iff.1 h
  exact limE_spec h (tree_two (Or.inr rfl) (ih a.size (by omega) a p (Nat.le_refl _) (Ex.treeL_mem htl (by simp)) hp).1 ht)
 ·
  rw [Ex.step_else h4 h6 h7 h8] at h
  obtain rfl := Option.some.inj h
  exact ⟨tree_leaf (Or.inl rfl), by simp [Ex.leaf, Ex.size, Ex.sizeL]⟩
end Go.Proofs.Ytbflhjjnemdecaa
