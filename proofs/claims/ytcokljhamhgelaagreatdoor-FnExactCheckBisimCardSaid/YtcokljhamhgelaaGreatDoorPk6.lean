/-
  Parts of a proof, joined: Truth, Empty. No condition.
-/
import Derived.Test.YtcokljhamhgelaaGreatDoorPk5
namespace Go.Proofs.YtcokljhamhgelaaGreatDoor
set_option linter.unusedVariables false
set_option linter.unusedSimpArgs false
open Go.ChangeShapes Go.WideShapes Go.ChangeAt Go.RowKit Go.Sort
def bitB (atom n : Int) : Bool := (atom / 2 ^ n.toNat) % 2 == 1
def truC (atom k n : Int) (bs : List Bool) : Bool :=
 if k = 2 then true else if k = 3 then bitB atom n else if k = 5 then !(bs.getD 0 false) else if k = 6 then (bs.getD 0 false || bs.getD 1 false) else if k = 7 then (bs.getD 0 false && bs.getD 1 false) else false
mutual
def Ex.tru (atom : Int) : Ex → Bool
 | .mk k n ks => truC atom k n (Ex.truL atom ks)
def Ex.truL (atom : Int) : List Ex → List Bool
 | [] => []
 | e :: r => Ex.tru atom e :: Ex.truL atom r
end
def empC (atom k n : Int) (ks : List Ex) (bs : List Bool) : Bool :=
 if k = 2 ∨ k = 8 then true else if k = 3 ∨ k = 5 then truC atom k n (Ex.truL atom ks) else if k = 6 then (bs.getD 0 false || bs.getD 1 false) else if k = 7 then (bs.getD 0 false && bs.getD 1 false) else false
mutual
def Ex.emp (atom : Int) : Ex → Bool
 | .mk k n ks => empC atom k n ks (Ex.empL atom ks)
def Ex.empL (atom : Int) : List Ex → List Bool
 | [] => []
 | e :: r => Ex.emp atom e :: Ex.empL atom r
end
theorem Ex.treeL_mem {tm am : Int} : ∀ {ks : List Ex} {x : Ex}, Ex.treeL tm am ks = true → x ∈ ks → x.tree tm am = true
 | [], _, _, h => by simp at h
 | e :: r, x, ht, h => by
  simp only [Ex.treeL, Bool.and_eq_true] at ht
  rcases List.mem_cons.1 h with rfl | h
  ·
   exact ht.1
  ·
   exact Ex.treeL_mem ht.2 h
theorem Ex.condL_mem : ∀ {ks : List Ex} {x : Ex}, Ex.condL ks = true → x ∈ ks → x.cond = true
 | [], _, _, h => by simp at h
 | e :: r, x, ht, h => by
  simp only [Ex.condL, Bool.and_eq_true] at ht
  rcases List.mem_cons.1 h with rfl | h
  ·
   exact ht.1
  ·
   exact Ex.condL_mem ht.2 h
theorem tree_parts {tm am k n : Int} {ks : List Ex} (h : Ex.tree tm am (.mk k n ks) = true) : kidsN k = (ks.length : Int) ∧ numB tm am k n = true ∧ (k = 5 → Ex.condL ks = true) ∧ Ex.treeL tm am ks = true := by
 simp only [Ex.tree, nodeB, Bool.and_eq_true, beq_iff_eq, Bool.or_eq_true, bne_iff_ne] at h
 refine ⟨h.1.1.1, h.1.1.2, fun hk => ?_, h.2⟩
 rcases h.1.2 with h | h
 ·
  exact absurd hk h
 ·
  exact h
theorem two_kids {k : Int} {ks : List Ex} (h : kidsN k = (ks.length : Int)) (hk : k = 6 ∨ k = 7) : ∃ x y, ks = [x, y] := by
 have : kidsN k = 2 := by unfold kidsN; rw [if_neg (by omega), if_neg (by omega), if_pos (by omega)]
 match ks, h with
 | [x, y], _ => exact ⟨x, y, rfl⟩
 | [], h => simp at h; omega
 | [x], h => simp at h; omega
 | x :: y :: z :: r, h => simp at h; omega
theorem one_kid {k : Int} {ks : List Ex} (h : kidsN k = (ks.length : Int)) (hk : k = 5 ∨ k = 8) : ∃ x, ks = [x] := by
 have : kidsN k = 1 := by unfold kidsN; rw [if_neg (by omega), if_pos (by omega)]
 match ks, h with
 | [x], _ => exact ⟨x, rfl⟩
 | [], h => simp at h; omega
 | x :: y :: r, h => simp at h; omega
theorem numB_test {tm am n : Int} (h : numB tm am 3 n = true) : 0 ≤ n ∧ n ≤ tm := by
 simp [numB, inB] at h
 omega
set_option maxHeartbeats 4000000 in
theorem truth_all (tm am atom : Int) (ht : tm ≤ 2) (h0 : 0 ≤ atom) (h7 : atom ≤ 7) (N : Nat) : ∀ (k n : Int) (ks : List Ex) (s : Option Addr) (c : Nat) (w : World), Ex.sizeL ks ≤ N → Rd w (kidsD ks) (.slice s ks.length c) →
    Ex.tree tm am (.mk k n ks) = true → Ex.cond (.mk k n ks) = true →
    Calls Tryz.prog 67 #[.agg #[.int .i64 k, .int .i64 n, .slice s ks.length c], .int .i64 atom] w fun f w' => f = .returned (.bool (Ex.tru atom (.mk k n ks))) ∧ Below w.heap.size w w' := by
  induction N using Nat.strongRecOn with
  | _ N ih =>
  intro k n ks s c w hN hr htr hc
  obtain ⟨hk, hnum, -, htl⟩ := tree_parts htr
  rw [Ex.cond_eq] at hc
  simp only [Ex.kind, Ex.kids, Bool.and_eq_true] at hc
  obtain ⟨hck, hcl⟩ := hc
  have hk' : k = 1 ∨ k = 2 ∨ k = 3 ∨ k = 5 ∨ k = 6 ∨ k = 7 := by simpa [condKind] using hck
  clear hck htr
  rcases hk' with rfl | rfl | rfl | rfl | rfl | rfl
  · have e : Ex.tru atom (.mk 1 n ks) = false := by simp [Ex.tru, truC]
    rw [e]
    clear hk hnum htl hcl e
    go_enter Tryz.func67, Tryz.ntmps67
    go_wp2_with fail
    go_ret
    exact ⟨rfl, by (repeat' first | exact Below.refl _ _ | assumption | apply Below.alloc | apply Below.drew | apply Below.setCell | omega | (simp; done) | (simp; omega))⟩
  · have e : Ex.tru atom (.mk 2 n ks) = true := by simp [Ex.tru, truC]
    rw [e]
    clear hk hnum htl hcl e
    go_enter Tryz.func67, Tryz.ntmps67
    go_wp2_with fail
    go_ret
    exact ⟨rfl, by (repeat' first | exact Below.refl _ _ | assumption | apply Below.alloc | apply Below.drew | apply Below.setCell | omega | (simp; done) | (simp; omega))⟩
  · have e : Ex.tru atom (.mk 3 n ks) = bitB atom n := by simp [Ex.tru, truC]
    obtain ⟨n0, n1⟩ := numB_test hnum
    rw [e]
    clear hk hnum htl hcl e
    have hn : n = 0 ∨ n = 1 ∨ n = 2 := by omega
    have ha : atom = 0 ∨ atom = 1 ∨ atom = 2 ∨ atom = 3 ∨ atom = 4 ∨ atom = 5 ∨ atom = 6 ∨ atom = 7 := by omega
    clear ih
    rcases hn with rfl | rfl | rfl <;> rcases ha with rfl | rfl | rfl | rfl | rfl | rfl | rfl | rfl
    all_goals
      go_enter Tryz.func67, Tryz.ntmps67
      go_wp2
      go_ret
      exact ⟨rfl, by (repeat' first | exact Below.refl _ _ | assumption | apply Below.alloc | apply Below.drew | apply Below.setCell | omega | (simp; done) | (simp; omega))⟩
  · obtain ⟨x, rfl⟩ := one_kid hk (by omega)
    have hx : [x][0]? = some x := rfl
    obtain ⟨b', o', rfl⟩ := kid_some hr (by simp)
    have e : Ex.tru atom (.mk 5 n [x]) = !(Ex.tru atom (.mk x.kind x.num x.kids)) := by rw [← Ex.eta x]; simp [Ex.tru, Ex.truL, truC]
    have hxt : Ex.tree tm am (.mk x.kind x.num x.kids) = true := by rw [← Ex.eta x]; exact Ex.treeL_mem htl (by simp)
    have hxc : Ex.cond (.mk x.kind x.num x.kids) = true := by rw [← Ex.eta x]; exact Ex.condL_mem hcl (by simp)
    have hxs : Ex.sizeL x.kids < N := by have := Ex.size_eq x; simp only [Ex.sizeL] at hN; omega
    rw [e]
    clear hk hnum htl hcl e
    obtain ⟨hbl, s', c', g0, g1, g2, gr⟩ := kid_in hr hx
    simp only [Nat.zero_mul, Nat.add_zero] at g0 g1 g2
    go_enter Tryz.func67, Tryz.ntmps67
    go_wp2_with fail
    refine (ih _ hxs _ _ _ _ _ _ (Nat.le_refl _) (gr.alloc _) hxt hxc).mono ?_
    rintro y w1 ⟨rfl, hb⟩
    have hB : Below w.heap.size w w1 := Below.on (by (repeat' first | exact Below.refl _ _ | assumption | apply Below.alloc | apply Below.drew | apply Below.setCell | omega | (simp; done) | (simp; omega))) hb (by simp)
    go_wp2_with fail
    go_ret
    exact ⟨rfl, hB⟩
  · obtain ⟨x, y, rfl⟩ := two_kids hk (by omega)
    have hx : [x, y][0]? = some x := rfl
    have hy : [x, y][1]? = some y := rfl
    obtain ⟨b', o', rfl⟩ := kid_some hr (by simp)
    have e : Ex.tru atom (.mk 6 n [x, y]) = or (Ex.tru atom (.mk x.kind x.num x.kids)) (Ex.tru atom (.mk y.kind y.num y.kids)) := by rw [← Ex.eta x, ← Ex.eta y]; simp [Ex.tru, Ex.truL, truC]
    have hxt : Ex.tree tm am (.mk x.kind x.num x.kids) = true := by rw [← Ex.eta x]; exact Ex.treeL_mem htl (by simp)
    have hyt : Ex.tree tm am (.mk y.kind y.num y.kids) = true := by rw [← Ex.eta y]; exact Ex.treeL_mem htl (by simp)
    have hxc : Ex.cond (.mk x.kind x.num x.kids) = true ∧ Ex.cond (.mk y.kind y.num y.kids) = true := ⟨by rw [← Ex.eta x]; exact Ex.condL_mem hcl (by simp), by rw [← Ex.eta y]; exact Ex.condL_mem hcl (by simp)⟩
    have hxs : Ex.sizeL x.kids < N := by have := Ex.size_eq x; simp only [Ex.sizeL] at hN; omega
    have hys : Ex.sizeL y.kids < N := by have := Ex.size_eq y; simp only [Ex.sizeL] at hN; omega
    rw [e]
    clear hk hnum htl hcl e
    obtain ⟨hbl, s', c', g0, g1, g2, gr⟩ := kid_in hr hx
    obtain ⟨-, s2, c2, k0, k1, k2, kr⟩ := kid_in hr hy
    simp only [Nat.zero_mul, Nat.add_zero] at g0 g1 g2
    simp only [Nat.one_mul] at k0 k1 k2
    have L := Blk.new3 w 34 (.int .i64 6) (.int .i64 n) (.slice (some ⟨b', o', none⟩) 2 c)
    go_enter Tryz.func67, Tryz.ntmps67
    go_wp2_with fail
    refine (ih _ hxs _ _ _ _ _ _ (Nat.le_refl _) (gr.alloc _) hxt hxc.1).mono ?_
    rintro z w1 ⟨rfl, hb⟩
    have hB : Below w.heap.size w w1 := Below.on (by (repeat' first | exact Below.refl _ _ | assumption | apply Below.alloc | apply Below.drew | apply Below.setCell | omega | (simp; done) | (simp; omega))) hb (by simp)
    replace L := L.below hb
    have l2 := L.c2
    have k0' := (hB.cell (p := ⟨b', o' + 3, none⟩) hbl).trans k0
    have k1' := (hB.cell (p := ⟨b', o' + 3 + 1, none⟩) hbl).trans k1
    have k2' := (hB.cell (p := ⟨b', o' + 3 + 2, none⟩) hbl).trans k2
    clear k0 k1 k2 g0 g1 g2 hb
    cases h1 : Ex.tru atom (.mk x.kind x.num x.kids)
    all_goals
      go_wp2_with fail
      first
        | (refine (ih _ hys _ _ _ _ _ _ (Nat.le_refl _) (kr.below hB) hyt hxc.2).mono ?_
           rintro z w2 ⟨rfl, hb⟩
           replace hB := Below.on hB hb hB.size
           go_wp2_with fail
           go_ret
           exact ⟨ret_bool (by simp [h1]), hB⟩)
        | (go_ret
           exact ⟨ret_bool (by simp [h1]), hB⟩)
  · obtain ⟨x, y, rfl⟩ := two_kids hk (by omega)
    have hx : [x, y][0]? = some x := rfl
    have hy : [x, y][1]? = some y := rfl
    obtain ⟨b', o', rfl⟩ := kid_some hr (by simp)
    have e : Ex.tru atom (.mk 7 n [x, y]) = and (Ex.tru atom (.mk x.kind x.num x.kids)) (Ex.tru atom (.mk y.kind y.num y.kids)) := by rw [← Ex.eta x, ← Ex.eta y]; simp [Ex.tru, Ex.truL, truC]
    have hxt : Ex.tree tm am (.mk x.kind x.num x.kids) = true := by rw [← Ex.eta x]; exact Ex.treeL_mem htl (by simp)
    have hyt : Ex.tree tm am (.mk y.kind y.num y.kids) = true := by rw [← Ex.eta y]; exact Ex.treeL_mem htl (by simp)
    have hxc : Ex.cond (.mk x.kind x.num x.kids) = true ∧ Ex.cond (.mk y.kind y.num y.kids) = true := ⟨by rw [← Ex.eta x]; exact Ex.condL_mem hcl (by simp), by rw [← Ex.eta y]; exact Ex.condL_mem hcl (by simp)⟩
    have hxs : Ex.sizeL x.kids < N := by have := Ex.size_eq x; simp only [Ex.sizeL] at hN; omega
    have hys : Ex.sizeL y.kids < N := by have := Ex.size_eq y; simp only [Ex.sizeL] at hN; omega
    rw [e]
    clear hk hnum htl hcl e
    obtain ⟨hbl, s', c', g0, g1, g2, gr⟩ := kid_in hr hx
    obtain ⟨-, s2, c2, k0, k1, k2, kr⟩ := kid_in hr hy
    simp only [Nat.zero_mul, Nat.add_zero] at g0 g1 g2
    simp only [Nat.one_mul] at k0 k1 k2
    have L := Blk.new3 w 34 (.int .i64 7) (.int .i64 n) (.slice (some ⟨b', o', none⟩) 2 c)
    go_enter Tryz.func67, Tryz.ntmps67
    go_wp2_with fail
    refine (ih _ hxs _ _ _ _ _ _ (Nat.le_refl _) (gr.alloc _) hxt hxc.1).mono ?_
    rintro z w1 ⟨rfl, hb⟩
    have hB : Below w.heap.size w w1 := Below.on (by (repeat' first | exact Below.refl _ _ | assumption | apply Below.alloc | apply Below.drew | apply Below.setCell | omega | (simp; done) | (simp; omega))) hb (by simp)
    replace L := L.below hb
    have l2 := L.c2
    have k0' := (hB.cell (p := ⟨b', o' + 3, none⟩) hbl).trans k0
    have k1' := (hB.cell (p := ⟨b', o' + 3 + 1, none⟩) hbl).trans k1
    have k2' := (hB.cell (p := ⟨b', o' + 3 + 2, none⟩) hbl).trans k2
    clear k0 k1 k2 g0 g1 g2 hb
    cases h1 : Ex.tru atom (.mk x.kind x.num x.kids)
    all_goals
      go_wp2_with fail
      first
        | (refine (ih _ hys _ _ _ _ _ _ (Nat.le_refl _) (kr.below hB) hyt hxc.2).mono ?_
           rintro z w2 ⟨rfl, hb⟩
           replace hB := Below.on hB hb hB.size
           go_wp2_with fail
           go_ret
           exact ⟨ret_bool (by simp [h1]), hB⟩)
        | (go_ret
           exact ⟨ret_bool (by simp [h1]), hB⟩)
set_option maxHeartbeats 4000000 in
theorem l01True_all (tm am atom : Int) (ht : tm ≤ 2) (h0 : 0 ≤ atom) (h7 : atom ≤ 7) (N : Nat) : ∀ (e : Ex) (b o : Nat) (w : World), e.size ≤ N → ExAt w b o e → e.tree tm am = true → e.cond = true →
    Calls Tryz.prog 87 #[.pointer (some ⟨b, o, none⟩), .int .i64 atom] w fun f w' => f = .returned (.bool (e.tru atom)) ∧ w = w' := by
  induction N using Nat.strongRecOn with
  | _ N ih =>
  intro e b o w hN hr htr hc
  obtain ⟨k, n, ks⟩ := e
  obtain ⟨g0, g1, s, c, g2, hr⟩ := hr
  simp only [Ex.kind, Ex.num, Ex.kids] at g0 g1 g2 hr
  obtain ⟨hk, hnum, -, htl⟩ := tree_parts htr
  rw [Ex.cond_eq] at hc
  simp only [Ex.kind, Ex.kids, Bool.and_eq_true] at hc
  obtain ⟨hck, hcl⟩ := hc
  have hk' : k = 1 ∨ k = 2 ∨ k = 3 ∨ k = 5 ∨ k = 6 ∨ k = 7 := by simpa [condKind] using hck
  clear hck htr
  rcases hk' with rfl | rfl | rfl | rfl | rfl | rfl
  · have e : Ex.tru atom (.mk 1 n ks) = false := by simp [Ex.tru, truC]
    rw [e]
    clear hk hnum htl hcl e
    go_enter Tryz.func87, Tryz.ntmps87
    go_wp2_with fail
    go_ret
    exact ⟨rfl, rfl⟩
  · have e : Ex.tru atom (.mk 2 n ks) = true := by simp [Ex.tru, truC]
    rw [e]
    clear hk hnum htl hcl e
    go_enter Tryz.func87, Tryz.ntmps87
    go_wp2_with fail
    go_ret
    exact ⟨rfl, rfl⟩
  · have e : Ex.tru atom (.mk 3 n ks) = bitB atom n := by simp [Ex.tru, truC]
    obtain ⟨n0, n1⟩ := numB_test hnum
    rw [e]
    clear hk hnum htl hcl e
    have hn : n = 0 ∨ n = 1 ∨ n = 2 := by omega
    have ha : atom = 0 ∨ atom = 1 ∨ atom = 2 ∨ atom = 3 ∨ atom = 4 ∨ atom = 5 ∨ atom = 6 ∨ atom = 7 := by omega
    clear ih
    rcases hn with rfl | rfl | rfl <;> rcases ha with rfl | rfl | rfl | rfl | rfl | rfl | rfl | rfl
    all_goals
      go_enter Tryz.func87, Tryz.ntmps87
      go_wp2
      go_ret
      exact ⟨rfl, rfl⟩
  · obtain ⟨x, rfl⟩ := one_kid hk (by omega)
    have hx : [x][0]? = some x := rfl
    obtain ⟨b', o', rfl⟩ := kid_some hr (by simp)
    have e : Ex.tru atom (.mk 5 n [x]) = !(Ex.tru atom x) := by simp [Ex.tru, Ex.truL, truC]
    have hxt : Ex.tree tm am x = true := Ex.treeL_mem htl (by simp)
    have hxc : Ex.cond x = true := Ex.condL_mem hcl (by simp)
    have hxs : x.size < N := by simp only [Ex.size, Ex.sizeL] at hN; omega
    have hax := kid_exAt hr hx
    simp only [Nat.zero_mul, Nat.add_zero] at hax
    obtain ⟨-, hlen, hcap, -, -⟩ := kid_at hr
    unfold maxLen at hcap
    simp only [List.length_cons, List.length_nil] at hlen
    rw [e]
    clear hk hnum htl hcl e
    go_enter Tryz.func87, Tryz.ntmps87
    go_wp2_with fail
    refine (ih _ hxs x _ _ _ (Nat.le_refl _) hax hxt hxc).mono ?_
    rintro y w' ⟨rfl, rfl⟩
    go_wp2_with fail
    go_ret
    exact ⟨rfl, rfl⟩
  · obtain ⟨x, y, rfl⟩ := two_kids hk (by omega)
    have hx : [x, y][0]? = some x := rfl
    have hy : [x, y][1]? = some y := rfl
    obtain ⟨b', o', rfl⟩ := kid_some hr (by simp)
    have e : Ex.tru atom (.mk 6 n [x, y]) = or (Ex.tru atom x) (Ex.tru atom y) := by simp [Ex.tru, Ex.truL, truC]
    have hxt : Ex.tree tm am x = true := Ex.treeL_mem htl (by simp)
    have hyt : Ex.tree tm am y = true := Ex.treeL_mem htl (by simp)
    have hxc : Ex.cond x = true ∧ Ex.cond y = true := ⟨Ex.condL_mem hcl (by simp), Ex.condL_mem hcl (by simp)⟩
    have hxs : x.size < N := by simp only [Ex.size, Ex.sizeL] at hN; omega
    have hys : y.size < N := by simp only [Ex.size, Ex.sizeL] at hN; omega
    have hax := kid_exAt hr hx
    have hay := kid_exAt hr hy
    simp only [Nat.zero_mul, Nat.one_mul, Nat.add_zero] at hax hay
    obtain ⟨-, hlen, hcap, -, -⟩ := kid_at hr
    unfold maxLen at hcap
    simp only [List.length_cons, List.length_nil] at hlen
    rw [e]
    clear hk hnum htl hcl e
    go_enter Tryz.func87, Tryz.ntmps87
    go_wp2_with fail
    refine (ih _ hxs x _ _ _ (Nat.le_refl _) hax hxt hxc.1).mono ?_
    rintro z w' ⟨rfl, rfl⟩
    cases h1 : Ex.tru atom x
    all_goals
      go_wp2_with fail
      first
        | (refine (ih _ hys y _ _ _ (Nat.le_refl _) hay hyt hxc.2).mono ?_
           rintro z w' ⟨rfl, rfl⟩
           go_wp2_with fail
           go_ret
           exact ⟨ret_bool (by simp [h1]), rfl⟩)
        | (go_ret
           exact ⟨ret_bool (by simp [h1]), rfl⟩)
  · obtain ⟨x, y, rfl⟩ := two_kids hk (by omega)
    have hx : [x, y][0]? = some x := rfl
    have hy : [x, y][1]? = some y := rfl
    obtain ⟨b', o', rfl⟩ := kid_some hr (by simp)
    have e : Ex.tru atom (.mk 7 n [x, y]) = and (Ex.tru atom x) (Ex.tru atom y) := by simp [Ex.tru, Ex.truL, truC]
    have hxt : Ex.tree tm am x = true := Ex.treeL_mem htl (by simp)
    have hyt : Ex.tree tm am y = true := Ex.treeL_mem htl (by simp)
    have hxc : Ex.cond x = true ∧ Ex.cond y = true := ⟨Ex.condL_mem hcl (by simp), Ex.condL_mem hcl (by simp)⟩
    have hxs : x.size < N := by simp only [Ex.size, Ex.sizeL] at hN; omega
    have hys : y.size < N := by simp only [Ex.size, Ex.sizeL] at hN; omega
    have hax := kid_exAt hr hx
    have hay := kid_exAt hr hy
    simp only [Nat.zero_mul, Nat.one_mul, Nat.add_zero] at hax hay
    obtain ⟨-, hlen, hcap, -, -⟩ := kid_at hr
    unfold maxLen at hcap
    simp only [List.length_cons, List.length_nil] at hlen
    rw [e]
    clear hk hnum htl hcl e
    go_enter Tryz.func87, Tryz.ntmps87
    go_wp2_with fail
    refine (ih _ hxs x _ _ _ (Nat.le_refl _) hax hxt hxc.1).mono ?_
    rintro z w' ⟨rfl, rfl⟩
    cases h1 : Ex.tru atom x
    all_goals
      go_wp2_with fail
      first
        | (refine (ih _ hys y _ _ _ (Nat.le_refl _) hay hyt hxc.2).mono ?_
           rintro z w' ⟨rfl, rfl⟩
           go_wp2_with fail
           go_ret
           exact ⟨ret_bool (by simp [h1]), rfl⟩)
        | (go_ret
           exact ⟨ret_bool (by simp [h1]), rfl⟩)
theorem okB_sig {t a : Int} {e : Ex} (h : okB t a e = true) : sigB t a = true := by simp only [okB, Bool.and_eq_true] at h; exact h.1
theorem okB_tree {t a : Int} {e : Ex} (h : okB t a e = true) : e.tree (t - 1) (a - 1) = true := by simp only [okB, Bool.and_eq_true] at h; exact h.2.2
end Go.Proofs.YtcokljhamhgelaaGreatDoor

namespace Go.Proofs.YtcokljhamhgelaaGreatDoor
set_option linter.unusedVariables false
set_option linter.unusedSimpArgs false
open Go.ChangeShapes Go.WideShapes Go.ChangeAt Go.RowKit Go.Sort
theorem kind_cases {k : Int} {n : Nat} (h : kidsN k = (n : Int)) : k = 1 ∨ k = 2 ∨ k = 3 ∨ k = 4 ∨ k = 5 ∨ k = 6 ∨ k = 7 ∨ k = 8 := by
 by_cases hk : k = 1 ∨ k = 2 ∨ k = 3 ∨ k = 4 ∨ k = 5 ∨ k = 6 ∨ k = 7 ∨ k = 8
 ·
  exact hk
 ·
  exfalso
  unfold kidsN at h
  rw [if_neg (by omega), if_neg (by omega), if_neg (by omega)] at h
  omega
set_option maxHeartbeats 4000000 in
theorem emptyAt_all (tm am atom : Int) (ht : tm ≤ 2) (h0 : 0 ≤ atom) (h7 : atom ≤ 7) (N : Nat) : ∀ (k n : Int) (ks : List Ex) (s : Option Addr) (c : Nat) (w : World), Ex.sizeL ks ≤ N → Rd w (kidsD ks) (.slice s ks.length c) →
    Ex.tree tm am (.mk k n ks) = true →
    Calls Tryz.prog 35 #[.agg #[.int .i64 k, .int .i64 n, .slice s ks.length c], .int .i64 atom] w fun f w' => f = .returned (.bool (Ex.emp atom (.mk k n ks))) ∧ Below w.heap.size w w' := by
  induction N using Nat.strongRecOn with
  | _ N ih =>
  intro k n ks s c w hN hr htr
  obtain ⟨hk, hnum, hc, htl⟩ := tree_parts htr
  rcases kind_cases hk with rfl | rfl | rfl | rfl | rfl | rfl | rfl | rfl
  · have e : Ex.emp atom (.mk 1 n ks) = false := by simp [Ex.emp, empC]
    rw [e]
    clear hk hnum htl e hc
    go_enter Tryz.func35, Tryz.ntmps35
    go_wp2_with fail
    go_ret
    exact ⟨rfl, by (repeat' first | exact Below.refl _ _ | assumption | apply Below.alloc | apply Below.drew | apply Below.setCell | omega | (simp; done) | (simp; omega))⟩
  · have e : Ex.emp atom (.mk 2 n ks) = true := by simp [Ex.emp, empC]
    rw [e]
    clear hk hnum htl e hc
    go_enter Tryz.func35, Tryz.ntmps35
    go_wp2_with fail
    go_ret
    exact ⟨rfl, by (repeat' first | exact Below.refl _ _ | assumption | apply Below.alloc | apply Below.drew | apply Below.setCell | omega | (simp; done) | (simp; omega))⟩
  · have e : Ex.emp atom (.mk 3 n ks) = Ex.tru atom (.mk 3 n ks) := by simp [Ex.emp, empC, Ex.tru]
    have hcc : Ex.cond (.mk 3 n ks) = true := by rw [Ex.cond_eq]; simp [Ex.kind, Ex.kids, condKind, kidsN_zero hk (by omega), Ex.condL]
    rw [e]
    clear hk hnum htl e hc
    go_enter Tryz.func35, Tryz.ntmps35
    go_wp2_with fail
    refine (truth_all tm am atom ht h0 h7 _ _ _ _ _ _ _ (Nat.le_refl _) (hr.alloc _) htr hcc).mono ?_
    rintro y w1 ⟨rfl, hb⟩
    have hB : Below w.heap.size w w1 := Below.on (by (repeat' first | exact Below.refl _ _ | assumption | apply Below.alloc | apply Below.drew | apply Below.setCell | omega | (simp; done) | (simp; omega))) hb (by simp)
    go_wp2_with fail
    go_ret
    exact ⟨rfl, hB⟩
  · have e : Ex.emp atom (.mk 4 n ks) = false := by simp [Ex.emp, empC]
    rw [e]
    clear hk hnum htl e hc
    go_enter Tryz.func35, Tryz.ntmps35
    go_wp2_with fail
    go_ret
    exact ⟨rfl, by (repeat' first | exact Below.refl _ _ | assumption | apply Below.alloc | apply Below.drew | apply Below.setCell | omega | (simp; done) | (simp; omega))⟩
  · have e : Ex.emp atom (.mk 5 n ks) = Ex.tru atom (.mk 5 n ks) := by simp [Ex.emp, empC, Ex.tru]
    have hcc : Ex.cond (.mk 5 n ks) = true := by rw [Ex.cond_eq]; simp [Ex.kind, Ex.kids, condKind, hc rfl]
    rw [e]
    clear hk hnum htl e hc
    go_enter Tryz.func35, Tryz.ntmps35
    go_wp2_with fail
    refine (truth_all tm am atom ht h0 h7 _ _ _ _ _ _ _ (Nat.le_refl _) (hr.alloc _) htr hcc).mono ?_
    rintro y w1 ⟨rfl, hb⟩
    have hB : Below w.heap.size w w1 := Below.on (by (repeat' first | exact Below.refl _ _ | assumption | apply Below.alloc | apply Below.drew | apply Below.setCell | omega | (simp; done) | (simp; omega))) hb (by simp)
    go_wp2_with fail
    go_ret
    exact ⟨rfl, hB⟩
  · obtain ⟨x, y, rfl⟩ := two_kids hk (by omega)
    have hx : [x, y][0]? = some x := rfl
    have hy : [x, y][1]? = some y := rfl
    obtain ⟨b', o', rfl⟩ := kid_some hr (by simp)
    have e : Ex.emp atom (.mk 6 n [x, y]) = or (Ex.emp atom (.mk x.kind x.num x.kids)) (Ex.emp atom (.mk y.kind y.num y.kids)) := by rw [← Ex.eta x, ← Ex.eta y]; simp [Ex.emp, Ex.empL, empC]
    have hxt : Ex.tree tm am (.mk x.kind x.num x.kids) = true := by rw [← Ex.eta x]; exact Ex.treeL_mem htl (by simp)
    have hyt : Ex.tree tm am (.mk y.kind y.num y.kids) = true := by rw [← Ex.eta y]; exact Ex.treeL_mem htl (by simp)
    skip
    have hxs : Ex.sizeL x.kids < N := by have := Ex.size_eq x; simp only [Ex.sizeL] at hN; omega
    have hys : Ex.sizeL y.kids < N := by have := Ex.size_eq y; simp only [Ex.sizeL] at hN; omega
    rw [e]
    clear hk hnum htl hc htr e
    obtain ⟨hbl, s', c', g0, g1, g2, gr⟩ := kid_in hr hx
    obtain ⟨-, s2, c2, k0, k1, k2, kr⟩ := kid_in hr hy
    simp only [Nat.zero_mul, Nat.add_zero] at g0 g1 g2
    simp only [Nat.one_mul] at k0 k1 k2
    have L := Blk.new3 w 34 (.int .i64 6) (.int .i64 n) (.slice (some ⟨b', o', none⟩) 2 c)
    go_enter Tryz.func35, Tryz.ntmps35
    go_wp2_with fail
    refine (ih _ hxs _ _ _ _ _ _ (Nat.le_refl _) (gr.alloc _) hxt ).mono ?_
    rintro z w1 ⟨rfl, hb⟩
    have hB : Below w.heap.size w w1 := Below.on (by (repeat' first | exact Below.refl _ _ | assumption | apply Below.alloc | apply Below.drew | apply Below.setCell | omega | (simp; done) | (simp; omega))) hb (by simp)
    replace L := L.below hb
    have l2 := L.c2
    have k0' := (hB.cell (p := ⟨b', o' + 3, none⟩) hbl).trans k0
    have k1' := (hB.cell (p := ⟨b', o' + 3 + 1, none⟩) hbl).trans k1
    have k2' := (hB.cell (p := ⟨b', o' + 3 + 2, none⟩) hbl).trans k2
    clear k0 k1 k2 g0 g1 g2 hb
    cases h1 : Ex.emp atom (.mk x.kind x.num x.kids)
    all_goals
      go_wp2_with fail
      first
        | (refine (ih _ hys _ _ _ _ _ _ (Nat.le_refl _) (kr.below hB) hyt ).mono ?_
           rintro z w2 ⟨rfl, hb⟩
           replace hB := Below.on hB hb hB.size
           go_wp2_with fail
           go_ret
           exact ⟨ret_bool (by simp [h1]), hB⟩)
        | (go_ret
           exact ⟨ret_bool (by simp [h1]), hB⟩)
  · obtain ⟨x, y, rfl⟩ := two_kids hk (by omega)
    have hx : [x, y][0]? = some x := rfl
    have hy : [x, y][1]? = some y := rfl
    obtain ⟨b', o', rfl⟩ := kid_some hr (by simp)
    have e : Ex.emp atom (.mk 7 n [x, y]) = and (Ex.emp atom (.mk x.kind x.num x.kids)) (Ex.emp atom (.mk y.kind y.num y.kids)) := by rw [← Ex.eta x, ← Ex.eta y]; simp [Ex.emp, Ex.empL, empC]
    have hxt : Ex.tree tm am (.mk x.kind x.num x.kids) = true := by rw [← Ex.eta x]; exact Ex.treeL_mem htl (by simp)
    have hyt : Ex.tree tm am (.mk y.kind y.num y.kids) = true := by rw [← Ex.eta y]; exact Ex.treeL_mem htl (by simp)
    skip
    have hxs : Ex.sizeL x.kids < N := by have := Ex.size_eq x; simp only [Ex.sizeL] at hN; omega
    have hys : Ex.sizeL y.kids < N := by have := Ex.size_eq y; simp only [Ex.sizeL] at hN; omega
    rw [e]
    clear hk hnum htl hc htr e
    obtain ⟨hbl, s', c', g0, g1, g2, gr⟩ := kid_in hr hx
    obtain ⟨-, s2, c2, k0, k1, k2, kr⟩ := kid_in hr hy
    simp only [Nat.zero_mul, Nat.add_zero] at g0 g1 g2
    simp only [Nat.one_mul] at k0 k1 k2
    have L := Blk.new3 w 34 (.int .i64 7) (.int .i64 n) (.slice (some ⟨b', o', none⟩) 2 c)
    go_enter Tryz.func35, Tryz.ntmps35
    go_wp2_with fail
    refine (ih _ hxs _ _ _ _ _ _ (Nat.le_refl _) (gr.alloc _) hxt ).mono ?_
    rintro z w1 ⟨rfl, hb⟩
    have hB : Below w.heap.size w w1 := Below.on (by (repeat' first | exact Below.refl _ _ | assumption | apply Below.alloc | apply Below.drew | apply Below.setCell | omega | (simp; done) | (simp; omega))) hb (by simp)
    replace L := L.below hb
    have l2 := L.c2
    have k0' := (hB.cell (p := ⟨b', o' + 3, none⟩) hbl).trans k0
    have k1' := (hB.cell (p := ⟨b', o' + 3 + 1, none⟩) hbl).trans k1
    have k2' := (hB.cell (p := ⟨b', o' + 3 + 2, none⟩) hbl).trans k2
    clear k0 k1 k2 g0 g1 g2 hb
    cases h1 : Ex.emp atom (.mk x.kind x.num x.kids)
    all_goals
      go_wp2_with fail
      first
        | (refine (ih _ hys _ _ _ _ _ _ (Nat.le_refl _) (kr.below hB) hyt ).mono ?_
           rintro z w2 ⟨rfl, hb⟩
           replace hB := Below.on hB hb hB.size
           go_wp2_with fail
           go_ret
           exact ⟨ret_bool (by simp [h1]), hB⟩)
        | (go_ret
           exact ⟨ret_bool (by simp [h1]), hB⟩)
  · have e : Ex.emp atom (.mk 8 n ks) = true := by simp [Ex.emp, empC]
    rw [e]
    clear hk hnum htl e hc
    go_enter Tryz.func35, Tryz.ntmps35
    go_wp2_with fail
    go_ret
    exact ⟨rfl, by (repeat' first | exact Below.refl _ _ | assumption | apply Below.alloc | apply Below.drew | apply Below.setCell | omega | (simp; done) | (simp; omega))⟩
theorem kidsN_none {k : Int} {ks : List Ex} (h : kidsN k = (ks.length : Int)) (hk : k = 1 ∨ k = 2 ∨ k = 3 ∨ k = 4) : ks = [] := by
 unfold kidsN at h; rw [if_pos hk] at h; exact List.eq_nil_of_length_eq_zero (by omega)
set_option maxHeartbeats 4000000 in
theorem l02Empty_all (tm am atom : Int) (ht : tm ≤ 2) (h0 : 0 ≤ atom) (h7 : atom ≤ 7) (N : Nat) : ∀ (e : Ex) (b o : Nat) (w : World), e.size ≤ N → ExAt w b o e → e.tree tm am = true →
    Calls Tryz.prog 57 #[.pointer (some ⟨b, o, none⟩), .int .i64 atom] w fun f w' => f = .returned (.bool (e.emp atom)) ∧ w = w' := by
  induction N using Nat.strongRecOn with
  | _ N ih =>
  intro e b o w hN hr htr
  obtain ⟨k, n, ks⟩ := e
  obtain ⟨g0, g1, s, c, g2, hr⟩ := hr
  simp only [Ex.kind, Ex.num, Ex.kids] at g0 g1 g2 hr
  obtain ⟨hk, hnum, hc, htl⟩ := tree_parts htr
  rcases kind_cases hk with rfl | rfl | rfl | rfl | rfl | rfl | rfl | rfl
  · have e : Ex.emp atom (.mk 1 n ks) = Ex.tru atom (.mk 1 n ks) := by simp [Ex.emp, empC, Ex.tru, truC]
    have hcc : Ex.cond (.mk 1 n ks) = true := by rw [Ex.cond_eq]; simp [Ex.kind, Ex.kids, condKind, kidsN_none hk (by omega), Ex.condL]
    rw [e]
    clear hk hnum htl e hc
    have hat : ExAt w b o (.mk 1 n ks) := ⟨g0, g1, s, c, g2, hr⟩
    go_enter Tryz.func57, Tryz.ntmps57
    go_wp2_with fail
    refine (l01True_all tm am atom ht h0 h7 _ _ _ _ _ (Nat.le_refl _) hat htr hcc).mono ?_
    rintro y w' ⟨rfl, rfl⟩
    go_wp2_with fail
    go_ret
    exact ⟨rfl, rfl⟩
  · have e : Ex.emp atom (.mk 2 n ks) = Ex.tru atom (.mk 2 n ks) := by simp [Ex.emp, empC, Ex.tru, truC]
    have hcc : Ex.cond (.mk 2 n ks) = true := by rw [Ex.cond_eq]; simp [Ex.kind, Ex.kids, condKind, kidsN_none hk (by omega), Ex.condL]
    rw [e]
    clear hk hnum htl e hc
    have hat : ExAt w b o (.mk 2 n ks) := ⟨g0, g1, s, c, g2, hr⟩
    go_enter Tryz.func57, Tryz.ntmps57
    go_wp2_with fail
    refine (l01True_all tm am atom ht h0 h7 _ _ _ _ _ (Nat.le_refl _) hat htr hcc).mono ?_
    rintro y w' ⟨rfl, rfl⟩
    go_wp2_with fail
    go_ret
    exact ⟨rfl, rfl⟩
  · have e : Ex.emp atom (.mk 3 n ks) = Ex.tru atom (.mk 3 n ks) := by simp [Ex.emp, empC, Ex.tru, truC]
    have hcc : Ex.cond (.mk 3 n ks) = true := by rw [Ex.cond_eq]; simp [Ex.kind, Ex.kids, condKind, kidsN_none hk (by omega), Ex.condL]
    rw [e]
    clear hk hnum htl e hc
    have hat : ExAt w b o (.mk 3 n ks) := ⟨g0, g1, s, c, g2, hr⟩
    go_enter Tryz.func57, Tryz.ntmps57
    go_wp2_with fail
    refine (l01True_all tm am atom ht h0 h7 _ _ _ _ _ (Nat.le_refl _) hat htr hcc).mono ?_
    rintro y w' ⟨rfl, rfl⟩
    go_wp2_with fail
    go_ret
    exact ⟨rfl, rfl⟩
  · have e : Ex.emp atom (.mk 4 n ks) = false := by simp [Ex.emp, empC]
    rw [e]
    clear hk hnum htl e hc
    go_enter Tryz.func57, Tryz.ntmps57
    go_wp2_with fail
    go_ret
    exact ⟨rfl, rfl⟩
  · have e : Ex.emp atom (.mk 5 n ks) = Ex.tru atom (.mk 5 n ks) := by simp [Ex.emp, empC, Ex.tru, truC]
    have hcc : Ex.cond (.mk 5 n ks) = true := by rw [Ex.cond_eq]; simp [Ex.kind, Ex.kids, condKind, hc rfl]
    rw [e]
    clear hk hnum htl e hc
    have hat : ExAt w b o (.mk 5 n ks) := ⟨g0, g1, s, c, g2, hr⟩
    go_enter Tryz.func57, Tryz.ntmps57
    go_wp2_with fail
    refine (l01True_all tm am atom ht h0 h7 _ _ _ _ _ (Nat.le_refl _) hat htr hcc).mono ?_
    rintro y w' ⟨rfl, rfl⟩
    go_wp2_with fail
    go_ret
    exact ⟨rfl, rfl⟩
  · obtain ⟨x, y, rfl⟩ := two_kids hk (by omega)
    have hx : [x, y][0]? = some x := rfl
    have hy : [x, y][1]? = some y := rfl
    obtain ⟨b', o', rfl⟩ := kid_some hr (by simp)
    have e : Ex.emp atom (.mk 6 n [x, y]) = or (Ex.emp atom x) (Ex.emp atom y) := by simp [Ex.emp, Ex.empL, empC]
    have hxt : Ex.tree tm am x = true := Ex.treeL_mem htl (by simp)
    have hyt : Ex.tree tm am y = true := Ex.treeL_mem htl (by simp)
    skip
    have hxs : x.size < N := by simp only [Ex.size, Ex.sizeL] at hN; omega
    have hys : y.size < N := by simp only [Ex.size, Ex.sizeL] at hN; omega
    have hax := kid_exAt hr hx
    have hay := kid_exAt hr hy
    simp only [Nat.zero_mul, Nat.one_mul, Nat.add_zero] at hax hay
    obtain ⟨-, hlen, hcap, -, -⟩ := kid_at hr
    unfold maxLen at hcap
    simp only [List.length_cons, List.length_nil] at hlen
    rw [e]
    clear hk hnum htl hc htr e
    go_enter Tryz.func57, Tryz.ntmps57
    go_wp2_with fail
    refine (ih _ hxs x _ _ _ (Nat.le_refl _) hax hxt ).mono ?_
    rintro z w' ⟨rfl, rfl⟩
    cases h1 : Ex.emp atom x
    all_goals
      go_wp2_with fail
      first
        | (refine (ih _ hys y _ _ _ (Nat.le_refl _) hay hyt ).mono ?_
           rintro z w' ⟨rfl, rfl⟩
           go_wp2_with fail
           go_ret
           exact ⟨ret_bool (by simp [h1]), rfl⟩)
        | (go_ret
           exact ⟨ret_bool (by simp [h1]), rfl⟩)
  · obtain ⟨x, y, rfl⟩ := two_kids hk (by omega)
    have hx : [x, y][0]? = some x := rfl
    have hy : [x, y][1]? = some y := rfl
    obtain ⟨b', o', rfl⟩ := kid_some hr (by simp)
    have e : Ex.emp atom (.mk 7 n [x, y]) = and (Ex.emp atom x) (Ex.emp atom y) := by simp [Ex.emp, Ex.empL, empC]
    have hxt : Ex.tree tm am x = true := Ex.treeL_mem htl (by simp)
    have hyt : Ex.tree tm am y = true := Ex.treeL_mem htl (by simp)
    skip
    have hxs : x.size < N := by simp only [Ex.size, Ex.sizeL] at hN; omega
    have hys : y.size < N := by simp only [Ex.size, Ex.sizeL] at hN; omega
    have hax := kid_exAt hr hx
    have hay := kid_exAt hr hy
    simp only [Nat.zero_mul, Nat.one_mul, Nat.add_zero] at hax hay
    obtain ⟨-, hlen, hcap, -, -⟩ := kid_at hr
    unfold maxLen at hcap
    simp only [List.length_cons, List.length_nil] at hlen
    rw [e]
    clear hk hnum htl hc htr e
    go_enter Tryz.func57, Tryz.ntmps57
    go_wp2_with fail
    refine (ih _ hxs x _ _ _ (Nat.le_refl _) hax hxt ).mono ?_
    rintro z w' ⟨rfl, rfl⟩
    cases h1 : Ex.emp atom x
    all_goals
      go_wp2_with fail
      first
        | (refine (ih _ hys y _ _ _ (Nat.le_refl _) hay hyt ).mono ?_
           rintro z w' ⟨rfl, rfl⟩
           go_wp2_with fail
           go_ret
           exact ⟨ret_bool (by simp [h1]), rfl⟩)
        | (go_ret
           exact ⟨ret_bool (by simp [h1]), rfl⟩)
  · have e : Ex.emp atom (.mk 8 n ks) = true := by simp [Ex.emp, empC]
    rw [e]
    clear hk hnum htl e hc
    go_enter Tryz.func57, Tryz.ntmps57
    go_wp2_with fail
    go_ret
    exact ⟨rfl, rfl⟩
end Go.Proofs.YtcokljhamhgelaaGreatDoor
