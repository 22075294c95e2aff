/-
  Expressions reversed: slices.Reverse of two, l01Turn, reversedExpr, ReverseExpr of both.
-/
import Derived.Test.YtlnojmmjpgpjdaaDoorCopy
import Derived.Test.YtlnojmmjpgpjdaaDoorSwap
import Derived.Test.YtlnojmmjpgpjdaaDoorTruth
namespace Go.Proofs.YtlnojmmjpgpjdaaDoor
open Go.ChangeShapes Go.WideShapes Go.ChangeAt Go.RowKit Go.Deep Go.Sort

theorem Ows.three_inv {w : World} {k n : Int} {d : D} {ds : List D} {xs : List Value} {F : List Nat} (h : Ows w (.int k :: .int n :: d :: ds) xs F) :
    ∃ v r G K, xs = .int .i64 k :: .int .i64 n :: v :: r ∧ F = G ++ K ∧ Ow w d v G ∧ Ows w ds r K := by
  simp only [Ows, Ow] at h
  obtain ⟨x0, r0, G0, K0, e0, f0, ⟨rfl, rfl⟩, x1, r1, G1, K1, rfl, f1, ⟨rfl, rfl⟩, x2, r2, G2, K2, rfl, f2, h2, h3⟩ := h
  exact ⟨x2, r2, G2, K2, e0, by rw [f0, f1, f2]; simp, h2, h3⟩
theorem Ows.three_mk {w : World} {k n : Int} {d : D} {ds : List D} {v : Value} {r : List Value} {G K : List Nat} (h : Ow w d v G) (h' : Ows w ds r K) : Ows w (.int k :: .int n :: d :: ds) (.int .i64 k :: .int .i64 n :: v :: r) (G ++ K) := by
  have := Ows.append (Ows.three (k := k) (n := n) h) h'
  simpa using this

/-- Two expressions that lie in a row of their own: the row, and what it is to exchange them. -/
theorem App.two {W w : World} {t : TypeId} {x y : Ex} {v : Value} (h : App W w t 3 2 (Ex.cellsL [x, y]) v) : ∃ g cap sx cx sy cy rest, v = .slice (some ⟨g, 0, none⟩) 2 cap ∧ 2 ≤ cap ∧ cap ≤ maxLen ∧ W.heap.size ≤ g ∧ g < w.heap.size ∧
    Blk w g t (.int .i64 x.kind :: .int .i64 x.num :: .slice sx x.kids.length cx :: .int .i64 y.kind :: .int .i64 y.num :: .slice sy y.kids.length cy :: rest) ∧
    ∀ w', Blk w' g t (.int .i64 y.kind :: .int .i64 y.num :: .slice sy y.kids.length cy :: .int .i64 x.kind :: .int .i64 x.num :: .slice sx x.kids.length cx :: rest) → (∀ b, b < w.heap.size → b ≠ g → w'.heap[b]? = w.heap[b]?) → App W w' t 3 2 (Ex.cellsL [y, x]) v := by
  obtain ⟨xs, F, ⟨h0, h1⟩, h2, h3, h4⟩ := h
  simp only [Ex.cellsL, List.append_nil] at h2 ⊢
  rw [Ex.cells_eq, Ex.cells_eq] at h2 ⊢
  simp only [List.cons_append, List.nil_append] at h2 ⊢
  obtain ⟨vx, r, Gx, K, rfl, rfl, hx, h2⟩ := h2.three_inv
  obtain ⟨vy, r', Gy, K', rfl, rfl, hy, h2⟩ := h2.three_inv
  simp only [Ows] at h2
  obtain ⟨rfl, rfl⟩ := h2
  obtain ⟨sx, cx, rfl, _⟩ := hx.rd.slice
  obtain ⟨sy, cy, rfl, _⟩ := hy.rd.slice
  rcases h1 with ⟨-, h1⟩ | ⟨g, cap, cur, rfl, hg, hb, h5, h6, h7, h8⟩
  · exact absurd h1 (by decide)
  have hblk : Blk w g t cur.toList := by simpa [Blk] using hb
  simp only [List.append_nil] at h3 h4
  obtain ⟨rest, hrest⟩ : ∃ rest, cur.toList = .int .i64 x.kind :: .int .i64 x.num :: .slice sx x.kids.length cx :: .int .i64 y.kind :: .int .i64 y.num :: .slice sy y.kids.length cy :: rest := by
    refine ⟨cur.toList.drop 6, ?_⟩
    have h8' : cur.toList.take 6 = _ := h8
    conv => lhs; rw [← List.take_append_drop 6 cur.toList, h8']
    rfl
  rw [hrest] at hblk
  refine ⟨g, cap, sx, cx, sy, cy, rest, rfl, h5, h6, hg, hblk.lt, hblk, fun w' hb' hk => ?_⟩
  have hne : ∀ b ∈ Gx ++ Gy, b ≠ g := fun b hb e => (h4 b hb).2 (by rw [e]; rfl)
  refine ⟨_, Gy ++ (Gx ++ []), ⟨rfl, Or.inr ⟨g, cap, _, rfl, hg, hb', h5, h6, ?_, rfl⟩⟩,
    Ows.three_mk (hy.keep fun b hb => hk b (hy.lt b hb) (hne b (List.mem_append_right _ hb))) (Ows.three_mk (hx.keep fun b hb => hk b (hx.lt b hb) (hne b (List.mem_append_left _ hb))) Ows.nil), ?_, ?_⟩
  · have hs : cur.toList.length = cap * 3 := by simpa using h7
    rw [hrest] at hs
    simpa using hs
  · rw [List.append_nil]
    rw [List.nodup_append] at h3 ⊢
    exact ⟨h3.2.1, h3.1, fun a ha b hb e => h3.2.2 b hb a ha e.symm⟩
  · intro b hb
    rw [List.append_nil] at hb
    exact h4 b (by rcases List.mem_append.1 hb with h | h; exact List.mem_append_right _ h; exact List.mem_append_left _ h)

mutual
/-- The kids of products exchanged. -/
def Ex.rev : Ex → Ex
  | .mk k n ks => .mk k n (if k = 7 then (Ex.revL ks).reverse else Ex.revL ks)
def Ex.revL : List Ex → List Ex
  | [] => []
  | e :: r => e.rev :: Ex.revL r
end
theorem Ex.rev_kind (e : Ex) : e.rev.kind = e.kind := by cases e; simp only [Ex.rev, Ex.kind]
theorem Ex.rev_num (e : Ex) : e.rev.num = e.num := by cases e; simp only [Ex.rev, Ex.num]
theorem Ex.rev_kids (e : Ex) : e.rev.kids = if e.kind = 7 then (Ex.revL e.kids).reverse else Ex.revL e.kids := by cases e; simp only [Ex.rev, Ex.kids, Ex.kind]; rfl
theorem Ex.revL_length : ∀ ks : List Ex, (Ex.revL ks).length = ks.length
  | [] => rfl
  | e :: r => by simp only [Ex.revL, List.length_cons, Ex.revL_length r]
theorem Ex.rev_length (e : Ex) : e.kids.length = e.rev.kids.length := by
  rw [Ex.rev_kids]
  split <;> simp [Ex.revL_length]
theorem Ex.revL_at : ∀ {ks : List Ex} {i : Nat} {x : Ex}, ks[i]? = some x → (Ex.revL ks)[i]? = some x.rev
  | [], i, x, h => by simp at h
  | e :: r, 0, x, h => by simp at h; subst h; simp [Ex.revL]
  | e :: r, i + 1, x, h => by
    have := Ex.revL_at (ks := r) (i := i) (x := x) (by simpa using h)
    simpa [Ex.revL] using this
theorem tree_parts' {tm am : Int} {e : Ex} (h : e.tree tm am = true) : kidsN e.kind = (e.kids.length : Int) ∧ Ex.treeL tm am e.kids = true := by
  cases e
  obtain ⟨h1, -, -, h2⟩ := tree_parts h
  exact ⟨h1, h2⟩
theorem kidsN_seven : kidsN 7 = 2 := by unfold kidsN; rw [if_neg (by omega), if_neg (by omega), if_pos (by omega)]

end Go.Proofs.YtlnojmmjpgpjdaaDoor
