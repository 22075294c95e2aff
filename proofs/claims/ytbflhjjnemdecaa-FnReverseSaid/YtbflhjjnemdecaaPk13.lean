/-
  Parts of a proof, joined: Turn, Turn3. No condition.
-/
import Derived.Test.YtbflhjjnemdecaaPk7
namespace Go.Proofs.Ytbflhjjnemdecaa
set_option linter.unusedVariables false
set_option linter.unusedSimpArgs false
open Go.ChangeShapes Go.WideShapes Go.ChangeAt Go.RowKit Go.Deep Go.Sort
theorem Ows.three_inv {w : World} {k n : Int} {d : D} {ds : List D} {xs : List Value} {F : List Nat} (h : Ows w (.int k :: .int n :: d :: ds) xs F) :
  ∃ v r G K, xs = .int .i64 k :: .int .i64 n :: v :: r ∧ F = G ++ K ∧ Ow w d v G ∧ Ows w ds r K := by
 simp only [Ows, Ow] at h
 obtain ⟨x0, r0, G0, K0, e0, f0, ⟨rfl, rfl⟩, x1, r1, G1, K1, rfl, f1, ⟨rfl, rfl⟩, x2, r2, G2, K2, rfl, f2, h2, h3⟩ := h
 exact ⟨x2, r2, G2, K2, e0, by rw [f0, f1, f2]; simp, h2, h3⟩
theorem Ows.three_mk {w : World} {k n : Int} {d : D} {ds : List D} {v : Value} {r : List Value} {G K : List Nat} (h : Ow w d v G) (h' : Ows w ds r K) : Ows w (.int k :: .int n :: d :: ds) (.int .i64 k :: .int .i64 n :: v :: r) (G ++ K) := by
 have := Ows.append (Ows.three (k := k) (n := n) h) h'
 simpa using this
theorem App.two {W w : World} {t : TypeId} {x y : Ex} {v : Value} (h : App W w t 3 2 (Ex.cellsL [x, y]) v) : ∃ g cap sx cx sy cy rest, v = .slice (some ⟨g, 0, none⟩) 2 cap ∧ 2 ≤ cap ∧ cap ≤ maxLen ∧ W.heap.size ≤ g ∧ g < w.heap.size ∧
  Blk w g t (.int .i64 x.kind :: .int .i64 x.num :: .slice sx x.kids.length cx :: .int .i64 y.kind :: .int .i64 y.num :: .slice sy y.kids.length cy :: rest) ∧
  ∀ w', Blk w' g t (.int .i64 y.kind :: .int .i64 y.num :: .slice sy y.kids.length cy :: .int .i64 x.kind :: .int .i64 x.num :: .slice sx x.kids.length cx :: rest) → (∀ b, b < w.heap.size → b ≠ g → w'.heap[b]? = w.heap[b]?) → App W w' t 3 2 (Ex.cellsL [y, x]) v := by
 obtain ⟨xs, F, ⟨h0, h1⟩, h2, h3, h4⟩ := h
 simp only [Ex.cellsL, List.append_nil] at h2 ⊢
 rw [Ex.cells_eq, Ex.cells_eq] at h2 ⊢
 simp only [List.cons_append, List.nil_append] at h2 ⊢
 obtain ⟨vx, r, Gx, K, rfl, rfl, hx, h2⟩ := h2.three_inv
 obtain ⟨vy, r', Gy, K', rfl, rfl, hy, h2⟩ := h2.three_inv
 simp only [Ows] at h2
 obtain ⟨rfl, rfl⟩ := h2
 obtain ⟨sx, cx, rfl, _⟩ := hx.rd.slice
 obtain ⟨sy, cy, rfl, _⟩ := hy.rd.slice
 rcases h1 with ⟨-, h1⟩ | ⟨g, cap, cur, rfl, hg, hb, h5, h6, h7, h8⟩
 ·
  exact absurd h1 (by decide)
 have hblk : Blk w g t cur.toList := by simpa [Blk] using hb
 simp only [List.append_nil] at h3 h4
 obtain ⟨rest, hrest⟩ : ∃ rest, cur.toList = .int .i64 x.kind :: .int .i64 x.num :: .slice sx x.kids.length cx :: .int .i64 y.kind :: .int .i64 y.num :: .slice sy y.kids.length cy :: rest := by
  refine ⟨cur.toList.drop 6, ?_⟩
  have h8' : cur.toList.take 6 = _ := h8
  conv => lhs; rw [← List.take_append_drop 6 cur.toList, h8']
  rfl
 rw [hrest] at hblk
 refine ⟨g, cap, sx, cx, sy, cy, rest, rfl, h5, h6, hg, hblk.lt, hblk, fun w' hb' hk => ?_⟩
 have hne : ∀ b ∈ Gx ++ Gy, b ≠ g := fun b hb e => (h4 b hb).2 (by rw [e]; rfl)
 refine ⟨_, Gy ++ (Gx ++ []), ⟨rfl, Or.inr ⟨g, cap, _, rfl, hg, hb', h5, h6, ?_, rfl⟩⟩,
  Ows.three_mk (hy.keep fun b hb => hk b (hy.lt b hb) (hne b (List.mem_append_right _ hb))) (Ows.three_mk (hx.keep fun b hb => hk b (hx.lt b hb) (hne b (List.mem_append_left _ hb))) Ows.nil), ?_, ?_⟩
 ·
  have hs : cur.toList.length = cap * 3 := by simpa using h7
  rw [hrest] at hs
  simpa using hs
 ·
  rw [List.append_nil]
  rw [List.nodup_append] at h3 ⊢
  exact ⟨h3.2.1, h3.1, fun a ha b hb e => h3.2.2 b hb a ha e.symm⟩
 ·
  intro b hb
  rw [List.append_nil] at hb
  exact h4 b (by rcases List.mem_append.1 hb with h | h; exact List.mem_append_right _ h; exact List.mem_append_left _ h)
mutual
def Ex.rev : Ex → Ex
 | .mk k n ks => .mk k n (if k = 7 then (Ex.revL ks).reverse else Ex.revL ks)
def Ex.revL : List Ex → List Ex
 | [] => []
 | e :: r => e.rev :: Ex.revL r
end
theorem Ex.rev_kind (e : Ex) : e.rev.kind = e.kind := by cases e; simp only [Ex.rev, Ex.kind]
theorem Ex.rev_num (e : Ex) : e.rev.num = e.num := by cases e; simp only [Ex.rev, Ex.num]
theorem Ex.rev_kids (e : Ex) : e.rev.kids = if e.kind = 7 then (Ex.revL e.kids).reverse else Ex.revL e.kids := by cases e; simp only [Ex.rev, Ex.kids, Ex.kind]; rfl
theorem Ex.revL_length : ∀ ks : List Ex, (Ex.revL ks).length = ks.length
 | [] => rfl
 | e :: r => by simp only [Ex.revL, List.length_cons, Ex.revL_length r]
theorem Ex.rev_length (e : Ex) : e.kids.length = e.rev.kids.length := by
 rw [Ex.rev_kids]
 split <;> simp [Ex.revL_length]
theorem Ex.revL_at : ∀ {ks : List Ex} {i : Nat} {x : Ex}, ks[i]? = some x → (Ex.revL ks)[i]? = some x.rev
 | [], i, x, h => by simp at h
 | e :: r, 0, x, h => by simp at h; subst h; simp [Ex.revL]
 | e :: r, i + 1, x, h => by
  have := Ex.revL_at (ks := r) (i := i) (x := x) (by simpa using h)
  simpa [Ex.revL] using this
theorem tree_parts' {tm am : Int} {e : Ex} (h : e.tree tm am = true) : kidsN e.kind = (e.kids.length : Int) ∧ Ex.treeL tm am e.kids = true := by
 cases e
 obtain ⟨h1, -, -, h2⟩ := tree_parts h
 exact ⟨h1, h2⟩
set_option maxHeartbeats 4000000 in
theorem reverse_two {W : World} {x y : Ex} {v : Value} {w : World} (h : App W w 38 3 2 (Ex.cellsL [x, y]) v) (hW : W.heap.size ≤ w.heap.size) :
  Calls Try.prog 139 #[v] w fun e w' => e = .returned (.tuple #[]) ∧ App W w' 38 3 2 (Ex.cellsL [y, x]) v ∧ Below W.heap.size w w' := by
 obtain ⟨g, cap, sx, cx, sy, cy, rest, rfl, hc1, hc2, hg, hgl, B0, hA⟩ := h.two
 clear h
 unfold maxLen at hc2
 have HA := Lib.hid hA
 clear hA
 go_enter Try.func139, Try.ntmps139
 go_wp2_with fail
 go_loopw [2, 3] (fun i j wr => (i = .int .i64 0 ∧ j = .int .i64 1 ∧ wr = w) ∨ (i = .int .i64 1 ∧ j = .int .i64 0 ∧ App W wr 38 3 2 (Ex.cellsL [y, x]) (.slice (some ⟨g, 0, none⟩) 2 cap) ∧ Below W.heap.size w wr)) (fun i j _ => (1 - intOf i).toNat)
 case atStart => exact Or.inl ⟨rfl, rfl, rfl⟩
 case round =>
  rcases hrel with ⟨rfl, rfl, rfl⟩ | ⟨rfl, rfl, hA, hB⟩
  ·
   go_wp2_with fail
   have hGb : ∀ m b, (fun m b => (m = 0 ∧ b = g)) m b → (W.heap.size) ≤ b ∧ b < (wr).heap.size := by
    intro m b hg
    rcases hg with ⟨rfl, hg⟩
    ·
     subst hg
     have q := B0.lt
     omega
   have hGd : ∀ m m' b, (fun m b => (m = 0 ∧ b = g)) m b → (fun m b => (m = 0 ∧ b = g)) m' b → m = m' := by
    intro m m' b h h'
    rcases h with ⟨rfl, h⟩ <;> rcases h' with ⟨rfl, h'⟩ <;> first
     | rfl
   refine region_rs [(15, 13)] [(13, 0)] (fun m b => (m = 0 ∧ b = g)) (W.heap.size) (fun i iv vs wx => match i with
    | 0 => vs 0 = .slice (some ⟨g, 0, none⟩) 2 cap
    | 1 => vs 1 = .int .i64 0
    | 2 => vs 2 = .slice (some ⟨g, 0, none⟩) 2 cap
    | 3 => vs 3 = .int .i64 1
    | 4 => vs 4 = .slice (some ⟨g, 0, none⟩) 2 cap
    | 5 => vs 5 = .int .i64 1
    | 6 => vs 6 = .pointer (some ⟨g, 3, none⟩)
    | 7 => vs 7 = .agg #[.int .i64 y.kind, .int .i64 y.num, .slice sy y.kids.length cy]
    | 8 => vs 8 = .slice (some ⟨g, 0, none⟩) 2 cap
    | 9 => vs 9 = .int .i64 0
    | 10 => vs 10 = .pointer (some ⟨g, 0, none⟩)
    | 11 => vs 11 = .agg #[.int .i64 x.kind, .int .i64 x.num, .slice sx x.kids.length cx]
    | 12 => vs 12 = .pointer (some ⟨g, 0, none⟩)
    | 13 => Blk wx (g) 38 (.int .i64 y.kind :: .int .i64 y.num :: .slice sy y.kids.length cy :: .int .i64 y.kind :: .int .i64 y.num :: .slice sy y.kids.length cy :: rest)
    | 14 => vs 14 = .pointer (some ⟨g, 3, none⟩)
    | 15 => Blk wx (g) 38 (.int .i64 y.kind :: .int .i64 y.num :: .slice sy y.kids.length cy :: .int .i64 x.kind :: .int .i64 x.num :: .slice sx x.kids.length cx :: rest)
    | _ => True) (fun i iv vs => match i with
    | 0 => vs 0 = .slice (some ⟨g, 0, none⟩) 2 cap
    | 1 => vs 1 = .int .i64 0
    | 2 => vs 2 = .slice (some ⟨g, 0, none⟩) 2 cap
    | 3 => vs 3 = .int .i64 1
    | 4 => vs 4 = .slice (some ⟨g, 0, none⟩) 2 cap
    | 5 => vs 5 = .int .i64 1
    | 6 => vs 6 = .pointer (some ⟨g, 3, none⟩)
    | 7 => vs 7 = .agg #[.int .i64 y.kind, .int .i64 y.num, .slice sy y.kids.length cy]
    | 8 => vs 8 = .slice (some ⟨g, 0, none⟩) 2 cap
    | 9 => vs 9 = .int .i64 0
    | 10 => vs 10 = .pointer (some ⟨g, 0, none⟩)
    | 11 => vs 11 = .agg #[.int .i64 x.kind, .int .i64 x.num, .slice sx x.kids.length cx]
    | 12 => vs 12 = .pointer (some ⟨g, 0, none⟩)
    | 13 => True
    | 14 => vs 14 = .pointer (some ⟨g, 3, none⟩)
    | 15 => True
    | _ => True) (by kernel_rfl) (by kernel_rfl) [0, 1, 2, 3, 4, 5, 6, 7, 8, 9, 10, 11, 12, 13, 14, 15] (by kernel_rfl) ?hbase ?hGb ?hG ?hJ ?hE ?hEE ?hstep ?hQ
   case hbase => first | exact Nat.le_refl _ | omega | (simp; omega)
   case hGb =>
    exact hGb
   case hG =>
    exact hGd
   case hJ =>
    intro i hi iv iv' vs vs' wx wx' ha hv hz hk hj
    simp only [List.mem_cons, List.not_mem_nil, or_false] at hi
    rcases hi with rfl | rfl | rfl | rfl | rfl | rfl | rfl | rfl | rfl | rfl | rfl | rfl | rfl | rfl | rfl | rfl
    ·
     exact (hv.out 0 (mem_of (by kernel_rfl))).symm.trans hj
    ·
     exact (hv.out 1 (mem_of (by kernel_rfl))).symm.trans hj
    ·
     exact (hv.out 2 (mem_of (by kernel_rfl))).symm.trans hj
    ·
     exact (hv.out 3 (mem_of (by kernel_rfl))).symm.trans hj
    ·
     exact (hv.out 4 (mem_of (by kernel_rfl))).symm.trans hj
    ·
     exact (hv.out 5 (mem_of (by kernel_rfl))).symm.trans hj
    ·
     exact (hv.out 6 (mem_of (by kernel_rfl))).symm.trans hj
    ·
     exact (hv.out 7 (mem_of (by kernel_rfl))).symm.trans hj
    ·
     exact (hv.out 8 (mem_of (by kernel_rfl))).symm.trans hj
    ·
     exact (hv.out 9 (mem_of (by kernel_rfl))).symm.trans hj
    ·
     exact (hv.out 10 (mem_of (by kernel_rfl))).symm.trans hj
    ·
     exact (hv.out 11 (mem_of (by kernel_rfl))).symm.trans hj
    ·
     exact (hv.out 12 (mem_of (by kernel_rfl))).symm.trans hj
    ·
     have hj' : Blk wx (g) 38 (.int .i64 y.kind :: .int .i64 y.num :: .slice sy y.kids.length cy :: .int .i64 y.kind :: .int .i64 y.num :: .slice sy y.kids.length cy :: rest) := hj
     show Blk wx' (g) 38 (.int .i64 y.kind :: .int .i64 y.num :: .slice sy y.kids.length cy :: .int .i64 y.kind :: .int .i64 y.num :: .slice sy y.kids.length cy :: rest)
     exact hj'.keep (hk.out _ hj'.lt (foot_given 0 (by decide) ⟨rfl, rfl⟩))
    ·
     exact (hv.out 14 (mem_of (by kernel_rfl))).symm.trans hj
    ·
     have hj' : Blk wx (g) 38 (.int .i64 y.kind :: .int .i64 y.num :: .slice sy y.kids.length cy :: .int .i64 x.kind :: .int .i64 x.num :: .slice sx x.kids.length cx :: rest) := hj
     show Blk wx' (g) 38 (.int .i64 y.kind :: .int .i64 y.num :: .slice sy y.kids.length cy :: .int .i64 x.kind :: .int .i64 x.num :: .slice sx x.kids.length cx :: rest)
     exact hj'.keep (hk.out _ hj'.lt ⟨13, mem_of (by kernel_rfl), Or.inr ⟨0, by decide, ⟨rfl, rfl⟩⟩⟩)
   case hE =>
    intro i hi iv vs wx hj
    simp only [List.mem_cons, List.not_mem_nil, or_false] at hi
    rcases hi with rfl | rfl | rfl | rfl | rfl | rfl | rfl | rfl | rfl | rfl | rfl | rfl | rfl | rfl | rfl | rfl
    ·
     exact hj
    ·
     exact hj
    ·
     exact hj
    ·
     exact hj
    ·
     exact hj
    ·
     exact hj
    ·
     exact hj
    ·
     exact hj
    ·
     exact hj
    ·
     exact hj
    ·
     exact hj
    ·
     exact hj
    ·
     exact hj
    ·
     trivial
    ·
     exact hj
    ·
     trivial
   case hEE =>
    intro i hi iv iv' vs vs' ha hv hj
    simp only [List.mem_cons, List.not_mem_nil, or_false] at hi
    rcases hi with rfl | rfl | rfl | rfl | rfl | rfl | rfl | rfl | rfl | rfl | rfl | rfl | rfl | rfl | rfl | rfl
    ·
     exact (hv.out 0 (mem_of (by kernel_rfl))).symm.trans hj
    ·
     exact (hv.out 1 (mem_of (by kernel_rfl))).symm.trans hj
    ·
     exact (hv.out 2 (mem_of (by kernel_rfl))).symm.trans hj
    ·
     exact (hv.out 3 (mem_of (by kernel_rfl))).symm.trans hj
    ·
     exact (hv.out 4 (mem_of (by kernel_rfl))).symm.trans hj
    ·
     exact (hv.out 5 (mem_of (by kernel_rfl))).symm.trans hj
    ·
     exact (hv.out 6 (mem_of (by kernel_rfl))).symm.trans hj
    ·
     exact (hv.out 7 (mem_of (by kernel_rfl))).symm.trans hj
    ·
     exact (hv.out 8 (mem_of (by kernel_rfl))).symm.trans hj
    ·
     exact (hv.out 9 (mem_of (by kernel_rfl))).symm.trans hj
    ·
     exact (hv.out 10 (mem_of (by kernel_rfl))).symm.trans hj
    ·
     exact (hv.out 11 (mem_of (by kernel_rfl))).symm.trans hj
    ·
     exact (hv.out 12 (mem_of (by kernel_rfl))).symm.trans hj
    ·
     trivial
    ·
     exact (hv.out 14 (mem_of (by kernel_rfl))).symm.trans hj
    ·
     trivial
   case hstep =>
    intro i hi opr ho iv vs w1 hB hS hSo hd he hbd hsep hun K hK
    simp only [List.mem_cons, List.not_mem_nil, or_false] at hi
    have hzB := hB.size
    have HGb := Lib.hid hGb
    clear hGb hGd
    generalize hA : putFrom _ 0 vs _ = A at hK ⊢
    simp only [putFrom, puts] at hA
    rcases hi with rfl | rfl | rfl | rfl | rfl | rfl | rfl | rfl | rfl | rfl | rfl | rfl | rfl | rfl | rfl | rfl
    all_goals
     simp at ho
     subst ho
     subst hA
    ·
     go_wp2_with fail
     exact Onward.mk (hK (.slice (some ⟨g, 0, none⟩) 2 cap) _ _ (fun h => by cases h) (by first | rfl | (simp only [puts])) (Spares.refl _) (fun iv' _ _ => rfl))
    ·
     go_wp2_with fail
     exact Onward.mk (hK (.int .i64 0) _ _ (fun h => by cases h) (by first | rfl | (simp only [puts])) (Spares.refl _) (fun iv' _ _ => rfl))
    ·
     go_wp2_with fail
     exact Onward.mk (hK (.slice (some ⟨g, 0, none⟩) 2 cap) _ _ (fun h => by cases h) (by first | rfl | (simp only [puts])) (Spares.refl _) (fun iv' _ _ => rfl))
    ·
     go_wp2_with fail
     exact Onward.mk (hK (.int .i64 1) _ _ (fun h => by cases h) (by first | rfl | (simp only [puts])) (Spares.refl _) (fun iv' _ _ => rfl))
    ·
     go_wp2_with fail
     exact Onward.mk (hK (.slice (some ⟨g, 0, none⟩) 2 cap) _ _ (fun h => by cases h) (by first | rfl | (simp only [puts])) (Spares.refl _) (fun iv' _ _ => rfl))
    ·
     go_wp2_with fail
     exact Onward.mk (hK (.int .i64 1) _ _ (fun h => by cases h) (by first | rfl | (simp only [puts])) (Spares.refl _) (fun iv' _ _ => rfl))
    ·
     have h4 : vs 4 = .slice (some ⟨g, 0, none⟩) 2 cap := hd.out 4 (mem_of (by kernel_rfl)) (by decide) (by kernel_rfl)
     have h5 : vs 5 = .int .i64 1 := hd.out 5 (mem_of (by kernel_rfl)) (by decide) (by kernel_rfl)
     go_wp2_with fail
     exact Onward.mk (hK (.pointer (some ⟨g, 3, none⟩)) _ _ (fun h => by cases h) (by first | rfl | (simp only [puts, h4, h5])) (Spares.refl _) (fun iv' _ _ => rfl))
    ·
     have h6 : vs 6 = .pointer (some ⟨g, 3, none⟩) := hd.out 6 (mem_of (by kernel_rfl)) (by decide) (by kernel_rfl)
     have B01 := B0.keep (hS.out 0 _ (by kernel_rfl) ⟨rfl, rfl⟩)
     have b0c0 := B01.c0
     have b0z0 := B01.frozen 0
     have b0c1 := B01.c1
     have b0z1 := B01.frozen 1
     have b0c2 := B01.c2
     have b0z2 := B01.frozen 2
     have b0c3 := B01.c3
     have b0z3 := B01.frozen 3
     have b0c4 := B01.c4
     have b0z4 := B01.frozen 4
     have b0c5 := B01.c5
     have b0z5 := B01.frozen 5
     have b0lt := B01.lt
     go_wp2_with fail
     exact Onward.mk (hK (.agg #[.int .i64 y.kind, .int .i64 y.num, .slice sy y.kids.length cy]) _ _ (fun h => by cases h) (by first | rfl | (simp only [puts, h6])) (Spares.refl _) (fun iv' _ _ => rfl))
    ·
     go_wp2_with fail
     exact Onward.mk (hK (.slice (some ⟨g, 0, none⟩) 2 cap) _ _ (fun h => by cases h) (by first | rfl | (simp only [puts])) (Spares.refl _) (fun iv' _ _ => rfl))
    ·
     go_wp2_with fail
     exact Onward.mk (hK (.int .i64 0) _ _ (fun h => by cases h) (by first | rfl | (simp only [puts])) (Spares.refl _) (fun iv' _ _ => rfl))
    ·
     have h8 : vs 8 = .slice (some ⟨g, 0, none⟩) 2 cap := hd.out 8 (mem_of (by kernel_rfl)) (by decide) (by kernel_rfl)
     have h9 : vs 9 = .int .i64 0 := hd.out 9 (mem_of (by kernel_rfl)) (by decide) (by kernel_rfl)
     go_wp2_with fail
     exact Onward.mk (hK (.pointer (some ⟨g, 0, none⟩)) _ _ (fun h => by cases h) (by first | rfl | (simp only [puts, h8, h9])) (Spares.refl _) (fun iv' _ _ => rfl))
    ·
     have h10 : vs 10 = .pointer (some ⟨g, 0, none⟩) := hd.out 10 (mem_of (by kernel_rfl)) (by decide) (by kernel_rfl)
     have B01 := B0.keep (hS.out 0 _ (by kernel_rfl) ⟨rfl, rfl⟩)
     have b0c0 := B01.c0
     have b0z0 := B01.frozen 0
     have b0c1 := B01.c1
     have b0z1 := B01.frozen 1
     have b0c2 := B01.c2
     have b0z2 := B01.frozen 2
     have b0c3 := B01.c3
     have b0z3 := B01.frozen 3
     have b0c4 := B01.c4
     have b0z4 := B01.frozen 4
     have b0c5 := B01.c5
     have b0z5 := B01.frozen 5
     have b0lt := B01.lt
     go_wp2_with fail
     exact Onward.mk (hK (.agg #[.int .i64 x.kind, .int .i64 x.num, .slice sx x.kids.length cx]) _ _ (fun h => by cases h) (by first | rfl | (simp only [puts, h10])) (Spares.refl _) (fun iv' _ _ => rfl))
    ·
     have h0 : vs 0 = .slice (some ⟨g, 0, none⟩) 2 cap := hd.out 0 (mem_of (by kernel_rfl)) (by decide) (by kernel_rfl)
     have h1 : vs 1 = .int .i64 0 := hd.out 1 (mem_of (by kernel_rfl)) (by decide) (by kernel_rfl)
     go_wp2_with fail
     exact Onward.mk (hK (.pointer (some ⟨g, 0, none⟩)) _ _ (fun h => by cases h) (by first | rfl | (simp only [puts, h0, h1])) (Spares.refl _) (fun iv' _ _ => rfl))
    ·
     have h12 : vs 12 = .pointer (some ⟨g, 0, none⟩) := hd.out 12 (mem_of (by kernel_rfl)) (by decide) (by kernel_rfl)
     have h7 : vs 7 = .agg #[.int .i64 y.kind, .int .i64 y.num, .slice sy y.kids.length cy] := hd.out 7 (mem_of (by kernel_rfl)) (by decide) (by kernel_rfl)
     have B01 := B0.keep (hS.out 0 _ (by kernel_rfl) ⟨rfl, rfl⟩)
     have b0c0 := B01.c0
     have b0z0 := B01.frozen 0
     have b0c1 := B01.c1
     have b0z1 := B01.frozen 1
     have b0c2 := B01.c2
     have b0z2 := B01.frozen 2
     have b0c3 := B01.c3
     have b0z3 := B01.frozen 3
     have b0c4 := B01.c4
     have b0z4 := B01.frozen 4
     have b0c5 := B01.c5
     have b0z5 := B01.frozen 5
     have b0lt := B01.lt
     go_wp2_with fail
     exact Onward.mk (hK undef _ _ (fun _ => rfl) (by simp only [puts, h12, h7]) ((spares_sets (b0 := g) (by repeat (first | exact Spares.refl _ | apply Spares.set))).more (fun b h => Or.inl ⟨0, by decide, ⟨rfl, h⟩⟩)) (fun iv' ag hi => by
      show Blk _ (g) 38 (.int .i64 y.kind :: .int .i64 y.num :: .slice sy y.kids.length cy :: .int .i64 y.kind :: .int .i64 y.num :: .slice sy y.kids.length cy :: rest)
      exact (((B01.set 0 _).set 1 _).set 2 _)))
    ·
     have h2 : vs 2 = .slice (some ⟨g, 0, none⟩) 2 cap := hd.out 2 (mem_of (by kernel_rfl)) (by decide) (by kernel_rfl)
     have h3 : vs 3 = .int .i64 1 := hd.out 3 (mem_of (by kernel_rfl)) (by decide) (by kernel_rfl)
     go_wp2_with fail
     exact Onward.mk (hK (.pointer (some ⟨g, 3, none⟩)) _ _ (fun h => by cases h) (by first | rfl | (simp only [puts, h2, h3])) (Spares.refl _) (fun iv' _ _ => rfl))
    ·
     have h14 : vs 14 = .pointer (some ⟨g, 3, none⟩) := hd.out 14 (mem_of (by kernel_rfl)) (by decide) (by kernel_rfl)
     have h11 : vs 11 = .agg #[.int .i64 x.kind, .int .i64 x.num, .slice sx x.kids.length cx] := hd.out 11 (mem_of (by kernel_rfl)) (by decide) (by kernel_rfl)
     have f13 : Blk _ (g) 38 (.int .i64 y.kind :: .int .i64 y.num :: .slice sy y.kids.length cy :: .int .i64 y.kind :: .int .i64 y.num :: .slice sy y.kids.length cy :: rest) := hd.out 13 (mem_of (by kernel_rfl)) (by decide) (by kernel_rfl)
     have bc0 := f13.c0
     have bz0 := f13.frozen 0
     have bc1 := f13.c1
     have bz1 := f13.frozen 1
     have bc2 := f13.c2
     have bz2 := f13.frozen 2
     have bc3 := f13.c3
     have bz3 := f13.frozen 3
     have bc4 := f13.c4
     have bz4 := f13.frozen 4
     have bc5 := f13.c5
     have bz5 := f13.frozen 5
     have blt := f13.lt
     go_wp2_with fail
     exact Onward.mk (hK undef _ _ (fun _ => rfl) (by simp only [puts, h14, h11]) ((spares_sets (b0 := g) (by repeat (first | exact Spares.refl _ | apply Spares.set))).more (fun b h => Or.inr ⟨13, by decide, foot_given 0 (by decide) ⟨rfl, h⟩⟩)) (fun iv' ag hi => by
      show Blk _ (g) 38 (.int .i64 y.kind :: .int .i64 y.num :: .slice sy y.kids.length cy :: .int .i64 x.kind :: .int .i64 x.num :: .slice sx x.kids.length cx :: rest)
      exact (((f13.set 3 _).set 4 _).set 5 _)))
   case hQ =>
    intro iv vs wx hB hSp hd he hbd hsep
    have hzB := hB.size
    have h0 : vs 0 = .slice (some ⟨g, 0, none⟩) 2 cap := hd.out 0 (mem_of (by kernel_rfl)) (not_eaten (by kernel_rfl))
    have h1 : vs 1 = .int .i64 0 := hd.out 1 (mem_of (by kernel_rfl)) (not_eaten (by kernel_rfl))
    have h2 : vs 2 = .slice (some ⟨g, 0, none⟩) 2 cap := hd.out 2 (mem_of (by kernel_rfl)) (not_eaten (by kernel_rfl))
    have h3 : vs 3 = .int .i64 1 := hd.out 3 (mem_of (by kernel_rfl)) (not_eaten (by kernel_rfl))
    have h4 : vs 4 = .slice (some ⟨g, 0, none⟩) 2 cap := hd.out 4 (mem_of (by kernel_rfl)) (not_eaten (by kernel_rfl))
    have h5 : vs 5 = .int .i64 1 := hd.out 5 (mem_of (by kernel_rfl)) (not_eaten (by kernel_rfl))
    have h6 : vs 6 = .pointer (some ⟨g, 3, none⟩) := hd.out 6 (mem_of (by kernel_rfl)) (not_eaten (by kernel_rfl))
    have h7 : vs 7 = .agg #[.int .i64 y.kind, .int .i64 y.num, .slice sy y.kids.length cy] := hd.out 7 (mem_of (by kernel_rfl)) (not_eaten (by kernel_rfl))
    have h8 : vs 8 = .slice (some ⟨g, 0, none⟩) 2 cap := hd.out 8 (mem_of (by kernel_rfl)) (not_eaten (by kernel_rfl))
    have h9 : vs 9 = .int .i64 0 := hd.out 9 (mem_of (by kernel_rfl)) (not_eaten (by kernel_rfl))
    have h10 : vs 10 = .pointer (some ⟨g, 0, none⟩) := hd.out 10 (mem_of (by kernel_rfl)) (not_eaten (by kernel_rfl))
    have h11 : vs 11 = .agg #[.int .i64 x.kind, .int .i64 x.num, .slice sx x.kids.length cx] := hd.out 11 (mem_of (by kernel_rfl)) (not_eaten (by kernel_rfl))
    have h12 : vs 12 = .pointer (some ⟨g, 0, none⟩) := hd.out 12 (mem_of (by kernel_rfl)) (not_eaten (by kernel_rfl))
    skip
    have h14 : vs 14 = .pointer (some ⟨g, 3, none⟩) := hd.out 14 (mem_of (by kernel_rfl)) (not_eaten (by kernel_rfl))
    have f15 : Blk _ (g) 38 (.int .i64 y.kind :: .int .i64 y.num :: .slice sy y.kids.length cy :: .int .i64 x.kind :: .int .i64 x.num :: .slice sx x.kids.length cx :: rest) := hd.out 15 (mem_of (by kernel_rfl)) (not_eaten (by kernel_rfl))
    simp only [putFrom, puts]
    have hA := HA.out wx f15 (fun b hb hn => hSp.out.block b hb (fun ⟨m, hm⟩ => hn hm.2))
    clear hd he hbd hsep h0 h1 h2 h3 h4 h5 h6 h7 h8 h9 h10 h11 h12 h14
    go_wp2_with fail
    go_roundw
    case rel => exact Or.inr ⟨rfl, rfl, hA, hB⟩
    case measure => simp [intOf]
  ·
   go_wp2_with fail
   refine bodyPost_end (v := .tuple #[]) (by simp [results, Try.results139, go_sem]) rfl ?_
   exact ⟨rfl, hA, hB⟩
set_option maxHeartbeats 16000000 in
theorem reversedExpr_all (N : Nat) : ∀ (k0 n0 : Int) (ks : List Ex) (s : Option Addr) (c : Nat) (w : World), Ex.sizeL ks ≤ N → Rd w (kidsD ks) (.slice s ks.length c) → Ex.sizeL ks ≤ 1073741824 → ∀ (tm am : Int), Ex.tree tm am (.mk k0 n0 ks) = true →
  Calls Try.prog 94 #[.agg #[.int .i64 k0, .int .i64 n0, .slice s ks.length c]] w fun f w' => ∃ s' c', f = .returned (.agg #[.int .i64 (Ex.rev (.mk k0 n0 ks)).kind, .int .i64 (Ex.rev (.mk k0 n0 ks)).num, .slice s' (Ex.rev (.mk k0 n0 ks)).kids.length c']) ∧
   Freshs w w' [kidsD (Ex.rev (.mk k0 n0 ks)).kids] [.slice s' (Ex.rev (.mk k0 n0 ks)).kids.length c'] ∧ Below w.heap.size w w' := by
 induction N using Nat.strongRecOn with
 | _ N ih =>
 intro k0 n0 ks s c w hN g3 hsl tm am htr
 obtain ⟨-, hlen, hcap, -, -⟩ := kid_at g3
 unfold maxLen at hcap
 have hkl := Ex.length_le_sizeL ks
 have hkm : ks.length ≤ 1073741824 := by omega
 clear hkl
 have Hl : Hid (ks.length = (Ex.rev (.mk k0 n0 ks)).kids.length) := Ex.rev_length (.mk k0 n0 ks)
 have Hk : Hid ((Ex.rev (.mk k0 n0 ks)).kind = k0) := Ex.rev_kind (.mk k0 n0 ks)
 have Hn : Hid ((Ex.rev (.mk k0 n0 ks)).num = n0) := Ex.rev_num (.mk k0 n0 ks)
 have Hf : Hid (D.sl 3 ks.length (Ex.cellsL (Ex.rev (.mk k0 n0 ks)).kids) = kidsD (Ex.rev (.mk k0 n0 ks)).kids) := by show _ = _; unfold kidsD; rw [Hl.out]
 go_enter Try.func94, Try.ntmps94
 go_wp2_with fail
 have M := ((Blk.new3 w 38 (.int .i64 k0) (.int .i64 n0) (.slice s ks.length c)).alloc (.cells #[.int .i64 0, .int .i64 0, .slice none 0 0] 38)).alloc (.cells #[.int .i64 k0, .int .i64 n0, .slice none 0 0] 38)
 have R2 := (Blk.new3 (w.alloc (.cells #[.int .i64 k0, .int .i64 n0, .slice s ks.length c] 38)) 38 (.int .i64 0) (.int .i64 0) (.slice none 0 0)).alloc (.cells #[.int .i64 k0, .int .i64 n0, .slice none 0 0] 38)
 have R := Blk.new3 ((w.alloc (.cells #[.int .i64 k0, .int .i64 n0, .slice s ks.length c] 38)).alloc (.cells #[.int .i64 0, .int .i64 0, .slice none 0 0] 38)) 38 (.int .i64 k0) (.int .i64 n0) (.slice none 0 0)
 simp at R2 R
 have hBx : Below w.heap.size w (((w.alloc (.cells #[.int .i64 k0, .int .i64 n0, .slice s ks.length c] 38)).alloc (.cells #[.int .i64 0, .int .i64 0, .slice none 0 0] 38)).alloc (.cells #[.int .i64 k0, .int .i64 n0, .slice none 0 0] 38)) := by (repeat' first | exact Below.refl _ _ | assumption | apply Below.alloc | apply Below.drew | apply Below.setCell | omega | (simp; done) | (simp; omega))
 generalize (((w.alloc (.cells #[.int .i64 k0, .int .i64 n0, .slice s ks.length c] 38)).alloc (.cells #[.int .i64 0, .int .i64 0, .slice none 0 0] 38)).alloc (.cells #[.int .i64 k0, .int .i64 n0, .slice none 0 0] 38)) = wz at M R2 R hBx ⊢
 have ltR := R.lt
 have szx := hBx.size
 go_loopw [14] (fun i wr => ∃ (k : Nat) (v : Value), k ≤ ks.length ∧ i = .int .i64 k ∧ Blk wr (w.heap.size + 1 + 1) 38 [.int .i64 k0, .int .i64 n0, v] ∧ App wz wr 38 3 k (Ex.cellsL ((Ex.revL ks).take k)) v ∧ Below (w.heap.size + 1 + 1) wz wr) (fun i _ => ks.length - (intOf i).toNat)
 case atStart => exact ⟨0, .slice none 0 0, by omega, rfl, R, by simpa [Ex.cellsL] using App.nil, Below.refl _ _⟩
 case round =>
  clear R
  obtain ⟨k, v, hk, rfl, R, happ, hBr⟩ := hrel
  have hBw : Below w.heap.size w wr := hBx.trans (hBr.mono (by omega))
  have szr := hBr.size
  by_cases hlt : k < ks.length
  ·
   obtain ⟨x, hx⟩ : ∃ x, ks[k]? = some x := ⟨_, List.getElem?_eq_getElem (by omega)⟩
   have hy : (Ex.revL ks)[k]? = some (Ex.rev (.mk x.kind x.num x.kids)) := by rw [Ex.revL_at hx, ← Ex.eta x]
   obtain ⟨kb, ko, rfl⟩ := kid_some g3 (by intro h; simp [h] at hlt)
   have hxm := Ex.sizeL_mem (List.mem_of_getElem? hx)
   have hse := Ex.size_eq x
   have hxs : Ex.sizeL x.kids < N := by omega
   have hx1 : Ex.sizeL x.kids ≤ 1073741824 := by omega
   clear hxm hse
   have Hds := Lib.hid (Ex.cellsL_take_succ hy)
   clear hy
   obtain ⟨-, sx, cx, g0, g1, g2, gr⟩ := kid_in (g3.below hBw) hx
   obtain ⟨-, sy, cy, i0, i1, i2, hgr0⟩ := kid_in g3 hx
   obtain ⟨rfl, rfl⟩ : sx = sy ∧ cx = cy := by
    have := ((hBw.cell (p := ⟨kb, ko + k * 3 + 2, none⟩) (World.block_lt_of_cell? w _ i2)).trans i2).symm.trans g2
    simp at this
    exact ⟨this.1.symm, this.2.symm⟩
   clear i0 i1 i2
   obtain ⟨Fs, V, Vf⟩ := happ.foot
   have hxt : Ex.tree tm am (.mk x.kind x.num x.kids) = true := by rw [← Ex.eta x]; exact Ex.treeL_mem (tree_parts' htr).2 (List.mem_of_getElem? hx)
   go_wp2_with fail
   clear g0 g1 g2 gr
   have Kb := Blk.new3 wr 38 (.int .i64 x.kind) (.int .i64 x.num) (.slice sx x.kids.length cx)
   replace R := R.alloc (.cells #[.int .i64 x.kind, .int .i64 x.num, .slice sx x.kids.length cx] 38)
   have V := V.keep (w' := wr.alloc (.cells #[.int .i64 x.kind, .int .i64 x.num, .slice sx x.kids.length cx] 38)) (fun b hb _ => Below.heap_alloc _ _ _ hb)
   replace hBr : Below (w.heap.size + 1 + 1) wz (wr.alloc (.cells #[.int .i64 x.kind, .int .i64 x.num, .slice sx x.kids.length cx] 38)) := hBr.alloc (by omega) _
   replace hBw : Below w.heap.size w (wr.alloc (.cells #[.int .i64 x.kind, .int .i64 x.num, .slice sx x.kids.length cx] 38)) := hBw.alloc (by omega) _
   have sza : (wr.alloc (.cells #[.int .i64 x.kind, .int .i64 x.num, .slice sx x.kids.length cx] 38)).heap.size = wr.heap.size + 1 := by simp
   generalize (wr.alloc (.cells #[.int .i64 x.kind, .int .i64 x.num, .slice sx x.kids.length cx] 38)) = wa at Kb R V hBr hBw sza ⊢
   obtain ⟨kq, hkq⟩ : ∃ kq, wr.heap.size = kq := ⟨_, rfl⟩
   have Vf' : ∀ b ∈ Fs, wz.heap.size ≤ b ∧ b < kq := fun b hb => by have := Vf b hb; omega
   clear Vf
   have Vf : ∀ b ∈ Fs, wz.heap.size ≤ b ∧ b < wa.heap.size := fun b hb => by have := Vf' b hb; omega
   rw [hkq] at Kb
   simp only [hkq]
   have szk : wa.heap.size = kq + 1 ∧ wz.heap.size ≤ kq := by omega
   clear sza szr hkq
   obtain ⟨szk1, szk2⟩ := szk
   have Hszk := Lib.hid szk1
   have szk3 : kq < wa.heap.size := by omega
   clear szk1
   have hGb : ∀ m b, (fun m b => (m = 0 ∧ b ∈ Fs) ∨ (m = 1 ∧ b = w.heap.size + 1 + 1) ∨ (m = 2 ∧ b = kq)) m b → (w.heap.size + 1 + 1) ≤ b ∧ b < (wa).heap.size := by
    intro m b hg
    rcases hg with ⟨rfl, hg⟩ | ⟨rfl, hg⟩ | ⟨rfl, hg⟩
    ·
     have q := Vf b hg
     omega
    ·
     subst hg
     have q := R.lt
     omega
    ·
     subst hg
     have q := Kb.lt
     omega
   have hGd : ∀ m m' b, (fun m b => (m = 0 ∧ b ∈ Fs) ∨ (m = 1 ∧ b = w.heap.size + 1 + 1) ∨ (m = 2 ∧ b = kq)) m b → (fun m b => (m = 0 ∧ b ∈ Fs) ∨ (m = 1 ∧ b = w.heap.size + 1 + 1) ∨ (m = 2 ∧ b = kq)) m' b → m = m' := by
    intro m m' b h h'
    rcases h with ⟨rfl, h⟩ | ⟨rfl, h⟩ | ⟨rfl, h⟩ <;> rcases h' with ⟨rfl, h'⟩ | ⟨rfl, h'⟩ | ⟨rfl, h'⟩ <;> first
     | rfl
     | (exfalso; omega)
     | (exfalso; have q := Vf' b h; omega)
     | (exfalso; have q := Vf' b h'; omega)
   refine region_rs [(5, 3)] [(5, 0), (7, 1)] (fun m b => (m = 0 ∧ b ∈ Fs) ∨ (m = 1 ∧ b = w.heap.size + 1 + 1) ∨ (m = 2 ∧ b = kq)) (w.heap.size + 1 + 1) (fun i iv vs wx => match i with
    | 0 => vs 0 = .pointer (some ⟨w.heap.size + 1 + 1, 2, none⟩)
    | 1 => vs 1 = v
    | 2 => vs 2 = .agg #[.int .i64 x.kind, .int .i64 x.num, .slice sx x.kids.length cx]
    | 3 => ∃ s2 c2, vs 3 = .agg #[.int .i64 (Ex.rev (.mk x.kind x.num x.kids)).kind, .int .i64 (Ex.rev (.mk x.kind x.num x.kids)).num, .slice s2 (Ex.rev (.mk x.kind x.num x.kids)).kids.length c2] ∧ FreshIn (iv 3) wx [kidsD (Ex.rev (.mk x.kind x.num x.kids)).kids] [.slice s2 (Ex.rev (.mk x.kind x.num x.kids)).kids.length c2]
    | 4 => vs 4 = .slice (some ⟨(iv 4).1, 0, none⟩) 1 1 ∧ (iv 4).2 = (iv 4).1 + 1 ∧ Blk wx (iv 4).1 38 [aggAt (vs 3) 0, aggAt (vs 3) 1, aggAt (vs 3) 2]
    | 5 => ∃ g cap, vs 5 = .slice (some ⟨g, 0, none⟩) (k + 1) cap ∧ AppS (foot [(5, 3)] [(5, 0), (7, 1)] (fun m b => (m = 0 ∧ b ∈ Fs) ∨ (m = 1 ∧ b = w.heap.size + 1 + 1) ∨ (m = 2 ∧ b = kq)) 8 5 iv) wx 38 3 (k + 1) (Ex.cellsL ((Ex.revL ks).take k) ++ [.int (Ex.rev (.mk x.kind x.num x.kids)).kind, .int (Ex.rev (.mk x.kind x.num x.kids)).num, kidsD (Ex.rev (.mk x.kind x.num x.kids)).kids]) (.slice (some ⟨g, 0, none⟩) (k + 1) cap)
    | 6 => vs 6 = .pointer (some ⟨w.heap.size + 1 + 1, 2, none⟩)
    | 7 => Blk wx (w.heap.size + 1 + 1) 38 [.int .i64 k0, .int .i64 n0, vs 5]
    | _ => True) (fun i iv vs => match i with
    | 0 => vs 0 = .pointer (some ⟨w.heap.size + 1 + 1, 2, none⟩)
    | 1 => vs 1 = v
    | 2 => vs 2 = .agg #[.int .i64 x.kind, .int .i64 x.num, .slice sx x.kids.length cx]
    | 3 => ∃ s2 c2, vs 3 = .agg #[.int .i64 (Ex.rev (.mk x.kind x.num x.kids)).kind, .int .i64 (Ex.rev (.mk x.kind x.num x.kids)).num, .slice s2 (Ex.rev (.mk x.kind x.num x.kids)).kids.length c2]
    | 4 => vs 4 = .slice (some ⟨(iv 4).1, 0, none⟩) 1 1 ∧ (iv 4).2 = (iv 4).1 + 1
    | 5 => ∃ g cap, vs 5 = .slice (some ⟨g, 0, none⟩) (k + 1) cap
    | 6 => vs 6 = .pointer (some ⟨w.heap.size + 1 + 1, 2, none⟩)
    | 7 => True
    | _ => True) (by kernel_rfl) (by kernel_rfl) [0, 1, 2, 3, 4, 5, 6, 7] (by kernel_rfl) ?hbase ?hGb ?hG ?hJ ?hE ?hEE ?hstep ?hQ
   case hbase => first | exact Nat.le_refl _ | omega | (simp; omega)
   case hGb =>
    exact hGb
   case hG =>
    exact hGd
   case hJ =>
    intro i hi iv iv' vs vs' wx wx' ha hv hz hk hj
    simp only [List.mem_cons, List.not_mem_nil, or_false] at hi
    rcases hi with rfl | rfl | rfl | rfl | rfl | rfl | rfl | rfl
    ·
     exact (hv.out 0 (mem_of (by kernel_rfl))).symm.trans hj
    ·
     exact (hv.out 1 (mem_of (by kernel_rfl))).symm.trans hj
    ·
     exact (hv.out 2 (mem_of (by kernel_rfl))).symm.trans hj
    ·
     have e3 := hv.out 3 (mem_of (by kernel_rfl))
     have g3 := ha.out 3 (mem_of (by kernel_rfl))
     obtain ⟨s2, c2, q1, q2⟩ := hj
     exact ⟨s2, c2, e3 ▸ q1, g3 ▸ q2.keep (fun b hb h1 h2 => hk.out b hb (foot_own h1 h2))⟩
    ·
     have e3 := hv.out 3 (mem_of (by kernel_rfl))
     have e4 := hv.out 4 (mem_of (by kernel_rfl))
     have g4 := ha.out 4 (mem_of (by kernel_rfl))
     obtain ⟨q1, q3, q2⟩ := hj
     show vs' 4 = .slice (some ⟨(iv' 4).1, 0, none⟩) 1 1 ∧ (iv' 4).2 = (iv' 4).1 + 1 ∧ Blk wx' (iv' 4).1 38 [aggAt (vs' 3) 0, aggAt (vs' 3) 1, aggAt (vs' 3) 2]
     rw [← e3, ← e4, ← g4]
     exact ⟨q1, q3, q2.keep (hk.out _ q2.lt (foot_own (Nat.le_refl _) (by omega)))⟩
    ·
     have e5 := hv.out 5 (mem_of (by kernel_rfl))
     obtain ⟨g, cap, q1, q2⟩ := hj
     exact ⟨g, cap, e5 ▸ q1, (q2.keep (fun b hb h1 => hk.out b hb h1)).more (fun b hb h1 => foot_agree (l := ancs _ 8 5) (by exact of_decide_eq_true (by kernel_rfl)) ha.out h1)⟩
    ·
     exact (hv.out 6 (mem_of (by kernel_rfl))).symm.trans hj
    ·
     have e5 := hv.out 5 (mem_of (by kernel_rfl))
     have hj' : Blk wx (w.heap.size + 1 + 1) 38 [.int .i64 k0, .int .i64 n0, vs 5] := hj
     show Blk wx' (w.heap.size + 1 + 1) 38 [.int .i64 k0, .int .i64 n0, vs' 5]
     rw [← e5]
     exact hj'.keep (hk.out _ hj'.lt (foot_given 1 (by decide) (Or.inr (Or.inl ⟨rfl, rfl⟩))))
   case hE =>
    intro i hi iv vs wx hj
    simp only [List.mem_cons, List.not_mem_nil, or_false] at hi
    rcases hi with rfl | rfl | rfl | rfl | rfl | rfl | rfl | rfl
    ·
     exact hj
    ·
     exact hj
    ·
     exact hj
    ·
     obtain ⟨s2, c2, q1, -⟩ := hj
     exact ⟨s2, c2, q1⟩
    ·
     exact ⟨hj.1, hj.2.1⟩
    ·
     obtain ⟨g, cap, q1, -⟩ := hj
     exact ⟨g, cap, q1⟩
    ·
     exact hj
    ·
     trivial
   case hEE =>
    intro i hi iv iv' vs vs' ha hv hj
    simp only [List.mem_cons, List.not_mem_nil, or_false] at hi
    rcases hi with rfl | rfl | rfl | rfl | rfl | rfl | rfl | rfl
    ·
     exact (hv.out 0 (mem_of (by kernel_rfl))).symm.trans hj
    ·
     exact (hv.out 1 (mem_of (by kernel_rfl))).symm.trans hj
    ·
     exact (hv.out 2 (mem_of (by kernel_rfl))).symm.trans hj
    ·
     have e3 := hv.out 3 (mem_of (by kernel_rfl))
     have hj' : ∃ s2 c2, vs 3 = .agg #[.int .i64 (Ex.rev (.mk x.kind x.num x.kids)).kind, .int .i64 (Ex.rev (.mk x.kind x.num x.kids)).num, .slice s2 (Ex.rev (.mk x.kind x.num x.kids)).kids.length c2] := hj
     show ∃ s2 c2, vs' 3 = .agg #[.int .i64 (Ex.rev (.mk x.kind x.num x.kids)).kind, .int .i64 (Ex.rev (.mk x.kind x.num x.kids)).num, .slice s2 (Ex.rev (.mk x.kind x.num x.kids)).kids.length c2]
     rw [← e3]
     exact hj'
    ·
     have e4 := hv.out 4 (mem_of (by kernel_rfl))
     have g4 := ha.out 4 (mem_of (by kernel_rfl))
     have hj' : vs 4 = .slice (some ⟨(iv 4).1, 0, none⟩) 1 1 ∧ (iv 4).2 = (iv 4).1 + 1 := hj
     show vs' 4 = .slice (some ⟨(iv' 4).1, 0, none⟩) 1 1 ∧ (iv' 4).2 = (iv' 4).1 + 1
     rw [← e4, ← g4]
     exact hj'
    ·
     have e5 := hv.out 5 (mem_of (by kernel_rfl))
     have hj' : ∃ g cap, vs 5 = .slice (some ⟨g, 0, none⟩) (k + 1) cap := hj
     show ∃ g cap, vs' 5 = .slice (some ⟨g, 0, none⟩) (k + 1) cap
     rw [← e5]
     exact hj'
    ·
     exact (hv.out 6 (mem_of (by kernel_rfl))).symm.trans hj
    ·
     trivial
   case hstep =>
    intro i hi opr ho iv vs w1 hB hS hSo hd he hbd hsep hun K hK
    simp only [List.mem_cons, List.not_mem_nil, or_false] at hi
    have hzB := hB.size
    have HGb := Lib.hid hGb
    clear hGb hGd
    have gr1 := hgr0.below (hBw.trans (hB.mono (by omega)))
    skip
    generalize hA : putFrom _ 0 vs _ = A at hK ⊢
    simp only [putFrom, puts] at hA
    rcases hi with rfl | rfl | rfl | rfl | rfl | rfl | rfl | rfl
    all_goals
     simp at ho
     subst ho
     subst hA
    ·
     go_wp2_with fail
     exact Onward.mk (hK (.pointer (some ⟨w.heap.size + 1 + 1, 2, none⟩)) _ _ (fun h => by cases h) (by first | rfl | (simp only [puts])) (Spares.refl _) (fun iv' _ _ => rfl))
    ·
     have h0 : vs 0 = .pointer (some ⟨w.heap.size + 1 + 1, 2, none⟩) := hd.out 0 (mem_of (by kernel_rfl)) (by decide) (by kernel_rfl)
     have R1 := R.keep (hS.out 1 _ (by kernel_rfl) (Or.inr (Or.inl ⟨rfl, rfl⟩)))
     have rc0 := R1.c0
     have rz0 := R1.frozen 0
     have rc1 := R1.c1
     have rz1 := R1.frozen 1
     have rc2 := R1.c2
     have rz2 := R1.frozen 2
     have rlt := R1.lt
     go_wp2_with fail
     exact Onward.mk (hK (v) _ _ (fun h => by cases h) (by first | rfl | (simp only [puts, h0])) (Spares.refl _) (fun iv' _ _ => rfl))
    ·
     have Kb1 := Kb.keep (hS.out 2 _ (by kernel_rfl) (Or.inr (Or.inr ⟨rfl, rfl⟩)))
     have kbc0 := Kb1.c0
     have kbz0 := Kb1.frozen 0
     have kbc1 := Kb1.c1
     have kbz1 := Kb1.frozen 1
     have kbc2 := Kb1.c2
     have kbz2 := Kb1.frozen 2
     have kblt := Kb1.lt
     go_wp2_with fail
     exact Onward.mk (hK (.agg #[.int .i64 x.kind, .int .i64 x.num, .slice sx x.kids.length cx]) _ _ (fun h => by cases h) (by first | rfl | (simp only [puts])) (Spares.refl _) (fun iv' _ _ => rfl))
    ·
     have h2 : vs 2 = .agg #[.int .i64 x.kind, .int .i64 x.num, .slice sx x.kids.length cx] := hd.out 2 (mem_of (by kernel_rfl)) (by decide) (by kernel_rfl)
     go_wp2_with fail
     refine (ih _ hxs _ _ _ _ _ _ (Nat.le_refl _) gr1 hx1 tm am hxt).mono ?_
     rintro e w2 ⟨s2, c2, rfl, hf, hb⟩
     go_wp2_with fail
     exact Onward.mk (hK (.agg #[.int .i64 (Ex.rev (.mk x.kind x.num x.kids)).kind, .int .i64 (Ex.rev (.mk x.kind x.num x.kids)).num, .slice s2 (Ex.rev (.mk x.kind x.num x.kids)).kids.length c2]) _ _ (fun h => by cases h) (by first | rfl | (simp only [puts, h2])) (Spares.of_below hb) (fun iv' _ hi => ⟨s2, c2, rfl, by rw [hi]; exact Freshs.stretch (hf)⟩))
    ·
     obtain ⟨s2, c2, h3, f3⟩ := hd.out 3 (mem_of (by kernel_rfl)) (by decide) (by kernel_rfl)
     go_wp2_with fail
     exact Onward.mk (hK (.slice (some ⟨w1.heap.size, 0, none⟩) 1 1) _ _ (fun h => by cases h) (by first | rfl | (simp only [puts, h3])) (Spares.of_below (Below.alloc (Below.refl _ _) (Nat.le_refl _) _)) (fun iv' _ hi => by
      show Value.slice (some ⟨w1.heap.size, 0, none⟩) 1 1 = .slice (some ⟨(iv' 4).1, 0, none⟩) 1 1 ∧ (iv' 4).2 = (iv' 4).1 + 1 ∧ Blk _ (iv' 4).1 38 [aggAt (vs 3) 0, aggAt (vs 3) 1, aggAt (vs 3) 2]
      rw [hi, h3]
      exact ⟨rfl, by simp, Blk.new3 _ _ _ _ _⟩))
    ·
     have h1 : vs 1 = v := hd.out 1 (mem_of (by kernel_rfl)) (by decide) (by kernel_rfl)
     obtain ⟨s2, c2, h3, f3⟩ := hd.out 3 (mem_of (by kernel_rfl)) (by decide) (by kernel_rfl)
     obtain ⟨h4, q4, f4⟩ := hd.out 4 (mem_of (by kernel_rfl)) (by decide) (by kernel_rfl)
     have V1 := V.keep (fun b _ hb => hS.out 0 b (by kernel_rfl) (Or.inl ⟨rfl, hb⟩))
     simp only [h1, h3, h4]
     have f4' : Blk w1 (iv 4).1 38 [.int .i64 (Ex.rev (.mk x.kind x.num x.kids)).kind, .int .i64 (Ex.rev (.mk x.kind x.num x.kids)).num, .slice s2 (Ex.rev (.mk x.kind x.num x.kids)).kids.length c2] := by first | exact f4 | (rw [h3] at f4; exact f4)
     refine wpList_append_s w1 (by rfl) _ _ 36 (by rfl) 38 (.agg #[.int .i64 0, .int .i64 0, .slice none 0 0]) 3 40 Try.underlying36 zero_implExpr rfl (by decide) (S := (fun b => b ∈ Fs)) (T := (fun b => (iv 3).1 ≤ b ∧ b < (iv 3).2)) _ (by rfl) V1 ⟨(iv 4).1, 0, none⟩ 1 1 [.int .i64 (Ex.rev (.mk x.kind x.num x.kids)).kind, .int .i64 (Ex.rev (.mk x.kind x.num x.kids)).num, .slice s2 (Ex.rev (.mk x.kind x.num x.kids)).kids.length c2] (by rfl) (news_blk f4') f3.three (fun b _ h1 h2 => by have q := (hbd.out 3 (mem_of (by kernel_rfl)) (by decide)).1; have q' := (HGb.out 0 b (Or.inl ⟨rfl, h1⟩)).2; omega) (by simp) (by simp [Value.oneCell']) (by omega) (by omega) (by unfold maxLen; omega) ?_
     intro g cap w2 hap ht
     go_wp2_with fail
     exact Onward.mk (hK (.slice (some ⟨g, 0, none⟩) (k + 1) cap) _ _ (fun h => by cases h) (by first | rfl | (simp only [puts, h1, h3, h4])) (ht.more (fun b h => Or.inl ⟨0, by decide, (Or.inl ⟨rfl, h⟩)⟩)) (fun iv' ag hi => ⟨g, cap, rfl, hap.more (fun b _ h => by rcases h with h | h | h; exact foot_given 0 (by decide) (Or.inl ⟨rfl, h⟩); exact foot_iv (by kernel_rfl) ag h.1 h.2; exact foot_new hi h.1 h.2)⟩))
    ·
     go_wp2_with fail
     exact Onward.mk (hK (.pointer (some ⟨w.heap.size + 1 + 1, 2, none⟩)) _ _ (fun h => by cases h) (by first | rfl | (simp only [puts])) (Spares.refl _) (fun iv' _ _ => rfl))
    ·
     obtain ⟨g5, cap5, h5, f5⟩ := hd.out 5 (mem_of (by kernel_rfl)) (by decide) (by kernel_rfl)
     have h6 : vs 6 = .pointer (some ⟨w.heap.size + 1 + 1, 2, none⟩) := hd.out 6 (mem_of (by kernel_rfl)) (by decide) (by kernel_rfl)
     have R1 := R.keep (hS.out 1 _ (by kernel_rfl) (Or.inr (Or.inl ⟨rfl, rfl⟩)))
     have rc0 := R1.c0
     have rz0 := R1.frozen 0
     have rc1 := R1.c1
     have rz1 := R1.frozen 1
     have rc2 := R1.c2
     have rz2 := R1.frozen 2
     have rlt := R1.lt
     go_wp2_with fail
     exact Onward.mk (hK undef _ _ (fun _ => rfl) (by simp only [puts, h5, h6]) ((spares_sets (b0 := w.heap.size + 1 + 1) (by repeat (first | exact Spares.refl _ | apply Spares.set))).more (fun b h => Or.inl ⟨1, by decide, (Or.inr (Or.inl ⟨rfl, h⟩))⟩)) (fun iv' ag hi => by
      show Blk _ (w.heap.size + 1 + 1) 38 [.int .i64 k0, .int .i64 n0, vs 5]
      rw [h5]
      exact (R1.set 2 _)))
   case hQ =>
    intro iv vs wx hB hSp hd he hbd hsep
    have hzB := hB.size
    have h0 : vs 0 = .pointer (some ⟨w.heap.size + 1 + 1, 2, none⟩) := hd.out 0 (mem_of (by kernel_rfl)) (not_eaten (by kernel_rfl))
    have h1 : vs 1 = v := hd.out 1 (mem_of (by kernel_rfl)) (not_eaten (by kernel_rfl))
    have h2 : vs 2 = .agg #[.int .i64 x.kind, .int .i64 x.num, .slice sx x.kids.length cx] := hd.out 2 (mem_of (by kernel_rfl)) (not_eaten (by kernel_rfl))
    obtain ⟨s2, c2, h3⟩ := he.out 3 (mem_of (by kernel_rfl))
    obtain ⟨h4, q4, f4⟩ := hd.out 4 (mem_of (by kernel_rfl)) (not_eaten (by kernel_rfl))
    obtain ⟨g5, cap5, h5, f5⟩ := hd.out 5 (mem_of (by kernel_rfl)) (not_eaten (by kernel_rfl))
    have h6 : vs 6 = .pointer (some ⟨w.heap.size + 1 + 1, 2, none⟩) := hd.out 6 (mem_of (by kernel_rfl)) (not_eaten (by kernel_rfl))
    have f7 : Blk _ (w.heap.size + 1 + 1) 38 [.int .i64 k0, .int .i64 n0, vs 5] := hd.out 7 (mem_of (by kernel_rfl)) (not_eaten (by kernel_rfl))
    have lo5 : ∀ b, foot [(5, 3)] [(5, 0), (7, 1)] (fun m b => (m = 0 ∧ b ∈ Fs) ∨ (m = 1 ∧ b = w.heap.size + 1 + 1) ∨ (m = 2 ∧ b = kq)) 8 5 iv b → (wz.heap.size) ≤ b := by
     rintro b ⟨j, hj, hh⟩
     have hj' := of_decide_eq_true (List.all_eq_true.1 (show ((chainOf [(5, 3)] 8 5).all fun j => decide (j ∈ [5, 3])) = true from by kernel_rfl) j hj)
     simp only [List.mem_cons, List.not_mem_nil, or_false] at hj'
     rcases hj' with rfl | rfl
     ·
      have q := (hbd.out 5 (mem_of (by kernel_rfl))).1
      rcases hh with hh | ⟨m, hm, hg⟩
      ·
       omega
      ·
       simp at hm
       subst hm
       simp at hg
       have q' := Vf b hg
       omega
     ·
      have q := (hbd.out 3 (mem_of (by kernel_rfl))).1
      rcases hh with hh | ⟨m, hm, hg⟩
      ·
       omega
      ·
       simp at hm
    simp only [putFrom, puts]
    rw [h5] at f7
    have hap := f5.app (W := wz) lo5
    rw [← Hds.out] at hap
    clear hd he hbd hsep h0 h1 h2 h3 h4 h5 h6 lo5 f5
    go_wp2_with fail
    go_roundw
    case rel => exact ⟨k + 1, _, by omega, by go_num, f7, hap, hBr.trans hB⟩
    case measure => simp [intOf]; omega
  ·
   obtain rfl : k = ks.length := by omega
   rw [List.take_of_length_le (by rw [Ex.revL_length]; omega)] at happ
   obtain ⟨a', cap', rfl, -⟩ := happ.shape
   have r0 := R.c0
   have r1 := R.c1
   have r2 := R.c2
   have z0 := R.frozen 0
   have z1 := R.frozen 1
   have z2 := R.frozen 2
   have Q2 := R2.keep (hBr.block _ (by omega))
   have q0 := Q2.c0
   have q1 := Q2.c1
   have q2 := Q2.c2
   have y0 := Q2.frozen 0
   have y1 := Q2.frozen 1
   have y2 := Q2.frozen 2
   have M2 := M.keep (hBr.block _ (by omega))
   have m0 := M2.c0
   have m1 := M2.c1
   have m2 := M2.c2
   by_cases h7 : k0 = 7
   ·
    subst h7
    have Hr := Lib.hid (Ex.rev_kids (.mk 7 n0 ks))
    obtain ⟨x, y, rfl⟩ := two_kids (tree_parts' htr).1 (by simp [Ex.kind])
    have hap2 : App wz wr 38 3 2 (Ex.cellsL [x.rev, y.rev]) (.slice a' 2 cap') := happ
    clear happ
    simp only [List.length_cons, List.length_nil] at r2 m2 q2
    go_wp2_with fail
    refine (reverse_two hap2 (by omega)).mono ?_
    rintro e w1 ⟨rfl, hap3, hb1⟩
    replace R := R.keep (hb1.block _ ltR)
    replace Q2 := Q2.keep (hb1.block _ (by omega))
    have hBw1 : Below w.heap.size w w1 := hBw.trans (hb1.mono (by omega))
    have hz1 := hb1.size
    clear r0 r1 r2 z0 z1 z2 q0 q1 q2 y0 y1 y2 m0 m1 m2 M2
    have r0 := R.c0
    have r1 := R.c1
    have r2 := R.c2
    have q0 := Q2.c0
    have q1 := Q2.c1
    have q2 := Q2.c2
    have y0 := Q2.frozen 0
    have y1 := Q2.frozen 1
    have y2 := Q2.frozen 2
    simp only [List.length_cons, List.length_nil] at r2
    go_wp2_with fail
    have T2 := ((Q2.set 0 (.int .i64 7)).set 1 (.int .i64 n0)).set 2 (.slice a' 2 cap')
    have t0 := T2.c0
    have t1 := T2.c1
    have t2 := T2.c2
    have e1 : (Ex.rev (.mk 7 n0 [x, y])).kids = [y.rev, x.rev] := by rw [Hr.out]; simp [Ex.kind, Ex.kids, Ex.revL]
    refine bodyPost_ret (v := .agg #[.int .i64 7, .int .i64 n0, .slice a' 2 cap']) (by simp [results, Try.results94, go_sem, t0, t1, t2]) rfl ⟨a', cap', by rw [Hk.out, Hn.out, e1]; rfl, ?_, by (repeat' first | exact Below.refl _ _ | assumption | apply Below.alloc | apply Below.drew | apply Below.setCell | omega | (simp; done) | (simp; omega))⟩
    rw [e1]
    refine Freshs.one (d := .sl 3 2 (Ex.cellsL [y.rev, x.rev])) ((hap3.fresh.keep fun bb hb1 hb2 => ?_).from szx)
    rw [Below.heap_setCell _ _ _ _ (by show bb ≠ w.heap.size + 1; omega), Below.heap_setCell _ _ _ _ (by show bb ≠ w.heap.size + 1; omega), Below.heap_setCell _ _ _ _ (by show bb ≠ w.heap.size + 1; omega)]
   ·
    have c7 : (k0 == 7) = false := by simp [h7]
    have e1 : Ex.revL ks = (Ex.rev (.mk k0 n0 ks)).kids := by rw [Ex.rev_kids]; simp [Ex.kind, Ex.kids, h7]
    rw [e1] at happ
    clear h7 e1
    go_wp2_with fail
    have T2 := ((Q2.set 0 (.int .i64 k0)).set 1 (.int .i64 n0)).set 2 (.slice a' ks.length cap')
    have t0 := T2.c0
    have t1 := T2.c1
    have t2 := T2.c2
    refine bodyPost_ret (v := .agg #[.int .i64 k0, .int .i64 n0, .slice a' ks.length cap']) (by simp [results, Try.results94, go_sem, t0, t1, t2]) rfl ⟨a', cap', by rw [Hk.out, Hn.out, ← Hl.out], ?_, by (repeat' first | exact Below.refl _ _ | assumption | apply Below.alloc | apply Below.drew | apply Below.setCell | omega | (simp; done) | (simp; omega))⟩
    rw [← Hf.out, ← Hl.out]
    refine Freshs.one ((happ.fresh.keep fun bb hb1 hb2 => ?_).from szx)
    rw [Below.heap_setCell _ _ _ _ (by show bb ≠ w.heap.size + 1; omega), Below.heap_setCell _ _ _ _ (by show bb ≠ w.heap.size + 1; omega), Below.heap_setCell _ _ _ _ (by show bb ≠ w.heap.size + 1; omega)]
end Go.Proofs.Ytbflhjjnemdecaa

namespace Go.Proofs.Ytbflhjjnemdecaa
set_option linter.unusedVariables false
set_option linter.unusedSimpArgs false
open Go.ChangeShapes Go.WideShapes Go.ChangeAt Go.RowKit Go.Deep Go.Sort
mutual
theorem Ex.rev_size : ∀ e : Ex, e.rev.size = e.size
 | .mk k n ks => by
  simp only [Ex.rev, Ex.size]
  split
  ·
   rw [Ex.sizeL_reverse, Ex.revL_size ks]
  ·
   rw [Ex.revL_size ks]
theorem Ex.revL_size : ∀ ks : List Ex, Ex.sizeL (Ex.revL ks) = Ex.sizeL ks
 | [] => rfl
 | e :: r => by simp only [Ex.revL, Ex.sizeL, Ex.rev_size e, Ex.revL_size r]
theorem Ex.sizeL_reverse : ∀ ks : List Ex, Ex.sizeL ks.reverse = Ex.sizeL ks
 | [] => rfl
 | e :: r => by simp only [List.reverse_cons, Ex.sizeL_append, Ex.sizeL_reverse r, Ex.sizeL]; omega
end
def Ex.zero : Ex := .mk 0 0 []
def revE (t a k n : Int) (ks : List Ex) : Ex := if okB t a (.mk k n ks) = true then Ex.rev (.mk k n ks) else Ex.zero
def revEK (t a k n : Int) (ks : List Ex) : Int := if okB t a (.mk k n ks) = true then 0 else 1
theorem fresh_nil1 (w w' : World) : Freshs w w' [kidsD []] [.slice none 0 0] :=
 Freshs.one ⟨[], by simp only [kidsD, Ow]; exact ⟨none, 0, rfl, by simp, by simp [maxLen], by simp [Ex.cellsL], by simp, Or.inl (by simp)⟩, by simp, by simp⟩
set_option maxHeartbeats 4000000 in
theorem implReverseExpr_i {t a k n : Int} {ks : List Ex} {s : Option Addr} {c : Nat} {w : World} (hr : Rd w (kidsD ks) (.slice s ks.length c)) (h1 : Ex.sizeL ks ≤ 1048576) :
  Calls Try.prog 43 #[.agg #[.int .i64 t, .int .i64 a], .agg #[.int .i64 k, .int .i64 n, .slice s ks.length c]] w fun e w' => ∃ s' c', e = .returned (.tuple #[.agg #[.int .i64 (revE t a k n ks).kind, .int .i64 (revE t a k n ks).num, .slice s' (revE t a k n ks).kids.length c'], .int .i64 (revEK t a k n ks)]) ∧
   Freshs w w' [kidsD (revE t a k n ks).kids] [.slice s' (revE t a k n ks).kids.length c'] ∧ Below w.heap.size w w' := by
 have Hsz : Hid (Ex.size (.mk k n ks) ≤ 1073741824) := by show _ ≤ _; rw [Ex.size_eq]; simp only [Ex.kids]; omega
 have Hsl : Hid (Ex.sizeL ks ≤ 1073741824) := by show _ ≤ _; omega
 go_enter Try.func43, Try.ntmps43
 go_wp2_with fail
 have L := ((Blk.new2 w 34 (.int .i64 t) (.int .i64 a)).alloc (.cells #[.int .i64 k, .int .i64 n, .slice s ks.length c] 38)).alloc (.cells #[.int .i64 0, .int .i64 0, .slice none 0 0] 38)
 have M := (Blk.new3 (w.alloc (.cells #[.int .i64 t, .int .i64 a] 34)) 38 (.int .i64 k) (.int .i64 n) (.slice s ks.length c)).alloc (.cells #[.int .i64 0, .int .i64 0, .slice none 0 0] 38)
 simp at M
 have R := Blk.new3 ((w.alloc (.cells #[.int .i64 t, .int .i64 a] 34)).alloc (.cells #[.int .i64 k, .int .i64 n, .slice s ks.length c] 38)) 38 (.int .i64 0) (.int .i64 0) (.slice none 0 0)
 simp at R
 have hB : Below w.heap.size w (((w.alloc (.cells #[.int .i64 t, .int .i64 a] 34)).alloc (.cells #[.int .i64 k, .int .i64 n, .slice s ks.length c] 38)).alloc (.cells #[.int .i64 0, .int .i64 0, .slice none 0 0] 38)) := by (repeat' first | exact Below.refl _ _ | assumption | apply Below.alloc | apply Below.drew | apply Below.setCell | omega | (simp; done) | (simp; omega))
 have hB0 := hB
 generalize (((w.alloc (.cells #[.int .i64 t, .int .i64 a] 34)).alloc (.cells #[.int .i64 k, .int .i64 n, .slice s ks.length c] 38)).alloc (.cells #[.int .i64 0, .int .i64 0, .slice none 0 0] 38)) = v0 at L M R hB hB0 ⊢
 have l0 := L.c0
 have l1 := L.c1
 have m0 := M.c0
 have m1 := M.c1
 have m2 := M.c2
 have r0 := R.c0
 have r1 := R.c1
 have r2 := R.c2
 have ltL := L.lt
 have ltM := M.lt
 have ltR := R.lt
 have zz0 := R.frozen 0
 have zz1 := R.frozen 1
 have zz2 := R.frozen 2
 go_wp2_with fail
 refine (implValidExpr_i (hr.below hB)).mono ?_
 rintro x w1 ⟨rfl, hb⟩
 clear l0 l1 m0 m1 m2 r0 r1 r2 ltL ltM ltR zz0 zz1 zz2
 replace hB := Below.on hB hb hB.size
 replace L := L.below hb
 replace M := M.below hb
 replace R := R.below hb
 clear hb
 have szW1 := hB.size
 have rlt1 := R.lt
 cases hs1 : okB t a (.mk k n ks)
 ·
  have l0 := L.c0
  have l1 := L.c1
  have ltL := L.lt
  have m0 := M.c0
  have m1 := M.c1
  have m2 := M.c2
  have ltM := M.lt
  have r0 := R.c0
  have zz0 := R.frozen 0
  have r1 := R.c1
  have zz1 := R.frozen 1
  have r2 := R.c2
  have zz2 := R.frozen 2
  have ltR := R.lt
  go_wp2_with fail
  have R' := (((R.set 0 (.int .i64 0)).set 1 (.int .i64 0)).set 2 (.slice none 0 0))
  have c0 := R'.c0
  have c1 := R'.c1
  have c2 := R'.c2
  refine bodyPost_ret (v := .tuple #[.agg #[.int .i64 0, .int .i64 0, .slice none 0 0], .int .i64 1]) (by simp [results, Try.results43, go_sem, c0, c1, c2]) rfl ?_
  have e1 : revE t a k n ks = .mk 0 0 [] := by simp [revE, hs1, Ex.zero]
  have e2 : revEK t a k n ks = 1 := by simp [revEK, hs1]
  rw [e1, e2]
  exact ⟨none, 0, rfl, fresh_nil1 _ _, by (repeat' first | exact Below.refl _ _ | assumption | apply Below.alloc | apply Below.drew | apply Below.setCell | omega | (simp; done) | (simp; omega))⟩
 have Hs1 := Lib.hid hs1
 clear hs1
 have l0 := L.c0
 have l1 := L.c1
 have m0 := M.c0
 have m1 := M.c1
 have m2 := M.c2
 have r0 := R.c0
 have r1 := R.c1
 have r2 := R.c2
 have ltL := L.lt
 have ltM := M.lt
 have ltR := R.lt
 have zz0 := R.frozen 0
 have zz1 := R.frozen 1
 have zz2 := R.frozen 2
 go_wp2_with fail
 refine (reversedExpr_all _ _ _ _ _ _ _ (Nat.le_refl _) (hr.below hB) Hsl.out _ _ (okB_tree Hs1.out)).mono ?_
 rintro x w2 ⟨sb, cb, rfl, hf, hb⟩
 clear l0 l1 m0 m1 m2 r0 r1 r2 ltL ltM ltR zz0 zz1 zz2
 replace hB := Below.on hB hb hB.size
 replace L := L.below hb
 replace M := M.below hb
 replace R := R.below hb
 clear hb
 have szW2 := hB.size
 have rlt2 := R.lt
 have l0 := L.c0
 have l1 := L.c1
 have m0 := M.c0
 have m1 := M.c1
 have m2 := M.c2
 have r0 := R.c0
 have r1 := R.c1
 have r2 := R.c2
 have ltL := L.lt
 have ltM := M.lt
 have ltR := R.lt
 have zz0 := R.frozen 0
 have zz1 := R.frozen 1
 have zz2 := R.frozen 2
 go_wp2_with fail
 have R' := (((R.set 0 (.int .i64 (Ex.rev (.mk k n ks)).kind)).set 1 (.int .i64 (Ex.rev (.mk k n ks)).num)).set 2 (.slice sb (Ex.rev (.mk k n ks)).kids.length cb))
 have c0 := R'.c0
 have c1 := R'.c1
 have c2 := R'.c2
 refine bodyPost_ret (v := .tuple #[.agg #[.int .i64 (Ex.rev (.mk k n ks)).kind, .int .i64 (Ex.rev (.mk k n ks)).num, .slice sb (Ex.rev (.mk k n ks)).kids.length cb], .int .i64 0]) (by simp [results, Try.results43, go_sem, c0, c1, c2]) rfl ?_
 have e1 : revE t a k n ks = Ex.rev (.mk k n ks) := by simp [revE, Hs1.out]
 have e2 : revEK t a k n ks = 0 := by simp [revEK, Hs1.out]
 rw [e1, e2]
 refine ⟨sb, cb, rfl, (hf.keep fun b hb1 hb2 => ?_).from szW1, by (repeat' first | exact Below.refl _ _ | assumption | apply Below.alloc | apply Below.drew | apply Below.setCell | omega | (simp; done) | (simp; omega))⟩
 repeat rw [Below.heap_setCell _ _ _ _ (by show b ≠ w.heap.size + 1 + 1; omega)]
end Go.Proofs.Ytbflhjjnemdecaa
