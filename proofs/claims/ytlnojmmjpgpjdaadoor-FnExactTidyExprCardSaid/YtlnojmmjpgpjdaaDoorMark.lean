/-
  Marks: what mark.. leaves of a datum, and what it is to write one cell of a slice that is owned.
-/
import Derived.Test.YtlnojmmjpgpjdaaDoorMem
namespace Go.Proofs.YtlnojmmjpgpjdaaDoor
open Go.ChangeShapes Go.WideShapes Go.ChangeAt Go.RowKit Go.Deep

mutual
/-- How many cells a mark counts. -/
def D.marks : D → Nat
  | .int _ => 1
  | .bool _ => 1
  | .str _ => 0
  | .raw _ => 0
  | .sl _ _ cs => D.marksL cs
def D.marksL : List D → Nat
  | [] => 0
  | c :: cs => D.marks c + D.marksL cs
end
mutual
/-- The datum with the numbers from k on, cell by cell. -/
def D.mark : D → Nat → D
  | .int _, k => .int k
  | .bool _, k => .bool ((k : Int).tmod 3 == 0)
  | .str s, _ => .str s
  | .raw u, _ => .raw u
  | .sl size n cs, k => .sl size n (D.markL cs k)
def D.markL : List D → Nat → List D
  | [], _ => []
  | c :: cs, k => D.mark c k :: D.markL cs (k + D.marks c)
end

theorem marksL_append : ∀ a b : List D, D.marksL (a ++ b) = D.marksL a + D.marksL b
  | [], b => by simp [D.marksL]
  | c :: a, b => by simp only [List.cons_append, D.marksL, marksL_append a b]; omega
theorem markL_append : ∀ (a b : List D) (k : Nat), D.markL (a ++ b) k = D.markL a k ++ D.markL b (k + D.marksL a)
  | [], b, k => by simp [D.markL, D.marksL]
  | c :: a, b, k => by simp only [List.cons_append, D.markL, D.marksL, markL_append a b, Nat.add_assoc]
theorem markL_length : ∀ (a : List D) (k : Nat), (D.markL a k).length = a.length
  | [], _ => by simp [D.markL]
  | c :: a, k => by simp [D.markL, markL_length a]
theorem marks_step {cs : List D} {j : Nat} {c : D} (h : cs[j]? = some c) : D.marksL (cs.take (j + 1)) = D.marksL (cs.take j) + c.marks := by
  obtain ⟨hj, rfl⟩ := List.getElem?_eq_some_iff.1 h
  rw [List.take_succ_eq_append_getElem hj, marksL_append]
  simp [D.marksL]
theorem marks_take_le (cs : List D) (j : Nat) : D.marksL (cs.take j) ≤ D.marksL cs := by
  have := marksL_append (cs.take j) (cs.drop j)
  rw [List.take_append_drop] at this
  omega
theorem markL_at {cs : List D} {j : Nat} {c : D} (h : cs[j]? = some c) (k : Nat) : (D.markL cs k)[j]? = some (c.mark (k + D.marksL (cs.take j))) := by
  obtain ⟨hj, rfl⟩ := List.getElem?_eq_some_iff.1 h
  have e : D.markL cs k = D.markL (cs.take j) k ++ D.markL (cs.drop j) (k + D.marksL (cs.take j)) := by rw [← markL_append, List.take_append_drop]
  rw [e, List.getElem?_append_right (by rw [markL_length, List.length_take]; omega), markL_length, List.length_take, Nat.min_eq_left (by omega), Nat.sub_self, List.drop_eq_getElem_cons hj]
  simp [D.markL]

/-- Marked up to a cell. -/
def mkd (cs : List D) (j k : Nat) : List D := D.markL (cs.take j) k ++ cs.drop j
theorem mkd_zero (cs : List D) (k : Nat) : mkd cs 0 k = cs := by simp [mkd, D.markL]
theorem mkd_all (cs : List D) (k : Nat) : mkd cs cs.length k = D.markL cs k := by simp [mkd]
theorem mkd_length (cs : List D) (j k : Nat) : (mkd cs j k).length = cs.length := by simp [mkd, markL_length]; omega
theorem mkd_at {cs : List D} {i j : Nat} {c : D} (h : cs[i]? = some c) (hij : j ≤ i) (k : Nat) : (mkd cs j k)[i]? = some c := by
  obtain ⟨hj, rfl⟩ := List.getElem?_eq_some_iff.1 h
  unfold mkd
  rw [List.getElem?_append_right (by rw [markL_length, List.length_take]; omega), markL_length, List.length_take, Nat.min_eq_left (by omega), List.getElem?_drop]
  rw [show j + (i - j) = i by omega]
  exact h
theorem mkd_step {cs : List D} {j : Nat} {c : D} (h : cs[j]? = some c) (k : Nat) : (mkd cs j k).set j (c.mark (k + D.marksL (cs.take j))) = mkd cs (j + 1) k := by
  obtain ⟨hj, rfl⟩ := List.getElem?_eq_some_iff.1 h
  unfold mkd
  have e1 : (D.markL (cs.take j) k).length = j := by rw [markL_length, List.length_take]; omega
  rw [List.set_append_right _ _ (by omega), e1, Nat.sub_self, List.drop_eq_getElem_cons hj, List.set_cons_zero, List.take_succ_eq_append_getElem hj, markL_append]
  simp [D.markL]


/-- One cell of data that are owned: its own blocks, and the whole with another datum there. -/
theorem Ows.split {w : World} : ∀ {cs : List D} {xs : List Value} {F : List Nat}, Ows w cs xs F → ∀ {j : Nat} {c : D}, cs[j]? = some c →
    ∃ x A G B, xs[j]? = some x ∧ F = A ++ (G ++ B) ∧ Ow w c x G ∧
      (∀ w' c' x' G', Ow w' c' x' G' → (∀ b ∈ A ++ B, w'.heap[b]? = w.heap[b]?) → Ows w' (cs.set j c') (xs.set j x') (A ++ (G' ++ B)))
  | [], _, _, _, j, c, hj => by simp at hj
  | c0 :: cs, _, _, h, j, c, hj => by
    simp only [Ows] at h
    obtain ⟨x, r, G, K, rfl, rfl, h1, h2⟩ := h
    cases j with
    | zero =>
      simp at hj
      subst hj
      refine ⟨x, [], G, K, by simp, by simp, h1, fun w' c' x' G' h' hk => ?_⟩
      simp only [List.set_cons_zero, Ows, List.nil_append]
      exact ⟨x', r, G', K, rfl, rfl, h', h2.keep fun b hb => hk b (by simpa using hb)⟩
    | succ j =>
      obtain ⟨y, A, G1, B, e1, e2, e3, e4⟩ := Ows.split h2 (j := j) (c := c) (by simpa using hj)
      subst e2
      refine ⟨y, G ++ A, G1, B, by simpa using e1, by simp, e3, fun w' c' x' G' h' hk => ?_⟩
      have := e4 w' c' x' G' h' (fun b hb => hk b (by
        rcases List.mem_append.1 hb with hb | hb
        · exact List.mem_append_left _ (List.mem_append_right _ hb)
        · exact List.mem_append_right _ hb))
      simp only [List.set_cons_succ, Ows]
      exact ⟨x, _, G, A ++ (G' ++ B), rfl, by simp, h1.keep fun b hb => hk b (by simp [hb]), this⟩

theorem Free.blk {w : World} {b : Nat} (h : Free w b) : ∃ t cur, Blk w b t cur := by
  obtain ⟨cur, t, h⟩ := h
  exact ⟨t, cur.toList, by simpa [Blk] using h⟩
theorem Free.set {w : World} {b : Nat} (h : Free w b) (i : Nat) (v : Value) : Free (w.setCell ⟨b, i, none⟩ v) b := by
  obtain ⟨t, cur, h⟩ := h.blk
  exact (h.set i v).free
theorem Row.set {w : World} {b o : Nat} {xs : List Value} (hf : Free w b) (h : Row w b o xs) (j : Nat) (v : Value) : Row (w.setCell ⟨b, o + j, none⟩ v) b o (xs.set j v) := by
  obtain ⟨t, cur, hb⟩ := hf.blk
  have hb' := hb.set (o + j) v
  intro i hi
  have h1 := h i (by simpa using hi)
  rw [hb.cell] at h1
  rw [hb'.cell, List.getElem?_set, List.getElem?_set]
  by_cases hij : j = i
  · subst hij
    have hlen : j < xs.length := by simpa using hi
    have hcur : o + j < cur.length := by
      by_cases hc : o + j < cur.length
      · exact hc
      · rw [List.getElem?_eq_none (by omega), List.getElem?_eq_getElem hlen] at h1
        cases h1
    simp [hlen, hcur]
  · rw [if_neg (by omega), if_neg hij, h1]

theorem Ow.cells {w : World} {size n len cap : Nat} {cs : List D} {a : Option Addr} {F : List Nat} (h : Ow w (.sl size n cs) (.slice a len cap) F) : len = n ∧ n ≤ cap ∧ cap ≤ maxLen ∧ cs.length = n * size := by
  simp only [Ow] at h
  obtain ⟨a', cap', h1, h2, h3, h4, _⟩ := h
  simp only [Value.slice.injEq] at h1
  obtain ⟨rfl, rfl, rfl⟩ := h1
  exact ⟨rfl, h2, h3, h4⟩
theorem Ow.spot {w : World} {size n len cap : Nat} {cs : List D} {a : Option Addr} {F : List Nat} (h : Ow w (.sl size n cs) (.slice a len cap) F) (hn : 0 < n) : ∃ b o, a = some ⟨b, o, none⟩ := by
  simp only [Ow] at h
  obtain ⟨a', cap', h1, h2, h3, h4, h6, h5⟩ := h
  simp only [Value.slice.injEq] at h1
  obtain ⟨rfl, rfl, rfl⟩ := h1
  rcases h5 with h5 | ⟨b, o, xs, G, e1, _⟩
  · omega
  · exact ⟨b, o, e1⟩

/-- A CELL OF A SLICE THAT IS OWNED, at an index: its own blocks; a number or a truth may be written there; what it points to may be turned. -/
theorem Ow.cell {w : World} {size n b o len cap : Nat} {cs : List D} {F : List Nat} (h : Ow w (.sl size n cs) (.slice (some ⟨b, o, none⟩) len cap) F) (hn : F.Nodup) {j : Nat} {c : D} (hj : cs[j]? = some c) :
    ∃ x G, w.cell? ⟨b, o + j, none⟩ = some x ∧ w.frozen? ⟨b, o + j, none⟩ = false ∧ b ∈ F ∧ b < w.heap.size ∧ b ∉ G ∧ (∀ g ∈ G, g ∈ F) ∧ G.Nodup ∧ Ow w c x G ∧
      (∀ w' c', Ow w' c' x G → Only G w w' → Ow w' (.sl size n (cs.set j c')) (.slice (some ⟨b, o, none⟩) len cap) F) ∧
      (G = [] → ∀ c' x', (∀ w', Ow w' c' x' []) → Ow (w.setCell ⟨b, o + j, none⟩ x') (.sl size n (cs.set j c')) (.slice (some ⟨b, o, none⟩) len cap) F) := by
  simp only [Ow] at h
  obtain ⟨a, cap', h1, h2, h3, h4, h6, h5⟩ := h
  simp only [Value.slice.injEq] at h1
  obtain ⟨rfl, rfl, rfl⟩ := h1
  rcases h5 with ⟨h0, _⟩ | ⟨b', o', xs, K, e1, rfl, hf, hrow, hows⟩
  · have := (List.getElem?_eq_some_iff.1 hj).1
    rw [h4, h0] at this
    omega
  simp only [Option.some.injEq, Addr.mk.injEq, and_true] at e1
  obtain ⟨rfl, rfl⟩ := e1
  obtain ⟨x, A, G, B, s1, s2, s3, s4⟩ := hows.split hj
  subst s2
  rw [List.nodup_cons] at hn
  obtain ⟨hnb, hnd⟩ := hn
  have hbl := hf.lt
  have ndG : G.Nodup := by
    rw [List.nodup_append, List.nodup_append] at hnd
    exact hnd.2.1.1
  have dis : ∀ g ∈ A ++ B, g ∉ G := by
    intro g hg hg'
    rw [List.nodup_append, List.nodup_append] at hnd
    rcases List.mem_append.1 hg with hg | hg
    · exact hnd.2.2 g hg g (List.mem_append_left _ hg') rfl
    · exact hnd.2.1.2.2 g hg' g hg rfl
  have hltAB : ∀ g ∈ A ++ B, g < w.heap.size := fun g hg => hows.lt g (by
    rcases List.mem_append.1 hg with hg | hg
    · exact List.mem_append_left _ hg
    · exact List.mem_append_right _ (List.mem_append_right _ hg))
  have hj' : j < xs.length := (List.getElem?_eq_some_iff.1 s1).1
  refine ⟨x, G, (hrow j hj').trans s1, hf.frozen _, List.mem_cons_self .., hbl, fun hm => hnb (List.mem_append_right _ (List.mem_append_left _ hm)), fun g hg => List.mem_cons_of_mem _ (List.mem_append_right _ (List.mem_append_left _ hg)), ndG, s3, ?_, ?_⟩
  · intro w' c' hc' honly
    have hb' : w'.heap[b]? = w.heap[b]? := honly.block b hbl (fun hm => hnb (List.mem_append_right _ (List.mem_append_left _ hm)))
    have hset := s4 w' c' x G hc' (fun g hg => honly.block g (hltAB g hg) (dis g hg))
    rw [show xs.set j x = xs by
      obtain ⟨hl, hx⟩ := List.getElem?_eq_some_iff.1 s1
      rw [← hx]; exact List.set_getElem_self hl] at hset
    obtain ⟨cur, t, hcur⟩ := hf
    simp only [Ow]
    exact ⟨_, cap, rfl, h2, h3, by rw [List.length_set]; exact h4, h6, Or.inr ⟨b, o, xs, A ++ (G ++ B), rfl, rfl, ⟨cur, t, hb'.trans hcur⟩, hrow.congr hb', hset⟩⟩
  · intro hG c' x' hc'
    subst hG
    have hset := s4 (w.setCell ⟨b, o + j, none⟩ x') c' x' [] (hc' _) (fun g hg => Below.heap_setCell _ _ _ _ (fun e => hnb (by
      have e' : g = b := e
      rw [← e']
      rcases List.mem_append.1 hg with hg | hg
      · exact List.mem_append_left _ hg
      · exact List.mem_append_right _ (List.mem_append_right _ hg))))
    simp only [Ow]
    exact ⟨_, cap, rfl, h2, h3, by rw [List.length_set]; exact h4, h6, Or.inr ⟨b, o, _, _, rfl, rfl, hf.set _ _, hrow.set hf j x', hset⟩⟩
/-- A number of a slice that is owned. -/
theorem Ow.int_cell {w : World} {size n b o len cap : Nat} {cs : List D} {F : List Nat} (h : Ow w (.sl size n cs) (.slice (some ⟨b, o, none⟩) len cap) F) (hn : F.Nodup) {j : Nat} {z : Int} (hj : cs[j]? = some (.int z)) :
    w.cell? ⟨b, o + j, none⟩ = some (.int .i64 z) ∧ w.frozen? ⟨b, o + j, none⟩ = false ∧ b < w.heap.size ∧
      (∀ z' : Int, Ow (w.setCell ⟨b, o + j, none⟩ (.int .i64 z')) (.sl size n (cs.set j (.int z'))) (.slice (some ⟨b, o, none⟩) len cap) F ∧ Only F w (w.setCell ⟨b, o + j, none⟩ (.int .i64 z'))) := by
  obtain ⟨x, G, h1, h2, h3, h4, h5, h6, h7, h8, h9, h10⟩ := h.cell hn hj
  simp only [Ow] at h8
  obtain ⟨rfl, rfl⟩ := h8
  exact ⟨h1, h2, h4, fun z' => ⟨h10 rfl _ _ (fun _ => Ow.int _), (Only.refl F w).setCell h3 _⟩⟩
theorem Ow.bool_cell {w : World} {size n b o len cap : Nat} {cs : List D} {F : List Nat} (h : Ow w (.sl size n cs) (.slice (some ⟨b, o, none⟩) len cap) F) (hn : F.Nodup) {j : Nat} {z : Bool} (hj : cs[j]? = some (.bool z)) :
    w.cell? ⟨b, o + j, none⟩ = some (.bool z) ∧ w.frozen? ⟨b, o + j, none⟩ = false ∧ b < w.heap.size ∧
      (∀ z' : Bool, Ow (w.setCell ⟨b, o + j, none⟩ (.bool z')) (.sl size n (cs.set j (.bool z'))) (.slice (some ⟨b, o, none⟩) len cap) F ∧ Only F w (w.setCell ⟨b, o + j, none⟩ (.bool z'))) := by
  obtain ⟨x, G, h1, h2, h3, h4, h5, h6, h7, h8, h9, h10⟩ := h.cell hn hj
  simp only [Ow] at h8
  obtain ⟨rfl, rfl⟩ := h8
  exact ⟨h1, h2, h4, fun z' => ⟨h10 rfl _ _ (fun _ => Ow.bool _), (Only.refl F w).setCell h3 _⟩⟩
/-- A slice in a slice that is owned. -/
theorem Ow.sl_cell {w : World} {size n b o len cap : Nat} {cs : List D} {F : List Nat} (h : Ow w (.sl size n cs) (.slice (some ⟨b, o, none⟩) len cap) F) (hn : F.Nodup) {j size' n' : Nat} {ds : List D} (hj : cs[j]? = some (.sl size' n' ds)) :
    ∃ a c G, w.cell? ⟨b, o + j, none⟩ = some (.slice a n' c) ∧ w.frozen? ⟨b, o + j, none⟩ = false ∧ b < w.heap.size ∧ b ∉ G ∧ (∀ g ∈ G, g ∈ F) ∧ G.Nodup ∧ Ow w (.sl size' n' ds) (.slice a n' c) G ∧
      (∀ w' ds', Ow w' (.sl size' n' ds') (.slice a n' c) G → Only G w w' → Ow w' (.sl size n (cs.set j (.sl size' n' ds'))) (.slice (some ⟨b, o, none⟩) len cap) F ∧ Only F w w') := by
  obtain ⟨x, G, h1, h2, h3, h4, h5, h6, h7, h8, h9, h10⟩ := h.cell hn hj
  have h8' := h8
  simp only [Ow] at h8'
  obtain ⟨a, c, rfl, _⟩ := h8'
  exact ⟨a, c, G, h1, h2, h4, h5, h6, h7, h8, fun w' ds' k1 k2 => ⟨h9 w' _ k1 k2, k2.more h6⟩⟩

theorem marksL_ints : ∀ zs : List Int, D.marksL (zs.map D.int) = zs.length
  | [] => rfl
  | z :: r => by simp only [List.map_cons, D.marksL, D.marks, marksL_ints r, List.length_cons]; omega
theorem ints_at {zs : List Int} {i : Nat} {z : Int} (h : zs[i]? = some z) : (zs.map D.int)[i]? = some (D.int z) := by rw [List.getElem?_map, h]; rfl
theorem ints_take (zs : List Int) (i : Nat) (h : i ≤ zs.length) : D.marksL ((zs.map D.int).take i) = i := by rw [← List.map_take, marksL_ints, List.length_take]; omega
end Go.Proofs.YtlnojmmjpgpjdaaDoor
