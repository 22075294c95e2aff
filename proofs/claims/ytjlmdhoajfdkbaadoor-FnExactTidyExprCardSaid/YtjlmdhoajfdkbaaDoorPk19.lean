/-
  Parts of a proof, joined: Mark, Turn3, SpTidy2, TidyT. No condition.
-/
import Derived.Test.YtjlmdhoajfdkbaaDoorPk17
import Derived.Test.YtjlmdhoajfdkbaaDoorPk18
namespace Go.Proofs.YtjlmdhoajfdkbaaDoor
set_option linter.unusedVariables false
set_option linter.unusedSimpArgs false
open Go.ChangeShapes Go.WideShapes Go.ChangeAt Go.RowKit Go.Deep
mutual
def D.marks : D → Nat
 | .int _ => 1
 | .bool _ => 1
 | .str _ => 0
 | .raw _ => 0
 | .sl _ _ cs => D.marksL cs
def D.marksL : List D → Nat
 | [] => 0
 | c :: cs => D.marks c + D.marksL cs
end
mutual
def D.mark : D → Nat → D
 | .int _, k => .int k
 | .bool _, k => .bool ((k : Int).tmod 3 == 0)
 | .str s, _ => .str s
 | .raw u, _ => .raw u
 | .sl size n cs, k => .sl size n (D.markL cs k)
def D.markL : List D → Nat → List D
 | [], _ => []
 | c :: cs, k => D.mark c k :: D.markL cs (k + D.marks c)
end
theorem marksL_append : ∀ a b : List D, D.marksL (a ++ b) = D.marksL a + D.marksL b
 | [], b => by simp [D.marksL]
 | c :: a, b => by simp only [List.cons_append, D.marksL, marksL_append a b]; omega
theorem markL_append : ∀ (a b : List D) (k : Nat), D.markL (a ++ b) k = D.markL a k ++ D.markL b (k + D.marksL a)
 | [], b, k => by simp [D.markL, D.marksL]
 | c :: a, b, k => by simp only [List.cons_append, D.markL, D.marksL, markL_append a b, Nat.add_assoc]
theorem markL_length : ∀ (a : List D) (k : Nat), (D.markL a k).length = a.length
 | [], _ => by simp [D.markL]
 | c :: a, k => by simp [D.markL, markL_length a]
theorem marks_step {cs : List D} {j : Nat} {c : D} (h : cs[j]? = some c) : D.marksL (cs.take (j + 1)) = D.marksL (cs.take j) + c.marks := by
 obtain ⟨hj, rfl⟩ := List.getElem?_eq_some_iff.1 h
 rw [List.take_succ_eq_append_getElem hj, marksL_append]
 simp [D.marksL]
theorem markL_at {cs : List D} {j : Nat} {c : D} (h : cs[j]? = some c) (k : Nat) : (D.markL cs k)[j]? = some (c.mark (k + D.marksL (cs.take j))) := by
 obtain ⟨hj, rfl⟩ := List.getElem?_eq_some_iff.1 h
 have e : D.markL cs k = D.markL (cs.take j) k ++ D.markL (cs.drop j) (k + D.marksL (cs.take j)) := by rw [← markL_append, List.take_append_drop]
 rw [e, List.getElem?_append_right (by rw [markL_length, List.length_take]; omega), markL_length, List.length_take, Nat.min_eq_left (by omega), Nat.sub_self, List.drop_eq_getElem_cons hj]
 simp [D.markL]
def mkd (cs : List D) (j k : Nat) : List D := D.markL (cs.take j) k ++ cs.drop j
theorem mkd_zero (cs : List D) (k : Nat) : mkd cs 0 k = cs := by simp [mkd, D.markL]
theorem mkd_all (cs : List D) (k : Nat) : mkd cs cs.length k = D.markL cs k := by simp [mkd]
theorem mkd_at {cs : List D} {i j : Nat} {c : D} (h : cs[i]? = some c) (hij : j ≤ i) (k : Nat) : (mkd cs j k)[i]? = some c := by
 obtain ⟨hj, rfl⟩ := List.getElem?_eq_some_iff.1 h
 unfold mkd
 rw [List.getElem?_append_right (by rw [markL_length, List.length_take]; omega), markL_length, List.length_take, Nat.min_eq_left (by omega), List.getElem?_drop]
 rw [show j + (i - j) = i by omega]
 exact h
theorem mkd_step {cs : List D} {j : Nat} {c : D} (h : cs[j]? = some c) (k : Nat) : (mkd cs j k).set j (c.mark (k + D.marksL (cs.take j))) = mkd cs (j + 1) k := by
 obtain ⟨hj, rfl⟩ := List.getElem?_eq_some_iff.1 h
 unfold mkd
 have e1 : (D.markL (cs.take j) k).length = j := by rw [markL_length, List.length_take]; omega
 rw [List.set_append_right _ _ (by omega), e1, Nat.sub_self, List.drop_eq_getElem_cons hj, List.set_cons_zero, List.take_succ_eq_append_getElem hj, markL_append]
 simp [D.markL]
theorem Ows.split {w : World} : ∀ {cs : List D} {xs : List Value} {F : List Nat}, Ows w cs xs F → ∀ {j : Nat} {c : D}, cs[j]? = some c →
  ∃ x A G B, xs[j]? = some x ∧ F = A ++ (G ++ B) ∧ Ow w c x G ∧
   (∀ w' c' x' G', Ow w' c' x' G' → (∀ b ∈ A ++ B, w'.heap[b]? = w.heap[b]?) → Ows w' (cs.set j c') (xs.set j x') (A ++ (G' ++ B)))
 | [], _, _, _, j, c, hj => by simp at hj
 | c0 :: cs, _, _, h, j, c, hj => by
  simp only [Ows] at h
  obtain ⟨x, r, G, K, rfl, rfl, h1, h2⟩ := h
  cases j with
  | zero =>
   simp at hj
   subst hj
   refine ⟨x, [], G, K, by simp, by simp, h1, fun w' c' x' G' h' hk => ?_⟩
   simp only [List.set_cons_zero, Ows, List.nil_append]
   exact ⟨x', r, G', K, rfl, rfl, h', h2.keep fun b hb => hk b (by simpa using hb)⟩
  | succ j =>
   obtain ⟨y, A, G1, B, e1, e2, e3, e4⟩ := Ows.split h2 (j := j) (c := c) (by simpa using hj)
   subst e2
   refine ⟨y, G ++ A, G1, B, by simpa using e1, by simp, e3, fun w' c' x' G' h' hk => ?_⟩
   have := e4 w' c' x' G' h' (fun b hb => hk b (by
    rcases List.mem_append.1 hb with hb | hb
    ·
     exact List.mem_append_left _ (List.mem_append_right _ hb)
    ·
     exact List.mem_append_right _ hb))
   simp only [List.set_cons_succ, Ows]
   exact ⟨x, _, G, A ++ (G' ++ B), rfl, by simp, h1.keep fun b hb => hk b (by simp [hb]), this⟩
theorem Free.blk {w : World} {b : Nat} (h : Free w b) : ∃ t cur, Blk w b t cur := by
 obtain ⟨cur, t, h⟩ := h
 exact ⟨t, cur.toList, by simpa [Blk] using h⟩
theorem Free.set {w : World} {b : Nat} (h : Free w b) (i : Nat) (v : Value) : Free (w.setCell ⟨b, i, none⟩ v) b := by
 obtain ⟨t, cur, h⟩ := h.blk
 exact (h.set i v).free
theorem Row.set {w : World} {b o : Nat} {xs : List Value} (hf : Free w b) (h : Row w b o xs) (j : Nat) (v : Value) : Row (w.setCell ⟨b, o + j, none⟩ v) b o (xs.set j v) := by
 obtain ⟨t, cur, hb⟩ := hf.blk
 have hb' := hb.set (o + j) v
 intro i hi
 have h1 := h i (by simpa using hi)
 rw [hb.cell] at h1
 rw [hb'.cell, List.getElem?_set, List.getElem?_set]
 by_cases hij : j = i
 ·
  subst hij
  have hlen : j < xs.length := by simpa using hi
  have hcur : o + j < cur.length := by
   by_cases hc : o + j < cur.length
   ·
    exact hc
   ·
    rw [List.getElem?_eq_none (by omega), List.getElem?_eq_getElem hlen] at h1
    cases h1
  simp [hlen, hcur]
 ·
  rw [if_neg (by omega), if_neg hij, h1]
theorem Ow.spot {w : World} {size n len cap : Nat} {cs : List D} {a : Option Addr} {F : List Nat} (h : Ow w (.sl size n cs) (.slice a len cap) F) (hn : 0 < n) : ∃ b o, a = some ⟨b, o, none⟩ := by
 simp only [Ow] at h
 obtain ⟨a', cap', h1, h2, h3, h4, h6, h5⟩ := h
 simp only [Value.slice.injEq] at h1
 obtain ⟨rfl, rfl, rfl⟩ := h1
 rcases h5 with h5 | ⟨b, o, xs, G, e1, _⟩
 ·
  omega
 ·
  exact ⟨b, o, e1⟩
theorem Ow.cell {w : World} {size n b o len cap : Nat} {cs : List D} {F : List Nat} (h : Ow w (.sl size n cs) (.slice (some ⟨b, o, none⟩) len cap) F) (hn : F.Nodup) {j : Nat} {c : D} (hj : cs[j]? = some c) :
  ∃ x G, w.cell? ⟨b, o + j, none⟩ = some x ∧ w.frozen? ⟨b, o + j, none⟩ = false ∧ b ∈ F ∧ b < w.heap.size ∧ b ∉ G ∧ (∀ g ∈ G, g ∈ F) ∧ G.Nodup ∧ Ow w c x G ∧
   (∀ w' c', Ow w' c' x G → Only G w w' → Ow w' (.sl size n (cs.set j c')) (.slice (some ⟨b, o, none⟩) len cap) F) ∧
   (G = [] → ∀ c' x', (∀ w', Ow w' c' x' []) → Ow (w.setCell ⟨b, o + j, none⟩ x') (.sl size n (cs.set j c')) (.slice (some ⟨b, o, none⟩) len cap) F) := by
 simp only [Ow] at h
 obtain ⟨a, cap', h1, h2, h3, h4, h6, h5⟩ := h
 simp only [Value.slice.injEq] at h1
 obtain ⟨rfl, rfl, rfl⟩ := h1
 rcases h5 with ⟨h0, _⟩ | ⟨b', o', xs, K, e1, rfl, hf, hrow, hows⟩
 ·
  have := (List.getElem?_eq_some_iff.1 hj).1
  rw [h4, h0] at this
  omega
 simp only [Option.some.injEq, Addr.mk.injEq, and_true] at e1
 obtain ⟨rfl, rfl⟩ := e1
 obtain ⟨x, A, G, B, s1, s2, s3, s4⟩ := hows.split hj
 subst s2
 rw [List.nodup_cons] at hn
 obtain ⟨hnb, hnd⟩ := hn
 have hbl := hf.lt
 have ndG : G.Nodup := by
  rw [List.nodup_append, List.nodup_append] at hnd
  exact hnd.2.1.1
 have dis : ∀ g ∈ A ++ B, g ∉ G := by
  intro g hg hg'
  rw [List.nodup_append, List.nodup_append] at hnd
  rcases List.mem_append.1 hg with hg | hg
  ·
   exact hnd.2.2 g hg g (List.mem_append_left _ hg') rfl
  ·
   exact hnd.2.1.2.2 g hg' g hg rfl
 have hltAB : ∀ g ∈ A ++ B, g < w.heap.size := fun g hg => hows.lt g (by
  rcases List.mem_append.1 hg with hg | hg
  ·
   exact List.mem_append_left _ hg
  ·
   exact List.mem_append_right _ (List.mem_append_right _ hg))
 have hj' : j < xs.length := (List.getElem?_eq_some_iff.1 s1).1
 refine ⟨x, G, (hrow j hj').trans s1, hf.frozen _, List.mem_cons_self .., hbl, fun hm => hnb (List.mem_append_right _ (List.mem_append_left _ hm)), fun g hg => List.mem_cons_of_mem _ (List.mem_append_right _ (List.mem_append_left _ hg)), ndG, s3, ?_, ?_⟩
 ·
  intro w' c' hc' honly
  have hb' : w'.heap[b]? = w.heap[b]? := honly.block b hbl (fun hm => hnb (List.mem_append_right _ (List.mem_append_left _ hm)))
  have hset := s4 w' c' x G hc' (fun g hg => honly.block g (hltAB g hg) (dis g hg))
  rw [show xs.set j x = xs by
   obtain ⟨hl, hx⟩ := List.getElem?_eq_some_iff.1 s1
   rw [← hx]; exact List.set_getElem_self hl] at hset
  obtain ⟨cur, t, hcur⟩ := hf
  simp only [Ow]
  exact ⟨_, cap, rfl, h2, h3, by rw [List.length_set]; exact h4, h6, Or.inr ⟨b, o, xs, A ++ (G ++ B), rfl, rfl, ⟨cur, t, hb'.trans hcur⟩, hrow.congr hb', hset⟩⟩
 ·
  intro hG c' x' hc'
  subst hG
  have hset := s4 (w.setCell ⟨b, o + j, none⟩ x') c' x' [] (hc' _) (fun g hg => Below.heap_setCell _ _ _ _ (fun e => hnb (by
   have e' : g = b := e
   rw [← e']
   rcases List.mem_append.1 hg with hg | hg
   ·
    exact List.mem_append_left _ hg
   ·
    exact List.mem_append_right _ (List.mem_append_right _ hg))))
  simp only [Ow]
  exact ⟨_, cap, rfl, h2, h3, by rw [List.length_set]; exact h4, h6, Or.inr ⟨b, o, _, _, rfl, rfl, hf.set _ _, hrow.set hf j x', hset⟩⟩
theorem Ow.int_cell {w : World} {size n b o len cap : Nat} {cs : List D} {F : List Nat} (h : Ow w (.sl size n cs) (.slice (some ⟨b, o, none⟩) len cap) F) (hn : F.Nodup) {j : Nat} {z : Int} (hj : cs[j]? = some (.int z)) :
  w.cell? ⟨b, o + j, none⟩ = some (.int .i64 z) ∧ w.frozen? ⟨b, o + j, none⟩ = false ∧ b < w.heap.size ∧
   (∀ z' : Int, Ow (w.setCell ⟨b, o + j, none⟩ (.int .i64 z')) (.sl size n (cs.set j (.int z'))) (.slice (some ⟨b, o, none⟩) len cap) F ∧ Only F w (w.setCell ⟨b, o + j, none⟩ (.int .i64 z'))) := by
 obtain ⟨x, G, h1, h2, h3, h4, h5, h6, h7, h8, h9, h10⟩ := h.cell hn hj
 simp only [Ow] at h8
 obtain ⟨rfl, rfl⟩ := h8
 exact ⟨h1, h2, h4, fun z' => ⟨h10 rfl _ _ (fun _ => Ow.int _), (Only.refl F w).setCell h3 _⟩⟩
theorem Ow.sl_cell {w : World} {size n b o len cap : Nat} {cs : List D} {F : List Nat} (h : Ow w (.sl size n cs) (.slice (some ⟨b, o, none⟩) len cap) F) (hn : F.Nodup) {j size' n' : Nat} {ds : List D} (hj : cs[j]? = some (.sl size' n' ds)) :
  ∃ a c G, w.cell? ⟨b, o + j, none⟩ = some (.slice a n' c) ∧ w.frozen? ⟨b, o + j, none⟩ = false ∧ b < w.heap.size ∧ b ∉ G ∧ (∀ g ∈ G, g ∈ F) ∧ G.Nodup ∧ Ow w (.sl size' n' ds) (.slice a n' c) G ∧
   (∀ w' ds', Ow w' (.sl size' n' ds') (.slice a n' c) G → Only G w w' → Ow w' (.sl size n (cs.set j (.sl size' n' ds'))) (.slice (some ⟨b, o, none⟩) len cap) F ∧ Only F w w') := by
 obtain ⟨x, G, h1, h2, h3, h4, h5, h6, h7, h8, h9, h10⟩ := h.cell hn hj
 have h8' := h8
 simp only [Ow] at h8'
 obtain ⟨a, c, rfl, _⟩ := h8'
 exact ⟨a, c, G, h1, h2, h4, h5, h6, h7, h8, fun w' ds' k1 k2 => ⟨h9 w' _ k1 k2, k2.more h6⟩⟩
end Go.Proofs.YtjlmdhoajfdkbaaDoor

namespace Go.Proofs.YtjlmdhoajfdkbaaDoor
set_option linter.unusedVariables false
set_option linter.unusedSimpArgs false
open Go.ChangeShapes Go.WideShapes Go.ChangeAt Go.RowKit Go.Deep Go.Sort
def Ex.zero : Ex := .mk 0 0 []
theorem fresh_nil1 (w w' : World) : Freshs w w' [kidsD []] [.slice none 0 0] :=
 Freshs.one ⟨[], by simp only [kidsD, Ow]; exact ⟨none, 0, rfl, by simp, by simp [maxLen], by simp [Ex.cellsL], by simp, Or.inl (by simp)⟩, by simp, by simp⟩
end Go.Proofs.YtjlmdhoajfdkbaaDoor

namespace Go.Proofs.YtjlmdhoajfdkbaaDoor
set_option linter.unusedVariables false
set_option linter.unusedSimpArgs false
open Go.ChangeShapes Go.WideShapes Go.ChangeAt Go.RowKit Go.Deep Go.Sort
set_option maxRecDepth 100000 in
set_option maxHeartbeats 8000000 in
theorem l02Tidy_all (tm am : Int) (ht : tm ≤ 8) (ha : am ≤ 8) (N : Nat) : ∀ (e : Ex) (b o : Nat) (w : World), e.size ≤ N → ExAt w b o e → e.tree tm am = true → e.size ≤ 90000 →
  Calls Tryd.prog 14 #[.pointer (some ⟨b, o, none⟩)] w (OutE w e.tidy) := by
 induction N using Nat.strongRecOn with
 | _ N ih =>
 intro e b o w hN hx hxt hsz1
 have HIH := Lib.hid ih
 clear ih
 have hlt := hx.lt
 obtain ⟨k, n, ks⟩ := e
 obtain ⟨hk, -, -, htl⟩ := tree_parts hxt
 by_cases h6 : k = 6
 ·
  subst h6
  obtain ⟨u, v, rfl⟩ := two_kids hk (by omega)
  have hsz := Ex.size_eq (.mk 6 n [u, v])
  simp only [Ex.sizeL, Ex.kids_mk] at hsz
  have E1 : Hid ((Ex.mk 6 n [u, v]).tidy = sumT u.tidy v.tidy) := by show _ = _; exact Ex.tidy_sum
  have hut : u.tree tm am = true := Ex.treeL_mem htl (by simp)
  have hvt : v.tree tm am = true := Ex.treeL_mem htl (by simp)
  obtain ⟨hu1, hu2⟩ := tidy_spec tm am _ u (Nat.le_refl _) hut
  obtain ⟨hv1, hv2⟩ := tidy_spec tm am _ v (Nat.le_refl _) hvt
  clear htl hk
  obtain ⟨g0, g1, sx, cx, g2, g3⟩ := id hx
  simp only [Ex.kind_mk, Ex.num_mk, Ex.kids_mk] at g0 g1 g2
  obtain ⟨kb, ko, rfl⟩ := kid_some g3 (by simp [Ex.kids])
  have hu : ExAt w kb ko u := by have := kid_exAt g3 (i := 0) (e := u) rfl; simpa using this
  obtain ⟨-, hlen, hcap, -, -⟩ := kid_at g3
  unfold maxLen at hcap
  simp only [Ex.kids_mk, List.length_cons, List.length_nil, Nat.zero_add, Nat.reduceAdd] at g2 hlen hcap
  have Hg0 := Lib.hid g0
  have Hg2 := Lib.hid g2
  have hv : ExAt w kb (ko + 3) v := by have := kid_exAt g3 (i := 1) (e := v) rfl; simpa using this
  go_enter Tryd.func14, Tryd.ntmps14
  go_wp2_with fail
  have R := Blk.new3 w 30 (.int .i64 0) (.int .i64 0) (.slice none 0 0)
  have hB : Below w.heap.size w (w.alloc (.cells #[.int .i64 0, .int .i64 0, .slice none 0 0] 30)) := by (repeat' first | exact Below.refl _ _ | assumption | apply Below.alloc | apply Below.drew | apply Below.setCell | omega | (simp; done) | (simp; omega))
  have hz0 : (w.alloc (.cells #[.int .i64 0, .int .i64 0, .slice none 0 0] 30)).heap.size = w.heap.size + 1 := by simp
  generalize w.alloc (.cells #[.int .i64 0, .int .i64 0, .slice none 0 0] 30) = w1 at R hB hz0 ⊢
  have hx1 := hx.below hB
  clear g0 g1 g2
  refine (HIH.out u.size (by omega) u _ _ _ (Nat.le_refl _) (hu.below hB) hut (by omega)).mono ?_
  rintro f w2 ⟨s2, c2, rfl, hf2, hb2⟩
  have hz2 := hb2.size
  have g2q := (hb2.cell (p := ⟨b, o + 2, none⟩) (by have := hx1.lt; omega)).trans ((hB.cell (p := ⟨b, o + 2, none⟩) hlt).trans Hg2.out)
  have hlt2 : b < w2.heap.size := by have := hx1.lt; omega
  go_wp2_with fail
  clear g2q
  have U := Blk.new3 w2 30 (.int .i64 u.tidy.kind) (.int .i64 u.tidy.num) (.slice s2 u.tidy.kids.length c2)
  have hb3 : Below w1.heap.size w1 (w2.alloc (.cells #[.int .i64 u.tidy.kind, .int .i64 u.tidy.num, .slice s2 u.tidy.kids.length c2] 30)) := hb2.alloc hz2 _
  have hd2 := (Rds.one hf2.rds).alloc (.cells #[.int .i64 u.tidy.kind, .int .i64 u.tidy.num, .slice s2 u.tidy.kids.length c2] 30)
  generalize w2.alloc (.cells #[.int .i64 u.tidy.kind, .int .i64 u.tidy.num, .slice s2 u.tidy.kids.length c2] 30) = w3 at U hb3 hd2 ⊢
  have hua : ExAt w3 w2.heap.size 0 u.tidy := ⟨U.c0, U.c1, s2, c2, U.c2, hd2⟩
  have hz3 := hb3.size
  refine (HIH.out v.size (by omega) v _ _ _ (Nat.le_refl _) ((hv.below hB).below hb3) hvt (by omega)).mono ?_
  rintro f w4 ⟨s4, c4, rfl, hf4, hb4⟩
  have hz4 := hb4.size
  have hb14 := hb3.trans (hb4.mono hz3)
  have g0q := (hb14.cell (p := ⟨b, o, none⟩) (by have := hx1.lt; omega)).trans ((hB.cell (p := ⟨b, o, none⟩) hlt).trans Hg0.out)
  have hlt4 : b < w4.heap.size := by have := hx1.lt; omega
  go_wp2_with fail
  clear g0q
  have V := Blk.new3 w4 30 (.int .i64 v.tidy.kind) (.int .i64 v.tidy.num) (.slice s4 v.tidy.kids.length c4)
  have hb5 : Below w1.heap.size w1 (w4.alloc (.cells #[.int .i64 v.tidy.kind, .int .i64 v.tidy.num, .slice s4 v.tidy.kids.length c4] 30)) := hb14.alloc (by omega) _
  have hd4 := (Rds.one hf4.rds).alloc (.cells #[.int .i64 v.tidy.kind, .int .i64 v.tidy.num, .slice s4 v.tidy.kids.length c4] 30)
  have hua5 := (hua.below hb4).below (Below.alloc (Below.refl w4.heap.size w4) (Nat.le_refl _) (.cells #[.int .i64 v.tidy.kind, .int .i64 v.tidy.num, .slice s4 v.tidy.kids.length c4] 30))
  generalize w4.alloc (.cells #[.int .i64 v.tidy.kind, .int .i64 v.tidy.num, .slice s4 v.tidy.kids.length c4] 30) = v5 at V hb5 hd4 hua5 ⊢
  have hva : ExAt v5 w4.heap.size 0 v.tidy := ⟨V.c0, V.c1, s4, c4, V.c2, hd4⟩
  refine (l02Sum_i ht ha hua5 hva hu1 hv1 (by omega)).mono ?_
  rintro f v6 ⟨s6, c6, rfl, hf6, hb6⟩
  have hz5 := hb5.size
  replace hB := Below.on hB (hb5.trans (hb6.mono hz5)) hB.size
  replace R := R.below (hb5.trans (hb6.mono hz5))
  have hz6 := hb6.size
  -- the function's end: R the result's box, hB; h3 : Freshs W V .. (W below V), E1 : Hid (result = (sumT u.tidy v.tidy))
  -- the result box w.heap.size of world v6 is set to an expression; goal: bodyPost. R : the box; Rests: hs5 : Spares, T2
  have r0 := R.c0
  have r1 := R.c1
  have r2 := R.c2
  have z0 := R.frozen 0
  have z1 := R.frozen 1
  have z2 := R.frozen 2
  have ltR := R.lt
  go_wp2_with fail
  have T2 := ((R.set 0 (.int .i64 (sumT u.tidy v.tidy).kind)).set 1 (.int .i64 (sumT u.tidy v.tidy).num)).set 2 (.slice s6 (sumT u.tidy v.tidy).kids.length c6)
  have hs5 : Spares (fun y => y = w.heap.size) v6 (((v6.setCell ⟨w.heap.size, 0, none⟩ (.int .i64 (sumT u.tidy v.tidy).kind)).setCell ⟨w.heap.size, 1, none⟩ (.int .i64 (sumT u.tidy v.tidy).num)).setCell ⟨w.heap.size, 2, none⟩ (.slice s6 (sumT u.tidy v.tidy).kids.length c6)) := Spares.set (Spares.set (Spares.set (Spares.refl v6)))
  generalize (((v6.setCell ⟨w.heap.size, 0, none⟩ (.int .i64 (sumT u.tidy v.tidy).kind)).setCell ⟨w.heap.size, 1, none⟩ (.int .i64 (sumT u.tidy v.tidy).num)).setCell ⟨w.heap.size, 2, none⟩ (.slice s6 (sumT u.tidy v.tidy).kids.length c6)) = w5 at T2 hs5 ⊢
  have t0 := T2.c0
  have t1 := T2.c1
  have t2 := T2.c2
  have hzB5 := hB.size
  have hB5 := hB.trans (hs5.below (B := w.heap.size) (by omega) (fun y hy => by omega))
  refine bodyPost_ret (v := .agg #[.int .i64 (sumT u.tidy v.tidy).kind, .int .i64 (sumT u.tidy v.tidy).num, .slice s6 (sumT u.tidy v.tidy).kids.length c6]) (by simp [results, Tryd.results14, go_sem, t0, t1, t2]) rfl ?_
  rw [E1.out]
  exact ⟨_, _, rfl, Freshs.from (Freshs.keep hf6 (fun y _ hy2 => hs5.block y hy2 (by omega))) (by omega), hB5⟩
 have c6 : (k == 6) = false := by simp [h6]
 by_cases h7 : k = 7
 ·
  subst h7
  obtain ⟨u, v, rfl⟩ := two_kids hk (by omega)
  have hsz := Ex.size_eq (.mk 7 n [u, v])
  simp only [Ex.sizeL, Ex.kids_mk] at hsz
  have E1 : Hid ((Ex.mk 7 n [u, v]).tidy = Ex.dot u.tidy v.tidy) := by show _ = _; exact Ex.tidy_dot
  have hut : u.tree tm am = true := Ex.treeL_mem htl (by simp)
  have hvt : v.tree tm am = true := Ex.treeL_mem htl (by simp)
  obtain ⟨hu1, hu2⟩ := tidy_spec tm am _ u (Nat.le_refl _) hut
  obtain ⟨hv1, hv2⟩ := tidy_spec tm am _ v (Nat.le_refl _) hvt
  clear htl hk
  obtain ⟨g0, g1, sx, cx, g2, g3⟩ := id hx
  simp only [Ex.kind_mk, Ex.num_mk, Ex.kids_mk] at g0 g1 g2
  obtain ⟨kb, ko, rfl⟩ := kid_some g3 (by simp [Ex.kids])
  have hu : ExAt w kb ko u := by have := kid_exAt g3 (i := 0) (e := u) rfl; simpa using this
  obtain ⟨-, hlen, hcap, -, -⟩ := kid_at g3
  unfold maxLen at hcap
  simp only [Ex.kids_mk, List.length_cons, List.length_nil, Nat.zero_add, Nat.reduceAdd] at g2 hlen hcap
  have Hg0 := Lib.hid g0
  have Hg2 := Lib.hid g2
  have hv : ExAt w kb (ko + 3) v := by have := kid_exAt g3 (i := 1) (e := v) rfl; simpa using this
  go_enter Tryd.func14, Tryd.ntmps14
  go_wp2_with fail
  have R := Blk.new3 w 30 (.int .i64 0) (.int .i64 0) (.slice none 0 0)
  have hB : Below w.heap.size w (w.alloc (.cells #[.int .i64 0, .int .i64 0, .slice none 0 0] 30)) := by (repeat' first | exact Below.refl _ _ | assumption | apply Below.alloc | apply Below.drew | apply Below.setCell | omega | (simp; done) | (simp; omega))
  have hz0 : (w.alloc (.cells #[.int .i64 0, .int .i64 0, .slice none 0 0] 30)).heap.size = w.heap.size + 1 := by simp
  generalize w.alloc (.cells #[.int .i64 0, .int .i64 0, .slice none 0 0] 30) = w1 at R hB hz0 ⊢
  have hx1 := hx.below hB
  clear g0 g1 g2
  refine (HIH.out u.size (by omega) u _ _ _ (Nat.le_refl _) (hu.below hB) hut (by omega)).mono ?_
  rintro f w2 ⟨s2, c2, rfl, hf2, hb2⟩
  have hz2 := hb2.size
  have g2q := (hb2.cell (p := ⟨b, o + 2, none⟩) (by have := hx1.lt; omega)).trans ((hB.cell (p := ⟨b, o + 2, none⟩) hlt).trans Hg2.out)
  have hlt2 : b < w2.heap.size := by have := hx1.lt; omega
  go_wp2_with fail
  clear g2q
  have U := Blk.new3 w2 30 (.int .i64 u.tidy.kind) (.int .i64 u.tidy.num) (.slice s2 u.tidy.kids.length c2)
  have hb3 : Below w1.heap.size w1 (w2.alloc (.cells #[.int .i64 u.tidy.kind, .int .i64 u.tidy.num, .slice s2 u.tidy.kids.length c2] 30)) := hb2.alloc hz2 _
  have hd2 := (Rds.one hf2.rds).alloc (.cells #[.int .i64 u.tidy.kind, .int .i64 u.tidy.num, .slice s2 u.tidy.kids.length c2] 30)
  generalize w2.alloc (.cells #[.int .i64 u.tidy.kind, .int .i64 u.tidy.num, .slice s2 u.tidy.kids.length c2] 30) = w3 at U hb3 hd2 ⊢
  have hua : ExAt w3 w2.heap.size 0 u.tidy := ⟨U.c0, U.c1, s2, c2, U.c2, hd2⟩
  have hz3 := hb3.size
  refine (HIH.out v.size (by omega) v _ _ _ (Nat.le_refl _) ((hv.below hB).below hb3) hvt (by omega)).mono ?_
  rintro f w4 ⟨s4, c4, rfl, hf4, hb4⟩
  have hz4 := hb4.size
  have hb14 := hb3.trans (hb4.mono hz3)
  have g0q := (hb14.cell (p := ⟨b, o, none⟩) (by have := hx1.lt; omega)).trans ((hB.cell (p := ⟨b, o, none⟩) hlt).trans Hg0.out)
  have hlt4 : b < w4.heap.size := by have := hx1.lt; omega
  go_wp2_with fail
  clear g0q
  have V := Blk.new3 w4 30 (.int .i64 v.tidy.kind) (.int .i64 v.tidy.num) (.slice s4 v.tidy.kids.length c4)
  have hb5 : Below w1.heap.size w1 (w4.alloc (.cells #[.int .i64 v.tidy.kind, .int .i64 v.tidy.num, .slice s4 v.tidy.kids.length c4] 30)) := hb14.alloc (by omega) _
  have hd4 := (Rds.one hf4.rds).alloc (.cells #[.int .i64 v.tidy.kind, .int .i64 v.tidy.num, .slice s4 v.tidy.kids.length c4] 30)
  have hua5 := (hua.below hb4).below (Below.alloc (Below.refl w4.heap.size w4) (Nat.le_refl _) (.cells #[.int .i64 v.tidy.kind, .int .i64 v.tidy.num, .slice s4 v.tidy.kids.length c4] 30))
  generalize w4.alloc (.cells #[.int .i64 v.tidy.kind, .int .i64 v.tidy.num, .slice s4 v.tidy.kids.length c4] 30) = v5 at V hb5 hd4 hua5 ⊢
  have hva : ExAt v5 w4.heap.size 0 v.tidy := ⟨V.c0, V.c1, s4, c4, V.c2, hd4⟩
  refine (l02Dot_all tm am _ _ _ _ _ _ _ _ (Nat.le_refl _) hua5 hva hu1 hv1 (by omega)).mono ?_
  rintro f v6 ⟨s6, c6, rfl, hf6, hb6⟩
  have hz5 := hb5.size
  replace hB := Below.on hB (hb5.trans (hb6.mono hz5)) hB.size
  replace R := R.below (hb5.trans (hb6.mono hz5))
  have hz6 := hb6.size
  -- the function's end: R the result's box, hB; h3 : Freshs W V .. (W below V), E1 : Hid (result = (Ex.dot u.tidy v.tidy))
  -- the result box w.heap.size of world v6 is set to an expression; goal: bodyPost. R : the box; Rests: hs5 : Spares, T2
  have r0 := R.c0
  have r1 := R.c1
  have r2 := R.c2
  have z0 := R.frozen 0
  have z1 := R.frozen 1
  have z2 := R.frozen 2
  have ltR := R.lt
  go_wp2_with fail
  have T2 := ((R.set 0 (.int .i64 (Ex.dot u.tidy v.tidy).kind)).set 1 (.int .i64 (Ex.dot u.tidy v.tidy).num)).set 2 (.slice s6 (Ex.dot u.tidy v.tidy).kids.length c6)
  have hs5 : Spares (fun y => y = w.heap.size) v6 (((v6.setCell ⟨w.heap.size, 0, none⟩ (.int .i64 (Ex.dot u.tidy v.tidy).kind)).setCell ⟨w.heap.size, 1, none⟩ (.int .i64 (Ex.dot u.tidy v.tidy).num)).setCell ⟨w.heap.size, 2, none⟩ (.slice s6 (Ex.dot u.tidy v.tidy).kids.length c6)) := Spares.set (Spares.set (Spares.set (Spares.refl v6)))
  generalize (((v6.setCell ⟨w.heap.size, 0, none⟩ (.int .i64 (Ex.dot u.tidy v.tidy).kind)).setCell ⟨w.heap.size, 1, none⟩ (.int .i64 (Ex.dot u.tidy v.tidy).num)).setCell ⟨w.heap.size, 2, none⟩ (.slice s6 (Ex.dot u.tidy v.tidy).kids.length c6)) = w5 at T2 hs5 ⊢
  have t0 := T2.c0
  have t1 := T2.c1
  have t2 := T2.c2
  have hzB5 := hB.size
  have hB5 := hB.trans (hs5.below (B := w.heap.size) (by omega) (fun y hy => by omega))
  refine bodyPost_ret (v := .agg #[.int .i64 (Ex.dot u.tidy v.tidy).kind, .int .i64 (Ex.dot u.tidy v.tidy).num, .slice s6 (Ex.dot u.tidy v.tidy).kids.length c6]) (by simp [results, Tryd.results14, go_sem, t0, t1, t2]) rfl ?_
  rw [E1.out]
  exact ⟨_, _, rfl, Freshs.from (Freshs.keep hf6 (fun y _ hy2 => hs5.block y hy2 (by omega))) (by omega), hB5⟩
 have c7 : (k == 7) = false := by simp [h7]
 by_cases h8 : k = 8
 ·
  subst h8
  obtain ⟨u, rfl⟩ := one_kid hk (by omega)
  have hsz := Ex.size_eq (.mk 8 n [u])
  simp only [Ex.sizeL, Ex.kids_mk] at hsz
  have E1 : Hid ((Ex.mk 8 n [u]).tidy = u.tidy.star) := by show _ = _; exact Ex.tidy_star
  have hut : u.tree tm am = true := Ex.treeL_mem htl (by simp)
  obtain ⟨hu1, hu2⟩ := tidy_spec tm am _ u (Nat.le_refl _) hut
  clear htl hk
  obtain ⟨g0, g1, sx, cx, g2, g3⟩ := id hx
  simp only [Ex.kind_mk, Ex.num_mk, Ex.kids_mk] at g0 g1 g2
  obtain ⟨kb, ko, rfl⟩ := kid_some g3 (by simp [Ex.kids])
  have hu : ExAt w kb ko u := by have := kid_exAt g3 (i := 0) (e := u) rfl; simpa using this
  obtain ⟨-, hlen, hcap, -, -⟩ := kid_at g3
  unfold maxLen at hcap
  simp only [Ex.kids_mk, List.length_cons, List.length_nil, Nat.zero_add, Nat.reduceAdd] at g2 hlen hcap
  have Hg0 := Lib.hid g0
  have Hg2 := Lib.hid g2
  go_enter Tryd.func14, Tryd.ntmps14
  go_wp2_with fail
  have R := Blk.new3 w 30 (.int .i64 0) (.int .i64 0) (.slice none 0 0)
  have hB : Below w.heap.size w (w.alloc (.cells #[.int .i64 0, .int .i64 0, .slice none 0 0] 30)) := by (repeat' first | exact Below.refl _ _ | assumption | apply Below.alloc | apply Below.drew | apply Below.setCell | omega | (simp; done) | (simp; omega))
  have hz0 : (w.alloc (.cells #[.int .i64 0, .int .i64 0, .slice none 0 0] 30)).heap.size = w.heap.size + 1 := by simp
  generalize w.alloc (.cells #[.int .i64 0, .int .i64 0, .slice none 0 0] 30) = w1 at R hB hz0 ⊢
  have hx1 := hx.below hB
  clear g0 g1 g2
  refine (HIH.out u.size (by omega) u _ _ _ (Nat.le_refl _) (hu.below hB) hut (by omega)).mono ?_
  rintro f w2 ⟨s2, c2, rfl, hf2, hb2⟩
  have hz2 := hb2.size
  go_wp2_with fail
  have U := Blk.new3 w2 30 (.int .i64 u.tidy.kind) (.int .i64 u.tidy.num) (.slice s2 u.tidy.kids.length c2)
  have hb3 : Below w1.heap.size w1 (w2.alloc (.cells #[.int .i64 u.tidy.kind, .int .i64 u.tidy.num, .slice s2 u.tidy.kids.length c2] 30)) := hb2.alloc hz2 _
  have hd2 := (Rds.one hf2.rds).alloc (.cells #[.int .i64 u.tidy.kind, .int .i64 u.tidy.num, .slice s2 u.tidy.kids.length c2] 30)
  generalize w2.alloc (.cells #[.int .i64 u.tidy.kind, .int .i64 u.tidy.num, .slice s2 u.tidy.kids.length c2] 30) = w3 at U hb3 hd2 ⊢
  have hua : ExAt w3 w2.heap.size 0 u.tidy := ⟨U.c0, U.c1, s2, c2, U.c2, hd2⟩
  have hz3 := hb3.size
  refine (l02Star_i hua (by omega)).mono ?_
  rintro f w4 ⟨s4, c4, rfl, hf4, hb4⟩
  replace hB := Below.on hB (hb3.trans (hb4.mono hz3)) hB.size
  replace R := R.below (hb3.trans (hb4.mono hz3))
  have hz4 := hb4.size
  -- the function's end: R the result's box, hB; h3 : Freshs W V .. (W below V), E1 : Hid (result = u.tidy.star)
  -- the result box w.heap.size of world w4 is set to an expression; goal: bodyPost. R : the box; Rests: hs5 : Spares, T2
  have r0 := R.c0
  have r1 := R.c1
  have r2 := R.c2
  have z0 := R.frozen 0
  have z1 := R.frozen 1
  have z2 := R.frozen 2
  have ltR := R.lt
  go_wp2_with fail
  have T2 := ((R.set 0 (.int .i64 u.tidy.star.kind)).set 1 (.int .i64 u.tidy.star.num)).set 2 (.slice s4 u.tidy.star.kids.length c4)
  have hs5 : Spares (fun y => y = w.heap.size) w4 (((w4.setCell ⟨w.heap.size, 0, none⟩ (.int .i64 u.tidy.star.kind)).setCell ⟨w.heap.size, 1, none⟩ (.int .i64 u.tidy.star.num)).setCell ⟨w.heap.size, 2, none⟩ (.slice s4 u.tidy.star.kids.length c4)) := Spares.set (Spares.set (Spares.set (Spares.refl w4)))
  generalize (((w4.setCell ⟨w.heap.size, 0, none⟩ (.int .i64 u.tidy.star.kind)).setCell ⟨w.heap.size, 1, none⟩ (.int .i64 u.tidy.star.num)).setCell ⟨w.heap.size, 2, none⟩ (.slice s4 u.tidy.star.kids.length c4)) = w5 at T2 hs5 ⊢
  have t0 := T2.c0
  have t1 := T2.c1
  have t2 := T2.c2
  have hzB5 := hB.size
  have hB5 := hB.trans (hs5.below (B := w.heap.size) (by omega) (fun y hy => by omega))
  refine bodyPost_ret (v := .agg #[.int .i64 u.tidy.star.kind, .int .i64 u.tidy.star.num, .slice s4 u.tidy.star.kids.length c4]) (by simp [results, Tryd.results14, go_sem, t0, t1, t2]) rfl ?_
  rw [E1.out]
  exact ⟨_, _, rfl, Freshs.from (Freshs.keep hf4 (fun y _ hy2 => hs5.block y hy2 (by omega))) (by omega), hB5⟩
 have c8 : (k == 8) = false := by simp [h8]
 have E1 : Hid ((Ex.mk k n ks).tidy = .mk k n ks) := by show _ = _; exact Ex.tidy_else h6 h7 h8
 clear htl hk h6 h7 h8
 obtain ⟨g0, g1, sx, cx, g2, g3⟩ := id hx
 simp only [Ex.kind_mk, Ex.num_mk, Ex.kids_mk] at g0 g1 g2
 skip
 go_enter Tryd.func14, Tryd.ntmps14
 go_wp2_with fail
 have R := Blk.new3 w 30 (.int .i64 0) (.int .i64 0) (.slice none 0 0)
 have hB : Below w.heap.size w (w.alloc (.cells #[.int .i64 0, .int .i64 0, .slice none 0 0] 30)) := by (repeat' first | exact Below.refl _ _ | assumption | apply Below.alloc | apply Below.drew | apply Below.setCell | omega | (simp; done) | (simp; omega))
 have hz0 : (w.alloc (.cells #[.int .i64 0, .int .i64 0, .slice none 0 0] 30)).heap.size = w.heap.size + 1 := by simp
 generalize w.alloc (.cells #[.int .i64 0, .int .i64 0, .slice none 0 0] 30) = w1 at R hB hz0 ⊢
 have hx1 := hx.below hB
 clear g0 g1 g2
 refine (l01Own_e hx1 (by omega)).mono ?_
 rintro f w3 ⟨s3, c3, rfl, hf, hb⟩
 replace hB := Below.on hB hb hB.size
 replace R := R.below hb
 have hz3 := hb.size
 -- the function's end: R the result's box, hB; h3 : Freshs W V .. (W below V), E1 : Hid (result = (Ex.mk k n ks))
 -- the result box w.heap.size of world w3 is set to an expression; goal: bodyPost. R : the box; Rests: hs5 : Spares, T2
 have r0 := R.c0
 have r1 := R.c1
 have r2 := R.c2
 have z0 := R.frozen 0
 have z1 := R.frozen 1
 have z2 := R.frozen 2
 have ltR := R.lt
 go_wp2_with fail
 have T2 := ((R.set 0 (.int .i64 (Ex.mk k n ks).kind)).set 1 (.int .i64 (Ex.mk k n ks).num)).set 2 (.slice s3 (Ex.mk k n ks).kids.length c3)
 have hs5 : Spares (fun y => y = w.heap.size) w3 (((w3.setCell ⟨w.heap.size, 0, none⟩ (.int .i64 (Ex.mk k n ks).kind)).setCell ⟨w.heap.size, 1, none⟩ (.int .i64 (Ex.mk k n ks).num)).setCell ⟨w.heap.size, 2, none⟩ (.slice s3 (Ex.mk k n ks).kids.length c3)) := Spares.set (Spares.set (Spares.set (Spares.refl w3)))
 generalize (((w3.setCell ⟨w.heap.size, 0, none⟩ (.int .i64 (Ex.mk k n ks).kind)).setCell ⟨w.heap.size, 1, none⟩ (.int .i64 (Ex.mk k n ks).num)).setCell ⟨w.heap.size, 2, none⟩ (.slice s3 (Ex.mk k n ks).kids.length c3)) = w5 at T2 hs5 ⊢
 have t0 := T2.c0
 have t1 := T2.c1
 have t2 := T2.c2
 have hzB5 := hB.size
 have hB5 := hB.trans (hs5.below (B := w.heap.size) (by omega) (fun y hy => by omega))
 refine bodyPost_ret (v := .agg #[.int .i64 (Ex.mk k n ks).kind, .int .i64 (Ex.mk k n ks).num, .slice s3 (Ex.mk k n ks).kids.length c3]) (by simp [results, Tryd.results14, go_sem, t0, t1, t2]) rfl ?_
 rw [E1.out]
 exact ⟨_, _, rfl, Freshs.from (Freshs.keep hf (fun y _ hy2 => hs5.block y hy2 (by omega))) (by omega), hB5⟩
noncomputable def tidE (t a : Int) (e : Ex) : Ex := if okB t a e = true then e.tidy else Ex.zero
def tidC (t a : Int) (e : Ex) : Int := if okB t a e = true then 0 else 1
theorem tidE_size (t a k n : Int) (ks : List Ex) : Ex.sizeL (tidE t a (.mk k n ks)).kids ≤ Ex.sizeL ks := by
 unfold tidE
 split
 ·
  rename_i h
  have h1 := (tidy_spec _ _ _ (.mk k n ks) (Nat.le_refl _) (okB_tree h)).2
  have h2 := Ex.size_eq (Ex.mk k n ks).tidy
  have h3 : (Ex.mk k n ks).size = 1 + Ex.sizeL ks := by simp only [Ex.size]
  omega
 ·
  simp [Ex.zero, Ex.kids, Ex.sizeL]
end Go.Proofs.YtjlmdhoajfdkbaaDoor

namespace Go.Proofs.YtjlmdhoajfdkbaaDoor
set_option linter.unusedVariables false
set_option linter.unusedSimpArgs false
open Go.ChangeShapes Go.WideShapes Go.ChangeAt Go.RowKit Go.Deep Go.Sort
theorem okB_bd2 {t a : Int} {e : Ex} (h : okB t a e = true) : t - 1 ≤ 8 ∧ a - 1 ≤ 8 ∧ e.size ≤ 200 ∧ e.tree (t - 1) (a - 1) = true := by
 obtain ⟨h1, h2, h3⟩ := okB_bd h
 exact ⟨by omega, by omega, h3, okB_tree h⟩
set_option maxHeartbeats 4000000 in
theorem implTidyExpr_i {t a k n : Int} {ks : List Ex} {s : Option Addr} {c : Nat} {w : World} (hr : Rd w (kidsD ks) (.slice s ks.length c)) (h1 : Ex.sizeL ks ≤ 1048576) :
  Calls Tryd.prog 8 #[.agg #[.int .i64 t, .int .i64 a], .agg #[.int .i64 k, .int .i64 n, .slice s ks.length c]] w fun e w' => ∃ s' c', e = .returned (.tuple #[.agg #[.int .i64 (tidE t a (.mk k n ks)).kind, .int .i64 (tidE t a (.mk k n ks)).num, .slice s' (tidE t a (.mk k n ks)).kids.length c'], .int .i64 (tidC t a (.mk k n ks))]) ∧
   Freshs w w' [kidsD (tidE t a (.mk k n ks)).kids] [.slice s' (tidE t a (.mk k n ks)).kids.length c'] ∧ Below w.heap.size w w' := by
 have Hsz : Hid (Ex.size (.mk k n ks) ≤ 1073741824) := by show _ ≤ _; rw [Ex.size_eq]; simp only [Ex.kids]; omega
 go_enter Tryd.func8, Tryd.ntmps8
 go_wp2_with fail
 have L := ((Blk.new2 w 33 (.int .i64 t) (.int .i64 a)).alloc (.cells #[.int .i64 k, .int .i64 n, .slice s ks.length c] 30)).alloc (.cells #[.int .i64 0, .int .i64 0, .slice none 0 0] 30)
 have M := (Blk.new3 (w.alloc (.cells #[.int .i64 t, .int .i64 a] 33)) 30 (.int .i64 k) (.int .i64 n) (.slice s ks.length c)).alloc (.cells #[.int .i64 0, .int .i64 0, .slice none 0 0] 30)
 simp at M
 have R := Blk.new3 ((w.alloc (.cells #[.int .i64 t, .int .i64 a] 33)).alloc (.cells #[.int .i64 k, .int .i64 n, .slice s ks.length c] 30)) 30 (.int .i64 0) (.int .i64 0) (.slice none 0 0)
 simp at R
 have hB : Below w.heap.size w (((w.alloc (.cells #[.int .i64 t, .int .i64 a] 33)).alloc (.cells #[.int .i64 k, .int .i64 n, .slice s ks.length c] 30)).alloc (.cells #[.int .i64 0, .int .i64 0, .slice none 0 0] 30)) := by (repeat' first | exact Below.refl _ _ | assumption | apply Below.alloc | apply Below.drew | apply Below.setCell | omega | (simp; done) | (simp; omega))
 have hB0 := hB
 generalize (((w.alloc (.cells #[.int .i64 t, .int .i64 a] 33)).alloc (.cells #[.int .i64 k, .int .i64 n, .slice s ks.length c] 30)).alloc (.cells #[.int .i64 0, .int .i64 0, .slice none 0 0] 30)) = v0 at L M R hB hB0 ⊢
 have l0 := L.c0
 have l1 := L.c1
 have m0 := M.c0
 have m1 := M.c1
 have m2 := M.c2
 have r0 := R.c0
 have r1 := R.c1
 have r2 := R.c2
 have ltL := L.lt
 have ltM := M.lt
 have ltR := R.lt
 have zz0 := R.frozen 0
 have zz1 := R.frozen 1
 have zz2 := R.frozen 2
 go_wp2_with fail
 refine (implValidExpr_i (hr.below hB)).mono ?_
 rintro x w1 ⟨rfl, hb⟩
 clear l0 l1 m0 m1 m2 r0 r1 r2 ltL ltM ltR zz0 zz1 zz2
 replace hB := Below.on hB hb hB.size
 replace L := L.below hb
 replace M := M.below hb
 replace R := R.below hb
 clear hb
 have szW1 := hB.size
 have rlt1 := R.lt
 cases hs1 : okB t a (.mk k n ks)
 ·
  have l0 := L.c0
  have l1 := L.c1
  have ltL := L.lt
  have m0 := M.c0
  have m1 := M.c1
  have m2 := M.c2
  have ltM := M.lt
  have r0 := R.c0
  have zz0 := R.frozen 0
  have r1 := R.c1
  have zz1 := R.frozen 1
  have r2 := R.c2
  have zz2 := R.frozen 2
  have ltR := R.lt
  go_wp2_with fail
  have R' := (((R.set 0 (.int .i64 0)).set 1 (.int .i64 0)).set 2 (.slice none 0 0))
  have c0 := R'.c0
  have c1 := R'.c1
  have c2 := R'.c2
  refine bodyPost_ret (v := .tuple #[.agg #[.int .i64 0, .int .i64 0, .slice none 0 0], .int .i64 1]) (by simp [results, Tryd.results8, go_sem, c0, c1, c2]) rfl ?_
  have e1 : tidE t a (.mk k n ks) = .mk 0 0 [] := by simp [tidE, hs1, Ex.zero]
  have e2 : tidC t a (.mk k n ks) = 1 := by simp [tidC, hs1]
  rw [e1, e2]
  exact ⟨none, 0, rfl, fresh_nil1 _ _, by (repeat' first | exact Below.refl _ _ | assumption | apply Below.alloc | apply Below.drew | apply Below.setCell | omega | (simp; done) | (simp; omega))⟩
 have Hs1 := Lib.hid hs1
 clear hs1
 have l0 := L.c0
 have l1 := L.c1
 have m0 := M.c0
 have m1 := M.c1
 have m2 := M.c2
 have r0 := R.c0
 have r1 := R.c1
 have r2 := R.c2
 have ltL := L.lt
 have ltM := M.lt
 have ltR := R.lt
 have zz0 := R.frozen 0
 have zz1 := R.frozen 1
 have zz2 := R.frozen 2
 go_wp2_with fail
 refine (tidy_all (t - 1) (a - 1) (okB_bd2 Hs1.out).1 (okB_bd2 Hs1.out).2.1 _ (.mk k n ks) (fun _ => False) s c _ (Nat.le_refl _) (fun _ h => h.elim) (RdX.all (hr.below hB)) (okB_bd2 Hs1.out).2.2.2 (by have := (okB_bd2 Hs1.out).2.2.1; omega)).mono ?_
 rintro x w2 ⟨sb, cb, rfl, hx, hb⟩
 clear l0 l1 m0 m1 m2 r0 r1 r2 ltL ltM ltR zz0 zz1 zz2
 replace hB := Below.on hB hb hB.size
 replace L := L.below hb
 replace M := M.below hb
 replace R := R.below hb
 clear hb
 have szW2 := hB.size
 have rlt2 := R.lt
 have l0 := L.c0
 have l1 := L.c1
 have m0 := M.c0
 have m1 := M.c1
 have m2 := M.c2
 have r0 := R.c0
 have r1 := R.c1
 have r2 := R.c2
 have ltL := L.lt
 have ltM := M.lt
 have ltR := R.lt
 have zz0 := R.frozen 0
 have zz1 := R.frozen 1
 have zz2 := R.frozen 2
 go_wp2_with fail
 refine (copy_k hx.rd (by have h2 := (tidy_spec _ _ _ (.mk k n ks) (Nat.le_refl _) (okB_bd2 Hs1.out).2.2.2).2; have h3 := (okB_bd2 Hs1.out).2.2.1; rw [Ex.size_eq] at h2; omega)).mono ?_
 rintro x w3 ⟨sd, cd, rfl, hf, hb⟩
 clear l0 l1 m0 m1 m2 r0 r1 r2 ltL ltM ltR zz0 zz1 zz2
 replace hB := Below.on hB hb hB.size
 replace L := L.below hb
 replace M := M.below hb
 replace R := R.below hb
 clear hb
 have szW3 := hB.size
 have rlt3 := R.lt
 have l0 := L.c0
 have l1 := L.c1
 have m0 := M.c0
 have m1 := M.c1
 have m2 := M.c2
 have r0 := R.c0
 have r1 := R.c1
 have r2 := R.c2
 have ltL := L.lt
 have ltM := M.lt
 have ltR := R.lt
 have zz0 := R.frozen 0
 have zz1 := R.frozen 1
 have zz2 := R.frozen 2
 go_wp2_with fail
 have R' := (((R.set 0 (.int .i64 (Ex.tidy (.mk k n ks)).kind)).set 1 (.int .i64 (Ex.tidy (.mk k n ks)).num)).set 2 (.slice sd (Ex.tidy (.mk k n ks)).kids.length cd))
 have c0 := R'.c0
 have c1 := R'.c1
 have c2 := R'.c2
 refine bodyPost_ret (v := .tuple #[.agg #[.int .i64 (Ex.tidy (.mk k n ks)).kind, .int .i64 (Ex.tidy (.mk k n ks)).num, .slice sd (Ex.tidy (.mk k n ks)).kids.length cd], .int .i64 0]) (by simp [results, Tryd.results8, go_sem, c0, c1, c2]) rfl ?_
 have e1 : tidE t a (.mk k n ks) = Ex.tidy (.mk k n ks) := by simp [tidE, Hs1.out]
 have e2 : tidC t a (.mk k n ks) = 0 := by simp [tidC, Hs1.out]
 rw [e1, e2]
 refine ⟨sd, cd, rfl, (hf.keep fun b hb1 hb2 => ?_).from szW2, by (repeat' first | exact Below.refl _ _ | assumption | apply Below.alloc | apply Below.drew | apply Below.setCell | omega | (simp; done) | (simp; omega))⟩
 repeat rw [Below.heap_setCell _ _ _ _ (by show b ≠ w.heap.size + 1 + 1; omega)]
set_option maxHeartbeats 4000000 in
theorem specTidyExpr_i {t a k n : Int} {ks : List Ex} {s : Option Addr} {c : Nat} {w : World} (hr : Rd w (kidsD ks) (.slice s ks.length c)) (h1 : Ex.sizeL ks ≤ 1048576) :
  Calls Tryd.prog 5 #[.agg #[.int .i64 t, .int .i64 a], .agg #[.int .i64 k, .int .i64 n, .slice s ks.length c]] w fun e w' => ∃ s' c', e = .returned (.tuple #[.agg #[.int .i64 (tidE t a (.mk k n ks)).kind, .int .i64 (tidE t a (.mk k n ks)).num, .slice s' (tidE t a (.mk k n ks)).kids.length c'], .int .i64 (tidC t a (.mk k n ks))]) ∧
   Freshs w w' [kidsD (tidE t a (.mk k n ks)).kids] [.slice s' (tidE t a (.mk k n ks)).kids.length c'] ∧ Below w.heap.size w w' := by
 have Hsz : Hid (Ex.size (.mk k n ks) ≤ 1073741824) := by show _ ≤ _; rw [Ex.size_eq]; simp only [Ex.kids]; omega
 go_enter Tryd.func5, Tryd.ntmps5
 go_wp2_with fail
 have L := ((Blk.new2 w 33 (.int .i64 t) (.int .i64 a)).alloc (.cells #[.int .i64 k, .int .i64 n, .slice s ks.length c] 30)).alloc (.cells #[.int .i64 0, .int .i64 0, .slice none 0 0] 30)
 have M := (Blk.new3 (w.alloc (.cells #[.int .i64 t, .int .i64 a] 33)) 30 (.int .i64 k) (.int .i64 n) (.slice s ks.length c)).alloc (.cells #[.int .i64 0, .int .i64 0, .slice none 0 0] 30)
 simp at M
 have R := Blk.new3 ((w.alloc (.cells #[.int .i64 t, .int .i64 a] 33)).alloc (.cells #[.int .i64 k, .int .i64 n, .slice s ks.length c] 30)) 30 (.int .i64 0) (.int .i64 0) (.slice none 0 0)
 simp at R
 have hB : Below w.heap.size w (((w.alloc (.cells #[.int .i64 t, .int .i64 a] 33)).alloc (.cells #[.int .i64 k, .int .i64 n, .slice s ks.length c] 30)).alloc (.cells #[.int .i64 0, .int .i64 0, .slice none 0 0] 30)) := by (repeat' first | exact Below.refl _ _ | assumption | apply Below.alloc | apply Below.drew | apply Below.setCell | omega | (simp; done) | (simp; omega))
 have hB0 := hB
 generalize (((w.alloc (.cells #[.int .i64 t, .int .i64 a] 33)).alloc (.cells #[.int .i64 k, .int .i64 n, .slice s ks.length c] 30)).alloc (.cells #[.int .i64 0, .int .i64 0, .slice none 0 0] 30)) = v0 at L M R hB hB0 ⊢
 have l0 := L.c0
 have l1 := L.c1
 have m0 := M.c0
 have m1 := M.c1
 have m2 := M.c2
 have r0 := R.c0
 have r1 := R.c1
 have r2 := R.c2
 have ltL := L.lt
 have ltM := M.lt
 have ltR := R.lt
 have zz0 := R.frozen 0
 have zz1 := R.frozen 1
 have zz2 := R.frozen 2
 go_wp2_with fail
 refine (l01Ok_i (M.exAt (hr.below hB)) Hsz.out).mono ?_
 rintro x w1 ⟨rfl, hb⟩
 clear l0 l1 m0 m1 m2 r0 r1 r2 ltL ltM ltR zz0 zz1 zz2
 replace hB := Below.on hB hb hB.size
 replace L := L.below hb
 replace M := M.below hb
 replace R := R.below hb
 clear hb
 have szW1 := hB.size
 have rlt1 := R.lt
 cases hs1 : okB t a (.mk k n ks)
 ·
  have l0 := L.c0
  have l1 := L.c1
  have ltL := L.lt
  have m0 := M.c0
  have m1 := M.c1
  have m2 := M.c2
  have ltM := M.lt
  have r0 := R.c0
  have zz0 := R.frozen 0
  have r1 := R.c1
  have zz1 := R.frozen 1
  have r2 := R.c2
  have zz2 := R.frozen 2
  have ltR := R.lt
  go_wp2_with fail
  have R' := (((R.set 0 (.int .i64 0)).set 1 (.int .i64 0)).set 2 (.slice none 0 0))
  have c0 := R'.c0
  have c1 := R'.c1
  have c2 := R'.c2
  refine bodyPost_ret (v := .tuple #[.agg #[.int .i64 0, .int .i64 0, .slice none 0 0], .int .i64 1]) (by simp [results, Tryd.results5, go_sem, c0, c1, c2]) rfl ?_
  have e1 : tidE t a (.mk k n ks) = .mk 0 0 [] := by simp [tidE, hs1, Ex.zero]
  have e2 : tidC t a (.mk k n ks) = 1 := by simp [tidC, hs1]
  rw [e1, e2]
  exact ⟨none, 0, rfl, fresh_nil1 _ _, by (repeat' first | exact Below.refl _ _ | assumption | apply Below.alloc | apply Below.drew | apply Below.setCell | omega | (simp; done) | (simp; omega))⟩
 have Hs1 := Lib.hid hs1
 clear hs1
 have l0 := L.c0
 have l1 := L.c1
 have m0 := M.c0
 have m1 := M.c1
 have m2 := M.c2
 have r0 := R.c0
 have r1 := R.c1
 have r2 := R.c2
 have ltL := L.lt
 have ltM := M.lt
 have ltR := R.lt
 have zz0 := R.frozen 0
 have zz1 := R.frozen 1
 have zz2 := R.frozen 2
 go_wp2_with fail
 refine (l02Tidy_all (t - 1) (a - 1) (okB_bd2 Hs1.out).1 (okB_bd2 Hs1.out).2.1 _ (.mk k n ks) _ _ _ (Nat.le_refl _) (M.exAt (hr.below hB)) (okB_bd2 Hs1.out).2.2.2 (by have := (okB_bd2 Hs1.out).2.2.1; omega)).mono ?_
 rintro x w2 ⟨sb, cb, rfl, hf, hb⟩
 clear l0 l1 m0 m1 m2 r0 r1 r2 ltL ltM ltR zz0 zz1 zz2
 replace hB := Below.on hB hb hB.size
 replace L := L.below hb
 replace M := M.below hb
 replace R := R.below hb
 clear hb
 have szW2 := hB.size
 have rlt2 := R.lt
 have l0 := L.c0
 have l1 := L.c1
 have m0 := M.c0
 have m1 := M.c1
 have m2 := M.c2
 have r0 := R.c0
 have r1 := R.c1
 have r2 := R.c2
 have ltL := L.lt
 have ltM := M.lt
 have ltR := R.lt
 have zz0 := R.frozen 0
 have zz1 := R.frozen 1
 have zz2 := R.frozen 2
 go_wp2_with fail
 have R' := (((R.set 0 (.int .i64 (Ex.tidy (.mk k n ks)).kind)).set 1 (.int .i64 (Ex.tidy (.mk k n ks)).num)).set 2 (.slice sb (Ex.tidy (.mk k n ks)).kids.length cb))
 have c0 := R'.c0
 have c1 := R'.c1
 have c2 := R'.c2
 refine bodyPost_ret (v := .tuple #[.agg #[.int .i64 (Ex.tidy (.mk k n ks)).kind, .int .i64 (Ex.tidy (.mk k n ks)).num, .slice sb (Ex.tidy (.mk k n ks)).kids.length cb], .int .i64 0]) (by simp [results, Tryd.results5, go_sem, c0, c1, c2]) rfl ?_
 have e1 : tidE t a (.mk k n ks) = Ex.tidy (.mk k n ks) := by simp [tidE, Hs1.out]
 have e2 : tidC t a (.mk k n ks) = 0 := by simp [tidC, Hs1.out]
 rw [e1, e2]
 refine ⟨sb, cb, rfl, (hf.keep fun b hb1 hb2 => ?_).from szW1, by (repeat' first | exact Below.refl _ _ | assumption | apply Below.alloc | apply Below.drew | apply Below.setCell | omega | (simp; done) | (simp; omega))⟩
 repeat rw [Below.heap_setCell _ _ _ _ (by show b ≠ w.heap.size + 1 + 1; omega)]
end Go.Proofs.YtjlmdhoajfdkbaaDoor
