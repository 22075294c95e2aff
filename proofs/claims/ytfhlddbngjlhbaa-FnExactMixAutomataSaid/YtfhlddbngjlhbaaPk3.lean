/-
  Parts of a proof, joined: Mark, Nest, Word, MarkW, App, Aps. No condition.
-/
import Derived.Deep.AppendLies
import Derived.Test.YtfhlddbngjlhbaaPk2
namespace Go.Proofs.Ytfhlddbngjlhbaa
set_option linter.unusedVariables false
set_option linter.unusedSimpArgs false
open Go.ChangeShapes Go.WideShapes Go.ChangeAt Go.RowKit Go.Deep
mutual
def D.marks : D → Nat
 | .int _ => 1
 | .bool _ => 1
 | .str _ => 0
 | .raw _ => 0
 | .sl _ _ cs => D.marksL cs
def D.marksL : List D → Nat
 | [] => 0
 | c :: cs => D.marks c + D.marksL cs
end
mutual
def D.mark : D → Nat → D
 | .int _, k => .int k
 | .bool _, k => .bool ((k : Int).tmod 3 == 0)
 | .str s, _ => .str s
 | .raw u, _ => .raw u
 | .sl size n cs, k => .sl size n (D.markL cs k)
def D.markL : List D → Nat → List D
 | [], _ => []
 | c :: cs, k => D.mark c k :: D.markL cs (k + D.marks c)
end
theorem markL_append : ∀ (a b : List D) (k : Nat), D.markL (a ++ b) k = D.markL a k ++ D.markL b (k + D.marksL a)
 | [], b, k => by simp [D.markL, D.marksL]
 | c :: a, b, k => by simp only [List.cons_append, D.markL, D.marksL, markL_append a b, Nat.add_assoc]
theorem markL_length : ∀ (a : List D) (k : Nat), (D.markL a k).length = a.length
 | [], _ => by simp [D.markL]
 | c :: a, k => by simp [D.markL, markL_length a]
theorem markL_at {cs : List D} {j : Nat} {c : D} (h : cs[j]? = some c) (k : Nat) : (D.markL cs k)[j]? = some (c.mark (k + D.marksL (cs.take j))) := by
 obtain ⟨hj, rfl⟩ := List.getElem?_eq_some_iff.1 h
 have e : D.markL cs k = D.markL (cs.take j) k ++ D.markL (cs.drop j) (k + D.marksL (cs.take j)) := by rw [← markL_append, List.take_append_drop]
 rw [e, List.getElem?_append_right (by rw [markL_length, List.length_take]; omega), markL_length, List.length_take, Nat.min_eq_left (by omega), Nat.sub_self, List.drop_eq_getElem_cons hj]
 simp [D.markL]
def mkd (cs : List D) (j k : Nat) : List D := D.markL (cs.take j) k ++ cs.drop j
theorem mkd_zero (cs : List D) (k : Nat) : mkd cs 0 k = cs := by simp [mkd, D.markL]
theorem mkd_all (cs : List D) (k : Nat) : mkd cs cs.length k = D.markL cs k := by simp [mkd]
theorem mkd_at {cs : List D} {i j : Nat} {c : D} (h : cs[i]? = some c) (hij : j ≤ i) (k : Nat) : (mkd cs j k)[i]? = some c := by
 obtain ⟨hj, rfl⟩ := List.getElem?_eq_some_iff.1 h
 unfold mkd
 rw [List.getElem?_append_right (by rw [markL_length, List.length_take]; omega), markL_length, List.length_take, Nat.min_eq_left (by omega), List.getElem?_drop]
 rw [show j + (i - j) = i by omega]
 exact h
theorem mkd_step {cs : List D} {j : Nat} {c : D} (h : cs[j]? = some c) (k : Nat) : (mkd cs j k).set j (c.mark (k + D.marksL (cs.take j))) = mkd cs (j + 1) k := by
 obtain ⟨hj, rfl⟩ := List.getElem?_eq_some_iff.1 h
 unfold mkd
 have e1 : (D.markL (cs.take j) k).length = j := by rw [markL_length, List.length_take]; omega
 rw [List.set_append_right _ _ (by omega), e1, Nat.sub_self, List.drop_eq_getElem_cons hj, List.set_cons_zero, List.take_succ_eq_append_getElem hj, markL_append]
 simp [D.markL]
theorem Ows.split {w : World} : ∀ {cs : List D} {xs : List Value} {F : List Nat}, Ows w cs xs F → ∀ {j : Nat} {c : D}, cs[j]? = some c →
  ∃ x A G B, xs[j]? = some x ∧ F = A ++ (G ++ B) ∧ Ow w c x G ∧
   (∀ w' c' x' G', Ow w' c' x' G' → (∀ b ∈ A ++ B, w'.heap[b]? = w.heap[b]?) → Ows w' (cs.set j c') (xs.set j x') (A ++ (G' ++ B)))
 | [], _, _, _, j, c, hj => by simp at hj
 | c0 :: cs, _, _, h, j, c, hj => by
  simp only [Ows] at h
  obtain ⟨x, r, G, K, rfl, rfl, h1, h2⟩ := h
  cases j with
  | zero =>
   simp at hj
   subst hj
   refine ⟨x, [], G, K, by simp, by simp, h1, fun w' c' x' G' h' hk => ?_⟩
   simp only [List.set_cons_zero, Ows, List.nil_append]
   exact ⟨x', r, G', K, rfl, rfl, h', h2.keep fun b hb => hk b (by simpa using hb)⟩
  | succ j =>
   obtain ⟨y, A, G1, B, e1, e2, e3, e4⟩ := Ows.split h2 (j := j) (c := c) (by simpa using hj)
   subst e2
   refine ⟨y, G ++ A, G1, B, by simpa using e1, by simp, e3, fun w' c' x' G' h' hk => ?_⟩
   have := e4 w' c' x' G' h' (fun b hb => hk b (by
    rcases List.mem_append.1 hb with hb | hb
    ·
     exact List.mem_append_left _ (List.mem_append_right _ hb)
    ·
     exact List.mem_append_right _ hb))
   simp only [List.set_cons_succ, Ows]
   exact ⟨x, _, G, A ++ (G' ++ B), rfl, by simp, h1.keep fun b hb => hk b (by simp [hb]), this⟩
theorem Free.blk {w : World} {b : Nat} (h : Free w b) : ∃ t cur, Blk w b t cur := by
 obtain ⟨cur, t, h⟩ := h
 exact ⟨t, cur.toList, by simpa [Blk] using h⟩
theorem Free.set {w : World} {b : Nat} (h : Free w b) (i : Nat) (v : Value) : Free (w.setCell ⟨b, i, none⟩ v) b := by
 obtain ⟨t, cur, h⟩ := h.blk
 exact (h.set i v).free
theorem Row.set {w : World} {b o : Nat} {xs : List Value} (hf : Free w b) (h : Row w b o xs) (j : Nat) (v : Value) : Row (w.setCell ⟨b, o + j, none⟩ v) b o (xs.set j v) := by
 obtain ⟨t, cur, hb⟩ := hf.blk
 have hb' := hb.set (o + j) v
 intro i hi
 have h1 := h i (by simpa using hi)
 rw [hb.cell] at h1
 rw [hb'.cell, List.getElem?_set, List.getElem?_set]
 by_cases hij : j = i
 ·
  subst hij
  have hlen : j < xs.length := by simpa using hi
  have hcur : o + j < cur.length := by
   by_cases hc : o + j < cur.length
   ·
    exact hc
   ·
    rw [List.getElem?_eq_none (by omega), List.getElem?_eq_getElem hlen] at h1
    cases h1
  simp [hlen, hcur]
 ·
  rw [if_neg (by omega), if_neg hij, h1]
theorem Ow.cells {w : World} {size n len cap : Nat} {cs : List D} {a : Option Addr} {F : List Nat} (h : Ow w (.sl size n cs) (.slice a len cap) F) : len = n ∧ n ≤ cap ∧ cap ≤ maxLen ∧ cs.length = n * size := by
 simp only [Ow] at h
 obtain ⟨a', cap', h1, h2, h3, h4, _⟩ := h
 simp only [Value.slice.injEq] at h1
 obtain ⟨rfl, rfl, rfl⟩ := h1
 exact ⟨rfl, h2, h3, h4⟩
theorem Ow.spot {w : World} {size n len cap : Nat} {cs : List D} {a : Option Addr} {F : List Nat} (h : Ow w (.sl size n cs) (.slice a len cap) F) (hn : 0 < n) : ∃ b o, a = some ⟨b, o, none⟩ := by
 simp only [Ow] at h
 obtain ⟨a', cap', h1, h2, h3, h4, h6, h5⟩ := h
 simp only [Value.slice.injEq] at h1
 obtain ⟨rfl, rfl, rfl⟩ := h1
 rcases h5 with h5 | ⟨b, o, xs, G, e1, _⟩
 ·
  omega
 ·
  exact ⟨b, o, e1⟩
theorem Ow.cell {w : World} {size n b o len cap : Nat} {cs : List D} {F : List Nat} (h : Ow w (.sl size n cs) (.slice (some ⟨b, o, none⟩) len cap) F) (hn : F.Nodup) {j : Nat} {c : D} (hj : cs[j]? = some c) :
  ∃ x G, w.cell? ⟨b, o + j, none⟩ = some x ∧ w.frozen? ⟨b, o + j, none⟩ = false ∧ b ∈ F ∧ b < w.heap.size ∧ b ∉ G ∧ (∀ g ∈ G, g ∈ F) ∧ G.Nodup ∧ Ow w c x G ∧
   (∀ w' c', Ow w' c' x G → Only G w w' → Ow w' (.sl size n (cs.set j c')) (.slice (some ⟨b, o, none⟩) len cap) F) ∧
   (G = [] → ∀ c' x', (∀ w', Ow w' c' x' []) → Ow (w.setCell ⟨b, o + j, none⟩ x') (.sl size n (cs.set j c')) (.slice (some ⟨b, o, none⟩) len cap) F) := by
 simp only [Ow] at h
 obtain ⟨a, cap', h1, h2, h3, h4, h6, h5⟩ := h
 simp only [Value.slice.injEq] at h1
 obtain ⟨rfl, rfl, rfl⟩ := h1
 rcases h5 with ⟨h0, _⟩ | ⟨b', o', xs, K, e1, rfl, hf, hrow, hows⟩
 ·
  have := (List.getElem?_eq_some_iff.1 hj).1
  rw [h4, h0] at this
  omega
 simp only [Option.some.injEq, Addr.mk.injEq, and_true] at e1
 obtain ⟨rfl, rfl⟩ := e1
 obtain ⟨x, A, G, B, s1, s2, s3, s4⟩ := hows.split hj
 subst s2
 rw [List.nodup_cons] at hn
 obtain ⟨hnb, hnd⟩ := hn
 have hbl := hf.lt
 have ndG : G.Nodup := by
  rw [List.nodup_append, List.nodup_append] at hnd
  exact hnd.2.1.1
 have dis : ∀ g ∈ A ++ B, g ∉ G := by
  intro g hg hg'
  rw [List.nodup_append, List.nodup_append] at hnd
  rcases List.mem_append.1 hg with hg | hg
  ·
   exact hnd.2.2 g hg g (List.mem_append_left _ hg') rfl
  ·
   exact hnd.2.1.2.2 g hg' g hg rfl
 have hltAB : ∀ g ∈ A ++ B, g < w.heap.size := fun g hg => hows.lt g (by
  rcases List.mem_append.1 hg with hg | hg
  ·
   exact List.mem_append_left _ hg
  ·
   exact List.mem_append_right _ (List.mem_append_right _ hg))
 have hj' : j < xs.length := (List.getElem?_eq_some_iff.1 s1).1
 refine ⟨x, G, (hrow j hj').trans s1, hf.frozen _, List.mem_cons_self .., hbl, fun hm => hnb (List.mem_append_right _ (List.mem_append_left _ hm)), fun g hg => List.mem_cons_of_mem _ (List.mem_append_right _ (List.mem_append_left _ hg)), ndG, s3, ?_, ?_⟩
 ·
  intro w' c' hc' honly
  have hb' : w'.heap[b]? = w.heap[b]? := honly.block b hbl (fun hm => hnb (List.mem_append_right _ (List.mem_append_left _ hm)))
  have hset := s4 w' c' x G hc' (fun g hg => honly.block g (hltAB g hg) (dis g hg))
  rw [show xs.set j x = xs by
   obtain ⟨hl, hx⟩ := List.getElem?_eq_some_iff.1 s1
   rw [← hx]; exact List.set_getElem_self hl] at hset
  obtain ⟨cur, t, hcur⟩ := hf
  simp only [Ow]
  exact ⟨_, cap, rfl, h2, h3, by rw [List.length_set]; exact h4, h6, Or.inr ⟨b, o, xs, A ++ (G ++ B), rfl, rfl, ⟨cur, t, hb'.trans hcur⟩, hrow.congr hb', hset⟩⟩
 ·
  intro hG c' x' hc'
  subst hG
  have hset := s4 (w.setCell ⟨b, o + j, none⟩ x') c' x' [] (hc' _) (fun g hg => Below.heap_setCell _ _ _ _ (fun e => hnb (by
   have e' : g = b := e
   rw [← e']
   rcases List.mem_append.1 hg with hg | hg
   ·
    exact List.mem_append_left _ hg
   ·
    exact List.mem_append_right _ (List.mem_append_right _ hg))))
  simp only [Ow]
  exact ⟨_, cap, rfl, h2, h3, by rw [List.length_set]; exact h4, h6, Or.inr ⟨b, o, _, _, rfl, rfl, hf.set _ _, hrow.set hf j x', hset⟩⟩
theorem Ow.int_cell {w : World} {size n b o len cap : Nat} {cs : List D} {F : List Nat} (h : Ow w (.sl size n cs) (.slice (some ⟨b, o, none⟩) len cap) F) (hn : F.Nodup) {j : Nat} {z : Int} (hj : cs[j]? = some (.int z)) :
  w.cell? ⟨b, o + j, none⟩ = some (.int .i64 z) ∧ w.frozen? ⟨b, o + j, none⟩ = false ∧ b < w.heap.size ∧
   (∀ z' : Int, Ow (w.setCell ⟨b, o + j, none⟩ (.int .i64 z')) (.sl size n (cs.set j (.int z'))) (.slice (some ⟨b, o, none⟩) len cap) F ∧ Only F w (w.setCell ⟨b, o + j, none⟩ (.int .i64 z'))) := by
 obtain ⟨x, G, h1, h2, h3, h4, h5, h6, h7, h8, h9, h10⟩ := h.cell hn hj
 simp only [Ow] at h8
 obtain ⟨rfl, rfl⟩ := h8
 exact ⟨h1, h2, h4, fun z' => ⟨h10 rfl _ _ (fun _ => Ow.int _), (Only.refl F w).setCell h3 _⟩⟩
theorem Ow.bool_cell {w : World} {size n b o len cap : Nat} {cs : List D} {F : List Nat} (h : Ow w (.sl size n cs) (.slice (some ⟨b, o, none⟩) len cap) F) (hn : F.Nodup) {j : Nat} {z : Bool} (hj : cs[j]? = some (.bool z)) :
  w.cell? ⟨b, o + j, none⟩ = some (.bool z) ∧ w.frozen? ⟨b, o + j, none⟩ = false ∧ b < w.heap.size ∧
   (∀ z' : Bool, Ow (w.setCell ⟨b, o + j, none⟩ (.bool z')) (.sl size n (cs.set j (.bool z'))) (.slice (some ⟨b, o, none⟩) len cap) F ∧ Only F w (w.setCell ⟨b, o + j, none⟩ (.bool z'))) := by
 obtain ⟨x, G, h1, h2, h3, h4, h5, h6, h7, h8, h9, h10⟩ := h.cell hn hj
 simp only [Ow] at h8
 obtain ⟨rfl, rfl⟩ := h8
 exact ⟨h1, h2, h4, fun z' => ⟨h10 rfl _ _ (fun _ => Ow.bool _), (Only.refl F w).setCell h3 _⟩⟩
theorem Ow.sl_cell {w : World} {size n b o len cap : Nat} {cs : List D} {F : List Nat} (h : Ow w (.sl size n cs) (.slice (some ⟨b, o, none⟩) len cap) F) (hn : F.Nodup) {j size' n' : Nat} {ds : List D} (hj : cs[j]? = some (.sl size' n' ds)) :
  ∃ a c G, w.cell? ⟨b, o + j, none⟩ = some (.slice a n' c) ∧ w.frozen? ⟨b, o + j, none⟩ = false ∧ b < w.heap.size ∧ b ∉ G ∧ (∀ g ∈ G, g ∈ F) ∧ G.Nodup ∧ Ow w (.sl size' n' ds) (.slice a n' c) G ∧
   (∀ w' ds', Ow w' (.sl size' n' ds') (.slice a n' c) G → Only G w w' → Ow w' (.sl size n (cs.set j (.sl size' n' ds'))) (.slice (some ⟨b, o, none⟩) len cap) F ∧ Only F w w') := by
 obtain ⟨x, G, h1, h2, h3, h4, h5, h6, h7, h8, h9, h10⟩ := h.cell hn hj
 have h8' := h8
 simp only [Ow] at h8'
 obtain ⟨a, c, rfl, _⟩ := h8'
 exact ⟨a, c, G, h1, h2, h4, h5, h6, h7, h8, fun w' ds' k1 k2 => ⟨h9 w' _ k1 k2, k2.more h6⟩⟩
theorem marksL_ints : ∀ zs : List Int, D.marksL (zs.map D.int) = zs.length
 | [] => rfl
 | z :: r => by simp only [List.map_cons, D.marksL, D.marks, marksL_ints r, List.length_cons]; omega
theorem ints_at {zs : List Int} {i : Nat} {z : Int} (h : zs[i]? = some z) : (zs.map D.int)[i]? = some (D.int z) := by rw [List.getElem?_map, h]; rfl
theorem ints_take (zs : List Int) (i : Nat) (h : i ≤ zs.length) : D.marksL ((zs.map D.int).take i) = i := by rw [← List.map_take, marksL_ints, List.length_take]; omega
end Go.Proofs.Ytfhlddbngjlhbaa

namespace Go.Proofs.Ytfhlddbngjlhbaa
set_option linter.unusedVariables false
set_option linter.unusedSimpArgs false
open Go.ChangeShapes Go.WideShapes Go.ChangeAt Go.RowKit Go.Deep
def nestD {α : Type} (f : α → D) (xs : List α) : D := .sl 1 xs.length (xs.map f)
def boolsD (bs : List Bool) : D := nestD D.bool bs
def bbD (xs : List (List Bool)) : D := nestD boolsD xs
def iiD (xs : List (List Int)) : D := nestD intsD xs
def iiiD (xs : List (List (List Int))) : D := nestD iiD xs
def accL {α : Type} (c : α → Nat) : List α → Nat
 | [] => 0
 | x :: r => c x + accL c r
section
variable {α : Type}
theorem accL_append (c : α → Nat) : ∀ a b : List α, accL c (a ++ b) = accL c a + accL c b
 | [], b => by simp [accL]
 | x :: a, b => by simp only [List.cons_append, accL, accL_append c a b]; omega
theorem accL_take_succ {c : α → Nat} {xs : List α} {i : Nat} {x : α} (h : xs[i]? = some x) : accL c (xs.take (i + 1)) = accL c (xs.take i) + c x := by
 obtain ⟨hi, rfl⟩ := List.getElem?_eq_some_iff.1 h
 rw [List.take_succ_eq_append_getElem hi, accL_append]
 simp [accL]
theorem accL_take_le (c : α → Nat) (xs : List α) (i : Nat) : accL c (xs.take i) ≤ accL c xs := by
 have := accL_append c (xs.take i) (xs.drop i)
 rw [List.take_append_drop] at this
 omega
theorem accL_mem {c : α → Nat} {xs : List α} {i : Nat} {x : α} (h : xs[i]? = some x) : c x ≤ accL c xs := by
 have h1 := accL_take_succ (c := c) h
 have h2 := accL_take_le c xs (i + 1)
 omega
variable {w : World} {f : α → D} {xs : List α}
theorem nest_in {b o len cap : Nat} (h : Rd w (nestD f xs) (.slice (some ⟨b, o, none⟩) len cap)) {i : Nat} {x : α} (hx : xs[i]? = some x) : b < w.heap.size ∧ ∃ v, w.cell? ⟨b, o + i, none⟩ = some v ∧ Rd w (f x) v := by
 obtain ⟨_, _, _, _, _, h4⟩ := Rd.sl_at h
 rcases h4 with h4 | ⟨b', o', e1, h4⟩
 ·
  have := (List.getElem?_eq_some_iff.1 hx).1
  omega
 ·
  simp only [Option.some.injEq, Addr.mk.injEq, and_true] at e1
  obtain ⟨rfl, rfl⟩ := e1
  obtain ⟨v, h5, h6⟩ := h4 i (f x) (by rw [List.getElem?_map, hx]; rfl)
  exact ⟨World.block_lt_of_cell? w _ h5, v, h5, h6⟩
theorem nest_some {a : Option Addr} {len cap : Nat} (h : Rd w (nestD f xs) (.slice a len cap)) (hk : 0 < xs.length) : ∃ b o, a = some ⟨b, o, none⟩ := by
 obtain ⟨_, _, _, _, _, h4⟩ := Rd.sl_at h
 rcases h4 with h4 | ⟨b, o, e, _⟩
 ·
  omega
 ·
  exact ⟨b, o, e⟩
theorem nest_bd {a : Option Addr} {len cap : Nat} (h : Rd w (nestD f xs) (.slice a len cap)) : xs.length ≤ cap ∧ cap ≤ maxLen := by
 obtain ⟨_, h2, h3, _⟩ := Rd.sl_at h
 exact ⟨h2, h3⟩
theorem nest_sl {β : Type} {g : β → D} {ys : List (List β)} {b o len cap : Nat} (h : Rd w (nestD (nestD g) ys) (.slice (some ⟨b, o, none⟩) len cap)) {i : Nat} {x : List β} (hx : ys[i]? = some x) :
  b < w.heap.size ∧ ∃ s c, w.cell? ⟨b, o + i, none⟩ = some (.slice s x.length c) ∧ Rd w (nestD g x) (.slice s x.length c) := by
 obtain ⟨h1, v, h2, h3⟩ := nest_in h hx
 obtain ⟨s, c, rfl, _⟩ := Rd.slice h3
 exact ⟨h1, s, c, h2, h3⟩
theorem marksL_map : ∀ xs : List α, D.marksL (xs.map f) = accL (fun x => (f x).marks) xs
 | [] => rfl
 | x :: r => by simp only [List.map_cons, D.marksL, accL, marksL_map r]
theorem map_at {i : Nat} {x : α} (h : xs[i]? = some x) : (xs.map f)[i]? = some (f x) := by rw [List.getElem?_map, h]; rfl
theorem map_take_marks (i : Nat) : D.marksL ((xs.map f).take i) = accL (fun x => (f x).marks) (xs.take i) := by rw [← List.map_take, marksL_map]
theorem Part.nest {w' : World} {g t len k : Nat} {x : α} {v : Value} (h : Part w g t ((xs.take k).map f) len) (hx : xs[k]? = some x) (hf : Fresh w w' (f x) v) (hb : Below w.heap.size w w') (hk : k + 1 ≤ len) :
  Part (w'.setCell ⟨g, k, none⟩ v) g t ((xs.take (k + 1)).map f) len := by
 obtain ⟨hlt, rfl⟩ := List.getElem?_eq_some_iff.1 hx
 obtain ⟨F, h1, h2, h3⟩ := hf
 rw [List.take_succ_eq_append_getElem hlt, List.map_append]
 exact h.one hb h1 h2 h3 (by simp; omega) hk
theorem Part.bool {bs : List Bool} {g t len k : Nat} {z : Bool} (h : Part w g t ((bs.take k).map D.bool) len) (hz : bs[k]? = some z) (hk : k + 1 ≤ len) :
  Part (w.setCell ⟨g, k, none⟩ (.bool z)) g t ((bs.take (k + 1)).map D.bool) len := by
 obtain ⟨hlt, rfl⟩ := List.getElem?_eq_some_iff.1 hz
 rw [List.take_succ_eq_append_getElem hlt, List.map_append]
 exact h.one (Below.refl _ _) (Ow.bool _) (by simp) (by simp) (by simp; omega) hk
theorem bool_in {bs : List Bool} {b o len cap : Nat} (h : Rd w (boolsD bs) (.slice (some ⟨b, o, none⟩) len cap)) {i : Nat} {z : Bool} (hz : bs[i]? = some z) : b < w.heap.size ∧ w.cell? ⟨b, o + i, none⟩ = some (.bool z) := by
 obtain ⟨h1, v, h2, h3⟩ := nest_in h hz
 simp only [Rd] at h3
 subst h3
 exact ⟨h1, h2⟩
end
theorem bools_marks : ∀ zs : List Bool, (boolsD zs).marks = zs.length := by
 intro zs
 show D.marksL (zs.map D.bool) = zs.length
 induction zs with
 | nil => rfl
 | cons z r ih => simp only [List.map_cons, D.marksL, D.marks, ih, List.length_cons]; omega
theorem bools_take (zs : List Bool) (i : Nat) (h : i ≤ zs.length) : D.marksL ((zs.map D.bool).take i) = i := by
 rw [← List.map_take]
 have := bools_marks (zs.take i)
 rw [List.length_take, Nat.min_eq_left h] at this
 exact this
theorem mark_bool {z : Bool} {q : Nat} : D.mark (.bool z) q = .bool ((q : Int) % 3 == 0) := by
 simp only [D.mark]
 congr 2
theorem take_same {α : Type} {xs ys : List α} {k : Nat} {x : α} (hx : xs[k]? = some x) (hy : ys[k]? = some x) (h : xs.take k = ys.take k) : xs.take (k + 1) = ys.take (k + 1) := by
 obtain ⟨h1, e1⟩ := List.getElem?_eq_some_iff.1 hx
 obtain ⟨h2, e2⟩ := List.getElem?_eq_some_iff.1 hy
 rw [List.take_succ_eq_append_getElem h1, List.take_succ_eq_append_getElem h2, h, e1, e2]
end Go.Proofs.Ytfhlddbngjlhbaa

namespace Go.Proofs.Ytfhlddbngjlhbaa
set_option linter.unusedVariables false
set_option linter.unusedSimpArgs false
open Go.ChangeShapes Go.WideShapes Go.ChangeAt Go.RowKit
def SzR (n : Nat) (left : Int) (e : Ending) : Prop := ∃ r : Int, e = .returned (.int .i64 r) ∧ r ≤ left ∧ -1 ≤ r ∧ (0 ≤ r → (n : Int) + r ≤ left)
end Go.Proofs.Ytfhlddbngjlhbaa

namespace Go.Proofs.Ytfhlddbngjlhbaa
set_option linter.unusedVariables false
set_option linter.unusedSimpArgs false
open Go.ChangeShapes Go.WideShapes Go.ChangeAt Go.RowKit Go.Sort
theorem markInt64S_i {zs : List Int} {s : Option Addr} {c k : Nat} {F : List Nat} {w : World} (h : Ow w (intsD zs) (.slice s zs.length c) F) (hn : F.Nodup) (hk : k ≤ 1000000000000) (hlen : zs.length ≤ 1000000000000) :
  Calls Try.prog 78 #[.slice s zs.length c, .int .i64 k] w fun e w' => e = .returned (.int .i64 (k + zs.length : Nat)) ∧ Ow w' (D.mark (intsD zs) k) (.slice s zs.length c) F ∧ Only F w w' := by
 have H0 : Ow w (.sl 1 zs.length (mkd (zs.map D.int) 0 k)) (.slice s zs.length c) F := by rw [mkd_zero]; exact h
 go_enter Try.func78, Try.ntmps78
 go_wp2_with fail
 go_loopw [1, 5] (fun q i wr => ∃ j : Nat, j ≤ zs.length ∧ i = .int .i64 j ∧ q = .int .i64 (k + j : Nat) ∧ Ow wr (.sl 1 zs.length (mkd (zs.map D.int) j k)) (.slice s zs.length c) F ∧ Only F w wr) (fun _ i _ => zs.length - (intOf i).toNat)
 case atStart => exact ⟨0, by omega, rfl, rfl, H0, Only.refl _ _⟩
 case round =>
  clear h H0
  obtain ⟨j, hj, rfl, rfl, h, hO⟩ := hrel
  by_cases hlt : j < zs.length
  ·
   obtain ⟨z, hz⟩ : ∃ e, zs[j]? = some e := ⟨_, List.getElem?_eq_getElem hlt⟩
   obtain ⟨b, o, rfl⟩ := h.spot (by omega)
   have hat := mkd_at (ints_at hz) (Nat.le_refl j) k
   obtain ⟨g0, g1, g2, g3⟩ := h.int_cell hn hat
   have Hst : Hid (Ow (wr.setCell ⟨b, o + j, none⟩ (.int .i64 (k + j : Nat))) (.sl 1 zs.length (mkd (zs.map D.int) (j + 1) k)) (.slice (some ⟨b, o, none⟩) zs.length c) F ∧ Only F w (wr.setCell ⟨b, o + j, none⟩ (.int .i64 (k + j : Nat)))) := by
    obtain ⟨q1, q2⟩ := g3 (k + j : Nat)
    refine ⟨?_, hO.trans q2⟩
    have e := mkd_step (ints_at hz) k
    rw [ints_take _ _ hj] at e
    rw [← e]
    exact q1
   clear g3 hat
   go_wp2_with fail
   go_roundw
   case rel => exact ⟨j + 1, by omega, by go_num, by go_num, Hst.out.1, Hst.out.2⟩
   case measure => simp [intOf]; omega
  ·
   obtain rfl : j = zs.length := by omega
   have e := mkd_all (zs.map D.int) k
   rw [List.length_map] at e
   rw [e] at h
   go_wp2_with fail
   go_ret
   exact ⟨rfl, h, hO⟩
theorem heldInt64S_i {zs : List Int} {s : Option Addr} {c k : Nat} {w : World} (h : Rd w (D.mark (intsD zs) k) (.slice s zs.length c)) (hk : k ≤ 1000000000000) (hlen : zs.length ≤ 1000000000000) :
  Calls Try.prog 79 #[.slice s zs.length c, .int .i64 k] w fun e w' => e = .returned (.int .i64 (k + zs.length : Nat)) ∧ w = w' := by
 have h' := h
 unfold intsD D.mark at h'
 obtain ⟨-, -, -, -, -, h4⟩ := h'.sl_at
 go_enter Try.func79, Try.ntmps79
 go_wp2_with fail
 go_loop [1, 5] (fun q i => ∃ j : Nat, j ≤ zs.length ∧ i = .int .i64 j ∧ q = .int .i64 (k + j : Nat)) (fun _ i => zs.length - (intOf i).toNat)
 case atStart => exact ⟨0, by omega, rfl, rfl⟩
 case round =>
  obtain ⟨j, hj, rfl, rfl⟩ := hrel
  by_cases hlt : j < zs.length
  ·
   obtain ⟨z, hz⟩ : ∃ e, zs[j]? = some e := ⟨_, List.getElem?_eq_getElem hlt⟩
   have hat := markL_at (ints_at hz) k
   rw [ints_take _ _ hj] at hat
   rcases h4 with h4 | ⟨b, o, rfl, h4⟩
   ·
    omega
   obtain ⟨x, hx, hr⟩ := h4 _ _ hat
   simp only [D.mark, Rd] at hr
   subst hr
   clear h4 hat
   go_wp2_with fail
   go_round
   case rel => exact ⟨j + 1, by omega, by go_num, by go_num⟩
   case measure => simp [intOf]; omega
  ·
   obtain rfl : j = zs.length := by omega
   go_wp2_with fail
   go_ret
   exact ⟨rfl, rfl⟩
theorem Ows.two {w : World} {d e : D} {u v : Value} {F : List Nat} (h : Ows w [d, e] [u, v] F) : ∃ G K, F = G ++ K ∧ Ow w d u G ∧ Ow w e v K := by
 simp only [Ows] at h
 obtain ⟨x, r, G, K, e1, rfl, h1, y, q, A, B, e2, rfl, h2, e3, rfl⟩ := h
 simp only [List.cons.injEq] at e1
 obtain ⟨rfl, rfl⟩ := e1
 simp only [List.cons.injEq] at e2
 obtain ⟨rfl, _⟩ := e2
 exact ⟨G, A, by simp, h1, h2⟩
theorem Ows.mk2 {w : World} {d e : D} {u v : Value} {G K : List Nat} (h : Ow w d u G) (k : Ow w e v K) : Ows w [d, e] [u, v] (G ++ K) := by
 have := Ows.cons h (Ows.cons k Ows.nil)
 simpa using this
end Go.Proofs.Ytfhlddbngjlhbaa

namespace Go.Proofs.Ytfhlddbngjlhbaa
set_option linter.unusedVariables false
set_option linter.unusedSimpArgs false
open Go.ChangeShapes Go.WideShapes Go.ChangeAt Go.RowKit Go.Deep
def App (W w : World) (t : TypeId) (size n : Nat) (ds : List D) (v : Value) : Prop :=
 ∃ xs F, w.ownsRow W.heap.size t size v n xs ∧ Ows w ds xs F ∧ F.Nodup ∧ ∀ b ∈ F, W.heap.size ≤ b ∧ v.ownBlock ≠ some b
theorem App.len {W w : World} {t size n : Nat} {ds : List D} {v : Value} (h : App W w t size n ds v) : ds.length = n * size := by
 obtain ⟨xs, F, h1, h2, _⟩ := h
 rw [← h2.length, h1.1]
theorem App.fresh {W w : World} {t size n : Nat} {ds : List D} {v : Value} (h : App W w t size n ds v) : Fresh W w (.sl size n ds) v := by
 have hlen := h.len
 obtain ⟨xs, F, h1, h2, h3, h4⟩ := h
 have hxl := h1.1
 rcases h1.2 with ⟨rfl, rfl⟩ | ⟨g, cap, cur, rfl, hg, hb, h5, h6, h7, h8⟩
 ·
  exact ⟨[], by simp only [Ow]; exact ⟨_, 0, rfl, by omega, by simp [maxLen], hlen, by simp, Or.inl (by simp)⟩, by simp, by simp⟩
 ·
  by_cases h0 : n = 0
  ·
   exact ⟨[], by simp only [Ow]; exact ⟨_, cap, rfl, h5, h6, hlen, by simp, Or.inl (by simp [h0])⟩, by simp, by simp⟩
  ·
   have hblk : Blk w g t cur.toList := by simpa [Blk] using hb
   refine ⟨g :: F, by simp only [Ow]; exact ⟨_, cap, rfl, h5, h6, hlen, by simp, Or.inr ⟨g, 0, xs, F, rfl, rfl, hblk.free, hblk.row (by rw [hxl]; exact h8), h2⟩⟩, ?_, ?_⟩
   ·
    rw [List.nodup_cons]
    exact ⟨fun hm => (h4 g hm).2 rfl, h3⟩
   ·
    intro b hm
    rcases List.mem_cons.1 hm with rfl | hm
    ·
     exact hg
    ·
     exact (h4 b hm).1
theorem App.rd {W w : World} {t size n : Nat} {ds : List D} {v : Value} (h : App W w t size n ds v) : Rd w (.sl size n ds) v := h.fresh.rd
end Go.Proofs.Ytfhlddbngjlhbaa

namespace Go.Proofs.Ytfhlddbngjlhbaa
set_option linter.unusedVariables false
set_option linter.unusedSimpArgs false
open Go.ChangeShapes Go.WideShapes Go.ChangeAt Go.RowKit Go.Deep
def AppS (S : Nat → Prop) (w : World) (t : TypeId) (size n : Nat) (ds : List D) (v : Value) : Prop :=
 ∃ xs F, w.ownsRow 0 t size v n xs ∧ Ows w ds xs F ∧ F.Nodup ∧ (∀ b ∈ F, S b ∧ v.ownBlock ≠ some b) ∧ ∀ b, v.ownBlock = some b → S b
def OwS (S : Nat → Prop) (w : World) (ds : List D) (vs : List Value) : Prop := ∃ F : List Nat, Ows w ds vs F ∧ F.Nodup ∧ ∀ b ∈ F, S b
theorem OwS.keep {S : Nat → Prop} {w w' : World} {ds : List D} {vs : List Value} (h : OwS S w ds vs) (hk : ∀ b, b < w.heap.size → S b → w'.heap[b]? = w.heap[b]?) : OwS S w' ds vs := by
 obtain ⟨F, h1, h2, h3⟩ := h
 exact ⟨F, h1.keep fun b hb => hk b (h1.lt b hb) (h3 b hb), h2, h3⟩
theorem OwS.more {S T : Nat → Prop} {w : World} {ds : List D} {vs : List Value} (h : OwS S w ds vs) (hs : ∀ b, b < w.heap.size → S b → T b) : OwS T w ds vs := by
 obtain ⟨F, h1, h2, h3⟩ := h
 exact ⟨F, h1, h2, fun b hb => hs b (h1.lt b hb) (h3 b hb)⟩
theorem AppS.keep {S : Nat → Prop} {w w' : World} {t size n : Nat} {ds : List D} {v : Value} (h : AppS S w t size n ds v) (hk : ∀ b, b < w.heap.size → S b → w'.heap[b]? = w.heap[b]?) : AppS S w' t size n ds v := by
 obtain ⟨xs, F, h1, h2, h3, h4, h5⟩ := h
 refine ⟨xs, F, ⟨h1.1, ?_⟩, h2.keep fun b hb => hk b (h2.lt b hb) (h4 b hb).1, h3, h4, h5⟩
 rcases h1.2 with h | ⟨g, cap, cur, e, hg, hb, hr⟩
 ·
  exact Or.inl h
 ·
  exact Or.inr ⟨g, cap, cur, e, hg, (hk g (Array.getElem?_eq_some_iff.1 hb).1 (h5 g (by rw [e]; rfl))).trans hb, hr⟩
theorem AppS.more {S T : Nat → Prop} {w : World} {t size n : Nat} {ds : List D} {v : Value} (h : AppS S w t size n ds v) (hs : ∀ b, b < w.heap.size → S b → T b) : AppS T w t size n ds v := by
 obtain ⟨xs, F, h1, h2, h3, h4, h5⟩ := h
 exact ⟨xs, F, h1, h2, h3, fun b hb => ⟨hs b (h2.lt b hb) (h4 b hb).1, (h4 b hb).2⟩, fun b hb => hs b (h1.lt b hb).2 (h5 b hb)⟩
theorem AppS.app {S : Nat → Prop} {W w : World} {t size n : Nat} {ds : List D} {v : Value} (h : AppS S w t size n ds v) (hS : ∀ b, S b → W.heap.size ≤ b) : App W w t size n ds v := by
 obtain ⟨xs, F, h1, h2, h3, h4, h5⟩ := h
 refine ⟨xs, F, ⟨h1.1, ?_⟩, h2, h3, fun b hb => ⟨hS b (h4 b hb).1, (h4 b hb).2⟩⟩
 rcases h1.2 with h | ⟨g, cap, cur, e, _, hb, hr⟩
 ·
  exact Or.inl h
 ·
  exact Or.inr ⟨g, cap, cur, e, hS g (h5 g (by rw [e]; rfl)), hb, hr⟩
theorem AppS.shape {S : Nat → Prop} {w : World} {t size n : Nat} {ds : List D} {v : Value} (h : AppS S w t size n ds v) : ∃ a cap, v = .slice a n cap ∧ n ≤ cap ∧ cap ≤ maxLen := by
 obtain ⟨xs, F, ⟨_, h1⟩, _⟩ := h
 rcases h1 with ⟨rfl, rfl⟩ | ⟨g, cap, cur, rfl, _, _, h2, h3, _⟩
 ·
  exact ⟨none, 0, rfl, by omega, by simp [maxLen]⟩
 ·
  exact ⟨_, cap, rfl, h2, h3⟩
theorem news_blk {w : World} {g T : Nat} {vs : List Value} (h : Blk w g T vs) : ∀ j u, vs[j]? = some u → w.cell? ((⟨g, 0, none⟩ : Addr).add j) = some u := by
 intro j u hj
 rw [add_plain, Nat.zero_add, h.cell, hj]
theorem wpList_append_s {P : Program} (w : World) {ops : Array Oper} {rest : List Oper} {o : Oper} {a : Act} {Q : Exit → Act → World → Prop} (hgd : o.guard = none) (s x : Operand) (t : TypeId)
  (ho : o.op = .call { callee := .builtin .append, args := #[s, x], argTypes := #[t, t] })
  (e : TypeId) (z : Value) (size bytes : Nat) (ht : P.underlying t = some (.slice e)) (hinfo : (P.info? e).map (fun i => (i.zero, i.size, i.bytes)) = some (some z, size, bytes)) (hzs : z.cells.size = size) (hsz : 0 < size)
  {S T : Nat → Prop} (v : Value) {n : Nat} {ds : List D} (hs : a.eval s = v) (happ : AppS S w e size n ds v)
  (ad : Addr) (m c : Nat) {es : List D} (news : List Value) (hx : a.eval x = .slice (some ad) m c) (hnews : ∀ j u, news[j]? = some u → w.cell? (ad.add j) = some u) (hes : OwS T w es news) (hST : ∀ b, b < w.heap.size → S b → T b → False)
  (hl : news.length = m * size) (h1 : ∀ u ∈ news, u.oneCell' = true) (hm : 0 < m) (hbytes : (n + m) * bytes ≤ 140737488355328) (h63 : n + m ≤ maxLen)
  (h : ∀ g cap w', AppS (fun b => S b ∨ T b ∨ (w.heap.size ≤ b ∧ b < w'.heap.size)) w' e size (n + m) (ds ++ es) (.slice (some ⟨g, 0, none⟩) (n + m) cap) → Spares S w w' →
   wpList P ops Q rest (a.put o.dst (.slice (some ⟨g, 0, none⟩) (n + m) cap)) w') : wpList P ops Q (o :: rest) a w := by
 obtain ⟨i, hi, hz, hsize, hby⟩ := info_parts hinfo
 obtain ⟨xs, F, a1, a2, a3, a4, a5⟩ := happ
 obtain ⟨G, g1, g2, g3⟩ := hes
 refine wpList_append_lies w hgd s x t ho 0 e i z size bytes ht hi hz hsize hby hzs hsz v n xs hs a1 ad m c news hx hl hnews h1 hm h63 hbytes (Nat.zero_le _) w.heap.size rfl ?_
 intro g cap w' k1 k2 k3 k4
 have hF : ∀ b ∈ F, some b ≠ v.ownBlock := fun b hb' e => (a4 b hb').2 e.symm
 have hG : ∀ b ∈ G, some b ≠ v.ownBlock := fun b hb' e => hST b (g1.lt b hb') (a5 b e.symm) (g3 b hb')
 have hgb : ∀ b, some b ≠ v.ownBlock → b < w.heap.size → Value.ownBlock (.slice (some ⟨g, 0, none⟩) (n + m) cap) ≠ some b := by
  intro b hne hlt e
  simp only [Value.ownBlock, Option.some.injEq] at e
  subst e
  rcases k3 with k3 | k3
  ·
   exact hne k3.symm
  ·
   omega
 refine h g cap w' ⟨xs ++ news, F ++ G, k1, Ows.append (a2.keep fun b hb' => k2.block b (a2.lt b hb') (hF b hb')) (g1.keep fun b hb' => k2.block b (g1.lt b hb') (hG b hb')), ?_, ?_, ?_⟩
  ⟨k2.os, k2.tape, k2.output, k2.size, fun b hb' hn => k2.block b hb' (fun e => hn (a5 b e.symm))⟩
 ·
  rw [List.nodup_append]
  refine ⟨a3, g2, fun p hp q hq hpq => ?_⟩
  subst hpq
  exact hST p (a2.lt p hp) (a4 p hp).1 (g3 p hq)
 ·
  intro b hm'
  rcases List.mem_append.1 hm' with hm' | hm'
  ·
   exact ⟨Or.inl (a4 b hm').1, hgb b (hF b hm') (a2.lt b hm')⟩
  ·
   exact ⟨Or.inr (Or.inl (g3 b hm')), hgb b (hG b hm') (g1.lt b hm')⟩
 ·
  intro b hb'
  simp only [Value.ownBlock, Option.some.injEq] at hb'
  subst hb'
  rcases k3 with k3 | k3
  ·
   exact Or.inl (a5 _ k3)
  ·
   exact Or.inr (Or.inr ⟨by omega, k4⟩)
end Go.Proofs.Ytfhlddbngjlhbaa
