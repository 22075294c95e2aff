/-
  Parts of a proof, joined: Mem, Rg. No condition.
-/
import Derived.WalkKit
import Derived.ProofKit
import Derived.OpenShut
import Derived.ChangeSame
import Derived.Carry
import Derived.Deep.Slices
import Derived.Deep.LoopGhost
import Derived.Deep.DeepFit
import Derived.Deep.DeepMust
import Derived.Deep.RegionWith
import Derived.Deep.RegionHeld3
import Derived.Deep.QuietTactic
import Derived.BigQuiet
import Derived.WalkSpells
import Derived.WalkLawsBesides
import Derived.WalkSmall
import Derived.Lib.Hide
import Derived.Lib.QuietBelow
import Derived.Deep.CutRange
namespace Go.Proofs.YtcokljhamhgelaaGreatDoor
set_option linter.unusedVariables false
set_option linter.unusedSimpArgs false
open Go.ChangeShapes Go.WideShapes Go.ChangeAt Go.RowKit Go.Deep
inductive D where
 | int (n : Int)
 | bool (b : Bool)
 | str (s : ByteArray)
 | raw (u : Value)
 | sl (size n : Nat) (cs : List D)
def Row (w : World) (b o : Nat) (xs : List Value) : Prop := ∀ i, i < xs.length → w.cell? ⟨b, o + i, none⟩ = xs[i]?
mutual
def Rd (w : World) : D → Value → Prop
 | .int n, v => v = .int .i64 n
 | .bool b, v => v = .bool b
 | .str s, v => v = .string s ∧ s.size ≤ maxLen
 | .raw u, v => v = u ∧ u.oneCell' = true
 | .sl size n cs, v => ∃ a cap, v = .slice a n cap ∧ n ≤ cap ∧ cap ≤ maxLen ∧ cs.length = n * size ∧ (a = none → cap = 0) ∧ ((n = 0) ∨ ∃ b o xs, a = some ⟨b, o, none⟩ ∧ Row w b o xs ∧ Rds w cs xs)
def Rds (w : World) : List D → List Value → Prop
 | [], xs => xs = []
 | c :: cs, xs => ∃ x r, xs = x :: r ∧ Rd w c x ∧ Rds w cs r
end
def Free (w : World) (b : Nat) : Prop := ∃ cur t, w.heap[b]? = some (.cells cur t (0, 0))
mutual
def Ow (w : World) : D → Value → List Nat → Prop
 | .int n, v, F => v = .int .i64 n ∧ F = []
 | .bool b, v, F => v = .bool b ∧ F = []
 | .str s, v, F => (v = .string s ∧ s.size ≤ maxLen) ∧ F = []
 | .raw u, v, F => (v = u ∧ u.oneCell' = true) ∧ F = []
 | .sl size n cs, v, F => ∃ a cap, v = .slice a n cap ∧ n ≤ cap ∧ cap ≤ maxLen ∧ cs.length = n * size ∧ (a = none → cap = 0) ∧ ((n = 0 ∧ F = []) ∨ ∃ b o xs G, a = some ⟨b, o, none⟩ ∧ F = b :: G ∧ Free w b ∧ Row w b o xs ∧ Ows w cs xs G)
def Ows (w : World) : List D → List Value → List Nat → Prop
 | [], xs, F => xs = [] ∧ F = []
 | c :: cs, xs, F => ∃ x r G K, xs = x :: r ∧ F = G ++ K ∧ Ow w c x G ∧ Ows w cs r K
end
mutual
theorem Ow.rd {w : World} : ∀ {d : D} {v : Value} {F : List Nat}, Ow w d v F → Rd w d v
 | .int _, _, _, h => by simp only [Ow] at h; simp only [Rd]; exact h.1
 | .bool _, _, _, h => by simp only [Ow] at h; simp only [Rd]; exact h.1
 | .str _, _, _, h => by simp only [Ow] at h; simp only [Rd]; exact h.1
 | .raw _, _, _, h => by simp only [Ow] at h; simp only [Rd]; exact h.1
 | .sl _ _ cs, _, _, h => by
  simp only [Ow] at h
  simp only [Rd]
  obtain ⟨a, cap, h1, h2, h3, h4, h6, h5⟩ := h
  refine ⟨a, cap, h1, h2, h3, h4, h6, ?_⟩
  rcases h5 with h5 | ⟨b, o, xs, G, e1, _, _, e3, e4⟩
  ·
   exact Or.inl h5.1
  ·
   exact Or.inr ⟨b, o, xs, e1, e3, Ows.rds e4⟩
theorem Ows.rds {w : World} : ∀ {cs : List D} {xs : List Value} {F : List Nat}, Ows w cs xs F → Rds w cs xs
 | [], _, _, h => by simp only [Ows] at h; simp only [Rds]; exact h.1
 | c :: cs, _, _, h => by
  simp only [Ows] at h
  obtain ⟨x, r, G, K, e1, _, h1, h2⟩ := h
  simp only [Rds]
  exact ⟨x, r, e1, Ow.rd h1, Ows.rds h2⟩
end
theorem Row.congr {w w' : World} {b o : Nat} {xs : List Value} (h : Row w b o xs) (hb : w'.heap[b]? = w.heap[b]?) : Row w' b o xs :=
 fun i hi => (World.cell?_of_block (w := w) (w' := w') (a := ⟨b, o + i, none⟩) hb).trans (h i hi)
theorem Row.lt {w : World} {b o : Nat} {xs : List Value} (h : Row w b o xs) (hx : xs ≠ []) : b < w.heap.size := by
 cases xs with
 | nil => exact absurd rfl hx
 | cons x r => exact World.block_lt_of_cell? w ⟨b, o + 0, none⟩ (by simpa using h 0 (by simp))
theorem Free.lt {w : World} {b : Nat} (h : Free w b) : b < w.heap.size := by
 obtain ⟨cur, t, h⟩ := h
 exact (Array.getElem?_eq_some_iff.1 h).1
mutual
theorem Ow.lt {w : World} : ∀ {d : D} {v : Value} {F : List Nat}, Ow w d v F → ∀ b ∈ F, b < w.heap.size
 | .int _, _, _, h => by simp only [Ow] at h; rw [h.2]; simp
 | .bool _, _, _, h => by simp only [Ow] at h; rw [h.2]; simp
 | .str _, _, _, h => by simp only [Ow] at h; rw [h.2]; simp
 | .raw _, _, _, h => by simp only [Ow] at h; rw [h.2]; simp
 | .sl _ _ cs, _, _, h => by
  simp only [Ow] at h
  obtain ⟨a, cap, h1, h2, h3, h4, h6, h5⟩ := h
  rcases h5 with h5 | ⟨b, o, xs, G, e1, e5, hf, e3, e4⟩
  ·
   rw [h5.2]; simp
  ·
   rw [e5]
   intro k hk
   rcases List.mem_cons.1 hk with rfl | hk
   ·
    exact hf.lt
   ·
    exact Ows.lt e4 k hk
theorem Ows.lt {w : World} : ∀ {cs : List D} {xs : List Value} {F : List Nat}, Ows w cs xs F → ∀ b ∈ F, b < w.heap.size
 | [], _, _, h => by simp only [Ows] at h; rw [h.2]; simp
 | c :: cs, _, _, h => by
  simp only [Ows] at h
  obtain ⟨x, r, G, K, e1, e2, h1, h2⟩ := h
  rw [e2]
  intro k hk
  rcases List.mem_append.1 hk with hk | hk
  ·
   exact Ow.lt h1 k hk
  ·
   exact Ows.lt h2 k hk
end
mutual
theorem Ow.keep {w w' : World} : ∀ {d : D} {v : Value} {F : List Nat}, Ow w d v F → (∀ b ∈ F, w'.heap[b]? = w.heap[b]?) → Ow w' d v F
 | .int _, _, _, h, _ => by simp only [Ow] at h ⊢; exact h
 | .bool _, _, _, h, _ => by simp only [Ow] at h ⊢; exact h
 | .str _, _, _, h, _ => by simp only [Ow] at h ⊢; exact h
 | .raw _, _, _, h, _ => by simp only [Ow] at h ⊢; exact h
 | .sl _ _ cs, _, _, h, hk => by
  simp only [Ow] at h ⊢
  obtain ⟨a, cap, h1, h2, h3, h4, h6, h5⟩ := h
  refine ⟨a, cap, h1, h2, h3, h4, h6, ?_⟩
  rcases h5 with h5 | ⟨b, o, xs, G, e1, e5, ⟨cur, t, hf⟩, e3, e4⟩
  ·
   exact Or.inl h5
  ·
   subst e5
   have hb := hk b (List.mem_cons_self ..)
   exact Or.inr ⟨b, o, xs, G, e1, rfl, ⟨cur, t, hb.trans hf⟩, e3.congr hb, Ows.keep e4 fun k h => hk k (List.mem_cons_of_mem _ h)⟩
theorem Ows.keep {w w' : World} : ∀ {cs : List D} {xs : List Value} {F : List Nat}, Ows w cs xs F → (∀ b ∈ F, w'.heap[b]? = w.heap[b]?) → Ows w' cs xs F
 | [], _, _, h, _ => by simp only [Ows] at h ⊢; exact h
 | c :: cs, _, _, h, hk => by
  simp only [Ows] at h ⊢
  obtain ⟨x, r, G, K, e1, e2, h1, h2⟩ := h
  subst e2
  exact ⟨x, r, G, K, e1, rfl, Ow.keep h1 fun k h => hk k (List.mem_append_left _ h), Ows.keep h2 fun k h => hk k (List.mem_append_right _ h)⟩
end
mutual
theorem Rd.keep {w w' : World} (hk : ∀ b, b < w.heap.size → w'.heap[b]? = w.heap[b]?) : ∀ {d : D} {v : Value}, Rd w d v → Rd w' d v
 | .int _, _, h => by simp only [Rd] at h ⊢; exact h
 | .bool _, _, h => by simp only [Rd] at h ⊢; exact h
 | .str _, _, h => by simp only [Rd] at h ⊢; exact h
 | .raw _, _, h => by simp only [Rd] at h ⊢; exact h
 | .sl size n cs, _, h => by
  simp only [Rd] at h ⊢
  obtain ⟨a, cap, h1, h2, h3, h4, h6, h5⟩ := h
  refine ⟨a, cap, h1, h2, h3, h4, h6, ?_⟩
  rcases h5 with h5 | ⟨b, o, xs, e1, e3, e4⟩
  ·
   exact Or.inl h5
  ·
   refine Or.inr ⟨b, o, xs, e1, ?_, Rds.keep hk e4⟩
   by_cases hx : xs = []
   ·
    subst hx; intro i hi; exact absurd hi (Nat.not_lt_zero _)
   ·
    exact e3.congr (hk b (e3.lt hx))
theorem Rds.keep {w w' : World} (hk : ∀ b, b < w.heap.size → w'.heap[b]? = w.heap[b]?) : ∀ {cs : List D} {xs : List Value}, Rds w cs xs → Rds w' cs xs
 | [], _, h => by simp only [Rds] at h ⊢; exact h
 | c :: cs, _, h => by
  simp only [Rds] at h ⊢
  obtain ⟨x, r, e1, h1, h2⟩ := h
  exact ⟨x, r, e1, Rd.keep hk h1, Rds.keep hk h2⟩
end
theorem Rd.below {w w' : World} {d : D} {v : Value} (h : Rd w d v) (hb : Below w.heap.size w w') : Rd w' d v := h.keep hb.block
theorem Rd.alloc {w : World} {d : D} {v : Value} (h : Rd w d v) (o : Obj) : Rd (w.alloc o) d v := h.keep fun k hk => Below.heap_alloc w o k hk
theorem Rds.length {w : World} : ∀ {cs : List D} {xs : List Value}, Rds w cs xs → xs.length = cs.length
 | [], _, h => by simp only [Rds] at h; rw [h]; rfl
 | c :: cs, _, h => by
  simp only [Rds] at h
  obtain ⟨x, r, e1, _, h2⟩ := h
  rw [e1, List.length_cons, List.length_cons, Rds.length h2]
theorem Rds.at {w : World} : ∀ {cs : List D} {xs : List Value}, Rds w cs xs → ∀ {i : Nat} {c : D}, cs[i]? = some c → ∃ x, xs[i]? = some x ∧ Rd w c x
 | [], _, _, i, c, hi => by simp at hi
 | c0 :: cs, _, h, i, c, hi => by
  simp only [Rds] at h
  obtain ⟨x, r, e1, h1, h2⟩ := h
  subst e1
  cases i with
  | zero => simp at hi; subst hi; exact ⟨x, by simp, h1⟩
  | succ i => simpa using Rds.at h2 (by simpa using hi)
theorem Rds.append {w : World} : ∀ {cs ds : List D} {xs ys : List Value}, Rds w cs xs → Rds w ds ys → Rds w (cs ++ ds) (xs ++ ys)
 | [], _, _, _, h, k => by simp only [Rds] at h; subst h; simpa using k
 | c :: cs, _, _, _, h, k => by
  simp only [Rds] at h
  obtain ⟨x, r, e1, h1, h2⟩ := h
  subst e1
  simp only [List.cons_append, Rds]
  exact ⟨x, _, rfl, h1, Rds.append h2 k⟩
theorem Ows.length {w : World} {cs : List D} {xs : List Value} {F : List Nat} (h : Ows w cs xs F) : xs.length = cs.length := h.rds.length
theorem Ows.append {w : World} : ∀ {cs ds : List D} {xs ys : List Value} {F G : List Nat}, Ows w cs xs F → Ows w ds ys G → Ows w (cs ++ ds) (xs ++ ys) (F ++ G)
 | [], _, _, _, _, _, h, k => by simp only [Ows] at h; obtain ⟨rfl, rfl⟩ := h; simpa using k
 | c :: cs, _, _, _, _, G, h, k => by
  simp only [Ows] at h
  obtain ⟨x, r, A, B, e1, e2, h1, h2⟩ := h
  subst e1 e2
  simp only [List.cons_append, Ows]
  exact ⟨x, _, A, B ++ G, rfl, by rw [List.append_assoc], h1, Ows.append h2 k⟩
theorem Rd.sl_at {w : World} {size n : Nat} {cs : List D} {a : Option Addr} {len cap : Nat} (h : Rd w (.sl size n cs) (.slice a len cap)) :
  len = n ∧ n ≤ cap ∧ cap ≤ maxLen ∧ cs.length = n * size ∧ (a = none → cap = 0) ∧ (n = 0 ∨ ∃ b o, a = some ⟨b, o, none⟩ ∧ ∀ i c, cs[i]? = some c → ∃ x, w.cell? ⟨b, o + i, none⟩ = some x ∧ Rd w c x) := by
 simp only [Rd] at h
 obtain ⟨a', cap', h1, h2, h3, h4, h6, h5⟩ := h
 simp only [Value.slice.injEq] at h1
 obtain ⟨rfl, rfl, rfl⟩ := h1
 refine ⟨rfl, h2, h3, h4, h6, ?_⟩
 rcases h5 with h5 | ⟨b, o, xs, e1, e3, e4⟩
 ·
  exact Or.inl h5
 ·
  refine Or.inr ⟨b, o, e1, fun i c hc => ?_⟩
  obtain ⟨x, hx, hr⟩ := e4.at hc
  exact ⟨x, (e3 i (List.getElem?_eq_some_iff.1 hx).1).trans hx, hr⟩
theorem Rd.slice {w : World} {size n : Nat} {cs : List D} {v : Value} (h : Rd w (.sl size n cs) v) : ∃ a cap, v = .slice a n cap ∧ n ≤ cap ∧ cap ≤ maxLen ∧ (a = none → cap = 0) := by
 simp only [Rd] at h
 obtain ⟨a, cap, h1, h2, h3, h4, h6, h5⟩ := h
 exact ⟨a, cap, h1, h2, h3, h6⟩
def Blk (w : World) (g : Nat) (t : TypeId) (cur : List Value) : Prop := w.heap[g]? = some (.cells cur.toArray t (0, 0))
theorem Blk.free {w : World} {g t : Nat} {cur : List Value} (h : Blk w g t cur) : Free w g := ⟨_, _, h⟩
theorem Blk.lt {w : World} {g t : Nat} {cur : List Value} (h : Blk w g t cur) : g < w.heap.size := h.free.lt
theorem Blk.cell {w : World} {g t : Nat} {cur : List Value} (h : Blk w g t cur) (i : Nat) : w.cell? ⟨g, i, none⟩ = cur[i]? := by
 have h' : w.heap[(⟨g, i, none⟩ : Addr).block]? = some (.cells cur.toArray t (0, 0)) := h
 simp [World.cell?, h']
theorem Blk.frozen {w : World} {g t : Nat} {cur : List Value} (h : Blk w g t cur) (i : Nat) : w.frozen? ⟨g, i, none⟩ = false := by
 have h' : w.heap[(⟨g, i, none⟩ : Addr).block]? = some (.cells cur.toArray t (0, 0)) := h
 simp [World.frozen?, h']
theorem Blk.set {w : World} {g t : Nat} {cur : List Value} (h : Blk w g t cur) (i : Nat) (v : Value) : Blk (w.setCell ⟨g, i, none⟩ v) g t (cur.set i v) := by
 unfold Blk at h ⊢
 simp [World.setCell, Array.getElem?_modify, h]
theorem Blk.keep {w w' : World} {g t : Nat} {cur : List Value} (h : Blk w g t cur) (hk : w'.heap[g]? = w.heap[g]?) : Blk w' g t cur := hk.trans h
theorem Blk.row {w : World} {g t : Nat} {cur xs : List Value} (h : Blk w g t cur) (hx : cur.take xs.length = xs) : Row w g 0 xs := by
 intro i hi
 rw [Nat.zero_add, h.cell]
 have := List.getElem?_take (l := cur) (i := xs.length) (j := i)
 rw [hx, if_pos hi] at this
 exact this.symm
theorem Blk.made (w : World) (t : TypeId) (cur : Array Value) : Blk (w.alloc (.cells cur t)) w.heap.size t cur.toList := by
 unfold Blk
 rw [heap_alloc_new]
theorem Blk.below {w w' : World} {g t : Nat} {cur : List Value} (h : Blk w g t cur) (hb : Below w.heap.size w w') : Blk w' g t cur := h.keep (hb.block _ h.lt)
theorem Blk.alloc {w : World} {g t : Nat} {cur : List Value} (h : Blk w g t cur) (o : Obj) : Blk (w.alloc o) g t cur := h.keep (Below.heap_alloc w o g h.lt)
theorem Blk.c0 {w : World} {g t : Nat} {a : Value} {r : List Value} (h : Blk w g t (a :: r)) : w.cell? ⟨g, 0, none⟩ = some a := by rw [h.cell]; rfl
theorem Blk.c1 {w : World} {g t : Nat} {a b : Value} {r : List Value} (h : Blk w g t (a :: b :: r)) : w.cell? ⟨g, 1, none⟩ = some b := by rw [h.cell]; rfl
theorem Blk.c2 {w : World} {g t : Nat} {a b c : Value} {r : List Value} (h : Blk w g t (a :: b :: c :: r)) : w.cell? ⟨g, 2, none⟩ = some c := by rw [h.cell]; rfl
theorem Blk.c3 {w : World} {g t : Nat} {a b c d : Value} {r : List Value} (h : Blk w g t (a :: b :: c :: d :: r)) : w.cell? ⟨g, 3, none⟩ = some d := by rw [h.cell]; rfl
theorem Blk.c4 {w : World} {g t : Nat} {a b c d e : Value} {r : List Value} (h : Blk w g t (a :: b :: c :: d :: e :: r)) : w.cell? ⟨g, 4, none⟩ = some e := by rw [h.cell]; rfl
theorem Blk.c5 {w : World} {g t : Nat} {a b c d e f : Value} {r : List Value} (h : Blk w g t (a :: b :: c :: d :: e :: f :: r)) : w.cell? ⟨g, 5, none⟩ = some f := by rw [h.cell]; rfl
theorem Blk.new0 (w : World) (t : TypeId) : Blk (w.alloc (.cells #[] t)) w.heap.size t [] := Blk.made w t _
theorem Blk.new1 (w : World) (t : TypeId) (a : Value) : Blk (w.alloc (.cells #[a] t)) w.heap.size t [a] := Blk.made w t _
theorem Blk.new2 (w : World) (t : TypeId) (a b : Value) : Blk (w.alloc (.cells #[a, b] t)) w.heap.size t [a, b] := Blk.made w t _
theorem Blk.new3 (w : World) (t : TypeId) (a b c : Value) : Blk (w.alloc (.cells #[a, b, c] t)) w.heap.size t [a, b, c] := Blk.made w t _
theorem box3 (w : World) (t : TypeId) (a b c : Value) : ∃ w', w.alloc (.cells #[a, b, c] t) = w' ∧ Blk w' w.heap.size t [a, b, c] ∧ Below w.heap.size w w' ∧ w'.heap.size = w.heap.size + 1 :=
 ⟨_, rfl, Blk.new3 w t a b c, Below.alloc (Below.refl _ _) (Nat.le_refl _) _, by simp⟩
theorem box2 (w : World) (t : TypeId) (a b : Value) : ∃ w', w.alloc (.cells #[a, b] t) = w' ∧ Blk w' w.heap.size t [a, b] ∧ Below w.heap.size w w' ∧ w'.heap.size = w.heap.size + 1 :=
 ⟨_, rfl, Blk.new2 w t a b, Below.alloc (Below.refl _ _) (Nat.le_refl _) _, by simp⟩
theorem Blk.all3 {w : World} {g t : Nat} {a b c : Value} (h : Blk w g t [a, b, c]) : w.cell? ⟨g, 0, none⟩ = some a ∧ w.cell? ⟨g, 1, none⟩ = some b ∧ w.cell? ⟨g, 2, none⟩ = some c ∧ w.frozen? ⟨g, 0, none⟩ = false ∧ w.frozen? ⟨g, 1, none⟩ = false ∧ w.frozen? ⟨g, 2, none⟩ = false ∧ g < w.heap.size :=
 ⟨h.c0, h.c1, h.c2, h.frozen 0, h.frozen 1, h.frozen 2, h.lt⟩
theorem Blk.all2 {w : World} {g t : Nat} {a b : Value} (h : Blk w g t [a, b]) : w.cell? ⟨g, 0, none⟩ = some a ∧ w.cell? ⟨g, 1, none⟩ = some b ∧ g < w.heap.size := ⟨h.c0, h.c1, h.lt⟩
def Fresh (w w' : World) (d : D) (v : Value) : Prop := ∃ F : List Nat, Ow w' d v F ∧ F.Nodup ∧ ∀ b ∈ F, w.heap.size ≤ b
theorem Fresh.from {w0 w w' : World} {d : D} {v : Value} (h : Fresh w w' d v) (hz : w0.heap.size ≤ w.heap.size) : Fresh w0 w' d v := by
 obtain ⟨F, h, hn, hl⟩ := h
 exact ⟨F, h, hn, fun b hb => Nat.le_trans hz (hl b hb)⟩
theorem Fresh.keep {w w' w'' : World} {d : D} {v : Value} (h : Fresh w w' d v) (hk : ∀ b, w.heap.size ≤ b → b < w'.heap.size → w''.heap[b]? = w'.heap[b]?) : Fresh w w'' d v := by
 obtain ⟨F, h, hn, hl⟩ := h
 exact ⟨F, h.keep fun b hm => hk b (hl b hm) (h.lt b hm), hn, hl⟩
def Freshs (w w' : World) (ds : List D) (vs : List Value) : Prop := ∃ F : List Nat, Ows w' ds vs F ∧ F.Nodup ∧ ∀ b ∈ F, w.heap.size ≤ b
theorem Freshs.rds {w w' : World} {ds : List D} {vs : List Value} (h : Freshs w w' ds vs) : Rds w' ds vs := by
 obtain ⟨F, h, _⟩ := h
 exact h.rds
theorem Freshs.cons {w w' : World} {d : D} {v : Value} {ds : List D} {vs : List Value} {w0 : World} (h : Fresh w0 w d v) (k : Freshs w w' ds vs) (hb : Below w.heap.size w w') (hz : w0.heap.size ≤ w.heap.size) : Freshs w0 w' (d :: ds) (v :: vs) := by
 obtain ⟨F, h1, h2, h3⟩ := h
 obtain ⟨G, k1, k2, k3⟩ := k
 refine ⟨F ++ G, ?_, ?_, ?_⟩
 ·
  simp only [Ows]
  exact ⟨_, _, F, G, rfl, rfl, h1.keep fun b hm => hb.block b (h1.lt b hm), k1⟩
 ·
  rw [List.nodup_append]
  refine ⟨h2, k2, fun a ha b hb' => ?_⟩
  have := h1.lt a ha
  have := k3 b hb'
  omega
 ·
  intro b hm
  rcases List.mem_append.1 hm with hm | hm
  ·
   exact h3 b hm
  ·
   have := k3 b hm
   omega
theorem Freshs.one {w w' : World} {d : D} {v : Value} (h : Fresh w w' d v) : Freshs w w' [d] [v] := by
 obtain ⟨F, h1, h2, h3⟩ := h
 exact ⟨F, by simp only [Ows]; exact ⟨_, _, F, [], rfl, by simp, h1, rfl, rfl⟩, h2, h3⟩
theorem Freshs.from {w0 w w' : World} {ds : List D} {vs : List Value} (h : Freshs w w' ds vs) (hz : w0.heap.size ≤ w.heap.size) : Freshs w0 w' ds vs := by
 obtain ⟨F, h, hn, hl⟩ := h
 exact ⟨F, h, hn, fun b hb => Nat.le_trans hz (hl b hb)⟩
theorem Freshs.keep {w w' w'' : World} {ds : List D} {vs : List Value} (h : Freshs w w' ds vs) (hk : ∀ b, w.heap.size ≤ b → b < w'.heap.size → w''.heap[b]? = w'.heap[b]?) : Freshs w w'' ds vs := by
 obtain ⟨F, h, hn, hl⟩ := h
 exact ⟨F, h.keep fun b hm => hk b (hl b hm) (h.lt b hm), hn, hl⟩
theorem Freshs.on {w w' w'' : World} {ds : List D} {vs : List Value} (h : Freshs w w' ds vs) (hb : Below w'.heap.size w' w'') : Freshs w w'' ds vs :=
 h.keep fun b _ hm => hb.block b hm
theorem Rds.one {w : World} {d : D} {u : Value} (h : Rds w [d] [u]) : Rd w d u := by
 simp only [Rds] at h
 obtain ⟨x, r, e1, h1, _⟩ := h
 simp only [List.cons.injEq] at e1
 obtain ⟨rfl, _⟩ := e1
 exact h1
structure Only (F : List Nat) (w w' : World) : Prop where
 os : w'.os = w.os
 tape : w'.tape = w.tape
 output : w'.output = w.output
 size : w.heap.size ≤ w'.heap.size
 block : ∀ b, b < w.heap.size → b ∉ F → w'.heap[b]? = w.heap[b]?
theorem Only.below {F : List Nat} {a w : World} (h : Only F a w) {B : Nat} (hB : B ≤ a.heap.size) (hF : ∀ b ∈ F, B ≤ b) : Below B a w :=
 ⟨h.os, h.tape, h.output, h.size, fun k hk => h.block k (by omega) (fun hm => by have := hF k hm; omega)⟩
def stores (w : World) (g : Nat) : Nat → List Value → World
 | _, [] => w
 | o, v :: r => stores (w.setCell ⟨g, o, none⟩ v) g (o + 1) r
theorem stores_other : ∀ (vs : List Value) (w : World) (g o : Nat) (b : Nat), b ≠ g → (stores w g o vs).heap[b]? = w.heap[b]?
 | [], _, _, _, _, _ => rfl
 | v :: r, w, g, o, b, h => by
  simp only [stores]
  rw [stores_other r _ g (o + 1) b h, Below.heap_setCell _ _ _ _ h]
theorem stores_blk : ∀ (vs : List Value) (w : World) (g o t : Nat) (cur : List Value), Blk w g t cur → o + vs.length ≤ cur.length → Blk (stores w g o vs) g t (cur.take o ++ vs ++ cur.drop (o + vs.length))
 | [], w, g, o, t, cur, h, _ => by simpa [stores] using h
 | v :: r, w, g, o, t, cur, h, hl => by
  simp only [List.length_cons] at hl
  simp only [stores]
  have := stores_blk r _ g (o + 1) t _ (h.set o v) (by simp; omega)
  have e1 : (cur.set o v).take (o + 1) = cur.take o ++ [v] := by
   rw [List.take_succ_eq_append_getElem (by simp; omega)]
   simp [List.take_set_of_le]
  have e2 : (cur.set o v).drop (o + 1 + r.length) = cur.drop (o + (v :: r).length) := by
   rw [List.drop_set_of_lt (by omega)]
   simp only [List.length_cons]
   congr 1
   omega
  rw [e1, e2] at this
  simpa using this
def Part (w : World) (g t : Nat) (cs : List D) (len : Nat) : Prop :=
 ∃ cur xs F, Blk w g t cur ∧ cur.length = len ∧ cur.take xs.length = xs ∧ Ows w cs xs F ∧ F.Nodup ∧ ∀ b ∈ F, g < b
theorem Part.lt {w : World} {g t : Nat} {cs : List D} {len : Nat} (h : Part w g t cs len) : g < w.heap.size := by
 obtain ⟨cur, xs, F, h, _⟩ := h
 exact h.lt
theorem Part.cell {w : World} {g t : Nat} {cs : List D} {len : Nat} (h : Part w g t cs len) (i : Nat) (hi : i < len) : ∃ v, w.cell? ⟨g, i, none⟩ = some v := by
 obtain ⟨cur, xs, F, h, hl, _⟩ := h
 rw [h.cell]
 exact ⟨_, List.getElem?_eq_getElem (by omega)⟩
theorem Part.frozen {w : World} {g t : Nat} {cs : List D} {len : Nat} (h : Part w g t cs len) (i : Nat) : w.frozen? ⟨g, i, none⟩ = false := by
 obtain ⟨cur, xs, F, h, _⟩ := h
 exact h.frozen i
theorem Part.start {w : World} {base g t size n cap : Nat} {xs : List Value} (h : w.ownsRow base t size (.slice (some ⟨g, 0, none⟩) n cap) n xs) : Part w g t [] (cap * size) := by
 obtain ⟨_, h⟩ := h
 rcases h with ⟨h, _⟩ | ⟨g', cap', cur, hv, _, hg, _, _, hs, _⟩
 ·
  cases h
 ·
  simp only [Value.slice.injEq, Option.some.injEq, Addr.mk.injEq, and_true, true_and] at hv
  obtain ⟨rfl, rfl⟩ := hv
  exact ⟨cur.toList, [], [], by simpa [Blk] using hg, by simpa using hs, by simp, by simp [Ows], by simp, by simp⟩
theorem Part.below {w w' : World} {g t : Nat} {cs : List D} {len : Nat} (h : Part w g t cs len) (hb : Below w.heap.size w w') : Part w' g t cs len := by
 obtain ⟨cur, xs, F, h1, h2, h3, h4, h5, h6⟩ := h
 exact ⟨cur, xs, F, h1.keep (hb.block _ h1.lt), h2, h3, h4.keep fun b hm => hb.block _ (h4.lt b hm), h5, h6⟩
theorem Part.step {w w' : World} {g t : Nat} {cs ds : List D} {len : Nat} {vs : List Value} {G : List Nat} (h : Part w g t cs len) (hb : Below w.heap.size w w') (hv : Ows w' ds vs G) (hn : G.Nodup)
  (hG : ∀ b ∈ G, w.heap.size ≤ b) {o : Nat} (ho : o = cs.length) (hl : o + ds.length ≤ len) : Part (stores w' g o vs) g t (cs ++ ds) len := by
 subst ho
 have hlt := h.lt
 obtain ⟨cur, xs, F, h1, h2, h3, h4, h5, h6⟩ := h
 have hx := h4.length
 have hvl := hv.length
 have hk : ∀ b, g < b → (stores w' g cs.length vs).heap[b]? = w'.heap[b]? := fun b hb => stores_other _ _ _ _ _ (by omega)
 have h4' : Ows w' cs xs F := h4.keep fun b hm => hb.block _ (h4.lt b hm)
 refine ⟨_, xs ++ vs, F ++ G, stores_blk vs w' g cs.length t cur (h1.keep (hb.block _ h1.lt)) (by omega), ?_, ?_, Ows.append (h4'.keep fun b hm => hk b (h6 b hm)) (hv.keep fun b hm => hk b (by have := hG b hm; omega)), ?_, ?_⟩
 ·
  simp; omega
 ·
  rw [← hx, h3]
  have : (xs ++ vs ++ cur.drop (xs.length + vs.length)).take (xs ++ vs).length = xs ++ vs := List.take_left' rfl
  simpa using this
 ·
  rw [List.nodup_append]
  refine ⟨h5, hn, fun a ha b hb' => ?_⟩
  have := h4.lt a ha
  have := hG b hb'
  omega
 ·
  intro b hm
  rcases List.mem_append.1 hm with hm | hm
  ·
   exact h6 b hm
  ·
   have := hG b hm
   omega
theorem Part.done {W w : World} {g t : Nat} {cs : List D} {len : Nat} (h : Part w g t cs len) (hg : W.heap.size ≤ g) {size n cap : Nat} (hc : cs.length = n * size) (hn : n ≤ cap) (hm : cap ≤ maxLen) :
  Fresh W w (.sl size n cs) (.slice (some ⟨g, 0, none⟩) n cap) := by
 obtain ⟨cur, xs, F, h1, h2, h3, h4, h5, h6⟩ := h
 by_cases h0 : n = 0
 ·
  exact ⟨[], by simp only [Ow]; exact ⟨_, cap, rfl, hn, hm, hc, by simp, Or.inl ⟨h0, trivial⟩⟩, by simp, by simp⟩
 ·
  refine ⟨g :: F, by simp only [Ow]; exact ⟨_, cap, rfl, hn, hm, hc, by simp, Or.inr ⟨g, 0, xs, F, rfl, rfl, h1.free, h1.row h3, h4⟩⟩, ?_, ?_⟩
  ·
   rw [List.nodup_cons]
   exact ⟨fun hm => absurd (h6 g hm) (Nat.lt_irrefl _), h5⟩
  ·
   intro b hm
   rcases List.mem_cons.1 hm with rfl | hm
   ·
    exact hg
   ·
    have := h6 b hm
    omega
theorem Ows.nil {w : World} : Ows w [] [] [] := by simp [Ows]
theorem Ows.raws {w : World} : ∀ {us : List Value}, (∀ u ∈ us, u.oneCell' = true) → Ows w (us.map D.raw) us []
 | [], _ => by simp [Ows]
 | u :: r, h => by
  simp only [List.map_cons, Ows, Ow]
  exact ⟨u, r, [], [], rfl, rfl, ⟨⟨rfl, h u (by simp)⟩, rfl⟩, Ows.raws fun x hx => h x (by simp [hx])⟩
theorem Rds.raws {w : World} : ∀ {us xs : List Value}, Rds w (us.map D.raw) xs → xs = us
 | [], _, h => by simpa [Rds] using h
 | u :: r, xs, h => by
  simp only [List.map_cons, Rds, Rd] at h
  obtain ⟨x, r', rfl, ⟨rfl, -⟩, h2⟩ := h
  rw [Rds.raws h2]
theorem Ows.three {w : World} {k n : Int} {d : D} {v : Value} {F : List Nat} (h : Ow w d v F) : Ows w [.int k, .int n, d] [.int .i64 k, .int .i64 n, v] F := by
 simp only [Ows]
 exact ⟨_, _, [], F, rfl, rfl, by simp [Ow], _, _, [], F, rfl, rfl, by simp [Ow], _, _, F, [], rfl, by simp, h, rfl, rfl⟩
theorem cells_two {v a b : Value} (h : v.cells.toList = [a, b]) : v = .agg #[a, b] := by
 cases v with
 | agg cs => simp only [Value.cells] at h; congr 1; exact Array.toList_inj.1 (by rw [h])
 | _ => simp [Value.cells] at h
theorem cells_three {v a b c : Value} (h : v.cells.toList = [a, b, c]) : v = .agg #[a, b, c] := by
 cases v with
 | agg cs => simp only [Value.cells] at h; congr 1; exact Array.toList_inj.1 (by rw [h])
 | _ => simp [Value.cells] at h
section
variable {H : Type} {enc : TypeId × Value → H} {P : Program} {w : World} {base : Nat} {sp : Nat → Bool} {hd : Bool}
theorem open_sl {t e size : Nat} {Q : List D → Prop} (ht : P.underlying t = some (.slice e)) (hc : P.cellsOf e = size) (hpos : 0 < size) {fuel : Nat}
  (hel : ∀ m, m < fuel → ∀ cs x, DataW.trod enc P w base sp hd m e cs = some x → ∃ ds, Q ds ∧ ds.length = size ∧ Rds w ds cs)
  {cs : List Value} {x : DataW H × List MemPlace} (h : DataW.trod enc P w base sp hd fuel t cs = some x) :
  ∃ v, ∃ rows : List (List D), cs = [v] ∧ (∀ r ∈ rows, Q r) ∧ Rd w (.sl size rows.length rows.flatten) v := by
 rcases DataW.trod_slice ht h with ⟨rfl, _⟩ | ⟨a, len, cap, elems, rest, n, rfl, rfl, _, hb, hl, hm, hlen, hel', _, _⟩
 ·
  exact ⟨_, [], rfl, by simp, by simp only [Rd]; exact ⟨none, 0, rfl, by simp, by simp [maxLen], by simp, fun _ => rfl, Or.inl rfl⟩⟩
 ·
  have key : ∀ i, i < len → ∃ row : List Value × List D, w.cells? base (a.add (i * size)) size = some row.1 ∧ Q row.2 ∧ row.2.length = size ∧ Rds w row.2 row.1 := by
   intro i hi
   have := hel' i hi
   rw [hc, List.getElem?_eq_getElem (by omega), Option.bind_eq_some_iff] at this
   obtain ⟨cs, hcs, hx⟩ := this
   obtain ⟨ds, q, hd, hr⟩ := hel n (by omega) cs _ hx
   exact ⟨(cs, ds), hcs, q, hd, hr⟩
  obtain ⟨f, hf⟩ := choose_lt key
  refine ⟨_, (List.range len).map fun i => (f i).2, rfl, ?_, ?_⟩
  ·
   intro r hr
   obtain ⟨i, hi, rfl⟩ := List.mem_map.1 hr
   exact (hf i (List.mem_range.1 hi)).2.1
  ·
   have spot : len = 0 ∨ ∃ b o, a = ⟨b, o, none⟩ := by
    by_cases h0 : len = 0
    ·
     exact Or.inl h0
    right
    obtain ⟨b, o, spot⟩ := a
    have h1 := (hf 0 (by omega)).1
    obtain ⟨_, _, hcell⟩ := World.cells?_some h1
    have h2 := hcell 0 hpos
    rw [List.getElem?_eq_getElem (by rw [(hf 0 (by omega)).2.2.2.length, (hf 0 (by omega)).2.2.1]; exact hpos)] at h2
    have hspot : spot = none := by simpa [Addr.add] using World.cell?_spot h2
    exact ⟨b, o, by rw [hspot]⟩
   have hfl : ∀ m, m ≤ len → (((List.range m).map fun i => (f i).2).flatten).length = m * size ∧ Rds w (((List.range m).map fun i => (f i).2).flatten) (((List.range m).map fun i => (f i).1).flatten) ∧
     (∀ b o, a = ⟨b, o, none⟩ → Row w b o (((List.range m).map fun i => (f i).1).flatten)) := by
    intro m
    induction m with
    | zero => intro _; exact ⟨by simp, by simp [Rds], fun b o _ i hi => by simp at hi⟩
    | succ m ih =>
     intro hm'
     obtain ⟨i1, i2, i3⟩ := ih (by omega)
     obtain ⟨f1, _, f3, f4⟩ := hf m (by omega)
     rw [List.range_succ, List.map_append, List.flatten_append, List.map_append, List.flatten_append]
     refine ⟨?_, Rds.append i2 (by simpa using f4), ?_⟩
     ·
      rw [List.length_append, i1]
      simp [f3, Nat.succ_mul]
     ·
      intro b o hab i hi
      have hlen1 := i2.length
      rw [i1] at hlen1
      by_cases hlt : i < m * size
      ·
       rw [i3 b o hab i (by omega), List.getElem?_append_left (by omega)]
      ·
       rw [List.getElem?_append_right (by omega), hlen1]
       obtain ⟨_, _, hcell⟩ := World.cells?_some f1
       have h4 := f4.length
       rw [f3] at h4
       simp only [List.map_cons, List.map_nil, List.flatten_cons, List.flatten_nil, List.append_nil, List.length_append, hlen1, h4] at hi ⊢
       have h5 := hcell (i - m * size) (by omega)
       rw [hab, add_add, add_plain] at h5
       rw [← h5]
       congr 2
       omega
   obtain ⟨g1, g2, g3⟩ := hfl len (Nat.le_refl _)
   simp only [Rd]
   refine ⟨some a, cap, by simp, by simpa using hl, hm, by simpa using g1, by simp, ?_⟩
   rcases spot with h0 | ⟨b, o, hab⟩
   ·
    exact Or.inl (by simpa using h0)
   ·
    exact Or.inr ⟨b, o, _, by rw [hab], g3 b o hab, g2⟩
end
end Go.Proofs.YtcokljhamhgelaaGreatDoor

namespace Go.Proofs.YtcokljhamhgelaaGreatDoor
set_option linter.unusedVariables false
set_option linter.unusedSimpArgs false
open Go.ChangeShapes Go.WideShapes Go.ChangeAt Go.RowKit Go.Deep
def slotOf (o : Oper) (a : Act) : Value := match o.dst with
 | some d => a.tmps.getD d undef
 | none => undef
def putFrom : List Oper → Nat → (Nat → Value) → Act → Act
 | [], _, _, a => a
 | o :: r, k, vs, a => putFrom r (k + 1) vs (a.put o.dst (vs k))
theorem slotOf_put {o p : Oper} {a : Act} {v : Value} (h : ∀ d, o.dst = some d → p.dst ≠ some d) : slotOf p (a.put o.dst v) = slotOf p a := by
 unfold slotOf
 cases hp : p.dst with
 | none => rfl
 | some d =>
  cases ho : o.dst with
  | none => rfl
  | some e =>
   have hne : e ≠ d := fun he => h e ho (by rw [hp, he])
   simp [Act.put, Array.getElem?_setIfInBounds_ne hne]
theorem slotOf_same {o : Oper} {a : Act} {v : Value} {d : Tmp} (h : o.dst = some d) (hd : d < a.tmps.size) : slotOf o (a.put o.dst v) = v := by
 unfold slotOf
 rw [h]
 simp [Act.put, hd]
theorem putFrom_self : ∀ (ops : List Oper) (k : Nat) (vs : Nat → Value) (a0 a : Act), a0.defers = a.defers → a0.tmps.size = a.tmps.size → (∀ t, (∀ o ∈ ops, o.dst ≠ some t) → a0.tmps[t]? = a.tmps[t]?) →
  (∀ j o, ops[j]? = some o → vs (k + j) = slotOf o a) → putFrom ops k vs a0 = a
 | [], k, vs, a0, a, h1, h2, h3, _ => by
  have ht : a0.tmps = a.tmps := Array.ext_getElem? fun t => h3 t (by simp)
  cases a0; cases a
  simp only at h1 ht
  simp [putFrom, h1, ht]
 | o :: r, k, vs, a0, a, h1, h2, h3, h4 => by
  simp only [putFrom]
  have hv : vs k = slotOf o a := by simpa using h4 0 o (by simp)
  refine putFrom_self r (k + 1) vs _ a ?_ ?_ ?_ ?_
  ·
   cases ho : o.dst <;> simpa [Act.put, ho] using h1
  ·
   cases ho : o.dst <;> simpa [Act.put, ho] using h2
  ·
   intro t ht
   rw [hv]
   cases ho : o.dst with
   | none =>
    simp only [Act.put]
    exact h3 t (fun p hp => by
     rcases List.mem_cons.1 hp with rfl | hp
     ·
      rw [ho]; simp
     ·
      exact ht p hp)
   | some d =>
    by_cases hdt : d = t
    ·
     subst hdt
     simp only [Act.put, slotOf, ho]
     by_cases hs : d < a0.tmps.size
     ·
      rw [Array.getElem?_setIfInBounds_self_of_lt hs]
      rw [h2] at hs
      simp [hs]
     ·
      have hs' : ¬ d < a.tmps.size := by rw [← h2]; exact hs
      exact (Array.getElem?_eq_none (by rw [Array.size_setIfInBounds]; exact Nat.not_lt.1 hs)).trans (Array.getElem?_eq_none (Nat.not_lt.1 hs')).symm
    ·
     simp only [Act.put]
     rw [Array.getElem?_setIfInBounds_ne hdt]
     exact h3 t (fun p hp => by
      rcases List.mem_cons.1 hp with rfl | hp
      ·
       rw [ho]; simpa using hdt
      ·
       exact ht p hp)
  ·
   intro j p hj
   have := h4 (j + 1) p (by simpa using hj)
   rw [← this]
   congr 1
   omega
section
variable {P : Program} {ops : Array Oper}
theorem wpOp_of_list {Q Q1 : Exit → Act → World → Prop} {i : Nat} {o : Oper} {K : Act → World → Prop} {a : Act} {w : World} (hi : ops[i]? = some o) (h : wpList P ops Q1 [o] a w)
  (hn : ∀ a' w', Q1 .normal a' w' → K a' w') (he : ∀ e a' w', e ≠ .normal → ¬ Q1 e a' w') : wpOp P ops Q i K a w := by
 unfold wpOp
 rw [hi]
 simp only [wpList] at h
 simp only
 split
 ·
  rename_i hw
  rw [if_pos hw] at h
  rcases h with h | ⟨_, a', w', h⟩
  ·
   refine Or.inl ?_
   unfold Oper.wp at *
   generalize (execOp a.eval o).run P w = r at *
   cases r with
   | ok n w' =>
    cases n <;> simp only [Oper.upon] at h ⊢ <;>
     first
      | exact hn _ _ h
      | exact Calls.mono h (fun e w'' h' => by
        cases e
        ·
         exact hn _ _ h'
        ·
         exact absurd h' (he _ _ _ (by simp))
        ·
         obtain ⟨a', w', h'⟩ := h'
         exact absurd h' (he _ _ _ (by simp)))
      | exact Rows.mono h (fun _ _ h' => hn _ _ h')
      | exact h
   | halt x w' =>
    cases x <;> simp only [Oper.upon] at h ⊢
    all_goals first | exact absurd h (he _ _ _ (by simp)) | exact h
  ·
   exact absurd h (he _ _ _ (by simp))
 ·
  rename_i hw
  rw [if_neg hw] at h
  exact hn _ _ h
def srcOf (ops : Array Oper) (t : Tmp) : Nat := (List.range ops.size).findIdx fun j => match ops[j]? with
 | some o => o.dst == some t
 | none => false
def deps (ops : Array Oper) (i : Nat) : List Nat := match ops[i]? with
 | some o => (o.after.toList.filter fun e => Region.binds .any e).map (·.on)
 | none => []
theorem mem_deps {i j : Nat} {o : Oper} (hi : ops[i]? = some o) : j ∈ deps ops i ↔ ∃ e ∈ o.after, Region.binds .any e = true ∧ e.on = j := by
 unfold deps
 rw [hi]
 simp only [List.mem_map, List.mem_filter, Array.mem_toList_iff]
 constructor
 ·
  rintro ⟨e, ⟨h1, h2⟩, h3⟩; exact ⟨e, h1, h2, h3⟩
 ·
  rintro ⟨e, h1, h2, h3⟩; exact ⟨e, ⟨h1, h2⟩, h3⟩
def slots (ops : Array Oper) (a : Act) (i : Nat) : Value := match ops[i]? with
 | some o => slotOf o a
 | none => undef
def ancs (ops : Array Oper) : Nat → Nat → List Nat
 | 0, i => [i]
 | f + 1, i => i :: (deps ops i).flatMap (ancs ops f)
theorem ancs_listed {listed : Array Bool} (hc : ∀ i, listed.getD i false = true → ∀ j ∈ deps ops i, listed.getD j false = true) : ∀ f i, listed.getD i false = true → ∀ j ∈ ancs ops f i, listed.getD j false = true
 | 0, i, h, j, hj => by simp only [ancs, List.mem_singleton] at hj; subst hj; exact h
 | f + 1, i, h, j, hj => by
  simp only [ancs, List.mem_cons, List.mem_flatMap] at hj
  rcases hj with rfl | ⟨k, hk, hj⟩
  ·
   exact h
  ·
   exact ancs_listed hc f k (hc i h k hk) j hj
def Sep (p q : Nat × Nat) : Prop := p.2 ≤ q.1 ∨ q.2 ≤ p.1
def Agree {α : Type} (l : List Nat) (f g : Nat → α) : Prop := ∀ j ∈ l, f j = g j
def upd {α : Type} (f : Nat → α) (i : Nat) (x : α) : Nat → α := fun j => if j = i then x else f j
theorem getD_false_of {l : Array Bool} {i : Nat} (hi : i < l.size) (h : l.getD i true = false) : l.getD i false = false := by
 simp [hi] at h ⊢; exact h
theorem getD_set_self {l : Array Bool} {i : Nat} (hi : i < l.size) (d : Bool) : (l.setIfInBounds i true).getD i d = true := by simp [hi]
def Onward (K : Act → World → Prop) : Exit → Act → World → Prop := fun e a w => e = .normal ∧ K a w
theorem Onward.mk {K : Act → World → Prop} {a : Act} {w : World} (h : K a w) : Onward K .normal a w := ⟨rfl, h⟩
end
theorem mem_of {l : List Nat} {j : Nat} (h : l.contains j = true) : j ∈ l := by simpa using h
def FreshIn (p : Nat × Nat) (w : World) (ds : List D) (vs : List Value) : Prop := ∃ F : List Nat, Ows w ds vs F ∧ F.Nodup ∧ ∀ b ∈ F, p.1 ≤ b ∧ b < p.2
theorem Freshs.stretch {w w' : World} {ds : List D} {vs : List Value} (h : Freshs w w' ds vs) : FreshIn (w.heap.size, w'.heap.size) w' ds vs := by
 obtain ⟨F, h1, h2, h3⟩ := h
 exact ⟨F, h1, h2, fun b hm => ⟨h3 b hm, h1.lt b hm⟩⟩
end Go.Proofs.YtcokljhamhgelaaGreatDoor
