/-
  Parts of a proof, joined: Mem, Rg, Rs, Shelf, Text, Bld, Expr, Own, Sig, Cond, Ints, Trace, Shape, Ok, Shaped, Truth, Empty. No condition.
-/
import Derived.WalkKit
import Derived.ProofKit
import Derived.OpenShut
import Derived.ChangeSame
import Derived.Carry
import Derived.Deep.Slices
import Derived.Deep.LoopGhost
import Derived.Deep.DeepFit
import Derived.Deep.DeepMust
import Derived.Deep.RegionWith
import Derived.Deep.RegionHeld3
import Derived.Deep.QuietTactic
import Derived.BigQuiet
import Derived.WalkSpells
import Derived.WalkLawsBesides
import Derived.WalkSmall
import Derived.Lib.Hide
import Derived.Lib.QuietBelow
import Derived.Deep.CutRange
import Derived.Shelf.Strings.Builder1
import Derived.Shelf.Small.Bits
import Derived.Shelf.Small.Strs
import Derived.Shelf.Strings.BuilderF
import Derived.Shelf.Strings.BuilderK
import Derived.Shelf.Strconv.Itoa0
import Derived.Shelf.Strconv.Itoa1
import Derived.Shelf.LaysM
import Derived.Shelf.Strconv.Itoa2
import Derived.Shelf.Strconv.Itoa3
import Derived.Shelf.Strconv.Itoa4
import Derived.Shelf.Strings.BuilderCap
import Derived.Test.YtjlmdhoajfdkbaaGreatDoorProg
import Derived.Lib.AppendStr
import Derived.Test.YtjlmdhoajfdkbaaGreatDoorPk0
import Derived.Test.YtjlmdhoajfdkbaaGreatDoorPk1
namespace Go.Proofs.YtjlmdhoajfdkbaaGreatDoor
set_option linter.unusedVariables false
set_option linter.unusedSimpArgs false
open Go.ChangeShapes Go.WideShapes Go.ChangeAt Go.RowKit Go.Deep
inductive D where
  | int (n : Int)
  | bool (b : Bool)
  | str (s : ByteArray)
  | raw (u : Value)
  | sl (size n : Nat) (cs : List D)
def Row (w : World) (b o : Nat) (xs : List Value) : Prop := ∀ i, i < xs.length → w.cell? ⟨b, o + i, none⟩ = xs[i]?
mutual
def Rd (w : World) : D → Value → Prop
  | .int n, v => v = .int .i64 n
  | .bool b, v => v = .bool b
  | .str s, v => v = .string s ∧ s.size ≤ maxLen
  | .raw u, v => v = u ∧ u.oneCell' = true
  | .sl size n cs, v => ∃ a cap, v = .slice a n cap ∧ n ≤ cap ∧ cap ≤ maxLen ∧ cs.length = n * size ∧ (a = none → cap = 0) ∧ ((n = 0) ∨ ∃ b o xs, a = some ⟨b, o, none⟩ ∧ Row w b o xs ∧ Rds w cs xs)
def Rds (w : World) : List D → List Value → Prop
  | [], xs => xs = []
  | c :: cs, xs => ∃ x r, xs = x :: r ∧ Rd w c x ∧ Rds w cs r
end
def Free (w : World) (b : Nat) : Prop := ∃ cur t, w.heap[b]? = some (.cells cur t (0, 0))
mutual
def Ow (w : World) : D → Value → List Nat → Prop
  | .int n, v, F => v = .int .i64 n ∧ F = []
  | .bool b, v, F => v = .bool b ∧ F = []
  | .str s, v, F => (v = .string s ∧ s.size ≤ maxLen) ∧ F = []
  | .raw u, v, F => (v = u ∧ u.oneCell' = true) ∧ F = []
  | .sl size n cs, v, F => ∃ a cap, v = .slice a n cap ∧ n ≤ cap ∧ cap ≤ maxLen ∧ cs.length = n * size ∧ (a = none → cap = 0) ∧ ((n = 0 ∧ F = []) ∨ ∃ b o xs G, a = some ⟨b, o, none⟩ ∧ F = b :: G ∧ Free w b ∧ Row w b o xs ∧ Ows w cs xs G)
def Ows (w : World) : List D → List Value → List Nat → Prop
  | [], xs, F => xs = [] ∧ F = []
  | c :: cs, xs, F => ∃ x r G K, xs = x :: r ∧ F = G ++ K ∧ Ow w c x G ∧ Ows w cs r K
end
mutual
theorem Ow.rd {w : World} : ∀ {d : D} {v : Value} {F : List Nat}, Ow w d v F → Rd w d v
  | .int _, _, _, h => by simp only [Ow] at h; simp only [Rd]; exact h.1
  | .bool _, _, _, h => by simp only [Ow] at h; simp only [Rd]; exact h.1
  | .str _, _, _, h => by simp only [Ow] at h; simp only [Rd]; exact h.1
  | .raw _, _, _, h => by simp only [Ow] at h; simp only [Rd]; exact h.1
  | .sl _ _ cs, _, _, h => by
    simp only [Ow] at h
    simp only [Rd]
    obtain ⟨a, cap, h1, h2, h3, h4, h6, h5⟩ := h
    refine ⟨a, cap, h1, h2, h3, h4, h6, ?_⟩
    rcases h5 with h5 | ⟨b, o, xs, G, e1, _, _, e3, e4⟩
    · exact Or.inl h5.1
    · exact Or.inr ⟨b, o, xs, e1, e3, Ows.rds e4⟩
theorem Ows.rds {w : World} : ∀ {cs : List D} {xs : List Value} {F : List Nat}, Ows w cs xs F → Rds w cs xs
  | [], _, _, h => by simp only [Ows] at h; simp only [Rds]; exact h.1
  | c :: cs, _, _, h => by
    simp only [Ows] at h
    obtain ⟨x, r, G, K, e1, _, h1, h2⟩ := h
    simp only [Rds]
    exact ⟨x, r, e1, Ow.rd h1, Ows.rds h2⟩
end
theorem Row.congr {w w' : World} {b o : Nat} {xs : List Value} (h : Row w b o xs) (hb : w'.heap[b]? = w.heap[b]?) : Row w' b o xs :=
  fun i hi => (World.cell?_of_block (w := w) (w' := w') (a := ⟨b, o + i, none⟩) hb).trans (h i hi)
theorem Row.lt {w : World} {b o : Nat} {xs : List Value} (h : Row w b o xs) (hx : xs ≠ []) : b < w.heap.size := by
  cases xs with
  | nil => exact absurd rfl hx
  | cons x r => exact World.block_lt_of_cell? w ⟨b, o + 0, none⟩ (by simpa using h 0 (by simp))
theorem Free.lt {w : World} {b : Nat} (h : Free w b) : b < w.heap.size := by
  obtain ⟨cur, t, h⟩ := h
  exact (Array.getElem?_eq_some_iff.1 h).1
mutual
theorem Ow.lt {w : World} : ∀ {d : D} {v : Value} {F : List Nat}, Ow w d v F → ∀ b ∈ F, b < w.heap.size
  | .int _, _, _, h => by simp only [Ow] at h; rw [h.2]; simp
  | .bool _, _, _, h => by simp only [Ow] at h; rw [h.2]; simp
  | .str _, _, _, h => by simp only [Ow] at h; rw [h.2]; simp
  | .raw _, _, _, h => by simp only [Ow] at h; rw [h.2]; simp
  | .sl _ _ cs, _, _, h => by
    simp only [Ow] at h
    obtain ⟨a, cap, h1, h2, h3, h4, h6, h5⟩ := h
    rcases h5 with h5 | ⟨b, o, xs, G, e1, e5, hf, e3, e4⟩
    · rw [h5.2]; simp
    · rw [e5]
      intro k hk
      rcases List.mem_cons.1 hk with rfl | hk
      · exact hf.lt
      · exact Ows.lt e4 k hk
theorem Ows.lt {w : World} : ∀ {cs : List D} {xs : List Value} {F : List Nat}, Ows w cs xs F → ∀ b ∈ F, b < w.heap.size
  | [], _, _, h => by simp only [Ows] at h; rw [h.2]; simp
  | c :: cs, _, _, h => by
    simp only [Ows] at h
    obtain ⟨x, r, G, K, e1, e2, h1, h2⟩ := h
    rw [e2]
    intro k hk
    rcases List.mem_append.1 hk with hk | hk
    · exact Ow.lt h1 k hk
    · exact Ows.lt h2 k hk
end
mutual
theorem Ow.keep {w w' : World} : ∀ {d : D} {v : Value} {F : List Nat}, Ow w d v F → (∀ b ∈ F, w'.heap[b]? = w.heap[b]?) → Ow w' d v F
  | .int _, _, _, h, _ => by simp only [Ow] at h ⊢; exact h
  | .bool _, _, _, h, _ => by simp only [Ow] at h ⊢; exact h
  | .str _, _, _, h, _ => by simp only [Ow] at h ⊢; exact h
  | .raw _, _, _, h, _ => by simp only [Ow] at h ⊢; exact h
  | .sl _ _ cs, _, _, h, hk => by
    simp only [Ow] at h ⊢
    obtain ⟨a, cap, h1, h2, h3, h4, h6, h5⟩ := h
    refine ⟨a, cap, h1, h2, h3, h4, h6, ?_⟩
    rcases h5 with h5 | ⟨b, o, xs, G, e1, e5, ⟨cur, t, hf⟩, e3, e4⟩
    · exact Or.inl h5
    · subst e5
      have hb := hk b (List.mem_cons_self ..)
      exact Or.inr ⟨b, o, xs, G, e1, rfl, ⟨cur, t, hb.trans hf⟩, e3.congr hb, Ows.keep e4 fun k h => hk k (List.mem_cons_of_mem _ h)⟩
theorem Ows.keep {w w' : World} : ∀ {cs : List D} {xs : List Value} {F : List Nat}, Ows w cs xs F → (∀ b ∈ F, w'.heap[b]? = w.heap[b]?) → Ows w' cs xs F
  | [], _, _, h, _ => by simp only [Ows] at h ⊢; exact h
  | c :: cs, _, _, h, hk => by
    simp only [Ows] at h ⊢
    obtain ⟨x, r, G, K, e1, e2, h1, h2⟩ := h
    subst e2
    exact ⟨x, r, G, K, e1, rfl, Ow.keep h1 fun k h => hk k (List.mem_append_left _ h), Ows.keep h2 fun k h => hk k (List.mem_append_right _ h)⟩
end
mutual
theorem Rd.keep {w w' : World} (hk : ∀ b, b < w.heap.size → w'.heap[b]? = w.heap[b]?) : ∀ {d : D} {v : Value}, Rd w d v → Rd w' d v
  | .int _, _, h => by simp only [Rd] at h ⊢; exact h
  | .bool _, _, h => by simp only [Rd] at h ⊢; exact h
  | .str _, _, h => by simp only [Rd] at h ⊢; exact h
  | .raw _, _, h => by simp only [Rd] at h ⊢; exact h
  | .sl size n cs, _, h => by
    simp only [Rd] at h ⊢
    obtain ⟨a, cap, h1, h2, h3, h4, h6, h5⟩ := h
    refine ⟨a, cap, h1, h2, h3, h4, h6, ?_⟩
    rcases h5 with h5 | ⟨b, o, xs, e1, e3, e4⟩
    · exact Or.inl h5
    · refine Or.inr ⟨b, o, xs, e1, ?_, Rds.keep hk e4⟩
      by_cases hx : xs = []
      · subst hx; intro i hi; exact absurd hi (Nat.not_lt_zero _)
      · exact e3.congr (hk b (e3.lt hx))
theorem Rds.keep {w w' : World} (hk : ∀ b, b < w.heap.size → w'.heap[b]? = w.heap[b]?) : ∀ {cs : List D} {xs : List Value}, Rds w cs xs → Rds w' cs xs
  | [], _, h => by simp only [Rds] at h ⊢; exact h
  | c :: cs, _, h => by
    simp only [Rds] at h ⊢
    obtain ⟨x, r, e1, h1, h2⟩ := h
    exact ⟨x, r, e1, Rd.keep hk h1, Rds.keep hk h2⟩
end
theorem Rd.below {w w' : World} {d : D} {v : Value} (h : Rd w d v) (hb : Below w.heap.size w w') : Rd w' d v := h.keep hb.block
theorem Rds.below {w w' : World} {cs : List D} {xs : List Value} (h : Rds w cs xs) (hb : Below w.heap.size w w') : Rds w' cs xs := h.keep hb.block
theorem Rd.alloc {w : World} {d : D} {v : Value} (h : Rd w d v) (o : Obj) : Rd (w.alloc o) d v := h.keep fun k hk => Below.heap_alloc w o k hk
theorem Rds.length {w : World} : ∀ {cs : List D} {xs : List Value}, Rds w cs xs → xs.length = cs.length
  | [], _, h => by simp only [Rds] at h; rw [h]; rfl
  | c :: cs, _, h => by
    simp only [Rds] at h
    obtain ⟨x, r, e1, _, h2⟩ := h
    rw [e1, List.length_cons, List.length_cons, Rds.length h2]
theorem Rds.at {w : World} : ∀ {cs : List D} {xs : List Value}, Rds w cs xs → ∀ {i : Nat} {c : D}, cs[i]? = some c → ∃ x, xs[i]? = some x ∧ Rd w c x
  | [], _, _, i, c, hi => by simp at hi
  | c0 :: cs, _, h, i, c, hi => by
    simp only [Rds] at h
    obtain ⟨x, r, e1, h1, h2⟩ := h
    subst e1
    cases i with
    | zero => simp at hi; subst hi; exact ⟨x, by simp, h1⟩
    | succ i => simpa using Rds.at h2 (by simpa using hi)
theorem Rds.append {w : World} : ∀ {cs ds : List D} {xs ys : List Value}, Rds w cs xs → Rds w ds ys → Rds w (cs ++ ds) (xs ++ ys)
  | [], _, _, _, h, k => by simp only [Rds] at h; subst h; simpa using k
  | c :: cs, _, _, _, h, k => by
    simp only [Rds] at h
    obtain ⟨x, r, e1, h1, h2⟩ := h
    subst e1
    simp only [List.cons_append, Rds]
    exact ⟨x, _, rfl, h1, Rds.append h2 k⟩
theorem Ows.length {w : World} {cs : List D} {xs : List Value} {F : List Nat} (h : Ows w cs xs F) : xs.length = cs.length := h.rds.length
theorem Ows.append {w : World} : ∀ {cs ds : List D} {xs ys : List Value} {F G : List Nat}, Ows w cs xs F → Ows w ds ys G → Ows w (cs ++ ds) (xs ++ ys) (F ++ G)
  | [], _, _, _, _, _, h, k => by simp only [Ows] at h; obtain ⟨rfl, rfl⟩ := h; simpa using k
  | c :: cs, _, _, _, _, G, h, k => by
    simp only [Ows] at h
    obtain ⟨x, r, A, B, e1, e2, h1, h2⟩ := h
    subst e1 e2
    simp only [List.cons_append, Ows]
    exact ⟨x, _, A, B ++ G, rfl, by rw [List.append_assoc], h1, Ows.append h2 k⟩
theorem Rd.sl_at {w : World} {size n : Nat} {cs : List D} {a : Option Addr} {len cap : Nat} (h : Rd w (.sl size n cs) (.slice a len cap)) :
    len = n ∧ n ≤ cap ∧ cap ≤ maxLen ∧ cs.length = n * size ∧ (a = none → cap = 0) ∧ (n = 0 ∨ ∃ b o, a = some ⟨b, o, none⟩ ∧ ∀ i c, cs[i]? = some c → ∃ x, w.cell? ⟨b, o + i, none⟩ = some x ∧ Rd w c x) := by
  simp only [Rd] at h
  obtain ⟨a', cap', h1, h2, h3, h4, h6, h5⟩ := h
  simp only [Value.slice.injEq] at h1
  obtain ⟨rfl, rfl, rfl⟩ := h1
  refine ⟨rfl, h2, h3, h4, h6, ?_⟩
  rcases h5 with h5 | ⟨b, o, xs, e1, e3, e4⟩
  · exact Or.inl h5
  · refine Or.inr ⟨b, o, e1, fun i c hc => ?_⟩
    obtain ⟨x, hx, hr⟩ := e4.at hc
    exact ⟨x, (e3 i (List.getElem?_eq_some_iff.1 hx).1).trans hx, hr⟩
theorem Rd.slice {w : World} {size n : Nat} {cs : List D} {v : Value} (h : Rd w (.sl size n cs) v) : ∃ a cap, v = .slice a n cap ∧ n ≤ cap ∧ cap ≤ maxLen ∧ (a = none → cap = 0) := by
  simp only [Rd] at h
  obtain ⟨a, cap, h1, h2, h3, h4, h6, h5⟩ := h
  exact ⟨a, cap, h1, h2, h3, h6⟩
def Blk (w : World) (g : Nat) (t : TypeId) (cur : List Value) : Prop := w.heap[g]? = some (.cells cur.toArray t (0, 0))
theorem Blk.free {w : World} {g t : Nat} {cur : List Value} (h : Blk w g t cur) : Free w g := ⟨_, _, h⟩
theorem Blk.lt {w : World} {g t : Nat} {cur : List Value} (h : Blk w g t cur) : g < w.heap.size := h.free.lt
theorem Blk.cell {w : World} {g t : Nat} {cur : List Value} (h : Blk w g t cur) (i : Nat) : w.cell? ⟨g, i, none⟩ = cur[i]? := by
  have h' : w.heap[(⟨g, i, none⟩ : Addr).block]? = some (.cells cur.toArray t (0, 0)) := h
  simp [World.cell?, h']
theorem Blk.frozen {w : World} {g t : Nat} {cur : List Value} (h : Blk w g t cur) (i : Nat) : w.frozen? ⟨g, i, none⟩ = false := by
  have h' : w.heap[(⟨g, i, none⟩ : Addr).block]? = some (.cells cur.toArray t (0, 0)) := h
  simp [World.frozen?, h']
theorem Blk.set {w : World} {g t : Nat} {cur : List Value} (h : Blk w g t cur) (i : Nat) (v : Value) : Blk (w.setCell ⟨g, i, none⟩ v) g t (cur.set i v) := by
  unfold Blk at h ⊢
  simp [World.setCell, Array.getElem?_modify, h]
theorem Blk.keep {w w' : World} {g t : Nat} {cur : List Value} (h : Blk w g t cur) (hk : w'.heap[g]? = w.heap[g]?) : Blk w' g t cur := hk.trans h
theorem Blk.row {w : World} {g t : Nat} {cur xs : List Value} (h : Blk w g t cur) (hx : cur.take xs.length = xs) : Row w g 0 xs := by
  intro i hi
  rw [Nat.zero_add, h.cell]
  have := List.getElem?_take (l := cur) (i := xs.length) (j := i)
  rw [hx, if_pos hi] at this
  exact this.symm
theorem Blk.made (w : World) (t : TypeId) (cur : Array Value) : Blk (w.alloc (.cells cur t)) w.heap.size t cur.toList := by
  unfold Blk
  rw [heap_alloc_new]
theorem Free.frozen {w : World} {g : Nat} (h : Free w g) (i : Nat) : w.frozen? ⟨g, i, none⟩ = false := by
  obtain ⟨cur, t, h⟩ := h
  have h' : w.heap[(⟨g, i, none⟩ : Addr).block]? = some (.cells cur t (0, 0)) := h
  simp [World.frozen?, h']
theorem Blk.below {w w' : World} {g t : Nat} {cur : List Value} (h : Blk w g t cur) (hb : Below w.heap.size w w') : Blk w' g t cur := h.keep (hb.block _ h.lt)
theorem Blk.alloc {w : World} {g t : Nat} {cur : List Value} (h : Blk w g t cur) (o : Obj) : Blk (w.alloc o) g t cur := h.keep (Below.heap_alloc w o g h.lt)
theorem Blk.c0 {w : World} {g t : Nat} {a : Value} {r : List Value} (h : Blk w g t (a :: r)) : w.cell? ⟨g, 0, none⟩ = some a := by rw [h.cell]; rfl
theorem Blk.c1 {w : World} {g t : Nat} {a b : Value} {r : List Value} (h : Blk w g t (a :: b :: r)) : w.cell? ⟨g, 1, none⟩ = some b := by rw [h.cell]; rfl
theorem Blk.c2 {w : World} {g t : Nat} {a b c : Value} {r : List Value} (h : Blk w g t (a :: b :: c :: r)) : w.cell? ⟨g, 2, none⟩ = some c := by rw [h.cell]; rfl
theorem Blk.new0 (w : World) (t : TypeId) : Blk (w.alloc (.cells #[] t)) w.heap.size t [] := Blk.made w t _
theorem Blk.new1 (w : World) (t : TypeId) (a : Value) : Blk (w.alloc (.cells #[a] t)) w.heap.size t [a] := Blk.made w t _
theorem Blk.new2 (w : World) (t : TypeId) (a b : Value) : Blk (w.alloc (.cells #[a, b] t)) w.heap.size t [a, b] := Blk.made w t _
theorem Blk.new3 (w : World) (t : TypeId) (a b c : Value) : Blk (w.alloc (.cells #[a, b, c] t)) w.heap.size t [a, b, c] := Blk.made w t _
theorem box3 (w : World) (t : TypeId) (a b c : Value) : ∃ w', w.alloc (.cells #[a, b, c] t) = w' ∧ Blk w' w.heap.size t [a, b, c] ∧ Below w.heap.size w w' ∧ w'.heap.size = w.heap.size + 1 :=
  ⟨_, rfl, Blk.new3 w t a b c, Below.alloc (Below.refl _ _) (Nat.le_refl _) _, by simp⟩
theorem box2 (w : World) (t : TypeId) (a b : Value) : ∃ w', w.alloc (.cells #[a, b] t) = w' ∧ Blk w' w.heap.size t [a, b] ∧ Below w.heap.size w w' ∧ w'.heap.size = w.heap.size + 1 :=
  ⟨_, rfl, Blk.new2 w t a b, Below.alloc (Below.refl _ _) (Nat.le_refl _) _, by simp⟩
theorem Blk.all2 {w : World} {g t : Nat} {a b : Value} (h : Blk w g t [a, b]) : w.cell? ⟨g, 0, none⟩ = some a ∧ w.cell? ⟨g, 1, none⟩ = some b ∧ g < w.heap.size := ⟨h.c0, h.c1, h.lt⟩
def Fresh (w w' : World) (d : D) (v : Value) : Prop := ∃ F : List Nat, Ow w' d v F ∧ F.Nodup ∧ ∀ b ∈ F, w.heap.size ≤ b
theorem Fresh.rd {w w' : World} {d : D} {v : Value} (h : Fresh w w' d v) : Rd w' d v := by
  obtain ⟨F, h, _⟩ := h
  exact h.rd
theorem Fresh.from {w0 w w' : World} {d : D} {v : Value} (h : Fresh w w' d v) (hz : w0.heap.size ≤ w.heap.size) : Fresh w0 w' d v := by
  obtain ⟨F, h, hn, hl⟩ := h
  exact ⟨F, h, hn, fun b hb => Nat.le_trans hz (hl b hb)⟩
theorem Fresh.keep {w w' w'' : World} {d : D} {v : Value} (h : Fresh w w' d v) (hk : ∀ b, w.heap.size ≤ b → b < w'.heap.size → w''.heap[b]? = w'.heap[b]?) : Fresh w w'' d v := by
  obtain ⟨F, h, hn, hl⟩ := h
  exact ⟨F, h.keep fun b hm => hk b (hl b hm) (h.lt b hm), hn, hl⟩
def Freshs (w w' : World) (ds : List D) (vs : List Value) : Prop := ∃ F : List Nat, Ows w' ds vs F ∧ F.Nodup ∧ ∀ b ∈ F, w.heap.size ≤ b
theorem Freshs.rds {w w' : World} {ds : List D} {vs : List Value} (h : Freshs w w' ds vs) : Rds w' ds vs := by
  obtain ⟨F, h, _⟩ := h
  exact h.rds
theorem Freshs.cons {w w' : World} {d : D} {v : Value} {ds : List D} {vs : List Value} {w0 : World} (h : Fresh w0 w d v) (k : Freshs w w' ds vs) (hb : Below w.heap.size w w') (hz : w0.heap.size ≤ w.heap.size) : Freshs w0 w' (d :: ds) (v :: vs) := by
  obtain ⟨F, h1, h2, h3⟩ := h
  obtain ⟨G, k1, k2, k3⟩ := k
  refine ⟨F ++ G, ?_, ?_, ?_⟩
  · simp only [Ows]
    exact ⟨_, _, F, G, rfl, rfl, h1.keep fun b hm => hb.block b (h1.lt b hm), k1⟩
  · rw [List.nodup_append]
    refine ⟨h2, k2, fun a ha b hb' => ?_⟩
    have := h1.lt a ha
    have := k3 b hb'
    omega
  · intro b hm
    rcases List.mem_append.1 hm with hm | hm
    · exact h3 b hm
    · have := k3 b hm
      omega
theorem Freshs.one {w w' : World} {d : D} {v : Value} (h : Fresh w w' d v) : Freshs w w' [d] [v] := by
  obtain ⟨F, h1, h2, h3⟩ := h
  exact ⟨F, by simp only [Ows]; exact ⟨_, _, F, [], rfl, by simp, h1, rfl, rfl⟩, h2, h3⟩
theorem Freshs.from {w0 w w' : World} {ds : List D} {vs : List Value} (h : Freshs w w' ds vs) (hz : w0.heap.size ≤ w.heap.size) : Freshs w0 w' ds vs := by
  obtain ⟨F, h, hn, hl⟩ := h
  exact ⟨F, h, hn, fun b hb => Nat.le_trans hz (hl b hb)⟩
theorem Freshs.keep {w w' w'' : World} {ds : List D} {vs : List Value} (h : Freshs w w' ds vs) (hk : ∀ b, w.heap.size ≤ b → b < w'.heap.size → w''.heap[b]? = w'.heap[b]?) : Freshs w w'' ds vs := by
  obtain ⟨F, h, hn, hl⟩ := h
  exact ⟨F, h.keep fun b hm => hk b (hl b hm) (h.lt b hm), hn, hl⟩
theorem Rds.one {w : World} {d : D} {u : Value} (h : Rds w [d] [u]) : Rd w d u := by
  simp only [Rds] at h
  obtain ⟨x, r, e1, h1, _⟩ := h
  simp only [List.cons.injEq] at e1
  obtain ⟨rfl, _⟩ := e1
  exact h1
structure Only (F : List Nat) (w w' : World) : Prop where
  os : w'.os = w.os
  tape : w'.tape = w.tape
  output : w'.output = w.output
  size : w.heap.size ≤ w'.heap.size
  block : ∀ b, b < w.heap.size → b ∉ F → w'.heap[b]? = w.heap[b]?
theorem Only.refl (F : List Nat) (w : World) : Only F w w := ⟨rfl, rfl, rfl, Nat.le_refl _, fun _ _ _ => rfl⟩
theorem Only.trans {F : List Nat} {a b c : World} (h : Only F a b) (k : Only F b c) : Only F a c :=
  ⟨k.os.trans h.os, k.tape.trans h.tape, k.output.trans h.output, Nat.le_trans h.size k.size, fun i hi hn => (k.block i (Nat.lt_of_lt_of_le hi h.size) hn).trans (h.block i hi hn)⟩
theorem Only.more {F G : List Nat} {a b : World} (h : Only F a b) (hs : ∀ x ∈ F, x ∈ G) : Only G a b :=
  ⟨h.os, h.tape, h.output, h.size, fun i hi hn => h.block i hi fun hm => hn (hs i hm)⟩
theorem Only.setCell {F : List Nat} {a w : World} (h : Only F a w) {p : Addr} (hp : p.block ∈ F) (u : Value) : Only F a (w.setCell p u) :=
  h.trans ⟨rfl, rfl, rfl, by simp [World.setCell], fun k _ hn => Below.heap_setCell _ _ _ _ (fun e => hn (e ▸ hp))⟩
theorem Only.alloc {F : List Nat} {a w : World} (h : Only F a w) (o : Obj) : Only F a (w.alloc o) :=
  h.trans ⟨rfl, rfl, rfl, by simp, fun k hk _ => Below.heap_alloc w o k hk⟩
theorem Only.below {F : List Nat} {a w : World} (h : Only F a w) {B : Nat} (hB : B ≤ a.heap.size) (hF : ∀ b ∈ F, B ≤ b) : Below B a w :=
  ⟨h.os, h.tape, h.output, h.size, fun k hk => h.block k (by omega) (fun hm => by have := hF k hm; omega)⟩
def stores (w : World) (g : Nat) : Nat → List Value → World
  | _, [] => w
  | o, v :: r => stores (w.setCell ⟨g, o, none⟩ v) g (o + 1) r
theorem stores_other : ∀ (vs : List Value) (w : World) (g o : Nat) (b : Nat), b ≠ g → (stores w g o vs).heap[b]? = w.heap[b]?
  | [], _, _, _, _, _ => rfl
  | v :: r, w, g, o, b, h => by
    simp only [stores]
    rw [stores_other r _ g (o + 1) b h, Below.heap_setCell _ _ _ _ h]
theorem stores_blk : ∀ (vs : List Value) (w : World) (g o t : Nat) (cur : List Value), Blk w g t cur → o + vs.length ≤ cur.length → Blk (stores w g o vs) g t (cur.take o ++ vs ++ cur.drop (o + vs.length))
  | [], w, g, o, t, cur, h, _ => by simpa [stores] using h
  | v :: r, w, g, o, t, cur, h, hl => by
    simp only [List.length_cons] at hl
    simp only [stores]
    have := stores_blk r _ g (o + 1) t _ (h.set o v) (by simp; omega)
    have e1 : (cur.set o v).take (o + 1) = cur.take o ++ [v] := by
      rw [List.take_succ_eq_append_getElem (by simp; omega)]
      simp [List.take_set_of_le]
    have e2 : (cur.set o v).drop (o + 1 + r.length) = cur.drop (o + (v :: r).length) := by
      rw [List.drop_set_of_lt (by omega)]
      simp only [List.length_cons]
      congr 1
      omega
    rw [e1, e2] at this
    simpa using this
def Part (w : World) (g t : Nat) (cs : List D) (len : Nat) : Prop :=
  ∃ cur xs F, Blk w g t cur ∧ cur.length = len ∧ cur.take xs.length = xs ∧ Ows w cs xs F ∧ F.Nodup ∧ ∀ b ∈ F, g < b
theorem Part.lt {w : World} {g t : Nat} {cs : List D} {len : Nat} (h : Part w g t cs len) : g < w.heap.size := by
  obtain ⟨cur, xs, F, h, _⟩ := h
  exact h.lt
theorem Part.cell {w : World} {g t : Nat} {cs : List D} {len : Nat} (h : Part w g t cs len) (i : Nat) (hi : i < len) : ∃ v, w.cell? ⟨g, i, none⟩ = some v := by
  obtain ⟨cur, xs, F, h, hl, _⟩ := h
  rw [h.cell]
  exact ⟨_, List.getElem?_eq_getElem (by omega)⟩
theorem Part.frozen {w : World} {g t : Nat} {cs : List D} {len : Nat} (h : Part w g t cs len) (i : Nat) : w.frozen? ⟨g, i, none⟩ = false := by
  obtain ⟨cur, xs, F, h, _⟩ := h
  exact h.frozen i
theorem Part.start {w : World} {base g t size n cap : Nat} {xs : List Value} (h : w.ownsRow base t size (.slice (some ⟨g, 0, none⟩) n cap) n xs) : Part w g t [] (cap * size) := by
  obtain ⟨_, h⟩ := h
  rcases h with ⟨h, _⟩ | ⟨g', cap', cur, hv, _, hg, _, _, hs, _⟩
  · cases h
  · simp only [Value.slice.injEq, Option.some.injEq, Addr.mk.injEq, and_true, true_and] at hv
    obtain ⟨rfl, rfl⟩ := hv
    exact ⟨cur.toList, [], [], by simpa [Blk] using hg, by simpa using hs, by simp, by simp [Ows], by simp, by simp⟩
theorem Part.below {w w' : World} {g t : Nat} {cs : List D} {len : Nat} (h : Part w g t cs len) (hb : Below w.heap.size w w') : Part w' g t cs len := by
  obtain ⟨cur, xs, F, h1, h2, h3, h4, h5, h6⟩ := h
  exact ⟨cur, xs, F, h1.keep (hb.block _ h1.lt), h2, h3, h4.keep fun b hm => hb.block _ (h4.lt b hm), h5, h6⟩
theorem Part.step {w w' : World} {g t : Nat} {cs ds : List D} {len : Nat} {vs : List Value} {G : List Nat} (h : Part w g t cs len) (hb : Below w.heap.size w w') (hv : Ows w' ds vs G) (hn : G.Nodup)
    (hG : ∀ b ∈ G, w.heap.size ≤ b) {o : Nat} (ho : o = cs.length) (hl : o + ds.length ≤ len) : Part (stores w' g o vs) g t (cs ++ ds) len := by
  subst ho
  have hlt := h.lt
  obtain ⟨cur, xs, F, h1, h2, h3, h4, h5, h6⟩ := h
  have hx := h4.length
  have hvl := hv.length
  have hk : ∀ b, g < b → (stores w' g cs.length vs).heap[b]? = w'.heap[b]? := fun b hb => stores_other _ _ _ _ _ (by omega)
  have h4' : Ows w' cs xs F := h4.keep fun b hm => hb.block _ (h4.lt b hm)
  refine ⟨_, xs ++ vs, F ++ G, stores_blk vs w' g cs.length t cur (h1.keep (hb.block _ h1.lt)) (by omega), ?_, ?_, Ows.append (h4'.keep fun b hm => hk b (h6 b hm)) (hv.keep fun b hm => hk b (by have := hG b hm; omega)), ?_, ?_⟩
  · simp; omega
  · rw [← hx, h3]
    have : (xs ++ vs ++ cur.drop (xs.length + vs.length)).take (xs ++ vs).length = xs ++ vs := List.take_left' rfl
    simpa using this
  · rw [List.nodup_append]
    refine ⟨h5, hn, fun a ha b hb' => ?_⟩
    have := h4.lt a ha
    have := hG b hb'
    omega
  · intro b hm
    rcases List.mem_append.1 hm with hm | hm
    · exact h6 b hm
    · have := hG b hm
      omega
theorem Part.done {W w : World} {g t : Nat} {cs : List D} {len : Nat} (h : Part w g t cs len) (hg : W.heap.size ≤ g) {size n cap : Nat} (hc : cs.length = n * size) (hn : n ≤ cap) (hm : cap ≤ maxLen) :
    Fresh W w (.sl size n cs) (.slice (some ⟨g, 0, none⟩) n cap) := by
  obtain ⟨cur, xs, F, h1, h2, h3, h4, h5, h6⟩ := h
  by_cases h0 : n = 0
  · exact ⟨[], by simp only [Ow]; exact ⟨_, cap, rfl, hn, hm, hc, by simp, Or.inl ⟨h0, trivial⟩⟩, by simp, by simp⟩
  · refine ⟨g :: F, by simp only [Ow]; exact ⟨_, cap, rfl, hn, hm, hc, by simp, Or.inr ⟨g, 0, xs, F, rfl, rfl, h1.free, h1.row h3, h4⟩⟩, ?_, ?_⟩
    · rw [List.nodup_cons]
      exact ⟨fun hm => absurd (h6 g hm) (Nat.lt_irrefl _), h5⟩
    · intro b hm
      rcases List.mem_cons.1 hm with rfl | hm
      · exact hg
      · have := h6 b hm
        omega
theorem Ows.nil {w : World} : Ows w [] [] [] := by simp [Ows]
theorem Ows.cons {w : World} {d : D} {v : Value} {cs : List D} {xs : List Value} {F G : List Nat} (h : Ow w d v F) (k : Ows w cs xs G) : Ows w (d :: cs) (v :: xs) (F ++ G) := by
  simp only [Ows]
  exact ⟨_, _, F, G, rfl, rfl, h, k⟩
theorem Ow.int {w : World} (n : Int) : Ow w (.int n) (.int .i64 n) [] := by simp [Ow]
theorem Ows.raws {w : World} : ∀ {us : List Value}, (∀ u ∈ us, u.oneCell' = true) → Ows w (us.map D.raw) us []
  | [], _ => by simp [Ows]
  | u :: r, h => by
    simp only [List.map_cons, Ows, Ow]
    exact ⟨u, r, [], [], rfl, rfl, ⟨⟨rfl, h u (by simp)⟩, rfl⟩, Ows.raws fun x hx => h x (by simp [hx])⟩
theorem Rds.raws {w : World} : ∀ {us xs : List Value}, Rds w (us.map D.raw) xs → xs = us
  | [], _, h => by simpa [Rds] using h
  | u :: r, xs, h => by
    simp only [List.map_cons, Rds, Rd] at h
    obtain ⟨x, r', rfl, ⟨rfl, -⟩, h2⟩ := h
    rw [Rds.raws h2]
theorem Ows.three {w : World} {k n : Int} {d : D} {v : Value} {F : List Nat} (h : Ow w d v F) : Ows w [.int k, .int n, d] [.int .i64 k, .int .i64 n, v] F := by
  simp only [Ows]
  exact ⟨_, _, [], F, rfl, rfl, by simp [Ow], _, _, [], F, rfl, rfl, by simp [Ow], _, _, F, [], rfl, by simp, h, rfl, rfl⟩
theorem cells_two {v a b : Value} (h : v.cells.toList = [a, b]) : v = .agg #[a, b] := by
  cases v with
  | agg cs => simp only [Value.cells] at h; congr 1; exact Array.toList_inj.1 (by rw [h])
  | _ => simp [Value.cells] at h
theorem cells_three {v a b c : Value} (h : v.cells.toList = [a, b, c]) : v = .agg #[a, b, c] := by
  cases v with
  | agg cs => simp only [Value.cells] at h; congr 1; exact Array.toList_inj.1 (by rw [h])
  | _ => simp [Value.cells] at h
def intsD (zs : List Int) : D := .sl 1 zs.length (zs.map D.int)
section
variable {H : Type} {enc : TypeId × Value → H} {P : Program} {w : World} {base : Nat} {sp : Nat → Bool} {hd : Bool}
theorem open_sl {t e size : Nat} {Q : List D → Prop} (ht : P.underlying t = some (.slice e)) (hc : P.cellsOf e = size) (hpos : 0 < size) {fuel : Nat}
    (hel : ∀ m, m < fuel → ∀ cs x, DataW.trod enc P w base sp hd m e cs = some x → ∃ ds, Q ds ∧ ds.length = size ∧ Rds w ds cs)
    {cs : List Value} {x : DataW H × List MemPlace} (h : DataW.trod enc P w base sp hd fuel t cs = some x) :
    ∃ v, ∃ rows : List (List D), cs = [v] ∧ (∀ r ∈ rows, Q r) ∧ Rd w (.sl size rows.length rows.flatten) v := by
  rcases DataW.trod_slice ht h with ⟨rfl, _⟩ | ⟨a, len, cap, elems, rest, n, rfl, rfl, _, hb, hl, hm, hlen, hel', _, _⟩
  · exact ⟨_, [], rfl, by simp, by simp only [Rd]; exact ⟨none, 0, rfl, by simp, by simp [maxLen], by simp, fun _ => rfl, Or.inl rfl⟩⟩
  · have key : ∀ i, i < len → ∃ row : List Value × List D, w.cells? base (a.add (i * size)) size = some row.1 ∧ Q row.2 ∧ row.2.length = size ∧ Rds w row.2 row.1 := by
      intro i hi
      have := hel' i hi
      rw [hc, List.getElem?_eq_getElem (by omega), Option.bind_eq_some_iff] at this
      obtain ⟨cs, hcs, hx⟩ := this
      obtain ⟨ds, q, hd, hr⟩ := hel n (by omega) cs _ hx
      exact ⟨(cs, ds), hcs, q, hd, hr⟩
    obtain ⟨f, hf⟩ := choose_lt key
    refine ⟨_, (List.range len).map fun i => (f i).2, rfl, ?_, ?_⟩
    · intro r hr
      obtain ⟨i, hi, rfl⟩ := List.mem_map.1 hr
      exact (hf i (List.mem_range.1 hi)).2.1
    · have spot : len = 0 ∨ ∃ b o, a = ⟨b, o, none⟩ := by
        by_cases h0 : len = 0
        · exact Or.inl h0
        right
        obtain ⟨b, o, spot⟩ := a
        have h1 := (hf 0 (by omega)).1
        obtain ⟨_, _, hcell⟩ := World.cells?_some h1
        have h2 := hcell 0 hpos
        rw [List.getElem?_eq_getElem (by rw [(hf 0 (by omega)).2.2.2.length, (hf 0 (by omega)).2.2.1]; exact hpos)] at h2
        have hspot : spot = none := by simpa [Addr.add] using World.cell?_spot h2
        exact ⟨b, o, by rw [hspot]⟩
      have hfl : ∀ m, m ≤ len → (((List.range m).map fun i => (f i).2).flatten).length = m * size ∧ Rds w (((List.range m).map fun i => (f i).2).flatten) (((List.range m).map fun i => (f i).1).flatten) ∧
          (∀ b o, a = ⟨b, o, none⟩ → Row w b o (((List.range m).map fun i => (f i).1).flatten)) := by
        intro m
        induction m with
        | zero => intro _; exact ⟨by simp, by simp [Rds], fun b o _ i hi => by simp at hi⟩
        | succ m ih =>
          intro hm'
          obtain ⟨i1, i2, i3⟩ := ih (by omega)
          obtain ⟨f1, _, f3, f4⟩ := hf m (by omega)
          rw [List.range_succ, List.map_append, List.flatten_append, List.map_append, List.flatten_append]
          refine ⟨?_, Rds.append i2 (by simpa using f4), ?_⟩
          · rw [List.length_append, i1]
            simp [f3, Nat.succ_mul]
          · intro b o hab i hi
            have hlen1 := i2.length
            rw [i1] at hlen1
            by_cases hlt : i < m * size
            · rw [i3 b o hab i (by omega), List.getElem?_append_left (by omega)]
            · rw [List.getElem?_append_right (by omega), hlen1]
              obtain ⟨_, _, hcell⟩ := World.cells?_some f1
              have h4 := f4.length
              rw [f3] at h4
              simp only [List.map_cons, List.map_nil, List.flatten_cons, List.flatten_nil, List.append_nil, List.length_append, hlen1, h4] at hi ⊢
              have h5 := hcell (i - m * size) (by omega)
              rw [hab, add_add, add_plain] at h5
              rw [← h5]
              congr 2
              omega
      obtain ⟨g1, g2, g3⟩ := hfl len (Nat.le_refl _)
      simp only [Rd]
      refine ⟨some a, cap, by simp, by simpa using hl, hm, by simpa using g1, by simp, ?_⟩
      rcases spot with h0 | ⟨b, o, hab⟩
      · exact Or.inl (by simpa using h0)
      · exact Or.inr ⟨b, o, _, by rw [hab], g3 b o hab, g2⟩
end
end Go.Proofs.YtjlmdhoajfdkbaaGreatDoor

namespace Go.Proofs.YtjlmdhoajfdkbaaGreatDoor
set_option linter.unusedVariables false
set_option linter.unusedSimpArgs false
open Go.ChangeShapes Go.WideShapes Go.ChangeAt Go.RowKit Go.Deep
def slotOf (o : Oper) (a : Act) : Value := match o.dst with
  | some d => a.tmps.getD d undef
  | none => undef
def putFrom : List Oper → Nat → (Nat → Value) → Act → Act
  | [], _, _, a => a
  | o :: r, k, vs, a => putFrom r (k + 1) vs (a.put o.dst (vs k))
theorem slotOf_put {o p : Oper} {a : Act} {v : Value} (h : ∀ d, o.dst = some d → p.dst ≠ some d) : slotOf p (a.put o.dst v) = slotOf p a := by
  unfold slotOf
  cases hp : p.dst with
  | none => rfl
  | some d =>
    cases ho : o.dst with
    | none => rfl
    | some e =>
      have hne : e ≠ d := fun he => h e ho (by rw [hp, he])
      simp [Act.put, Array.getElem?_setIfInBounds_ne hne]
theorem slotOf_same {o : Oper} {a : Act} {v : Value} {d : Tmp} (h : o.dst = some d) (hd : d < a.tmps.size) : slotOf o (a.put o.dst v) = v := by
  unfold slotOf
  rw [h]
  simp [Act.put, hd]
theorem putFrom_self : ∀ (ops : List Oper) (k : Nat) (vs : Nat → Value) (a0 a : Act), a0.defers = a.defers → a0.tmps.size = a.tmps.size → (∀ t, (∀ o ∈ ops, o.dst ≠ some t) → a0.tmps[t]? = a.tmps[t]?) →
    (∀ j o, ops[j]? = some o → vs (k + j) = slotOf o a) → putFrom ops k vs a0 = a
  | [], k, vs, a0, a, h1, h2, h3, _ => by
    have ht : a0.tmps = a.tmps := Array.ext_getElem? fun t => h3 t (by simp)
    cases a0; cases a
    simp only at h1 ht
    simp [putFrom, h1, ht]
  | o :: r, k, vs, a0, a, h1, h2, h3, h4 => by
    simp only [putFrom]
    have hv : vs k = slotOf o a := by simpa using h4 0 o (by simp)
    refine putFrom_self r (k + 1) vs _ a ?_ ?_ ?_ ?_
    · cases ho : o.dst <;> simpa [Act.put, ho] using h1
    · cases ho : o.dst <;> simpa [Act.put, ho] using h2
    · intro t ht
      rw [hv]
      cases ho : o.dst with
      | none =>
        simp only [Act.put]
        exact h3 t (fun p hp => by
          rcases List.mem_cons.1 hp with rfl | hp
          · rw [ho]; simp
          · exact ht p hp)
      | some d =>
        by_cases hdt : d = t
        · subst hdt
          simp only [Act.put, slotOf, ho]
          by_cases hs : d < a0.tmps.size
          · rw [Array.getElem?_setIfInBounds_self_of_lt hs]
            rw [h2] at hs
            simp [hs]
          · have hs' : ¬ d < a.tmps.size := by rw [← h2]; exact hs
            exact (Array.getElem?_eq_none (by rw [Array.size_setIfInBounds]; exact Nat.not_lt.1 hs)).trans (Array.getElem?_eq_none (Nat.not_lt.1 hs')).symm
        · simp only [Act.put]
          rw [Array.getElem?_setIfInBounds_ne hdt]
          exact h3 t (fun p hp => by
            rcases List.mem_cons.1 hp with rfl | hp
            · rw [ho]; simpa using hdt
            · exact ht p hp)
    · intro j p hj
      have := h4 (j + 1) p (by simpa using hj)
      rw [← this]
      congr 1
      omega
section
variable {P : Program} {ops : Array Oper}
theorem wpOp_of_list {Q Q1 : Exit → Act → World → Prop} {i : Nat} {o : Oper} {K : Act → World → Prop} {a : Act} {w : World} (hi : ops[i]? = some o) (h : wpList P ops Q1 [o] a w)
    (hn : ∀ a' w', Q1 .normal a' w' → K a' w') (he : ∀ e a' w', e ≠ .normal → ¬ Q1 e a' w') : wpOp P ops Q i K a w := by
  unfold wpOp
  rw [hi]
  simp only [wpList] at h
  simp only
  split
  · rename_i hw
    rw [if_pos hw] at h
    rcases h with h | ⟨_, a', w', h⟩
    · refine Or.inl ?_
      unfold Oper.wp at *
      generalize (execOp a.eval o).run P w = r at *
      cases r with
      | ok n w' =>
        cases n <;> simp only [Oper.upon] at h ⊢ <;>
          first
            | exact hn _ _ h
            | exact Calls.mono h (fun e w'' h' => by
                cases e
                · exact hn _ _ h'
                · exact absurd h' (he _ _ _ (by simp))
                · obtain ⟨a', w', h'⟩ := h'
                  exact absurd h' (he _ _ _ (by simp)))
            | exact Rows.mono h (fun _ _ h' => hn _ _ h')
            | exact h
      | halt x w' =>
        cases x <;> simp only [Oper.upon] at h ⊢
        all_goals first | exact absurd h (he _ _ _ (by simp)) | exact h
    · exact absurd h (he _ _ _ (by simp))
  · rename_i hw
    rw [if_neg hw] at h
    exact hn _ _ h
def tupAt (v : Value) (k : Nat) : Value := match v with
  | .tuple vs => vs.getD k undef
  | _ => undef
def srcOf (ops : Array Oper) (t : Tmp) : Nat := (List.range ops.size).findIdx fun j => match ops[j]? with
  | some o => o.dst == some t
  | none => false
def deps (ops : Array Oper) (i : Nat) : List Nat := match ops[i]? with
  | some o => (o.after.toList.filter fun e => Region.binds .any e).map (·.on)
  | none => []
theorem mem_deps {i j : Nat} {o : Oper} (hi : ops[i]? = some o) : j ∈ deps ops i ↔ ∃ e ∈ o.after, Region.binds .any e = true ∧ e.on = j := by
  unfold deps
  rw [hi]
  simp only [List.mem_map, List.mem_filter, Array.mem_toList_iff]
  constructor
  · rintro ⟨e, ⟨h1, h2⟩, h3⟩; exact ⟨e, h1, h2, h3⟩
  · rintro ⟨e, h1, h2, h3⟩; exact ⟨e, ⟨h1, h2⟩, h3⟩
def slots (ops : Array Oper) (a : Act) (i : Nat) : Value := match ops[i]? with
  | some o => slotOf o a
  | none => undef
def ancs (ops : Array Oper) : Nat → Nat → List Nat
  | 0, i => [i]
  | f + 1, i => i :: (deps ops i).flatMap (ancs ops f)
theorem ancs_listed {listed : Array Bool} (hc : ∀ i, listed.getD i false = true → ∀ j ∈ deps ops i, listed.getD j false = true) : ∀ f i, listed.getD i false = true → ∀ j ∈ ancs ops f i, listed.getD j false = true
  | 0, i, h, j, hj => by simp only [ancs, List.mem_singleton] at hj; subst hj; exact h
  | f + 1, i, h, j, hj => by
    simp only [ancs, List.mem_cons, List.mem_flatMap] at hj
    rcases hj with rfl | ⟨k, hk, hj⟩
    · exact h
    · exact ancs_listed hc f k (hc i h k hk) j hj
def Sep (p q : Nat × Nat) : Prop := p.2 ≤ q.1 ∨ q.2 ≤ p.1
def Agree {α : Type} (l : List Nat) (f g : Nat → α) : Prop := ∀ j ∈ l, f j = g j
def upd {α : Type} (f : Nat → α) (i : Nat) (x : α) : Nat → α := fun j => if j = i then x else f j
theorem getD_false_of {l : Array Bool} {i : Nat} (hi : i < l.size) (h : l.getD i true = false) : l.getD i false = false := by
  simp [hi] at h ⊢; exact h
theorem getD_set_self {l : Array Bool} {i : Nat} (hi : i < l.size) (d : Bool) : (l.setIfInBounds i true).getD i d = true := by simp [hi]
def Onward (K : Act → World → Prop) : Exit → Act → World → Prop := fun e a w => e = .normal ∧ K a w
theorem Onward.mk {K : Act → World → Prop} {a : Act} {w : World} (h : K a w) : Onward K .normal a w := ⟨rfl, h⟩
end
theorem mem_of {l : List Nat} {j : Nat} (h : l.contains j = true) : j ∈ l := by simpa using h
def FreshIn (p : Nat × Nat) (w : World) (ds : List D) (vs : List Value) : Prop := ∃ F : List Nat, Ows w ds vs F ∧ F.Nodup ∧ ∀ b ∈ F, p.1 ≤ b ∧ b < p.2
theorem Freshs.stretch {w w' : World} {ds : List D} {vs : List Value} (h : Freshs w w' ds vs) : FreshIn (w.heap.size, w'.heap.size) w' ds vs := by
  obtain ⟨F, h1, h2, h3⟩ := h
  exact ⟨F, h1, h2, fun b hm => ⟨h3 b hm, h1.lt b hm⟩⟩
theorem FreshIn.rds {p : Nat × Nat} {w : World} {ds : List D} {vs : List Value} (h : FreshIn p w ds vs) : Rds w ds vs := by
  obtain ⟨F, h1, _⟩ := h
  exact h1.rds
end Go.Proofs.YtjlmdhoajfdkbaaGreatDoor

namespace Go.Proofs.YtjlmdhoajfdkbaaGreatDoor
set_option linter.unusedVariables false
set_option linter.unusedSimpArgs false
open Go.ChangeShapes Go.WideShapes Go.ChangeAt Go.RowKit Go.Deep
structure Spares (X : Nat → Prop) (w w' : World) : Prop where
  os : w'.os = w.os
  tape : w'.tape = w.tape
  output : w'.output = w.output
  size : w.heap.size ≤ w'.heap.size
  block : ∀ b, b < w.heap.size → ¬ X b → w'.heap[b]? = w.heap[b]?
theorem Spares.of_below {X : Nat → Prop} {w w' : World} (h : Below w.heap.size w w') : Spares X w w' := ⟨h.os, h.tape, h.output, h.size, fun b hb _ => h.block b hb⟩
theorem Spares.below {X : Nat → Prop} {w w' : World} {B : Nat} (h : Spares X w w') (hB : B ≤ w.heap.size) (hX : ∀ b, X b → B ≤ b) : Below B w w' :=
  ⟨h.os, h.tape, h.output, h.size, fun b hb => h.block b (by omega) (fun hx => by have := hX b hx; omega)⟩
theorem Spares.more {X Y : Nat → Prop} {w w' : World} (h : Spares X w w') (hs : ∀ b, X b → Y b) : Spares Y w w' := ⟨h.os, h.tape, h.output, h.size, fun b hb hn => h.block b hb (fun hx => hn (hs b hx))⟩
theorem Spares.trans {X : Nat → Prop} {a b c : World} (h : Spares X a b) (k : Spares X b c) : Spares X a c :=
  ⟨k.os.trans h.os, k.tape.trans h.tape, k.output.trans h.output, Nat.le_trans h.size k.size, fun i hi hn => (k.block i (Nat.lt_of_lt_of_le hi h.size) hn).trans (h.block i hi hn)⟩
theorem Spares.refl {X : Nat → Prop} (w : World) : Spares X w w := ⟨rfl, rfl, rfl, Nat.le_refl _, fun _ _ _ => rfl⟩
theorem Spares.set {b0 o : Nat} {w w' : World} {v : Value} (h : Spares (fun b => b = b0) w w') : Spares (fun b => b = b0) w (w'.setCell ⟨b0, o, none⟩ v) :=
  h.trans ⟨rfl, rfl, rfl, by simp [World.setCell], fun k _ hn => Below.heap_setCell _ _ _ _ hn⟩
theorem spares_sets {b0 : Nat} {w w' : World} (h : Spares (fun b => b = b0) w w') : Spares (fun b => b = b0) w w' := h
def aggAt (v : Value) (k : Nat) : Value := match v with
  | .agg cs => cs.getD k undef
  | _ => undef
def eatsOf (C : List (Nat × Nat)) (i : Nat) : List Nat := (C.filter fun p => p.1 == i).map (·.2)
theorem mem_eatsOf {C : List (Nat × Nat)} {i c : Nat} : c ∈ eatsOf C i ↔ (i, c) ∈ C := by
  unfold eatsOf
  simp only [List.mem_map, List.mem_filter, beq_iff_eq]
  constructor
  · rintro ⟨⟨x, y⟩, ⟨h, rfl⟩, rfl⟩; exact h
  · intro h; exact ⟨(i, c), ⟨h, rfl⟩, rfl⟩
def chainOf (C : List (Nat × Nat)) : Nat → Nat → List Nat
  | 0, i => [i]
  | f + 1, i => i :: (eatsOf C i).flatMap (chainOf C f)
theorem chainOf_self (C : List (Nat × Nat)) (f i : Nat) : i ∈ chainOf C f i := by cases f <;> simp [chainOf]
def rsB (ops : Array Oper) (size : Nat) (C D : List (Nat × Nat)) : Bool :=
  (List.range ops.size).all (fun i =>
    (deps ops i).all (· < i) && (chainOf C ops.size i).all (fun x => (ancs ops ops.size i).contains x) &&
    (match ops[i]? with
      | some o => (match o.dst with
        | some d => decide (d < size) && (List.range ops.size).all (fun j => j == i || (ops[j]?).all (fun p => p.dst != some d))
        | none => true)
      | none => false)) &&
  C.all (fun p => (ancs ops ops.size p.1).contains p.2 && p.2 != p.1 && decide (p.1 < ops.size) && C.all (fun q => q.2 != p.2 || q.1 == p.1) &&
    (List.range ops.size).all (fun k => k == p.1 || k == p.2 || (chainOf C ops.size k).all (fun x => !(chainOf C ops.size p.2).contains x) || (ancs ops ops.size k).contains p.1 || C.any (fun q => q.2 == k && (ancs ops ops.size p.2).contains q.1))) &&
  D.all (fun p => decide (p.1 < ops.size) && D.all (fun q => q.2 != p.2 || q.1 == p.1))
def sureB (ops : Array Oper) (C : List (Nat × Nat)) (i j : Nat) : Bool := C.all fun p => p.2 != j || p.1 == i || (ancs ops ops.size p.1).contains i
def sureGB (ops : Array Oper) (D : List (Nat × Nat)) (i m : Nat) : Bool := D.all fun p => p.2 != m || p.1 == i || (ancs ops ops.size p.1).contains i
structure RsSpec (ops : Array Oper) (size : Nat) (C D : List (Nat × Nat)) : Prop where
  back : ∀ i, i < ops.size → ∀ j ∈ deps ops i, j < i
  chain : ∀ i, i < ops.size → ∀ x ∈ chainOf C ops.size i, x ∈ ancs ops ops.size i
  dst : ∀ (i : Nat) (o : Oper), ops[i]? = some o → ∀ d, o.dst = some d → d < size ∧ ∀ (j : Nat) (p : Oper), ops[j]? = some p → j ≠ i → p.dst ≠ some d
  anc : ∀ i c, (i, c) ∈ C → c ∈ ancs ops ops.size i ∧ c ≠ i ∧ i < ops.size
  one : ∀ i c k, (i, c) ∈ C → (k, c) ∈ C → k = i
  apart : ∀ i c, (i, c) ∈ C → ∀ k, k < ops.size → k ≠ i → k ≠ c → (∀ x ∈ chainOf C ops.size k, x ∉ chainOf C ops.size c) ∨ i ∈ ancs ops ops.size k ∨ ∃ q, (q, k) ∈ C ∧ q ∈ ancs ops ops.size c
  given : ∀ i m k, (i, m) ∈ D → (k, m) ∈ D → k = i
theorem rsB_spec {ops : Array Oper} {size : Nat} {C D : List (Nat × Nat)} (h : rsB ops size C D = true) : RsSpec ops size C D := by
  simp only [rsB, Bool.and_eq_true] at h
  obtain ⟨⟨h1, h2⟩, h3⟩ := h
  have h1' := fun i (hi : i < ops.size) => List.all_eq_true.1 h1 i (List.mem_range.2 hi)
  have h2' := fun i c (hi : (i, c) ∈ C) => List.all_eq_true.1 h2 (i, c) hi
  refine ⟨?_, ?_, ?_, ?_, ?_, ?_, ?_⟩
  · intro i hi j hj
    have := h1' i hi
    simp only [Bool.and_eq_true] at this
    simpa using List.all_eq_true.1 this.1.1 j hj
  · intro i hi x hx
    have := h1' i hi
    simp only [Bool.and_eq_true] at this
    simpa using List.all_eq_true.1 this.1.2 x hx
  · intro i o hi d hd
    have hlt := (Array.getElem?_eq_some_iff.1 hi).1
    have := h1' i hlt
    simp only [Bool.and_eq_true] at this
    have h := this.2
    rw [hi] at h
    simp only [hd, Bool.and_eq_true, decide_eq_true_eq] at h
    refine ⟨h.1, fun j p hj hji => ?_⟩
    have hjlt := (Array.getElem?_eq_some_iff.1 hj).1
    have := List.all_eq_true.1 h.2 j (List.mem_range.2 hjlt)
    rw [hj] at this
    simpa [hji] using this
  · intro i c hi
    have := h2' i c hi
    simp only [Bool.and_eq_true, decide_eq_true_eq, bne_iff_ne, List.contains_iff_mem] at this
    exact ⟨this.1.1.1.1, this.1.1.1.2, this.1.1.2⟩
  · intro i c k hi hk
    have := h2' i c hi
    simp only [Bool.and_eq_true] at this
    have := List.all_eq_true.1 this.1.2 (k, c) hk
    simpa using this
  · intro i c hi k hk hki hkc
    have := h2' i c hi
    simp only [Bool.and_eq_true] at this
    have := List.all_eq_true.1 this.2 k (List.mem_range.2 hk)
    simp only [Bool.or_eq_true, beq_iff_eq, List.contains_iff_mem] at this
    rcases this with (((h | h) | h) | h) | h
    · exact absurd h hki
    · exact absurd h hkc
    · refine Or.inl fun x hx hx' => ?_
      have := List.all_eq_true.1 h x hx
      rw [Bool.not_eq_true', ← Bool.not_eq_true, List.contains_iff_mem] at this
      exact this hx'
    · exact Or.inr (Or.inl h)
    · obtain ⟨⟨q, k'⟩, hq, h'⟩ := List.any_eq_true.1 h
      simp only [Bool.and_eq_true, beq_iff_eq, List.contains_iff_mem] at h'
      obtain ⟨rfl, h'⟩ := h'
      exact Or.inr (Or.inr ⟨q, hq, h'⟩)
  · intro i m k hi hk
    have := List.all_eq_true.1 h3 (i, m) hi
    simp only [Bool.and_eq_true] at this
    have := List.all_eq_true.1 this.2 (k, m) hk
    simpa using this
def foot (C D : List (Nat × Nat)) (G : Nat → Nat → Prop) (n i : Nat) (iv : Nat → Nat × Nat) (b : Nat) : Prop :=
  ∃ j ∈ chainOf C n i, ((iv j).1 ≤ b ∧ b < (iv j).2) ∨ ∃ m, (j, m) ∈ D ∧ G m b
def bite (C D : List (Nat × Nat)) (G : Nat → Nat → Prop) (n i : Nat) (iv : Nat → Nat × Nat) (b : Nat) : Prop :=
  (∃ m, (i, m) ∈ D ∧ G m b) ∨ ∃ c, (i, c) ∈ C ∧ foot C D G n c iv b
theorem foot_own {C D : List (Nat × Nat)} {G : Nat → Nat → Prop} {n i : Nat} {iv : Nat → Nat × Nat} {b : Nat} (h1 : (iv i).1 ≤ b) (h2 : b < (iv i).2) : foot C D G n i iv b := ⟨i, chainOf_self _ _ _, Or.inl ⟨h1, h2⟩⟩
theorem foot_agree {C D : List (Nat × Nat)} {G : Nat → Nat → Prop} {n i : Nat} {iv iv' : Nat → Nat × Nat} {l : List Nat} (hl : ∀ x ∈ chainOf C n i, x ∈ l) (h : Agree l iv iv') {b : Nat} (hf : foot C D G n i iv b) : foot C D G n i iv' b := by
  obtain ⟨j, hj, hb⟩ := hf
  exact ⟨j, hj, by rw [← h j (hl j hj)]; exact hb⟩
structure RsInv (ops : Array Oper) (C D : List (Nat × Nat)) (G : Nat → Nat → Prop) (a0 : Act) (W : World) (J : Nat → (Nat → Nat × Nat) → (Nat → Value) → World → Prop) (JE : Nat → (Nat → Nat × Nat) → (Nat → Value) → Prop)
    (listed : Array Bool) (a : Act) (w : World) : Prop where
  size : listed.size = ops.size
  defers : a0.defers = a.defers
  tmps : a0.tmps.size = a.tmps.size
  off : ∀ t, (∀ o ∈ ops.toList, o.dst ≠ some t) → a0.tmps[t]? = a.tmps[t]?
  closed : ∀ i, listed.getD i false = true → ∀ j ∈ deps ops i, listed.getD j false = true
  rest : ∀ i, listed.getD i false = false → slots ops a i = slots ops a0 i
  turned : Spares (fun b => ∃ i m, listed.getD i false = true ∧ (i, m) ∈ D ∧ G m b) W w
  facts : ∃ iv : Nat → Nat × Nat, (∀ i, listed.getD i false = true → (∀ k, (k, i) ∈ C → listed.getD k false = false) → J i iv (slots ops a) w) ∧ (∀ i, listed.getD i false = true → JE i iv (slots ops a)) ∧
    (∀ i, listed.getD i false = true → W.heap.size ≤ (iv i).1 ∧ (iv i).1 ≤ (iv i).2 ∧ (iv i).2 ≤ w.heap.size) ∧
    (∀ i j, listed.getD i false = true → listed.getD j false = true → i ≠ j → Sep (iv i) (iv j))
section
variable {P : Program} {ops : Array Oper}
theorem wpAny_rs {Q : Exit → Act → World → Prop} {C D : List (Nat × Nat)} {G : Nat → Nat → Prop} {a0 : Act} {W : World} {J : Nat → (Nat → Nat × Nat) → (Nat → Value) → World → Prop} {JE : Nat → (Nat → Nat × Nat) → (Nat → Value) → Prop}
    (sp : RsSpec ops a0.tmps.size C D) (hG : ∀ m m' b, G m b → G m' b → m = m') (hGW : ∀ m b, G m b → b < W.heap.size)
    (hJ : ∀ i iv iv' vs vs' w w', i < ops.size → Agree (ancs ops ops.size i) iv iv' → Agree (ancs ops ops.size i) vs vs' → w.heap.size ≤ w'.heap.size → (∀ b, b < w.heap.size → foot C D G ops.size i iv b → w'.heap[b]? = w.heap[b]?) → J i iv vs w → J i iv' vs' w')
    (hE : ∀ i iv vs w, i < ops.size → J i iv vs w → JE i iv vs)
    (hEE : ∀ i iv iv' vs vs', i < ops.size → Agree (ancs ops ops.size i) iv iv' → Agree (ancs ops ops.size i) vs vs' → JE i iv vs → JE i iv' vs')
    (hstep : ∀ i o, ops[i]? = some o → ∀ iv vs w, Spares (fun b => ∃ m, G m b ∧ sureGB ops D i m = false) W w → (∀ j ∈ ancs ops ops.size i, j ≠ i → sureB ops C i j = true → J j iv vs w) → (∀ j ∈ ancs ops ops.size i, j ≠ i → JE j iv vs) →
      (∀ j ∈ ancs ops ops.size i, j ≠ i → W.heap.size ≤ (iv j).1 ∧ (iv j).1 ≤ (iv j).2 ∧ (iv j).2 ≤ w.heap.size) → (∀ j ∈ ancs ops ops.size i, ∀ k ∈ ancs ops ops.size i, j ≠ i → k ≠ i → j ≠ k → Sep (iv j) (iv k)) → (∀ k, i ∈ ancs ops ops.size k → vs k = slots ops a0 k) →
      wpList P ops (fun e a' w' => e = .normal ∧ ∃ v, (o.dst = none → v = undef) ∧ a' = (putFrom ops.toList 0 vs a0).put o.dst v ∧ Spares (bite C D G ops.size i iv) w w' ∧
        (∀ iv', Agree ((ancs ops ops.size i).erase i) iv iv' → iv' i = (w.heap.size, w'.heap.size) → J i iv' (upd vs i v) w')) [o] (putFrom ops.toList 0 vs a0) w)
    (hQ : ∀ iv vs w, Spares (fun b => ∃ i m, (i, m) ∈ D ∧ G m b) W w → (∀ i, i < ops.size → (∀ k, (k, i) ∉ C) → J i iv vs w) → (∀ i, i < ops.size → JE i iv vs) →
      (∀ i, i < ops.size → W.heap.size ≤ (iv i).1 ∧ (iv i).1 ≤ (iv i).2 ∧ (iv i).2 ≤ w.heap.size) → (∀ i j, i < ops.size → j < ops.size → i ≠ j → Sep (iv i) (iv j)) → Q .normal (putFrom ops.toList 0 vs a0) w) :
    ∀ (fuel : Nat) (U : List Nat) (listed : Array Bool) (a : Act) (w : World), U.length ≤ fuel → (∀ i, i < ops.size → listed.getD i false = false → i ∈ U) → RsInv ops C D G a0 W J JE listed a w → wpAny P .any ops Q fuel listed a w := by
  have self : ∀ (listed : Array Bool) (a : Act) (w : World), RsInv ops C D G a0 W J JE listed a w → putFrom ops.toList 0 (slots ops a) a0 = a := by
    intro listed a w inv
    refine putFrom_self _ _ _ _ _ inv.defers inv.tmps inv.off (fun j o hj => ?_)
    unfold slots
    rw [Nat.zero_add, show ops[j]? = some o by simpa using hj]
  have done : ∀ (listed : Array Bool) (a : Act) (w : World), RsInv ops C D G a0 W J JE listed a w → (∀ i, i < ops.size → listed.getD i false = true) → Q .normal a w := by
    intro listed a w inv hall
    obtain ⟨iv, f1, f2, f3, f4⟩ := inv.facts
    have := hQ iv (slots ops a) w (inv.turned.more fun b ⟨i, m, _, h1, h2⟩ => ⟨i, m, h1, h2⟩) (fun i hi hk => f1 i (hall i hi) (fun k hm => absurd hm (hk k))) (fun i hi => f2 i (hall i hi)) (fun i hi => f3 i (hall i hi)) (fun i j hi hj => f4 i j (hall i hi) (hall j hj))
    rwa [self listed a w inv] at this
  have allOf : ∀ (listed : Array Bool), listed.size = ops.size → Region.ready .any ops listed = [] → ∀ i, i < ops.size → listed.getD i false = true := by
    intro listed hsz hr i
    induction i using Nat.strongRecOn with
    | _ i ih =>
      intro hi
      cases hl : listed.getD i false with
      | true => rfl
      | false =>
        exfalso
        have hm : i ∈ Region.ready .any ops listed := by
          rw [mem_ready]
          refine ⟨by simp [hsz, hi] at hl ⊢; exact hl, ops[i], by simp [hi], fun e he hb => ?_⟩
          have hd : e.on ∈ deps ops i := (mem_deps (by simp [hi])).2 ⟨e, he, hb, rfl⟩
          have := sp.back i hi _ hd
          exact ih _ this (by omega)
        rw [hr] at hm
        cases hm
  intro fuel
  induction fuel with
  | zero =>
    intro U listed a w hU hun inv
    have hall : ∀ i, i < ops.size → listed.getD i false = true := by
      intro i hi
      cases hl : listed.getD i false with
      | true => rfl
      | false =>
        have := hun i hi hl
        rw [List.eq_nil_of_length_eq_zero (Nat.le_zero.1 hU)] at this
        cases this
    refine ⟨?_, done listed a w inv hall⟩
    apply List.eq_nil_iff_forall_not_mem.2
    intro i hi
    obtain ⟨h1, o, ho, _⟩ := mem_ready.1 hi
    have hlt := (Array.getElem?_eq_some_iff.1 ho).1
    have h2 := hall i hlt
    have h3 := getD_false_of (by rw [inv.size]; exact hlt) h1
    rw [h2] at h3
    cases h3
  | succ fuel ih =>
    intro U listed a w hU hun inv
    refine ⟨fun hr => done listed a w inv (allOf listed inv.size hr), fun i hi => ?_⟩
    obtain ⟨h1, o, ho, hdeps⟩ := mem_ready.1 hi
    have hlt : i < ops.size := (Array.getElem?_eq_some_iff.1 ho).1
    have hltl : i < listed.size := by rw [inv.size]; exact hlt
    have hil := getD_false_of hltl h1
    have hd : ∀ j ∈ deps ops i, listed.getD j false = true := fun j hj => by
      obtain ⟨e, he, hb, rfl⟩ := (mem_deps ho).1 hj
      exact hdeps e he hb
    have hself := self listed a w inv
    have hU' : (U.erase i).length ≤ fuel := by
      rw [List.length_erase_of_mem (hun i hlt hil)]
      omega
    have hun' : ∀ k, k < ops.size → (listed.setIfInBounds i true).getD k false = false → k ∈ U.erase i := by
      intro k hk hkl
      by_cases hki : k = i
      · subst hki
        rw [getD_set_self hltl] at hkl
        cases hkl
      · rw [getD_set_ne false (Ne.symm hki)] at hkl
        exact (List.mem_erase_of_ne hki).2 (hun k hk hkl)
    have hclosed : ∀ k, (listed.setIfInBounds i true).getD k false = true → ∀ j ∈ deps ops k, (listed.setIfInBounds i true).getD j false = true := by
      intro k hk j hj
      by_cases hki : k = i
      · subst hki
        exact getD_set_true (hd j hj)
      · rw [getD_set_ne false (Ne.symm hki)] at hk
        exact getD_set_true (inv.closed k hk j hj)
    have hsz : (listed.setIfInBounds i true).size = ops.size := by rw [Array.size_setIfInBounds]; exact inv.size
    have llt : ∀ k, listed.getD k false = true → k < ops.size := by
      intro k hk
      rw [← inv.size]
      by_cases hkl : k < listed.size
      · exact hkl
      · simp [hkl] at hk
    have hput : ∀ v k, k ≠ i → slots ops (a.put o.dst v) k = slots ops a k := by
      intro v k hk
      unfold slots
      cases hok : ops[k]? with
      | none => rfl
      | some p => exact slotOf_put (fun d' hd' => (sp.dst i o ho d' hd').2 k p hok hk)
    have hputi : ∀ v, (o.dst = none → v = undef) → slots ops (a.put o.dst v) i = v := by
      intro v hv
      unfold slots
      rw [ho]
      simp only
      cases hdst : o.dst with
      | none =>
        rw [hv hdst]
        simp only [slotOf, hdst]
      | some d =>
        have := slotOf_same (o := o) (a := a) (v := v) hdst (by rw [← inv.tmps]; exact (sp.dst i o ho d hdst).1)
        rw [hdst] at this
        exact this
    have hoff : ∀ v t, (∀ p ∈ ops.toList, p.dst ≠ some t) → a0.tmps[t]? = (a.put o.dst v).tmps[t]? := by
      intro v t ht
      rw [inv.off t ht]
      cases hdst : o.dst with
      | none => rfl
      | some d =>
        have hne : d ≠ t := fun e => ht o (by rw [Array.mem_toList_iff]; exact Array.mem_of_getElem? ho) (by rw [hdst, e])
        simp [Act.put, Array.getElem?_setIfInBounds_ne hne]
    have hdef : ∀ v, a0.defers = (a.put o.dst v).defers := fun v => by cases o.dst <;> exact inv.defers
    have hts : ∀ v, a0.tmps.size = (a.put o.dst v).tmps.size := fun v => by cases o.dst <;> simpa [Act.put] using inv.tmps
    obtain ⟨iv, f1, f2, f3, f4⟩ := inv.facts
    -- what an operation waits for is listed
    have hanc : ∀ j ∈ ancs ops ops.size i, j ≠ i → listed.getD j false = true := by
      have hc' : ∀ f k, k ∈ deps ops i → ∀ j ∈ ancs ops f k, listed.getD j false = true := fun f k hk j hj => ancs_listed inv.closed f k (hd k hk) j hj
      intro j hj hji
      cases hsz' : ops.size with
      | zero => omega
      | succ f =>
        rw [hsz'] at hj
        simp only [ancs, List.mem_cons, List.mem_flatMap] at hj
        rcases hj with hj | ⟨k, hk, hj⟩
        · exact absurd hj hji
        · exact hc' f k hk j hj
    have hla : ∀ k, listed.getD k false = true → ∀ j ∈ ancs ops ops.size k, listed.getD j false = true := fun k hk j hj => ancs_listed inv.closed _ k hk j hj
    have hlc : ∀ k, listed.getD k false = true → ∀ j ∈ chainOf C ops.size k, listed.getD j false = true := fun k hk j hj => hla k hk j (sp.chain k (llt k hk) j hj)
    have hni : ∀ k, listed.getD k false = true → k ≠ i := fun k hk e => by rw [e, hil] at hk; cases hk
    have herase : ∀ j ∈ (ancs ops ops.size i).erase i, j ≠ i := by
      intro j hj e
      subst e
      have hcount : ∀ f x, x ∈ deps ops j → j ∉ ancs ops f x := fun f x hx hm => by
        have := ancs_listed inv.closed f x (hd x hx) j hm
        rw [hil] at this
        cases this
      cases hsz' : ops.size with
      | zero => omega
      | succ f =>
        rw [hsz'] at hj
        simp only [ancs, List.erase_cons_head, List.mem_flatMap] at hj
        obtain ⟨x, hx, hm⟩ := hj
        exact hcount f x hx hm
    have := hstep i o ho iv (slots ops a) w
      ⟨inv.turned.os, inv.turned.tape, inv.turned.output, inv.turned.size, fun b hb hn => inv.turned.block b hb (by
        rintro ⟨k, m, hk, hm, hg⟩
        cases hs : sureGB ops D i m with
        | false => exact hn ⟨m, hg, hs⟩
        | true =>
          have := List.all_eq_true.1 hs (k, m) hm
          simp only [Bool.or_eq_true, beq_iff_eq, List.contains_iff_mem, bne_iff_ne] at this
          rcases this with (h | h) | h
          · exact h rfl
          · exact hni k hk h
          · have := hla k hk i h
            rw [hil] at this
            cases this)⟩
      (fun j hj hji hs => f1 j (hanc j hj hji) (fun k hk => by
        cases hl : listed.getD k false with
        | false => rfl
        | true =>
          exfalso
          have := List.all_eq_true.1 hs (k, j) hk
          simp only [Bool.or_eq_true, beq_iff_eq, List.contains_iff_mem, bne_iff_ne] at this
          rcases this with (h | h) | h
          · exact h rfl
          · exact hni k hl h
          · have := hla k hl i h
            rw [hil] at this
            cases this))
      (fun j hj hji => f2 j (hanc j hj hji)) (fun j hj hji => f3 j (hanc j hj hji)) (fun j hj k hk hji hki hjk => f4 j k (hanc j hj hji) (hanc k hk hki) hjk)
      (fun k hk => inv.rest k (by
        cases hl : listed.getD k false with
        | false => rfl
        | true =>
          exfalso
          have := hla k hl i hk
          rw [hil] at this
          cases this))
    rw [hself] at this
    refine wpOp_of_list ho this ?_ (fun e a' w' he h => he h.1)
    rintro a' w' ⟨_, v, hv, rfl, ht, hJv⟩
    have hup : slots ops (a.put o.dst v) = upd (slots ops a) i v := by
      funext k
      unfold upd
      by_cases hki : k = i
      · subst hki; rw [if_pos rfl, hputi v hv]
      · rw [if_neg hki, hput _ k hki]
    have hJi : J i (upd iv i (w.heap.size, w'.heap.size)) (slots ops (a.put o.dst v)) w' := by
      rw [hup]
      exact hJv _ (fun j hj => by simp [upd, herase j hj]) (by simp [upd])
    refine ih (U.erase i) _ _ w' hU' hun' ⟨hsz, hdef v, hts v, hoff v, hclosed, ?_, ?_, upd iv i (w.heap.size, w'.heap.size), ?_, ?_, ?_, ?_⟩
    · intro k hk
      by_cases hki : k = i
      · subst hki
        rw [getD_set_self hltl] at hk
        cases hk
      · rw [getD_set_ne false (Ne.symm hki)] at hk
        rw [hput _ k hki]
        exact inv.rest k hk
    · -- the old blocks
      refine ⟨ht.os.trans inv.turned.os, ht.tape.trans inv.turned.tape, ht.output.trans inv.turned.output, Nat.le_trans inv.turned.size ht.size, fun b hb hn => ?_⟩
      refine (ht.block b (Nat.lt_of_lt_of_le hb inv.turned.size) ?_).trans (inv.turned.block b hb ?_)
      · rintro (⟨m, hm, hg⟩ | ⟨c, hc, x, hx, h | ⟨m, hm, hg⟩⟩)
        · exact hn ⟨i, m, getD_set_self hltl _, hm, hg⟩
        · have hcl := hanc c (sp.anc i c hc).1 (sp.anc i c hc).2.1
          have := (f3 x (hlc c hcl x hx)).1
          omega
        · have hcl := hanc c (sp.anc i c hc).1 (sp.anc i c hc).2.1
          exact hn ⟨x, m, getD_set_true (hlc c hcl x hx), hm, hg⟩
      · rintro ⟨k, m, hk, hm, hg⟩
        exact hn ⟨k, m, getD_set_true hk, hm, hg⟩
    · intro k hk hek
      by_cases hki : k = i
      · subst hki; exact hJi
      · rw [getD_set_ne false (Ne.symm hki)] at hk
        have hek' : ∀ q, (q, k) ∈ C → listed.getD q false = false := by
          intro q hq
          cases hl : listed.getD q false with
          | false => rfl
          | true => have := hek q hq; rw [getD_set_true hl] at this; cases this
        have hnik : (i, k) ∉ C := fun hm => by have := hek i hm; rw [getD_set_self hltl] at this; cases this
        have hagree : ∀ j ∈ ancs ops ops.size k, j ≠ i := fun j hj => hni j (hla k hk j hj)
        refine hJ k iv _ (slots ops a) _ w w' (llt k hk) (fun j hj => by simp [upd, hagree j hj]) (fun j hj => (hput _ j (hagree j hj)).symm) ht.size ?_ (f1 k hk hek')
        rintro b hb ⟨y, hy, hfy⟩
        refine ht.block b hb ?_
        have hyl := hlc k hk y hy
        rintro (⟨m, hm, hg⟩ | ⟨c, hc, x, hx, hfx⟩)
        · rcases hfy with h | ⟨m', hm', hg'⟩
          · have := (f3 y hyl).1
            have := hGW m b hg
            omega
          · obtain rfl := hG m m' b hg hg'
            exact hni y hyl (sp.given i m y hm hm')
        · have hcl := hanc c (sp.anc i c hc).1 (sp.anc i c hc).2.1
          have hxl := hlc c hcl x hx
          have hxy : x = y := by
            by_cases hxy : x = y
            · exact hxy
            exfalso
            rcases hfy with h | ⟨m', hm', hg'⟩
            · rcases hfx with h' | ⟨m, hm, hg⟩
              · have := f4 x y hxl hyl hxy
                unfold Sep at this
                omega
              · have := (f3 y hyl).1
                have := hGW m b hg
                omega
            · rcases hfx with h' | ⟨m, hm, hg⟩
              · have := (f3 x hxl).1
                have := hGW m' b hg'
                omega
              · obtain rfl := hG m m' b hg hg'
                exact hxy (sp.given y m x hm' hm)
          subst hxy
          by_cases hkc : k = c
          · subst hkc; exact hnik hc
          rcases sp.apart i c hc k (llt k hk) hki hkc with h | h | ⟨q, hq, h⟩
          · exact h x hy hx
          · exact hni i (hla k hk i h) rfl
          · have := hla c hcl q h
            rw [hek' q hq] at this
            cases this
    · intro k hk
      by_cases hki : k = i
      · subst hki; exact hE _ _ _ _ hlt hJi
      · rw [getD_set_ne false (Ne.symm hki)] at hk
        have hagree : ∀ j ∈ ancs ops ops.size k, j ≠ i := fun j hj => hni j (hla k hk j hj)
        exact hEE k iv _ (slots ops a) _ (llt k hk) (fun j hj => by simp [upd, hagree j hj]) (fun j hj => (hput _ j (hagree j hj)).symm) (f2 k hk)
    · intro k hk
      by_cases hki : k = i
      · subst hki
        simp only [upd, if_pos]
        exact ⟨inv.turned.size, ht.size, Nat.le_refl _⟩
      · rw [getD_set_ne false (Ne.symm hki)] at hk
        simp only [upd, if_neg hki]
        obtain ⟨b1, b2, b3⟩ := f3 k hk
        exact ⟨b1, b2, Nat.le_trans b3 ht.size⟩
    · intro k m hk hm hkm
      by_cases hki : k = i
      · subst hki
        have hmk : m ≠ k := Ne.symm hkm
        rw [getD_set_ne false (Ne.symm hmk)] at hm
        simp only [upd, if_pos, if_neg hmk]
        exact Or.inr (f3 m hm).2.2
      · rw [getD_set_ne false (Ne.symm hki)] at hk
        by_cases hmi : m = i
        · subst hmi
          simp only [upd, if_pos, if_neg hki]
          exact Or.inl (f3 k hk).2.2
        · rw [getD_set_ne false (Ne.symm hmi)] at hm
          simp only [upd, if_neg hki, if_neg hmi]
          exact f4 k m hk hm hkm
theorem region_rs {Q : Exit → Act → World → Prop} {id : Nat} {a0 : Act} {w0 : World} (C D : List (Nat × Nat)) (G : Nat → Nat → Prop) (base : Nat) (J : Nat → (Nat → Nat × Nat) → (Nat → Value) → World → Prop) (JE : Nat → (Nat → Nat × Nat) → (Nat → Value) → Prop)
    (hm : P.follows .mixedOrders = true) (hB : rsB ops a0.tmps.size C D = true) (l : List Nat) (hl : List.range ops.size = l)
    (hbase : base ≤ w0.heap.size) (hGb : ∀ m b, G m b → base ≤ b ∧ b < w0.heap.size) (hG : ∀ m m' b, G m b → G m' b → m = m')
    (hJ : ∀ i ∈ l, ∀ iv iv' vs vs' w w', Hid (Agree (ancs ops ops.size i) iv iv') → Hid (Agree (ancs ops ops.size i) vs vs') → w.heap.size ≤ w'.heap.size → Hid (∀ b, b < w.heap.size → foot C D G ops.size i iv b → w'.heap[b]? = w.heap[b]?) → J i iv vs w → J i iv' vs' w')
    (hE : ∀ i ∈ l, ∀ iv vs w, J i iv vs w → JE i iv vs)
    (hEE : ∀ i ∈ l, ∀ iv iv' vs vs', Hid (Agree (ancs ops ops.size i) iv iv') → Hid (Agree (ancs ops ops.size i) vs vs') → JE i iv vs → JE i iv' vs')
    (hstep : ∀ i ∈ l, ∀ o, ops[i]? = some o → ∀ iv vs w, Below base w0 w → Hid (∀ m b, sureGB ops D i m = true → G m b → w.heap[b]? = w0.heap[b]?) → Hid (Spares (fun b => ∃ m, G m b) w0 w) → Hid (∀ j ∈ ancs ops ops.size i, j ≠ i → sureB ops C i j = true → J j iv vs w) → Hid (∀ j ∈ ancs ops ops.size i, j ≠ i → JE j iv vs) →
      Hid (∀ j ∈ ancs ops ops.size i, j ≠ i → w0.heap.size ≤ (iv j).1 ∧ (iv j).1 ≤ (iv j).2 ∧ (iv j).2 ≤ w.heap.size) → Hid (∀ j ∈ ancs ops ops.size i, ∀ k ∈ ancs ops ops.size i, j ≠ i → k ≠ i → j ≠ k → Sep (iv j) (iv k)) → Hid (∀ k, i ∈ ancs ops ops.size k → vs k = slots ops a0 k) →
      ∀ K : Act → World → Prop, (∀ v a' w', (o.dst = none → v = undef) → a' = (putFrom ops.toList 0 vs a0).put o.dst v → Spares (bite C D G ops.size i iv) w w' →
        (∀ iv', Hid (Agree ((ancs ops ops.size i).erase i) iv iv') → iv' i = (w.heap.size, w'.heap.size) → J i iv' (upd vs i v) w') → K a' w') → wpList P ops (Onward K) [o] (putFrom ops.toList 0 vs a0) w)
    (hQ : ∀ iv vs w, Below base w0 w → Hid (Spares (fun b => ∃ m, G m b) w0 w) → Hid (∀ i ∈ l, (∀ k, (k, i) ∉ C) → J i iv vs w) → Hid (∀ i ∈ l, JE i iv vs) →
      Hid (∀ i ∈ l, w0.heap.size ≤ (iv i).1 ∧ (iv i).1 ≤ (iv i).2 ∧ (iv i).2 ≤ w.heap.size) → Hid (∀ i ∈ l, ∀ j ∈ l, i ≠ j → Sep (iv i) (iv j)) → Q .normal (putFrom ops.toList 0 vs a0) w) :
    (Code.region id ops true).wp P Q a0 w0 := by
  have sp := rsB_spec hB
  subst hl
  refine wp_region_any hm ?_
  refine wpAny_rs (W := w0) sp hG (fun m b h => (hGb m b h).2) (J := J) (JE := JE)
    (fun i iv iv' vs vs' w w' hi h1 h2 h3 h4 h5 => hJ i (List.mem_range.2 hi) iv iv' vs vs' w w' (Lib.hid h1) (Lib.hid h2) h3 (Lib.hid h4) h5)
    (fun i iv vs w hi h => hE i (List.mem_range.2 hi) iv vs w h)
    (fun i iv iv' vs vs' hi h1 h2 h => hEE i (List.mem_range.2 hi) iv iv' vs vs' (Lib.hid h1) (Lib.hid h2) h) ?_
    (fun iv vs w ht h1 h2 h3 h4 => hQ iv vs w (ht.below hbase (fun b ⟨_, m, _, hg⟩ => (hGb m b hg).1)) (Lib.hid (ht.more fun b ⟨_, m, _, hg⟩ => ⟨m, hg⟩)) (Lib.hid fun i hi => h1 i (List.mem_range.1 hi)) (Lib.hid fun i hi => h2 i (List.mem_range.1 hi)) (Lib.hid fun i hi => h3 i (List.mem_range.1 hi)) (Lib.hid fun i hi j hj => h4 i j (List.mem_range.1 hi) (List.mem_range.1 hj)))
    ops.size (List.range ops.size) _ _ _ (by simp) (fun i hi _ => List.mem_range.2 hi) ⟨by simp, rfl, rfl, fun _ _ => rfl, ?_, fun _ _ => rfl, ?_, ?_⟩
  · intro i o ho iv vs w ht h1 h2 h3 h4 h5
    have := hstep i (List.mem_range.2 (Array.getElem?_eq_some_iff.1 ho).1) o ho iv vs w (ht.below hbase (fun b ⟨m, hg, _⟩ => (hGb m b hg).1))
      (Lib.hid fun m b hm hg => ht.block b (hGb m b hg).2 (fun ⟨m', hg', hn⟩ => by rw [← hG m m' b hg hg', hm] at hn; cases hn)) (Lib.hid (ht.more fun b ⟨m, hg, _⟩ => ⟨m, hg⟩)) (Lib.hid h1) (Lib.hid h2) (Lib.hid h3) (Lib.hid h4) (Lib.hid h5)
      (fun a' w' => ∃ v, (o.dst = none → v = undef) ∧ a' = (putFrom ops.toList 0 vs a0).put o.dst v ∧ Spares (bite C D G ops.size i iv) w w' ∧ (∀ iv', Agree ((ancs ops ops.size i).erase i) iv iv' → iv' i = (w.heap.size, w'.heap.size) → J i iv' (upd vs i v) w'))
      (fun v a' w' h0 h1 h2 h3 => ⟨v, h0, h1, h2, fun iv' h4 h5 => h3 iv' (Lib.hid h4) h5⟩)
    exact this
  · intro i h
    exfalso
    by_cases hi : i < ops.size <;> simp [hi] at h
  · exact Spares.of_below (Below.refl _ _).drew
  · have hno : ∀ i, (Array.replicate ops.size false).getD i false = true → False := fun i h => by by_cases hi : i < ops.size <;> simp [hi] at h
    exact ⟨fun _ => (0, 0), fun i h => (hno i h).elim, fun i h => (hno i h).elim, fun i h => (hno i h).elim, fun i _ h => (hno i h).elim⟩
theorem foot_step {C D : List (Nat × Nat)} {G : Nat → Nat → Prop} {i c : Nat} {iv iv' : Nat → Nat × Nat} {b : Nat} (h : ((chainOf C ops.size c).all fun j => (chainOf C ops.size i).contains j && ((ancs ops ops.size i).erase i).contains j) = true)
    (hag : Hid (Agree ((ancs ops ops.size i).erase i) iv iv')) (hf : foot C D G ops.size c iv b) : foot C D G ops.size i iv' b := by
  obtain ⟨j, hj, hb⟩ := hf
  have := List.all_eq_true.1 h j hj
  simp only [Bool.and_eq_true, List.contains_iff_mem] at this
  exact ⟨j, this.1, by rw [← hag.out j this.2]; exact hb⟩
theorem foot_iv {C D : List (Nat × Nat)} {G : Nat → Nat → Prop} {i j : Nat} {iv iv' : Nat → Nat × Nat} {b : Nat} (h : ((chainOf C ops.size i).contains j && ((ancs ops ops.size i).erase i).contains j) = true)
    (hag : Hid (Agree ((ancs ops ops.size i).erase i) iv iv')) (h1 : (iv j).1 ≤ b) (h2 : b < (iv j).2) : foot C D G ops.size i iv' b := by
  simp only [Bool.and_eq_true, List.contains_iff_mem] at h
  exact ⟨j, h.1, Or.inl (by rw [← hag.out j h.2]; exact ⟨h1, h2⟩)⟩
theorem foot_new {C D : List (Nat × Nat)} {G : Nat → Nat → Prop} {n i p q : Nat} {iv' : Nat → Nat × Nat} {b : Nat} (h : iv' i = (p, q)) (h1 : p ≤ b) (h2 : b < q) : foot C D G n i iv' b := foot_own (by rw [h]; exact h1) (by rw [h]; exact h2)
theorem foot_given {C D : List (Nat × Nat)} {G : Nat → Nat → Prop} {n i : Nat} (m : Nat) {iv' : Nat → Nat × Nat} {b : Nat} (h : (i, m) ∈ D) (hg : G m b) : foot C D G n i iv' b := ⟨i, chainOf_self _ _ _, Or.inr ⟨m, h, hg⟩⟩
theorem not_eaten {C : List (Nat × Nat)} {i : Nat} (h : (C.all fun p => p.2 != i) = true) : ∀ k, (k, i) ∉ C := by
  intro k hk
  have := List.all_eq_true.1 h (k, i) hk
  simp at this
end
theorem mkval (a : Value) : ∃ x : Value, Hid (x = a) := ⟨a, Lib.hid rfl⟩
end Go.Proofs.YtjlmdhoajfdkbaaGreatDoor

namespace Go.Proofs
open Go.Shelf
def Tryz.lays169_ren : Go.Shelf.Ren := ⟨fun | 169 => 167 | n => n, fun | 70 => 186 | 9 => 9 | 0 => 0 | 72 => 189 | 37 => 187 | 127 => 211 | 3 => 3 | 5 => 5 | n => n, fun | n => n⟩
theorem Tryz.lays169 : Go.Proofs.Lays.n169 Tryz.prog Tryz.lays169_ren := {
  mixed := by kernel_rfl
  f169 := Tryz.func167.trans (congrArg some (by kernel_rfl))
  t0 := Tryz.underlying0
  a0 := Tryz.isAgg0
  z0 := Tryz.sizeOf0
  v0 := Tryz.zeroValue0
  t3 := Tryz.underlying3
  a3 := Tryz.isAgg3
  z3 := Tryz.sizeOf3
  v3 := Tryz.zeroValue3
  t9 := Tryz.underlying9
  a9 := Tryz.isAgg9
  z9 := Tryz.sizeOf9
  v9 := Tryz.zeroValue9
  t37 := Tryz.underlying187
  a37 := Tryz.isAgg187
  z37 := Tryz.sizeOf187
  v37 := Tryz.zeroValue187
  t70 := Tryz.underlying186
  a70 := Tryz.isAgg186
  z70 := Tryz.sizeOf186
  v70 := Tryz.zeroValue186
  t72 := Tryz.underlying189
  a72 := Tryz.isAgg189
  z72 := Tryz.sizeOf189
  v72 := Tryz.zeroValue189
  t127 := Tryz.underlying211
  a127 := Tryz.isAgg211
  z127 := Tryz.sizeOf211
  v127 := Tryz.zeroValue211 }
theorem Tryz.Builder_Extra_169 : Builder.Extra Tryz.prog Tryz.lays169_ren := {
  sizeBuilder := by kernel_rfl
  liesBuilder := by kernel_rfl
  t5 := Tryz.underlying5
  a5 := Tryz.isAgg5
  z5 := Tryz.sizeOf5
  v5 := Tryz.zeroValue5
  infoByte := by kernel_rfl
  cellsByte := by kernel_rfl
  sizeByte := by kernel_rfl
  neB5 := by decide }
open Go.RowKit in
open Go.RowKit in
open Go.RowKit in
theorem Tryz.Builder_String_any (B b : Nat) (l : List UInt8) (w : World) (h : Lib.IsBuilder 189 5 B b (Lib.byteCells l) w) (hBw : B ≤ w.heap.size) :
    Calls Tryz.prog 167 #[.pointer (some ⟨b, 0, none⟩)] w fun e w' => e = .returned (.string ⟨l.toArray⟩) ∧ Below B w w' := Any.Builder_String_any Tryz.lays169 Tryz.Builder_Extra_169 B b l w h hBw
open Go.RowKit in
def Tryz.lays106_ren : Go.Shelf.Ren := ⟨fun | 106 => 175 | 213 => 185 | 265 => 199 | n => n, fun | 9 => 9 | 3 => 3 | n => n, fun | n => n⟩
theorem Tryz.lays106 : Go.Proofs.Lays.n106 Tryz.prog Tryz.lays106_ren := {
  mixed := by kernel_rfl
  f106 := Tryz.func175.trans (congrArg some (by kernel_rfl))
  f213 := Tryz.func185.trans (congrArg some (by kernel_rfl))
  f265 := Tryz.func199.trans (congrArg some (by kernel_rfl))
  t3 := Tryz.underlying3
  a3 := Tryz.isAgg3
  z3 := Tryz.sizeOf3
  v3 := Tryz.zeroValue3
  t9 := Tryz.underlying9
  a9 := Tryz.isAgg9
  z9 := Tryz.sizeOf9
  v9 := Tryz.zeroValue9 }
open Go.RowKit in
theorem Tryz.strings_Compare (a b : ByteArray) (w : World) :
    Calls Tryz.prog 175 #[.string a, .string b] w fun e w' => e = .returned (.int .i64 (Lib.compareBytes a.data.toList b.data.toList)) ∧ w' = w := Any.strings_Compare Tryz.lays106 a b w
open Go.RowKit in
open Go.RowKit in
open Go.RowKit in
open Go.RowKit in
open Go.RowKit in
open Go.RowKit in
open Go.Lib in
open Go.Lib in
open Go.Lib in
open Go.Lib in
open Go.RowKit Go.Sort Go.Lib in
open Go.RowKit Go.Sort Go.Lib in
open Go.RowKit Go.Sort Go.Lib in
open Go.RowKit Go.Sort Go.Lib in
def Tryz.lays173_ren : Go.Shelf.Ren := ⟨fun | 173 => 187 | 246 => 201 | 283 => 207 | 284 => 208 | 285 => 209 | 286 => 210 | 129 => 198 | 317 => 212 | 318 => 213 | 319 => 214 | 320 => 215 | 337 => 216 | 338 => 217 | n => n, fun | 2 => 2 | 3 => 3 | 9 => 9 | 4 => 4 | 171 => 238 | 0 => 0 | 53 => 228 | 37 => 187 | 5 => 5 | 173 => 240 | 212 => 247 | 51 => 226 | 20 => 20 | 213 => 248 | 46 => 184 | 232 => 250 | 233 => 251 | n => n, fun | 17 => 1 | 18 => 2 | 19 => 3 | n => n⟩
theorem Tryz.lays173 : Go.Proofs.Lays.n173 Tryz.prog Tryz.lays173_ren := {
  mixed := by kernel_rfl
  f129 := Tryz.func198.trans (congrArg some (by kernel_rfl))
  f173 := Tryz.func187.trans (congrArg some (by kernel_rfl))
  f246 := Tryz.func201.trans (congrArg some (by kernel_rfl))
  f283 := Tryz.func207.trans (congrArg some (by kernel_rfl))
  f284 := Tryz.func208.trans (congrArg some (by kernel_rfl))
  f285 := Tryz.func209.trans (congrArg some (by kernel_rfl))
  f286 := Tryz.func210.trans (congrArg some (by kernel_rfl))
  f317 := Tryz.func212.trans (congrArg some (by kernel_rfl))
  f318 := Tryz.func213.trans (congrArg some (by kernel_rfl))
  f319 := Tryz.func214.trans (congrArg some (by kernel_rfl))
  f320 := Tryz.func215.trans (congrArg some (by kernel_rfl))
  f337 := Tryz.func216.trans (congrArg some (by kernel_rfl))
  f338 := Tryz.func217.trans (congrArg some (by kernel_rfl))
  t0 := Tryz.underlying0
  a0 := Tryz.isAgg0
  z0 := Tryz.sizeOf0
  v0 := Tryz.zeroValue0
  t2 := Tryz.underlying2
  a2 := Tryz.isAgg2
  z2 := Tryz.sizeOf2
  v2 := Tryz.zeroValue2
  t3 := Tryz.underlying3
  a3 := Tryz.isAgg3
  z3 := Tryz.sizeOf3
  v3 := Tryz.zeroValue3
  t4 := Tryz.underlying4
  a4 := Tryz.isAgg4
  z4 := Tryz.sizeOf4
  v4 := Tryz.zeroValue4
  t5 := Tryz.underlying5
  a5 := Tryz.isAgg5
  z5 := Tryz.sizeOf5
  v5 := Tryz.zeroValue5
  t9 := Tryz.underlying9
  a9 := Tryz.isAgg9
  z9 := Tryz.sizeOf9
  v9 := Tryz.zeroValue9
  t20 := Tryz.underlying20
  a20 := Tryz.isAgg20
  z20 := Tryz.sizeOf20
  v20 := Tryz.zeroValue20
  t37 := Tryz.underlying187
  a37 := Tryz.isAgg187
  z37 := Tryz.sizeOf187
  v37 := Tryz.zeroValue187
  t46 := Tryz.underlying184
  a46 := Tryz.isAgg184
  z46 := Tryz.sizeOf184
  v46 := Tryz.zeroValue184
  t51 := Tryz.underlying226
  a51 := Tryz.isAgg226
  z51 := Tryz.sizeOf226
  v51 := Tryz.zeroValue226
  t53 := Tryz.underlying228
  a53 := Tryz.isAgg228
  z53 := Tryz.sizeOf228
  v53 := Tryz.zeroValue228
  t171 := Tryz.underlying238
  a171 := Tryz.isAgg238
  z171 := Tryz.sizeOf238
  v171 := Tryz.zeroValue238
  t173 := Tryz.underlying240
  a173 := Tryz.isAgg240
  z173 := Tryz.sizeOf240
  v173 := Tryz.zeroValue240
  t212 := Tryz.underlying247
  a212 := Tryz.isAgg247
  z212 := Tryz.sizeOf247
  v212 := Tryz.zeroValue247
  t213 := Tryz.underlying248
  a213 := Tryz.isAgg248
  z213 := Tryz.sizeOf248
  t232 := Tryz.underlying250
  a232 := Tryz.isAgg250
  z232 := Tryz.sizeOf250
  v232 := Tryz.zeroValue250
  t233 := Tryz.underlying251
  a233 := Tryz.isAgg251
  z233 := Tryz.sizeOf251
  v233 := Tryz.zeroValue251
  g17 := by kernel_rfl
  g18 := by kernel_rfl
  g19 := by kernel_rfl }
open Go.RowKit Go.Sort Go.Lib in
theorem Tryz.strconv_FormatInt_10_small (i : Nat) (hi : i < 100) (w : World) :
    Calls Tryz.prog 187 #[.int .i64 i, .int .i64 10] w fun e w' => e = .returned (.string ⟨(Lib.decDigits i).toArray⟩) ∧ w' = w := Any.strconv_FormatInt_10_small Tryz.lays173 i hi w
end Go.Proofs

namespace Go.Proofs.YtjlmdhoajfdkbaaGreatDoor
set_option linter.unusedVariables false
set_option linter.unusedSimpArgs false
open Go.ChangeShapes Go.WideShapes Go.ChangeAt Go.RowKit
def bs (l : List UInt8) : ByteArray := ⟨l.toArray⟩
def dg8 (n : Nat) : UInt8 := UInt8.ofNat (48 + n)
theorem bs_add (a b : List UInt8) : bs a ++ bs b = bs (a ++ b) := by
  apply ByteArray.ext
  simp [bs, ByteArray.data_append]
theorem bs_size (a : List UInt8) : (bs a).size = a.length := by simp [bs, ByteArray.size]
theorem bs_inj {a b : List UInt8} (h : bs a = bs b) : a = b := by
  unfold bs at h
  have := congrArg ByteArray.data h
  simpa using this
theorem run_cat {P : Program} (a b : List UInt8) (h : a.length + b.length ≤ 1000000000) (w : World) : (Op.stringOp .add (bs a) (bs b)).run P w = .ok (.string (bs (a ++ b))) w := by
  rw [Go.run_string_add_sum w _ _ (by rw [bs_size, bs_size]; omega), bs_add]
theorem digit_byte {n : Nat} (h : n < 10) : (((dg8 n).toNat : Nat) : Int) = 48 + (n : Int) := by
  have : (dg8 n).toNat = 48 + n := by unfold dg8; simp [UInt8.toNat_ofNat']; omega
  rw [this]
  omega
theorem digit_back {n g : Nat} {w : World} (hn : n < 10) (h : Blk w g 5 [.int .u8 (48 + (n : Int))]) : (convert 187 9 (.slice (some ⟨g, 0, none⟩) 1 1)).run Tryz.prog w = .ok (.string (bs [dg8 n])) w := by
  refine run_convert_bytes_back _ 187 9 5 ⟨g, 0, none⟩ 1 [dg8 n] Tryz.underlying187 Tryz.underlying5 Tryz.underlying9 ?_
  intro j hj
  obtain rfl : j = 0 := by simp at hj; omega
  rw [add_plain]
  simp only [Nat.zero_add, List.getElem_cons_zero, digit_byte hn]
  exact h.c0
set_option maxRecDepth 100000 in
set_option maxHeartbeats 1000000 in
theorem Decimal_one {n : Nat} {w : World} (hn : n < 10) : Calls Tryz.prog 188 #[.int .i64 n] w fun e w' => e = .returned (.string (bs [dg8 n])) ∧ Below w.heap.size w w' := by
  have hb := digit_back hn (Blk.new1 w 5 (.int .u8 (48 + (n : Int))))
  have hn' : (n : Int) < 10 := by omega
  go_enter Tryz.func188, Tryz.ntmps188
  go_wp2_with fail
  go_ret
  exact ⟨rfl, by (repeat' first | exact Below.refl _ _ | assumption | apply Below.alloc | apply Below.drew | apply Below.setCell | omega | (simp; done) | (simp; omega))⟩
set_option maxRecDepth 100000 in
set_option maxHeartbeats 4000000 in
theorem Decimal_i {n : Nat} {w : World} (hn : n < 100) : Calls Tryz.prog 188 #[.int .i64 n] w fun e w' => e = .returned (.string (bs (Lib.decDigits n))) ∧ Below w.heap.size w w' := by
  by_cases h1 : n < 10
  · rw [Lib.decDigits_one h1]
    exact Decimal_one h1
  · rw [Lib.decDigits_two h1 hn]
    have h4 : (10 : Int) ≤ (n : Int) := by omega
    have h5 : (n : Int) < 100 := by omega
    obtain ⟨a, ha⟩ : ∃ a, n / 10 = a := ⟨_, rfl⟩
    obtain ⟨c, hc⟩ : ∃ c, n % 10 = c := ⟨_, rfl⟩
    have q1 : (n : Int) / 10 = (a : Int) := by omega
    have q2 : (n : Int) % 10 = (c : Int) := by omega
    have h2 : a < 10 := by omega
    have h3 : c < 10 := by omega
    have h6 : (c : Int) < 10 := by omega
    have hcz := Int.natCast_nonneg c
    have Hr : Hid (bs [dg8 a] ++ bs [dg8 c] = bs [UInt8.ofNat (48 + a), UInt8.ofNat (48 + c)]) := bs_add _ _
    rw [ha, hc]
    clear ha hc
    go_enter Tryz.func188, Tryz.ntmps188
    go_wp2_with fail
    refine region_rs [] [] (fun _ _ => False) (w.heap.size) (fun i iv vs wx => match i with
      | 0 => vs 0 = .int .i64 n
      | 1 => vs 1 = .int .i64 a
      | 2 => vs 2 = .string (bs [dg8 a])
      | 3 => vs 3 = .int .i64 n
      | 4 => vs 4 = .int .i64 c
      | 5 => vs 5 = .int .i64 (48 + ↑c)
      | 6 => vs 6 = .int .u8 (48 + ↑c)
      | 7 => vs 7 = .slice (some ⟨(iv 7).1, 0, none⟩) 1 1 ∧ (iv 7).2 = (iv 7).1 + 1 ∧ Blk wx (iv 7).1 5 [.int .u8 (48 + ↑c)]
      | 8 => vs 8 = .string (bs [dg8 c])
      | 9 => vs 9 = .string (bs [dg8 a] ++ bs [dg8 c])
      | 10 => vs 10 = .string (bs [dg8 a] ++ bs [dg8 c])
      | _ => True) (fun i iv vs => match i with
      | 0 => vs 0 = .int .i64 n
      | 1 => vs 1 = .int .i64 a
      | 2 => vs 2 = .string (bs [dg8 a])
      | 3 => vs 3 = .int .i64 n
      | 4 => vs 4 = .int .i64 c
      | 5 => vs 5 = .int .i64 (48 + ↑c)
      | 6 => vs 6 = .int .u8 (48 + ↑c)
      | 7 => vs 7 = .slice (some ⟨(iv 7).1, 0, none⟩) 1 1 ∧ (iv 7).2 = (iv 7).1 + 1
      | 8 => vs 8 = .string (bs [dg8 c])
      | 9 => vs 9 = .string (bs [dg8 a] ++ bs [dg8 c])
      | 10 => vs 10 = .string (bs [dg8 a] ++ bs [dg8 c])
      | _ => True) (by kernel_rfl) (by kernel_rfl) [0, 1, 2, 3, 4, 5, 6, 7, 8, 9, 10] (by kernel_rfl) ?hbase ?hGb ?hG ?hJ ?hE ?hEE ?hstep ?hQ
    case hbase => first | exact Nat.le_refl _ | omega | (simp; omega)
    case hGb =>
      exact fun _ _ h => h.elim
    case hG =>
      exact fun _ _ _ h => h.elim
    case hJ =>
      intro i hi iv iv' vs vs' wx wx' ha hv hz hk hj
      simp only [List.mem_cons, List.not_mem_nil, or_false] at hi
      rcases hi with rfl | rfl | rfl | rfl | rfl | rfl | rfl | rfl | rfl | rfl | rfl
      · exact (hv.out 0 (mem_of (by kernel_rfl))).symm.trans hj
      · exact (hv.out 1 (mem_of (by kernel_rfl))).symm.trans hj
      · exact (hv.out 2 (mem_of (by kernel_rfl))).symm.trans hj
      · exact (hv.out 3 (mem_of (by kernel_rfl))).symm.trans hj
      · exact (hv.out 4 (mem_of (by kernel_rfl))).symm.trans hj
      · exact (hv.out 5 (mem_of (by kernel_rfl))).symm.trans hj
      · exact (hv.out 6 (mem_of (by kernel_rfl))).symm.trans hj
      · have e7 := hv.out 7 (mem_of (by kernel_rfl))
        have g7 := ha.out 7 (mem_of (by kernel_rfl))
        obtain ⟨q1, q3, q2⟩ := hj
        show vs' 7 = .slice (some ⟨(iv' 7).1, 0, none⟩) 1 1 ∧ (iv' 7).2 = (iv' 7).1 + 1 ∧ Blk wx' (iv' 7).1 5 [.int .u8 (48 + ↑c)]
        rw [← e7, ← g7]
        exact ⟨q1, q3, q2.keep (hk.out _ q2.lt (foot_own (Nat.le_refl _) (by omega)))⟩
      · exact (hv.out 8 (mem_of (by kernel_rfl))).symm.trans hj
      · exact (hv.out 9 (mem_of (by kernel_rfl))).symm.trans hj
      · exact (hv.out 10 (mem_of (by kernel_rfl))).symm.trans hj
    case hE =>
      intro i hi iv vs wx hj
      simp only [List.mem_cons, List.not_mem_nil, or_false] at hi
      rcases hi with rfl | rfl | rfl | rfl | rfl | rfl | rfl | rfl | rfl | rfl | rfl
      · exact hj
      · exact hj
      · exact hj
      · exact hj
      · exact hj
      · exact hj
      · exact hj
      · exact ⟨hj.1, hj.2.1⟩
      · exact hj
      · exact hj
      · exact hj
    case hEE =>
      intro i hi iv iv' vs vs' ha hv hj
      simp only [List.mem_cons, List.not_mem_nil, or_false] at hi
      rcases hi with rfl | rfl | rfl | rfl | rfl | rfl | rfl | rfl | rfl | rfl | rfl
      · exact (hv.out 0 (mem_of (by kernel_rfl))).symm.trans hj
      · exact (hv.out 1 (mem_of (by kernel_rfl))).symm.trans hj
      · exact (hv.out 2 (mem_of (by kernel_rfl))).symm.trans hj
      · exact (hv.out 3 (mem_of (by kernel_rfl))).symm.trans hj
      · exact (hv.out 4 (mem_of (by kernel_rfl))).symm.trans hj
      · exact (hv.out 5 (mem_of (by kernel_rfl))).symm.trans hj
      · exact (hv.out 6 (mem_of (by kernel_rfl))).symm.trans hj
      · have e7 := hv.out 7 (mem_of (by kernel_rfl))
        have g7 := ha.out 7 (mem_of (by kernel_rfl))
        have hj' : vs 7 = .slice (some ⟨(iv 7).1, 0, none⟩) 1 1 ∧ (iv 7).2 = (iv 7).1 + 1 := hj
        show vs' 7 = .slice (some ⟨(iv' 7).1, 0, none⟩) 1 1 ∧ (iv' 7).2 = (iv' 7).1 + 1
        rw [← e7, ← g7]
        exact hj'
      · exact (hv.out 8 (mem_of (by kernel_rfl))).symm.trans hj
      · exact (hv.out 9 (mem_of (by kernel_rfl))).symm.trans hj
      · exact (hv.out 10 (mem_of (by kernel_rfl))).symm.trans hj
    case hstep =>
      intro i hi opr ho iv vs w1 hB hS hSo hd he hbd hsep hun K hK
      simp only [List.mem_cons, List.not_mem_nil, or_false] at hi
      have hzB := hB.size
      skip
      generalize hA : putFrom _ 0 vs _ = A at hK ⊢
      simp only [putFrom, puts] at hA
      rcases hi with rfl | rfl | rfl | rfl | rfl | rfl | rfl | rfl | rfl | rfl | rfl
      all_goals
        simp at ho
        subst ho
        subst hA
      · go_wp2_with fail
        exact Onward.mk (hK (.int .i64 n) _ _ (fun h => by cases h) (by first | rfl | (simp only [puts])) (Spares.refl _) (fun iv' _ _ => rfl))
      · have h0 : vs 0 = .int .i64 n := hd.out 0 (mem_of (by kernel_rfl)) (by decide) (by kernel_rfl)
        go_wp2_with fail
        exact Onward.mk (hK (.int .i64 a) _ _ (fun h => by cases h) (by first | rfl | (simp only [puts, h0])) (Spares.refl _) (fun iv' _ _ => rfl))
      · have h1 : vs 1 = .int .i64 a := hd.out 1 (mem_of (by kernel_rfl)) (by decide) (by kernel_rfl)
        go_wp2_with fail
        refine (Decimal_one h2).mono ?_
        rintro e w2 ⟨rfl, hb⟩
        go_wp2_with fail
        exact Onward.mk (hK (.string (bs [dg8 a])) _ _ (fun h => by cases h) (by first | rfl | (simp only [puts, h1])) (Spares.of_below hb) (fun iv' _ _ => rfl))
      · go_wp2_with fail
        exact Onward.mk (hK (.int .i64 n) _ _ (fun h => by cases h) (by first | rfl | (simp only [puts])) (Spares.refl _) (fun iv' _ _ => rfl))
      · have h3 : vs 3 = .int .i64 n := hd.out 3 (mem_of (by kernel_rfl)) (by decide) (by kernel_rfl)
        go_wp2_with fail
        exact Onward.mk (hK (.int .i64 c) _ _ (fun h => by cases h) (by first | rfl | (simp only [puts, h3])) (Spares.refl _) (fun iv' _ _ => rfl))
      · have h4 : vs 4 = .int .i64 c := hd.out 4 (mem_of (by kernel_rfl)) (by decide) (by kernel_rfl)
        go_wp2_with fail
        exact Onward.mk (hK (.int .i64 (48 + ↑c)) _ _ (fun h => by cases h) (by first | rfl | (simp only [puts, h4])) (Spares.refl _) (fun iv' _ _ => rfl))
      · have h5 : vs 5 = .int .i64 (48 + ↑c) := hd.out 5 (mem_of (by kernel_rfl)) (by decide) (by kernel_rfl)
        go_wp2_with fail
        exact Onward.mk (hK (.int .u8 (48 + ↑c)) _ _ (fun h => by cases h) (by first | rfl | (simp only [puts, h5])) (Spares.refl _) (fun iv' _ _ => rfl))
      · have h6 : vs 6 = .int .u8 (48 + ↑c) := hd.out 6 (mem_of (by kernel_rfl)) (by decide) (by kernel_rfl)
        go_wp2_with fail
        exact Onward.mk (hK (.slice (some ⟨w1.heap.size, 0, none⟩) 1 1) _ _ (fun h => by cases h) (by first | rfl | (simp only [puts, h6])) (Spares.of_below (Below.alloc (Below.refl _ _) (Nat.le_refl _) _)) (fun iv' _ hi => by
          show Value.slice (some ⟨w1.heap.size, 0, none⟩) 1 1 = .slice (some ⟨(iv' 7).1, 0, none⟩) 1 1 ∧ (iv' 7).2 = (iv' 7).1 + 1 ∧ Blk _ (iv' 7).1 5 [.int .u8 (48 + ↑c)]
          rw [hi]
          exact ⟨rfl, by simp, Blk.new1 _ _ _⟩))
      · obtain ⟨h7, q7, f7⟩ := hd.out 7 (mem_of (by kernel_rfl)) (by decide) (by kernel_rfl)
        obtain ⟨h7, q7, f7⟩ := hd.out 7 (mem_of (by kernel_rfl)) (by decide) (by kernel_rfl)
        have hrun := digit_back h3 f7
        go_wp2_with fail
        exact Onward.mk (hK (.string (bs [dg8 c])) _ _ (fun h => by cases h) (by simp only [Act.put, List.setIfInBounds_toArray, List.set_cons_succ, List.set_cons_zero, h7]) (Spares.of_below (Below.refl _ _)) (fun iv' _ _ => rfl))
      · have h2 : vs 2 = .string (bs [dg8 a]) := hd.out 2 (mem_of (by kernel_rfl)) (by decide) (by kernel_rfl)
        have h8 : vs 8 = .string (bs [dg8 c]) := hd.out 8 (mem_of (by kernel_rfl)) (by decide) (by kernel_rfl)
        go_wp2_with fail
        exact Onward.mk (hK (.string (bs [dg8 a] ++ bs [dg8 c])) _ _ (fun h => by cases h) (by first | rfl | (simp only [puts, h2, h8])) (Spares.refl _) (fun iv' _ _ => rfl))
      · have h9 : vs 9 = .string (bs [dg8 a] ++ bs [dg8 c]) := hd.out 9 (mem_of (by kernel_rfl)) (by decide) (by kernel_rfl)
        go_wp2_with fail
        exact Onward.mk (hK (.string (bs [dg8 a] ++ bs [dg8 c])) _ _ (fun h => by cases h) (by first | rfl | (simp only [puts, h9])) (Spares.refl _) (fun iv' _ _ => rfl))
    case hQ =>
      intro iv vs wx hB hSp hd he hbd hsep
      have hzB := hB.size
      have h0 : vs 0 = .int .i64 n := hd.out 0 (mem_of (by kernel_rfl)) (not_eaten (by kernel_rfl))
      have h1 : vs 1 = .int .i64 a := hd.out 1 (mem_of (by kernel_rfl)) (not_eaten (by kernel_rfl))
      have h2 : vs 2 = .string (bs [dg8 a]) := hd.out 2 (mem_of (by kernel_rfl)) (not_eaten (by kernel_rfl))
      have h3 : vs 3 = .int .i64 n := hd.out 3 (mem_of (by kernel_rfl)) (not_eaten (by kernel_rfl))
      have h4 : vs 4 = .int .i64 c := hd.out 4 (mem_of (by kernel_rfl)) (not_eaten (by kernel_rfl))
      have h5 : vs 5 = .int .i64 (48 + ↑c) := hd.out 5 (mem_of (by kernel_rfl)) (not_eaten (by kernel_rfl))
      have h6 : vs 6 = .int .u8 (48 + ↑c) := hd.out 6 (mem_of (by kernel_rfl)) (not_eaten (by kernel_rfl))
      obtain ⟨h7, q7, f7⟩ := hd.out 7 (mem_of (by kernel_rfl)) (not_eaten (by kernel_rfl))
      have h8 : vs 8 = .string (bs [dg8 c]) := hd.out 8 (mem_of (by kernel_rfl)) (not_eaten (by kernel_rfl))
      have h9 : vs 9 = .string (bs [dg8 a] ++ bs [dg8 c]) := hd.out 9 (mem_of (by kernel_rfl)) (not_eaten (by kernel_rfl))
      have h10 : vs 10 = .string (bs [dg8 a] ++ bs [dg8 c]) := hd.out 10 (mem_of (by kernel_rfl)) (not_eaten (by kernel_rfl))
      simp only [putFrom, puts]
      simp only [h10, Hr.out]
      clear hd he hbd hsep h0 h1 h2 h3 h4 h5 h6 h7 h8 h9 h10 Hr
      go_wp2_with fail
      go_ret
      exact ⟨rfl, hB⟩
theorem decimal_i {n : Nat} {w : World} (hn : n < 100) : Calls Tryz.prog 181 #[.int .i64 n] w fun e w' => e = .returned (.string (bs (Lib.decDigits n))) ∧ w = w' := by
  go_enter Tryz.func181, Tryz.ntmps181
  go_wp2_with fail
  refine (Tryz.strconv_FormatInt_10_small n hn _).mono ?_
  rintro e w1 ⟨rfl, rfl⟩
  go_wp2_with fail
  go_ret
  exact ⟨rfl, rfl⟩
end Go.Proofs.YtjlmdhoajfdkbaaGreatDoor

namespace Go.Proofs.YtjlmdhoajfdkbaaGreatDoor
set_option linter.unusedVariables false
set_option linter.unusedSimpArgs false
open Go.ChangeShapes Go.WideShapes Go.ChangeAt Go.RowKit
def BldAt (B : Nat) (S : Nat → Prop) (b : Nat) (l : List UInt8) (w : World) : Prop :=
  ∃ p v, (p = .pointer none ∨ p = .pointer (some ⟨b, 0, none⟩)) ∧ w.heap[b]? = some (.cells #[p, v] 189 (0, 0)) ∧ w.ownsRow B 5 1 v l.length (Lib.byteCells l) ∧ v.ownBlock ≠ some b ∧ S b ∧ (∀ g, v.ownBlock = some g → S g) ∧ ∀ x, S x → B ≤ x ∧ x < w.heap.size
theorem bytes_cells (l : List UInt8) : Lib.strCells (bs l) = Lib.byteCells l := by simp [Lib.strCells, Lib.byteCells, bs]
theorem cells_app (a b : List UInt8) : Lib.byteCells (a ++ b) = Lib.byteCells a ++ Lib.byteCells b := by simp [Lib.byteCells]
theorem byteCells_len (l : List UInt8) : (Lib.byteCells l).length = l.length := by simp [Lib.byteCells]
theorem BldAt.made {w : World} {B : Nat} (hB : B ≤ w.heap.size) : BldAt B (fun x => x = w.heap.size) w.heap.size [] (w.alloc (.cells #[.pointer none, .slice none 0 0] 189)) := by
  refine ⟨_, _, Or.inl rfl, (MapKept.heap_alloc w _).1, World.ownsRow_nil _ _ _ _, by simp [Value.ownBlock], rfl, by simp [Value.ownBlock], ?_⟩
  rintro x rfl
  exact ⟨hB, by simp⟩
theorem BldAt.keep {B b : Nat} {S : Nat → Prop} {l : List UInt8} {w w' : World} (h : BldAt B S b l w) (hz : w.heap.size ≤ w'.heap.size) (hk : ∀ x, x < w.heap.size → S x → w'.heap[x]? = w.heap[x]?) : BldAt B S b l w' := by
  obtain ⟨p, v, h1, h2, h3, h4, h5, h6, h7⟩ := h
  refine ⟨p, v, h1, (hk b (h7 b h5).2 h5).trans h2, ⟨h3.1, ?_⟩, h4, h5, h6, fun x hx => ⟨(h7 x hx).1, Nat.lt_of_lt_of_le (h7 x hx).2 hz⟩⟩
  rcases h3.2 with h | ⟨g, cap, cur, e, hg, hbb, hr⟩
  · exact Or.inl h
  · have hs := h6 g (by rw [e]; rfl)
    exact Or.inr ⟨g, cap, cur, e, hg, (hk g (h7 g hs).2 hs).trans hbb, hr⟩
theorem BldAt.below {B b : Nat} {S : Nat → Prop} {l : List UInt8} {w w' : World} (h : BldAt B S b l w) (hb : Below w.heap.size w w') : BldAt B S b l w' := h.keep hb.size fun x hx _ => hb.block x hx
theorem BldAt.more {B b : Nat} {S T : Nat → Prop} {l : List UInt8} {w : World} (h : BldAt B S b l w) (hs : ∀ x, S x → T x) (ht : ∀ x, T x → B ≤ x ∧ x < w.heap.size) : BldAt B T b l w := by
  obtain ⟨p, v, h1, h2, h3, h4, h5, h6, h7⟩ := h
  exact ⟨p, v, h1, h2, h3, h4, hs _ h5, fun g hg => hs _ (h6 g hg), ht⟩
theorem BldAt.is {B b : Nat} {S : Nat → Prop} {l : List UInt8} {w : World} (h : BldAt B S b l w) : Lib.IsBuilder 189 5 B b (Lib.byteCells l) w := by
  obtain ⟨p, v, h1, h2, h3, h4, h5, h6, h7⟩ := h
  have hx : (Lib.byteCells l).length = l.length := byteCells_len l
  rcases h1 with rfl | rfl
  · exact Or.inl ⟨(h7 b h5).1, v, h2, by rw [hx]; exact h3, h4⟩
  · exact Or.inr ⟨(h7 b h5).1, v, h2, by rw [hx]; exact h3, h4⟩
theorem BldAt.set {B b : Nat} {S : Nat → Prop} {l : List UInt8} {w : World} (h : BldAt B S b l w) : S b ∧ (∀ x, S x → B ≤ x ∧ x < w.heap.size) := by
  obtain ⟨p, v, h1, h2, h3, h4, h5, h6, h7⟩ := h
  exact ⟨h5, h7⟩
theorem builder_info : (Tryz.prog.info? 189).map (·.size) = some 2 := by kernel_rfl
theorem builder_lies : liesAt Tryz.prog Tryz.prog.depth 189 (2 / Tryz.prog.cellsOf 189) 0 189 1 = true := by kernel_rfl
theorem byte_info : (Tryz.prog.info? 5).map (fun i => (i.zero, i.size, i.bytes)) = some (some (.int .u8 0), 1, 1) := by kernel_rfl
set_option maxRecDepth 100000 in
set_option maxHeartbeats 2000000 in
theorem copyCheck_i {b : Nat} {p v : Value} {w : World} (hp : p = .pointer none ∨ p = .pointer (some ⟨b, 0, none⟩)) (h : w.heap[b]? = some (.cells #[p, v] 189 (0, 0))) :
    Calls Tryz.prog 186 #[.pointer (some ⟨b, 0, none⟩)] w fun e w' => e = .returned (.tuple #[]) ∧ w'.heap[b]? = some (.cells #[.pointer (some ⟨b, 0, none⟩), v] 189 (0, 0)) ∧ Spares (fun x => x = b) w w' ∧ w'.heap.size = w.heap.size := by
  obtain ⟨j, hj, hjs⟩ := Option.map_eq_some_iff.1 builder_info
  have h0 : w.cell? ⟨b, 0, none⟩ = some p := by rw [Lib.cell_of_heap h]; rfl
  have hz : w.frozen? ⟨b, 0, none⟩ = false := Lib.frozen_of_heap h 0
  have hs : w.shape? b = some (189, 2) := by simp [World.shape?, h]
  rcases hp with rfl | rfl
  · have hu := Lib.run_to_unsafe w ⟨b, 0, none⟩ Tryz.underlying186 Tryz.underlying229 hj (by rw [hjs]; decide) hs (Nat.zero_lt_succ 1)
    have hf := Lib.run_from_unsafe w ⟨b, 0, none⟩ Tryz.underlying229 Tryz.underlying186 hj hs builder_lies
    go_enter Tryz.func186, Tryz.ntmps186
    go_wp2_with fail
    rw [run_callFunc_extern Tryz.func200 (by kernel_rfl) (by kernel_rfl) (by kernel_rfl) (e := Extern.AbiNoEscape.same) (by kernel_rfl), Lib.run_noEscape]
    simp only [Result.andThen]
    rw [Oper.upon_value]
    go_wp2_with fail
    go_end0
    refine ⟨rfl, ?_, Spares.set (Spares.refl _), by simp [World.setCell]⟩
    have hB : Blk w b 189 [.pointer none, v] := h
    exact hB.set 0 (.pointer (some ⟨b, 0, none⟩))
  · have hn := Lib.run_neq_ptr_same w ⟨b, 0, none⟩ Tryz.underlying186 hj
    go_enter Tryz.func186, Tryz.ntmps186
    go_wp2_with fail
    go_end0
    exact ⟨rfl, h, Spares.refl _, rfl⟩
theorem append_text_at {P : Program} (w : World) (base : Nat) (t u ty e : TypeId) (i : TypeInfo) (ht : P.underlying t = some (.slice e)) (hu : P.underlying u = some .string) (hi : P.info? e = some i) (hz : i.zero = some (.int .u8 0))
    (hsize : i.size = 1) (hby : i.bytes = 1) (v : Value) (n : Nat) (xs : List Value) (hown : w.ownsRow base e 1 v n xs) (s : ByteArray) (h63 : n + s.size ≤ maxLen) (hbytes : n + s.size ≤ 140737488355328) (hbase : base ≤ w.heap.size) :
    ∃ v' w', (Builtin.append_ #[t, u] ty #[v, .string s]).run P w = .ok v' w' ∧ w'.ownsRow base e 1 v' (n + s.size) (xs ++ Lib.strCells s) ∧ w.grownBy w' v.ownBlock ∧ (v'.ownBlock = v.ownBlock ∨ v'.ownBlock = some w.heap.size) := by
  obtain ⟨v', w', hr, h2, h3, h4⟩ := Lib.run_append_own_string (P := P) w base t u ty e i ht hu hi hz hsize hby v n xs hown s h63 hbytes hbase
  refine ⟨v', w', hr, h2, h3, ?_⟩
  rcases hown.2 with ⟨rfl, rfl⟩ | ⟨g, cap, cur, rfl, hbg, hg, hnc, hcm, hcs, htake⟩
  · by_cases hm : s.size = 0
    · rw [h4.2 ⟨rfl, hm⟩]
      exact Or.inl rfl
    · have hr' := run_append_nil_string (P := P) w t u ty e i (.int .u8 0) ht hu hi hz s (by omega) (by unfold maxLen at h63; omega) (by rw [hby]; omega)
      rw [hr] at hr'
      cases hr'
      exact Or.inr rfl
  · have hcs' : cur.size = cap := by simpa using hcs
    have hxl : xs.length = n := by simpa using hown.1
    by_cases hroom : n + s.size ≤ cap
    · have hr' := Lib.run_append_room_string (P := P) w t u ty e i ht hu hi hsize g n cap cur hg s hroom (by omega)
      rw [hr] at hr'
      cases hr'
      exact Or.inl rfl
    · have hr' := Lib.run_append_grow_string (P := P) w t u ty e i (.int .u8 0) ht hu hi hz ⟨g, 0, none⟩ n cap xs (by rw [hsize]; simpa using hxl) (hown.cells (g := g) rfl) s (by omega) (by unfold maxLen at h63; omega) (by rw [hby]; exact growslice_fits (by omega) (by omega))
      rw [hr] at hr'
      cases hr'
      exact Or.inr rfl
theorem wpList_append_text {P : Program} (w : World) {ops : Array Oper} {rest : List Oper} {o : Oper} {a : Act} {Q : Exit → Act → World → Prop} (hgd : o.guard = none) (sl x : Operand) (t u : TypeId)
    (ho : o.op = .call { callee := .builtin .append, args := #[sl, x], argTypes := #[t, u] }) (base : Nat) (e : TypeId) (ht : P.underlying t = some (.slice e)) (hu : P.underlying u = some .string)
    (hinfo : (P.info? e).map (fun i => (i.zero, i.size, i.bytes)) = some (some (.int .u8 0), 1, 1)) (v : Value) (n : Nat) (xs : List Value) (hs : a.eval sl = v) (hown : w.ownsRow base e 1 v n xs) (s : ByteArray) (hx : a.eval x = .string s)
    (h63 : n + s.size ≤ maxLen) (hbytes : n + s.size ≤ 140737488355328) (hbase : base ≤ w.heap.size)
    (h : ∀ ao n' cap w', w'.ownsRow base e 1 (.slice ao n' cap) (n + s.size) (xs ++ Lib.strCells s) → w.grownBy w' v.ownBlock → (Value.ownBlock (.slice ao n' cap) = v.ownBlock ∨ Value.ownBlock (.slice ao n' cap) = some w.heap.size) → wpList P ops Q rest (a.put o.dst (.slice ao n' cap)) w') : wpList P ops Q (o :: rest) a w := by
  obtain ⟨i, hi, hz, hsize, hby⟩ := info_parts hinfo
  refine wpList_plain hgd fun K hK => ?_
  obtain ⟨v', w', hr, h2, h3, h4⟩ := append_text_at (P := P) w base t u o.type e i ht hu hi hz hsize hby v n xs hown s h63 hbytes hbase
  obtain ⟨ao, n', cap, rfl⟩ : ∃ ao n' cap, v' = .slice ao n' cap := by rcases h2.2 with ⟨e, _⟩ | ⟨g, cap, cur, e, _⟩ <;> exact ⟨_, _, _, e⟩
  unfold Oper.wp execOp
  simp only [ho, resolve, invoke, builtin, Sem.run_bind, Sem.run_pure, Result.andThen_ok, List.map_toArray, List.map_cons, List.map_nil, hs, hx, hr]
  exact hK _ _ (h ao n' cap w' h2 h3 h4)
set_option maxRecDepth 100000 in
set_option maxHeartbeats 2000000 in
theorem WriteString_i {B b : Nat} {S : Nat → Prop} {l s : List UInt8} {w : World} (h : BldAt B S b l w) (hlen : l.length + s.length ≤ 1000000000) (hB : B ≤ w.heap.size) :
    Calls Tryz.prog 180 #[.pointer (some ⟨b, 0, none⟩), .string (bs s)] w fun e w' => (∃ u, e = .returned u) ∧ BldAt B (fun x => S x ∨ (w.heap.size ≤ x ∧ x < w'.heap.size)) b (l ++ s) w' ∧ Spares S w w' := by
  obtain ⟨p, v, h1, h2, h3, h4, h5, h6, h7⟩ := h
  have Hl := Lib.hid (bs_size s)
  go_enter Tryz.func180, Tryz.ntmps180
  go_wp2_with fail
  refine (copyCheck_i h1 h2).mono ?_
  rintro e w1 ⟨rfl, hbk, hsp, hz⟩
  have hown : w1.ownsRow B 5 1 v l.length (Lib.byteCells l) := by
    refine ⟨h3.1, ?_⟩
    rcases h3.2 with h | ⟨g, cap, cur, e, hg, hbb, hr⟩
    · exact Or.inl h
    · have hgb : g ≠ b := fun q => h4 (by rw [e, q]; rfl)
      exact Or.inr ⟨g, cap, cur, e, hg, (hsp.block g (h7 g (h6 g (by rw [e]; rfl))).2 hgb).trans hbb, hr⟩
  have c0 : w1.cell? ⟨b, 0, none⟩ = some (.pointer (some ⟨b, 0, none⟩)) := by rw [Lib.cell_of_heap hbk]; rfl
  have c1 : w1.cell? ⟨b, 1, none⟩ = some v := by rw [Lib.cell_of_heap hbk]; rfl
  have hlt : b < w1.heap.size := (Array.getElem?_eq_some_iff.1 hbk).1
  have Hz := Lib.hid hz
  have hBz : B ≤ w1.heap.size := by omega
  have HS := Lib.hid hsp
  have H7 := Lib.hid h7
  have H2 := Lib.hid h2
  clear hz hsp h7 h2
  go_wp2_with (at_builtin; refine wpList_append_text _ rfl _ _ 187 9 rfl B 5 Tryz.underlying187 Tryz.underlying9 byte_info _ _ _ rfl hown (bs s) rfl (by rw [Hl.out]; unfold maxLen; omega) (by rw [Hl.out]; omega) hBz ?_; intro ao n' cap w2 hown' hgrow hat; have hb2 : w2.heap[b]? = some (.cells #[.pointer (some ⟨b, 0, none⟩), v] 189 (0, 0)) := (by rw [hgrow.block b hlt (fun e => h4 e.symm)]; exact hbk); have d1 : w2.cell? ⟨b, 1, none⟩ = some v := (by rw [Lib.cell_of_heap hb2]; rfl); have f1 : w2.frozen? ⟨b, 1, none⟩ = false := Lib.frozen_of_heap hb2 1; clear c0 c1)
  go_ret2
  have hgz := hgrow.size
  rw [bytes_cells] at hown'
  have hne := Lib.ownBlock_ne hown' hb2 (by decide)
  have hblk : Blk w2 b 189 [.pointer (some ⟨b, 0, none⟩), v] := hb2
  have hsz2 : (w2.setCell ⟨b, 1, none⟩ (.slice ao n' cap)).heap.size = w2.heap.size := by simp [World.setCell]
  have Hz := Hz.out
  have H7 := H7.out
  refine ⟨⟨_, rfl⟩, ⟨_, _, Or.inr rfl, hblk.set 1 (.slice ao n' cap), ?_, hne, Or.inl h5, ?_, ?_⟩, ?_⟩
  · rw [cells_app, List.length_append, show s.length = (bs s).size from (bs_size s).symm]
    refine ⟨hown'.1, ?_⟩
    rcases hown'.2 with h | ⟨g, cap', cur, e, hg, hbb, hr⟩
    · exact Or.inl h
    · exact Or.inr ⟨g, cap', cur, e, hg, (Below.heap_setCell _ _ _ _ (fun q => hne (by rw [e]; show some g = some b; rw [q]))).trans hbb, hr⟩
  · intro g hg
    rcases hat with h | h
    · exact Or.inl (h6 g (h ▸ hg))
    · rw [h] at hg
      cases hg
      exact Or.inr (by rw [hsz2]; rcases hown'.2 with ⟨e, _⟩ | ⟨g, cap', cur, e, _, hbb, _⟩
                       · rw [e] at h; cases h
                       · rw [e] at h
                         simp only [Value.ownBlock, Option.some.injEq] at h
                         have := (Array.getElem?_eq_some_iff.1 hbb).1
                         omega)
  · intro x hx
    rw [hsz2]
    rcases hx with hx | hx
    · have := H7 x hx; omega
    · rw [hsz2] at hx; omega
  · have HS := HS.out
    refine ⟨hgrow.os.trans HS.os, hgrow.tape.trans HS.tape, hgrow.output.trans HS.output, by rw [hsz2]; omega, fun x hx hn => ?_⟩
    have hxb : x ≠ b := fun q => hn (q ▸ h5)
    have hxv : some x ≠ v.ownBlock := fun q => hn (h6 x q.symm)
    rw [Below.heap_setCell _ _ _ _ hxb, hgrow.block x (by omega) hxv]
    exact HS.block x hx hxb
theorem String_i {B b : Nat} {S : Nat → Prop} {l : List UInt8} {w : World} (h : BldAt B S b l w) (hB : B ≤ w.heap.size) :
    Calls Tryz.prog 167 #[.pointer (some ⟨b, 0, none⟩)] w fun e w' => e = .returned (.string (bs l)) ∧ Below B w w' := Tryz.Builder_String_any B b l w h.is hB
structure BldS (B b : Nat) (S : Nat → Prop) (w1 : World) (l : List UInt8) (w : World) : Prop where
  ex : ∃ T : Nat → Prop, BldAt B T b l w ∧ ∀ x, T x → S x ∨ w1.heap.size ≤ x
  sp : Spares S w1 w
theorem BldS.start {B b : Nat} {S : Nat → Prop} {l : List UInt8} {w1 : World} (h : BldAt B S b l w1) : BldS B b S w1 l w1 := ⟨⟨S, h, fun _ hx => Or.inl hx⟩, Spares.refl _⟩
theorem BldS.next {B b : Nat} {S T : Nat → Prop} {l l' : List UInt8} {w1 w w' : World} (h : BldS B b S w1 l w) (hT : ∀ x, T x → S x ∨ w1.heap.size ≤ x) (hb : BldAt B (fun x => T x ∨ (w.heap.size ≤ x ∧ x < w'.heap.size)) b l' w') (hs : Spares T w w') : BldS B b S w1 l' w' := by
  have hz := h.sp.size
  refine ⟨⟨_, hb, fun x hx => ?_⟩, ⟨hs.os.trans h.sp.os, hs.tape.trans h.sp.tape, hs.output.trans h.sp.output, Nat.le_trans hz hs.size, fun x hx hn => ?_⟩⟩
  · rcases hx with hx | hx
    · exact hT x hx
    · exact Or.inr (by omega)
  · rw [hs.block x (by omega) (fun hTx => by
      rcases hT x hTx with h1 | h1
      · exact hn h1
      · omega)]
    exact h.sp.block x hx hn
theorem BldS.done {B b : Nat} {S : Nat → Prop} {l : List UInt8} {w w1 w' : World} (h : BldS B b S w1 l w') (hb : Below w.heap.size w w1) (hS : ∀ x, S x → B ≤ x ∧ x < w.heap.size) (hB : B ≤ w.heap.size) : BldAt B (fun x => S x ∨ (w.heap.size ≤ x ∧ x < w'.heap.size)) b l w' ∧ Spares S w w' := by
  obtain ⟨⟨T, hT, hTS⟩, hsp⟩ := h
  have h1 := hT.set.2
  have hz := hb.size
  have hz' := hsp.size
  refine ⟨hT.more (fun x hx => ?_) (fun x hx => ?_), (Spares.of_below hb).trans hsp⟩
  · have := h1 x hx
    rcases hTS x hx with h | h
    · exact Or.inl h
    · exact Or.inr (by omega)
  · rcases hx with hx | hx
    · have := hS x hx; omega
    · omega
end Go.Proofs.YtjlmdhoajfdkbaaGreatDoor

namespace Go.Proofs.YtjlmdhoajfdkbaaGreatDoor
set_option linter.unusedVariables false
set_option linter.unusedSimpArgs false
open Go.ChangeShapes Go.WideShapes Go.ChangeAt Go.RowKit Go.Deep
inductive Ex where
  | mk (kind num : Int) (kids : List Ex)
def Ex.kind : Ex → Int | .mk k _ _ => k
def Ex.num : Ex → Int | .mk _ n _ => n
def Ex.kids : Ex → List Ex | .mk _ _ ks => ks
theorem Ex.eta : ∀ e : Ex, e = .mk e.kind e.num e.kids | .mk _ _ _ => rfl
mutual
def Ex.cells : Ex → List D
  | .mk k n ks => [.int k, .int n, .sl 3 ks.length (Ex.cellsL ks)]
def Ex.cellsL : List Ex → List D
  | [] => []
  | e :: r => e.cells ++ Ex.cellsL r
end
def kidsD (ks : List Ex) : D := .sl 3 ks.length (Ex.cellsL ks)
mutual
def Ex.size : Ex → Nat
  | .mk _ _ ks => 1 + Ex.sizeL ks
def Ex.sizeL : List Ex → Nat
  | [] => 0
  | e :: r => e.size + Ex.sizeL r
end
theorem Ex.cells_eq (e : Ex) : e.cells = [.int e.kind, .int e.num, kidsD e.kids] := by cases e; simp only [Ex.cells, kidsD, Ex.kind, Ex.num, Ex.kids]
theorem Ex.size_eq (e : Ex) : e.size = 1 + Ex.sizeL e.kids := by cases e; simp only [Ex.size, Ex.kids]
theorem Ex.cells_length (e : Ex) : e.cells.length = 3 := by rw [Ex.cells_eq]; rfl
theorem Ex.cellsL_length : ∀ ks : List Ex, (Ex.cellsL ks).length = ks.length * 3
  | [] => by simp [Ex.cellsL]
  | e :: r => by simp only [Ex.cellsL, List.length_append, Ex.cells_length, Ex.cellsL_length r, List.length_cons]; omega
theorem Ex.cellsL_append : ∀ a b : List Ex, Ex.cellsL (a ++ b) = Ex.cellsL a ++ Ex.cellsL b
  | [], b => by simp [Ex.cellsL]
  | e :: r, b => by simp only [List.cons_append, Ex.cellsL, Ex.cellsL_append r b, List.append_assoc]
theorem Ex.sizeL_append : ∀ a b : List Ex, Ex.sizeL (a ++ b) = Ex.sizeL a + Ex.sizeL b
  | [], b => by simp [Ex.sizeL]
  | e :: r, b => by simp only [List.cons_append, Ex.sizeL, Ex.sizeL_append r b]; omega
theorem Ex.cellsL_at : ∀ (ks : List Ex) (i : Nat) (e : Ex), ks[i]? = some e → ∀ j, j < 3 → (Ex.cellsL ks)[3 * i + j]? = e.cells[j]?
  | [], i, e, h => by simp at h
  | e0 :: r, 0, e, h => by
    simp at h
    subst h
    intro j hj
    simp only [Ex.cellsL]
    rw [Nat.mul_zero, Nat.zero_add, List.getElem?_append_left (by rw [Ex.cells_length]; exact hj)]
  | e0 :: r, i + 1, e, h => by
    intro j hj
    simp only [Ex.cellsL]
    rw [List.getElem?_append_right (by rw [Ex.cells_length]; omega), Ex.cells_length, show 3 * (i + 1) + j - 3 = 3 * i + j by omega]
    exact Ex.cellsL_at r i e (by simpa using h) j hj
theorem Ex.sizeL_mem : ∀ {ks : List Ex} {e : Ex}, e ∈ ks → e.size ≤ Ex.sizeL ks
  | [], _, h => by simp at h
  | e0 :: r, e, h => by
    simp only [Ex.sizeL]
    rcases List.mem_cons.1 h with rfl | h
    · omega
    · have := Ex.sizeL_mem h
      omega
theorem Ex.length_le_sizeL : ∀ ks : List Ex, ks.length ≤ Ex.sizeL ks
  | [] => Nat.le_refl _
  | e :: r => by
    have := Ex.length_le_sizeL r
    have := Ex.size_eq e
    simp only [Ex.sizeL, List.length_cons]
    omega
theorem Ex.sizeL_take_succ {ks : List Ex} {i : Nat} {e : Ex} (h : ks[i]? = some e) : Ex.sizeL (ks.take (i + 1)) = Ex.sizeL (ks.take i) + e.size := by
  obtain ⟨hi, rfl⟩ := List.getElem?_eq_some_iff.1 h
  rw [List.take_succ_eq_append_getElem hi, Ex.sizeL_append]
  simp [Ex.sizeL]
theorem Ex.sizeL_take_le (ks : List Ex) (i : Nat) : Ex.sizeL (ks.take i) ≤ Ex.sizeL ks := by
  have := Ex.sizeL_append (ks.take i) (ks.drop i)
  rw [List.take_append_drop] at this
  omega
theorem Ex.cellsL_take_succ {ks : List Ex} {i : Nat} {e : Ex} (h : ks[i]? = some e) : Ex.cellsL (ks.take (i + 1)) = Ex.cellsL (ks.take i) ++ [.int e.kind, .int e.num, kidsD e.kids] := by
  obtain ⟨hi, rfl⟩ := List.getElem?_eq_some_iff.1 h
  rw [List.take_succ_eq_append_getElem hi, Ex.cellsL_append, ← Ex.cells_eq]
  simp [Ex.cellsL]
theorem kid_at {w : World} {ks : List Ex} {a : Option Addr} {len cap : Nat} (h : Rd w (kidsD ks) (.slice a len cap)) :
    len = ks.length ∧ len ≤ cap ∧ cap ≤ maxLen ∧ (a = none → cap = 0) ∧ (ks = [] ∨ ∃ b o, a = some ⟨b, o, none⟩ ∧ b < w.heap.size ∧ ∀ (i : Nat) (e : Ex), ks[i]? = some e →
      ∃ s c, w.cell? ⟨b, o + i * 3, none⟩ = some (.int .i64 e.kind) ∧ w.cell? ⟨b, o + i * 3 + 1, none⟩ = some (.int .i64 e.num) ∧ w.cell? ⟨b, o + i * 3 + 2, none⟩ = some (.slice s e.kids.length c) ∧
        Rd w (kidsD e.kids) (.slice s e.kids.length c)) := by
  obtain ⟨h1, h2, h3, _, h5, h4⟩ := h.sl_at
  refine ⟨h1, by omega, h3, h5, ?_⟩
  rcases h4 with h4 | ⟨b, o, rfl, h4⟩
  · exact Or.inl (List.eq_nil_of_length_eq_zero h4)
  · by_cases hk : ks = []
    · exact Or.inl hk
    right
    have each : ∀ (i : Nat) (e : Ex), ks[i]? = some e → ∃ s c, w.cell? ⟨b, o + i * 3, none⟩ = some (.int .i64 e.kind) ∧ w.cell? ⟨b, o + i * 3 + 1, none⟩ = some (.int .i64 e.num) ∧ w.cell? ⟨b, o + i * 3 + 2, none⟩ = some (.slice s e.kids.length c) ∧
        Rd w (kidsD e.kids) (.slice s e.kids.length c) := by
      intro i e he
      have c0 := Ex.cellsL_at ks i e he 0 (by omega)
      have c1 := Ex.cellsL_at ks i e he 1 (by omega)
      have c2 := Ex.cellsL_at ks i e he 2 (by omega)
      rw [Ex.cells_eq] at c0 c1 c2
      obtain ⟨x0, g0, r0⟩ := h4 _ _ c0
      obtain ⟨x1, g1, r1⟩ := h4 _ _ c1
      obtain ⟨x2, g2, r2⟩ := h4 _ _ c2
      simp only [Rd] at r0 r1
      subst r0 r1
      obtain ⟨s, c, rfl, _⟩ := Rd.slice r2
      refine ⟨s, c, ?_, ?_, ?_, r2⟩
      · rw [← g0]; congr 2; omega
      · rw [← g1]; congr 2; omega
      · rw [← g2]; congr 2; omega
    refine ⟨b, o, rfl, ?_, each⟩
    cases ks with
    | nil => exact absurd rfl hk
    | cons e r =>
      obtain ⟨_, _, g0, _⟩ := each 0 e rfl
      exact World.block_lt_of_cell? w _ g0
theorem kid_in {w : World} {ks : List Ex} {b o len cap : Nat} (h : Rd w (kidsD ks) (.slice (some ⟨b, o, none⟩) len cap)) {i : Nat} {e : Ex} (he : ks[i]? = some e) :
    b < w.heap.size ∧ ∃ s c, w.cell? ⟨b, o + i * 3, none⟩ = some (.int .i64 e.kind) ∧ w.cell? ⟨b, o + i * 3 + 1, none⟩ = some (.int .i64 e.num) ∧ w.cell? ⟨b, o + i * 3 + 2, none⟩ = some (.slice s e.kids.length c) ∧
        Rd w (kidsD e.kids) (.slice s e.kids.length c) := by
  obtain ⟨_, _, _, _, h4⟩ := kid_at h
  rcases h4 with rfl | ⟨b', o', e1, hb, h4⟩
  · simp at he
  · simp only [Option.some.injEq, Addr.mk.injEq, and_true] at e1
    obtain ⟨rfl, rfl⟩ := e1
    exact ⟨hb, h4 i e he⟩
theorem kid_some {w : World} {ks : List Ex} {a : Option Addr} {len cap : Nat} (h : Rd w (kidsD ks) (.slice a len cap)) (hk : ks ≠ []) : ∃ b o, a = some ⟨b, o, none⟩ := by
  obtain ⟨_, _, _, _, h4⟩ := kid_at h
  rcases h4 with h4 | ⟨b, o, e, _⟩
  · exact absurd h4 hk
  · exact ⟨b, o, e⟩
def ExAt (w : World) (b o : Nat) (e : Ex) : Prop := w.cell? ⟨b, o, none⟩ = some (.int .i64 e.kind) ∧ w.cell? ⟨b, o + 1, none⟩ = some (.int .i64 e.num) ∧
  ∃ s c, w.cell? ⟨b, o + 2, none⟩ = some (.slice s e.kids.length c) ∧ Rd w (kidsD e.kids) (.slice s e.kids.length c)
theorem ExAt.lt {w : World} {b o : Nat} {e : Ex} (h : ExAt w b o e) : b < w.heap.size := World.block_lt_of_cell? w _ h.1
theorem ExAt.below {w w' : World} {b o : Nat} {e : Ex} (h : ExAt w b o e) (hb : Below w.heap.size w w') : ExAt w' b o e := by
  have hl := h.lt
  obtain ⟨h0, h1, s, c, h2, h3⟩ := h
  exact ⟨(hb.cell (p := ⟨b, o, none⟩) hl).trans h0, (hb.cell (p := ⟨b, o + 1, none⟩) hl).trans h1, s, c, (hb.cell (p := ⟨b, o + 2, none⟩) hl).trans h2, h3.below hb⟩
theorem kid_exAt {w : World} {ks : List Ex} {b o len cap : Nat} (h : Rd w (kidsD ks) (.slice (some ⟨b, o, none⟩) len cap)) {i : Nat} {e : Ex} (he : ks[i]? = some e) : ExAt w b (o + i * 3) e := by
  obtain ⟨_, s, c, g0, g1, g2, g3⟩ := kid_in h he
  exact ⟨g0, g1, s, c, g2, g3⟩
theorem Blk.exAt {w : World} {g T : Nat} {k n : Int} {ks : List Ex} {s : Option Addr} {c : Nat} (h : Blk w g T [.int .i64 k, .int .i64 n, .slice s ks.length c]) (hr : Rd w (kidsD ks) (.slice s ks.length c)) : ExAt w g 0 (.mk k n ks) :=
  ⟨h.c0, h.c1, s, c, h.c2, hr⟩
section
variable {H : Type} {enc : TypeId × Value → H} {P : Program} {w : World} {base : Nat} {sp : Nat → Bool} {hd : Bool}
theorem rows_exprs : ∀ rows : List (List D), (∀ r ∈ rows, ∃ e : Ex, r = e.cells) → ∃ ks : List Ex, rows.length = ks.length ∧ rows.flatten = Ex.cellsL ks
  | [], _ => ⟨[], rfl, by simp [Ex.cellsL]⟩
  | r :: rows, h => by
    obtain ⟨e, rfl⟩ := h r (List.mem_cons_self ..)
    obtain ⟨ks, h1, h2⟩ := rows_exprs rows fun r hr => h r (List.mem_cons_of_mem _ hr)
    exact ⟨e :: ks, by simp [h1], by simp only [List.flatten_cons, h2, Ex.cellsL]⟩
theorem open_expr {ti ts te : TypeId} {f0 f1 f2 : Field} (he : P.underlying te = some (.struct #[f0, f1, f2])) (hs : P.underlying ts = some (.slice te)) (hi : P.underlying ti = some (.int .i64))
    (t0 : f0.type = ti) (t1 : f1.type = ti) (t2 : f2.type = ts) (o0 : f0.offset = 0) (o1 : f1.offset = 1) (o2 : f2.offset = 2) (ci : P.cellsOf ti = 1) (cs' : P.cellsOf ts = 1) (ce : P.cellsOf te = 3) :
    ∀ (fuel : Nat) (cs : List Value) (x : DataW H × List MemPlace), DataW.trod enc P w base sp hd fuel te cs = some x → ∃ e : Ex, Rds w e.cells cs := by
  intro fuel
  induction fuel using Nat.strongRecOn with
  | _ fuel ih =>
    intro cs x h
    obtain ⟨xs, m, rfl, rfl, hl, hlen, hf⟩ := DataW.trod_struct he h
    rw [ce] at hl
    match xs, hlen, cs, hl with
    | [y0, y1, y2], _, [v0, v1, v2], _ =>
      have g0 := hf 0 f0 rfl
      have g1 := hf 1 f1 rfl
      have g2 := hf 2 f2 rfl
      simp [o0, o1, o2, t0, t1, t2, ci, cs'] at g0 g1 g2
      obtain ⟨k, e0, _⟩ := DataW.trod_int hi g0
      obtain ⟨n, e1, _⟩ := DataW.trod_int hi g1
      simp only [List.cons.injEq, and_true] at e0 e1
      subst e0 e1
      obtain ⟨v, rows, e2, hrows, hr⟩ := open_sl (size := 3) (Q := fun r => ∃ e : Ex, r = e.cells) hs ce (by omega) (fun m' hm' cs x hx => by
        obtain ⟨e, hr⟩ := ih m' (by omega) cs x hx
        exact ⟨_, ⟨e, rfl⟩, Ex.cells_length e, hr⟩) g2
      simp only [List.cons.injEq, and_true] at e2
      subst e2
      obtain ⟨ks, k1, k2⟩ := rows_exprs rows hrows
      refine ⟨.mk k n ks, ?_⟩
      rw [k1, k2] at hr
      simp only [Ex.cells, Rds]
      exact ⟨_, _, rfl, by simp only [Rd], _, _, rfl, by simp only [Rd], _, _, rfl, hr, rfl⟩
end
end Go.Proofs.YtjlmdhoajfdkbaaGreatDoor

namespace Go.Proofs.YtjlmdhoajfdkbaaGreatDoor
set_option linter.unusedVariables false
set_option linter.unusedSimpArgs false
open Go.ChangeShapes Go.WideShapes Go.ChangeAt Go.RowKit
theorem own : ownKnob Tryz.prog.godebug = none := by kernel_rfl
theorem laid : laidOutB Tryz.prog = true := by kernel_rfl
theorem cells_int64 : Tryz.prog.cellsOf 2 = 1 := by kernel_rfl
theorem cells_Sig : Tryz.prog.cellsOf 23 = 2 := by kernel_rfl
theorem cells_laws_Expr : Tryz.prog.cellsOf 26 = 3 := by kernel_rfl
theorem cells_laws_Exprs : Tryz.prog.cellsOf 24 = 1 := by kernel_rfl
set_option maxRecDepth 10000
section
variable {H : Type} {enc : TypeId × Value → H} {W : World} {base : Nat} {sp : Nat → Bool} {hd : Bool} {v : Value} {d : DataW H} {ps : List MemPlace}
theorem open_lawsExpr (h : DataW.Trod enc Tryz.prog W base sp hd 26 v d ps) :
    ∃ k n ks s cap, v = .agg #[.int .i64 k, .int .i64 n, .slice s ks.length cap] ∧ Rd W (kidsD ks) (.slice s ks.length cap) := by
  obtain ⟨fuel, hf⟩ := h
  obtain ⟨e, hr⟩ := open_expr Tryz.underlying26 Tryz.underlying24 Tryz.underlying2 rfl rfl rfl rfl rfl rfl cells_int64 cells_laws_Exprs cells_laws_Expr fuel _ _ hf
  rw [Ex.cells_eq] at hr
  simp only [Rds, Rd] at hr
  obtain ⟨x0, r0, e0, rfl, x1, r1, rfl, rfl, x2, r2, rfl, hx2, rfl⟩ := hr
  obtain ⟨s, cap, rfl, _⟩ := Rd.slice hx2
  exact ⟨_, _, e.kids, s, cap, cells_three e0, hx2⟩
set_option maxRecDepth 100000 in
theorem open_lawsSig (h : DataW.Trod enc Tryz.prog W base sp hd 23 v d ps) : ∃ t a, v = .agg #[.int .i64 t, .int .i64 a] := by
  obtain ⟨fuel, hf⟩ := h
  obtain ⟨y0, y1, n, _, hl, g0, g1⟩ := trod_struct2 Tryz.underlying23 hf
  rw [cells_Sig] at hl
  generalize hcs : v.cells.toList = cs at *
  match cs, hl with
  | [v0, v1], _ =>
    simp [cells_int64] at g0 g1
    obtain ⟨a, e0, _⟩ := DataW.trod_int Tryz.underlying2 g0
    obtain ⟨b, e1, _⟩ := DataW.trod_int Tryz.underlying2 g1
    simp only [List.cons.injEq, and_true] at e0 e1
    subst e0 e1
    exact ⟨a, b, cells_two hcs⟩
end
end Go.Proofs.YtjlmdhoajfdkbaaGreatDoor

namespace Go.Proofs.YtjlmdhoajfdkbaaGreatDoor
set_option linter.unusedVariables false
set_option linter.unusedSimpArgs false
open Go.ChangeShapes Go.WideShapes Go.ChangeAt Go.RowKit
def inB (n lo hi : Int) : Bool := decide (lo ≤ n) && decide (n ≤ hi)
def sigB (t a : Int) : Bool := inB t 0 3 && inB a 0 4
theorem within_any (n lo hi : Int) (w : World) : Calls Tryz.prog 69 #[.int .i64 n, .int .i64 lo, .int .i64 hi] w fun e w' => e = .returned (.bool (inB n lo hi)) ∧ w = w' := by
  by_cases h1 : lo ≤ n
  · by_cases h2 : n ≤ hi
    · have e1 : inB n lo hi = true := by simp [inB, h1, h2]
      rw [e1]
      go_enter Tryz.func69, Tryz.ntmps69
      go_wp2
      go_ret
      exact ⟨rfl, rfl⟩
    · have e1 : inB n lo hi = false := by simp [inB, h2]
      rw [e1]
      go_enter Tryz.func69, Tryz.ntmps69
      go_wp2
      go_ret
      exact ⟨rfl, rfl⟩
  · have e1 : inB n lo hi = false := by simp [inB, h1]
    rw [e1]
    go_enter Tryz.func69, Tryz.ntmps69
    go_wp2
    go_ret
    exact ⟨rfl, rfl⟩
theorem in_any (n lo hi : Int) (w : World) : Calls Tryz.prog 93 #[.int .i64 n, .int .i64 lo, .int .i64 hi] w fun e w' => e = .returned (.bool (inB n lo hi)) ∧ w = w' := by
  by_cases h1 : lo ≤ n
  · by_cases h2 : n ≤ hi
    · have e1 : inB n lo hi = true := by simp [inB, h1, h2]
      rw [e1]
      go_enter Tryz.func93, Tryz.ntmps93
      go_wp2
      go_ret
      exact ⟨rfl, rfl⟩
    · have e1 : inB n lo hi = false := by simp [inB, h2]
      rw [e1]
      go_enter Tryz.func93, Tryz.ntmps93
      go_wp2
      go_ret
      exact ⟨rfl, rfl⟩
  · have e1 : inB n lo hi = false := by simp [inB, h1]
    rw [e1]
    go_enter Tryz.func93, Tryz.ntmps93
    go_wp2
    go_ret
    exact ⟨rfl, rfl⟩
theorem toSig_any (t a : Int) (w : World) : Calls Tryz.prog 16 #[.agg #[.int .i64 t, .int .i64 a]] w fun e w' => e = .returned (.agg #[.int .i64 t, .int .i64 a]) ∧ Below w.heap.size w w' := by
  go_enter Tryz.func16, Tryz.ntmps16
  go_wp2
  exact bodyPost_ret (v := .agg #[.int .i64 t, .int .i64 a]) (by simp [results, Tryz.results16, go_sem]) rfl ⟨rfl, by (repeat' first | exact Below.refl _ _ | assumption | apply Below.alloc | apply Below.drew | apply Below.setCell | omega | (simp; done) | (simp; omega))⟩
theorem l01Sig_any (t a : Int) (w : World) : Calls Tryz.prog 118 #[.agg #[.int .i64 t, .int .i64 a]] w fun e w' => e = .returned (.bool (sigB t a)) ∧ Below w.heap.size w w' := by
  go_enter Tryz.func118, Tryz.ntmps118
  go_wp2_with ((go_at_call 93; ((with_reducible refine (in_any _ _ _ _).mono ?_); rintro e w' ⟨rfl, rfl⟩)))
  all_goals go_ret
  all_goals exact ⟨by simp [sigB, *], by (repeat' first | exact Below.refl _ _ | assumption | apply Below.alloc | apply Below.drew | apply Below.setCell | omega | (simp; done) | (simp; omega))⟩
theorem implValidSig_any (t a : Int) (w : World) : Calls Tryz.prog 128 #[.agg #[.int .i64 t, .int .i64 a]] w fun e w' => e = .returned (.bool (sigB t a)) ∧ Below w.heap.size w w' := by
  go_enter Tryz.func128, Tryz.ntmps128
  go_wp2_with ((go_at_call 69; ((with_reducible refine (within_any _ _ _ _).mono ?_); rintro e w' ⟨rfl, rfl⟩)))
  all_goals go_ret
  all_goals exact ⟨by simp [sigB, *], by (repeat' first | exact Below.refl _ _ | assumption | apply Below.alloc | apply Below.drew | apply Below.setCell | omega | (simp; done) | (simp; omega))⟩
end Go.Proofs.YtjlmdhoajfdkbaaGreatDoor

namespace Go.Proofs.YtjlmdhoajfdkbaaGreatDoor
set_option linter.unusedVariables false
set_option linter.unusedSimpArgs false
open Go.ChangeShapes Go.WideShapes Go.ChangeAt Go.RowKit
def condKind (k : Int) : Bool := decide (k = 1 ∨ k = 2 ∨ k = 3 ∨ k = 5 ∨ k = 6 ∨ k = 7)
mutual
def Ex.cond : Ex → Bool
  | .mk k _ ks => condKind k && Ex.condL ks
def Ex.condL : List Ex → Bool
  | [] => true
  | e :: r => e.cond && Ex.condL r
end
theorem Ex.cond_eq (e : Ex) : e.cond = (condKind e.kind && Ex.condL e.kids) := by cases e; simp only [Ex.cond, Ex.kind, Ex.kids]
theorem Ex.condL_append : ∀ a b : List Ex, Ex.condL (a ++ b) = (Ex.condL a && Ex.condL b)
  | [], b => by simp [Ex.condL]
  | e :: r, b => by simp only [List.cons_append, Ex.condL, Ex.condL_append r b, Bool.and_assoc]
theorem Ex.condL_take_succ {ks : List Ex} {i : Nat} {e : Ex} (h : ks[i]? = some e) : Ex.condL (ks.take (i + 1)) = (Ex.condL (ks.take i) && e.cond) := by
  obtain ⟨hi, rfl⟩ := List.getElem?_eq_some_iff.1 h
  rw [List.take_succ_eq_append_getElem hi, Ex.condL_append]
  simp [Ex.condL]
theorem Ex.condL_false {ks : List Ex} {i : Nat} {e : Ex} (h : ks[i]? = some e) (hc : e.cond = false) : Ex.condL ks = false := by
  have := Ex.condL_append (ks.take (i + 1)) (ks.drop (i + 1))
  rw [List.take_append_drop, Ex.condL_take_succ h, hc] at this
  simpa using this
theorem l01Condition_all (N : Nat) : ∀ (e : Ex) (b o : Nat) (w : World), e.size ≤ N → ExAt w b o e →
    Calls Tryz.prog 163 #[.pointer (some ⟨b, o, none⟩)] w fun f w' => f = .returned (.bool e.cond) ∧ w = w' := by
  induction N using Nat.strongRecOn with
  | _ N ih =>
  intro e b o w hN hr
  obtain ⟨g0, g1, s, c, g2, g3⟩ := hr
  obtain ⟨-, hlen, hcap, -, -⟩ := kid_at g3
  unfold maxLen at hcap
  have hse := Ex.size_eq e
  have hks : Ex.sizeL e.kids < N := by omega
  clear hse
  by_cases hk : condKind e.kind = true
  · have hc : e.cond = Ex.condL e.kids := by rw [Ex.cond_eq, hk, Bool.true_and]
    have Hc := Lib.hid hc
    have b1 : inB e.kind 1 7 = true := by simp [condKind] at hk; simp [inB]; omega
    have b2 : (e.kind == 4) = false := by simp [condKind] at hk; simp; omega
    clear hc hk
    go_enter Tryz.func163, Tryz.ntmps163
    go_wp2_with ((go_at_call 93; ((with_reducible refine (in_any _ _ _ _).mono ?_); rintro e w' ⟨rfl, rfl⟩)))
    go_loop [3] (fun i => ∃ k : Nat, k ≤ e.kids.length ∧ i = .int .i64 k ∧ Ex.condL (e.kids.take k) = true) (fun i => e.kids.length - (intOf i).toNat)
    case atStart => exact ⟨0, by omega, rfl, by simp [Ex.condL]⟩
    case round =>
      obtain ⟨k, hk, rfl, hpre⟩ := hrel
      have Hpre := Lib.hid hpre
      clear hpre
      by_cases hlt : k < e.kids.length
      · obtain ⟨f, hf⟩ : ∃ f, e.kids[k]? = some f := ⟨_, List.getElem?_eq_getElem hlt⟩
        obtain ⟨b', o', rfl⟩ := kid_some g3 (by intro h; simp [h] at hlt)
        have hat := kid_exAt g3 hf
        have hmem := Ex.sizeL_mem (List.mem_of_getElem? hf)
        have Htk := Lib.hid (Ex.condL_take_succ hf)
        have Hfl := Lib.hid (@Ex.condL_false _ _ _ hf)
        go_wp2_with fail
        refine (ih _ (by omega) f _ _ _ (Nat.le_refl _) hat).mono ?_
        rintro x w' ⟨rfl, rfl⟩
        cases hfc : f.cond
        · go_wp2_with fail
          go_ret
          exact ⟨ret_bool (by rw [Hc.out, Hfl.out hfc]), rfl⟩
        · go_wp2_with fail
          go_round
          case rel => exact ⟨k + 1, by omega, by go_num, by rw [Htk.out, Hpre.out, hfc]; rfl⟩
          case measure => simp [intOf]; omega
      · obtain rfl : k = e.kids.length := by omega
        go_wp2_with fail
        go_ret
        exact ⟨ret_bool (by have := Hpre.out; rw [List.take_length] at this; rw [Hc.out, this]), rfl⟩
  · have hc : e.cond = false := by rw [Ex.cond_eq]; simp [hk]
    rw [hc]
    by_cases hin : inB e.kind 1 7 = true
    · have b2 : (e.kind == 4) = true := by simp [condKind] at hk; simp [inB] at hin; simp; omega
      clear hk hc
      go_enter Tryz.func163, Tryz.ntmps163
      go_wp2_with ((go_at_call 93; ((with_reducible refine (in_any _ _ _ _).mono ?_); rintro e w' ⟨rfl, rfl⟩)))
      go_ret
      exact ⟨rfl, rfl⟩
    · have hin' : inB e.kind 1 7 = false := by simpa using hin
      clear hk hc hin
      go_enter Tryz.func163, Tryz.ntmps163
      go_wp2_with ((go_at_call 93; ((with_reducible refine (in_any _ _ _ _).mono ?_); rintro e w' ⟨rfl, rfl⟩)))
      go_ret
      exact ⟨rfl, rfl⟩
def CondS (N : Nat) : Prop := ∀ (k n : Int) (ks : List Ex) (s : Option Addr) (cap : Nat) (w : World), Ex.sizeL ks ≤ N → Rd w (kidsD ks) (.slice s ks.length cap) →
    Calls Tryz.prog 171 #[.agg #[.int .i64 k, .int .i64 n, .slice s ks.length cap]] w fun f w' => f = .returned (.bool (Ex.cond (.mk k n ks))) ∧ Below w.heap.size w w'
set_option maxHeartbeats 2000000 in
theorem implIsCondition_all (N : Nat) : CondS N := by
  induction N using Nat.strongRecOn with
  | _ N ih =>
  intro k0 n0 ks s cap w hN hr
  obtain ⟨-, hlen, hcap, -, -⟩ := kid_at hr
  unfold maxLen at hcap
  by_cases hk : condKind k0 = true
  · have Hc : Hid (Ex.cond (.mk k0 n0 ks) = Ex.condL ks) := by show _ = _; rw [Ex.cond_eq]; simp [Ex.kind, Ex.kids, hk]
    have hk' : k0 = 1 ∨ k0 = 2 ∨ k0 = 3 ∨ k0 = 5 ∨ k0 = 6 ∨ k0 = 7 := by simpa [condKind] using hk
    clear hk
    rcases hk' with hk' | hk' | hk' | hk' | hk' | hk'
    all_goals
      subst hk'
      go_enter Tryz.func171, Tryz.ntmps171
      go_wp2_with fail
      go_loopw [17] (fun i wr => ∃ k : Nat, k ≤ ks.length ∧ i = .int .i64 k ∧ Ex.condL (ks.take k) = true ∧ Below w.heap.size w wr) (fun i _ => ks.length - (intOf i).toNat)
      case atStart => exact ⟨0, by omega, rfl, by simp [Ex.condL], by (repeat' first | exact Below.refl _ _ | assumption | apply Below.alloc | apply Below.drew | apply Below.setCell | omega | (simp; done) | (simp; omega))⟩
      case round =>
        obtain ⟨k, hk, rfl, hpre, hB⟩ := hrel
        have hzB := hB.size
        have Hpre := Lib.hid hpre
        clear hpre
        by_cases hlt : k < ks.length
        · obtain ⟨f, hf⟩ : ∃ f, ks[k]? = some f := ⟨_, List.getElem?_eq_getElem hlt⟩
          obtain ⟨b', o', rfl⟩ := kid_some hr (by intro h; simp [h] at hlt)
          obtain ⟨-, s', c', g0, g1, g2, gr⟩ := kid_in (hr.below hB) hf
          have hN' : Ex.sizeL f.kids < N := by
            have := Ex.sizeL_mem (List.mem_of_getElem? hf)
            have := Ex.size_eq f
            omega
          have Htk := Lib.hid (Ex.condL_take_succ hf)
          have Hfl := Lib.hid (@Ex.condL_false _ _ _ hf)
          have Het : Hid (Ex.mk f.kind f.num f.kids = f) := (Ex.eta f).symm
          go_wp2_with fail
          refine (ih _ hN' _ _ _ _ _ _ (Nat.le_refl _) (gr.alloc _)).mono ?_
          rintro x w1 ⟨rfl, hb⟩
          have hB1 : Below w.heap.size w w1 := Below.on (by (repeat' first | exact Below.refl _ _ | assumption | apply Below.alloc | apply Below.drew | apply Below.setCell | omega | (simp; done) | (simp; omega))) hb (by simp; omega)
          clear hb
          rw [Het.out]
          cases hfc : f.cond
          · go_wp2_with fail
            go_ret
            exact ⟨ret_bool (by rw [Hc.out, Hfl.out hfc]), hB1⟩
          · go_wp2_with fail
            go_roundw
            case rel => exact ⟨k + 1, by omega, by go_num, by rw [Htk.out, Hpre.out, hfc]; rfl, hB1⟩
            case measure => simp [intOf]; omega
        · obtain rfl : k = ks.length := by omega
          go_wp2_with fail
          go_ret
          exact ⟨ret_bool (by have := Hpre.out; rw [List.take_length] at this; rw [Hc.out, this]), hB⟩
  · have hc : Ex.cond (.mk k0 n0 ks) = false := by rw [Ex.cond_eq]; simp [Ex.kind, hk]
    have hk' : ¬ (k0 = 1 ∨ k0 = 2 ∨ k0 = 3 ∨ k0 = 5 ∨ k0 = 6 ∨ k0 = 7) := by simpa [condKind] using hk
    have t1 : (k0 == 1) = false := by simp; omega
    have t2 : (k0 == 2) = false := by simp; omega
    have t3 : (k0 == 3) = false := by simp; omega
    have t5 : (k0 == 5) = false := by simp; omega
    have t6 : (k0 == 6) = false := by simp; omega
    have t7 : (k0 == 7) = false := by simp; omega
    rw [hc]
    clear hk hk' hc
    go_enter Tryz.func171, Tryz.ntmps171
    go_wp2_with fail
    go_ret
    exact ⟨rfl, by (repeat' first | exact Below.refl _ _ | assumption | apply Below.alloc | apply Below.drew | apply Below.setCell | omega | (simp; done) | (simp; omega))⟩
theorem implIsCondition_i {k n : Int} {ks : List Ex} {s : Option Addr} {cap : Nat} {w : World} (hr : Rd w (kidsD ks) (.slice s ks.length cap)) :
    Calls Tryz.prog 171 #[.agg #[.int .i64 k, .int .i64 n, .slice s ks.length cap]] w fun f w' => f = .returned (.bool (Ex.cond (.mk k n ks))) ∧ Below w.heap.size w w' :=
  implIsCondition_all _ k n ks s cap w (Nat.le_refl _) hr
end Go.Proofs.YtjlmdhoajfdkbaaGreatDoor

namespace Go.Proofs.YtjlmdhoajfdkbaaGreatDoor
set_option linter.unusedVariables false
set_option linter.unusedSimpArgs false
open Go.ChangeShapes Go.WideShapes Go.ChangeAt Go.RowKit
theorem info_int64 : (Tryz.prog.info? 2).map (fun i => (i.zero, i.size, i.bytes)) = some (some (.int .i64 0), 1, 8) := by kernel_rfl
end Go.Proofs.YtjlmdhoajfdkbaaGreatDoor

namespace Go.Proofs.YtjlmdhoajfdkbaaGreatDoor
set_option linter.unusedVariables false
set_option linter.unusedSimpArgs false
open Go.ChangeShapes Go.WideShapes Go.ChangeAt Go.RowKit Go.Sort
def atomsN (t : Int) : Int := if t = 0 then 1 else if t = 1 then 2 else if t = 2 then 4 else 8
theorem atomsN_bd (t : Int) : 1 ≤ atomsN t ∧ atomsN t ≤ 8 := by unfold atomsN; split <;> (try split) <;> (try split) <;> omega
theorem sigB_bd {t a : Int} (h : sigB t a = true) : 0 ≤ t ∧ t ≤ 3 ∧ 0 ≤ a ∧ a ≤ 4 := by
  simp [sigB, inB] at h
  omega
theorem within_B (n lo hi : Int) (w : World) : Calls Tryz.prog 69 #[.int .i64 n, .int .i64 lo, .int .i64 hi] w fun e w' => e = .returned (.bool (inB n lo hi)) ∧ Below w.heap.size w w' :=
  (within_any n lo hi w).mono fun _ _ ⟨h1, h2⟩ => ⟨h1, below_self h2⟩
theorem in_B (n lo hi : Int) (w : World) : Calls Tryz.prog 93 #[.int .i64 n, .int .i64 lo, .int .i64 hi] w fun e w' => e = .returned (.bool (inB n lo hi)) ∧ Below w.heap.size w w' :=
  (in_any n lo hi w).mono fun _ _ ⟨h1, h2⟩ => ⟨h1, below_self h2⟩
theorem atomsIn_i {t a : Int} {w : World} (h0 : 0 ≤ t) (h1 : t ≤ 3) : Calls Tryz.prog 85 #[.agg #[.int .i64 t, .int .i64 a]] w fun e w' => e = .returned (.int .i64 (atomsN t)) ∧ Below w.heap.size w w' := by
  have h : t = 0 ∨ t = 1 ∨ t = 2 ∨ t = 3 := by omega
  rcases h with h | h | h | h
  all_goals
    subst h
    go_enter Tryz.func85, Tryz.ntmps85
    go_wp2
    go_ret
    exact ⟨rfl, by (repeat' first | exact Below.refl _ _ | assumption | apply Below.alloc | apply Below.drew | apply Below.setCell | omega | (simp; done) | (simp; omega))⟩
theorem l01Atoms_i {t a : Int} {w : World} (h0 : 0 ≤ t) (h1 : t ≤ 3) : Calls Tryz.prog 122 #[.agg #[.int .i64 t, .int .i64 a]] w fun e w' => e = .returned (.int .i64 (atomsN t)) ∧ Below w.heap.size w w' := by
  have h : t = 0 ∨ t = 1 ∨ t = 2 ∨ t = 3 := by omega
  rcases h with h | h | h | h
  all_goals
    subst h
    go_enter Tryz.func122, Tryz.ntmps122
    go_wp2
    go_ret
    exact ⟨rfl, by (repeat' first | exact Below.refl _ _ | assumption | apply Below.alloc | apply Below.drew | apply Below.setCell | omega | (simp; done) | (simp; omega))⟩
theorem wrap_of {n : Int} (h0 : -1000000 ≤ n) (h1 : n ≤ 1000000000000000000) : IntKind.i64.wrap n = n := IntWalk.i64_in n (by omega)
end Go.Proofs.YtjlmdhoajfdkbaaGreatDoor

namespace Go.Proofs.YtjlmdhoajfdkbaaGreatDoor
set_option linter.unusedVariables false
set_option linter.unusedSimpArgs false
open Go.ChangeShapes Go.WideShapes Go.ChangeAt Go.RowKit Go.Sort
mutual
def Ex.depth : Ex → Nat
  | .mk _ _ ks => 1 + Ex.depthL ks
def Ex.depthL : List Ex → Nat
  | [] => 0
  | e :: r => max e.depth (Ex.depthL r)
end
theorem Ex.depth_eq (e : Ex) : e.depth = 1 + Ex.depthL e.kids := by cases e; simp only [Ex.depth, Ex.kids]
theorem Ex.depthL_append : ∀ a b : List Ex, Ex.depthL (a ++ b) = max (Ex.depthL a) (Ex.depthL b)
  | [], b => by simp [Ex.depthL]
  | e :: r, b => by simp only [List.cons_append, Ex.depthL, Ex.depthL_append r b]; omega
theorem Ex.depthL_take_succ {ks : List Ex} {i : Nat} {e : Ex} (h : ks[i]? = some e) : Ex.depthL (ks.take (i + 1)) = max (Ex.depthL (ks.take i)) e.depth := by
  obtain ⟨hi, rfl⟩ := List.getElem?_eq_some_iff.1 h
  rw [List.take_succ_eq_append_getElem hi, Ex.depthL_append]
  simp [Ex.depthL]
theorem Ex.depthL_mem : ∀ {ks : List Ex} {e : Ex}, e ∈ ks → e.depth ≤ Ex.depthL ks
  | [], _, h => by simp at h
  | e0 :: r, e, h => by
    simp only [Ex.depthL]
    rcases List.mem_cons.1 h with rfl | h
    · omega
    · have := Ex.depthL_mem h
      omega
mutual
theorem Ex.depth_le : ∀ e : Ex, e.depth ≤ e.size
  | .mk _ _ ks => by simp only [Ex.depth, Ex.size]; have := Ex.depthL_le ks; omega
theorem Ex.depthL_le : ∀ ks : List Ex, Ex.depthL ks ≤ Ex.sizeL ks
  | [] => by simp [Ex.depthL, Ex.sizeL]
  | e :: r => by simp only [Ex.depthL, Ex.sizeL]; have := Ex.depth_le e; have := Ex.depthL_le r; omega
end
def kidsN (k : Int) : Int := if k = 1 ∨ k = 2 ∨ k = 3 ∨ k = 4 then 0 else if k = 5 ∨ k = 8 then 1 else if k = 6 ∨ k = 7 then 2 else -1
def numB (tm am k n : Int) : Bool := if k = 3 then inB n 0 tm else if k = 4 then inB n 0 am else n == 0
def nodeB (tm am k n : Int) (ks : List Ex) : Bool := (kidsN k == (ks.length : Int)) && numB tm am k n && (k != 5 || Ex.condL ks)
mutual
def Ex.tree (tm am : Int) : Ex → Bool
  | .mk k n ks => nodeB tm am k n ks && Ex.treeL tm am ks
def Ex.treeL (tm am : Int) : List Ex → Bool
  | [] => true
  | e :: r => Ex.tree tm am e && Ex.treeL tm am r
end
theorem Ex.tree_eq (tm am : Int) (e : Ex) : e.tree tm am = (nodeB tm am e.kind e.num e.kids && Ex.treeL tm am e.kids) := by cases e; simp only [Ex.tree, Ex.kind, Ex.num, Ex.kids]
theorem Ex.treeL_append (tm am : Int) : ∀ a b : List Ex, Ex.treeL tm am (a ++ b) = (Ex.treeL tm am a && Ex.treeL tm am b)
  | [], b => by simp [Ex.treeL]
  | e :: r, b => by simp only [List.cons_append, Ex.treeL, Ex.treeL_append tm am r b, Bool.and_assoc]
theorem Ex.treeL_take_succ {tm am : Int} {ks : List Ex} {i : Nat} {e : Ex} (h : ks[i]? = some e) : Ex.treeL tm am (ks.take (i + 1)) = (Ex.treeL tm am (ks.take i) && e.tree tm am) := by
  obtain ⟨hi, rfl⟩ := List.getElem?_eq_some_iff.1 h
  rw [List.take_succ_eq_append_getElem hi, Ex.treeL_append]
  simp [Ex.treeL]
theorem Ex.treeL_false {tm am : Int} {ks : List Ex} {i : Nat} {e : Ex} (h : ks[i]? = some e) (hc : e.tree tm am = false) : Ex.treeL tm am ks = false := by
  have := Ex.treeL_append tm am (ks.take (i + 1)) (ks.drop (i + 1))
  rw [List.take_append_drop, Ex.treeL_take_succ h, hc] at this
  simpa using this
def leftF (n : Nat) (left : Int) : Int := if (n : Int) ≤ left then left - n else -1
theorem leftF_pos {n : Nat} {left : Int} (h : 0 ≤ leftF n left) : (n : Int) ≤ left ∧ leftF n left = left - n := by
  unfold leftF at h ⊢
  split at h
  · rename_i hh; exact ⟨hh, by rw [if_pos hh]⟩
  · omega
theorem leftF_neg {n : Nat} {left : Int} (h : ¬ 0 ≤ leftF n left) : left < (n : Int) ∧ leftF n left = -1 := by
  unfold leftF at h ⊢
  split at h
  · omega
  · rename_i hh; exact ⟨by omega, by rw [if_neg hh]⟩
theorem l01Left_all (N : Nat) : ∀ (e : Ex) (b o : Nat) (left : Int) (w : World), e.size ≤ N → ExAt w b o e → 0 ≤ left → left ≤ 1000000 →
    Calls Tryz.prog 119 #[.pointer (some ⟨b, o, none⟩), .int .i64 left] w fun f w' => f = .returned (.int .i64 (leftF e.size left)) ∧ w = w' := by
  induction N using Nat.strongRecOn with
  | _ N ih =>
  intro e b o left w hN hr h0 h1
  obtain ⟨_, _, s, c, g2, g3⟩ := hr
  obtain ⟨-, hlen, hcap, -, -⟩ := kid_at g3
  unfold maxLen at hcap
  have hse := Ex.size_eq e
  have hks : Ex.sizeL e.kids < N := by omega
  have Hse := Lib.hid hse
  clear hse
  go_enter Tryz.func119, Tryz.ntmps119
  go_wp2_with fail
  go_loop [1, 5] (fun l i => ∃ k : Nat, k ≤ e.kids.length ∧ i = .int .i64 k ∧ l = .int .i64 (leftF (1 + Ex.sizeL (e.kids.take k)) left)) (fun _ i => e.kids.length - (intOf i).toNat)
  case atStart => exact ⟨0, by omega, rfl, by congr 1; simp [Ex.sizeL, leftF]; omega⟩
  case round =>
    obtain ⟨k, hk, rfl, rfl⟩ := hrel
    by_cases hlt : k < e.kids.length
    · by_cases hpos : 0 ≤ leftF (1 + Ex.sizeL (e.kids.take k)) left
      · obtain ⟨p1, p2⟩ := leftF_pos hpos
        have hd : decide (0 ≤ leftF (1 + Ex.sizeL (e.kids.take k)) left) = true := by simpa using hpos
        obtain ⟨f, hf⟩ : ∃ f, e.kids[k]? = some f := ⟨_, List.getElem?_eq_getElem hlt⟩
        obtain ⟨b', o', rfl⟩ := kid_some g3 (by intro h; simp [h] at hlt)
        have hat := kid_exAt g3 hf
        have hltN : f.size < N := by
          have := Ex.sizeL_mem (List.mem_of_getElem? hf)
          omega
        have Hst : Hid (leftF f.size (leftF (1 + Ex.sizeL (e.kids.take k)) left) = leftF (1 + Ex.sizeL (e.kids.take (k + 1))) left) := by
          show _ = _
          rw [p2, Ex.sizeL_take_succ hf]
          unfold leftF
          by_cases hh : (f.size : Int) ≤ left - ((1 + Ex.sizeL (e.kids.take k) : Nat) : Int)
          · rw [if_pos hh, if_pos (by omega)]; omega
          · rw [if_neg hh, if_neg (by omega)]
        have hle : leftF (1 + Ex.sizeL (e.kids.take k)) left ≤ 1000000 := by omega
        clear p2 p1
        go_wp2_with fail
        refine (ih _ hltN f _ _ _ _ (Nat.le_refl _) hat hpos hle).mono ?_
        rintro x w' ⟨rfl, rfl⟩
        rw [Hst.out]
        go_wp2_with fail
        go_round
        case rel => exact ⟨k + 1, by omega, by go_num, rfl⟩
        case measure => simp [intOf]; omega
      · obtain ⟨p1, p2⟩ := leftF_neg hpos
        have hd : decide (0 ≤ leftF (1 + Ex.sizeL (e.kids.take k)) left) = false := by simpa using hpos
        have Hst : Hid (leftF (1 + Ex.sizeL (e.kids.take k)) left = leftF e.size left) := by
          show _ = _
          rw [p2]
          have := Ex.sizeL_take_le e.kids k
          have := Hse.out
          unfold leftF
          rw [if_neg (by omega)]
        clear p2 hpos
        go_wp2_with fail
        go_ret
        exact ⟨ret_int Hst.out, rfl⟩
    · obtain rfl : k = e.kids.length := by omega
      go_wp2_with fail
      go_ret
      exact ⟨ret_int (by rw [Hse.out]), rfl⟩
theorem l00Max_i {a b : Int} {w : World} : Calls Tryz.prog 161 #[.int .i64 a, .int .i64 b] w fun e w' => e = .returned (.int .i64 (max a b)) ∧ w = w' := by
  by_cases h : b < a
  · go_enter Tryz.func161, Tryz.ntmps161
    go_wp2_with fail
    go_ret
    exact ⟨ret_int (by omega), rfl⟩
  · go_enter Tryz.func161, Tryz.ntmps161
    go_wp2_with fail
    go_ret
    exact ⟨ret_int (by omega), rfl⟩
theorem l01Depth_all (N : Nat) : ∀ (e : Ex) (b o : Nat) (w : World), e.size ≤ N → ExAt w b o e → e.size ≤ 1073741824 →
    Calls Tryz.prog 120 #[.pointer (some ⟨b, o, none⟩)] w fun f w' => f = .returned (.int .i64 e.depth) ∧ w = w' := by
  induction N using Nat.strongRecOn with
  | _ N ih =>
  intro e b o w hN hr h1
  obtain ⟨_, _, s, c, g2, g3⟩ := hr
  obtain ⟨-, hlen, hcap, -, -⟩ := kid_at g3
  unfold maxLen at hcap
  have hse := Ex.size_eq e
  have hks : Ex.sizeL e.kids < N := by omega
  have hks' : Ex.sizeL e.kids ≤ 1073741824 := by omega
  have Hde := Lib.hid (Ex.depth_eq e)
  clear hse
  go_enter Tryz.func120, Tryz.ntmps120
  go_wp2_with fail
  go_loop [3, 4] (fun n i => ∃ k : Nat, k ≤ e.kids.length ∧ i = .int .i64 k ∧ n = .int .i64 (Ex.depthL (e.kids.take k) : Nat)) (fun _ i => e.kids.length - (intOf i).toNat)
  case atStart => exact ⟨0, by omega, rfl, by simp [Ex.depthL]⟩
  case round =>
    obtain ⟨k, hk, rfl, rfl⟩ := hrel
    have hdl := Ex.depthL_le (e.kids.take k)
    have hsl := Ex.sizeL_take_le e.kids k
    by_cases hlt : k < e.kids.length
    · obtain ⟨f, hf⟩ : ∃ f, e.kids[k]? = some f := ⟨_, List.getElem?_eq_getElem hlt⟩
      obtain ⟨b', o', rfl⟩ := kid_some g3 (by intro h; simp [h] at hlt)
      have hat := kid_exAt g3 hf
      have hmem := Ex.sizeL_mem (List.mem_of_getElem? hf)
      have Htk := Lib.hid (Ex.depthL_take_succ hf)
      go_wp2_with fail
      refine (ih _ (by omega) f _ _ _ (Nat.le_refl _) hat (by omega)).mono ?_
      rintro x w' ⟨rfl, rfl⟩
      go_wp2_with fail
      refine (l00Max_i).mono ?_
      rintro x w' ⟨rfl, rfl⟩
      go_wp2_with fail
      go_round
      case rel => exact ⟨k + 1, by omega, by go_num, by rw [Htk.out]; congr 1; omega⟩
      case measure => simp [intOf]; omega
    · obtain rfl : k = e.kids.length := by omega
      rw [List.take_length] at hdl hsl
      go_wp2_with fail
      go_ret
      exact ⟨ret_int (by rw [Hde.out]; simp; omega), rfl⟩
theorem l01Kids_i {k : Int} {w : World} : Calls Tryz.prog 162 #[.int .i64 k] w fun e w' => e = .returned (.int .i64 (kidsN k)) ∧ w = w' := by
  have h : k = 1 ∨ k = 2 ∨ k = 3 ∨ k = 4 ∨ k = 5 ∨ k = 6 ∨ k = 7 ∨ k = 8 ∨ (k < 1 ∨ 8 < k) := by omega
  rcases h with h | h | h | h | h | h | h | h | h
  case inr.inr.inr.inr.inr.inr.inr.inr =>
    have t1 : (k == 1) = false := by simp; omega
    have t2 : (k == 2) = false := by simp; omega
    have t3 : (k == 3) = false := by simp; omega
    have t4 : (k == 4) = false := by simp; omega
    have t5 : (k == 5) = false := by simp; omega
    have t6 : (k == 6) = false := by simp; omega
    have t7 : (k == 7) = false := by simp; omega
    have t8 : (k == 8) = false := by simp; omega
    have e1 : kidsN k = -1 := by unfold kidsN; rw [if_neg (by omega), if_neg (by omega), if_neg (by omega)]
    rw [e1]
    clear h
    go_enter Tryz.func162, Tryz.ntmps162
    go_wp2_with fail
    go_ret
    exact ⟨rfl, rfl⟩
  all_goals
    subst h
    go_enter Tryz.func162, Tryz.ntmps162
    go_wp2_with fail
    go_ret
    exact ⟨rfl, rfl⟩
theorem kidsOf_i {k : Int} {w : World} : Calls Tryz.prog 170 #[.int .i64 k] w fun e w' => e = .returned (.int .i64 (kidsN k)) ∧ w = w' := by
  have h : k = 1 ∨ k = 2 ∨ k = 3 ∨ k = 4 ∨ k = 5 ∨ k = 6 ∨ k = 7 ∨ k = 8 ∨ (k < 1 ∨ 8 < k) := by omega
  rcases h with h | h | h | h | h | h | h | h | h
  case inr.inr.inr.inr.inr.inr.inr.inr =>
    have t1 : (k == 1) = false := by simp; omega
    have t2 : (k == 2) = false := by simp; omega
    have t3 : (k == 3) = false := by simp; omega
    have t4 : (k == 4) = false := by simp; omega
    have t5 : (k == 5) = false := by simp; omega
    have t6 : (k == 6) = false := by simp; omega
    have t7 : (k == 7) = false := by simp; omega
    have t8 : (k == 8) = false := by simp; omega
    have e1 : kidsN k = -1 := by unfold kidsN; rw [if_neg (by omega), if_neg (by omega), if_neg (by omega)]
    rw [e1]
    clear h
    go_enter Tryz.func170, Tryz.ntmps170
    go_wp2_with fail
    go_ret
    exact ⟨rfl, rfl⟩
  all_goals
    subst h
    go_enter Tryz.func170, Tryz.ntmps170
    go_wp2_with fail
    go_ret
    exact ⟨rfl, rfl⟩
end Go.Proofs.YtjlmdhoajfdkbaaGreatDoor

namespace Go.Proofs.YtjlmdhoajfdkbaaGreatDoor
set_option linter.unusedVariables false
set_option linter.unusedSimpArgs false
open Go.ChangeShapes Go.WideShapes Go.ChangeAt Go.RowKit Go.Sort
theorem kidsN_zero {k : Int} {ks : List Ex} (h : kidsN k = (ks.length : Int)) (hk : k = 3 ∨ k = 4) : ks = [] := by
  have : kidsN k = 0 := by unfold kidsN; rw [if_pos (by omega)]
  exact List.eq_nil_of_length_eq_zero (by omega)
theorem condL_one {ks : List Ex} (h : ks.length = 1) : ∃ e, ks[0]? = some e ∧ Ex.condL ks = e.cond := by
  match ks, h with
  | [e], _ => exact ⟨e, rfl, by simp [Ex.condL]⟩
theorem kidsN_five : kidsN 5 = 1 := by unfold kidsN; rw [if_neg (by omega), if_pos (by omega)]
set_option maxHeartbeats 2000000 in
theorem l01Tree_w (t a tm am : Int) (q1 : IntKind.i64.wrap (t - 1) = tm) (q2 : IntKind.i64.wrap (a - 1) = am) (N : Nat) : ∀ (e : Ex) (b o : Nat) (w : World), e.size ≤ N → ExAt w b o e →
    Calls Tryz.prog 121 #[.agg #[.int .i64 t, .int .i64 a], .pointer (some ⟨b, o, none⟩)] w fun f w' => f = .returned (.bool (e.tree tm am)) ∧ Below w.heap.size w w' := by
  induction N using Nat.strongRecOn with
  | _ N ih =>
  intro e b o w hN hr
  have hbl := hr.lt
  have Hte := Lib.hid (Ex.tree_eq tm am e)
  have hks : Ex.sizeL e.kids < N := by have := Ex.size_eq e; omega
  have hgen : ∀ o, ExAt (w.alloc o) b _ e := fun o => hr.below (Below.alloc (Below.refl _ _) (Nat.le_refl _) o)
  go_enter Tryz.func121, Tryz.ntmps121
  go_wp2_with fail
  have L := Blk.new2 w 33 (.int .i64 t) (.int .i64 a)
  have hE := hgen (.cells #[.int .i64 t, .int .i64 a] 33)
  have hB : Below w.heap.size w (w.alloc (.cells #[.int .i64 t, .int .i64 a] 33)) := by (repeat' first | exact Below.refl _ _ | assumption | apply Below.alloc | apply Below.drew | apply Below.setCell | omega | (simp; done) | (simp; omega))
  generalize w.alloc (.cells #[.int .i64 t, .int .i64 a] 33) = w0 at L hE hB ⊢
  clear hgen hr
  have hE' := hE
  obtain ⟨g0, g1, s, c, g2, g3⟩ := hE'
  obtain ⟨-, hlen, hcap, -, -⟩ := kid_at g3
  unfold maxLen at hcap
  have gg0 := fun d os => cell_regrown g0 d os
  have gg1 := fun d os => cell_regrown g1 d os
  have gg2 := fun d os => cell_regrown g2 d os
  by_cases hk : kidsN e.kind = (e.kids.length : Int)
  rotate_left
  · have d1 : ((e.kids.length : Int) != kidsN e.kind) = true := by simp; omega
    have c2 : e.tree tm am = false := by rw [Hte.out]; simp [nodeB, hk]
    clear hk
    refine Go.wp_region_quiet_below (by kernel_rfl) (by kernel_rfl) ?_
    repeat (first | go_big_quiet_step ((exact Calls.regrown_of ((l01Kids_i).mono fun _ _ ⟨h1, h2⟩ => ⟨h1, below_self h2⟩))) | quiet_step ((exact Calls.regrown_of ((l01Kids_i).mono fun _ _ ⟨h1, h2⟩ => ⟨h1, below_self h2⟩))))
    refine wpQuiet_nil ?_; intro _ hw'; obtain ⟨⟨dq, osq⟩, hw''⟩ := hw'; subst hw''; have hq := below_regrown w0 dq osq; revert hq; generalize grow (redrawn w0 dq) osq = w1; intro hq
    replace hB := Below.on hB hq hB.size
    clear hq gg0 gg1 gg2 g0 g1 g2
    go_wp2_with fail
    go_ret
    exact ⟨by first | rfl | (rw [c2]; rfl), hB⟩
  have d1 : ((e.kids.length : Int) != kidsN e.kind) = false := by simp [hk]
  have Hk := Lib.hid hk
  clear hk
  refine Go.wp_region_quiet_below (by kernel_rfl) (by kernel_rfl) ?_
  repeat (first | go_big_quiet_step ((exact Calls.regrown_of ((l01Kids_i).mono fun _ _ ⟨h1, h2⟩ => ⟨h1, below_self h2⟩))) | quiet_step ((exact Calls.regrown_of ((l01Kids_i).mono fun _ _ ⟨h1, h2⟩ => ⟨h1, below_self h2⟩))))
  refine wpQuiet_nil ?_; intro _ hw'; obtain ⟨⟨dq, osq⟩, hw''⟩ := hw'; subst hw''; have hq := below_regrown w0 dq osq; revert hq; generalize grow (redrawn w0 dq) osq = w1; intro hq
  replace L := L.below hq
  replace hE := hE.below hq
  replace hB := Below.on hB hq hB.size
  clear hq gg0 gg1 gg2 g0 g1 g2 g3 d1
  have hE' := hE
  obtain ⟨g0, g1, s, c, g2, g3⟩ := hE'
  have gg1 := fun d os => cell_regrown g1 d os
  have gl0 := fun d os => cell_regrown L.c0 d os
  have gl1 := fun d os => cell_regrown L.c1 d os
  by_cases h3 : e.kind = 3
  · have t3 : (e.kind == 3) = true := by simp [h3]
    have hnil := kidsN_zero Hk.out (Or.inl h3)
    have c2 : e.tree tm am = inB e.num 0 tm := by
      have := Hk.out
      rw [Hte.out, hnil]
      rw [hnil] at this
      simp [nodeB, numB, h3, Ex.treeL]
      intro _
      rw [← h3]; simpa using this
    have C2 := Lib.hid c2
    clear hnil h3 c2
    go_wp2_with fail
    refine Go.wp_region_quiet_below (by kernel_rfl) (by kernel_rfl) ?_
    repeat (first | go_big_quiet_step ((exact Calls.regrown_of (in_B _ _ _ _))) | quiet_step ((exact Calls.regrown_of (in_B _ _ _ _))))
    refine wpQuiet_nil ?_; intro _ hw'; obtain ⟨⟨dq, osq⟩, hw''⟩ := hw'; subst hw''; have hq := below_regrown w1 dq osq; revert hq; generalize grow (redrawn w1 dq) osq = w2; intro hq
    replace hB := Below.on hB hq hB.size
    clear hq gg1 gl0 gl1 g0 g1 g2
    go_wp2_with fail
    go_ret
    exact ⟨ret_bool (by rw [C2.out]), hB⟩
  by_cases h4 : e.kind = 4
  · have t3 : (e.kind == 3) = false := by simp [h3]
    have t4 : (e.kind == 4) = true := by simp [h4]
    have hnil := kidsN_zero Hk.out (Or.inr h4)
    have c2 : e.tree tm am = inB e.num 0 am := by
      have := Hk.out
      rw [Hte.out, hnil]
      rw [hnil] at this
      simp [nodeB, numB, h4, Ex.treeL]
      intro _
      rw [← h4]; simpa using this
    have C2 := Lib.hid c2
    clear hnil h3 h4 c2
    go_wp2_with fail
    refine Go.wp_region_quiet_below (by kernel_rfl) (by kernel_rfl) ?_
    repeat (first | go_big_quiet_step ((exact Calls.regrown_of (in_B _ _ _ _))) | quiet_step ((exact Calls.regrown_of (in_B _ _ _ _))))
    refine wpQuiet_nil ?_; intro _ hw'; obtain ⟨⟨dq, osq⟩, hw''⟩ := hw'; subst hw''; have hq := below_regrown w1 dq osq; revert hq; generalize grow (redrawn w1 dq) osq = w2; intro hq
    replace hB := Below.on hB hq hB.size
    clear hq gg1 gl0 gl1 g0 g1 g2
    go_wp2_with fail
    go_ret
    exact ⟨ret_bool (by rw [C2.out]), hB⟩
  have t3 : (e.kind == 3) = false := by simp [h3]
  have t4 : (e.kind == 4) = false := by simp [h4]
  by_cases h0 : e.num = 0
  rotate_left
  · have t0 : (e.num != 0) = true := by simp [h0]
    have c2 : e.tree tm am = false := by rw [Hte.out]; simp [nodeB, numB, h3, h4, h0]
    clear h3 h4 h0 gg1 gl0 gl1
    go_wp2_with fail
    go_ret
    exact ⟨by first | rfl | (rw [c2]; rfl), hB⟩
  have t0 : (e.num != 0) = false := by simp [h0]
  -- the loop over the kids, where the node itself has the form
  have loop : ∀ (h5 : (e.kind != 5 || Ex.condL e.kids) = true), Hid (e.tree tm am = Ex.treeL tm am e.kids) := by
    intro h5
    have := Hk.out
    show _ = _
    rw [Hte.out]
    have hn : nodeB tm am e.kind e.num e.kids = true := by
      unfold nodeB numB
      rw [h5, if_neg h3, if_neg h4, h0, this]
      simp
    rw [hn, Bool.true_and]
  by_cases h5 : e.kind = 5
  · have t5 : (e.kind == 5) = true := by simp [h5]
    have hone : e.kids.length = 1 := by have := Hk.out; rw [h5, kidsN_five] at this; omega
    obtain ⟨f, hf, hcl⟩ := condL_one hone
    obtain ⟨b', o', rfl⟩ := kid_some g3 (by intro h; simp [h] at hone)
    have hat := kid_exAt g3 hf
    simp only [Nat.zero_mul, Nat.add_zero] at hat
    cases hfc : f.cond
    · have c2 : e.tree tm am = false := by rw [Hte.out]; simp [nodeB, h5, hcl, hfc]
      have hpos : 0 < e.kids.length := by omega
      clear h3 h4 h0 h5 hone hcl loop gg1 gl0 gl1
      go_wp2_with fail
      refine (l01Condition_all _ f _ _ _ (Nat.le_refl _) hat).mono ?_
      rintro x w' ⟨rfl, rfl⟩
      go_wp2_with fail
      go_ret
      exact ⟨by first | rfl | (rw [c2]; rfl), hB⟩
    · have Hc := loop (by rw [hcl, hfc]; simp)
      have hpos : 0 < e.kids.length := by omega
      clear h3 h4 h0 h5 hone hcl loop gg1 gl0 gl1
      go_wp2_with fail
      refine (l01Condition_all _ f _ _ _ (Nat.le_refl _) hat).mono ?_
      rintro x w' ⟨rfl, rfl⟩
      go_wp2_with fail
      go_loopw [5] (fun i wr => ∃ k : Nat, k ≤ e.kids.length ∧ i = .int .i64 k ∧ Ex.treeL tm am (e.kids.take k) = true ∧ ExAt wr b o e ∧ Blk wr w.heap.size 33 [.int .i64 t, .int .i64 a] ∧ Below w.heap.size w wr) (fun i _ => e.kids.length - (intOf i).toNat)
      case atStart => exact ⟨0, by omega, rfl, by simp [Ex.treeL], hE, L, hB⟩
      case round =>
        clear hE L hB g0 g1 g2 g3
        obtain ⟨k, hk, rfl, hpre, hE, L, hB⟩ := hrel
        have Hpre := Lib.hid hpre
        clear hpre
        have hE' := hE
        obtain ⟨g0, g1, s3, c3, g2, g3⟩ := hE'
        by_cases hlt : k < e.kids.length
        · obtain ⟨x, hx⟩ : ∃ z, e.kids[k]? = some z := ⟨_, List.getElem?_eq_getElem hlt⟩
          obtain ⟨p, q, rfl⟩ := kid_some g3 (by intro h; simp [h] at hlt)
          have hat := kid_exAt g3 hx
          have hltN : x.size < N := by
            have := Ex.sizeL_mem (List.mem_of_getElem? hx)
            omega
          have ha := Int.natCast_nonneg k
          have hb : (k : Int) < (e.kids.length : Int) := by omega
          have gg2 := fun d os => cell_regrown g2 d os
          have gl0 := fun d os => cell_regrown L.c0 d os
          have gl1 := fun d os => cell_regrown L.c1 d os
          have Htk := Lib.hid (@Ex.treeL_take_succ tm am _ _ _ hx)
          have Hfl := Lib.hid (@Ex.treeL_false tm am _ _ _ hx)
          go_wp2_with fail
          refine Go.wp_region_quiet_below (by kernel_rfl) (by kernel_rfl) ?_
          repeat (first | go_big_quiet_step ((exact Calls.regrown_of (ih _ hltN x _ _ _ (Nat.le_refl _) (hat.below (below_regrown _ _ _))))) | quiet_step ((exact Calls.regrown_of (ih _ hltN x _ _ _ (Nat.le_refl _) (hat.below (below_regrown _ _ _))))))
          refine wpQuiet_nil ?_; intro _ hw'; obtain ⟨⟨dq, osq⟩, hw''⟩ := hw'; subst hw''; have hq := below_regrown wr dq osq; revert hq; generalize grow (redrawn wr dq) osq = w9; intro hq
          replace L := L.below hq
          replace hE := hE.below hq
          replace hB := Below.on hB hq hB.size
          clear hq gg2 gl0 gl1 g0 g1 g2
          cases hz1 : x.tree tm am
          · have c2 : e.tree tm am = false := by rw [Hc.out, Hfl.out hz1]
            simp only [Bool.not_false]
            go_wp2_with fail
            go_ret
            exact ⟨by first | rfl | (rw [c2]; rfl), hB⟩
          · have Hst : Hid (Ex.treeL tm am (e.kids.take (k + 1)) = true) := by show _ = _; rw [Htk.out, Hpre.out, hz1]; rfl
            simp only [Bool.not_true]
            go_wp2_with fail
            go_roundw
            case rel => exact ⟨k + 1, by omega, by go_num, Hst.out, hE, L, hB⟩
            case measure => simp [intOf]; omega
        · obtain rfl : k = e.kids.length := by omega
          have c2 : e.tree tm am = true := by
            have := Hpre.out
            rw [List.take_length] at this
            rw [Hc.out, this]
          go_wp2_with fail
          go_ret
          exact ⟨by first | rfl | (rw [c2]; rfl), hB⟩
  · have t5 : (e.kind == 5) = false := by simp [h5]
    have Hc := loop (by simp [h5])
    clear h3 h4 h0 h5 loop gg1 gl0 gl1
    go_wp2_with fail
    go_loopw [5] (fun i wr => ∃ k : Nat, k ≤ e.kids.length ∧ i = .int .i64 k ∧ Ex.treeL tm am (e.kids.take k) = true ∧ ExAt wr b o e ∧ Blk wr w.heap.size 33 [.int .i64 t, .int .i64 a] ∧ Below w.heap.size w wr) (fun i _ => e.kids.length - (intOf i).toNat)
    case atStart => exact ⟨0, by omega, rfl, by simp [Ex.treeL], hE, L, hB⟩
    case round =>
      clear hE L hB g0 g1 g2 g3
      obtain ⟨k, hk, rfl, hpre, hE, L, hB⟩ := hrel
      have Hpre := Lib.hid hpre
      clear hpre
      have hE' := hE
      obtain ⟨g0, g1, s3, c3, g2, g3⟩ := hE'
      by_cases hlt : k < e.kids.length
      · obtain ⟨x, hx⟩ : ∃ z, e.kids[k]? = some z := ⟨_, List.getElem?_eq_getElem hlt⟩
        obtain ⟨p, q, rfl⟩ := kid_some g3 (by intro h; simp [h] at hlt)
        have hat := kid_exAt g3 hx
        have hltN : x.size < N := by
          have := Ex.sizeL_mem (List.mem_of_getElem? hx)
          omega
        have ha := Int.natCast_nonneg k
        have hb : (k : Int) < (e.kids.length : Int) := by omega
        have gg2 := fun d os => cell_regrown g2 d os
        have gl0 := fun d os => cell_regrown L.c0 d os
        have gl1 := fun d os => cell_regrown L.c1 d os
        have Htk := Lib.hid (@Ex.treeL_take_succ tm am _ _ _ hx)
        have Hfl := Lib.hid (@Ex.treeL_false tm am _ _ _ hx)
        go_wp2_with fail
        refine Go.wp_region_quiet_below (by kernel_rfl) (by kernel_rfl) ?_
        repeat (first | go_big_quiet_step ((exact Calls.regrown_of (ih _ hltN x _ _ _ (Nat.le_refl _) (hat.below (below_regrown _ _ _))))) | quiet_step ((exact Calls.regrown_of (ih _ hltN x _ _ _ (Nat.le_refl _) (hat.below (below_regrown _ _ _))))))
        refine wpQuiet_nil ?_; intro _ hw'; obtain ⟨⟨dq, osq⟩, hw''⟩ := hw'; subst hw''; have hq := below_regrown wr dq osq; revert hq; generalize grow (redrawn wr dq) osq = w9; intro hq
        replace L := L.below hq
        replace hE := hE.below hq
        replace hB := Below.on hB hq hB.size
        clear hq gg2 gl0 gl1 g0 g1 g2
        cases hz1 : x.tree tm am
        · have c2 : e.tree tm am = false := by rw [Hc.out, Hfl.out hz1]
          simp only [Bool.not_false]
          go_wp2_with fail
          go_ret
          exact ⟨by first | rfl | (rw [c2]; rfl), hB⟩
        · have Hst : Hid (Ex.treeL tm am (e.kids.take (k + 1)) = true) := by show _ = _; rw [Htk.out, Hpre.out, hz1]; rfl
          simp only [Bool.not_true]
          go_wp2_with fail
          go_roundw
          case rel => exact ⟨k + 1, by omega, by go_num, Hst.out, hE, L, hB⟩
          case measure => simp [intOf]; omega
      · obtain rfl : k = e.kids.length := by omega
        have c2 : e.tree tm am = true := by
          have := Hpre.out
          rw [List.take_length] at this
          rw [Hc.out, this]
        go_wp2_with fail
        go_ret
        exact ⟨by first | rfl | (rw [c2]; rfl), hB⟩
theorem l01Tree_all (t a : Int) (hs : sigB t a = true) (N : Nat) : ∀ (e : Ex) (b o : Nat) (w : World), e.size ≤ N → ExAt w b o e →
    Calls Tryz.prog 121 #[.agg #[.int .i64 t, .int .i64 a], .pointer (some ⟨b, o, none⟩)] w fun f w' => f = .returned (.bool (e.tree (t - 1) (a - 1))) ∧ Below w.heap.size w w' :=
  have h := sigB_bd hs
  l01Tree_w t a _ _ (wrap_of (by omega) (by omega)) (wrap_of (by omega) (by omega)) N
def okB (t a : Int) (e : Ex) : Bool := sigB t a && (decide (e.size ≤ 200) && decide (e.depth ≤ 40) && e.tree (t - 1) (a - 1))
theorem l01Ok_i {t a : Int} {e : Ex} {b o : Nat} {w : World} (hr : ExAt w b o e) (h1 : e.size ≤ 1073741824) :
    Calls Tryz.prog 62 #[.agg #[.int .i64 t, .int .i64 a], .pointer (some ⟨b, o, none⟩)] w fun f w' => f = .returned (.bool (okB t a e)) ∧ Below w.heap.size w w' := by
  go_enter Tryz.func62, Tryz.ntmps62
  go_wp2_with fail
  have L := Blk.new2 w 33 (.int .i64 t) (.int .i64 a)
  refine (l01Sig_any _ _ _).mono ?_
  rintro x w1 ⟨rfl, hb⟩
  have hB : Below w.heap.size w w1 := Below.on (by (repeat' first | exact Below.refl _ _ | assumption | apply Below.alloc | apply Below.drew | apply Below.setCell | omega | (simp; done) | (simp; omega))) hb (by simp)
  replace L := L.below hb
  clear hb
  cases hs : sigB t a
  · go_wp2_with fail
    go_ret
    exact ⟨ret_bool (by simp [okB, hs]), hB⟩
  have Hs := Lib.hid hs
  have Hok : Hid (okB t a e = (decide (e.size ≤ 200) && decide (e.depth ≤ 40) && e.tree (t - 1) (a - 1))) := by show _ = _; simp [okB, hs]
  clear hs
  go_wp2_with fail
  refine (l01Left_all _ e _ _ _ _ (Nat.le_refl _) (hr.below hB) (by omega) (by omega)).mono ?_
  rintro x w' ⟨rfl, rfl⟩
  by_cases hsz : e.size ≤ 200
  rotate_left
  · have hd : decide (0 ≤ leftF e.size 200) = false := by unfold leftF; rw [if_neg (by omega)]; rfl
    go_wp2_with fail
    go_ret
    exact ⟨ret_bool (by rw [Hok.out]; simp [hsz]), hB⟩
  have hd : decide (0 ≤ leftF e.size 200) = true := by unfold leftF; rw [if_pos (by omega)]; simp; omega
  go_wp2_with fail
  refine (l01Depth_all _ e _ _ _ (Nat.le_refl _) (hr.below hB) h1).mono ?_
  rintro x w' ⟨rfl, rfl⟩
  by_cases hdp : e.depth ≤ 40
  rotate_left
  · have hd2 : decide ((e.depth : Int) ≤ 40) = false := by simp; omega
    go_wp2_with fail
    go_ret
    exact ⟨ret_bool (by rw [Hok.out]; simp [hdp]), hB⟩
  have hd2 : decide ((e.depth : Int) ≤ 40) = true := by simp; omega
  have l0 := L.c0
  have l1 := L.c1
  go_wp2_with fail
  refine (l01Tree_all t a Hs.out _ e _ _ _ (Nat.le_refl _) (hr.below hB)).mono ?_
  rintro x w2 ⟨rfl, hb⟩
  replace hB := Below.on hB hb hB.size
  clear hb l0 l1
  go_wp2_with fail
  go_ret
  exact ⟨ret_bool (by rw [Hok.out]; simp [hsz, hdp]), hB⟩
end Go.Proofs.YtjlmdhoajfdkbaaGreatDoor

namespace Go.Proofs.YtjlmdhoajfdkbaaGreatDoor
set_option linter.unusedVariables false
set_option linter.unusedSimpArgs false
open Go.ChangeShapes Go.WideShapes Go.ChangeAt Go.RowKit Go.Sort
def shF (tm am : Int) (e : Ex) (n d : Int) : Bool := e.tree tm am && (decide ((e.size : Int) ≤ n) && decide ((e.depth : Int) ≤ d))
theorem shF_true {tm am : Int} {e : Ex} {n d : Int} : shF tm am e n d = true ↔ e.tree tm am = true ∧ (e.size : Int) ≤ n ∧ (e.depth : Int) ≤ d := by simp [shF]
theorem shF_eq {tm am k m : Int} {ks : List Ex} {n d : Int} : shF tm am (.mk k m ks) n d = (nodeB tm am k m ks && (Ex.treeL tm am ks && (decide (((Ex.mk k m ks).size : Int) ≤ n) && decide (((Ex.mk k m ks).depth : Int) ≤ d)))) := by
  simp only [shF, Ex.tree, Bool.and_assoc]
theorem shF_kid {tm am k m : Int} {ks : List Ex} {n d : Int} {i : Nat} {x : Ex} (hx : ks[i]? = some x) (h : shF tm am x (n - 1 - Ex.sizeL (ks.take i)) (d - 1) = false) : shF tm am (.mk k m ks) n d = false := by
  rw [Bool.eq_false_iff] at h ⊢
  intro hc
  apply h
  obtain ⟨h1, h2, h3⟩ := shF_true.1 hc
  simp only [Ex.tree, Ex.size, Ex.depth, Bool.and_eq_true] at h1 h2 h3
  have hm := List.mem_of_getElem? hx
  have g1 := Ex.sizeL_take_succ hx
  have g2 := Ex.sizeL_take_le ks (i + 1)
  have g3 := Ex.depthL_mem hm
  have g4 : x.tree tm am = true := by
    cases hz : x.tree tm am
    · have := @Ex.treeL_false tm am _ _ _ hx hz
      rw [this] at h1
      exact absurd h1.2 (by simp)
    · rfl
  exact shF_true.2 ⟨g4, by omega, by omega⟩
def shV (tm am : Int) (e : Ex) (n d : Int) : Value := if shF tm am e n d = true then .tuple #[.int .i64 (n - e.size), .bool true] else .tuple #[.int .i64 0, .bool false]
theorem shV_true {tm am : Int} {e : Ex} {n d : Int} (h : shF tm am e n d = true) : shV tm am e n d = .tuple #[.int .i64 (n - e.size), .bool true] := by unfold shV; rw [if_pos h]
theorem shV_false {tm am : Int} {e : Ex} {n d : Int} (h : shF tm am e n d = false) : shV tm am e n d = .tuple #[.int .i64 0, .bool false] := by unfold shV; rw [if_neg (by rw [h]; decide)]
set_option maxHeartbeats 4000000 in
theorem shaped_all (t a tm am : Int) (q1 : IntKind.i64.wrap (t - 1) = tm) (q2 : IntKind.i64.wrap (a - 1) = am) (N : Nat) :
    ∀ (k m : Int) (ks : List Ex) (s : Option Addr) (c : Nat) (n d : Int) (w : World), Ex.sizeL ks ≤ N → Rd w (kidsD ks) (.slice s ks.length c) → 0 ≤ n → n ≤ 1000000 → 0 ≤ d → d ≤ 1000000 →
    Calls Tryz.prog 140 #[.agg #[.int .i64 t, .int .i64 a], .agg #[.int .i64 k, .int .i64 m, .slice s ks.length c], .int .i64 n, .int .i64 d] w fun f w' =>
      f = .returned (shV tm am (.mk k m ks) n d) ∧ Below w.heap.size w w' := by
  induction N using Nat.strongRecOn with
  | _ N ih =>
  intro k m ks s c n d w hN hr hn0 hn1 hd0 hd1
  obtain ⟨-, hlen, hcap, -, -⟩ := kid_at hr
  unfold maxLen at hcap
  go_enter Tryz.func140, Tryz.ntmps140
  go_wp2_with fail
  have L := (Blk.new2 w 33 (.int .i64 t) (.int .i64 a)).alloc (.cells #[.int .i64 k, .int .i64 m, .slice s ks.length c] 30)
  have M := Blk.new3 (w.alloc (.cells #[.int .i64 t, .int .i64 a] 33)) 30 (.int .i64 k) (.int .i64 m) (.slice s ks.length c)
  simp at M
  have hB : Below w.heap.size w ((w.alloc (.cells #[.int .i64 t, .int .i64 a] 33)).alloc (.cells #[.int .i64 k, .int .i64 m, .slice s ks.length c] 30)) := by (repeat' first | exact Below.refl _ _ | assumption | apply Below.alloc | apply Below.drew | apply Below.setCell | omega | (simp; done) | (simp; omega))
  generalize (w.alloc (.cells #[.int .i64 t, .int .i64 a] 33)).alloc (.cells #[.int .i64 k, .int .i64 m, .slice s ks.length c] 30) = w0 at L M hB ⊢
  have gg0 := fun d os => cell_regrown M.c0 d os
  have gg1 := fun d os => cell_regrown M.c1 d os
  have gg2 := fun d os => cell_regrown M.c2 d os
  by_cases hz : n = 0
  · have d1 : (n == 0) = true := by simp [hz]
    have C2 : Hid (shV tm am (.mk k m ks) n d = .tuple #[.int .i64 0, .bool false]) := shV_false (by rw [Bool.eq_false_iff]; intro h; have := (shF_true.1 h).2.1; simp only [Ex.size] at this; omega)
    clear hz
    refine Go.wp_region_quiet_below (by kernel_rfl) (by kernel_rfl) ?_
    repeat (first | go_big_quiet_step ((exact Calls.regrown_of ((kidsOf_i).mono fun _ _ ⟨h1, h2⟩ => ⟨h1, below_self h2⟩))) | quiet_step ((exact Calls.regrown_of ((kidsOf_i).mono fun _ _ ⟨h1, h2⟩ => ⟨h1, below_self h2⟩))))
    refine wpQuiet_nil ?_; intro _ hw'; obtain ⟨⟨dq, osq⟩, hw''⟩ := hw'; subst hw''; have hq := below_regrown w0 dq osq; revert hq; generalize grow (redrawn w0 dq) osq = w1; intro hq
    replace hB := Below.on hB hq hB.size
    clear hq gg0 gg1 gg2
    go_wp2_with fail
    exact bodyPost_ret (v := .tuple #[.int .i64 0, .bool false]) (by simp [results, Tryz.results140, go_sem]) rfl ⟨by rw [C2.out], hB⟩
  have d1 : (n == 0) = false := by simp [hz]
  by_cases hz' : d = 0
  · have d2 : (d == 0) = true := by simp [hz']
    have C2 : Hid (shV tm am (.mk k m ks) n d = .tuple #[.int .i64 0, .bool false]) := shV_false (by rw [Bool.eq_false_iff]; intro h; have := (shF_true.1 h).2.2; simp only [Ex.depth] at this; omega)
    clear hz hz'
    refine Go.wp_region_quiet_below (by kernel_rfl) (by kernel_rfl) ?_
    repeat (first | go_big_quiet_step ((exact Calls.regrown_of ((kidsOf_i).mono fun _ _ ⟨h1, h2⟩ => ⟨h1, below_self h2⟩))) | quiet_step ((exact Calls.regrown_of ((kidsOf_i).mono fun _ _ ⟨h1, h2⟩ => ⟨h1, below_self h2⟩))))
    refine wpQuiet_nil ?_; intro _ hw'; obtain ⟨⟨dq, osq⟩, hw''⟩ := hw'; subst hw''; have hq := below_regrown w0 dq osq; revert hq; generalize grow (redrawn w0 dq) osq = w1; intro hq
    replace hB := Below.on hB hq hB.size
    clear hq gg0 gg1 gg2
    go_wp2_with fail
    exact bodyPost_ret (v := .tuple #[.int .i64 0, .bool false]) (by simp [results, Tryz.results140, go_sem]) rfl ⟨by rw [C2.out], hB⟩
  have d2 : (d == 0) = false := by simp [hz']
  by_cases hk : kidsN k = (ks.length : Int)
  rotate_left
  · have d3 : (kidsN k != (ks.length : Int)) = true := by simp; omega
    have C2 : Hid (shV tm am (.mk k m ks) n d = .tuple #[.int .i64 0, .bool false]) := shV_false (by rw [shF_eq]; simp [nodeB, hk])
    clear hz hz' hk
    refine Go.wp_region_quiet_below (by kernel_rfl) (by kernel_rfl) ?_
    repeat (first | go_big_quiet_step ((exact Calls.regrown_of ((kidsOf_i).mono fun _ _ ⟨h1, h2⟩ => ⟨h1, below_self h2⟩))) | quiet_step ((exact Calls.regrown_of ((kidsOf_i).mono fun _ _ ⟨h1, h2⟩ => ⟨h1, below_self h2⟩))))
    refine wpQuiet_nil ?_; intro _ hw'; obtain ⟨⟨dq, osq⟩, hw''⟩ := hw'; subst hw''; have hq := below_regrown w0 dq osq; revert hq; generalize grow (redrawn w0 dq) osq = w1; intro hq
    replace hB := Below.on hB hq hB.size
    clear hq gg0 gg1 gg2
    go_wp2_with fail
    exact bodyPost_ret (v := .tuple #[.int .i64 0, .bool false]) (by simp [results, Tryz.results140, go_sem]) rfl ⟨by rw [C2.out], hB⟩
  have d3 : (kidsN k != (ks.length : Int)) = false := by simp [hk]
  have Hk := Lib.hid hk
  clear hk
  refine Go.wp_region_quiet_below (by kernel_rfl) (by kernel_rfl) ?_
  repeat (first | go_big_quiet_step ((exact Calls.regrown_of ((kidsOf_i).mono fun _ _ ⟨h1, h2⟩ => ⟨h1, below_self h2⟩))) | quiet_step ((exact Calls.regrown_of ((kidsOf_i).mono fun _ _ ⟨h1, h2⟩ => ⟨h1, below_self h2⟩))))
  refine wpQuiet_nil ?_; intro _ hw'; obtain ⟨⟨dq, osq⟩, hw''⟩ := hw'; subst hw''; have hq := below_regrown w0 dq osq; revert hq; generalize grow (redrawn w0 dq) osq = w1; intro hq
  replace hB := Below.on hB hq hB.size
  replace L := L.below hq
  replace M := M.below hq
  clear hq gg0 gg1 gg2 d1 d2 d3
  have l0 := L.c0
  have l1 := L.c1
  have m0 := M.c0
  have m1 := M.c1
  have m2 := M.c2
  have lM := M.lt
  by_cases h3 : k = 3
  · have t3 : (k == 3) = true := by simp [h3]
    have t5 : (k == 5) = false := by simp [h3]
    have Hin : Hid (numB tm am k m = inB m 0 tm) := by show _ = _; unfold numB; rw [if_pos h3]
    have Hn0 : Hid (inB m 0 tm = true → nodeB tm am k m ks = true) := by
      intro h
      have := Hk.out
      unfold nodeB
      rw [Hin.out, h, this]
      simp [h3]
    clear h3
    go_wp2_with fail
    refine (within_any _ _ _ _).mono ?_
    rintro y w1 ⟨rfl, rfl⟩
    cases hin : inB m 0 tm
    · have C2 : Hid (shV tm am (.mk k m ks) n d = .tuple #[.int .i64 0, .bool false]) := shV_false (by rw [shF_eq]; simp [nodeB, Hin.out, hin])
      go_wp2_with fail
      exact bodyPost_ret (v := .tuple #[.int .i64 0, .bool false]) (by simp [results, Tryz.results140, go_sem]) rfl ⟨by rw [C2.out], hB⟩
    · have Hn := Lib.hid (Hn0.out hin)
      clear hin Hn0 Hin
      go_wp2_with fail
      go_loopw [2, 68] (fun l i wr => ∃ j : Nat, j ≤ ks.length ∧ i = .int .i64 j ∧ l = .int .i64 (n - 1 - Ex.sizeL (ks.take j)) ∧ Ex.treeL tm am (ks.take j) = true ∧ (Ex.depthL (ks.take j) : Int) ≤ d - 1 ∧ (Ex.sizeL (ks.take j) : Int) ≤ n - 1 ∧ Blk wr w.heap.size 33 [.int .i64 t, .int .i64 a] ∧ Below w.heap.size w wr) (fun _ i _ => ks.length - (intOf i).toNat)
      case atStart => exact ⟨0, by omega, rfl, by congr 1; simp [Ex.sizeL], by simp [Ex.treeL], by simp [Ex.depthL]; omega, by simp [Ex.sizeL]; omega, L, hB⟩
      case round =>
        clear hB L l0 l1 m0 m1 m2 M
        obtain ⟨j, hj, rfl, rfl, hpre, hdp, hszp, L, hB⟩ := hrel
        have l0 := L.c0
        have l1 := L.c1
        have lL := L.lt
        have hzB := hB.size
        have Hpre := Lib.hid hpre
        clear hpre
        by_cases hlt : j < ks.length
        · obtain ⟨x, hx⟩ : ∃ z, ks[j]? = some z := ⟨_, List.getElem?_eq_getElem hlt⟩
          obtain ⟨b', o', rfl⟩ := kid_some hr (by intro h; simp [h] at hlt)
          obtain ⟨-, s', c', g0, g1, g2, gr⟩ := kid_in (hr.below hB) hx
          have hN' : Ex.sizeL x.kids < N := by
            have := Ex.sizeL_mem (List.mem_of_getElem? hx)
            have := Ex.size_eq x
            omega
          have Het : Hid (Ex.mk x.kind x.num x.kids = x) := (Ex.eta x).symm
          have Htk := Lib.hid (@Ex.treeL_take_succ tm am _ _ _ hx)
          have Hsk := Lib.hid (Ex.sizeL_take_succ hx)
          have Hdk := Lib.hid (Ex.depthL_take_succ hx)
          have Hbad : Hid (shF tm am x (n - 1 - Ex.sizeL (ks.take j)) (d - 1) = false → shV tm am (.mk k m ks) n d = .tuple #[.int .i64 0, .bool false]) := fun h => shV_false (shF_kid hx h)
          have hn0 : 0 ≤ n - 1 - Ex.sizeL (ks.take j) := by omega
          have hd0 : 0 ≤ d - 1 := by omega
          go_wp2_with fail
          refine (ih _ hN' x.kind x.num x.kids _ _ (n - 1 - Ex.sizeL (ks.take j)) (d - 1) _ (Nat.le_refl _) (gr.alloc _) hn0 (by omega) hd0 (by omega)).mono ?_
          rintro y w1 ⟨rfl, hb⟩
          have hB1 : Below w.heap.size w w1 := Below.on (by (repeat' first | exact Below.refl _ _ | assumption | apply Below.alloc | apply Below.drew | apply Below.setCell | omega | (simp; done) | (simp; omega))) hb (by simp; omega)
          have L1 := (L.alloc (.cells #[.int .i64 x.kind, .int .i64 x.num, .slice s' x.kids.length c'] 30)).below hb
          clear hb
          rw [Het.out]
          cases hfc : shF tm am x (n - 1 - Ex.sizeL (ks.take j)) (d - 1)
          · have C2 := Lib.hid (Hbad.out hfc)
            rw [shV_false hfc]
            clear Hbad Htk Hsk Hdk hfc
            replace hB := hB1
            go_wp2_with fail
            exact bodyPost_ret (v := .tuple #[.int .i64 0, .bool false]) (by simp [results, Tryz.results140, go_sem]) rfl ⟨by rw [C2.out], hB⟩
          · have hfc' := shF_true.1 hfc
            rw [shV_true hfc]
            have Hrel : Hid (Ex.treeL tm am (ks.take (j + 1)) = true ∧ (Ex.depthL (ks.take (j + 1)) : Int) ≤ d - 1 ∧ (Ex.sizeL (ks.take (j + 1)) : Int) ≤ n - 1 ∧ n - 1 - (Ex.sizeL (ks.take j) : Int) - x.size = n - 1 - (Ex.sizeL (ks.take (j + 1)) : Nat)) := by
              obtain ⟨i1, i2, i3⟩ := hfc'
              have i4 := Hsk.out
              have i5 := Hdk.out
              exact ⟨by rw [Htk.out, Hpre.out, i1]; rfl, by omega, by omega, by omega⟩
            have Heq : Hid (n - 1 - (Ex.sizeL (ks.take j) : Int) - x.size = n - 1 - (Ex.sizeL (ks.take (j + 1)) : Nat)) := Hrel.out.2.2.2
            clear Hbad Htk Hsk Hdk hfc hfc'
            rw [Heq.out]
            go_wp2_with fail
            go_roundw
            case rel => exact ⟨j + 1, by omega, by go_num, rfl, Hrel.out.1, Hrel.out.2.1, Hrel.out.2.2.1, L1, hB1⟩
            case measure => simp [intOf]; omega
        · obtain rfl : j = ks.length := by omega
          have C2 : Hid (shV tm am (.mk k m ks) n d = .tuple #[.int .i64 (n - 1 - (Ex.sizeL (ks.take ks.length) : Nat)), .bool true]) := by
            show _ = _
            have h1 := Hpre.out
            rw [List.take_length] at h1 hdp hszp ⊢
            rw [shV_true (by rw [shF_eq, Hn.out, h1, decide_eq_true (by simp only [Ex.size]; omega), decide_eq_true (by simp only [Ex.depth]; omega)]; rfl)]
            have : n - ((Ex.mk k m ks).size : Int) = n - 1 - (Ex.sizeL ks : Nat) := by simp only [Ex.size]; omega
            rw [this]
          go_wp2_with fail
          exact bodyPost_ret (v := .tuple #[.int .i64 (n - 1 - (Ex.sizeL (ks.take ks.length) : Nat)), .bool true]) (by simp [results, Tryz.results140, go_sem]) rfl ⟨by rw [C2.out], hB⟩
  have t3 : (k == 3) = false := by simp [h3]
  by_cases h4 : k = 4
  · have t4 : (k == 4) = true := by simp [h4]
    have t5 : (k == 5) = false := by simp [h4]
    have Hin : Hid (numB tm am k m = inB m 0 am) := by show _ = _; unfold numB; rw [if_neg h3, if_pos h4]
    have Hn0 : Hid (inB m 0 am = true → nodeB tm am k m ks = true) := by
      intro h
      have := Hk.out
      unfold nodeB
      rw [Hin.out, h, this]
      simp [h4]
    clear h3 h4
    go_wp2_with fail
    refine (within_any _ _ _ _).mono ?_
    rintro y w1 ⟨rfl, rfl⟩
    cases hin : inB m 0 am
    · have C2 : Hid (shV tm am (.mk k m ks) n d = .tuple #[.int .i64 0, .bool false]) := shV_false (by rw [shF_eq]; simp [nodeB, Hin.out, hin])
      go_wp2_with fail
      exact bodyPost_ret (v := .tuple #[.int .i64 0, .bool false]) (by simp [results, Tryz.results140, go_sem]) rfl ⟨by rw [C2.out], hB⟩
    · have Hn := Lib.hid (Hn0.out hin)
      clear hin Hn0 Hin
      go_wp2_with fail
      go_loopw [2, 68] (fun l i wr => ∃ j : Nat, j ≤ ks.length ∧ i = .int .i64 j ∧ l = .int .i64 (n - 1 - Ex.sizeL (ks.take j)) ∧ Ex.treeL tm am (ks.take j) = true ∧ (Ex.depthL (ks.take j) : Int) ≤ d - 1 ∧ (Ex.sizeL (ks.take j) : Int) ≤ n - 1 ∧ Blk wr w.heap.size 33 [.int .i64 t, .int .i64 a] ∧ Below w.heap.size w wr) (fun _ i _ => ks.length - (intOf i).toNat)
      case atStart => exact ⟨0, by omega, rfl, by congr 1; simp [Ex.sizeL], by simp [Ex.treeL], by simp [Ex.depthL]; omega, by simp [Ex.sizeL]; omega, L, hB⟩
      case round =>
        clear hB L l0 l1 m0 m1 m2 M
        obtain ⟨j, hj, rfl, rfl, hpre, hdp, hszp, L, hB⟩ := hrel
        have l0 := L.c0
        have l1 := L.c1
        have lL := L.lt
        have hzB := hB.size
        have Hpre := Lib.hid hpre
        clear hpre
        by_cases hlt : j < ks.length
        · obtain ⟨x, hx⟩ : ∃ z, ks[j]? = some z := ⟨_, List.getElem?_eq_getElem hlt⟩
          obtain ⟨b', o', rfl⟩ := kid_some hr (by intro h; simp [h] at hlt)
          obtain ⟨-, s', c', g0, g1, g2, gr⟩ := kid_in (hr.below hB) hx
          have hN' : Ex.sizeL x.kids < N := by
            have := Ex.sizeL_mem (List.mem_of_getElem? hx)
            have := Ex.size_eq x
            omega
          have Het : Hid (Ex.mk x.kind x.num x.kids = x) := (Ex.eta x).symm
          have Htk := Lib.hid (@Ex.treeL_take_succ tm am _ _ _ hx)
          have Hsk := Lib.hid (Ex.sizeL_take_succ hx)
          have Hdk := Lib.hid (Ex.depthL_take_succ hx)
          have Hbad : Hid (shF tm am x (n - 1 - Ex.sizeL (ks.take j)) (d - 1) = false → shV tm am (.mk k m ks) n d = .tuple #[.int .i64 0, .bool false]) := fun h => shV_false (shF_kid hx h)
          have hn0 : 0 ≤ n - 1 - Ex.sizeL (ks.take j) := by omega
          have hd0 : 0 ≤ d - 1 := by omega
          go_wp2_with fail
          refine (ih _ hN' x.kind x.num x.kids _ _ (n - 1 - Ex.sizeL (ks.take j)) (d - 1) _ (Nat.le_refl _) (gr.alloc _) hn0 (by omega) hd0 (by omega)).mono ?_
          rintro y w1 ⟨rfl, hb⟩
          have hB1 : Below w.heap.size w w1 := Below.on (by (repeat' first | exact Below.refl _ _ | assumption | apply Below.alloc | apply Below.drew | apply Below.setCell | omega | (simp; done) | (simp; omega))) hb (by simp; omega)
          have L1 := (L.alloc (.cells #[.int .i64 x.kind, .int .i64 x.num, .slice s' x.kids.length c'] 30)).below hb
          clear hb
          rw [Het.out]
          cases hfc : shF tm am x (n - 1 - Ex.sizeL (ks.take j)) (d - 1)
          · have C2 := Lib.hid (Hbad.out hfc)
            rw [shV_false hfc]
            clear Hbad Htk Hsk Hdk hfc
            replace hB := hB1
            go_wp2_with fail
            exact bodyPost_ret (v := .tuple #[.int .i64 0, .bool false]) (by simp [results, Tryz.results140, go_sem]) rfl ⟨by rw [C2.out], hB⟩
          · have hfc' := shF_true.1 hfc
            rw [shV_true hfc]
            have Hrel : Hid (Ex.treeL tm am (ks.take (j + 1)) = true ∧ (Ex.depthL (ks.take (j + 1)) : Int) ≤ d - 1 ∧ (Ex.sizeL (ks.take (j + 1)) : Int) ≤ n - 1 ∧ n - 1 - (Ex.sizeL (ks.take j) : Int) - x.size = n - 1 - (Ex.sizeL (ks.take (j + 1)) : Nat)) := by
              obtain ⟨i1, i2, i3⟩ := hfc'
              have i4 := Hsk.out
              have i5 := Hdk.out
              exact ⟨by rw [Htk.out, Hpre.out, i1]; rfl, by omega, by omega, by omega⟩
            have Heq : Hid (n - 1 - (Ex.sizeL (ks.take j) : Int) - x.size = n - 1 - (Ex.sizeL (ks.take (j + 1)) : Nat)) := Hrel.out.2.2.2
            clear Hbad Htk Hsk Hdk hfc hfc'
            rw [Heq.out]
            go_wp2_with fail
            go_roundw
            case rel => exact ⟨j + 1, by omega, by go_num, rfl, Hrel.out.1, Hrel.out.2.1, Hrel.out.2.2.1, L1, hB1⟩
            case measure => simp [intOf]; omega
        · obtain rfl : j = ks.length := by omega
          have C2 : Hid (shV tm am (.mk k m ks) n d = .tuple #[.int .i64 (n - 1 - (Ex.sizeL (ks.take ks.length) : Nat)), .bool true]) := by
            show _ = _
            have h1 := Hpre.out
            rw [List.take_length] at h1 hdp hszp ⊢
            rw [shV_true (by rw [shF_eq, Hn.out, h1, decide_eq_true (by simp only [Ex.size]; omega), decide_eq_true (by simp only [Ex.depth]; omega)]; rfl)]
            have : n - ((Ex.mk k m ks).size : Int) = n - 1 - (Ex.sizeL ks : Nat) := by simp only [Ex.size]; omega
            rw [this]
          go_wp2_with fail
          exact bodyPost_ret (v := .tuple #[.int .i64 (n - 1 - (Ex.sizeL (ks.take ks.length) : Nat)), .bool true]) (by simp [results, Tryz.results140, go_sem]) rfl ⟨by rw [C2.out], hB⟩
  have t4 : (k == 4) = false := by simp [h4]
  have Hin : Hid (numB tm am k m = (m == 0)) := by show _ = _; unfold numB; rw [if_neg h3, if_neg h4]
  by_cases h0 : m = 0
  rotate_left
  · have t0 : (m != 0) = true := by simp [h0]
    have C2 : Hid (shV tm am (.mk k m ks) n d = .tuple #[.int .i64 0, .bool false]) := shV_false (by rw [shF_eq]; simp [nodeB, Hin.out, h0])
    clear h3 h4 h0
    go_wp2_with fail
    exact bodyPost_ret (v := .tuple #[.int .i64 0, .bool false]) (by simp [results, Tryz.results140, go_sem]) rfl ⟨by rw [C2.out], hB⟩
  have t0 : (m != 0) = false := by simp [h0]
  have Hn0 : Hid ((k != 5 || Ex.condL ks) = true → nodeB tm am k m ks = true) := by
    intro h
    have := Hk.out
    unfold nodeB
    rw [Hin.out, h, this, h0]
    simp
  by_cases h5 : k = 5
  · have t5 : (k == 5) = true := by simp [h5]
    have hone : ks.length = 1 := by have := Hk.out; rw [h5, kidsN_five] at this; omega
    obtain ⟨f, hf, hcl⟩ := condL_one hone
    obtain ⟨b', o', rfl⟩ := kid_some hr (by intro h; simp [h] at hone)
    obtain ⟨-, s', c', g0, g1, g2, gr⟩ := kid_in (hr.below hB) hf
    simp only [Nat.zero_mul, Nat.add_zero] at g0 g1 g2
    have hpos : 0 < ks.length := by omega
    have Het : Hid (Ex.mk f.kind f.num f.kids = f) := (Ex.eta f).symm
    have Hbad : Hid (f.cond = false → shV tm am (.mk k m ks) n d = .tuple #[.int .i64 0, .bool false]) := fun h => shV_false (by rw [shF_eq]; simp [nodeB, h5, hcl, h])
    have Hgood : Hid (f.cond = true → nodeB tm am k m ks = true) := fun h => Hn0.out (by rw [hcl, h]; simp)
    clear h3 h4 h0 h5 hone hcl
    go_wp2_with fail
    refine (implIsCondition_i gr).mono ?_
    rintro y w1 ⟨rfl, hb⟩
    rw [Het.out]
    replace hB := Below.on hB hb hB.size
    replace L := L.below hb
    replace M := M.below hb
    clear hb l0 l1 m0 m1 m2 lM g0 g1 g2 gr
    have l0 := L.c0
    have l1 := L.c1
    have m0 := M.c0
    have m1 := M.c1
    have m2 := M.c2
    cases hfc : f.cond
    · have C2 := Lib.hid (Hbad.out hfc)
      clear Hbad Hgood
      go_wp2_with fail
      exact bodyPost_ret (v := .tuple #[.int .i64 0, .bool false]) (by simp [results, Tryz.results140, go_sem]) rfl ⟨by rw [C2.out], hB⟩
    · have Hn := Lib.hid (Hgood.out hfc)
      clear Hbad Hgood
      go_wp2_with fail
      go_loopw [2, 68] (fun l i wr => ∃ j : Nat, j ≤ ks.length ∧ i = .int .i64 j ∧ l = .int .i64 (n - 1 - Ex.sizeL (ks.take j)) ∧ Ex.treeL tm am (ks.take j) = true ∧ (Ex.depthL (ks.take j) : Int) ≤ d - 1 ∧ (Ex.sizeL (ks.take j) : Int) ≤ n - 1 ∧ Blk wr w.heap.size 33 [.int .i64 t, .int .i64 a] ∧ Below w.heap.size w wr) (fun _ i _ => ks.length - (intOf i).toNat)
      case atStart => exact ⟨0, by omega, rfl, by congr 1; simp [Ex.sizeL], by simp [Ex.treeL], by simp [Ex.depthL]; omega, by simp [Ex.sizeL]; omega, L, hB⟩
      case round =>
        clear hB L l0 l1 m0 m1 m2 M
        obtain ⟨j, hj, rfl, rfl, hpre, hdp, hszp, L, hB⟩ := hrel
        have l0 := L.c0
        have l1 := L.c1
        have lL := L.lt
        have hzB := hB.size
        have Hpre := Lib.hid hpre
        clear hpre
        by_cases hlt : j < ks.length
        · obtain ⟨x, hx⟩ : ∃ z, ks[j]? = some z := ⟨_, List.getElem?_eq_getElem hlt⟩
          skip
          obtain ⟨-, s', c', g0, g1, g2, gr⟩ := kid_in (hr.below hB) hx
          have hN' : Ex.sizeL x.kids < N := by
            have := Ex.sizeL_mem (List.mem_of_getElem? hx)
            have := Ex.size_eq x
            omega
          have Het : Hid (Ex.mk x.kind x.num x.kids = x) := (Ex.eta x).symm
          have Htk := Lib.hid (@Ex.treeL_take_succ tm am _ _ _ hx)
          have Hsk := Lib.hid (Ex.sizeL_take_succ hx)
          have Hdk := Lib.hid (Ex.depthL_take_succ hx)
          have Hbad : Hid (shF tm am x (n - 1 - Ex.sizeL (ks.take j)) (d - 1) = false → shV tm am (.mk k m ks) n d = .tuple #[.int .i64 0, .bool false]) := fun h => shV_false (shF_kid hx h)
          have hn0 : 0 ≤ n - 1 - Ex.sizeL (ks.take j) := by omega
          have hd0 : 0 ≤ d - 1 := by omega
          go_wp2_with fail
          refine (ih _ hN' x.kind x.num x.kids _ _ (n - 1 - Ex.sizeL (ks.take j)) (d - 1) _ (Nat.le_refl _) (gr.alloc _) hn0 (by omega) hd0 (by omega)).mono ?_
          rintro y w1 ⟨rfl, hb⟩
          have hB1 : Below w.heap.size w w1 := Below.on (by (repeat' first | exact Below.refl _ _ | assumption | apply Below.alloc | apply Below.drew | apply Below.setCell | omega | (simp; done) | (simp; omega))) hb (by simp; omega)
          have L1 := (L.alloc (.cells #[.int .i64 x.kind, .int .i64 x.num, .slice s' x.kids.length c'] 30)).below hb
          clear hb
          rw [Het.out]
          cases hfc : shF tm am x (n - 1 - Ex.sizeL (ks.take j)) (d - 1)
          · have C2 := Lib.hid (Hbad.out hfc)
            rw [shV_false hfc]
            clear Hbad Htk Hsk Hdk hfc
            replace hB := hB1
            go_wp2_with fail
            exact bodyPost_ret (v := .tuple #[.int .i64 0, .bool false]) (by simp [results, Tryz.results140, go_sem]) rfl ⟨by rw [C2.out], hB⟩
          · have hfc' := shF_true.1 hfc
            rw [shV_true hfc]
            have Hrel : Hid (Ex.treeL tm am (ks.take (j + 1)) = true ∧ (Ex.depthL (ks.take (j + 1)) : Int) ≤ d - 1 ∧ (Ex.sizeL (ks.take (j + 1)) : Int) ≤ n - 1 ∧ n - 1 - (Ex.sizeL (ks.take j) : Int) - x.size = n - 1 - (Ex.sizeL (ks.take (j + 1)) : Nat)) := by
              obtain ⟨i1, i2, i3⟩ := hfc'
              have i4 := Hsk.out
              have i5 := Hdk.out
              exact ⟨by rw [Htk.out, Hpre.out, i1]; rfl, by omega, by omega, by omega⟩
            have Heq : Hid (n - 1 - (Ex.sizeL (ks.take j) : Int) - x.size = n - 1 - (Ex.sizeL (ks.take (j + 1)) : Nat)) := Hrel.out.2.2.2
            clear Hbad Htk Hsk Hdk hfc hfc'
            rw [Heq.out]
            go_wp2_with fail
            go_roundw
            case rel => exact ⟨j + 1, by omega, by go_num, rfl, Hrel.out.1, Hrel.out.2.1, Hrel.out.2.2.1, L1, hB1⟩
            case measure => simp [intOf]; omega
        · obtain rfl : j = ks.length := by omega
          have C2 : Hid (shV tm am (.mk k m ks) n d = .tuple #[.int .i64 (n - 1 - (Ex.sizeL (ks.take ks.length) : Nat)), .bool true]) := by
            show _ = _
            have h1 := Hpre.out
            rw [List.take_length] at h1 hdp hszp ⊢
            rw [shV_true (by rw [shF_eq, Hn.out, h1, decide_eq_true (by simp only [Ex.size]; omega), decide_eq_true (by simp only [Ex.depth]; omega)]; rfl)]
            have : n - ((Ex.mk k m ks).size : Int) = n - 1 - (Ex.sizeL ks : Nat) := by simp only [Ex.size]; omega
            rw [this]
          go_wp2_with fail
          exact bodyPost_ret (v := .tuple #[.int .i64 (n - 1 - (Ex.sizeL (ks.take ks.length) : Nat)), .bool true]) (by simp [results, Tryz.results140, go_sem]) rfl ⟨by rw [C2.out], hB⟩
  · have t5 : (k == 5) = false := by simp [h5]
    have Hn := Lib.hid (Hn0.out (by simp [h5]))
    clear h3 h4 h0 h5
    go_wp2_with fail
    go_loopw [2, 68] (fun l i wr => ∃ j : Nat, j ≤ ks.length ∧ i = .int .i64 j ∧ l = .int .i64 (n - 1 - Ex.sizeL (ks.take j)) ∧ Ex.treeL tm am (ks.take j) = true ∧ (Ex.depthL (ks.take j) : Int) ≤ d - 1 ∧ (Ex.sizeL (ks.take j) : Int) ≤ n - 1 ∧ Blk wr w.heap.size 33 [.int .i64 t, .int .i64 a] ∧ Below w.heap.size w wr) (fun _ i _ => ks.length - (intOf i).toNat)
    case atStart => exact ⟨0, by omega, rfl, by congr 1; simp [Ex.sizeL], by simp [Ex.treeL], by simp [Ex.depthL]; omega, by simp [Ex.sizeL]; omega, L, hB⟩
    case round =>
      clear hB L l0 l1 m0 m1 m2 M
      obtain ⟨j, hj, rfl, rfl, hpre, hdp, hszp, L, hB⟩ := hrel
      have l0 := L.c0
      have l1 := L.c1
      have lL := L.lt
      have hzB := hB.size
      have Hpre := Lib.hid hpre
      clear hpre
      by_cases hlt : j < ks.length
      · obtain ⟨x, hx⟩ : ∃ z, ks[j]? = some z := ⟨_, List.getElem?_eq_getElem hlt⟩
        obtain ⟨b', o', rfl⟩ := kid_some hr (by intro h; simp [h] at hlt)
        obtain ⟨-, s', c', g0, g1, g2, gr⟩ := kid_in (hr.below hB) hx
        have hN' : Ex.sizeL x.kids < N := by
          have := Ex.sizeL_mem (List.mem_of_getElem? hx)
          have := Ex.size_eq x
          omega
        have Het : Hid (Ex.mk x.kind x.num x.kids = x) := (Ex.eta x).symm
        have Htk := Lib.hid (@Ex.treeL_take_succ tm am _ _ _ hx)
        have Hsk := Lib.hid (Ex.sizeL_take_succ hx)
        have Hdk := Lib.hid (Ex.depthL_take_succ hx)
        have Hbad : Hid (shF tm am x (n - 1 - Ex.sizeL (ks.take j)) (d - 1) = false → shV tm am (.mk k m ks) n d = .tuple #[.int .i64 0, .bool false]) := fun h => shV_false (shF_kid hx h)
        have hn0 : 0 ≤ n - 1 - Ex.sizeL (ks.take j) := by omega
        have hd0 : 0 ≤ d - 1 := by omega
        go_wp2_with fail
        refine (ih _ hN' x.kind x.num x.kids _ _ (n - 1 - Ex.sizeL (ks.take j)) (d - 1) _ (Nat.le_refl _) (gr.alloc _) hn0 (by omega) hd0 (by omega)).mono ?_
        rintro y w1 ⟨rfl, hb⟩
        have hB1 : Below w.heap.size w w1 := Below.on (by (repeat' first | exact Below.refl _ _ | assumption | apply Below.alloc | apply Below.drew | apply Below.setCell | omega | (simp; done) | (simp; omega))) hb (by simp; omega)
        have L1 := (L.alloc (.cells #[.int .i64 x.kind, .int .i64 x.num, .slice s' x.kids.length c'] 30)).below hb
        clear hb
        rw [Het.out]
        cases hfc : shF tm am x (n - 1 - Ex.sizeL (ks.take j)) (d - 1)
        · have C2 := Lib.hid (Hbad.out hfc)
          rw [shV_false hfc]
          clear Hbad Htk Hsk Hdk hfc
          replace hB := hB1
          go_wp2_with fail
          exact bodyPost_ret (v := .tuple #[.int .i64 0, .bool false]) (by simp [results, Tryz.results140, go_sem]) rfl ⟨by rw [C2.out], hB⟩
        · have hfc' := shF_true.1 hfc
          rw [shV_true hfc]
          have Hrel : Hid (Ex.treeL tm am (ks.take (j + 1)) = true ∧ (Ex.depthL (ks.take (j + 1)) : Int) ≤ d - 1 ∧ (Ex.sizeL (ks.take (j + 1)) : Int) ≤ n - 1 ∧ n - 1 - (Ex.sizeL (ks.take j) : Int) - x.size = n - 1 - (Ex.sizeL (ks.take (j + 1)) : Nat)) := by
            obtain ⟨i1, i2, i3⟩ := hfc'
            have i4 := Hsk.out
            have i5 := Hdk.out
            exact ⟨by rw [Htk.out, Hpre.out, i1]; rfl, by omega, by omega, by omega⟩
          have Heq : Hid (n - 1 - (Ex.sizeL (ks.take j) : Int) - x.size = n - 1 - (Ex.sizeL (ks.take (j + 1)) : Nat)) := Hrel.out.2.2.2
          clear Hbad Htk Hsk Hdk hfc hfc'
          rw [Heq.out]
          go_wp2_with fail
          go_roundw
          case rel => exact ⟨j + 1, by omega, by go_num, rfl, Hrel.out.1, Hrel.out.2.1, Hrel.out.2.2.1, L1, hB1⟩
          case measure => simp [intOf]; omega
      · obtain rfl : j = ks.length := by omega
        have C2 : Hid (shV tm am (.mk k m ks) n d = .tuple #[.int .i64 (n - 1 - (Ex.sizeL (ks.take ks.length) : Nat)), .bool true]) := by
          show _ = _
          have h1 := Hpre.out
          rw [List.take_length] at h1 hdp hszp ⊢
          rw [shV_true (by rw [shF_eq, Hn.out, h1, decide_eq_true (by simp only [Ex.size]; omega), decide_eq_true (by simp only [Ex.depth]; omega)]; rfl)]
          have : n - ((Ex.mk k m ks).size : Int) = n - 1 - (Ex.sizeL ks : Nat) := by simp only [Ex.size]; omega
          rw [this]
        go_wp2_with fail
        exact bodyPost_ret (v := .tuple #[.int .i64 (n - 1 - (Ex.sizeL (ks.take ks.length) : Nat)), .bool true]) (by simp [results, Tryz.results140, go_sem]) rfl ⟨by rw [C2.out], hB⟩
theorem isExpr_w {t a k m : Int} {ks : List Ex} {s : Option Addr} {c : Nat} {w : World} (tm am : Int) (q1 : IntKind.i64.wrap (t - 1) = tm) (q2 : IntKind.i64.wrap (a - 1) = am) (hr : Rd w (kidsD ks) (.slice s ks.length c)) :
    Calls Tryz.prog 129 #[.agg #[.int .i64 t, .int .i64 a], .agg #[.int .i64 k, .int .i64 m, .slice s ks.length c]] w fun f w' =>
      f = .returned (.bool (shF tm am (.mk k m ks) 200 40)) ∧ Below w.heap.size w w' := by
  go_enter Tryz.func129, Tryz.ntmps129
  go_wp2_with fail
  refine (shaped_all t a tm am q1 q2 _ k m ks s c 200 40 _ (Nat.le_refl _) ((hr.alloc _).alloc _) (by omega) (by omega) (by omega) (by omega)).mono ?_
  rintro x w1 ⟨rfl, hb⟩
  have hB : Below w.heap.size w w1 := Below.on (by (repeat' first | exact Below.refl _ _ | assumption | apply Below.alloc | apply Below.drew | apply Below.setCell | omega | (simp; done) | (simp; omega))) hb (by simp; omega)
  clear hb
  cases h : shF tm am (.mk k m ks) 200 40
  · rw [shV_false h]
    go_wp2_with fail
    go_ret
    exact ⟨ret_bool (by rw [h]), hB⟩
  · rw [shV_true h]
    go_wp2_with fail
    go_ret
    exact ⟨ret_bool (by rw [h]), hB⟩
theorem okB_sh {t a : Int} {e : Ex} (h : sigB t a = true) : shF (t - 1) (a - 1) e 200 40 = okB t a e := by
  unfold shF okB
  rw [h, Bool.true_and, Bool.and_comm, Bool.eq_iff_iff]
  simp
  intros
  omega
theorem isExpr_i {t a k m : Int} {ks : List Ex} {s : Option Addr} {c : Nat} {w : World} (hs : sigB t a = true) (hr : Rd w (kidsD ks) (.slice s ks.length c)) :
    Calls Tryz.prog 129 #[.agg #[.int .i64 t, .int .i64 a], .agg #[.int .i64 k, .int .i64 m, .slice s ks.length c]] w fun f w' =>
      f = .returned (.bool (okB t a (.mk k m ks))) ∧ Below w.heap.size w w' := by
  obtain ⟨ht0, ht1, ha0, ha1⟩ := sigB_bd hs
  have := isExpr_w (t - 1) (a - 1) (wrap_of (by omega) (by omega)) (wrap_of (by omega) (by omega)) hr (t := t) (a := a) (k := k) (m := m)
  rw [okB_sh hs] at this
  exact this
theorem implValidExpr_i {t a k n : Int} {ks : List Ex} {s : Option Addr} {c : Nat} {w : World} (hr : Rd w (kidsD ks) (.slice s ks.length c)) :
    Calls Tryz.prog 67 #[.agg #[.int .i64 t, .int .i64 a], .agg #[.int .i64 k, .int .i64 n, .slice s ks.length c]] w fun e w' => e = .returned (.bool (okB t a (.mk k n ks))) ∧ Below w.heap.size w w' := by
  go_enter Tryz.func67, Tryz.ntmps67
  go_wp2_with fail
  have L := (Blk.new2 w 33 (.int .i64 t) (.int .i64 a)).alloc (.cells #[.int .i64 k, .int .i64 n, .slice s ks.length c] 30)
  have M := Blk.new3 (w.alloc (.cells #[.int .i64 t, .int .i64 a] 33)) 30 (.int .i64 k) (.int .i64 n) (.slice s ks.length c)
  simp at M
  refine (implValidSig_any _ _ _).mono ?_
  rintro x w1 ⟨rfl, hb⟩
  have hB : Below w.heap.size w w1 := Below.on (by (repeat' first | exact Below.refl _ _ | assumption | apply Below.alloc | apply Below.drew | apply Below.setCell | omega | (simp; done) | (simp; omega))) hb (by simp; omega)
  replace L := L.below hb
  replace M := M.below hb
  clear hb
  cases hs : sigB t a
  · go_wp2_with fail
    go_ret
    exact ⟨ret_bool (by simp [okB, hs]), hB⟩
  · have l0 := L.c0
    have l1 := L.c1
    have m0 := M.c0
    have m1 := M.c1
    have m2 := M.c2
    have Hs := Lib.hid hs
    clear hs
    go_wp2_with fail
    refine (isExpr_i Hs.out (hr.below hB)).mono ?_
    rintro x w2 ⟨rfl, hb⟩
    replace hB := Below.on hB hb hB.size
    clear hb
    go_wp2_with fail
    go_ret
    exact ⟨rfl, hB⟩
end Go.Proofs.YtjlmdhoajfdkbaaGreatDoor

namespace Go.Proofs.YtjlmdhoajfdkbaaGreatDoor
set_option linter.unusedVariables false
set_option linter.unusedSimpArgs false
open Go.ChangeShapes Go.WideShapes Go.ChangeAt Go.RowKit Go.Sort
def bitB (atom n : Int) : Bool := (atom / 2 ^ n.toNat) % 2 == 1
def truC (atom k n : Int) (bs : List Bool) : Bool :=
  if k = 2 then true else if k = 3 then bitB atom n else if k = 5 then !(bs.getD 0 false) else if k = 6 then (bs.getD 0 false || bs.getD 1 false) else if k = 7 then (bs.getD 0 false && bs.getD 1 false) else false
mutual
def Ex.tru (atom : Int) : Ex → Bool
  | .mk k n ks => truC atom k n (Ex.truL atom ks)
def Ex.truL (atom : Int) : List Ex → List Bool
  | [] => []
  | e :: r => Ex.tru atom e :: Ex.truL atom r
end
def empC (atom k n : Int) (ks : List Ex) (bs : List Bool) : Bool :=
  if k = 2 ∨ k = 8 then true else if k = 3 ∨ k = 5 then truC atom k n (Ex.truL atom ks) else if k = 6 then (bs.getD 0 false || bs.getD 1 false) else if k = 7 then (bs.getD 0 false && bs.getD 1 false) else false
mutual
def Ex.emp (atom : Int) : Ex → Bool
  | .mk k n ks => empC atom k n ks (Ex.empL atom ks)
def Ex.empL (atom : Int) : List Ex → List Bool
  | [] => []
  | e :: r => Ex.emp atom e :: Ex.empL atom r
end
theorem Ex.treeL_mem {tm am : Int} : ∀ {ks : List Ex} {x : Ex}, Ex.treeL tm am ks = true → x ∈ ks → x.tree tm am = true
  | [], _, _, h => by simp at h
  | e :: r, x, ht, h => by
    simp only [Ex.treeL, Bool.and_eq_true] at ht
    rcases List.mem_cons.1 h with rfl | h
    · exact ht.1
    · exact Ex.treeL_mem ht.2 h
theorem Ex.condL_mem : ∀ {ks : List Ex} {x : Ex}, Ex.condL ks = true → x ∈ ks → x.cond = true
  | [], _, _, h => by simp at h
  | e :: r, x, ht, h => by
    simp only [Ex.condL, Bool.and_eq_true] at ht
    rcases List.mem_cons.1 h with rfl | h
    · exact ht.1
    · exact Ex.condL_mem ht.2 h
theorem tree_parts {tm am k n : Int} {ks : List Ex} (h : Ex.tree tm am (.mk k n ks) = true) : kidsN k = (ks.length : Int) ∧ numB tm am k n = true ∧ (k = 5 → Ex.condL ks = true) ∧ Ex.treeL tm am ks = true := by
  simp only [Ex.tree, nodeB, Bool.and_eq_true, beq_iff_eq, Bool.or_eq_true, bne_iff_ne] at h
  refine ⟨h.1.1.1, h.1.1.2, fun hk => ?_, h.2⟩
  rcases h.1.2 with h | h
  · exact absurd hk h
  · exact h
theorem two_kids {k : Int} {ks : List Ex} (h : kidsN k = (ks.length : Int)) (hk : k = 6 ∨ k = 7) : ∃ x y, ks = [x, y] := by
  have : kidsN k = 2 := by unfold kidsN; rw [if_neg (by omega), if_neg (by omega), if_pos (by omega)]
  match ks, h with
  | [x, y], _ => exact ⟨x, y, rfl⟩
  | [], h => simp at h; omega
  | [x], h => simp at h; omega
  | x :: y :: z :: r, h => simp at h; omega
theorem one_kid {k : Int} {ks : List Ex} (h : kidsN k = (ks.length : Int)) (hk : k = 5 ∨ k = 8) : ∃ x, ks = [x] := by
  have : kidsN k = 1 := by unfold kidsN; rw [if_neg (by omega), if_pos (by omega)]
  match ks, h with
  | [x], _ => exact ⟨x, rfl⟩
  | [], h => simp at h; omega
  | x :: y :: r, h => simp at h; omega
theorem numB_test {tm am n : Int} (h : numB tm am 3 n = true) : 0 ≤ n ∧ n ≤ tm := by
  simp [numB, inB] at h
  omega
set_option maxHeartbeats 4000000 in
theorem truth_all (tm am atom : Int) (ht : tm ≤ 2) (h0 : 0 ≤ atom) (h7 : atom ≤ 7) (N : Nat) : ∀ (k n : Int) (ks : List Ex) (s : Option Addr) (c : Nat) (w : World), Ex.sizeL ks ≤ N → Rd w (kidsD ks) (.slice s ks.length c) →
    Ex.tree tm am (.mk k n ks) = true → Ex.cond (.mk k n ks) = true →
    Calls Tryz.prog 144 #[.agg #[.int .i64 k, .int .i64 n, .slice s ks.length c], .int .i64 atom] w fun f w' => f = .returned (.bool (Ex.tru atom (.mk k n ks))) ∧ Below w.heap.size w w' := by
  induction N using Nat.strongRecOn with
  | _ N ih =>
  intro k n ks s c w hN hr htr hc
  obtain ⟨hk, hnum, -, htl⟩ := tree_parts htr
  rw [Ex.cond_eq] at hc
  simp only [Ex.kind, Ex.kids, Bool.and_eq_true] at hc
  obtain ⟨hck, hcl⟩ := hc
  have hk' : k = 1 ∨ k = 2 ∨ k = 3 ∨ k = 5 ∨ k = 6 ∨ k = 7 := by simpa [condKind] using hck
  clear hck htr
  rcases hk' with rfl | rfl | rfl | rfl | rfl | rfl
  · have e : Ex.tru atom (.mk 1 n ks) = false := by simp [Ex.tru, truC]
    rw [e]
    clear hk hnum htl hcl e
    go_enter Tryz.func144, Tryz.ntmps144
    go_wp2_with fail
    go_ret
    exact ⟨rfl, by (repeat' first | exact Below.refl _ _ | assumption | apply Below.alloc | apply Below.drew | apply Below.setCell | omega | (simp; done) | (simp; omega))⟩
  · have e : Ex.tru atom (.mk 2 n ks) = true := by simp [Ex.tru, truC]
    rw [e]
    clear hk hnum htl hcl e
    go_enter Tryz.func144, Tryz.ntmps144
    go_wp2_with fail
    go_ret
    exact ⟨rfl, by (repeat' first | exact Below.refl _ _ | assumption | apply Below.alloc | apply Below.drew | apply Below.setCell | omega | (simp; done) | (simp; omega))⟩
  · have e : Ex.tru atom (.mk 3 n ks) = bitB atom n := by simp [Ex.tru, truC]
    obtain ⟨n0, n1⟩ := numB_test hnum
    rw [e]
    clear hk hnum htl hcl e
    have hn : n = 0 ∨ n = 1 ∨ n = 2 := by omega
    have ha : atom = 0 ∨ atom = 1 ∨ atom = 2 ∨ atom = 3 ∨ atom = 4 ∨ atom = 5 ∨ atom = 6 ∨ atom = 7 := by omega
    clear ih
    rcases hn with rfl | rfl | rfl <;> rcases ha with rfl | rfl | rfl | rfl | rfl | rfl | rfl | rfl
    all_goals
      go_enter Tryz.func144, Tryz.ntmps144
      go_wp2
      go_ret
      exact ⟨rfl, by (repeat' first | exact Below.refl _ _ | assumption | apply Below.alloc | apply Below.drew | apply Below.setCell | omega | (simp; done) | (simp; omega))⟩
  · obtain ⟨x, rfl⟩ := one_kid hk (by omega)
    have hx : [x][0]? = some x := rfl
    obtain ⟨b', o', rfl⟩ := kid_some hr (by simp)
    have e : Ex.tru atom (.mk 5 n [x]) = !(Ex.tru atom (.mk x.kind x.num x.kids)) := by rw [← Ex.eta x]; simp [Ex.tru, Ex.truL, truC]
    have hxt : Ex.tree tm am (.mk x.kind x.num x.kids) = true := by rw [← Ex.eta x]; exact Ex.treeL_mem htl (by simp)
    have hxc : Ex.cond (.mk x.kind x.num x.kids) = true := by rw [← Ex.eta x]; exact Ex.condL_mem hcl (by simp)
    have hxs : Ex.sizeL x.kids < N := by have := Ex.size_eq x; simp only [Ex.sizeL] at hN; omega
    rw [e]
    clear hk hnum htl hcl e
    obtain ⟨hbl, s', c', g0, g1, g2, gr⟩ := kid_in hr hx
    simp only [Nat.zero_mul, Nat.add_zero] at g0 g1 g2
    go_enter Tryz.func144, Tryz.ntmps144
    go_wp2_with fail
    refine (ih _ hxs _ _ _ _ _ _ (Nat.le_refl _) (gr.alloc _) hxt hxc).mono ?_
    rintro y w1 ⟨rfl, hb⟩
    have hB : Below w.heap.size w w1 := Below.on (by (repeat' first | exact Below.refl _ _ | assumption | apply Below.alloc | apply Below.drew | apply Below.setCell | omega | (simp; done) | (simp; omega))) hb (by simp)
    go_wp2_with fail
    go_ret
    exact ⟨rfl, hB⟩
  · obtain ⟨x, y, rfl⟩ := two_kids hk (by omega)
    have hx : [x, y][0]? = some x := rfl
    have hy : [x, y][1]? = some y := rfl
    obtain ⟨b', o', rfl⟩ := kid_some hr (by simp)
    have e : Ex.tru atom (.mk 6 n [x, y]) = or (Ex.tru atom (.mk x.kind x.num x.kids)) (Ex.tru atom (.mk y.kind y.num y.kids)) := by rw [← Ex.eta x, ← Ex.eta y]; simp [Ex.tru, Ex.truL, truC]
    have hxt : Ex.tree tm am (.mk x.kind x.num x.kids) = true := by rw [← Ex.eta x]; exact Ex.treeL_mem htl (by simp)
    have hyt : Ex.tree tm am (.mk y.kind y.num y.kids) = true := by rw [← Ex.eta y]; exact Ex.treeL_mem htl (by simp)
    have hxc : Ex.cond (.mk x.kind x.num x.kids) = true ∧ Ex.cond (.mk y.kind y.num y.kids) = true := ⟨by rw [← Ex.eta x]; exact Ex.condL_mem hcl (by simp), by rw [← Ex.eta y]; exact Ex.condL_mem hcl (by simp)⟩
    have hxs : Ex.sizeL x.kids < N := by have := Ex.size_eq x; simp only [Ex.sizeL] at hN; omega
    have hys : Ex.sizeL y.kids < N := by have := Ex.size_eq y; simp only [Ex.sizeL] at hN; omega
    rw [e]
    clear hk hnum htl hcl e
    obtain ⟨hbl, s', c', g0, g1, g2, gr⟩ := kid_in hr hx
    obtain ⟨-, s2, c2, k0, k1, k2, kr⟩ := kid_in hr hy
    simp only [Nat.zero_mul, Nat.add_zero] at g0 g1 g2
    simp only [Nat.one_mul] at k0 k1 k2
    have L := Blk.new3 w 30 (.int .i64 6) (.int .i64 n) (.slice (some ⟨b', o', none⟩) 2 c)
    go_enter Tryz.func144, Tryz.ntmps144
    go_wp2_with fail
    refine (ih _ hxs _ _ _ _ _ _ (Nat.le_refl _) (gr.alloc _) hxt hxc.1).mono ?_
    rintro z w1 ⟨rfl, hb⟩
    have hB : Below w.heap.size w w1 := Below.on (by (repeat' first | exact Below.refl _ _ | assumption | apply Below.alloc | apply Below.drew | apply Below.setCell | omega | (simp; done) | (simp; omega))) hb (by simp)
    replace L := L.below hb
    have l2 := L.c2
    have k0' := (hB.cell (p := ⟨b', o' + 3, none⟩) hbl).trans k0
    have k1' := (hB.cell (p := ⟨b', o' + 3 + 1, none⟩) hbl).trans k1
    have k2' := (hB.cell (p := ⟨b', o' + 3 + 2, none⟩) hbl).trans k2
    clear k0 k1 k2 g0 g1 g2 hb
    cases h1 : Ex.tru atom (.mk x.kind x.num x.kids)
    all_goals
      go_wp2_with fail
      first
        | (refine (ih _ hys _ _ _ _ _ _ (Nat.le_refl _) (kr.below hB) hyt hxc.2).mono ?_
           rintro z w2 ⟨rfl, hb⟩
           replace hB := Below.on hB hb hB.size
           go_wp2_with fail
           go_ret
           exact ⟨ret_bool (by simp [h1]), hB⟩)
        | (go_ret
           exact ⟨ret_bool (by simp [h1]), hB⟩)
  · obtain ⟨x, y, rfl⟩ := two_kids hk (by omega)
    have hx : [x, y][0]? = some x := rfl
    have hy : [x, y][1]? = some y := rfl
    obtain ⟨b', o', rfl⟩ := kid_some hr (by simp)
    have e : Ex.tru atom (.mk 7 n [x, y]) = and (Ex.tru atom (.mk x.kind x.num x.kids)) (Ex.tru atom (.mk y.kind y.num y.kids)) := by rw [← Ex.eta x, ← Ex.eta y]; simp [Ex.tru, Ex.truL, truC]
    have hxt : Ex.tree tm am (.mk x.kind x.num x.kids) = true := by rw [← Ex.eta x]; exact Ex.treeL_mem htl (by simp)
    have hyt : Ex.tree tm am (.mk y.kind y.num y.kids) = true := by rw [← Ex.eta y]; exact Ex.treeL_mem htl (by simp)
    have hxc : Ex.cond (.mk x.kind x.num x.kids) = true ∧ Ex.cond (.mk y.kind y.num y.kids) = true := ⟨by rw [← Ex.eta x]; exact Ex.condL_mem hcl (by simp), by rw [← Ex.eta y]; exact Ex.condL_mem hcl (by simp)⟩
    have hxs : Ex.sizeL x.kids < N := by have := Ex.size_eq x; simp only [Ex.sizeL] at hN; omega
    have hys : Ex.sizeL y.kids < N := by have := Ex.size_eq y; simp only [Ex.sizeL] at hN; omega
    rw [e]
    clear hk hnum htl hcl e
    obtain ⟨hbl, s', c', g0, g1, g2, gr⟩ := kid_in hr hx
    obtain ⟨-, s2, c2, k0, k1, k2, kr⟩ := kid_in hr hy
    simp only [Nat.zero_mul, Nat.add_zero] at g0 g1 g2
    simp only [Nat.one_mul] at k0 k1 k2
    have L := Blk.new3 w 30 (.int .i64 7) (.int .i64 n) (.slice (some ⟨b', o', none⟩) 2 c)
    go_enter Tryz.func144, Tryz.ntmps144
    go_wp2_with fail
    refine (ih _ hxs _ _ _ _ _ _ (Nat.le_refl _) (gr.alloc _) hxt hxc.1).mono ?_
    rintro z w1 ⟨rfl, hb⟩
    have hB : Below w.heap.size w w1 := Below.on (by (repeat' first | exact Below.refl _ _ | assumption | apply Below.alloc | apply Below.drew | apply Below.setCell | omega | (simp; done) | (simp; omega))) hb (by simp)
    replace L := L.below hb
    have l2 := L.c2
    have k0' := (hB.cell (p := ⟨b', o' + 3, none⟩) hbl).trans k0
    have k1' := (hB.cell (p := ⟨b', o' + 3 + 1, none⟩) hbl).trans k1
    have k2' := (hB.cell (p := ⟨b', o' + 3 + 2, none⟩) hbl).trans k2
    clear k0 k1 k2 g0 g1 g2 hb
    cases h1 : Ex.tru atom (.mk x.kind x.num x.kids)
    all_goals
      go_wp2_with fail
      first
        | (refine (ih _ hys _ _ _ _ _ _ (Nat.le_refl _) (kr.below hB) hyt hxc.2).mono ?_
           rintro z w2 ⟨rfl, hb⟩
           replace hB := Below.on hB hb hB.size
           go_wp2_with fail
           go_ret
           exact ⟨ret_bool (by simp [h1]), hB⟩)
        | (go_ret
           exact ⟨ret_bool (by simp [h1]), hB⟩)
set_option maxHeartbeats 4000000 in
theorem l01True_all (tm am atom : Int) (ht : tm ≤ 2) (h0 : 0 ≤ atom) (h7 : atom ≤ 7) (N : Nat) : ∀ (e : Ex) (b o : Nat) (w : World), e.size ≤ N → ExAt w b o e → e.tree tm am = true → e.cond = true →
    Calls Tryz.prog 164 #[.pointer (some ⟨b, o, none⟩), .int .i64 atom] w fun f w' => f = .returned (.bool (e.tru atom)) ∧ w = w' := by
  induction N using Nat.strongRecOn with
  | _ N ih =>
  intro e b o w hN hr htr hc
  obtain ⟨k, n, ks⟩ := e
  obtain ⟨g0, g1, s, c, g2, hr⟩ := hr
  simp only [Ex.kind, Ex.num, Ex.kids] at g0 g1 g2 hr
  obtain ⟨hk, hnum, -, htl⟩ := tree_parts htr
  rw [Ex.cond_eq] at hc
  simp only [Ex.kind, Ex.kids, Bool.and_eq_true] at hc
  obtain ⟨hck, hcl⟩ := hc
  have hk' : k = 1 ∨ k = 2 ∨ k = 3 ∨ k = 5 ∨ k = 6 ∨ k = 7 := by simpa [condKind] using hck
  clear hck htr
  rcases hk' with rfl | rfl | rfl | rfl | rfl | rfl
  · have e : Ex.tru atom (.mk 1 n ks) = false := by simp [Ex.tru, truC]
    rw [e]
    clear hk hnum htl hcl e
    go_enter Tryz.func164, Tryz.ntmps164
    go_wp2_with fail
    go_ret
    exact ⟨rfl, rfl⟩
  · have e : Ex.tru atom (.mk 2 n ks) = true := by simp [Ex.tru, truC]
    rw [e]
    clear hk hnum htl hcl e
    go_enter Tryz.func164, Tryz.ntmps164
    go_wp2_with fail
    go_ret
    exact ⟨rfl, rfl⟩
  · have e : Ex.tru atom (.mk 3 n ks) = bitB atom n := by simp [Ex.tru, truC]
    obtain ⟨n0, n1⟩ := numB_test hnum
    rw [e]
    clear hk hnum htl hcl e
    have hn : n = 0 ∨ n = 1 ∨ n = 2 := by omega
    have ha : atom = 0 ∨ atom = 1 ∨ atom = 2 ∨ atom = 3 ∨ atom = 4 ∨ atom = 5 ∨ atom = 6 ∨ atom = 7 := by omega
    clear ih
    rcases hn with rfl | rfl | rfl <;> rcases ha with rfl | rfl | rfl | rfl | rfl | rfl | rfl | rfl
    all_goals
      go_enter Tryz.func164, Tryz.ntmps164
      go_wp2
      go_ret
      exact ⟨rfl, rfl⟩
  · obtain ⟨x, rfl⟩ := one_kid hk (by omega)
    have hx : [x][0]? = some x := rfl
    obtain ⟨b', o', rfl⟩ := kid_some hr (by simp)
    have e : Ex.tru atom (.mk 5 n [x]) = !(Ex.tru atom x) := by simp [Ex.tru, Ex.truL, truC]
    have hxt : Ex.tree tm am x = true := Ex.treeL_mem htl (by simp)
    have hxc : Ex.cond x = true := Ex.condL_mem hcl (by simp)
    have hxs : x.size < N := by simp only [Ex.size, Ex.sizeL] at hN; omega
    have hax := kid_exAt hr hx
    simp only [Nat.zero_mul, Nat.add_zero] at hax
    obtain ⟨-, hlen, hcap, -, -⟩ := kid_at hr
    unfold maxLen at hcap
    simp only [List.length_cons, List.length_nil] at hlen
    rw [e]
    clear hk hnum htl hcl e
    go_enter Tryz.func164, Tryz.ntmps164
    go_wp2_with fail
    refine (ih _ hxs x _ _ _ (Nat.le_refl _) hax hxt hxc).mono ?_
    rintro y w' ⟨rfl, rfl⟩
    go_wp2_with fail
    go_ret
    exact ⟨rfl, rfl⟩
  · obtain ⟨x, y, rfl⟩ := two_kids hk (by omega)
    have hx : [x, y][0]? = some x := rfl
    have hy : [x, y][1]? = some y := rfl
    obtain ⟨b', o', rfl⟩ := kid_some hr (by simp)
    have e : Ex.tru atom (.mk 6 n [x, y]) = or (Ex.tru atom x) (Ex.tru atom y) := by simp [Ex.tru, Ex.truL, truC]
    have hxt : Ex.tree tm am x = true := Ex.treeL_mem htl (by simp)
    have hyt : Ex.tree tm am y = true := Ex.treeL_mem htl (by simp)
    have hxc : Ex.cond x = true ∧ Ex.cond y = true := ⟨Ex.condL_mem hcl (by simp), Ex.condL_mem hcl (by simp)⟩
    have hxs : x.size < N := by simp only [Ex.size, Ex.sizeL] at hN; omega
    have hys : y.size < N := by simp only [Ex.size, Ex.sizeL] at hN; omega
    have hax := kid_exAt hr hx
    have hay := kid_exAt hr hy
    simp only [Nat.zero_mul, Nat.one_mul, Nat.add_zero] at hax hay
    obtain ⟨-, hlen, hcap, -, -⟩ := kid_at hr
    unfold maxLen at hcap
    simp only [List.length_cons, List.length_nil] at hlen
    rw [e]
    clear hk hnum htl hcl e
    go_enter Tryz.func164, Tryz.ntmps164
    go_wp2_with fail
    refine (ih _ hxs x _ _ _ (Nat.le_refl _) hax hxt hxc.1).mono ?_
    rintro z w' ⟨rfl, rfl⟩
    cases h1 : Ex.tru atom x
    all_goals
      go_wp2_with fail
      first
        | (refine (ih _ hys y _ _ _ (Nat.le_refl _) hay hyt hxc.2).mono ?_
           rintro z w' ⟨rfl, rfl⟩
           go_wp2_with fail
           go_ret
           exact ⟨ret_bool (by simp [h1]), rfl⟩)
        | (go_ret
           exact ⟨ret_bool (by simp [h1]), rfl⟩)
  · obtain ⟨x, y, rfl⟩ := two_kids hk (by omega)
    have hx : [x, y][0]? = some x := rfl
    have hy : [x, y][1]? = some y := rfl
    obtain ⟨b', o', rfl⟩ := kid_some hr (by simp)
    have e : Ex.tru atom (.mk 7 n [x, y]) = and (Ex.tru atom x) (Ex.tru atom y) := by simp [Ex.tru, Ex.truL, truC]
    have hxt : Ex.tree tm am x = true := Ex.treeL_mem htl (by simp)
    have hyt : Ex.tree tm am y = true := Ex.treeL_mem htl (by simp)
    have hxc : Ex.cond x = true ∧ Ex.cond y = true := ⟨Ex.condL_mem hcl (by simp), Ex.condL_mem hcl (by simp)⟩
    have hxs : x.size < N := by simp only [Ex.size, Ex.sizeL] at hN; omega
    have hys : y.size < N := by simp only [Ex.size, Ex.sizeL] at hN; omega
    have hax := kid_exAt hr hx
    have hay := kid_exAt hr hy
    simp only [Nat.zero_mul, Nat.one_mul, Nat.add_zero] at hax hay
    obtain ⟨-, hlen, hcap, -, -⟩ := kid_at hr
    unfold maxLen at hcap
    simp only [List.length_cons, List.length_nil] at hlen
    rw [e]
    clear hk hnum htl hcl e
    go_enter Tryz.func164, Tryz.ntmps164
    go_wp2_with fail
    refine (ih _ hxs x _ _ _ (Nat.le_refl _) hax hxt hxc.1).mono ?_
    rintro z w' ⟨rfl, rfl⟩
    cases h1 : Ex.tru atom x
    all_goals
      go_wp2_with fail
      first
        | (refine (ih _ hys y _ _ _ (Nat.le_refl _) hay hyt hxc.2).mono ?_
           rintro z w' ⟨rfl, rfl⟩
           go_wp2_with fail
           go_ret
           exact ⟨ret_bool (by simp [h1]), rfl⟩)
        | (go_ret
           exact ⟨ret_bool (by simp [h1]), rfl⟩)
theorem okB_sig {t a : Int} {e : Ex} (h : okB t a e = true) : sigB t a = true := by simp only [okB, Bool.and_eq_true] at h; exact h.1
theorem okB_tree {t a : Int} {e : Ex} (h : okB t a e = true) : e.tree (t - 1) (a - 1) = true := by simp only [okB, Bool.and_eq_true] at h; exact h.2.2
end Go.Proofs.YtjlmdhoajfdkbaaGreatDoor

namespace Go.Proofs.YtjlmdhoajfdkbaaGreatDoor
set_option linter.unusedVariables false
set_option linter.unusedSimpArgs false
open Go.ChangeShapes Go.WideShapes Go.ChangeAt Go.RowKit Go.Sort
theorem kind_cases {k : Int} {n : Nat} (h : kidsN k = (n : Int)) : k = 1 ∨ k = 2 ∨ k = 3 ∨ k = 4 ∨ k = 5 ∨ k = 6 ∨ k = 7 ∨ k = 8 := by
  by_cases hk : k = 1 ∨ k = 2 ∨ k = 3 ∨ k = 4 ∨ k = 5 ∨ k = 6 ∨ k = 7 ∨ k = 8
  · exact hk
  · exfalso
    unfold kidsN at h
    rw [if_neg (by omega), if_neg (by omega), if_neg (by omega)] at h
    omega
set_option maxHeartbeats 4000000 in
theorem emptyAt_all (tm am atom : Int) (ht : tm ≤ 2) (h0 : 0 ≤ atom) (h7 : atom ≤ 7) (N : Nat) : ∀ (k n : Int) (ks : List Ex) (s : Option Addr) (c : Nat) (w : World), Ex.sizeL ks ≤ N → Rd w (kidsD ks) (.slice s ks.length c) →
    Ex.tree tm am (.mk k n ks) = true →
    Calls Tryz.prog 86 #[.agg #[.int .i64 k, .int .i64 n, .slice s ks.length c], .int .i64 atom] w fun f w' => f = .returned (.bool (Ex.emp atom (.mk k n ks))) ∧ Below w.heap.size w w' := by
  induction N using Nat.strongRecOn with
  | _ N ih =>
  intro k n ks s c w hN hr htr
  obtain ⟨hk, hnum, hc, htl⟩ := tree_parts htr
  rcases kind_cases hk with rfl | rfl | rfl | rfl | rfl | rfl | rfl | rfl
  · have e : Ex.emp atom (.mk 1 n ks) = false := by simp [Ex.emp, empC]
    rw [e]
    clear hk hnum htl e hc
    go_enter Tryz.func86, Tryz.ntmps86
    go_wp2_with fail
    go_ret
    exact ⟨rfl, by (repeat' first | exact Below.refl _ _ | assumption | apply Below.alloc | apply Below.drew | apply Below.setCell | omega | (simp; done) | (simp; omega))⟩
  · have e : Ex.emp atom (.mk 2 n ks) = true := by simp [Ex.emp, empC]
    rw [e]
    clear hk hnum htl e hc
    go_enter Tryz.func86, Tryz.ntmps86
    go_wp2_with fail
    go_ret
    exact ⟨rfl, by (repeat' first | exact Below.refl _ _ | assumption | apply Below.alloc | apply Below.drew | apply Below.setCell | omega | (simp; done) | (simp; omega))⟩
  · have e : Ex.emp atom (.mk 3 n ks) = Ex.tru atom (.mk 3 n ks) := by simp [Ex.emp, empC, Ex.tru]
    have hcc : Ex.cond (.mk 3 n ks) = true := by rw [Ex.cond_eq]; simp [Ex.kind, Ex.kids, condKind, kidsN_zero hk (by omega), Ex.condL]
    rw [e]
    clear hk hnum htl e hc
    go_enter Tryz.func86, Tryz.ntmps86
    go_wp2_with fail
    refine (truth_all tm am atom ht h0 h7 _ _ _ _ _ _ _ (Nat.le_refl _) (hr.alloc _) htr hcc).mono ?_
    rintro y w1 ⟨rfl, hb⟩
    have hB : Below w.heap.size w w1 := Below.on (by (repeat' first | exact Below.refl _ _ | assumption | apply Below.alloc | apply Below.drew | apply Below.setCell | omega | (simp; done) | (simp; omega))) hb (by simp)
    go_wp2_with fail
    go_ret
    exact ⟨rfl, hB⟩
  · have e : Ex.emp atom (.mk 4 n ks) = false := by simp [Ex.emp, empC]
    rw [e]
    clear hk hnum htl e hc
    go_enter Tryz.func86, Tryz.ntmps86
    go_wp2_with fail
    go_ret
    exact ⟨rfl, by (repeat' first | exact Below.refl _ _ | assumption | apply Below.alloc | apply Below.drew | apply Below.setCell | omega | (simp; done) | (simp; omega))⟩
  · have e : Ex.emp atom (.mk 5 n ks) = Ex.tru atom (.mk 5 n ks) := by simp [Ex.emp, empC, Ex.tru]
    have hcc : Ex.cond (.mk 5 n ks) = true := by rw [Ex.cond_eq]; simp [Ex.kind, Ex.kids, condKind, hc rfl]
    rw [e]
    clear hk hnum htl e hc
    go_enter Tryz.func86, Tryz.ntmps86
    go_wp2_with fail
    refine (truth_all tm am atom ht h0 h7 _ _ _ _ _ _ _ (Nat.le_refl _) (hr.alloc _) htr hcc).mono ?_
    rintro y w1 ⟨rfl, hb⟩
    have hB : Below w.heap.size w w1 := Below.on (by (repeat' first | exact Below.refl _ _ | assumption | apply Below.alloc | apply Below.drew | apply Below.setCell | omega | (simp; done) | (simp; omega))) hb (by simp)
    go_wp2_with fail
    go_ret
    exact ⟨rfl, hB⟩
  · obtain ⟨x, y, rfl⟩ := two_kids hk (by omega)
    have hx : [x, y][0]? = some x := rfl
    have hy : [x, y][1]? = some y := rfl
    obtain ⟨b', o', rfl⟩ := kid_some hr (by simp)
    have e : Ex.emp atom (.mk 6 n [x, y]) = or (Ex.emp atom (.mk x.kind x.num x.kids)) (Ex.emp atom (.mk y.kind y.num y.kids)) := by rw [← Ex.eta x, ← Ex.eta y]; simp [Ex.emp, Ex.empL, empC]
    have hxt : Ex.tree tm am (.mk x.kind x.num x.kids) = true := by rw [← Ex.eta x]; exact Ex.treeL_mem htl (by simp)
    have hyt : Ex.tree tm am (.mk y.kind y.num y.kids) = true := by rw [← Ex.eta y]; exact Ex.treeL_mem htl (by simp)
    skip
    have hxs : Ex.sizeL x.kids < N := by have := Ex.size_eq x; simp only [Ex.sizeL] at hN; omega
    have hys : Ex.sizeL y.kids < N := by have := Ex.size_eq y; simp only [Ex.sizeL] at hN; omega
    rw [e]
    clear hk hnum htl hc htr e
    obtain ⟨hbl, s', c', g0, g1, g2, gr⟩ := kid_in hr hx
    obtain ⟨-, s2, c2, k0, k1, k2, kr⟩ := kid_in hr hy
    simp only [Nat.zero_mul, Nat.add_zero] at g0 g1 g2
    simp only [Nat.one_mul] at k0 k1 k2
    have L := Blk.new3 w 30 (.int .i64 6) (.int .i64 n) (.slice (some ⟨b', o', none⟩) 2 c)
    go_enter Tryz.func86, Tryz.ntmps86
    go_wp2_with fail
    refine (ih _ hxs _ _ _ _ _ _ (Nat.le_refl _) (gr.alloc _) hxt ).mono ?_
    rintro z w1 ⟨rfl, hb⟩
    have hB : Below w.heap.size w w1 := Below.on (by (repeat' first | exact Below.refl _ _ | assumption | apply Below.alloc | apply Below.drew | apply Below.setCell | omega | (simp; done) | (simp; omega))) hb (by simp)
    replace L := L.below hb
    have l2 := L.c2
    have k0' := (hB.cell (p := ⟨b', o' + 3, none⟩) hbl).trans k0
    have k1' := (hB.cell (p := ⟨b', o' + 3 + 1, none⟩) hbl).trans k1
    have k2' := (hB.cell (p := ⟨b', o' + 3 + 2, none⟩) hbl).trans k2
    clear k0 k1 k2 g0 g1 g2 hb
    cases h1 : Ex.emp atom (.mk x.kind x.num x.kids)
    all_goals
      go_wp2_with fail
      first
        | (refine (ih _ hys _ _ _ _ _ _ (Nat.le_refl _) (kr.below hB) hyt ).mono ?_
           rintro z w2 ⟨rfl, hb⟩
           replace hB := Below.on hB hb hB.size
           go_wp2_with fail
           go_ret
           exact ⟨ret_bool (by simp [h1]), hB⟩)
        | (go_ret
           exact ⟨ret_bool (by simp [h1]), hB⟩)
  · obtain ⟨x, y, rfl⟩ := two_kids hk (by omega)
    have hx : [x, y][0]? = some x := rfl
    have hy : [x, y][1]? = some y := rfl
    obtain ⟨b', o', rfl⟩ := kid_some hr (by simp)
    have e : Ex.emp atom (.mk 7 n [x, y]) = and (Ex.emp atom (.mk x.kind x.num x.kids)) (Ex.emp atom (.mk y.kind y.num y.kids)) := by rw [← Ex.eta x, ← Ex.eta y]; simp [Ex.emp, Ex.empL, empC]
    have hxt : Ex.tree tm am (.mk x.kind x.num x.kids) = true := by rw [← Ex.eta x]; exact Ex.treeL_mem htl (by simp)
    have hyt : Ex.tree tm am (.mk y.kind y.num y.kids) = true := by rw [← Ex.eta y]; exact Ex.treeL_mem htl (by simp)
    skip
    have hxs : Ex.sizeL x.kids < N := by have := Ex.size_eq x; simp only [Ex.sizeL] at hN; omega
    have hys : Ex.sizeL y.kids < N := by have := Ex.size_eq y; simp only [Ex.sizeL] at hN; omega
    rw [e]
    clear hk hnum htl hc htr e
    obtain ⟨hbl, s', c', g0, g1, g2, gr⟩ := kid_in hr hx
    obtain ⟨-, s2, c2, k0, k1, k2, kr⟩ := kid_in hr hy
    simp only [Nat.zero_mul, Nat.add_zero] at g0 g1 g2
    simp only [Nat.one_mul] at k0 k1 k2
    have L := Blk.new3 w 30 (.int .i64 7) (.int .i64 n) (.slice (some ⟨b', o', none⟩) 2 c)
    go_enter Tryz.func86, Tryz.ntmps86
    go_wp2_with fail
    refine (ih _ hxs _ _ _ _ _ _ (Nat.le_refl _) (gr.alloc _) hxt ).mono ?_
    rintro z w1 ⟨rfl, hb⟩
    have hB : Below w.heap.size w w1 := Below.on (by (repeat' first | exact Below.refl _ _ | assumption | apply Below.alloc | apply Below.drew | apply Below.setCell | omega | (simp; done) | (simp; omega))) hb (by simp)
    replace L := L.below hb
    have l2 := L.c2
    have k0' := (hB.cell (p := ⟨b', o' + 3, none⟩) hbl).trans k0
    have k1' := (hB.cell (p := ⟨b', o' + 3 + 1, none⟩) hbl).trans k1
    have k2' := (hB.cell (p := ⟨b', o' + 3 + 2, none⟩) hbl).trans k2
    clear k0 k1 k2 g0 g1 g2 hb
    cases h1 : Ex.emp atom (.mk x.kind x.num x.kids)
    all_goals
      go_wp2_with fail
      first
        | (refine (ih _ hys _ _ _ _ _ _ (Nat.le_refl _) (kr.below hB) hyt ).mono ?_
           rintro z w2 ⟨rfl, hb⟩
           replace hB := Below.on hB hb hB.size
           go_wp2_with fail
           go_ret
           exact ⟨ret_bool (by simp [h1]), hB⟩)
        | (go_ret
           exact ⟨ret_bool (by simp [h1]), hB⟩)
  · have e : Ex.emp atom (.mk 8 n ks) = true := by simp [Ex.emp, empC]
    rw [e]
    clear hk hnum htl e hc
    go_enter Tryz.func86, Tryz.ntmps86
    go_wp2_with fail
    go_ret
    exact ⟨rfl, by (repeat' first | exact Below.refl _ _ | assumption | apply Below.alloc | apply Below.drew | apply Below.setCell | omega | (simp; done) | (simp; omega))⟩
theorem kidsN_none {k : Int} {ks : List Ex} (h : kidsN k = (ks.length : Int)) (hk : k = 1 ∨ k = 2 ∨ k = 3 ∨ k = 4) : ks = [] := by
  unfold kidsN at h; rw [if_pos hk] at h; exact List.eq_nil_of_length_eq_zero (by omega)
set_option maxHeartbeats 4000000 in
theorem l02Empty_all (tm am atom : Int) (ht : tm ≤ 2) (h0 : 0 ≤ atom) (h7 : atom ≤ 7) (N : Nat) : ∀ (e : Ex) (b o : Nat) (w : World), e.size ≤ N → ExAt w b o e → e.tree tm am = true →
    Calls Tryz.prog 126 #[.pointer (some ⟨b, o, none⟩), .int .i64 atom] w fun f w' => f = .returned (.bool (e.emp atom)) ∧ w = w' := by
  induction N using Nat.strongRecOn with
  | _ N ih =>
  intro e b o w hN hr htr
  obtain ⟨k, n, ks⟩ := e
  obtain ⟨g0, g1, s, c, g2, hr⟩ := hr
  simp only [Ex.kind, Ex.num, Ex.kids] at g0 g1 g2 hr
  obtain ⟨hk, hnum, hc, htl⟩ := tree_parts htr
  rcases kind_cases hk with rfl | rfl | rfl | rfl | rfl | rfl | rfl | rfl
  · have e : Ex.emp atom (.mk 1 n ks) = Ex.tru atom (.mk 1 n ks) := by simp [Ex.emp, empC, Ex.tru, truC]
    have hcc : Ex.cond (.mk 1 n ks) = true := by rw [Ex.cond_eq]; simp [Ex.kind, Ex.kids, condKind, kidsN_none hk (by omega), Ex.condL]
    rw [e]
    clear hk hnum htl e hc
    have hat : ExAt w b o (.mk 1 n ks) := ⟨g0, g1, s, c, g2, hr⟩
    go_enter Tryz.func126, Tryz.ntmps126
    go_wp2_with fail
    refine (l01True_all tm am atom ht h0 h7 _ _ _ _ _ (Nat.le_refl _) hat htr hcc).mono ?_
    rintro y w' ⟨rfl, rfl⟩
    go_wp2_with fail
    go_ret
    exact ⟨rfl, rfl⟩
  · have e : Ex.emp atom (.mk 2 n ks) = Ex.tru atom (.mk 2 n ks) := by simp [Ex.emp, empC, Ex.tru, truC]
    have hcc : Ex.cond (.mk 2 n ks) = true := by rw [Ex.cond_eq]; simp [Ex.kind, Ex.kids, condKind, kidsN_none hk (by omega), Ex.condL]
    rw [e]
    clear hk hnum htl e hc
    have hat : ExAt w b o (.mk 2 n ks) := ⟨g0, g1, s, c, g2, hr⟩
    go_enter Tryz.func126, Tryz.ntmps126
    go_wp2_with fail
    refine (l01True_all tm am atom ht h0 h7 _ _ _ _ _ (Nat.le_refl _) hat htr hcc).mono ?_
    rintro y w' ⟨rfl, rfl⟩
    go_wp2_with fail
    go_ret
    exact ⟨rfl, rfl⟩
  · have e : Ex.emp atom (.mk 3 n ks) = Ex.tru atom (.mk 3 n ks) := by simp [Ex.emp, empC, Ex.tru, truC]
    have hcc : Ex.cond (.mk 3 n ks) = true := by rw [Ex.cond_eq]; simp [Ex.kind, Ex.kids, condKind, kidsN_none hk (by omega), Ex.condL]
    rw [e]
    clear hk hnum htl e hc
    have hat : ExAt w b o (.mk 3 n ks) := ⟨g0, g1, s, c, g2, hr⟩
    go_enter Tryz.func126, Tryz.ntmps126
    go_wp2_with fail
    refine (l01True_all tm am atom ht h0 h7 _ _ _ _ _ (Nat.le_refl _) hat htr hcc).mono ?_
    rintro y w' ⟨rfl, rfl⟩
    go_wp2_with fail
    go_ret
    exact ⟨rfl, rfl⟩
  · have e : Ex.emp atom (.mk 4 n ks) = false := by simp [Ex.emp, empC]
    rw [e]
    clear hk hnum htl e hc
    go_enter Tryz.func126, Tryz.ntmps126
    go_wp2_with fail
    go_ret
    exact ⟨rfl, rfl⟩
  · have e : Ex.emp atom (.mk 5 n ks) = Ex.tru atom (.mk 5 n ks) := by simp [Ex.emp, empC, Ex.tru, truC]
    have hcc : Ex.cond (.mk 5 n ks) = true := by rw [Ex.cond_eq]; simp [Ex.kind, Ex.kids, condKind, hc rfl]
    rw [e]
    clear hk hnum htl e hc
    have hat : ExAt w b o (.mk 5 n ks) := ⟨g0, g1, s, c, g2, hr⟩
    go_enter Tryz.func126, Tryz.ntmps126
    go_wp2_with fail
    refine (l01True_all tm am atom ht h0 h7 _ _ _ _ _ (Nat.le_refl _) hat htr hcc).mono ?_
    rintro y w' ⟨rfl, rfl⟩
    go_wp2_with fail
    go_ret
    exact ⟨rfl, rfl⟩
  · obtain ⟨x, y, rfl⟩ := two_kids hk (by omega)
    have hx : [x, y][0]? = some x := rfl
    have hy : [x, y][1]? = some y := rfl
    obtain ⟨b', o', rfl⟩ := kid_some hr (by simp)
    have e : Ex.emp atom (.mk 6 n [x, y]) = or (Ex.emp atom x) (Ex.emp atom y) := by simp [Ex.emp, Ex.empL, empC]
    have hxt : Ex.tree tm am x = true := Ex.treeL_mem htl (by simp)
    have hyt : Ex.tree tm am y = true := Ex.treeL_mem htl (by simp)
    skip
    have hxs : x.size < N := by simp only [Ex.size, Ex.sizeL] at hN; omega
    have hys : y.size < N := by simp only [Ex.size, Ex.sizeL] at hN; omega
    have hax := kid_exAt hr hx
    have hay := kid_exAt hr hy
    simp only [Nat.zero_mul, Nat.one_mul, Nat.add_zero] at hax hay
    obtain ⟨-, hlen, hcap, -, -⟩ := kid_at hr
    unfold maxLen at hcap
    simp only [List.length_cons, List.length_nil] at hlen
    rw [e]
    clear hk hnum htl hc htr e
    go_enter Tryz.func126, Tryz.ntmps126
    go_wp2_with fail
    refine (ih _ hxs x _ _ _ (Nat.le_refl _) hax hxt ).mono ?_
    rintro z w' ⟨rfl, rfl⟩
    cases h1 : Ex.emp atom x
    all_goals
      go_wp2_with fail
      first
        | (refine (ih _ hys y _ _ _ (Nat.le_refl _) hay hyt ).mono ?_
           rintro z w' ⟨rfl, rfl⟩
           go_wp2_with fail
           go_ret
           exact ⟨ret_bool (by simp [h1]), rfl⟩)
        | (go_ret
           exact ⟨ret_bool (by simp [h1]), rfl⟩)
  · obtain ⟨x, y, rfl⟩ := two_kids hk (by omega)
    have hx : [x, y][0]? = some x := rfl
    have hy : [x, y][1]? = some y := rfl
    obtain ⟨b', o', rfl⟩ := kid_some hr (by simp)
    have e : Ex.emp atom (.mk 7 n [x, y]) = and (Ex.emp atom x) (Ex.emp atom y) := by simp [Ex.emp, Ex.empL, empC]
    have hxt : Ex.tree tm am x = true := Ex.treeL_mem htl (by simp)
    have hyt : Ex.tree tm am y = true := Ex.treeL_mem htl (by simp)
    skip
    have hxs : x.size < N := by simp only [Ex.size, Ex.sizeL] at hN; omega
    have hys : y.size < N := by simp only [Ex.size, Ex.sizeL] at hN; omega
    have hax := kid_exAt hr hx
    have hay := kid_exAt hr hy
    simp only [Nat.zero_mul, Nat.one_mul, Nat.add_zero] at hax hay
    obtain ⟨-, hlen, hcap, -, -⟩ := kid_at hr
    unfold maxLen at hcap
    simp only [List.length_cons, List.length_nil] at hlen
    rw [e]
    clear hk hnum htl hc htr e
    go_enter Tryz.func126, Tryz.ntmps126
    go_wp2_with fail
    refine (ih _ hxs x _ _ _ (Nat.le_refl _) hax hxt ).mono ?_
    rintro z w' ⟨rfl, rfl⟩
    cases h1 : Ex.emp atom x
    all_goals
      go_wp2_with fail
      first
        | (refine (ih _ hys y _ _ _ (Nat.le_refl _) hay hyt ).mono ?_
           rintro z w' ⟨rfl, rfl⟩
           go_wp2_with fail
           go_ret
           exact ⟨ret_bool (by simp [h1]), rfl⟩)
        | (go_ret
           exact ⟨ret_bool (by simp [h1]), rfl⟩)
  · have e : Ex.emp atom (.mk 8 n ks) = true := by simp [Ex.emp, empC]
    rw [e]
    clear hk hnum htl e hc
    go_enter Tryz.func126, Tryz.ntmps126
    go_wp2_with fail
    go_ret
    exact ⟨rfl, rfl⟩
end Go.Proofs.YtjlmdhoajfdkbaaGreatDoor
