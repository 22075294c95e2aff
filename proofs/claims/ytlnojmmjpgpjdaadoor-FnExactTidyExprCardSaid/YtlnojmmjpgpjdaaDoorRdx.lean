/-
  What is read without the blocks of X: it stays while all other blocks stay. Results of calls that share memory with their arguments.
-/
import Derived.Test.YtlnojmmjpgpjdaaDoorRs
import Derived.Test.YtlnojmmjpgpjdaaDoorAps
import Derived.Test.YtlnojmmjpgpjdaaDoorExpr
namespace Go.Proofs.YtlnojmmjpgpjdaaDoor
open Go.ChangeShapes Go.WideShapes Go.ChangeAt Go.RowKit Go.Deep

/-- Blocks of w outside X stay. -/
def KeptX (X : Nat → Prop) (w w' : World) : Prop := w.heap.size ≤ w'.heap.size ∧ ∀ b, b < w.heap.size → ¬ X b → w'.heap[b]? = w.heap[b]?
theorem KeptX.refl (X : Nat → Prop) (w : World) : KeptX X w w := ⟨Nat.le_refl _, fun _ _ _ => rfl⟩
theorem KeptX.trans {X : Nat → Prop} {a b c : World} (h : KeptX X a b) (k : KeptX X b c) : KeptX X a c :=
  ⟨Nat.le_trans h.1 k.1, fun i hi hx => (k.2 i (Nat.lt_of_lt_of_le hi h.1) hx).trans (h.2 i hi hx)⟩
theorem KeptX.of_below {X : Nat → Prop} {w w' : World} (h : Below w.heap.size w w') : KeptX X w w' := ⟨h.size, fun b hb _ => h.block b hb⟩
theorem KeptX.of_spares {X Y : Nat → Prop} {w w' : World} (h : Spares Y w w') (hY : ∀ b, b < w.heap.size → Y b → X b) : KeptX X w w' := ⟨h.size, fun b hb hx => h.block b hb fun hy => hx (hY b hb hy)⟩
theorem KeptX.more {X Y : Nat → Prop} {w w' : World} (h : KeptX X w w') (hs : ∀ b, b < w.heap.size → X b → Y b) : KeptX Y w w' := ⟨h.1, fun b hb hy => h.2 b hb fun hx => hy (hs b hb hx)⟩
theorem KeptX.set {X : Nat → Prop} {w w' : World} (h : KeptX X w w') {b o : Nat} (hb : X b) (v : Value) : KeptX X w (w'.setCell ⟨b, o, none⟩ v) :=
  h.trans ⟨by simp [World.setCell], fun k _ hk => Below.heap_setCell _ _ _ _ (fun e => hk (by rw [e]; exact hb))⟩
theorem KeptX.alloc {X : Nat → Prop} {w w' : World} (h : KeptX X w w') (o : Obj) : KeptX X w (w'.alloc o) := h.trans (KeptX.of_below (Below.alloc (Below.refl _ _) (Nat.le_refl _) o))
theorem KeptX.drew {X : Nat → Prop} {w w' : World} (h : KeptX X w w') : KeptX X w w'.drew := h

/-- The value reads as the datum, without a look at the blocks of X. -/
def RdX (X : Nat → Prop) (w : World) (d : D) (v : Value) : Prop := ∀ w', KeptX X w w' → Rd w' d v
theorem RdX.rd {X : Nat → Prop} {w : World} {d : D} {v : Value} (h : RdX X w d v) : Rd w d v := h w (KeptX.refl X w)
theorem RdX.keep {X : Nat → Prop} {w w' : World} {d : D} {v : Value} (h : RdX X w d v) (hk : KeptX X w w') : RdX X w' d v := fun _ k => h _ (hk.trans k)
theorem RdX.below {X : Nat → Prop} {w w' : World} {d : D} {v : Value} (h : RdX X w d v) (hb : Below w.heap.size w w') : RdX X w' d v := h.keep (KeptX.of_below hb)
theorem RdX.less {X Y : Nat → Prop} {w : World} {d : D} {v : Value} (h : RdX X w d v) (hs : ∀ b, b < w.heap.size → Y b → X b) : RdX Y w d v := fun w' k => h w' (k.more hs)
theorem RdX.of_rd {X : Nat → Prop} {w : World} {d : D} {v : Value} (h : Rd w d v) (hX : ∀ b, X b → w.heap.size ≤ b) : RdX X w d v := fun _ k => h.keep fun b hb => k.2 b hb fun hx => by have := hX b hx; omega
theorem RdX.all {w : World} {d : D} {v : Value} (h : Rd w d v) : RdX (fun _ => False) w d v := RdX.of_rd h fun _ h => h.elim
theorem RdX.nil {X : Nat → Prop} {w : World} {size : Nat} : RdX X w (.sl size 0 []) (.slice Option.none 0 0) := fun _ _ => by simp only [Rd]; exact ⟨Option.none, 0, rfl, Nat.le_refl _, by unfold maxLen; omega, by simp, fun _ => rfl, Or.inl trivial⟩
/-- What lies in blocks of its own. -/
theorem RdX.fresh {X : Nat → Prop} {w w' : World} {d : D} {v : Value} (h : Freshs w w' [d] [v]) (hX : ∀ b, X b → b < w.heap.size) : RdX X w' d v := by
  obtain ⟨F, h1, h2, h3⟩ := h
  intro w2 k
  exact Rds.one (h1.keep fun b hb => k.2 b (h1.lt b hb) fun hx => by have := h3 b hb; have := hX b hx; omega).rds

/-- In a region that began at W0: what lies in old blocks (outside X) and in those of F. -/
def RdO (W0 : World) (X F : Nat → Prop) (w : World) (d : D) (v : Value) : Prop :=
  ∀ w', w.heap.size ≤ w'.heap.size → KeptX X W0 w' → (∀ b, b < w.heap.size → F b → w'.heap[b]? = w.heap[b]?) → Rd w' d v
theorem RdO.keep {W0 : World} {X F F' : Nat → Prop} {w w' : World} {d : D} {v : Value} (h : RdO W0 X F w d v) (hz : w.heap.size ≤ w'.heap.size) (hk : ∀ b, b < w.heap.size → F b → w'.heap[b]? = w.heap[b]?) (hF : ∀ b, F b → F' b) : RdO W0 X F' w' d v :=
  fun w2 h1 h2 h3 => h w2 (Nat.le_trans hz h1) h2 fun b hb hf => (h3 b (Nat.lt_of_lt_of_le hb hz) (hF b hf)).trans (hk b hb hf)
/-- The blocks that one leaves out at a call: all that are there but the old ones outside X and those of F. -/
def OutX (W0 : World) (X F : Nat → Prop) (w : World) (b : Nat) : Prop := b < w.heap.size ∧ ¬ ((b < W0.heap.size ∧ ¬ X b) ∨ F b)
theorem OutX.lt {W0 : World} {X F : Nat → Prop} {w : World} : ∀ b, OutX W0 X F w b → b < w.heap.size := fun _ h => h.1
theorem OutX.kept {W0 : World} {X F : Nat → Prop} {w w2 : World} (k : KeptX (OutX W0 X F w) w w2) (hW : KeptX X W0 w) : KeptX X W0 w2 :=
  ⟨Nat.le_trans hW.1 k.1, fun b hb hx => (k.2 b (Nat.lt_of_lt_of_le hb hW.1) fun ho => ho.2 (Or.inl ⟨hb, hx⟩)).trans (hW.2 b hb hx)⟩
theorem OutX.foot {W0 : World} {X F : Nat → Prop} {w w2 : World} (k : KeptX (OutX W0 X F w) w w2) {b : Nat} (hb : b < w.heap.size) (hf : F b) : w2.heap[b]? = w.heap[b]? := k.2 b hb fun ho => ho.2 (Or.inr hf)
theorem RdO.toX {W0 : World} {X F F' : Nat → Prop} {w : World} {d : D} {v : Value} (h : RdO W0 X F w d v) (hW : KeptX X W0 w) (hF : ∀ b, F b → F' b) : RdX (OutX W0 X F' w) w d v :=
  fun w2 k => h w2 k.1 (OutX.kept k hW) fun b hb hf => OutX.foot k hb (hF b hf)
theorem RdX.toOut {W0 : World} {X F : Nat → Prop} {w : World} {d : D} {v : Value} (h : RdX X W0 d v) (hW : KeptX X W0 w) : RdX (OutX W0 X F w) w d v :=
  fun w2 k => h w2 (OutX.kept k hW)
theorem RdO.ofX {W0 : World} {X F F' : Nat → Prop} {w w2 : World} {d : D} {v : Value} (h : RdX (OutX W0 X F' w) w2 d v) (hb : Below w.heap.size w w2) (hW : KeptX X W0 w) (hF : ∀ b, F' b → F b) (hn : ∀ b, w.heap.size ≤ b → b < w2.heap.size → F b) : RdO W0 X F w2 d v :=
  fun w3 hz k3 h3 => h w3 ⟨hz, fun b hb2 hno => by
    by_cases hl : b < w.heap.size
    · by_cases hf : F' b
      · exact h3 b hb2 (hF b hf)
      · by_cases ho : b < W0.heap.size ∧ ¬ X b
        · exact (k3.2 b ho.1 ho.2).trans (((hW.trans (KeptX.of_below hb)).2 b ho.1 ho.2).symm)
        · exact absurd ⟨hl, fun q => q.elim ho hf⟩ hno
    · exact h3 b hb2 (hn b (by omega) hb2)⟩
/-- Behind the region. -/
theorem RdO.done {W0 : World} {X F : Nat → Prop} {w : World} {d : D} {v : Value} (h : RdO W0 X F w d v) (hW : KeptX X W0 w) (hF : ∀ b, F b → ¬ X b) : RdX X w d v :=
  fun w2 k => h w2 k.1 (hW.trans k) fun b hb hf => k.2 b hb (hF b hf)
/-- What an operation without given memory owns is new. -/
theorem foot_no {C D : List (Nat × Nat)} {G : Nat → Nat → Prop} {n i B z : Nat} {iv : Nat → Nat × Nat} {l : List Nat} (hl : ((chainOf C n i).all fun j => l.contains j) = true) (hD : ((chainOf C n i).all fun j => D.all fun p => p.1 != j) = true)
    (hb : ∀ j ∈ l, B ≤ (iv j).1 ∧ (iv j).1 ≤ (iv j).2 ∧ (iv j).2 ≤ z) {b : Nat} (hf : foot C D G n i iv b) : B ≤ b := by
  obtain ⟨j, hj, h | ⟨m, hm, hg⟩⟩ := hf
  · have := List.all_eq_true.1 hl j hj
    have := (hb j (by simpa using this)).1
    omega
  · have := List.all_eq_true.1 (List.all_eq_true.1 hD j hj) (j, m) hm
    simp at this

/-! ## rows of expressions -/
theorem kidsD_nil {X : Nat → Prop} {w : World} : RdX X w (kidsD []) (.slice none 0 0) := RdX.nil
/-- An expression's three cells, its kids read without X. -/
def ExX (X : Nat → Prop) (w : World) (e : Ex) (s : Option Addr) (c : Nat) : Prop := RdX X w (kidsD e.kids) (.slice s e.kids.length c)
theorem kidsD_one {X : Nat → Prop} {w : World} {g t : Nat} {x : Ex} {sx : Option Addr} {cx : Nat} (h : Blk w g t [.int .i64 x.kind, .int .i64 x.num, .slice sx x.kids.length cx]) (hg : ¬ X g) (hx : ExX X w x sx cx) : RdX X w (kidsD [x]) (.slice (some ⟨g, 0, none⟩) 1 1) := by
  intro w' k
  have h' := h.keep (k.2 g h.lt hg)
  have hx' := hx w' k
  unfold kidsD
  simp only [Rd]
  have hrow : Row w' g 0 [.int .i64 x.kind, .int .i64 x.num, .slice sx x.kids.length cx] := h'.row rfl
  refine ⟨some ⟨g, 0, none⟩, 1, rfl, Nat.le_refl _, by unfold maxLen; omega, by rw [Ex.cellsL_length], (fun h => by cases h), Or.inr ⟨g, 0, _, rfl, hrow, ?_⟩⟩
  simp only [Ex.cellsL, List.append_nil]
  rw [Ex.cells_eq]
  simp only [Rds, Rd]
  exact ⟨_, _, rfl, rfl, _, _, rfl, rfl, _, _, rfl, hx', rfl⟩
theorem kidsD_two {X : Nat → Prop} {w : World} {g t : Nat} {x y : Ex} {sx sy : Option Addr} {cx cy : Nat} (h : Blk w g t [.int .i64 x.kind, .int .i64 x.num, .slice sx x.kids.length cx, .int .i64 y.kind, .int .i64 y.num, .slice sy y.kids.length cy]) (hg : ¬ X g)
    (hx : ExX X w x sx cx) (hy : ExX X w y sy cy) : RdX X w (kidsD [x, y]) (.slice (some ⟨g, 0, none⟩) 2 2) := by
  intro w' k
  have h' := h.keep (k.2 g h.lt hg)
  have hx' := hx w' k
  have hy' := hy w' k
  unfold kidsD
  simp only [Rd]
  have hrow : Row w' g 0 [.int .i64 x.kind, .int .i64 x.num, .slice sx x.kids.length cx, .int .i64 y.kind, .int .i64 y.num, .slice sy y.kids.length cy] := h'.row rfl
  refine ⟨some ⟨g, 0, none⟩, 2, rfl, Nat.le_refl _, by unfold maxLen; omega, by rw [Ex.cellsL_length], (fun h => by cases h), Or.inr ⟨g, 0, _, rfl, hrow, ?_⟩⟩
  simp only [Ex.cellsL, List.append_nil]
  rw [Ex.cells_eq, Ex.cells_eq]
  simp only [List.cons_append, List.nil_append, Rds, Rd]
  exact ⟨_, _, rfl, rfl, _, _, rfl, rfl, _, _, rfl, hx', _, _, rfl, rfl, _, _, rfl, rfl, _, _, rfl, hy', rfl⟩
/-- What is read without X lies outside X. -/
theorem RdX.row_out {X : Nat → Prop} {w : World} {ks : List Ex} {b o len cap : Nat} (h : RdX X w (kidsD ks) (.slice (some ⟨b, o, none⟩) len cap)) {i : Nat} {x : Ex} (hx : ks[i]? = some x) : ¬ X b := by
  intro hb
  have hlt := (kid_in h.rd hx).1
  have k : KeptX X w { w with heap := w.heap.setIfInBounds b (.cells #[] 0) } :=
    ⟨by simp, fun j hj hn => by
      have hne : b ≠ j := fun e => hn (e ▸ hb)
      simp [Array.getElem?_setIfInBounds_ne hne]⟩
  obtain ⟨-, s', c', k0, -⟩ := kid_in (h _ k) hx
  have hblk : Blk { w with heap := w.heap.setIfInBounds b (.cells #[] 0) } b 0 [] := by
    unfold Blk
    simp [hlt]
  rw [hblk.cell] at k0
  simp at k0
/-- A kid of what is read without X. -/
theorem kidX {X : Nat → Prop} {w : World} {ks : List Ex} {b o len cap : Nat} (h : RdX X w (kidsD ks) (.slice (some ⟨b, o, none⟩) len cap)) {i : Nat} {x : Ex} (hx : ks[i]? = some x) :
    b < w.heap.size ∧ ¬ X b ∧ ∃ s c, w.cell? ⟨b, o + i * 3, none⟩ = some (.int .i64 x.kind) ∧ w.cell? ⟨b, o + i * 3 + 1, none⟩ = some (.int .i64 x.num) ∧ w.cell? ⟨b, o + i * 3 + 2, none⟩ = some (.slice s x.kids.length c) ∧ ExX X w x s c := by
  obtain ⟨hb, s, c, h0, h1, h2, h3⟩ := kid_in h.rd hx
  have hn := h.row_out hx
  refine ⟨hb, hn, s, c, h0, h1, h2, fun w' k => ?_⟩
  obtain ⟨-, s', c', k0, k1, k2, k3⟩ := kid_in (h w' k) hx
  have e := World.cell?_of_block (w := w) (w' := w') (a := ⟨b, o + i * 3 + 2, none⟩) (k.2 b hb hn)
  rw [k2, h2] at e
  simp only [Option.some.injEq, Value.slice.injEq, true_and] at e
  obtain ⟨rfl, rfl⟩ := e
  exact k3
end Go.Proofs.YtlnojmmjpgpjdaaDoor
