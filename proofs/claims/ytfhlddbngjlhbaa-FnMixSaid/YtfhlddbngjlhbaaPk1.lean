/-
  Parts of a proof, joined: Rg. No condition.
-/
import Derived.Test.YtfhlddbngjlhbaaPk0
namespace Go.Proofs.Ytfhlddbngjlhbaa
set_option linter.unusedVariables false
set_option linter.unusedSimpArgs false
open Go.ChangeShapes Go.WideShapes Go.ChangeAt Go.RowKit Go.Deep
def slotOf (o : Oper) (a : Act) : Value := match o.dst with
 | some d => a.tmps.getD d undef
 | none => undef
def putFrom : List Oper → Nat → (Nat → Value) → Act → Act
 | [], _, _, a => a
 | o :: r, k, vs, a => putFrom r (k + 1) vs (a.put o.dst (vs k))
theorem slotOf_put {o p : Oper} {a : Act} {v : Value} (h : ∀ d, o.dst = some d → p.dst ≠ some d) : slotOf p (a.put o.dst v) = slotOf p a := by
 unfold slotOf
 cases hp : p.dst with
 | none => rfl
 | some d =>
  cases ho : o.dst with
  | none => rfl
  | some e =>
   have hne : e ≠ d := fun he => h e ho (by rw [hp, he])
   simp [Act.put, Array.getElem?_setIfInBounds_ne hne]
theorem slotOf_same {o : Oper} {a : Act} {v : Value} {d : Tmp} (h : o.dst = some d) (hd : d < a.tmps.size) : slotOf o (a.put o.dst v) = v := by
 unfold slotOf
 rw [h]
 simp [Act.put, hd]
theorem putFrom_self : ∀ (ops : List Oper) (k : Nat) (vs : Nat → Value) (a0 a : Act), a0.defers = a.defers → a0.tmps.size = a.tmps.size → (∀ t, (∀ o ∈ ops, o.dst ≠ some t) → a0.tmps[t]? = a.tmps[t]?) →
  (∀ j o, ops[j]? = some o → vs (k + j) = slotOf o a) → putFrom ops k vs a0 = a
 | [], k, vs, a0, a, h1, h2, h3, _ => by
  have ht : a0.tmps = a.tmps := Array.ext_getElem? fun t => h3 t (by simp)
  cases a0; cases a
  simp only at h1 ht
  simp [putFrom, h1, ht]
 | o :: r, k, vs, a0, a, h1, h2, h3, h4 => by
  simp only [putFrom]
  have hv : vs k = slotOf o a := by simpa using h4 0 o (by simp)
  refine putFrom_self r (k + 1) vs _ a ?_ ?_ ?_ ?_
  ·
   cases ho : o.dst <;> simpa [Act.put, ho] using h1
  ·
   cases ho : o.dst <;> simpa [Act.put, ho] using h2
  ·
   intro t ht
   rw [hv]
   cases ho : o.dst with
   | none =>
    simp only [Act.put]
    exact h3 t (fun p hp => by
     rcases List.mem_cons.1 hp with rfl | hp
     ·
      rw [ho]; simp
     ·
      exact ht p hp)
   | some d =>
    by_cases hdt : d = t
    ·
     subst hdt
     simp only [Act.put, slotOf, ho]
     by_cases hs : d < a0.tmps.size
     ·
      rw [Array.getElem?_setIfInBounds_self_of_lt hs]
      rw [h2] at hs
      simp [hs]
     ·
      have hs' : ¬ d < a.tmps.size := by rw [← h2]; exact hs
      exact (Array.getElem?_eq_none (by rw [Array.size_setIfInBounds]; exact Nat.not_lt.1 hs)).trans (Array.getElem?_eq_none (Nat.not_lt.1 hs')).symm
    ·
     simp only [Act.put]
     rw [Array.getElem?_setIfInBounds_ne hdt]
     exact h3 t (fun p hp => by
      rcases List.mem_cons.1 hp with rfl | hp
      ·
       rw [ho]; simpa using hdt
      ·
       exact ht p hp)
  ·
   intro j p hj
   have := h4 (j + 1) p (by simpa using hj)
   rw [← this]
   congr 1
   omega
section
variable {P : Program} {ops : Array Oper}
theorem wpOp_of_list {Q Q1 : Exit → Act → World → Prop} {i : Nat} {o : Oper} {K : Act → World → Prop} {a : Act} {w : World} (hi : ops[i]? = some o) (h : wpList P ops Q1 [o] a w)
  (hn : ∀ a' w', Q1 .normal a' w' → K a' w') (he : ∀ e a' w', e ≠ .normal → ¬ Q1 e a' w') : wpOp P ops Q i K a w := by
 unfold wpOp
 rw [hi]
 simp only [wpList] at h
 simp only
 split
 ·
  rename_i hw
  rw [if_pos hw] at h
  rcases h with h | ⟨_, a', w', h⟩
  ·
   refine Or.inl ?_
   unfold Oper.wp at *
   generalize (execOp a.eval o).run P w = r at *
   cases r with
   | ok n w' =>
    cases n <;> simp only [Oper.upon] at h ⊢ <;>
     first
      | exact hn _ _ h
      | exact Calls.mono h (fun e w'' h' => by
        cases e
        ·
         exact hn _ _ h'
        ·
         exact absurd h' (he _ _ _ (by simp))
        ·
         obtain ⟨a', w', h'⟩ := h'
         exact absurd h' (he _ _ _ (by simp)))
      | exact Rows.mono h (fun _ _ h' => hn _ _ h')
      | exact h
   | halt x w' =>
    cases x <;> simp only [Oper.upon] at h ⊢
    all_goals first | exact absurd h (he _ _ _ (by simp)) | exact h
  ·
   exact absurd h (he _ _ _ (by simp))
 ·
  rename_i hw
  rw [if_neg hw] at h
  exact hn _ _ h
def tupAt (v : Value) (k : Nat) : Value := match v with
 | .tuple vs => vs.getD k undef
 | _ => undef
def srcOf (ops : Array Oper) (t : Tmp) : Nat := (List.range ops.size).findIdx fun j => match ops[j]? with
 | some o => o.dst == some t
 | none => false
def lateVal (ops : Array Oper) (i : Nat) (vs : Nat → Value) : Value := match ops[i]? with
 | some o => match o.op with
  | .assign (.tmp t) => vs (srcOf ops t)
  | .move (.tmp t) => vs (srcOf ops t)
  | .assign (.const v) => v
  | .extract (.tmp t) k => tupAt (vs (srcOf ops t)) k
  | _ => undef
 | none => undef
def deps (ops : Array Oper) (i : Nat) : List Nat := match ops[i]? with
 | some o => (o.after.toList.filter fun e => Region.binds .any e).map (·.on)
 | none => []
def rgB (ops : Array Oper) (s : Nat) (E : List Nat) (size : Nat) : Bool :=
 (List.range ops.size).all (fun i =>
  (deps ops i).all (· < i) &&
  (i == s || E.contains i || (List.range ops.size).any (fun j => (j == s || !E.contains j) && decide (i < j) && (deps ops j).contains i)) &&
  (match ops[i]? with
   | some o => (match o.dst with
    | some d => decide (d < size) && i != s && (List.range ops.size).all (fun j => j == i || (ops[j]?).all (fun p => p.dst != some d))
    | none => i == s)
   | none => false)) &&
 E.all (fun i => match ops[i]? with
  | some o => o.guard.isNone && (match o.op with
   | .assign (.tmp t) => (deps ops i).contains (srcOf ops t) && (ops[srcOf ops t]?).any (fun p => p.dst == some t)
   | .move (.tmp t) => (deps ops i).contains (srcOf ops t) && (ops[srcOf ops t]?).any (fun p => p.dst == some t)
   | .assign (.const _) => true
   | .extract (.tmp t) _ => (deps ops i).contains (srcOf ops t) && (ops[srcOf ops t]?).any (fun p => p.dst == some t) && !E.contains (srcOf ops t) && srcOf ops t != s
   | _ => false)
  | none => false) &&
 decide (s < ops.size) && !E.contains s
theorem mem_deps {i j : Nat} {o : Oper} (hi : ops[i]? = some o) : j ∈ deps ops i ↔ ∃ e ∈ o.after, Region.binds .any e = true ∧ e.on = j := by
 unfold deps
 rw [hi]
 simp only [List.mem_map, List.mem_filter, Array.mem_toList_iff]
 constructor
 ·
  rintro ⟨e, ⟨h1, h2⟩, h3⟩; exact ⟨e, h1, h2, h3⟩
 ·
  rintro ⟨e, h1, h2, h3⟩; exact ⟨e, ⟨h1, h2⟩, h3⟩
structure RgSpec (ops : Array Oper) (s : Nat) (E : List Nat) (size : Nat) : Prop where
 back : ∀ i, i < ops.size → ∀ j ∈ deps ops i, j < i
 chain : ∀ i, i < ops.size → i ≠ s → i ∉ E → ∃ j, j < ops.size ∧ (j = s ∨ j ∉ E) ∧ i < j ∧ i ∈ deps ops j
 dst : ∀ i o, ops[i]? = some o → i ≠ s → ∃ d, o.dst = some d ∧ d < size ∧ ∀ j p, ops[j]? = some p → j ≠ i → p.dst ≠ some d
 sdst : ∀ o, ops[s]? = some o → o.dst = none
 lates : ∀ i, i ∈ E → ∃ o, ops[i]? = some o ∧ o.guard = none ∧
  ((∃ t p, (o.op = .assign (.tmp t) ∨ o.op = .move (.tmp t)) ∧ srcOf ops t ∈ deps ops i ∧ ops[srcOf ops t]? = some p ∧ p.dst = some t) ∨ (∃ v, o.op = .assign (.const v)) ∨
   (∃ t k p, o.op = .extract (.tmp t) k ∧ srcOf ops t ∈ deps ops i ∧ ops[srcOf ops t]? = some p ∧ p.dst = some t ∧ srcOf ops t ∉ E ∧ srcOf ops t ≠ s))
 slt : s < ops.size
 sE : s ∉ E
theorem rgB_spec {s : Nat} {E : List Nat} {size : Nat} (h : rgB ops s E size = true) : RgSpec ops s E size := by
 simp only [rgB, Bool.and_eq_true] at h
 obtain ⟨⟨⟨h1, h2⟩, h3⟩, h4⟩ := h
 have h1' := fun i (hi : i < ops.size) => List.all_eq_true.1 h1 i (List.mem_range.2 hi)
 refine ⟨?_, ?_, ?_, ?_, ?_, by simpa using h3, by simpa using h4⟩
 ·
  intro i hi j hj
  have := h1' i hi
  simp only [Bool.and_eq_true] at this
  have := List.all_eq_true.1 this.1.1 j hj
  simpa using this
 ·
  intro i hi hs hE
  have := h1' i hi
  simp only [Bool.and_eq_true] at this
  have h := this.1.2
  simp only [Bool.or_eq_true] at h
  rcases h with (h | h) | h
  ·
   exact absurd (by simpa using h) hs
  ·
   exact absurd (by simpa using h) hE
  ·
   obtain ⟨j, hj, h⟩ := List.any_eq_true.1 h
   simp only [Bool.and_eq_true, Bool.or_eq_true, beq_iff_eq, Bool.not_eq_true', decide_eq_true_eq, List.contains_iff_mem] at h
   refine ⟨j, List.mem_range.1 hj, ?_, h.1.2, h.2⟩
   rcases h.1.1 with h | h
   ·
    exact Or.inl h
   ·
    exact Or.inr (fun hm => by simp [hm] at h)
 ·
  intro i o hi hs
  have hlt := (Array.getElem?_eq_some_iff.1 hi).1
  have := h1' i hlt
  simp only [Bool.and_eq_true] at this
  have h := this.2
  rw [hi] at h
  simp only at h
  cases ho : o.dst with
  | none => rw [ho] at h; exact absurd (by simpa using h) hs
  | some d =>
   rw [ho] at h
   simp only [Bool.and_eq_true, decide_eq_true_eq] at h
   refine ⟨d, rfl, h.1.1, fun j p hj hji => ?_⟩
   have hjlt := (Array.getElem?_eq_some_iff.1 hj).1
   have := List.all_eq_true.1 h.2 j (List.mem_range.2 hjlt)
   rw [hj] at this
   simpa [hji] using this
 ·
  intro o ho
  have hlt := (Array.getElem?_eq_some_iff.1 ho).1
  have := h1' s hlt
  simp only [Bool.and_eq_true] at this
  have h := this.2
  rw [ho] at h
  simp only at h
  cases hd : o.dst with
  | none => rfl
  | some d =>
   rw [hd] at h
   simp at h
 ·
  intro i hE
  have h := List.all_eq_true.1 h2 i hE
  cases ho : ops[i]? with
  | none => rw [ho] at h; cases h
  | some o =>
   rw [ho] at h
   simp only [Bool.and_eq_true] at h
   refine ⟨o, rfl, by simpa using h.1, ?_⟩
   have h6 := h.2
   have any_some : ∀ t, (ops[srcOf ops t]?).any (fun p => p.dst == some t) = true → ∃ p, ops[srcOf ops t]? = some p ∧ p.dst = some t := by
    intro t ht
    cases hp : ops[srcOf ops t]? with
    | none => rw [hp] at ht; cases ht
    | some p => rw [hp] at ht; exact ⟨p, rfl, by simpa using ht⟩
   split at h6
   ·
    rename_i t hop
    simp only [Bool.and_eq_true, List.contains_iff_mem] at h6
    obtain ⟨p, hp, hd⟩ := any_some t h6.2
    exact Or.inl ⟨t, p, Or.inl hop, h6.1, hp, hd⟩
   ·
    rename_i t hop
    simp only [Bool.and_eq_true, List.contains_iff_mem] at h6
    obtain ⟨p, hp, hd⟩ := any_some t h6.2
    exact Or.inl ⟨t, p, Or.inr hop, h6.1, hp, hd⟩
   ·
    rename_i v hop
    exact Or.inr (Or.inl ⟨v, hop⟩)
   ·
    rename_i t k hop
    simp only [Bool.and_eq_true, List.contains_iff_mem, Bool.not_eq_true', bne_iff_ne] at h6
    obtain ⟨p, hp, hd⟩ := any_some t h6.1.1.2
    refine Or.inr (Or.inr ⟨t, k, p, hop, h6.1.1.1, hp, hd, fun hm => ?_, h6.2⟩)
    have h7 := h6.1.2
    rw [← Bool.not_eq_true, List.contains_iff_mem] at h7
    exact h7 hm
   ·
    cases h6
theorem lateVal_congr {s : Nat} {E : List Nat} {size : Nat} (sp : RgSpec ops s E size) {i : Nat} (hi : i ∈ E) {vs vs' : Nat → Value} (h : ∀ j ∈ deps ops i, vs j = vs' j) : lateVal ops i vs = lateVal ops i vs' := by
 obtain ⟨o, ho, _, h1 | ⟨v, h1⟩ | ⟨t, k, p, h1, h2, _⟩⟩ := sp.lates i hi
 ·
  obtain ⟨t, p, h1, h2, _⟩ := h1
  unfold lateVal
  rw [ho]
  rcases h1 with h1 | h1 <;> simp only [h1] <;> exact h _ h2
 ·
  unfold lateVal
  rw [ho]
  simp only [h1]
 ·
  unfold lateVal
  rw [ho]
  simp only [h1]
  rw [h _ h2]
def slots (ops : Array Oper) (a : Act) (i : Nat) : Value := match ops[i]? with
 | some o => slotOf o a
 | none => undef
def ancs (ops : Array Oper) : Nat → Nat → List Nat
 | 0, i => [i]
 | f + 1, i => i :: (deps ops i).flatMap (ancs ops f)
theorem ancs_listed {listed : Array Bool} (hc : ∀ i, listed.getD i false = true → ∀ j ∈ deps ops i, listed.getD j false = true) : ∀ f i, listed.getD i false = true → ∀ j ∈ ancs ops f i, listed.getD j false = true
 | 0, i, h, j, hj => by simp only [ancs, List.mem_singleton] at hj; subst hj; exact h
 | f + 1, i, h, j, hj => by
  simp only [ancs, List.mem_cons, List.mem_flatMap] at hj
  rcases hj with rfl | ⟨k, hk, hj⟩
  ·
   exact h
  ·
   exact ancs_listed hc f k (hc i h k hk) j hj
def Sep (p q : Nat × Nat) : Prop := p.2 ≤ q.1 ∨ q.2 ≤ p.1
def Agree {α : Type} (l : List Nat) (f g : Nat → α) : Prop := ∀ j ∈ l, f j = g j
def upd {α : Type} (f : Nat → α) (i : Nat) (x : α) : Nat → α := fun j => if j = i then x else f j
def noCopyB (ops : Array Oper) (s : Nat) (E : List Nat) : Bool :=
 (List.range ops.size).all fun i => i == s || E.contains i || (ancs ops ops.size i).all fun j => j == i || !E.contains j
theorem noCopyB_spec {s : Nat} {E : List Nat} (h : noCopyB ops s E = true) : ∀ i, i < ops.size → i ≠ s → i ∉ E → ∀ j ∈ ancs ops ops.size i, j ≠ i → j ∉ E := by
 intro i hi hs hE j hj hji hm
 have := List.all_eq_true.1 h i (List.mem_range.2 hi)
 simp only [Bool.or_eq_true, beq_iff_eq, List.contains_iff_mem] at this
 rcases this with (h | h) | h
 ·
  exact hs h
 ·
  exact hE h
 ·
  have := List.all_eq_true.1 h j hj
  simp only [Bool.or_eq_true, beq_iff_eq, Bool.not_eq_true'] at this
  rcases this with h | h
  ·
   exact hji h
  ·
   rw [← Bool.not_eq_true, List.contains_iff_mem] at h
   exact h hm
structure RgInv (ops : Array Oper) (s : Nat) (E : List Nat) (a0 : Act) (W : World) (J : Nat → (Nat → Nat × Nat) → (Nat → Value) → World → Prop) (Fin : (Nat → Value) → World → Prop) (listed : Array Bool) (a : Act) (w : World) : Prop where
 size : listed.size = ops.size
 defers : a0.defers = a.defers
 tmps : a0.tmps.size = a.tmps.size
 off : ∀ t, (∀ o ∈ ops.toList, o.dst ≠ some t) → a0.tmps[t]? = a.tmps[t]?
 closed : ∀ i, listed.getD i false = true → ∀ j ∈ deps ops i, listed.getD j false = true
 lates : ∀ i, i ∈ E → listed.getD i false = true → slots ops a i = lateVal ops i (slots ops a)
 shapes : ∀ i o t k, i ∈ E → ops[i]? = some o → o.op = .extract (.tmp t) k → listed.getD (srcOf ops t) false = true → ∃ arr, slots ops a (srcOf ops t) = .tuple arr ∧ k < arr.size
 early : listed.getD s false = false → Below W.heap.size W w ∧ ∃ iv : Nat → Nat × Nat, (∀ i, i ≠ s → i ∉ E → listed.getD i false = true → J i iv (slots ops a) w) ∧
  (∀ i, i ∉ E → listed.getD i false = true → W.heap.size ≤ (iv i).1 ∧ (iv i).1 ≤ (iv i).2 ∧ (iv i).2 ≤ w.heap.size) ∧
  (∀ i j, i ∉ E → j ∉ E → listed.getD i false = true → listed.getD j false = true → i ≠ j → Sep (iv i) (iv j))
 late : listed.getD s false = true → Fin (slots ops a) w
theorem getD_false_of {l : Array Bool} {i : Nat} (hi : i < l.size) (h : l.getD i true = false) : l.getD i false = false := by
 simp [hi] at h ⊢; exact h
theorem getD_set_self {l : Array Bool} {i : Nat} (hi : i < l.size) (d : Bool) : (l.setIfInBounds i true).getD i d = true := by simp [hi]
theorem chain_all {s : Nat} {E : List Nat} {size : Nat} (sp : RgSpec ops s E size) {listed : Array Bool} (hc : ∀ i, listed.getD i false = true → ∀ j ∈ deps ops i, listed.getD j false = true)
  (hs : ∀ j ∈ deps ops s, listed.getD j false = true) : ∀ m i, ops.size - i ≤ m → i < ops.size → i ≠ s → i ∉ E → listed.getD i false = true := by
 intro m
 induction m with
 | zero => intro i h1 h2; omega
 | succ m ih =>
  intro i h1 h2 h3 h4
  obtain ⟨j, hj, hjs, hij, hd⟩ := sp.chain i h2 h3 h4
  by_cases hjs' : j = s
  ·
   subst hjs'; exact hs i hd
  ·
   exact hc j (ih j (by omega) hj hjs' (hjs.resolve_left hjs')) i hd
theorem wpAny_rg {Q : Exit → Act → World → Prop} {s : Nat} {E : List Nat} {a0 : Act} {W : World} {J : Nat → (Nat → Nat × Nat) → (Nat → Value) → World → Prop} {Fin : (Nat → Value) → World → Prop}
  (sp : RgSpec ops s E a0.tmps.size)
  (hJ : ∀ i iv iv' vs vs' w w', i < ops.size → Agree (ancs ops ops.size i) iv iv' → Agree (ancs ops ops.size i) vs vs' → Below w.heap.size w w' → J i iv vs w → J i iv' vs' w')
  (hX : ∀ i o t k, i ∈ E → ops[i]? = some o → o.op = .extract (.tmp t) k → ∀ iv vs w, J (srcOf ops t) iv vs w → ∃ arr, vs (srcOf ops t) = .tuple arr ∧ k < arr.size)
  (hF : ∀ vs vs' w, (∀ j, j ≠ s → j ∉ E → vs j = vs' j) → Fin vs w → Fin vs' w)
  (hE' : ∀ i, i < ops.size → i ≠ s → i ∉ E → ∀ j ∈ ancs ops ops.size i, j ≠ i → j ∉ E)
  (hstep : ∀ i o, ops[i]? = some o → i ≠ s → i ∉ E → ∀ iv vs w, Below W.heap.size W w → (∀ j ∈ ancs ops ops.size i, j ≠ i → J j iv vs w) →
   (∀ j ∈ ancs ops ops.size i, j ≠ i → W.heap.size ≤ (iv j).1 ∧ (iv j).1 ≤ (iv j).2 ∧ (iv j).2 ≤ w.heap.size) → (∀ j ∈ ancs ops ops.size i, ∀ k ∈ ancs ops ops.size i, j ≠ i → k ≠ i → j ≠ k → Sep (iv j) (iv k)) →
   wpList P ops (fun e a' w' => e = .normal ∧ ∃ v, a' = (putFrom ops.toList 0 vs a0).put o.dst v ∧ Below w.heap.size w w' ∧ (∀ iv', Agree ((ancs ops ops.size i).erase i) iv iv' → iv' i = (w.heap.size, w'.heap.size) → J i iv' (upd vs i v) w')) [o] (putFrom ops.toList 0 vs a0) w)
  (hstore : ∀ o, ops[s]? = some o → ∀ iv vs w, Below W.heap.size W w → (∀ j, j < ops.size → j ≠ s → j ∉ E → J j iv vs w ∧ W.heap.size ≤ (iv j).1 ∧ (iv j).1 ≤ (iv j).2 ∧ (iv j).2 ≤ w.heap.size) → (∀ j k, j < ops.size → k < ops.size → j ≠ s → k ≠ s → j ∉ E → k ∉ E → j ≠ k → Sep (iv j) (iv k)) →
   wpList P ops (fun e a' w' => e = .normal ∧ a' = putFrom ops.toList 0 vs a0 ∧ Fin vs w') [o] (putFrom ops.toList 0 vs a0) w)
  (hQ : ∀ vs w, (∀ i ∈ E, vs i = lateVal ops i vs) → Fin vs w → Q .normal (putFrom ops.toList 0 vs a0) w) :
  ∀ (fuel : Nat) (U : List Nat) (listed : Array Bool) (a : Act) (w : World), U.length ≤ fuel → (∀ i, i < ops.size → listed.getD i false = false → i ∈ U) → RgInv ops s E a0 W J Fin listed a w → wpAny P .any ops Q fuel listed a w := by
 have self : ∀ (listed : Array Bool) (a : Act) (w : World), RgInv ops s E a0 W J Fin listed a w → putFrom ops.toList 0 (slots ops a) a0 = a := by
  intro listed a w inv
  refine putFrom_self _ _ _ _ _ inv.defers inv.tmps inv.off (fun j o hj => ?_)
  unfold slots
  rw [Nat.zero_add, show ops[j]? = some o by simpa using hj]
 have done : ∀ (listed : Array Bool) (a : Act) (w : World), RgInv ops s E a0 W J Fin listed a w → (∀ i, i < ops.size → listed.getD i false = true) → Q .normal a w := by
  intro listed a w inv hall
  have := hQ (slots ops a) w (fun i hE => inv.lates i hE (by
   obtain ⟨o, ho, _⟩ := sp.lates i hE
   exact hall i (Array.getElem?_eq_some_iff.1 ho).1)) (inv.late (hall s sp.slt))
  rwa [self listed a w inv] at this
 have allOf : ∀ (listed : Array Bool), listed.size = ops.size → Region.ready .any ops listed = [] → ∀ i, i < ops.size → listed.getD i false = true := by
  intro listed hsz hr i
  induction i using Nat.strongRecOn with
  | _ i ih =>
   intro hi
   cases hl : listed.getD i false with
   | true => rfl
   | false =>
    exfalso
    have hm : i ∈ Region.ready .any ops listed := by
     rw [mem_ready]
     refine ⟨by simp [hsz, hi] at hl ⊢; exact hl, ops[i], by simp [hi], fun e he hb => ?_⟩
     have hd : e.on ∈ deps ops i := (mem_deps (by simp [hi])).2 ⟨e, he, hb, rfl⟩
     have := sp.back i hi _ hd
     exact ih _ this (by omega)
    rw [hr] at hm
    cases hm
 intro fuel
 induction fuel with
 | zero =>
  intro U listed a w hU hun inv
  have hall : ∀ i, i < ops.size → listed.getD i false = true := by
   intro i hi
   cases hl : listed.getD i false with
   | true => rfl
   | false =>
    have := hun i hi hl
    rw [List.eq_nil_of_length_eq_zero (Nat.le_zero.1 hU)] at this
    cases this
  refine ⟨?_, done listed a w inv hall⟩
  apply List.eq_nil_iff_forall_not_mem.2
  intro i hi
  obtain ⟨h1, o, ho, _⟩ := mem_ready.1 hi
  have hlt := (Array.getElem?_eq_some_iff.1 ho).1
  have h2 := hall i hlt
  have h3 := getD_false_of (by rw [inv.size]; exact hlt) h1
  rw [h2] at h3
  cases h3
 | succ fuel ih =>
  intro U listed a w hU hun inv
  refine ⟨fun hr => done listed a w inv (allOf listed inv.size hr), fun i hi => ?_⟩
  obtain ⟨h1, o, ho, hdeps⟩ := mem_ready.1 hi
  have hlt : i < ops.size := (Array.getElem?_eq_some_iff.1 ho).1
  have hltl : i < listed.size := by rw [inv.size]; exact hlt
  have hil := getD_false_of hltl h1
  have hd : ∀ j ∈ deps ops i, listed.getD j false = true := fun j hj => by
   obtain ⟨e, he, hb, rfl⟩ := (mem_deps ho).1 hj
   exact hdeps e he hb
  have hself := self listed a w inv
  have hU' : (U.erase i).length ≤ fuel := by
   rw [List.length_erase_of_mem (hun i hlt hil)]
   omega
  have hun' : ∀ k, k < ops.size → (listed.setIfInBounds i true).getD k false = false → k ∈ U.erase i := by
   intro k hk hkl
   by_cases hki : k = i
   ·
    subst hki
    rw [getD_set_self hltl] at hkl
    cases hkl
   ·
    rw [getD_set_ne false (Ne.symm hki)] at hkl
    exact (List.mem_erase_of_ne hki).2 (hun k hk hkl)
  have hclosed : ∀ k, (listed.setIfInBounds i true).getD k false = true → ∀ j ∈ deps ops k, (listed.setIfInBounds i true).getD j false = true := by
   intro k hk j hj
   by_cases hki : k = i
   ·
    subst hki
    exact getD_set_true (hd j hj)
   ·
    rw [getD_set_ne false (Ne.symm hki)] at hk
    exact getD_set_true (inv.closed k hk j hj)
  have hsz : (listed.setIfInBounds i true).size = ops.size := by rw [Array.size_setIfInBounds]; exact inv.size
  by_cases his : i = s
  ·
   -- the store
   subst his
   have hall : ∀ j, j < ops.size → j ≠ i → j ∉ E → listed.getD j false = true := fun j hj hji hjE => chain_all sp inv.closed hd _ j (Nat.le_refl _) hj hji hjE
   obtain ⟨hB, iv, hJs, hbd, hsep⟩ := inv.early hil
   have := hstore o ho iv (slots ops a) w hB (fun j hj hji hjE => ⟨hJs j hji hjE (hall j hj hji hjE), hbd j hjE (hall j hj hji hjE)⟩)
    (fun j k hj hk hji hki hjE hkE hjk => hsep j k hjE hkE (hall j hj hji hjE) (hall k hk hki hkE) hjk)
   rw [hself] at this
   refine wpOp_of_list ho this ?_ (fun e a' w' he h => he h.1)
   rintro a' w' ⟨_, rfl, hfin⟩
   refine ih (U.erase i) _ _ w' hU' hun' ⟨hsz, inv.defers, inv.tmps, inv.off, hclosed, ?_, ?_, ?_, fun _ => hfin⟩
   ·
    intro k hE hk
    have hki : k ≠ i := fun e => sp.sE (by rw [← e]; exact hE)
    rw [getD_set_ne false (Ne.symm hki)] at hk
    exact inv.lates k hE hk
   ·
    intro k o2 t m hE ho2 hop hk
    have hki : srcOf ops t ≠ i := by
     obtain ⟨o3, ho3, _, h1 | ⟨v, h1⟩ | ⟨t3, k3, p, h1, _, _, _, h2, h2'⟩⟩ := sp.lates k hE
     ·
      obtain ⟨_, _, h1, _⟩ := h1
      rw [ho2] at ho3; cases ho3
      rcases h1 with h1 | h1 <;> rw [hop] at h1 <;> cases h1
     ·
      rw [ho2] at ho3; cases ho3
      rw [hop] at h1; cases h1
     ·
      rw [ho2] at ho3; cases ho3
      rw [hop] at h1; cases h1
      exact h2'
    rw [getD_set_ne false (Ne.symm hki)] at hk
    exact inv.shapes k o2 t m hE ho2 hop hk
   ·
    intro h
    rw [getD_set_self hltl] at h
    cases h
  ·
   obtain ⟨d, hdst, hdsz, hdist⟩ := sp.dst i o ho his
   have hput : ∀ v k, k ≠ i → slots ops (a.put o.dst v) k = slots ops a k := by
    intro v k hk
    unfold slots
    cases hok : ops[k]? with
    | none => rfl
    | some p => exact slotOf_put (fun d' hd' => by rw [hdst] at hd'; cases hd'; exact hdist k p hok hk)
   have hputi : ∀ v, slots ops (a.put o.dst v) i = v := by
    intro v
    unfold slots
    rw [ho]
    exact slotOf_same hdst (by rw [← inv.tmps]; exact hdsz)
   have hoff : ∀ v t, (∀ p ∈ ops.toList, p.dst ≠ some t) → a0.tmps[t]? = (a.put o.dst v).tmps[t]? := by
    intro v t ht
    rw [inv.off t ht, hdst]
    have hne : d ≠ t := fun e => ht o (by rw [Array.mem_toList_iff]; exact Array.mem_of_getElem? ho) (by rw [hdst, e])
    simp [Act.put, Array.getElem?_setIfInBounds_ne hne]
   have hdef : ∀ v, a0.defers = (a.put o.dst v).defers := fun v => by rw [hdst]; exact inv.defers
   have hts : ∀ v, a0.tmps.size = (a.put o.dst v).tmps.size := fun v => by rw [hdst]; simpa [Act.put] using inv.tmps
   by_cases hiE : i ∈ E
   ·
    -- a copy
    have hfold : ∀ val, (execOp a.eval o).run P w = .ok (.value val) w → o.guard = none → RgInv ops s E a0 W J Fin (listed.setIfInBounds i true) (a.put o.dst val) w →
      wpOp P ops Q i (wpAny P .any ops Q fuel (listed.setIfInBounds i true)) a w := by
     intro val hrun hg hnext
     unfold wpOp
     rw [ho]
     simp only
     rw [if_pos (by simp [Region.wanted, hg])]
     refine Or.inl ?_
     unfold Oper.wp
     rw [hrun]
     exact ih (U.erase i) _ _ w hU' hun' hnext
    have hearly : ∀ val, listed.getD s false = false → Below W.heap.size W w ∧ ∃ iv : Nat → Nat × Nat, (∀ k, k ≠ s → k ∉ E → (listed.setIfInBounds i true).getD k false = true → J k iv (slots ops (a.put o.dst val)) w) ∧
      (∀ k, k ∉ E → (listed.setIfInBounds i true).getD k false = true → W.heap.size ≤ (iv k).1 ∧ (iv k).1 ≤ (iv k).2 ∧ (iv k).2 ≤ w.heap.size) ∧
      (∀ k m, k ∉ E → m ∉ E → (listed.setIfInBounds i true).getD k false = true → (listed.setIfInBounds i true).getD m false = true → k ≠ m → Sep (iv k) (iv m)) := by
     intro val hs
     obtain ⟨hB, iv, hJs, hbd, hsep⟩ := inv.early hs
     have hne : ∀ k, k ∉ E → k ≠ i := fun k hkE e => hkE (by rw [e]; exact hiE)
     refine ⟨hB, iv, fun k hks hkE hk => ?_, fun k hkE hk => ?_, fun k m hkE hmE hk hm hkm => ?_⟩
     ·
      rw [getD_set_ne false (Ne.symm (hne k hkE))] at hk
      have hklt : k < ops.size := by
       rw [← inv.size]
       by_cases hkl : k < listed.size
       ·
        exact hkl
       ·
        simp [hkl] at hk
      refine hJ k iv iv _ _ w w hklt (fun _ _ => rfl) (fun j hj => ?_) (Below.refl _ _) (hJs k hks hkE hk)
      have hjl := ancs_listed inv.closed _ k hk j hj
      exact (hput _ j (fun e => by rw [e, hil] at hjl; cases hjl)).symm
     ·
      rw [getD_set_ne false (Ne.symm (hne k hkE))] at hk
      exact hbd k hkE hk
     ·
      rw [getD_set_ne false (Ne.symm (hne k hkE))] at hk
      rw [getD_set_ne false (Ne.symm (hne m hmE))] at hm
      exact hsep k m hkE hmE hk hm hkm
    have hlate : ∀ val, listed.getD s false = true → Fin (slots ops (a.put o.dst val)) w := by
     intro val hs
     refine hF _ _ w (fun k hks hkE => ?_) (inv.late hs)
     have hki : k ≠ i := fun e => hkE (by rw [e]; exact hiE)
     rw [hput _ k hki]
    have hdi : ∀ j ∈ deps ops i, j ≠ i := fun j hj e => by have := sp.back i hlt j hj; omega
    have hnext : (execOp a.eval o).run P w = .ok (.value (lateVal ops i (slots ops a))) w → o.guard = none → wpOp P ops Q i (wpAny P .any ops Q fuel (listed.setIfInBounds i true)) a w := by
     intro hrun hg
     refine hfold _ hrun hg ⟨hsz, hdef _, hts _, hoff _, hclosed, ?_, ?_, ?_, ?_⟩
     ·
      intro k hE' hk
      by_cases hki : k = i
      ·
       subst hki
       rw [hputi]
       exact lateVal_congr sp hiE fun j hj => (hput _ j (hdi j hj)).symm
      ·
       rw [getD_set_ne false (Ne.symm hki)] at hk
       rw [hput _ k hki, inv.lates k hE' hk]
       refine lateVal_congr sp hE' fun j hj => (hput _ j (fun e => ?_)).symm
       have := inv.closed k hk j hj
       rw [e, hil] at this
       cases this
     ·
      intro k o2 t m hE ho2 hop hk
      have hki : srcOf ops t ≠ i := by
       obtain ⟨o3, ho3, _, h1 | ⟨v, h1⟩ | ⟨t3, k3, p, h1, _, _, _, h2, h2'⟩⟩ := sp.lates k hE
       ·
        obtain ⟨_, _, h1, _⟩ := h1
        rw [ho2] at ho3; cases ho3
        rcases h1 with h1 | h1 <;> rw [hop] at h1 <;> cases h1
       ·
        rw [ho2] at ho3; cases ho3
        rw [hop] at h1; cases h1
       ·
        rw [ho2] at ho3; cases ho3
        rw [hop] at h1; cases h1
        exact fun e => h2 (by rw [e]; exact hiE)
      rw [getD_set_ne false (Ne.symm hki)] at hk
      rw [hput _ _ hki]
      exact inv.shapes k o2 t m hE ho2 hop hk
     ·
      intro hs
      rw [getD_set_ne false his] at hs
      exact hearly _ hs
     ·
      intro hs
      rw [getD_set_ne false his] at hs
      exact hlate _ hs
    obtain ⟨o', ho', hg, h1 | ⟨v, h1⟩ | ⟨t, k, p, h1, h2, hp, hpd, _, _⟩⟩ := sp.lates i hiE
    ·
     obtain ⟨t, p, h1, h2, hp, hpd⟩ := h1
     rw [ho] at ho'
     cases ho'
     have hval : slots ops a (srcOf ops t) = a.eval (.tmp t) := by
      unfold slots
      rw [hp]
      simp only [slotOf, hpd, Act.eval]
     refine hnext ?_ hg
     unfold lateVal
     rw [ho]
     rcases h1 with h1 | h1 <;> simp only [h1] <;> rw [hval] <;> simp [execOp, h1]
    ·
     rw [ho] at ho'
     cases ho'
     refine hnext ?_ hg
     unfold lateVal
     rw [ho]
     simp only [h1]
     simp [execOp, h1, Act.eval]
    ·
     rw [ho] at ho'
     cases ho'
     have hval : slots ops a (srcOf ops t) = a.eval (.tmp t) := by
      unfold slots
      rw [hp]
      simp only [slotOf, hpd, Act.eval]
     obtain ⟨arr, ha, hk⟩ := inv.shapes i o t k hiE ho h1 (hd _ h2)
     refine hnext ?_ hg
     unfold lateVal
     rw [ho]
     simp only [h1]
     rw [ha]
     rw [hval] at ha
     simp [execOp, h1, ha, Instr.extract, tupAt, hk]
   ·
    -- a step
    have hsl : listed.getD s false = false := by
     cases hs : listed.getD s false with
     | false => rfl
     | true =>
      have := chain_all sp inv.closed (fun j hj => inv.closed s hs j hj) _ i (Nat.le_refl _) hlt his hiE
      rw [hil] at this
      cases this
    obtain ⟨hB, iv, hJs, hbd, hsep⟩ := inv.early hsl
    -- what an operation waits for is listed, and is neither the store nor a copy
    have hanc : ∀ j ∈ ancs ops ops.size i, j ≠ i → listed.getD j false = true := by
     have hc' : ∀ f k, k ∈ deps ops i → ∀ j ∈ ancs ops f k, listed.getD j false = true := fun f k hk j hj => ancs_listed inv.closed f k (hd k hk) j hj
     intro j hj hji
     cases hsz' : ops.size with
     | zero => omega
     | succ f =>
      rw [hsz'] at hj
      simp only [ancs, List.mem_cons, List.mem_flatMap] at hj
      rcases hj with hj | ⟨k, hk, hj⟩
      ·
       exact absurd hj hji
      ·
       exact hc' f k hk j hj
    have hancE : ∀ j ∈ ancs ops ops.size i, j ≠ i → j ∉ E := hE' i hlt his hiE
    have := hstep i o ho his hiE iv (slots ops a) w hB (fun j hj hji => hJs j (fun e => by have := hanc j hj hji; rw [e, hsl] at this; cases this) (hancE j hj hji) (hanc j hj hji))
     (fun j hj hji => hbd j (hancE j hj hji) (hanc j hj hji)) (fun j hj k hk hji hki hjk => hsep j k (hancE j hj hji) (hancE k hk hki) (hanc j hj hji) (hanc k hk hki) hjk)
    rw [hself] at this
    refine wpOp_of_list ho this ?_ (fun e a' w' he h => he h.1)
    rintro a' w' ⟨_, v, rfl, hb, hJv⟩
    refine ih (U.erase i) _ _ w' hU' hun' ⟨hsz, hdef v, hts v, hoff v, hclosed, ?_, ?_, ?_, ?_⟩
    ·
     intro k hE hk
     have hki : k ≠ i := fun e => hiE (by rw [← e]; exact hE)
     rw [getD_set_ne false (Ne.symm hki)] at hk
     rw [hput _ k hki, inv.lates k hE hk]
     refine lateVal_congr sp hE fun j hj => (hput _ j (fun e => ?_)).symm
     have := inv.closed k hk j hj
     rw [e, hil] at this
     cases this
    ·
     intro k o2 t m hE ho2 hop hk
     by_cases hki : srcOf ops t = i
     ·
      rw [hki, hputi]
      have := hX k o2 t m hE ho2 hop (upd iv i (w.heap.size, w'.heap.size)) (upd (slots ops a) i v) w' (by
       rw [hki]
       refine hJv _ (fun j hj => ?_) (by simp [upd])
       have hjk : j ≠ i := fun e => by
        subst e
        have hcount : ∀ f x, x ∈ deps ops j → j ∉ ancs ops f x := fun f x hx hm => by
         have := ancs_listed inv.closed f x (hd x hx) j hm
         rw [hil] at this
         cases this
        cases hsz' : ops.size with
        | zero => omega
        | succ f =>
         rw [hsz'] at hj
         simp only [ancs, List.erase_cons_head, List.mem_flatMap] at hj
         obtain ⟨x, hx, hm⟩ := hj
         exact hcount f x hx hm
       simp [upd, hjk])
      rw [hki] at this
      simpa [upd] using this
     ·
      rw [getD_set_ne false (Ne.symm hki)] at hk
      rw [hput _ _ hki]
      exact inv.shapes k o2 t m hE ho2 hop hk
    ·
     intro _
     have hup : slots ops (a.put o.dst v) = upd (slots ops a) i v := by
      funext k
      unfold upd
      by_cases hki : k = i
      ·
       subst hki; rw [if_pos rfl, hputi]
      ·
       rw [if_neg hki, hput _ k hki]
     have hne : ∀ k, listed.getD k false = true → k ≠ i := fun k hk e => by rw [e, hil] at hk; cases hk
     refine ⟨Below.on hB hb hB.size, upd iv i (w.heap.size, w'.heap.size), fun k hks hkE hk => ?_, fun k hkE hk => ?_, fun k m hkE hmE hk hm hkm => ?_⟩
     ·
      by_cases hki : k = i
      ·
       subst hki
       rw [hup]
       refine hJv _ (fun j hj => ?_) (by simp [upd])
       have hjk : j ≠ k := fun e => by
        subst e
        have hcount : ∀ f x, x ∈ deps ops j → j ∉ ancs ops f x := fun f x hx hm => by
         have := ancs_listed inv.closed f x (hd x hx) j hm
         rw [hil] at this
         cases this
        cases hsz' : ops.size with
        | zero => omega
        | succ f =>
         rw [hsz'] at hj
         simp only [ancs, List.erase_cons_head, List.mem_flatMap] at hj
         obtain ⟨x, hx, hm⟩ := hj
         exact hcount f x hx hm
       simp [upd, hjk]
      ·
       rw [getD_set_ne false (Ne.symm hki)] at hk
       have hklt : k < ops.size := by
        rw [← inv.size]
        by_cases hkl : k < listed.size
        ·
         exact hkl
        ·
         simp [hkl] at hk
       refine hJ k iv _ _ _ w w' hklt (fun j hj => ?_) (fun j hj => ?_) hb (hJs k hks hkE hk)
       ·
        have := hne j (ancs_listed inv.closed _ k hk j hj)
        simp [upd, this]
       ·
        have := hne j (ancs_listed inv.closed _ k hk j hj)
        rw [hput _ j this]
     ·
      by_cases hki : k = i
      ·
       subst hki
       simp only [upd, if_pos]
       exact ⟨hB.size, hb.size, Nat.le_refl _⟩
      ·
       rw [getD_set_ne false (Ne.symm hki)] at hk
       simp only [upd, if_neg hki]
       obtain ⟨b1, b2, b3⟩ := hbd k hkE hk
       exact ⟨b1, b2, Nat.le_trans b3 hb.size⟩
     ·
      by_cases hki : k = i
      ·
       subst hki
       have hmk : m ≠ k := Ne.symm hkm
       rw [getD_set_ne false (Ne.symm hmk)] at hm
       simp only [upd, if_pos, if_neg hmk]
       exact Or.inr (hbd m hmE hm).2.2
      ·
       rw [getD_set_ne false (Ne.symm hki)] at hk
       by_cases hmi : m = i
       ·
        subst hmi
        simp only [upd, if_pos, if_neg hki]
        exact Or.inl (hbd k hkE hk).2.2
       ·
        rw [getD_set_ne false (Ne.symm hmi)] at hm
        simp only [upd, if_neg hki, if_neg hmi]
        exact hsep k m hkE hmE hk hm hkm
    ·
     intro hs
     rw [getD_set_ne false his] at hs
     rw [hsl] at hs
     cases hs
theorem wp_region_rg {Q : Exit → Act → World → Prop} {id : Nat} {a0 : Act} {w0 : World} (s : Nat) (E : List Nat) (J : Nat → (Nat → Nat × Nat) → (Nat → Value) → World → Prop) (Fin : (Nat → Value) → World → Prop)
  (hm : P.follows .mixedOrders = true) (hB : rgB ops s E a0.tmps.size = true) (hN : noCopyB ops s E = true)
  (hJ : ∀ i iv iv' vs vs' w w', i < ops.size → Agree (ancs ops ops.size i) iv iv' → Agree (ancs ops ops.size i) vs vs' → Below w.heap.size w w' → J i iv vs w → J i iv' vs' w')
  (hX : ∀ i o t k, i ∈ E → ops[i]? = some o → o.op = .extract (.tmp t) k → ∀ iv vs w, J (srcOf ops t) iv vs w → ∃ arr, vs (srcOf ops t) = .tuple arr ∧ k < arr.size)
  (hF : ∀ vs vs' w, (∀ j, j ≠ s → j ∉ E → vs j = vs' j) → Fin vs w → Fin vs' w)
  (hstep : ∀ i o, ops[i]? = some o → i ≠ s → i ∉ E → ∀ iv vs w, Below w0.heap.size w0 w → (∀ j ∈ ancs ops ops.size i, j ≠ i → J j iv vs w) →
   (∀ j ∈ ancs ops ops.size i, j ≠ i → w0.heap.size ≤ (iv j).1 ∧ (iv j).1 ≤ (iv j).2 ∧ (iv j).2 ≤ w.heap.size) → (∀ j ∈ ancs ops ops.size i, ∀ k ∈ ancs ops ops.size i, j ≠ i → k ≠ i → j ≠ k → Sep (iv j) (iv k)) →
   wpList P ops (fun e a' w' => e = .normal ∧ ∃ v, a' = (putFrom ops.toList 0 vs a0).put o.dst v ∧ Below w.heap.size w w' ∧ (∀ iv', Agree ((ancs ops ops.size i).erase i) iv iv' → iv' i = (w.heap.size, w'.heap.size) → J i iv' (upd vs i v) w')) [o] (putFrom ops.toList 0 vs a0) w)
  (hstore : ∀ o, ops[s]? = some o → ∀ iv vs w, Below w0.heap.size w0 w → (∀ j, j < ops.size → j ≠ s → j ∉ E → J j iv vs w ∧ w0.heap.size ≤ (iv j).1 ∧ (iv j).1 ≤ (iv j).2 ∧ (iv j).2 ≤ w.heap.size) → (∀ j k, j < ops.size → k < ops.size → j ≠ s → k ≠ s → j ∉ E → k ∉ E → j ≠ k → Sep (iv j) (iv k)) →
   wpList P ops (fun e a' w' => e = .normal ∧ a' = putFrom ops.toList 0 vs a0 ∧ Fin vs w') [o] (putFrom ops.toList 0 vs a0) w)
  (hQ : ∀ vs w, (∀ i ∈ E, vs i = lateVal ops i vs) → Fin vs w → Q .normal (putFrom ops.toList 0 vs a0) w) :
  (Code.region id ops true).wp P Q a0 w0 := by
 have sp := rgB_spec hB
 refine wp_region_any hm ?_
 refine wpAny_rg (W := w0) sp hJ hX hF (noCopyB_spec hN) hstep hstore hQ ops.size (List.range ops.size) _ _ _ (by simp) (fun i hi _ => List.mem_range.2 hi) ⟨by simp, rfl, rfl, fun _ _ => rfl, ?_, ?_, ?_, ?_, ?_⟩
 ·
  intro i h
  exfalso
  by_cases hi : i < ops.size <;> simp [hi] at h
 ·
  intro i _ h
  exfalso
  by_cases hi : i < ops.size <;> simp [hi] at h
 ·
  intro i o t k _ _ _ h
  exfalso
  by_cases hi : srcOf ops t < ops.size <;> simp [hi] at h
 ·
  intro _
  have hno : ∀ i, (Array.replicate ops.size false).getD i false = true → False := fun i h => by by_cases hi : i < ops.size <;> simp [hi] at h
  exact ⟨(Below.refl _ _).drew, fun _ => (0, 0), fun i _ _ h => (hno i h).elim, fun i _ h => (hno i h).elim, fun i _ _ _ h => (hno i h).elim⟩
 ·
  intro h
  exfalso
  by_cases hi : s < ops.size <;> simp [hi] at h
def Onward (K : Act → World → Prop) : Exit → Act → World → Prop := fun e a w => e = .normal ∧ K a w
theorem Onward.mk {K : Act → World → Prop} {a : Act} {w : World} (h : K a w) : Onward K .normal a w := ⟨rfl, h⟩
theorem region_rg {Q : Exit → Act → World → Prop} {id : Nat} {a0 : Act} {w0 : World} (s : Nat) (E : List Nat) (l : List Nat) (J : Nat → (Nat → Nat × Nat) → (Nat → Value) → World → Prop) (Fin : (Nat → Value) → World → Prop)
  (hm : P.follows .mixedOrders = true) (hB : rgB ops s E a0.tmps.size = true) (hN : noCopyB ops s E = true)
  (hl : ((List.range ops.size).all fun i => i == s || E.contains i || l.contains i) = true)
  (hJ : ∀ i ∈ l, ∀ iv iv' vs vs' w w', Hid (Agree (ancs ops ops.size i) iv iv') → Hid (Agree (ancs ops ops.size i) vs vs') → Below w.heap.size w w' → J i iv vs w → J i iv' vs' w')
  (hX : ∀ i o t k, i ∈ E → ops[i]? = some o → o.op = .extract (.tmp t) k → ∀ iv vs w, J (srcOf ops t) iv vs w → ∃ arr, vs (srcOf ops t) = .tuple arr ∧ k < arr.size)
  (hF : ∀ vs vs' w, (∀ j ∈ l, vs j = vs' j) → Fin vs w → Fin vs' w)
  (hstep : ∀ i ∈ l, ∀ o, ops[i]? = some o → ∀ iv vs w, Below w0.heap.size w0 w → Hid (∀ j ∈ ancs ops ops.size i, j ≠ i → J j iv vs w) →
   Hid (∀ j ∈ ancs ops ops.size i, j ≠ i → w0.heap.size ≤ (iv j).1 ∧ (iv j).1 ≤ (iv j).2 ∧ (iv j).2 ≤ w.heap.size) → Hid (∀ j ∈ ancs ops ops.size i, ∀ k ∈ ancs ops ops.size i, j ≠ i → k ≠ i → j ≠ k → Sep (iv j) (iv k)) →
   ∀ K : Act → World → Prop, (∀ v a' w', a' = (putFrom ops.toList 0 vs a0).put o.dst v → Below w.heap.size w w' →
    (∀ iv', Hid (Agree ((ancs ops ops.size i).erase i) iv iv') → iv' i = (w.heap.size, w'.heap.size) → J i iv' (upd vs i v) w') → K a' w') → wpList P ops (Onward K) [o] (putFrom ops.toList 0 vs a0) w)
  (hstore : ∀ o, ops[s]? = some o → ∀ iv vs w, Below w0.heap.size w0 w → Hid (∀ j ∈ l, J j iv vs w ∧ w0.heap.size ≤ (iv j).1 ∧ (iv j).1 ≤ (iv j).2 ∧ (iv j).2 ≤ w.heap.size) →
   Hid (∀ j ∈ l, ∀ k ∈ l, j ≠ k → Sep (iv j) (iv k)) → ∀ K : Act → World → Prop, (∀ a' w', a' = putFrom ops.toList 0 vs a0 → Fin vs w' → K a' w') → wpList P ops (Onward K) [o] (putFrom ops.toList 0 vs a0) w)
  (hQ : ∀ vs w, (∀ i ∈ E, vs i = lateVal ops i vs) → Fin vs w → Q .normal (putFrom ops.toList 0 vs a0) w)
  (hls : (l.all fun i => i != s && !E.contains i && decide (i < ops.size)) = true) :
  (Code.region id ops true).wp P Q a0 w0 := by
 have hin : ∀ i, i < ops.size → i ≠ s → i ∉ E → i ∈ l := by
  intro i hi hs hE
  have := List.all_eq_true.1 hl i (List.mem_range.2 hi)
  simp only [Bool.or_eq_true, beq_iff_eq, List.contains_iff_mem] at this
  rcases this with (h | h) | h
  ·
   exact absurd h hs
  ·
   exact absurd h hE
  ·
   exact h
 have hout : ∀ i ∈ l, i ≠ s ∧ i ∉ E ∧ i < ops.size := by
  intro i hi
  have := List.all_eq_true.1 hls i hi
  simp only [Bool.and_eq_true, bne_iff_ne, Bool.not_eq_true', decide_eq_true_eq] at this
  refine ⟨this.1.1, fun hm => ?_, this.2⟩
  have h2 := this.1.2
  rw [← Bool.not_eq_true, List.contains_iff_mem] at h2
  exact h2 hm
 -- J of what is not in l says nothing
 refine wp_region_rg s E (fun i iv vs w => i ∈ l → J i iv vs w) Fin hm hB hN ?_ (fun i o t k hi ho hop iv vs w h => hX i o t k hi ho hop iv vs w (h (by
  obtain ⟨o3, ho3, _, h1 | ⟨v, h1⟩ | ⟨t3, k3, p, h1, _, h4, _, h2, h2'⟩⟩ := (rgB_spec hB).lates i hi
  ·
   obtain ⟨_, _, h1, _⟩ := h1
   rw [ho] at ho3; cases ho3
   rcases h1 with h1 | h1 <;> rw [hop] at h1 <;> cases h1
  ·
   rw [ho] at ho3; cases ho3
   rw [hop] at h1; cases h1
  ·
   rw [ho] at ho3; cases ho3
   rw [hop] at h1; cases h1
   exact hin _ (Array.getElem?_eq_some_iff.1 h4).1 h2' h2))) ?_ ?_ ?_ hQ
 ·
  intro i iv iv' vs vs' w w' _ h1 h2 h3 h4 hi
  exact hJ i hi iv iv' vs vs' w w' (Lib.hid h1) (Lib.hid h2) h3 (h4 hi)
 ·
  intro vs vs' w h hf
  exact hF vs vs' w (fun j hj => h j (hout j hj).1 (hout j hj).2.1) hf
 ·
  intro i o ho hs hE iv vs w hb hd hbd hsep
  have hi := hin i (Array.getElem?_eq_some_iff.1 ho).1 hs hE
  have hnE := noCopyB_spec hN i (Array.getElem?_eq_some_iff.1 ho).1 hs hE
  have key := hstep i hi o ho iv vs w hb
  -- what is waited for is in l, unless it is the store
  by_cases hsa : s ∈ ancs ops ops.size i
  ·
   exfalso
   exact absurd hsa (by
    intro hsa
    have sp := rgB_spec hB
    -- the store is waited for by none: s is waited for by i directly or through others, and i by s
    have hlt : ∀ f j k, j < ops.size → k ∈ ancs ops f j → k ≤ j := by
     intro f
     induction f with
     | zero => intro j k _ hk; simp only [ancs, List.mem_singleton] at hk; omega
     | succ f ih =>
      intro j k hj hk
      simp only [ancs, List.mem_cons, List.mem_flatMap] at hk
      rcases hk with rfl | ⟨x, hx, hk⟩
      ·
       exact Nat.le_refl _
      ·
       have hxj := sp.back j hj x hx
       have := ih x k (by omega) hk
       omega
    have hil := (Array.getElem?_eq_some_iff.1 ho).1
    have h1 := hlt _ i s hil hsa
    -- i is below s by the chain
    have h2 : ∀ m i, ops.size - i ≤ m → i < ops.size → i ≠ s → i ∉ E → i < s := by
     intro m
     induction m with
     | zero => intro i h1 h2; omega
     | succ m ih =>
      intro i h1 h2 h3 h4
      obtain ⟨j, hj, hjs, hij, hd⟩ := sp.chain i h2 h3 h4
      by_cases hjs' : j = s
      ·
       omega
      ·
       have := ih j (by omega) hj hjs' (hjs.resolve_left hjs')
       omega
    have := h2 _ i (Nat.le_refl _) hil hs hE
    omega)
  ·
   have hal : ∀ j ∈ ancs ops ops.size i, j ≠ i → j < ops.size → j ∈ l := fun j hj hji hlt => hin j hlt (fun e => hsa (e ▸ hj)) (hnE j hj hji)
   have halt : ∀ f j k, j < ops.size → k ∈ ancs ops f j → k < ops.size := by
    intro f
    induction f with
    | zero => intro j k hj hk; simp only [ancs, List.mem_singleton] at hk; omega
    | succ f ih =>
     intro j k hj hk
     simp only [ancs, List.mem_cons, List.mem_flatMap] at hk
     rcases hk with rfl | ⟨x, hx, hk⟩
     ·
      exact hj
     ·
      have hxj := (rgB_spec hB).back j hj x hx
      exact ih x k (by omega) hk
   have hil := (Array.getElem?_eq_some_iff.1 ho).1
   have := key (Lib.hid fun j hj hji => hd j hj hji (hal j hj hji (halt _ i j hil hj))) (Lib.hid hbd) (Lib.hid hsep)
    (fun a' w' => ∃ v, a' = (putFrom ops.toList 0 vs a0).put o.dst v ∧ Below w.heap.size w w' ∧ (∀ iv', Agree ((ancs ops ops.size i).erase i) iv iv' → iv' i = (w.heap.size, w'.heap.size) → i ∈ l → J i iv' (upd vs i v) w'))
    (fun v a' w' h1 h2 h3 => ⟨v, h1, h2, fun iv' h4 h5 _ => h3 iv' (Lib.hid h4) h5⟩)
   exact this
 ·
  intro o ho iv vs w hb hd hsep
  have := hstore o ho iv vs w hb (Lib.hid fun j hj => by
    obtain ⟨h1, h2, h3⟩ := hout j hj
    obtain ⟨h4, h5⟩ := hd j h3 h1 h2
    exact ⟨h4 hj, h5⟩) (Lib.hid fun j hj k hk hjk => hsep j k (hout j hj).2.2 (hout k hk).2.2 (hout j hj).1 (hout k hk).1 (hout j hj).2.1 (hout k hk).2.1 hjk)
   (fun a' w' => a' = putFrom ops.toList 0 vs a0 ∧ Fin vs w') (fun a' w' h1 h2 => ⟨h1, h2⟩)
  exact this
end
theorem mem_of {l : List Nat} {j : Nat} (h : l.contains j = true) : j ∈ l := by simpa using h
def FreshIn (p : Nat × Nat) (w : World) (ds : List D) (vs : List Value) : Prop := ∃ F : List Nat, Ows w ds vs F ∧ F.Nodup ∧ ∀ b ∈ F, p.1 ≤ b ∧ b < p.2
theorem Freshs.stretch {w w' : World} {ds : List D} {vs : List Value} (h : Freshs w w' ds vs) : FreshIn (w.heap.size, w'.heap.size) w' ds vs := by
 obtain ⟨F, h1, h2, h3⟩ := h
 exact ⟨F, h1, h2, fun b hm => ⟨h3 b hm, h1.lt b hm⟩⟩
end Go.Proofs.Ytfhlddbngjlhbaa
