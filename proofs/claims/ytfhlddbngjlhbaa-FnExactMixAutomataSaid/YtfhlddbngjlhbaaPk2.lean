/-
  Parts of a proof, joined: Rs, Text, Expr, Own, Sig, Ints, Trace, Grow, TidyP, StP. No condition.
-/
import Derived.Test.YtfhlddbngjlhbaaProg
import Derived.Lib.ItoaNum
import Derived.Lib.Bytealg
import Derived.Shelf.SlSortCmp.WholeK
import Derived.Lib.AppendStr
import Derived.Test.YtfhlddbngjlhbaaPk1
namespace Go.Proofs.Ytfhlddbngjlhbaa
set_option linter.unusedVariables false
set_option linter.unusedSimpArgs false
open Go.ChangeShapes Go.WideShapes Go.ChangeAt Go.RowKit Go.Deep
structure Spares (X : Nat → Prop) (w w' : World) : Prop where
 os : w'.os = w.os
 tape : w'.tape = w.tape
 output : w'.output = w.output
 size : w.heap.size ≤ w'.heap.size
 block : ∀ b, b < w.heap.size → ¬ X b → w'.heap[b]? = w.heap[b]?
theorem Spares.of_below {X : Nat → Prop} {w w' : World} (h : Below w.heap.size w w') : Spares X w w' := ⟨h.os, h.tape, h.output, h.size, fun b hb _ => h.block b hb⟩
theorem Spares.below {X : Nat → Prop} {w w' : World} {B : Nat} (h : Spares X w w') (hB : B ≤ w.heap.size) (hX : ∀ b, X b → B ≤ b) : Below B w w' :=
 ⟨h.os, h.tape, h.output, h.size, fun b hb => h.block b (by omega) (fun hx => by have := hX b hx; omega)⟩
theorem Spares.more {X Y : Nat → Prop} {w w' : World} (h : Spares X w w') (hs : ∀ b, X b → Y b) : Spares Y w w' := ⟨h.os, h.tape, h.output, h.size, fun b hb hn => h.block b hb (fun hx => hn (hs b hx))⟩
theorem Spares.trans {X : Nat → Prop} {a b c : World} (h : Spares X a b) (k : Spares X b c) : Spares X a c :=
 ⟨k.os.trans h.os, k.tape.trans h.tape, k.output.trans h.output, Nat.le_trans h.size k.size, fun i hi hn => (k.block i (Nat.lt_of_lt_of_le hi h.size) hn).trans (h.block i hi hn)⟩
theorem Spares.refl {X : Nat → Prop} (w : World) : Spares X w w := ⟨rfl, rfl, rfl, Nat.le_refl _, fun _ _ _ => rfl⟩
theorem Spares.set {b0 o : Nat} {w w' : World} {v : Value} (h : Spares (fun b => b = b0) w w') : Spares (fun b => b = b0) w (w'.setCell ⟨b0, o, none⟩ v) :=
 h.trans ⟨rfl, rfl, rfl, by simp [World.setCell], fun k _ hn => Below.heap_setCell _ _ _ _ hn⟩
theorem spares_sets {b0 : Nat} {w w' : World} (h : Spares (fun b => b = b0) w w') : Spares (fun b => b = b0) w w' := h
def eatsOf (C : List (Nat × Nat)) (i : Nat) : List Nat := (C.filter fun p => p.1 == i).map (·.2)
theorem mem_eatsOf {C : List (Nat × Nat)} {i c : Nat} : c ∈ eatsOf C i ↔ (i, c) ∈ C := by
 unfold eatsOf
 simp only [List.mem_map, List.mem_filter, beq_iff_eq]
 constructor
 ·
  rintro ⟨⟨x, y⟩, ⟨h, rfl⟩, rfl⟩; exact h
 ·
  intro h; exact ⟨(i, c), ⟨h, rfl⟩, rfl⟩
def chainOf (C : List (Nat × Nat)) : Nat → Nat → List Nat
 | 0, i => [i]
 | f + 1, i => i :: (eatsOf C i).flatMap (chainOf C f)
theorem chainOf_self (C : List (Nat × Nat)) (f i : Nat) : i ∈ chainOf C f i := by cases f <;> simp [chainOf]
def rsB (ops : Array Oper) (size : Nat) (C D : List (Nat × Nat)) : Bool :=
 (List.range ops.size).all (fun i =>
  (deps ops i).all (· < i) && (chainOf C ops.size i).all (fun x => (ancs ops ops.size i).contains x) &&
  (match ops[i]? with
   | some o => (match o.dst with
    | some d => decide (d < size) && (List.range ops.size).all (fun j => j == i || (ops[j]?).all (fun p => p.dst != some d))
    | none => true)
   | none => false)) &&
 C.all (fun p => (ancs ops ops.size p.1).contains p.2 && p.2 != p.1 && decide (p.1 < ops.size) && C.all (fun q => q.2 != p.2 || q.1 == p.1) &&
  (List.range ops.size).all (fun k => k == p.1 || k == p.2 || (chainOf C ops.size k).all (fun x => !(chainOf C ops.size p.2).contains x) || (ancs ops ops.size k).contains p.1 || C.any (fun q => q.2 == k && (ancs ops ops.size p.2).contains q.1))) &&
 D.all (fun p => decide (p.1 < ops.size) && D.all (fun q => q.2 != p.2 || q.1 == p.1))
def sureB (ops : Array Oper) (C : List (Nat × Nat)) (i j : Nat) : Bool := C.all fun p => p.2 != j || p.1 == i || (ancs ops ops.size p.1).contains i
def sureGB (ops : Array Oper) (D : List (Nat × Nat)) (i m : Nat) : Bool := D.all fun p => p.2 != m || p.1 == i || (ancs ops ops.size p.1).contains i
structure RsSpec (ops : Array Oper) (size : Nat) (C D : List (Nat × Nat)) : Prop where
 back : ∀ i, i < ops.size → ∀ j ∈ deps ops i, j < i
 chain : ∀ i, i < ops.size → ∀ x ∈ chainOf C ops.size i, x ∈ ancs ops ops.size i
 dst : ∀ (i : Nat) (o : Oper), ops[i]? = some o → ∀ d, o.dst = some d → d < size ∧ ∀ (j : Nat) (p : Oper), ops[j]? = some p → j ≠ i → p.dst ≠ some d
 anc : ∀ i c, (i, c) ∈ C → c ∈ ancs ops ops.size i ∧ c ≠ i ∧ i < ops.size
 one : ∀ i c k, (i, c) ∈ C → (k, c) ∈ C → k = i
 apart : ∀ i c, (i, c) ∈ C → ∀ k, k < ops.size → k ≠ i → k ≠ c → (∀ x ∈ chainOf C ops.size k, x ∉ chainOf C ops.size c) ∨ i ∈ ancs ops ops.size k ∨ ∃ q, (q, k) ∈ C ∧ q ∈ ancs ops ops.size c
 given : ∀ i m k, (i, m) ∈ D → (k, m) ∈ D → k = i
theorem rsB_spec {ops : Array Oper} {size : Nat} {C D : List (Nat × Nat)} (h : rsB ops size C D = true) : RsSpec ops size C D := by
 simp only [rsB, Bool.and_eq_true] at h
 obtain ⟨⟨h1, h2⟩, h3⟩ := h
 have h1' := fun i (hi : i < ops.size) => List.all_eq_true.1 h1 i (List.mem_range.2 hi)
 have h2' := fun i c (hi : (i, c) ∈ C) => List.all_eq_true.1 h2 (i, c) hi
 refine ⟨?_, ?_, ?_, ?_, ?_, ?_, ?_⟩
 ·
  intro i hi j hj
  have := h1' i hi
  simp only [Bool.and_eq_true] at this
  simpa using List.all_eq_true.1 this.1.1 j hj
 ·
  intro i hi x hx
  have := h1' i hi
  simp only [Bool.and_eq_true] at this
  simpa using List.all_eq_true.1 this.1.2 x hx
 ·
  intro i o hi d hd
  have hlt := (Array.getElem?_eq_some_iff.1 hi).1
  have := h1' i hlt
  simp only [Bool.and_eq_true] at this
  have h := this.2
  rw [hi] at h
  simp only [hd, Bool.and_eq_true, decide_eq_true_eq] at h
  refine ⟨h.1, fun j p hj hji => ?_⟩
  have hjlt := (Array.getElem?_eq_some_iff.1 hj).1
  have := List.all_eq_true.1 h.2 j (List.mem_range.2 hjlt)
  rw [hj] at this
  simpa [hji] using this
 ·
  intro i c hi
  have := h2' i c hi
  simp only [Bool.and_eq_true, decide_eq_true_eq, bne_iff_ne, List.contains_iff_mem] at this
  exact ⟨this.1.1.1.1, this.1.1.1.2, this.1.1.2⟩
 ·
  intro i c k hi hk
  have := h2' i c hi
  simp only [Bool.and_eq_true] at this
  have := List.all_eq_true.1 this.1.2 (k, c) hk
  simpa using this
 ·
  intro i c hi k hk hki hkc
  have := h2' i c hi
  simp only [Bool.and_eq_true] at this
  have := List.all_eq_true.1 this.2 k (List.mem_range.2 hk)
  simp only [Bool.or_eq_true, beq_iff_eq, List.contains_iff_mem] at this
  rcases this with (((h | h) | h) | h) | h
  ·
   exact absurd h hki
  ·
   exact absurd h hkc
  ·
   refine Or.inl fun x hx hx' => ?_
   have := List.all_eq_true.1 h x hx
   rw [Bool.not_eq_true', ← Bool.not_eq_true, List.contains_iff_mem] at this
   exact this hx'
  ·
   exact Or.inr (Or.inl h)
  ·
   obtain ⟨⟨q, k'⟩, hq, h'⟩ := List.any_eq_true.1 h
   simp only [Bool.and_eq_true, beq_iff_eq, List.contains_iff_mem] at h'
   obtain ⟨rfl, h'⟩ := h'
   exact Or.inr (Or.inr ⟨q, hq, h'⟩)
 ·
  intro i m k hi hk
  have := List.all_eq_true.1 h3 (i, m) hi
  simp only [Bool.and_eq_true] at this
  have := List.all_eq_true.1 this.2 (k, m) hk
  simpa using this
def foot (C D : List (Nat × Nat)) (G : Nat → Nat → Prop) (n i : Nat) (iv : Nat → Nat × Nat) (b : Nat) : Prop :=
 ∃ j ∈ chainOf C n i, ((iv j).1 ≤ b ∧ b < (iv j).2) ∨ ∃ m, (j, m) ∈ D ∧ G m b
def bite (C D : List (Nat × Nat)) (G : Nat → Nat → Prop) (n i : Nat) (iv : Nat → Nat × Nat) (b : Nat) : Prop :=
 (∃ m, (i, m) ∈ D ∧ G m b) ∨ ∃ c, (i, c) ∈ C ∧ foot C D G n c iv b
theorem foot_own {C D : List (Nat × Nat)} {G : Nat → Nat → Prop} {n i : Nat} {iv : Nat → Nat × Nat} {b : Nat} (h1 : (iv i).1 ≤ b) (h2 : b < (iv i).2) : foot C D G n i iv b := ⟨i, chainOf_self _ _ _, Or.inl ⟨h1, h2⟩⟩
theorem foot_agree {C D : List (Nat × Nat)} {G : Nat → Nat → Prop} {n i : Nat} {iv iv' : Nat → Nat × Nat} {l : List Nat} (hl : ∀ x ∈ chainOf C n i, x ∈ l) (h : Agree l iv iv') {b : Nat} (hf : foot C D G n i iv b) : foot C D G n i iv' b := by
 obtain ⟨j, hj, hb⟩ := hf
 exact ⟨j, hj, by rw [← h j (hl j hj)]; exact hb⟩
structure RsInv (ops : Array Oper) (C D : List (Nat × Nat)) (G : Nat → Nat → Prop) (a0 : Act) (W : World) (J : Nat → (Nat → Nat × Nat) → (Nat → Value) → World → Prop) (JE : Nat → (Nat → Nat × Nat) → (Nat → Value) → Prop)
  (listed : Array Bool) (a : Act) (w : World) : Prop where
 size : listed.size = ops.size
 defers : a0.defers = a.defers
 tmps : a0.tmps.size = a.tmps.size
 off : ∀ t, (∀ o ∈ ops.toList, o.dst ≠ some t) → a0.tmps[t]? = a.tmps[t]?
 closed : ∀ i, listed.getD i false = true → ∀ j ∈ deps ops i, listed.getD j false = true
 rest : ∀ i, listed.getD i false = false → slots ops a i = slots ops a0 i
 turned : Spares (fun b => ∃ i m, listed.getD i false = true ∧ (i, m) ∈ D ∧ G m b) W w
 facts : ∃ iv : Nat → Nat × Nat, (∀ i, listed.getD i false = true → (∀ k, (k, i) ∈ C → listed.getD k false = false) → J i iv (slots ops a) w) ∧ (∀ i, listed.getD i false = true → JE i iv (slots ops a)) ∧
  (∀ i, listed.getD i false = true → W.heap.size ≤ (iv i).1 ∧ (iv i).1 ≤ (iv i).2 ∧ (iv i).2 ≤ w.heap.size) ∧
  (∀ i j, listed.getD i false = true → listed.getD j false = true → i ≠ j → Sep (iv i) (iv j))
section
variable {P : Program} {ops : Array Oper}
theorem wpAny_rs {Q : Exit → Act → World → Prop} {C D : List (Nat × Nat)} {G : Nat → Nat → Prop} {a0 : Act} {W : World} {J : Nat → (Nat → Nat × Nat) → (Nat → Value) → World → Prop} {JE : Nat → (Nat → Nat × Nat) → (Nat → Value) → Prop}
  (sp : RsSpec ops a0.tmps.size C D) (hG : ∀ m m' b, G m b → G m' b → m = m') (hGW : ∀ m b, G m b → b < W.heap.size)
  (hJ : ∀ i iv iv' vs vs' w w', i < ops.size → Agree (ancs ops ops.size i) iv iv' → Agree (ancs ops ops.size i) vs vs' → w.heap.size ≤ w'.heap.size → (∀ b, b < w.heap.size → foot C D G ops.size i iv b → w'.heap[b]? = w.heap[b]?) → J i iv vs w → J i iv' vs' w')
  (hE : ∀ i iv vs w, i < ops.size → J i iv vs w → JE i iv vs)
  (hEE : ∀ i iv iv' vs vs', i < ops.size → Agree (ancs ops ops.size i) iv iv' → Agree (ancs ops ops.size i) vs vs' → JE i iv vs → JE i iv' vs')
  (hstep : ∀ i o, ops[i]? = some o → ∀ iv vs w, Spares (fun b => ∃ m, G m b ∧ sureGB ops D i m = false) W w → (∀ j ∈ ancs ops ops.size i, j ≠ i → sureB ops C i j = true → J j iv vs w) → (∀ j ∈ ancs ops ops.size i, j ≠ i → JE j iv vs) →
   (∀ j ∈ ancs ops ops.size i, j ≠ i → W.heap.size ≤ (iv j).1 ∧ (iv j).1 ≤ (iv j).2 ∧ (iv j).2 ≤ w.heap.size) → (∀ j ∈ ancs ops ops.size i, ∀ k ∈ ancs ops ops.size i, j ≠ i → k ≠ i → j ≠ k → Sep (iv j) (iv k)) → (∀ k, i ∈ ancs ops ops.size k → vs k = slots ops a0 k) →
   wpList P ops (fun e a' w' => e = .normal ∧ ∃ v, (o.dst = none → v = undef) ∧ a' = (putFrom ops.toList 0 vs a0).put o.dst v ∧ Spares (bite C D G ops.size i iv) w w' ∧
    (∀ iv', Agree ((ancs ops ops.size i).erase i) iv iv' → iv' i = (w.heap.size, w'.heap.size) → J i iv' (upd vs i v) w')) [o] (putFrom ops.toList 0 vs a0) w)
  (hQ : ∀ iv vs w, Spares (fun b => ∃ i m, (i, m) ∈ D ∧ G m b) W w → (∀ i, i < ops.size → (∀ k, (k, i) ∉ C) → J i iv vs w) → (∀ i, i < ops.size → JE i iv vs) →
   (∀ i, i < ops.size → W.heap.size ≤ (iv i).1 ∧ (iv i).1 ≤ (iv i).2 ∧ (iv i).2 ≤ w.heap.size) → (∀ i j, i < ops.size → j < ops.size → i ≠ j → Sep (iv i) (iv j)) → Q .normal (putFrom ops.toList 0 vs a0) w) :
  ∀ (fuel : Nat) (U : List Nat) (listed : Array Bool) (a : Act) (w : World), U.length ≤ fuel → (∀ i, i < ops.size → listed.getD i false = false → i ∈ U) → RsInv ops C D G a0 W J JE listed a w → wpAny P .any ops Q fuel listed a w := by
 have self : ∀ (listed : Array Bool) (a : Act) (w : World), RsInv ops C D G a0 W J JE listed a w → putFrom ops.toList 0 (slots ops a) a0 = a := by
  intro listed a w inv
  refine putFrom_self _ _ _ _ _ inv.defers inv.tmps inv.off (fun j o hj => ?_)
  unfold slots
  rw [Nat.zero_add, show ops[j]? = some o by simpa using hj]
 have done : ∀ (listed : Array Bool) (a : Act) (w : World), RsInv ops C D G a0 W J JE listed a w → (∀ i, i < ops.size → listed.getD i false = true) → Q .normal a w := by
  intro listed a w inv hall
  obtain ⟨iv, f1, f2, f3, f4⟩ := inv.facts
  have := hQ iv (slots ops a) w (inv.turned.more fun b ⟨i, m, _, h1, h2⟩ => ⟨i, m, h1, h2⟩) (fun i hi hk => f1 i (hall i hi) (fun k hm => absurd hm (hk k))) (fun i hi => f2 i (hall i hi)) (fun i hi => f3 i (hall i hi)) (fun i j hi hj => f4 i j (hall i hi) (hall j hj))
  rwa [self listed a w inv] at this
 have allOf : ∀ (listed : Array Bool), listed.size = ops.size → Region.ready .any ops listed = [] → ∀ i, i < ops.size → listed.getD i false = true := by
  intro listed hsz hr i
  induction i using Nat.strongRecOn with
  | _ i ih =>
   intro hi
   cases hl : listed.getD i false with
   | true => rfl
   | false =>
    exfalso
    have hm : i ∈ Region.ready .any ops listed := by
     rw [mem_ready]
     refine ⟨by simp [hsz, hi] at hl ⊢; exact hl, ops[i], by simp [hi], fun e he hb => ?_⟩
     have hd : e.on ∈ deps ops i := (mem_deps (by simp [hi])).2 ⟨e, he, hb, rfl⟩
     have := sp.back i hi _ hd
     exact ih _ this (by omega)
    rw [hr] at hm
    cases hm
 intro fuel
 induction fuel with
 | zero =>
  intro U listed a w hU hun inv
  have hall : ∀ i, i < ops.size → listed.getD i false = true := by
   intro i hi
   cases hl : listed.getD i false with
   | true => rfl
   | false =>
    have := hun i hi hl
    rw [List.eq_nil_of_length_eq_zero (Nat.le_zero.1 hU)] at this
    cases this
  refine ⟨?_, done listed a w inv hall⟩
  apply List.eq_nil_iff_forall_not_mem.2
  intro i hi
  obtain ⟨h1, o, ho, _⟩ := mem_ready.1 hi
  have hlt := (Array.getElem?_eq_some_iff.1 ho).1
  have h2 := hall i hlt
  have h3 := getD_false_of (by rw [inv.size]; exact hlt) h1
  rw [h2] at h3
  cases h3
 | succ fuel ih =>
  intro U listed a w hU hun inv
  refine ⟨fun hr => done listed a w inv (allOf listed inv.size hr), fun i hi => ?_⟩
  obtain ⟨h1, o, ho, hdeps⟩ := mem_ready.1 hi
  have hlt : i < ops.size := (Array.getElem?_eq_some_iff.1 ho).1
  have hltl : i < listed.size := by rw [inv.size]; exact hlt
  have hil := getD_false_of hltl h1
  have hd : ∀ j ∈ deps ops i, listed.getD j false = true := fun j hj => by
   obtain ⟨e, he, hb, rfl⟩ := (mem_deps ho).1 hj
   exact hdeps e he hb
  have hself := self listed a w inv
  have hU' : (U.erase i).length ≤ fuel := by
   rw [List.length_erase_of_mem (hun i hlt hil)]
   omega
  have hun' : ∀ k, k < ops.size → (listed.setIfInBounds i true).getD k false = false → k ∈ U.erase i := by
   intro k hk hkl
   by_cases hki : k = i
   ·
    subst hki
    rw [getD_set_self hltl] at hkl
    cases hkl
   ·
    rw [getD_set_ne false (Ne.symm hki)] at hkl
    exact (List.mem_erase_of_ne hki).2 (hun k hk hkl)
  have hclosed : ∀ k, (listed.setIfInBounds i true).getD k false = true → ∀ j ∈ deps ops k, (listed.setIfInBounds i true).getD j false = true := by
   intro k hk j hj
   by_cases hki : k = i
   ·
    subst hki
    exact getD_set_true (hd j hj)
   ·
    rw [getD_set_ne false (Ne.symm hki)] at hk
    exact getD_set_true (inv.closed k hk j hj)
  have hsz : (listed.setIfInBounds i true).size = ops.size := by rw [Array.size_setIfInBounds]; exact inv.size
  have llt : ∀ k, listed.getD k false = true → k < ops.size := by
   intro k hk
   rw [← inv.size]
   by_cases hkl : k < listed.size
   ·
    exact hkl
   ·
    simp [hkl] at hk
  have hput : ∀ v k, k ≠ i → slots ops (a.put o.dst v) k = slots ops a k := by
   intro v k hk
   unfold slots
   cases hok : ops[k]? with
   | none => rfl
   | some p => exact slotOf_put (fun d' hd' => (sp.dst i o ho d' hd').2 k p hok hk)
  have hputi : ∀ v, (o.dst = none → v = undef) → slots ops (a.put o.dst v) i = v := by
   intro v hv
   unfold slots
   rw [ho]
   simp only
   cases hdst : o.dst with
   | none =>
    rw [hv hdst]
    simp only [slotOf, hdst]
   | some d =>
    have := slotOf_same (o := o) (a := a) (v := v) hdst (by rw [← inv.tmps]; exact (sp.dst i o ho d hdst).1)
    rw [hdst] at this
    exact this
  have hoff : ∀ v t, (∀ p ∈ ops.toList, p.dst ≠ some t) → a0.tmps[t]? = (a.put o.dst v).tmps[t]? := by
   intro v t ht
   rw [inv.off t ht]
   cases hdst : o.dst with
   | none => rfl
   | some d =>
    have hne : d ≠ t := fun e => ht o (by rw [Array.mem_toList_iff]; exact Array.mem_of_getElem? ho) (by rw [hdst, e])
    simp [Act.put, Array.getElem?_setIfInBounds_ne hne]
  have hdef : ∀ v, a0.defers = (a.put o.dst v).defers := fun v => by cases o.dst <;> exact inv.defers
  have hts : ∀ v, a0.tmps.size = (a.put o.dst v).tmps.size := fun v => by cases o.dst <;> simpa [Act.put] using inv.tmps
  obtain ⟨iv, f1, f2, f3, f4⟩ := inv.facts
  -- what an operation waits for is listed
  have hanc : ∀ j ∈ ancs ops ops.size i, j ≠ i → listed.getD j false = true := by
   have hc' : ∀ f k, k ∈ deps ops i → ∀ j ∈ ancs ops f k, listed.getD j false = true := fun f k hk j hj => ancs_listed inv.closed f k (hd k hk) j hj
   intro j hj hji
   cases hsz' : ops.size with
   | zero => omega
   | succ f =>
    rw [hsz'] at hj
    simp only [ancs, List.mem_cons, List.mem_flatMap] at hj
    rcases hj with hj | ⟨k, hk, hj⟩
    ·
     exact absurd hj hji
    ·
     exact hc' f k hk j hj
  have hla : ∀ k, listed.getD k false = true → ∀ j ∈ ancs ops ops.size k, listed.getD j false = true := fun k hk j hj => ancs_listed inv.closed _ k hk j hj
  have hlc : ∀ k, listed.getD k false = true → ∀ j ∈ chainOf C ops.size k, listed.getD j false = true := fun k hk j hj => hla k hk j (sp.chain k (llt k hk) j hj)
  have hni : ∀ k, listed.getD k false = true → k ≠ i := fun k hk e => by rw [e, hil] at hk; cases hk
  have herase : ∀ j ∈ (ancs ops ops.size i).erase i, j ≠ i := by
   intro j hj e
   subst e
   have hcount : ∀ f x, x ∈ deps ops j → j ∉ ancs ops f x := fun f x hx hm => by
    have := ancs_listed inv.closed f x (hd x hx) j hm
    rw [hil] at this
    cases this
   cases hsz' : ops.size with
   | zero => omega
   | succ f =>
    rw [hsz'] at hj
    simp only [ancs, List.erase_cons_head, List.mem_flatMap] at hj
    obtain ⟨x, hx, hm⟩ := hj
    exact hcount f x hx hm
  have := hstep i o ho iv (slots ops a) w
   ⟨inv.turned.os, inv.turned.tape, inv.turned.output, inv.turned.size, fun b hb hn => inv.turned.block b hb (by
    rintro ⟨k, m, hk, hm, hg⟩
    cases hs : sureGB ops D i m with
    | false => exact hn ⟨m, hg, hs⟩
    | true =>
     have := List.all_eq_true.1 hs (k, m) hm
     simp only [Bool.or_eq_true, beq_iff_eq, List.contains_iff_mem, bne_iff_ne] at this
     rcases this with (h | h) | h
     ·
      exact h rfl
     ·
      exact hni k hk h
     ·
      have := hla k hk i h
      rw [hil] at this
      cases this)⟩
   (fun j hj hji hs => f1 j (hanc j hj hji) (fun k hk => by
    cases hl : listed.getD k false with
    | false => rfl
    | true =>
     exfalso
     have := List.all_eq_true.1 hs (k, j) hk
     simp only [Bool.or_eq_true, beq_iff_eq, List.contains_iff_mem, bne_iff_ne] at this
     rcases this with (h | h) | h
     ·
      exact h rfl
     ·
      exact hni k hl h
     ·
      have := hla k hl i h
      rw [hil] at this
      cases this))
   (fun j hj hji => f2 j (hanc j hj hji)) (fun j hj hji => f3 j (hanc j hj hji)) (fun j hj k hk hji hki hjk => f4 j k (hanc j hj hji) (hanc k hk hki) hjk)
   (fun k hk => inv.rest k (by
    cases hl : listed.getD k false with
    | false => rfl
    | true =>
     exfalso
     have := hla k hl i hk
     rw [hil] at this
     cases this))
  rw [hself] at this
  refine wpOp_of_list ho this ?_ (fun e a' w' he h => he h.1)
  rintro a' w' ⟨_, v, hv, rfl, ht, hJv⟩
  have hup : slots ops (a.put o.dst v) = upd (slots ops a) i v := by
   funext k
   unfold upd
   by_cases hki : k = i
   ·
    subst hki; rw [if_pos rfl, hputi v hv]
   ·
    rw [if_neg hki, hput _ k hki]
  have hJi : J i (upd iv i (w.heap.size, w'.heap.size)) (slots ops (a.put o.dst v)) w' := by
   rw [hup]
   exact hJv _ (fun j hj => by simp [upd, herase j hj]) (by simp [upd])
  refine ih (U.erase i) _ _ w' hU' hun' ⟨hsz, hdef v, hts v, hoff v, hclosed, ?_, ?_, upd iv i (w.heap.size, w'.heap.size), ?_, ?_, ?_, ?_⟩
  ·
   intro k hk
   by_cases hki : k = i
   ·
    subst hki
    rw [getD_set_self hltl] at hk
    cases hk
   ·
    rw [getD_set_ne false (Ne.symm hki)] at hk
    rw [hput _ k hki]
    exact inv.rest k hk
  ·
   -- the old blocks
   refine ⟨ht.os.trans inv.turned.os, ht.tape.trans inv.turned.tape, ht.output.trans inv.turned.output, Nat.le_trans inv.turned.size ht.size, fun b hb hn => ?_⟩
   refine (ht.block b (Nat.lt_of_lt_of_le hb inv.turned.size) ?_).trans (inv.turned.block b hb ?_)
   ·
    rintro (⟨m, hm, hg⟩ | ⟨c, hc, x, hx, h | ⟨m, hm, hg⟩⟩)
    ·
     exact hn ⟨i, m, getD_set_self hltl _, hm, hg⟩
    ·
     have hcl := hanc c (sp.anc i c hc).1 (sp.anc i c hc).2.1
     have := (f3 x (hlc c hcl x hx)).1
     omega
    ·
     have hcl := hanc c (sp.anc i c hc).1 (sp.anc i c hc).2.1
     exact hn ⟨x, m, getD_set_true (hlc c hcl x hx), hm, hg⟩
   ·
    rintro ⟨k, m, hk, hm, hg⟩
    exact hn ⟨k, m, getD_set_true hk, hm, hg⟩
  ·
   intro k hk hek
   by_cases hki : k = i
   ·
    subst hki; exact hJi
   ·
    rw [getD_set_ne false (Ne.symm hki)] at hk
    have hek' : ∀ q, (q, k) ∈ C → listed.getD q false = false := by
     intro q hq
     cases hl : listed.getD q false with
     | false => rfl
     | true => have := hek q hq; rw [getD_set_true hl] at this; cases this
    have hnik : (i, k) ∉ C := fun hm => by have := hek i hm; rw [getD_set_self hltl] at this; cases this
    have hagree : ∀ j ∈ ancs ops ops.size k, j ≠ i := fun j hj => hni j (hla k hk j hj)
    refine hJ k iv _ (slots ops a) _ w w' (llt k hk) (fun j hj => by simp [upd, hagree j hj]) (fun j hj => (hput _ j (hagree j hj)).symm) ht.size ?_ (f1 k hk hek')
    rintro b hb ⟨y, hy, hfy⟩
    refine ht.block b hb ?_
    have hyl := hlc k hk y hy
    rintro (⟨m, hm, hg⟩ | ⟨c, hc, x, hx, hfx⟩)
    ·
     rcases hfy with h | ⟨m', hm', hg'⟩
     ·
      have := (f3 y hyl).1
      have := hGW m b hg
      omega
     ·
      obtain rfl := hG m m' b hg hg'
      exact hni y hyl (sp.given i m y hm hm')
    ·
     have hcl := hanc c (sp.anc i c hc).1 (sp.anc i c hc).2.1
     have hxl := hlc c hcl x hx
     have hxy : x = y := by
      by_cases hxy : x = y
      ·
       exact hxy
      exfalso
      rcases hfy with h | ⟨m', hm', hg'⟩
      ·
       rcases hfx with h' | ⟨m, hm, hg⟩
       ·
        have := f4 x y hxl hyl hxy
        unfold Sep at this
        omega
       ·
        have := (f3 y hyl).1
        have := hGW m b hg
        omega
      ·
       rcases hfx with h' | ⟨m, hm, hg⟩
       ·
        have := (f3 x hxl).1
        have := hGW m' b hg'
        omega
       ·
        obtain rfl := hG m m' b hg hg'
        exact hxy (sp.given y m x hm' hm)
     subst hxy
     by_cases hkc : k = c
     ·
      subst hkc; exact hnik hc
     rcases sp.apart i c hc k (llt k hk) hki hkc with h | h | ⟨q, hq, h⟩
     ·
      exact h x hy hx
     ·
      exact hni i (hla k hk i h) rfl
     ·
      have := hla c hcl q h
      rw [hek' q hq] at this
      cases this
  ·
   intro k hk
   by_cases hki : k = i
   ·
    subst hki; exact hE _ _ _ _ hlt hJi
   ·
    rw [getD_set_ne false (Ne.symm hki)] at hk
    have hagree : ∀ j ∈ ancs ops ops.size k, j ≠ i := fun j hj => hni j (hla k hk j hj)
    exact hEE k iv _ (slots ops a) _ (llt k hk) (fun j hj => by simp [upd, hagree j hj]) (fun j hj => (hput _ j (hagree j hj)).symm) (f2 k hk)
  ·
   intro k hk
   by_cases hki : k = i
   ·
    subst hki
    simp only [upd, if_pos]
    exact ⟨inv.turned.size, ht.size, Nat.le_refl _⟩
   ·
    rw [getD_set_ne false (Ne.symm hki)] at hk
    simp only [upd, if_neg hki]
    obtain ⟨b1, b2, b3⟩ := f3 k hk
    exact ⟨b1, b2, Nat.le_trans b3 ht.size⟩
  ·
   intro k m hk hm hkm
   by_cases hki : k = i
   ·
    subst hki
    have hmk : m ≠ k := Ne.symm hkm
    rw [getD_set_ne false (Ne.symm hmk)] at hm
    simp only [upd, if_pos, if_neg hmk]
    exact Or.inr (f3 m hm).2.2
   ·
    rw [getD_set_ne false (Ne.symm hki)] at hk
    by_cases hmi : m = i
    ·
     subst hmi
     simp only [upd, if_pos, if_neg hki]
     exact Or.inl (f3 k hk).2.2
    ·
     rw [getD_set_ne false (Ne.symm hmi)] at hm
     simp only [upd, if_neg hki, if_neg hmi]
     exact f4 k m hk hm hkm
theorem region_rs {Q : Exit → Act → World → Prop} {id : Nat} {a0 : Act} {w0 : World} (C D : List (Nat × Nat)) (G : Nat → Nat → Prop) (base : Nat) (J : Nat → (Nat → Nat × Nat) → (Nat → Value) → World → Prop) (JE : Nat → (Nat → Nat × Nat) → (Nat → Value) → Prop)
  (hm : P.follows .mixedOrders = true) (hB : rsB ops a0.tmps.size C D = true) (l : List Nat) (hl : List.range ops.size = l)
  (hbase : base ≤ w0.heap.size) (hGb : ∀ m b, G m b → base ≤ b ∧ b < w0.heap.size) (hG : ∀ m m' b, G m b → G m' b → m = m')
  (hJ : ∀ i ∈ l, ∀ iv iv' vs vs' w w', Hid (Agree (ancs ops ops.size i) iv iv') → Hid (Agree (ancs ops ops.size i) vs vs') → w.heap.size ≤ w'.heap.size → Hid (∀ b, b < w.heap.size → foot C D G ops.size i iv b → w'.heap[b]? = w.heap[b]?) → J i iv vs w → J i iv' vs' w')
  (hE : ∀ i ∈ l, ∀ iv vs w, J i iv vs w → JE i iv vs)
  (hEE : ∀ i ∈ l, ∀ iv iv' vs vs', Hid (Agree (ancs ops ops.size i) iv iv') → Hid (Agree (ancs ops ops.size i) vs vs') → JE i iv vs → JE i iv' vs')
  (hstep : ∀ i ∈ l, ∀ o, ops[i]? = some o → ∀ iv vs w, Below base w0 w → Hid (∀ m b, sureGB ops D i m = true → G m b → w.heap[b]? = w0.heap[b]?) → Hid (Spares (fun b => ∃ m, G m b) w0 w) → Hid (∀ j ∈ ancs ops ops.size i, j ≠ i → sureB ops C i j = true → J j iv vs w) → Hid (∀ j ∈ ancs ops ops.size i, j ≠ i → JE j iv vs) →
   Hid (∀ j ∈ ancs ops ops.size i, j ≠ i → w0.heap.size ≤ (iv j).1 ∧ (iv j).1 ≤ (iv j).2 ∧ (iv j).2 ≤ w.heap.size) → Hid (∀ j ∈ ancs ops ops.size i, ∀ k ∈ ancs ops ops.size i, j ≠ i → k ≠ i → j ≠ k → Sep (iv j) (iv k)) → Hid (∀ k, i ∈ ancs ops ops.size k → vs k = slots ops a0 k) →
   ∀ K : Act → World → Prop, (∀ v a' w', (o.dst = none → v = undef) → a' = (putFrom ops.toList 0 vs a0).put o.dst v → Spares (bite C D G ops.size i iv) w w' →
    (∀ iv', Hid (Agree ((ancs ops ops.size i).erase i) iv iv') → iv' i = (w.heap.size, w'.heap.size) → J i iv' (upd vs i v) w') → K a' w') → wpList P ops (Onward K) [o] (putFrom ops.toList 0 vs a0) w)
  (hQ : ∀ iv vs w, Below base w0 w → Hid (Spares (fun b => ∃ m, G m b) w0 w) → Hid (∀ i ∈ l, (∀ k, (k, i) ∉ C) → J i iv vs w) → Hid (∀ i ∈ l, JE i iv vs) →
   Hid (∀ i ∈ l, w0.heap.size ≤ (iv i).1 ∧ (iv i).1 ≤ (iv i).2 ∧ (iv i).2 ≤ w.heap.size) → Hid (∀ i ∈ l, ∀ j ∈ l, i ≠ j → Sep (iv i) (iv j)) → Q .normal (putFrom ops.toList 0 vs a0) w) :
  (Code.region id ops true).wp P Q a0 w0 := by
 have sp := rsB_spec hB
 subst hl
 refine wp_region_any hm ?_
 refine wpAny_rs (W := w0) sp hG (fun m b h => (hGb m b h).2) (J := J) (JE := JE)
  (fun i iv iv' vs vs' w w' hi h1 h2 h3 h4 h5 => hJ i (List.mem_range.2 hi) iv iv' vs vs' w w' (Lib.hid h1) (Lib.hid h2) h3 (Lib.hid h4) h5)
  (fun i iv vs w hi h => hE i (List.mem_range.2 hi) iv vs w h)
  (fun i iv iv' vs vs' hi h1 h2 h => hEE i (List.mem_range.2 hi) iv iv' vs vs' (Lib.hid h1) (Lib.hid h2) h) ?_
  (fun iv vs w ht h1 h2 h3 h4 => hQ iv vs w (ht.below hbase (fun b ⟨_, m, _, hg⟩ => (hGb m b hg).1)) (Lib.hid (ht.more fun b ⟨_, m, _, hg⟩ => ⟨m, hg⟩)) (Lib.hid fun i hi => h1 i (List.mem_range.1 hi)) (Lib.hid fun i hi => h2 i (List.mem_range.1 hi)) (Lib.hid fun i hi => h3 i (List.mem_range.1 hi)) (Lib.hid fun i hi j hj => h4 i j (List.mem_range.1 hi) (List.mem_range.1 hj)))
  ops.size (List.range ops.size) _ _ _ (by simp) (fun i hi _ => List.mem_range.2 hi) ⟨by simp, rfl, rfl, fun _ _ => rfl, ?_, fun _ _ => rfl, ?_, ?_⟩
 ·
  intro i o ho iv vs w ht h1 h2 h3 h4 h5
  have := hstep i (List.mem_range.2 (Array.getElem?_eq_some_iff.1 ho).1) o ho iv vs w (ht.below hbase (fun b ⟨m, hg, _⟩ => (hGb m b hg).1))
   (Lib.hid fun m b hm hg => ht.block b (hGb m b hg).2 (fun ⟨m', hg', hn⟩ => by rw [← hG m m' b hg hg', hm] at hn; cases hn)) (Lib.hid (ht.more fun b ⟨m, hg, _⟩ => ⟨m, hg⟩)) (Lib.hid h1) (Lib.hid h2) (Lib.hid h3) (Lib.hid h4) (Lib.hid h5)
   (fun a' w' => ∃ v, (o.dst = none → v = undef) ∧ a' = (putFrom ops.toList 0 vs a0).put o.dst v ∧ Spares (bite C D G ops.size i iv) w w' ∧ (∀ iv', Agree ((ancs ops ops.size i).erase i) iv iv' → iv' i = (w.heap.size, w'.heap.size) → J i iv' (upd vs i v) w'))
   (fun v a' w' h0 h1 h2 h3 => ⟨v, h0, h1, h2, fun iv' h4 h5 => h3 iv' (Lib.hid h4) h5⟩)
  exact this
 ·
  intro i h
  exfalso
  by_cases hi : i < ops.size <;> simp [hi] at h
 ·
  exact Spares.of_below (Below.refl _ _).drew
 ·
  have hno : ∀ i, (Array.replicate ops.size false).getD i false = true → False := fun i h => by by_cases hi : i < ops.size <;> simp [hi] at h
  exact ⟨fun _ => (0, 0), fun i h => (hno i h).elim, fun i h => (hno i h).elim, fun i h => (hno i h).elim, fun i _ h => (hno i h).elim⟩
theorem foot_new {C D : List (Nat × Nat)} {G : Nat → Nat → Prop} {n i p q : Nat} {iv' : Nat → Nat × Nat} {b : Nat} (h : iv' i = (p, q)) (h1 : p ≤ b) (h2 : b < q) : foot C D G n i iv' b := foot_own (by rw [h]; exact h1) (by rw [h]; exact h2)
theorem foot_given {C D : List (Nat × Nat)} {G : Nat → Nat → Prop} {n i : Nat} (m : Nat) {iv' : Nat → Nat × Nat} {b : Nat} (h : (i, m) ∈ D) (hg : G m b) : foot C D G n i iv' b := ⟨i, chainOf_self _ _ _, Or.inr ⟨m, h, hg⟩⟩
theorem not_eaten {C : List (Nat × Nat)} {i : Nat} (h : (C.all fun p => p.2 != i) = true) : ∀ k, (k, i) ∉ C := by
 intro k hk
 have := List.all_eq_true.1 h (k, i) hk
 simp at this
end
theorem mkval (a : Value) : ∃ x : Value, Hid (x = a) := ⟨a, Lib.hid rfl⟩
end Go.Proofs.Ytfhlddbngjlhbaa

namespace Go.Proofs.Ytfhlddbngjlhbaa
set_option linter.unusedVariables false
set_option linter.unusedSimpArgs false
open Go.ChangeShapes Go.WideShapes Go.ChangeAt Go.RowKit
def bs (l : List UInt8) : ByteArray := ⟨l.toArray⟩
end Go.Proofs.Ytfhlddbngjlhbaa

namespace Go.Proofs.Ytfhlddbngjlhbaa
set_option linter.unusedVariables false
set_option linter.unusedSimpArgs false
open Go.ChangeShapes Go.WideShapes Go.ChangeAt Go.RowKit Go.Deep
inductive Ex where
 | mk (kind num : Int) (kids : List Ex)
section
variable {H : Type} {enc : TypeId × Value → H} {P : Program} {w : World} {base : Nat} {sp : Nat → Bool} {hd : Bool}
end
end Go.Proofs.Ytfhlddbngjlhbaa

namespace Go.Proofs.Ytfhlddbngjlhbaa
set_option linter.unusedVariables false
set_option linter.unusedSimpArgs false
open Go.ChangeShapes Go.WideShapes Go.ChangeAt Go.RowKit
theorem own : ownKnob Try.prog.godebug = none := by kernel_rfl
theorem laid : laidOutB Try.prog = true := by kernel_rfl
theorem cells_int64 : Try.prog.cellsOf 2 = 1 := by kernel_rfl
theorem cells_int64s : Try.prog.cellsOf 42 = 1 := by kernel_rfl
section
variable {H : Type} {enc : TypeId × Value → H} {W : World} {base : Nat} {sp : Nat → Bool} {hd : Bool} {v : Value} {d : DataW H} {ps : List MemPlace}
end
end Go.Proofs.Ytfhlddbngjlhbaa

namespace Go.Proofs.Ytfhlddbngjlhbaa
set_option linter.unusedVariables false
set_option linter.unusedSimpArgs false
open Go.ChangeShapes Go.WideShapes Go.ChangeAt Go.RowKit
def inB (n lo hi : Int) : Bool := decide (lo ≤ n) && decide (n ≤ hi)
def sigB (t a : Int) : Bool := inB t 0 3 && inB a 0 4
theorem within_any (n lo hi : Int) (w : World) : Calls Try.prog 29 #[.int .i64 n, .int .i64 lo, .int .i64 hi] w fun e w' => e = .returned (.bool (inB n lo hi)) ∧ w = w' := by
 by_cases h1 : lo ≤ n
 ·
  by_cases h2 : n ≤ hi
  ·
   have e1 : inB n lo hi = true := by simp [inB, h1, h2]
   rw [e1]
   go_enter Try.func29, Try.ntmps29
   go_wp2
   go_ret
   exact ⟨rfl, rfl⟩
  ·
   have e1 : inB n lo hi = false := by simp [inB, h2]
   rw [e1]
   go_enter Try.func29, Try.ntmps29
   go_wp2
   go_ret
   exact ⟨rfl, rfl⟩
 ·
  have e1 : inB n lo hi = false := by simp [inB, h1]
  rw [e1]
  go_enter Try.func29, Try.ntmps29
  go_wp2
  go_ret
  exact ⟨rfl, rfl⟩
theorem in_any (n lo hi : Int) (w : World) : Calls Try.prog 23 #[.int .i64 n, .int .i64 lo, .int .i64 hi] w fun e w' => e = .returned (.bool (inB n lo hi)) ∧ w = w' := by
 by_cases h1 : lo ≤ n
 ·
  by_cases h2 : n ≤ hi
  ·
   have e1 : inB n lo hi = true := by simp [inB, h1, h2]
   rw [e1]
   go_enter Try.func23, Try.ntmps23
   go_wp2
   go_ret
   exact ⟨rfl, rfl⟩
  ·
   have e1 : inB n lo hi = false := by simp [inB, h2]
   rw [e1]
   go_enter Try.func23, Try.ntmps23
   go_wp2
   go_ret
   exact ⟨rfl, rfl⟩
 ·
  have e1 : inB n lo hi = false := by simp [inB, h1]
  rw [e1]
  go_enter Try.func23, Try.ntmps23
  go_wp2
  go_ret
  exact ⟨rfl, rfl⟩
theorem toSig_any (t a : Int) (w : World) : Calls Try.prog 25 #[.agg #[.int .i64 t, .int .i64 a]] w fun e w' => e = .returned (.agg #[.int .i64 t, .int .i64 a]) ∧ Below w.heap.size w w' := by
 go_enter Try.func25, Try.ntmps25
 go_wp2
 exact bodyPost_ret (v := .agg #[.int .i64 t, .int .i64 a]) (by simp [results, Try.results25, go_sem]) rfl ⟨rfl, by (repeat' first | exact Below.refl _ _ | assumption | apply Below.alloc | apply Below.drew | apply Below.setCell | omega | (simp; done) | (simp; omega))⟩
theorem l01Sig_any (t a : Int) (w : World) : Calls Try.prog 49 #[.agg #[.int .i64 t, .int .i64 a]] w fun e w' => e = .returned (.bool (sigB t a)) ∧ Below w.heap.size w w' := by
 go_enter Try.func49, Try.ntmps49
 go_wp2_with ((go_at_call 23; ((with_reducible refine (in_any _ _ _ _).mono ?_); rintro e w' ⟨rfl, rfl⟩)))
 all_goals go_ret
 all_goals exact ⟨by simp [sigB, *], by (repeat' first | exact Below.refl _ _ | assumption | apply Below.alloc | apply Below.drew | apply Below.setCell | omega | (simp; done) | (simp; omega))⟩
theorem implValidSig_any (t a : Int) (w : World) : Calls Try.prog 56 #[.agg #[.int .i64 t, .int .i64 a]] w fun e w' => e = .returned (.bool (sigB t a)) ∧ Below w.heap.size w w' := by
 go_enter Try.func56, Try.ntmps56
 go_wp2_with ((go_at_call 29; ((with_reducible refine (within_any _ _ _ _).mono ?_); rintro e w' ⟨rfl, rfl⟩)))
 all_goals go_ret
 all_goals exact ⟨by simp [sigB, *], by (repeat' first | exact Below.refl _ _ | assumption | apply Below.alloc | apply Below.drew | apply Below.setCell | omega | (simp; done) | (simp; omega))⟩
end Go.Proofs.Ytfhlddbngjlhbaa

namespace Go.Proofs.Ytfhlddbngjlhbaa
set_option linter.unusedVariables false
set_option linter.unusedSimpArgs false
open Go.ChangeShapes Go.WideShapes Go.ChangeAt Go.RowKit
theorem info_int64 : (Try.prog.info? 2).map (fun i => (i.zero, i.size, i.bytes)) = some (some (.int .i64 0), 1, 8) := by kernel_rfl
theorem szInt64S_any (zs : List Int) (s : Option Addr) (cap : Nat) (left : Int) (w : World) (hr : Rd w (intsD zs) (.slice s zs.length cap)) (h0 : 0 ≤ left) (h1 : left ≤ 1048576) :
  Calls Try.prog 75 #[.slice s zs.length cap, .int .i64 left] w fun e w' => (∃ r : Int, e = .returned (.int .i64 r) ∧ r ≤ left ∧ -1 ≤ r ∧ (0 ≤ r → (zs.length : Int) + r ≤ left)) ∧ w = w' := by
 obtain ⟨-, hlen, hcap, -⟩ := hr.sl_at
 unfold maxLen at hcap
 by_cases hneg : left - (zs.length : Int) < 0
 ·
  go_enter Try.func75, Try.ntmps75
  go_wp2_with fail
  go_ret
  exact ⟨⟨-1, rfl, by omega, by omega, by omega⟩, rfl⟩
 ·
  have hd : decide (left - (zs.length : Int) < 0) = false := by simpa using hneg
  go_enter Try.func75, Try.ntmps75
  go_wp2_with fail
  go_ret
  exact ⟨⟨_, rfl, by omega, by omega, by omega⟩, rfl⟩
theorem toInt64S_any (zs : List Int) (s : Option Addr) (cap : Nat) (w : World) (hr : Rd w (intsD zs) (.slice s zs.length cap)) (h1 : zs.length ≤ 1048576) :
  Calls Try.prog 76 #[.slice s zs.length cap] w fun e w' => ∃ s' c', e = .returned (.slice s' zs.length c') ∧ Fresh w w' (intsD zs) (.slice s' zs.length c') ∧ Below w.heap.size w w' := by
 obtain ⟨-, hlen, hcap, -⟩ := hr.sl_at
 unfold maxLen at hcap
 obtain ⟨i0, hi, hz0, hz1, hz2⟩ := info_parts info_int64
 go_enter Try.func76, Try.ntmps76
 go_wp2_with (at_make; refine wpList_make_full _ rfl _ _ 42 rfl w.heap.size 2 i0 (.int .i64 0) 1 Try.underlying42 hi hz0 hz1 .i64 .i64 _ _ zs.length rfl rfl rfl rfl (by rw [hz2]; omega) (by unfold maxLen; omega) (Nat.le_refl _) ?_; intro w0 hown hgrow)
 have hp := Part.start hown
 have hB0 : Below w.heap.size w w0 := Below.grown (Below.refl _ _) hgrow (Nat.le_refl _) (by simp)
 have hz0' := hp.lt
 clear hown hgrow
 go_loopw [4] (fun i wr => ∃ k : Nat, k ≤ zs.length ∧ i = .int .i64 k ∧ Part wr w.heap.size 2 ((zs.take k).map D.int) (zs.length * 1) ∧ Below w.heap.size w wr) (fun i _ => zs.length - (intOf i).toNat)
 case atStart => exact ⟨0, by omega, rfl, by simpa using hp, hB0⟩
 case round =>
  clear hp hB0 hz0'
  obtain ⟨k, hk, rfl, hp, hB⟩ := hrel
  by_cases hlt : k < zs.length
  ·
   obtain ⟨z, hz⟩ : ∃ z, zs[k]? = some z := ⟨_, List.getElem?_eq_getElem hlt⟩
   obtain ⟨b, o, rfl⟩ := int_some hr (by omega)
   obtain ⟨_, g0⟩ := int_in (hr.below hB) hz
   obtain ⟨y0, d0⟩ := hp.cell k (by omega)
   have z0 := hp.frozen k
   have Hst := Lib.hid (hp.int hz (by omega))
   have hlt2 := hp.lt
   go_wp2_with fail
   go_roundw
   case rel => exact ⟨k + 1, by omega, by go_num, Hst.out, by (repeat' first | exact Below.refl _ _ | assumption | apply Below.alloc | apply Below.drew | apply Below.setCell | omega | (simp; done) | (simp; omega))⟩
   case measure => simp [intOf]; omega
  ·
   obtain rfl : k = zs.length := by omega
   rw [List.take_length] at hp
   go_wp2_with fail
   go_ret
   exact ⟨_, _, rfl, hp.done (Nat.le_refl _) (by simp) (Nat.le_refl _) (by unfold maxLen; omega), hB⟩
theorem eqInt64S_any (xs ys : List Int) (s t : Option Addr) (c d : Nat) (w : World) (hr : Rd w (intsD xs) (.slice s xs.length c)) (hr' : Rd w (intsD ys) (.slice t ys.length d)) :
  Calls Try.prog 77 #[.slice s xs.length c, .slice t ys.length d] w fun e w' => e = .returned (.bool (eqb xs ys)) ∧ Below w.heap.size w w' := by
 obtain ⟨-, hlen, hcap, -⟩ := hr.sl_at
 obtain ⟨-, hlen', hcap', -⟩ := hr'.sl_at
 unfold maxLen at hcap hcap'
 by_cases hl : xs.length = ys.length
 ·
  have b1 : ((xs.length : Int) != (ys.length : Int)) = false := by simp [hl]
  have Hl := Lib.hid hl
  clear hl
  go_enter Try.func77, Try.ntmps77
  go_wp2_with fail
  go_loopw [5] (fun i wr => ∃ k : Nat, k ≤ xs.length ∧ i = .int .i64 k ∧ xs.take k = ys.take k ∧ Below w.heap.size w wr) (fun i _ => xs.length - (intOf i).toNat)
  case atStart => exact ⟨0, by omega, rfl, by simp, Below.refl _ _⟩
  case round =>
   obtain ⟨k, hk, rfl, hpre, hB⟩ := hrel
   have Hpre := Lib.hid hpre
   clear hpre
   by_cases hlt : k < xs.length
   ·
    have hlt' : k < ys.length := by have := Hl.out; omega
    obtain ⟨x, hx⟩ : ∃ e, xs[k]? = some e := ⟨_, List.getElem?_eq_getElem hlt⟩
    obtain ⟨y, hy⟩ : ∃ e, ys[k]? = some e := ⟨_, List.getElem?_eq_getElem hlt'⟩
    obtain ⟨b, o, rfl⟩ := int_some hr (by omega)
    obtain ⟨b', o', rfl⟩ := int_some hr' (by omega)
    obtain ⟨-, g0⟩ := int_in (hr.below hB) hx
    obtain ⟨-, g1⟩ := int_in (hr'.below hB) hy
    have ha := Int.natCast_nonneg k
    have hb : (k : Int) < (xs.length : Int) := by omega
    have hb' : (k : Int) < (ys.length : Int) := by omega
    by_cases hxy : x = y
    ·
     have Hst : Hid (xs.take (k + 1) = ys.take (k + 1)) := by
      have h1 := (List.getElem?_eq_some_iff.1 hx).2
      have h2 := (List.getElem?_eq_some_iff.1 hy).2
      show _ = _
      rw [List.take_succ_eq_append_getElem hlt, List.take_succ_eq_append_getElem hlt', Hpre.out, h1, h2, hxy]
     subst hxy
     have b2 : (x != x) = false := by simp
     go_wp2_with fail
     go_quiet (fail)
     go_wp2_with fail
     go_roundw
     case rel => exact ⟨k + 1, by omega, by go_num, Hst.out, hB.trans (below_draws _ _ _)⟩
     case measure => simp [intOf]; omega
    ·
     have b2 : (x != y) = true := by simp [hxy]
     have c2 : eqb xs ys = false := eqb_false (by
      intro h
      rw [h] at hx
      exact hxy (Option.some.inj (hx.symm.trans hy)))
     go_wp2_with fail
     go_quiet (fail)
     go_wp2_with fail
     go_ret
     exact ⟨by first | rfl | (rw [c2]; rfl), hB.trans (below_draws _ _ _)⟩
   ·
    obtain rfl : k = xs.length := by omega
    have c2 : eqb xs ys = true := eqb_true (by
     have := Hpre.out
     rwa [List.take_length, Hl.out, List.take_length] at this)
    go_wp2_with fail
    go_ret
    exact ⟨by first | rfl | (rw [c2]; rfl), hB⟩
 ·
  have b1 : ((xs.length : Int) != (ys.length : Int)) = true := by simp; omega
  have c2 : eqb xs ys = false := eqb_false (by intro h; rw [h] at hl; exact hl rfl)
  rw [c2]
  go_enter Try.func77, Try.ntmps77
  go_wp2_with fail
  go_ret
  exact ⟨rfl, Below.refl _ _⟩
end Go.Proofs.Ytfhlddbngjlhbaa

namespace Go.Proofs.Ytfhlddbngjlhbaa
set_option linter.unusedVariables false
set_option linter.unusedSimpArgs false
open Go.ChangeShapes Go.WideShapes Go.ChangeAt Go.RowKit Go.Sort
def atomsN (t : Int) : Int := if t = 0 then 1 else if t = 1 then 2 else if t = 2 then 4 else 8
theorem atomsN_bd (t : Int) : 1 ≤ atomsN t ∧ atomsN t ≤ 8 := by unfold atomsN; split <;> (try split) <;> (try split) <;> omega
theorem sigB_bd {t a : Int} (h : sigB t a = true) : 0 ≤ t ∧ t ≤ 3 ∧ 0 ≤ a ∧ a ≤ 4 := by
 simp [sigB, inB] at h
 omega
theorem within_B (n lo hi : Int) (w : World) : Calls Try.prog 29 #[.int .i64 n, .int .i64 lo, .int .i64 hi] w fun e w' => e = .returned (.bool (inB n lo hi)) ∧ Below w.heap.size w w' :=
 (within_any n lo hi w).mono fun _ _ ⟨h1, h2⟩ => ⟨h1, below_self h2⟩
theorem in_B (n lo hi : Int) (w : World) : Calls Try.prog 23 #[.int .i64 n, .int .i64 lo, .int .i64 hi] w fun e w' => e = .returned (.bool (inB n lo hi)) ∧ Below w.heap.size w w' :=
 (in_any n lo hi w).mono fun _ _ ⟨h1, h2⟩ => ⟨h1, below_self h2⟩
theorem atomsIn_i {t a : Int} {w : World} (h0 : 0 ≤ t) (h1 : t ≤ 3) : Calls Try.prog 57 #[.agg #[.int .i64 t, .int .i64 a]] w fun e w' => e = .returned (.int .i64 (atomsN t)) ∧ Below w.heap.size w w' := by
 have h : t = 0 ∨ t = 1 ∨ t = 2 ∨ t = 3 := by omega
 rcases h with h | h | h | h
 all_goals
  subst h
  go_enter Try.func57, Try.ntmps57
  go_wp2
  go_ret
  exact ⟨rfl, by (repeat' first | exact Below.refl _ _ | assumption | apply Below.alloc | apply Below.drew | apply Below.setCell | omega | (simp; done) | (simp; omega))⟩
theorem l01Atoms_i {t a : Int} {w : World} (h0 : 0 ≤ t) (h1 : t ≤ 3) : Calls Try.prog 50 #[.agg #[.int .i64 t, .int .i64 a]] w fun e w' => e = .returned (.int .i64 (atomsN t)) ∧ Below w.heap.size w w' := by
 have h : t = 0 ∨ t = 1 ∨ t = 2 ∨ t = 3 := by omega
 rcases h with h | h | h | h
 all_goals
  subst h
  go_enter Try.func50, Try.ntmps50
  go_wp2
  go_ret
  exact ⟨rfl, by (repeat' first | exact Below.refl _ _ | assumption | apply Below.alloc | apply Below.drew | apply Below.setCell | omega | (simp; done) | (simp; omega))⟩
theorem wrap_of {n : Int} (h0 : -1000000 ≤ n) (h1 : n ≤ 1000000000000000000) : IntKind.i64.wrap n = n := IntWalk.i64_in n (by omega)
end Go.Proofs.Ytfhlddbngjlhbaa

namespace Go.Proofs.Ytfhlddbngjlhbaa
set_option linter.unusedVariables false
set_option linter.unusedSimpArgs false
section
variable {α : Type} [DecidableEq α]
def grow1 (L : List α) : Option α → List α
 | none => L
 | some x => if x ∈ L then L else L ++ [x]
def growL (L : List α) (ss : List (Option α)) : List α := ss.foldl grow1 L
def numO (L : List α) : Option α → Int
 | none => -1
 | some x => (L.idxOf x : Int)
def upto (L : List α) (ss : List (Option α)) (m : Nat) : List α := growL L (ss.take m)
def expl (s : α) (succ : α → List (Option α)) : Nat → List α
 | 0 => [s]
 | k + 1 => match (expl s succ k)[k]? with
  | none => expl s succ k
  | some x => growL (expl s succ k) (succ x)
theorem grow1_prefix (L : List α) (o : Option α) : L <+: grow1 L o := by
 cases o with
 | none => exact List.prefix_refl _
 | some x =>
  show L <+: if x ∈ L then L else L ++ [x]
  by_cases h : x ∈ L
  ·
   rw [if_pos h]; exact List.prefix_refl _
  ·
   rw [if_neg h]; exact List.prefix_append _ _
theorem growL_prefix : ∀ (ss : List (Option α)) (L : List α), L <+: growL L ss
 | [], L => List.prefix_refl _
 | o :: r, L => (grow1_prefix L o).trans (growL_prefix r (grow1 L o))
theorem growL_append (L : List α) (a b : List (Option α)) : growL L (a ++ b) = growL (growL L a) b := List.foldl_append
theorem upto_zero (L : List α) (ss : List (Option α)) : upto L ss 0 = L := rfl
theorem upto_succ {L : List α} {ss : List (Option α)} {m : Nat} {o : Option α} (h : ss[m]? = some o) : upto L ss (m + 1) = grow1 (upto L ss m) o := by
 obtain ⟨hm, rfl⟩ := List.getElem?_eq_some_iff.1 h
 unfold upto
 rw [List.take_succ_eq_append_getElem hm, growL_append]
 rfl
theorem upto_all {L : List α} {ss : List (Option α)} {m : Nat} (h : ss.length ≤ m) : upto L ss m = growL L ss := by
 unfold upto
 rw [List.take_of_length_le h]
theorem upto_prefix (L : List α) (ss : List (Option α)) (m : Nat) : L <+: upto L ss m := growL_prefix _ _
theorem upto_le {L : List α} {ss : List (Option α)} {m n : Nat} (h : m ≤ n) : upto L ss m <+: upto L ss n := by
 unfold upto
 have : ss.take n = ss.take m ++ (ss.take n).drop m := by
  have h1 := (List.take_append_drop m (ss.take n)).symm
  rwa [List.take_take, Nat.min_eq_left h] at h1
 rw [this, growL_append]
 exact growL_prefix _ _
omit [DecidableEq α] in
theorem prefix_get {L M : List α} (h : L <+: M) {i : Nat} {x : α} (hx : L[i]? = some x) : M[i]? = some x := by
 obtain ⟨r, rfl⟩ := h
 rw [List.getElem?_append_left (List.getElem?_eq_some_iff.1 hx).1]
 exact hx
omit [DecidableEq α] in
theorem prefix_length {L M : List α} (h : L <+: M) : L.length ≤ M.length := by
 obtain ⟨r, rfl⟩ := h
 simp
theorem grow1_old {L : List α} {x : α} (h : x ∈ L) : grow1 L (some x) = L := if_pos h
theorem grow1_new {L : List α} {x : α} (h : x ∉ L) : grow1 L (some x) = L ++ [x] := if_neg h
theorem grow1_mem {L : List α} {x : α} : x ∈ grow1 L (some x) := by
 by_cases h : x ∈ L
 ·
  rw [grow1_old h]; exact h
 ·
  rw [grow1_new h]; simp
theorem grow1_nodup {L : List α} (h : L.Nodup) (o : Option α) : (grow1 L o).Nodup := by
 cases o with
 | none => exact h
 | some x =>
  by_cases hx : x ∈ L
  ·
   rw [grow1_old hx]; exact h
  ·
   rw [grow1_new hx, List.nodup_append]
   exact ⟨h, by simp, fun a ha b hb hab => by
    simp only [List.mem_singleton] at hb
    exact hx (by rw [← hb, ← hab]; exact ha)⟩
theorem growL_nodup : ∀ (ss : List (Option α)) {L : List α}, L.Nodup → (growL L ss).Nodup
 | [], _, h => h
 | o :: r, _, h => growL_nodup r (grow1_nodup h o)
theorem expl_nodup (s : α) (succ : α → List (Option α)) : ∀ k, (expl s succ k).Nodup
 | 0 => by simp [expl]
 | k + 1 => by
  simp only [expl]
  split
  ·
   exact expl_nodup s succ k
  ·
   exact growL_nodup _ (expl_nodup s succ k)
theorem expl_succ {s : α} {succ : α → List (Option α)} {k : Nat} {x : α} (h : (expl s succ k)[k]? = some x) : expl s succ (k + 1) = growL (expl s succ k) (succ x) := by
 simp only [expl, h]
theorem expl_stop {s : α} {succ : α → List (Option α)} {k : Nat} (h : (expl s succ k).length ≤ k) : ∀ m, k ≤ m → expl s succ m = expl s succ k := by
 intro m hm
 induction hm with
 | refl => rfl
 | step hkm ih =>
  simp only [expl, ih]
  rw [List.getElem?_eq_none (by have : k ≤ _ := hkm; omega)]
theorem expl_step_prefix (s : α) (succ : α → List (Option α)) (k : Nat) : expl s succ k <+: expl s succ (k + 1) := by
 simp only [expl]
 split
 ·
  exact List.prefix_refl _
 ·
  exact growL_prefix _ _
theorem expl_prefix (s : α) (succ : α → List (Option α)) {k m : Nat} (h : k ≤ m) : expl s succ k <+: expl s succ m := by
 induction h with
 | refl => exact List.prefix_refl _
 | step _ ih => exact ih.trans (expl_step_prefix s succ _)
theorem expl_pos (s : α) (succ : α → List (Option α)) (k : Nat) : 1 ≤ (expl s succ k).length := by
 have := prefix_length (expl_prefix s succ (Nat.zero_le k))
 simpa [expl] using this
theorem idxOf_prefix {L M : List α} (h : L <+: M) {x : α} (hx : x ∈ L) : M.idxOf x = L.idxOf x := by
 obtain ⟨r, rfl⟩ := h
 rw [List.idxOf_append, if_pos hx]
theorem idxOf_at {L : List α} (hn : L.Nodup) {i : Nat} {x : α} (h : L[i]? = some x) : L.idxOf x = i := by
 obtain ⟨hi, rfl⟩ := List.getElem?_eq_some_iff.1 h
 exact hn.idxOf_getElem i hi
theorem idxOf_new {L : List α} {x : α} (h : x ∉ L) : (L ++ [x]).idxOf x = L.length := by
 rw [List.idxOf_append, if_neg h]
 simp
theorem numO_bd {L : List α} {o : Option α} (h : ∀ x, o = some x → x ∈ L) : -1 ≤ numO L o ∧ numO L o < L.length := by
 cases o with
 | none => simp only [numO]; omega
 | some x =>
  have := List.idxOf_lt_length_of_mem (h x rfl)
  simp only [numO]
  omega
end
end Go.Proofs.Ytfhlddbngjlhbaa

namespace Go.Proofs.Ytfhlddbngjlhbaa
set_option linter.unusedVariables false
set_option linter.unusedSimpArgs false
noncomputable instance exDec : DecidableEq Ex := fun a b => Classical.propDecidable (a = b)
end Go.Proofs.Ytfhlddbngjlhbaa

namespace Go.Proofs.Ytfhlddbngjlhbaa
set_option linter.unusedVariables false
set_option linter.unusedSimpArgs false
def grid {β : Type} (f : Nat → Nat → β) (A a : Nat) : List β := ((List.range A).map fun m => (List.range a).map (f m)).flatten
theorem grid_succ {β : Type} (f : Nat → Nat → β) (A a : Nat) : grid f (A + 1) a = grid f A a ++ (List.range a).map (f A) := by
 unfold grid
 rw [List.range_succ, List.map_append, List.flatten_append]
 simp
theorem grid_len {β : Type} (f : Nat → Nat → β) (a : Nat) : ∀ A, (grid f A a).length = A * a
 | 0 => by simp [grid]
 | A + 1 => by rw [grid_succ, List.length_append, grid_len f a A, Nat.succ_mul]; simp
theorem grid_at {β : Type} (f : Nat → Nat → β) {a m k : Nat} (hk : k < a) : ∀ {A : Nat}, m < A → (grid f A a)[m * a + k]? = some (f m k)
 | 0, h => absurd h (Nat.not_lt_zero _)
 | A + 1, h => by
  rw [grid_succ]
  by_cases hm : m < A
  ·
   rw [List.getElem?_append_left]
   ·
    exact grid_at f hk hm
   ·
    rw [grid_len]
    have h1 : (m + 1) * a ≤ A * a := Nat.mul_le_mul_right a hm
    rw [Nat.succ_mul] at h1
    omega
  ·
   obtain rfl : m = A := by omega
   rw [List.getElem?_append_right (by rw [grid_len]; omega), grid_len, show m * a + k - m * a = k by omega, List.getElem?_map, List.getElem?_range hk]
   rfl
theorem grid_mem {β : Type} {f : Nat → Nat → β} {A a : Nat} {x : β} (h : x ∈ grid f A a) : ∃ m k, m < A ∧ k < a ∧ f m k = x := by
 unfold grid at h
 obtain ⟨r, hr, hx⟩ := List.mem_flatten.1 h
 obtain ⟨m, hm, rfl⟩ := List.mem_map.1 hr
 obtain ⟨k, hk, rfl⟩ := List.mem_map.1 hx
 exact ⟨m, k, List.mem_range.1 hm, List.mem_range.1 hk, rfl⟩
section
variable {α : Type} [DecidableEq α]
def curG (s : α) (f : Nat → Nat → α → Option α) (A a i : Nat) (x : α) (m k : Nat) : List α := upto (expl s (fun y => grid (fun m k => f m k y) A a) i) (grid (fun m k => f m k x) A a) (m * a + k)
variable {s : α} {f : Nat → Nat → α → Option α} {A a i : Nat} {x : α}
theorem curG_zero : curG s f A a i x 0 0 = expl s (fun y => grid (fun m k => f m k y) A a) i := by
 unfold curG
 rw [Nat.zero_mul, upto_zero]
theorem curG_line {m : Nat} : curG s f A a i x m a = curG s f A a i x (m + 1) 0 := by
 unfold curG
 rw [Nat.succ_mul, Nat.add_zero]
theorem curG_cell {m k : Nat} (hm : m < A) (hk : k < a) : curG s f A a i x m (k + 1) = grow1 (curG s f A a i x m k) (f m k x) := by
 unfold curG
 rw [← Nat.add_assoc]
 exact upto_succ (grid_at (fun m k => f m k x) hk hm)
theorem curG_all (h : (expl s (fun y => grid (fun m k => f m k y) A a) i)[i]? = some x) : curG s f A a i x A 0 = expl s (fun y => grid (fun m k => f m k y) A a) (i + 1) := by
 unfold curG
 rw [upto_all (by rw [grid_len]; omega), expl_succ h]
theorem curG_prefix {m k : Nat} (h : (expl s (fun y => grid (fun m k => f m k y) A a) i)[i]? = some x) : curG s f A a i x m k <+: expl s (fun y => grid (fun m k => f m k y) A a) (i + 1) := by
 rw [expl_succ h, ← upto_all (L := expl s (fun y => grid (fun m k => f m k y) A a) i) (ss := grid (fun m k => f m k x) A a) (Nat.le_refl _)]
 unfold curG
 by_cases hl : m * a + k ≤ (grid (fun m k => f m k x) A a).length
 ·
  exact upto_le hl
 ·
  rw [upto_all (by omega), upto_all (Nat.le_refl _)]
  exact List.prefix_refl _
theorem curG_old {m k : Nat} : expl s (fun y => grid (fun m k => f m k y) A a) i <+: curG s f A a i x m k := upto_prefix _ _ _
theorem growL_all {P : α → Prop} : ∀ (ss : List (Option α)) (L : List α), (∀ y ∈ L, P y) → (∀ y, some y ∈ ss → P y) → ∀ y ∈ growL L ss, P y
 | [], _, h, _ => h
 | o :: r, L, h, hs => by
  refine growL_all r (grow1 L o) (fun y hy => ?_) (fun y hy => hs y (List.mem_cons_of_mem _ hy))
  cases o with
  | none => exact h y hy
  | some z =>
   by_cases hz : z ∈ L
   ·
    rw [grow1_old hz] at hy; exact h y hy
   ·
    rw [grow1_new hz] at hy
    rcases List.mem_append.1 hy with hy | hy
    ·
     exact h y hy
    ·
     rw [List.mem_singleton] at hy
     subst hy
     exact hs y (List.mem_cons_self ..)
theorem expl_all {P : α → Prop} (hs : P s) (hf : ∀ y, P y → ∀ m k, m < A → k < a → ∀ z, f m k y = some z → P z) : ∀ i, ∀ y ∈ expl s (fun y => grid (fun m k => f m k y) A a) i, P y
 | 0 => fun y hy => by simp [expl] at hy; subst hy; exact hs
 | i + 1 => fun y hy => by
  have ih := expl_all hs hf i
  cases hx : (expl s (fun y => grid (fun m k => f m k y) A a) i)[i]? with
  | none => simp only [expl, hx] at hy; exact ih y hy
  | some x =>
   rw [expl_succ hx] at hy
   refine growL_all _ _ ih (fun z hz => ?_) y hy
   obtain ⟨m, k, hm, hk, h⟩ := grid_mem hz
   exact hf x (ih x (List.mem_of_getElem? hx)) m k hm hk z h
end
end Go.Proofs.Ytfhlddbngjlhbaa
