/-
  Parts of a proof, joined: Rs, Shelf, Text, Bld, Expr, Own, Sig. No condition.
-/
import Derived.Shelf.Strings.Builder1
import Derived.Shelf.Strings.BuilderF
import Derived.Shelf.Strings.BuilderK
import Derived.Shelf.Strconv.Itoa0
import Derived.Shelf.Strconv.Itoa1
import Derived.Shelf.LaysM
import Derived.Shelf.Strconv.Itoa2
import Derived.Shelf.Strconv.Itoa3
import Derived.Shelf.Strconv.Itoa4
import Derived.Shelf.Strings.BuilderCap
import Derived.Test.YtfhlddbngjlhbaaDoorProg
import Derived.Lib.AppendStr
import Derived.Test.YtfhlddbngjlhbaaDoorPk0
import Derived.Test.YtfhlddbngjlhbaaDoorPk2
namespace Go.Proofs.YtfhlddbngjlhbaaDoor
set_option linter.unusedVariables false
set_option linter.unusedSimpArgs false
open Go.ChangeShapes Go.WideShapes Go.ChangeAt Go.RowKit Go.Deep
structure Spares (X : Nat → Prop) (w w' : World) : Prop where
 os : w'.os = w.os
 tape : w'.tape = w.tape
 output : w'.output = w.output
 size : w.heap.size ≤ w'.heap.size
 block : ∀ b, b < w.heap.size → ¬ X b → w'.heap[b]? = w.heap[b]?
theorem Spares.of_below {X : Nat → Prop} {w w' : World} (h : Below w.heap.size w w') : Spares X w w' := ⟨h.os, h.tape, h.output, h.size, fun b hb _ => h.block b hb⟩
theorem Spares.below {X : Nat → Prop} {w w' : World} {B : Nat} (h : Spares X w w') (hB : B ≤ w.heap.size) (hX : ∀ b, X b → B ≤ b) : Below B w w' :=
 ⟨h.os, h.tape, h.output, h.size, fun b hb => h.block b (by omega) (fun hx => by have := hX b hx; omega)⟩
theorem Spares.more {X Y : Nat → Prop} {w w' : World} (h : Spares X w w') (hs : ∀ b, X b → Y b) : Spares Y w w' := ⟨h.os, h.tape, h.output, h.size, fun b hb hn => h.block b hb (fun hx => hn (hs b hx))⟩
theorem Spares.trans {X : Nat → Prop} {a b c : World} (h : Spares X a b) (k : Spares X b c) : Spares X a c :=
 ⟨k.os.trans h.os, k.tape.trans h.tape, k.output.trans h.output, Nat.le_trans h.size k.size, fun i hi hn => (k.block i (Nat.lt_of_lt_of_le hi h.size) hn).trans (h.block i hi hn)⟩
theorem Spares.refl {X : Nat → Prop} (w : World) : Spares X w w := ⟨rfl, rfl, rfl, Nat.le_refl _, fun _ _ _ => rfl⟩
theorem Spares.set {b0 o : Nat} {w w' : World} {v : Value} (h : Spares (fun b => b = b0) w w') : Spares (fun b => b = b0) w (w'.setCell ⟨b0, o, none⟩ v) :=
 h.trans ⟨rfl, rfl, rfl, by simp [World.setCell], fun k _ hn => Below.heap_setCell _ _ _ _ hn⟩
theorem spares_sets {b0 : Nat} {w w' : World} (h : Spares (fun b => b = b0) w w') : Spares (fun b => b = b0) w w' := h
def eatsOf (C : List (Nat × Nat)) (i : Nat) : List Nat := (C.filter fun p => p.1 == i).map (·.2)
theorem mem_eatsOf {C : List (Nat × Nat)} {i c : Nat} : c ∈ eatsOf C i ↔ (i, c) ∈ C := by
 unfold eatsOf
 simp only [List.mem_map, List.mem_filter, beq_iff_eq]
 constructor
 ·
  rintro ⟨⟨x, y⟩, ⟨h, rfl⟩, rfl⟩; exact h
 ·
  intro h; exact ⟨(i, c), ⟨h, rfl⟩, rfl⟩
def chainOf (C : List (Nat × Nat)) : Nat → Nat → List Nat
 | 0, i => [i]
 | f + 1, i => i :: (eatsOf C i).flatMap (chainOf C f)
theorem chainOf_self (C : List (Nat × Nat)) (f i : Nat) : i ∈ chainOf C f i := by cases f <;> simp [chainOf]
def rsB (ops : Array Oper) (size : Nat) (C D : List (Nat × Nat)) : Bool :=
 (List.range ops.size).all (fun i =>
  (deps ops i).all (· < i) && (chainOf C ops.size i).all (fun x => (ancs ops ops.size i).contains x) &&
  (match ops[i]? with
   | some o => (match o.dst with
    | some d => decide (d < size) && (List.range ops.size).all (fun j => j == i || (ops[j]?).all (fun p => p.dst != some d))
    | none => true)
   | none => false)) &&
 C.all (fun p => (ancs ops ops.size p.1).contains p.2 && p.2 != p.1 && decide (p.1 < ops.size) && C.all (fun q => q.2 != p.2 || q.1 == p.1) &&
  (List.range ops.size).all (fun k => k == p.1 || k == p.2 || (chainOf C ops.size k).all (fun x => !(chainOf C ops.size p.2).contains x) || (ancs ops ops.size k).contains p.1 || C.any (fun q => q.2 == k && (ancs ops ops.size p.2).contains q.1))) &&
 D.all (fun p => decide (p.1 < ops.size) && D.all (fun q => q.2 != p.2 || q.1 == p.1))
def sureB (ops : Array Oper) (C : List (Nat × Nat)) (i j : Nat) : Bool := C.all fun p => p.2 != j || p.1 == i || (ancs ops ops.size p.1).contains i
def sureGB (ops : Array Oper) (D : List (Nat × Nat)) (i m : Nat) : Bool := D.all fun p => p.2 != m || p.1 == i || (ancs ops ops.size p.1).contains i
structure RsSpec (ops : Array Oper) (size : Nat) (C D : List (Nat × Nat)) : Prop where
 back : ∀ i, i < ops.size → ∀ j ∈ deps ops i, j < i
 chain : ∀ i, i < ops.size → ∀ x ∈ chainOf C ops.size i, x ∈ ancs ops ops.size i
 dst : ∀ (i : Nat) (o : Oper), ops[i]? = some o → ∀ d, o.dst = some d → d < size ∧ ∀ (j : Nat) (p : Oper), ops[j]? = some p → j ≠ i → p.dst ≠ some d
 anc : ∀ i c, (i, c) ∈ C → c ∈ ancs ops ops.size i ∧ c ≠ i ∧ i < ops.size
 one : ∀ i c k, (i, c) ∈ C → (k, c) ∈ C → k = i
 apart : ∀ i c, (i, c) ∈ C → ∀ k, k < ops.size → k ≠ i → k ≠ c → (∀ x ∈ chainOf C ops.size k, x ∉ chainOf C ops.size c) ∨ i ∈ ancs ops ops.size k ∨ ∃ q, (q, k) ∈ C ∧ q ∈ ancs ops ops.size c
 given : ∀ i m k, (i, m) ∈ D → (k, m) ∈ D → k = i
theorem rsB_spec {ops : Array Oper} {size : Nat} {C D : List (Nat × Nat)} (h : rsB ops size C D = true) : RsSpec ops size C D := by
 simp only [rsB, Bool.and_eq_true] at h
 obtain ⟨⟨h1, h2⟩, h3⟩ := h
 have h1' := fun i (hi : i < ops.size) => List.all_eq_true.1 h1 i (List.mem_range.2 hi)
 have h2' := fun i c (hi : (i, c) ∈ C) => List.all_eq_true.1 h2 (i, c) hi
 refine ⟨?_, ?_, ?_, ?_, ?_, ?_, ?_⟩
 ·
  intro i hi j hj
  have := h1' i hi
  simp only [Bool.and_eq_true] at this
  simpa using List.all_eq_true.1 this.1.1 j hj
 ·
  intro i hi x hx
  have := h1' i hi
  simp only [Bool.and_eq_true] at this
  simpa using List.all_eq_true.1 this.1.2 x hx
 ·
  intro i o hi d hd
  have hlt := (Array.getElem?_eq_some_iff.1 hi).1
  have := h1' i hlt
  simp only [Bool.and_eq_true] at this
  have h := this.2
  rw [hi] at h
  simp only [hd, Bool.and_eq_true, decide_eq_true_eq] at h
  refine ⟨h.1, fun j p hj hji => ?_⟩
  have hjlt := (Array.getElem?_eq_some_iff.1 hj).1
  have := List.all_eq_true.1 h.2 j (List.mem_range.2 hjlt)
  rw [hj] at this
  simpa [hji] using this
 ·
  intro i c hi
  have := h2' i c hi
  simp only [Bool.and_eq_true, decide_eq_true_eq, bne_iff_ne, List.contains_iff_mem] at this
  exact ⟨this.1.1.1.1, this.1.1.1.2, this.1.1.2⟩
 ·
  intro i c k hi hk
  have := h2' i c hi
  simp only [Bool.and_eq_true] at this
  have := List.all_eq_true.1 this.1.2 (k, c) hk
  simpa using this
 ·
  intro i c hi k hk hki hkc
  have := h2' i c hi
  simp only [Bool.and_eq_true] at this
  have := List.all_eq_true.1 this.2 k (List.mem_range.2 hk)
  simp only [Bool.or_eq_true, beq_iff_eq, List.contains_iff_mem] at this
  rcases this with (((h | h) | h) | h) | h
  ·
   exact absurd h hki
  ·
   exact absurd h hkc
  ·
   refine Or.inl fun x hx hx' => ?_
   have := List.all_eq_true.1 h x hx
   rw [Bool.not_eq_true', ← Bool.not_eq_true, List.contains_iff_mem] at this
   exact this hx'
  ·
   exact Or.inr (Or.inl h)
  ·
   obtain ⟨⟨q, k'⟩, hq, h'⟩ := List.any_eq_true.1 h
   simp only [Bool.and_eq_true, beq_iff_eq, List.contains_iff_mem] at h'
   obtain ⟨rfl, h'⟩ := h'
   exact Or.inr (Or.inr ⟨q, hq, h'⟩)
 ·
  intro i m k hi hk
  have := List.all_eq_true.1 h3 (i, m) hi
  simp only [Bool.and_eq_true] at this
  have := List.all_eq_true.1 this.2 (k, m) hk
  simpa using this
def foot (C D : List (Nat × Nat)) (G : Nat → Nat → Prop) (n i : Nat) (iv : Nat → Nat × Nat) (b : Nat) : Prop :=
 ∃ j ∈ chainOf C n i, ((iv j).1 ≤ b ∧ b < (iv j).2) ∨ ∃ m, (j, m) ∈ D ∧ G m b
def bite (C D : List (Nat × Nat)) (G : Nat → Nat → Prop) (n i : Nat) (iv : Nat → Nat × Nat) (b : Nat) : Prop :=
 (∃ m, (i, m) ∈ D ∧ G m b) ∨ ∃ c, (i, c) ∈ C ∧ foot C D G n c iv b
theorem foot_own {C D : List (Nat × Nat)} {G : Nat → Nat → Prop} {n i : Nat} {iv : Nat → Nat × Nat} {b : Nat} (h1 : (iv i).1 ≤ b) (h2 : b < (iv i).2) : foot C D G n i iv b := ⟨i, chainOf_self _ _ _, Or.inl ⟨h1, h2⟩⟩
theorem foot_agree {C D : List (Nat × Nat)} {G : Nat → Nat → Prop} {n i : Nat} {iv iv' : Nat → Nat × Nat} {l : List Nat} (hl : ∀ x ∈ chainOf C n i, x ∈ l) (h : Agree l iv iv') {b : Nat} (hf : foot C D G n i iv b) : foot C D G n i iv' b := by
 obtain ⟨j, hj, hb⟩ := hf
 exact ⟨j, hj, by rw [← h j (hl j hj)]; exact hb⟩
structure RsInv (ops : Array Oper) (C D : List (Nat × Nat)) (G : Nat → Nat → Prop) (a0 : Act) (W : World) (J : Nat → (Nat → Nat × Nat) → (Nat → Value) → World → Prop) (JE : Nat → (Nat → Nat × Nat) → (Nat → Value) → Prop)
  (listed : Array Bool) (a : Act) (w : World) : Prop where
 size : listed.size = ops.size
 defers : a0.defers = a.defers
 tmps : a0.tmps.size = a.tmps.size
 off : ∀ t, (∀ o ∈ ops.toList, o.dst ≠ some t) → a0.tmps[t]? = a.tmps[t]?
 closed : ∀ i, listed.getD i false = true → ∀ j ∈ deps ops i, listed.getD j false = true
 rest : ∀ i, listed.getD i false = false → slots ops a i = slots ops a0 i
 turned : Spares (fun b => ∃ i m, listed.getD i false = true ∧ (i, m) ∈ D ∧ G m b) W w
 facts : ∃ iv : Nat → Nat × Nat, (∀ i, listed.getD i false = true → (∀ k, (k, i) ∈ C → listed.getD k false = false) → J i iv (slots ops a) w) ∧ (∀ i, listed.getD i false = true → JE i iv (slots ops a)) ∧
  (∀ i, listed.getD i false = true → W.heap.size ≤ (iv i).1 ∧ (iv i).1 ≤ (iv i).2 ∧ (iv i).2 ≤ w.heap.size) ∧
  (∀ i j, listed.getD i false = true → listed.getD j false = true → i ≠ j → Sep (iv i) (iv j))
section
variable {P : Program} {ops : Array Oper}
theorem wpAny_rs {Q : Exit → Act → World → Prop} {C D : List (Nat × Nat)} {G : Nat → Nat → Prop} {a0 : Act} {W : World} {J : Nat → (Nat → Nat × Nat) → (Nat → Value) → World → Prop} {JE : Nat → (Nat → Nat × Nat) → (Nat → Value) → Prop}
  (sp : RsSpec ops a0.tmps.size C D) (hG : ∀ m m' b, G m b → G m' b → m = m') (hGW : ∀ m b, G m b → b < W.heap.size)
  (hJ : ∀ i iv iv' vs vs' w w', i < ops.size → Agree (ancs ops ops.size i) iv iv' → Agree (ancs ops ops.size i) vs vs' → w.heap.size ≤ w'.heap.size → (∀ b, b < w.heap.size → foot C D G ops.size i iv b → w'.heap[b]? = w.heap[b]?) → J i iv vs w → J i iv' vs' w')
  (hE : ∀ i iv vs w, i < ops.size → J i iv vs w → JE i iv vs)
  (hEE : ∀ i iv iv' vs vs', i < ops.size → Agree (ancs ops ops.size i) iv iv' → Agree (ancs ops ops.size i) vs vs' → JE i iv vs → JE i iv' vs')
  (hstep : ∀ i o, ops[i]? = some o → ∀ iv vs w, Spares (fun b => ∃ m, G m b ∧ sureGB ops D i m = false) W w → (∀ j ∈ ancs ops ops.size i, j ≠ i → sureB ops C i j = true → J j iv vs w) → (∀ j ∈ ancs ops ops.size i, j ≠ i → JE j iv vs) →
   (∀ j ∈ ancs ops ops.size i, j ≠ i → W.heap.size ≤ (iv j).1 ∧ (iv j).1 ≤ (iv j).2 ∧ (iv j).2 ≤ w.heap.size) → (∀ j ∈ ancs ops ops.size i, ∀ k ∈ ancs ops ops.size i, j ≠ i → k ≠ i → j ≠ k → Sep (iv j) (iv k)) → (∀ k, i ∈ ancs ops ops.size k → vs k = slots ops a0 k) →
   wpList P ops (fun e a' w' => e = .normal ∧ ∃ v, (o.dst = none → v = undef) ∧ a' = (putFrom ops.toList 0 vs a0).put o.dst v ∧ Spares (bite C D G ops.size i iv) w w' ∧
    (∀ iv', Agree ((ancs ops ops.size i).erase i) iv iv' → iv' i = (w.heap.size, w'.heap.size) → J i iv' (upd vs i v) w')) [o] (putFrom ops.toList 0 vs a0) w)
  (hQ : ∀ iv vs w, Spares (fun b => ∃ i m, (i, m) ∈ D ∧ G m b) W w → (∀ i, i < ops.size → (∀ k, (k, i) ∉ C) → J i iv vs w) → (∀ i, i < ops.size → JE i iv vs) →
   (∀ i, i < ops.size → W.heap.size ≤ (iv i).1 ∧ (iv i).1 ≤ (iv i).2 ∧ (iv i).2 ≤ w.heap.size) → (∀ i j, i < ops.size → j < ops.size → i ≠ j → Sep (iv i) (iv j)) → Q .normal (putFrom ops.toList 0 vs a0) w) :
  ∀ (fuel : Nat) (U : List Nat) (listed : Array Bool) (a : Act) (w : World), U.length ≤ fuel → (∀ i, i < ops.size → listed.getD i false = false → i ∈ U) → RsInv ops C D G a0 W J JE listed a w → wpAny P .any ops Q fuel listed a w := by
 have self : ∀ (listed : Array Bool) (a : Act) (w : World), RsInv ops C D G a0 W J JE listed a w → putFrom ops.toList 0 (slots ops a) a0 = a := by
  intro listed a w inv
  refine putFrom_self _ _ _ _ _ inv.defers inv.tmps inv.off (fun j o hj => ?_)
  unfold slots
  rw [Nat.zero_add, show ops[j]? = some o by simpa using hj]
 have done : ∀ (listed : Array Bool) (a : Act) (w : World), RsInv ops C D G a0 W J JE listed a w → (∀ i, i < ops.size → listed.getD i false = true) → Q .normal a w := by
  intro listed a w inv hall
  obtain ⟨iv, f1, f2, f3, f4⟩ := inv.facts
  have := hQ iv (slots ops a) w (inv.turned.more fun b ⟨i, m, _, h1, h2⟩ => ⟨i, m, h1, h2⟩) (fun i hi hk => f1 i (hall i hi) (fun k hm => absurd hm (hk k))) (fun i hi => f2 i (hall i hi)) (fun i hi => f3 i (hall i hi)) (fun i j hi hj => f4 i j (hall i hi) (hall j hj))
  rwa [self listed a w inv] at this
 have allOf : ∀ (listed : Array Bool), listed.size = ops.size → Region.ready .any ops listed = [] → ∀ i, i < ops.size → listed.getD i false = true := by
  intro listed hsz hr i
  induction i using Nat.strongRecOn with
  | _ i ih =>
   intro hi
   cases hl : listed.getD i false with
   | true => rfl
   | false =>
    exfalso
    have hm : i ∈ Region.ready .any ops listed := by
     rw [mem_ready]
     refine ⟨by simp [hsz, hi] at hl ⊢; exact hl, ops[i], by simp [hi], fun e he hb => ?_⟩
     have hd : e.on ∈ deps ops i := (mem_deps (by simp [hi])).2 ⟨e, he, hb, rfl⟩
     have := sp.back i hi _ hd
     exact ih _ this (by omega)
    rw [hr] at hm
    cases hm
 intro fuel
 induction fuel with
 | zero =>
  intro U listed a w hU hun inv
  have hall : ∀ i, i < ops.size → listed.getD i false = true := by
   intro i hi
   cases hl : listed.getD i false with
   | true => rfl
   | false =>
    have := hun i hi hl
    rw [List.eq_nil_of_length_eq_zero (Nat.le_zero.1 hU)] at this
    cases this
  refine ⟨?_, done listed a w inv hall⟩
  apply List.eq_nil_iff_forall_not_mem.2
  intro i hi
  obtain ⟨h1, o, ho, _⟩ := mem_ready.1 hi
  have hlt := (Array.getElem?_eq_some_iff.1 ho).1
  have h2 := hall i hlt
  have h3 := getD_false_of (by rw [inv.size]; exact hlt) h1
  rw [h2] at h3
  cases h3
 | succ fuel ih =>
  intro U listed a w hU hun inv
  refine ⟨fun hr => done listed a w inv (allOf listed inv.size hr), fun i hi => ?_⟩
  obtain ⟨h1, o, ho, hdeps⟩ := mem_ready.1 hi
  have hlt : i < ops.size := (Array.getElem?_eq_some_iff.1 ho).1
  have hltl : i < listed.size := by rw [inv.size]; exact hlt
  have hil := getD_false_of hltl h1
  have hd : ∀ j ∈ deps ops i, listed.getD j false = true := fun j hj => by
   obtain ⟨e, he, hb, rfl⟩ := (mem_deps ho).1 hj
   exact hdeps e he hb
  have hself := self listed a w inv
  have hU' : (U.erase i).length ≤ fuel := by
   rw [List.length_erase_of_mem (hun i hlt hil)]
   omega
  have hun' : ∀ k, k < ops.size → (listed.setIfInBounds i true).getD k false = false → k ∈ U.erase i := by
   intro k hk hkl
   by_cases hki : k = i
   ·
    subst hki
    rw [getD_set_self hltl] at hkl
    cases hkl
   ·
    rw [getD_set_ne false (Ne.symm hki)] at hkl
    exact (List.mem_erase_of_ne hki).2 (hun k hk hkl)
  have hclosed : ∀ k, (listed.setIfInBounds i true).getD k false = true → ∀ j ∈ deps ops k, (listed.setIfInBounds i true).getD j false = true := by
   intro k hk j hj
   by_cases hki : k = i
   ·
    subst hki
    exact getD_set_true (hd j hj)
   ·
    rw [getD_set_ne false (Ne.symm hki)] at hk
    exact getD_set_true (inv.closed k hk j hj)
  have hsz : (listed.setIfInBounds i true).size = ops.size := by rw [Array.size_setIfInBounds]; exact inv.size
  have llt : ∀ k, listed.getD k false = true → k < ops.size := by
   intro k hk
   rw [← inv.size]
   by_cases hkl : k < listed.size
   ·
    exact hkl
   ·
    simp [hkl] at hk
  have hput : ∀ v k, k ≠ i → slots ops (a.put o.dst v) k = slots ops a k := by
   intro v k hk
   unfold slots
   cases hok : ops[k]? with
   | none => rfl
   | some p => exact slotOf_put (fun d' hd' => (sp.dst i o ho d' hd').2 k p hok hk)
  have hputi : ∀ v, (o.dst = none → v = undef) → slots ops (a.put o.dst v) i = v := by
   intro v hv
   unfold slots
   rw [ho]
   simp only
   cases hdst : o.dst with
   | none =>
    rw [hv hdst]
    simp only [slotOf, hdst]
   | some d =>
    have := slotOf_same (o := o) (a := a) (v := v) hdst (by rw [← inv.tmps]; exact (sp.dst i o ho d hdst).1)
    rw [hdst] at this
    exact this
  have hoff : ∀ v t, (∀ p ∈ ops.toList, p.dst ≠ some t) → a0.tmps[t]? = (a.put o.dst v).tmps[t]? := by
   intro v t ht
   rw [inv.off t ht]
   cases hdst : o.dst with
   | none => rfl
   | some d =>
    have hne : d ≠ t := fun e => ht o (by rw [Array.mem_toList_iff]; exact Array.mem_of_getElem? ho) (by rw [hdst, e])
    simp [Act.put, Array.getElem?_setIfInBounds_ne hne]
  have hdef : ∀ v, a0.defers = (a.put o.dst v).defers := fun v => by cases o.dst <;> exact inv.defers
  have hts : ∀ v, a0.tmps.size = (a.put o.dst v).tmps.size := fun v => by cases o.dst <;> simpa [Act.put] using inv.tmps
  obtain ⟨iv, f1, f2, f3, f4⟩ := inv.facts
  -- what an operation waits for is listed
  have hanc : ∀ j ∈ ancs ops ops.size i, j ≠ i → listed.getD j false = true := by
   have hc' : ∀ f k, k ∈ deps ops i → ∀ j ∈ ancs ops f k, listed.getD j false = true := fun f k hk j hj => ancs_listed inv.closed f k (hd k hk) j hj
   intro j hj hji
   cases hsz' : ops.size with
   | zero => omega
   | succ f =>
    rw [hsz'] at hj
    simp only [ancs, List.mem_cons, List.mem_flatMap] at hj
    rcases hj with hj | ⟨k, hk, hj⟩
    ·
     exact absurd hj hji
    ·
     exact hc' f k hk j hj
  have hla : ∀ k, listed.getD k false = true → ∀ j ∈ ancs ops ops.size k, listed.getD j false = true := fun k hk j hj => ancs_listed inv.closed _ k hk j hj
  have hlc : ∀ k, listed.getD k false = true → ∀ j ∈ chainOf C ops.size k, listed.getD j false = true := fun k hk j hj => hla k hk j (sp.chain k (llt k hk) j hj)
  have hni : ∀ k, listed.getD k false = true → k ≠ i := fun k hk e => by rw [e, hil] at hk; cases hk
  have herase : ∀ j ∈ (ancs ops ops.size i).erase i, j ≠ i := by
   intro j hj e
   subst e
   have hcount : ∀ f x, x ∈ deps ops j → j ∉ ancs ops f x := fun f x hx hm => by
    have := ancs_listed inv.closed f x (hd x hx) j hm
    rw [hil] at this
    cases this
   cases hsz' : ops.size with
   | zero => omega
   | succ f =>
    rw [hsz'] at hj
    simp only [ancs, List.erase_cons_head, List.mem_flatMap] at hj
    obtain ⟨x, hx, hm⟩ := hj
    exact hcount f x hx hm
  have := hstep i o ho iv (slots ops a) w
   ⟨inv.turned.os, inv.turned.tape, inv.turned.output, inv.turned.size, fun b hb hn => inv.turned.block b hb (by
    rintro ⟨k, m, hk, hm, hg⟩
    cases hs : sureGB ops D i m with
    | false => exact hn ⟨m, hg, hs⟩
    | true =>
     have := List.all_eq_true.1 hs (k, m) hm
     simp only [Bool.or_eq_true, beq_iff_eq, List.contains_iff_mem, bne_iff_ne] at this
     rcases this with (h | h) | h
     ·
      exact h rfl
     ·
      exact hni k hk h
     ·
      have := hla k hk i h
      rw [hil] at this
      cases this)⟩
   (fun j hj hji hs => f1 j (hanc j hj hji) (fun k hk => by
    cases hl : listed.getD k false with
    | false => rfl
    | true =>
     exfalso
     have := List.all_eq_true.1 hs (k, j) hk
     simp only [Bool.or_eq_true, beq_iff_eq, List.contains_iff_mem, bne_iff_ne] at this
     rcases this with (h | h) | h
     ·
      exact h rfl
     ·
      exact hni k hl h
     ·
      have := hla k hl i h
      rw [hil] at this
      cases this))
   (fun j hj hji => f2 j (hanc j hj hji)) (fun j hj hji => f3 j (hanc j hj hji)) (fun j hj k hk hji hki hjk => f4 j k (hanc j hj hji) (hanc k hk hki) hjk)
   (fun k hk => inv.rest k (by
    cases hl : listed.getD k false with
    | false => rfl
    | true =>
     exfalso
     have := hla k hl i hk
     rw [hil] at this
     cases this))
  rw [hself] at this
  refine wpOp_of_list ho this ?_ (fun e a' w' he h => he h.1)
  rintro a' w' ⟨_, v, hv, rfl, ht, hJv⟩
  have hup : slots ops (a.put o.dst v) = upd (slots ops a) i v := by
   funext k
   unfold upd
   by_cases hki : k = i
   ·
    subst hki; rw [if_pos rfl, hputi v hv]
   ·
    rw [if_neg hki, hput _ k hki]
  have hJi : J i (upd iv i (w.heap.size, w'.heap.size)) (slots ops (a.put o.dst v)) w' := by
   rw [hup]
   exact hJv _ (fun j hj => by simp [upd, herase j hj]) (by simp [upd])
  refine ih (U.erase i) _ _ w' hU' hun' ⟨hsz, hdef v, hts v, hoff v, hclosed, ?_, ?_, upd iv i (w.heap.size, w'.heap.size), ?_, ?_, ?_, ?_⟩
  ·
   intro k hk
   by_cases hki : k = i
   ·
    subst hki
    rw [getD_set_self hltl] at hk
    cases hk
   ·
    rw [getD_set_ne false (Ne.symm hki)] at hk
    rw [hput _ k hki]
    exact inv.rest k hk
  ·
   -- the old blocks
   refine ⟨ht.os.trans inv.turned.os, ht.tape.trans inv.turned.tape, ht.output.trans inv.turned.output, Nat.le_trans inv.turned.size ht.size, fun b hb hn => ?_⟩
   refine (ht.block b (Nat.lt_of_lt_of_le hb inv.turned.size) ?_).trans (inv.turned.block b hb ?_)
   ·
    rintro (⟨m, hm, hg⟩ | ⟨c, hc, x, hx, h | ⟨m, hm, hg⟩⟩)
    ·
     exact hn ⟨i, m, getD_set_self hltl _, hm, hg⟩
    ·
     have hcl := hanc c (sp.anc i c hc).1 (sp.anc i c hc).2.1
     have := (f3 x (hlc c hcl x hx)).1
     omega
    ·
     have hcl := hanc c (sp.anc i c hc).1 (sp.anc i c hc).2.1
     exact hn ⟨x, m, getD_set_true (hlc c hcl x hx), hm, hg⟩
   ·
    rintro ⟨k, m, hk, hm, hg⟩
    exact hn ⟨k, m, getD_set_true hk, hm, hg⟩
  ·
   intro k hk hek
   by_cases hki : k = i
   ·
    subst hki; exact hJi
   ·
    rw [getD_set_ne false (Ne.symm hki)] at hk
    have hek' : ∀ q, (q, k) ∈ C → listed.getD q false = false := by
     intro q hq
     cases hl : listed.getD q false with
     | false => rfl
     | true => have := hek q hq; rw [getD_set_true hl] at this; cases this
    have hnik : (i, k) ∉ C := fun hm => by have := hek i hm; rw [getD_set_self hltl] at this; cases this
    have hagree : ∀ j ∈ ancs ops ops.size k, j ≠ i := fun j hj => hni j (hla k hk j hj)
    refine hJ k iv _ (slots ops a) _ w w' (llt k hk) (fun j hj => by simp [upd, hagree j hj]) (fun j hj => (hput _ j (hagree j hj)).symm) ht.size ?_ (f1 k hk hek')
    rintro b hb ⟨y, hy, hfy⟩
    refine ht.block b hb ?_
    have hyl := hlc k hk y hy
    rintro (⟨m, hm, hg⟩ | ⟨c, hc, x, hx, hfx⟩)
    ·
     rcases hfy with h | ⟨m', hm', hg'⟩
     ·
      have := (f3 y hyl).1
      have := hGW m b hg
      omega
     ·
      obtain rfl := hG m m' b hg hg'
      exact hni y hyl (sp.given i m y hm hm')
    ·
     have hcl := hanc c (sp.anc i c hc).1 (sp.anc i c hc).2.1
     have hxl := hlc c hcl x hx
     have hxy : x = y := by
      by_cases hxy : x = y
      ·
       exact hxy
      exfalso
      rcases hfy with h | ⟨m', hm', hg'⟩
      ·
       rcases hfx with h' | ⟨m, hm, hg⟩
       ·
        have := f4 x y hxl hyl hxy
        unfold Sep at this
        omega
       ·
        have := (f3 y hyl).1
        have := hGW m b hg
        omega
      ·
       rcases hfx with h' | ⟨m, hm, hg⟩
       ·
        have := (f3 x hxl).1
        have := hGW m' b hg'
        omega
       ·
        obtain rfl := hG m m' b hg hg'
        exact hxy (sp.given y m x hm' hm)
     subst hxy
     by_cases hkc : k = c
     ·
      subst hkc; exact hnik hc
     rcases sp.apart i c hc k (llt k hk) hki hkc with h | h | ⟨q, hq, h⟩
     ·
      exact h x hy hx
     ·
      exact hni i (hla k hk i h) rfl
     ·
      have := hla c hcl q h
      rw [hek' q hq] at this
      cases this
  ·
   intro k hk
   by_cases hki : k = i
   ·
    subst hki; exact hE _ _ _ _ hlt hJi
   ·
    rw [getD_set_ne false (Ne.symm hki)] at hk
    have hagree : ∀ j ∈ ancs ops ops.size k, j ≠ i := fun j hj => hni j (hla k hk j hj)
    exact hEE k iv _ (slots ops a) _ (llt k hk) (fun j hj => by simp [upd, hagree j hj]) (fun j hj => (hput _ j (hagree j hj)).symm) (f2 k hk)
  ·
   intro k hk
   by_cases hki : k = i
   ·
    subst hki
    simp only [upd, if_pos]
    exact ⟨inv.turned.size, ht.size, Nat.le_refl _⟩
   ·
    rw [getD_set_ne false (Ne.symm hki)] at hk
    simp only [upd, if_neg hki]
    obtain ⟨b1, b2, b3⟩ := f3 k hk
    exact ⟨b1, b2, Nat.le_trans b3 ht.size⟩
  ·
   intro k m hk hm hkm
   by_cases hki : k = i
   ·
    subst hki
    have hmk : m ≠ k := Ne.symm hkm
    rw [getD_set_ne false (Ne.symm hmk)] at hm
    simp only [upd, if_pos, if_neg hmk]
    exact Or.inr (f3 m hm).2.2
   ·
    rw [getD_set_ne false (Ne.symm hki)] at hk
    by_cases hmi : m = i
    ·
     subst hmi
     simp only [upd, if_pos, if_neg hki]
     exact Or.inl (f3 k hk).2.2
    ·
     rw [getD_set_ne false (Ne.symm hmi)] at hm
     simp only [upd, if_neg hki, if_neg hmi]
     exact f4 k m hk hm hkm
theorem region_rs {Q : Exit → Act → World → Prop} {id : Nat} {a0 : Act} {w0 : World} (C D : List (Nat × Nat)) (G : Nat → Nat → Prop) (base : Nat) (J : Nat → (Nat → Nat × Nat) → (Nat → Value) → World → Prop) (JE : Nat → (Nat → Nat × Nat) → (Nat → Value) → Prop)
  (hm : P.follows .mixedOrders = true) (hB : rsB ops a0.tmps.size C D = true) (l : List Nat) (hl : List.range ops.size = l)
  (hbase : base ≤ w0.heap.size) (hGb : ∀ m b, G m b → base ≤ b ∧ b < w0.heap.size) (hG : ∀ m m' b, G m b → G m' b → m = m')
  (hJ : ∀ i ∈ l, ∀ iv iv' vs vs' w w', Hid (Agree (ancs ops ops.size i) iv iv') → Hid (Agree (ancs ops ops.size i) vs vs') → w.heap.size ≤ w'.heap.size → Hid (∀ b, b < w.heap.size → foot C D G ops.size i iv b → w'.heap[b]? = w.heap[b]?) → J i iv vs w → J i iv' vs' w')
  (hE : ∀ i ∈ l, ∀ iv vs w, J i iv vs w → JE i iv vs)
  (hEE : ∀ i ∈ l, ∀ iv iv' vs vs', Hid (Agree (ancs ops ops.size i) iv iv') → Hid (Agree (ancs ops ops.size i) vs vs') → JE i iv vs → JE i iv' vs')
  (hstep : ∀ i ∈ l, ∀ o, ops[i]? = some o → ∀ iv vs w, Below base w0 w → Hid (∀ m b, sureGB ops D i m = true → G m b → w.heap[b]? = w0.heap[b]?) → Hid (Spares (fun b => ∃ m, G m b) w0 w) → Hid (∀ j ∈ ancs ops ops.size i, j ≠ i → sureB ops C i j = true → J j iv vs w) → Hid (∀ j ∈ ancs ops ops.size i, j ≠ i → JE j iv vs) →
   Hid (∀ j ∈ ancs ops ops.size i, j ≠ i → w0.heap.size ≤ (iv j).1 ∧ (iv j).1 ≤ (iv j).2 ∧ (iv j).2 ≤ w.heap.size) → Hid (∀ j ∈ ancs ops ops.size i, ∀ k ∈ ancs ops ops.size i, j ≠ i → k ≠ i → j ≠ k → Sep (iv j) (iv k)) → Hid (∀ k, i ∈ ancs ops ops.size k → vs k = slots ops a0 k) →
   ∀ K : Act → World → Prop, (∀ v a' w', (o.dst = none → v = undef) → a' = (putFrom ops.toList 0 vs a0).put o.dst v → Spares (bite C D G ops.size i iv) w w' →
    (∀ iv', Hid (Agree ((ancs ops ops.size i).erase i) iv iv') → iv' i = (w.heap.size, w'.heap.size) → J i iv' (upd vs i v) w') → K a' w') → wpList P ops (Onward K) [o] (putFrom ops.toList 0 vs a0) w)
  (hQ : ∀ iv vs w, Below base w0 w → Hid (Spares (fun b => ∃ m, G m b) w0 w) → Hid (∀ i ∈ l, (∀ k, (k, i) ∉ C) → J i iv vs w) → Hid (∀ i ∈ l, JE i iv vs) →
   Hid (∀ i ∈ l, w0.heap.size ≤ (iv i).1 ∧ (iv i).1 ≤ (iv i).2 ∧ (iv i).2 ≤ w.heap.size) → Hid (∀ i ∈ l, ∀ j ∈ l, i ≠ j → Sep (iv i) (iv j)) → Q .normal (putFrom ops.toList 0 vs a0) w) :
  (Code.region id ops true).wp P Q a0 w0 := by
 have sp := rsB_spec hB
 subst hl
 refine wp_region_any hm ?_
 refine wpAny_rs (W := w0) sp hG (fun m b h => (hGb m b h).2) (J := J) (JE := JE)
  (fun i iv iv' vs vs' w w' hi h1 h2 h3 h4 h5 => hJ i (List.mem_range.2 hi) iv iv' vs vs' w w' (Lib.hid h1) (Lib.hid h2) h3 (Lib.hid h4) h5)
  (fun i iv vs w hi h => hE i (List.mem_range.2 hi) iv vs w h)
  (fun i iv iv' vs vs' hi h1 h2 h => hEE i (List.mem_range.2 hi) iv iv' vs vs' (Lib.hid h1) (Lib.hid h2) h) ?_
  (fun iv vs w ht h1 h2 h3 h4 => hQ iv vs w (ht.below hbase (fun b ⟨_, m, _, hg⟩ => (hGb m b hg).1)) (Lib.hid (ht.more fun b ⟨_, m, _, hg⟩ => ⟨m, hg⟩)) (Lib.hid fun i hi => h1 i (List.mem_range.1 hi)) (Lib.hid fun i hi => h2 i (List.mem_range.1 hi)) (Lib.hid fun i hi => h3 i (List.mem_range.1 hi)) (Lib.hid fun i hi j hj => h4 i j (List.mem_range.1 hi) (List.mem_range.1 hj)))
  ops.size (List.range ops.size) _ _ _ (by simp) (fun i hi _ => List.mem_range.2 hi) ⟨by simp, rfl, rfl, fun _ _ => rfl, ?_, fun _ _ => rfl, ?_, ?_⟩
 ·
  intro i o ho iv vs w ht h1 h2 h3 h4 h5
  have := hstep i (List.mem_range.2 (Array.getElem?_eq_some_iff.1 ho).1) o ho iv vs w (ht.below hbase (fun b ⟨m, hg, _⟩ => (hGb m b hg).1))
   (Lib.hid fun m b hm hg => ht.block b (hGb m b hg).2 (fun ⟨m', hg', hn⟩ => by rw [← hG m m' b hg hg', hm] at hn; cases hn)) (Lib.hid (ht.more fun b ⟨m, hg, _⟩ => ⟨m, hg⟩)) (Lib.hid h1) (Lib.hid h2) (Lib.hid h3) (Lib.hid h4) (Lib.hid h5)
   (fun a' w' => ∃ v, (o.dst = none → v = undef) ∧ a' = (putFrom ops.toList 0 vs a0).put o.dst v ∧ Spares (bite C D G ops.size i iv) w w' ∧ (∀ iv', Agree ((ancs ops ops.size i).erase i) iv iv' → iv' i = (w.heap.size, w'.heap.size) → J i iv' (upd vs i v) w'))
   (fun v a' w' h0 h1 h2 h3 => ⟨v, h0, h1, h2, fun iv' h4 h5 => h3 iv' (Lib.hid h4) h5⟩)
  exact this
 ·
  intro i h
  exfalso
  by_cases hi : i < ops.size <;> simp [hi] at h
 ·
  exact Spares.of_below (Below.refl _ _).drew
 ·
  have hno : ∀ i, (Array.replicate ops.size false).getD i false = true → False := fun i h => by by_cases hi : i < ops.size <;> simp [hi] at h
  exact ⟨fun _ => (0, 0), fun i h => (hno i h).elim, fun i h => (hno i h).elim, fun i h => (hno i h).elim, fun i _ h => (hno i h).elim⟩
theorem foot_iv {C D : List (Nat × Nat)} {G : Nat → Nat → Prop} {i j : Nat} {iv iv' : Nat → Nat × Nat} {b : Nat} (h : ((chainOf C ops.size i).contains j && ((ancs ops ops.size i).erase i).contains j) = true)
  (hag : Hid (Agree ((ancs ops ops.size i).erase i) iv iv')) (h1 : (iv j).1 ≤ b) (h2 : b < (iv j).2) : foot C D G ops.size i iv' b := by
 simp only [Bool.and_eq_true, List.contains_iff_mem] at h
 exact ⟨j, h.1, Or.inl (by rw [← hag.out j h.2]; exact ⟨h1, h2⟩)⟩
theorem foot_new {C D : List (Nat × Nat)} {G : Nat → Nat → Prop} {n i p q : Nat} {iv' : Nat → Nat × Nat} {b : Nat} (h : iv' i = (p, q)) (h1 : p ≤ b) (h2 : b < q) : foot C D G n i iv' b := foot_own (by rw [h]; exact h1) (by rw [h]; exact h2)
theorem foot_given {C D : List (Nat × Nat)} {G : Nat → Nat → Prop} {n i : Nat} (m : Nat) {iv' : Nat → Nat × Nat} {b : Nat} (h : (i, m) ∈ D) (hg : G m b) : foot C D G n i iv' b := ⟨i, chainOf_self _ _ _, Or.inr ⟨m, h, hg⟩⟩
theorem not_eaten {C : List (Nat × Nat)} {i : Nat} (h : (C.all fun p => p.2 != i) = true) : ∀ k, (k, i) ∉ C := by
 intro k hk
 have := List.all_eq_true.1 h (k, i) hk
 simp at this
end
end Go.Proofs.YtfhlddbngjlhbaaDoor

namespace Go.Proofs
open Go.Shelf
def Tryd.lays169_ren : Go.Shelf.Ren := ⟨fun | 169 => 55 | n => n, fun | 70 => 75 | 9 => 9 | 0 => 0 | 72 => 78 | 37 => 76 | 127 => 89 | 3 => 3 | 5 => 5 | n => n, fun | n => n⟩
theorem Tryd.lays169 : Go.Proofs.Lays.n169 Tryd.prog Tryd.lays169_ren := {
 mixed := by kernel_rfl
 f169 := Tryd.func55.trans (congrArg some (by kernel_rfl))
 t0 := Tryd.underlying0
 a0 := Tryd.isAgg0
 z0 := Tryd.sizeOf0
 v0 := Tryd.zeroValue0
 t3 := Tryd.underlying3
 a3 := Tryd.isAgg3
 z3 := Tryd.sizeOf3
 v3 := Tryd.zeroValue3
 t9 := Tryd.underlying9
 a9 := Tryd.isAgg9
 z9 := Tryd.sizeOf9
 v9 := Tryd.zeroValue9
 t37 := Tryd.underlying76
 a37 := Tryd.isAgg76
 z37 := Tryd.sizeOf76
 v37 := Tryd.zeroValue76
 t70 := Tryd.underlying75
 a70 := Tryd.isAgg75
 z70 := Tryd.sizeOf75
 v70 := Tryd.zeroValue75
 t72 := Tryd.underlying78
 a72 := Tryd.isAgg78
 z72 := Tryd.sizeOf78
 v72 := Tryd.zeroValue78
 t127 := Tryd.underlying89
 a127 := Tryd.isAgg89
 z127 := Tryd.sizeOf89
 v127 := Tryd.zeroValue89 }
theorem Tryd.Builder_Extra_169 : Builder.Extra Tryd.prog Tryd.lays169_ren := {
 sizeBuilder := by kernel_rfl
 liesBuilder := by kernel_rfl
 t5 := Tryd.underlying5
 a5 := Tryd.isAgg5
 z5 := Tryd.sizeOf5
 v5 := Tryd.zeroValue5
 infoByte := by kernel_rfl
 cellsByte := by kernel_rfl
 sizeByte := by kernel_rfl
 neB5 := by decide }
open Go.RowKit in
open Go.RowKit in
open Go.RowKit in
theorem Tryd.Builder_String_any (B b : Nat) (l : List UInt8) (w : World) (h : Lib.IsBuilder 78 5 B b (Lib.byteCells l) w) (hBw : B ≤ w.heap.size) :
  Calls Tryd.prog 55 #[.pointer (some ⟨b, 0, none⟩)] w fun e w' => e = .returned (.string ⟨l.toArray⟩) ∧ Below B w w' := Any.Builder_String_any Tryd.lays169 Tryd.Builder_Extra_169 B b l w h hBw
open Go.RowKit in
open Go.RowKit in
open Go.RowKit in
open Go.RowKit in
open Go.RowKit in
open Go.RowKit in
open Go.Lib in
open Go.Lib in
open Go.Lib in
open Go.Lib in
open Go.RowKit Go.Sort Go.Lib in
open Go.RowKit Go.Sort Go.Lib in
open Go.RowKit Go.Sort Go.Lib in
open Go.RowKit Go.Sort Go.Lib in
def Tryd.lays173_ren : Go.Shelf.Ren := ⟨fun | 173 => 61 | 246 => 64 | 283 => 65 | 284 => 66 | 285 => 67 | 286 => 68 | 129 => 70 | 317 => 69 | 318 => 71 | 319 => 72 | 320 => 73 | 337 => 74 | 338 => 75 | n => n, fun | 2 => 2 | 3 => 3 | 9 => 9 | 4 => 4 | 171 => 92 | 0 => 0 | 53 => 93 | 37 => 76 | 5 => 5 | 173 => 96 | 212 => 100 | 51 => 101 | 20 => 20 | 213 => 102 | 46 => 69 | 232 => 106 | 233 => 107 | n => n, fun | 17 => 0 | 18 => 1 | 19 => 2 | n => n⟩
theorem Tryd.lays173 : Go.Proofs.Lays.n173 Tryd.prog Tryd.lays173_ren := {
 mixed := by kernel_rfl
 f129 := Tryd.func70.trans (congrArg some (by kernel_rfl))
 f173 := Tryd.func61.trans (congrArg some (by kernel_rfl))
 f246 := Tryd.func64.trans (congrArg some (by kernel_rfl))
 f283 := Tryd.func65.trans (congrArg some (by kernel_rfl))
 f284 := Tryd.func66.trans (congrArg some (by kernel_rfl))
 f285 := Tryd.func67.trans (congrArg some (by kernel_rfl))
 f286 := Tryd.func68.trans (congrArg some (by kernel_rfl))
 f317 := Tryd.func69.trans (congrArg some (by kernel_rfl))
 f318 := Tryd.func71.trans (congrArg some (by kernel_rfl))
 f319 := Tryd.func72.trans (congrArg some (by kernel_rfl))
 f320 := Tryd.func73.trans (congrArg some (by kernel_rfl))
 f337 := Tryd.func74.trans (congrArg some (by kernel_rfl))
 f338 := Tryd.func75.trans (congrArg some (by kernel_rfl))
 t0 := Tryd.underlying0
 a0 := Tryd.isAgg0
 z0 := Tryd.sizeOf0
 v0 := Tryd.zeroValue0
 t2 := Tryd.underlying2
 a2 := Tryd.isAgg2
 z2 := Tryd.sizeOf2
 v2 := Tryd.zeroValue2
 t3 := Tryd.underlying3
 a3 := Tryd.isAgg3
 z3 := Tryd.sizeOf3
 v3 := Tryd.zeroValue3
 t4 := Tryd.underlying4
 a4 := Tryd.isAgg4
 z4 := Tryd.sizeOf4
 v4 := Tryd.zeroValue4
 t5 := Tryd.underlying5
 a5 := Tryd.isAgg5
 z5 := Tryd.sizeOf5
 v5 := Tryd.zeroValue5
 t9 := Tryd.underlying9
 a9 := Tryd.isAgg9
 z9 := Tryd.sizeOf9
 v9 := Tryd.zeroValue9
 t20 := Tryd.underlying20
 a20 := Tryd.isAgg20
 z20 := Tryd.sizeOf20
 v20 := Tryd.zeroValue20
 t37 := Tryd.underlying76
 a37 := Tryd.isAgg76
 z37 := Tryd.sizeOf76
 v37 := Tryd.zeroValue76
 t46 := Tryd.underlying69
 a46 := Tryd.isAgg69
 z46 := Tryd.sizeOf69
 v46 := Tryd.zeroValue69
 t51 := Tryd.underlying101
 a51 := Tryd.isAgg101
 z51 := Tryd.sizeOf101
 v51 := Tryd.zeroValue101
 t53 := Tryd.underlying93
 a53 := Tryd.isAgg93
 z53 := Tryd.sizeOf93
 v53 := Tryd.zeroValue93
 t171 := Tryd.underlying92
 a171 := Tryd.isAgg92
 z171 := Tryd.sizeOf92
 v171 := Tryd.zeroValue92
 t173 := Tryd.underlying96
 a173 := Tryd.isAgg96
 z173 := Tryd.sizeOf96
 v173 := Tryd.zeroValue96
 t212 := Tryd.underlying100
 a212 := Tryd.isAgg100
 z212 := Tryd.sizeOf100
 v212 := Tryd.zeroValue100
 t213 := Tryd.underlying102
 a213 := Tryd.isAgg102
 z213 := Tryd.sizeOf102
 t232 := Tryd.underlying106
 a232 := Tryd.isAgg106
 z232 := Tryd.sizeOf106
 v232 := Tryd.zeroValue106
 t233 := Tryd.underlying107
 a233 := Tryd.isAgg107
 z233 := Tryd.sizeOf107
 v233 := Tryd.zeroValue107
 g17 := by kernel_rfl
 g18 := by kernel_rfl
 g19 := by kernel_rfl }
open Go.RowKit Go.Sort Go.Lib in
theorem Tryd.strconv_FormatInt_10_small (i : Nat) (hi : i < 100) (w : World) :
  Calls Tryd.prog 61 #[.int .i64 i, .int .i64 10] w fun e w' => e = .returned (.string ⟨(Lib.decDigits i).toArray⟩) ∧ w' = w := Any.strconv_FormatInt_10_small Tryd.lays173 i hi w
end Go.Proofs

namespace Go.Proofs.YtfhlddbngjlhbaaDoor
set_option linter.unusedVariables false
set_option linter.unusedSimpArgs false
open Go.ChangeShapes Go.WideShapes Go.ChangeAt Go.RowKit
def bs (l : List UInt8) : ByteArray := ⟨l.toArray⟩
theorem bs_add (a b : List UInt8) : bs a ++ bs b = bs (a ++ b) := by
 apply ByteArray.ext
 simp [bs, ByteArray.data_append]
theorem bs_size (a : List UInt8) : (bs a).size = a.length := by simp [bs, ByteArray.size]
theorem bs_inj {a b : List UInt8} (h : bs a = bs b) : a = b := by
 unfold bs at h
 have := congrArg ByteArray.data h
 simpa using this
theorem run_cat {P : Program} (a b : List UInt8) (h : a.length + b.length ≤ 1000000000) (w : World) : (Op.stringOp .add (bs a) (bs b)).run P w = .ok (.string (bs (a ++ b))) w := by
 rw [Go.run_string_add_sum w _ _ (by rw [bs_size, bs_size]; omega), bs_add]
theorem decimal_i {n : Nat} {w : World} (hn : n < 100) : Calls Tryd.prog 54 #[.int .i64 n] w fun e w' => e = .returned (.string (bs (Lib.decDigits n))) ∧ w = w' := by
 go_enter Tryd.func54, Tryd.ntmps54
 go_wp2_with fail
 refine (Tryd.strconv_FormatInt_10_small n hn _).mono ?_
 rintro e w1 ⟨rfl, rfl⟩
 go_wp2_with fail
 go_ret
 exact ⟨rfl, rfl⟩
end Go.Proofs.YtfhlddbngjlhbaaDoor

namespace Go.Proofs.YtfhlddbngjlhbaaDoor
set_option linter.unusedVariables false
set_option linter.unusedSimpArgs false
open Go.ChangeShapes Go.WideShapes Go.ChangeAt Go.RowKit
def BldAt (B : Nat) (S : Nat → Prop) (b : Nat) (l : List UInt8) (w : World) : Prop :=
 ∃ p v, (p = .pointer none ∨ p = .pointer (some ⟨b, 0, none⟩)) ∧ w.heap[b]? = some (.cells #[p, v] 78 (0, 0)) ∧ w.ownsRow B 5 1 v l.length (Lib.byteCells l) ∧ v.ownBlock ≠ some b ∧ S b ∧ (∀ g, v.ownBlock = some g → S g) ∧ ∀ x, S x → B ≤ x ∧ x < w.heap.size
theorem bytes_cells (l : List UInt8) : Lib.strCells (bs l) = Lib.byteCells l := by simp [Lib.strCells, Lib.byteCells, bs]
theorem cells_app (a b : List UInt8) : Lib.byteCells (a ++ b) = Lib.byteCells a ++ Lib.byteCells b := by simp [Lib.byteCells]
theorem byteCells_len (l : List UInt8) : (Lib.byteCells l).length = l.length := by simp [Lib.byteCells]
theorem BldAt.made {w : World} {B : Nat} (hB : B ≤ w.heap.size) : BldAt B (fun x => x = w.heap.size) w.heap.size [] (w.alloc (.cells #[.pointer none, .slice none 0 0] 78)) := by
 refine ⟨_, _, Or.inl rfl, (MapKept.heap_alloc w _).1, World.ownsRow_nil _ _ _ _, by simp [Value.ownBlock], rfl, by simp [Value.ownBlock], ?_⟩
 rintro x rfl
 exact ⟨hB, by simp⟩
theorem BldAt.keep {B b : Nat} {S : Nat → Prop} {l : List UInt8} {w w' : World} (h : BldAt B S b l w) (hz : w.heap.size ≤ w'.heap.size) (hk : ∀ x, x < w.heap.size → S x → w'.heap[x]? = w.heap[x]?) : BldAt B S b l w' := by
 obtain ⟨p, v, h1, h2, h3, h4, h5, h6, h7⟩ := h
 refine ⟨p, v, h1, (hk b (h7 b h5).2 h5).trans h2, ⟨h3.1, ?_⟩, h4, h5, h6, fun x hx => ⟨(h7 x hx).1, Nat.lt_of_lt_of_le (h7 x hx).2 hz⟩⟩
 rcases h3.2 with h | ⟨g, cap, cur, e, hg, hbb, hr⟩
 ·
  exact Or.inl h
 ·
  have hs := h6 g (by rw [e]; rfl)
  exact Or.inr ⟨g, cap, cur, e, hg, (hk g (h7 g hs).2 hs).trans hbb, hr⟩
theorem BldAt.below {B b : Nat} {S : Nat → Prop} {l : List UInt8} {w w' : World} (h : BldAt B S b l w) (hb : Below w.heap.size w w') : BldAt B S b l w' := h.keep hb.size fun x hx _ => hb.block x hx
theorem BldAt.is {B b : Nat} {S : Nat → Prop} {l : List UInt8} {w : World} (h : BldAt B S b l w) : Lib.IsBuilder 78 5 B b (Lib.byteCells l) w := by
 obtain ⟨p, v, h1, h2, h3, h4, h5, h6, h7⟩ := h
 have hx : (Lib.byteCells l).length = l.length := byteCells_len l
 rcases h1 with rfl | rfl
 ·
  exact Or.inl ⟨(h7 b h5).1, v, h2, by rw [hx]; exact h3, h4⟩
 ·
  exact Or.inr ⟨(h7 b h5).1, v, h2, by rw [hx]; exact h3, h4⟩
theorem BldAt.set {B b : Nat} {S : Nat → Prop} {l : List UInt8} {w : World} (h : BldAt B S b l w) : S b ∧ (∀ x, S x → B ≤ x ∧ x < w.heap.size) := by
 obtain ⟨p, v, h1, h2, h3, h4, h5, h6, h7⟩ := h
 exact ⟨h5, h7⟩
theorem builder_info : (Tryd.prog.info? 78).map (·.size) = some 2 := by kernel_rfl
theorem builder_lies : liesAt Tryd.prog Tryd.prog.depth 78 (2 / Tryd.prog.cellsOf 78) 0 78 1 = true := by kernel_rfl
theorem byte_info : (Tryd.prog.info? 5).map (fun i => (i.zero, i.size, i.bytes)) = some (some (.int .u8 0), 1, 1) := by kernel_rfl
set_option maxRecDepth 100000 in
set_option maxHeartbeats 2000000 in
theorem copyCheck_i {b : Nat} {p v : Value} {w : World} (hp : p = .pointer none ∨ p = .pointer (some ⟨b, 0, none⟩)) (h : w.heap[b]? = some (.cells #[p, v] 78 (0, 0))) :
  Calls Tryd.prog 60 #[.pointer (some ⟨b, 0, none⟩)] w fun e w' => e = .returned (.tuple #[]) ∧ w'.heap[b]? = some (.cells #[.pointer (some ⟨b, 0, none⟩), v] 78 (0, 0)) ∧ Spares (fun x => x = b) w w' ∧ w'.heap.size = w.heap.size := by
 obtain ⟨j, hj, hjs⟩ := Option.map_eq_some_iff.1 builder_info
 have h0 : w.cell? ⟨b, 0, none⟩ = some p := by rw [Lib.cell_of_heap h]; rfl
 have hz : w.frozen? ⟨b, 0, none⟩ = false := Lib.frozen_of_heap h 0
 have hs : w.shape? b = some (78, 2) := by simp [World.shape?, h]
 rcases hp with rfl | rfl
 ·
  have hu := Lib.run_to_unsafe w ⟨b, 0, none⟩ Tryd.underlying75 Tryd.underlying90 hj (by rw [hjs]; decide) hs (Nat.zero_lt_succ 1)
  have hf := Lib.run_from_unsafe w ⟨b, 0, none⟩ Tryd.underlying90 Tryd.underlying75 hj hs builder_lies
  go_enter Tryd.func60, Tryd.ntmps60
  go_wp2_with fail
  rw [run_callFunc_extern Tryd.func63 (by kernel_rfl) (by kernel_rfl) (by kernel_rfl) (e := Extern.AbiNoEscape.same) (by kernel_rfl), Lib.run_noEscape]
  simp only [Result.andThen]
  rw [Oper.upon_value]
  go_wp2_with fail
  go_end0
  refine ⟨rfl, ?_, Spares.set (Spares.refl _), by simp [World.setCell]⟩
  have hB : Blk w b 78 [.pointer none, v] := h
  exact hB.set 0 (.pointer (some ⟨b, 0, none⟩))
 ·
  have hn := Lib.run_neq_ptr_same w ⟨b, 0, none⟩ Tryd.underlying75 hj
  go_enter Tryd.func60, Tryd.ntmps60
  go_wp2_with fail
  go_end0
  exact ⟨rfl, h, Spares.refl _, rfl⟩
theorem append_text_at {P : Program} (w : World) (base : Nat) (t u ty e : TypeId) (i : TypeInfo) (ht : P.underlying t = some (.slice e)) (hu : P.underlying u = some .string) (hi : P.info? e = some i) (hz : i.zero = some (.int .u8 0))
  (hsize : i.size = 1) (hby : i.bytes = 1) (v : Value) (n : Nat) (xs : List Value) (hown : w.ownsRow base e 1 v n xs) (s : ByteArray) (h63 : n + s.size ≤ maxLen) (hbytes : n + s.size ≤ 140737488355328) (hbase : base ≤ w.heap.size) :
  ∃ v' w', (Builtin.append_ #[t, u] ty #[v, .string s]).run P w = .ok v' w' ∧ w'.ownsRow base e 1 v' (n + s.size) (xs ++ Lib.strCells s) ∧ w.grownBy w' v.ownBlock ∧ (v'.ownBlock = v.ownBlock ∨ v'.ownBlock = some w.heap.size) := by
 obtain ⟨v', w', hr, h2, h3, h4⟩ := Lib.run_append_own_string (P := P) w base t u ty e i ht hu hi hz hsize hby v n xs hown s h63 hbytes hbase
 refine ⟨v', w', hr, h2, h3, ?_⟩
 rcases hown.2 with ⟨rfl, rfl⟩ | ⟨g, cap, cur, rfl, hbg, hg, hnc, hcm, hcs, htake⟩
 ·
  by_cases hm : s.size = 0
  ·
   rw [h4.2 ⟨rfl, hm⟩]
   exact Or.inl rfl
  ·
   have hr' := run_append_nil_string (P := P) w t u ty e i (.int .u8 0) ht hu hi hz s (by omega) (by unfold maxLen at h63; omega) (by rw [hby]; omega)
   rw [hr] at hr'
   cases hr'
   exact Or.inr rfl
 ·
  have hcs' : cur.size = cap := by simpa using hcs
  have hxl : xs.length = n := by simpa using hown.1
  by_cases hroom : n + s.size ≤ cap
  ·
   have hr' := Lib.run_append_room_string (P := P) w t u ty e i ht hu hi hsize g n cap cur hg s hroom (by omega)
   rw [hr] at hr'
   cases hr'
   exact Or.inl rfl
  ·
   have hr' := Lib.run_append_grow_string (P := P) w t u ty e i (.int .u8 0) ht hu hi hz ⟨g, 0, none⟩ n cap xs (by rw [hsize]; simpa using hxl) (hown.cells (g := g) rfl) s (by omega) (by unfold maxLen at h63; omega) (by rw [hby]; exact growslice_fits (by omega) (by omega))
   rw [hr] at hr'
   cases hr'
   exact Or.inr rfl
theorem wpList_append_text {P : Program} (w : World) {ops : Array Oper} {rest : List Oper} {o : Oper} {a : Act} {Q : Exit → Act → World → Prop} (hgd : o.guard = none) (sl x : Operand) (t u : TypeId)
  (ho : o.op = .call { callee := .builtin .append, args := #[sl, x], argTypes := #[t, u] }) (base : Nat) (e : TypeId) (ht : P.underlying t = some (.slice e)) (hu : P.underlying u = some .string)
  (hinfo : (P.info? e).map (fun i => (i.zero, i.size, i.bytes)) = some (some (.int .u8 0), 1, 1)) (v : Value) (n : Nat) (xs : List Value) (hs : a.eval sl = v) (hown : w.ownsRow base e 1 v n xs) (s : ByteArray) (hx : a.eval x = .string s)
  (h63 : n + s.size ≤ maxLen) (hbytes : n + s.size ≤ 140737488355328) (hbase : base ≤ w.heap.size)
  (h : ∀ ao n' cap w', w'.ownsRow base e 1 (.slice ao n' cap) (n + s.size) (xs ++ Lib.strCells s) → w.grownBy w' v.ownBlock → (Value.ownBlock (.slice ao n' cap) = v.ownBlock ∨ Value.ownBlock (.slice ao n' cap) = some w.heap.size) → wpList P ops Q rest (a.put o.dst (.slice ao n' cap)) w') : wpList P ops Q (o :: rest) a w := by
 obtain ⟨i, hi, hz, hsize, hby⟩ := info_parts hinfo
 refine wpList_plain hgd fun K hK => ?_
 obtain ⟨v', w', hr, h2, h3, h4⟩ := append_text_at (P := P) w base t u o.type e i ht hu hi hz hsize hby v n xs hown s h63 hbytes hbase
 obtain ⟨ao, n', cap, rfl⟩ : ∃ ao n' cap, v' = .slice ao n' cap := by rcases h2.2 with ⟨e, _⟩ | ⟨g, cap, cur, e, _⟩ <;> exact ⟨_, _, _, e⟩
 unfold Oper.wp execOp
 simp only [ho, resolve, invoke, builtin, Sem.run_bind, Sem.run_pure, Result.andThen_ok, List.map_toArray, List.map_cons, List.map_nil, hs, hx, hr]
 exact hK _ _ (h ao n' cap w' h2 h3 h4)
set_option maxRecDepth 100000 in
set_option maxHeartbeats 2000000 in
theorem WriteString_i {B b : Nat} {S : Nat → Prop} {l s : List UInt8} {w : World} (h : BldAt B S b l w) (hlen : l.length + s.length ≤ 1000000000) (hB : B ≤ w.heap.size) :
    Calls Tryd.prog 53 #[.pointer (some ⟨b, 0, none⟩), .string (bs s)] w fun e w' => (∃ u, e = .returned u) ∧ BldAt B (fun x => S x ∨ (w.heap.size ≤ x ∧ x < w'.heap.size)) b (l ++ s) w' ∧ Spares S w w' := by
  obtain ⟨p, v, h1, h2, h3, h4, h5, h6, h7⟩ := h
  have Hl := Lib.hid (bs_size s)
  go_enter Tryd.func53, Tryd.ntmps53
  go_wp2_with fail
  refine (copyCheck_i h1 h2).mono ?_
  rintro e w1 ⟨rfl, hbk, hsp, hz⟩
  have hown : w1.ownsRow B 5 1 v l.length (Lib.byteCells l) := by
    refine ⟨h3.1, ?_⟩
    rcases h3.2 with h | ⟨g, cap, cur, e, hg, hbb, hr⟩
    · exact Or.inl h
    · have hgb : g ≠ b := fun q => h4 (by rw [e, q]; rfl)
      exact Or.inr ⟨g, cap, cur, e, hg, (hsp.block g (h7 g (h6 g (by rw [e]; rfl))).2 hgb).trans hbb, hr⟩
  have c0 : w1.cell? ⟨b, 0, none⟩ = some (.pointer (some ⟨b, 0, none⟩)) := by rw [Lib.cell_of_heap hbk]; rfl
  have c1 : w1.cell? ⟨b, 1, none⟩ = some v := by rw [Lib.cell_of_heap hbk]; rfl
  have hlt : b < w1.heap.size := (Array.getElem?_eq_some_iff.1 hbk).1
  have Hz := Lib.hid hz
  have hBz : B ≤ w1.heap.size := by omega
  have HS := Lib.hid hsp
  have H7 := Lib.hid h7
  have H2 := Lib.hid h2
  clear hz hsp h7 h2
  go_wp2_with (at_builtin; refine wpList_append_text _ rfl _ _ 76 9 rfl B 5 Tryd.underlying76 Tryd.underlying9 byte_info _ _ _ rfl hown (bs s) rfl (by rw [Hl.out]; unfold maxLen; omega) (by rw [Hl.out]; omega) hBz ?_; intro ao n' cap w2 hown' hgrow hat; have hb2 : w2.heap[b]? = some (.cells #[.pointer (some ⟨b, 0, none⟩), v] 78 (0, 0)) := (by rw [hgrow.block b hlt (fun e => h4 e.symm)]; exact hbk); have d1 : w2.cell? ⟨b, 1, none⟩ = some v := (by rw [Lib.cell_of_heap hb2]; rfl); have f1 : w2.frozen? ⟨b, 1, none⟩ = false := Lib.frozen_of_heap hb2 1; clear c0 c1)
  go_ret2
  have hgz := hgrow.size
  rw [bytes_cells] at hown'
  have hne := Lib.ownBlock_ne hown' hb2 (by decide)
  have hblk : Blk w2 b 78 [.pointer (some ⟨b, 0, none⟩), v] := hb2
  have hsz2 : (w2.setCell ⟨b, 1, none⟩ (.slice ao n' cap)).heap.size = w2.heap.size := by simp [World.setCell]
  have Hz := Hz.out
  have H7 := H7.out
  refine ⟨⟨_, rfl⟩, ⟨_, _, Or.inr rfl, hblk.set 1 (.slice ao n' cap), ?_, hne, Or.inl h5, ?_, ?_⟩, ?_⟩
  · rw [cells_app, List.length_append, show s.length = (bs s).size from (bs_size s).symm]
    refine ⟨hown'.1, ?_⟩
    rcases hown'.2 with h | ⟨g, cap', cur, e, hg, hbb, hr⟩
    · exact Or.inl h
    · exact Or.inr ⟨g, cap', cur, e, hg, (Below.heap_setCell _ _ _ _ (fun q => hne (by rw [e]; show some g = some b; rw [q]))).trans hbb, hr⟩
  · intro g hg
    rcases hat with h | h
    · exact Or.inl (h6 g (h ▸ hg))
    · rw [h] at hg
      cases hg
      exact Or.inr (by rw [hsz2]; rcases hown'.2 with ⟨e, _⟩ | ⟨g, cap', cur, e, _, hbb, _⟩
                       · rw [e] at h; cases h
                       · rw [e] at h
                         simp only [Value.ownBlock, Option.some.injEq] at h
                         have := (Array.getElem?_eq_some_iff.1 hbb).1
                         omega)
  · intro x hx
    rw [hsz2]
    rcases hx with hx | hx
    · have := H7 x hx; omega
    · rw [hsz2] at hx; omega
  · have HS := HS.out
    refine ⟨hgrow.os.trans HS.os, hgrow.tape.trans HS.tape, hgrow.output.trans HS.output, by rw [hsz2]; omega, fun x hx hn => ?_⟩
    have hxb : x ≠ b := fun q => hn (q ▸ h5)
    have hxv : some x ≠ v.ownBlock := fun q => hn (h6 x q.symm)
    rw [Below.heap_setCell _ _ _ _ hxb, hgrow.block x (by omega) hxv]
    exact HS.block x hx hxb
theorem String_i {B b : Nat} {S : Nat → Prop} {l : List UInt8} {w : World} (h : BldAt B S b l w) (hB : B ≤ w.heap.size) :
  Calls Tryd.prog 55 #[.pointer (some ⟨b, 0, none⟩)] w fun e w' => e = .returned (.string (bs l)) ∧ Below B w w' := Tryd.Builder_String_any B b l w h.is hB
end Go.Proofs.YtfhlddbngjlhbaaDoor

namespace Go.Proofs.YtfhlddbngjlhbaaDoor
set_option linter.unusedVariables false
set_option linter.unusedSimpArgs false
open Go.ChangeShapes Go.WideShapes Go.ChangeAt Go.RowKit Go.Deep
inductive Ex where
 | mk (kind num : Int) (kids : List Ex)
section
variable {H : Type} {enc : TypeId × Value → H} {P : Program} {w : World} {base : Nat} {sp : Nat → Bool} {hd : Bool}
end
end Go.Proofs.YtfhlddbngjlhbaaDoor

namespace Go.Proofs.YtfhlddbngjlhbaaDoor
set_option linter.unusedVariables false
set_option linter.unusedSimpArgs false
open Go.ChangeShapes Go.WideShapes Go.ChangeAt Go.RowKit
theorem own : ownKnob Tryd.prog.godebug = none := by kernel_rfl
theorem laid : laidOutB Tryd.prog = true := by kernel_rfl
theorem cells_int64 : Tryd.prog.cellsOf 2 = 1 := by kernel_rfl
theorem cells_int64s : Tryd.prog.cellsOf 58 = 1 := by kernel_rfl
section
variable {H : Type} {enc : TypeId × Value → H} {W : World} {base : Nat} {sp : Nat → Bool} {hd : Bool} {v : Value} {d : DataW H} {ps : List MemPlace}
end
end Go.Proofs.YtfhlddbngjlhbaaDoor

namespace Go.Proofs.YtfhlddbngjlhbaaDoor
set_option linter.unusedVariables false
set_option linter.unusedSimpArgs false
open Go.ChangeShapes Go.WideShapes Go.ChangeAt Go.RowKit
def inB (n lo hi : Int) : Bool := decide (lo ≤ n) && decide (n ≤ hi)
def sigB (t a : Int) : Bool := inB t 0 3 && inB a 0 4
theorem within_any (n lo hi : Int) (w : World) : Calls Tryd.prog 39 #[.int .i64 n, .int .i64 lo, .int .i64 hi] w fun e w' => e = .returned (.bool (inB n lo hi)) ∧ w = w' := by
 by_cases h1 : lo ≤ n
 ·
  by_cases h2 : n ≤ hi
  ·
   have e1 : inB n lo hi = true := by simp [inB, h1, h2]
   rw [e1]
   go_enter Tryd.func39, Tryd.ntmps39
   go_wp2
   go_ret
   exact ⟨rfl, rfl⟩
  ·
   have e1 : inB n lo hi = false := by simp [inB, h2]
   rw [e1]
   go_enter Tryd.func39, Tryd.ntmps39
   go_wp2
   go_ret
   exact ⟨rfl, rfl⟩
 ·
  have e1 : inB n lo hi = false := by simp [inB, h1]
  rw [e1]
  go_enter Tryd.func39, Tryd.ntmps39
  go_wp2
  go_ret
  exact ⟨rfl, rfl⟩
theorem in_any (n lo hi : Int) (w : World) : Calls Tryd.prog 30 #[.int .i64 n, .int .i64 lo, .int .i64 hi] w fun e w' => e = .returned (.bool (inB n lo hi)) ∧ w = w' := by
 by_cases h1 : lo ≤ n
 ·
  by_cases h2 : n ≤ hi
  ·
   have e1 : inB n lo hi = true := by simp [inB, h1, h2]
   rw [e1]
   go_enter Tryd.func30, Tryd.ntmps30
   go_wp2
   go_ret
   exact ⟨rfl, rfl⟩
  ·
   have e1 : inB n lo hi = false := by simp [inB, h2]
   rw [e1]
   go_enter Tryd.func30, Tryd.ntmps30
   go_wp2
   go_ret
   exact ⟨rfl, rfl⟩
 ·
  have e1 : inB n lo hi = false := by simp [inB, h1]
  rw [e1]
  go_enter Tryd.func30, Tryd.ntmps30
  go_wp2
  go_ret
  exact ⟨rfl, rfl⟩
theorem toSig_any (t a : Int) (w : World) : Calls Tryd.prog 15 #[.agg #[.int .i64 t, .int .i64 a]] w fun e w' => e = .returned (.agg #[.int .i64 t, .int .i64 a]) ∧ Below w.heap.size w w' := by
 go_enter Tryd.func15, Tryd.ntmps15
 go_wp2
 exact bodyPost_ret (v := .agg #[.int .i64 t, .int .i64 a]) (by simp [results, Tryd.results15, go_sem]) rfl ⟨rfl, by (repeat' first | exact Below.refl _ _ | assumption | apply Below.alloc | apply Below.drew | apply Below.setCell | omega | (simp; done) | (simp; omega))⟩
theorem l01Sig_any (t a : Int) (w : World) : Calls Tryd.prog 29 #[.agg #[.int .i64 t, .int .i64 a]] w fun e w' => e = .returned (.bool (sigB t a)) ∧ Below w.heap.size w w' := by
 go_enter Tryd.func29, Tryd.ntmps29
 go_wp2_with ((go_at_call 30; ((with_reducible refine (in_any _ _ _ _).mono ?_); rintro e w' ⟨rfl, rfl⟩)))
 all_goals go_ret
 all_goals exact ⟨by simp [sigB, *], by (repeat' first | exact Below.refl _ _ | assumption | apply Below.alloc | apply Below.drew | apply Below.setCell | omega | (simp; done) | (simp; omega))⟩
theorem implValidSig_any (t a : Int) (w : World) : Calls Tryd.prog 37 #[.agg #[.int .i64 t, .int .i64 a]] w fun e w' => e = .returned (.bool (sigB t a)) ∧ Below w.heap.size w w' := by
 go_enter Tryd.func37, Tryd.ntmps37
 go_wp2_with ((go_at_call 39; ((with_reducible refine (within_any _ _ _ _).mono ?_); rintro e w' ⟨rfl, rfl⟩)))
 all_goals go_ret
 all_goals exact ⟨by simp [sigB, *], by (repeat' first | exact Below.refl _ _ | assumption | apply Below.alloc | apply Below.drew | apply Below.setCell | omega | (simp; done) | (simp; omega))⟩
end Go.Proofs.YtfhlddbngjlhbaaDoor
