/-
  Parts of a proof, joined: Rs, Shelf, Text. No condition.
-/
import Derived.Shelf.Strings.Builder1
import Derived.Shelf.Small.Bits
import Derived.Shelf.Small.Strs
import Derived.Shelf.Strings.BuilderF
import Derived.Shelf.Strings.BuilderK
import Derived.Shelf.Strconv.Itoa0
import Derived.Shelf.Strconv.Itoa1
import Derived.Shelf.LaysM
import Derived.Shelf.Strconv.Itoa2
import Derived.Shelf.Strconv.Itoa3
import Derived.Shelf.Strconv.Itoa4
import Derived.Shelf.Strings.BuilderCap
import Derived.Test.YtcokljhamhgelaaGreatDoorProg
import Derived.Test.YtcokljhamhgelaaGreatDoorPk0
import Derived.Test.YtcokljhamhgelaaGreatDoorPk2
namespace Go.Proofs.YtcokljhamhgelaaGreatDoor
set_option linter.unusedVariables false
set_option linter.unusedSimpArgs false
open Go.ChangeShapes Go.WideShapes Go.ChangeAt Go.RowKit Go.Deep
structure Spares (X : Nat → Prop) (w w' : World) : Prop where
 os : w'.os = w.os
 tape : w'.tape = w.tape
 output : w'.output = w.output
 size : w.heap.size ≤ w'.heap.size
 block : ∀ b, b < w.heap.size → ¬ X b → w'.heap[b]? = w.heap[b]?
theorem Spares.of_below {X : Nat → Prop} {w w' : World} (h : Below w.heap.size w w') : Spares X w w' := ⟨h.os, h.tape, h.output, h.size, fun b hb _ => h.block b hb⟩
theorem Spares.below {X : Nat → Prop} {w w' : World} {B : Nat} (h : Spares X w w') (hB : B ≤ w.heap.size) (hX : ∀ b, X b → B ≤ b) : Below B w w' :=
 ⟨h.os, h.tape, h.output, h.size, fun b hb => h.block b (by omega) (fun hx => by have := hX b hx; omega)⟩
theorem Spares.more {X Y : Nat → Prop} {w w' : World} (h : Spares X w w') (hs : ∀ b, X b → Y b) : Spares Y w w' := ⟨h.os, h.tape, h.output, h.size, fun b hb hn => h.block b hb (fun hx => hn (hs b hx))⟩
theorem Spares.trans {X : Nat → Prop} {a b c : World} (h : Spares X a b) (k : Spares X b c) : Spares X a c :=
 ⟨k.os.trans h.os, k.tape.trans h.tape, k.output.trans h.output, Nat.le_trans h.size k.size, fun i hi hn => (k.block i (Nat.lt_of_lt_of_le hi h.size) hn).trans (h.block i hi hn)⟩
theorem Spares.refl {X : Nat → Prop} (w : World) : Spares X w w := ⟨rfl, rfl, rfl, Nat.le_refl _, fun _ _ _ => rfl⟩
theorem Spares.set {b0 o : Nat} {w w' : World} {v : Value} (h : Spares (fun b => b = b0) w w') : Spares (fun b => b = b0) w (w'.setCell ⟨b0, o, none⟩ v) :=
 h.trans ⟨rfl, rfl, rfl, by simp [World.setCell], fun k _ hn => Below.heap_setCell _ _ _ _ hn⟩
theorem spares_sets {b0 : Nat} {w w' : World} (h : Spares (fun b => b = b0) w w') : Spares (fun b => b = b0) w w' := h
def aggAt (v : Value) (k : Nat) : Value := match v with
 | .agg cs => cs.getD k undef
 | _ => undef
def eatsOf (C : List (Nat × Nat)) (i : Nat) : List Nat := (C.filter fun p => p.1 == i).map (·.2)
theorem mem_eatsOf {C : List (Nat × Nat)} {i c : Nat} : c ∈ eatsOf C i ↔ (i, c) ∈ C := by
 unfold eatsOf
 simp only [List.mem_map, List.mem_filter, beq_iff_eq]
 constructor
 ·
  rintro ⟨⟨x, y⟩, ⟨h, rfl⟩, rfl⟩; exact h
 ·
  intro h; exact ⟨(i, c), ⟨h, rfl⟩, rfl⟩
def chainOf (C : List (Nat × Nat)) : Nat → Nat → List Nat
 | 0, i => [i]
 | f + 1, i => i :: (eatsOf C i).flatMap (chainOf C f)
theorem chainOf_self (C : List (Nat × Nat)) (f i : Nat) : i ∈ chainOf C f i := by cases f <;> simp [chainOf]
def rsB (ops : Array Oper) (size : Nat) (C D : List (Nat × Nat)) : Bool :=
 (List.range ops.size).all (fun i =>
  (deps ops i).all (· < i) && (chainOf C ops.size i).all (fun x => (ancs ops ops.size i).contains x) &&
  (match ops[i]? with
   | some o => (match o.dst with
    | some d => decide (d < size) && (List.range ops.size).all (fun j => j == i || (ops[j]?).all (fun p => p.dst != some d))
    | none => true)
   | none => false)) &&
 C.all (fun p => (ancs ops ops.size p.1).contains p.2 && p.2 != p.1 && decide (p.1 < ops.size) && C.all (fun q => q.2 != p.2 || q.1 == p.1) &&
  (List.range ops.size).all (fun k => k == p.1 || k == p.2 || (chainOf C ops.size k).all (fun x => !(chainOf C ops.size p.2).contains x) || (ancs ops ops.size k).contains p.1 || C.any (fun q => q.2 == k && (ancs ops ops.size p.2).contains q.1))) &&
 D.all (fun p => decide (p.1 < ops.size) && D.all (fun q => q.2 != p.2 || q.1 == p.1))
def sureB (ops : Array Oper) (C : List (Nat × Nat)) (i j : Nat) : Bool := C.all fun p => p.2 != j || p.1 == i || (ancs ops ops.size p.1).contains i
def sureGB (ops : Array Oper) (D : List (Nat × Nat)) (i m : Nat) : Bool := D.all fun p => p.2 != m || p.1 == i || (ancs ops ops.size p.1).contains i
structure RsSpec (ops : Array Oper) (size : Nat) (C D : List (Nat × Nat)) : Prop where
 back : ∀ i, i < ops.size → ∀ j ∈ deps ops i, j < i
 chain : ∀ i, i < ops.size → ∀ x ∈ chainOf C ops.size i, x ∈ ancs ops ops.size i
 dst : ∀ (i : Nat) (o : Oper), ops[i]? = some o → ∀ d, o.dst = some d → d < size ∧ ∀ (j : Nat) (p : Oper), ops[j]? = some p → j ≠ i → p.dst ≠ some d
 anc : ∀ i c, (i, c) ∈ C → c ∈ ancs ops ops.size i ∧ c ≠ i ∧ i < ops.size
 one : ∀ i c k, (i, c) ∈ C → (k, c) ∈ C → k = i
 apart : ∀ i c, (i, c) ∈ C → ∀ k, k < ops.size → k ≠ i → k ≠ c → (∀ x ∈ chainOf C ops.size k, x ∉ chainOf C ops.size c) ∨ i ∈ ancs ops ops.size k ∨ ∃ q, (q, k) ∈ C ∧ q ∈ ancs ops ops.size c
 given : ∀ i m k, (i, m) ∈ D → (k, m) ∈ D → k = i
theorem rsB_spec {ops : Array Oper} {size : Nat} {C D : List (Nat × Nat)} (h : rsB ops size C D = true) : RsSpec ops size C D := by
 simp only [rsB, Bool.and_eq_true] at h
 obtain ⟨⟨h1, h2⟩, h3⟩ := h
 have h1' := fun i (hi : i < ops.size) => List.all_eq_true.1 h1 i (List.mem_range.2 hi)
 have h2' := fun i c (hi : (i, c) ∈ C) => List.all_eq_true.1 h2 (i, c) hi
 refine ⟨?_, ?_, ?_, ?_, ?_, ?_, ?_⟩
 ·
  intro i hi j hj
  have := h1' i hi
  simp only [Bool.and_eq_true] at this
  simpa using List.all_eq_true.1 this.1.1 j hj
 ·
  intro i hi x hx
  have := h1' i hi
  simp only [Bool.and_eq_true] at this
  simpa using List.all_eq_true.1 this.1.2 x hx
 ·
  intro i o hi d hd
  have hlt := (Array.getElem?_eq_some_iff.1 hi).1
  have := h1' i hlt
  simp only [Bool.and_eq_true] at this
  have h := this.2
  rw [hi] at h
  simp only [hd, Bool.and_eq_true, decide_eq_true_eq] at h
  refine ⟨h.1, fun j p hj hji => ?_⟩
  have hjlt := (Array.getElem?_eq_some_iff.1 hj).1
  have := List.all_eq_true.1 h.2 j (List.mem_range.2 hjlt)
  rw [hj] at this
  simpa [hji] using this
 ·
  intro i c hi
  have := h2' i c hi
  simp only [Bool.and_eq_true, decide_eq_true_eq, bne_iff_ne, List.contains_iff_mem] at this
  exact ⟨this.1.1.1.1, this.1.1.1.2, this.1.1.2⟩
 ·
  intro i c k hi hk
  have := h2' i c hi
  simp only [Bool.and_eq_true] at this
  have := List.all_eq_true.1 this.1.2 (k, c) hk
  simpa using this
 ·
  intro i c hi k hk hki hkc
  have := h2' i c hi
  simp only [Bool.and_eq_true] at this
  have := List.all_eq_true.1 this.2 k (List.mem_range.2 hk)
  simp only [Bool.or_eq_true, beq_iff_eq, List.contains_iff_mem] at this
  rcases this with (((h | h) | h) | h) | h
  ·
   exact absurd h hki
  ·
   exact absurd h hkc
  ·
   refine Or.inl fun x hx hx' => ?_
   have := List.all_eq_true.1 h x hx
   rw [Bool.not_eq_true', ← Bool.not_eq_true, List.contains_iff_mem] at this
   exact this hx'
  ·
   exact Or.inr (Or.inl h)
  ·
   obtain ⟨⟨q, k'⟩, hq, h'⟩ := List.any_eq_true.1 h
   simp only [Bool.and_eq_true, beq_iff_eq, List.contains_iff_mem] at h'
   obtain ⟨rfl, h'⟩ := h'
   exact Or.inr (Or.inr ⟨q, hq, h'⟩)
 ·
  intro i m k hi hk
  have := List.all_eq_true.1 h3 (i, m) hi
  simp only [Bool.and_eq_true] at this
  have := List.all_eq_true.1 this.2 (k, m) hk
  simpa using this
def foot (C D : List (Nat × Nat)) (G : Nat → Nat → Prop) (n i : Nat) (iv : Nat → Nat × Nat) (b : Nat) : Prop :=
 ∃ j ∈ chainOf C n i, ((iv j).1 ≤ b ∧ b < (iv j).2) ∨ ∃ m, (j, m) ∈ D ∧ G m b
def bite (C D : List (Nat × Nat)) (G : Nat → Nat → Prop) (n i : Nat) (iv : Nat → Nat × Nat) (b : Nat) : Prop :=
 (∃ m, (i, m) ∈ D ∧ G m b) ∨ ∃ c, (i, c) ∈ C ∧ foot C D G n c iv b
theorem foot_own {C D : List (Nat × Nat)} {G : Nat → Nat → Prop} {n i : Nat} {iv : Nat → Nat × Nat} {b : Nat} (h1 : (iv i).1 ≤ b) (h2 : b < (iv i).2) : foot C D G n i iv b := ⟨i, chainOf_self _ _ _, Or.inl ⟨h1, h2⟩⟩
theorem foot_agree {C D : List (Nat × Nat)} {G : Nat → Nat → Prop} {n i : Nat} {iv iv' : Nat → Nat × Nat} {l : List Nat} (hl : ∀ x ∈ chainOf C n i, x ∈ l) (h : Agree l iv iv') {b : Nat} (hf : foot C D G n i iv b) : foot C D G n i iv' b := by
 obtain ⟨j, hj, hb⟩ := hf
 exact ⟨j, hj, by rw [← h j (hl j hj)]; exact hb⟩
structure RsInv (ops : Array Oper) (C D : List (Nat × Nat)) (G : Nat → Nat → Prop) (a0 : Act) (W : World) (J : Nat → (Nat → Nat × Nat) → (Nat → Value) → World → Prop) (JE : Nat → (Nat → Nat × Nat) → (Nat → Value) → Prop)
  (listed : Array Bool) (a : Act) (w : World) : Prop where
 size : listed.size = ops.size
 defers : a0.defers = a.defers
 tmps : a0.tmps.size = a.tmps.size
 off : ∀ t, (∀ o ∈ ops.toList, o.dst ≠ some t) → a0.tmps[t]? = a.tmps[t]?
 closed : ∀ i, listed.getD i false = true → ∀ j ∈ deps ops i, listed.getD j false = true
 rest : ∀ i, listed.getD i false = false → slots ops a i = slots ops a0 i
 turned : Spares (fun b => ∃ i m, listed.getD i false = true ∧ (i, m) ∈ D ∧ G m b) W w
 facts : ∃ iv : Nat → Nat × Nat, (∀ i, listed.getD i false = true → (∀ k, (k, i) ∈ C → listed.getD k false = false) → J i iv (slots ops a) w) ∧ (∀ i, listed.getD i false = true → JE i iv (slots ops a)) ∧
  (∀ i, listed.getD i false = true → W.heap.size ≤ (iv i).1 ∧ (iv i).1 ≤ (iv i).2 ∧ (iv i).2 ≤ w.heap.size) ∧
  (∀ i j, listed.getD i false = true → listed.getD j false = true → i ≠ j → Sep (iv i) (iv j))
section
variable {P : Program} {ops : Array Oper}
theorem wpAny_rs {Q : Exit → Act → World → Prop} {C D : List (Nat × Nat)} {G : Nat → Nat → Prop} {a0 : Act} {W : World} {J : Nat → (Nat → Nat × Nat) → (Nat → Value) → World → Prop} {JE : Nat → (Nat → Nat × Nat) → (Nat → Value) → Prop}
  (sp : RsSpec ops a0.tmps.size C D) (hG : ∀ m m' b, G m b → G m' b → m = m') (hGW : ∀ m b, G m b → b < W.heap.size)
  (hJ : ∀ i iv iv' vs vs' w w', i < ops.size → Agree (ancs ops ops.size i) iv iv' → Agree (ancs ops ops.size i) vs vs' → w.heap.size ≤ w'.heap.size → (∀ b, b < w.heap.size → foot C D G ops.size i iv b → w'.heap[b]? = w.heap[b]?) → J i iv vs w → J i iv' vs' w')
  (hE : ∀ i iv vs w, i < ops.size → J i iv vs w → JE i iv vs)
  (hEE : ∀ i iv iv' vs vs', i < ops.size → Agree (ancs ops ops.size i) iv iv' → Agree (ancs ops ops.size i) vs vs' → JE i iv vs → JE i iv' vs')
  (hstep : ∀ i o, ops[i]? = some o → ∀ iv vs w, Spares (fun b => ∃ m, G m b ∧ sureGB ops D i m = false) W w → (∀ j ∈ ancs ops ops.size i, j ≠ i → sureB ops C i j = true → J j iv vs w) → (∀ j ∈ ancs ops ops.size i, j ≠ i → JE j iv vs) →
   (∀ j ∈ ancs ops ops.size i, j ≠ i → W.heap.size ≤ (iv j).1 ∧ (iv j).1 ≤ (iv j).2 ∧ (iv j).2 ≤ w.heap.size) → (∀ j ∈ ancs ops ops.size i, ∀ k ∈ ancs ops ops.size i, j ≠ i → k ≠ i → j ≠ k → Sep (iv j) (iv k)) → (∀ k, i ∈ ancs ops ops.size k → vs k = slots ops a0 k) →
   wpList P ops (fun e a' w' => e = .normal ∧ ∃ v, (o.dst = none → v = undef) ∧ a' = (putFrom ops.toList 0 vs a0).put o.dst v ∧ Spares (bite C D G ops.size i iv) w w' ∧
    (∀ iv', Agree ((ancs ops ops.size i).erase i) iv iv' → iv' i = (w.heap.size, w'.heap.size) → J i iv' (upd vs i v) w')) [o] (putFrom ops.toList 0 vs a0) w)
  (hQ : ∀ iv vs w, Spares (fun b => ∃ i m, (i, m) ∈ D ∧ G m b) W w → (∀ i, i < ops.size → (∀ k, (k, i) ∉ C) → J i iv vs w) → (∀ i, i < ops.size → JE i iv vs) →
   (∀ i, i < ops.size → W.heap.size ≤ (iv i).1 ∧ (iv i).1 ≤ (iv i).2 ∧ (iv i).2 ≤ w.heap.size) → (∀ i j, i < ops.size → j < ops.size → i ≠ j → Sep (iv i) (iv j)) → Q .normal (putFrom ops.toList 0 vs a0) w) :
  ∀ (fuel : Nat) (U : List Nat) (listed : Array Bool) (a : Act) (w : World), U.length ≤ fuel → (∀ i, i < ops.size → listed.getD i false = false → i ∈ U) → RsInv ops C D G a0 W J JE listed a w → wpAny P .any ops Q fuel listed a w := by
 have self : ∀ (listed : Array Bool) (a : Act) (w : World), RsInv ops C D G a0 W J JE listed a w → putFrom ops.toList 0 (slots ops a) a0 = a := by
  intro listed a w inv
  refine putFrom_self _ _ _ _ _ inv.defers inv.tmps inv.off (fun j o hj => ?_)
  unfold slots
  rw [Nat.zero_add, show ops[j]? = some o by simpa using hj]
 have done : ∀ (listed : Array Bool) (a : Act) (w : World), RsInv ops C D G a0 W J JE listed a w → (∀ i, i < ops.size → listed.getD i false = true) → Q .normal a w := by
  intro listed a w inv hall
  obtain ⟨iv, f1, f2, f3, f4⟩ := inv.facts
  have := hQ iv (slots ops a) w (inv.turned.more fun b ⟨i, m, _, h1, h2⟩ => ⟨i, m, h1, h2⟩) (fun i hi hk => f1 i (hall i hi) (fun k hm => absurd hm (hk k))) (fun i hi => f2 i (hall i hi)) (fun i hi => f3 i (hall i hi)) (fun i j hi hj => f4 i j (hall i hi) (hall j hj))
  rwa [self listed a w inv] at this
 have allOf : ∀ (listed : Array Bool), listed.size = ops.size → Region.ready .any ops listed = [] → ∀ i, i < ops.size → listed.getD i false = true := by
  intro listed hsz hr i
  induction i using Nat.strongRecOn with
  | _ i ih =>
   intro hi
   cases hl : listed.getD i false with
   | true => rfl
   | false =>
    exfalso
    have hm : i ∈ Region.ready .any ops listed := by
     rw [mem_ready]
     refine ⟨by simp [hsz, hi] at hl ⊢; exact hl, ops[i], by simp [hi], fun e he hb => ?_⟩
     have hd : e.on ∈ deps ops i := (mem_deps (by simp [hi])).2 ⟨e, he, hb, rfl⟩
     have := sp.back i hi _ hd
     exact ih _ this (by omega)
    rw [hr] at hm
    cases hm
 intro fuel
 induction fuel with
 | zero =>
  intro U listed a w hU hun inv
  have hall : ∀ i, i < ops.size → listed.getD i false = true := by
   intro i hi
   cases hl : listed.getD i false with
   | true => rfl
   | false =>
    have := hun i hi hl
    rw [List.eq_nil_of_length_eq_zero (Nat.le_zero.1 hU)] at this
    cases this
  refine ⟨?_, done listed a w inv hall⟩
  apply List.eq_nil_iff_forall_not_mem.2
  intro i hi
  obtain ⟨h1, o, ho, _⟩ := mem_ready.1 hi
  have hlt := (Array.getElem?_eq_some_iff.1 ho).1
  have h2 := hall i hlt
  have h3 := getD_false_of (by rw [inv.size]; exact hlt) h1
  rw [h2] at h3
  cases h3
 | succ fuel ih =>
  intro U listed a w hU hun inv
  refine ⟨fun hr => done listed a w inv (allOf listed inv.size hr), fun i hi => ?_⟩
  obtain ⟨h1, o, ho, hdeps⟩ := mem_ready.1 hi
  have hlt : i < ops.size := (Array.getElem?_eq_some_iff.1 ho).1
  have hltl : i < listed.size := by rw [inv.size]; exact hlt
  have hil := getD_false_of hltl h1
  have hd : ∀ j ∈ deps ops i, listed.getD j false = true := fun j hj => by
   obtain ⟨e, he, hb, rfl⟩ := (mem_deps ho).1 hj
   exact hdeps e he hb
  have hself := self listed a w inv
  have hU' : (U.erase i).length ≤ fuel := by
   rw [List.length_erase_of_mem (hun i hlt hil)]
   omega
  have hun' : ∀ k, k < ops.size → (listed.setIfInBounds i true).getD k false = false → k ∈ U.erase i := by
   intro k hk hkl
   by_cases hki : k = i
   ·
    subst hki
    rw [getD_set_self hltl] at hkl
    cases hkl
   ·
    rw [getD_set_ne false (Ne.symm hki)] at hkl
    exact (List.mem_erase_of_ne hki).2 (hun k hk hkl)
  have hclosed : ∀ k, (listed.setIfInBounds i true).getD k false = true → ∀ j ∈ deps ops k, (listed.setIfInBounds i true).getD j false = true := by
   intro k hk j hj
   by_cases hki : k = i
   ·
    subst hki
    exact getD_set_true (hd j hj)
   ·
    rw [getD_set_ne false (Ne.symm hki)] at hk
    exact getD_set_true (inv.closed k hk j hj)
  have hsz : (listed.setIfInBounds i true).size = ops.size := by rw [Array.size_setIfInBounds]; exact inv.size
  have llt : ∀ k, listed.getD k false = true → k < ops.size := by
   intro k hk
   rw [← inv.size]
   by_cases hkl : k < listed.size
   ·
    exact hkl
   ·
    simp [hkl] at hk
  have hput : ∀ v k, k ≠ i → slots ops (a.put o.dst v) k = slots ops a k := by
   intro v k hk
   unfold slots
   cases hok : ops[k]? with
   | none => rfl
   | some p => exact slotOf_put (fun d' hd' => (sp.dst i o ho d' hd').2 k p hok hk)
  have hputi : ∀ v, (o.dst = none → v = undef) → slots ops (a.put o.dst v) i = v := by
   intro v hv
   unfold slots
   rw [ho]
   simp only
   cases hdst : o.dst with
   | none =>
    rw [hv hdst]
    simp only [slotOf, hdst]
   | some d =>
    have := slotOf_same (o := o) (a := a) (v := v) hdst (by rw [← inv.tmps]; exact (sp.dst i o ho d hdst).1)
    rw [hdst] at this
    exact this
  have hoff : ∀ v t, (∀ p ∈ ops.toList, p.dst ≠ some t) → a0.tmps[t]? = (a.put o.dst v).tmps[t]? := by
   intro v t ht
   rw [inv.off t ht]
   cases hdst : o.dst with
   | none => rfl
   | some d =>
    have hne : d ≠ t := fun e => ht o (by rw [Array.mem_toList_iff]; exact Array.mem_of_getElem? ho) (by rw [hdst, e])
    simp [Act.put, Array.getElem?_setIfInBounds_ne hne]
  have hdef : ∀ v, a0.defers = (a.put o.dst v).defers := fun v => by cases o.dst <;> exact inv.defers
  have hts : ∀ v, a0.tmps.size = (a.put o.dst v).tmps.size := fun v => by cases o.dst <;> simpa [Act.put] using inv.tmps
  obtain ⟨iv, f1, f2, f3, f4⟩ := inv.facts
  -- what an operation waits for is listed
  have hanc : ∀ j ∈ ancs ops ops.size i, j ≠ i → listed.getD j false = true := by
   have hc' : ∀ f k, k ∈ deps ops i → ∀ j ∈ ancs ops f k, listed.getD j false = true := fun f k hk j hj => ancs_listed inv.closed f k (hd k hk) j hj
   intro j hj hji
   cases hsz' : ops.size with
   | zero => omega
   | succ f =>
    rw [hsz'] at hj
    simp only [ancs, List.mem_cons, List.mem_flatMap] at hj
    rcases hj with hj | ⟨k, hk, hj⟩
    ·
     exact absurd hj hji
    ·
     exact hc' f k hk j hj
  have hla : ∀ k, listed.getD k false = true → ∀ j ∈ ancs ops ops.size k, listed.getD j false = true := fun k hk j hj => ancs_listed inv.closed _ k hk j hj
  have hlc : ∀ k, listed.getD k false = true → ∀ j ∈ chainOf C ops.size k, listed.getD j false = true := fun k hk j hj => hla k hk j (sp.chain k (llt k hk) j hj)
  have hni : ∀ k, listed.getD k false = true → k ≠ i := fun k hk e => by rw [e, hil] at hk; cases hk
  have herase : ∀ j ∈ (ancs ops ops.size i).erase i, j ≠ i := by
   intro j hj e
   subst e
   have hcount : ∀ f x, x ∈ deps ops j → j ∉ ancs ops f x := fun f x hx hm => by
    have := ancs_listed inv.closed f x (hd x hx) j hm
    rw [hil] at this
    cases this
   cases hsz' : ops.size with
   | zero => omega
   | succ f =>
    rw [hsz'] at hj
    simp only [ancs, List.erase_cons_head, List.mem_flatMap] at hj
    obtain ⟨x, hx, hm⟩ := hj
    exact hcount f x hx hm
  have := hstep i o ho iv (slots ops a) w
   ⟨inv.turned.os, inv.turned.tape, inv.turned.output, inv.turned.size, fun b hb hn => inv.turned.block b hb (by
    rintro ⟨k, m, hk, hm, hg⟩
    cases hs : sureGB ops D i m with
    | false => exact hn ⟨m, hg, hs⟩
    | true =>
     have := List.all_eq_true.1 hs (k, m) hm
     simp only [Bool.or_eq_true, beq_iff_eq, List.contains_iff_mem, bne_iff_ne] at this
     rcases this with (h | h) | h
     ·
      exact h rfl
     ·
      exact hni k hk h
     ·
      have := hla k hk i h
      rw [hil] at this
      cases this)⟩
   (fun j hj hji hs => f1 j (hanc j hj hji) (fun k hk => by
    cases hl : listed.getD k false with
    | false => rfl
    | true =>
     exfalso
     have := List.all_eq_true.1 hs (k, j) hk
     simp only [Bool.or_eq_true, beq_iff_eq, List.contains_iff_mem, bne_iff_ne] at this
     rcases this with (h | h) | h
     ·
      exact h rfl
     ·
      exact hni k hl h
     ·
      have := hla k hl i h
      rw [hil] at this
      cases this))
   (fun j hj hji => f2 j (hanc j hj hji)) (fun j hj hji => f3 j (hanc j hj hji)) (fun j hj k hk hji hki hjk => f4 j k (hanc j hj hji) (hanc k hk hki) hjk)
   (fun k hk => inv.rest k (by
    cases hl : listed.getD k false with
    | false => rfl
    | true =>
     exfalso
     have := hla k hl i hk
     rw [hil] at this
     cases this))
  rw [hself] at this
  refine wpOp_of_list ho this ?_ (fun e a' w' he h => he h.1)
  rintro a' w' ⟨_, v, hv, rfl, ht, hJv⟩
  have hup : slots ops (a.put o.dst v) = upd (slots ops a) i v := by
   funext k
   unfold upd
   by_cases hki : k = i
   ·
    subst hki; rw [if_pos rfl, hputi v hv]
   ·
    rw [if_neg hki, hput _ k hki]
  have hJi : J i (upd iv i (w.heap.size, w'.heap.size)) (slots ops (a.put o.dst v)) w' := by
   rw [hup]
   exact hJv _ (fun j hj => by simp [upd, herase j hj]) (by simp [upd])
  refine ih (U.erase i) _ _ w' hU' hun' ⟨hsz, hdef v, hts v, hoff v, hclosed, ?_, ?_, upd iv i (w.heap.size, w'.heap.size), ?_, ?_, ?_, ?_⟩
  ·
   intro k hk
   by_cases hki : k = i
   ·
    subst hki
    rw [getD_set_self hltl] at hk
    cases hk
   ·
    rw [getD_set_ne false (Ne.symm hki)] at hk
    rw [hput _ k hki]
    exact inv.rest k hk
  ·
   -- the old blocks
   refine ⟨ht.os.trans inv.turned.os, ht.tape.trans inv.turned.tape, ht.output.trans inv.turned.output, Nat.le_trans inv.turned.size ht.size, fun b hb hn => ?_⟩
   refine (ht.block b (Nat.lt_of_lt_of_le hb inv.turned.size) ?_).trans (inv.turned.block b hb ?_)
   ·
    rintro (⟨m, hm, hg⟩ | ⟨c, hc, x, hx, h | ⟨m, hm, hg⟩⟩)
    ·
     exact hn ⟨i, m, getD_set_self hltl _, hm, hg⟩
    ·
     have hcl := hanc c (sp.anc i c hc).1 (sp.anc i c hc).2.1
     have := (f3 x (hlc c hcl x hx)).1
     omega
    ·
     have hcl := hanc c (sp.anc i c hc).1 (sp.anc i c hc).2.1
     exact hn ⟨x, m, getD_set_true (hlc c hcl x hx), hm, hg⟩
   ·
    rintro ⟨k, m, hk, hm, hg⟩
    exact hn ⟨k, m, getD_set_true hk, hm, hg⟩
  ·
   intro k hk hek
   by_cases hki : k = i
   ·
    subst hki; exact hJi
   ·
    rw [getD_set_ne false (Ne.symm hki)] at hk
    have hek' : ∀ q, (q, k) ∈ C → listed.getD q false = false := by
     intro q hq
     cases hl : listed.getD q false with
     | false => rfl
     | true => have := hek q hq; rw [getD_set_true hl] at this; cases this
    have hnik : (i, k) ∉ C := fun hm => by have := hek i hm; rw [getD_set_self hltl] at this; cases this
    have hagree : ∀ j ∈ ancs ops ops.size k, j ≠ i := fun j hj => hni j (hla k hk j hj)
    refine hJ k iv _ (slots ops a) _ w w' (llt k hk) (fun j hj => by simp [upd, hagree j hj]) (fun j hj => (hput _ j (hagree j hj)).symm) ht.size ?_ (f1 k hk hek')
    rintro b hb ⟨y, hy, hfy⟩
    refine ht.block b hb ?_
    have hyl := hlc k hk y hy
    rintro (⟨m, hm, hg⟩ | ⟨c, hc, x, hx, hfx⟩)
    ·
     rcases hfy with h | ⟨m', hm', hg'⟩
     ·
      have := (f3 y hyl).1
      have := hGW m b hg
      omega
     ·
      obtain rfl := hG m m' b hg hg'
      exact hni y hyl (sp.given i m y hm hm')
    ·
     have hcl := hanc c (sp.anc i c hc).1 (sp.anc i c hc).2.1
     have hxl := hlc c hcl x hx
     have hxy : x = y := by
      by_cases hxy : x = y
      ·
       exact hxy
      exfalso
      rcases hfy with h | ⟨m', hm', hg'⟩
      ·
       rcases hfx with h' | ⟨m, hm, hg⟩
       ·
        have := f4 x y hxl hyl hxy
        unfold Sep at this
        omega
       ·
        have := (f3 y hyl).1
        have := hGW m b hg
        omega
      ·
       rcases hfx with h' | ⟨m, hm, hg⟩
       ·
        have := (f3 x hxl).1
        have := hGW m' b hg'
        omega
       ·
        obtain rfl := hG m m' b hg hg'
        exact hxy (sp.given y m x hm' hm)
     subst hxy
     by_cases hkc : k = c
     ·
      subst hkc; exact hnik hc
     rcases sp.apart i c hc k (llt k hk) hki hkc with h | h | ⟨q, hq, h⟩
     ·
      exact h x hy hx
     ·
      exact hni i (hla k hk i h) rfl
     ·
      have := hla c hcl q h
      rw [hek' q hq] at this
      cases this
  ·
   intro k hk
   by_cases hki : k = i
   ·
    subst hki; exact hE _ _ _ _ hlt hJi
   ·
    rw [getD_set_ne false (Ne.symm hki)] at hk
    have hagree : ∀ j ∈ ancs ops ops.size k, j ≠ i := fun j hj => hni j (hla k hk j hj)
    exact hEE k iv _ (slots ops a) _ (llt k hk) (fun j hj => by simp [upd, hagree j hj]) (fun j hj => (hput _ j (hagree j hj)).symm) (f2 k hk)
  ·
   intro k hk
   by_cases hki : k = i
   ·
    subst hki
    simp only [upd, if_pos]
    exact ⟨inv.turned.size, ht.size, Nat.le_refl _⟩
   ·
    rw [getD_set_ne false (Ne.symm hki)] at hk
    simp only [upd, if_neg hki]
    obtain ⟨b1, b2, b3⟩ := f3 k hk
    exact ⟨b1, b2, Nat.le_trans b3 ht.size⟩
  ·
   intro k m hk hm hkm
   by_cases hki : k = i
   ·
    subst hki
    have hmk : m ≠ k := Ne.symm hkm
    rw [getD_set_ne false (Ne.symm hmk)] at hm
    simp only [upd, if_pos, if_neg hmk]
    exact Or.inr (f3 m hm).2.2
   ·
    rw [getD_set_ne false (Ne.symm hki)] at hk
    by_cases hmi : m = i
    ·
     subst hmi
     simp only [upd, if_pos, if_neg hki]
     exact Or.inl (f3 k hk).2.2
    ·
     rw [getD_set_ne false (Ne.symm hmi)] at hm
     simp only [upd, if_neg hki, if_neg hmi]
     exact f4 k m hk hm hkm
theorem region_rs {Q : Exit → Act → World → Prop} {id : Nat} {a0 : Act} {w0 : World} (C D : List (Nat × Nat)) (G : Nat → Nat → Prop) (base : Nat) (J : Nat → (Nat → Nat × Nat) → (Nat → Value) → World → Prop) (JE : Nat → (Nat → Nat × Nat) → (Nat → Value) → Prop)
  (hm : P.follows .mixedOrders = true) (hB : rsB ops a0.tmps.size C D = true) (l : List Nat) (hl : List.range ops.size = l)
  (hbase : base ≤ w0.heap.size) (hGb : ∀ m b, G m b → base ≤ b ∧ b < w0.heap.size) (hG : ∀ m m' b, G m b → G m' b → m = m')
  (hJ : ∀ i ∈ l, ∀ iv iv' vs vs' w w', Hid (Agree (ancs ops ops.size i) iv iv') → Hid (Agree (ancs ops ops.size i) vs vs') → w.heap.size ≤ w'.heap.size → Hid (∀ b, b < w.heap.size → foot C D G ops.size i iv b → w'.heap[b]? = w.heap[b]?) → J i iv vs w → J i iv' vs' w')
  (hE : ∀ i ∈ l, ∀ iv vs w, J i iv vs w → JE i iv vs)
  (hEE : ∀ i ∈ l, ∀ iv iv' vs vs', Hid (Agree (ancs ops ops.size i) iv iv') → Hid (Agree (ancs ops ops.size i) vs vs') → JE i iv vs → JE i iv' vs')
  (hstep : ∀ i ∈ l, ∀ o, ops[i]? = some o → ∀ iv vs w, Below base w0 w → Hid (∀ m b, sureGB ops D i m = true → G m b → w.heap[b]? = w0.heap[b]?) → Hid (Spares (fun b => ∃ m, G m b) w0 w) → Hid (∀ j ∈ ancs ops ops.size i, j ≠ i → sureB ops C i j = true → J j iv vs w) → Hid (∀ j ∈ ancs ops ops.size i, j ≠ i → JE j iv vs) →
   Hid (∀ j ∈ ancs ops ops.size i, j ≠ i → w0.heap.size ≤ (iv j).1 ∧ (iv j).1 ≤ (iv j).2 ∧ (iv j).2 ≤ w.heap.size) → Hid (∀ j ∈ ancs ops ops.size i, ∀ k ∈ ancs ops ops.size i, j ≠ i → k ≠ i → j ≠ k → Sep (iv j) (iv k)) → Hid (∀ k, i ∈ ancs ops ops.size k → vs k = slots ops a0 k) →
   ∀ K : Act → World → Prop, (∀ v a' w', (o.dst = none → v = undef) → a' = (putFrom ops.toList 0 vs a0).put o.dst v → Spares (bite C D G ops.size i iv) w w' →
    (∀ iv', Hid (Agree ((ancs ops ops.size i).erase i) iv iv') → iv' i = (w.heap.size, w'.heap.size) → J i iv' (upd vs i v) w') → K a' w') → wpList P ops (Onward K) [o] (putFrom ops.toList 0 vs a0) w)
  (hQ : ∀ iv vs w, Below base w0 w → Hid (Spares (fun b => ∃ m, G m b) w0 w) → Hid (∀ i ∈ l, (∀ k, (k, i) ∉ C) → J i iv vs w) → Hid (∀ i ∈ l, JE i iv vs) →
   Hid (∀ i ∈ l, w0.heap.size ≤ (iv i).1 ∧ (iv i).1 ≤ (iv i).2 ∧ (iv i).2 ≤ w.heap.size) → Hid (∀ i ∈ l, ∀ j ∈ l, i ≠ j → Sep (iv i) (iv j)) → Q .normal (putFrom ops.toList 0 vs a0) w) :
  (Code.region id ops true).wp P Q a0 w0 := by
 have sp := rsB_spec hB
 subst hl
 refine wp_region_any hm ?_
 refine wpAny_rs (W := w0) sp hG (fun m b h => (hGb m b h).2) (J := J) (JE := JE)
  (fun i iv iv' vs vs' w w' hi h1 h2 h3 h4 h5 => hJ i (List.mem_range.2 hi) iv iv' vs vs' w w' (Lib.hid h1) (Lib.hid h2) h3 (Lib.hid h4) h5)
  (fun i iv vs w hi h => hE i (List.mem_range.2 hi) iv vs w h)
  (fun i iv iv' vs vs' hi h1 h2 h => hEE i (List.mem_range.2 hi) iv iv' vs vs' (Lib.hid h1) (Lib.hid h2) h) ?_
  (fun iv vs w ht h1 h2 h3 h4 => hQ iv vs w (ht.below hbase (fun b ⟨_, m, _, hg⟩ => (hGb m b hg).1)) (Lib.hid (ht.more fun b ⟨_, m, _, hg⟩ => ⟨m, hg⟩)) (Lib.hid fun i hi => h1 i (List.mem_range.1 hi)) (Lib.hid fun i hi => h2 i (List.mem_range.1 hi)) (Lib.hid fun i hi => h3 i (List.mem_range.1 hi)) (Lib.hid fun i hi j hj => h4 i j (List.mem_range.1 hi) (List.mem_range.1 hj)))
  ops.size (List.range ops.size) _ _ _ (by simp) (fun i hi _ => List.mem_range.2 hi) ⟨by simp, rfl, rfl, fun _ _ => rfl, ?_, fun _ _ => rfl, ?_, ?_⟩
 ·
  intro i o ho iv vs w ht h1 h2 h3 h4 h5
  have := hstep i (List.mem_range.2 (Array.getElem?_eq_some_iff.1 ho).1) o ho iv vs w (ht.below hbase (fun b ⟨m, hg, _⟩ => (hGb m b hg).1))
   (Lib.hid fun m b hm hg => ht.block b (hGb m b hg).2 (fun ⟨m', hg', hn⟩ => by rw [← hG m m' b hg hg', hm] at hn; cases hn)) (Lib.hid (ht.more fun b ⟨m, hg, _⟩ => ⟨m, hg⟩)) (Lib.hid h1) (Lib.hid h2) (Lib.hid h3) (Lib.hid h4) (Lib.hid h5)
   (fun a' w' => ∃ v, (o.dst = none → v = undef) ∧ a' = (putFrom ops.toList 0 vs a0).put o.dst v ∧ Spares (bite C D G ops.size i iv) w w' ∧ (∀ iv', Agree ((ancs ops ops.size i).erase i) iv iv' → iv' i = (w.heap.size, w'.heap.size) → J i iv' (upd vs i v) w'))
   (fun v a' w' h0 h1 h2 h3 => ⟨v, h0, h1, h2, fun iv' h4 h5 => h3 iv' (Lib.hid h4) h5⟩)
  exact this
 ·
  intro i h
  exfalso
  by_cases hi : i < ops.size <;> simp [hi] at h
 ·
  exact Spares.of_below (Below.refl _ _).drew
 ·
  have hno : ∀ i, (Array.replicate ops.size false).getD i false = true → False := fun i h => by by_cases hi : i < ops.size <;> simp [hi] at h
  exact ⟨fun _ => (0, 0), fun i h => (hno i h).elim, fun i h => (hno i h).elim, fun i h => (hno i h).elim, fun i _ h => (hno i h).elim⟩
theorem foot_step {C D : List (Nat × Nat)} {G : Nat → Nat → Prop} {i c : Nat} {iv iv' : Nat → Nat × Nat} {b : Nat} (h : ((chainOf C ops.size c).all fun j => (chainOf C ops.size i).contains j && ((ancs ops ops.size i).erase i).contains j) = true)
  (hag : Hid (Agree ((ancs ops ops.size i).erase i) iv iv')) (hf : foot C D G ops.size c iv b) : foot C D G ops.size i iv' b := by
 obtain ⟨j, hj, hb⟩ := hf
 have := List.all_eq_true.1 h j hj
 simp only [Bool.and_eq_true, List.contains_iff_mem] at this
 exact ⟨j, this.1, by rw [← hag.out j this.2]; exact hb⟩
theorem foot_iv {C D : List (Nat × Nat)} {G : Nat → Nat → Prop} {i j : Nat} {iv iv' : Nat → Nat × Nat} {b : Nat} (h : ((chainOf C ops.size i).contains j && ((ancs ops ops.size i).erase i).contains j) = true)
  (hag : Hid (Agree ((ancs ops ops.size i).erase i) iv iv')) (h1 : (iv j).1 ≤ b) (h2 : b < (iv j).2) : foot C D G ops.size i iv' b := by
 simp only [Bool.and_eq_true, List.contains_iff_mem] at h
 exact ⟨j, h.1, Or.inl (by rw [← hag.out j h.2]; exact ⟨h1, h2⟩)⟩
theorem foot_new {C D : List (Nat × Nat)} {G : Nat → Nat → Prop} {n i p q : Nat} {iv' : Nat → Nat × Nat} {b : Nat} (h : iv' i = (p, q)) (h1 : p ≤ b) (h2 : b < q) : foot C D G n i iv' b := foot_own (by rw [h]; exact h1) (by rw [h]; exact h2)
theorem foot_given {C D : List (Nat × Nat)} {G : Nat → Nat → Prop} {n i : Nat} (m : Nat) {iv' : Nat → Nat × Nat} {b : Nat} (h : (i, m) ∈ D) (hg : G m b) : foot C D G n i iv' b := ⟨i, chainOf_self _ _ _, Or.inr ⟨m, h, hg⟩⟩
theorem not_eaten {C : List (Nat × Nat)} {i : Nat} (h : (C.all fun p => p.2 != i) = true) : ∀ k, (k, i) ∉ C := by
 intro k hk
 have := List.all_eq_true.1 h (k, i) hk
 simp at this
end
theorem mkval (a : Value) : ∃ x : Value, Hid (x = a) := ⟨a, Lib.hid rfl⟩
end Go.Proofs.YtcokljhamhgelaaGreatDoor

namespace Go.Proofs
open Go.Shelf
def Tryz.lays169_ren : Go.Shelf.Ren := ⟨fun | 169 => 93 | n => n, fun | 70 => 122 | 9 => 9 | 0 => 0 | 72 => 125 | 37 => 123 | 127 => 146 | 3 => 3 | 5 => 5 | n => n, fun | n => n⟩
theorem Tryz.lays169 : Go.Proofs.Lays.n169 Tryz.prog Tryz.lays169_ren := {
 mixed := by kernel_rfl
 f169 := Tryz.func93.trans (congrArg some (by kernel_rfl))
 t0 := Tryz.underlying0
 a0 := Tryz.isAgg0
 z0 := Tryz.sizeOf0
 v0 := Tryz.zeroValue0
 t3 := Tryz.underlying3
 a3 := Tryz.isAgg3
 z3 := Tryz.sizeOf3
 v3 := Tryz.zeroValue3
 t9 := Tryz.underlying9
 a9 := Tryz.isAgg9
 z9 := Tryz.sizeOf9
 v9 := Tryz.zeroValue9
 t37 := Tryz.underlying123
 a37 := Tryz.isAgg123
 z37 := Tryz.sizeOf123
 v37 := Tryz.zeroValue123
 t70 := Tryz.underlying122
 a70 := Tryz.isAgg122
 z70 := Tryz.sizeOf122
 v70 := Tryz.zeroValue122
 t72 := Tryz.underlying125
 a72 := Tryz.isAgg125
 z72 := Tryz.sizeOf125
 v72 := Tryz.zeroValue125
 t127 := Tryz.underlying146
 a127 := Tryz.isAgg146
 z127 := Tryz.sizeOf146
 v127 := Tryz.zeroValue146 }
theorem Tryz.Builder_Extra_169 : Builder.Extra Tryz.prog Tryz.lays169_ren := {
 sizeBuilder := by kernel_rfl
 liesBuilder := by kernel_rfl
 t5 := Tryz.underlying5
 a5 := Tryz.isAgg5
 z5 := Tryz.sizeOf5
 v5 := Tryz.zeroValue5
 infoByte := by kernel_rfl
 cellsByte := by kernel_rfl
 sizeByte := by kernel_rfl
 neB5 := by decide }
open Go.RowKit in
open Go.RowKit in
open Go.RowKit in
theorem Tryz.Builder_String_any (B b : Nat) (l : List UInt8) (w : World) (h : Lib.IsBuilder 125 5 B b (Lib.byteCells l) w) (hBw : B ≤ w.heap.size) :
  Calls Tryz.prog 93 #[.pointer (some ⟨b, 0, none⟩)] w fun e w' => e = .returned (.string ⟨l.toArray⟩) ∧ Below B w w' := Any.Builder_String_any Tryz.lays169 Tryz.Builder_Extra_169 B b l w h hBw
open Go.RowKit in
def Tryz.lays106_ren : Go.Shelf.Ren := ⟨fun | 106 => 97 | 213 => 107 | 265 => 122 | n => n, fun | 9 => 9 | 3 => 3 | n => n, fun | n => n⟩
theorem Tryz.lays106 : Go.Proofs.Lays.n106 Tryz.prog Tryz.lays106_ren := {
 mixed := by kernel_rfl
 f106 := Tryz.func97.trans (congrArg some (by kernel_rfl))
 f213 := Tryz.func107.trans (congrArg some (by kernel_rfl))
 f265 := Tryz.func122.trans (congrArg some (by kernel_rfl))
 t3 := Tryz.underlying3
 a3 := Tryz.isAgg3
 z3 := Tryz.sizeOf3
 v3 := Tryz.zeroValue3
 t9 := Tryz.underlying9
 a9 := Tryz.isAgg9
 z9 := Tryz.sizeOf9
 v9 := Tryz.zeroValue9 }
open Go.RowKit in
theorem Tryz.strings_Compare (a b : ByteArray) (w : World) :
  Calls Tryz.prog 97 #[.string a, .string b] w fun e w' => e = .returned (.int .i64 (Lib.compareBytes a.data.toList b.data.toList)) ∧ w' = w := Any.strings_Compare Tryz.lays106 a b w
open Go.RowKit in
open Go.RowKit in
open Go.RowKit in
open Go.RowKit in
open Go.RowKit in
open Go.RowKit in
open Go.Lib in
open Go.Lib in
open Go.Lib in
open Go.Lib in
open Go.RowKit Go.Sort Go.Lib in
open Go.RowKit Go.Sort Go.Lib in
open Go.RowKit Go.Sort Go.Lib in
open Go.RowKit Go.Sort Go.Lib in
def Tryz.lays173_ren : Go.Shelf.Ren := ⟨fun | 173 => 111 | 246 => 124 | 283 => 130 | 284 => 131 | 285 => 132 | 286 => 133 | 129 => 121 | 317 => 135 | 318 => 136 | 319 => 137 | 320 => 138 | 337 => 139 | 338 => 140 | n => n, fun | 2 => 2 | 3 => 3 | 9 => 9 | 4 => 4 | 171 => 173 | 0 => 0 | 53 => 163 | 37 => 123 | 5 => 5 | 173 => 175 | 212 => 182 | 51 => 161 | 20 => 20 | 213 => 183 | 46 => 120 | 232 => 185 | 233 => 186 | n => n, fun | 17 => 1 | 18 => 2 | 19 => 3 | n => n⟩
theorem Tryz.lays173 : Go.Proofs.Lays.n173 Tryz.prog Tryz.lays173_ren := {
 mixed := by kernel_rfl
 f129 := Tryz.func121.trans (congrArg some (by kernel_rfl))
 f173 := Tryz.func111.trans (congrArg some (by kernel_rfl))
 f246 := Tryz.func124.trans (congrArg some (by kernel_rfl))
 f283 := Tryz.func130.trans (congrArg some (by kernel_rfl))
 f284 := Tryz.func131.trans (congrArg some (by kernel_rfl))
 f285 := Tryz.func132.trans (congrArg some (by kernel_rfl))
 f286 := Tryz.func133.trans (congrArg some (by kernel_rfl))
 f317 := Tryz.func135.trans (congrArg some (by kernel_rfl))
 f318 := Tryz.func136.trans (congrArg some (by kernel_rfl))
 f319 := Tryz.func137.trans (congrArg some (by kernel_rfl))
 f320 := Tryz.func138.trans (congrArg some (by kernel_rfl))
 f337 := Tryz.func139.trans (congrArg some (by kernel_rfl))
 f338 := Tryz.func140.trans (congrArg some (by kernel_rfl))
 t0 := Tryz.underlying0
 a0 := Tryz.isAgg0
 z0 := Tryz.sizeOf0
 v0 := Tryz.zeroValue0
 t2 := Tryz.underlying2
 a2 := Tryz.isAgg2
 z2 := Tryz.sizeOf2
 v2 := Tryz.zeroValue2
 t3 := Tryz.underlying3
 a3 := Tryz.isAgg3
 z3 := Tryz.sizeOf3
 v3 := Tryz.zeroValue3
 t4 := Tryz.underlying4
 a4 := Tryz.isAgg4
 z4 := Tryz.sizeOf4
 v4 := Tryz.zeroValue4
 t5 := Tryz.underlying5
 a5 := Tryz.isAgg5
 z5 := Tryz.sizeOf5
 v5 := Tryz.zeroValue5
 t9 := Tryz.underlying9
 a9 := Tryz.isAgg9
 z9 := Tryz.sizeOf9
 v9 := Tryz.zeroValue9
 t20 := Tryz.underlying20
 a20 := Tryz.isAgg20
 z20 := Tryz.sizeOf20
 v20 := Tryz.zeroValue20
 t37 := Tryz.underlying123
 a37 := Tryz.isAgg123
 z37 := Tryz.sizeOf123
 v37 := Tryz.zeroValue123
 t46 := Tryz.underlying120
 a46 := Tryz.isAgg120
 z46 := Tryz.sizeOf120
 v46 := Tryz.zeroValue120
 t51 := Tryz.underlying161
 a51 := Tryz.isAgg161
 z51 := Tryz.sizeOf161
 v51 := Tryz.zeroValue161
 t53 := Tryz.underlying163
 a53 := Tryz.isAgg163
 z53 := Tryz.sizeOf163
 v53 := Tryz.zeroValue163
 t171 := Tryz.underlying173
 a171 := Tryz.isAgg173
 z171 := Tryz.sizeOf173
 v171 := Tryz.zeroValue173
 t173 := Tryz.underlying175
 a173 := Tryz.isAgg175
 z173 := Tryz.sizeOf175
 v173 := Tryz.zeroValue175
 t212 := Tryz.underlying182
 a212 := Tryz.isAgg182
 z212 := Tryz.sizeOf182
 v212 := Tryz.zeroValue182
 t213 := Tryz.underlying183
 a213 := Tryz.isAgg183
 z213 := Tryz.sizeOf183
 t232 := Tryz.underlying185
 a232 := Tryz.isAgg185
 z232 := Tryz.sizeOf185
 v232 := Tryz.zeroValue185
 t233 := Tryz.underlying186
 a233 := Tryz.isAgg186
 z233 := Tryz.sizeOf186
 v233 := Tryz.zeroValue186
 g17 := by kernel_rfl
 g18 := by kernel_rfl
 g19 := by kernel_rfl }
open Go.RowKit Go.Sort Go.Lib in
theorem Tryz.strconv_FormatInt_10_small (i : Nat) (hi : i < 100) (w : World) :
  Calls Tryz.prog 111 #[.int .i64 i, .int .i64 10] w fun e w' => e = .returned (.string ⟨(Lib.decDigits i).toArray⟩) ∧ w' = w := Any.strconv_FormatInt_10_small Tryz.lays173 i hi w
end Go.Proofs

namespace Go.Proofs.YtcokljhamhgelaaGreatDoor
set_option linter.unusedVariables false
set_option linter.unusedSimpArgs false
open Go.ChangeShapes Go.WideShapes Go.ChangeAt Go.RowKit
def bs (l : List UInt8) : ByteArray := ⟨l.toArray⟩
def dg8 (n : Nat) : UInt8 := UInt8.ofNat (48 + n)
theorem bs_add (a b : List UInt8) : bs a ++ bs b = bs (a ++ b) := by
 apply ByteArray.ext
 simp [bs, ByteArray.data_append]
theorem bs_size (a : List UInt8) : (bs a).size = a.length := by simp [bs, ByteArray.size]
theorem bs_inj {a b : List UInt8} (h : bs a = bs b) : a = b := by
 unfold bs at h
 have := congrArg ByteArray.data h
 simpa using this
theorem run_cat {P : Program} (a b : List UInt8) (h : a.length + b.length ≤ 1000000000) (w : World) : (Op.stringOp .add (bs a) (bs b)).run P w = .ok (.string (bs (a ++ b))) w := by
 rw [Go.run_string_add_sum w _ _ (by rw [bs_size, bs_size]; omega), bs_add]
theorem digit_byte {n : Nat} (h : n < 10) : (((dg8 n).toNat : Nat) : Int) = 48 + (n : Int) := by
 have : (dg8 n).toNat = 48 + n := by unfold dg8; simp [UInt8.toNat_ofNat']; omega
 rw [this]
 omega
theorem digit_back {n g : Nat} {w : World} (hn : n < 10) (h : Blk w g 5 [.int .u8 (48 + (n : Int))]) : (convert 123 9 (.slice (some ⟨g, 0, none⟩) 1 1)).run Tryz.prog w = .ok (.string (bs [dg8 n])) w := by
 refine run_convert_bytes_back _ 123 9 5 ⟨g, 0, none⟩ 1 [dg8 n] Tryz.underlying123 Tryz.underlying5 Tryz.underlying9 ?_
 intro j hj
 obtain rfl : j = 0 := by simp at hj; omega
 rw [add_plain]
 simp only [Nat.zero_add, List.getElem_cons_zero, digit_byte hn]
 exact h.c0
set_option maxRecDepth 100000 in
set_option maxHeartbeats 1000000 in
theorem Decimal_one {n : Nat} {w : World} (hn : n < 10) : Calls Tryz.prog 109 #[.int .i64 n] w fun e w' => e = .returned (.string (bs [dg8 n])) ∧ Below w.heap.size w w' := by
 have hb := digit_back hn (Blk.new1 w 5 (.int .u8 (48 + (n : Int))))
 have hn' : (n : Int) < 10 := by omega
 go_enter Tryz.func109, Tryz.ntmps109
 go_wp2_with fail
 go_ret
 exact ⟨rfl, by (repeat' first | exact Below.refl _ _ | assumption | apply Below.alloc | apply Below.drew | apply Below.setCell | omega | (simp; done) | (simp; omega))⟩
set_option maxRecDepth 100000 in
set_option maxHeartbeats 4000000 in
theorem Decimal_i {n : Nat} {w : World} (hn : n < 100) : Calls Tryz.prog 109 #[.int .i64 n] w fun e w' => e = .returned (.string (bs (Lib.decDigits n))) ∧ Below w.heap.size w w' := by
 by_cases h1 : n < 10
 ·
  rw [Lib.decDigits_one h1]
  exact Decimal_one h1
 ·
  rw [Lib.decDigits_two h1 hn]
  have h4 : (10 : Int) ≤ (n : Int) := by omega
  have h5 : (n : Int) < 100 := by omega
  obtain ⟨a, ha⟩ : ∃ a, n / 10 = a := ⟨_, rfl⟩
  obtain ⟨c, hc⟩ : ∃ c, n % 10 = c := ⟨_, rfl⟩
  have q1 : (n : Int) / 10 = (a : Int) := by omega
  have q2 : (n : Int) % 10 = (c : Int) := by omega
  have h2 : a < 10 := by omega
  have h3 : c < 10 := by omega
  have h6 : (c : Int) < 10 := by omega
  have hcz := Int.natCast_nonneg c
  have Hr : Hid (bs [dg8 a] ++ bs [dg8 c] = bs [UInt8.ofNat (48 + a), UInt8.ofNat (48 + c)]) := bs_add _ _
  rw [ha, hc]
  clear ha hc
  go_enter Tryz.func109, Tryz.ntmps109
  go_wp2_with fail
  refine region_rs [] [] (fun (_ _ : Nat) => False) (w.heap.size) (fun i iv vs wx => match i with
   | 0 => vs 0 = .int .i64 n
   | 1 => vs 1 = .int .i64 a
   | 2 => vs 2 = .string (bs [dg8 a])
   | 3 => vs 3 = .int .i64 n
   | 4 => vs 4 = .int .i64 c
   | 5 => vs 5 = .int .i64 (48 + ↑c)
   | 6 => vs 6 = .int .u8 (48 + ↑c)
   | 7 => vs 7 = .slice (some ⟨(iv 7).1, 0, none⟩) 1 1 ∧ (iv 7).2 = (iv 7).1 + 1 ∧ Blk wx (iv 7).1 5 [.int .u8 (48 + ↑c)]
   | 8 => vs 8 = .string (bs [dg8 c])
   | 9 => vs 9 = .string (bs [dg8 a] ++ bs [dg8 c])
   | 10 => vs 10 = .string (bs [dg8 a] ++ bs [dg8 c])
   | _ => True) (fun i iv vs => match i with
   | 0 => vs 0 = .int .i64 n
   | 1 => vs 1 = .int .i64 a
   | 2 => vs 2 = .string (bs [dg8 a])
   | 3 => vs 3 = .int .i64 n
   | 4 => vs 4 = .int .i64 c
   | 5 => vs 5 = .int .i64 (48 + ↑c)
   | 6 => vs 6 = .int .u8 (48 + ↑c)
   | 7 => vs 7 = .slice (some ⟨(iv 7).1, 0, none⟩) 1 1 ∧ (iv 7).2 = (iv 7).1 + 1
   | 8 => vs 8 = .string (bs [dg8 c])
   | 9 => vs 9 = .string (bs [dg8 a] ++ bs [dg8 c])
   | 10 => vs 10 = .string (bs [dg8 a] ++ bs [dg8 c])
   | _ => True) (by kernel_rfl) (by kernel_rfl) [0, 1, 2, 3, 4, 5, 6, 7, 8, 9, 10] (by kernel_rfl) ?hbase ?hGb ?hG ?hJ ?hE ?hEE ?hstep ?hQ
  case hbase => first | exact Nat.le_refl _ | omega | (simp; omega)
  case hGb =>
   exact fun _ _ h => h.elim
  case hG =>
   exact fun _ _ _ h => h.elim
  case hJ =>
   intro i hi iv iv' vs vs' wx wx' ha hv hz hk hj
   simp only [List.mem_cons, List.not_mem_nil, or_false] at hi
   rcases hi with rfl | rfl | rfl | rfl | rfl | rfl | rfl | rfl | rfl | rfl | rfl
   ·
    exact (hv.out 0 (mem_of (by kernel_rfl))).symm.trans hj
   ·
    exact (hv.out 1 (mem_of (by kernel_rfl))).symm.trans hj
   ·
    exact (hv.out 2 (mem_of (by kernel_rfl))).symm.trans hj
   ·
    exact (hv.out 3 (mem_of (by kernel_rfl))).symm.trans hj
   ·
    exact (hv.out 4 (mem_of (by kernel_rfl))).symm.trans hj
   ·
    exact (hv.out 5 (mem_of (by kernel_rfl))).symm.trans hj
   ·
    exact (hv.out 6 (mem_of (by kernel_rfl))).symm.trans hj
   ·
    have e7 := hv.out 7 (mem_of (by kernel_rfl))
    have g7 := ha.out 7 (mem_of (by kernel_rfl))
    obtain ⟨q1, q3, q2⟩ := hj
    show vs' 7 = .slice (some ⟨(iv' 7).1, 0, none⟩) 1 1 ∧ (iv' 7).2 = (iv' 7).1 + 1 ∧ Blk wx' (iv' 7).1 5 [.int .u8 (48 + ↑c)]
    rw [← e7, ← g7]
    exact ⟨q1, q3, q2.keep (hk.out _ q2.lt (foot_own (Nat.le_refl _) (by omega)))⟩
   ·
    exact (hv.out 8 (mem_of (by kernel_rfl))).symm.trans hj
   ·
    exact (hv.out 9 (mem_of (by kernel_rfl))).symm.trans hj
   ·
    exact (hv.out 10 (mem_of (by kernel_rfl))).symm.trans hj
  case hE =>
   intro i hi iv vs wx hj
   simp only [List.mem_cons, List.not_mem_nil, or_false] at hi
   rcases hi with rfl | rfl | rfl | rfl | rfl | rfl | rfl | rfl | rfl | rfl | rfl
   ·
    exact hj
   ·
    exact hj
   ·
    exact hj
   ·
    exact hj
   ·
    exact hj
   ·
    exact hj
   ·
    exact hj
   ·
    exact ⟨hj.1, hj.2.1⟩
   ·
    exact hj
   ·
    exact hj
   ·
    exact hj
  case hEE =>
   intro i hi iv iv' vs vs' ha hv hj
   simp only [List.mem_cons, List.not_mem_nil, or_false] at hi
   rcases hi with rfl | rfl | rfl | rfl | rfl | rfl | rfl | rfl | rfl | rfl | rfl
   ·
    exact (hv.out 0 (mem_of (by kernel_rfl))).symm.trans hj
   ·
    exact (hv.out 1 (mem_of (by kernel_rfl))).symm.trans hj
   ·
    exact (hv.out 2 (mem_of (by kernel_rfl))).symm.trans hj
   ·
    exact (hv.out 3 (mem_of (by kernel_rfl))).symm.trans hj
   ·
    exact (hv.out 4 (mem_of (by kernel_rfl))).symm.trans hj
   ·
    exact (hv.out 5 (mem_of (by kernel_rfl))).symm.trans hj
   ·
    exact (hv.out 6 (mem_of (by kernel_rfl))).symm.trans hj
   ·
    have e7 := hv.out 7 (mem_of (by kernel_rfl))
    have g7 := ha.out 7 (mem_of (by kernel_rfl))
    have hj' : vs 7 = .slice (some ⟨(iv 7).1, 0, none⟩) 1 1 ∧ (iv 7).2 = (iv 7).1 + 1 := hj
    show vs' 7 = .slice (some ⟨(iv' 7).1, 0, none⟩) 1 1 ∧ (iv' 7).2 = (iv' 7).1 + 1
    rw [← e7, ← g7]
    exact hj'
   ·
    exact (hv.out 8 (mem_of (by kernel_rfl))).symm.trans hj
   ·
    exact (hv.out 9 (mem_of (by kernel_rfl))).symm.trans hj
   ·
    exact (hv.out 10 (mem_of (by kernel_rfl))).symm.trans hj
  case hstep =>
   intro i hi opr ho iv vs w1 hB hS hSo hd he hbd hsep hun K hK
   simp only [List.mem_cons, List.not_mem_nil, or_false] at hi
   have hzB := hB.size
   skip
   generalize hA : putFrom _ 0 vs _ = A at hK ⊢
   simp only [putFrom, puts] at hA
   rcases hi with rfl | rfl | rfl | rfl | rfl | rfl | rfl | rfl | rfl | rfl | rfl
   all_goals
    simp at ho
    subst ho
    subst hA
   ·
    go_wp2_with fail
    exact Onward.mk (hK (.int .i64 n) _ _ (fun h => by cases h) (by first | rfl | (simp only [puts])) (Spares.refl _) (fun iv' _ _ => rfl))
   ·
    have h0 : vs 0 = .int .i64 n := hd.out 0 (mem_of (by kernel_rfl)) (by decide) (by kernel_rfl)
    go_wp2_with fail
    exact Onward.mk (hK (.int .i64 a) _ _ (fun h => by cases h) (by first | rfl | (simp only [puts, h0])) (Spares.refl _) (fun iv' _ _ => rfl))
   ·
    have h1 : vs 1 = .int .i64 a := hd.out 1 (mem_of (by kernel_rfl)) (by decide) (by kernel_rfl)
    go_wp2_with fail
    refine (Decimal_one h2).mono ?_
    rintro e w2 ⟨rfl, hb⟩
    go_wp2_with fail
    exact Onward.mk (hK (.string (bs [dg8 a])) _ _ (fun h => by cases h) (by first | rfl | (simp only [puts, h1])) (Spares.of_below hb) (fun iv' _ _ => rfl))
   ·
    go_wp2_with fail
    exact Onward.mk (hK (.int .i64 n) _ _ (fun h => by cases h) (by first | rfl | (simp only [puts])) (Spares.refl _) (fun iv' _ _ => rfl))
   ·
    have h3 : vs 3 = .int .i64 n := hd.out 3 (mem_of (by kernel_rfl)) (by decide) (by kernel_rfl)
    go_wp2_with fail
    exact Onward.mk (hK (.int .i64 c) _ _ (fun h => by cases h) (by first | rfl | (simp only [puts, h3])) (Spares.refl _) (fun iv' _ _ => rfl))
   ·
    have h4 : vs 4 = .int .i64 c := hd.out 4 (mem_of (by kernel_rfl)) (by decide) (by kernel_rfl)
    go_wp2_with fail
    exact Onward.mk (hK (.int .i64 (48 + ↑c)) _ _ (fun h => by cases h) (by first | rfl | (simp only [puts, h4])) (Spares.refl _) (fun iv' _ _ => rfl))
   ·
    have h5 : vs 5 = .int .i64 (48 + ↑c) := hd.out 5 (mem_of (by kernel_rfl)) (by decide) (by kernel_rfl)
    go_wp2_with fail
    exact Onward.mk (hK (.int .u8 (48 + ↑c)) _ _ (fun h => by cases h) (by first | rfl | (simp only [puts, h5])) (Spares.refl _) (fun iv' _ _ => rfl))
   ·
    have h6 : vs 6 = .int .u8 (48 + ↑c) := hd.out 6 (mem_of (by kernel_rfl)) (by decide) (by kernel_rfl)
    go_wp2_with fail
    exact Onward.mk (hK (.slice (some ⟨w1.heap.size, 0, none⟩) 1 1) _ _ (fun h => by cases h) (by first | rfl | (simp only [puts, h6])) (Spares.of_below (Below.alloc (Below.refl _ _) (Nat.le_refl _) _)) (fun iv' _ hi => by
     show Value.slice (some ⟨w1.heap.size, 0, none⟩) 1 1 = .slice (some ⟨(iv' 7).1, 0, none⟩) 1 1 ∧ (iv' 7).2 = (iv' 7).1 + 1 ∧ Blk _ (iv' 7).1 5 [.int .u8 (48 + ↑c)]
     rw [hi]
     exact ⟨rfl, by simp, Blk.new1 _ _ _⟩))
   ·
    obtain ⟨h7, q7, f7⟩ := hd.out 7 (mem_of (by kernel_rfl)) (by decide) (by kernel_rfl)
    obtain ⟨h7, q7, f7⟩ := hd.out 7 (mem_of (by kernel_rfl)) (by decide) (by kernel_rfl)
    have hrun := digit_back h3 f7
    go_wp2_with fail
    exact Onward.mk (hK (.string (bs [dg8 c])) _ _ (fun h => by cases h) (by simp only [Act.put, List.setIfInBounds_toArray, List.set_cons_succ, List.set_cons_zero, h7]) (Spares.of_below (Below.refl _ _)) (fun iv' _ _ => rfl))
   ·
    have h2 : vs 2 = .string (bs [dg8 a]) := hd.out 2 (mem_of (by kernel_rfl)) (by decide) (by kernel_rfl)
    have h8 : vs 8 = .string (bs [dg8 c]) := hd.out 8 (mem_of (by kernel_rfl)) (by decide) (by kernel_rfl)
    go_wp2_with fail
    exact Onward.mk (hK (.string (bs [dg8 a] ++ bs [dg8 c])) _ _ (fun h => by cases h) (by first | rfl | (simp only [puts, h2, h8])) (Spares.refl _) (fun iv' _ _ => rfl))
   ·
    have h9 : vs 9 = .string (bs [dg8 a] ++ bs [dg8 c]) := hd.out 9 (mem_of (by kernel_rfl)) (by decide) (by kernel_rfl)
    go_wp2_with fail
    exact Onward.mk (hK (.string (bs [dg8 a] ++ bs [dg8 c])) _ _ (fun h => by cases h) (by first | rfl | (simp only [puts, h9])) (Spares.refl _) (fun iv' _ _ => rfl))
  case hQ =>
   intro iv vs wx hB hSp hd he hbd hsep
   have hzB := hB.size
   have h0 : vs 0 = .int .i64 n := hd.out 0 (mem_of (by kernel_rfl)) (not_eaten (by kernel_rfl))
   have h1 : vs 1 = .int .i64 a := hd.out 1 (mem_of (by kernel_rfl)) (not_eaten (by kernel_rfl))
   have h2 : vs 2 = .string (bs [dg8 a]) := hd.out 2 (mem_of (by kernel_rfl)) (not_eaten (by kernel_rfl))
   have h3 : vs 3 = .int .i64 n := hd.out 3 (mem_of (by kernel_rfl)) (not_eaten (by kernel_rfl))
   have h4 : vs 4 = .int .i64 c := hd.out 4 (mem_of (by kernel_rfl)) (not_eaten (by kernel_rfl))
   have h5 : vs 5 = .int .i64 (48 + ↑c) := hd.out 5 (mem_of (by kernel_rfl)) (not_eaten (by kernel_rfl))
   have h6 : vs 6 = .int .u8 (48 + ↑c) := hd.out 6 (mem_of (by kernel_rfl)) (not_eaten (by kernel_rfl))
   obtain ⟨h7, q7, f7⟩ := hd.out 7 (mem_of (by kernel_rfl)) (not_eaten (by kernel_rfl))
   have h8 : vs 8 = .string (bs [dg8 c]) := hd.out 8 (mem_of (by kernel_rfl)) (not_eaten (by kernel_rfl))
   have h9 : vs 9 = .string (bs [dg8 a] ++ bs [dg8 c]) := hd.out 9 (mem_of (by kernel_rfl)) (not_eaten (by kernel_rfl))
   have h10 : vs 10 = .string (bs [dg8 a] ++ bs [dg8 c]) := hd.out 10 (mem_of (by kernel_rfl)) (not_eaten (by kernel_rfl))
   simp only [putFrom, puts]
   simp only [h10, Hr.out]
   clear hd he hbd hsep h0 h1 h2 h3 h4 h5 h6 h7 h8 h9 h10 Hr
   go_wp2_with fail
   go_ret
   exact ⟨rfl, hB⟩
theorem decimal_i {n : Nat} {w : World} (hn : n < 100) : Calls Tryz.prog 104 #[.int .i64 n] w fun e w' => e = .returned (.string (bs (Lib.decDigits n))) ∧ w = w' := by
 go_enter Tryz.func104, Tryz.ntmps104
 go_wp2_with fail
 refine (Tryz.strconv_FormatInt_10_small n hn _).mono ?_
 rintro e w1 ⟨rfl, rfl⟩
 go_wp2_with fail
 go_ret
 exact ⟨rfl, rfl⟩
end Go.Proofs.YtcokljhamhgelaaGreatDoor
