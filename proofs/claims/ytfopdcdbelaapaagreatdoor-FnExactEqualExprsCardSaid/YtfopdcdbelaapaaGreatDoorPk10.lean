/-
  Parts of a proof, joined: LiveP, Run, PrP, Rdx. No condition.
-/
import Derived.Test.YtfopdcdbelaapaaGreatDoorPk9
namespace Go.Proofs.YtfopdcdbelaapaaGreatDoor
set_option linter.unusedVariables false
set_option linter.unusedSimpArgs false
open Go.ChangeShapes Go.WideShapes Go.ChangeAt Go.RowKit Go.Deep
def hitR (P : Nat → Bool) (row : List Int) : Bool := row.any fun z => decide (0 ≤ z) && P z.toNat
def accW (ac : List (List Bool)) (nx : List (List (List Int))) : Nat → Nat → Bool
 | 0 => fun s => (ac.getD s []).any id
 | n + 1 => fun s => (nx.getD s []).any (hitR (accW ac nx n))
def farV (ac : List (List Bool)) (nx : List (List (List Int))) : Nat → Nat → Int
 | 0 => fun s => if accW ac nx 0 s then 0 else -1
 | n + 1 => fun s => if 0 ≤ farV ac nx n s then farV ac nx n s else if accW ac nx (n + 1) s then ((n + 1 : Nat) : Int) else -1
section
variable {ac : List (List Bool)} {nx : List (List (List Int))}
theorem farV_bd : ∀ n s, -1 ≤ farV ac nx n s ∧ farV ac nx n s ≤ n
 | 0, s => by simp only [farV]; split <;> omega
 | n + 1, s => by
  have := farV_bd n s
  simp only [farV]
  split
  ·
   omega
  ·
   split <;> omega
theorem farV_spec : ∀ n s, (0 ≤ farV ac nx n s → ∃ m : Nat, m ≤ n ∧ farV ac nx n s = (m : Int) ∧ accW ac nx m s = true ∧ ∀ k, k < m → accW ac nx k s = false) ∧ (farV ac nx n s < 0 → ∀ m, m ≤ n → accW ac nx m s = false)
 | 0, s => by
  simp only [farV]
  by_cases h : accW ac nx 0 s = true
  ·
   rw [if_pos h]
   exact ⟨fun _ => ⟨0, Nat.le_refl _, rfl, h, fun k hk => by omega⟩, fun hn => by omega⟩
  ·
   rw [if_neg h]
   refine ⟨fun hn => by omega, fun _ m hm => ?_⟩
   obtain rfl : m = 0 := by omega
   simpa using h
 | n + 1, s => by
  obtain ⟨h1, h2⟩ := farV_spec n s
  simp only [farV]
  by_cases h : 0 ≤ farV ac nx n s
  ·
   rw [if_pos h]
   refine ⟨fun _ => ?_, fun hn => by omega⟩
   obtain ⟨m, hm, e, h3, h4⟩ := h1 h
   exact ⟨m, by omega, e, h3, h4⟩
  ·
   rw [if_neg h]
   have h3 := h2 (by omega)
   by_cases h4 : accW ac nx (n + 1) s = true
   ·
    rw [if_pos h4]
    exact ⟨fun _ => ⟨n + 1, Nat.le_refl _, rfl, h4, fun k hk => h3 k (by omega)⟩, fun hn => by omega⟩
   ·
    rw [if_neg h4]
    refine ⟨fun hn => by omega, fun _ m hm => ?_⟩
    by_cases he : m = n + 1
    ·
     rw [he]; simpa using h4
    ·
     exact h3 m (by omega)
theorem pigeon : ∀ (n : Nat) (L : List Nat), L.Nodup → (∀ x ∈ L, x < n) → L.length ≤ n
 | 0, L, _, h => by
  cases L with
  | nil => simp
  | cons x r => have := h x (List.mem_cons_self ..); omega
 | n + 1, L, hd, h => by
  have h1 := pigeon n (L.erase n) (hd.erase n) fun x hx => by
   have h2 := h x (List.mem_of_mem_erase hx)
   have h3 := (List.Nodup.mem_erase_iff hd).1 hx
   omega
  rw [List.length_erase] at h1
  split at h1 <;> omega
end
end Go.Proofs.YtfopdcdbelaapaaGreatDoor

namespace Go.Proofs.YtfopdcdbelaapaaGreatDoor
set_option linter.unusedVariables false
set_option linter.unusedSimpArgs false
open Go.ChangeShapes Go.WideShapes Go.ChangeAt Go.RowKit Go.Sort
def stepN (nx : List (List (List Int))) (s x y : Nat) : Int := ((nx.getD s []).getD x []).getD y (-1)
theorem AutOk.next {t a : Int} {ac : List (List Bool)} {nx : List (List (List Int))} (h : AutOk t a ac nx) {s x y : Nat} (hs : s < ac.length) (hx : (x : Int) < atomsN t) (hy : (y : Int) < a) :
  ∃ nr row z, nx[s]? = some nr ∧ nr[x]? = some row ∧ row[y]? = some z ∧ -1 ≤ z ∧ z ≤ (ac.length : Int) - 1 ∧ stepN nx s x y = z := by
 obtain ⟨ar, har⟩ : ∃ e, ac[s]? = some e := ⟨_, List.getElem?_eq_getElem hs⟩
 obtain ⟨nr, hnr⟩ : ∃ e, nx[s]? = some e := ⟨_, List.getElem?_eq_getElem (by rw [h.len]; exact hs)⟩
 obtain ⟨_, h2, h3⟩ := h.st s ar nr har hnr
 obtain ⟨row, hrow⟩ : ∃ e, nr[x]? = some e := ⟨_, List.getElem?_eq_getElem (by omega)⟩
 obtain ⟨h4, h5⟩ := h3 x row hrow
 obtain ⟨z, hz⟩ : ∃ e, row[y]? = some e := ⟨_, List.getElem?_eq_getElem (by omega)⟩
 obtain ⟨h6, h7⟩ := h5 y z hz
 refine ⟨nr, row, z, hnr, hrow, hz, h6, h7, ?_⟩
 unfold stepN
 rw [List.getD_eq_getElem?_getD, List.getD_eq_getElem?_getD, List.getD_eq_getElem?_getD, hnr]
 simp [hrow, hz]
theorem AutOk.acc {t a : Int} {ac : List (List Bool)} {nx : List (List (List Int))} (h : AutOk t a ac nx) {s x : Nat} (hs : s < ac.length) (hx : (x : Int) < atomsN t) :
  ∃ ar z, ac[s]? = some ar ∧ ar[x]? = some z ∧ (ac.getD s []).getD x false = z := by
 obtain ⟨ar, har⟩ : ∃ e, ac[s]? = some e := ⟨_, List.getElem?_eq_getElem hs⟩
 obtain ⟨nr, hnr⟩ : ∃ e, nx[s]? = some e := ⟨_, List.getElem?_eq_getElem (by rw [h.len]; exact hs)⟩
 obtain ⟨h1, _, _⟩ := h.st s ar nr har hnr
 obtain ⟨z, hz⟩ : ∃ e, ar[x]? = some e := ⟨_, List.getElem?_eq_getElem (by omega)⟩
 refine ⟨ar, z, har, hz, ?_⟩
 rw [List.getD_eq_getElem?_getD, List.getD_eq_getElem?_getD, har]
 simp [hz]
end Go.Proofs.YtfopdcdbelaapaaGreatDoor

namespace Go.Proofs.YtfopdcdbelaapaaGreatDoor
set_option linter.unusedVariables false
set_option linter.unusedSimpArgs false
open Go.ChangeShapes Go.WideShapes Go.ChangeAt Go.RowKit Go.Deep
def goN (nx : List (List (List Int))) (s : Int) (m k : Nat) : Int := if s < 0 then -1 else stepN nx s.toNat m k
def hasN (ac : List (List Bool)) (s : Int) (m : Nat) : Bool := decide (0 ≤ s) && (ac.getD s.toNat []).getD m false
def nxtP (nx ny : List (List (List Int))) (m k : Nat) (p : Int × Int) : Option (Int × Int) := if goN nx p.1 m k < 0 ∧ goN ny p.2 m k < 0 then none else some (goN nx p.1 m k, goN ny p.2 m k)
def prL (nx ny : List (List (List Int))) (A a i : Nat) : List (Int × Int) := expl ((0 : Int), (0 : Int)) (fun y => grid (fun m k => nxtP nx ny m k y) A a) i
def prC (nx ny : List (List (List Int))) (A a i : Nat) (x : Int × Int) (m k : Nat) : List (Int × Int) := curG ((0 : Int), (0 : Int)) (nxtP nx ny) A a i x m k
section
variable {nx ny : List (List (List Int))} {A a i : Nat} {x : Int × Int} {m k : Nat}
theorem prC_zero : prC nx ny A a i x 0 0 = prL nx ny A a i := curG_zero
theorem prC_line : prC nx ny A a i x m a = prC nx ny A a i x (m + 1) 0 := curG_line
theorem prC_cell (hm : m < A) (hk : k < a) : prC nx ny A a i x m (k + 1) = grow1 (prC nx ny A a i x m k) (nxtP nx ny m k x) := curG_cell hm hk
theorem prC_all (h : (prL nx ny A a i)[i]? = some x) : prC nx ny A a i x A 0 = prL nx ny A a (i + 1) := curG_all h
theorem prC_old : prL nx ny A a i <+: prC nx ny A a i x m k := curG_old
theorem prL_at (h : (prL nx ny A a i)[i]? = some x) : (prC nx ny A a i x m k)[i]? = some x := prefix_get prC_old h
theorem prL_stop {n : Nat} (h : (prL nx ny A a i).length ≤ i) (hn : i ≤ n) : prL nx ny A a n = prL nx ny A a i := expl_stop h n hn
theorem prC_prefix (h : (prL nx ny A a i)[i]? = some x) : prC nx ny A a i x m k <+: prL nx ny A a (i + 1) := curG_prefix h
end
def PairOk (N M : Nat) (p : Int × Int) : Prop := -1 ≤ p.1 ∧ p.1 < N ∧ -1 ≤ p.2 ∧ p.2 < M
theorem goN_bd {t a : Int} {ac : List (List Bool)} {nx : List (List (List Int))} (h : AutOk t a ac nx) {s : Int} {m k : Nat} (h1 : s < ac.length) (hm : (m : Int) < atomsN t) (hk : (k : Int) < a) : -1 ≤ goN nx s m k ∧ goN nx s m k < ac.length := by
 unfold goN
 split
 ·
  exact ⟨by omega, by have := h.lo; omega⟩
 ·
  obtain ⟨nr, row, z, -, -, -, h3, h4, h5⟩ := h.next (s := s.toNat) (x := m) (y := k) (by omega) hm hk
  rw [h5]
  exact ⟨h3, by omega⟩
section
variable {t a : Int} {ac bc : List (List Bool)} {nx ny : List (List (List Int))}
theorem nxtP_ok (h : AutOk t a ac nx) (h' : AutOk t a bc ny) {m k : Nat} (hm : m < (atomsN t).toNat) (hk : k < a.toNat) {p z : Int × Int} (hp : PairOk ac.length bc.length p) (hz : nxtP nx ny m k p = some z) : PairOk ac.length bc.length z := by
 unfold nxtP at hz
 split at hz
 ·
  cases hz
 ·
  obtain rfl := Option.some.inj hz
  have h1 := goN_bd h (s := p.1) (m := m) (k := k) hp.2.1 (by omega) (by omega)
  have h2 := goN_bd h' (s := p.2) (m := m) (k := k) hp.2.2.2 (by omega) (by omega)
  exact ⟨h1.1, h1.2, h2.1, h2.2⟩
theorem prL_ok (h : AutOk t a ac nx) (h' : AutOk t a bc ny) (i : Nat) : ∀ p ∈ prL nx ny (atomsN t).toNat a.toNat i, PairOk ac.length bc.length p := by
 refine expl_all ?_ ?_ i
 ·
  have := h.lo
  have := h'.lo
  exact ⟨by simp, by simp; omega, by simp, by simp; omega⟩
 ·
  intro y hy m k hm hk z hz
  exact nxtP_ok h h' hm hk hy hz
theorem pair_many {N M : Nat} (hN : N ≤ 60) (hM : M ≤ 60) {L : List (Int × Int)} (hd : L.Nodup) (h : ∀ p ∈ L, PairOk N M p) : L.length ≤ 3721 := by
 have := pigeon 3721 (L.map fun p => ((p.1 + 1) * 61 + (p.2 + 1)).toNat) ?_ ?_
 ·
  simpa using this
 ·
  rw [List.nodup_iff_pairwise_ne, List.pairwise_map]
  refine List.Pairwise.imp_of_mem ?_ (List.nodup_iff_pairwise_ne.1 hd)
  intro p q hp hq hne e
  obtain ⟨a1, a2, a3, a4⟩ := h p hp
  obtain ⟨b1, b2, b3, b4⟩ := h q hq
  apply hne
  apply Prod.ext <;> omega
 ·
  intro x hx
  obtain ⟨p, hp, rfl⟩ := List.mem_map.1 hx
  obtain ⟨a1, a2, a3, a4⟩ := h p hp
  omega
theorem prL_many (h : AutOk t a ac nx) (h' : AutOk t a bc ny) (i : Nat) : (prL nx ny (atomsN t).toNat a.toNat i).length ≤ 3721 := pair_many h.hi h'.hi (expl_nodup _ _ _) (prL_ok h h' i)
theorem prC_ok (h : AutOk t a ac nx) (h' : AutOk t a bc ny) {i : Nat} {x : Int × Int} {m k : Nat} (hx : (prL nx ny (atomsN t).toNat a.toNat i)[i]? = some x) : (∀ p ∈ prC nx ny (atomsN t).toNat a.toNat i x m k, PairOk ac.length bc.length p) ∧ (prC nx ny (atomsN t).toNat a.toNat i x m k).length ≤ 3721 := by
 have hp := prC_prefix (m := m) (k := k) hx
 exact ⟨fun p hm => prL_ok h h' (i + 1) p (hp.subset hm), Nat.le_trans (prefix_length hp) (prL_many h h' (i + 1))⟩
theorem prL_all (h : AutOk t a ac nx) (h' : AutOk t a bc ny) {i : Nat} (hd : (prL nx ny (atomsN t).toNat a.toNat i).length ≤ i) : prL nx ny (atomsN t).toNat a.toNat i = prL nx ny (atomsN t).toNat a.toNat 3721 := by
 by_cases hi : i ≤ 3721
 ·
  exact (prL_stop hd hi).symm
 ·
  exact prL_stop (i := 3721) (prL_many h h' 3721) (by omega)
end
def prF (nx ny : List (List (List Int))) (A a : Nat) : List (Int × Int) := prL nx ny A a 3721
theorem grow1_map {α β : Type} [DecidableEq α] [DecidableEq β] {g : α → β} (hg : ∀ x y, g x = g y → x = y) (L : List α) (o : Option α) : grow1 (L.map g) (o.map g) = (grow1 L o).map g := by
 cases o with
 | none => rfl
 | some x =>
  by_cases h : x ∈ L
  ·
   rw [grow1_old h, Option.map_some, grow1_old (List.mem_map.2 ⟨x, h, rfl⟩)]
  ·
   rw [grow1_new h, Option.map_some, grow1_new, List.map_append]
   ·
    rfl
   ·
    intro hm
    obtain ⟨y, hy, e⟩ := List.mem_map.1 hm
    exact h (hg y x e ▸ hy)
theorem growL_map {α β : Type} [DecidableEq α] [DecidableEq β] {g : α → β} (hg : ∀ x y, g x = g y → x = y) : ∀ (ss : List (Option α)) (L : List α), growL (L.map g) (ss.map (Option.map g)) = (growL L ss).map g
 | [], _ => rfl
 | o :: r, L => by
  show growL (grow1 (L.map g) (o.map g)) (r.map (Option.map g)) = _
  rw [grow1_map hg, growL_map hg r]
  rfl
theorem expl_map {α β : Type} [DecidableEq α] [DecidableEq β] {g : α → β} (hg : ∀ x y, g x = g y → x = y) {s : α} {f : α → List (Option α)} {f' : β → List (Option β)} (hf : ∀ x, f' (g x) = (f x).map (Option.map g)) : ∀ i, expl (g s) f' i = (expl s f i).map g
 | 0 => rfl
 | i + 1 => by
  have ih := expl_map hg hf i (s := s)
  cases h : (expl s f i)[i]? with
  | none =>
   simp only [expl, ih, List.getElem?_map, h, Option.map_none]
  | some x =>
   simp only [expl, ih, List.getElem?_map, h, Option.map_some]
   rw [hf, growL_map hg]
theorem grid_map {α β : Type} (f : Nat → Nat → α) (g : α → β) (a : Nat) : ∀ A, grid (fun m k => g (f m k)) A a = (grid f A a).map g
 | 0 => rfl
 | A + 1 => by
  rw [grid_succ, grid_succ, List.map_append, grid_map f g a A, List.map_map]
  rfl
def swapP (p : Int × Int) : Int × Int := (p.2, p.1)
theorem nxtP_swap (nx ny : List (List (List Int))) (m k : Nat) (p : Int × Int) : nxtP ny nx m k (swapP p) = (nxtP nx ny m k p).map swapP := by
 unfold nxtP swapP
 simp only
 by_cases h : goN nx p.1 m k < 0 ∧ goN ny p.2 m k < 0
 ·
  rw [if_pos h, if_pos ⟨h.2, h.1⟩]
  rfl
 ·
  rw [if_neg h, if_neg fun h' => h ⟨h'.2, h'.1⟩]
  rfl
theorem prL_swap (nx ny : List (List (List Int))) (A a i : Nat) : prL ny nx A a i = (prL nx ny A a i).map swapP := by
 unfold prL
 refine expl_map (g := swapP) (s := ((0 : Int), (0 : Int))) (fun x y h => ?_) (fun x => ?_) i
 ·
  simp only [swapP, Prod.mk.injEq] at h
  exact Prod.ext h.2 h.1
 ·
  rw [← grid_map]
  congr 1
  funext m k
  exact nxtP_swap nx ny m k x
def inAtB (ac bc : List (List Bool)) (A : Nat) (p : Int × Int) : Bool := (List.range A).all fun m => !(hasN ac p.1 m && !hasN bc p.2 m)
def eqAtB (ac bc : List (List Bool)) (A : Nat) (p : Int × Int) : Bool := (List.range A).all fun m => hasN ac p.1 m == hasN bc p.2 m
def withinB (ac bc : List (List Bool)) (nx ny : List (List (List Int))) (A a : Nat) : Bool := (prF nx ny A a).all (inAtB ac bc A)
def sameB (ac bc : List (List Bool)) (nx ny : List (List (List Int))) (A a : Nat) : Bool := (prF nx ny A a).all (eqAtB ac bc A)
theorem same_within (ac bc : List (List Bool)) (nx ny : List (List (List Int))) (A a : Nat) : sameB ac bc nx ny A a = (withinB ac bc nx ny A a && withinB bc ac ny nx A a) := by
 unfold sameB withinB prF
 rw [prL_swap nx ny A a 3721, Bool.eq_iff_iff]
 simp only [Bool.and_eq_true, List.all_eq_true, List.mem_map, inAtB, eqAtB, List.mem_range, swapP]
 constructor
 ·
  intro h
  refine ⟨fun p hp m hm => ?_, ?_⟩
  ·
   have := h p hp m hm
   simp only [beq_iff_eq] at this
   rw [this]
   simp
  ·
   rintro q ⟨p, hp, rfl⟩ m hm
   have := h p hp m hm
   simp only [beq_iff_eq] at this
   simp [this]
 ·
  rintro ⟨h1, h2⟩ p hp m hm
  have h3 := h1 p hp m hm
  have h4 := h2 _ ⟨p, hp, rfl⟩ m hm
  simp only at h4
  cases e1 : hasN ac p.1 m <;> cases e2 : hasN bc p.2 m <;> simp_all
end Go.Proofs.YtfopdcdbelaapaaGreatDoor

namespace Go.Proofs.YtfopdcdbelaapaaGreatDoor
set_option linter.unusedVariables false
set_option linter.unusedSimpArgs false
open Go.ChangeShapes Go.WideShapes Go.ChangeAt Go.RowKit Go.Deep
def KeptX (X : Nat → Prop) (w w' : World) : Prop := w.heap.size ≤ w'.heap.size ∧ ∀ b, b < w.heap.size → ¬ X b → w'.heap[b]? = w.heap[b]?
theorem KeptX.refl (X : Nat → Prop) (w : World) : KeptX X w w := ⟨Nat.le_refl _, fun _ _ _ => rfl⟩
theorem KeptX.trans {X : Nat → Prop} {a b c : World} (h : KeptX X a b) (k : KeptX X b c) : KeptX X a c :=
 ⟨Nat.le_trans h.1 k.1, fun i hi hx => (k.2 i (Nat.lt_of_lt_of_le hi h.1) hx).trans (h.2 i hi hx)⟩
theorem KeptX.of_below {X : Nat → Prop} {w w' : World} (h : Below w.heap.size w w') : KeptX X w w' := ⟨h.size, fun b hb _ => h.block b hb⟩
theorem KeptX.of_spares {X Y : Nat → Prop} {w w' : World} (h : Spares Y w w') (hY : ∀ b, b < w.heap.size → Y b → X b) : KeptX X w w' := ⟨h.size, fun b hb hx => h.block b hb fun hy => hx (hY b hb hy)⟩
theorem KeptX.more {X Y : Nat → Prop} {w w' : World} (h : KeptX X w w') (hs : ∀ b, b < w.heap.size → X b → Y b) : KeptX Y w w' := ⟨h.1, fun b hb hy => h.2 b hb fun hx => hy (hs b hb hx)⟩
def RdX (X : Nat → Prop) (w : World) (d : D) (v : Value) : Prop := ∀ w', KeptX X w w' → Rd w' d v
theorem RdX.rd {X : Nat → Prop} {w : World} {d : D} {v : Value} (h : RdX X w d v) : Rd w d v := h w (KeptX.refl X w)
theorem RdX.keep {X : Nat → Prop} {w w' : World} {d : D} {v : Value} (h : RdX X w d v) (hk : KeptX X w w') : RdX X w' d v := fun _ k => h _ (hk.trans k)
theorem RdX.below {X : Nat → Prop} {w w' : World} {d : D} {v : Value} (h : RdX X w d v) (hb : Below w.heap.size w w') : RdX X w' d v := h.keep (KeptX.of_below hb)
theorem RdX.less {X Y : Nat → Prop} {w : World} {d : D} {v : Value} (h : RdX X w d v) (hs : ∀ b, b < w.heap.size → Y b → X b) : RdX Y w d v := fun w' k => h w' (k.more hs)
theorem RdX.of_rd {X : Nat → Prop} {w : World} {d : D} {v : Value} (h : Rd w d v) (hX : ∀ b, X b → w.heap.size ≤ b) : RdX X w d v := fun _ k => h.keep fun b hb => k.2 b hb fun hx => by have := hX b hx; omega
theorem RdX.nil {X : Nat → Prop} {w : World} {size : Nat} : RdX X w (.sl size 0 []) (.slice Option.none 0 0) := fun _ _ => by simp only [Rd]; exact ⟨Option.none, 0, rfl, Nat.le_refl _, by unfold maxLen; omega, by simp, fun _ => rfl, Or.inl trivial⟩
theorem RdX.fresh {X : Nat → Prop} {w w' : World} {d : D} {v : Value} (h : Freshs w w' [d] [v]) (hX : ∀ b, X b → b < w.heap.size) : RdX X w' d v := by
 obtain ⟨F, h1, h2, h3⟩ := h
 intro w2 k
 exact Rds.one (h1.keep fun b hb => k.2 b (h1.lt b hb) fun hx => by have := h3 b hb; have := hX b hx; omega).rds
def RdO (W0 : World) (X F : Nat → Prop) (w : World) (d : D) (v : Value) : Prop :=
 ∀ w', w.heap.size ≤ w'.heap.size → KeptX X W0 w' → (∀ b, b < w.heap.size → F b → w'.heap[b]? = w.heap[b]?) → Rd w' d v
theorem RdO.keep {W0 : World} {X F F' : Nat → Prop} {w w' : World} {d : D} {v : Value} (h : RdO W0 X F w d v) (hz : w.heap.size ≤ w'.heap.size) (hk : ∀ b, b < w.heap.size → F b → w'.heap[b]? = w.heap[b]?) (hF : ∀ b, F b → F' b) : RdO W0 X F' w' d v :=
 fun w2 h1 h2 h3 => h w2 (Nat.le_trans hz h1) h2 fun b hb hf => (h3 b (Nat.lt_of_lt_of_le hb hz) (hF b hf)).trans (hk b hb hf)
def OutX (W0 : World) (X F : Nat → Prop) (w : World) (b : Nat) : Prop := b < w.heap.size ∧ ¬ ((b < W0.heap.size ∧ ¬ X b) ∨ F b)
theorem OutX.lt {W0 : World} {X F : Nat → Prop} {w : World} : ∀ b, OutX W0 X F w b → b < w.heap.size := fun _ h => h.1
theorem OutX.kept {W0 : World} {X F : Nat → Prop} {w w2 : World} (k : KeptX (OutX W0 X F w) w w2) (hW : KeptX X W0 w) : KeptX X W0 w2 :=
 ⟨Nat.le_trans hW.1 k.1, fun b hb hx => (k.2 b (Nat.lt_of_lt_of_le hb hW.1) fun ho => ho.2 (Or.inl ⟨hb, hx⟩)).trans (hW.2 b hb hx)⟩
theorem OutX.foot {W0 : World} {X F : Nat → Prop} {w w2 : World} (k : KeptX (OutX W0 X F w) w w2) {b : Nat} (hb : b < w.heap.size) (hf : F b) : w2.heap[b]? = w.heap[b]? := k.2 b hb fun ho => ho.2 (Or.inr hf)
theorem RdO.toX {W0 : World} {X F F' : Nat → Prop} {w : World} {d : D} {v : Value} (h : RdO W0 X F w d v) (hW : KeptX X W0 w) (hF : ∀ b, F b → F' b) : RdX (OutX W0 X F' w) w d v :=
 fun w2 k => h w2 k.1 (OutX.kept k hW) fun b hb hf => OutX.foot k hb (hF b hf)
theorem RdX.toOut {W0 : World} {X F : Nat → Prop} {w : World} {d : D} {v : Value} (h : RdX X W0 d v) (hW : KeptX X W0 w) : RdX (OutX W0 X F w) w d v :=
 fun w2 k => h w2 (OutX.kept k hW)
theorem RdO.ofX {W0 : World} {X F F' : Nat → Prop} {w w2 : World} {d : D} {v : Value} (h : RdX (OutX W0 X F' w) w2 d v) (hb : Below w.heap.size w w2) (hW : KeptX X W0 w) (hF : ∀ b, F' b → F b) (hn : ∀ b, w.heap.size ≤ b → b < w2.heap.size → F b) : RdO W0 X F w2 d v :=
 fun w3 hz k3 h3 => h w3 ⟨hz, fun b hb2 hno => by
  by_cases hl : b < w.heap.size
  ·
   by_cases hf : F' b
   ·
    exact h3 b hb2 (hF b hf)
   ·
    by_cases ho : b < W0.heap.size ∧ ¬ X b
    ·
     exact (k3.2 b ho.1 ho.2).trans (((hW.trans (KeptX.of_below hb)).2 b ho.1 ho.2).symm)
    ·
     exact absurd ⟨hl, fun q => q.elim ho hf⟩ hno
  ·
   exact h3 b hb2 (hn b (by omega) hb2)⟩
theorem RdO.done {W0 : World} {X F : Nat → Prop} {w : World} {d : D} {v : Value} (h : RdO W0 X F w d v) (hW : KeptX X W0 w) (hF : ∀ b, F b → ¬ X b) : RdX X w d v :=
 fun w2 k => h w2 k.1 (hW.trans k) fun b hb hf => k.2 b hb (hF b hf)
theorem foot_no {C D : List (Nat × Nat)} {G : Nat → Nat → Prop} {n i B z : Nat} {iv : Nat → Nat × Nat} {l : List Nat} (hl : ((chainOf C n i).all fun j => l.contains j) = true) (hD : ((chainOf C n i).all fun j => D.all fun p => p.1 != j) = true)
  (hb : ∀ j ∈ l, B ≤ (iv j).1 ∧ (iv j).1 ≤ (iv j).2 ∧ (iv j).2 ≤ z) {b : Nat} (hf : foot C D G n i iv b) : B ≤ b := by
 obtain ⟨j, hj, h | ⟨m, hm, hg⟩⟩ := hf
 ·
  have := List.all_eq_true.1 hl j hj
  have := (hb j (by simpa using this)).1
  omega
 ·
  have := List.all_eq_true.1 (List.all_eq_true.1 hD j hj) (j, m) hm
  simp at this
theorem kidsD_nil {X : Nat → Prop} {w : World} : RdX X w (kidsD []) (.slice none 0 0) := RdX.nil
def ExX (X : Nat → Prop) (w : World) (e : Ex) (s : Option Addr) (c : Nat) : Prop := RdX X w (kidsD e.kids) (.slice s e.kids.length c)
theorem kidsD_one {X : Nat → Prop} {w : World} {g t : Nat} {x : Ex} {sx : Option Addr} {cx : Nat} (h : Blk w g t [.int .i64 x.kind, .int .i64 x.num, .slice sx x.kids.length cx]) (hg : ¬ X g) (hx : ExX X w x sx cx) : RdX X w (kidsD [x]) (.slice (some ⟨g, 0, none⟩) 1 1) := by
 intro w' k
 have h' := h.keep (k.2 g h.lt hg)
 have hx' := hx w' k
 unfold kidsD
 simp only [Rd]
 have hrow : Row w' g 0 [.int .i64 x.kind, .int .i64 x.num, .slice sx x.kids.length cx] := h'.row rfl
 refine ⟨some ⟨g, 0, none⟩, 1, rfl, Nat.le_refl _, by unfold maxLen; omega, by rw [Ex.cellsL_length], (fun h => by cases h), Or.inr ⟨g, 0, _, rfl, hrow, ?_⟩⟩
 simp only [Ex.cellsL, List.append_nil]
 rw [Ex.cells_eq]
 simp only [Rds, Rd]
 exact ⟨_, _, rfl, rfl, _, _, rfl, rfl, _, _, rfl, hx', rfl⟩
theorem kidsD_two {X : Nat → Prop} {w : World} {g t : Nat} {x y : Ex} {sx sy : Option Addr} {cx cy : Nat} (h : Blk w g t [.int .i64 x.kind, .int .i64 x.num, .slice sx x.kids.length cx, .int .i64 y.kind, .int .i64 y.num, .slice sy y.kids.length cy]) (hg : ¬ X g)
  (hx : ExX X w x sx cx) (hy : ExX X w y sy cy) : RdX X w (kidsD [x, y]) (.slice (some ⟨g, 0, none⟩) 2 2) := by
 intro w' k
 have h' := h.keep (k.2 g h.lt hg)
 have hx' := hx w' k
 have hy' := hy w' k
 unfold kidsD
 simp only [Rd]
 have hrow : Row w' g 0 [.int .i64 x.kind, .int .i64 x.num, .slice sx x.kids.length cx, .int .i64 y.kind, .int .i64 y.num, .slice sy y.kids.length cy] := h'.row rfl
 refine ⟨some ⟨g, 0, none⟩, 2, rfl, Nat.le_refl _, by unfold maxLen; omega, by rw [Ex.cellsL_length], (fun h => by cases h), Or.inr ⟨g, 0, _, rfl, hrow, ?_⟩⟩
 simp only [Ex.cellsL, List.append_nil]
 rw [Ex.cells_eq, Ex.cells_eq]
 simp only [List.cons_append, List.nil_append, Rds, Rd]
 exact ⟨_, _, rfl, rfl, _, _, rfl, rfl, _, _, rfl, hx', _, _, rfl, rfl, _, _, rfl, rfl, _, _, rfl, hy', rfl⟩
theorem RdX.row_out {X : Nat → Prop} {w : World} {ks : List Ex} {b o len cap : Nat} (h : RdX X w (kidsD ks) (.slice (some ⟨b, o, none⟩) len cap)) {i : Nat} {x : Ex} (hx : ks[i]? = some x) : ¬ X b := by
 intro hb
 have hlt := (kid_in h.rd hx).1
 have k : KeptX X w { w with heap := w.heap.setIfInBounds b (.cells #[] 0) } :=
  ⟨by simp, fun j hj hn => by
   have hne : b ≠ j := fun e => hn (e ▸ hb)
   simp [Array.getElem?_setIfInBounds_ne hne]⟩
 obtain ⟨-, s', c', k0, -⟩ := kid_in (h _ k) hx
 have hblk : Blk { w with heap := w.heap.setIfInBounds b (.cells #[] 0) } b 0 [] := by
  unfold Blk
  simp [hlt]
 rw [hblk.cell] at k0
 simp at k0
theorem kidX {X : Nat → Prop} {w : World} {ks : List Ex} {b o len cap : Nat} (h : RdX X w (kidsD ks) (.slice (some ⟨b, o, none⟩) len cap)) {i : Nat} {x : Ex} (hx : ks[i]? = some x) :
  b < w.heap.size ∧ ¬ X b ∧ ∃ s c, w.cell? ⟨b, o + i * 3, none⟩ = some (.int .i64 x.kind) ∧ w.cell? ⟨b, o + i * 3 + 1, none⟩ = some (.int .i64 x.num) ∧ w.cell? ⟨b, o + i * 3 + 2, none⟩ = some (.slice s x.kids.length c) ∧ ExX X w x s c := by
 obtain ⟨hb, s, c, h0, h1, h2, h3⟩ := kid_in h.rd hx
 have hn := h.row_out hx
 refine ⟨hb, hn, s, c, h0, h1, h2, fun w' k => ?_⟩
 obtain ⟨-, s', c', k0, k1, k2, k3⟩ := kid_in (h w' k) hx
 have e := World.cell?_of_block (w := w) (w' := w') (a := ⟨b, o + i * 3 + 2, none⟩) (k.2 b hb hn)
 rw [k2, h2] at e
 simp only [Option.some.injEq, Value.slice.injEq, true_and] at e
 obtain ⟨rfl, rfl⟩ := e
 exact k3
end Go.Proofs.YtfopdcdbelaapaaGreatDoor
