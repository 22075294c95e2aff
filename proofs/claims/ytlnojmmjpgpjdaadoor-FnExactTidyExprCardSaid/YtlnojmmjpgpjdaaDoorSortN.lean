/-
  The sort of named expressions by their texts: slices.SortFunc at this program's struct, its closure.
-/
import Derived.Test.YtlnojmmjpgpjdaaDoorShr
import Derived.Test.YtlnojmmjpgpjdaaDoorShelf
import Derived.Test.YtlnojmmjpgpjdaaDoorShelfS
namespace Go.Proofs.YtlnojmmjpgpjdaaDoor
open Go.ChangeShapes Go.WideShapes Go.ChangeAt Go.RowKit Go.Deep Go.Sort

theorem compare_lt : ∀ a b : List UInt8, Lib.compareBytes a b < 0 ↔ a < b
  | [], [] => by simp [Lib.compareBytes]
  | [], y :: b => by simp [Lib.compareBytes]
  | x :: a, [] => by simp [Lib.compareBytes]
  | x :: a, y :: b => by
    rw [Lib.compareBytes, List.cons_lt_cons_iff]
    by_cases h1 : x < y
    · simp [h1]
    · by_cases h2 : y < x
      · rw [if_neg h1, if_pos h2]
        have h3 : x ≠ y := fun e => by subst e; exact h1 h2
        simp [h1, h3]
      · rw [if_neg h1, if_neg h2, compare_lt a b]
        have h3 : x = y := UInt8.le_antisymm (UInt8.not_lt.1 h2) (UInt8.not_lt.1 h1)
        simp [h1, h3]

instance shInh : Inhabited Sh := ⟨⟨.mk 0 0 [], none, 0⟩⟩
/-- The four cells of a named expression. -/
def Sh.named (x : Sh) : List Value := [.string (bs x.e.text), .int .i64 x.e.kind, .int .i64 x.e.num, .slice x.s x.e.kids.length x.c]
def cmpS (x y : Sh) : Int := Lib.compareBytes x.e.text y.e.text
theorem ltS (x y : Sh) : ltOf cmpS x y = decide (x.e.text < y.e.text) := by
  unfold ltOf cmpS
  by_cases h : x.e.text < y.e.text
  · simp [h, compare_lt]
  · simp only [h, decide_false, decide_eq_false_iff_not]
    rw [compare_lt]
    exact h
theorem swoS : SWO (ltOf cmpS) where
  irrefl x := by rw [ltS]; simp [List.lt_irrefl]
  trans x y z h1 h2 := by
    rw [ltS] at *
    simp only [decide_eq_true_eq] at *
    exact List.lt_trans h1 h2
  ntrans x y z h1 h2 := by
    rw [ltS] at *
    simp only [decide_eq_false_iff_not, List.not_lt] at *
    exact List.le_trans h2 h1

set_option maxHeartbeats 1000000 in
theorem closure_i (x y : Sh) (W : World) : Calls Tryd.prog 100 #[.agg x.named.toArray, .agg y.named.toArray] W fun e w' => e = .returned (.int .i64 (cmpS x y)) ∧ ∃ q os', w' = grow (W.drewN q) os' := by
  have hcon := fun W' => Tryd.strings_Compare (bs x.e.text) (bs y.e.text) W'
  have e1 : Lib.compareBytes (bs x.e.text).data.toList (bs y.e.text).data.toList = cmpS x y := by simp [bs, cmpS]
  simp only [e1] at hcon
  generalize cmpS x y = r at hcon ⊢
  simp only [Sh.named]
  generalize bs x.e.text = tx at hcon ⊢
  generalize bs y.e.text = ty at hcon ⊢
  go_enter Tryd.func100, Tryd.ntmps100
  go_wp2_with fail
  refine (hcon _).mono ?_
  rintro e w' ⟨rfl, rfl⟩
  go_wp2_with fail
  go_ret
  exact ⟨rfl, 0, _, by rw [alloc_eq_grow, alloc_eq_grow, grow_grow]; rfl⟩

def namedsV (N : List Sh) : List Value := N.flatMap Sh.named
theorem namedsV_length : ∀ N : List Sh, (namedsV N).length = N.length * 4
  | [] => rfl
  | x :: r => by
    have := namedsV_length r
    simp only [namedsV, List.flatMap_cons, List.length_append, List.length_cons, Sh.named] at this ⊢
    simp only [List.length_nil]
    omega
theorem namedsV_at : ∀ (N : List Sh) (i : Nat) (x : Sh), N[i]? = some x → ∀ j, j < 4 → (namedsV N)[i * 4 + j]? = x.named[j]?
  | [], i, x, h => by simp at h
  | y :: r, 0, x, h => by
    simp at h
    subst h
    intro j hj
    simp only [namedsV, List.flatMap_cons, Nat.zero_mul, Nat.zero_add]
    rw [List.getElem?_append_left (by simp [Sh.named]; exact hj)]
  | y :: r, i + 1, x, h => by
    intro j hj
    have := namedsV_at r i x (by simpa using h) j hj
    simp only [namedsV, List.flatMap_cons] at this ⊢
    rw [List.getElem?_append_right (by simp [Sh.named]; omega)]
    rw [← this]
    congr 1
    simp [Sh.named]
    omega

theorem sortWorld_spares (w : World) (g n : Nat) (d : Array Sh) (os : Array Obj) : Spares (fun b => b = g) w (sortWorldK Sh.named 4 w g 0 n d os) := by
  refine ⟨rfl, rfl, rfl, by simp [sortWorldK, putRowK, putRow, mapBlock, Sort.ahead, grow], fun b hb hne => ?_⟩
  unfold sortWorldK
  rw [heap_grow_old _ _ (by simpa [putRowK, putRow, mapBlock, Sort.ahead] using hb)]
  have hne' : g ≠ b := fun e => hne e.symm
  simp [putRowK, putRow, mapBlock, Sort.ahead, Array.getElem?_modify, hne']

set_option maxHeartbeats 1000000 in
/-- THE SORT, at a list of named expressions that lies in a row. -/
theorem sort_named {N : List Sh} {g cap t : Nat} {rest : List Value} {w : World} (hb : Blk w g t (namedsV N ++ rest)) (hsz : N.length < 1000000000) :
    Calls Tryd.prog 99 #[.slice (some ⟨g, 0, none⟩) N.length cap, .func (.func 100) #[] #[]] w fun e w' => e = .returned (.tuple #[]) ∧
      ∃ N' : List Sh, N'.Perm N ∧ N'.Pairwise (fun a b => leT a.e b.e) ∧ (∀ i x, N'[i]? = some x → ∀ j v, x.named[j]? = some v → w'.cell? ⟨g, i * 4 + j, none⟩ = some v) ∧ Spares (fun b => b = g) w w' := by
  have eg : ∀ args w, (callFunc 100 args).run Tryd.prog w = .ok (.enter 100 args) w := enters_of Tryd.func100 (by kernel_rfl) rfl
  have hcell : ∀ i x, N[i]? = some x → ∀ j v, x.named[j]? = some v → w.cell? ⟨g, i * 4 + j, none⟩ = some v := by
    intro i x hx j v hv
    have hj : j < 4 := by have := (List.getElem?_eq_some_iff.1 hv).1; simpa [Sh.named] using this
    have hi := (List.getElem?_eq_some_iff.1 hx).1
    rw [hb.cell, List.getElem?_append_left (by rw [namedsV_length]; omega), namedsV_at N i x hx j hj, hv]
  have hH : HoldsK Sh.named 4 w g 0 N.toArray := by
    intro t ht
    rw [size_flatK] at ht
    simp only [List.size_toArray] at ht
    rw [get_flatK _ _ _ _ (by simpa using ht)]
    refine ⟨?_, hb.frozen _⟩
    have hi : t / 4 < N.length := by omega
    obtain ⟨x, hx⟩ : ∃ x, N[t / 4]? = some x := ⟨_, List.getElem?_eq_getElem hi⟩
    have hd : N.toArray[t / 4]! = x := by simp [hx]
    have := hcell _ x hx (t % 4) (x.named[t % 4]!) (by
      have h4 : t % 4 < x.named.length := by simp [Sh.named]; omega
      rw [List.getElem!_eq_getElem?_getD, List.getElem?_eq_getElem h4]; rfl)
    rw [show t / 4 * 4 + t % 4 = t by omega] at this
    rw [hd, Nat.zero_add]
    exact this
  have hcon := AnyQ.slices_SortFunc Tryd.sortNamed 4 Tryd.isAgg127 Tryd.sizeOf127 Sh.named (fun _ => rfl) (fun x v hv => by simp [Sh.named] at hv; rcases hv with rfl | rfl | rfl | rfl <;> rfl) cmpS swoS 100 #[] g 0 cap N.toArray w eg (fun _ _ _ _ x y => closure_i x y _) hH hb.lt (by simp; omega)
  refine hcon.mono ?_
  rintro e w' ⟨rfl, d', n, os, ⟨p1, -, p2⟩, hs, rfl⟩
  simp only [List.size_toArray] at p1 p2 hs
  have pe : d'.toList.Perm N := by
    have q1 : d'.extract 0 N.length = d' := by rw [← p1]; exact Array.extract_size
    have q2 : (N.toArray).extract 0 N.length = N.toArray := by
      simp
    rw [q1, q2] at p2
    simpa using p2
  refine ⟨rfl, d'.toList, pe, ?_, ?_, sortWorld_spares _ _ _ _ _⟩
  · rw [List.pairwise_iff_getElem]
    intro i j hi hj hij
    have h1 := hs i j (Nat.zero_le _) hij (by simp at hj; omega)
    rw [ltS] at h1
    simp only [decide_eq_false_iff_not] at h1
    unfold leT
    have ei : d'[i]! = d'.toList[i] := by simp at hi; simp [hi]
    have ej : d'[j]! = d'.toList[j] := by simp at hj; simp [hj]
    rw [ei, ej] at h1
    exact h1
  · intro i x hx j v hv
    have hH' := holdsK_sortWorldK_c (enc := Sh.named) (k := 4) (w := w) (blk := g) (off := 0) N.toArray d' n os hH hb.lt (by simpa using p1)
    have hi : i < d'.size := by have := (List.getElem?_eq_some_iff.1 hx).1; simpa using this
    have hj : j < 4 := by have := (List.getElem?_eq_some_iff.1 hv).1; simpa [Sh.named] using this
    have := (hH'.cell hi hj).1
    have ed : d'[i]! = x := by
      obtain ⟨h1, h2⟩ := List.getElem?_eq_some_iff.1 hx
      rw [← h2]
      simp [hi]
    rw [ed, Nat.zero_add] at this
    rw [this, List.getElem!_eq_getElem?_getD, hv]
    rfl
end Go.Proofs.YtlnojmmjpgpjdaaDoor
