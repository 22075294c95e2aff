/-
  Parts of a proof, joined: DerUS, FindS, StQ, Bun, InfoA. No condition.
-/
import Derived.Test.YtcokljhamhgelaaGreatDoorPk21
namespace Go.Proofs.YtcokljhamhgelaaGreatDoor
set_option linter.unusedVariables false
set_option linter.unusedSimpArgs false
open Go.ChangeShapes Go.WideShapes Go.ChangeAt Go.RowKit Go.Deep Go.Sort
theorem step_some' {tm am m x : Int} (ht2 : tm ≤ 2) (ha : am ≤ 8) (h0 : 0 ≤ m) (h7 : m ≤ 7) {e d : Ex} {b o : Nat} {w : World} (hx : ExAt w b o e) (htr : e.tree tm am = true) (hs : e.size ≤ 10000) (ho : Hid (e.step m x = some d)) :
  Calls Tryz.prog 58 #[.pointer (some ⟨b, o, none⟩), .int .i64 m, .int .i64 x] w fun f w' => ∃ s' c', f = .returned (.tuple #[.agg #[.int .i64 d.kind, .int .i64 d.num, .slice s' d.kids.length c'], .bool true]) ∧ Freshs w w' [kidsD d.kids] [.slice s' d.kids.length c'] ∧ Below w.heap.size w w' := by
 have := l02Step_all tm am m x ht2 ha h0 h7 _ e b o w (Nat.le_refl _) hx htr hs
 rw [ho.out] at this
 exact this.mono fun _ _ ⟨y, s', c', h1, h2, h3⟩ => by obtain ⟨rfl, h4⟩ := h2 d rfl; exact ⟨s', c', h1, h4, h3⟩
theorem step_none' {tm am m x : Int} (ht2 : tm ≤ 2) (ha : am ≤ 8) (h0 : 0 ≤ m) (h7 : m ≤ 7) {e : Ex} {b o : Nat} {w : World} (hx : ExAt w b o e) (htr : e.tree tm am = true) (hs : e.size ≤ 10000) (ho : Hid (e.step m x = none)) :
  Calls Tryz.prog 58 #[.pointer (some ⟨b, o, none⟩), .int .i64 m, .int .i64 x] w fun f w' => ∃ (y : Ex) (s' : Option Addr) (c' : Nat), f = .returned (.tuple #[.agg #[.int .i64 y.kind, .int .i64 y.num, .slice s' y.kids.length c'], .bool false]) ∧ Below w.heap.size w w' := by
 have := l02Step_all tm am m x ht2 ha h0 h7 _ e b o w (Nat.le_refl _) hx htr hs
 rw [ho.out] at this
 exact this.mono fun _ _ ⟨y, s', c', h1, h2, h3⟩ => ⟨y, s', c', h1, h3⟩
end Go.Proofs.YtcokljhamhgelaaGreatDoor

namespace Go.Proofs.YtcokljhamhgelaaGreatDoor
set_option linter.unusedVariables false
set_option linter.unusedSimpArgs false
open Go.ChangeShapes Go.WideShapes Go.ChangeAt Go.RowKit Go.Deep
noncomputable def findI (L : List Ex) (d : Ex) : Int := if d ∈ L then (L.idxOf d : Int) else -1
theorem findI_bd (L : List Ex) (d : Ex) : -1 ≤ findI L d ∧ findI L d < (L.length : Int) := by
 unfold findI
 split
 ·
  rename_i h
  have := List.idxOf_lt_length_of_mem h
  omega
 ·
  omega
set_option maxHeartbeats 4000000 in
theorem l02Find_i {L : List Ex} {d : Ex} {s : Option Addr} {c b o : Nat} {w : World} (hr : Rd w (kidsD L) (.slice s L.length c)) (hd : ExAt w b o d) (hn : L.Nodup) :
  Calls Tryz.prog 99 #[.slice s L.length c, .pointer (some ⟨b, o, none⟩)] w fun f w' => f = .returned (.int .i64 (findI L d)) ∧ Below w.heap.size w w' := by
 obtain ⟨-, hl, hcap, -, -⟩ := kid_at hr
 unfold maxLen at hcap
 have Hn := Lib.hid hn
 clear hn
 go_enter Tryz.func99, Tryz.ntmps99
 go_wp2_with fail
 go_loopw [5] (fun i wr => ∃ k : Nat, k ≤ L.length ∧ i = .int .i64 k ∧ Hid (∀ j, j < k → L[j]? ≠ some d) ∧ Below w.heap.size w wr) (fun i _ => L.length - (intOf i).toNat)
 case atStart => exact ⟨0, by omega, rfl, fun j hj => by omega, Below.refl _ _⟩
 case round =>
  obtain ⟨k, hk, rfl, Hno, hB⟩ := hrel
  have hk0 := Int.natCast_nonneg k
  by_cases hlt : k < L.length
  ·
   obtain ⟨x, hx⟩ : ∃ x, L[k]? = some x := ⟨_, List.getElem?_eq_getElem hlt⟩
   obtain ⟨kb, ko, rfl⟩ := kid_some hr (by intro h; rw [h] at hlt; simp at hlt)
   have hk1 : (k : Int) < (L.length : Int) := by omega
   have hxa := kid_exAt (hr.below hB) hx
   have Hx := Lib.hid hx
   clear hx
   go_wp2_with fail
   refine (l01Same_all _ x d _ _ _ _ _ (Nat.le_refl _) hxa (hd.below hB)).mono ?_
   rintro f w2 ⟨rfl, hb⟩
   have hB2 := Below.on hB hb hB.size
   cases he : eqb x d
   ·
    have hne : ¬ x = d := fun h => by rw [eqb_true h] at he; cases he
    have Hno2 : Hid (∀ j, j < k + 1 → L[j]? ≠ some d) := fun j hj => by
     by_cases hjk : j = k
     ·
      subst hjk
      rw [Hx.out]
      intro h
      exact hne (Option.some.inj h)
     ·
      exact Hno.out j (by omega)
    clear he hne hb hxa
    go_wp2_with fail
    go_roundw
    case rel => exact ⟨k + 1, by omega, by go_num, Hno2, hB2⟩
    case measure => simp [intOf]; omega
   ·
    have hxd := eqb_iff.1 he
    have E1 : Hid (findI L d = (k : Int)) := by
     show _ = _
     subst hxd
     unfold findI
     rw [if_pos (List.mem_of_getElem? Hx.out), idxOf_at Hn.out Hx.out]
    clear he hxd hb hxa
    go_wp2_with fail
    go_ret
    exact ⟨ret_int E1.out.symm, hB2⟩
  ·
   obtain rfl : k = L.length := by omega
   have E1 : Hid (findI L d = -1) := by
    show _ = _
    unfold findI
    rw [if_neg]
    intro h
    obtain ⟨j, hj⟩ := List.mem_iff_getElem?.1 h
    exact Hno.out j (List.getElem?_eq_some_iff.1 hj).1 hj
   go_wp2_with fail
   go_ret
   exact ⟨ret_int E1.out.symm, hB⟩
end Go.Proofs.YtcokljhamhgelaaGreatDoor

namespace Go.Proofs.YtcokljhamhgelaaGreatDoor
set_option linter.unusedVariables false
set_option linter.unusedSimpArgs false
open Classical in
noncomputable def stLL (A a : Nat) (e : Ex) : List Ex := if stOk A a e then stL A a e 60 else []
open Classical in
noncomputable def stNN (A a : Nat) (e : Ex) : List (List (List Int)) := if stOk A a e then stN A a e else []
open Classical in
noncomputable def stCC (A a : Nat) (e : Ex) : Int := if stOk A a e then 0 else 3
theorem stLL_yes {A a : Nat} {e : Ex} (h : stOk A a e) : stLL A a e = stL A a e 60 ∧ stNN A a e = stN A a e ∧ stCC A a e = 0 := ⟨if_pos h, if_pos h, if_pos h⟩
theorem stLL_no {A a : Nat} {e : Ex} (h : ¬ stOk A a e) : stLL A a e = [] ∧ stNN A a e = [] ∧ stCC A a e = 3 := ⟨if_neg h, if_neg h, if_neg h⟩
def GoodTo (a : Nat) (x : Ex) (m k : Nat) : Prop := ∀ m' k' : Nat, k' < a → (m' < m ∨ (m' = m ∧ k' < k)) → x.step m' k' ≠ none
theorem GoodTo.zero {a : Nat} {x : Ex} : GoodTo a x 0 0 := fun _ _ _ h => by omega
theorem GoodTo.cell {a : Nat} {x : Ex} {m k : Nat} (h : GoodTo a x m k) (hs : x.step m k ≠ none) : GoodTo a x m (k + 1) := fun m' k' hk h' => by
 by_cases he : m' = m ∧ k' = k
 ·
  rw [he.1, he.2]; exact hs
 ·
  exact h m' k' hk (by omega)
theorem GoodTo.line {a : Nat} {x : Ex} {m : Nat} (h : GoodTo a x m a) : GoodTo a x (m + 1) 0 := fun m' k' hk h' => h m' k' hk (by omega)
def GoodL (A a : Nat) (e : Ex) (i : Nat) : Prop := ∀ j x, j < i → (stL A a e j)[j]? = some x → ∀ m k : Nat, m < A → k < a → x.step m k ≠ none
theorem GoodL.zero {A a : Nat} {e : Ex} : GoodL A a e 0 := fun _ _ h => by omega
theorem GoodL.succ {A a : Nat} {e : Ex} {i : Nat} {x : Ex} (h : GoodL A a e i) (hx : (stL A a e i)[i]? = some x) (hg : GoodTo a x A 0) : GoodL A a e (i + 1) := fun j y hj hy m k hm hk => by
 by_cases he : j = i
 ·
  subst he
  rw [hx] at hy
  obtain rfl := Option.some.inj hy
  exact hg m k hk (by omega)
 ·
  exact h j y (by omega) hy m k hm hk
theorem nxtE_dead {m k : Nat} {x d : Ex} (h : x.step m k = some d) (hk : d.kind = 1) : nxtE m k x = none := by unfold nxtE; rw [h]; simp [hk]
theorem nxtE_live {m k : Nat} {x d : Ex} (h : x.step m k = some d) (hk : ¬ d.kind = 1) : nxtE m k x = some d := by unfold nxtE; rw [h]; simp [hk]
theorem stC_dead {A a : Nat} {e : Ex} {i : Nat} {x : Ex} {m k : Nat} (hm : m < A) (hk : k < a) (h : nxtE m k x = none) : stC A a e i x m (k + 1) = stC A a e i x m k := by rw [stC_cell hm hk, h]; rfl
theorem stC_was {A a : Nat} {e : Ex} {i : Nat} {x : Ex} {m k : Nat} (hm : m < A) (hk : k < a) {d : Ex} (h : nxtE m k x = some d) (hin : d ∈ stC A a e i x m k) : stC A a e i x m (k + 1) = stC A a e i x m k := by rw [stC_cell hm hk, h, grow1_old hin]
theorem stC_new {A a : Nat} {e : Ex} {i : Nat} {x : Ex} {m k : Nat} (hm : m < A) (hk : k < a) {d : Ex} (h : nxtE m k x = some d) (hin : d ∉ stC A a e i x m k) : stC A a e i x m (k + 1) = stC A a e i x m k ++ [d] := by rw [stC_cell hm hk, h, grow1_new hin]
theorem grow1_len {α : Type} [DecidableEq α] (L : List α) (o : Option α) : (grow1 L o).length ≤ L.length + 1 := by
 cases o with
 | none => show L.length ≤ _; omega
 | some x =>
  by_cases h : x ∈ L
  ·
   rw [grow1_old h]; omega
  ·
   rw [grow1_new h]; simp
theorem growL_len' {α : Type} [DecidableEq α] : ∀ (ss : List (Option α)) (L : List α), (growL L ss).length ≤ L.length + ss.length
 | [], L => by simp [growL]
 | o :: r, L => by
  have h1 := growL_len' r (grow1 L o)
  have h2 := grow1_len L o
  show (growL (grow1 L o) r).length ≤ _
  rw [List.length_cons]
  omega
theorem stC_len {A a : Nat} {e : Ex} {i : Nat} {x : Ex} {m k : Nat} (hA : A ≤ 8) (ha : a ≤ 4) : (stC A a e i x m k).length ≤ (stL A a e i).length + 32 := by
 have h1 := growL_len' ((grid (fun m k => nxtE m k x) A a).take (m * a + k)) (stL A a e i)
 have h2 : (grid (fun m k => nxtE m k x) A a).length ≤ 32 := by rw [grid_len]; exact Nat.mul_le_mul hA ha
 rw [List.length_take] at h1
 have h3 : (stC A a e i x m k).length ≤ (stL A a e i).length + min (m * a + k) (grid (fun m k => nxtE m k x) A a).length := h1
 omega
theorem st_dead {L : List Ex} {x : Ex} {m k : Nat} (h : nxtE m k x = none) : numO L (nxtE m k x) = -1 := by rw [h]; simp only [numO]
theorem st_was {A a : Nat} {e : Ex} {i : Nat} {x : Ex} {m k : Nat} (h : (stL A a e i)[i]? = some x) (hi : i < 60) (hm : m < A) (hk : k < a) {d : Ex} (hd : nxtE m k x = some d) (hin : d ∈ stC A a e i x m k) : numO (stL A a e 60) (nxtE m k x) = findI (stC A a e i x m k) d := by
 rw [← num_at h hi hm hk hd, stC_was hm hk hd hin]
 unfold findI
 rw [if_pos hin]
theorem st_new {A a : Nat} {e : Ex} {i : Nat} {x : Ex} {m k : Nat} (h : (stL A a e i)[i]? = some x) (hi : i < 60) (hm : m < A) (hk : k < a) {d : Ex} (hd : nxtE m k x = some d) (hin : d ∉ stC A a e i x m k) : numO (stL A a e 60) (nxtE m k x) = ((stC A a e i x m k).length : Int) := by
 rw [← num_at h hi hm hk hd, stC_new hm hk hd hin, idxOf_new hin]
theorem findI_neg {L : List Ex} {d : Ex} (h : d ∉ L) : findI L d = -1 := if_neg h
theorem findI_pos {L : List Ex} {d : Ex} (h : d ∈ L) : 0 ≤ findI L d := by unfold findI; rw [if_pos h]; omega
end Go.Proofs.YtcokljhamhgelaaGreatDoor

namespace Go.Proofs.YtcokljhamhgelaaGreatDoor
set_option linter.unusedVariables false
set_option linter.unusedSimpArgs false
open Go.ChangeShapes Go.WideShapes Go.ChangeAt Go.RowKit Go.Deep
inductive Item where
 | app (t : TypeId) (size n : Nat) (ds : List D) (v : Value)
 | box (g t : Nat) (cur : List Value)
 | one (g : Nat) (P : World → Prop)
 | own (ds : List D) (vs : List Value)
 | pool (w0 : World) (E : List (D × Value))
 | gone
def Item.on (S : Nat → Prop) (w : World) : Item → Prop
 | .app t size n ds v => AppS S w t size n ds v
 | .box g t cur => S g ∧ Blk w g t cur
 | .one g P => S g ∧ g < w.heap.size ∧ ∀ w', w'.heap[g]? = w.heap[g]? → P w'
 | .own ds vs => OwS S w ds vs
 | .pool w0 E => ∀ w', w.heap.size ≤ w'.heap.size → (∀ b, b < w0.heap.size → w'.heap[b]? = w0.heap[b]?) → (∀ b, b < w.heap.size → S b → w'.heap[b]? = w.heap[b]?) → ∀ x ∈ E, Rd w' x.1 x.2
 | .gone => True
theorem Item.keep {S : Nat → Prop} {w w' : World} (hz : w.heap.size ≤ w'.heap.size) : ∀ {it : Item}, it.on S w → (∀ b, b < w.heap.size → S b → w'.heap[b]? = w.heap[b]?) → it.on S w'
 | .app .., h, hk => AppS.keep h hk
 | .box .., h, hk => ⟨h.1, h.2.keep (hk _ h.2.lt h.1)⟩
 | .one g P, h, hk => by
  have e := hk g h.2.1 h.1
  refine ⟨h.1, ?_, fun w1 h1 => h.2.2 w1 (h1.trans e)⟩
  have hs : (w.heap[g]?).isSome = true := by simp [h.2.1]
  rw [← e] at hs
  simpa using hs
 | .own .., h, hk => OwS.keep h hk
 | .pool .., h, hk => fun w2 h1 h2 h3 => h w2 (Nat.le_trans hz h1) h2 fun b hb hs => (h3 b (Nat.lt_of_lt_of_le hb hz) hs).trans (hk b hb hs)
 | .gone, _, _ => trivial
theorem Item.more {S T : Nat → Prop} {w : World} : ∀ {it : Item}, it.on S w → (∀ b, b < w.heap.size → S b → T b) → it.on T w
 | .app .., h, hs => AppS.more h hs
 | .box .., h, hs => ⟨hs _ h.2.lt h.1, h.2⟩
 | .one .., h, hs => ⟨hs _ h.2.1 h.1, h.2⟩
 | .own .., h, hs => OwS.more h hs
 | .pool .., h, hs => fun w2 h1 h2 h3 => h w2 h1 h2 fun b hb hS => h3 b hb (hs b hb hS)
 | .gone, _, _ => trivial
def Bun (B : Nat) (w : World) (items : List Item) : Prop := ∃ own : Nat → Nat, ∀ (i : Nat) (it : Item), items[i]? = some it → it.on (fun b => B ≤ b ∧ b < w.heap.size ∧ own b = i) w
theorem Bun.nil {B : Nat} {w : World} : Bun B w [] := ⟨fun _ => 0, fun i it h => by simp at h⟩
theorem set_none {items : List Item} : items.set items.length .gone = items := List.set_eq_of_length_le (Nat.le_refl _)
theorem bun_turn {B : Nat} {w w' : World} {items : List Item} {own : Nat → Nat} (h : ∀ (i : Nat) (it : Item), items[i]? = some it → it.on (fun b => B ≤ b ∧ b < w.heap.size ∧ own b = i) w) (hz : w.heap.size ≤ w'.heap.size) (k j : Nat) {it' : Item}
  (ho : ∀ b, b < w.heap.size → own b ≠ k → own b ≠ j → w'.heap[b]? = w.heap[b]?) (hn : it'.on (fun b => B ≤ b ∧ b < w'.heap.size ∧ (w.heap.size ≤ b ∨ own b = k ∨ own b = j)) w') :
  Bun B w' ((items.set j .gone).set k it') := by
 refine ⟨fun b => if w.heap.size ≤ b ∨ own b = j then k else own b, fun i it hi => ?_⟩
 by_cases hik : k = i
 ·
  subst hik
  have hl : k < (items.set j .gone).length := by have := (List.getElem?_eq_some_iff.1 hi).1; simpa using this
  rw [List.getElem?_set_self hl] at hi
  obtain rfl := Option.some.inj hi
  refine Item.more hn fun b _ hb => ⟨hb.1, hb.2.1, ?_⟩
  by_cases hc : w.heap.size ≤ b ∨ own b = j
  ·
   dsimp only; rw [if_pos hc]
  ·
   dsimp only; rw [if_neg hc]
   omega
 ·
  rw [List.getElem?_set_ne hik] at hi
  by_cases hij : j = i
  ·
   subst hij
   have hl : j < items.length := by have := (List.getElem?_eq_some_iff.1 hi).1; simpa using this
   rw [List.getElem?_set_self hl] at hi
   obtain rfl := Option.some.inj hi
   trivial
  ·
   rw [List.getElem?_set_ne hij] at hi
   have h1 := Item.keep (w' := w') hz (h i it hi) fun b hb hs => ho b hb (by rw [hs.2.2]; omega) (by rw [hs.2.2]; omega)
   refine Item.more h1 fun b _ hb => ⟨hb.1, by omega, ?_⟩
   have : ¬ (w.heap.size ≤ b ∨ own b = j) := by omega
   dsimp only
   rw [if_neg this]
   exact hb.2.2
theorem Bun.keep {B : Nat} {w w' : World} {items : List Item} (h : Bun B w items) (hz : w.heap.size ≤ w'.heap.size) (hk : ∀ b, B ≤ b → b < w.heap.size → w'.heap[b]? = w.heap[b]?) : Bun B w' items := by
 obtain ⟨own, h⟩ := h
 refine ⟨fun b => if w.heap.size ≤ b then items.length else own b, fun i it hi => ?_⟩
 have hl := (List.getElem?_eq_some_iff.1 hi).1
 have h1 := Item.keep (w' := w') hz (h i it hi) fun b hb hs => hk b hs.1 hb
 refine Item.more h1 fun b _ hb => ⟨hb.1, by omega, ?_⟩
 dsimp only
 rw [if_neg (by omega)]
 exact hb.2.2
theorem Bun.below {B : Nat} {w w' : World} {items : List Item} (h : Bun B w items) (hb : Below w.heap.size w w') : Bun B w' items := h.keep hb.size fun b _ hl => hb.block b hl
theorem Bun.alloc {B : Nat} {w : World} {items : List Item} (h : Bun B w items) (o : Obj) : Bun B (w.alloc o) items := h.below (Below.alloc (Below.refl _ _) (Nat.le_refl _) o)
theorem Bun.push {B : Nat} {w w' : World} {items : List Item} {it : Item} (h : Bun B w items) (hb : Below w.heap.size w w') (hi : it.on (fun b => B ≤ b ∧ b < w'.heap.size ∧ w.heap.size ≤ b) w') : Bun B w' (items ++ [it]) := by
 have hz := hb.size
 obtain ⟨own, h⟩ := h
 refine ⟨fun b => if w.heap.size ≤ b then items.length else own b, fun i it' h' => ?_⟩
 by_cases hl : i < items.length
 ·
  rw [List.getElem?_append_left hl] at h'
  have h1 := Item.keep (w' := w') hz (h i it' h') fun b hb' _ => hb.block b hb'
  refine Item.more h1 fun b _ hb' => ⟨hb'.1, by omega, ?_⟩
  dsimp only
  rw [if_neg (by omega)]
  exact hb'.2.2
 ·
  have hi' := (List.getElem?_eq_some_iff.1 h').1
  simp only [List.length_append, List.length_cons, List.length_nil] at hi'
  obtain rfl : i = items.length := by omega
  simp only [List.getElem?_append_right (Nat.le_refl _), Nat.sub_self, List.getElem?_cons_zero, Option.some.injEq] at h'
  subst h'
  exact Item.more hi fun b _ hb' => ⟨hb'.1, hb'.2.1, by dsimp only; rw [if_pos hb'.2.2]⟩
theorem Bun.push_box {B : Nat} {w : World} {items : List Item} (h : Bun B w items) (hB : B ≤ w.heap.size) (t : TypeId) (cur : Array Value) : Bun B (w.alloc (.cells cur t)) (items ++ [.box w.heap.size t cur.toList]) :=
 h.push (Below.alloc (Below.refl _ _) (Nat.le_refl _) _) ⟨⟨hB, by simp, Nat.le_refl _⟩, Blk.made w t cur⟩
theorem Bun.push_empty {B : Nat} {w : World} {items : List Item} (h : Bun B w items) (hB : B ≤ w.heap.size) (t : TypeId) (size : Nat) : Bun B (w.alloc (.cells #[] t)) (items ++ [.app t size 0 [] (.slice (some ⟨w.heap.size, 0, none⟩) 0 0)]) :=
 h.push (Below.alloc (Below.refl _ _) (Nat.le_refl _) _) ⟨[], [], ⟨by simp, Or.inr ⟨w.heap.size, 0, #[], rfl, Nat.zero_le _, by simpa [Blk] using Blk.made w t #[], by omega, by simp [maxLen], by simp, by simp⟩⟩, Ows.nil, by simp, by simp, fun b hb => by
  simp only [Value.ownBlock, Option.some.injEq] at hb
  subst hb
  exact ⟨hB, by simp, Nat.le_refl _⟩⟩
theorem Bun.push_nil {B : Nat} {w : World} {items : List Item} (h : Bun B w items) (t : TypeId) (size : Nat) : Bun B w (items ++ [.app t size 0 [] (.slice none 0 0)]) :=
 h.push (Below.refl _ _) ⟨[], [], World.ownsRow_nil _ _ _ _, Ows.nil, by simp, by simp, fun b hb => by simp [Value.ownBlock] at hb⟩
theorem Bun.take {B : Nat} {w : World} {items : List Item} (h : Bun B w items) (n : Nat) : Bun B w (items.take n) := by
 obtain ⟨own, h⟩ := h
 refine ⟨own, fun i it hi => h i it ?_⟩
 rw [List.getElem?_take] at hi
 split at hi
 ·
  exact hi
 ·
  cases hi
theorem AppS.rd {S : Nat → Prop} {w : World} {t size n : Nat} {ds : List D} {v : Value} (h : AppS S w t size n ds v) : Rd w (.sl size n ds) v :=
 (AppS.app (W := { w with heap := #[] }) h fun b _ => Nat.zero_le _).rd
theorem Bun.app {B : Nat} {w : World} {items : List Item} (h : Bun B w items) (k : Nat) {t size n : Nat} {ds : List D} {v : Value} (hk : items[k]? = some (.app t size n ds v)) : ∃ own : Nat → Nat, AppS (fun b => B ≤ b ∧ b < w.heap.size ∧ own b = k) w t size n ds v := by
 obtain ⟨own, h⟩ := h
 exact ⟨own, h k _ hk⟩
theorem Bun.rd {B : Nat} {w : World} {items : List Item} (h : Bun B w items) (k : Nat) {t size n : Nat} {ds : List D} {v : Value} (hk : items[k]? = some (.app t size n ds v)) : Rd w (.sl size n ds) v := by
 obtain ⟨own, h1⟩ := h.app k hk
 exact h1.rd
theorem Bun.shape {B : Nat} {w : World} {items : List Item} (h : Bun B w items) (k : Nat) {t size n : Nat} {ds : List D} {v : Value} (hk : items[k]? = some (.app t size n ds v)) : ∃ a cap, v = .slice a n cap ∧ n ≤ cap ∧ cap ≤ maxLen := by
 obtain ⟨own, h1⟩ := h.app k hk
 exact h1.shape
theorem Bun.box {B : Nat} {w : World} {items : List Item} (h : Bun B w items) (k : Nat) {g t : Nat} {cur : List Value} (hk : items[k]? = some (.box g t cur)) : Blk w g t cur ∧ B ≤ g := by
 obtain ⟨own, h⟩ := h
 have := h k _ hk
 exact ⟨this.2, this.1.1⟩
theorem Bun.one {B : Nat} {w : World} {items : List Item} (h : Bun B w items) (k : Nat) {g : Nat} {P : World → Prop} (hk : items[k]? = some (.one g P)) : P w ∧ B ≤ g ∧ g < w.heap.size := by
 obtain ⟨own, h⟩ := h
 have := h k _ hk
 exact ⟨this.2.2 w rfl, this.1.1, this.2.1⟩
theorem Bun.fresh {B : Nat} {W w : World} {items : List Item} (h : Bun B w items) (hB : W.heap.size ≤ B) (k : Nat) {t size n : Nat} {ds : List D} {v : Value} (hk : items[k]? = some (.app t size n ds v)) : Fresh W w (.sl size n ds) v := by
 obtain ⟨own, h1⟩ := h.app k hk
 exact (h1.app fun b hb => by omega).fresh
theorem AppS.foot {S : Nat → Prop} {w : World} {t size n : Nat} {ds : List D} {v : Value} (h1 : AppS S w t size n ds v) : ∃ F, Ow w (.sl size n ds) v F ∧ F.Nodup ∧ ∀ b ∈ F, S b := by
 have hlen := (AppS.app (W := { w with heap := #[] }) h1 fun b _ => Nat.zero_le _).len
 obtain ⟨xs, F, a1, a2, a3, a4, a5⟩ := h1
 have hxl := a1.1
 rcases a1.2 with ⟨rfl, rfl⟩ | ⟨g, cap, cur, rfl, hg, hb, h5, h6, h7, h8⟩
 ·
  exact ⟨[], by simp only [Ow]; exact ⟨_, 0, rfl, by omega, by simp [maxLen], hlen, by simp, Or.inl (by simp)⟩, by simp, by simp⟩
 ·
  by_cases h0 : n = 0
  ·
   exact ⟨[], by simp only [Ow]; exact ⟨_, cap, rfl, h5, h6, hlen, by simp, Or.inl (by simp [h0])⟩, by simp, by simp⟩
  ·
   have hblk : Blk w g t cur.toList := by simpa [Blk] using hb
   refine ⟨g :: F, by simp only [Ow]; exact ⟨_, cap, rfl, h5, h6, hlen, by simp, Or.inr ⟨g, 0, xs, F, rfl, rfl, hblk.free, hblk.row (by rw [hxl]; exact h8), a2⟩⟩, ?_, ?_⟩
   ·
    rw [List.nodup_cons]
    exact ⟨fun hm => (a4 g hm).2 rfl, a3⟩
   ·
    intro b hm
    rcases List.mem_cons.1 hm with rfl | hm
    ·
     exact a5 _ rfl
    ·
     exact (a4 b hm).1
theorem Bun.fresh2 {B : Nat} {W w : World} {items : List Item} (h : Bun B w items) (hB : W.heap.size ≤ B) (i k : Nat) (hne : i ≠ k) {t size n : Nat} {ds : List D} {v : Value} (hi : items[i]? = some (.app t size n ds v)) {t' size' n' : Nat} {ds' : List D} {v' : Value}
  (hk : items[k]? = some (.app t' size' n' ds' v')) : Freshs W w [.sl size n ds, .sl size' n' ds'] [v, v'] := by
 obtain ⟨own, h⟩ := h
 obtain ⟨F, f1, f2, f3⟩ := AppS.foot (h i _ hi)
 obtain ⟨G, g1, g2, g3⟩ := AppS.foot (h k _ hk)
 refine ⟨F ++ (G ++ []), Ows.cons f1 (Ows.cons g1 Ows.nil), ?_, ?_⟩
 ·
  rw [List.append_nil, List.nodup_append]
  refine ⟨f2, g2, fun p hp q hq hpq => ?_⟩
  have h1 := (f3 p hp).2.2
  have h2 := (g3 q hq).2.2
  rw [hpq] at h1
  omega
 ·
  intro b hb
  rw [List.append_nil] at hb
  rcases List.mem_append.1 hb with hb | hb
  ·
   have := (f3 b hb).1; omega
  ·
   have := (g3 b hb).1; omega
theorem Bun.store {B : Nat} {w : World} {items : List Item} (h : Bun B w items) (k : Nat) {g t : Nat} {cur : List Value} (hk : items[k]? = some (.box g t cur)) (i : Nat) (v : Value) : Bun B (w.setCell ⟨g, i, none⟩ v) (items.set k (.box g t (cur.set i v))) := by
 obtain ⟨own, h⟩ := h
 have hit := h k _ hk
 have hsz : (w.setCell ⟨g, i, none⟩ v).heap.size = w.heap.size := by simp [World.setCell]
 have := bun_turn (w' := w.setCell ⟨g, i, none⟩ v) h (by omega) k (items.length) (it' := .box g t (cur.set i v)) (fun b hb h1 _ => Below.heap_setCell _ _ _ _ (fun e => h1 (by rw [e]; exact hit.1.2.2)))
  ⟨⟨hit.1.1, by rw [hsz]; exact hit.1.2.1, Or.inr (Or.inl hit.1.2.2)⟩, hit.2.set i v⟩
 rwa [set_none] at this
theorem Bun.turn_one {B : Nat} {w w' : World} {items : List Item} (h : Bun B w items) (k : Nat) {g : Nat} {P Q : World → Prop} (hk : items[k]? = some (.one g P)) (ho : Only [g] w w') (hQ : ∀ w1, w1.heap[g]? = w'.heap[g]? → Q w1) : Bun B w' (items.set k (.one g Q)) := by
 obtain ⟨own, h⟩ := h
 have hit := h k _ hk
 have := bun_turn (w' := w') h ho.size k (items.length) (it' := .one g Q) (fun b hb h1 _ => ho.block b hb (by
   simp only [List.mem_singleton]
   intro e
   exact h1 (by rw [e]; exact hit.1.2.2)))
  ⟨⟨hit.1.1, Nat.lt_of_lt_of_le hit.1.2.1 ho.size, Or.inr (Or.inl hit.1.2.2)⟩, Nat.lt_of_lt_of_le hit.2.1 ho.size, hQ⟩
 rwa [set_none] at this
theorem wpList_append_bun {P : Program} (w : World) {ops : Array Oper} {rest : List Oper} {o : Oper} {a : Act} {Q : Exit → Act → World → Prop} (hgd : o.guard = none) (s x : Operand) (t : TypeId)
  (ho : o.op = .call { callee := .builtin .append, args := #[s, x], argTypes := #[t, t] })
  (e : TypeId) (z : Value) (size bytes : Nat) (ht : P.underlying t = some (.slice e)) (hinfo : (P.info? e).map (fun i => (i.zero, i.size, i.bytes)) = some (some z, size, bytes)) (hzs : z.cells.size = size) (hsz : 0 < size)
  {B : Nat} {items : List Item} (hb : Bun B w items) (hB : B ≤ w.heap.size) (k : Nat) (v : Value) {n : Nat} {ds : List D} (hk : items[k]? = some (.app e size n ds v)) (hs : a.eval s = v)
  (ad : Addr) (m c : Nat) {es : List D} (news : List Value) (hx : a.eval x = .slice (some ad) m c) (hnews : ∀ j u, news[j]? = some u → w.cell? (ad.add j) = some u) (hes : OwS (fun _ => False) w es news)
  (hl : news.length = m * size) (h1 : ∀ u ∈ news, u.oneCell' = true) (hm : 0 < m) (hbytes : (n + m) * bytes ≤ 140737488355328) (h63 : n + m ≤ maxLen)
  (h : ∀ g cap w', Bun B w' (items.set k (.app e size (n + m) (ds ++ es) (.slice (some ⟨g, 0, none⟩) (n + m) cap))) → Below B w w' → wpList P ops Q rest (a.put o.dst (.slice (some ⟨g, 0, none⟩) (n + m) cap)) w') : wpList P ops Q (o :: rest) a w := by
 obtain ⟨own, hb⟩ := hb
 refine wpList_append_s w hgd s x t ho e z size bytes ht hinfo hzs hsz (S := fun b => B ≤ b ∧ b < w.heap.size ∧ own b = k) (T := fun _ => False) v hs (hb k _ hk) ad m c news hx hnews hes (fun _ _ _ h => h) hl h1 hm hbytes h63 ?_
 intro g cap w' hap hsp
 refine h g cap w' ?_ (hsp.below hB fun b hb' => hb'.1)
 have := bun_turn (w' := w') hb hsp.size k (items.length) (it' := .app e size (n + m) (ds ++ es) (.slice (some ⟨g, 0, none⟩) (n + m) cap)) (fun b hb' h2 _ => hsp.block b hb' (fun h3 => h2 h3.2.2))
  (AppS.more hap fun b hb' hc => by
   have hz := hsp.size
   rcases hc with hc | hc | hc
   ·
    exact ⟨hc.1, hb', Or.inr (Or.inl hc.2.2)⟩
   ·
    exact hc.elim
   ·
    exact ⟨by omega, hb', Or.inl hc.1⟩)
 rwa [set_none] at this
theorem Bun.push_own {B : Nat} {w w' : World} {items : List Item} {ds : List D} {vs : List Value} (h : Bun B w items) (hb : Below w.heap.size w w') (hB : B ≤ w.heap.size) (hf : Freshs w w' ds vs) : Bun B w' (items ++ [.own ds vs]) :=
 h.push hb (by obtain ⟨F, f1, f2, f3⟩ := hf; exact ⟨F, f1, f2, fun b hm => ⟨by have := f3 b hm; omega, f1.lt b hm, f3 b hm⟩⟩)
theorem wpList_append_bun_mv {P : Program} (w : World) {ops : Array Oper} {rest : List Oper} {o : Oper} {a : Act} {Q : Exit → Act → World → Prop} (hgd : o.guard = none) (s x : Operand) (t : TypeId)
  (ho : o.op = .call { callee := .builtin .append, args := #[s, x], argTypes := #[t, t] })
  (e : TypeId) (z : Value) (size bytes : Nat) (ht : P.underlying t = some (.slice e)) (hinfo : (P.info? e).map (fun i => (i.zero, i.size, i.bytes)) = some (some z, size, bytes)) (hzs : z.cells.size = size) (hsz : 0 < size)
  {B : Nat} {items : List Item} (hb : Bun B w items) (hB : B ≤ w.heap.size) (k : Nat) (v : Value) {n : Nat} {ds : List D} (hk : items[k]? = some (.app e size n ds v)) (hs : a.eval s = v)
  (j : Nat) (hjk : j ≠ k) {es : List D} {news : List Value} (hj : items[j]? = some (.own es news))
  (ad : Addr) (m c : Nat) (hx : a.eval x = .slice (some ad) m c) (hnews : ∀ j u, news[j]? = some u → w.cell? (ad.add j) = some u)
  (hl : news.length = m * size) (h1 : ∀ u ∈ news, u.oneCell' = true) (hm : 0 < m) (hbytes : (n + m) * bytes ≤ 140737488355328) (h63 : n + m ≤ maxLen)
  (h : ∀ g cap w', Bun B w' ((items.set j .gone).set k (.app e size (n + m) (ds ++ es) (.slice (some ⟨g, 0, none⟩) (n + m) cap))) → Below B w w' → wpList P ops Q rest (a.put o.dst (.slice (some ⟨g, 0, none⟩) (n + m) cap)) w') : wpList P ops Q (o :: rest) a w := by
 obtain ⟨own, hb⟩ := hb
 have hows : OwS (fun b => B ≤ b ∧ b < w.heap.size ∧ own b = j) w es news := hb j _ hj
 refine wpList_append_s w hgd s x t ho e z size bytes ht hinfo hzs hsz (S := fun b => B ≤ b ∧ b < w.heap.size ∧ own b = k) (T := fun b => B ≤ b ∧ b < w.heap.size ∧ own b = j) v hs (hb k _ hk) ad m c news hx hnews hows (fun b _ h1 h2 => hjk (h2.2.2.symm.trans h1.2.2)) hl h1 hm hbytes h63 ?_
 intro g cap w' hap hsp
 refine h g cap w' ?_ (hsp.below hB fun b hb' => hb'.1)
 exact bun_turn (w' := w') hb hsp.size k j (it' := .app e size (n + m) (ds ++ es) (.slice (some ⟨g, 0, none⟩) (n + m) cap)) (fun b hb' h2 _ => hsp.block b hb' (fun h3 => h2 h3.2.2))
  (AppS.more hap fun b hb' hc => by
   have hz := hsp.size
   rcases hc with hc | hc | hc
   ·
    exact ⟨hc.1, hb', Or.inr (Or.inl hc.2.2)⟩
   ·
    exact ⟨hc.1, hb', Or.inr (Or.inr hc.2.2)⟩
   ·
    exact ⟨by omega, hb', Or.inl hc.1⟩)
theorem wpList_append_bun_own {P : Program} (w : World) {ops : Array Oper} {rest : List Oper} {o : Oper} {a : Act} {Q : Exit → Act → World → Prop} (hgd : o.guard = none) (s x : Operand) (t : TypeId)
  (ho : o.op = .call { callee := .builtin .append, args := #[s, x], argTypes := #[t, t] })
  (e : TypeId) (bytes : Nat) (ht : P.underlying t = some (.slice e)) (hinfo : (P.info? e).map (fun i => (i.zero, i.size, i.bytes)) = some (some (.slice none 0 0), 1, bytes))
  {B : Nat} {items : List Item} (hb : Bun B w items) (hB : B ≤ w.heap.size) (k : Nat) (v : Value) {n : Nat} {ds : List D} (hk : items[k]? = some (.app e 1 n ds v)) (hs : a.eval s = v)
  (j : Nat) (hjk : j ≠ k) (u : Value) {t' size' n' : Nat} {ds' : List D} (hj : items[j]? = some (.app t' size' n' ds' u))
  (ad : Addr) (hx : a.eval x = .slice (some ad) 1 1) (hnews : ∀ i q, [u][i]? = some q → w.cell? (ad.add i) = some q) (hbytes : (n + 1) * bytes ≤ 140737488355328) (h63 : n + 1 ≤ maxLen)
  (h : ∀ g cap w', Bun B w' ((items.set j .gone).set k (.app e 1 (n + 1) (ds ++ [.sl size' n' ds']) (.slice (some ⟨g, 0, none⟩) (n + 1) cap))) → Below B w w' → wpList P ops Q rest (a.put o.dst (.slice (some ⟨g, 0, none⟩) (n + 1) cap)) w') : wpList P ops Q (o :: rest) a w := by
 obtain ⟨own, hb⟩ := hb
 have hap' := hb j _ hj
 obtain ⟨a', cap', e1, _⟩ := hap'.shape
 subst e1
 have hows : OwS (fun b => B ≤ b ∧ b < w.heap.size ∧ own b = j) w [.sl size' n' ds'] [.slice a' n' cap'] := by
  obtain ⟨F, f1, f2, f3⟩ := AppS.foot hap'
  exact ⟨F ++ [], Ows.cons f1 Ows.nil, by simpa using f2, by simpa using f3⟩
 refine wpList_append_s w hgd s x t ho e (.slice none 0 0) 1 bytes ht hinfo rfl (by omega) (S := fun b => B ≤ b ∧ b < w.heap.size ∧ own b = k) (T := fun b => B ≤ b ∧ b < w.heap.size ∧ own b = j) v hs (hb k _ hk) ad 1 1 [.slice a' n' cap'] hx hnews hows (fun b _ h1 h2 => hjk (h2.2.2.symm.trans h1.2.2)) rfl (by simp [Value.oneCell']) (by omega) hbytes h63 ?_
 intro g cap w' hap hsp
 refine h g cap w' ?_ (hsp.below hB fun b hb' => hb'.1)
 exact bun_turn (w' := w') hb hsp.size k j (it' := .app e 1 (n + 1) (ds ++ [.sl size' n' ds']) (.slice (some ⟨g, 0, none⟩) (n + 1) cap)) (fun b hb' h2 _ => hsp.block b hb' (fun h3 => h2 h3.2.2))
  (AppS.more hap fun b hb' hc => by
   have hz := hsp.size
   rcases hc with hc | hc | hc
   ·
    exact ⟨hc.1, hb', Or.inr (Or.inl hc.2.2)⟩
   ·
    exact ⟨hc.1, hb', Or.inr (Or.inr hc.2.2)⟩
   ·
    exact ⟨by omega, hb', Or.inl hc.1⟩)
end Go.Proofs.YtcokljhamhgelaaGreatDoor

namespace Go.Proofs.YtcokljhamhgelaaGreatDoor
set_option linter.unusedVariables false
set_option linter.unusedSimpArgs false
open Go.ChangeShapes Go.WideShapes Go.ChangeAt Go.RowKit Go.Deep
theorem info_i64s : (Tryz.prog.info? 56).map (fun i => (i.zero, i.size, i.bytes)) = some (some (.slice none 0 0), 1, 24) := by kernel_rfl
theorem info_i64ss : (Tryz.prog.info? 55).map (fun i => (i.zero, i.size, i.bytes)) = some (some (.slice none 0 0), 1, 24) := by kernel_rfl
theorem info_iExpr : (Tryz.prog.info? 34).map (fun i => (i.zero, i.size, i.bytes)) = some (some (.agg #[.int .i64 0, .int .i64 0, .slice none 0 0]), 3, 40) := by kernel_rfl
end Go.Proofs.YtcokljhamhgelaaGreatDoor
