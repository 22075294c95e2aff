/-
  Parts of a proof, joined: Bun, Expr, Rdx, Map. No condition.
-/
import Derived.Maps.OwnOps
import Derived.DeepKeys4
import Derived.Test.YtfhlddbngjlhbaaPk2
namespace Go.Proofs.Ytfhlddbngjlhbaa
set_option linter.unusedVariables false
set_option linter.unusedSimpArgs false
open Go.ChangeShapes Go.WideShapes Go.ChangeAt Go.RowKit Go.Deep
inductive Item where
 | app (t : TypeId) (size n : Nat) (ds : List D) (v : Value)
 | box (g t : Nat) (cur : List Value)
 | one (g : Nat) (P : World → Prop)
 | own (ds : List D) (vs : List Value)
 | pool (w0 : World) (E : List (D × Value))
 | gone
def Item.on (S : Nat → Prop) (w : World) : Item → Prop
 | .app t size n ds v => AppS S w t size n ds v
 | .box g t cur => S g ∧ Blk w g t cur
 | .one g P => S g ∧ g < w.heap.size ∧ ∀ w', w'.heap[g]? = w.heap[g]? → P w'
 | .own ds vs => OwS S w ds vs
 | .pool w0 E => ∀ w', w.heap.size ≤ w'.heap.size → (∀ b, b < w0.heap.size → w'.heap[b]? = w0.heap[b]?) → (∀ b, b < w.heap.size → S b → w'.heap[b]? = w.heap[b]?) → ∀ x ∈ E, Rd w' x.1 x.2
 | .gone => True
theorem Item.keep {S : Nat → Prop} {w w' : World} (hz : w.heap.size ≤ w'.heap.size) : ∀ {it : Item}, it.on S w → (∀ b, b < w.heap.size → S b → w'.heap[b]? = w.heap[b]?) → it.on S w'
 | .app .., h, hk => AppS.keep h hk
 | .box .., h, hk => ⟨h.1, h.2.keep (hk _ h.2.lt h.1)⟩
 | .one g P, h, hk => by
  have e := hk g h.2.1 h.1
  refine ⟨h.1, ?_, fun w1 h1 => h.2.2 w1 (h1.trans e)⟩
  have hs : (w.heap[g]?).isSome = true := by simp [h.2.1]
  rw [← e] at hs
  simpa using hs
 | .own .., h, hk => OwS.keep h hk
 | .pool .., h, hk => fun w2 h1 h2 h3 => h w2 (Nat.le_trans hz h1) h2 fun b hb hs => (h3 b (Nat.lt_of_lt_of_le hb hz) hs).trans (hk b hb hs)
 | .gone, _, _ => trivial
theorem Item.more {S T : Nat → Prop} {w : World} : ∀ {it : Item}, it.on S w → (∀ b, b < w.heap.size → S b → T b) → it.on T w
 | .app .., h, hs => AppS.more h hs
 | .box .., h, hs => ⟨hs _ h.2.lt h.1, h.2⟩
 | .one .., h, hs => ⟨hs _ h.2.1 h.1, h.2⟩
 | .own .., h, hs => OwS.more h hs
 | .pool .., h, hs => fun w2 h1 h2 h3 => h w2 h1 h2 fun b hb hS => h3 b hb (hs b hb hS)
 | .gone, _, _ => trivial
def Bun (B : Nat) (w : World) (items : List Item) : Prop := ∃ own : Nat → Nat, ∀ (i : Nat) (it : Item), items[i]? = some it → it.on (fun b => B ≤ b ∧ b < w.heap.size ∧ own b = i) w
theorem Bun.nil {B : Nat} {w : World} : Bun B w [] := ⟨fun _ => 0, fun i it h => by simp at h⟩
theorem set_none {items : List Item} : items.set items.length .gone = items := List.set_eq_of_length_le (Nat.le_refl _)
theorem bun_turn {B : Nat} {w w' : World} {items : List Item} {own : Nat → Nat} (h : ∀ (i : Nat) (it : Item), items[i]? = some it → it.on (fun b => B ≤ b ∧ b < w.heap.size ∧ own b = i) w) (hz : w.heap.size ≤ w'.heap.size) (k j : Nat) {it' : Item}
  (ho : ∀ b, b < w.heap.size → own b ≠ k → own b ≠ j → w'.heap[b]? = w.heap[b]?) (hn : it'.on (fun b => B ≤ b ∧ b < w'.heap.size ∧ (w.heap.size ≤ b ∨ own b = k ∨ own b = j)) w') :
  Bun B w' ((items.set j .gone).set k it') := by
 refine ⟨fun b => if w.heap.size ≤ b ∨ own b = j then k else own b, fun i it hi => ?_⟩
 by_cases hik : k = i
 ·
  subst hik
  have hl : k < (items.set j .gone).length := by have := (List.getElem?_eq_some_iff.1 hi).1; simpa using this
  rw [List.getElem?_set_self hl] at hi
  obtain rfl := Option.some.inj hi
  refine Item.more hn fun b _ hb => ⟨hb.1, hb.2.1, ?_⟩
  by_cases hc : w.heap.size ≤ b ∨ own b = j
  ·
   dsimp only; rw [if_pos hc]
  ·
   dsimp only; rw [if_neg hc]
   omega
 ·
  rw [List.getElem?_set_ne hik] at hi
  by_cases hij : j = i
  ·
   subst hij
   have hl : j < items.length := by have := (List.getElem?_eq_some_iff.1 hi).1; simpa using this
   rw [List.getElem?_set_self hl] at hi
   obtain rfl := Option.some.inj hi
   trivial
  ·
   rw [List.getElem?_set_ne hij] at hi
   have h1 := Item.keep (w' := w') hz (h i it hi) fun b hb hs => ho b hb (by rw [hs.2.2]; omega) (by rw [hs.2.2]; omega)
   refine Item.more h1 fun b _ hb => ⟨hb.1, by omega, ?_⟩
   have : ¬ (w.heap.size ≤ b ∨ own b = j) := by omega
   dsimp only
   rw [if_neg this]
   exact hb.2.2
theorem Bun.keep {B : Nat} {w w' : World} {items : List Item} (h : Bun B w items) (hz : w.heap.size ≤ w'.heap.size) (hk : ∀ b, B ≤ b → b < w.heap.size → w'.heap[b]? = w.heap[b]?) : Bun B w' items := by
 obtain ⟨own, h⟩ := h
 refine ⟨fun b => if w.heap.size ≤ b then items.length else own b, fun i it hi => ?_⟩
 have hl := (List.getElem?_eq_some_iff.1 hi).1
 have h1 := Item.keep (w' := w') hz (h i it hi) fun b hb hs => hk b hs.1 hb
 refine Item.more h1 fun b _ hb => ⟨hb.1, by omega, ?_⟩
 dsimp only
 rw [if_neg (by omega)]
 exact hb.2.2
theorem Bun.below {B : Nat} {w w' : World} {items : List Item} (h : Bun B w items) (hb : Below w.heap.size w w') : Bun B w' items := h.keep hb.size fun b _ hl => hb.block b hl
theorem Bun.alloc {B : Nat} {w : World} {items : List Item} (h : Bun B w items) (o : Obj) : Bun B (w.alloc o) items := h.below (Below.alloc (Below.refl _ _) (Nat.le_refl _) o)
theorem Bun.push {B : Nat} {w w' : World} {items : List Item} {it : Item} (h : Bun B w items) (hb : Below w.heap.size w w') (hi : it.on (fun b => B ≤ b ∧ b < w'.heap.size ∧ w.heap.size ≤ b) w') : Bun B w' (items ++ [it]) := by
 have hz := hb.size
 obtain ⟨own, h⟩ := h
 refine ⟨fun b => if w.heap.size ≤ b then items.length else own b, fun i it' h' => ?_⟩
 by_cases hl : i < items.length
 ·
  rw [List.getElem?_append_left hl] at h'
  have h1 := Item.keep (w' := w') hz (h i it' h') fun b hb' _ => hb.block b hb'
  refine Item.more h1 fun b _ hb' => ⟨hb'.1, by omega, ?_⟩
  dsimp only
  rw [if_neg (by omega)]
  exact hb'.2.2
 ·
  have hi' := (List.getElem?_eq_some_iff.1 h').1
  simp only [List.length_append, List.length_cons, List.length_nil] at hi'
  obtain rfl : i = items.length := by omega
  simp only [List.getElem?_append_right (Nat.le_refl _), Nat.sub_self, List.getElem?_cons_zero, Option.some.injEq] at h'
  subst h'
  exact Item.more hi fun b _ hb' => ⟨hb'.1, hb'.2.1, by dsimp only; rw [if_pos hb'.2.2]⟩
theorem Bun.push_box {B : Nat} {w : World} {items : List Item} (h : Bun B w items) (hB : B ≤ w.heap.size) (t : TypeId) (cur : Array Value) : Bun B (w.alloc (.cells cur t)) (items ++ [.box w.heap.size t cur.toList]) :=
 h.push (Below.alloc (Below.refl _ _) (Nat.le_refl _) _) ⟨⟨hB, by simp, Nat.le_refl _⟩, Blk.made w t cur⟩
theorem Bun.push_empty {B : Nat} {w : World} {items : List Item} (h : Bun B w items) (hB : B ≤ w.heap.size) (t : TypeId) (size : Nat) : Bun B (w.alloc (.cells #[] t)) (items ++ [.app t size 0 [] (.slice (some ⟨w.heap.size, 0, none⟩) 0 0)]) :=
 h.push (Below.alloc (Below.refl _ _) (Nat.le_refl _) _) ⟨[], [], ⟨by simp, Or.inr ⟨w.heap.size, 0, #[], rfl, Nat.zero_le _, by simpa [Blk] using Blk.made w t #[], by omega, by simp [maxLen], by simp, by simp⟩⟩, Ows.nil, by simp, by simp, fun b hb => by
  simp only [Value.ownBlock, Option.some.injEq] at hb
  subst hb
  exact ⟨hB, by simp, Nat.le_refl _⟩⟩
theorem Bun.push_nil {B : Nat} {w : World} {items : List Item} (h : Bun B w items) (t : TypeId) (size : Nat) : Bun B w (items ++ [.app t size 0 [] (.slice none 0 0)]) :=
 h.push (Below.refl _ _) ⟨[], [], World.ownsRow_nil _ _ _ _, Ows.nil, by simp, by simp, fun b hb => by simp [Value.ownBlock] at hb⟩
theorem Bun.take {B : Nat} {w : World} {items : List Item} (h : Bun B w items) (n : Nat) : Bun B w (items.take n) := by
 obtain ⟨own, h⟩ := h
 refine ⟨own, fun i it hi => h i it ?_⟩
 rw [List.getElem?_take] at hi
 split at hi
 ·
  exact hi
 ·
  cases hi
theorem AppS.rd {S : Nat → Prop} {w : World} {t size n : Nat} {ds : List D} {v : Value} (h : AppS S w t size n ds v) : Rd w (.sl size n ds) v :=
 (AppS.app (W := { w with heap := #[] }) h fun b _ => Nat.zero_le _).rd
theorem Bun.app {B : Nat} {w : World} {items : List Item} (h : Bun B w items) (k : Nat) {t size n : Nat} {ds : List D} {v : Value} (hk : items[k]? = some (.app t size n ds v)) : ∃ own : Nat → Nat, AppS (fun b => B ≤ b ∧ b < w.heap.size ∧ own b = k) w t size n ds v := by
 obtain ⟨own, h⟩ := h
 exact ⟨own, h k _ hk⟩
theorem Bun.rd {B : Nat} {w : World} {items : List Item} (h : Bun B w items) (k : Nat) {t size n : Nat} {ds : List D} {v : Value} (hk : items[k]? = some (.app t size n ds v)) : Rd w (.sl size n ds) v := by
 obtain ⟨own, h1⟩ := h.app k hk
 exact h1.rd
theorem Bun.shape {B : Nat} {w : World} {items : List Item} (h : Bun B w items) (k : Nat) {t size n : Nat} {ds : List D} {v : Value} (hk : items[k]? = some (.app t size n ds v)) : ∃ a cap, v = .slice a n cap ∧ n ≤ cap ∧ cap ≤ maxLen := by
 obtain ⟨own, h1⟩ := h.app k hk
 exact h1.shape
theorem Bun.box {B : Nat} {w : World} {items : List Item} (h : Bun B w items) (k : Nat) {g t : Nat} {cur : List Value} (hk : items[k]? = some (.box g t cur)) : Blk w g t cur ∧ B ≤ g := by
 obtain ⟨own, h⟩ := h
 have := h k _ hk
 exact ⟨this.2, this.1.1⟩
theorem Bun.one {B : Nat} {w : World} {items : List Item} (h : Bun B w items) (k : Nat) {g : Nat} {P : World → Prop} (hk : items[k]? = some (.one g P)) : P w ∧ B ≤ g ∧ g < w.heap.size := by
 obtain ⟨own, h⟩ := h
 have := h k _ hk
 exact ⟨this.2.2 w rfl, this.1.1, this.2.1⟩
theorem AppS.foot {S : Nat → Prop} {w : World} {t size n : Nat} {ds : List D} {v : Value} (h1 : AppS S w t size n ds v) : ∃ F, Ow w (.sl size n ds) v F ∧ F.Nodup ∧ ∀ b ∈ F, S b := by
 have hlen := (AppS.app (W := { w with heap := #[] }) h1 fun b _ => Nat.zero_le _).len
 obtain ⟨xs, F, a1, a2, a3, a4, a5⟩ := h1
 have hxl := a1.1
 rcases a1.2 with ⟨rfl, rfl⟩ | ⟨g, cap, cur, rfl, hg, hb, h5, h6, h7, h8⟩
 ·
  exact ⟨[], by simp only [Ow]; exact ⟨_, 0, rfl, by omega, by simp [maxLen], hlen, by simp, Or.inl (by simp)⟩, by simp, by simp⟩
 ·
  by_cases h0 : n = 0
  ·
   exact ⟨[], by simp only [Ow]; exact ⟨_, cap, rfl, h5, h6, hlen, by simp, Or.inl (by simp [h0])⟩, by simp, by simp⟩
  ·
   have hblk : Blk w g t cur.toList := by simpa [Blk] using hb
   refine ⟨g :: F, by simp only [Ow]; exact ⟨_, cap, rfl, h5, h6, hlen, by simp, Or.inr ⟨g, 0, xs, F, rfl, rfl, hblk.free, hblk.row (by rw [hxl]; exact h8), a2⟩⟩, ?_, ?_⟩
   ·
    rw [List.nodup_cons]
    exact ⟨fun hm => (a4 g hm).2 rfl, a3⟩
   ·
    intro b hm
    rcases List.mem_cons.1 hm with rfl | hm
    ·
     exact a5 _ rfl
    ·
     exact (a4 b hm).1
theorem Bun.fresh2 {B : Nat} {W w : World} {items : List Item} (h : Bun B w items) (hB : W.heap.size ≤ B) (i k : Nat) (hne : i ≠ k) {t size n : Nat} {ds : List D} {v : Value} (hi : items[i]? = some (.app t size n ds v)) {t' size' n' : Nat} {ds' : List D} {v' : Value}
  (hk : items[k]? = some (.app t' size' n' ds' v')) : Freshs W w [.sl size n ds, .sl size' n' ds'] [v, v'] := by
 obtain ⟨own, h⟩ := h
 obtain ⟨F, f1, f2, f3⟩ := AppS.foot (h i _ hi)
 obtain ⟨G, g1, g2, g3⟩ := AppS.foot (h k _ hk)
 refine ⟨F ++ (G ++ []), Ows.cons f1 (Ows.cons g1 Ows.nil), ?_, ?_⟩
 ·
  rw [List.append_nil, List.nodup_append]
  refine ⟨f2, g2, fun p hp q hq hpq => ?_⟩
  have h1 := (f3 p hp).2.2
  have h2 := (g3 q hq).2.2
  rw [hpq] at h1
  omega
 ·
  intro b hb
  rw [List.append_nil] at hb
  rcases List.mem_append.1 hb with hb | hb
  ·
   have := (f3 b hb).1; omega
  ·
   have := (g3 b hb).1; omega
theorem Bun.store {B : Nat} {w : World} {items : List Item} (h : Bun B w items) (k : Nat) {g t : Nat} {cur : List Value} (hk : items[k]? = some (.box g t cur)) (i : Nat) (v : Value) : Bun B (w.setCell ⟨g, i, none⟩ v) (items.set k (.box g t (cur.set i v))) := by
 obtain ⟨own, h⟩ := h
 have hit := h k _ hk
 have hsz : (w.setCell ⟨g, i, none⟩ v).heap.size = w.heap.size := by simp [World.setCell]
 have := bun_turn (w' := w.setCell ⟨g, i, none⟩ v) h (by omega) k (items.length) (it' := .box g t (cur.set i v)) (fun b hb h1 _ => Below.heap_setCell _ _ _ _ (fun e => h1 (by rw [e]; exact hit.1.2.2)))
  ⟨⟨hit.1.1, by rw [hsz]; exact hit.1.2.1, Or.inr (Or.inl hit.1.2.2)⟩, hit.2.set i v⟩
 rwa [set_none] at this
theorem Bun.turn_one {B : Nat} {w w' : World} {items : List Item} (h : Bun B w items) (k : Nat) {g : Nat} {P Q : World → Prop} (hk : items[k]? = some (.one g P)) (ho : Only [g] w w') (hQ : ∀ w1, w1.heap[g]? = w'.heap[g]? → Q w1) : Bun B w' (items.set k (.one g Q)) := by
 obtain ⟨own, h⟩ := h
 have hit := h k _ hk
 have := bun_turn (w' := w') h ho.size k (items.length) (it' := .one g Q) (fun b hb h1 _ => ho.block b hb (by
   simp only [List.mem_singleton]
   intro e
   exact h1 (by rw [e]; exact hit.1.2.2)))
  ⟨⟨hit.1.1, Nat.lt_of_lt_of_le hit.1.2.1 ho.size, Or.inr (Or.inl hit.1.2.2)⟩, Nat.lt_of_lt_of_le hit.2.1 ho.size, hQ⟩
 rwa [set_none] at this
theorem wpList_append_bun {P : Program} (w : World) {ops : Array Oper} {rest : List Oper} {o : Oper} {a : Act} {Q : Exit → Act → World → Prop} (hgd : o.guard = none) (s x : Operand) (t : TypeId)
  (ho : o.op = .call { callee := .builtin .append, args := #[s, x], argTypes := #[t, t] })
  (e : TypeId) (z : Value) (size bytes : Nat) (ht : P.underlying t = some (.slice e)) (hinfo : (P.info? e).map (fun i => (i.zero, i.size, i.bytes)) = some (some z, size, bytes)) (hzs : z.cells.size = size) (hsz : 0 < size)
  {B : Nat} {items : List Item} (hb : Bun B w items) (hB : B ≤ w.heap.size) (k : Nat) (v : Value) {n : Nat} {ds : List D} (hk : items[k]? = some (.app e size n ds v)) (hs : a.eval s = v)
  (ad : Addr) (m c : Nat) {es : List D} (news : List Value) (hx : a.eval x = .slice (some ad) m c) (hnews : ∀ j u, news[j]? = some u → w.cell? (ad.add j) = some u) (hes : OwS (fun _ => False) w es news)
  (hl : news.length = m * size) (h1 : ∀ u ∈ news, u.oneCell' = true) (hm : 0 < m) (hbytes : (n + m) * bytes ≤ 140737488355328) (h63 : n + m ≤ maxLen)
  (h : ∀ g cap w', Bun B w' (items.set k (.app e size (n + m) (ds ++ es) (.slice (some ⟨g, 0, none⟩) (n + m) cap))) → Below B w w' → wpList P ops Q rest (a.put o.dst (.slice (some ⟨g, 0, none⟩) (n + m) cap)) w') : wpList P ops Q (o :: rest) a w := by
 obtain ⟨own, hb⟩ := hb
 refine wpList_append_s w hgd s x t ho e z size bytes ht hinfo hzs hsz (S := fun b => B ≤ b ∧ b < w.heap.size ∧ own b = k) (T := fun _ => False) v hs (hb k _ hk) ad m c news hx hnews hes (fun _ _ _ h => h) hl h1 hm hbytes h63 ?_
 intro g cap w' hap hsp
 refine h g cap w' ?_ (hsp.below hB fun b hb' => hb'.1)
 have := bun_turn (w' := w') hb hsp.size k (items.length) (it' := .app e size (n + m) (ds ++ es) (.slice (some ⟨g, 0, none⟩) (n + m) cap)) (fun b hb' h2 _ => hsp.block b hb' (fun h3 => h2 h3.2.2))
  (AppS.more hap fun b hb' hc => by
   have hz := hsp.size
   rcases hc with hc | hc | hc
   ·
    exact ⟨hc.1, hb', Or.inr (Or.inl hc.2.2)⟩
   ·
    exact hc.elim
   ·
    exact ⟨by omega, hb', Or.inl hc.1⟩)
 rwa [set_none] at this
theorem Bun.push_own {B : Nat} {w w' : World} {items : List Item} {ds : List D} {vs : List Value} (h : Bun B w items) (hb : Below w.heap.size w w') (hB : B ≤ w.heap.size) (hf : Freshs w w' ds vs) : Bun B w' (items ++ [.own ds vs]) :=
 h.push hb (by obtain ⟨F, f1, f2, f3⟩ := hf; exact ⟨F, f1, f2, fun b hm => ⟨by have := f3 b hm; omega, f1.lt b hm, f3 b hm⟩⟩)
theorem wpList_append_bun_own {P : Program} (w : World) {ops : Array Oper} {rest : List Oper} {o : Oper} {a : Act} {Q : Exit → Act → World → Prop} (hgd : o.guard = none) (s x : Operand) (t : TypeId)
  (ho : o.op = .call { callee := .builtin .append, args := #[s, x], argTypes := #[t, t] })
  (e : TypeId) (bytes : Nat) (ht : P.underlying t = some (.slice e)) (hinfo : (P.info? e).map (fun i => (i.zero, i.size, i.bytes)) = some (some (.slice none 0 0), 1, bytes))
  {B : Nat} {items : List Item} (hb : Bun B w items) (hB : B ≤ w.heap.size) (k : Nat) (v : Value) {n : Nat} {ds : List D} (hk : items[k]? = some (.app e 1 n ds v)) (hs : a.eval s = v)
  (j : Nat) (hjk : j ≠ k) (u : Value) {t' size' n' : Nat} {ds' : List D} (hj : items[j]? = some (.app t' size' n' ds' u))
  (ad : Addr) (hx : a.eval x = .slice (some ad) 1 1) (hnews : ∀ i q, [u][i]? = some q → w.cell? (ad.add i) = some q) (hbytes : (n + 1) * bytes ≤ 140737488355328) (h63 : n + 1 ≤ maxLen)
  (h : ∀ g cap w', Bun B w' ((items.set j .gone).set k (.app e 1 (n + 1) (ds ++ [.sl size' n' ds']) (.slice (some ⟨g, 0, none⟩) (n + 1) cap))) → Below B w w' → wpList P ops Q rest (a.put o.dst (.slice (some ⟨g, 0, none⟩) (n + 1) cap)) w') : wpList P ops Q (o :: rest) a w := by
 obtain ⟨own, hb⟩ := hb
 have hap' := hb j _ hj
 obtain ⟨a', cap', e1, _⟩ := hap'.shape
 subst e1
 have hows : OwS (fun b => B ≤ b ∧ b < w.heap.size ∧ own b = j) w [.sl size' n' ds'] [.slice a' n' cap'] := by
  obtain ⟨F, f1, f2, f3⟩ := AppS.foot hap'
  exact ⟨F ++ [], Ows.cons f1 Ows.nil, by simpa using f2, by simpa using f3⟩
 refine wpList_append_s w hgd s x t ho e (.slice none 0 0) 1 bytes ht hinfo rfl (by omega) (S := fun b => B ≤ b ∧ b < w.heap.size ∧ own b = k) (T := fun b => B ≤ b ∧ b < w.heap.size ∧ own b = j) v hs (hb k _ hk) ad 1 1 [.slice a' n' cap'] hx hnews hows (fun b _ h1 h2 => hjk (h2.2.2.symm.trans h1.2.2)) rfl (by simp [Value.oneCell']) (by omega) hbytes h63 ?_
 intro g cap w' hap hsp
 refine h g cap w' ?_ (hsp.below hB fun b hb' => hb'.1)
 exact bun_turn (w' := w') hb hsp.size k j (it' := .app e 1 (n + 1) (ds ++ [.sl size' n' ds']) (.slice (some ⟨g, 0, none⟩) (n + 1) cap)) (fun b hb' h2 _ => hsp.block b hb' (fun h3 => h2 h3.2.2))
  (AppS.more hap fun b hb' hc => by
   have hz := hsp.size
   rcases hc with hc | hc | hc
   ·
    exact ⟨hc.1, hb', Or.inr (Or.inl hc.2.2)⟩
   ·
    exact ⟨hc.1, hb', Or.inr (Or.inr hc.2.2)⟩
   ·
    exact ⟨by omega, hb', Or.inl hc.1⟩)
end Go.Proofs.Ytfhlddbngjlhbaa

namespace Go.Proofs.Ytfhlddbngjlhbaa
set_option linter.unusedVariables false
set_option linter.unusedSimpArgs false
open Go.ChangeShapes Go.WideShapes Go.ChangeAt Go.RowKit Go.Deep
inductive Ex where
 | mk (kind num : Int) (kids : List Ex)
def Ex.kind : Ex → Int | .mk k _ _ => k
def Ex.num : Ex → Int | .mk _ n _ => n
def Ex.kids : Ex → List Ex | .mk _ _ ks => ks
theorem Ex.eta : ∀ e : Ex, e = .mk e.kind e.num e.kids | .mk _ _ _ => rfl
mutual
def Ex.cells : Ex → List D
 | .mk k n ks => [.int k, .int n, .sl 3 ks.length (Ex.cellsL ks)]
def Ex.cellsL : List Ex → List D
 | [] => []
 | e :: r => e.cells ++ Ex.cellsL r
end
def kidsD (ks : List Ex) : D := .sl 3 ks.length (Ex.cellsL ks)
mutual
def Ex.size : Ex → Nat
 | .mk _ _ ks => 1 + Ex.sizeL ks
def Ex.sizeL : List Ex → Nat
 | [] => 0
 | e :: r => e.size + Ex.sizeL r
end
theorem Ex.cells_eq (e : Ex) : e.cells = [.int e.kind, .int e.num, kidsD e.kids] := by cases e; simp only [Ex.cells, kidsD, Ex.kind, Ex.num, Ex.kids]
theorem Ex.size_eq (e : Ex) : e.size = 1 + Ex.sizeL e.kids := by cases e; simp only [Ex.size, Ex.kids]
theorem Ex.cells_length (e : Ex) : e.cells.length = 3 := by rw [Ex.cells_eq]; rfl
theorem Ex.cellsL_length : ∀ ks : List Ex, (Ex.cellsL ks).length = ks.length * 3
 | [] => by simp [Ex.cellsL]
 | e :: r => by simp only [Ex.cellsL, List.length_append, Ex.cells_length, Ex.cellsL_length r, List.length_cons]; omega
theorem Ex.cellsL_append : ∀ a b : List Ex, Ex.cellsL (a ++ b) = Ex.cellsL a ++ Ex.cellsL b
 | [], b => by simp [Ex.cellsL]
 | e :: r, b => by simp only [List.cons_append, Ex.cellsL, Ex.cellsL_append r b, List.append_assoc]
theorem Ex.sizeL_append : ∀ a b : List Ex, Ex.sizeL (a ++ b) = Ex.sizeL a + Ex.sizeL b
 | [], b => by simp [Ex.sizeL]
 | e :: r, b => by simp only [List.cons_append, Ex.sizeL, Ex.sizeL_append r b]; omega
theorem Ex.cellsL_at : ∀ (ks : List Ex) (i : Nat) (e : Ex), ks[i]? = some e → ∀ j, j < 3 → (Ex.cellsL ks)[3 * i + j]? = e.cells[j]?
 | [], i, e, h => by simp at h
 | e0 :: r, 0, e, h => by
  simp at h
  subst h
  intro j hj
  simp only [Ex.cellsL]
  rw [Nat.mul_zero, Nat.zero_add, List.getElem?_append_left (by rw [Ex.cells_length]; exact hj)]
 | e0 :: r, i + 1, e, h => by
  intro j hj
  simp only [Ex.cellsL]
  rw [List.getElem?_append_right (by rw [Ex.cells_length]; omega), Ex.cells_length, show 3 * (i + 1) + j - 3 = 3 * i + j by omega]
  exact Ex.cellsL_at r i e (by simpa using h) j hj
theorem Ex.sizeL_mem : ∀ {ks : List Ex} {e : Ex}, e ∈ ks → e.size ≤ Ex.sizeL ks
 | [], _, h => by simp at h
 | e0 :: r, e, h => by
  simp only [Ex.sizeL]
  rcases List.mem_cons.1 h with rfl | h
  ·
   omega
  ·
   have := Ex.sizeL_mem h
   omega
theorem Ex.length_le_sizeL : ∀ ks : List Ex, ks.length ≤ Ex.sizeL ks
 | [] => Nat.le_refl _
 | e :: r => by
  have := Ex.length_le_sizeL r
  have := Ex.size_eq e
  simp only [Ex.sizeL, List.length_cons]
  omega
theorem Ex.sizeL_take_succ {ks : List Ex} {i : Nat} {e : Ex} (h : ks[i]? = some e) : Ex.sizeL (ks.take (i + 1)) = Ex.sizeL (ks.take i) + e.size := by
 obtain ⟨hi, rfl⟩ := List.getElem?_eq_some_iff.1 h
 rw [List.take_succ_eq_append_getElem hi, Ex.sizeL_append]
 simp [Ex.sizeL]
theorem Ex.sizeL_take_le (ks : List Ex) (i : Nat) : Ex.sizeL (ks.take i) ≤ Ex.sizeL ks := by
 have := Ex.sizeL_append (ks.take i) (ks.drop i)
 rw [List.take_append_drop] at this
 omega
theorem Ex.cellsL_take_succ {ks : List Ex} {i : Nat} {e : Ex} (h : ks[i]? = some e) : Ex.cellsL (ks.take (i + 1)) = Ex.cellsL (ks.take i) ++ [.int e.kind, .int e.num, kidsD e.kids] := by
 obtain ⟨hi, rfl⟩ := List.getElem?_eq_some_iff.1 h
 rw [List.take_succ_eq_append_getElem hi, Ex.cellsL_append, ← Ex.cells_eq]
 simp [Ex.cellsL]
theorem kid_at {w : World} {ks : List Ex} {a : Option Addr} {len cap : Nat} (h : Rd w (kidsD ks) (.slice a len cap)) :
  len = ks.length ∧ len ≤ cap ∧ cap ≤ maxLen ∧ (a = none → cap = 0) ∧ (ks = [] ∨ ∃ b o, a = some ⟨b, o, none⟩ ∧ b < w.heap.size ∧ ∀ (i : Nat) (e : Ex), ks[i]? = some e →
   ∃ s c, w.cell? ⟨b, o + i * 3, none⟩ = some (.int .i64 e.kind) ∧ w.cell? ⟨b, o + i * 3 + 1, none⟩ = some (.int .i64 e.num) ∧ w.cell? ⟨b, o + i * 3 + 2, none⟩ = some (.slice s e.kids.length c) ∧
    Rd w (kidsD e.kids) (.slice s e.kids.length c)) := by
 obtain ⟨h1, h2, h3, _, h5, h4⟩ := h.sl_at
 refine ⟨h1, by omega, h3, h5, ?_⟩
 rcases h4 with h4 | ⟨b, o, rfl, h4⟩
 ·
  exact Or.inl (List.eq_nil_of_length_eq_zero h4)
 ·
  by_cases hk : ks = []
  ·
   exact Or.inl hk
  right
  have each : ∀ (i : Nat) (e : Ex), ks[i]? = some e → ∃ s c, w.cell? ⟨b, o + i * 3, none⟩ = some (.int .i64 e.kind) ∧ w.cell? ⟨b, o + i * 3 + 1, none⟩ = some (.int .i64 e.num) ∧ w.cell? ⟨b, o + i * 3 + 2, none⟩ = some (.slice s e.kids.length c) ∧
    Rd w (kidsD e.kids) (.slice s e.kids.length c) := by
   intro i e he
   have c0 := Ex.cellsL_at ks i e he 0 (by omega)
   have c1 := Ex.cellsL_at ks i e he 1 (by omega)
   have c2 := Ex.cellsL_at ks i e he 2 (by omega)
   rw [Ex.cells_eq] at c0 c1 c2
   obtain ⟨x0, g0, r0⟩ := h4 _ _ c0
   obtain ⟨x1, g1, r1⟩ := h4 _ _ c1
   obtain ⟨x2, g2, r2⟩ := h4 _ _ c2
   simp only [Rd] at r0 r1
   subst r0 r1
   obtain ⟨s, c, rfl, _⟩ := Rd.slice r2
   refine ⟨s, c, ?_, ?_, ?_, r2⟩
   ·
    rw [← g0]; congr 2; omega
   ·
    rw [← g1]; congr 2; omega
   ·
    rw [← g2]; congr 2; omega
  refine ⟨b, o, rfl, ?_, each⟩
  cases ks with
  | nil => exact absurd rfl hk
  | cons e r =>
   obtain ⟨_, _, g0, _⟩ := each 0 e rfl
   exact World.block_lt_of_cell? w _ g0
theorem kid_in {w : World} {ks : List Ex} {b o len cap : Nat} (h : Rd w (kidsD ks) (.slice (some ⟨b, o, none⟩) len cap)) {i : Nat} {e : Ex} (he : ks[i]? = some e) :
  b < w.heap.size ∧ ∃ s c, w.cell? ⟨b, o + i * 3, none⟩ = some (.int .i64 e.kind) ∧ w.cell? ⟨b, o + i * 3 + 1, none⟩ = some (.int .i64 e.num) ∧ w.cell? ⟨b, o + i * 3 + 2, none⟩ = some (.slice s e.kids.length c) ∧
    Rd w (kidsD e.kids) (.slice s e.kids.length c) := by
 obtain ⟨_, _, _, _, h4⟩ := kid_at h
 rcases h4 with rfl | ⟨b', o', e1, hb, h4⟩
 ·
  simp at he
 ·
  simp only [Option.some.injEq, Addr.mk.injEq, and_true] at e1
  obtain ⟨rfl, rfl⟩ := e1
  exact ⟨hb, h4 i e he⟩
theorem kid_some {w : World} {ks : List Ex} {a : Option Addr} {len cap : Nat} (h : Rd w (kidsD ks) (.slice a len cap)) (hk : ks ≠ []) : ∃ b o, a = some ⟨b, o, none⟩ := by
 obtain ⟨_, _, _, _, h4⟩ := kid_at h
 rcases h4 with h4 | ⟨b, o, e, _⟩
 ·
  exact absurd h4 hk
 ·
  exact ⟨b, o, e⟩
def ExAt (w : World) (b o : Nat) (e : Ex) : Prop := w.cell? ⟨b, o, none⟩ = some (.int .i64 e.kind) ∧ w.cell? ⟨b, o + 1, none⟩ = some (.int .i64 e.num) ∧
 ∃ s c, w.cell? ⟨b, o + 2, none⟩ = some (.slice s e.kids.length c) ∧ Rd w (kidsD e.kids) (.slice s e.kids.length c)
theorem ExAt.lt {w : World} {b o : Nat} {e : Ex} (h : ExAt w b o e) : b < w.heap.size := World.block_lt_of_cell? w _ h.1
theorem ExAt.below {w w' : World} {b o : Nat} {e : Ex} (h : ExAt w b o e) (hb : Below w.heap.size w w') : ExAt w' b o e := by
 have hl := h.lt
 obtain ⟨h0, h1, s, c, h2, h3⟩ := h
 exact ⟨(hb.cell (p := ⟨b, o, none⟩) hl).trans h0, (hb.cell (p := ⟨b, o + 1, none⟩) hl).trans h1, s, c, (hb.cell (p := ⟨b, o + 2, none⟩) hl).trans h2, h3.below hb⟩
theorem kid_exAt {w : World} {ks : List Ex} {b o len cap : Nat} (h : Rd w (kidsD ks) (.slice (some ⟨b, o, none⟩) len cap)) {i : Nat} {e : Ex} (he : ks[i]? = some e) : ExAt w b (o + i * 3) e := by
 obtain ⟨_, s, c, g0, g1, g2, g3⟩ := kid_in h he
 exact ⟨g0, g1, s, c, g2, g3⟩
theorem Blk.exAt {w : World} {g T : Nat} {k n : Int} {ks : List Ex} {s : Option Addr} {c : Nat} (h : Blk w g T [.int .i64 k, .int .i64 n, .slice s ks.length c]) (hr : Rd w (kidsD ks) (.slice s ks.length c)) : ExAt w g 0 (.mk k n ks) :=
 ⟨h.c0, h.c1, s, c, h.c2, hr⟩
section
variable {H : Type} {enc : TypeId × Value → H} {P : Program} {w : World} {base : Nat} {sp : Nat → Bool} {hd : Bool}
end
end Go.Proofs.Ytfhlddbngjlhbaa

namespace Go.Proofs.Ytfhlddbngjlhbaa
set_option linter.unusedVariables false
set_option linter.unusedSimpArgs false
open Go.ChangeShapes Go.WideShapes Go.ChangeAt Go.RowKit Go.Deep
def KeptX (X : Nat → Prop) (w w' : World) : Prop := w.heap.size ≤ w'.heap.size ∧ ∀ b, b < w.heap.size → ¬ X b → w'.heap[b]? = w.heap[b]?
theorem KeptX.refl (X : Nat → Prop) (w : World) : KeptX X w w := ⟨Nat.le_refl _, fun _ _ _ => rfl⟩
theorem KeptX.trans {X : Nat → Prop} {a b c : World} (h : KeptX X a b) (k : KeptX X b c) : KeptX X a c :=
 ⟨Nat.le_trans h.1 k.1, fun i hi hx => (k.2 i (Nat.lt_of_lt_of_le hi h.1) hx).trans (h.2 i hi hx)⟩
theorem KeptX.of_below {X : Nat → Prop} {w w' : World} (h : Below w.heap.size w w') : KeptX X w w' := ⟨h.size, fun b hb _ => h.block b hb⟩
theorem KeptX.of_spares {X Y : Nat → Prop} {w w' : World} (h : Spares Y w w') (hY : ∀ b, b < w.heap.size → Y b → X b) : KeptX X w w' := ⟨h.size, fun b hb hx => h.block b hb fun hy => hx (hY b hb hy)⟩
theorem KeptX.more {X Y : Nat → Prop} {w w' : World} (h : KeptX X w w') (hs : ∀ b, b < w.heap.size → X b → Y b) : KeptX Y w w' := ⟨h.1, fun b hb hy => h.2 b hb fun hx => hy (hs b hb hx)⟩
def RdX (X : Nat → Prop) (w : World) (d : D) (v : Value) : Prop := ∀ w', KeptX X w w' → Rd w' d v
theorem RdX.rd {X : Nat → Prop} {w : World} {d : D} {v : Value} (h : RdX X w d v) : Rd w d v := h w (KeptX.refl X w)
theorem RdX.keep {X : Nat → Prop} {w w' : World} {d : D} {v : Value} (h : RdX X w d v) (hk : KeptX X w w') : RdX X w' d v := fun _ k => h _ (hk.trans k)
theorem RdX.below {X : Nat → Prop} {w w' : World} {d : D} {v : Value} (h : RdX X w d v) (hb : Below w.heap.size w w') : RdX X w' d v := h.keep (KeptX.of_below hb)
theorem RdX.less {X Y : Nat → Prop} {w : World} {d : D} {v : Value} (h : RdX X w d v) (hs : ∀ b, b < w.heap.size → Y b → X b) : RdX Y w d v := fun w' k => h w' (k.more hs)
theorem RdX.of_rd {X : Nat → Prop} {w : World} {d : D} {v : Value} (h : Rd w d v) (hX : ∀ b, X b → w.heap.size ≤ b) : RdX X w d v := fun _ k => h.keep fun b hb => k.2 b hb fun hx => by have := hX b hx; omega
theorem RdX.fresh {X : Nat → Prop} {w w' : World} {d : D} {v : Value} (h : Freshs w w' [d] [v]) (hX : ∀ b, X b → b < w.heap.size) : RdX X w' d v := by
 obtain ⟨F, h1, h2, h3⟩ := h
 intro w2 k
 exact Rds.one (h1.keep fun b hb => k.2 b (h1.lt b hb) fun hx => by have := h3 b hb; have := hX b hx; omega).rds
def RdO (W0 : World) (X F : Nat → Prop) (w : World) (d : D) (v : Value) : Prop :=
 ∀ w', w.heap.size ≤ w'.heap.size → KeptX X W0 w' → (∀ b, b < w.heap.size → F b → w'.heap[b]? = w.heap[b]?) → Rd w' d v
theorem RdO.keep {W0 : World} {X F F' : Nat → Prop} {w w' : World} {d : D} {v : Value} (h : RdO W0 X F w d v) (hz : w.heap.size ≤ w'.heap.size) (hk : ∀ b, b < w.heap.size → F b → w'.heap[b]? = w.heap[b]?) (hF : ∀ b, F b → F' b) : RdO W0 X F' w' d v :=
 fun w2 h1 h2 h3 => h w2 (Nat.le_trans hz h1) h2 fun b hb hf => (h3 b (Nat.lt_of_lt_of_le hb hz) (hF b hf)).trans (hk b hb hf)
def OutX (W0 : World) (X F : Nat → Prop) (w : World) (b : Nat) : Prop := b < w.heap.size ∧ ¬ ((b < W0.heap.size ∧ ¬ X b) ∨ F b)
theorem OutX.lt {W0 : World} {X F : Nat → Prop} {w : World} : ∀ b, OutX W0 X F w b → b < w.heap.size := fun _ h => h.1
theorem OutX.kept {W0 : World} {X F : Nat → Prop} {w w2 : World} (k : KeptX (OutX W0 X F w) w w2) (hW : KeptX X W0 w) : KeptX X W0 w2 :=
 ⟨Nat.le_trans hW.1 k.1, fun b hb hx => (k.2 b (Nat.lt_of_lt_of_le hb hW.1) fun ho => ho.2 (Or.inl ⟨hb, hx⟩)).trans (hW.2 b hb hx)⟩
theorem RdX.toOut {W0 : World} {X F : Nat → Prop} {w : World} {d : D} {v : Value} (h : RdX X W0 d v) (hW : KeptX X W0 w) : RdX (OutX W0 X F w) w d v :=
 fun w2 k => h w2 (OutX.kept k hW)
theorem RdO.ofX {W0 : World} {X F F' : Nat → Prop} {w w2 : World} {d : D} {v : Value} (h : RdX (OutX W0 X F' w) w2 d v) (hb : Below w.heap.size w w2) (hW : KeptX X W0 w) (hF : ∀ b, F' b → F b) (hn : ∀ b, w.heap.size ≤ b → b < w2.heap.size → F b) : RdO W0 X F w2 d v :=
 fun w3 hz k3 h3 => h w3 ⟨hz, fun b hb2 hno => by
  by_cases hl : b < w.heap.size
  ·
   by_cases hf : F' b
   ·
    exact h3 b hb2 (hF b hf)
   ·
    by_cases ho : b < W0.heap.size ∧ ¬ X b
    ·
     exact (k3.2 b ho.1 ho.2).trans (((hW.trans (KeptX.of_below hb)).2 b ho.1 ho.2).symm)
    ·
     exact absurd ⟨hl, fun q => q.elim ho hf⟩ hno
  ·
   exact h3 b hb2 (hn b (by omega) hb2)⟩
theorem RdO.done {W0 : World} {X F : Nat → Prop} {w : World} {d : D} {v : Value} (h : RdO W0 X F w d v) (hW : KeptX X W0 w) (hF : ∀ b, F b → ¬ X b) : RdX X w d v :=
 fun w2 k => h w2 k.1 (hW.trans k) fun b hb hf => k.2 b hb (hF b hf)
theorem foot_no {C D : List (Nat × Nat)} {G : Nat → Nat → Prop} {n i B z : Nat} {iv : Nat → Nat × Nat} {l : List Nat} (hl : ((chainOf C n i).all fun j => l.contains j) = true) (hD : ((chainOf C n i).all fun j => D.all fun p => p.1 != j) = true)
  (hb : ∀ j ∈ l, B ≤ (iv j).1 ∧ (iv j).1 ≤ (iv j).2 ∧ (iv j).2 ≤ z) {b : Nat} (hf : foot C D G n i iv b) : B ≤ b := by
 obtain ⟨j, hj, h | ⟨m, hm, hg⟩⟩ := hf
 ·
  have := List.all_eq_true.1 hl j hj
  have := (hb j (by simpa using this)).1
  omega
 ·
  have := List.all_eq_true.1 (List.all_eq_true.1 hD j hj) (j, m) hm
  simp at this
def ExX (X : Nat → Prop) (w : World) (e : Ex) (s : Option Addr) (c : Nat) : Prop := RdX X w (kidsD e.kids) (.slice s e.kids.length c)
theorem kidsD_two {X : Nat → Prop} {w : World} {g t : Nat} {x y : Ex} {sx sy : Option Addr} {cx cy : Nat} (h : Blk w g t [.int .i64 x.kind, .int .i64 x.num, .slice sx x.kids.length cx, .int .i64 y.kind, .int .i64 y.num, .slice sy y.kids.length cy]) (hg : ¬ X g)
  (hx : ExX X w x sx cx) (hy : ExX X w y sy cy) : RdX X w (kidsD [x, y]) (.slice (some ⟨g, 0, none⟩) 2 2) := by
 intro w' k
 have h' := h.keep (k.2 g h.lt hg)
 have hx' := hx w' k
 have hy' := hy w' k
 unfold kidsD
 simp only [Rd]
 have hrow : Row w' g 0 [.int .i64 x.kind, .int .i64 x.num, .slice sx x.kids.length cx, .int .i64 y.kind, .int .i64 y.num, .slice sy y.kids.length cy] := h'.row rfl
 refine ⟨some ⟨g, 0, none⟩, 2, rfl, Nat.le_refl _, by unfold maxLen; omega, by rw [Ex.cellsL_length], (fun h => by cases h), Or.inr ⟨g, 0, _, rfl, hrow, ?_⟩⟩
 simp only [Ex.cellsL, List.append_nil]
 rw [Ex.cells_eq, Ex.cells_eq]
 simp only [List.cons_append, List.nil_append, Rds, Rd]
 exact ⟨_, _, rfl, rfl, _, _, rfl, rfl, _, _, rfl, hx', _, _, rfl, rfl, _, _, rfl, rfl, _, _, rfl, hy', rfl⟩
theorem RdX.row_out {X : Nat → Prop} {w : World} {ks : List Ex} {b o len cap : Nat} (h : RdX X w (kidsD ks) (.slice (some ⟨b, o, none⟩) len cap)) {i : Nat} {x : Ex} (hx : ks[i]? = some x) : ¬ X b := by
 intro hb
 have hlt := (kid_in h.rd hx).1
 have k : KeptX X w { w with heap := w.heap.setIfInBounds b (.cells #[] 0) } :=
  ⟨by simp, fun j hj hn => by
   have hne : b ≠ j := fun e => hn (e ▸ hb)
   simp [Array.getElem?_setIfInBounds_ne hne]⟩
 obtain ⟨-, s', c', k0, -⟩ := kid_in (h _ k) hx
 have hblk : Blk { w with heap := w.heap.setIfInBounds b (.cells #[] 0) } b 0 [] := by
  unfold Blk
  simp [hlt]
 rw [hblk.cell] at k0
 simp at k0
theorem kidX {X : Nat → Prop} {w : World} {ks : List Ex} {b o len cap : Nat} (h : RdX X w (kidsD ks) (.slice (some ⟨b, o, none⟩) len cap)) {i : Nat} {x : Ex} (hx : ks[i]? = some x) :
  b < w.heap.size ∧ ¬ X b ∧ ∃ s c, w.cell? ⟨b, o + i * 3, none⟩ = some (.int .i64 x.kind) ∧ w.cell? ⟨b, o + i * 3 + 1, none⟩ = some (.int .i64 x.num) ∧ w.cell? ⟨b, o + i * 3 + 2, none⟩ = some (.slice s x.kids.length c) ∧ ExX X w x s c := by
 obtain ⟨hb, s, c, h0, h1, h2, h3⟩ := kid_in h.rd hx
 have hn := h.row_out hx
 refine ⟨hb, hn, s, c, h0, h1, h2, fun w' k => ?_⟩
 obtain ⟨-, s', c', k0, k1, k2, k3⟩ := kid_in (h w' k) hx
 have e := World.cell?_of_block (w := w) (w' := w') (a := ⟨b, o + i * 3 + 2, none⟩) (k.2 b hb hn)
 rw [k2, h2] at e
 simp only [Option.some.injEq, Value.slice.injEq, true_and] at e
 obtain ⟨rfl, rfl⟩ := e
 exact k3
end Go.Proofs.Ytfhlddbngjlhbaa

namespace Go.Proofs.Ytfhlddbngjlhbaa
set_option linter.unusedVariables false
set_option linter.unusedSimpArgs false
open Go.ChangeShapes Go.WideShapes Go.ChangeAt Go.RowKit Go.Deep Go.ChangeMaps Go.MapKept
open Go.Maps (Keyed)
section
variable {κ ν : Type} [DecidableEq κ]
def findM : List (κ × ν) → κ → Option ν
 | [], _ => none
 | p :: r, k => if p.1 = k then some p.2 else findM r k
def putM : List (κ × ν) → κ → ν → List (κ × ν)
 | [], k, v => [(k, v)]
 | p :: r, k, v => if p.1 = k then (k, v) :: r else p :: putM r k v
theorem findM_putM (k : κ) (v : ν) (k' : κ) : ∀ L : List (κ × ν), findM (putM L k v) k' = if k = k' then some v else findM L k'
 | [] => by simp [putM, findM]
 | p :: r => by
  have ih := findM_putM k v k' r
  unfold putM
  split
  ·
   rename_i h
   simp only [findM]
   by_cases hk : k = k'
   ·
    simp [hk]
   ·
    rw [if_neg hk, if_neg hk, if_neg (by rw [h]; exact hk)]
  ·
   rename_i h
   simp only [findM, ih]
   by_cases hk : k = k'
   ·
    subst hk
    simp [h]
   ·
    simp [hk]
theorem findM_none {k : κ} : ∀ {L : List (κ × ν)}, findM L k = none ↔ ∀ p ∈ L, p.1 ≠ k
 | [] => by simp [findM]
 | p :: r => by
  simp only [findM, List.mem_cons]
  by_cases h : p.1 = k
  ·
   simp [h]
  ·
   rw [if_neg h, findM_none]
   constructor
   ·
    rintro h1 q (rfl | hq)
    ·
     exact h
    ·
     exact h1 q hq
   ·
    exact fun h1 q hq => h1 q (Or.inr hq)
theorem findM_at {k : κ} {v : ν} : ∀ {L : List (κ × ν)} {j : Nat}, (L.map (·.1)).Nodup → L[j]? = some (k, v) → findM L k = some v
 | [], _, _, h => by simp at h
 | p :: r, 0, _, h => by
  simp at h
  subst h
  simp [findM]
 | p :: r, j + 1, hn, h => by
  simp only [List.map_cons, List.nodup_cons] at hn
  have hr : r[j]? = some (k, v) := by simpa using h
  have hne : p.1 ≠ k := fun e => hn.1 (by rw [e]; exact List.mem_map.2 ⟨(k, v), List.mem_of_getElem? hr, rfl⟩)
  simp only [findM]
  rw [if_neg hne]
  exact findM_at hn.2 hr
theorem findM_mem {k : κ} {v : ν} : ∀ {L : List (κ × ν)}, findM L k = some v → (k, v) ∈ L
 | [], h => by simp [findM] at h
 | p :: r, h => by
  simp only [findM] at h
  split at h
  ·
   rename_i hk
   simp only [Option.some.injEq] at h
   subst h
   exact List.mem_cons.2 (Or.inl (by rw [← hk]))
  ·
   exact List.mem_cons_of_mem _ (findM_mem h)
theorem putM_new {k : κ} {v : ν} : ∀ {L : List (κ × ν)}, findM L k = none → putM L k v = L ++ [(k, v)]
 | [], _ => rfl
 | p :: r, h => by
  simp only [findM] at h
  split at h
  ·
   cases h
  ·
   rename_i hk
   unfold putM
   rw [if_neg hk, putM_new h]
   rfl
theorem putM_set {k : κ} {v : ν} : ∀ {L : List (κ × ν)} {j : Nat} {u : ν}, (L.map (·.1)).Nodup → L[j]? = some (k, u) → putM L k v = L.set j (k, v)
 | [], _, _, _, h => by simp at h
 | p :: r, 0, _, _, h => by
  simp at h
  subst h
  simp [putM]
 | p :: r, j + 1, u, hn, h => by
  simp only [List.map_cons, List.nodup_cons] at hn
  have hr : r[j]? = some (k, u) := by simpa using h
  have hne : p.1 ≠ k := fun e => hn.1 (by rw [e]; exact List.mem_map.2 ⟨(k, u), List.mem_of_getElem? hr, rfl⟩)
  unfold putM
  rw [if_neg hne, putM_set hn.2 hr]
  rfl
theorem putM_nodup {k : κ} {v : ν} {L : List (κ × ν)} (hn : (L.map (·.1)).Nodup) : ((putM L k v).map (·.1)).Nodup := by
 cases h : findM L k with
 | none =>
  rw [putM_new h, List.map_append, List.nodup_append]
  refine ⟨hn, by simp, ?_⟩
  intro a ha b hb hab
  simp only [List.map_cons, List.map_nil, List.mem_singleton] at hb
  obtain ⟨p, hp, rfl⟩ := List.mem_map.1 ha
  exact findM_none.1 h p hp (by rw [hab, hb])
 | some u =>
  obtain ⟨j, hj⟩ := List.mem_iff_getElem?.1 (findM_mem h)
  rw [putM_set hn hj]
  have : (L.set j (k, v)).map (·.1) = L.map (·.1) := by
   rw [List.map_set]
   apply List.ext_getElem?
   intro i
   by_cases hij : j = i
   ·
    subst hij
    obtain ⟨h1, h2⟩ := List.getElem?_eq_some_iff.1 hj
    rw [List.getElem?_set_self (by simpa using h1), List.getElem?_map, hj]
    rfl
   ·
    rw [List.getElem?_set_ne hij]
  rw [this]
  exact hn
theorem putM_keys {k : κ} {v : ν} {L : List (κ × ν)} {q : κ} (h : q ∈ (putM L k v).map (·.1)) : q = k ∨ q ∈ L.map (·.1) := by
 induction L with
 | nil => simp [putM] at h; exact Or.inl h
 | cons p r ih =>
  unfold putM at h
  split at h
  ·
   simp only [List.map_cons, List.mem_cons] at h ⊢
   rcases h with h | h
   ·
    exact Or.inl h
   ·
    exact Or.inr (Or.inr h)
  ·
   simp only [List.map_cons, List.mem_cons] at h ⊢
   rcases h with h | h
   ·
    exact Or.inr (Or.inl h)
   ·
    rcases ih h with h | h
    ·
     exact Or.inl h
    ·
     exact Or.inr (Or.inr h)
def MapAt (P : Program) (kt : TypeId) (kf : κ → Value) (vf : ν → Value) (w : World) (b : Nat) (L : List (κ × ν)) : Prop :=
 ∃ es clock, w.heap[b]? = some (.map es clock) ∧ es.toList.map (fun e => (e.key, e.val)) = L.map (fun p => (kf p.1, vf p.2)) ∧ (L.map (·.1)).Nodup ∧ ∀ p ∈ L, ∃ l, keyOf P kt (kf p.1) = some l
variable {P : Program} {kt : TypeId} {kf : κ → Value} {vf : ν → Value} {w : World} {b : Nat} {L : List (κ × ν)}
omit [DecidableEq κ] in
theorem MapAt.made (w : World) : MapAt P kt kf vf (w.alloc (.map #[] 0)) w.heap.size ([] : List (κ × ν)) := ⟨#[], 0, (MapKept.heap_alloc w _).1, by simp, by simp, by simp⟩
omit [DecidableEq κ] in
theorem MapAt.keep {w' : World} (h : MapAt P kt kf vf w b L) (hk : w'.heap[b]? = w.heap[b]?) : MapAt P kt kf vf w' b L := by
 obtain ⟨es, clock, hb, h2⟩ := h
 exact ⟨es, clock, hk.trans hb, h2⟩
omit [DecidableEq κ] in
theorem MapAt.nodup (h : MapAt P kt kf vf w b L) : (L.map (·.1)).Nodup := by
 obtain ⟨_, _, _, _, h, _⟩ := h
 exact h
theorem MapAt.find (h : MapAt P kt kf vf w b L) (K : Keyed P kt) (hinj : ∀ x y, kf x = kf y → x = y) {k : κ} (hk : ∃ l, keyOf P kt (kf k) = some l) : ∃ es clock, w.heap[b]? = some (.map es clock) ∧ es.toList.map (fun e => (e.key, e.val)) = L.map (fun p => (kf p.1, vf p.2)) ∧
  (((Instr.findKey kt (kf k) es.toList).run P w = .ok none w ∧ findM L k = none) ∨ ∃ j e v, (Instr.findKey kt (kf k) es.toList).run P w = .ok (some (j, e.val)) w ∧ es.toList[j]? = some e ∧ e.key = kf k ∧ e.val = vf v ∧ L[j]? = some (k, v) ∧ findM L k = some v) := by
 obtain ⟨es, clock, hb, he, hn, hl⟩ := h
 obtain ⟨l, hkl⟩ := hk
 refine ⟨es, clock, hb, he, ?_⟩
 have pair : ∀ (j : Nat) (e : MapEntry), es.toList[j]? = some e → ∃ p, L[j]? = some p ∧ e.key = kf p.1 ∧ e.val = vf p.2 := by
  intro j e h1
  have h2 : (es.toList.map (fun e => (e.key, e.val)))[j]? = some (e.key, e.val) := by rw [List.getElem?_map, h1]; rfl
  rw [he, List.getElem?_map, Option.map_eq_some_iff] at h2
  obtain ⟨p, h3, h4⟩ := h2
  simp only [Prod.mk.injEq] at h4
  exact ⟨p, h3, h4.1.symm, h4.2.symm⟩
 have pair' : ∀ p ∈ L, ∃ e ∈ es.toList, e.key = kf p.1 := by
  intro p hp
  have h2 : (kf p.1, vf p.2) ∈ L.map (fun p => (kf p.1, vf p.2)) := List.mem_map.2 ⟨p, hp, rfl⟩
  rw [← he] at h2
  obtain ⟨e, h3, h4⟩ := List.mem_map.1 h2
  simp only [Prod.mk.injEq] at h4
  exact ⟨e, h3, h4.1⟩
 rcases K.find w hkl es.toList (fun e he' => by
  obtain ⟨j, hj⟩ := List.mem_iff_getElem?.1 he'
  obtain ⟨p, h1, h2, _⟩ := pair j e hj
  rw [h2]
  exact hl p (List.mem_of_getElem? h1)) with ⟨h1, h2⟩ | ⟨j, e, h1, h2, h3⟩
 ·
  refine Or.inl ⟨h1, findM_none.2 fun p hp hpk => ?_⟩
  obtain ⟨e, h3, h4⟩ := pair' p hp
  exact h2 e h3 (by rw [h4, hpk])
 ·
  obtain ⟨p, h4, h5, h6⟩ := pair j e h2
  have hpk : p.1 = k := hinj _ _ (h5.symm.trans h3)
  have h7 : L[j]? = some (k, p.2) := by rw [h4, ← hpk]
  exact Or.inr ⟨j, e, p.2, h1, h2, h3, h6, h7, findM_at hn h7⟩
def lookV (c : Bool) (z : Value) (vf : ν → Value) : Option ν → Value
 | none => if c then .tuple #[z, .bool false] else z
 | some v => if c then .tuple #[vf v, .bool true] else vf v
theorem MapAt.lookup (h : MapAt P kt kf vf w b L) (c : Bool) (K : Keyed P kt) (hinj : ∀ x y, kf x = kf y → x = y) {t e : TypeId} (ht : P.underlying t = some (.map kt e)) {z : Value} (hz : (zeroValue e).run P w = .ok z w) {k : κ} (hk : ∃ l, keyOf P kt (kf k) = some l) :
  (Instr.lookup t (.map (some b)) (kf k) c).run P w = .ok (lookV c z vf (findM L k)) w := by
 obtain ⟨l, hkl⟩ := hk
 obtain ⟨es, clock, hb, he, h | ⟨j, e, v, h1, h2, h3, h4, _, h5⟩⟩ := h.find K hinj ⟨l, hkl⟩
 ·
  rw [h.2]
  simp [lookV, Instr.lookup, run_underlying ht, MapKept.run_getObj_map hb, K.check w _ hkl, h.1, hz, Result.andThen]
 ·
  rw [h5]
  simp [lookV, Instr.lookup, run_underlying ht, MapKept.run_getObj_map hb, K.check w _ hkl, h1, h4, Result.andThen]
theorem MapAt.update (h : MapAt P kt kf vf w b L) (K : Keyed P kt) (hinj : ∀ x y, kf x = kf y → x = y) {t e : TypeId} (ht : P.underlying t = some (.map kt e)) {k : κ} (hk : ∃ l, keyOf P kt (kf k) = some l) (v : ν) :
  ∃ w', (Instr.mapUpdate t (.map (some b)) (kf k) (vf v)).run P w = .ok () w' ∧ MapAt P kt kf vf w' b (putM L k v) ∧ Only [b] w w' := by
 obtain ⟨l, hkl⟩ := hk
 have hn := h.nodup
 have hl : ∀ p ∈ L, ∃ l, keyOf P kt (kf p.1) = some l := by obtain ⟨_, _, _, _, _, h⟩ := h; exact h
 have hl' : ∀ p ∈ putM L k v, ∃ l, keyOf P kt (kf p.1) = some l := by
  intro p hp
  rcases putM_keys (List.mem_map.2 ⟨p, hp, rfl⟩) with h | h
  ·
   rw [h]; exact ⟨l, hkl⟩
  ·
   obtain ⟨q, hq, he⟩ := List.mem_map.1 h
   rw [← he]
   exact hl q hq
 obtain ⟨es, clock, hb, he, h | ⟨j, e, u, h1, h2, h3, h4, h6, h5⟩⟩ := h.find K hinj ⟨l, hkl⟩
 ·
  refine ⟨setBlock w b (.map (es.push ⟨kf k, vf v, clock⟩) (clock + 1)), ?_, ⟨_, _, heap_setBlock_same hb _, ?_, putM_nodup hn, hl'⟩, ⟨rfl, rfl, rfl, by simp [setBlock], fun i _ hi => heap_setBlock_other hb _ (by simpa using hi)⟩⟩
  ·
   simp [Instr.mapUpdate, run_underlying ht, MapKept.run_getObj_map hb, K.check w false hkl, h.1, MapKept.run_setObj_map _ hb, Result.andThen, setBlock]
  ·
   rw [putM_new h.2, Array.toList_push, List.map_append, List.map_append, he]
   rfl
 ·
  have hj : es[j]? = some e := by rw [← Array.getElem?_toList]; exact h2
  refine ⟨setBlock w b (.map (es.modify j fun e => { e with key := kf k, val := vf v }) clock), ?_, ⟨_, _, heap_setBlock_same hb _, ?_, putM_nodup hn, hl'⟩, ⟨rfl, rfl, rfl, by simp [setBlock], fun i _ hi => heap_setBlock_other hb _ (by simpa using hi)⟩⟩
  ·
   simp [Instr.mapUpdate, run_underlying ht, MapKept.run_getObj_map hb, K.check w false hkl, h1, MapKept.run_setObj_map _ hb, Result.andThen, setBlock, hj, h3, K.stays w hkl]
  ·
   rw [putM_set hn h6, List.map_set, ← he, Array.toList_modify]
   apply List.ext_getElem?
   intro i
   rw [List.getElem?_map, List.getElem?_modify]
   by_cases hij : j = i
   ·
    subst hij
    rw [List.getElem?_set_self (by have := (List.getElem?_eq_some_iff.1 h2).1; simpa using this)]
    simp [hj]
   ·
    rw [List.getElem?_set_ne hij, List.getElem?_map]
    simp [hij]
theorem wpList_lookup_at (w : World) {ops : Array Oper} {rest : List Oper} {o : Oper} {a : Act} {Q : Exit → Act → World → Prop} (hg : o.guard = none) (m x : Operand) (t : TypeId) (c : Bool) (hop : o.op = Op.lookup t m x c)
  (kt e : TypeId) (K : Keyed P kt) (ht : P.underlying t = some (.map kt e)) (z : Value) (hz : (zeroValue e).run P w = .ok z w) {kf : κ → Value} (hinj : ∀ x y, kf x = kf y → x = y) {vf : ν → Value} {L : List (κ × ν)} (b : Nat)
  (hM : MapAt P kt kf vf w b L) (k : κ) (hk : ∃ l, keyOf P kt (kf k) = some l) (hm : a.eval m = .map (some b)) (hx : a.eval x = kf k) (r : Option ν) (hr : findM L k = r)
  (hK : wpList P ops Q rest (a.put o.dst (lookV c z vf r)) w) : wpList P ops Q (o :: rest) a w := by
 subst hr
 refine wpList_plain hg fun K' hK' => ?_
 have hrun := hM.lookup c K hinj ht hz hk
 unfold Oper.wp
 simp [execOp, hop, hm, hx, hrun, Result.andThen]
 exact hK' _ _ hK
theorem wpList_mapUpdate_at (w : World) {ops : Array Oper} {rest : List Oper} {o : Oper} {a : Act} {Q : Exit → Act → World → Prop} (hg : o.guard = none) (m x y : Operand) (t : TypeId) (hop : o.op = Op.mapUpdate t m x y)
  (kt e : TypeId) (K : Keyed P kt) (ht : P.underlying t = some (.map kt e)) {kf : κ → Value} (hinj : ∀ x y, kf x = kf y → x = y) {vf : ν → Value} {L : List (κ × ν)} (b : Nat)
  (hM : MapAt P kt kf vf w b L) (k : κ) (hk : ∃ l, keyOf P kt (kf k) = some l) (v : ν) (hm : a.eval m = .map (some b)) (hx : a.eval x = kf k) (hy : a.eval y = vf v)
  (hK : ∀ w', MapAt P kt kf vf w' b (putM L k v) → Only [b] w w' → wpList P ops Q rest (a.put o.dst undef) w') : wpList P ops Q (o :: rest) a w := by
 refine wpList_plain hg fun K' hK' => ?_
 obtain ⟨w', hrun, r1, r2⟩ := hM.update K hinj ht hk v
 unfold Oper.wp
 simp [execOp, hop, hm, hx, hy, hrun, Result.andThen]
 exact hK' _ _ (hK w' r1 r2)
end
end Go.Proofs.Ytfhlddbngjlhbaa
