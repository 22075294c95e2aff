/-
  Parts of a proof, joined: Bun, Expr, Rdx, Text, Own, Sig, Cond, Ints. No condition.
-/
import Derived.Test.YtbflhjjnemdecaaProg
import Derived.Lib.ItoaNum
import Derived.Lib.Bytealg
import Derived.Shelf.SlSortCmp.WholeK
import Derived.Test.YtbflhjjnemdecaaPk1
namespace Go.Proofs.Ytbflhjjnemdecaa
set_option linter.unusedVariables false
set_option linter.unusedSimpArgs false
open Go.ChangeShapes Go.WideShapes Go.ChangeAt Go.RowKit Go.Deep
inductive Item where
 | app (t : TypeId) (size n : Nat) (ds : List D) (v : Value)
 | box (g t : Nat) (cur : List Value)
 | one (g : Nat) (P : World → Prop)
 | own (ds : List D) (vs : List Value)
 | pool (w0 : World) (E : List (D × Value))
 | gone
def Item.on (S : Nat → Prop) (w : World) : Item → Prop
 | .app t size n ds v => AppS S w t size n ds v
 | .box g t cur => S g ∧ Blk w g t cur
 | .one g P => S g ∧ g < w.heap.size ∧ ∀ w', w'.heap[g]? = w.heap[g]? → P w'
 | .own ds vs => OwS S w ds vs
 | .pool w0 E => ∀ w', w.heap.size ≤ w'.heap.size → (∀ b, b < w0.heap.size → w'.heap[b]? = w0.heap[b]?) → (∀ b, b < w.heap.size → S b → w'.heap[b]? = w.heap[b]?) → ∀ x ∈ E, Rd w' x.1 x.2
 | .gone => True
theorem Item.keep {S : Nat → Prop} {w w' : World} (hz : w.heap.size ≤ w'.heap.size) : ∀ {it : Item}, it.on S w → (∀ b, b < w.heap.size → S b → w'.heap[b]? = w.heap[b]?) → it.on S w'
 | .app .., h, hk => AppS.keep h hk
 | .box .., h, hk => ⟨h.1, h.2.keep (hk _ h.2.lt h.1)⟩
 | .one g P, h, hk => by
  have e := hk g h.2.1 h.1
  refine ⟨h.1, ?_, fun w1 h1 => h.2.2 w1 (h1.trans e)⟩
  have hs : (w.heap[g]?).isSome = true := by simp [h.2.1]
  rw [← e] at hs
  simpa using hs
 | .own .., h, hk => OwS.keep h hk
 | .pool .., h, hk => fun w2 h1 h2 h3 => h w2 (Nat.le_trans hz h1) h2 fun b hb hs => (h3 b (Nat.lt_of_lt_of_le hb hz) hs).trans (hk b hb hs)
 | .gone, _, _ => trivial
theorem Item.more {S T : Nat → Prop} {w : World} : ∀ {it : Item}, it.on S w → (∀ b, b < w.heap.size → S b → T b) → it.on T w
 | .app .., h, hs => AppS.more h hs
 | .box .., h, hs => ⟨hs _ h.2.lt h.1, h.2⟩
 | .one .., h, hs => ⟨hs _ h.2.1 h.1, h.2⟩
 | .own .., h, hs => OwS.more h hs
 | .pool .., h, hs => fun w2 h1 h2 h3 => h w2 h1 h2 fun b hb hS => h3 b hb (hs b hb hS)
 | .gone, _, _ => trivial
def Bun (B : Nat) (w : World) (items : List Item) : Prop := ∃ own : Nat → Nat, ∀ (i : Nat) (it : Item), items[i]? = some it → it.on (fun b => B ≤ b ∧ b < w.heap.size ∧ own b = i) w
theorem Bun.nil {B : Nat} {w : World} : Bun B w [] := ⟨fun _ => 0, fun i it h => by simp at h⟩
theorem set_none {items : List Item} : items.set items.length .gone = items := List.set_eq_of_length_le (Nat.le_refl _)
theorem bun_turn {B : Nat} {w w' : World} {items : List Item} {own : Nat → Nat} (h : ∀ (i : Nat) (it : Item), items[i]? = some it → it.on (fun b => B ≤ b ∧ b < w.heap.size ∧ own b = i) w) (hz : w.heap.size ≤ w'.heap.size) (k j : Nat) {it' : Item}
  (ho : ∀ b, b < w.heap.size → own b ≠ k → own b ≠ j → w'.heap[b]? = w.heap[b]?) (hn : it'.on (fun b => B ≤ b ∧ b < w'.heap.size ∧ (w.heap.size ≤ b ∨ own b = k ∨ own b = j)) w') :
  Bun B w' ((items.set j .gone).set k it') := by
 refine ⟨fun b => if w.heap.size ≤ b ∨ own b = j then k else own b, fun i it hi => ?_⟩
 by_cases hik : k = i
 ·
  subst hik
  have hl : k < (items.set j .gone).length := by have := (List.getElem?_eq_some_iff.1 hi).1; simpa using this
  rw [List.getElem?_set_self hl] at hi
  obtain rfl := Option.some.inj hi
  refine Item.more hn fun b _ hb => ⟨hb.1, hb.2.1, ?_⟩
  by_cases hc : w.heap.size ≤ b ∨ own b = j
  ·
   dsimp only; rw [if_pos hc]
  ·
   dsimp only; rw [if_neg hc]
   omega
 ·
  rw [List.getElem?_set_ne hik] at hi
  by_cases hij : j = i
  ·
   subst hij
   have hl : j < items.length := by have := (List.getElem?_eq_some_iff.1 hi).1; simpa using this
   rw [List.getElem?_set_self hl] at hi
   obtain rfl := Option.some.inj hi
   trivial
  ·
   rw [List.getElem?_set_ne hij] at hi
   have h1 := Item.keep (w' := w') hz (h i it hi) fun b hb hs => ho b hb (by rw [hs.2.2]; omega) (by rw [hs.2.2]; omega)
   refine Item.more h1 fun b _ hb => ⟨hb.1, by omega, ?_⟩
   have : ¬ (w.heap.size ≤ b ∨ own b = j) := by omega
   dsimp only
   rw [if_neg this]
   exact hb.2.2
theorem Bun.keep {B : Nat} {w w' : World} {items : List Item} (h : Bun B w items) (hz : w.heap.size ≤ w'.heap.size) (hk : ∀ b, B ≤ b → b < w.heap.size → w'.heap[b]? = w.heap[b]?) : Bun B w' items := by
 obtain ⟨own, h⟩ := h
 refine ⟨fun b => if w.heap.size ≤ b then items.length else own b, fun i it hi => ?_⟩
 have hl := (List.getElem?_eq_some_iff.1 hi).1
 have h1 := Item.keep (w' := w') hz (h i it hi) fun b hb hs => hk b hs.1 hb
 refine Item.more h1 fun b _ hb => ⟨hb.1, by omega, ?_⟩
 dsimp only
 rw [if_neg (by omega)]
 exact hb.2.2
theorem Bun.below {B : Nat} {w w' : World} {items : List Item} (h : Bun B w items) (hb : Below w.heap.size w w') : Bun B w' items := h.keep hb.size fun b _ hl => hb.block b hl
theorem Bun.alloc {B : Nat} {w : World} {items : List Item} (h : Bun B w items) (o : Obj) : Bun B (w.alloc o) items := h.below (Below.alloc (Below.refl _ _) (Nat.le_refl _) o)
theorem Bun.push {B : Nat} {w w' : World} {items : List Item} {it : Item} (h : Bun B w items) (hb : Below w.heap.size w w') (hi : it.on (fun b => B ≤ b ∧ b < w'.heap.size ∧ w.heap.size ≤ b) w') : Bun B w' (items ++ [it]) := by
 have hz := hb.size
 obtain ⟨own, h⟩ := h
 refine ⟨fun b => if w.heap.size ≤ b then items.length else own b, fun i it' h' => ?_⟩
 by_cases hl : i < items.length
 ·
  rw [List.getElem?_append_left hl] at h'
  have h1 := Item.keep (w' := w') hz (h i it' h') fun b hb' _ => hb.block b hb'
  refine Item.more h1 fun b _ hb' => ⟨hb'.1, by omega, ?_⟩
  dsimp only
  rw [if_neg (by omega)]
  exact hb'.2.2
 ·
  have hi' := (List.getElem?_eq_some_iff.1 h').1
  simp only [List.length_append, List.length_cons, List.length_nil] at hi'
  obtain rfl : i = items.length := by omega
  simp only [List.getElem?_append_right (Nat.le_refl _), Nat.sub_self, List.getElem?_cons_zero, Option.some.injEq] at h'
  subst h'
  exact Item.more hi fun b _ hb' => ⟨hb'.1, hb'.2.1, by dsimp only; rw [if_pos hb'.2.2]⟩
theorem Bun.push_box {B : Nat} {w : World} {items : List Item} (h : Bun B w items) (hB : B ≤ w.heap.size) (t : TypeId) (cur : Array Value) : Bun B (w.alloc (.cells cur t)) (items ++ [.box w.heap.size t cur.toList]) :=
 h.push (Below.alloc (Below.refl _ _) (Nat.le_refl _) _) ⟨⟨hB, by simp, Nat.le_refl _⟩, Blk.made w t cur⟩
theorem Bun.push_empty {B : Nat} {w : World} {items : List Item} (h : Bun B w items) (hB : B ≤ w.heap.size) (t : TypeId) (size : Nat) : Bun B (w.alloc (.cells #[] t)) (items ++ [.app t size 0 [] (.slice (some ⟨w.heap.size, 0, none⟩) 0 0)]) :=
 h.push (Below.alloc (Below.refl _ _) (Nat.le_refl _) _) ⟨[], [], ⟨by simp, Or.inr ⟨w.heap.size, 0, #[], rfl, Nat.zero_le _, by simpa [Blk] using Blk.made w t #[], by omega, by simp [maxLen], by simp, by simp⟩⟩, Ows.nil, by simp, by simp, fun b hb => by
  simp only [Value.ownBlock, Option.some.injEq] at hb
  subst hb
  exact ⟨hB, by simp, Nat.le_refl _⟩⟩
theorem Bun.push_nil {B : Nat} {w : World} {items : List Item} (h : Bun B w items) (t : TypeId) (size : Nat) : Bun B w (items ++ [.app t size 0 [] (.slice none 0 0)]) :=
 h.push (Below.refl _ _) ⟨[], [], World.ownsRow_nil _ _ _ _, Ows.nil, by simp, by simp, fun b hb => by simp [Value.ownBlock] at hb⟩
theorem Bun.take {B : Nat} {w : World} {items : List Item} (h : Bun B w items) (n : Nat) : Bun B w (items.take n) := by
 obtain ⟨own, h⟩ := h
 refine ⟨own, fun i it hi => h i it ?_⟩
 rw [List.getElem?_take] at hi
 split at hi
 ·
  exact hi
 ·
  cases hi
theorem AppS.rd {S : Nat → Prop} {w : World} {t size n : Nat} {ds : List D} {v : Value} (h : AppS S w t size n ds v) : Rd w (.sl size n ds) v :=
 (AppS.app (W := { w with heap := #[] }) h fun b _ => Nat.zero_le _).rd
theorem Bun.app {B : Nat} {w : World} {items : List Item} (h : Bun B w items) (k : Nat) {t size n : Nat} {ds : List D} {v : Value} (hk : items[k]? = some (.app t size n ds v)) : ∃ own : Nat → Nat, AppS (fun b => B ≤ b ∧ b < w.heap.size ∧ own b = k) w t size n ds v := by
 obtain ⟨own, h⟩ := h
 exact ⟨own, h k _ hk⟩
theorem Bun.shape {B : Nat} {w : World} {items : List Item} (h : Bun B w items) (k : Nat) {t size n : Nat} {ds : List D} {v : Value} (hk : items[k]? = some (.app t size n ds v)) : ∃ a cap, v = .slice a n cap ∧ n ≤ cap ∧ cap ≤ maxLen := by
 obtain ⟨own, h1⟩ := h.app k hk
 exact h1.shape
theorem Bun.box {B : Nat} {w : World} {items : List Item} (h : Bun B w items) (k : Nat) {g t : Nat} {cur : List Value} (hk : items[k]? = some (.box g t cur)) : Blk w g t cur ∧ B ≤ g := by
 obtain ⟨own, h⟩ := h
 have := h k _ hk
 exact ⟨this.2, this.1.1⟩
theorem AppS.foot {S : Nat → Prop} {w : World} {t size n : Nat} {ds : List D} {v : Value} (h1 : AppS S w t size n ds v) : ∃ F, Ow w (.sl size n ds) v F ∧ F.Nodup ∧ ∀ b ∈ F, S b := by
 have hlen := (AppS.app (W := { w with heap := #[] }) h1 fun b _ => Nat.zero_le _).len
 obtain ⟨xs, F, a1, a2, a3, a4, a5⟩ := h1
 have hxl := a1.1
 rcases a1.2 with ⟨rfl, rfl⟩ | ⟨g, cap, cur, rfl, hg, hb, h5, h6, h7, h8⟩
 ·
  exact ⟨[], by simp only [Ow]; exact ⟨_, 0, rfl, by omega, by simp [maxLen], hlen, by simp, Or.inl (by simp)⟩, by simp, by simp⟩
 ·
  by_cases h0 : n = 0
  ·
   exact ⟨[], by simp only [Ow]; exact ⟨_, cap, rfl, h5, h6, hlen, by simp, Or.inl (by simp [h0])⟩, by simp, by simp⟩
  ·
   have hblk : Blk w g t cur.toList := by simpa [Blk] using hb
   refine ⟨g :: F, by simp only [Ow]; exact ⟨_, cap, rfl, h5, h6, hlen, by simp, Or.inr ⟨g, 0, xs, F, rfl, rfl, hblk.free, hblk.row (by rw [hxl]; exact h8), a2⟩⟩, ?_, ?_⟩
   ·
    rw [List.nodup_cons]
    exact ⟨fun hm => (a4 g hm).2 rfl, a3⟩
   ·
    intro b hm
    rcases List.mem_cons.1 hm with rfl | hm
    ·
     exact a5 _ rfl
    ·
     exact (a4 b hm).1
theorem Bun.fresh2 {B : Nat} {W w : World} {items : List Item} (h : Bun B w items) (hB : W.heap.size ≤ B) (i k : Nat) (hne : i ≠ k) {t size n : Nat} {ds : List D} {v : Value} (hi : items[i]? = some (.app t size n ds v)) {t' size' n' : Nat} {ds' : List D} {v' : Value}
  (hk : items[k]? = some (.app t' size' n' ds' v')) : Freshs W w [.sl size n ds, .sl size' n' ds'] [v, v'] := by
 obtain ⟨own, h⟩ := h
 obtain ⟨F, f1, f2, f3⟩ := AppS.foot (h i _ hi)
 obtain ⟨G, g1, g2, g3⟩ := AppS.foot (h k _ hk)
 refine ⟨F ++ (G ++ []), Ows.cons f1 (Ows.cons g1 Ows.nil), ?_, ?_⟩
 ·
  rw [List.append_nil, List.nodup_append]
  refine ⟨f2, g2, fun p hp q hq hpq => ?_⟩
  have h1 := (f3 p hp).2.2
  have h2 := (g3 q hq).2.2
  rw [hpq] at h1
  omega
 ·
  intro b hb
  rw [List.append_nil] at hb
  rcases List.mem_append.1 hb with hb | hb
  ·
   have := (f3 b hb).1; omega
  ·
   have := (g3 b hb).1; omega
theorem Bun.store {B : Nat} {w : World} {items : List Item} (h : Bun B w items) (k : Nat) {g t : Nat} {cur : List Value} (hk : items[k]? = some (.box g t cur)) (i : Nat) (v : Value) : Bun B (w.setCell ⟨g, i, none⟩ v) (items.set k (.box g t (cur.set i v))) := by
 obtain ⟨own, h⟩ := h
 have hit := h k _ hk
 have hsz : (w.setCell ⟨g, i, none⟩ v).heap.size = w.heap.size := by simp [World.setCell]
 have := bun_turn (w' := w.setCell ⟨g, i, none⟩ v) h (by omega) k (items.length) (it' := .box g t (cur.set i v)) (fun b hb h1 _ => Below.heap_setCell _ _ _ _ (fun e => h1 (by rw [e]; exact hit.1.2.2)))
  ⟨⟨hit.1.1, by rw [hsz]; exact hit.1.2.1, Or.inr (Or.inl hit.1.2.2)⟩, hit.2.set i v⟩
 rwa [set_none] at this
theorem wpList_append_bun {P : Program} (w : World) {ops : Array Oper} {rest : List Oper} {o : Oper} {a : Act} {Q : Exit → Act → World → Prop} (hgd : o.guard = none) (s x : Operand) (t : TypeId)
  (ho : o.op = .call { callee := .builtin .append, args := #[s, x], argTypes := #[t, t] })
  (e : TypeId) (z : Value) (size bytes : Nat) (ht : P.underlying t = some (.slice e)) (hinfo : (P.info? e).map (fun i => (i.zero, i.size, i.bytes)) = some (some z, size, bytes)) (hzs : z.cells.size = size) (hsz : 0 < size)
  {B : Nat} {items : List Item} (hb : Bun B w items) (hB : B ≤ w.heap.size) (k : Nat) (v : Value) {n : Nat} {ds : List D} (hk : items[k]? = some (.app e size n ds v)) (hs : a.eval s = v)
  (ad : Addr) (m c : Nat) {es : List D} (news : List Value) (hx : a.eval x = .slice (some ad) m c) (hnews : ∀ j u, news[j]? = some u → w.cell? (ad.add j) = some u) (hes : OwS (fun _ => False) w es news)
  (hl : news.length = m * size) (h1 : ∀ u ∈ news, u.oneCell' = true) (hm : 0 < m) (hbytes : (n + m) * bytes ≤ 140737488355328) (h63 : n + m ≤ maxLen)
  (h : ∀ g cap w', Bun B w' (items.set k (.app e size (n + m) (ds ++ es) (.slice (some ⟨g, 0, none⟩) (n + m) cap))) → Below B w w' → wpList P ops Q rest (a.put o.dst (.slice (some ⟨g, 0, none⟩) (n + m) cap)) w') : wpList P ops Q (o :: rest) a w := by
 obtain ⟨own, hb⟩ := hb
 refine wpList_append_s w hgd s x t ho e z size bytes ht hinfo hzs hsz (S := fun b => B ≤ b ∧ b < w.heap.size ∧ own b = k) (T := fun _ => False) v hs (hb k _ hk) ad m c news hx hnews hes (fun _ _ _ h => h) hl h1 hm hbytes h63 ?_
 intro g cap w' hap hsp
 refine h g cap w' ?_ (hsp.below hB fun b hb' => hb'.1)
 have := bun_turn (w' := w') hb hsp.size k (items.length) (it' := .app e size (n + m) (ds ++ es) (.slice (some ⟨g, 0, none⟩) (n + m) cap)) (fun b hb' h2 _ => hsp.block b hb' (fun h3 => h2 h3.2.2))
  (AppS.more hap fun b hb' hc => by
   have hz := hsp.size
   rcases hc with hc | hc | hc
   ·
    exact ⟨hc.1, hb', Or.inr (Or.inl hc.2.2)⟩
   ·
    exact hc.elim
   ·
    exact ⟨by omega, hb', Or.inl hc.1⟩)
 rwa [set_none] at this
theorem Bun.push_own {B : Nat} {w w' : World} {items : List Item} {ds : List D} {vs : List Value} (h : Bun B w items) (hb : Below w.heap.size w w') (hB : B ≤ w.heap.size) (hf : Freshs w w' ds vs) : Bun B w' (items ++ [.own ds vs]) :=
 h.push hb (by obtain ⟨F, f1, f2, f3⟩ := hf; exact ⟨F, f1, f2, fun b hm => ⟨by have := f3 b hm; omega, f1.lt b hm, f3 b hm⟩⟩)
theorem wpList_append_bun_own {P : Program} (w : World) {ops : Array Oper} {rest : List Oper} {o : Oper} {a : Act} {Q : Exit → Act → World → Prop} (hgd : o.guard = none) (s x : Operand) (t : TypeId)
  (ho : o.op = .call { callee := .builtin .append, args := #[s, x], argTypes := #[t, t] })
  (e : TypeId) (bytes : Nat) (ht : P.underlying t = some (.slice e)) (hinfo : (P.info? e).map (fun i => (i.zero, i.size, i.bytes)) = some (some (.slice none 0 0), 1, bytes))
  {B : Nat} {items : List Item} (hb : Bun B w items) (hB : B ≤ w.heap.size) (k : Nat) (v : Value) {n : Nat} {ds : List D} (hk : items[k]? = some (.app e 1 n ds v)) (hs : a.eval s = v)
  (j : Nat) (hjk : j ≠ k) (u : Value) {t' size' n' : Nat} {ds' : List D} (hj : items[j]? = some (.app t' size' n' ds' u))
  (ad : Addr) (hx : a.eval x = .slice (some ad) 1 1) (hnews : ∀ i q, [u][i]? = some q → w.cell? (ad.add i) = some q) (hbytes : (n + 1) * bytes ≤ 140737488355328) (h63 : n + 1 ≤ maxLen)
  (h : ∀ g cap w', Bun B w' ((items.set j .gone).set k (.app e 1 (n + 1) (ds ++ [.sl size' n' ds']) (.slice (some ⟨g, 0, none⟩) (n + 1) cap))) → Below B w w' → wpList P ops Q rest (a.put o.dst (.slice (some ⟨g, 0, none⟩) (n + 1) cap)) w') : wpList P ops Q (o :: rest) a w := by
 obtain ⟨own, hb⟩ := hb
 have hap' := hb j _ hj
 obtain ⟨a', cap', e1, _⟩ := hap'.shape
 subst e1
 have hows : OwS (fun b => B ≤ b ∧ b < w.heap.size ∧ own b = j) w [.sl size' n' ds'] [.slice a' n' cap'] := by
  obtain ⟨F, f1, f2, f3⟩ := AppS.foot hap'
  exact ⟨F ++ [], Ows.cons f1 Ows.nil, by simpa using f2, by simpa using f3⟩
 refine wpList_append_s w hgd s x t ho e (.slice none 0 0) 1 bytes ht hinfo rfl (by omega) (S := fun b => B ≤ b ∧ b < w.heap.size ∧ own b = k) (T := fun b => B ≤ b ∧ b < w.heap.size ∧ own b = j) v hs (hb k _ hk) ad 1 1 [.slice a' n' cap'] hx hnews hows (fun b _ h1 h2 => hjk (h2.2.2.symm.trans h1.2.2)) rfl (by simp [Value.oneCell']) (by omega) hbytes h63 ?_
 intro g cap w' hap hsp
 refine h g cap w' ?_ (hsp.below hB fun b hb' => hb'.1)
 exact bun_turn (w' := w') hb hsp.size k j (it' := .app e 1 (n + 1) (ds ++ [.sl size' n' ds']) (.slice (some ⟨g, 0, none⟩) (n + 1) cap)) (fun b hb' h2 _ => hsp.block b hb' (fun h3 => h2 h3.2.2))
  (AppS.more hap fun b hb' hc => by
   have hz := hsp.size
   rcases hc with hc | hc | hc
   ·
    exact ⟨hc.1, hb', Or.inr (Or.inl hc.2.2)⟩
   ·
    exact ⟨hc.1, hb', Or.inr (Or.inr hc.2.2)⟩
   ·
    exact ⟨by omega, hb', Or.inl hc.1⟩)
end Go.Proofs.Ytbflhjjnemdecaa

namespace Go.Proofs.Ytbflhjjnemdecaa
set_option linter.unusedVariables false
set_option linter.unusedSimpArgs false
open Go.ChangeShapes Go.WideShapes Go.ChangeAt Go.RowKit Go.Deep
inductive Ex where
 | mk (kind num : Int) (kids : List Ex)
def Ex.kind : Ex → Int | .mk k _ _ => k
def Ex.num : Ex → Int | .mk _ n _ => n
def Ex.kids : Ex → List Ex | .mk _ _ ks => ks
theorem Ex.eta : ∀ e : Ex, e = .mk e.kind e.num e.kids | .mk _ _ _ => rfl
mutual
def Ex.cells : Ex → List D
 | .mk k n ks => [.int k, .int n, .sl 3 ks.length (Ex.cellsL ks)]
def Ex.cellsL : List Ex → List D
 | [] => []
 | e :: r => e.cells ++ Ex.cellsL r
end
def kidsD (ks : List Ex) : D := .sl 3 ks.length (Ex.cellsL ks)
mutual
def Ex.size : Ex → Nat
 | .mk _ _ ks => 1 + Ex.sizeL ks
def Ex.sizeL : List Ex → Nat
 | [] => 0
 | e :: r => e.size + Ex.sizeL r
end
theorem Ex.cells_eq (e : Ex) : e.cells = [.int e.kind, .int e.num, kidsD e.kids] := by cases e; simp only [Ex.cells, kidsD, Ex.kind, Ex.num, Ex.kids]
theorem Ex.size_eq (e : Ex) : e.size = 1 + Ex.sizeL e.kids := by cases e; simp only [Ex.size, Ex.kids]
theorem Ex.cells_length (e : Ex) : e.cells.length = 3 := by rw [Ex.cells_eq]; rfl
theorem Ex.cellsL_length : ∀ ks : List Ex, (Ex.cellsL ks).length = ks.length * 3
 | [] => by simp [Ex.cellsL]
 | e :: r => by simp only [Ex.cellsL, List.length_append, Ex.cells_length, Ex.cellsL_length r, List.length_cons]; omega
theorem Ex.cellsL_append : ∀ a b : List Ex, Ex.cellsL (a ++ b) = Ex.cellsL a ++ Ex.cellsL b
 | [], b => by simp [Ex.cellsL]
 | e :: r, b => by simp only [List.cons_append, Ex.cellsL, Ex.cellsL_append r b, List.append_assoc]
theorem Ex.sizeL_append : ∀ a b : List Ex, Ex.sizeL (a ++ b) = Ex.sizeL a + Ex.sizeL b
 | [], b => by simp [Ex.sizeL]
 | e :: r, b => by simp only [List.cons_append, Ex.sizeL, Ex.sizeL_append r b]; omega
theorem Ex.cellsL_at : ∀ (ks : List Ex) (i : Nat) (e : Ex), ks[i]? = some e → ∀ j, j < 3 → (Ex.cellsL ks)[3 * i + j]? = e.cells[j]?
 | [], i, e, h => by simp at h
 | e0 :: r, 0, e, h => by
  simp at h
  subst h
  intro j hj
  simp only [Ex.cellsL]
  rw [Nat.mul_zero, Nat.zero_add, List.getElem?_append_left (by rw [Ex.cells_length]; exact hj)]
 | e0 :: r, i + 1, e, h => by
  intro j hj
  simp only [Ex.cellsL]
  rw [List.getElem?_append_right (by rw [Ex.cells_length]; omega), Ex.cells_length, show 3 * (i + 1) + j - 3 = 3 * i + j by omega]
  exact Ex.cellsL_at r i e (by simpa using h) j hj
theorem Ex.sizeL_mem : ∀ {ks : List Ex} {e : Ex}, e ∈ ks → e.size ≤ Ex.sizeL ks
 | [], _, h => by simp at h
 | e0 :: r, e, h => by
  simp only [Ex.sizeL]
  rcases List.mem_cons.1 h with rfl | h
  ·
   omega
  ·
   have := Ex.sizeL_mem h
   omega
theorem Ex.length_le_sizeL : ∀ ks : List Ex, ks.length ≤ Ex.sizeL ks
 | [] => Nat.le_refl _
 | e :: r => by
  have := Ex.length_le_sizeL r
  have := Ex.size_eq e
  simp only [Ex.sizeL, List.length_cons]
  omega
theorem Ex.sizeL_take_succ {ks : List Ex} {i : Nat} {e : Ex} (h : ks[i]? = some e) : Ex.sizeL (ks.take (i + 1)) = Ex.sizeL (ks.take i) + e.size := by
 obtain ⟨hi, rfl⟩ := List.getElem?_eq_some_iff.1 h
 rw [List.take_succ_eq_append_getElem hi, Ex.sizeL_append]
 simp [Ex.sizeL]
theorem Ex.sizeL_take_le (ks : List Ex) (i : Nat) : Ex.sizeL (ks.take i) ≤ Ex.sizeL ks := by
 have := Ex.sizeL_append (ks.take i) (ks.drop i)
 rw [List.take_append_drop] at this
 omega
theorem Ex.cellsL_take_succ {ks : List Ex} {i : Nat} {e : Ex} (h : ks[i]? = some e) : Ex.cellsL (ks.take (i + 1)) = Ex.cellsL (ks.take i) ++ [.int e.kind, .int e.num, kidsD e.kids] := by
 obtain ⟨hi, rfl⟩ := List.getElem?_eq_some_iff.1 h
 rw [List.take_succ_eq_append_getElem hi, Ex.cellsL_append, ← Ex.cells_eq]
 simp [Ex.cellsL]
theorem kid_at {w : World} {ks : List Ex} {a : Option Addr} {len cap : Nat} (h : Rd w (kidsD ks) (.slice a len cap)) :
  len = ks.length ∧ len ≤ cap ∧ cap ≤ maxLen ∧ (a = none → cap = 0) ∧ (ks = [] ∨ ∃ b o, a = some ⟨b, o, none⟩ ∧ b < w.heap.size ∧ ∀ (i : Nat) (e : Ex), ks[i]? = some e →
   ∃ s c, w.cell? ⟨b, o + i * 3, none⟩ = some (.int .i64 e.kind) ∧ w.cell? ⟨b, o + i * 3 + 1, none⟩ = some (.int .i64 e.num) ∧ w.cell? ⟨b, o + i * 3 + 2, none⟩ = some (.slice s e.kids.length c) ∧
    Rd w (kidsD e.kids) (.slice s e.kids.length c)) := by
 obtain ⟨h1, h2, h3, _, h5, h4⟩ := h.sl_at
 refine ⟨h1, by omega, h3, h5, ?_⟩
 rcases h4 with h4 | ⟨b, o, rfl, h4⟩
 ·
  exact Or.inl (List.eq_nil_of_length_eq_zero h4)
 ·
  by_cases hk : ks = []
  ·
   exact Or.inl hk
  right
  have each : ∀ (i : Nat) (e : Ex), ks[i]? = some e → ∃ s c, w.cell? ⟨b, o + i * 3, none⟩ = some (.int .i64 e.kind) ∧ w.cell? ⟨b, o + i * 3 + 1, none⟩ = some (.int .i64 e.num) ∧ w.cell? ⟨b, o + i * 3 + 2, none⟩ = some (.slice s e.kids.length c) ∧
    Rd w (kidsD e.kids) (.slice s e.kids.length c) := by
   intro i e he
   have c0 := Ex.cellsL_at ks i e he 0 (by omega)
   have c1 := Ex.cellsL_at ks i e he 1 (by omega)
   have c2 := Ex.cellsL_at ks i e he 2 (by omega)
   rw [Ex.cells_eq] at c0 c1 c2
   obtain ⟨x0, g0, r0⟩ := h4 _ _ c0
   obtain ⟨x1, g1, r1⟩ := h4 _ _ c1
   obtain ⟨x2, g2, r2⟩ := h4 _ _ c2
   simp only [Rd] at r0 r1
   subst r0 r1
   obtain ⟨s, c, rfl, _⟩ := Rd.slice r2
   refine ⟨s, c, ?_, ?_, ?_, r2⟩
   ·
    rw [← g0]; congr 2; omega
   ·
    rw [← g1]; congr 2; omega
   ·
    rw [← g2]; congr 2; omega
  refine ⟨b, o, rfl, ?_, each⟩
  cases ks with
  | nil => exact absurd rfl hk
  | cons e r =>
   obtain ⟨_, _, g0, _⟩ := each 0 e rfl
   exact World.block_lt_of_cell? w _ g0
theorem kid_in {w : World} {ks : List Ex} {b o len cap : Nat} (h : Rd w (kidsD ks) (.slice (some ⟨b, o, none⟩) len cap)) {i : Nat} {e : Ex} (he : ks[i]? = some e) :
  b < w.heap.size ∧ ∃ s c, w.cell? ⟨b, o + i * 3, none⟩ = some (.int .i64 e.kind) ∧ w.cell? ⟨b, o + i * 3 + 1, none⟩ = some (.int .i64 e.num) ∧ w.cell? ⟨b, o + i * 3 + 2, none⟩ = some (.slice s e.kids.length c) ∧
    Rd w (kidsD e.kids) (.slice s e.kids.length c) := by
 obtain ⟨_, _, _, _, h4⟩ := kid_at h
 rcases h4 with rfl | ⟨b', o', e1, hb, h4⟩
 ·
  simp at he
 ·
  simp only [Option.some.injEq, Addr.mk.injEq, and_true] at e1
  obtain ⟨rfl, rfl⟩ := e1
  exact ⟨hb, h4 i e he⟩
theorem kid_some {w : World} {ks : List Ex} {a : Option Addr} {len cap : Nat} (h : Rd w (kidsD ks) (.slice a len cap)) (hk : ks ≠ []) : ∃ b o, a = some ⟨b, o, none⟩ := by
 obtain ⟨_, _, _, _, h4⟩ := kid_at h
 rcases h4 with h4 | ⟨b, o, e, _⟩
 ·
  exact absurd h4 hk
 ·
  exact ⟨b, o, e⟩
def ExAt (w : World) (b o : Nat) (e : Ex) : Prop := w.cell? ⟨b, o, none⟩ = some (.int .i64 e.kind) ∧ w.cell? ⟨b, o + 1, none⟩ = some (.int .i64 e.num) ∧
 ∃ s c, w.cell? ⟨b, o + 2, none⟩ = some (.slice s e.kids.length c) ∧ Rd w (kidsD e.kids) (.slice s e.kids.length c)
theorem ExAt.lt {w : World} {b o : Nat} {e : Ex} (h : ExAt w b o e) : b < w.heap.size := World.block_lt_of_cell? w _ h.1
theorem ExAt.below {w w' : World} {b o : Nat} {e : Ex} (h : ExAt w b o e) (hb : Below w.heap.size w w') : ExAt w' b o e := by
 have hl := h.lt
 obtain ⟨h0, h1, s, c, h2, h3⟩ := h
 exact ⟨(hb.cell (p := ⟨b, o, none⟩) hl).trans h0, (hb.cell (p := ⟨b, o + 1, none⟩) hl).trans h1, s, c, (hb.cell (p := ⟨b, o + 2, none⟩) hl).trans h2, h3.below hb⟩
theorem kid_exAt {w : World} {ks : List Ex} {b o len cap : Nat} (h : Rd w (kidsD ks) (.slice (some ⟨b, o, none⟩) len cap)) {i : Nat} {e : Ex} (he : ks[i]? = some e) : ExAt w b (o + i * 3) e := by
 obtain ⟨_, s, c, g0, g1, g2, g3⟩ := kid_in h he
 exact ⟨g0, g1, s, c, g2, g3⟩
theorem Blk.exAt {w : World} {g T : Nat} {k n : Int} {ks : List Ex} {s : Option Addr} {c : Nat} (h : Blk w g T [.int .i64 k, .int .i64 n, .slice s ks.length c]) (hr : Rd w (kidsD ks) (.slice s ks.length c)) : ExAt w g 0 (.mk k n ks) :=
 ⟨h.c0, h.c1, s, c, h.c2, hr⟩
section
variable {H : Type} {enc : TypeId × Value → H} {P : Program} {w : World} {base : Nat} {sp : Nat → Bool} {hd : Bool}
end
end Go.Proofs.Ytbflhjjnemdecaa

namespace Go.Proofs.Ytbflhjjnemdecaa
set_option linter.unusedVariables false
set_option linter.unusedSimpArgs false
open Go.ChangeShapes Go.WideShapes Go.ChangeAt Go.RowKit Go.Deep
def KeptX (X : Nat → Prop) (w w' : World) : Prop := w.heap.size ≤ w'.heap.size ∧ ∀ b, b < w.heap.size → ¬ X b → w'.heap[b]? = w.heap[b]?
theorem KeptX.refl (X : Nat → Prop) (w : World) : KeptX X w w := ⟨Nat.le_refl _, fun _ _ _ => rfl⟩
theorem KeptX.trans {X : Nat → Prop} {a b c : World} (h : KeptX X a b) (k : KeptX X b c) : KeptX X a c :=
 ⟨Nat.le_trans h.1 k.1, fun i hi hx => (k.2 i (Nat.lt_of_lt_of_le hi h.1) hx).trans (h.2 i hi hx)⟩
theorem KeptX.of_below {X : Nat → Prop} {w w' : World} (h : Below w.heap.size w w') : KeptX X w w' := ⟨h.size, fun b hb _ => h.block b hb⟩
theorem KeptX.of_spares {X Y : Nat → Prop} {w w' : World} (h : Spares Y w w') (hY : ∀ b, b < w.heap.size → Y b → X b) : KeptX X w w' := ⟨h.size, fun b hb hx => h.block b hb fun hy => hx (hY b hb hy)⟩
theorem KeptX.more {X Y : Nat → Prop} {w w' : World} (h : KeptX X w w') (hs : ∀ b, b < w.heap.size → X b → Y b) : KeptX Y w w' := ⟨h.1, fun b hb hy => h.2 b hb fun hx => hy (hs b hb hx)⟩
def RdX (X : Nat → Prop) (w : World) (d : D) (v : Value) : Prop := ∀ w', KeptX X w w' → Rd w' d v
theorem RdX.rd {X : Nat → Prop} {w : World} {d : D} {v : Value} (h : RdX X w d v) : Rd w d v := h w (KeptX.refl X w)
theorem RdX.keep {X : Nat → Prop} {w w' : World} {d : D} {v : Value} (h : RdX X w d v) (hk : KeptX X w w') : RdX X w' d v := fun _ k => h _ (hk.trans k)
theorem RdX.below {X : Nat → Prop} {w w' : World} {d : D} {v : Value} (h : RdX X w d v) (hb : Below w.heap.size w w') : RdX X w' d v := h.keep (KeptX.of_below hb)
theorem RdX.less {X Y : Nat → Prop} {w : World} {d : D} {v : Value} (h : RdX X w d v) (hs : ∀ b, b < w.heap.size → Y b → X b) : RdX Y w d v := fun w' k => h w' (k.more hs)
theorem RdX.of_rd {X : Nat → Prop} {w : World} {d : D} {v : Value} (h : Rd w d v) (hX : ∀ b, X b → w.heap.size ≤ b) : RdX X w d v := fun _ k => h.keep fun b hb => k.2 b hb fun hx => by have := hX b hx; omega
theorem RdX.fresh {X : Nat → Prop} {w w' : World} {d : D} {v : Value} (h : Freshs w w' [d] [v]) (hX : ∀ b, X b → b < w.heap.size) : RdX X w' d v := by
 obtain ⟨F, h1, h2, h3⟩ := h
 intro w2 k
 exact Rds.one (h1.keep fun b hb => k.2 b (h1.lt b hb) fun hx => by have := h3 b hb; have := hX b hx; omega).rds
def RdO (W0 : World) (X F : Nat → Prop) (w : World) (d : D) (v : Value) : Prop :=
 ∀ w', w.heap.size ≤ w'.heap.size → KeptX X W0 w' → (∀ b, b < w.heap.size → F b → w'.heap[b]? = w.heap[b]?) → Rd w' d v
theorem RdO.keep {W0 : World} {X F F' : Nat → Prop} {w w' : World} {d : D} {v : Value} (h : RdO W0 X F w d v) (hz : w.heap.size ≤ w'.heap.size) (hk : ∀ b, b < w.heap.size → F b → w'.heap[b]? = w.heap[b]?) (hF : ∀ b, F b → F' b) : RdO W0 X F' w' d v :=
 fun w2 h1 h2 h3 => h w2 (Nat.le_trans hz h1) h2 fun b hb hf => (h3 b (Nat.lt_of_lt_of_le hb hz) (hF b hf)).trans (hk b hb hf)
def OutX (W0 : World) (X F : Nat → Prop) (w : World) (b : Nat) : Prop := b < w.heap.size ∧ ¬ ((b < W0.heap.size ∧ ¬ X b) ∨ F b)
theorem OutX.lt {W0 : World} {X F : Nat → Prop} {w : World} : ∀ b, OutX W0 X F w b → b < w.heap.size := fun _ h => h.1
theorem OutX.kept {W0 : World} {X F : Nat → Prop} {w w2 : World} (k : KeptX (OutX W0 X F w) w w2) (hW : KeptX X W0 w) : KeptX X W0 w2 :=
 ⟨Nat.le_trans hW.1 k.1, fun b hb hx => (k.2 b (Nat.lt_of_lt_of_le hb hW.1) fun ho => ho.2 (Or.inl ⟨hb, hx⟩)).trans (hW.2 b hb hx)⟩
theorem RdX.toOut {W0 : World} {X F : Nat → Prop} {w : World} {d : D} {v : Value} (h : RdX X W0 d v) (hW : KeptX X W0 w) : RdX (OutX W0 X F w) w d v :=
 fun w2 k => h w2 (OutX.kept k hW)
theorem RdO.ofX {W0 : World} {X F F' : Nat → Prop} {w w2 : World} {d : D} {v : Value} (h : RdX (OutX W0 X F' w) w2 d v) (hb : Below w.heap.size w w2) (hW : KeptX X W0 w) (hF : ∀ b, F' b → F b) (hn : ∀ b, w.heap.size ≤ b → b < w2.heap.size → F b) : RdO W0 X F w2 d v :=
 fun w3 hz k3 h3 => h w3 ⟨hz, fun b hb2 hno => by
  by_cases hl : b < w.heap.size
  ·
   by_cases hf : F' b
   ·
    exact h3 b hb2 (hF b hf)
   ·
    by_cases ho : b < W0.heap.size ∧ ¬ X b
    ·
     exact (k3.2 b ho.1 ho.2).trans (((hW.trans (KeptX.of_below hb)).2 b ho.1 ho.2).symm)
    ·
     exact absurd ⟨hl, fun q => q.elim ho hf⟩ hno
  ·
   exact h3 b hb2 (hn b (by omega) hb2)⟩
theorem RdO.done {W0 : World} {X F : Nat → Prop} {w : World} {d : D} {v : Value} (h : RdO W0 X F w d v) (hW : KeptX X W0 w) (hF : ∀ b, F b → ¬ X b) : RdX X w d v :=
 fun w2 k => h w2 k.1 (hW.trans k) fun b hb hf => k.2 b hb (hF b hf)
theorem foot_no {C D : List (Nat × Nat)} {G : Nat → Nat → Prop} {n i B z : Nat} {iv : Nat → Nat × Nat} {l : List Nat} (hl : ((chainOf C n i).all fun j => l.contains j) = true) (hD : ((chainOf C n i).all fun j => D.all fun p => p.1 != j) = true)
  (hb : ∀ j ∈ l, B ≤ (iv j).1 ∧ (iv j).1 ≤ (iv j).2 ∧ (iv j).2 ≤ z) {b : Nat} (hf : foot C D G n i iv b) : B ≤ b := by
 obtain ⟨j, hj, h | ⟨m, hm, hg⟩⟩ := hf
 ·
  have := List.all_eq_true.1 hl j hj
  have := (hb j (by simpa using this)).1
  omega
 ·
  have := List.all_eq_true.1 (List.all_eq_true.1 hD j hj) (j, m) hm
  simp at this
def ExX (X : Nat → Prop) (w : World) (e : Ex) (s : Option Addr) (c : Nat) : Prop := RdX X w (kidsD e.kids) (.slice s e.kids.length c)
theorem kidsD_two {X : Nat → Prop} {w : World} {g t : Nat} {x y : Ex} {sx sy : Option Addr} {cx cy : Nat} (h : Blk w g t [.int .i64 x.kind, .int .i64 x.num, .slice sx x.kids.length cx, .int .i64 y.kind, .int .i64 y.num, .slice sy y.kids.length cy]) (hg : ¬ X g)
  (hx : ExX X w x sx cx) (hy : ExX X w y sy cy) : RdX X w (kidsD [x, y]) (.slice (some ⟨g, 0, none⟩) 2 2) := by
 intro w' k
 have h' := h.keep (k.2 g h.lt hg)
 have hx' := hx w' k
 have hy' := hy w' k
 unfold kidsD
 simp only [Rd]
 have hrow : Row w' g 0 [.int .i64 x.kind, .int .i64 x.num, .slice sx x.kids.length cx, .int .i64 y.kind, .int .i64 y.num, .slice sy y.kids.length cy] := h'.row rfl
 refine ⟨some ⟨g, 0, none⟩, 2, rfl, Nat.le_refl _, by unfold maxLen; omega, by rw [Ex.cellsL_length], (fun h => by cases h), Or.inr ⟨g, 0, _, rfl, hrow, ?_⟩⟩
 simp only [Ex.cellsL, List.append_nil]
 rw [Ex.cells_eq, Ex.cells_eq]
 simp only [List.cons_append, List.nil_append, Rds, Rd]
 exact ⟨_, _, rfl, rfl, _, _, rfl, rfl, _, _, rfl, hx', _, _, rfl, rfl, _, _, rfl, rfl, _, _, rfl, hy', rfl⟩
theorem RdX.row_out {X : Nat → Prop} {w : World} {ks : List Ex} {b o len cap : Nat} (h : RdX X w (kidsD ks) (.slice (some ⟨b, o, none⟩) len cap)) {i : Nat} {x : Ex} (hx : ks[i]? = some x) : ¬ X b := by
 intro hb
 have hlt := (kid_in h.rd hx).1
 have k : KeptX X w { w with heap := w.heap.setIfInBounds b (.cells #[] 0) } :=
  ⟨by simp, fun j hj hn => by
   have hne : b ≠ j := fun e => hn (e ▸ hb)
   simp [Array.getElem?_setIfInBounds_ne hne]⟩
 obtain ⟨-, s', c', k0, -⟩ := kid_in (h _ k) hx
 have hblk : Blk { w with heap := w.heap.setIfInBounds b (.cells #[] 0) } b 0 [] := by
  unfold Blk
  simp [hlt]
 rw [hblk.cell] at k0
 simp at k0
theorem kidX {X : Nat → Prop} {w : World} {ks : List Ex} {b o len cap : Nat} (h : RdX X w (kidsD ks) (.slice (some ⟨b, o, none⟩) len cap)) {i : Nat} {x : Ex} (hx : ks[i]? = some x) :
  b < w.heap.size ∧ ¬ X b ∧ ∃ s c, w.cell? ⟨b, o + i * 3, none⟩ = some (.int .i64 x.kind) ∧ w.cell? ⟨b, o + i * 3 + 1, none⟩ = some (.int .i64 x.num) ∧ w.cell? ⟨b, o + i * 3 + 2, none⟩ = some (.slice s x.kids.length c) ∧ ExX X w x s c := by
 obtain ⟨hb, s, c, h0, h1, h2, h3⟩ := kid_in h.rd hx
 have hn := h.row_out hx
 refine ⟨hb, hn, s, c, h0, h1, h2, fun w' k => ?_⟩
 obtain ⟨-, s', c', k0, k1, k2, k3⟩ := kid_in (h w' k) hx
 have e := World.cell?_of_block (w := w) (w' := w') (a := ⟨b, o + i * 3 + 2, none⟩) (k.2 b hb hn)
 rw [k2, h2] at e
 simp only [Option.some.injEq, Value.slice.injEq, true_and] at e
 obtain ⟨rfl, rfl⟩ := e
 exact k3
end Go.Proofs.Ytbflhjjnemdecaa

namespace Go.Proofs.Ytbflhjjnemdecaa
set_option linter.unusedVariables false
set_option linter.unusedSimpArgs false
open Go.ChangeShapes Go.WideShapes Go.ChangeAt Go.RowKit
def bs (l : List UInt8) : ByteArray := ⟨l.toArray⟩
def dg8 (n : Nat) : UInt8 := UInt8.ofNat (48 + n)
theorem bs_add (a b : List UInt8) : bs a ++ bs b = bs (a ++ b) := by
 apply ByteArray.ext
 simp [bs, ByteArray.data_append]
theorem bs_size (a : List UInt8) : (bs a).size = a.length := by simp [bs, ByteArray.size]
theorem run_cat {P : Program} (a b : List UInt8) (h : a.length + b.length ≤ 1000000000) (w : World) : (Op.stringOp .add (bs a) (bs b)).run P w = .ok (.string (bs (a ++ b))) w := by
 rw [Go.run_string_add_sum w _ _ (by rw [bs_size, bs_size]; omega), bs_add]
theorem digit_byte {n : Nat} (h : n < 10) : (((dg8 n).toNat : Nat) : Int) = 48 + (n : Int) := by
 have : (dg8 n).toNat = 48 + n := by unfold dg8; simp [UInt8.toNat_ofNat']; omega
 rw [this]
 omega
theorem digit_back {n g : Nat} {w : World} (hn : n < 10) (h : Blk w g 5 [.int .u8 (48 + (n : Int))]) : (convert 62 9 (.slice (some ⟨g, 0, none⟩) 1 1)).run Try.prog w = .ok (.string (bs [dg8 n])) w := by
 refine run_convert_bytes_back _ 62 9 5 ⟨g, 0, none⟩ 1 [dg8 n] Try.underlying62 Try.underlying5 Try.underlying9 ?_
 intro j hj
 obtain rfl : j = 0 := by simp at hj; omega
 rw [add_plain]
 simp only [Nat.zero_add, List.getElem_cons_zero, digit_byte hn]
 exact h.c0
set_option maxRecDepth 100000 in
set_option maxHeartbeats 1000000 in
theorem Decimal_one {n : Nat} {w : World} (hn : n < 10) : Calls Try.prog 170 #[.int .i64 n] w fun e w' => e = .returned (.string (bs [dg8 n])) ∧ Below w.heap.size w w' := by
 have hb := digit_back hn (Blk.new1 w 5 (.int .u8 (48 + (n : Int))))
 have hn' : (n : Int) < 10 := by omega
 go_enter Try.func170, Try.ntmps170
 go_wp2_with fail
 go_ret
 exact ⟨rfl, by (repeat' first | exact Below.refl _ _ | assumption | apply Below.alloc | apply Below.drew | apply Below.setCell | omega | (simp; done) | (simp; omega))⟩
set_option maxRecDepth 100000 in
set_option maxHeartbeats 4000000 in
theorem Decimal_i {n : Nat} {w : World} (hn : n < 100) : Calls Try.prog 170 #[.int .i64 n] w fun e w' => e = .returned (.string (bs (Lib.decDigits n))) ∧ Below w.heap.size w w' := by
 by_cases h1 : n < 10
 ·
  rw [Lib.decDigits_one h1]
  exact Decimal_one h1
 ·
  rw [Lib.decDigits_two h1 hn]
  have h4 : (10 : Int) ≤ (n : Int) := by omega
  have h5 : (n : Int) < 100 := by omega
  obtain ⟨a, ha⟩ : ∃ a, n / 10 = a := ⟨_, rfl⟩
  obtain ⟨c, hc⟩ : ∃ c, n % 10 = c := ⟨_, rfl⟩
  have q1 : (n : Int) / 10 = (a : Int) := by omega
  have q2 : (n : Int) % 10 = (c : Int) := by omega
  have h2 : a < 10 := by omega
  have h3 : c < 10 := by omega
  have h6 : (c : Int) < 10 := by omega
  have hcz := Int.natCast_nonneg c
  have Hr : Hid (bs [dg8 a] ++ bs [dg8 c] = bs [UInt8.ofNat (48 + a), UInt8.ofNat (48 + c)]) := bs_add _ _
  rw [ha, hc]
  clear ha hc
  go_enter Try.func170, Try.ntmps170
  go_wp2_with fail
  refine region_rs [] [] (fun _ _ => False) (w.heap.size) (fun i iv vs wx => match i with
   | 0 => vs 0 = .int .i64 n
   | 1 => vs 1 = .int .i64 a
   | 2 => vs 2 = .string (bs [dg8 a])
   | 3 => vs 3 = .int .i64 n
   | 4 => vs 4 = .int .i64 c
   | 5 => vs 5 = .int .i64 (48 + ↑c)
   | 6 => vs 6 = .int .u8 (48 + ↑c)
   | 7 => vs 7 = .slice (some ⟨(iv 7).1, 0, none⟩) 1 1 ∧ (iv 7).2 = (iv 7).1 + 1 ∧ Blk wx (iv 7).1 5 [.int .u8 (48 + ↑c)]
   | 8 => vs 8 = .string (bs [dg8 c])
   | 9 => vs 9 = .string (bs [dg8 a] ++ bs [dg8 c])
   | 10 => vs 10 = .string (bs [dg8 a] ++ bs [dg8 c])
   | _ => True) (fun i iv vs => match i with
   | 0 => vs 0 = .int .i64 n
   | 1 => vs 1 = .int .i64 a
   | 2 => vs 2 = .string (bs [dg8 a])
   | 3 => vs 3 = .int .i64 n
   | 4 => vs 4 = .int .i64 c
   | 5 => vs 5 = .int .i64 (48 + ↑c)
   | 6 => vs 6 = .int .u8 (48 + ↑c)
   | 7 => vs 7 = .slice (some ⟨(iv 7).1, 0, none⟩) 1 1 ∧ (iv 7).2 = (iv 7).1 + 1
   | 8 => vs 8 = .string (bs [dg8 c])
   | 9 => vs 9 = .string (bs [dg8 a] ++ bs [dg8 c])
   | 10 => vs 10 = .string (bs [dg8 a] ++ bs [dg8 c])
   | _ => True) (by kernel_rfl) (by kernel_rfl) [0, 1, 2, 3, 4, 5, 6, 7, 8, 9, 10] (by kernel_rfl) ?hbase ?hGb ?hG ?hJ ?hE ?hEE ?hstep ?hQ
  case hbase => first | exact Nat.le_refl _ | omega | (simp; omega)
  case hGb =>
   exact fun _ _ h => h.elim
  case hG =>
   exact fun _ _ _ h => h.elim
  case hJ =>
   intro i hi iv iv' vs vs' wx wx' ha hv hz hk hj
   simp only [List.mem_cons, List.not_mem_nil, or_false] at hi
   rcases hi with rfl | rfl | rfl | rfl | rfl | rfl | rfl | rfl | rfl | rfl | rfl
   ·
    exact (hv.out 0 (mem_of (by kernel_rfl))).symm.trans hj
   ·
    exact (hv.out 1 (mem_of (by kernel_rfl))).symm.trans hj
   ·
    exact (hv.out 2 (mem_of (by kernel_rfl))).symm.trans hj
   ·
    exact (hv.out 3 (mem_of (by kernel_rfl))).symm.trans hj
   ·
    exact (hv.out 4 (mem_of (by kernel_rfl))).symm.trans hj
   ·
    exact (hv.out 5 (mem_of (by kernel_rfl))).symm.trans hj
   ·
    exact (hv.out 6 (mem_of (by kernel_rfl))).symm.trans hj
   ·
    have e7 := hv.out 7 (mem_of (by kernel_rfl))
    have g7 := ha.out 7 (mem_of (by kernel_rfl))
    obtain ⟨q1, q3, q2⟩ := hj
    show vs' 7 = .slice (some ⟨(iv' 7).1, 0, none⟩) 1 1 ∧ (iv' 7).2 = (iv' 7).1 + 1 ∧ Blk wx' (iv' 7).1 5 [.int .u8 (48 + ↑c)]
    rw [← e7, ← g7]
    exact ⟨q1, q3, q2.keep (hk.out _ q2.lt (foot_own (Nat.le_refl _) (by omega)))⟩
   ·
    exact (hv.out 8 (mem_of (by kernel_rfl))).symm.trans hj
   ·
    exact (hv.out 9 (mem_of (by kernel_rfl))).symm.trans hj
   ·
    exact (hv.out 10 (mem_of (by kernel_rfl))).symm.trans hj
  case hE =>
   intro i hi iv vs wx hj
   simp only [List.mem_cons, List.not_mem_nil, or_false] at hi
   rcases hi with rfl | rfl | rfl | rfl | rfl | rfl | rfl | rfl | rfl | rfl | rfl
   ·
    exact hj
   ·
    exact hj
   ·
    exact hj
   ·
    exact hj
   ·
    exact hj
   ·
    exact hj
   ·
    exact hj
   ·
    exact ⟨hj.1, hj.2.1⟩
   ·
    exact hj
   ·
    exact hj
   ·
    exact hj
  case hEE =>
   intro i hi iv iv' vs vs' ha hv hj
   simp only [List.mem_cons, List.not_mem_nil, or_false] at hi
   rcases hi with rfl | rfl | rfl | rfl | rfl | rfl | rfl | rfl | rfl | rfl | rfl
   ·
    exact (hv.out 0 (mem_of (by kernel_rfl))).symm.trans hj
   ·
    exact (hv.out 1 (mem_of (by kernel_rfl))).symm.trans hj
   ·
    exact (hv.out 2 (mem_of (by kernel_rfl))).symm.trans hj
   ·
    exact (hv.out 3 (mem_of (by kernel_rfl))).symm.trans hj
   ·
    exact (hv.out 4 (mem_of (by kernel_rfl))).symm.trans hj
   ·
    exact (hv.out 5 (mem_of (by kernel_rfl))).symm.trans hj
   ·
    exact (hv.out 6 (mem_of (by kernel_rfl))).symm.trans hj
   ·
    have e7 := hv.out 7 (mem_of (by kernel_rfl))
    have g7 := ha.out 7 (mem_of (by kernel_rfl))
    have hj' : vs 7 = .slice (some ⟨(iv 7).1, 0, none⟩) 1 1 ∧ (iv 7).2 = (iv 7).1 + 1 := hj
    show vs' 7 = .slice (some ⟨(iv' 7).1, 0, none⟩) 1 1 ∧ (iv' 7).2 = (iv' 7).1 + 1
    rw [← e7, ← g7]
    exact hj'
   ·
    exact (hv.out 8 (mem_of (by kernel_rfl))).symm.trans hj
   ·
    exact (hv.out 9 (mem_of (by kernel_rfl))).symm.trans hj
   ·
    exact (hv.out 10 (mem_of (by kernel_rfl))).symm.trans hj
  case hstep =>
   intro i hi opr ho iv vs w1 hB hS hSo hd he hbd hsep hun K hK
   simp only [List.mem_cons, List.not_mem_nil, or_false] at hi
   have hzB := hB.size
   skip
   generalize hA : putFrom _ 0 vs _ = A at hK ⊢
   simp only [putFrom, puts] at hA
   rcases hi with rfl | rfl | rfl | rfl | rfl | rfl | rfl | rfl | rfl | rfl | rfl
   all_goals
    simp at ho
    subst ho
    subst hA
   ·
    go_wp2_with fail
    exact Onward.mk (hK (.int .i64 n) _ _ (fun h => by cases h) (by first | rfl | (simp only [puts])) (Spares.refl _) (fun iv' _ _ => rfl))
   ·
    have h0 : vs 0 = .int .i64 n := hd.out 0 (mem_of (by kernel_rfl)) (by decide) (by kernel_rfl)
    go_wp2_with fail
    exact Onward.mk (hK (.int .i64 a) _ _ (fun h => by cases h) (by first | rfl | (simp only [puts, h0])) (Spares.refl _) (fun iv' _ _ => rfl))
   ·
    have h1 : vs 1 = .int .i64 a := hd.out 1 (mem_of (by kernel_rfl)) (by decide) (by kernel_rfl)
    go_wp2_with fail
    refine (Decimal_one h2).mono ?_
    rintro e w2 ⟨rfl, hb⟩
    go_wp2_with fail
    exact Onward.mk (hK (.string (bs [dg8 a])) _ _ (fun h => by cases h) (by first | rfl | (simp only [puts, h1])) (Spares.of_below hb) (fun iv' _ _ => rfl))
   ·
    go_wp2_with fail
    exact Onward.mk (hK (.int .i64 n) _ _ (fun h => by cases h) (by first | rfl | (simp only [puts])) (Spares.refl _) (fun iv' _ _ => rfl))
   ·
    have h3 : vs 3 = .int .i64 n := hd.out 3 (mem_of (by kernel_rfl)) (by decide) (by kernel_rfl)
    go_wp2_with fail
    exact Onward.mk (hK (.int .i64 c) _ _ (fun h => by cases h) (by first | rfl | (simp only [puts, h3])) (Spares.refl _) (fun iv' _ _ => rfl))
   ·
    have h4 : vs 4 = .int .i64 c := hd.out 4 (mem_of (by kernel_rfl)) (by decide) (by kernel_rfl)
    go_wp2_with fail
    exact Onward.mk (hK (.int .i64 (48 + ↑c)) _ _ (fun h => by cases h) (by first | rfl | (simp only [puts, h4])) (Spares.refl _) (fun iv' _ _ => rfl))
   ·
    have h5 : vs 5 = .int .i64 (48 + ↑c) := hd.out 5 (mem_of (by kernel_rfl)) (by decide) (by kernel_rfl)
    go_wp2_with fail
    exact Onward.mk (hK (.int .u8 (48 + ↑c)) _ _ (fun h => by cases h) (by first | rfl | (simp only [puts, h5])) (Spares.refl _) (fun iv' _ _ => rfl))
   ·
    have h6 : vs 6 = .int .u8 (48 + ↑c) := hd.out 6 (mem_of (by kernel_rfl)) (by decide) (by kernel_rfl)
    go_wp2_with fail
    exact Onward.mk (hK (.slice (some ⟨w1.heap.size, 0, none⟩) 1 1) _ _ (fun h => by cases h) (by first | rfl | (simp only [puts, h6])) (Spares.of_below (Below.alloc (Below.refl _ _) (Nat.le_refl _) _)) (fun iv' _ hi => by
     show Value.slice (some ⟨w1.heap.size, 0, none⟩) 1 1 = .slice (some ⟨(iv' 7).1, 0, none⟩) 1 1 ∧ (iv' 7).2 = (iv' 7).1 + 1 ∧ Blk _ (iv' 7).1 5 [.int .u8 (48 + ↑c)]
     rw [hi]
     exact ⟨rfl, by simp, Blk.new1 _ _ _⟩))
   ·
    obtain ⟨h7, q7, f7⟩ := hd.out 7 (mem_of (by kernel_rfl)) (by decide) (by kernel_rfl)
    obtain ⟨h7, q7, f7⟩ := hd.out 7 (mem_of (by kernel_rfl)) (by decide) (by kernel_rfl)
    have hrun := digit_back h3 f7
    go_wp2_with fail
    exact Onward.mk (hK (.string (bs [dg8 c])) _ _ (fun h => by cases h) (by simp only [Act.put, List.setIfInBounds_toArray, List.set_cons_succ, List.set_cons_zero, h7]) (Spares.of_below (Below.refl _ _)) (fun iv' _ _ => rfl))
   ·
    have h2 : vs 2 = .string (bs [dg8 a]) := hd.out 2 (mem_of (by kernel_rfl)) (by decide) (by kernel_rfl)
    have h8 : vs 8 = .string (bs [dg8 c]) := hd.out 8 (mem_of (by kernel_rfl)) (by decide) (by kernel_rfl)
    go_wp2_with fail
    exact Onward.mk (hK (.string (bs [dg8 a] ++ bs [dg8 c])) _ _ (fun h => by cases h) (by first | rfl | (simp only [puts, h2, h8])) (Spares.refl _) (fun iv' _ _ => rfl))
   ·
    have h9 : vs 9 = .string (bs [dg8 a] ++ bs [dg8 c]) := hd.out 9 (mem_of (by kernel_rfl)) (by decide) (by kernel_rfl)
    go_wp2_with fail
    exact Onward.mk (hK (.string (bs [dg8 a] ++ bs [dg8 c])) _ _ (fun h => by cases h) (by first | rfl | (simp only [puts, h9])) (Spares.refl _) (fun iv' _ _ => rfl))
  case hQ =>
   intro iv vs wx hB hSp hd he hbd hsep
   have hzB := hB.size
   have h0 : vs 0 = .int .i64 n := hd.out 0 (mem_of (by kernel_rfl)) (not_eaten (by kernel_rfl))
   have h1 : vs 1 = .int .i64 a := hd.out 1 (mem_of (by kernel_rfl)) (not_eaten (by kernel_rfl))
   have h2 : vs 2 = .string (bs [dg8 a]) := hd.out 2 (mem_of (by kernel_rfl)) (not_eaten (by kernel_rfl))
   have h3 : vs 3 = .int .i64 n := hd.out 3 (mem_of (by kernel_rfl)) (not_eaten (by kernel_rfl))
   have h4 : vs 4 = .int .i64 c := hd.out 4 (mem_of (by kernel_rfl)) (not_eaten (by kernel_rfl))
   have h5 : vs 5 = .int .i64 (48 + ↑c) := hd.out 5 (mem_of (by kernel_rfl)) (not_eaten (by kernel_rfl))
   have h6 : vs 6 = .int .u8 (48 + ↑c) := hd.out 6 (mem_of (by kernel_rfl)) (not_eaten (by kernel_rfl))
   obtain ⟨h7, q7, f7⟩ := hd.out 7 (mem_of (by kernel_rfl)) (not_eaten (by kernel_rfl))
   have h8 : vs 8 = .string (bs [dg8 c]) := hd.out 8 (mem_of (by kernel_rfl)) (not_eaten (by kernel_rfl))
   have h9 : vs 9 = .string (bs [dg8 a] ++ bs [dg8 c]) := hd.out 9 (mem_of (by kernel_rfl)) (not_eaten (by kernel_rfl))
   have h10 : vs 10 = .string (bs [dg8 a] ++ bs [dg8 c]) := hd.out 10 (mem_of (by kernel_rfl)) (not_eaten (by kernel_rfl))
   simp only [putFrom, puts]
   simp only [h10, Hr.out]
   clear hd he hbd hsep h0 h1 h2 h3 h4 h5 h6 h7 h8 h9 h10 Hr
   go_wp2_with fail
   go_ret
   exact ⟨rfl, hB⟩
end Go.Proofs.Ytbflhjjnemdecaa

namespace Go.Proofs.Ytbflhjjnemdecaa
set_option linter.unusedVariables false
set_option linter.unusedSimpArgs false
open Go.ChangeShapes Go.WideShapes Go.ChangeAt Go.RowKit
theorem own : ownKnob Try.prog.godebug = none := by kernel_rfl
theorem laid : laidOutB Try.prog = true := by kernel_rfl
set_option maxRecDepth 10000
section
variable {H : Type} {enc : TypeId × Value → H} {W : World} {base : Nat} {sp : Nat → Bool} {hd : Bool} {v : Value} {d : DataW H} {ps : List MemPlace}
end
end Go.Proofs.Ytbflhjjnemdecaa

namespace Go.Proofs.Ytbflhjjnemdecaa
set_option linter.unusedVariables false
set_option linter.unusedSimpArgs false
open Go.ChangeShapes Go.WideShapes Go.ChangeAt Go.RowKit
def inB (n lo hi : Int) : Bool := decide (lo ≤ n) && decide (n ≤ hi)
def sigB (t a : Int) : Bool := inB t 0 3 && inB a 0 4
theorem within_any (n lo hi : Int) (w : World) : Calls Try.prog 68 #[.int .i64 n, .int .i64 lo, .int .i64 hi] w fun e w' => e = .returned (.bool (inB n lo hi)) ∧ w = w' := by
 by_cases h1 : lo ≤ n
 ·
  by_cases h2 : n ≤ hi
  ·
   have e1 : inB n lo hi = true := by simp [inB, h1, h2]
   rw [e1]
   go_enter Try.func68, Try.ntmps68
   go_wp2
   go_ret
   exact ⟨rfl, rfl⟩
  ·
   have e1 : inB n lo hi = false := by simp [inB, h2]
   rw [e1]
   go_enter Try.func68, Try.ntmps68
   go_wp2
   go_ret
   exact ⟨rfl, rfl⟩
 ·
  have e1 : inB n lo hi = false := by simp [inB, h1]
  rw [e1]
  go_enter Try.func68, Try.ntmps68
  go_wp2
  go_ret
  exact ⟨rfl, rfl⟩
theorem in_any (n lo hi : Int) (w : World) : Calls Try.prog 63 #[.int .i64 n, .int .i64 lo, .int .i64 hi] w fun e w' => e = .returned (.bool (inB n lo hi)) ∧ w = w' := by
 by_cases h1 : lo ≤ n
 ·
  by_cases h2 : n ≤ hi
  ·
   have e1 : inB n lo hi = true := by simp [inB, h1, h2]
   rw [e1]
   go_enter Try.func63, Try.ntmps63
   go_wp2
   go_ret
   exact ⟨rfl, rfl⟩
  ·
   have e1 : inB n lo hi = false := by simp [inB, h2]
   rw [e1]
   go_enter Try.func63, Try.ntmps63
   go_wp2
   go_ret
   exact ⟨rfl, rfl⟩
 ·
  have e1 : inB n lo hi = false := by simp [inB, h1]
  rw [e1]
  go_enter Try.func63, Try.ntmps63
  go_wp2
  go_ret
  exact ⟨rfl, rfl⟩
theorem toSig_any (t a : Int) (w : World) : Calls Try.prog 13 #[.agg #[.int .i64 t, .int .i64 a]] w fun e w' => e = .returned (.agg #[.int .i64 t, .int .i64 a]) ∧ Below w.heap.size w w' := by
 go_enter Try.func13, Try.ntmps13
 go_wp2
 exact bodyPost_ret (v := .agg #[.int .i64 t, .int .i64 a]) (by simp [results, Try.results13, go_sem]) rfl ⟨rfl, by (repeat' first | exact Below.refl _ _ | assumption | apply Below.alloc | apply Below.drew | apply Below.setCell | omega | (simp; done) | (simp; omega))⟩
theorem l01Sig_any (t a : Int) (w : World) : Calls Try.prog 99 #[.agg #[.int .i64 t, .int .i64 a]] w fun e w' => e = .returned (.bool (sigB t a)) ∧ Below w.heap.size w w' := by
 go_enter Try.func99, Try.ntmps99
 go_wp2_with ((go_at_call 63; ((with_reducible refine (in_any _ _ _ _).mono ?_); rintro e w' ⟨rfl, rfl⟩)))
 all_goals go_ret
 all_goals exact ⟨by simp [sigB, *], by (repeat' first | exact Below.refl _ _ | assumption | apply Below.alloc | apply Below.drew | apply Below.setCell | omega | (simp; done) | (simp; omega))⟩
theorem implValidSig_any (t a : Int) (w : World) : Calls Try.prog 107 #[.agg #[.int .i64 t, .int .i64 a]] w fun e w' => e = .returned (.bool (sigB t a)) ∧ Below w.heap.size w w' := by
 go_enter Try.func107, Try.ntmps107
 go_wp2_with ((go_at_call 68; ((with_reducible refine (within_any _ _ _ _).mono ?_); rintro e w' ⟨rfl, rfl⟩)))
 all_goals go_ret
 all_goals exact ⟨by simp [sigB, *], by (repeat' first | exact Below.refl _ _ | assumption | apply Below.alloc | apply Below.drew | apply Below.setCell | omega | (simp; done) | (simp; omega))⟩
end Go.Proofs.Ytbflhjjnemdecaa

namespace Go.Proofs.Ytbflhjjnemdecaa
set_option linter.unusedVariables false
set_option linter.unusedSimpArgs false
open Go.ChangeShapes Go.WideShapes Go.ChangeAt Go.RowKit
def condKind (k : Int) : Bool := decide (k = 1 ∨ k = 2 ∨ k = 3 ∨ k = 5 ∨ k = 6 ∨ k = 7)
mutual
def Ex.cond : Ex → Bool
 | .mk k _ ks => condKind k && Ex.condL ks
def Ex.condL : List Ex → Bool
 | [] => true
 | e :: r => e.cond && Ex.condL r
end
theorem Ex.cond_eq (e : Ex) : e.cond = (condKind e.kind && Ex.condL e.kids) := by cases e; simp only [Ex.cond, Ex.kind, Ex.kids]
theorem Ex.condL_append : ∀ a b : List Ex, Ex.condL (a ++ b) = (Ex.condL a && Ex.condL b)
 | [], b => by simp [Ex.condL]
 | e :: r, b => by simp only [List.cons_append, Ex.condL, Ex.condL_append r b, Bool.and_assoc]
theorem Ex.condL_take_succ {ks : List Ex} {i : Nat} {e : Ex} (h : ks[i]? = some e) : Ex.condL (ks.take (i + 1)) = (Ex.condL (ks.take i) && e.cond) := by
 obtain ⟨hi, rfl⟩ := List.getElem?_eq_some_iff.1 h
 rw [List.take_succ_eq_append_getElem hi, Ex.condL_append]
 simp [Ex.condL]
theorem Ex.condL_false {ks : List Ex} {i : Nat} {e : Ex} (h : ks[i]? = some e) (hc : e.cond = false) : Ex.condL ks = false := by
 have := Ex.condL_append (ks.take (i + 1)) (ks.drop (i + 1))
 rw [List.take_append_drop, Ex.condL_take_succ h, hc] at this
 simpa using this
theorem l01Condition_all (N : Nat) : ∀ (e : Ex) (b o : Nat) (w : World), e.size ≤ N → ExAt w b o e →
  Calls Try.prog 142 #[.pointer (some ⟨b, o, none⟩)] w fun f w' => f = .returned (.bool e.cond) ∧ w = w' := by
 induction N using Nat.strongRecOn with
 | _ N ih =>
 intro e b o w hN hr
 obtain ⟨g0, g1, s, c, g2, g3⟩ := hr
 obtain ⟨-, hlen, hcap, -, -⟩ := kid_at g3
 unfold maxLen at hcap
 have hse := Ex.size_eq e
 have hks : Ex.sizeL e.kids < N := by omega
 clear hse
 by_cases hk : condKind e.kind = true
 ·
  have hc : e.cond = Ex.condL e.kids := by rw [Ex.cond_eq, hk, Bool.true_and]
  have Hc := Lib.hid hc
  have b1 : inB e.kind 1 7 = true := by simp [condKind] at hk; simp [inB]; omega
  have b2 : (e.kind == 4) = false := by simp [condKind] at hk; simp; omega
  clear hc hk
  go_enter Try.func142, Try.ntmps142
  go_wp2_with ((go_at_call 63; ((with_reducible refine (in_any _ _ _ _).mono ?_); rintro e w' ⟨rfl, rfl⟩)))
  go_loop [3] (fun i => ∃ k : Nat, k ≤ e.kids.length ∧ i = .int .i64 k ∧ Ex.condL (e.kids.take k) = true) (fun i => e.kids.length - (intOf i).toNat)
  case atStart => exact ⟨0, by omega, rfl, by simp [Ex.condL]⟩
  case round =>
   obtain ⟨k, hk, rfl, hpre⟩ := hrel
   have Hpre := Lib.hid hpre
   clear hpre
   by_cases hlt : k < e.kids.length
   ·
    obtain ⟨f, hf⟩ : ∃ f, e.kids[k]? = some f := ⟨_, List.getElem?_eq_getElem hlt⟩
    obtain ⟨b', o', rfl⟩ := kid_some g3 (by intro h; simp [h] at hlt)
    have hat := kid_exAt g3 hf
    have hmem := Ex.sizeL_mem (List.mem_of_getElem? hf)
    have Htk := Lib.hid (Ex.condL_take_succ hf)
    have Hfl := Lib.hid (@Ex.condL_false _ _ _ hf)
    go_wp2_with fail
    refine (ih _ (by omega) f _ _ _ (Nat.le_refl _) hat).mono ?_
    rintro x w' ⟨rfl, rfl⟩
    cases hfc : f.cond
    ·
     go_wp2_with fail
     go_ret
     exact ⟨ret_bool (by rw [Hc.out, Hfl.out hfc]), rfl⟩
    ·
     go_wp2_with fail
     go_round
     case rel => exact ⟨k + 1, by omega, by go_num, by rw [Htk.out, Hpre.out, hfc]; rfl⟩
     case measure => simp [intOf]; omega
   ·
    obtain rfl : k = e.kids.length := by omega
    go_wp2_with fail
    go_ret
    exact ⟨ret_bool (by have := Hpre.out; rw [List.take_length] at this; rw [Hc.out, this]), rfl⟩
 ·
  have hc : e.cond = false := by rw [Ex.cond_eq]; simp [hk]
  rw [hc]
  by_cases hin : inB e.kind 1 7 = true
  ·
   have b2 : (e.kind == 4) = true := by simp [condKind] at hk; simp [inB] at hin; simp; omega
   clear hk hc
   go_enter Try.func142, Try.ntmps142
   go_wp2_with ((go_at_call 63; ((with_reducible refine (in_any _ _ _ _).mono ?_); rintro e w' ⟨rfl, rfl⟩)))
   go_ret
   exact ⟨rfl, rfl⟩
  ·
   have hin' : inB e.kind 1 7 = false := by simpa using hin
   clear hk hc hin
   go_enter Try.func142, Try.ntmps142
   go_wp2_with ((go_at_call 63; ((with_reducible refine (in_any _ _ _ _).mono ?_); rintro e w' ⟨rfl, rfl⟩)))
   go_ret
   exact ⟨rfl, rfl⟩
end Go.Proofs.Ytbflhjjnemdecaa

namespace Go.Proofs.Ytbflhjjnemdecaa
set_option linter.unusedVariables false
set_option linter.unusedSimpArgs false
open Go.ChangeShapes Go.WideShapes Go.ChangeAt Go.RowKit
theorem info_int64 : (Try.prog.info? 2).map (fun i => (i.zero, i.size, i.bytes)) = some (some (.int .i64 0), 1, 8) := by kernel_rfl
end Go.Proofs.Ytbflhjjnemdecaa
