/-
  Parts of a proof, joined: Base, Mem, App. No condition.
-/
import Derived.WalkKit
import Derived.ProofKit
import Derived.OpenShut
import Derived.ChangeSame
import Derived.Carry
import Derived.Deep.Slices
import Derived.Deep.LoopGhost
import Derived.Deep.DeepFit
import Derived.Deep.DeepMust
import Derived.Deep.RegionWith
import Derived.Deep.RegionHeld3
import Derived.Deep.QuietTactic
import Derived.BigQuiet
import Derived.WalkSpells
import Derived.WalkLawsBesides
import Derived.WalkSmall
import Derived.Lib.Hide
import Derived.Lib.QuietBelow
import Derived.Deep.CutRange
import Derived.Deep.AppendLies
namespace Go.Proofs.Ytfhlddbngjlhbaa
set_option linter.unusedVariables false
set_option linter.unusedSimpArgs false
open Go.ChangeShapes Go.WideShapes Go.ChangeAt Go.RowKit Go.Deep
section
variable {H : Type} {enc : TypeId × Value → H} {P : Program}
theorem TrodAll.below (hl : laidOutB P = true) : ∀ {ts : List TypeId} {vs : List Value} {ds : List (DataW H)} {ps : List MemPlace} {W W' : World},
  (∀ t ∈ ts, P.readableRec t = true ∧ t < P.types.size) → DataW.TrodAll enc P W 0 (fun _ => true) true ts vs ds ps → Below W.heap.size W W' → (∀ x ∈ ps, x.block < W.heap.size) →
  DataW.TrodAll enc P W' 0 (fun b => decide (b < W.heap.size)) true ts vs ds ps
 | [], [], [], _, _, _, _, h, _, _ => h
 | t :: ts, v :: vs, d :: ds, ps, W, W', hT, ⟨p, q, h1, h2, e⟩, hb, hlt =>
  ⟨p, q, Below.trod hl (hT t (List.mem_cons.2 (Or.inl rfl))).1 (hT t (List.mem_cons.2 (Or.inl rfl))).2 h1 hb (fun x hx => hlt x (by rw [e]; exact List.mem_append_left _ hx)),
   TrodAll.below hl (fun t' ht => hT t' (List.mem_cons.2 (Or.inr ht))) h2 hb (fun x hx => hlt x (by rw [e]; exact List.mem_append_right _ hx)), e⟩
theorem TrodAll.len {W : World} {base : Nat} {sp : Nat → Bool} {hd : Bool} : ∀ {ts : List TypeId} {vs : List Value} {ds : List (DataW H)} {ps : List MemPlace}, DataW.TrodAll enc P W base sp hd ts vs ds ps → ds.length = ts.length
 | [], [], [], _, _ => rfl
 | _ :: _, _ :: _, _ :: _, _, ⟨_, _, _, h, _⟩ => congrArg (· + 1) (TrodAll.len h)
theorem law_post {f : Func} {s : ChangeSpec} {W W' : World} {args : Array Value} {ds gs : List (DataW H)} {before : List MemPlace}
  (hl : laidOutB P = true) (hr : ∀ t ∈ f.params.toList, P.readableRec t = true ∧ t < P.types.size) (hvars : s.vars = [])
  {tb : TypeId} (hres : f.resultTypes = #[tb]) (hb : P.underlying tb = some .bool)
  (hW : DataW.Whole enc P f.params.toList s.vars false W args.toList ds gs before)
  (hs : s.fn H (ds ++ gs) = { results := [.lit (.bool true)], args := ds }) (hB : Below W.heap.size W W') :
  s.post enc P f false true false false W args (.bool true) W' := by
 have hW' := hW
 obtain ⟨p, q, hA, hV, e, hfz, hnd⟩ := hW
 rw [hvars] at hV
 obtain ⟨rfl, rfl⟩ : gs = [] ∧ q = [] := by
  cases gs with
  | nil => exact ⟨rfl, by simpa [DataW.TrodVars] using hV⟩
  | cons => simp [DataW.TrodVars] at hV
 have hlt : ∀ x ∈ before, x.block < W.heap.size := fun x hx => hW'.lt x hx
 refine ⟨ds, [], before, [], p, [], hW', ?_, ?_, ?_, hB.frame _, fun h => by cases h⟩
 ·
  rw [hs, hres]
  exact trodAll_cons_mk (shut_bool hb true) trodAll_mk0
 ·
  rw [hs]
  exact TrodAll.below hl hr hA hB (fun x hx => hlt x (by rw [e]; exact List.mem_append_left _ hx))
 ·
  rw [hs, hvars]
  simp [DataW.TrodVars]
end
theorem law_lifted {C : Checked} {s : ChangeSpec} {f : FuncId} {fn : Func} (own : ownKnob C.prog.godebug = none) (hl : laidOutB C.prog = true)
  (hr : fn.params.toList.all (fun t => C.prog.readableRec t && decide (t < C.prog.types.size)) = true) (hvars : s.vars = [])
  {tb : TypeId} (hres : fn.resultTypes = #[tb]) (hb : C.prog.underlying tb = some .bool) (hfn : C.prog.funcs[f]? = some fn) (noInit : C.prog.inits.idxOf? f = none)
  (hs : ∀ (H : Type) (ds : List (DataW H)), ds.length = fn.params.toList.length → s.fn H ds = { results := [.lit (.bool true)], args := ds })
  (os : Os) (started : os.Started) (H : Type) (enc : TypeId × Value → H)
  (witness : ∃ (w : World) (tape : Tape) (i : Input), w.os = os ∧ (w.forCall tape i).Shaped C.prog ∧ i.vars = [] ∧ Input.okWide C.prog (w.forCall tape i) .any w.heap.size f i ∧
   s.pre6 enc C.prog fn [] false (w.forCall tape i).memory i.args ∧ ({} : Assume).holds C.prog (lone (Frame.enter C.prog f i.args .normal) [] (w.forCall tape i)))
  (walk : ∀ (W : World) (args : Array Value) (ds : List (DataW H)) (ps : List MemPlace), DataW.TrodAll enc C.prog W 0 (fun _ => true) true fn.params.toList args.toList ds ps →
   (∀ (j : Nat) t v, fn.params[j]? = some t → args[j]? = some v → ∃ base, Value.okWide C.prog W .any base t v) →
   (∀ x ∈ ps, x.block < W.heap.size) →
   Calls C.prog f args W fun e W' => e = .returned (.bool true) ∧ Below W.heap.size W W') :
  ReturnsInHanded {} C os f .any (s.pre6 enc C.prog fn [] false) (s.post enc C.prog fn false true false false) := by
 refine returnsInHanded_of_change (C := C) own started noInit hfn witness ?_
 intro W base args ds gs before hval hW _ _
 have hW' := hW
 obtain ⟨p, q, hA, hV, e, hfz, hnd⟩ := hW
 rw [hvars] at hV
 obtain ⟨rfl, rfl⟩ : gs = [] ∧ q = [] := by
  cases gs with
  | nil => exact ⟨rfl, by simpa [DataW.TrodVars] using hV⟩
  | cons => simp [DataW.TrodVars] at hV
 have hds : ds.length = fn.params.toList.length := TrodAll.len hA
 refine (walk W args ds p hA (fun j t v h1 h2 => ⟨base, hval j t v h1 h2⟩) (fun x hx => hW'.lt x (by rw [e]; exact List.mem_append_left _ hx))).mono fun e' W' ⟨he, hB⟩ => ?_
 subst he
 refine ⟨_, rfl, law_post hl (fun t ht => ?_) hvars hres hb hW' (by rw [List.append_nil]; exact hs H ds hds) hB⟩
 have := List.all_eq_true.1 hr t ht
 simpa using this
theorem below_self {w w' : World} (h : w = w') : Below w.heap.size w w' := by subst h; exact Below.refl _ _
noncomputable def eqb {α : Type} (a b : α) : Bool := @decide (a = b) (Classical.propDecidable _)
theorem eqb_true {α : Type} {a b : α} (h : a = b) : eqb a b = true := by unfold eqb; exact @decide_eq_true _ (Classical.propDecidable _) h
theorem eqb_false {α : Type} {a b : α} (h : ¬ a = b) : eqb a b = false := by unfold eqb; exact @decide_eq_false _ (Classical.propDecidable _) h
theorem ret_int {k : IntKind} {a b : Int} (h : a = b) : Ending.returned (.int k a) = .returned (.int k b) := by rw [h]
theorem ret_bool {a b : Bool} (h : a = b) : Ending.returned (.bool a) = .returned (.bool b) := by rw [h]
theorem ret_bi {a b : Bool} {k : IntKind} {x y : Int} (h : a = b) (h' : x = y) : Ending.returned (.tuple #[.bool a, .int k x]) = .returned (.tuple #[.bool b, .int k y]) := by rw [h, h']
theorem ret_ii {k : IntKind} {a b x y : Int} (h : a = b) (h' : x = y) : Ending.returned (.tuple #[.int k a, .int k x]) = .returned (.tuple #[.int k b, .int k y]) := by rw [h, h']
theorem below_draws (B : Nat) (w : World) (n : Nat) : Below B w (w.drewN n) := ⟨rfl, rfl, rfl, Nat.le_refl _, fun _ _ => rfl⟩
theorem puts : (∀ (a : Act) (v : Value), a.put none v = a) ∧ (∀ (a : Act) (d : Tmp) (v : Value), a.put (some d) v = { a with tmps := a.tmps.setIfInBounds d v }) ∧ (∀ (l : List Value) (i : Nat) (v : Value), l.toArray.setIfInBounds i v = (l.set i v).toArray) ∧
  (∀ (a b : Value) (l : List Value) (n : Nat), (a :: l).set (n + 1) b = a :: l.set n b) ∧ (∀ (a b : Value) (l : List Value), (a :: l).set 0 b = b :: l) :=
 ⟨fun _ _ => rfl, fun _ _ _ => rfl, fun _ _ _ => List.setIfInBounds_toArray .., fun _ _ _ _ => rfl, fun _ _ _ => rfl⟩
theorem Below.on {B : Nat} {a w w' : World} (h : Below B a w) (hb : Below w.heap.size w w') (hB : B ≤ w.heap.size) : Below B a w' := h.trans (hb.mono hB)
end Go.Proofs.Ytfhlddbngjlhbaa

namespace Go.Proofs.Ytfhlddbngjlhbaa
set_option linter.unusedVariables false
set_option linter.unusedSimpArgs false
open Go.ChangeShapes Go.WideShapes Go.ChangeAt Go.RowKit Go.Deep
inductive D where
 | int (n : Int)
 | bool (b : Bool)
 | str (s : ByteArray)
 | raw (u : Value)
 | sl (size n : Nat) (cs : List D)
def Row (w : World) (b o : Nat) (xs : List Value) : Prop := ∀ i, i < xs.length → w.cell? ⟨b, o + i, none⟩ = xs[i]?
mutual
def Rd (w : World) : D → Value → Prop
 | .int n, v => v = .int .i64 n
 | .bool b, v => v = .bool b
 | .str s, v => v = .string s ∧ s.size ≤ maxLen
 | .raw u, v => v = u ∧ u.oneCell' = true
 | .sl size n cs, v => ∃ a cap, v = .slice a n cap ∧ n ≤ cap ∧ cap ≤ maxLen ∧ cs.length = n * size ∧ (a = none → cap = 0) ∧ ((n = 0) ∨ ∃ b o xs, a = some ⟨b, o, none⟩ ∧ Row w b o xs ∧ Rds w cs xs)
def Rds (w : World) : List D → List Value → Prop
 | [], xs => xs = []
 | c :: cs, xs => ∃ x r, xs = x :: r ∧ Rd w c x ∧ Rds w cs r
end
def Free (w : World) (b : Nat) : Prop := ∃ cur t, w.heap[b]? = some (.cells cur t (0, 0))
mutual
def Ow (w : World) : D → Value → List Nat → Prop
 | .int n, v, F => v = .int .i64 n ∧ F = []
 | .bool b, v, F => v = .bool b ∧ F = []
 | .str s, v, F => (v = .string s ∧ s.size ≤ maxLen) ∧ F = []
 | .raw u, v, F => (v = u ∧ u.oneCell' = true) ∧ F = []
 | .sl size n cs, v, F => ∃ a cap, v = .slice a n cap ∧ n ≤ cap ∧ cap ≤ maxLen ∧ cs.length = n * size ∧ (a = none → cap = 0) ∧ ((n = 0 ∧ F = []) ∨ ∃ b o xs G, a = some ⟨b, o, none⟩ ∧ F = b :: G ∧ Free w b ∧ Row w b o xs ∧ Ows w cs xs G)
def Ows (w : World) : List D → List Value → List Nat → Prop
 | [], xs, F => xs = [] ∧ F = []
 | c :: cs, xs, F => ∃ x r G K, xs = x :: r ∧ F = G ++ K ∧ Ow w c x G ∧ Ows w cs r K
end
mutual
theorem Ow.rd {w : World} : ∀ {d : D} {v : Value} {F : List Nat}, Ow w d v F → Rd w d v
 | .int _, _, _, h => by simp only [Ow] at h; simp only [Rd]; exact h.1
 | .bool _, _, _, h => by simp only [Ow] at h; simp only [Rd]; exact h.1
 | .str _, _, _, h => by simp only [Ow] at h; simp only [Rd]; exact h.1
 | .raw _, _, _, h => by simp only [Ow] at h; simp only [Rd]; exact h.1
 | .sl _ _ cs, _, _, h => by
  simp only [Ow] at h
  simp only [Rd]
  obtain ⟨a, cap, h1, h2, h3, h4, h6, h5⟩ := h
  refine ⟨a, cap, h1, h2, h3, h4, h6, ?_⟩
  rcases h5 with h5 | ⟨b, o, xs, G, e1, _, _, e3, e4⟩
  ·
   exact Or.inl h5.1
  ·
   exact Or.inr ⟨b, o, xs, e1, e3, Ows.rds e4⟩
theorem Ows.rds {w : World} : ∀ {cs : List D} {xs : List Value} {F : List Nat}, Ows w cs xs F → Rds w cs xs
 | [], _, _, h => by simp only [Ows] at h; simp only [Rds]; exact h.1
 | c :: cs, _, _, h => by
  simp only [Ows] at h
  obtain ⟨x, r, G, K, e1, _, h1, h2⟩ := h
  simp only [Rds]
  exact ⟨x, r, e1, Ow.rd h1, Ows.rds h2⟩
end
theorem Row.congr {w w' : World} {b o : Nat} {xs : List Value} (h : Row w b o xs) (hb : w'.heap[b]? = w.heap[b]?) : Row w' b o xs :=
 fun i hi => (World.cell?_of_block (w := w) (w' := w') (a := ⟨b, o + i, none⟩) hb).trans (h i hi)
theorem Row.lt {w : World} {b o : Nat} {xs : List Value} (h : Row w b o xs) (hx : xs ≠ []) : b < w.heap.size := by
 cases xs with
 | nil => exact absurd rfl hx
 | cons x r => exact World.block_lt_of_cell? w ⟨b, o + 0, none⟩ (by simpa using h 0 (by simp))
theorem Free.lt {w : World} {b : Nat} (h : Free w b) : b < w.heap.size := by
 obtain ⟨cur, t, h⟩ := h
 exact (Array.getElem?_eq_some_iff.1 h).1
mutual
theorem Ow.lt {w : World} : ∀ {d : D} {v : Value} {F : List Nat}, Ow w d v F → ∀ b ∈ F, b < w.heap.size
 | .int _, _, _, h => by simp only [Ow] at h; rw [h.2]; simp
 | .bool _, _, _, h => by simp only [Ow] at h; rw [h.2]; simp
 | .str _, _, _, h => by simp only [Ow] at h; rw [h.2]; simp
 | .raw _, _, _, h => by simp only [Ow] at h; rw [h.2]; simp
 | .sl _ _ cs, _, _, h => by
  simp only [Ow] at h
  obtain ⟨a, cap, h1, h2, h3, h4, h6, h5⟩ := h
  rcases h5 with h5 | ⟨b, o, xs, G, e1, e5, hf, e3, e4⟩
  ·
   rw [h5.2]; simp
  ·
   rw [e5]
   intro k hk
   rcases List.mem_cons.1 hk with rfl | hk
   ·
    exact hf.lt
   ·
    exact Ows.lt e4 k hk
theorem Ows.lt {w : World} : ∀ {cs : List D} {xs : List Value} {F : List Nat}, Ows w cs xs F → ∀ b ∈ F, b < w.heap.size
 | [], _, _, h => by simp only [Ows] at h; rw [h.2]; simp
 | c :: cs, _, _, h => by
  simp only [Ows] at h
  obtain ⟨x, r, G, K, e1, e2, h1, h2⟩ := h
  rw [e2]
  intro k hk
  rcases List.mem_append.1 hk with hk | hk
  ·
   exact Ow.lt h1 k hk
  ·
   exact Ows.lt h2 k hk
end
mutual
theorem Ow.keep {w w' : World} : ∀ {d : D} {v : Value} {F : List Nat}, Ow w d v F → (∀ b ∈ F, w'.heap[b]? = w.heap[b]?) → Ow w' d v F
 | .int _, _, _, h, _ => by simp only [Ow] at h ⊢; exact h
 | .bool _, _, _, h, _ => by simp only [Ow] at h ⊢; exact h
 | .str _, _, _, h, _ => by simp only [Ow] at h ⊢; exact h
 | .raw _, _, _, h, _ => by simp only [Ow] at h ⊢; exact h
 | .sl _ _ cs, _, _, h, hk => by
  simp only [Ow] at h ⊢
  obtain ⟨a, cap, h1, h2, h3, h4, h6, h5⟩ := h
  refine ⟨a, cap, h1, h2, h3, h4, h6, ?_⟩
  rcases h5 with h5 | ⟨b, o, xs, G, e1, e5, ⟨cur, t, hf⟩, e3, e4⟩
  ·
   exact Or.inl h5
  ·
   subst e5
   have hb := hk b (List.mem_cons_self ..)
   exact Or.inr ⟨b, o, xs, G, e1, rfl, ⟨cur, t, hb.trans hf⟩, e3.congr hb, Ows.keep e4 fun k h => hk k (List.mem_cons_of_mem _ h)⟩
theorem Ows.keep {w w' : World} : ∀ {cs : List D} {xs : List Value} {F : List Nat}, Ows w cs xs F → (∀ b ∈ F, w'.heap[b]? = w.heap[b]?) → Ows w' cs xs F
 | [], _, _, h, _ => by simp only [Ows] at h ⊢; exact h
 | c :: cs, _, _, h, hk => by
  simp only [Ows] at h ⊢
  obtain ⟨x, r, G, K, e1, e2, h1, h2⟩ := h
  subst e2
  exact ⟨x, r, G, K, e1, rfl, Ow.keep h1 fun k h => hk k (List.mem_append_left _ h), Ows.keep h2 fun k h => hk k (List.mem_append_right _ h)⟩
end
mutual
theorem Rd.keep {w w' : World} (hk : ∀ b, b < w.heap.size → w'.heap[b]? = w.heap[b]?) : ∀ {d : D} {v : Value}, Rd w d v → Rd w' d v
 | .int _, _, h => by simp only [Rd] at h ⊢; exact h
 | .bool _, _, h => by simp only [Rd] at h ⊢; exact h
 | .str _, _, h => by simp only [Rd] at h ⊢; exact h
 | .raw _, _, h => by simp only [Rd] at h ⊢; exact h
 | .sl size n cs, _, h => by
  simp only [Rd] at h ⊢
  obtain ⟨a, cap, h1, h2, h3, h4, h6, h5⟩ := h
  refine ⟨a, cap, h1, h2, h3, h4, h6, ?_⟩
  rcases h5 with h5 | ⟨b, o, xs, e1, e3, e4⟩
  ·
   exact Or.inl h5
  ·
   refine Or.inr ⟨b, o, xs, e1, ?_, Rds.keep hk e4⟩
   by_cases hx : xs = []
   ·
    subst hx; intro i hi; exact absurd hi (Nat.not_lt_zero _)
   ·
    exact e3.congr (hk b (e3.lt hx))
theorem Rds.keep {w w' : World} (hk : ∀ b, b < w.heap.size → w'.heap[b]? = w.heap[b]?) : ∀ {cs : List D} {xs : List Value}, Rds w cs xs → Rds w' cs xs
 | [], _, h => by simp only [Rds] at h ⊢; exact h
 | c :: cs, _, h => by
  simp only [Rds] at h ⊢
  obtain ⟨x, r, e1, h1, h2⟩ := h
  exact ⟨x, r, e1, Rd.keep hk h1, Rds.keep hk h2⟩
end
theorem Rd.below {w w' : World} {d : D} {v : Value} (h : Rd w d v) (hb : Below w.heap.size w w') : Rd w' d v := h.keep hb.block
theorem Rds.below {w w' : World} {cs : List D} {xs : List Value} (h : Rds w cs xs) (hb : Below w.heap.size w w') : Rds w' cs xs := h.keep hb.block
theorem Rd.alloc {w : World} {d : D} {v : Value} (h : Rd w d v) (o : Obj) : Rd (w.alloc o) d v := h.keep fun k hk => Below.heap_alloc w o k hk
theorem Rds.length {w : World} : ∀ {cs : List D} {xs : List Value}, Rds w cs xs → xs.length = cs.length
 | [], _, h => by simp only [Rds] at h; rw [h]; rfl
 | c :: cs, _, h => by
  simp only [Rds] at h
  obtain ⟨x, r, e1, _, h2⟩ := h
  rw [e1, List.length_cons, List.length_cons, Rds.length h2]
theorem Rds.at {w : World} : ∀ {cs : List D} {xs : List Value}, Rds w cs xs → ∀ {i : Nat} {c : D}, cs[i]? = some c → ∃ x, xs[i]? = some x ∧ Rd w c x
 | [], _, _, i, c, hi => by simp at hi
 | c0 :: cs, _, h, i, c, hi => by
  simp only [Rds] at h
  obtain ⟨x, r, e1, h1, h2⟩ := h
  subst e1
  cases i with
  | zero => simp at hi; subst hi; exact ⟨x, by simp, h1⟩
  | succ i => simpa using Rds.at h2 (by simpa using hi)
theorem Rds.append {w : World} : ∀ {cs ds : List D} {xs ys : List Value}, Rds w cs xs → Rds w ds ys → Rds w (cs ++ ds) (xs ++ ys)
 | [], _, _, _, h, k => by simp only [Rds] at h; subst h; simpa using k
 | c :: cs, _, _, _, h, k => by
  simp only [Rds] at h
  obtain ⟨x, r, e1, h1, h2⟩ := h
  subst e1
  simp only [List.cons_append, Rds]
  exact ⟨x, _, rfl, h1, Rds.append h2 k⟩
theorem Ows.length {w : World} {cs : List D} {xs : List Value} {F : List Nat} (h : Ows w cs xs F) : xs.length = cs.length := h.rds.length
theorem Ows.append {w : World} : ∀ {cs ds : List D} {xs ys : List Value} {F G : List Nat}, Ows w cs xs F → Ows w ds ys G → Ows w (cs ++ ds) (xs ++ ys) (F ++ G)
 | [], _, _, _, _, _, h, k => by simp only [Ows] at h; obtain ⟨rfl, rfl⟩ := h; simpa using k
 | c :: cs, _, _, _, _, G, h, k => by
  simp only [Ows] at h
  obtain ⟨x, r, A, B, e1, e2, h1, h2⟩ := h
  subst e1 e2
  simp only [List.cons_append, Ows]
  exact ⟨x, _, A, B ++ G, rfl, by rw [List.append_assoc], h1, Ows.append h2 k⟩
theorem Rd.sl_at {w : World} {size n : Nat} {cs : List D} {a : Option Addr} {len cap : Nat} (h : Rd w (.sl size n cs) (.slice a len cap)) :
  len = n ∧ n ≤ cap ∧ cap ≤ maxLen ∧ cs.length = n * size ∧ (a = none → cap = 0) ∧ (n = 0 ∨ ∃ b o, a = some ⟨b, o, none⟩ ∧ ∀ i c, cs[i]? = some c → ∃ x, w.cell? ⟨b, o + i, none⟩ = some x ∧ Rd w c x) := by
 simp only [Rd] at h
 obtain ⟨a', cap', h1, h2, h3, h4, h6, h5⟩ := h
 simp only [Value.slice.injEq] at h1
 obtain ⟨rfl, rfl, rfl⟩ := h1
 refine ⟨rfl, h2, h3, h4, h6, ?_⟩
 rcases h5 with h5 | ⟨b, o, xs, e1, e3, e4⟩
 ·
  exact Or.inl h5
 ·
  refine Or.inr ⟨b, o, e1, fun i c hc => ?_⟩
  obtain ⟨x, hx, hr⟩ := e4.at hc
  exact ⟨x, (e3 i (List.getElem?_eq_some_iff.1 hx).1).trans hx, hr⟩
theorem Rd.slice {w : World} {size n : Nat} {cs : List D} {v : Value} (h : Rd w (.sl size n cs) v) : ∃ a cap, v = .slice a n cap ∧ n ≤ cap ∧ cap ≤ maxLen ∧ (a = none → cap = 0) := by
 simp only [Rd] at h
 obtain ⟨a, cap, h1, h2, h3, h4, h6, h5⟩ := h
 exact ⟨a, cap, h1, h2, h3, h6⟩
def Blk (w : World) (g : Nat) (t : TypeId) (cur : List Value) : Prop := w.heap[g]? = some (.cells cur.toArray t (0, 0))
theorem Blk.free {w : World} {g t : Nat} {cur : List Value} (h : Blk w g t cur) : Free w g := ⟨_, _, h⟩
theorem Blk.lt {w : World} {g t : Nat} {cur : List Value} (h : Blk w g t cur) : g < w.heap.size := h.free.lt
theorem Blk.cell {w : World} {g t : Nat} {cur : List Value} (h : Blk w g t cur) (i : Nat) : w.cell? ⟨g, i, none⟩ = cur[i]? := by
 have h' : w.heap[(⟨g, i, none⟩ : Addr).block]? = some (.cells cur.toArray t (0, 0)) := h
 simp [World.cell?, h']
theorem Blk.frozen {w : World} {g t : Nat} {cur : List Value} (h : Blk w g t cur) (i : Nat) : w.frozen? ⟨g, i, none⟩ = false := by
 have h' : w.heap[(⟨g, i, none⟩ : Addr).block]? = some (.cells cur.toArray t (0, 0)) := h
 simp [World.frozen?, h']
theorem Blk.set {w : World} {g t : Nat} {cur : List Value} (h : Blk w g t cur) (i : Nat) (v : Value) : Blk (w.setCell ⟨g, i, none⟩ v) g t (cur.set i v) := by
 unfold Blk at h ⊢
 simp [World.setCell, Array.getElem?_modify, h]
theorem Blk.keep {w w' : World} {g t : Nat} {cur : List Value} (h : Blk w g t cur) (hk : w'.heap[g]? = w.heap[g]?) : Blk w' g t cur := hk.trans h
theorem Blk.row {w : World} {g t : Nat} {cur xs : List Value} (h : Blk w g t cur) (hx : cur.take xs.length = xs) : Row w g 0 xs := by
 intro i hi
 rw [Nat.zero_add, h.cell]
 have := List.getElem?_take (l := cur) (i := xs.length) (j := i)
 rw [hx, if_pos hi] at this
 exact this.symm
theorem Blk.made (w : World) (t : TypeId) (cur : Array Value) : Blk (w.alloc (.cells cur t)) w.heap.size t cur.toList := by
 unfold Blk
 rw [heap_alloc_new]
theorem Blk.below {w w' : World} {g t : Nat} {cur : List Value} (h : Blk w g t cur) (hb : Below w.heap.size w w') : Blk w' g t cur := h.keep (hb.block _ h.lt)
theorem Blk.alloc {w : World} {g t : Nat} {cur : List Value} (h : Blk w g t cur) (o : Obj) : Blk (w.alloc o) g t cur := h.keep (Below.heap_alloc w o g h.lt)
theorem Blk.other {w : World} {g t : Nat} {cur : List Value} (h : Blk w g t cur) {p : Addr} (hp : g ≠ p.block) (u : Value) : Blk (w.setCell p u) g t cur := h.keep (Below.heap_setCell _ _ _ _ hp)
theorem Blk.drew {w : World} {g t : Nat} {cur : List Value} (h : Blk w g t cur) : Blk w.drew g t cur := h
theorem Blk.c0 {w : World} {g t : Nat} {a : Value} {r : List Value} (h : Blk w g t (a :: r)) : w.cell? ⟨g, 0, none⟩ = some a := by rw [h.cell]; rfl
theorem Blk.c1 {w : World} {g t : Nat} {a b : Value} {r : List Value} (h : Blk w g t (a :: b :: r)) : w.cell? ⟨g, 1, none⟩ = some b := by rw [h.cell]; rfl
theorem Blk.c2 {w : World} {g t : Nat} {a b c : Value} {r : List Value} (h : Blk w g t (a :: b :: c :: r)) : w.cell? ⟨g, 2, none⟩ = some c := by rw [h.cell]; rfl
theorem Blk.c3 {w : World} {g t : Nat} {a b c d : Value} {r : List Value} (h : Blk w g t (a :: b :: c :: d :: r)) : w.cell? ⟨g, 3, none⟩ = some d := by rw [h.cell]; rfl
theorem Blk.new0 (w : World) (t : TypeId) : Blk (w.alloc (.cells #[] t)) w.heap.size t [] := Blk.made w t _
theorem Blk.new1 (w : World) (t : TypeId) (a : Value) : Blk (w.alloc (.cells #[a] t)) w.heap.size t [a] := Blk.made w t _
theorem Blk.new2 (w : World) (t : TypeId) (a b : Value) : Blk (w.alloc (.cells #[a, b] t)) w.heap.size t [a, b] := Blk.made w t _
theorem Blk.new3 (w : World) (t : TypeId) (a b c : Value) : Blk (w.alloc (.cells #[a, b, c] t)) w.heap.size t [a, b, c] := Blk.made w t _
theorem Blk.new4 (w : World) (t : TypeId) (a b c d : Value) : Blk (w.alloc (.cells #[a, b, c, d] t)) w.heap.size t [a, b, c, d] := Blk.made w t _
theorem box3 (w : World) (t : TypeId) (a b c : Value) : ∃ w', w.alloc (.cells #[a, b, c] t) = w' ∧ Blk w' w.heap.size t [a, b, c] ∧ Below w.heap.size w w' ∧ w'.heap.size = w.heap.size + 1 :=
 ⟨_, rfl, Blk.new3 w t a b c, Below.alloc (Below.refl _ _) (Nat.le_refl _) _, by simp⟩
theorem box1 (w : World) (t : TypeId) (a : Value) : ∃ w', w.alloc (.cells #[a] t) = w' ∧ Blk w' w.heap.size t [a] ∧ Below w.heap.size w w' ∧ w'.heap.size = w.heap.size + 1 :=
 ⟨_, rfl, Blk.new1 w t a, Below.alloc (Below.refl _ _) (Nat.le_refl _) _, by simp⟩
theorem box2 (w : World) (t : TypeId) (a b : Value) : ∃ w', w.alloc (.cells #[a, b] t) = w' ∧ Blk w' w.heap.size t [a, b] ∧ Below w.heap.size w w' ∧ w'.heap.size = w.heap.size + 1 :=
 ⟨_, rfl, Blk.new2 w t a b, Below.alloc (Below.refl _ _) (Nat.le_refl _) _, by simp⟩
theorem Blk.all3 {w : World} {g t : Nat} {a b c : Value} (h : Blk w g t [a, b, c]) : w.cell? ⟨g, 0, none⟩ = some a ∧ w.cell? ⟨g, 1, none⟩ = some b ∧ w.cell? ⟨g, 2, none⟩ = some c ∧ w.frozen? ⟨g, 0, none⟩ = false ∧ w.frozen? ⟨g, 1, none⟩ = false ∧ w.frozen? ⟨g, 2, none⟩ = false ∧ g < w.heap.size :=
 ⟨h.c0, h.c1, h.c2, h.frozen 0, h.frozen 1, h.frozen 2, h.lt⟩
theorem Blk.all2 {w : World} {g t : Nat} {a b : Value} (h : Blk w g t [a, b]) : w.cell? ⟨g, 0, none⟩ = some a ∧ w.cell? ⟨g, 1, none⟩ = some b ∧ g < w.heap.size := ⟨h.c0, h.c1, h.lt⟩
def Fresh (w w' : World) (d : D) (v : Value) : Prop := ∃ F : List Nat, Ow w' d v F ∧ F.Nodup ∧ ∀ b ∈ F, w.heap.size ≤ b
theorem Fresh.rd {w w' : World} {d : D} {v : Value} (h : Fresh w w' d v) : Rd w' d v := by
 obtain ⟨F, h, _⟩ := h
 exact h.rd
theorem Fresh.from {w0 w w' : World} {d : D} {v : Value} (h : Fresh w w' d v) (hz : w0.heap.size ≤ w.heap.size) : Fresh w0 w' d v := by
 obtain ⟨F, h, hn, hl⟩ := h
 exact ⟨F, h, hn, fun b hb => Nat.le_trans hz (hl b hb)⟩
theorem Fresh.keep {w w' w'' : World} {d : D} {v : Value} (h : Fresh w w' d v) (hk : ∀ b, w.heap.size ≤ b → b < w'.heap.size → w''.heap[b]? = w'.heap[b]?) : Fresh w w'' d v := by
 obtain ⟨F, h, hn, hl⟩ := h
 exact ⟨F, h.keep fun b hm => hk b (hl b hm) (h.lt b hm), hn, hl⟩
def Freshs (w w' : World) (ds : List D) (vs : List Value) : Prop := ∃ F : List Nat, Ows w' ds vs F ∧ F.Nodup ∧ ∀ b ∈ F, w.heap.size ≤ b
theorem Freshs.rds {w w' : World} {ds : List D} {vs : List Value} (h : Freshs w w' ds vs) : Rds w' ds vs := by
 obtain ⟨F, h, _⟩ := h
 exact h.rds
theorem Freshs.nil {w w' : World} : Freshs w w' [] [] := ⟨[], by simp [Ows], by simp, by simp⟩
theorem Freshs.cons {w w' : World} {d : D} {v : Value} {ds : List D} {vs : List Value} {w0 : World} (h : Fresh w0 w d v) (k : Freshs w w' ds vs) (hb : Below w.heap.size w w') (hz : w0.heap.size ≤ w.heap.size) : Freshs w0 w' (d :: ds) (v :: vs) := by
 obtain ⟨F, h1, h2, h3⟩ := h
 obtain ⟨G, k1, k2, k3⟩ := k
 refine ⟨F ++ G, ?_, ?_, ?_⟩
 ·
  simp only [Ows]
  exact ⟨_, _, F, G, rfl, rfl, h1.keep fun b hm => hb.block b (h1.lt b hm), k1⟩
 ·
  rw [List.nodup_append]
  refine ⟨h2, k2, fun a ha b hb' => ?_⟩
  have := h1.lt a ha
  have := k3 b hb'
  omega
 ·
  intro b hm
  rcases List.mem_append.1 hm with hm | hm
  ·
   exact h3 b hm
  ·
   have := k3 b hm
   omega
theorem Freshs.one {w w' : World} {d : D} {v : Value} (h : Fresh w w' d v) : Freshs w w' [d] [v] := by
 obtain ⟨F, h1, h2, h3⟩ := h
 exact ⟨F, by simp only [Ows]; exact ⟨_, _, F, [], rfl, by simp, h1, rfl, rfl⟩, h2, h3⟩
theorem Freshs.from {w0 w w' : World} {ds : List D} {vs : List Value} (h : Freshs w w' ds vs) (hz : w0.heap.size ≤ w.heap.size) : Freshs w0 w' ds vs := by
 obtain ⟨F, h, hn, hl⟩ := h
 exact ⟨F, h, hn, fun b hb => Nat.le_trans hz (hl b hb)⟩
theorem Freshs.keep {w w' w'' : World} {ds : List D} {vs : List Value} (h : Freshs w w' ds vs) (hk : ∀ b, w.heap.size ≤ b → b < w'.heap.size → w''.heap[b]? = w'.heap[b]?) : Freshs w w'' ds vs := by
 obtain ⟨F, h, hn, hl⟩ := h
 exact ⟨F, h.keep fun b hm => hk b (hl b hm) (h.lt b hm), hn, hl⟩
theorem Freshs.on {w w' w'' : World} {ds : List D} {vs : List Value} (h : Freshs w w' ds vs) (hb : Below w'.heap.size w' w'') : Freshs w w'' ds vs :=
 h.keep fun b _ hm => hb.block b hm
theorem Rds.one {w : World} {d : D} {u : Value} (h : Rds w [d] [u]) : Rd w d u := by
 simp only [Rds] at h
 obtain ⟨x, r, e1, h1, _⟩ := h
 simp only [List.cons.injEq] at e1
 obtain ⟨rfl, _⟩ := e1
 exact h1
theorem Rds.two {w : World} {d e : D} {u v : Value} (h : Rds w [d, e] [u, v]) : Rd w d u ∧ Rd w e v := by
 simp only [Rds] at h
 obtain ⟨x, r, e1, h1, y, s, e2, h2, e3⟩ := h
 simp only [List.cons.injEq] at e1
 obtain ⟨rfl, rfl⟩ := e1
 simp only [List.cons.injEq] at e2
 obtain ⟨rfl, _⟩ := e2
 exact ⟨h1, h2⟩
structure Only (F : List Nat) (w w' : World) : Prop where
 os : w'.os = w.os
 tape : w'.tape = w.tape
 output : w'.output = w.output
 size : w.heap.size ≤ w'.heap.size
 block : ∀ b, b < w.heap.size → b ∉ F → w'.heap[b]? = w.heap[b]?
theorem Only.trans {F : List Nat} {a b c : World} (h : Only F a b) (k : Only F b c) : Only F a c :=
 ⟨k.os.trans h.os, k.tape.trans h.tape, k.output.trans h.output, Nat.le_trans h.size k.size, fun i hi hn => (k.block i (Nat.lt_of_lt_of_le hi h.size) hn).trans (h.block i hi hn)⟩
theorem Only.below {F : List Nat} {a w : World} (h : Only F a w) {B : Nat} (hB : B ≤ a.heap.size) (hF : ∀ b ∈ F, B ≤ b) : Below B a w :=
 ⟨h.os, h.tape, h.output, h.size, fun k hk => h.block k (by omega) (fun hm => by have := hF k hm; omega)⟩
theorem Ows.nil {w : World} : Ows w [] [] [] := by simp [Ows]
theorem Ows.cons {w : World} {d : D} {v : Value} {cs : List D} {xs : List Value} {F G : List Nat} (h : Ow w d v F) (k : Ows w cs xs G) : Ows w (d :: cs) (v :: xs) (F ++ G) := by
 simp only [Ows]
 exact ⟨_, _, F, G, rfl, rfl, h, k⟩
theorem Ow.int {w : World} (n : Int) : Ow w (.int n) (.int .i64 n) [] := by simp [Ow]
theorem Ow.raw {w : World} {u : Value} (h : u.oneCell' = true) : Ow w (.raw u) u [] := by simp [Ow, h]
theorem Ows.raws {w : World} : ∀ {us : List Value}, (∀ u ∈ us, u.oneCell' = true) → Ows w (us.map D.raw) us []
 | [], _ => by simp [Ows]
 | u :: r, h => by
  simp only [List.map_cons, Ows, Ow]
  exact ⟨u, r, [], [], rfl, rfl, ⟨⟨rfl, h u (by simp)⟩, rfl⟩, Ows.raws fun x hx => h x (by simp [hx])⟩
theorem Rds.raws {w : World} : ∀ {us xs : List Value}, Rds w (us.map D.raw) xs → xs = us
 | [], _, h => by simpa [Rds] using h
 | u :: r, xs, h => by
  simp only [List.map_cons, Rds, Rd] at h
  obtain ⟨x, r', rfl, ⟨rfl, -⟩, h2⟩ := h
  rw [Rds.raws h2]
theorem Ows.three {w : World} {k n : Int} {d : D} {v : Value} {F : List Nat} (h : Ow w d v F) : Ows w [.int k, .int n, d] [.int .i64 k, .int .i64 n, v] F := by
 simp only [Ows]
 exact ⟨_, _, [], F, rfl, rfl, by simp [Ow], _, _, [], F, rfl, rfl, by simp [Ow], _, _, F, [], rfl, by simp, h, rfl, rfl⟩
def intsD (zs : List Int) : D := .sl 1 zs.length (zs.map D.int)
theorem int_in {w : World} {zs : List Int} {b o len cap : Nat} (h : Rd w (intsD zs) (.slice (some ⟨b, o, none⟩) len cap)) {i : Nat} {z : Int} (hz : zs[i]? = some z) :
  b < w.heap.size ∧ w.cell? ⟨b, o + i, none⟩ = some (.int .i64 z) := by
 obtain ⟨_, _, _, _, _, h4⟩ := h.sl_at
 rcases h4 with h4 | ⟨b', o', e1, h4⟩
 ·
  have := (List.getElem?_eq_some_iff.1 hz).1
  omega
 ·
  simp only [Option.some.injEq, Addr.mk.injEq, and_true] at e1
  obtain ⟨rfl, rfl⟩ := e1
  obtain ⟨x, h5, h6⟩ := h4 i (.int z) (by rw [List.getElem?_map, hz]; rfl)
  simp only [Rd] at h6
  subst h6
  exact ⟨World.block_lt_of_cell? w _ h5, h5⟩
theorem int_some {w : World} {zs : List Int} {a : Option Addr} {len cap : Nat} (h : Rd w (intsD zs) (.slice a len cap)) (hk : 0 < zs.length) : ∃ b o, a = some ⟨b, o, none⟩ := by
 obtain ⟨_, _, _, _, _, h4⟩ := h.sl_at
 rcases h4 with h4 | ⟨b, o, e, _⟩
 ·
  omega
 ·
  exact ⟨b, o, e⟩
section
variable {H : Type} {enc : TypeId × Value → H} {P : Program} {w : World} {base : Nat} {sp : Nat → Bool} {hd : Bool}
theorem open_sl {t e size : Nat} {Q : List D → Prop} (ht : P.underlying t = some (.slice e)) (hc : P.cellsOf e = size) (hpos : 0 < size) {fuel : Nat}
  (hel : ∀ m, m < fuel → ∀ cs x, DataW.trod enc P w base sp hd m e cs = some x → ∃ ds, Q ds ∧ ds.length = size ∧ Rds w ds cs)
  {cs : List Value} {x : DataW H × List MemPlace} (h : DataW.trod enc P w base sp hd fuel t cs = some x) :
  ∃ v, ∃ rows : List (List D), cs = [v] ∧ (∀ r ∈ rows, Q r) ∧ Rd w (.sl size rows.length rows.flatten) v := by
 rcases DataW.trod_slice ht h with ⟨rfl, _⟩ | ⟨a, len, cap, elems, rest, n, rfl, rfl, _, hb, hl, hm, hlen, hel', _, _⟩
 ·
  exact ⟨_, [], rfl, by simp, by simp only [Rd]; exact ⟨none, 0, rfl, by simp, by simp [maxLen], by simp, fun _ => rfl, Or.inl rfl⟩⟩
 ·
  have key : ∀ i, i < len → ∃ row : List Value × List D, w.cells? base (a.add (i * size)) size = some row.1 ∧ Q row.2 ∧ row.2.length = size ∧ Rds w row.2 row.1 := by
   intro i hi
   have := hel' i hi
   rw [hc, List.getElem?_eq_getElem (by omega), Option.bind_eq_some_iff] at this
   obtain ⟨cs, hcs, hx⟩ := this
   obtain ⟨ds, q, hd, hr⟩ := hel n (by omega) cs _ hx
   exact ⟨(cs, ds), hcs, q, hd, hr⟩
  obtain ⟨f, hf⟩ := choose_lt key
  refine ⟨_, (List.range len).map fun i => (f i).2, rfl, ?_, ?_⟩
  ·
   intro r hr
   obtain ⟨i, hi, rfl⟩ := List.mem_map.1 hr
   exact (hf i (List.mem_range.1 hi)).2.1
  ·
   have spot : len = 0 ∨ ∃ b o, a = ⟨b, o, none⟩ := by
    by_cases h0 : len = 0
    ·
     exact Or.inl h0
    right
    obtain ⟨b, o, spot⟩ := a
    have h1 := (hf 0 (by omega)).1
    obtain ⟨_, _, hcell⟩ := World.cells?_some h1
    have h2 := hcell 0 hpos
    rw [List.getElem?_eq_getElem (by rw [(hf 0 (by omega)).2.2.2.length, (hf 0 (by omega)).2.2.1]; exact hpos)] at h2
    have hspot : spot = none := by simpa [Addr.add] using World.cell?_spot h2
    exact ⟨b, o, by rw [hspot]⟩
   have hfl : ∀ m, m ≤ len → (((List.range m).map fun i => (f i).2).flatten).length = m * size ∧ Rds w (((List.range m).map fun i => (f i).2).flatten) (((List.range m).map fun i => (f i).1).flatten) ∧
     (∀ b o, a = ⟨b, o, none⟩ → Row w b o (((List.range m).map fun i => (f i).1).flatten)) := by
    intro m
    induction m with
    | zero => intro _; exact ⟨by simp, by simp [Rds], fun b o _ i hi => by simp at hi⟩
    | succ m ih =>
     intro hm'
     obtain ⟨i1, i2, i3⟩ := ih (by omega)
     obtain ⟨f1, _, f3, f4⟩ := hf m (by omega)
     rw [List.range_succ, List.map_append, List.flatten_append, List.map_append, List.flatten_append]
     refine ⟨?_, Rds.append i2 (by simpa using f4), ?_⟩
     ·
      rw [List.length_append, i1]
      simp [f3, Nat.succ_mul]
     ·
      intro b o hab i hi
      have hlen1 := i2.length
      rw [i1] at hlen1
      by_cases hlt : i < m * size
      ·
       rw [i3 b o hab i (by omega), List.getElem?_append_left (by omega)]
      ·
       rw [List.getElem?_append_right (by omega), hlen1]
       obtain ⟨_, _, hcell⟩ := World.cells?_some f1
       have h4 := f4.length
       rw [f3] at h4
       simp only [List.map_cons, List.map_nil, List.flatten_cons, List.flatten_nil, List.append_nil, List.length_append, hlen1, h4] at hi ⊢
       have h5 := hcell (i - m * size) (by omega)
       rw [hab, add_add, add_plain] at h5
       rw [← h5]
       congr 2
       omega
   obtain ⟨g1, g2, g3⟩ := hfl len (Nat.le_refl _)
   simp only [Rd]
   refine ⟨some a, cap, by simp, by simpa using hl, hm, by simpa using g1, by simp, ?_⟩
   rcases spot with h0 | ⟨b, o, hab⟩
   ·
    exact Or.inl (by simpa using h0)
   ·
    exact Or.inr ⟨b, o, _, by rw [hab], g3 b o hab, g2⟩
end
end Go.Proofs.Ytfhlddbngjlhbaa

namespace Go.Proofs.Ytfhlddbngjlhbaa
set_option linter.unusedVariables false
set_option linter.unusedSimpArgs false
open Go.ChangeShapes Go.WideShapes Go.ChangeAt Go.RowKit Go.Deep
def App (W w : World) (t : TypeId) (size n : Nat) (ds : List D) (v : Value) : Prop :=
 ∃ xs F, w.ownsRow W.heap.size t size v n xs ∧ Ows w ds xs F ∧ F.Nodup ∧ ∀ b ∈ F, W.heap.size ≤ b ∧ v.ownBlock ≠ some b
theorem App.nil {W w : World} {t size : Nat} : App W w t size 0 [] (.slice none 0 0) := ⟨[], [], World.ownsRow_nil _ _ _ _, Ows.nil, by simp, by simp⟩
theorem App.empty {W w : World} {t size g : Nat} (h : Blk w g t []) (hg : W.heap.size ≤ g) : App W w t size 0 [] (.slice (some ⟨g, 0, none⟩) 0 0) :=
 ⟨[], [], ⟨by simp, Or.inr ⟨g, 0, #[], rfl, hg, by simpa [Blk] using h, by omega, by simp [maxLen], by simp, by simp⟩⟩, Ows.nil, by simp, by simp⟩
theorem App.len {W w : World} {t size n : Nat} {ds : List D} {v : Value} (h : App W w t size n ds v) : ds.length = n * size := by
 obtain ⟨xs, F, h1, h2, _⟩ := h
 rw [← h2.length, h1.1]
theorem App.shape {W w : World} {t size n : Nat} {ds : List D} {v : Value} (h : App W w t size n ds v) : ∃ a cap, v = .slice a n cap ∧ n ≤ cap ∧ cap ≤ maxLen := by
 obtain ⟨xs, F, ⟨_, h1⟩, _⟩ := h
 rcases h1 with ⟨rfl, rfl⟩ | ⟨g, cap, cur, rfl, _, _, h2, h3, _⟩
 ·
  exact ⟨none, 0, rfl, by omega, by simp [maxLen]⟩
 ·
  exact ⟨_, cap, rfl, h2, h3⟩
theorem App.lt {W w : World} {t size n : Nat} {ds : List D} {v : Value} (h : App W w t size n ds v) : ∀ k, v.ownBlock = some k → W.heap.size ≤ k ∧ k < w.heap.size := by
 obtain ⟨xs, F, h1, _⟩ := h
 exact h1.lt
theorem App.keep {W w w' : World} {t size n : Nat} {ds : List D} {v : Value} (h : App W w t size n ds v) (hk : ∀ b, b < w.heap.size → W.heap.size ≤ b → w'.heap[b]? = w.heap[b]?) : App W w' t size n ds v := by
 obtain ⟨xs, F, h1, h2, h3, h4⟩ := h
 refine ⟨xs, F, ⟨h1.1, ?_⟩, h2.keep fun b hb => hk b (h2.lt b hb) (h4 b hb).1, h3, h4⟩
 rcases h1.2 with h | ⟨g, cap, cur, e, hg, hb, hr⟩
 ·
  exact Or.inl h
 ·
  exact Or.inr ⟨g, cap, cur, e, hg, (hk g (Array.getElem?_eq_some_iff.1 hb).1 hg).trans hb, hr⟩
theorem App.below {W w w' : World} {t size n : Nat} {ds : List D} {v : Value} (h : App W w t size n ds v) (hb : Below w.heap.size w w') : App W w' t size n ds v := h.keep fun b hl _ => hb.block b hl
theorem App.fresh {W w : World} {t size n : Nat} {ds : List D} {v : Value} (h : App W w t size n ds v) : Fresh W w (.sl size n ds) v := by
 have hlen := h.len
 obtain ⟨xs, F, h1, h2, h3, h4⟩ := h
 have hxl := h1.1
 rcases h1.2 with ⟨rfl, rfl⟩ | ⟨g, cap, cur, rfl, hg, hb, h5, h6, h7, h8⟩
 ·
  exact ⟨[], by simp only [Ow]; exact ⟨_, 0, rfl, by omega, by simp [maxLen], hlen, by simp, Or.inl (by simp)⟩, by simp, by simp⟩
 ·
  by_cases h0 : n = 0
  ·
   exact ⟨[], by simp only [Ow]; exact ⟨_, cap, rfl, h5, h6, hlen, by simp, Or.inl (by simp [h0])⟩, by simp, by simp⟩
  ·
   have hblk : Blk w g t cur.toList := by simpa [Blk] using hb
   refine ⟨g :: F, by simp only [Ow]; exact ⟨_, cap, rfl, h5, h6, hlen, by simp, Or.inr ⟨g, 0, xs, F, rfl, rfl, hblk.free, hblk.row (by rw [hxl]; exact h8), h2⟩⟩, ?_, ?_⟩
   ·
    rw [List.nodup_cons]
    exact ⟨fun hm => (h4 g hm).2 rfl, h3⟩
   ·
    intro b hm
    rcases List.mem_cons.1 hm with rfl | hm
    ·
     exact hg
    ·
     exact (h4 b hm).1
theorem App.rd {W w : World} {t size n : Nat} {ds : List D} {v : Value} (h : App W w t size n ds v) : Rd w (.sl size n ds) v := h.fresh.rd
theorem wpList_append_app {P : Program} (w : World) {ops : Array Oper} {rest : List Oper} {o : Oper} {a : Act} {Q : Exit → Act → World → Prop} (hgd : o.guard = none) (s x : Operand) (t : TypeId)
  (ho : o.op = .call { callee := .builtin .append, args := #[s, x], argTypes := #[t, t] })
  (e : TypeId) (z : Value) (size bytes : Nat) (ht : P.underlying t = some (.slice e)) (hinfo : (P.info? e).map (fun i => (i.zero, i.size, i.bytes)) = some (some z, size, bytes)) (hzs : z.cells.size = size) (hsz : 0 < size)
  {W w1 : World} (v : Value) {n : Nat} {ds : List D} (hs : a.eval s = v) (happ : App W w1 e size n ds v) (hb : Below w1.heap.size w1 w) (hB : W.heap.size ≤ w1.heap.size)
  (ad : Addr) (m c : Nat) {es : List D} (news : List Value) (hx : a.eval x = .slice (some ad) m c) (hnews : ∀ j u, news[j]? = some u → w.cell? (ad.add j) = some u) (hes : Freshs w1 w es news)
  (hl : news.length = m * size) (h1 : ∀ u ∈ news, u.oneCell' = true) (hm : 0 < m) (hbytes : (n + m) * bytes ≤ 140737488355328) (h63 : n + m ≤ maxLen)
  (h : ∀ g cap w', App W w' e size (n + m) (ds ++ es) (.slice (some ⟨g, 0, none⟩) (n + m) cap) → Below W.heap.size w w' → wpList P ops Q rest (a.put o.dst (.slice (some ⟨g, 0, none⟩) (n + m) cap)) w') : wpList P ops Q (o :: rest) a w := by
 obtain ⟨i, hi, hz, hsize, hby⟩ := info_parts hinfo
 have hz1 := hb.size
 obtain ⟨xs, F, a1, a2, a3, a4⟩ := happ.below hb
 have a5 := happ.lt
 obtain ⟨G, g1, g2, g3⟩ := hes
 obtain ⟨xs', F', b1, b2, b3, b4⟩ := happ
 -- the same cells and blocks as in w1
 have a6 : ∀ b ∈ F', b < w1.heap.size := b2.lt
 have b1' : w.ownsRow W.heap.size e size v n xs' := by
  refine ⟨b1.1, ?_⟩
  rcases b1.2 with h | ⟨g, cap, cur, q, hg, hbb, hr⟩
  ·
   exact Or.inl h
  ·
   exact Or.inr ⟨g, cap, cur, q, hg, (hb.block g (Array.getElem?_eq_some_iff.1 hbb).1).trans hbb, hr⟩
 have b2' : Ows w ds xs' F' := b2.keep fun b hb' => hb.block b (a6 b hb')
 refine wpList_append_lies w hgd s x t ho W.heap.size e i z size bytes ht hi hz hsize hby hzs hsz v n xs' hs b1' ad m c news hx hl hnews h1 hm h63 hbytes (by omega) w.heap.size rfl ?_
 intro g cap w' k1 k2 k3 k4
 have hF : ∀ b ∈ F', some b ≠ v.ownBlock := fun b hb' e => (b4 b hb').2 e.symm
 have hG : ∀ b ∈ G, some b ≠ v.ownBlock := fun b hb' e => by have := (a5 b e.symm).2; have := g3 b hb'; omega
 refine h g cap w' ⟨xs' ++ news, F' ++ G, k1, Ows.append (b2'.keep fun b hb' => k2.block b (b2'.lt b hb') (hF b hb')) (g1.keep fun b hb' => k2.block b (g1.lt b hb') (hG b hb')), ?_, ?_⟩ ⟨k2.os, k2.tape, k2.output, k2.size, fun b hb' => k2.block b (by omega) (fun e => by have := (a5 b e.symm).1; omega)⟩
 ·
  rw [List.nodup_append]
  refine ⟨b3, g2, fun p hp q hq hpq => ?_⟩
  subst hpq
  have := a6 p hp
  have := g3 p hq
  omega
 ·
  intro b hm'
  have hgb : ∀ b, some b ≠ v.ownBlock → b < w.heap.size → Value.ownBlock (.slice (some ⟨g, 0, none⟩) (n + m) cap) ≠ some b := by
   intro b hne hlt e
   simp only [Value.ownBlock, Option.some.injEq] at e
   subst e
   rcases k3 with k3 | k3
   ·
    exact hne k3.symm
   ·
    omega
  rcases List.mem_append.1 hm' with hm' | hm'
  ·
   exact ⟨(b4 b hm').1, hgb b (hF b hm') (b2'.lt b hm')⟩
  ·
   exact ⟨by have := g3 b hm'; omega, hgb b (hG b hm') (g1.lt b hm')⟩
theorem Freshs.int {w w' : World} (z : Int) : Freshs w w' [.int z] [.int .i64 z] := ⟨[], Ows.cons (Ow.int z) Ows.nil, by simp, by simp⟩
end Go.Proofs.Ytfhlddbngjlhbaa
