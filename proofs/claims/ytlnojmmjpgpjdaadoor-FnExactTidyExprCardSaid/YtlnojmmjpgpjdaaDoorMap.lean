/-
  A map of the call's own, as a list of pairs of plain keys and plain values; its laws at the operation. No program in sight.
-/
import Derived.Test.YtlnojmmjpgpjdaaDoorMem
import Derived.Maps.OwnOps
import Derived.DeepKeys4
namespace Go.Proofs.YtlnojmmjpgpjdaaDoor
open Go.ChangeShapes Go.WideShapes Go.ChangeAt Go.RowKit Go.Deep Go.ChangeMaps Go.MapKept
open Go.Maps (Keyed)

section
variable {κ ν : Type} [DecidableEq κ]
/-- What a key has. -/
def findM : List (κ × ν) → κ → Option ν
  | [], _ => none
  | p :: r, k => if p.1 = k then some p.2 else findM r k
/-- A key is given a value. -/
def putM : List (κ × ν) → κ → ν → List (κ × ν)
  | [], k, v => [(k, v)]
  | p :: r, k, v => if p.1 = k then (k, v) :: r else p :: putM r k v
theorem findM_putM (k : κ) (v : ν) (k' : κ) : ∀ L : List (κ × ν), findM (putM L k v) k' = if k = k' then some v else findM L k'
  | [] => by simp [putM, findM]
  | p :: r => by
    have ih := findM_putM k v k' r
    unfold putM
    split
    · rename_i h
      simp only [findM]
      by_cases hk : k = k'
      · simp [hk]
      · rw [if_neg hk, if_neg hk, if_neg (by rw [h]; exact hk)]
    · rename_i h
      simp only [findM, ih]
      by_cases hk : k = k'
      · subst hk
        simp [h]
      · simp [hk]
theorem findM_none {k : κ} : ∀ {L : List (κ × ν)}, findM L k = none ↔ ∀ p ∈ L, p.1 ≠ k
  | [] => by simp [findM]
  | p :: r => by
    simp only [findM, List.mem_cons]
    by_cases h : p.1 = k
    · simp [h]
    · rw [if_neg h, findM_none]
      constructor
      · rintro h1 q (rfl | hq)
        · exact h
        · exact h1 q hq
      · exact fun h1 q hq => h1 q (Or.inr hq)
theorem findM_at {k : κ} {v : ν} : ∀ {L : List (κ × ν)} {j : Nat}, (L.map (·.1)).Nodup → L[j]? = some (k, v) → findM L k = some v
  | [], _, _, h => by simp at h
  | p :: r, 0, _, h => by
    simp at h
    subst h
    simp [findM]
  | p :: r, j + 1, hn, h => by
    simp only [List.map_cons, List.nodup_cons] at hn
    have hr : r[j]? = some (k, v) := by simpa using h
    have hne : p.1 ≠ k := fun e => hn.1 (by rw [e]; exact List.mem_map.2 ⟨(k, v), List.mem_of_getElem? hr, rfl⟩)
    simp only [findM]
    rw [if_neg hne]
    exact findM_at hn.2 hr
theorem findM_mem {k : κ} {v : ν} : ∀ {L : List (κ × ν)}, findM L k = some v → (k, v) ∈ L
  | [], h => by simp [findM] at h
  | p :: r, h => by
    simp only [findM] at h
    split at h
    · rename_i hk
      simp only [Option.some.injEq] at h
      subst h
      exact List.mem_cons.2 (Or.inl (by rw [← hk]))
    · exact List.mem_cons_of_mem _ (findM_mem h)
theorem putM_new {k : κ} {v : ν} : ∀ {L : List (κ × ν)}, findM L k = none → putM L k v = L ++ [(k, v)]
  | [], _ => rfl
  | p :: r, h => by
    simp only [findM] at h
    split at h
    · cases h
    · rename_i hk
      unfold putM
      rw [if_neg hk, putM_new h]
      rfl
theorem putM_set {k : κ} {v : ν} : ∀ {L : List (κ × ν)} {j : Nat} {u : ν}, (L.map (·.1)).Nodup → L[j]? = some (k, u) → putM L k v = L.set j (k, v)
  | [], _, _, _, h => by simp at h
  | p :: r, 0, _, _, h => by
    simp at h
    subst h
    simp [putM]
  | p :: r, j + 1, u, hn, h => by
    simp only [List.map_cons, List.nodup_cons] at hn
    have hr : r[j]? = some (k, u) := by simpa using h
    have hne : p.1 ≠ k := fun e => hn.1 (by rw [e]; exact List.mem_map.2 ⟨(k, u), List.mem_of_getElem? hr, rfl⟩)
    unfold putM
    rw [if_neg hne, putM_set hn.2 hr]
    rfl
theorem putM_nodup {k : κ} {v : ν} {L : List (κ × ν)} (hn : (L.map (·.1)).Nodup) : ((putM L k v).map (·.1)).Nodup := by
  cases h : findM L k with
  | none =>
    rw [putM_new h, List.map_append, List.nodup_append]
    refine ⟨hn, by simp, ?_⟩
    intro a ha b hb hab
    simp only [List.map_cons, List.map_nil, List.mem_singleton] at hb
    obtain ⟨p, hp, rfl⟩ := List.mem_map.1 ha
    exact findM_none.1 h p hp (by rw [hab, hb])
  | some u =>
    obtain ⟨j, hj⟩ := List.mem_iff_getElem?.1 (findM_mem h)
    rw [putM_set hn hj]
    have : (L.set j (k, v)).map (·.1) = L.map (·.1) := by
      rw [List.map_set]
      apply List.ext_getElem?
      intro i
      by_cases hij : j = i
      · subst hij
        obtain ⟨h1, h2⟩ := List.getElem?_eq_some_iff.1 hj
        rw [List.getElem?_set_self (by simpa using h1), List.getElem?_map, hj]
        rfl
      · rw [List.getElem?_set_ne hij]
    rw [this]
    exact hn
theorem putM_keys {k : κ} {v : ν} {L : List (κ × ν)} {q : κ} (h : q ∈ (putM L k v).map (·.1)) : q = k ∨ q ∈ L.map (·.1) := by
  induction L with
  | nil => simp [putM] at h; exact Or.inl h
  | cons p r ih =>
    unfold putM at h
    split at h
    · simp only [List.map_cons, List.mem_cons] at h ⊢
      rcases h with h | h
      · exact Or.inl h
      · exact Or.inr (Or.inr h)
    · simp only [List.map_cons, List.mem_cons] at h ⊢
      rcases h with h | h
      · exact Or.inr (Or.inl h)
      · rcases ih h with h | h
        · exact Or.inl h
        · exact Or.inr (Or.inr h)

/-- Block b is a map that holds just these pairs. -/
def MapAt (P : Program) (kt : TypeId) (kf : κ → Value) (vf : ν → Value) (w : World) (b : Nat) (L : List (κ × ν)) : Prop :=
  ∃ es clock, w.heap[b]? = some (.map es clock) ∧ es.toList.map (fun e => (e.key, e.val)) = L.map (fun p => (kf p.1, vf p.2)) ∧ (L.map (·.1)).Nodup ∧ ∀ p ∈ L, ∃ l, keyOf P kt (kf p.1) = some l

variable {P : Program} {kt : TypeId} {kf : κ → Value} {vf : ν → Value} {w : World} {b : Nat} {L : List (κ × ν)}
omit [DecidableEq κ] in
theorem MapAt.made (w : World) : MapAt P kt kf vf (w.alloc (.map #[] 0)) w.heap.size ([] : List (κ × ν)) := ⟨#[], 0, (MapKept.heap_alloc w _).1, by simp, by simp, by simp⟩
omit [DecidableEq κ] in
theorem MapAt.lt (h : MapAt P kt kf vf w b L) : b < w.heap.size := by
  obtain ⟨es, clock, hb, _⟩ := h
  exact (Array.getElem?_eq_some_iff.1 hb).1
omit [DecidableEq κ] in
theorem MapAt.keep {w' : World} (h : MapAt P kt kf vf w b L) (hk : w'.heap[b]? = w.heap[b]?) : MapAt P kt kf vf w' b L := by
  obtain ⟨es, clock, hb, h2⟩ := h
  exact ⟨es, clock, hk.trans hb, h2⟩
omit [DecidableEq κ] in
theorem MapAt.below {w' : World} (h : MapAt P kt kf vf w b L) (hb : Below w.heap.size w w') : MapAt P kt kf vf w' b L := h.keep (hb.block _ h.lt)
omit [DecidableEq κ] in
theorem MapAt.nodup (h : MapAt P kt kf vf w b L) : (L.map (·.1)).Nodup := by
  obtain ⟨_, _, _, _, h, _⟩ := h
  exact h

theorem MapAt.find (h : MapAt P kt kf vf w b L) (K : Keyed P kt) (hinj : ∀ x y, kf x = kf y → x = y) {k : κ} (hk : ∃ l, keyOf P kt (kf k) = some l) : ∃ es clock, w.heap[b]? = some (.map es clock) ∧ es.toList.map (fun e => (e.key, e.val)) = L.map (fun p => (kf p.1, vf p.2)) ∧
    (((Instr.findKey kt (kf k) es.toList).run P w = .ok none w ∧ findM L k = none) ∨ ∃ j e v, (Instr.findKey kt (kf k) es.toList).run P w = .ok (some (j, e.val)) w ∧ es.toList[j]? = some e ∧ e.key = kf k ∧ e.val = vf v ∧ L[j]? = some (k, v) ∧ findM L k = some v) := by
  obtain ⟨es, clock, hb, he, hn, hl⟩ := h
  obtain ⟨l, hkl⟩ := hk
  refine ⟨es, clock, hb, he, ?_⟩
  have pair : ∀ (j : Nat) (e : MapEntry), es.toList[j]? = some e → ∃ p, L[j]? = some p ∧ e.key = kf p.1 ∧ e.val = vf p.2 := by
    intro j e h1
    have h2 : (es.toList.map (fun e => (e.key, e.val)))[j]? = some (e.key, e.val) := by rw [List.getElem?_map, h1]; rfl
    rw [he, List.getElem?_map, Option.map_eq_some_iff] at h2
    obtain ⟨p, h3, h4⟩ := h2
    simp only [Prod.mk.injEq] at h4
    exact ⟨p, h3, h4.1.symm, h4.2.symm⟩
  have pair' : ∀ p ∈ L, ∃ e ∈ es.toList, e.key = kf p.1 := by
    intro p hp
    have h2 : (kf p.1, vf p.2) ∈ L.map (fun p => (kf p.1, vf p.2)) := List.mem_map.2 ⟨p, hp, rfl⟩
    rw [← he] at h2
    obtain ⟨e, h3, h4⟩ := List.mem_map.1 h2
    simp only [Prod.mk.injEq] at h4
    exact ⟨e, h3, h4.1⟩
  rcases K.find w hkl es.toList (fun e he' => by
    obtain ⟨j, hj⟩ := List.mem_iff_getElem?.1 he'
    obtain ⟨p, h1, h2, _⟩ := pair j e hj
    rw [h2]
    exact hl p (List.mem_of_getElem? h1)) with ⟨h1, h2⟩ | ⟨j, e, h1, h2, h3⟩
  · refine Or.inl ⟨h1, findM_none.2 fun p hp hpk => ?_⟩
    obtain ⟨e, h3, h4⟩ := pair' p hp
    exact h2 e h3 (by rw [h4, hpk])
  · obtain ⟨p, h4, h5, h6⟩ := pair j e h2
    have hpk : p.1 = k := hinj _ _ (h5.symm.trans h3)
    have h7 : L[j]? = some (k, p.2) := by rw [h4, ← hpk]
    exact Or.inr ⟨j, e, p.2, h1, h2, h3, h6, h7, findM_at hn h7⟩

/-- What a look-up yields. -/
def lookV (c : Bool) (z : Value) (vf : ν → Value) : Option ν → Value
  | none => if c then .tuple #[z, .bool false] else z
  | some v => if c then .tuple #[vf v, .bool true] else vf v
theorem MapAt.lookup (h : MapAt P kt kf vf w b L) (c : Bool) (K : Keyed P kt) (hinj : ∀ x y, kf x = kf y → x = y) {t e : TypeId} (ht : P.underlying t = some (.map kt e)) {z : Value} (hz : (zeroValue e).run P w = .ok z w) {k : κ} (hk : ∃ l, keyOf P kt (kf k) = some l) :
    (Instr.lookup t (.map (some b)) (kf k) c).run P w = .ok (lookV c z vf (findM L k)) w := by
  obtain ⟨l, hkl⟩ := hk
  obtain ⟨es, clock, hb, he, h | ⟨j, e, v, h1, h2, h3, h4, _, h5⟩⟩ := h.find K hinj ⟨l, hkl⟩
  · rw [h.2]
    simp [lookV, Instr.lookup, run_underlying ht, MapKept.run_getObj_map hb, K.check w _ hkl, h.1, hz, Result.andThen]
  · rw [h5]
    simp [lookV, Instr.lookup, run_underlying ht, MapKept.run_getObj_map hb, K.check w _ hkl, h1, h4, Result.andThen]

theorem MapAt.update (h : MapAt P kt kf vf w b L) (K : Keyed P kt) (hinj : ∀ x y, kf x = kf y → x = y) {t e : TypeId} (ht : P.underlying t = some (.map kt e)) {k : κ} (hk : ∃ l, keyOf P kt (kf k) = some l) (v : ν) :
    ∃ w', (Instr.mapUpdate t (.map (some b)) (kf k) (vf v)).run P w = .ok () w' ∧ MapAt P kt kf vf w' b (putM L k v) ∧ Only [b] w w' := by
  obtain ⟨l, hkl⟩ := hk
  have hn := h.nodup
  have hl : ∀ p ∈ L, ∃ l, keyOf P kt (kf p.1) = some l := by obtain ⟨_, _, _, _, _, h⟩ := h; exact h
  have hl' : ∀ p ∈ putM L k v, ∃ l, keyOf P kt (kf p.1) = some l := by
    intro p hp
    rcases putM_keys (List.mem_map.2 ⟨p, hp, rfl⟩) with h | h
    · rw [h]; exact ⟨l, hkl⟩
    · obtain ⟨q, hq, he⟩ := List.mem_map.1 h
      rw [← he]
      exact hl q hq
  obtain ⟨es, clock, hb, he, h | ⟨j, e, u, h1, h2, h3, h4, h6, h5⟩⟩ := h.find K hinj ⟨l, hkl⟩
  · refine ⟨setBlock w b (.map (es.push ⟨kf k, vf v, clock⟩) (clock + 1)), ?_, ⟨_, _, heap_setBlock_same hb _, ?_, putM_nodup hn, hl'⟩, ⟨rfl, rfl, rfl, by simp [setBlock], fun i _ hi => heap_setBlock_other hb _ (by simpa using hi)⟩⟩
    · simp [Instr.mapUpdate, run_underlying ht, MapKept.run_getObj_map hb, K.check w false hkl, h.1, MapKept.run_setObj_map _ hb, Result.andThen, setBlock]
    · rw [putM_new h.2, Array.toList_push, List.map_append, List.map_append, he]
      rfl
  · have hj : es[j]? = some e := by rw [← Array.getElem?_toList]; exact h2
    refine ⟨setBlock w b (.map (es.modify j fun e => { e with key := kf k, val := vf v }) clock), ?_, ⟨_, _, heap_setBlock_same hb _, ?_, putM_nodup hn, hl'⟩, ⟨rfl, rfl, rfl, by simp [setBlock], fun i _ hi => heap_setBlock_other hb _ (by simpa using hi)⟩⟩
    · simp [Instr.mapUpdate, run_underlying ht, MapKept.run_getObj_map hb, K.check w false hkl, h1, MapKept.run_setObj_map _ hb, Result.andThen, setBlock, hj, h3, K.stays w hkl]
    · rw [putM_set hn h6, List.map_set, ← he, Array.toList_modify]
      apply List.ext_getElem?
      intro i
      rw [List.getElem?_map, List.getElem?_modify]
      by_cases hij : j = i
      · subst hij
        rw [List.getElem?_set_self (by have := (List.getElem?_eq_some_iff.1 h2).1; simpa using this)]
        simp [hj]
      · rw [List.getElem?_set_ne hij, List.getElem?_map]
        simp [hij]

/-- THE LOOK-UP AT THE OPERATION. -/
theorem wpList_lookup_at (w : World) {ops : Array Oper} {rest : List Oper} {o : Oper} {a : Act} {Q : Exit → Act → World → Prop} (hg : o.guard = none) (m x : Operand) (t : TypeId) (c : Bool) (hop : o.op = Op.lookup t m x c)
    (kt e : TypeId) (K : Keyed P kt) (ht : P.underlying t = some (.map kt e)) (z : Value) (hz : (zeroValue e).run P w = .ok z w) {kf : κ → Value} (hinj : ∀ x y, kf x = kf y → x = y) {vf : ν → Value} {L : List (κ × ν)} (b : Nat)
    (hM : MapAt P kt kf vf w b L) (k : κ) (hk : ∃ l, keyOf P kt (kf k) = some l) (hm : a.eval m = .map (some b)) (hx : a.eval x = kf k) (r : Option ν) (hr : findM L k = r)
    (hK : wpList P ops Q rest (a.put o.dst (lookV c z vf r)) w) : wpList P ops Q (o :: rest) a w := by
  subst hr
  refine wpList_plain hg fun K' hK' => ?_
  have hrun := hM.lookup c K hinj ht hz hk
  unfold Oper.wp
  simp [execOp, hop, hm, hx, hrun, Result.andThen]
  exact hK' _ _ hK

/-- THE STORE AT THE OPERATION. -/
theorem wpList_mapUpdate_at (w : World) {ops : Array Oper} {rest : List Oper} {o : Oper} {a : Act} {Q : Exit → Act → World → Prop} (hg : o.guard = none) (m x y : Operand) (t : TypeId) (hop : o.op = Op.mapUpdate t m x y)
    (kt e : TypeId) (K : Keyed P kt) (ht : P.underlying t = some (.map kt e)) {kf : κ → Value} (hinj : ∀ x y, kf x = kf y → x = y) {vf : ν → Value} {L : List (κ × ν)} (b : Nat)
    (hM : MapAt P kt kf vf w b L) (k : κ) (hk : ∃ l, keyOf P kt (kf k) = some l) (v : ν) (hm : a.eval m = .map (some b)) (hx : a.eval x = kf k) (hy : a.eval y = vf v)
    (hK : ∀ w', MapAt P kt kf vf w' b (putM L k v) → Only [b] w w' → wpList P ops Q rest (a.put o.dst undef) w') : wpList P ops Q (o :: rest) a w := by
  refine wpList_plain hg fun K' hK' => ?_
  obtain ⟨w', hrun, r1, r2⟩ := hM.update K hinj ht hk v
  unfold Oper.wp
  simp [execOp, hop, hm, hx, hy, hrun, Result.andThen]
  exact hK' _ _ (hK w' r1 r2)
end
end Go.Proofs.YtlnojmmjpgpjdaaDoor
