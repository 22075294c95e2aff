/-
  Expressions: the plain type, and what it is that a value reads as a list of them. No program in sight.
-/
import Derived.Test.YtlnojmmjpgpjdaaDoorMem
namespace Go.Proofs.YtlnojmmjpgpjdaaDoor
open Go.ChangeShapes Go.WideShapes Go.ChangeAt Go.RowKit Go.Deep

/-- An expression: Kind, Num, Kids. -/
inductive Ex where
  | mk (kind num : Int) (kids : List Ex)

def Ex.kind : Ex → Int | .mk k _ _ => k
def Ex.num : Ex → Int | .mk _ n _ => n
def Ex.kids : Ex → List Ex | .mk _ _ ks => ks
theorem Ex.eta : ∀ e : Ex, e = .mk e.kind e.num e.kids | .mk _ _ _ => rfl

mutual
/-- The three cells of an expression. -/
def Ex.cells : Ex → List D
  | .mk k n ks => [.int k, .int n, .sl 3 ks.length (Ex.cellsL ks)]
def Ex.cellsL : List Ex → List D
  | [] => []
  | e :: r => e.cells ++ Ex.cellsL r
end
/-- The datum of a list of expressions. -/
def kidsD (ks : List Ex) : D := .sl 3 ks.length (Ex.cellsL ks)

mutual
def Ex.size : Ex → Nat
  | .mk _ _ ks => 1 + Ex.sizeL ks
def Ex.sizeL : List Ex → Nat
  | [] => 0
  | e :: r => e.size + Ex.sizeL r
end

theorem Ex.cells_eq (e : Ex) : e.cells = [.int e.kind, .int e.num, kidsD e.kids] := by cases e; simp only [Ex.cells, kidsD, Ex.kind, Ex.num, Ex.kids]
theorem Ex.size_eq (e : Ex) : e.size = 1 + Ex.sizeL e.kids := by cases e; simp only [Ex.size, Ex.kids]
theorem Ex.cells_length (e : Ex) : e.cells.length = 3 := by rw [Ex.cells_eq]; rfl
theorem Ex.cellsL_length : ∀ ks : List Ex, (Ex.cellsL ks).length = ks.length * 3
  | [] => by simp [Ex.cellsL]
  | e :: r => by simp only [Ex.cellsL, List.length_append, Ex.cells_length, Ex.cellsL_length r, List.length_cons]; omega
theorem Ex.cellsL_append : ∀ a b : List Ex, Ex.cellsL (a ++ b) = Ex.cellsL a ++ Ex.cellsL b
  | [], b => by simp [Ex.cellsL]
  | e :: r, b => by simp only [List.cons_append, Ex.cellsL, Ex.cellsL_append r b, List.append_assoc]
theorem Ex.sizeL_append : ∀ a b : List Ex, Ex.sizeL (a ++ b) = Ex.sizeL a + Ex.sizeL b
  | [], b => by simp [Ex.sizeL]
  | e :: r, b => by simp only [List.cons_append, Ex.sizeL, Ex.sizeL_append r b]; omega
theorem Ex.cellsL_at : ∀ (ks : List Ex) (i : Nat) (e : Ex), ks[i]? = some e → ∀ j, j < 3 → (Ex.cellsL ks)[3 * i + j]? = e.cells[j]?
  | [], i, e, h => by simp at h
  | e0 :: r, 0, e, h => by
    simp at h
    subst h
    intro j hj
    simp only [Ex.cellsL]
    rw [Nat.mul_zero, Nat.zero_add, List.getElem?_append_left (by rw [Ex.cells_length]; exact hj)]
  | e0 :: r, i + 1, e, h => by
    intro j hj
    simp only [Ex.cellsL]
    rw [List.getElem?_append_right (by rw [Ex.cells_length]; omega), Ex.cells_length, show 3 * (i + 1) + j - 3 = 3 * i + j by omega]
    exact Ex.cellsL_at r i e (by simpa using h) j hj

theorem Ex.sizeL_mem : ∀ {ks : List Ex} {e : Ex}, e ∈ ks → e.size ≤ Ex.sizeL ks
  | [], _, h => by simp at h
  | e0 :: r, e, h => by
    simp only [Ex.sizeL]
    rcases List.mem_cons.1 h with rfl | h
    · omega
    · have := Ex.sizeL_mem h
      omega
theorem Ex.length_le_sizeL : ∀ ks : List Ex, ks.length ≤ Ex.sizeL ks
  | [] => Nat.le_refl _
  | e :: r => by
    have := Ex.length_le_sizeL r
    have := Ex.size_eq e
    simp only [Ex.sizeL, List.length_cons]
    omega
theorem Ex.sizeL_take_succ {ks : List Ex} {i : Nat} {e : Ex} (h : ks[i]? = some e) : Ex.sizeL (ks.take (i + 1)) = Ex.sizeL (ks.take i) + e.size := by
  obtain ⟨hi, rfl⟩ := List.getElem?_eq_some_iff.1 h
  rw [List.take_succ_eq_append_getElem hi, Ex.sizeL_append]
  simp [Ex.sizeL]
theorem Ex.sizeL_take_le (ks : List Ex) (i : Nat) : Ex.sizeL (ks.take i) ≤ Ex.sizeL ks := by
  have := Ex.sizeL_append (ks.take i) (ks.drop i)
  rw [List.take_append_drop] at this
  omega

theorem Ex.cellsL_take_succ {ks : List Ex} {i : Nat} {e : Ex} (h : ks[i]? = some e) : Ex.cellsL (ks.take (i + 1)) = Ex.cellsL (ks.take i) ++ [.int e.kind, .int e.num, kidsD e.kids] := by
  obtain ⟨hi, rfl⟩ := List.getElem?_eq_some_iff.1 h
  rw [List.take_succ_eq_append_getElem hi, Ex.cellsL_append, ← Ex.cells_eq]
  simp [Ex.cellsL]

/-- AN ELEMENT: its three cells. -/
theorem kid_at {w : World} {ks : List Ex} {a : Option Addr} {len cap : Nat} (h : Rd w (kidsD ks) (.slice a len cap)) :
    len = ks.length ∧ len ≤ cap ∧ cap ≤ maxLen ∧ (a = none → cap = 0) ∧ (ks = [] ∨ ∃ b o, a = some ⟨b, o, none⟩ ∧ b < w.heap.size ∧ ∀ (i : Nat) (e : Ex), ks[i]? = some e →
      ∃ s c, w.cell? ⟨b, o + i * 3, none⟩ = some (.int .i64 e.kind) ∧ w.cell? ⟨b, o + i * 3 + 1, none⟩ = some (.int .i64 e.num) ∧ w.cell? ⟨b, o + i * 3 + 2, none⟩ = some (.slice s e.kids.length c) ∧
        Rd w (kidsD e.kids) (.slice s e.kids.length c)) := by
  obtain ⟨h1, h2, h3, _, h5, h4⟩ := h.sl_at
  refine ⟨h1, by omega, h3, h5, ?_⟩
  rcases h4 with h4 | ⟨b, o, rfl, h4⟩
  · exact Or.inl (List.eq_nil_of_length_eq_zero h4)
  · by_cases hk : ks = []
    · exact Or.inl hk
    right
    have each : ∀ (i : Nat) (e : Ex), ks[i]? = some e → ∃ s c, w.cell? ⟨b, o + i * 3, none⟩ = some (.int .i64 e.kind) ∧ w.cell? ⟨b, o + i * 3 + 1, none⟩ = some (.int .i64 e.num) ∧ w.cell? ⟨b, o + i * 3 + 2, none⟩ = some (.slice s e.kids.length c) ∧
        Rd w (kidsD e.kids) (.slice s e.kids.length c) := by
      intro i e he
      have c0 := Ex.cellsL_at ks i e he 0 (by omega)
      have c1 := Ex.cellsL_at ks i e he 1 (by omega)
      have c2 := Ex.cellsL_at ks i e he 2 (by omega)
      rw [Ex.cells_eq] at c0 c1 c2
      obtain ⟨x0, g0, r0⟩ := h4 _ _ c0
      obtain ⟨x1, g1, r1⟩ := h4 _ _ c1
      obtain ⟨x2, g2, r2⟩ := h4 _ _ c2
      simp only [Rd] at r0 r1
      subst r0 r1
      obtain ⟨s, c, rfl, _⟩ := Rd.slice r2
      refine ⟨s, c, ?_, ?_, ?_, r2⟩
      · rw [← g0]; congr 2; omega
      · rw [← g1]; congr 2; omega
      · rw [← g2]; congr 2; omega
    refine ⟨b, o, rfl, ?_, each⟩
    cases ks with
    | nil => exact absurd rfl hk
    | cons e r =>
      obtain ⟨_, _, g0, _⟩ := each 0 e rfl
      exact World.block_lt_of_cell? w _ g0

/-- The same where the address is known. -/
theorem kid_in {w : World} {ks : List Ex} {b o len cap : Nat} (h : Rd w (kidsD ks) (.slice (some ⟨b, o, none⟩) len cap)) {i : Nat} {e : Ex} (he : ks[i]? = some e) :
    b < w.heap.size ∧ ∃ s c, w.cell? ⟨b, o + i * 3, none⟩ = some (.int .i64 e.kind) ∧ w.cell? ⟨b, o + i * 3 + 1, none⟩ = some (.int .i64 e.num) ∧ w.cell? ⟨b, o + i * 3 + 2, none⟩ = some (.slice s e.kids.length c) ∧
        Rd w (kidsD e.kids) (.slice s e.kids.length c) := by
  obtain ⟨_, _, _, _, h4⟩ := kid_at h
  rcases h4 with rfl | ⟨b', o', e1, hb, h4⟩
  · simp at he
  · simp only [Option.some.injEq, Addr.mk.injEq, and_true] at e1
    obtain ⟨rfl, rfl⟩ := e1
    exact ⟨hb, h4 i e he⟩

theorem kid_some {w : World} {ks : List Ex} {a : Option Addr} {len cap : Nat} (h : Rd w (kidsD ks) (.slice a len cap)) (hk : ks ≠ []) : ∃ b o, a = some ⟨b, o, none⟩ := by
  obtain ⟨_, _, _, _, h4⟩ := kid_at h
  rcases h4 with h4 | ⟨b, o, e, _⟩
  · exact absurd h4 hk
  · exact ⟨b, o, e⟩

/-- An expression lies at an address. -/
def ExAt (w : World) (b o : Nat) (e : Ex) : Prop := w.cell? ⟨b, o, none⟩ = some (.int .i64 e.kind) ∧ w.cell? ⟨b, o + 1, none⟩ = some (.int .i64 e.num) ∧
  ∃ s c, w.cell? ⟨b, o + 2, none⟩ = some (.slice s e.kids.length c) ∧ Rd w (kidsD e.kids) (.slice s e.kids.length c)

theorem ExAt.lt {w : World} {b o : Nat} {e : Ex} (h : ExAt w b o e) : b < w.heap.size := World.block_lt_of_cell? w _ h.1
theorem ExAt.below {w w' : World} {b o : Nat} {e : Ex} (h : ExAt w b o e) (hb : Below w.heap.size w w') : ExAt w' b o e := by
  have hl := h.lt
  obtain ⟨h0, h1, s, c, h2, h3⟩ := h
  exact ⟨(hb.cell (p := ⟨b, o, none⟩) hl).trans h0, (hb.cell (p := ⟨b, o + 1, none⟩) hl).trans h1, s, c, (hb.cell (p := ⟨b, o + 2, none⟩) hl).trans h2, h3.below hb⟩
theorem kid_exAt {w : World} {ks : List Ex} {b o len cap : Nat} (h : Rd w (kidsD ks) (.slice (some ⟨b, o, none⟩) len cap)) {i : Nat} {e : Ex} (he : ks[i]? = some e) : ExAt w b (o + i * 3) e := by
  obtain ⟨_, s, c, g0, g1, g2, g3⟩ := kid_in h he
  exact ⟨g0, g1, s, c, g2, g3⟩

theorem Blk.exAt {w : World} {g T : Nat} {k n : Int} {ks : List Ex} {s : Option Addr} {c : Nat} (h : Blk w g T [.int .i64 k, .int .i64 n, .slice s ks.length c]) (hr : Rd w (kidsD ks) (.slice s ks.length c)) : ExAt w g 0 (.mk k n ks) :=
  ⟨h.c0, h.c1, s, c, h.c2, hr⟩

section
variable {H : Type} {enc : TypeId × Value → H} {P : Program} {w : World} {base : Nat} {sp : Nat → Bool} {hd : Bool}

/-- Lists of rows, each of which is an expression's. -/
theorem rows_exprs : ∀ rows : List (List D), (∀ r ∈ rows, ∃ e : Ex, r = e.cells) → ∃ ks : List Ex, rows.length = ks.length ∧ rows.flatten = Ex.cellsL ks
  | [], _ => ⟨[], rfl, by simp [Ex.cellsL]⟩
  | r :: rows, h => by
    obtain ⟨e, rfl⟩ := h r (List.mem_cons_self ..)
    obtain ⟨ks, h1, h2⟩ := rows_exprs rows fun r hr => h r (List.mem_cons_of_mem _ hr)
    exact ⟨e :: ks, by simp [h1], by simp only [List.flatten_cons, h2, Ex.cellsL]⟩

/-- WHATEVER READS AS A STRUCT { Kind, Num int64; Kids []itself } is an expression. -/
theorem open_expr {ti ts te : TypeId} {f0 f1 f2 : Field} (he : P.underlying te = some (.struct #[f0, f1, f2])) (hs : P.underlying ts = some (.slice te)) (hi : P.underlying ti = some (.int .i64))
    (t0 : f0.type = ti) (t1 : f1.type = ti) (t2 : f2.type = ts) (o0 : f0.offset = 0) (o1 : f1.offset = 1) (o2 : f2.offset = 2) (ci : P.cellsOf ti = 1) (cs' : P.cellsOf ts = 1) (ce : P.cellsOf te = 3) :
    ∀ (fuel : Nat) (cs : List Value) (x : DataW H × List MemPlace), DataW.trod enc P w base sp hd fuel te cs = some x → ∃ e : Ex, Rds w e.cells cs := by
  intro fuel
  induction fuel using Nat.strongRecOn with
  | _ fuel ih =>
    intro cs x h
    obtain ⟨xs, m, rfl, rfl, hl, hlen, hf⟩ := DataW.trod_struct he h
    rw [ce] at hl
    match xs, hlen, cs, hl with
    | [y0, y1, y2], _, [v0, v1, v2], _ =>
      have g0 := hf 0 f0 rfl
      have g1 := hf 1 f1 rfl
      have g2 := hf 2 f2 rfl
      simp [o0, o1, o2, t0, t1, t2, ci, cs'] at g0 g1 g2
      obtain ⟨k, e0, _⟩ := DataW.trod_int hi g0
      obtain ⟨n, e1, _⟩ := DataW.trod_int hi g1
      simp only [List.cons.injEq, and_true] at e0 e1
      subst e0 e1
      obtain ⟨v, rows, e2, hrows, hr⟩ := open_sl (size := 3) (Q := fun r => ∃ e : Ex, r = e.cells) hs ce (by omega) (fun m' hm' cs x hx => by
        obtain ⟨e, hr⟩ := ih m' (by omega) cs x hx
        exact ⟨_, ⟨e, rfl⟩, Ex.cells_length e, hr⟩) g2
      simp only [List.cons.injEq, and_true] at e2
      subst e2
      obtain ⟨ks, k1, k2⟩ := rows_exprs rows hrows
      refine ⟨.mk k n ks, ?_⟩
      rw [k1, k2] at hr
      simp only [Ex.cells, Rds]
      exact ⟨_, _, rfl, by simp only [Rd], _, _, rfl, by simp only [Rd], _, _, rfl, hr, rfl⟩
end
end Go.Proofs.YtlnojmmjpgpjdaaDoor
