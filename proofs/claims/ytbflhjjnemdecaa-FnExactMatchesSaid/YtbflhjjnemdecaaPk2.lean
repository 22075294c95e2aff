/-
  Parts of a proof, joined: Expr, Own, Sig, Cond, Ints, Trace. No condition.
-/
import Derived.Test.YtbflhjjnemdecaaProg
import Derived.Test.YtbflhjjnemdecaaPk0
namespace Go.Proofs.Ytbflhjjnemdecaa
set_option linter.unusedVariables false
set_option linter.unusedSimpArgs false
open Go.ChangeShapes Go.WideShapes Go.ChangeAt Go.RowKit Go.Deep
inductive Ex where
 | mk (kind num : Int) (kids : List Ex)
def Ex.kind : Ex → Int | .mk k _ _ => k
def Ex.num : Ex → Int | .mk _ n _ => n
def Ex.kids : Ex → List Ex | .mk _ _ ks => ks
theorem Ex.eta : ∀ e : Ex, e = .mk e.kind e.num e.kids | .mk _ _ _ => rfl
mutual
def Ex.cells : Ex → List D
 | .mk k n ks => [.int k, .int n, .sl 3 ks.length (Ex.cellsL ks)]
def Ex.cellsL : List Ex → List D
 | [] => []
 | e :: r => e.cells ++ Ex.cellsL r
end
def kidsD (ks : List Ex) : D := .sl 3 ks.length (Ex.cellsL ks)
mutual
def Ex.size : Ex → Nat
 | .mk _ _ ks => 1 + Ex.sizeL ks
def Ex.sizeL : List Ex → Nat
 | [] => 0
 | e :: r => e.size + Ex.sizeL r
end
theorem Ex.cells_eq (e : Ex) : e.cells = [.int e.kind, .int e.num, kidsD e.kids] := by cases e; simp only [Ex.cells, kidsD, Ex.kind, Ex.num, Ex.kids]
theorem Ex.size_eq (e : Ex) : e.size = 1 + Ex.sizeL e.kids := by cases e; simp only [Ex.size, Ex.kids]
theorem Ex.cells_length (e : Ex) : e.cells.length = 3 := by rw [Ex.cells_eq]; rfl
theorem Ex.cellsL_length : ∀ ks : List Ex, (Ex.cellsL ks).length = ks.length * 3
 | [] => by simp [Ex.cellsL]
 | e :: r => by simp only [Ex.cellsL, List.length_append, Ex.cells_length, Ex.cellsL_length r, List.length_cons]; omega
theorem Ex.cellsL_append : ∀ a b : List Ex, Ex.cellsL (a ++ b) = Ex.cellsL a ++ Ex.cellsL b
 | [], b => by simp [Ex.cellsL]
 | e :: r, b => by simp only [List.cons_append, Ex.cellsL, Ex.cellsL_append r b, List.append_assoc]
theorem Ex.sizeL_append : ∀ a b : List Ex, Ex.sizeL (a ++ b) = Ex.sizeL a + Ex.sizeL b
 | [], b => by simp [Ex.sizeL]
 | e :: r, b => by simp only [List.cons_append, Ex.sizeL, Ex.sizeL_append r b]; omega
theorem Ex.cellsL_at : ∀ (ks : List Ex) (i : Nat) (e : Ex), ks[i]? = some e → ∀ j, j < 3 → (Ex.cellsL ks)[3 * i + j]? = e.cells[j]?
 | [], i, e, h => by simp at h
 | e0 :: r, 0, e, h => by
  simp at h
  subst h
  intro j hj
  simp only [Ex.cellsL]
  rw [Nat.mul_zero, Nat.zero_add, List.getElem?_append_left (by rw [Ex.cells_length]; exact hj)]
 | e0 :: r, i + 1, e, h => by
  intro j hj
  simp only [Ex.cellsL]
  rw [List.getElem?_append_right (by rw [Ex.cells_length]; omega), Ex.cells_length, show 3 * (i + 1) + j - 3 = 3 * i + j by omega]
  exact Ex.cellsL_at r i e (by simpa using h) j hj
theorem Ex.sizeL_mem : ∀ {ks : List Ex} {e : Ex}, e ∈ ks → e.size ≤ Ex.sizeL ks
 | [], _, h => by simp at h
 | e0 :: r, e, h => by
  simp only [Ex.sizeL]
  rcases List.mem_cons.1 h with rfl | h
  ·
   omega
  ·
   have := Ex.sizeL_mem h
   omega
theorem Ex.length_le_sizeL : ∀ ks : List Ex, ks.length ≤ Ex.sizeL ks
 | [] => Nat.le_refl _
 | e :: r => by
  have := Ex.length_le_sizeL r
  have := Ex.size_eq e
  simp only [Ex.sizeL, List.length_cons]
  omega
theorem Ex.sizeL_take_succ {ks : List Ex} {i : Nat} {e : Ex} (h : ks[i]? = some e) : Ex.sizeL (ks.take (i + 1)) = Ex.sizeL (ks.take i) + e.size := by
 obtain ⟨hi, rfl⟩ := List.getElem?_eq_some_iff.1 h
 rw [List.take_succ_eq_append_getElem hi, Ex.sizeL_append]
 simp [Ex.sizeL]
theorem Ex.sizeL_take_le (ks : List Ex) (i : Nat) : Ex.sizeL (ks.take i) ≤ Ex.sizeL ks := by
 have := Ex.sizeL_append (ks.take i) (ks.drop i)
 rw [List.take_append_drop] at this
 omega
theorem Ex.cellsL_take_succ {ks : List Ex} {i : Nat} {e : Ex} (h : ks[i]? = some e) : Ex.cellsL (ks.take (i + 1)) = Ex.cellsL (ks.take i) ++ [.int e.kind, .int e.num, kidsD e.kids] := by
 obtain ⟨hi, rfl⟩ := List.getElem?_eq_some_iff.1 h
 rw [List.take_succ_eq_append_getElem hi, Ex.cellsL_append, ← Ex.cells_eq]
 simp [Ex.cellsL]
theorem kid_at {w : World} {ks : List Ex} {a : Option Addr} {len cap : Nat} (h : Rd w (kidsD ks) (.slice a len cap)) :
  len = ks.length ∧ len ≤ cap ∧ cap ≤ maxLen ∧ (a = none → cap = 0) ∧ (ks = [] ∨ ∃ b o, a = some ⟨b, o, none⟩ ∧ b < w.heap.size ∧ ∀ (i : Nat) (e : Ex), ks[i]? = some e →
   ∃ s c, w.cell? ⟨b, o + i * 3, none⟩ = some (.int .i64 e.kind) ∧ w.cell? ⟨b, o + i * 3 + 1, none⟩ = some (.int .i64 e.num) ∧ w.cell? ⟨b, o + i * 3 + 2, none⟩ = some (.slice s e.kids.length c) ∧
    Rd w (kidsD e.kids) (.slice s e.kids.length c)) := by
 obtain ⟨h1, h2, h3, _, h5, h4⟩ := h.sl_at
 refine ⟨h1, by omega, h3, h5, ?_⟩
 rcases h4 with h4 | ⟨b, o, rfl, h4⟩
 ·
  exact Or.inl (List.eq_nil_of_length_eq_zero h4)
 ·
  by_cases hk : ks = []
  ·
   exact Or.inl hk
  right
  have each : ∀ (i : Nat) (e : Ex), ks[i]? = some e → ∃ s c, w.cell? ⟨b, o + i * 3, none⟩ = some (.int .i64 e.kind) ∧ w.cell? ⟨b, o + i * 3 + 1, none⟩ = some (.int .i64 e.num) ∧ w.cell? ⟨b, o + i * 3 + 2, none⟩ = some (.slice s e.kids.length c) ∧
    Rd w (kidsD e.kids) (.slice s e.kids.length c) := by
   intro i e he
   have c0 := Ex.cellsL_at ks i e he 0 (by omega)
   have c1 := Ex.cellsL_at ks i e he 1 (by omega)
   have c2 := Ex.cellsL_at ks i e he 2 (by omega)
   rw [Ex.cells_eq] at c0 c1 c2
   obtain ⟨x0, g0, r0⟩ := h4 _ _ c0
   obtain ⟨x1, g1, r1⟩ := h4 _ _ c1
   obtain ⟨x2, g2, r2⟩ := h4 _ _ c2
   simp only [Rd] at r0 r1
   subst r0 r1
   obtain ⟨s, c, rfl, _⟩ := Rd.slice r2
   refine ⟨s, c, ?_, ?_, ?_, r2⟩
   ·
    rw [← g0]; congr 2; omega
   ·
    rw [← g1]; congr 2; omega
   ·
    rw [← g2]; congr 2; omega
  refine ⟨b, o, rfl, ?_, each⟩
  cases ks with
  | nil => exact absurd rfl hk
  | cons e r =>
   obtain ⟨_, _, g0, _⟩ := each 0 e rfl
   exact World.block_lt_of_cell? w _ g0
theorem kid_in {w : World} {ks : List Ex} {b o len cap : Nat} (h : Rd w (kidsD ks) (.slice (some ⟨b, o, none⟩) len cap)) {i : Nat} {e : Ex} (he : ks[i]? = some e) :
  b < w.heap.size ∧ ∃ s c, w.cell? ⟨b, o + i * 3, none⟩ = some (.int .i64 e.kind) ∧ w.cell? ⟨b, o + i * 3 + 1, none⟩ = some (.int .i64 e.num) ∧ w.cell? ⟨b, o + i * 3 + 2, none⟩ = some (.slice s e.kids.length c) ∧
    Rd w (kidsD e.kids) (.slice s e.kids.length c) := by
 obtain ⟨_, _, _, _, h4⟩ := kid_at h
 rcases h4 with rfl | ⟨b', o', e1, hb, h4⟩
 ·
  simp at he
 ·
  simp only [Option.some.injEq, Addr.mk.injEq, and_true] at e1
  obtain ⟨rfl, rfl⟩ := e1
  exact ⟨hb, h4 i e he⟩
theorem kid_some {w : World} {ks : List Ex} {a : Option Addr} {len cap : Nat} (h : Rd w (kidsD ks) (.slice a len cap)) (hk : ks ≠ []) : ∃ b o, a = some ⟨b, o, none⟩ := by
 obtain ⟨_, _, _, _, h4⟩ := kid_at h
 rcases h4 with h4 | ⟨b, o, e, _⟩
 ·
  exact absurd h4 hk
 ·
  exact ⟨b, o, e⟩
def ExAt (w : World) (b o : Nat) (e : Ex) : Prop := w.cell? ⟨b, o, none⟩ = some (.int .i64 e.kind) ∧ w.cell? ⟨b, o + 1, none⟩ = some (.int .i64 e.num) ∧
 ∃ s c, w.cell? ⟨b, o + 2, none⟩ = some (.slice s e.kids.length c) ∧ Rd w (kidsD e.kids) (.slice s e.kids.length c)
theorem ExAt.lt {w : World} {b o : Nat} {e : Ex} (h : ExAt w b o e) : b < w.heap.size := World.block_lt_of_cell? w _ h.1
theorem ExAt.below {w w' : World} {b o : Nat} {e : Ex} (h : ExAt w b o e) (hb : Below w.heap.size w w') : ExAt w' b o e := by
 have hl := h.lt
 obtain ⟨h0, h1, s, c, h2, h3⟩ := h
 exact ⟨(hb.cell (p := ⟨b, o, none⟩) hl).trans h0, (hb.cell (p := ⟨b, o + 1, none⟩) hl).trans h1, s, c, (hb.cell (p := ⟨b, o + 2, none⟩) hl).trans h2, h3.below hb⟩
theorem kid_exAt {w : World} {ks : List Ex} {b o len cap : Nat} (h : Rd w (kidsD ks) (.slice (some ⟨b, o, none⟩) len cap)) {i : Nat} {e : Ex} (he : ks[i]? = some e) : ExAt w b (o + i * 3) e := by
 obtain ⟨_, s, c, g0, g1, g2, g3⟩ := kid_in h he
 exact ⟨g0, g1, s, c, g2, g3⟩
theorem Blk.exAt {w : World} {g T : Nat} {k n : Int} {ks : List Ex} {s : Option Addr} {c : Nat} (h : Blk w g T [.int .i64 k, .int .i64 n, .slice s ks.length c]) (hr : Rd w (kidsD ks) (.slice s ks.length c)) : ExAt w g 0 (.mk k n ks) :=
 ⟨h.c0, h.c1, s, c, h.c2, hr⟩
section
variable {H : Type} {enc : TypeId × Value → H} {P : Program} {w : World} {base : Nat} {sp : Nat → Bool} {hd : Bool}
theorem rows_exprs : ∀ rows : List (List D), (∀ r ∈ rows, ∃ e : Ex, r = e.cells) → ∃ ks : List Ex, rows.length = ks.length ∧ rows.flatten = Ex.cellsL ks
 | [], _ => ⟨[], rfl, by simp [Ex.cellsL]⟩
 | r :: rows, h => by
  obtain ⟨e, rfl⟩ := h r (List.mem_cons_self ..)
  obtain ⟨ks, h1, h2⟩ := rows_exprs rows fun r hr => h r (List.mem_cons_of_mem _ hr)
  exact ⟨e :: ks, by simp [h1], by simp only [List.flatten_cons, h2, Ex.cellsL]⟩
theorem open_expr {ti ts te : TypeId} {f0 f1 f2 : Field} (he : P.underlying te = some (.struct #[f0, f1, f2])) (hs : P.underlying ts = some (.slice te)) (hi : P.underlying ti = some (.int .i64))
  (t0 : f0.type = ti) (t1 : f1.type = ti) (t2 : f2.type = ts) (o0 : f0.offset = 0) (o1 : f1.offset = 1) (o2 : f2.offset = 2) (ci : P.cellsOf ti = 1) (cs' : P.cellsOf ts = 1) (ce : P.cellsOf te = 3) :
  ∀ (fuel : Nat) (cs : List Value) (x : DataW H × List MemPlace), DataW.trod enc P w base sp hd fuel te cs = some x → ∃ e : Ex, Rds w e.cells cs := by
 intro fuel
 induction fuel using Nat.strongRecOn with
 | _ fuel ih =>
  intro cs x h
  obtain ⟨xs, m, rfl, rfl, hl, hlen, hf⟩ := DataW.trod_struct he h
  rw [ce] at hl
  match xs, hlen, cs, hl with
  | [y0, y1, y2], _, [v0, v1, v2], _ =>
   have g0 := hf 0 f0 rfl
   have g1 := hf 1 f1 rfl
   have g2 := hf 2 f2 rfl
   simp [o0, o1, o2, t0, t1, t2, ci, cs'] at g0 g1 g2
   obtain ⟨k, e0, _⟩ := DataW.trod_int hi g0
   obtain ⟨n, e1, _⟩ := DataW.trod_int hi g1
   simp only [List.cons.injEq, and_true] at e0 e1
   subst e0 e1
   obtain ⟨v, rows, e2, hrows, hr⟩ := open_sl (size := 3) (Q := fun r => ∃ e : Ex, r = e.cells) hs ce (by omega) (fun m' hm' cs x hx => by
    obtain ⟨e, hr⟩ := ih m' (by omega) cs x hx
    exact ⟨_, ⟨e, rfl⟩, Ex.cells_length e, hr⟩) g2
   simp only [List.cons.injEq, and_true] at e2
   subst e2
   obtain ⟨ks, k1, k2⟩ := rows_exprs rows hrows
   refine ⟨.mk k n ks, ?_⟩
   rw [k1, k2] at hr
   simp only [Ex.cells, Rds]
   exact ⟨_, _, rfl, by simp only [Rd], _, _, rfl, by simp only [Rd], _, _, rfl, hr, rfl⟩
end
end Go.Proofs.Ytbflhjjnemdecaa

namespace Go.Proofs.Ytbflhjjnemdecaa
set_option linter.unusedVariables false
set_option linter.unusedSimpArgs false
open Go.ChangeShapes Go.WideShapes Go.ChangeAt Go.RowKit
theorem own : ownKnob Try.prog.godebug = none := by kernel_rfl
theorem laid : laidOutB Try.prog = true := by kernel_rfl
theorem cells_int64 : Try.prog.cellsOf 2 = 1 := by kernel_rfl
theorem cells_Sig : Try.prog.cellsOf 23 = 2 := by kernel_rfl
theorem cells_laws_Expr : Try.prog.cellsOf 26 = 3 := by kernel_rfl
theorem cells_laws_Exprs : Try.prog.cellsOf 24 = 1 := by kernel_rfl
theorem cells_int64s : Try.prog.cellsOf 27 = 1 := by kernel_rfl
theorem cells_laws_Word : Try.prog.cellsOf 29 = 2 := by kernel_rfl
set_option maxRecDepth 10000
section
variable {H : Type} {enc : TypeId × Value → H} {W : World} {base : Nat} {sp : Nat → Bool} {hd : Bool} {v : Value} {d : DataW H} {ps : List MemPlace}
theorem open_lawsExpr (h : DataW.Trod enc Try.prog W base sp hd 26 v d ps) :
  ∃ k n ks s cap, v = .agg #[.int .i64 k, .int .i64 n, .slice s ks.length cap] ∧ Rd W (kidsD ks) (.slice s ks.length cap) := by
 obtain ⟨fuel, hf⟩ := h
 obtain ⟨e, hr⟩ := open_expr Try.underlying26 Try.underlying24 Try.underlying2 rfl rfl rfl rfl rfl rfl cells_int64 cells_laws_Exprs cells_laws_Expr fuel _ _ hf
 rw [Ex.cells_eq] at hr
 simp only [Rds, Rd] at hr
 obtain ⟨x0, r0, e0, rfl, x1, r1, rfl, rfl, x2, r2, rfl, hx2, rfl⟩ := hr
 obtain ⟨s, cap, rfl, _⟩ := Rd.slice hx2
 exact ⟨_, _, e.kids, s, cap, cells_three e0, hx2⟩
set_option maxRecDepth 100000 in
theorem open_lawsSig (h : DataW.Trod enc Try.prog W base sp hd 23 v d ps) : ∃ t a, v = .agg #[.int .i64 t, .int .i64 a] := by
 obtain ⟨fuel, hf⟩ := h
 obtain ⟨y0, y1, n, _, hl, g0, g1⟩ := trod_struct2 Try.underlying23 hf
 rw [cells_Sig] at hl
 generalize hcs : v.cells.toList = cs at *
 match cs, hl with
 | [v0, v1], _ =>
  simp [cells_int64] at g0 g1
  obtain ⟨a, e0, _⟩ := DataW.trod_int Try.underlying2 g0
  obtain ⟨b, e1, _⟩ := DataW.trod_int Try.underlying2 g1
  simp only [List.cons.injEq, and_true] at e0 e1
  subst e0 e1
  exact ⟨a, b, cells_two hcs⟩
set_option maxRecDepth 100000 in
theorem open_lawsWord (h : DataW.Trod enc Try.prog W base sp hd 29 v d ps) :
  ∃ xs ys s c t d, v = .agg #[.slice s xs.length c, .slice t ys.length d] ∧ Rd W (intsD xs) (.slice s xs.length c) ∧ Rd W (intsD ys) (.slice t ys.length d) := by
 obtain ⟨fuel, hf⟩ := h
 obtain ⟨y0, y1, n, _, hl, g0, g1⟩ := trod_struct2 Try.underlying29 hf
 rw [cells_laws_Word] at hl
 generalize hcs : v.cells.toList = cs at *
 match cs, hl with
 | [v0, v1], _ =>
  simp [cells_int64s] at g0 g1
  obtain ⟨u0, xs, e0, r0⟩ := open_ints64 Try.underlying27 Try.underlying2 cells_int64 g0
  obtain ⟨u1, ys, e1, r1⟩ := open_ints64 Try.underlying27 Try.underlying2 cells_int64 g1
  simp only [List.cons.injEq, and_true] at e0 e1
  subst e0 e1
  obtain ⟨s, c, rfl, _⟩ := Rd.slice r0
  obtain ⟨t, d, rfl, _⟩ := Rd.slice r1
  exact ⟨xs, ys, s, c, t, d, cells_two hcs, r0, r1⟩
end
end Go.Proofs.Ytbflhjjnemdecaa

namespace Go.Proofs.Ytbflhjjnemdecaa
set_option linter.unusedVariables false
set_option linter.unusedSimpArgs false
open Go.ChangeShapes Go.WideShapes Go.ChangeAt Go.RowKit
def inB (n lo hi : Int) : Bool := decide (lo ≤ n) && decide (n ≤ hi)
def sigB (t a : Int) : Bool := inB t 0 3 && inB a 0 4
theorem within_any (n lo hi : Int) (w : World) : Calls Try.prog 68 #[.int .i64 n, .int .i64 lo, .int .i64 hi] w fun e w' => e = .returned (.bool (inB n lo hi)) ∧ w = w' := by
 by_cases h1 : lo ≤ n
 ·
  by_cases h2 : n ≤ hi
  ·
   have e1 : inB n lo hi = true := by simp [inB, h1, h2]
   rw [e1]
   go_enter Try.func68, Try.ntmps68
   go_wp2
   go_ret
   exact ⟨rfl, rfl⟩
  ·
   have e1 : inB n lo hi = false := by simp [inB, h2]
   rw [e1]
   go_enter Try.func68, Try.ntmps68
   go_wp2
   go_ret
   exact ⟨rfl, rfl⟩
 ·
  have e1 : inB n lo hi = false := by simp [inB, h1]
  rw [e1]
  go_enter Try.func68, Try.ntmps68
  go_wp2
  go_ret
  exact ⟨rfl, rfl⟩
theorem in_any (n lo hi : Int) (w : World) : Calls Try.prog 63 #[.int .i64 n, .int .i64 lo, .int .i64 hi] w fun e w' => e = .returned (.bool (inB n lo hi)) ∧ w = w' := by
 by_cases h1 : lo ≤ n
 ·
  by_cases h2 : n ≤ hi
  ·
   have e1 : inB n lo hi = true := by simp [inB, h1, h2]
   rw [e1]
   go_enter Try.func63, Try.ntmps63
   go_wp2
   go_ret
   exact ⟨rfl, rfl⟩
  ·
   have e1 : inB n lo hi = false := by simp [inB, h2]
   rw [e1]
   go_enter Try.func63, Try.ntmps63
   go_wp2
   go_ret
   exact ⟨rfl, rfl⟩
 ·
  have e1 : inB n lo hi = false := by simp [inB, h1]
  rw [e1]
  go_enter Try.func63, Try.ntmps63
  go_wp2
  go_ret
  exact ⟨rfl, rfl⟩
theorem toSig_any (t a : Int) (w : World) : Calls Try.prog 13 #[.agg #[.int .i64 t, .int .i64 a]] w fun e w' => e = .returned (.agg #[.int .i64 t, .int .i64 a]) ∧ Below w.heap.size w w' := by
 go_enter Try.func13, Try.ntmps13
 go_wp2
 exact bodyPost_ret (v := .agg #[.int .i64 t, .int .i64 a]) (by simp [results, Try.results13, go_sem]) rfl ⟨rfl, by (repeat' first | exact Below.refl _ _ | assumption | apply Below.alloc | apply Below.drew | apply Below.setCell | omega | (simp; done) | (simp; omega))⟩
theorem l01Sig_any (t a : Int) (w : World) : Calls Try.prog 99 #[.agg #[.int .i64 t, .int .i64 a]] w fun e w' => e = .returned (.bool (sigB t a)) ∧ Below w.heap.size w w' := by
 go_enter Try.func99, Try.ntmps99
 go_wp2_with ((go_at_call 63; ((with_reducible refine (in_any _ _ _ _).mono ?_); rintro e w' ⟨rfl, rfl⟩)))
 all_goals go_ret
 all_goals exact ⟨by simp [sigB, *], by (repeat' first | exact Below.refl _ _ | assumption | apply Below.alloc | apply Below.drew | apply Below.setCell | omega | (simp; done) | (simp; omega))⟩
theorem implValidSig_any (t a : Int) (w : World) : Calls Try.prog 107 #[.agg #[.int .i64 t, .int .i64 a]] w fun e w' => e = .returned (.bool (sigB t a)) ∧ Below w.heap.size w w' := by
 go_enter Try.func107, Try.ntmps107
 go_wp2_with ((go_at_call 68; ((with_reducible refine (within_any _ _ _ _).mono ?_); rintro e w' ⟨rfl, rfl⟩)))
 all_goals go_ret
 all_goals exact ⟨by simp [sigB, *], by (repeat' first | exact Below.refl _ _ | assumption | apply Below.alloc | apply Below.drew | apply Below.setCell | omega | (simp; done) | (simp; omega))⟩
end Go.Proofs.Ytbflhjjnemdecaa

namespace Go.Proofs.Ytbflhjjnemdecaa
set_option linter.unusedVariables false
set_option linter.unusedSimpArgs false
open Go.ChangeShapes Go.WideShapes Go.ChangeAt Go.RowKit
def condKind (k : Int) : Bool := decide (k = 1 ∨ k = 2 ∨ k = 3 ∨ k = 5 ∨ k = 6 ∨ k = 7)
mutual
def Ex.cond : Ex → Bool
 | .mk k _ ks => condKind k && Ex.condL ks
def Ex.condL : List Ex → Bool
 | [] => true
 | e :: r => e.cond && Ex.condL r
end
theorem Ex.cond_eq (e : Ex) : e.cond = (condKind e.kind && Ex.condL e.kids) := by cases e; simp only [Ex.cond, Ex.kind, Ex.kids]
theorem Ex.condL_append : ∀ a b : List Ex, Ex.condL (a ++ b) = (Ex.condL a && Ex.condL b)
 | [], b => by simp [Ex.condL]
 | e :: r, b => by simp only [List.cons_append, Ex.condL, Ex.condL_append r b, Bool.and_assoc]
theorem Ex.condL_take_succ {ks : List Ex} {i : Nat} {e : Ex} (h : ks[i]? = some e) : Ex.condL (ks.take (i + 1)) = (Ex.condL (ks.take i) && e.cond) := by
 obtain ⟨hi, rfl⟩ := List.getElem?_eq_some_iff.1 h
 rw [List.take_succ_eq_append_getElem hi, Ex.condL_append]
 simp [Ex.condL]
theorem Ex.condL_false {ks : List Ex} {i : Nat} {e : Ex} (h : ks[i]? = some e) (hc : e.cond = false) : Ex.condL ks = false := by
 have := Ex.condL_append (ks.take (i + 1)) (ks.drop (i + 1))
 rw [List.take_append_drop, Ex.condL_take_succ h, hc] at this
 simpa using this
theorem l01Condition_all (N : Nat) : ∀ (e : Ex) (b o : Nat) (w : World), e.size ≤ N → ExAt w b o e →
  Calls Try.prog 142 #[.pointer (some ⟨b, o, none⟩)] w fun f w' => f = .returned (.bool e.cond) ∧ w = w' := by
 induction N using Nat.strongRecOn with
 | _ N ih =>
 intro e b o w hN hr
 obtain ⟨g0, g1, s, c, g2, g3⟩ := hr
 obtain ⟨-, hlen, hcap, -, -⟩ := kid_at g3
 unfold maxLen at hcap
 have hse := Ex.size_eq e
 have hks : Ex.sizeL e.kids < N := by omega
 clear hse
 by_cases hk : condKind e.kind = true
 ·
  have hc : e.cond = Ex.condL e.kids := by rw [Ex.cond_eq, hk, Bool.true_and]
  have Hc := Lib.hid hc
  have b1 : inB e.kind 1 7 = true := by simp [condKind] at hk; simp [inB]; omega
  have b2 : (e.kind == 4) = false := by simp [condKind] at hk; simp; omega
  clear hc hk
  go_enter Try.func142, Try.ntmps142
  go_wp2_with ((go_at_call 63; ((with_reducible refine (in_any _ _ _ _).mono ?_); rintro e w' ⟨rfl, rfl⟩)))
  go_loop [3] (fun i => ∃ k : Nat, k ≤ e.kids.length ∧ i = .int .i64 k ∧ Ex.condL (e.kids.take k) = true) (fun i => e.kids.length - (intOf i).toNat)
  case atStart => exact ⟨0, by omega, rfl, by simp [Ex.condL]⟩
  case round =>
   obtain ⟨k, hk, rfl, hpre⟩ := hrel
   have Hpre := Lib.hid hpre
   clear hpre
   by_cases hlt : k < e.kids.length
   ·
    obtain ⟨f, hf⟩ : ∃ f, e.kids[k]? = some f := ⟨_, List.getElem?_eq_getElem hlt⟩
    obtain ⟨b', o', rfl⟩ := kid_some g3 (by intro h; simp [h] at hlt)
    have hat := kid_exAt g3 hf
    have hmem := Ex.sizeL_mem (List.mem_of_getElem? hf)
    have Htk := Lib.hid (Ex.condL_take_succ hf)
    have Hfl := Lib.hid (@Ex.condL_false _ _ _ hf)
    go_wp2_with fail
    refine (ih _ (by omega) f _ _ _ (Nat.le_refl _) hat).mono ?_
    rintro x w' ⟨rfl, rfl⟩
    cases hfc : f.cond
    ·
     go_wp2_with fail
     go_ret
     exact ⟨ret_bool (by rw [Hc.out, Hfl.out hfc]), rfl⟩
    ·
     go_wp2_with fail
     go_round
     case rel => exact ⟨k + 1, by omega, by go_num, by rw [Htk.out, Hpre.out, hfc]; rfl⟩
     case measure => simp [intOf]; omega
   ·
    obtain rfl : k = e.kids.length := by omega
    go_wp2_with fail
    go_ret
    exact ⟨ret_bool (by have := Hpre.out; rw [List.take_length] at this; rw [Hc.out, this]), rfl⟩
 ·
  have hc : e.cond = false := by rw [Ex.cond_eq]; simp [hk]
  rw [hc]
  by_cases hin : inB e.kind 1 7 = true
  ·
   have b2 : (e.kind == 4) = true := by simp [condKind] at hk; simp [inB] at hin; simp; omega
   clear hk hc
   go_enter Try.func142, Try.ntmps142
   go_wp2_with ((go_at_call 63; ((with_reducible refine (in_any _ _ _ _).mono ?_); rintro e w' ⟨rfl, rfl⟩)))
   go_ret
   exact ⟨rfl, rfl⟩
  ·
   have hin' : inB e.kind 1 7 = false := by simpa using hin
   clear hk hc hin
   go_enter Try.func142, Try.ntmps142
   go_wp2_with ((go_at_call 63; ((with_reducible refine (in_any _ _ _ _).mono ?_); rintro e w' ⟨rfl, rfl⟩)))
   go_ret
   exact ⟨rfl, rfl⟩
def CondS (N : Nat) : Prop := ∀ (k n : Int) (ks : List Ex) (s : Option Addr) (cap : Nat) (w : World), Ex.sizeL ks ≤ N → Rd w (kidsD ks) (.slice s ks.length cap) →
  Calls Try.prog 159 #[.agg #[.int .i64 k, .int .i64 n, .slice s ks.length cap]] w fun f w' => f = .returned (.bool (Ex.cond (.mk k n ks))) ∧ Below w.heap.size w w'
set_option maxHeartbeats 2000000 in
theorem implIsCondition_all (N : Nat) : CondS N := by
 induction N using Nat.strongRecOn with
 | _ N ih =>
 intro k0 n0 ks s cap w hN hr
 obtain ⟨-, hlen, hcap, -, -⟩ := kid_at hr
 unfold maxLen at hcap
 by_cases hk : condKind k0 = true
 ·
  have Hc : Hid (Ex.cond (.mk k0 n0 ks) = Ex.condL ks) := by show _ = _; rw [Ex.cond_eq]; simp [Ex.kind, Ex.kids, hk]
  have hk' : k0 = 1 ∨ k0 = 2 ∨ k0 = 3 ∨ k0 = 5 ∨ k0 = 6 ∨ k0 = 7 := by simpa [condKind] using hk
  clear hk
  rcases hk' with hk' | hk' | hk' | hk' | hk' | hk'
  all_goals
   subst hk'
   go_enter Try.func159, Try.ntmps159
   go_wp2_with fail
   go_loopw [17] (fun i wr => ∃ k : Nat, k ≤ ks.length ∧ i = .int .i64 k ∧ Ex.condL (ks.take k) = true ∧ Below w.heap.size w wr) (fun i _ => ks.length - (intOf i).toNat)
   case atStart => exact ⟨0, by omega, rfl, by simp [Ex.condL], by (repeat' first | exact Below.refl _ _ | assumption | apply Below.alloc | apply Below.drew | apply Below.setCell | omega | (simp; done) | (simp; omega))⟩
   case round =>
    obtain ⟨k, hk, rfl, hpre, hB⟩ := hrel
    have hzB := hB.size
    have Hpre := Lib.hid hpre
    clear hpre
    by_cases hlt : k < ks.length
    ·
     obtain ⟨f, hf⟩ : ∃ f, ks[k]? = some f := ⟨_, List.getElem?_eq_getElem hlt⟩
     obtain ⟨b', o', rfl⟩ := kid_some hr (by intro h; simp [h] at hlt)
     obtain ⟨-, s', c', g0, g1, g2, gr⟩ := kid_in (hr.below hB) hf
     have hN' : Ex.sizeL f.kids < N := by
      have := Ex.sizeL_mem (List.mem_of_getElem? hf)
      have := Ex.size_eq f
      omega
     have Htk := Lib.hid (Ex.condL_take_succ hf)
     have Hfl := Lib.hid (@Ex.condL_false _ _ _ hf)
     have Het : Hid (Ex.mk f.kind f.num f.kids = f) := (Ex.eta f).symm
     go_wp2_with fail
     refine (ih _ hN' _ _ _ _ _ _ (Nat.le_refl _) (gr.alloc _)).mono ?_
     rintro x w1 ⟨rfl, hb⟩
     have hB1 : Below w.heap.size w w1 := Below.on (by (repeat' first | exact Below.refl _ _ | assumption | apply Below.alloc | apply Below.drew | apply Below.setCell | omega | (simp; done) | (simp; omega))) hb (by simp; omega)
     clear hb
     rw [Het.out]
     cases hfc : f.cond
     ·
      go_wp2_with fail
      go_ret
      exact ⟨ret_bool (by rw [Hc.out, Hfl.out hfc]), hB1⟩
     ·
      go_wp2_with fail
      go_roundw
      case rel => exact ⟨k + 1, by omega, by go_num, by rw [Htk.out, Hpre.out, hfc]; rfl, hB1⟩
      case measure => simp [intOf]; omega
    ·
     obtain rfl : k = ks.length := by omega
     go_wp2_with fail
     go_ret
     exact ⟨ret_bool (by have := Hpre.out; rw [List.take_length] at this; rw [Hc.out, this]), hB⟩
 ·
  have hc : Ex.cond (.mk k0 n0 ks) = false := by rw [Ex.cond_eq]; simp [Ex.kind, hk]
  have hk' : ¬ (k0 = 1 ∨ k0 = 2 ∨ k0 = 3 ∨ k0 = 5 ∨ k0 = 6 ∨ k0 = 7) := by simpa [condKind] using hk
  have t1 : (k0 == 1) = false := by simp; omega
  have t2 : (k0 == 2) = false := by simp; omega
  have t3 : (k0 == 3) = false := by simp; omega
  have t5 : (k0 == 5) = false := by simp; omega
  have t6 : (k0 == 6) = false := by simp; omega
  have t7 : (k0 == 7) = false := by simp; omega
  rw [hc]
  clear hk hk' hc
  go_enter Try.func159, Try.ntmps159
  go_wp2_with fail
  go_ret
  exact ⟨rfl, by (repeat' first | exact Below.refl _ _ | assumption | apply Below.alloc | apply Below.drew | apply Below.setCell | omega | (simp; done) | (simp; omega))⟩
theorem implIsCondition_i {k n : Int} {ks : List Ex} {s : Option Addr} {cap : Nat} {w : World} (hr : Rd w (kidsD ks) (.slice s ks.length cap)) :
  Calls Try.prog 159 #[.agg #[.int .i64 k, .int .i64 n, .slice s ks.length cap]] w fun f w' => f = .returned (.bool (Ex.cond (.mk k n ks))) ∧ Below w.heap.size w w' :=
 implIsCondition_all _ k n ks s cap w (Nat.le_refl _) hr
end Go.Proofs.Ytbflhjjnemdecaa

namespace Go.Proofs.Ytbflhjjnemdecaa
set_option linter.unusedVariables false
set_option linter.unusedSimpArgs false
open Go.ChangeShapes Go.WideShapes Go.ChangeAt Go.RowKit
theorem info_int64 : (Try.prog.info? 2).map (fun i => (i.zero, i.size, i.bytes)) = some (some (.int .i64 0), 1, 8) := by kernel_rfl
theorem szInt64S_any (zs : List Int) (s : Option Addr) (cap : Nat) (left : Int) (w : World) (hr : Rd w (intsD zs) (.slice s zs.length cap)) (h0 : 0 ≤ left) (h1 : left ≤ 1048576) :
  Calls Try.prog 49 #[.slice s zs.length cap, .int .i64 left] w fun e w' => (∃ r : Int, e = .returned (.int .i64 r) ∧ r ≤ left ∧ -1 ≤ r ∧ (0 ≤ r → (zs.length : Int) + r ≤ left)) ∧ w = w' := by
 obtain ⟨-, hlen, hcap, -⟩ := hr.sl_at
 unfold maxLen at hcap
 by_cases hneg : left - (zs.length : Int) < 0
 ·
  go_enter Try.func49, Try.ntmps49
  go_wp2_with fail
  go_ret
  exact ⟨⟨-1, rfl, by omega, by omega, by omega⟩, rfl⟩
 ·
  have hd : decide (left - (zs.length : Int) < 0) = false := by simpa using hneg
  go_enter Try.func49, Try.ntmps49
  go_wp2_with fail
  go_ret
  exact ⟨⟨_, rfl, by omega, by omega, by omega⟩, rfl⟩
theorem toInt64S_any (zs : List Int) (s : Option Addr) (cap : Nat) (w : World) (hr : Rd w (intsD zs) (.slice s zs.length cap)) (h1 : zs.length ≤ 1048576) :
  Calls Try.prog 54 #[.slice s zs.length cap] w fun e w' => ∃ s' c', e = .returned (.slice s' zs.length c') ∧ Fresh w w' (intsD zs) (.slice s' zs.length c') ∧ Below w.heap.size w w' := by
 obtain ⟨-, hlen, hcap, -⟩ := hr.sl_at
 unfold maxLen at hcap
 obtain ⟨i0, hi, hz0, hz1, hz2⟩ := info_parts info_int64
 go_enter Try.func54, Try.ntmps54
 go_wp2_with (at_make; refine wpList_make_full _ rfl _ _ 27 rfl w.heap.size 2 i0 (.int .i64 0) 1 Try.underlying27 hi hz0 hz1 .i64 .i64 _ _ zs.length rfl rfl rfl rfl (by rw [hz2]; omega) (by unfold maxLen; omega) (Nat.le_refl _) ?_; intro w0 hown hgrow)
 have hp := Part.start hown
 have hB0 : Below w.heap.size w w0 := Below.grown (Below.refl _ _) hgrow (Nat.le_refl _) (by simp)
 have hz0' := hp.lt
 clear hown hgrow
 go_loopw [4] (fun i wr => ∃ k : Nat, k ≤ zs.length ∧ i = .int .i64 k ∧ Part wr w.heap.size 2 ((zs.take k).map D.int) (zs.length * 1) ∧ Below w.heap.size w wr) (fun i _ => zs.length - (intOf i).toNat)
 case atStart => exact ⟨0, by omega, rfl, by simpa using hp, hB0⟩
 case round =>
  clear hp hB0 hz0'
  obtain ⟨k, hk, rfl, hp, hB⟩ := hrel
  by_cases hlt : k < zs.length
  ·
   obtain ⟨z, hz⟩ : ∃ z, zs[k]? = some z := ⟨_, List.getElem?_eq_getElem hlt⟩
   obtain ⟨b, o, rfl⟩ := int_some hr (by omega)
   obtain ⟨_, g0⟩ := int_in (hr.below hB) hz
   obtain ⟨y0, d0⟩ := hp.cell k (by omega)
   have z0 := hp.frozen k
   have Hst := Lib.hid (hp.int hz (by omega))
   have hlt2 := hp.lt
   go_wp2_with fail
   go_roundw
   case rel => exact ⟨k + 1, by omega, by go_num, Hst.out, by (repeat' first | exact Below.refl _ _ | assumption | apply Below.alloc | apply Below.drew | apply Below.setCell | omega | (simp; done) | (simp; omega))⟩
   case measure => simp [intOf]; omega
  ·
   obtain rfl : k = zs.length := by omega
   rw [List.take_length] at hp
   go_wp2_with fail
   go_ret
   exact ⟨_, _, rfl, hp.done (Nat.le_refl _) (by simp) (Nat.le_refl _) (by unfold maxLen; omega), hB⟩
theorem eqInt64S_any (xs ys : List Int) (s t : Option Addr) (c d : Nat) (w : World) (hr : Rd w (intsD xs) (.slice s xs.length c)) (hr' : Rd w (intsD ys) (.slice t ys.length d)) :
  Calls Try.prog 59 #[.slice s xs.length c, .slice t ys.length d] w fun e w' => e = .returned (.bool (eqb xs ys)) ∧ Below w.heap.size w w' := by
 obtain ⟨-, hlen, hcap, -⟩ := hr.sl_at
 obtain ⟨-, hlen', hcap', -⟩ := hr'.sl_at
 unfold maxLen at hcap hcap'
 by_cases hl : xs.length = ys.length
 ·
  have b1 : ((xs.length : Int) != (ys.length : Int)) = false := by simp [hl]
  have Hl := Lib.hid hl
  clear hl
  go_enter Try.func59, Try.ntmps59
  go_wp2_with fail
  go_loopw [5] (fun i wr => ∃ k : Nat, k ≤ xs.length ∧ i = .int .i64 k ∧ xs.take k = ys.take k ∧ Below w.heap.size w wr) (fun i _ => xs.length - (intOf i).toNat)
  case atStart => exact ⟨0, by omega, rfl, by simp, Below.refl _ _⟩
  case round =>
   obtain ⟨k, hk, rfl, hpre, hB⟩ := hrel
   have Hpre := Lib.hid hpre
   clear hpre
   by_cases hlt : k < xs.length
   ·
    have hlt' : k < ys.length := by have := Hl.out; omega
    obtain ⟨x, hx⟩ : ∃ e, xs[k]? = some e := ⟨_, List.getElem?_eq_getElem hlt⟩
    obtain ⟨y, hy⟩ : ∃ e, ys[k]? = some e := ⟨_, List.getElem?_eq_getElem hlt'⟩
    obtain ⟨b, o, rfl⟩ := int_some hr (by omega)
    obtain ⟨b', o', rfl⟩ := int_some hr' (by omega)
    obtain ⟨-, g0⟩ := int_in (hr.below hB) hx
    obtain ⟨-, g1⟩ := int_in (hr'.below hB) hy
    have ha := Int.natCast_nonneg k
    have hb : (k : Int) < (xs.length : Int) := by omega
    have hb' : (k : Int) < (ys.length : Int) := by omega
    by_cases hxy : x = y
    ·
     have Hst : Hid (xs.take (k + 1) = ys.take (k + 1)) := by
      have h1 := (List.getElem?_eq_some_iff.1 hx).2
      have h2 := (List.getElem?_eq_some_iff.1 hy).2
      show _ = _
      rw [List.take_succ_eq_append_getElem hlt, List.take_succ_eq_append_getElem hlt', Hpre.out, h1, h2, hxy]
     subst hxy
     have b2 : (x != x) = false := by simp
     go_wp2_with fail
     go_quiet (fail)
     go_wp2_with fail
     go_roundw
     case rel => exact ⟨k + 1, by omega, by go_num, Hst.out, hB.trans (below_draws _ _ _)⟩
     case measure => simp [intOf]; omega
    ·
     have b2 : (x != y) = true := by simp [hxy]
     have c2 : eqb xs ys = false := eqb_false (by
      intro h
      rw [h] at hx
      exact hxy (Option.some.inj (hx.symm.trans hy)))
     go_wp2_with fail
     go_quiet (fail)
     go_wp2_with fail
     go_ret
     exact ⟨by first | rfl | (rw [c2]; rfl), hB.trans (below_draws _ _ _)⟩
   ·
    obtain rfl : k = xs.length := by omega
    have c2 : eqb xs ys = true := eqb_true (by
     have := Hpre.out
     rwa [List.take_length, Hl.out, List.take_length] at this)
    go_wp2_with fail
    go_ret
    exact ⟨by first | rfl | (rw [c2]; rfl), hB⟩
 ·
  have b1 : ((xs.length : Int) != (ys.length : Int)) = true := by simp; omega
  have c2 : eqb xs ys = false := eqb_false (by intro h; rw [h] at hl; exact hl rfl)
  rw [c2]
  go_enter Try.func59, Try.ntmps59
  go_wp2_with fail
  go_ret
  exact ⟨rfl, Below.refl _ _⟩
end Go.Proofs.Ytbflhjjnemdecaa

namespace Go.Proofs.Ytbflhjjnemdecaa
set_option linter.unusedVariables false
set_option linter.unusedSimpArgs false
open Go.ChangeShapes Go.WideShapes Go.ChangeAt Go.RowKit Go.Sort
def atomsN (t : Int) : Int := if t = 0 then 1 else if t = 1 then 2 else if t = 2 then 4 else 8
theorem atomsN_bd (t : Int) : 1 ≤ atomsN t ∧ atomsN t ≤ 8 := by unfold atomsN; split <;> (try split) <;> (try split) <;> omega
def allIn (zs : List Int) (n : Int) : Bool := zs.all fun z => inB z 0 (n - 1)
theorem allIn_take_succ {zs : List Int} {n : Int} {i : Nat} {z : Int} (h : zs[i]? = some z) : allIn (zs.take (i + 1)) n = (allIn (zs.take i) n && inB z 0 (n - 1)) := by
 obtain ⟨hi, rfl⟩ := List.getElem?_eq_some_iff.1 h
 unfold allIn
 rw [List.take_succ_eq_append_getElem hi, List.all_append]
 congr 1
 simp
theorem allIn_false {zs : List Int} {n : Int} {i : Nat} {z : Int} (h : zs[i]? = some z) (hc : inB z 0 (n - 1) = false) : allIn zs n = false := by
 unfold allIn
 rw [List.all_eq_false]
 exact ⟨z, List.mem_of_getElem? h, by simp [hc]⟩
def wordB (t a : Int) (xs ys : List Int) : Bool := sigB t a && decide (ys.length ≤ 10) && decide (xs.length = ys.length + 1) && allIn xs (atomsN t) && allIn ys a
theorem sigB_bd {t a : Int} (h : sigB t a = true) : 0 ≤ t ∧ t ≤ 3 ∧ 0 ≤ a ∧ a ≤ 4 := by
 simp [sigB, inB] at h
 omega
theorem within_B (n lo hi : Int) (w : World) : Calls Try.prog 68 #[.int .i64 n, .int .i64 lo, .int .i64 hi] w fun e w' => e = .returned (.bool (inB n lo hi)) ∧ Below w.heap.size w w' :=
 (within_any n lo hi w).mono fun _ _ ⟨h1, h2⟩ => ⟨h1, below_self h2⟩
theorem in_B (n lo hi : Int) (w : World) : Calls Try.prog 63 #[.int .i64 n, .int .i64 lo, .int .i64 hi] w fun e w' => e = .returned (.bool (inB n lo hi)) ∧ Below w.heap.size w w' :=
 (in_any n lo hi w).mono fun _ _ ⟨h1, h2⟩ => ⟨h1, below_self h2⟩
theorem atomsIn_i {t a : Int} {w : World} (h0 : 0 ≤ t) (h1 : t ≤ 3) : Calls Try.prog 118 #[.agg #[.int .i64 t, .int .i64 a]] w fun e w' => e = .returned (.int .i64 (atomsN t)) ∧ Below w.heap.size w w' := by
 have h : t = 0 ∨ t = 1 ∨ t = 2 ∨ t = 3 := by omega
 rcases h with h | h | h | h
 all_goals
  subst h
  go_enter Try.func118, Try.ntmps118
  go_wp2
  go_ret
  exact ⟨rfl, by (repeat' first | exact Below.refl _ _ | assumption | apply Below.alloc | apply Below.drew | apply Below.setCell | omega | (simp; done) | (simp; omega))⟩
theorem l01Atoms_i {t a : Int} {w : World} (h0 : 0 ≤ t) (h1 : t ≤ 3) : Calls Try.prog 103 #[.agg #[.int .i64 t, .int .i64 a]] w fun e w' => e = .returned (.int .i64 (atomsN t)) ∧ Below w.heap.size w w' := by
 have h : t = 0 ∨ t = 1 ∨ t = 2 ∨ t = 3 := by omega
 rcases h with h | h | h | h
 all_goals
  subst h
  go_enter Try.func103, Try.ntmps103
  go_wp2
  go_ret
  exact ⟨rfl, by (repeat' first | exact Below.refl _ _ | assumption | apply Below.alloc | apply Below.drew | apply Below.setCell | omega | (simp; done) | (simp; omega))⟩
theorem inRange_i {zs : List Int} {s : Option Addr} {c : Nat} {n : Int} {w : World} (hr : Rd w (intsD zs) (.slice s zs.length c)) (h0 : 0 ≤ n) (h1 : n ≤ 100) :
  Calls Try.prog 144 #[.slice s zs.length c, .int .i64 n] w fun e w' => e = .returned (.bool (allIn zs n)) ∧ w = w' := by
 obtain ⟨-, hlen, hcap, -⟩ := hr.sl_at
 unfold maxLen at hcap
 go_enter Try.func144, Try.ntmps144
 go_wp2_with fail
 go_loop [9] (fun i => ∃ k : Nat, k ≤ zs.length ∧ i = .int .i64 k ∧ allIn (zs.take k) n = true) (fun i => zs.length - (intOf i).toNat)
 case atStart => exact ⟨0, by omega, rfl, by simp [allIn]⟩
 case round =>
  obtain ⟨k, hk, rfl, hpre⟩ := hrel
  have Hpre := Lib.hid hpre
  clear hpre
  by_cases hlt : k < zs.length
  ·
   obtain ⟨z, hz⟩ : ∃ e, zs[k]? = some e := ⟨_, List.getElem?_eq_getElem hlt⟩
   obtain ⟨b, o, rfl⟩ := int_some hr (by omega)
   obtain ⟨-, g0⟩ := int_in hr hz
   have Htk := Lib.hid (@allIn_take_succ zs n k z hz)
   have Hfl := Lib.hid (@allIn_false zs n k z hz)
   go_wp2_with ((go_at_call 68; ((with_reducible refine (within_any _ _ _ _).mono ?_); rintro e w' ⟨rfl, rfl⟩)))
   ·
    go_ret
    exact ⟨ret_bool (by rw [Hfl.out (by simp_all)]), rfl⟩
   ·
    go_round
    case rel => exact ⟨k + 1, by omega, by go_num, by rw [Htk.out, Hpre.out]; simp_all⟩
    case measure => simp [intOf]; omega
  ·
   obtain rfl : k = zs.length := by omega
   have c2 : allIn zs n = true := by have := Hpre.out; rwa [List.take_length] at this
   go_wp2_with fail
   go_ret
   exact ⟨by first | rfl | (rw [c2]; rfl), rfl⟩
theorem inRange_B {zs : List Int} {s : Option Addr} {c : Nat} {n : Int} {w : World} (hr : Rd w (intsD zs) (.slice s zs.length c)) (h0 : 0 ≤ n) (h1 : n ≤ 100) :
  Calls Try.prog 144 #[.slice s zs.length c, .int .i64 n] w fun e w' => e = .returned (.bool (allIn zs n)) ∧ Below w.heap.size w w' :=
 (inRange_i hr h0 h1).mono fun _ _ ⟨h1, h2⟩ => ⟨h1, below_self h2⟩
def WdAt (w : World) (b o : Nat) (xs ys : List Int) : Prop := ∃ s c t d, w.cell? ⟨b, o, none⟩ = some (.slice s xs.length c) ∧ w.cell? ⟨b, o + 1, none⟩ = some (.slice t ys.length d) ∧
 Rd w (intsD xs) (.slice s xs.length c) ∧ Rd w (intsD ys) (.slice t ys.length d)
theorem WdAt.below {w w' : World} {b o : Nat} {xs ys : List Int} (h : WdAt w b o xs ys) (hb : Below w.heap.size w w') : WdAt w' b o xs ys := by
 obtain ⟨s, c, t, d, h0, h1, h2, h3⟩ := h
 have hl : b < w.heap.size := World.block_lt_of_cell? w _ h0
 exact ⟨s, c, t, d, (hb.cell (p := ⟨b, o, none⟩) hl).trans h0, (hb.cell (p := ⟨b, o + 1, none⟩) hl).trans h1, h2.below hb, h3.below hb⟩
theorem wrap_of {n : Int} (h0 : -1000000 ≤ n) (h1 : n ≤ 1000000000000000000) : IntKind.i64.wrap n = n := IntWalk.i64_in n (by omega)
set_option maxHeartbeats 1000000 in
theorem l01Word_i {t a : Int} {xs ys : List Int} {b o : Nat} {w : World} (hw : WdAt w b o xs ys) :
  Calls Try.prog 51 #[.agg #[.int .i64 t, .int .i64 a], .pointer (some ⟨b, o, none⟩)] w fun e w' => e = .returned (.bool (wordB t a xs ys)) ∧ Below w.heap.size w w' := by
 have hW := hw
 obtain ⟨s, c, u, d, g0, g1, hr, hr'⟩ := hw
 obtain ⟨-, hlen, hcap, -⟩ := hr.sl_at
 obtain ⟨-, hlen', hcap', -⟩ := hr'.sl_at
 unfold maxLen at hcap hcap'
 have hbl : b < w.heap.size := World.block_lt_of_cell? w _ g0
 go_enter Try.func51, Try.ntmps51
 go_wp2_with fail
 have hW0 := hW.below (Below.alloc (Below.refl _ _) (Nat.le_refl _) (.cells #[.int .i64 t, .int .i64 a] 34))
 have L := Blk.new2 w 34 (.int .i64 t) (.int .i64 a)
 have hB : Below w.heap.size w (w.alloc (.cells #[.int .i64 t, .int .i64 a] 34)) := by (repeat' first | exact Below.refl _ _ | assumption | apply Below.alloc | apply Below.drew | apply Below.setCell | omega | (simp; done) | (simp; omega))
 generalize w.alloc (.cells #[.int .i64 t, .int .i64 a] 34) = w0 at hW0 L hB ⊢
 clear hW g0 g1 hr hr'
 obtain ⟨s, c, u, d, g0, g1, hr, hr'⟩ := hW0
 have gg0 := fun d os => cell_regrown g0 d os
 have gg1 := fun d os => cell_regrown g1 d os
 have gl0 := fun d os => cell_regrown L.c0 d os
 have gl1 := fun d os => cell_regrown L.c1 d os
 cases hs : sigB t a
 ·
  have c2 : wordB t a xs ys = false := by simp [wordB, hs]
  refine Go.wp_region_quiet_below (by kernel_rfl) (by kernel_rfl) ?_
  repeat (first | go_big_quiet_step ((exact Calls.regrown_of (l01Sig_any _ _ _))) | quiet_step ((exact Calls.regrown_of (l01Sig_any _ _ _))))
  refine wpQuiet_nil ?_; intro _ hw'; obtain ⟨⟨dq, osq⟩, hw''⟩ := hw'; subst hw''; have hq := below_regrown w0 dq osq; revert hq; generalize grow (redrawn w0 dq) osq = w1; intro hq
  replace hB := Below.on hB hq hB.size
  clear hq gg0 gg1 gl0 gl1
  go_wp2_with fail
  go_ret
  exact ⟨by first | rfl | (rw [c2]; rfl), hB⟩
 obtain ⟨ht0, ht1, ha0, ha1⟩ := sigB_bd hs
 by_cases h10 : ys.length ≤ 10
 rotate_left
 ·
  have c2 : wordB t a xs ys = false := by simp [wordB, h10]
  have d1 : decide (10 < (ys.length : Int)) = true := by simp; omega
  refine Go.wp_region_quiet_below (by kernel_rfl) (by kernel_rfl) ?_
  repeat (first | go_big_quiet_step ((exact Calls.regrown_of (l01Sig_any _ _ _))) | quiet_step ((exact Calls.regrown_of (l01Sig_any _ _ _))))
  refine wpQuiet_nil ?_; intro _ hw'; obtain ⟨⟨dq, osq⟩, hw''⟩ := hw'; subst hw''; have hq := below_regrown w0 dq osq; revert hq; generalize grow (redrawn w0 dq) osq = w1; intro hq
  replace hB := Below.on hB hq hB.size
  clear hq gg0 gg1 gl0 gl1
  go_wp2_with fail
  go_ret
  exact ⟨by first | rfl | (rw [c2]; rfl), hB⟩
 have d1 : decide (10 < (ys.length : Int)) = false := by simp; omega
 have q1 : IntKind.i64.wrap ((ys.length : Int) + 1) = (ys.length : Int) + 1 := wrap_of (by omega) (by omega)
 by_cases h11 : xs.length = ys.length + 1
 rotate_left
 ·
  have c2 : wordB t a xs ys = false := by simp [wordB, h11]
  have d2 : ((xs.length : Int) != (ys.length : Int) + 1) = true := by simp; omega
  clear h11
  refine Go.wp_region_quiet_below (by kernel_rfl) (by kernel_rfl) ?_
  repeat (first | go_big_quiet_step ((exact Calls.regrown_of (l01Sig_any _ _ _))) | quiet_step ((exact Calls.regrown_of (l01Sig_any _ _ _))))
  refine wpQuiet_nil ?_; intro _ hw'; obtain ⟨⟨dq, osq⟩, hw''⟩ := hw'; subst hw''; have hq := below_regrown w0 dq osq; revert hq; generalize grow (redrawn w0 dq) osq = w1; intro hq
  replace hB := Below.on hB hq hB.size
  clear hq gg0 gg1 gl0 gl1
  go_wp2_with fail
  go_ret
  exact ⟨by first | rfl | (rw [c2]; rfl), hB⟩
 have d2 : ((xs.length : Int) != (ys.length : Int) + 1) = false := by simp [h11]
 have Hc : Hid (wordB t a xs ys = (allIn xs (atomsN t) && allIn ys a)) := by show _ = _; simp [wordB, hs, h10, h11]
 have hxl : xs.length ≤ 11 := by omega
 have hat := atomsN_bd t
 have q2 : IntKind.i64.wrap (atomsN t - 1) = atomsN t - 1 := wrap_of (by omega) (by omega)
 have q3 : IntKind.i64.wrap (a - 1) = a - 1 := wrap_of (by omega) (by omega)
 clear h11
 refine Go.wp_region_quiet_below (by kernel_rfl) (by kernel_rfl) ?_
 repeat (first | go_big_quiet_step ((exact Calls.regrown_of (l01Sig_any _ _ _))) | quiet_step ((exact Calls.regrown_of (l01Sig_any _ _ _))))
 refine wpQuiet_nil ?_; intro _ hw'; obtain ⟨⟨dq, osq⟩, hw''⟩ := hw'; subst hw''; have hq := below_regrown w0 dq osq; revert hq; generalize grow (redrawn w0 dq) osq = w1; intro hq
 have hWE : WdAt w0 b o xs ys := ⟨s, c, u, d, g0, g1, hr, hr'⟩
 replace hWE := hWE.below hq
 replace L := L.below hq
 replace hB := Below.on hB hq hB.size
 clear hq gg0 gg1 gl0 gl1 d1 d2 q1 hs g0 g1 hr hr'
 go_wp2_with fail
 go_loopw [5] (fun i wr => ∃ k : Nat, k ≤ xs.length ∧ i = .int .i64 k ∧ allIn (xs.take k) (atomsN t) = true ∧ WdAt wr b o xs ys ∧ Blk wr w.heap.size 34 [.int .i64 t, .int .i64 a] ∧ Below w.heap.size w wr) (fun i _ => xs.length - (intOf i).toNat)
 case atStart => exact ⟨0, by omega, rfl, by simp [allIn], hWE, L, hB⟩
 case round =>
  clear hWE L hB
  obtain ⟨k, hk, rfl, hpre, hWE, L, hB⟩ := hrel
  have Hpre := Lib.hid hpre
  clear hpre
  have hWE' := hWE
  obtain ⟨s1, c1, u1, d1, g0, g1, hr, hr'⟩ := hWE'
  have hzB := hB.size
  by_cases hlt : k < xs.length
  ·
   obtain ⟨z, hz⟩ : ∃ e, xs[k]? = some e := ⟨_, List.getElem?_eq_getElem hlt⟩
   obtain ⟨p, q, rfl⟩ := int_some hr (by omega)
   obtain ⟨-, gz⟩ := int_in hr hz
   have ha := Int.natCast_nonneg k
   have hb : (k : Int) < (xs.length : Int) := by omega
   have gg0 := fun d os => cell_regrown g0 d os
   have ggz := fun d os => cell_regrown gz d os
   have gl0 := fun d os => cell_regrown L.c0 d os
   have gl1 := fun d os => cell_regrown L.c1 d os
   have Htk := Lib.hid (@allIn_take_succ xs (atomsN t) k z hz)
   have Hfl := Lib.hid (@allIn_false xs (atomsN t) k z hz)
   go_wp2_with fail
   refine Go.wp_region_quiet_below (by kernel_rfl) (by kernel_rfl) ?_
   repeat (first | go_big_quiet_step ((first | exact Calls.regrown_of (l01Atoms_i ht0 ht1) | exact Calls.regrown_of (in_B _ _ _ _))) | quiet_step ((first | exact Calls.regrown_of (l01Atoms_i ht0 ht1) | exact Calls.regrown_of (in_B _ _ _ _))))
   refine wpQuiet_nil ?_; intro _ hw'; obtain ⟨⟨dq, osq⟩, hw''⟩ := hw'; subst hw''; have hq := below_regrown wr dq osq; revert hq; generalize grow (redrawn wr dq) osq = w1; intro hq
   replace hWE := hWE.below hq
   replace L := L.below hq
   replace hB := Below.on hB hq hB.size
   clear hq gg0 ggz gl0 gl1 g0 g1 gz
   cases hz1 : inB z 0 (atomsN t - 1)
   ·
    have c2 : wordB t a xs ys = false := by rw [Hc.out, Hfl.out hz1]; rfl
    simp only [Bool.not_false]
    go_wp2_with fail
    go_ret
    exact ⟨by first | rfl | (rw [c2]; rfl), hB⟩
   ·
    have Hst : Hid (allIn (xs.take (k + 1)) (atomsN t) = true) := by show _ = _; rw [Htk.out, Hpre.out, hz1]; rfl
    simp only [Bool.not_true]
    go_wp2_with fail
    go_roundw
    case rel => exact ⟨k + 1, by omega, by go_num, Hst.out, hWE, L, hB⟩
    case measure => simp [intOf]; omega
  ·
   obtain rfl : k = xs.length := by omega
   have Hx : Hid (allIn xs (atomsN t) = true) := by have := Hpre.out; rw [List.take_length] at this; exact this
   clear Hpre
   go_wp2_with fail
   go_loopw [6] (fun i wr => ∃ k : Nat, k ≤ ys.length ∧ i = .int .i64 k ∧ allIn (ys.take k) a = true ∧ WdAt wr b o xs ys ∧ Blk wr w.heap.size 34 [.int .i64 t, .int .i64 a] ∧ Below w.heap.size w wr) (fun i _ => ys.length - (intOf i).toNat)
   case atStart => exact ⟨0, by omega, rfl, by simp [allIn], hWE, L, hB⟩
   case round =>
    clear hWE L hB g0 g1 hr hr'
    obtain ⟨k, hk, rfl, hpre, hWE, L, hB⟩ := hrel
    have Hpre := Lib.hid hpre
    clear hpre
    have hWE' := hWE
    obtain ⟨s1, c1, u1, d1, g0, g1, hr, hr'⟩ := hWE'
    by_cases hlt : k < ys.length
    ·
     obtain ⟨z, hz⟩ : ∃ e, ys[k]? = some e := ⟨_, List.getElem?_eq_getElem hlt⟩
     obtain ⟨p, q, rfl⟩ := int_some hr' (by omega)
     obtain ⟨-, gz⟩ := int_in hr' hz
     have ha := Int.natCast_nonneg k
     have hb : (k : Int) < (ys.length : Int) := by omega
     have gg1 := fun d os => cell_regrown g1 d os
     have ggz := fun d os => cell_regrown gz d os
     have gl1 := fun d os => cell_regrown L.c1 d os
     have Htk := Lib.hid (@allIn_take_succ ys a k z hz)
     have Hfl := Lib.hid (@allIn_false ys a k z hz)
     go_wp2_with fail
     refine Go.wp_region_quiet_below (by kernel_rfl) (by kernel_rfl) ?_
     repeat (first | go_big_quiet_step ((exact Calls.regrown_of (in_B _ _ _ _))) | quiet_step ((exact Calls.regrown_of (in_B _ _ _ _))))
     refine wpQuiet_nil ?_; intro _ hw'; obtain ⟨⟨dq, osq⟩, hw''⟩ := hw'; subst hw''; have hq := below_regrown wr dq osq; revert hq; generalize grow (redrawn wr dq) osq = w1; intro hq
     replace hWE := hWE.below hq
     replace L := L.below hq
     replace hB := Below.on hB hq hB.size
     clear hq gg1 ggz gl1 g0 g1 gz
     cases hz1 : inB z 0 (a - 1)
     ·
      have c2 : wordB t a xs ys = false := by rw [Hc.out, Hfl.out hz1]; simp
      simp only [Bool.not_false]
      go_wp2_with fail
      go_ret
      exact ⟨by first | rfl | (rw [c2]; rfl), hB⟩
     ·
      have Hst : Hid (allIn (ys.take (k + 1)) a = true) := by show _ = _; rw [Htk.out, Hpre.out, hz1]; rfl
      simp only [Bool.not_true]
      go_wp2_with fail
      go_roundw
      case rel => exact ⟨k + 1, by omega, by go_num, Hst.out, hWE, L, hB⟩
      case measure => simp [intOf]; omega
    ·
     obtain rfl : k = ys.length := by omega
     have c2 : wordB t a xs ys = true := by
      have := Hpre.out
      rw [List.take_length] at this
      rw [Hc.out, Hx.out, this]
      rfl
     go_wp2_with fail
     go_ret
     exact ⟨by first | rfl | (rw [c2]; rfl), hB⟩
def traceB (t a : Int) (xs ys : List Int) : Bool := decide (xs.length = ys.length + 1) && (allIn xs (atomsN t) && allIn ys a)
set_option maxHeartbeats 1000000 in
theorem isTrace_i {t a : Int} {xs ys : List Int} {s u : Option Addr} {c d : Nat} {w : World} (hr : Rd w (intsD xs) (.slice s xs.length c)) (hr' : Rd w (intsD ys) (.slice u ys.length d)) (h10 : ys.length ≤ 100000) (hs : sigB t a = true) :
  Calls Try.prog 109 #[.agg #[.int .i64 t, .int .i64 a], .agg #[.slice s xs.length c, .slice u ys.length d]] w fun e w' => e = .returned (.bool (traceB t a xs ys)) ∧ Below w.heap.size w w' := by
 obtain ⟨ht0, ht1, ha0, ha1⟩ := sigB_bd hs
 obtain ⟨-, hlen, hcap, -⟩ := hr.sl_at
 obtain ⟨-, hlen', hcap', -⟩ := hr'.sl_at
 unfold maxLen at hcap hcap'
 have hat := atomsN_bd t
 have q1 : IntKind.i64.wrap ((ys.length : Int) + 1) = (ys.length : Int) + 1 := wrap_of (by omega) (by omega)
 go_enter Try.func109, Try.ntmps109
 go_wp2_with fail
 have L := (Blk.new2 w 34 (.int .i64 t) (.int .i64 a)).alloc (.cells #[.slice s xs.length c, .slice u ys.length d] 40)
 have M := Blk.new2 (w.alloc (.cells #[.int .i64 t, .int .i64 a] 34)) 40 (.slice s xs.length c) (.slice u ys.length d)
 simp at M
 have hB : Below w.heap.size w ((w.alloc (.cells #[.int .i64 t, .int .i64 a] 34)).alloc (.cells #[.slice s xs.length c, .slice u ys.length d] 40)) := by (repeat' first | exact Below.refl _ _ | assumption | apply Below.alloc | apply Below.drew | apply Below.setCell | omega | (simp; done) | (simp; omega))
 replace hr := (hr.alloc (.cells #[.int .i64 t, .int .i64 a] 34)).alloc (.cells #[.slice s xs.length c, .slice u ys.length d] 40)
 replace hr' := (hr'.alloc (.cells #[.int .i64 t, .int .i64 a] 34)).alloc (.cells #[.slice s xs.length c, .slice u ys.length d] 40)
 generalize (w.alloc (.cells #[.int .i64 t, .int .i64 a] 34)).alloc (.cells #[.slice s xs.length c, .slice u ys.length d] 40) = w0 at L M hB hr hr' ⊢
 have gl0 := fun d os => cell_regrown L.c0 d os
 have gl1 := fun d os => cell_regrown L.c1 d os
 have gm0 := fun d os => cell_regrown M.c0 d os
 have gm1 := fun d os => cell_regrown M.c1 d os
 by_cases h11 : xs.length = ys.length + 1
 ·
  have d2 : ((xs.length : Int) == (ys.length : Int) + 1) = true := by simp [h11]
  have Hc : Hid (traceB t a xs ys = (allIn xs (atomsN t) && allIn ys a)) := by show _ = _; simp [traceB, h11]
  have hb0 : 0 ≤ atomsN t := by omega
  have hb1 : atomsN t ≤ 100 := by omega
  have hb2 : 0 ≤ a := ha0
  have hb3 : a ≤ 100 := by omega
  clear h11
  cases h1 : allIn xs (atomsN t)
  all_goals
   refine Go.wp_region_quiet_below (by kernel_rfl) (by kernel_rfl) ?_
   repeat (first | go_big_quiet_step ((first | (go_at_call 118; exact Calls.regrown_of (atomsIn_i ht0 ht1)) | (go_at_call 144; exact Calls.regrown_of (inRange_B (hr.below (below_regrown _ _ _)) hb0 hb1)) | (go_at_call 144; exact Calls.regrown_of (inRange_B (hr'.below (below_regrown _ _ _)) hb2 hb3)))) | quiet_step (fail))
   refine wpQuiet_nil ?_; intro _ hw'; obtain ⟨⟨dq, osq⟩, hw''⟩ := hw'; subst hw''; have hq := below_regrown w0 dq osq; revert hq; generalize grow (redrawn w0 dq) osq = w1; intro hq
   replace hB := Below.on hB hq hB.size
   clear hq gl0 gl1 gm0 gm1
   go_wp2_with fail
   go_ret
   exact ⟨ret_bool (by rw [Hc.out, h1]; rfl), hB⟩
 ·
  have d2 : ((xs.length : Int) == (ys.length : Int) + 1) = false := by simp; omega
  have c2 : traceB t a xs ys = false := by simp [traceB, h11]
  clear h11
  refine Go.wp_region_quiet_below (by kernel_rfl) (by kernel_rfl) ?_
  repeat (first | go_big_quiet_step (fail) | quiet_step (fail))
  refine wpQuiet_nil ?_; intro _ hw'; obtain ⟨⟨dq, osq⟩, hw''⟩ := hw'; subst hw''; have hq := below_regrown w0 dq osq; revert hq; generalize grow (redrawn w0 dq) osq = w1; intro hq
  replace hB := Below.on hB hq hB.size
  clear hq gl0 gl1 gm0 gm1
  go_wp2_with fail
  go_ret
  exact ⟨by first | rfl | (rw [c2]; rfl), hB⟩
theorem isWord_i {t a : Int} {xs ys : List Int} {s u : Option Addr} {c d : Nat} {w : World} (hr : Rd w (intsD xs) (.slice s xs.length c)) (hr' : Rd w (intsD ys) (.slice u ys.length d)) (hs : sigB t a = true) :
  Calls Try.prog 56 #[.agg #[.int .i64 t, .int .i64 a], .agg #[.slice s xs.length c, .slice u ys.length d]] w fun e w' => e = .returned (.bool (wordB t a xs ys)) ∧ Below w.heap.size w w' := by
 obtain ⟨-, hlen, hcap, -⟩ := hr.sl_at
 obtain ⟨-, hlen', hcap', -⟩ := hr'.sl_at
 unfold maxLen at hcap hcap'
 by_cases h10 : ys.length ≤ 10
 ·
  have Hc : Hid (wordB t a xs ys = traceB t a xs ys) := by show _ = _; simp [wordB, traceB, hs, h10, Bool.and_assoc]
  have d1 : decide ((ys.length : Int) ≤ 10) = true := by simp; omega
  go_enter Try.func56, Try.ntmps56
  go_wp2_with fail
  refine (isTrace_i ((hr.alloc _).alloc _) ((hr'.alloc _).alloc _) (by omega) hs).mono ?_
  rintro x w1 ⟨rfl, hb⟩
  have hB : Below w.heap.size w w1 := Below.on (by (repeat' first | exact Below.refl _ _ | assumption | apply Below.alloc | apply Below.drew | apply Below.setCell | omega | (simp; done) | (simp; omega))) hb (by simp; omega)
  go_wp2_with fail
  go_ret
  exact ⟨ret_bool (by rw [Hc.out]), hB⟩
 ·
  have c2 : wordB t a xs ys = false := by simp [wordB, h10]
  have d1 : decide ((ys.length : Int) ≤ 10) = false := by simp; omega
  rw [c2]
  go_enter Try.func56, Try.ntmps56
  go_wp2_with fail
  go_ret
  exact ⟨rfl, by (repeat' first | exact Below.refl _ _ | assumption | apply Below.alloc | apply Below.drew | apply Below.setCell | omega | (simp; done) | (simp; omega))⟩
end Go.Proofs.Ytbflhjjnemdecaa
