/-
  How an automaton is read; marks of an automaton.
-/
import Derived.Test.YtahehcalmbmbpaaDoorAut3
namespace Go.Proofs.YtahehcalmbmbpaaDoor
open Go.ChangeShapes Go.WideShapes Go.ChangeAt Go.RowKit Go.Sort

section
variable {H : Type} {enc : TypeId × Value → H} {P : Program} {w : World} {base : Nat} {sp : Nat → Bool} {hd : Bool}
theorem rows_nest {α : Type} {f : α → D} : ∀ rows : List (List D), (∀ r ∈ rows, ∃ y : α, r = [f y]) → ∃ ys : List α, rows.length = ys.length ∧ rows.flatten = ys.map f
  | [], _ => ⟨[], rfl, rfl⟩
  | r :: rows, h => by
    obtain ⟨y, rfl⟩ := h r (List.mem_cons_self ..)
    obtain ⟨ys, h1, h2⟩ := rows_nest rows fun r hr => h r (List.mem_cons_of_mem _ hr)
    exact ⟨y :: ys, by simp [h1], by simp [h2]⟩
theorem open_nest {α : Type} {f : α → D} {t e : TypeId} (ht : P.underlying t = some (.slice e)) (hc : P.cellsOf e = 1) {fuel : Nat}
    (hel : ∀ m, m < fuel → ∀ cs x, DataW.trod enc P w base sp hd m e cs = some x → ∃ v, ∃ y : α, cs = [v] ∧ Rd w (f y) v) {cs : List Value} {x : DataW H × List MemPlace} (h : DataW.trod enc P w base sp hd fuel t cs = some x) :
    ∃ v, ∃ ys : List α, cs = [v] ∧ Rd w (nestD f ys) v := by
  obtain ⟨v, rows, e, hrows, hr⟩ := open_sl (size := 1) (Q := fun r => ∃ y : α, r = [f y]) ht hc (by omega) (fun m hm cs x hx => by
    obtain ⟨v, y, rfl, hv⟩ := hel m hm cs x hx
    exact ⟨_, ⟨y, rfl⟩, rfl, by simp only [Rds]; exact ⟨v, [], rfl, hv, rfl⟩⟩) h
  obtain ⟨ys, h1, h2⟩ := rows_nest rows hrows
  rw [h1, h2] at hr
  exact ⟨v, ys, e, hr⟩
end
section
variable {H : Type} {enc : TypeId × Value → H} {W : World} {base : Nat} {sp : Nat → Bool} {hd : Bool} {v : Value} {d : DataW H} {ps : List MemPlace}
set_option maxRecDepth 100000 in
theorem open_bb {fuel : Nat} {cs : List Value} {x : DataW H × List MemPlace} (h : DataW.trod enc Tryd.prog W base sp hd fuel 46 cs = some x) : ∃ v, ∃ ys : List (List Bool), cs = [v] ∧ Rd W (bbD ys) v :=
  open_nest (f := boolsD) Tryd.underlying46 cells_bools (fun _ _ _ _ h1 => open_nest (f := D.bool) Tryd.underlying84 cells_bool (fun _ _ _ _ h2 => by
    obtain ⟨b, rfl, _⟩ := DataW.trod_bool Tryd.underlying4 h2
    exact ⟨_, b, rfl, by simp only [Rd]⟩) h1) h
set_option maxRecDepth 100000 in
theorem open_iii {fuel : Nat} {cs : List Value} {x : DataW H × List MemPlace} (h : DataW.trod enc Tryd.prog W base sp hd fuel 47 cs = some x) : ∃ v, ∃ ys : List (List (List Int)), cs = [v] ∧ Rd W (iiiD ys) v :=
  open_nest (f := iiD) Tryd.underlying47 cells_int64ss (fun _ _ _ _ h0 => open_nest (f := intsD) Tryd.underlying85 cells_int64s (fun _ _ _ _ h1 => open_ints64 Tryd.underlying24 Tryd.underlying2 cells_int64 h1) h0) h

set_option maxRecDepth 100000 in
theorem open_lawsAutomaton (h : DataW.Trod enc Tryd.prog W base sp hd 49 v d ps) :
    ∃ t a ac nx s c u d2, v = .agg #[.int .i64 t, .int .i64 a, .slice s ac.length c, .slice u nx.length d2] ∧ Rd W (bbD ac) (.slice s ac.length c) ∧ Rd W (iiiD nx) (.slice u nx.length d2) := by
  obtain ⟨fuel, hf⟩ := h
  obtain ⟨xs, m, e0, e1, hl, hlen, hf⟩ := DataW.trod_struct Tryd.underlying49 hf
  rw [cells_laws_Automaton] at hl
  generalize hcs : v.cells.toList = cs at *
  match xs, hlen, cs, hl with
  | [y0, y1, y2], _, [v0, v1, v2, v3], _ =>
    have g0 := hf 0 _ rfl
    have g1 := hf 1 _ rfl
    have g2 := hf 2 _ rfl
    simp [cells_laws_Sig', cells_boolss, cells_int64sss] at g0 g1 g2
    obtain ⟨z0, z1, n, _, hl, a0, a1⟩ := trod_struct2 Tryd.underlying23 g0
    simp [cells_int64] at a0 a1
    obtain ⟨t, q0, _⟩ := DataW.trod_int Tryd.underlying2 a0
    obtain ⟨a, q1, _⟩ := DataW.trod_int Tryd.underlying2 a1
    obtain ⟨u2, ac, q2, r2⟩ := open_bb g1
    obtain ⟨u3, nx, q3, r3⟩ := open_iii g2
    simp only [List.cons.injEq, and_true] at q0 q1 q2 q3
    subst q0 q1 q2 q3
    obtain ⟨s, c, rfl, _⟩ := Rd.slice r2
    obtain ⟨u, d2, rfl, _⟩ := Rd.slice r3
    exact ⟨t, a, ac, nx, s, c, u, d2, cells_four hcs, r2, r3⟩
end

theorem autD_marks (ac : List (List Bool)) (nx : List (List (List Int))) (k : Nat) : D.markL (autD ac nx) k = [D.mark (bbD ac) k, D.mark (iiiD nx) (k + (bbD ac).marks)] := by
  simp only [autD, D.markL]
end Go.Proofs.YtahehcalmbmbpaaDoor
