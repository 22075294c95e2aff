/-
  How an automaton is read; marks of an automaton.
-/
import Derived.Test.YtlnojmmjpgpjdaaAut3
namespace Go.Proofs.Ytlnojmmjpgpjdaa
open Go.ChangeShapes Go.WideShapes Go.ChangeAt Go.RowKit Go.Sort

section
variable {H : Type} {enc : TypeId × Value → H} {P : Program} {w : World} {base : Nat} {sp : Nat → Bool} {hd : Bool}
theorem rows_nest {α : Type} {f : α → D} : ∀ rows : List (List D), (∀ r ∈ rows, ∃ y : α, r = [f y]) → ∃ ys : List α, rows.length = ys.length ∧ rows.flatten = ys.map f
  | [], _ => ⟨[], rfl, rfl⟩
  | r :: rows, h => by
    obtain ⟨y, rfl⟩ := h r (List.mem_cons_self ..)
    obtain ⟨ys, h1, h2⟩ := rows_nest rows fun r hr => h r (List.mem_cons_of_mem _ hr)
    exact ⟨y :: ys, by simp [h1], by simp [h2]⟩
theorem open_nest {α : Type} {f : α → D} {t e : TypeId} (ht : P.underlying t = some (.slice e)) (hc : P.cellsOf e = 1) {fuel : Nat}
    (hel : ∀ m, m < fuel → ∀ cs x, DataW.trod enc P w base sp hd m e cs = some x → ∃ v, ∃ y : α, cs = [v] ∧ Rd w (f y) v) {cs : List Value} {x : DataW H × List MemPlace} (h : DataW.trod enc P w base sp hd fuel t cs = some x) :
    ∃ v, ∃ ys : List α, cs = [v] ∧ Rd w (nestD f ys) v := by
  obtain ⟨v, rows, e, hrows, hr⟩ := open_sl (size := 1) (Q := fun r => ∃ y : α, r = [f y]) ht hc (by omega) (fun m hm cs x hx => by
    obtain ⟨v, y, rfl, hv⟩ := hel m hm cs x hx
    exact ⟨_, ⟨y, rfl⟩, rfl, by simp only [Rds]; exact ⟨v, [], rfl, hv, rfl⟩⟩) h
  obtain ⟨ys, h1, h2⟩ := rows_nest rows hrows
  rw [h1, h2] at hr
  exact ⟨v, ys, e, hr⟩
end
section
variable {H : Type} {enc : TypeId × Value → H} {W : World} {base : Nat} {sp : Nat → Bool} {hd : Bool} {v : Value} {d : DataW H} {ps : List MemPlace}
set_option maxRecDepth 100000 in
theorem open_bb {fuel : Nat} {cs : List Value} {x : DataW H × List MemPlace} (h : DataW.trod enc Try.prog W base sp hd fuel 24 cs = some x) : ∃ v, ∃ ys : List (List Bool), cs = [v] ∧ Rd W (bbD ys) v :=
  open_nest (f := boolsD) Try.underlying24 cells_bools (fun _ _ _ _ h1 => open_nest (f := D.bool) Try.underlying84 cells_bool (fun _ _ _ _ h2 => by
    obtain ⟨b, rfl, _⟩ := DataW.trod_bool Try.underlying4 h2
    exact ⟨_, b, rfl, by simp only [Rd]⟩) h1) h
set_option maxRecDepth 100000 in
theorem open_iii {fuel : Nat} {cs : List Value} {x : DataW H × List MemPlace} (h : DataW.trod enc Try.prog W base sp hd fuel 25 cs = some x) : ∃ v, ∃ ys : List (List (List Int)), cs = [v] ∧ Rd W (iiiD ys) v :=
  open_nest (f := iiD) Try.underlying25 cells_int64ss (fun _ _ _ _ h0 => open_nest (f := intsD) Try.underlying86 cells_int64s (fun _ _ _ _ h1 => open_ints64 Try.underlying58 Try.underlying2 cells_int64 h1) h0) h

set_option maxRecDepth 100000 in
theorem open_lawsAutomaton (h : DataW.Trod enc Try.prog W base sp hd 27 v d ps) :
    ∃ t a ac nx s c u d2, v = .agg #[.int .i64 t, .int .i64 a, .slice s ac.length c, .slice u nx.length d2] ∧ Rd W (bbD ac) (.slice s ac.length c) ∧ Rd W (iiiD nx) (.slice u nx.length d2) := by
  obtain ⟨fuel, hf⟩ := h
  obtain ⟨xs, m, e0, e1, hl, hlen, hf⟩ := DataW.trod_struct Try.underlying27 hf
  rw [cells_laws_Automaton] at hl
  generalize hcs : v.cells.toList = cs at *
  match xs, hlen, cs, hl with
  | [y0, y1, y2], _, [v0, v1, v2, v3], _ =>
    have g0 := hf 0 _ rfl
    have g1 := hf 1 _ rfl
    have g2 := hf 2 _ rfl
    simp [cells_laws_Sig', cells_boolss, cells_int64sss] at g0 g1 g2
    obtain ⟨z0, z1, n, _, hl, a0, a1⟩ := trod_struct2 Try.underlying23 g0
    simp [cells_int64] at a0 a1
    obtain ⟨t, q0, _⟩ := DataW.trod_int Try.underlying2 a0
    obtain ⟨a, q1, _⟩ := DataW.trod_int Try.underlying2 a1
    obtain ⟨u2, ac, q2, r2⟩ := open_bb g1
    obtain ⟨u3, nx, q3, r3⟩ := open_iii g2
    simp only [List.cons.injEq, and_true] at q0 q1 q2 q3
    subst q0 q1 q2 q3
    obtain ⟨s, c, rfl, _⟩ := Rd.slice r2
    obtain ⟨u, d2, rfl, _⟩ := Rd.slice r3
    exact ⟨t, a, ac, nx, s, c, u, d2, cells_four hcs, r2, r3⟩
end

theorem autD_marks (ac : List (List Bool)) (nx : List (List (List Int))) (k : Nat) : D.markL (autD ac nx) k = [D.mark (bbD ac) k, D.mark (iiiD nx) (k + (bbD ac).marks)] := by
  simp only [autD, D.markL]
theorem markAutomaton_i {t a : Int} {ac : List (List Bool)} {nx : List (List (List Int))} {s u : Option Addr} {c d k : Nat} {F : List Nat} {w : World} (h : Ows w (autD ac nx) [.slice s ac.length c, .slice u nx.length d] F) (hn : F.Nodup) (hk : k + ((bbD ac).marks + (iiiD nx).marks) ≤ 1000000000000) :
    Calls Try.prog 41 #[.agg #[.int .i64 t, .int .i64 a, .slice s ac.length c, .slice u nx.length d], .int .i64 k] w fun e w' => e = .returned (.int .i64 (k + ((bbD ac).marks + (iiiD nx).marks) : Nat)) ∧
      Ows w' (D.markL (autD ac nx) k) [.slice s ac.length c, .slice u nx.length d] F ∧ Only F w w' := by
  obtain ⟨G, K, rfl, h1, h2⟩ := h.two
  rw [List.nodup_append] at hn
  obtain ⟨nG, nK, dis⟩ := hn
  have gl := h1.lt
  have kl := h2.lt
  obtain ⟨-, b1, b2, -⟩ := Ow.cells (size := 1) h1
  obtain ⟨-, b3, b4, -⟩ := Ow.cells (size := 1) h2
  unfold maxLen at b2 b4
  go_enter Try.func41, Try.ntmps41
  go_wp2_with fail
  have L := Blk.new4 w 32 (.int .i64 t) (.int .i64 a) (.slice s ac.length c) (.slice u nx.length d)
  have h1' := h1.keep (w' := w.alloc (.cells #[.int .i64 t, .int .i64 a, .slice s ac.length c, .slice u nx.length d] 32)) fun b hb => Below.heap_alloc w _ b (gl b hb)
  have h2' := h2.keep (w' := w.alloc (.cells #[.int .i64 t, .int .i64 a, .slice s ac.length c, .slice u nx.length d] 32)) fun b hb => Below.heap_alloc w _ b (kl b hb)
  have hO : Only (G ++ K) w (w.alloc (.cells #[.int .i64 t, .int .i64 a, .slice s ac.length c, .slice u nx.length d] 32)) := (Only.refl _ _).alloc _
  generalize w.alloc (.cells #[.int .i64 t, .int .i64 a, .slice s ac.length c, .slice u nx.length d] 32) = w0 at L h1' h2' hO ⊢
  refine (markBoolSS_any ac s c k G w0 h1' nG (by omega) (by omega)).mono ?_
  rintro e w1 ⟨rfl, m1, o1⟩
  replace L := L.keep (o1.block _ L.lt (fun hm => by have := gl _ hm; omega))
  have h2'' := h2'.keep fun b hb => o1.block b (h2'.lt b hb) (fun hm => dis b hm b hb rfl)
  replace hO := hO.trans (o1.more fun b hb => List.mem_append_left K hb)
  clear o1
  have l1 := L.c3
  go_wp2_with fail
  refine (markInt64SSS_any nx u d (k + (bbD ac).marks) K _ h2'' nK (by omega) (by omega)).mono ?_
  rintro e w2 ⟨rfl, m2, o2⟩
  have m1' := m1.keep fun b hb => o2.block b (m1.lt b hb) (fun hm => dis b hb b hm rfl)
  replace hO := hO.trans (o2.more fun b hb => List.mem_append_right G hb)
  have E1 := Lib.hid (autD_marks ac nx k)
  have E2 : Hid (k + (bbD ac).marks + (iiiD nx).marks = k + ((bbD ac).marks + (iiiD nx).marks)) := by show _ = _; omega
  clear o2 l1
  rw [E2.out]
  go_wp2_with fail
  go_ret
  exact ⟨rfl, by rw [E1.out]; exact Ows.mk2 m1' m2, hO⟩

theorem heldAutomaton_i {t a : Int} {ac : List (List Bool)} {nx : List (List (List Int))} {s u : Option Addr} {c d k : Nat} {w : World} (h : Rds w (D.markL (autD ac nx) k) [.slice s ac.length c, .slice u nx.length d]) (hk : k + ((bbD ac).marks + (iiiD nx).marks) ≤ 1000000000000) :
    Calls Try.prog 42 #[.agg #[.int .i64 t, .int .i64 a, .slice s ac.length c, .slice u nx.length d], .int .i64 k] w fun e w' => e = .returned (.int .i64 (k + ((bbD ac).marks + (iiiD nx).marks) : Nat)) ∧ Below w.heap.size w w' := by
  rw [autD_marks] at h
  obtain ⟨h1, h2⟩ := h.two
  have E2 : Hid (k + (bbD ac).marks + (iiiD nx).marks = k + ((bbD ac).marks + (iiiD nx).marks)) := by show _ = _; omega
  go_enter Try.func42, Try.ntmps42
  go_wp2_with fail
  refine (heldBoolSS_any ac s c k _ (h1.alloc _) (by omega)).mono ?_
  rintro e w1 ⟨rfl, rfl⟩
  go_wp2_with fail
  refine (heldInt64SSS_any nx u d (k + (bbD ac).marks) _ (h2.alloc _) (by omega)).mono ?_
  rintro e w1 ⟨rfl, rfl⟩
  rw [E2.out]
  go_wp2_with fail
  go_ret
  exact ⟨rfl, by (repeat' (first | exact Below.refl _ _ | assumption | (refine Below.alloc ?_ (by first | omega | (simp; done) | (simp; omega)) _) | (refine Below.drew ?_) | (refine Below.setCell ?_ (by first | omega | (simp; done) | (simp; omega)) _)))⟩
end Go.Proofs.Ytlnojmmjpgpjdaa
