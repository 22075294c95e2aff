/-
  Parts of a proof, joined: Aut3, Aut4, Valid, Cnt, LiveP. No condition.
-/
import Derived.Test.YtfhlddbngjlhbaaDoorPk5
import Derived.Test.YtfhlddbngjlhbaaDoorPk6
namespace Go.Proofs.YtfhlddbngjlhbaaDoor
set_option linter.unusedVariables false
set_option linter.unusedSimpArgs false
open Go.ChangeShapes Go.WideShapes Go.ChangeAt Go.RowKit Go.Sort
theorem cells_laws_Automaton : Tryd.prog.cellsOf 27 = 4 := by kernel_rfl
theorem cells_laws_Sig' : Tryd.prog.cellsOf 23 = 2 := by kernel_rfl
theorem cells_bool : Tryd.prog.cellsOf 4 = 1 := by kernel_rfl
theorem cells_bools : Tryd.prog.cellsOf 52 = 1 := by kernel_rfl
theorem cells_boolss : Tryd.prog.cellsOf 24 = 1 := by kernel_rfl
theorem cells_int64ss : Tryd.prog.cellsOf 54 = 1 := by kernel_rfl
theorem cells_int64sss : Tryd.prog.cellsOf 25 = 1 := by kernel_rfl
def cntA (ac : List (List Bool)) (nx : List (List (List Int))) : Nat := (ac.length + accL List.length ac) + (nx.length + accL cntII nx)
def autD (ac : List (List Bool)) (nx : List (List (List Int))) : List D := [bbD ac, iiiD nx]
theorem szAutomaton_i {t a : Int} {ac : List (List Bool)} {nx : List (List (List Int))} {s u : Option Addr} {c d : Nat} {left : Int} {w : World} (hr : Rd w (bbD ac) (.slice s ac.length c)) (hr' : Rd w (iiiD nx) (.slice u nx.length d)) (h0 : 0 ≤ left) (h1 : left ≤ 1048576) :
  Calls Tryd.prog 4 #[.agg #[.int .i64 t, .int .i64 a, .slice s ac.length c, .slice u nx.length d], .int .i64 left] w fun e w' => SzR (cntA ac nx) left e ∧ Below w.heap.size w w' := by
 have Hc : Hid (cntA ac nx = (ac.length + accL List.length ac) + (nx.length + accL cntII nx)) := rfl
 go_enter Tryd.func4, Tryd.ntmps4
 go_wp2_with fail
 refine (szBoolSS_any _ _ _ _ _ (hr.alloc _) h0 h1).mono ?_
 rintro e w1 ⟨⟨r, rfl, r1, r2, r3⟩, rfl⟩
 by_cases hneg : r < 0
 ·
  go_wp2_with fail
  go_ret
  exact ⟨⟨-1, rfl, by omega, by omega, by omega⟩, by (repeat' first | exact Below.refl _ _ | assumption | apply Below.alloc | apply Below.drew | apply Below.setCell | omega | (simp; done) | (simp; omega))⟩
 ·
  have hd : decide (r < 0) = false := by simpa using hneg
  have r4 := r3 (by omega)
  clear r3
  go_wp2_with fail
  refine (szInt64SSS_any _ _ _ _ _ (hr'.alloc _) (by omega) (by omega)).mono ?_
  rintro e w1 ⟨⟨q, rfl, q1, q2, q3⟩, rfl⟩
  by_cases hneg' : q < 0
  ·
   go_wp2_with fail
   go_ret
   exact ⟨⟨-1, rfl, by omega, by omega, by omega⟩, by (repeat' first | exact Below.refl _ _ | assumption | apply Below.alloc | apply Below.drew | apply Below.setCell | omega | (simp; done) | (simp; omega))⟩
  ·
   have hd' : decide (q < 0) = false := by simpa using hneg'
   have q4 := q3 (by omega)
   clear q3
   go_wp2_with fail
   go_ret
   have := Hc.out
   exact ⟨⟨q, rfl, by omega, by omega, by omega⟩, by (repeat' first | exact Below.refl _ _ | assumption | apply Below.alloc | apply Below.drew | apply Below.setCell | omega | (simp; done) | (simp; omega))⟩
set_option maxHeartbeats 4000000 in
theorem toAutomaton_i {t a : Int} {ac : List (List Bool)} {nx : List (List (List Int))} {s u : Option Addr} {c d : Nat} {w : World} (hr : Rd w (bbD ac) (.slice s ac.length c)) (hr' : Rd w (iiiD nx) (.slice u nx.length d)) (h1 : cntA ac nx ≤ 1048576) :
  Calls Tryd.prog 6 #[.agg #[.int .i64 t, .int .i64 a, .slice s ac.length c, .slice u nx.length d]] w fun e w' => ∃ s' c' u' d', e = .returned (.agg #[.int .i64 t, .int .i64 a, .slice s' ac.length c', .slice u' nx.length d']) ∧
   Freshs w w' (autD ac nx) [.slice s' ac.length c', .slice u' nx.length d'] ∧ Below w.heap.size w w' := by
 have hc1 : ac.length + accL List.length ac ≤ 1048576 := by unfold cntA at h1; omega
 have hc2 : nx.length + accL cntII nx ≤ 1048576 := by unfold cntA at h1; omega
 clear h1
 go_enter Tryd.func6, Tryd.ntmps6
 go_wp2_with fail
 have L := ((Blk.new4 w 27 (.int .i64 t) (.int .i64 a) (.slice s ac.length c) (.slice u nx.length d)).alloc (.cells #[.int .i64 0, .int .i64 0, .slice none 0 0, .slice none 0 0] 31)).alloc (.cells #[.int .i64 0, .int .i64 0, .slice none 0 0, .slice none 0 0] 31)
 have M := (Blk.new4 (w.alloc (.cells #[.int .i64 t, .int .i64 a, .slice s ac.length c, .slice u nx.length d] 27)) 31 (.int .i64 0) (.int .i64 0) (.slice none 0 0) (.slice none 0 0)).alloc (.cells #[.int .i64 0, .int .i64 0, .slice none 0 0, .slice none 0 0] 31)
 have N := Blk.new4 ((w.alloc (.cells #[.int .i64 t, .int .i64 a, .slice s ac.length c, .slice u nx.length d] 27)).alloc (.cells #[.int .i64 0, .int .i64 0, .slice none 0 0, .slice none 0 0] 31)) 31 (.int .i64 0) (.int .i64 0) (.slice none 0 0) (.slice none 0 0)
 simp at M N
 have hB : Below w.heap.size w (((w.alloc (.cells #[.int .i64 t, .int .i64 a, .slice s ac.length c, .slice u nx.length d] 27)).alloc (.cells #[.int .i64 0, .int .i64 0, .slice none 0 0, .slice none 0 0] 31)).alloc (.cells #[.int .i64 0, .int .i64 0, .slice none 0 0, .slice none 0 0] 31)) := by (repeat' first | exact Below.refl _ _ | assumption | apply Below.alloc | apply Below.drew | apply Below.setCell | omega | (simp; done) | (simp; omega))
 generalize (((w.alloc (.cells #[.int .i64 t, .int .i64 a, .slice s ac.length c, .slice u nx.length d] 27)).alloc (.cells #[.int .i64 0, .int .i64 0, .slice none 0 0, .slice none 0 0] 31)).alloc (.cells #[.int .i64 0, .int .i64 0, .slice none 0 0, .slice none 0 0] 31)) = v0 at L M N hB ⊢
 refine (toSig_any t a _).mono ?_
 rintro e v1 ⟨rfl, hb⟩
 replace hB := Below.on hB hb hB.size
 replace L := L.below hb
 replace M := M.below hb
 replace N := N.below hb
 clear hb
 have l2 := L.c2
 have n0 := N.c0
 have n1 := N.c1
 have z0 := N.frozen 0
 have z1 := N.frozen 1
 have nl := N.lt
 have ll := L.lt
 go_wp2_with fail
 clear l2 n0 n1 z0 z1
 replace L := (L.other (p := ⟨w.heap.size + 1 + 1, 0, none⟩) (by simp <;> omega) (.int .i64 t)).other (p := ⟨w.heap.size + 1 + 1, 1, none⟩) (by simp <;> omega) (.int .i64 a)
 replace M := (M.other (p := ⟨w.heap.size + 1 + 1, 0, none⟩) (by simp <;> omega) (.int .i64 t)).other (p := ⟨w.heap.size + 1 + 1, 1, none⟩) (by simp <;> omega) (.int .i64 a)
 replace N := (N.set 0 (.int .i64 t)).set 1 (.int .i64 a)
 simp at N
 replace hB : Below w.heap.size w ((v1.setCell ⟨w.heap.size + 1 + 1, 0, none⟩ (.int .i64 t)).setCell ⟨w.heap.size + 1 + 1, 1, none⟩ (.int .i64 a)) := by (repeat' first | exact Below.refl _ _ | assumption | apply Below.alloc | apply Below.drew | apply Below.setCell | omega | (simp; done) | (simp; omega))
 clear nl ll
 generalize ((v1.setCell ⟨w.heap.size + 1 + 1, 0, none⟩ (.int .i64 t)).setCell ⟨w.heap.size + 1 + 1, 1, none⟩ (.int .i64 a)) = v2 at L M N hB ⊢
 have nl2 := N.lt
 have sz2 := hB.size
 refine (toBoolSS_any ac s c _ (hr.below hB) hc1).mono ?_
 rintro e v3 ⟨s1, c1, rfl, hf1, hb⟩
 replace hB := Below.on hB hb hB.size
 replace L := L.below hb
 replace M := M.below hb
 replace N := N.below hb
 have sz3 := hb.size
 clear hb
 have l3 := L.c3
 have n2 := N.c2
 have z2 := N.frozen 2
 have nl := N.lt
 have ll := L.lt
 go_wp2_with fail
 clear l3 n2 z2
 replace hf1 : Fresh v2 (v3.setCell ⟨w.heap.size + 1 + 1, 2, none⟩ (.slice s1 ac.length c1)) (bbD ac) (.slice s1 ac.length c1) := hf1.keep fun b h1 _ => Below.heap_setCell _ _ _ _ (by show b ≠ w.heap.size + 1 + 1; omega)
 replace L := L.other (p := ⟨w.heap.size + 1 + 1, 2, none⟩) (by simp <;> omega) (.slice s1 ac.length c1)
 replace M := M.other (p := ⟨w.heap.size + 1 + 1, 2, none⟩) (by simp <;> omega) (.slice s1 ac.length c1)
 replace N := N.set 2 (.slice s1 ac.length c1)
 simp at N
 replace hB : Below w.heap.size w (v3.setCell ⟨w.heap.size + 1 + 1, 2, none⟩ (.slice s1 ac.length c1)) := by (repeat' first | exact Below.refl _ _ | assumption | apply Below.alloc | apply Below.drew | apply Below.setCell | omega | (simp; done) | (simp; omega))
 replace sz3 : v2.heap.size ≤ (v3.setCell ⟨w.heap.size + 1 + 1, 2, none⟩ (.slice s1 ac.length c1)).heap.size := by simpa [World.setCell] using sz3
 clear nl ll
 generalize (v3.setCell ⟨w.heap.size + 1 + 1, 2, none⟩ (.slice s1 ac.length c1)) = v4 at L M N hB hf1 sz3 ⊢
 have nl4 := N.lt
 refine (toInt64SSS_any nx u d _ (hr'.below hB) hc2).mono ?_
 rintro e v5 ⟨s2, c2, rfl, hf2, hb⟩
 replace hf2 := Freshs.cons hf1 (Freshs.one hf2) hb sz3
 replace hB := Below.on hB hb hB.size
 replace M := M.below hb
 replace N := N.below hb
 clear hb hf1 L
 have n0 := N.c0
 have n1 := N.c1
 have n2 := N.c2
 have n3 := N.c3
 have m0 := M.c0
 have m1 := M.c1
 have m2 := M.c2
 have m3 := M.c3
 have z3 := N.frozen 3
 have y0 := M.frozen 0
 have y1 := M.frozen 1
 have y2 := M.frozen 2
 have y3 := M.frozen 3
 have nl := N.lt
 have ml := M.lt
 go_wp2_with fail
 have M' := ((((M.other (p := ⟨w.heap.size + 1 + 1, 3, none⟩) (by simp <;> omega) (.slice s2 nx.length c2)).set 0 (.int .i64 t)).set 1 (.int .i64 a)).set 2 (.slice s1 ac.length c1)).set 3 (.slice s2 nx.length c2)
 have d0 := M'.c0
 have d1 := M'.c1
 have d2 := M'.c2
 have d3 := M'.c3
 refine bodyPost_ret (v := .agg #[.int .i64 t, .int .i64 a, .slice s1 ac.length c1, .slice s2 nx.length c2]) (by simp [results, Tryd.results6, go_sem, d0, d1, d2, d3]) rfl ⟨s1, c1, s2, c2, rfl, ?_, by (repeat' first | exact Below.refl _ _ | assumption | apply Below.alloc | apply Below.drew | apply Below.setCell | omega | (simp; done) | (simp; omega))⟩
 refine Freshs.from (hf2.keep fun b h1 _ => ?_) sz2
 rw [Below.heap_setCell _ _ _ _ (by show b ≠ w.heap.size + 1; omega), Below.heap_setCell _ _ _ _ (by show b ≠ w.heap.size + 1; omega), Below.heap_setCell _ _ _ _ (by show b ≠ w.heap.size + 1; omega), Below.heap_setCell _ _ _ _ (by show b ≠ w.heap.size + 1; omega), Below.heap_setCell _ _ _ _ (by show b ≠ w.heap.size + 1 + 1; omega)]
theorem eqSig_i {t a t' a' : Int} {w : World} : Calls Tryd.prog 20 #[.agg #[.int .i64 t, .int .i64 a], .agg #[.int .i64 t', .int .i64 a']] w fun e w' => e = .returned (.bool (t == t' && a == a')) ∧ Below w.heap.size w w' := by
 by_cases h1 : t = t'
 ·
  have b1 : (t != t') = false := by simp [h1]
  by_cases h2 : a = a'
  ·
   have b2 : (a != a') = false := by simp [h2]
   have e1 : (t == t' && a == a') = true := by simp [h1, h2]
   rw [e1]
   clear h1 h2 e1
   go_enter Tryd.func20, Tryd.ntmps20
   go_wp2_with fail
   go_ret
   exact ⟨rfl, by (repeat' first | exact Below.refl _ _ | assumption | apply Below.alloc | apply Below.drew | apply Below.setCell | omega | (simp; done) | (simp; omega))⟩
  ·
   have b2 : (a != a') = true := by simp [h2]
   have e1 : (t == t' && a == a') = false := by simp [h2]
   rw [e1]
   clear h1 h2 e1
   go_enter Tryd.func20, Tryd.ntmps20
   go_wp2_with fail
   go_ret
   exact ⟨rfl, by (repeat' first | exact Below.refl _ _ | assumption | apply Below.alloc | apply Below.drew | apply Below.setCell | omega | (simp; done) | (simp; omega))⟩
 ·
  have b1 : (t != t') = true := by simp [h1]
  have e1 : (t == t' && a == a') = false := by simp [h1]
  rw [e1]
  clear h1 e1
  go_enter Tryd.func20, Tryd.ntmps20
  go_wp2_with fail
  go_ret
  exact ⟨rfl, by (repeat' first | exact Below.refl _ _ | assumption | apply Below.alloc | apply Below.drew | apply Below.setCell | omega | (simp; done) | (simp; omega))⟩
theorem eqAutomaton_i {t a t' a' : Int} {ac ac' : List (List Bool)} {nx nx' : List (List (List Int))} {s u s' u' : Option Addr} {c d c' d' : Nat} {w : World} (hr : Rd w (bbD ac) (.slice s ac.length c)) (hq : Rd w (iiiD nx) (.slice u nx.length d))
  (hr' : Rd w (bbD ac') (.slice s' ac'.length c')) (hq' : Rd w (iiiD nx') (.slice u' nx'.length d')) :
  Calls Tryd.prog 8 #[.agg #[.int .i64 t, .int .i64 a, .slice s ac.length c, .slice u nx.length d], .agg #[.int .i64 t', .int .i64 a', .slice s' ac'.length c', .slice u' nx'.length d']] w
   fun e w' => e = .returned (.bool ((t == t' && a == a') && (eqb ac ac' && eqb nx nx'))) ∧ Below w.heap.size w w' := by
 go_enter Tryd.func8, Tryd.ntmps8
 go_wp2_with fail
 have L := (Blk.new4 w 31 (.int .i64 t) (.int .i64 a) (.slice s ac.length c) (.slice u nx.length d)).alloc (.cells #[.int .i64 t', .int .i64 a', .slice s' ac'.length c', .slice u' nx'.length d'] 31)
 have M := Blk.new4 (w.alloc (.cells #[.int .i64 t, .int .i64 a, .slice s ac.length c, .slice u nx.length d] 31)) 31 (.int .i64 t') (.int .i64 a') (.slice s' ac'.length c') (.slice u' nx'.length d')
 simp at M
 have hB : Below w.heap.size w ((w.alloc (.cells #[.int .i64 t, .int .i64 a, .slice s ac.length c, .slice u nx.length d] 31)).alloc (.cells #[.int .i64 t', .int .i64 a', .slice s' ac'.length c', .slice u' nx'.length d'] 31)) := by (repeat' first | exact Below.refl _ _ | assumption | apply Below.alloc | apply Below.drew | apply Below.setCell | omega | (simp; done) | (simp; omega))
 have hB0 := hB
 generalize ((w.alloc (.cells #[.int .i64 t, .int .i64 a, .slice s ac.length c, .slice u nx.length d] 31)).alloc (.cells #[.int .i64 t', .int .i64 a', .slice s' ac'.length c', .slice u' nx'.length d'] 31)) = v0 at L M hB hB0 ⊢
 have l0 := L.c0
 have l1 := L.c1
 have l2 := L.c2
 have l3 := L.c3
 have m0 := M.c0
 have m1 := M.c1
 have m2 := M.c2
 have m3 := M.c3
 have ltL := L.lt
 have ltM := M.lt
 go_wp2_with fail
 refine (eqSig_i).mono ?_
 rintro x w1 ⟨rfl, hb⟩
 clear l0 l1 l2 l3 m0 m1 m2 m3 ltL ltM
 replace hB := Below.on hB hb hB.size
 replace L := L.below hb
 replace M := M.below hb
 clear hb
 have szW1 := hB.size
 cases hs1 : (t == t' && a == a')
 ·
  have l0 := L.c0
  have l1 := L.c1
  have l2 := L.c2
  have l3 := L.c3
  have ltL := L.lt
  have m0 := M.c0
  have m1 := M.c1
  have m2 := M.c2
  have m3 := M.c3
  have ltM := M.lt
  go_wp2_with fail
  go_ret
  exact ⟨ret_bool (by rw [hs1]; rfl), hB⟩
 have Hs1 := Lib.hid hs1
 clear hs1
 have l0 := L.c0
 have l1 := L.c1
 have l2 := L.c2
 have l3 := L.c3
 have m0 := M.c0
 have m1 := M.c1
 have m2 := M.c2
 have m3 := M.c3
 have ltL := L.lt
 have ltM := M.lt
 go_wp2_with fail
 refine (eqBoolSS_any ac ac' _ _ _ _ _ (hr.below hB) (hr'.below hB)).mono ?_
 rintro x w2 ⟨rfl, hb⟩
 clear l0 l1 l2 l3 m0 m1 m2 m3 ltL ltM
 replace hB := Below.on hB hb hB.size
 replace L := L.below hb
 replace M := M.below hb
 clear hb
 have szW2 := hB.size
 cases hs2 : eqb ac ac'
 ·
  have l0 := L.c0
  have l1 := L.c1
  have l2 := L.c2
  have l3 := L.c3
  have ltL := L.lt
  have m0 := M.c0
  have m1 := M.c1
  have m2 := M.c2
  have m3 := M.c3
  have ltM := M.lt
  go_wp2_with fail
  go_ret
  exact ⟨ret_bool (by rw [Hs1.out, hs2]; rfl), hB⟩
 have Hs2 := Lib.hid hs2
 clear hs2
 have l0 := L.c0
 have l1 := L.c1
 have l2 := L.c2
 have l3 := L.c3
 have m0 := M.c0
 have m1 := M.c1
 have m2 := M.c2
 have m3 := M.c3
 have ltL := L.lt
 have ltM := M.lt
 go_wp2_with fail
 refine (eqInt64SSS_any nx nx' _ _ _ _ _ (hq.below hB) (hq'.below hB)).mono ?_
 rintro x w3 ⟨rfl, hb⟩
 clear l0 l1 l2 l3 m0 m1 m2 m3 ltL ltM
 replace hB := Below.on hB hb hB.size
 replace L := L.below hb
 replace M := M.below hb
 clear hb
 have szW3 := hB.size
 cases hs3 : eqb nx nx'
 ·
  have l0 := L.c0
  have l1 := L.c1
  have l2 := L.c2
  have l3 := L.c3
  have ltL := L.lt
  have m0 := M.c0
  have m1 := M.c1
  have m2 := M.c2
  have m3 := M.c3
  have ltM := M.lt
  go_wp2_with fail
  go_ret
  exact ⟨ret_bool (by rw [Hs1.out, Hs2.out, hs3]; rfl), hB⟩
 have Hs3 := Lib.hid hs3
 clear hs3
 have l0 := L.c0
 have l1 := L.c1
 have l2 := L.c2
 have l3 := L.c3
 have m0 := M.c0
 have m1 := M.c1
 have m2 := M.c2
 have m3 := M.c3
 have ltL := L.lt
 have ltM := M.lt
 go_wp2_with fail
 go_ret
 exact ⟨ret_bool (by rw [Hs1.out, Hs2.out, Hs3.out]; rfl), hB⟩
end Go.Proofs.YtfhlddbngjlhbaaDoor

namespace Go.Proofs.YtfhlddbngjlhbaaDoor
set_option linter.unusedVariables false
set_option linter.unusedSimpArgs false
open Go.ChangeShapes Go.WideShapes Go.ChangeAt Go.RowKit Go.Sort
section
variable {H : Type} {enc : TypeId × Value → H} {P : Program} {w : World} {base : Nat} {sp : Nat → Bool} {hd : Bool}
theorem rows_nest {α : Type} {f : α → D} : ∀ rows : List (List D), (∀ r ∈ rows, ∃ y : α, r = [f y]) → ∃ ys : List α, rows.length = ys.length ∧ rows.flatten = ys.map f
 | [], _ => ⟨[], rfl, rfl⟩
 | r :: rows, h => by
  obtain ⟨y, rfl⟩ := h r (List.mem_cons_self ..)
  obtain ⟨ys, h1, h2⟩ := rows_nest rows fun r hr => h r (List.mem_cons_of_mem _ hr)
  exact ⟨y :: ys, by simp [h1], by simp [h2]⟩
theorem open_nest {α : Type} {f : α → D} {t e : TypeId} (ht : P.underlying t = some (.slice e)) (hc : P.cellsOf e = 1) {fuel : Nat}
  (hel : ∀ m, m < fuel → ∀ cs x, DataW.trod enc P w base sp hd m e cs = some x → ∃ v, ∃ y : α, cs = [v] ∧ Rd w (f y) v) {cs : List Value} {x : DataW H × List MemPlace} (h : DataW.trod enc P w base sp hd fuel t cs = some x) :
  ∃ v, ∃ ys : List α, cs = [v] ∧ Rd w (nestD f ys) v := by
 obtain ⟨v, rows, e, hrows, hr⟩ := open_sl (size := 1) (Q := fun r => ∃ y : α, r = [f y]) ht hc (by omega) (fun m hm cs x hx => by
  obtain ⟨v, y, rfl, hv⟩ := hel m hm cs x hx
  exact ⟨_, ⟨y, rfl⟩, rfl, by simp only [Rds]; exact ⟨v, [], rfl, hv, rfl⟩⟩) h
 obtain ⟨ys, h1, h2⟩ := rows_nest rows hrows
 rw [h1, h2] at hr
 exact ⟨v, ys, e, hr⟩
end
section
variable {H : Type} {enc : TypeId × Value → H} {W : World} {base : Nat} {sp : Nat → Bool} {hd : Bool} {v : Value} {d : DataW H} {ps : List MemPlace}
set_option maxRecDepth 100000 in
theorem open_bb {fuel : Nat} {cs : List Value} {x : DataW H × List MemPlace} (h : DataW.trod enc Tryd.prog W base sp hd fuel 24 cs = some x) : ∃ v, ∃ ys : List (List Bool), cs = [v] ∧ Rd W (bbD ys) v :=
 open_nest (f := boolsD) Tryd.underlying24 cells_bools (fun _ _ _ _ h1 => open_nest (f := D.bool) Tryd.underlying52 cells_bool (fun _ _ _ _ h2 => by
  obtain ⟨b, rfl, _⟩ := DataW.trod_bool Tryd.underlying4 h2
  exact ⟨_, b, rfl, by simp only [Rd]⟩) h1) h
set_option maxRecDepth 100000 in
theorem open_iii {fuel : Nat} {cs : List Value} {x : DataW H × List MemPlace} (h : DataW.trod enc Tryd.prog W base sp hd fuel 25 cs = some x) : ∃ v, ∃ ys : List (List (List Int)), cs = [v] ∧ Rd W (iiiD ys) v :=
 open_nest (f := iiD) Tryd.underlying25 cells_int64ss (fun _ _ _ _ h0 => open_nest (f := intsD) Tryd.underlying54 cells_int64s (fun _ _ _ _ h1 => open_ints64 Tryd.underlying58 Tryd.underlying2 cells_int64 h1) h0) h
set_option maxRecDepth 100000 in
theorem open_lawsAutomaton (h : DataW.Trod enc Tryd.prog W base sp hd 27 v d ps) :
  ∃ t a ac nx s c u d2, v = .agg #[.int .i64 t, .int .i64 a, .slice s ac.length c, .slice u nx.length d2] ∧ Rd W (bbD ac) (.slice s ac.length c) ∧ Rd W (iiiD nx) (.slice u nx.length d2) := by
 obtain ⟨fuel, hf⟩ := h
 obtain ⟨xs, m, e0, e1, hl, hlen, hf⟩ := DataW.trod_struct Tryd.underlying27 hf
 rw [cells_laws_Automaton] at hl
 generalize hcs : v.cells.toList = cs at *
 match xs, hlen, cs, hl with
 | [y0, y1, y2], _, [v0, v1, v2, v3], _ =>
  have g0 := hf 0 _ rfl
  have g1 := hf 1 _ rfl
  have g2 := hf 2 _ rfl
  simp [cells_laws_Sig', cells_boolss, cells_int64sss] at g0 g1 g2
  obtain ⟨z0, z1, n, _, hl, a0, a1⟩ := trod_struct2 Tryd.underlying23 g0
  simp [cells_int64] at a0 a1
  obtain ⟨t, q0, _⟩ := DataW.trod_int Tryd.underlying2 a0
  obtain ⟨a, q1, _⟩ := DataW.trod_int Tryd.underlying2 a1
  obtain ⟨u2, ac, q2, r2⟩ := open_bb g1
  obtain ⟨u3, nx, q3, r3⟩ := open_iii g2
  simp only [List.cons.injEq, and_true] at q0 q1 q2 q3
  subst q0 q1 q2 q3
  obtain ⟨s, c, rfl, _⟩ := Rd.slice r2
  obtain ⟨u, d2, rfl, _⟩ := Rd.slice r3
  exact ⟨t, a, ac, nx, s, c, u, d2, cells_four hcs, r2, r3⟩
end
theorem autD_marks (ac : List (List Bool)) (nx : List (List (List Int))) (k : Nat) : D.markL (autD ac nx) k = [D.mark (bbD ac) k, D.mark (iiiD nx) (k + (bbD ac).marks)] := by
 simp only [autD, D.markL]
theorem markAutomaton_i {t a : Int} {ac : List (List Bool)} {nx : List (List (List Int))} {s u : Option Addr} {c d k : Nat} {F : List Nat} {w : World} (h : Ows w (autD ac nx) [.slice s ac.length c, .slice u nx.length d] F) (hn : F.Nodup) (hk : k + ((bbD ac).marks + (iiiD nx).marks) ≤ 1000000000000) :
  Calls Tryd.prog 9 #[.agg #[.int .i64 t, .int .i64 a, .slice s ac.length c, .slice u nx.length d], .int .i64 k] w fun e w' => e = .returned (.int .i64 (k + ((bbD ac).marks + (iiiD nx).marks) : Nat)) ∧
   Ows w' (D.markL (autD ac nx) k) [.slice s ac.length c, .slice u nx.length d] F ∧ Only F w w' := by
 obtain ⟨G, K, rfl, h1, h2⟩ := h.two
 rw [List.nodup_append] at hn
 obtain ⟨nG, nK, dis⟩ := hn
 have gl := h1.lt
 have kl := h2.lt
 obtain ⟨-, b1, b2, -⟩ := Ow.cells (size := 1) h1
 obtain ⟨-, b3, b4, -⟩ := Ow.cells (size := 1) h2
 unfold maxLen at b2 b4
 go_enter Tryd.func9, Tryd.ntmps9
 go_wp2_with fail
 have L := Blk.new4 w 31 (.int .i64 t) (.int .i64 a) (.slice s ac.length c) (.slice u nx.length d)
 have h1' := h1.keep (w' := w.alloc (.cells #[.int .i64 t, .int .i64 a, .slice s ac.length c, .slice u nx.length d] 31)) fun b hb => Below.heap_alloc w _ b (gl b hb)
 have h2' := h2.keep (w' := w.alloc (.cells #[.int .i64 t, .int .i64 a, .slice s ac.length c, .slice u nx.length d] 31)) fun b hb => Below.heap_alloc w _ b (kl b hb)
 have hO : Only (G ++ K) w (w.alloc (.cells #[.int .i64 t, .int .i64 a, .slice s ac.length c, .slice u nx.length d] 31)) := (Only.refl _ _).alloc _
 generalize w.alloc (.cells #[.int .i64 t, .int .i64 a, .slice s ac.length c, .slice u nx.length d] 31) = w0 at L h1' h2' hO ⊢
 refine (markBoolSS_any ac s c k G w0 h1' nG (by omega) (by omega)).mono ?_
 rintro e w1 ⟨rfl, m1, o1⟩
 replace L := L.keep (o1.block _ L.lt (fun hm => by have := gl _ hm; omega))
 have h2'' := h2'.keep fun b hb => o1.block b (h2'.lt b hb) (fun hm => dis b hm b hb rfl)
 replace hO := hO.trans (o1.more fun b hb => List.mem_append_left K hb)
 clear o1
 have l1 := L.c3
 go_wp2_with fail
 refine (markInt64SSS_any nx u d (k + (bbD ac).marks) K _ h2'' nK (by omega) (by omega)).mono ?_
 rintro e w2 ⟨rfl, m2, o2⟩
 have m1' := m1.keep fun b hb => o2.block b (m1.lt b hb) (fun hm => dis b hb b hm rfl)
 replace hO := hO.trans (o2.more fun b hb => List.mem_append_right G hb)
 have E1 := Lib.hid (autD_marks ac nx k)
 have E2 : Hid (k + (bbD ac).marks + (iiiD nx).marks = k + ((bbD ac).marks + (iiiD nx).marks)) := by show _ = _; omega
 clear o2 l1
 rw [E2.out]
 go_wp2_with fail
 go_ret
 exact ⟨rfl, by rw [E1.out]; exact Ows.mk2 m1' m2, hO⟩
theorem heldAutomaton_i {t a : Int} {ac : List (List Bool)} {nx : List (List (List Int))} {s u : Option Addr} {c d k : Nat} {w : World} (h : Rds w (D.markL (autD ac nx) k) [.slice s ac.length c, .slice u nx.length d]) (hk : k + ((bbD ac).marks + (iiiD nx).marks) ≤ 1000000000000) :
  Calls Tryd.prog 10 #[.agg #[.int .i64 t, .int .i64 a, .slice s ac.length c, .slice u nx.length d], .int .i64 k] w fun e w' => e = .returned (.int .i64 (k + ((bbD ac).marks + (iiiD nx).marks) : Nat)) ∧ Below w.heap.size w w' := by
 rw [autD_marks] at h
 obtain ⟨h1, h2⟩ := h.two
 have E2 : Hid (k + (bbD ac).marks + (iiiD nx).marks = k + ((bbD ac).marks + (iiiD nx).marks)) := by show _ = _; omega
 go_enter Tryd.func10, Tryd.ntmps10
 go_wp2_with fail
 refine (heldBoolSS_any ac s c k _ (h1.alloc _) (by omega)).mono ?_
 rintro e w1 ⟨rfl, rfl⟩
 go_wp2_with fail
 refine (heldInt64SSS_any nx u d (k + (bbD ac).marks) _ (h2.alloc _) (by omega)).mono ?_
 rintro e w1 ⟨rfl, rfl⟩
 rw [E2.out]
 go_wp2_with fail
 go_ret
 exact ⟨rfl, by (repeat' first | exact Below.refl _ _ | assumption | apply Below.alloc | apply Below.drew | apply Below.setCell | omega | (simp; done) | (simp; omega))⟩
end Go.Proofs.YtfhlddbngjlhbaaDoor

namespace Go.Proofs.YtfhlddbngjlhbaaDoor
set_option linter.unusedVariables false
set_option linter.unusedSimpArgs false
open Go.ChangeShapes Go.WideShapes Go.ChangeAt Go.RowKit Go.Sort
def RowOk (a n : Int) (row : List Int) : Prop := (row.length : Int) = a ∧ ∀ (l : Nat) (z : Int), row[l]? = some z → -1 ≤ z ∧ z ≤ n - 1
def StOk (t a n : Int) (ar : List Bool) (nr : List (List Int)) : Prop := (ar.length : Int) = atomsN t ∧ (nr.length : Int) = atomsN t ∧ ∀ (j : Nat) (row : List Int), nr[j]? = some row → RowOk a n row
structure AutOk (t a : Int) (ac : List (List Bool)) (nx : List (List (List Int))) : Prop where
 sig : sigB t a = true
 lo : 1 ≤ ac.length
 hi : ac.length ≤ 60
 len : nx.length = ac.length
 st : ∀ (i : Nat) (ar : List Bool) (nr : List (List Int)), ac[i]? = some ar → nx[i]? = some nr → StOk t a ac.length ar nr
noncomputable def autB (t a : Int) (ac : List (List Bool)) (nx : List (List (List Int))) : Bool := @decide (AutOk t a ac nx) (Classical.propDecidable _)
theorem autB_true {t a : Int} {ac : List (List Bool)} {nx : List (List (List Int))} : autB t a ac nx = true ↔ AutOk t a ac nx := by unfold autB; exact @decide_eq_true_iff _ (Classical.propDecidable _)
theorem autB_yes {t a : Int} {ac : List (List Bool)} {nx : List (List (List Int))} (h : AutOk t a ac nx) : autB t a ac nx = true := autB_true.2 h
theorem autB_no {t a : Int} {ac : List (List Bool)} {nx : List (List (List Int))} (h : ¬ AutOk t a ac nx) : autB t a ac nx = false := by
 cases hb : autB t a ac nx
 ·
  rfl
 ·
  exact absurd (autB_true.1 hb) h
def StsOk (t a : Int) (ac : List (List Bool)) (nx : List (List (List Int))) (k : Nat) : Prop := ∀ (i : Nat) (ar : List Bool) (nr : List (List Int)), i < k → ac[i]? = some ar → nx[i]? = some nr → StOk t a ac.length ar nr
theorem StsOk.zero {t a : Int} {ac : List (List Bool)} {nx : List (List (List Int))} : StsOk t a ac nx 0 := fun _ _ _ h => by omega
theorem StsOk.succ {t a : Int} {ac : List (List Bool)} {nx : List (List (List Int))} {k : Nat} {ar : List Bool} {nr : List (List Int)} (h : StsOk t a ac nx k) (h1 : ac[k]? = some ar) (h2 : nx[k]? = some nr) (hs : StOk t a ac.length ar nr) : StsOk t a ac nx (k + 1) := by
 intro i ar' nr' hi h3 h4
 by_cases hik : i = k
 ·
  subst hik
  rw [h1] at h3
  rw [h2] at h4
  cases h3
  cases h4
  exact hs
 ·
  exact h i ar' nr' (by omega) h3 h4
def RowsOk (a n : Int) (nr : List (List Int)) (k : Nat) : Prop := ∀ (j : Nat) (row : List Int), j < k → nr[j]? = some row → RowOk a n row
theorem RowsOk.zero {a n : Int} {nr : List (List Int)} : RowsOk a n nr 0 := fun _ _ h => by omega
theorem RowsOk.succ {a n : Int} {nr : List (List Int)} {k : Nat} {row : List Int} (h : RowsOk a n nr k) (h1 : nr[k]? = some row) (hs : RowOk a n row) : RowsOk a n nr (k + 1) := by
 intro j row' hj h2
 by_cases hjk : j = k
 ·
  subst hjk
  rw [h1] at h2
  cases h2
  exact hs
 ·
  exact h j row' (by omega) h2
def CellsOk (n : Int) (row : List Int) (k : Nat) : Prop := ∀ (l : Nat) (z : Int), l < k → row[l]? = some z → -1 ≤ z ∧ z ≤ n - 1
theorem CellsOk.zero {n : Int} {row : List Int} : CellsOk n row 0 := fun _ _ h => by omega
theorem CellsOk.succ {n : Int} {row : List Int} {k : Nat} {z : Int} (h : CellsOk n row k) (h1 : row[k]? = some z) (hs : inB z (-1) (n - 1) = true) : CellsOk n row (k + 1) := by
 intro l z' hl h2
 by_cases hlk : l = k
 ·
  subst hlk
  rw [h1] at h2
  cases h2
  simp only [inB, Bool.and_eq_true, decide_eq_true_eq] at hs
  exact hs
 ·
  exact h l z' (by omega) h2
def AutAt (w : World) (b o : Nat) (t a : Int) (ac : List (List Bool)) (nx : List (List (List Int))) (s u : Option Addr) (c d : Nat) : Prop :=
 w.cell? ⟨b, o, none⟩ = some (.int .i64 t) ∧ w.cell? ⟨b, o + 1, none⟩ = some (.int .i64 a) ∧ w.cell? ⟨b, o + 2, none⟩ = some (.slice s ac.length c) ∧ w.cell? ⟨b, o + 3, none⟩ = some (.slice u nx.length d) ∧
  Rd w (bbD ac) (.slice s ac.length c) ∧ Rd w (iiiD nx) (.slice u nx.length d)
theorem AutAt.lt {w : World} {b o : Nat} {t a : Int} {ac : List (List Bool)} {nx : List (List (List Int))} {s u : Option Addr} {c d : Nat} (h : AutAt w b o t a ac nx s u c d) : b < w.heap.size := World.block_lt_of_cell? w _ h.1
theorem AutAt.below {w w' : World} {b o : Nat} {t a : Int} {ac : List (List Bool)} {nx : List (List (List Int))} {s u : Option Addr} {c d : Nat} (h : AutAt w b o t a ac nx s u c d) (hb : Below w.heap.size w w') : AutAt w' b o t a ac nx s u c d := by
 have hl := h.lt
 obtain ⟨h0, h1, h2, h3, h4, h5⟩ := h
 exact ⟨(hb.cell (p := ⟨b, o, none⟩) hl).trans h0, (hb.cell (p := ⟨b, o + 1, none⟩) hl).trans h1, (hb.cell (p := ⟨b, o + 2, none⟩) hl).trans h2, (hb.cell (p := ⟨b, o + 3, none⟩) hl).trans h3, h4.below hb, h5.below hb⟩
set_option maxRecDepth 100000 in
set_option maxHeartbeats 16000000 in
theorem l02Ok_i {t a : Int} {ac : List (List Bool)} {nx : List (List (List Int))} {s u : Option Addr} {c d b o : Nat} {w : World} (h : AutAt w b o t a ac nx s u c d) :
  Calls Tryd.prog 13 #[.pointer (some ⟨b, o, none⟩)] w fun e w' => e = .returned (.bool (autB t a ac nx)) ∧ Below w.heap.size w w' := by
 obtain ⟨hlen, hcap⟩ := nest_bd h.2.2.2.2.1
 obtain ⟨hlen', hcap'⟩ := nest_bd h.2.2.2.2.2
 unfold maxLen at hcap hcap'
 obtain ⟨g0, g1, g2, g3, g4, g5⟩ := h
 have h : AutAt w b o t a ac nx s u c d := ⟨g0, g1, g2, g3, g4, g5⟩
 have hbl := h.lt
 go_enter Tryd.func13, Tryd.ntmps13
 go_wp2_with fail
 refine (l01Sig_any t a _).mono ?_
 rintro e w1 ⟨rfl, hB⟩
 cases hs : sigB t a
 ·
  have c1 : autB t a ac nx = false := autB_no fun q => by rw [q.sig] at hs; cases hs
  have C1 := Lib.hid c1
  clear c1 hs
  go_wp2_with fail
  go_ret
  exact ⟨ret_bool (by rw [C1.out]), hB⟩
 have Hs := Lib.hid hs
 clear hs
 go_wp2_with fail
 refine (in_any _ _ _ _).mono ?_
 rintro e w' ⟨rfl, rfl⟩
 by_cases hn : 1 ≤ ac.length ∧ ac.length ≤ 60
 rotate_left
 ·
  have c1 : autB t a ac nx = false := autB_no fun q => hn ⟨q.lo, q.hi⟩
  have c2 : inB (ac.length : Int) 1 60 = false := by simp [inB]; omega
  have C1 := Lib.hid c1
  rw [c2]
  clear c1 c2 hn
  go_wp2_with fail
  go_ret
  exact ⟨ret_bool (by rw [C1.out]), hB⟩
 obtain ⟨hn1, hn2⟩ := hn
 have c2 : inB (ac.length : Int) 1 60 = true := by simp [inB]; omega
 rw [c2]
 clear c2
 have h1 := h.below hB
 have k3 := h1.2.2.2.1
 by_cases hl : nx.length = ac.length
 rotate_left
 ·
  have c1 : autB t a ac nx = false := autB_no fun q => hl q.len
  have c2 : ((nx.length : Int) != (ac.length : Int)) = true := by simp; omega
  have C1 := Lib.hid c1
  clear c1 hl
  go_wp2_with fail
  go_ret
  exact ⟨ret_bool (by rw [C1.out]), hB⟩
 have c2 : ((nx.length : Int) != (ac.length : Int)) = false := by simp [hl]
 have Hl := Lib.hid hl
 have hl1 : nx.length ≤ ac.length := by omega
 have hl2 : ac.length ≤ nx.length := by omega
 clear hl
 obtain ⟨ht0, ht1, ha0, ha1⟩ := sigB_bd Hs.out
 have hat := atomsN_bd t
 obtain ⟨sb, so, rfl⟩ := nest_some (f := boolsD) g4 (by omega)
 obtain ⟨ub, uo, rfl⟩ := nest_some (f := iiD) g5 (by omega)
 have HB1 := Lib.hid hB
 have Hh := Lib.hid h
 clear h1 g0 g1 g2 g3 h
 go_wp2_with fail
 clear k3 c2
 go_loopw [4] (fun i wr => ∃ k : Nat, k ≤ ac.length ∧ i = .int .i64 k ∧ StsOk t a ac nx k ∧ Below w.heap.size w wr) (fun i _ => ac.length - (intOf i).toNat)
 case atStart => exact ⟨0, by omega, rfl, StsOk.zero, HB1.out⟩
 case round =>
  clear HB1 hB
  obtain ⟨k, hk, rfl, hst, hB⟩ := hrel
  have szB := hB.size
  have Hst := Lib.hid hst
  have HB := Lib.hid hB
  clear hst hB
  by_cases hlt : k < ac.length
  rotate_left
  ·
   have c1 : autB t a ac nx = true := autB_yes ⟨Hs.out, hn1, hn2, Hl.out, fun i ar nr h1 h2 => Hst.out i ar nr (by have := (List.getElem?_eq_some_iff.1 h1).1; omega) h1 h2⟩
   have C1 := Lib.hid c1
   clear c1
   go_wp2_with fail
   go_ret
   exact ⟨ret_bool (by rw [C1.out]), HB.out⟩
  obtain ⟨ar, har⟩ : ∃ e, ac[k]? = some e := ⟨_, List.getElem?_eq_getElem hlt⟩
  obtain ⟨nr, hnr⟩ : ∃ e, nx[k]? = some e := ⟨_, List.getElem?_eq_getElem (by omega)⟩
  obtain ⟨hsl, sa, ca, a0, ra⟩ := nest_sl (g := D.bool) g4 har
  obtain ⟨hul, sn, cn, b0, rb⟩ := nest_sl (g := intsD) g5 hnr
  obtain ⟨ra1, ra2⟩ := nest_bd ra
  obtain ⟨rb1, rb2⟩ := nest_bd rb
  unfold maxLen at ra2 rb2
  have A0 := Lib.hid a0
  have B0 := Lib.hid b0
  have Har := Lib.hid har
  have Hnr := Lib.hid hnr
  have hkz := Int.natCast_nonneg k
  have hkb : (k : Int) < (ac.length : Int) := by omega
  have hkc : (k : Int) < (nx.length : Int) := by omega
  clear a0 b0 har hnr
  by_cases hA : (ar.length : Int) = atomsN t
  rotate_left
  ·
   have c1 : autB t a ac nx = false := autB_no fun q => hA (q.st k ar nr Har.out Hnr.out).1
   have C1 := Lib.hid c1
   have bA : ((ar.length : Int) != atomsN t) = true := by simp [hA]
   clear c1 hA
   obtain ⟨c0, c1', c2', c3', -, -⟩ := Hh.out.below HB.out
   have a0 := (HB.out.cell (p := ⟨sb, so + k, none⟩) hsl).trans A0.out
   have b0 := (HB.out.cell (p := ⟨ub, uo + k, none⟩) hul).trans B0.out
   have gc0 := fun d os => cell_regrown c0 d os
   have gc1 := fun d os => cell_regrown c1' d os
   have gc2 := fun d os => cell_regrown c2' d os
   have gc3 := fun d os => cell_regrown c3' d os
   have ga0 := fun d os => cell_regrown a0 d os
   have gb0 := fun d os => cell_regrown b0 d os
   go_wp2_with fail
   refine Go.wp_region_quiet_below (by kernel_rfl) (by kernel_rfl) ?_
   repeat (first | go_big_quiet_step ((exact Calls.regrown_of (l01Atoms_i ht0 ht1))) | quiet_step ((exact Calls.regrown_of (l01Atoms_i ht0 ht1))))
   refine wpQuiet_nil ?_; intro _ hw'; obtain ⟨⟨dq, osq⟩, hw''⟩ := hw'; subst hw''; have hq := below_regrown wr dq osq; revert hq; generalize grow (redrawn wr dq) osq = w2; intro hq
   have hB2 : Below w.heap.size w w2 := Below.on HB.out hq HB.out.size
   clear hq c0 c1' c2' c3' a0 b0 gc0 gc1 gc2 gc3 ga0 gb0
   go_wp2_with fail
   go_ret
   exact ⟨ret_bool (by rw [C1.out]), hB2⟩
  have bA : ((ar.length : Int) != atomsN t) = false := by simp [hA]
  have HA := Lib.hid hA
  clear hA
  by_cases hN : (nr.length : Int) = atomsN t
  rotate_left
  ·
   have c1 : autB t a ac nx = false := autB_no fun q => hN (q.st k ar nr Har.out Hnr.out).2.1
   have C1 := Lib.hid c1
   have bN : ((nr.length : Int) != atomsN t) = true := by simp [hN]
   clear c1 hN
   obtain ⟨c0, c1', c2', c3', -, -⟩ := Hh.out.below HB.out
   have a0 := (HB.out.cell (p := ⟨sb, so + k, none⟩) hsl).trans A0.out
   have b0 := (HB.out.cell (p := ⟨ub, uo + k, none⟩) hul).trans B0.out
   have gc0 := fun d os => cell_regrown c0 d os
   have gc1 := fun d os => cell_regrown c1' d os
   have gc2 := fun d os => cell_regrown c2' d os
   have gc3 := fun d os => cell_regrown c3' d os
   have ga0 := fun d os => cell_regrown a0 d os
   have gb0 := fun d os => cell_regrown b0 d os
   go_wp2_with fail
   refine Go.wp_region_quiet_below (by kernel_rfl) (by kernel_rfl) ?_
   repeat (first | go_big_quiet_step ((exact Calls.regrown_of (l01Atoms_i ht0 ht1))) | quiet_step ((exact Calls.regrown_of (l01Atoms_i ht0 ht1))))
   refine wpQuiet_nil ?_; intro _ hw'; obtain ⟨⟨dq, osq⟩, hw''⟩ := hw'; subst hw''; have hq := below_regrown wr dq osq; revert hq; generalize grow (redrawn wr dq) osq = w2; intro hq
   have hB2 : Below w.heap.size w w2 := Below.on HB.out hq HB.out.size
   clear hq c0 c1' c2' c3' a0 b0 gc0 gc1 gc2 gc3 ga0 gb0
   go_wp2_with fail
   go_ret
   exact ⟨ret_bool (by rw [C1.out]), hB2⟩
  have bN : ((nr.length : Int) != atomsN t) = false := by simp [hN]
  have HN := Lib.hid hN
  clear hN
  obtain ⟨c0, c1', c2', c3', -, -⟩ := Hh.out.below HB.out
  have a0 := (HB.out.cell (p := ⟨sb, so + k, none⟩) hsl).trans A0.out
  have b0 := (HB.out.cell (p := ⟨ub, uo + k, none⟩) hul).trans B0.out
  have gc0 := fun d os => cell_regrown c0 d os
  have gc1 := fun d os => cell_regrown c1' d os
  have gc2 := fun d os => cell_regrown c2' d os
  have gc3 := fun d os => cell_regrown c3' d os
  have ga0 := fun d os => cell_regrown a0 d os
  have gb0 := fun d os => cell_regrown b0 d os
  go_wp2_with fail
  refine Go.wp_region_quiet_below (by kernel_rfl) (by kernel_rfl) ?_
  repeat (first | go_big_quiet_step ((exact Calls.regrown_of (l01Atoms_i ht0 ht1))) | quiet_step ((exact Calls.regrown_of (l01Atoms_i ht0 ht1))))
  refine wpQuiet_nil ?_; intro _ hw'; obtain ⟨⟨dq, osq⟩, hw''⟩ := hw'; subst hw''; have hq := below_regrown wr dq osq; revert hq; generalize grow (redrawn wr dq) osq = w2; intro hq
  have hB2 : Below w.heap.size w w2 := Below.on HB.out hq HB.out.size
  clear hq c0 c1' c2' c3' a0 b0 gc0 gc1 gc2 gc3 ga0 gb0
  clear bA bN HB
  have hnp : 0 < nr.length := by have := HN.out; omega
  obtain ⟨vb, vo, rfl⟩ := nest_some (f := intsD) rb hnp
  have q1 : IntKind.i64.wrap ((ac.length : Int) - 1) = ac.length - 1 := wrap_of (by omega) (by omega)
  go_wp2_with fail
  go_loopw [5] (fun i wr => ∃ j : Nat, j ≤ nr.length ∧ i = .int .i64 j ∧ RowsOk a ac.length nr j ∧ Below w.heap.size w wr) (fun i _ => nr.length - (intOf i).toNat)
  case atStart => exact ⟨0, by omega, rfl, RowsOk.zero, hB2⟩
  case round =>
   clear hB2
   obtain ⟨j, hj, rfl, hro, hB⟩ := hrel
   have szB := hB.size
   have Hro := Lib.hid hro
   have HB := Lib.hid hB
   clear hro hB
   by_cases hjl : j < nr.length
   rotate_left
   ·
    have Hs' := Lib.hid (Hst.out.succ Har.out Hnr.out ⟨HA.out, HN.out, fun i row h => Hro.out i row (by have := (List.getElem?_eq_some_iff.1 h).1; omega) h⟩)
    obtain ⟨c0, c1', c2', c3', -, -⟩ := Hh.out.below HB.out
    have a0 := (HB.out.cell (p := ⟨sb, so + k, none⟩) hsl).trans A0.out
    have b0 := (HB.out.cell (p := ⟨ub, uo + k, none⟩) hul).trans B0.out
    have gc0 := fun d os => cell_regrown c0 d os
    have gc1 := fun d os => cell_regrown c1' d os
    have gc2 := fun d os => cell_regrown c2' d os
    have gc3 := fun d os => cell_regrown c3' d os
    have ga0 := fun d os => cell_regrown a0 d os
    have gb0 := fun d os => cell_regrown b0 d os
    clear gc0 gc1 gc2 gc3 ga0 gb0
    go_wp2_with fail
    go_roundw
    case rel => exact ⟨k + 1, by omega, by go_num, Hs'.out, HB.out⟩
    case measure => simp [intOf]; omega
   obtain ⟨row, hrow⟩ : ∃ e, nr[j]? = some e := ⟨_, List.getElem?_eq_getElem hjl⟩
   obtain ⟨hvl, sr, cr, r0, rr⟩ := nest_sl (g := D.int) rb hrow
   obtain ⟨rr1, rr2⟩ := nest_bd rr
   unfold maxLen at rr2
   have R0 := Lib.hid r0
   have Hrow := Lib.hid hrow
   have hjz := Int.natCast_nonneg j
   have hjb : (j : Int) < (nr.length : Int) := by omega
   clear r0 hrow
   by_cases hA2 : (row.length : Int) = a
   rotate_left
   ·
    have C1 := Lib.hid (show autB t a ac nx = false from autB_no fun q => hA2 ((q.st k ar nr Har.out Hnr.out).2.2 j row Hrow.out).1)
    have bA : ((row.length : Int) != a) = true := by simp [hA2]
    clear hA2
    obtain ⟨c0, c1', c2', c3', -, -⟩ := Hh.out.below HB.out
    have a0 := (HB.out.cell (p := ⟨sb, so + k, none⟩) hsl).trans A0.out
    have b0 := (HB.out.cell (p := ⟨ub, uo + k, none⟩) hul).trans B0.out
    have gc0 := fun d os => cell_regrown c0 d os
    have gc1 := fun d os => cell_regrown c1' d os
    have gc2 := fun d os => cell_regrown c2' d os
    have gc3 := fun d os => cell_regrown c3' d os
    have ga0 := fun d os => cell_regrown a0 d os
    have gb0 := fun d os => cell_regrown b0 d os
    have r0 := (HB.out.cell (p := ⟨vb, vo + j, none⟩) hvl).trans R0.out
    have gr0 := fun d os => cell_regrown r0 d os
    go_wp2_with fail
    refine Go.wp_region_quiet_below (by kernel_rfl) (by kernel_rfl) ?_
    repeat (first | go_big_quiet_step ((fail)) | quiet_step ((fail)))
    refine wpQuiet_nil ?_; intro _ hw'; obtain ⟨⟨dq, osq⟩, hw''⟩ := hw'; subst hw''; have hq := below_regrown wr dq osq; revert hq; generalize grow (redrawn wr dq) osq = w2; intro hq
    have hB2 : Below w.heap.size w w2 := Below.on HB.out hq HB.out.size
    clear hq c0 c1' c2' c3' a0 b0 r0 gc0 gc1 gc2 gc3 ga0 gb0 gr0
    go_wp2_with fail
    go_wp2_with fail
    go_ret
    exact ⟨ret_bool (by rw [C1.out]), hB2⟩
   have bA : ((row.length : Int) != a) = false := by simp [hA2]
   have HA2 := Lib.hid hA2
   clear hA2
   obtain ⟨c0, c1', c2', c3', -, -⟩ := Hh.out.below HB.out
   have a0 := (HB.out.cell (p := ⟨sb, so + k, none⟩) hsl).trans A0.out
   have b0 := (HB.out.cell (p := ⟨ub, uo + k, none⟩) hul).trans B0.out
   have gc0 := fun d os => cell_regrown c0 d os
   have gc1 := fun d os => cell_regrown c1' d os
   have gc2 := fun d os => cell_regrown c2' d os
   have gc3 := fun d os => cell_regrown c3' d os
   have ga0 := fun d os => cell_regrown a0 d os
   have gb0 := fun d os => cell_regrown b0 d os
   have r0 := (HB.out.cell (p := ⟨vb, vo + j, none⟩) hvl).trans R0.out
   have gr0 := fun d os => cell_regrown r0 d os
   go_wp2_with fail
   refine Go.wp_region_quiet_below (by kernel_rfl) (by kernel_rfl) ?_
   repeat (first | go_big_quiet_step ((fail)) | quiet_step ((fail)))
   refine wpQuiet_nil ?_; intro _ hw'; obtain ⟨⟨dq, osq⟩, hw''⟩ := hw'; subst hw''; have hq := below_regrown wr dq osq; revert hq; generalize grow (redrawn wr dq) osq = w2; intro hq
   have hB2 : Below w.heap.size w w2 := Below.on HB.out hq HB.out.size
   clear hq c0 c1' c2' c3' a0 b0 r0 gc0 gc1 gc2 gc3 ga0 gb0 gr0
   go_wp2_with fail
   clear bA HB
   go_loopw [6] (fun i wr => ∃ l : Nat, l ≤ row.length ∧ i = .int .i64 l ∧ CellsOk ac.length row l ∧ Below w.heap.size w wr) (fun i _ => row.length - (intOf i).toNat)
   case atStart => exact ⟨0, by omega, rfl, CellsOk.zero, hB2⟩
   case round =>
    clear hB2
    obtain ⟨l, hl, rfl, hce, hB⟩ := hrel
    have szB := hB.size
    have Hce := Lib.hid hce
    have HB := Lib.hid hB
    clear hce hB
    have hlz := Int.natCast_nonneg l
    obtain ⟨c0, c1', c2', c3', -, -⟩ := Hh.out.below HB.out
    have b0 := (HB.out.cell (p := ⟨ub, uo + k, none⟩) hul).trans B0.out
    have r0 := (HB.out.cell (p := ⟨vb, vo + j, none⟩) hvl).trans R0.out
    by_cases hll : l < row.length
    rotate_left
    ·
     have Hs' := Lib.hid (Hro.out.succ Hrow.out ⟨HA2.out, fun i z h => Hce.out i z (by have := (List.getElem?_eq_some_iff.1 h).1; omega) h⟩)
     go_wp2_with fail
     go_roundw
     case rel => exact ⟨j + 1, by omega, by go_num, Hs'.out, HB.out⟩
     case measure => simp [intOf]; omega
    have hlb : (l : Int) < (row.length : Int) := by omega
    obtain ⟨z, hz⟩ : ∃ e, row[l]? = some e := ⟨_, List.getElem?_eq_getElem hll⟩
    obtain ⟨tb, to', rfl⟩ := nest_some (f := D.int) rr (by omega)
    obtain ⟨-, z0⟩ := int_in (rr.below HB.out) hz
    have Hz := Lib.hid hz
    clear hz
    go_wp2_with fail
    refine (in_any _ _ _ _).mono ?_
    rintro e w' ⟨rfl, rfl⟩
    cases hin : inB z (-1) (ac.length - 1)
    ·
     have C1 := Lib.hid (show autB t a ac nx = false from autB_no fun q => by
      have h1 := ((q.st k ar nr Har.out Hnr.out).2.2 j row Hrow.out).2 l z Hz.out
      have h2 : inB z (-1) (ac.length - 1) = true := by simp only [inB, Bool.and_eq_true, decide_eq_true_eq]; exact h1
      rw [h2] at hin
      cases hin)
     clear hin
     go_wp2_with fail
     go_ret
     exact ⟨ret_bool (by rw [C1.out]), HB.out⟩
    ·
     have Hs' := Lib.hid (Hce.out.succ Hz.out hin)
     clear hin
     go_wp2_with fail
     go_roundw
     case rel => exact ⟨l + 1, by omega, by go_num, Hs'.out, HB.out⟩
     case measure => simp [intOf]; omega
end Go.Proofs.YtfhlddbngjlhbaaDoor

namespace Go.Proofs.YtfhlddbngjlhbaaDoor
set_option linter.unusedVariables false
set_option linter.unusedSimpArgs false
open Go.ChangeShapes Go.WideShapes Go.ChangeAt Go.RowKit
section
variable {α : Type} {f : α → Int}
end
theorem AutOk.dims {t a : Int} {ac : List (List Bool)} {nx : List (List (List Int))} (h : AutOk t a ac nx) : 1 ≤ atomsN t ∧ atomsN t ≤ 8 ∧ 0 ≤ a ∧ a ≤ 4 := by
 obtain ⟨h0, h1, h2, h3⟩ := sigB_bd h.sig
 have := atomsN_bd t
 exact ⟨this.1, this.2, h2, h3⟩
theorem AutOk.row {t a : Int} {ac : List (List Bool)} {nx : List (List (List Int))} (h : AutOk t a ac nx) {i : Nat} {nr : List (List Int)} (h1 : nx[i]? = some nr) :
  (nr.length : Int) = atomsN t ∧ ∀ (j : Nat) (row : List Int), nr[j]? = some row → RowOk a ac.length row := by
 obtain ⟨ar, har⟩ : ∃ e, ac[i]? = some e := ⟨_, List.getElem?_eq_getElem (by have := (List.getElem?_eq_some_iff.1 h1).1; rw [h.len] at this; exact this)⟩
 obtain ⟨_, h2, h3⟩ := h.st i ar nr har h1
 exact ⟨h2, h3⟩
theorem AutOk.acc_row {t a : Int} {ac : List (List Bool)} {nx : List (List (List Int))} (h : AutOk t a ac nx) {i : Nat} {ar : List Bool} (h1 : ac[i]? = some ar) : (ar.length : Int) = atomsN t := by
 obtain ⟨nr, hnr⟩ : ∃ e, nx[i]? = some e := ⟨_, List.getElem?_eq_getElem (by have := (List.getElem?_eq_some_iff.1 h1).1; rw [h.len]; exact this)⟩
 exact (h.st i ar nr h1 hnr).1
end Go.Proofs.YtfhlddbngjlhbaaDoor

namespace Go.Proofs.YtfhlddbngjlhbaaDoor
set_option linter.unusedVariables false
set_option linter.unusedSimpArgs false
open Go.ChangeShapes Go.WideShapes Go.ChangeAt Go.RowKit Go.Deep
def hitR (P : Nat → Bool) (row : List Int) : Bool := row.any fun z => decide (0 ≤ z) && P z.toNat
def accW (ac : List (List Bool)) (nx : List (List (List Int))) : Nat → Nat → Bool
 | 0 => fun s => (ac.getD s []).any id
 | n + 1 => fun s => (nx.getD s []).any (hitR (accW ac nx n))
def farV (ac : List (List Bool)) (nx : List (List (List Int))) : Nat → Nat → Int
 | 0 => fun s => if accW ac nx 0 s then 0 else -1
 | n + 1 => fun s => if 0 ≤ farV ac nx n s then farV ac nx n s else if accW ac nx (n + 1) s then ((n + 1 : Nat) : Int) else -1
def Live (ac : List (List Bool)) (nx : List (List (List Int))) (s : Nat) : Prop := ∃ n, accW ac nx n s = true
noncomputable def liveB (ac : List (List Bool)) (nx : List (List (List Int))) (s : Nat) : Bool := @decide (Live ac nx s) (Classical.propDecidable _)
noncomputable def liveL (ac : List (List Bool)) (nx : List (List (List Int))) : List Bool := (List.range ac.length).map (liveB ac nx)
section
variable {ac : List (List Bool)} {nx : List (List (List Int))}
theorem liveB_true {s : Nat} : liveB ac nx s = true ↔ Live ac nx s := by unfold liveB; exact @decide_eq_true_iff _ (Classical.propDecidable _)
theorem liveL_len : (liveL ac nx).length = ac.length := by simp [liveL]
theorem liveL_at {s : Nat} (h : s < ac.length) : (liveL ac nx)[s]? = some (liveB ac nx s) := by simp [liveL, h]
theorem hitR_true {P : Nat → Bool} {row : List Int} : hitR P row = true ↔ ∃ z ∈ row, 0 ≤ z ∧ P z.toNat = true := by
 simp only [hitR, List.any_eq_true, Bool.and_eq_true, decide_eq_true_eq]
theorem accW_succ {n s : Nat} : accW ac nx (n + 1) s = true ↔ ∃ row ∈ nx.getD s [], ∃ z ∈ row, 0 ≤ z ∧ accW ac nx n z.toNat = true := by
 show (nx.getD s []).any (hitR (accW ac nx n)) = true ↔ _
 simp only [List.any_eq_true, hitR_true]
theorem farV_bd : ∀ n s, -1 ≤ farV ac nx n s ∧ farV ac nx n s ≤ n
 | 0, s => by simp only [farV]; split <;> omega
 | n + 1, s => by
  have := farV_bd n s
  simp only [farV]
  split
  ·
   omega
  ·
   split <;> omega
theorem farV_spec : ∀ n s, (0 ≤ farV ac nx n s → ∃ m : Nat, m ≤ n ∧ farV ac nx n s = (m : Int) ∧ accW ac nx m s = true ∧ ∀ k, k < m → accW ac nx k s = false) ∧ (farV ac nx n s < 0 → ∀ m, m ≤ n → accW ac nx m s = false)
 | 0, s => by
  simp only [farV]
  by_cases h : accW ac nx 0 s = true
  ·
   rw [if_pos h]
   exact ⟨fun _ => ⟨0, Nat.le_refl _, rfl, h, fun k hk => by omega⟩, fun hn => by omega⟩
  ·
   rw [if_neg h]
   refine ⟨fun hn => by omega, fun _ m hm => ?_⟩
   obtain rfl : m = 0 := by omega
   simpa using h
 | n + 1, s => by
  obtain ⟨h1, h2⟩ := farV_spec n s
  simp only [farV]
  by_cases h : 0 ≤ farV ac nx n s
  ·
   rw [if_pos h]
   refine ⟨fun _ => ?_, fun hn => by omega⟩
   obtain ⟨m, hm, e, h3, h4⟩ := h1 h
   exact ⟨m, by omega, e, h3, h4⟩
  ·
   rw [if_neg h]
   have h3 := h2 (by omega)
   by_cases h4 : accW ac nx (n + 1) s = true
   ·
    rw [if_pos h4]
    exact ⟨fun _ => ⟨n + 1, Nat.le_refl _, rfl, h4, fun k hk => h3 k (by omega)⟩, fun hn => by omega⟩
   ·
    rw [if_neg h4]
    refine ⟨fun hn => by omega, fun _ m hm => ?_⟩
    by_cases he : m = n + 1
    ·
     rw [he]; simpa using h4
    ·
     exact h3 m (by omega)
theorem pigeon : ∀ (n : Nat) (L : List Nat), L.Nodup → (∀ x ∈ L, x < n) → L.length ≤ n
 | 0, L, _, h => by
  cases L with
  | nil => simp
  | cons x r => have := h x (List.mem_cons_self ..); omega
 | n + 1, L, hd, h => by
  have h1 := pigeon n (L.erase n) (hd.erase n) fun x hx => by
   have h2 := h x (List.mem_of_mem_erase hx)
   have h3 := (List.Nodup.mem_erase_iff hd).1 hx
   omega
  rw [List.length_erase] at h1
  split at h1 <;> omega
end
theorem AutOk.targets {t a : Int} {ac : List (List Bool)} {nx : List (List (List Int))} (h : AutOk t a ac nx) : ∀ s row z, row ∈ nx.getD s [] → z ∈ row → z < ac.length := by
 intro s row z hr hz
 rw [List.getD_eq_getElem?_getD] at hr
 cases hs : nx[s]? with
 | none => rw [hs] at hr; simp at hr
 | some nr =>
  rw [hs] at hr
  obtain ⟨j, hj⟩ := List.mem_iff_getElem?.1 (show row ∈ nr from hr)
  obtain ⟨l, hl⟩ := List.mem_iff_getElem?.1 hz
  have := (((h.row hs).2 j row hj).2 l z hl).2
  omega
end Go.Proofs.YtfhlddbngjlhbaaDoor
