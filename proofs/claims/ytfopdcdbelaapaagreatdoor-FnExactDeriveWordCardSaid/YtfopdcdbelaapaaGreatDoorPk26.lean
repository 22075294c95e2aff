/-
  Parts of a proof, joined: MarkE, Sz, To, Eq. No condition.
-/
import Derived.Test.YtfopdcdbelaapaaGreatDoorPk20
namespace Go.Proofs.YtfopdcdbelaapaaGreatDoor
set_option linter.unusedVariables false
set_option linter.unusedSimpArgs false
open Go.ChangeShapes Go.WideShapes Go.ChangeAt Go.RowKit Go.Sort
theorem marksL_cells : ∀ ks : List Ex, D.marksL (Ex.cellsL ks) = 2 * Ex.sizeL ks
 | [] => by simp [Ex.cellsL, D.marksL, Ex.sizeL]
 | .mk k n us :: r => by
  have h1 := marksL_cells us
  have h2 := marksL_cells r
  simp only [Ex.cellsL, Ex.cells, List.cons_append, List.nil_append, D.marksL, D.marks, Ex.sizeL, Ex.size, h1, h2]
  omega
theorem cellsL_take : ∀ (ks : List Ex) (j : Nat), (Ex.cellsL ks).take (j * 3) = Ex.cellsL (ks.take j)
 | [], j => by simp [Ex.cellsL]
 | e :: r, 0 => by simp [Ex.cellsL]
 | e :: r, j + 1 => by
  simp only [List.take_succ_cons, Ex.cellsL]
  rw [← cellsL_take r j, List.take_append, Ex.cells_length, List.take_of_length_le (by rw [Ex.cells_length]; omega)]
  congr 2
  omega
set_option maxHeartbeats 2000000 in
theorem markExprS_all (N : Nat) : ∀ (ks : List Ex) (s : Option Addr) (c k : Nat) (F : List Nat) (w : World), Ex.sizeL ks ≤ N → Ow w (kidsD ks) (.slice s ks.length c) F → F.Nodup → k + 2 * Ex.sizeL ks ≤ 1000000000000 →
  Calls Tryz.prog 80 #[.slice s ks.length c, .int .i64 k] w fun e w' => e = .returned (.int .i64 (k + 2 * Ex.sizeL ks : Nat)) ∧ Ow w' (D.mark (kidsD ks) k) (.slice s ks.length c) F ∧ Only F w w' := by
 induction N using Nat.strongRecOn with
 | _ N ih =>
 intro ks s c k F w hN h hn hk
 have hkl := Ex.length_le_sizeL ks
 have H0 : Ow w (.sl 3 ks.length (mkd (Ex.cellsL ks) (0 * 3) k)) (.slice s ks.length c) F := by rw [Nat.zero_mul, mkd_zero]; exact h
 go_enter Tryz.func80, Tryz.ntmps80
 go_wp2_with fail
 go_loopw [1, 5] (fun q i wr => ∃ j : Nat, j ≤ ks.length ∧ i = .int .i64 j ∧ q = .int .i64 (k + 2 * Ex.sizeL (ks.take j) : Nat) ∧ Ow wr (.sl 3 ks.length (mkd (Ex.cellsL ks) (j * 3) k)) (.slice s ks.length c) F ∧ Only F w wr) (fun _ i _ => ks.length - (intOf i).toNat)
 case atStart => exact ⟨0, by omega, rfl, by simp [Ex.sizeL], H0, Only.refl _ _⟩
 case round =>
  clear h H0
  obtain ⟨j, hj, rfl, rfl, h, hO⟩ := hrel
  by_cases hlt : j < ks.length
  ·
   obtain ⟨x, hx⟩ : ∃ e, ks[j]? = some e := ⟨_, List.getElem?_eq_getElem hlt⟩
   obtain ⟨b, o, rfl⟩ := h.spot (by omega)
   have hxs := Ex.size_eq x
   have hxm := Ex.sizeL_mem (List.mem_of_getElem? hx)
   have htk := Ex.sizeL_take_succ hx
   have htl := Ex.sizeL_take_le ks (j + 1)
   have c0 := Ex.cellsL_at ks j x hx 0 (by omega)
   have c1 := Ex.cellsL_at ks j x hx 1 (by omega)
   have c2 := Ex.cellsL_at ks j x hx 2 (by omega)
   rw [Ex.cells_eq] at c0 c1 c2
   rw [show 3 * j + 0 = j * 3 by omega] at c0
   rw [show 3 * j + 1 = j * 3 + 1 by omega] at c1
   rw [show 3 * j + 2 = j * 3 + 2 by omega] at c2
   simp only [List.getElem?_cons_zero, List.getElem?_cons_succ] at c0 c1 c2
   obtain ⟨q, hq⟩ : ∃ q, k + 2 * Ex.sizeL (ks.take j) = q := ⟨_, rfl⟩
   have m0 : D.marksL ((Ex.cellsL ks).take (j * 3)) = 2 * Ex.sizeL (ks.take j) := by rw [cellsL_take, marksL_cells]
   have m1 : D.marksL ((Ex.cellsL ks).take (j * 3 + 1)) = 2 * Ex.sizeL (ks.take j) + 1 := by rw [marks_step c0, m0]; rfl
   have m2 : D.marksL ((Ex.cellsL ks).take (j * 3 + 2)) = 2 * Ex.sizeL (ks.take j) + 2 := by rw [marks_step c1, m1]; rfl
   obtain ⟨g0, z0, gl, s0⟩ := h.int_cell hn (mkd_at c0 (Nat.le_refl _) k)
   obtain ⟨p1, p2⟩ := s0 (q : Int)
   have e1 := mkd_step c0 k
   rw [m0, hq] at e1
   rw [show D.mark (D.int x.kind) q = D.int (q : Int) from by simp only [D.mark]] at e1
   rw [e1] at p1
   obtain ⟨g1, z1, -, s1⟩ := p1.int_cell hn (mkd_at c1 (Nat.le_refl _) k)
   obtain ⟨q1, q2⟩ := s1 ((q : Int) + 1)
   have e2 := mkd_step c1 k
   rw [m1, show k + (2 * Ex.sizeL (ks.take j) + 1) = q + 1 by omega] at e2
   rw [show D.mark (D.int x.num) (q + 1) = D.int ((q : Int) + 1) from by simp only [D.mark]; congr 1] at e2
   rw [e2] at q1
   obtain ⟨a', c', G, g2, z2, -, -, hGF, hGn, hG, s2⟩ := q1.sl_cell hn (mkd_at c2 (Nat.le_refl _) k)
   have e3 := mkd_step c2 k
   rw [m2, show k + (2 * Ex.sizeL (ks.take j) + 2) = q + 2 by omega] at e3
   rw [show j * 3 + 2 + 1 = (j + 1) * 3 by omega] at e3
   have He3 := Lib.hid e3
   have q12 := hO.trans (p2.trans q2)
   simp only [← Nat.add_assoc] at s2 q12
   have Hs2 := Lib.hid s2
   have Hq12 := Lib.hid q12
   have Hq : Hid (q + 2 + 2 * Ex.sizeL x.kids = k + 2 * Ex.sizeL (ks.take (j + 1))) := by show _ = _; omega
   have hqb : q + 2 + 2 * Ex.sizeL x.kids ≤ 1000000000000 := by omega
   have hxN : Ex.sizeL x.kids < N := by omega
   rw [← Nat.add_assoc] at g1 z1 g2 z2
   rw [hq]
   simp only [← Nat.add_assoc] at hG g2 z2
   clear q12 e1 e2 e3 m0 m1 m2 c0 c1 c2 hq p1 p2 q1 q2 s0 s1 s2 hxs hxm htk htl hO h hx
   go_wp2_with fail
   rw [show ((q : Int) + 1 + 1) = ((q + 2 : Nat) : Int) from by omega]
   refine (ih _ hxN x.kids a' c' (q + 2) G _ (Nat.le_refl _) hG hGn hqb).mono ?_
   rintro e w1 ⟨rfl, hm, hO2⟩
   obtain ⟨t1, t2⟩ := Hs2.out w1 _ hm hO2
   have t3 : Ow w1 (.sl 3 ks.length (mkd (Ex.cellsL ks) ((j + 1) * 3) k)) (.slice (some ⟨b, o, none⟩) ks.length c) F := by rw [← He3.out]; exact t1
   have Hfin := Lib.hid (And.intro t3 (Hq12.out.trans t2))
   clear t1 t2 t3 hm hO2 hG g2 z2 g0 z0 g1 z1
   rw [Hq.out]
   go_wp2_with fail
   go_roundw
   case rel => exact ⟨j + 1, by omega, by go_num, rfl, Hfin.out.1, Hfin.out.2⟩
   case measure => simp [intOf]; omega
  ·
   obtain rfl : j = ks.length := by omega
   have e := mkd_all (Ex.cellsL ks) k
   rw [Ex.cellsL_length] at e
   rw [e] at h
   rw [List.take_length] at *
   go_wp2_with fail
   go_ret
   exact ⟨rfl, h, hO⟩
theorem markExpr_i {kd n : Int} {ks : List Ex} {s : Option Addr} {c k : Nat} {F : List Nat} {w : World} (h : Ow w (kidsD ks) (.slice s ks.length c) F) (hn : F.Nodup) (hk : k + 2 * Ex.sizeL ks ≤ 1000000000000) :
  Calls Tryz.prog 23 #[.agg #[.int .i64 kd, .int .i64 n, .slice s ks.length c], .int .i64 k] w fun e w' => e = .returned (.int .i64 (k + 2 * Ex.sizeL ks : Nat)) ∧ Ow w' (D.mark (kidsD ks) k) (.slice s ks.length c) F ∧ Only F w w' := by
 have hO : Only F w (w.alloc (.cells #[.int .i64 kd, .int .i64 n, .slice s ks.length c] 34)) := (Only.refl _ _).alloc _
 have h' := h.keep (w' := w.alloc (.cells #[.int .i64 kd, .int .i64 n, .slice s ks.length c] 34)) fun b hb => Below.heap_alloc w _ b (h.lt b hb)
 go_enter Tryz.func23, Tryz.ntmps23
 go_wp2_with fail
 refine (markExprS_all _ ks s c k F _ (Nat.le_refl _) h' hn hk).mono ?_
 rintro e w1 ⟨rfl, hm, hO2⟩
 go_wp2_with fail
 go_ret
 exact ⟨rfl, hm, hO.trans hO2⟩
set_option maxHeartbeats 2000000 in
theorem heldExprS_all (N : Nat) : ∀ (ks : List Ex) (s : Option Addr) (c k : Nat) (w : World), Ex.sizeL ks ≤ N → Rd w (D.mark (kidsD ks) k) (.slice s ks.length c) → k + 2 * Ex.sizeL ks ≤ 1000000000000 →
  Calls Tryz.prog 82 #[.slice s ks.length c, .int .i64 k] w fun e w' => e = .returned (.int .i64 (k + 2 * Ex.sizeL ks : Nat)) ∧ w = w' := by
 induction N using Nat.strongRecOn with
 | _ N ih =>
 intro ks s c k w hN h hk
 have hkl := Ex.length_le_sizeL ks
 have h' := h
 unfold kidsD D.mark at h'
 obtain ⟨-, hln, hcp, -, -, h4⟩ := h'.sl_at
 unfold maxLen at hcp
 clear h'
 go_enter Tryz.func82, Tryz.ntmps82
 go_wp2_with fail
 go_loop [1, 5] (fun q i => ∃ j : Nat, j ≤ ks.length ∧ i = .int .i64 j ∧ q = .int .i64 (k + 2 * Ex.sizeL (ks.take j) : Nat)) (fun _ i => ks.length - (intOf i).toNat)
 case atStart => exact ⟨0, by omega, rfl, by simp [Ex.sizeL]⟩
 case round =>
  obtain ⟨j, hj, rfl, rfl⟩ := hrel
  by_cases hlt : j < ks.length
  ·
   obtain ⟨x, hx⟩ : ∃ e, ks[j]? = some e := ⟨_, List.getElem?_eq_getElem hlt⟩
   rcases h4 with h4 | ⟨b, o, rfl, h4⟩
   ·
    omega
   have hxs := Ex.size_eq x
   have hxm := Ex.sizeL_mem (List.mem_of_getElem? hx)
   have htk := Ex.sizeL_take_succ hx
   have htl := Ex.sizeL_take_le ks (j + 1)
   have c0 := Ex.cellsL_at ks j x hx 0 (by omega)
   have c1 := Ex.cellsL_at ks j x hx 1 (by omega)
   have c2 := Ex.cellsL_at ks j x hx 2 (by omega)
   rw [Ex.cells_eq] at c0 c1 c2
   rw [show 3 * j + 0 = j * 3 by omega] at c0
   rw [show 3 * j + 1 = j * 3 + 1 by omega] at c1
   rw [show 3 * j + 2 = j * 3 + 2 by omega] at c2
   simp only [List.getElem?_cons_zero, List.getElem?_cons_succ] at c0 c1 c2
   obtain ⟨q, hq⟩ : ∃ q, k + 2 * Ex.sizeL (ks.take j) = q := ⟨_, rfl⟩
   have m0 : D.marksL ((Ex.cellsL ks).take (j * 3)) = 2 * Ex.sizeL (ks.take j) := by rw [cellsL_take, marksL_cells]
   have m1 : D.marksL ((Ex.cellsL ks).take (j * 3 + 1)) = 2 * Ex.sizeL (ks.take j) + 1 := by rw [marks_step c0, m0]; rfl
   have m2 : D.marksL ((Ex.cellsL ks).take (j * 3 + 2)) = 2 * Ex.sizeL (ks.take j) + 2 := by rw [marks_step c1, m1]; rfl
   have a0 := markL_at c0 k
   have a1 := markL_at c1 k
   have a2 := markL_at c2 k
   rw [m0, hq] at a0
   rw [m1, show k + (2 * Ex.sizeL (ks.take j) + 1) = q + 1 by omega] at a1
   rw [m2, show k + (2 * Ex.sizeL (ks.take j) + 2) = q + 2 by omega] at a2
   obtain ⟨x0, g0, r0⟩ := h4 _ _ a0
   obtain ⟨x1, g1, r1⟩ := h4 _ _ a1
   obtain ⟨x2, g2, r2⟩ := h4 _ _ a2
   simp only [D.mark, Rd] at r0 r1
   subst r0 r1
   obtain ⟨a', c', rfl, -⟩ : ∃ a' c', x2 = .slice a' x.kids.length c' ∧ True := by
    unfold kidsD D.mark at r2
    obtain ⟨a', c', e, _⟩ := r2.slice
    exact ⟨a', c', e, trivial⟩
   have Hq : Hid (q + 2 + 2 * Ex.sizeL x.kids = k + 2 * Ex.sizeL (ks.take (j + 1))) := by show _ = _; omega
   have hqb : q + 2 + 2 * Ex.sizeL x.kids ≤ 1000000000000 := by omega
   have hxN : Ex.sizeL x.kids < N := by omega
   rw [← Nat.add_assoc] at g1 g2
   rw [hq]
   rw [show ((q + 1 : Nat) : Int) = (q : Int) + 1 from by omega] at g1
   clear m0 m1 m2 c0 c1 c2 a0 a1 a2 hq hxs hxm htk htl h hx h4
   go_wp2_with fail
   rw [show ((q : Int) + 1 + 1) = ((q + 2 : Nat) : Int) from by omega]
   refine (ih _ hxN x.kids a' c' (q + 2) _ (Nat.le_refl _) r2 hqb).mono ?_
   rintro e w' ⟨rfl, rfl⟩
   rw [Hq.out]
   clear g0 g1 g2
   go_wp2_with fail
   go_round
   case rel => exact ⟨j + 1, by omega, by go_num, rfl⟩
   case measure => simp [intOf]; omega
  ·
   obtain rfl : j = ks.length := by omega
   rw [List.take_length] at *
   go_wp2_with fail
   go_ret
   exact ⟨rfl, rfl⟩
theorem heldExpr_i {kd n : Int} {ks : List Ex} {s : Option Addr} {c k : Nat} {w : World} (h : Rd w (D.mark (kidsD ks) k) (.slice s ks.length c)) (hk : k + 2 * Ex.sizeL ks ≤ 1000000000000) :
  Calls Tryz.prog 25 #[.agg #[.int .i64 kd, .int .i64 n, .slice s ks.length c], .int .i64 k] w fun e w' => e = .returned (.int .i64 (k + 2 * Ex.sizeL ks : Nat)) ∧ Below w.heap.size w w' := by
 have h' := h.alloc (.cells #[.int .i64 kd, .int .i64 n, .slice s ks.length c] 34)
 go_enter Tryz.func25, Tryz.ntmps25
 go_wp2_with fail
 refine (heldExprS_all _ ks s c k _ (Nat.le_refl _) h' hk).mono ?_
 rintro e w' ⟨rfl, rfl⟩
 go_wp2_with fail
 go_ret
 exact ⟨rfl, by (repeat' first | exact Below.refl _ _ | assumption | apply Below.alloc | apply Below.drew | apply Below.setCell | omega | (simp; done) | (simp; omega))⟩
theorem Ows.single {w : World} {d : D} {v : Value} {F : List Nat} (h : Ows w [d] [v] F) : Ow w d v F := by
 simp only [Ows] at h
 obtain ⟨x, r, G, K, e1, e2, h1, e3, rfl⟩ := h
 simp only [List.cons.injEq] at e1
 obtain ⟨rfl, -⟩ := e1
 rw [e2, List.append_nil]
 exact h1
theorem Ow.single {w : World} {d : D} {v : Value} {F : List Nat} (h : Ow w d v F) : Ows w [d] [v] F := by
 have := Ows.cons h Ows.nil
 simpa using this
theorem markExprL_i {kd n : Int} {ks : List Ex} {s : Option Addr} {c k : Nat} {F : List Nat} {w : World} (h : Ows w [kidsD ks] [.slice s ks.length c] F) (hn : F.Nodup) (hk : k + 2 * Ex.sizeL ks ≤ 1000000000000) :
  Calls Tryz.prog 23 #[.agg #[.int .i64 kd, .int .i64 n, .slice s ks.length c], .int .i64 k] w fun e w' => e = .returned (.int .i64 (k + 2 * Ex.sizeL ks : Nat)) ∧ Ows w' (D.markL [kidsD ks] k) [.slice s ks.length c] F ∧ Only F w w' :=
 (markExpr_i h.single hn hk).mono fun _ _ ⟨h1, h2, h3⟩ => ⟨h1, h2.single, h3⟩
theorem heldExprL_i {kd n : Int} {ks : List Ex} {s : Option Addr} {c k : Nat} {w : World} (h : Rds w (D.markL [kidsD ks] k) [.slice s ks.length c]) (hk : k + 2 * Ex.sizeL ks ≤ 1000000000000) :
  Calls Tryz.prog 25 #[.agg #[.int .i64 kd, .int .i64 n, .slice s ks.length c], .int .i64 k] w fun e w' => e = .returned (.int .i64 (k + 2 * Ex.sizeL ks : Nat)) ∧ Below w.heap.size w w' :=
 heldExpr_i (Rds.one h) hk
end Go.Proofs.YtfopdcdbelaapaaGreatDoor

namespace Go.Proofs.YtfopdcdbelaapaaGreatDoor
set_option linter.unusedVariables false
set_option linter.unusedSimpArgs false
open Go.ChangeShapes Go.WideShapes Go.ChangeAt Go.RowKit
def Szd (n : Nat) (left : Int) (e : Ending) : Prop := ∃ r : Int, e = .returned (.int .i64 r) ∧ r ≤ left ∧ -1 ≤ r ∧ (0 ≤ r → (n : Int) + r ≤ left)
def SzS (N : Nat) : Prop := ∀ (ks : List Ex) (s : Option Addr) (cap : Nat) (left : Int) (w : World), Ex.sizeL ks ≤ N → Rd w (kidsD ks) (.slice s ks.length cap) → 0 ≤ left → left ≤ 1048576 →
  Calls Tryz.prog 64 #[.slice s ks.length cap, .int .i64 left] w fun e w' => Szd (Ex.sizeL ks) left e ∧ Below w.heap.size w w'
theorem szExpr_of {N : Nat} (hS : SzS N) (k n : Int) (ks : List Ex) (s : Option Addr) (cap : Nat) (left : Int) (w : World) (hN : Ex.sizeL ks ≤ N) (hr : Rd w (kidsD ks) (.slice s ks.length cap)) (h0 : 0 ≤ left) (h1 : left ≤ 1048576) :
  Calls Tryz.prog 14 #[.agg #[.int .i64 k, .int .i64 n, .slice s ks.length cap], .int .i64 left] w fun e w' => Szd (Ex.sizeL ks) left e ∧ Below w.heap.size w w' := by
 go_enter Tryz.func14, Tryz.ntmps14
 go_wp2_with fail
 refine (hS ks s cap left _ hN (hr.alloc _) h0 h1).mono ?_
 rintro e w1 ⟨⟨r, rfl, r1, r2, r3⟩, hb⟩
 have hB : Below w.heap.size w w1 := Below.on (by (repeat' first | exact Below.refl _ _ | assumption | apply Below.alloc | apply Below.drew | apply Below.setCell | omega | (simp; done) | (simp; omega))) hb (by simp)
 clear hb
 go_wp2
 ·
  go_ret
  exact ⟨⟨-1, rfl, by omega, by omega, by omega⟩, hB⟩
 ·
  go_ret
  exact ⟨⟨r, rfl, r1, r2, r3⟩, hB⟩
set_option maxHeartbeats 400000 in
theorem szExprS_all (N : Nat) : SzS N := by
 induction N using Nat.strongRecOn with
 | _ N ih =>
 intro ks s cap left w hN hr h0 h1
 obtain ⟨-, hlen, hcap, -, -⟩ := kid_at hr
 unfold maxLen at hcap
 have hsz := Ex.length_le_sizeL ks
 by_cases hneg : left - (ks.length : Int) < 0
 ·
  go_enter Tryz.func64, Tryz.ntmps64
  go_wp2_with fail
  go_ret
  exact ⟨⟨-1, rfl, by omega, by omega, by omega⟩, Below.refl _ _⟩
 ·
  have hd : decide (left - (ks.length : Int) < 0) = false := by simpa using hneg
  go_enter Tryz.func64, Tryz.ntmps64
  go_wp2_with fail
  go_loopw [1, 5] (fun l i wr => ∃ (k : Nat) (r : Int), k ≤ ks.length ∧ i = .int .i64 k ∧ l = .int .i64 r ∧ 0 ≤ r ∧ (ks.length : Int) + (Ex.sizeL (ks.take k) : Int) - k + r ≤ left ∧ r ≤ left ∧ Below w.heap.size w wr) (fun _ i _ => ks.length - (intOf i).toNat)
  case atStart => exact ⟨0, _, by omega, rfl, rfl, by omega, by simp [Ex.sizeL]; omega, by omega, Below.refl _ _⟩
  case round =>
   obtain ⟨k, r, hk, rfl, rfl, hr0, hr1, hr2, hB⟩ := hrel
   by_cases hlt : k < ks.length
   ·
    obtain ⟨e, he⟩ : ∃ e, ks[k]? = some e := ⟨_, List.getElem?_eq_getElem hlt⟩
    obtain ⟨b, o, rfl⟩ := kid_some hr (by intro h; simp [h] at hlt)
    obtain ⟨hbl, s', c', g0, g1, g2, gr⟩ := kid_in (hr.below hB) he
    have hse := Ex.size_eq e
    have hmem := Ex.sizeL_mem (List.mem_of_getElem? he)
    have htk := Ex.sizeL_take_succ he
    have Htk := Lib.hid htk
    have Hse := Lib.hid hse
    have hlt' : Ex.sizeL e.kids < N := by omega
    clear htk hse
    go_wp2_with fail
    refine (szExpr_of (ih _ hlt') _ _ _ _ _ _ _ (Nat.le_refl _) gr hr0 (by omega)).mono ?_
    rintro e1 w1 ⟨⟨r', rfl, r1, r2, r3⟩, hb⟩
    have hB1 : Below w.heap.size w w1 := Below.on hB hb hB.size
    by_cases hr' : r' < 0
    ·
     go_wp2_with fail
     go_ret
     exact ⟨⟨-1, rfl, by omega, by omega, by omega⟩, hB1⟩
    ·
     have hd' : decide (r' < 0) = false := by simpa using hr'
     go_wp2_with fail
     go_roundw
     case rel =>
      have := Htk.out
      have := Hse.out
      exact ⟨k + 1, r', by omega, by go_num, rfl, by omega, by omega, by omega, hB1⟩
     case measure => simp [intOf]; omega
   ·
    obtain rfl : k = ks.length := by omega
    have hfull : Ex.sizeL (ks.take ks.length) = Ex.sizeL ks := by rw [List.take_length]
    have H := Lib.hid hfull
    clear hfull
    go_wp2_with fail
    go_ret
    have := H.out
    exact ⟨⟨r, rfl, by omega, by omega, by omega⟩, hB⟩
theorem szExpr_i {k n : Int} {ks : List Ex} {s : Option Addr} {cap : Nat} {left : Int} {w : World} (hr : Rd w (kidsD ks) (.slice s ks.length cap)) (h0 : 0 ≤ left) (h1 : left ≤ 1048576) :
  Calls Tryz.prog 14 #[.agg #[.int .i64 k, .int .i64 n, .slice s ks.length cap], .int .i64 left] w fun e w' => Szd (Ex.sizeL ks) left e ∧ Below w.heap.size w w' :=
 szExpr_of (szExprS_all _) k n ks s cap left w (Nat.le_refl _) hr h0 h1
end Go.Proofs.YtfopdcdbelaapaaGreatDoor

namespace Go.Proofs.YtfopdcdbelaapaaGreatDoor
set_option linter.unusedVariables false
set_option linter.unusedSimpArgs false
open Go.ChangeShapes Go.WideShapes Go.ChangeAt Go.RowKit
theorem info_implExpr : (Tryz.prog.info? 34).map (fun i => (i.zero, i.size, i.bytes)) = some (some (.agg #[.int .i64 0, .int .i64 0, .slice none 0 0]), 3, 40) := by kernel_rfl
def ToS (N : Nat) : Prop := ∀ (ks : List Ex) (s : Option Addr) (cap : Nat) (w : World), Ex.sizeL ks ≤ N → Rd w (kidsD ks) (.slice s ks.length cap) → Ex.sizeL ks ≤ 1048576 →
  Calls Tryz.prog 71 #[.slice s ks.length cap] w fun e w' => ∃ s' c', e = .returned (.slice s' ks.length c') ∧ Fresh w w' (kidsD ks) (.slice s' ks.length c') ∧ Below w.heap.size w w'
theorem toExpr_of {N : Nat} (hS : ToS N) (k n : Int) (ks : List Ex) (s : Option Addr) (cap : Nat) (w : World) (hN : Ex.sizeL ks ≤ N) (hr : Rd w (kidsD ks) (.slice s ks.length cap)) (h1 : Ex.sizeL ks ≤ 1048576) :
  Calls Tryz.prog 18 #[.agg #[.int .i64 k, .int .i64 n, .slice s ks.length cap]] w fun e w' => ∃ s' c', e = .returned (.agg #[.int .i64 k, .int .i64 n, .slice s' ks.length c']) ∧ Fresh w w' (kidsD ks) (.slice s' ks.length c') ∧ Below w.heap.size w w' := by
 go_enter Tryz.func18, Tryz.ntmps18
 go_wp2_with fail
 refine (hS ks s cap _ hN (by repeat (first | exact hr | apply Rd.alloc)) h1).mono ?_
 rintro e w1 ⟨s', c', rfl, hfr, hb⟩
 obtain ⟨hc, hf, hz⟩ := bcell hb
 simp at hz
 have q0 : w.heap.size < w1.heap.size := by omega
 have q1 : w.heap.size + 1 < w1.heap.size := by omega
 have q2 : w.heap.size + 1 + 1 < w1.heap.size := by omega
 have hB : Below w.heap.size w w1 := Below.on (by (repeat' first | exact Below.refl _ _ | assumption | apply Below.alloc | apply Below.drew | apply Below.setCell | omega | (simp; done) | (simp; omega))) hb (by simp; omega)
 clear hb
 go_wp2
 refine bodyPost_ret (v := .agg #[.int .i64 k, .int .i64 n, .slice s' ks.length c']) (by simp [results, Tryz.results18, go_sem, hc]) rfl ⟨s', c', rfl, ?_, by (repeat' first | exact Below.refl _ _ | assumption | apply Below.alloc | apply Below.drew | apply Below.setCell | omega | (simp; done) | (simp; omega))⟩
 refine Fresh.from (hfr.keep fun b h1 _ => ?_) (by simp; omega)
 simp at h1
 rw [Below.heap_setCell _ _ _ _ (by simp; omega), Below.heap_setCell _ _ _ _ (by simp; omega), Below.heap_setCell _ _ _ _ (by simp; omega), Below.heap_setCell _ _ _ _ (by simp; omega)]
theorem toExprS_all (N : Nat) : ToS N := by
 induction N using Nat.strongRecOn with
 | _ N ih =>
 intro ks s cap w hN hr h1
 obtain ⟨-, hlen, hcap, -, -⟩ := kid_at hr
 unfold maxLen at hcap
 have hsz := Ex.length_le_sizeL ks
 obtain ⟨i0, hi, hz0, hz1, hz2⟩ := info_parts info_implExpr
 go_enter Tryz.func71, Tryz.ntmps71
 go_wp2_with (at_make; refine wpList_make_full _ rfl _ _ 32 rfl w.heap.size 34 i0 (.agg #[.int .i64 0, .int .i64 0, .slice none 0 0]) 3 Tryz.underlying32 hi hz0 hz1 .i64 .i64 _ _ ks.length rfl rfl rfl rfl (by rw [hz2]; omega) (by unfold maxLen; omega) (Nat.le_refl _) ?_; intro w0 hown hgrow)
 have hp := Part.start hown
 have hB0 : Below w.heap.size w w0 := Below.grown (Below.refl _ _) hgrow (Nat.le_refl _) (by simp)
 have hz0' := hp.lt
 clear hown hgrow
 go_loopw [4] (fun i wr => ∃ k : Nat, k ≤ ks.length ∧ i = .int .i64 k ∧ Part wr w.heap.size 34 (Ex.cellsL (ks.take k)) (ks.length * 3) ∧ Below w.heap.size w wr) (fun i _ => ks.length - (intOf i).toNat)
 case atStart => exact ⟨0, by omega, rfl, by simpa [Ex.cellsL] using hp, hB0⟩
 case round =>
  clear hp hB0 hz0'
  obtain ⟨k, hk, rfl, hp, hB⟩ := hrel
  by_cases hlt : k < ks.length
  ·
   obtain ⟨e, he⟩ : ∃ e, ks[k]? = some e := ⟨_, List.getElem?_eq_getElem hlt⟩
   obtain ⟨b, o, rfl⟩ := kid_some hr (by intro h; simp [h] at hlt)
   obtain ⟨hbl, s', c', g0, g1, g2, gr⟩ := kid_in (hr.below hB) he
   have hlt' : Ex.sizeL e.kids < N := by
    have := Ex.size_eq e
    have := Ex.sizeL_mem (List.mem_of_getElem? he)
    omega
   have hle : Ex.sizeL e.kids ≤ 1048576 := by
    have := Ex.size_eq e
    have := Ex.sizeL_mem (List.mem_of_getElem? he)
    omega
   go_wp2_with fail
   refine (toExpr_of (ih _ hlt') _ _ _ _ _ _ (Nat.le_refl _) gr hle).mono ?_
   rintro e1 w1 ⟨s2, c2, rfl, ⟨G, hG1, hG2, hG3⟩, hb⟩
   have hlt2 := hp.lt
   have hz := hb.size
   obtain ⟨y0, d0⟩ := (hp.below hb).cell (k * 3) (by omega)
   obtain ⟨y1, d1⟩ := (hp.below hb).cell (k * 3 + 1) (by omega)
   obtain ⟨y2, d2⟩ := (hp.below hb).cell (k * 3 + 2) (by omega)
   have z0 := (hp.below hb).frozen (k * 3)
   have z1 := (hp.below hb).frozen (k * 3 + 1)
   have z2 := (hp.below hb).frozen (k * 3 + 2)
   have hst := hp.step hb (Ows.three (k := e.kind) (n := e.num) hG1) hG2 hG3 (o := k * 3) (by rw [Ex.cellsL_length, List.length_take, Nat.min_eq_left hk]) (by simp; omega)
   rw [← Ex.cellsL_take_succ he] at hst
   have Hst : Hid (Part (((w1.setCell ⟨w.heap.size, k * 3, none⟩ (.int .i64 e.kind)).setCell ⟨w.heap.size, k * 3 + 1, none⟩ (.int .i64 e.num)).setCell ⟨w.heap.size, k * 3 + 2, none⟩ (.slice s2 e.kids.length c2)) w.heap.size 34 (Ex.cellsL (ks.take (k + 1))) (ks.length * 3)) := hst
   have hB1 : Below w.heap.size w w1 := Below.on hB hb (by omega)
   clear hst
   go_wp2_with fail
   go_roundw
   case rel => exact ⟨k + 1, by omega, by go_num, Hst.out, by (repeat' first | exact Below.refl _ _ | assumption | apply Below.alloc | apply Below.drew | apply Below.setCell | omega | (simp; done) | (simp; omega))⟩
   case measure => simp [intOf]; omega
  ·
   obtain rfl : k = ks.length := by omega
   rw [List.take_length] at hp
   go_wp2_with fail
   go_ret
   exact ⟨_, _, rfl, hp.done (Nat.le_refl _) (Ex.cellsL_length ks) (Nat.le_refl _) (by unfold maxLen; omega), hB⟩
theorem toExpr_any (k n : Int) (ks : List Ex) (s : Option Addr) (cap : Nat) (w : World) (hr : Rd w (kidsD ks) (.slice s ks.length cap)) (h1 : Ex.sizeL ks ≤ 1048576) :
  Calls Tryz.prog 18 #[.agg #[.int .i64 k, .int .i64 n, .slice s ks.length cap]] w fun e w' => ∃ s' c', e = .returned (.agg #[.int .i64 k, .int .i64 n, .slice s' ks.length c']) ∧ Fresh w w' (kidsD ks) (.slice s' ks.length c') ∧ Below w.heap.size w w' :=
 toExpr_of (toExprS_all _) k n ks s cap w (Nat.le_refl _) hr h1
theorem toExpr_i {k n : Int} {ks : List Ex} {s : Option Addr} {cap : Nat} {w : World} (hr : Rd w (kidsD ks) (.slice s ks.length cap)) (h1 : Ex.sizeL ks ≤ 1048576) :
  Calls Tryz.prog 18 #[.agg #[.int .i64 k, .int .i64 n, .slice s ks.length cap]] w fun e w' => ∃ s' c', e = .returned (.agg #[.int .i64 k, .int .i64 n, .slice s' ks.length c']) ∧ Freshs w w' [kidsD ks] [.slice s' ks.length c'] ∧ Below w.heap.size w w' :=
 (toExpr_any k n ks s cap w hr h1).mono fun _ _ ⟨s', c', he, hf, hb⟩ => ⟨s', c', he, Freshs.one hf, hb⟩
end Go.Proofs.YtfopdcdbelaapaaGreatDoor

namespace Go.Proofs.YtfopdcdbelaapaaGreatDoor
set_option linter.unusedVariables false
set_option linter.unusedSimpArgs false
open Go.ChangeShapes Go.WideShapes Go.ChangeAt Go.RowKit Go.Sort
def EqS (N : Nat) : Prop := ∀ (ks js : List Ex) (s t : Option Addr) (cap cap' : Nat) (w : World), Ex.sizeL ks ≤ N → Rd w (kidsD ks) (.slice s ks.length cap) → Rd w (kidsD js) (.slice t js.length cap') →
  Calls Tryz.prog 78 #[.slice s ks.length cap, .slice t js.length cap'] w fun e w' => e = .returned (.bool (eqb ks js)) ∧ Below w.heap.size w w'
theorem eqExpr_of {N : Nat} (hS : EqS N) (k n k' n' : Int) (ks js : List Ex) (s t : Option Addr) (cap cap' : Nat) (w : World) (hN : Ex.sizeL ks ≤ N) (hr : Rd w (kidsD ks) (.slice s ks.length cap)) (hr' : Rd w (kidsD js) (.slice t js.length cap')) :
  Calls Tryz.prog 21 #[.agg #[.int .i64 k, .int .i64 n, .slice s ks.length cap], .agg #[.int .i64 k', .int .i64 n', .slice t js.length cap']] w fun e w' => e = .returned (.bool (eqb (Ex.mk k n ks) (Ex.mk k' n' js))) ∧ Below w.heap.size w w' := by
 by_cases h1 : k = k'
 ·
  subst h1
  by_cases h2 : n = n'
  ·
   subst h2
   have b1 : (k != k) = false := by simp
   have b2 : (n != n) = false := by simp
   have e1 : eqb (Ex.mk k n ks) (Ex.mk k n js) = eqb ks js := by
    by_cases h : ks = js
    ·
     rw [eqb_true h, eqb_true (by rw [h])]
    ·
     rw [eqb_false h, eqb_false (by simp [h])]
   rw [e1]
   clear e1
   go_enter Tryz.func21, Tryz.ntmps21
   go_wp2_with fail
   refine (hS ks js s t cap cap' _ hN (by repeat (first | exact hr | apply Rd.alloc)) (by repeat (first | exact hr' | apply Rd.alloc))).mono ?_
   rintro e w1 ⟨rfl, hb⟩
   have hB : Below w.heap.size w w1 := Below.on (by (repeat' first | exact Below.refl _ _ | assumption | apply Below.alloc | apply Below.drew | apply Below.setCell | omega | (simp; done) | (simp; omega))) hb (by simp; omega)
   clear hb
   go_wp2
   all_goals go_ret
   all_goals exact ⟨by simp_all, hB⟩
  ·
   have b1 : (k != k) = false := by simp
   have b2 : (n != n') = true := by simp [h2]
   have e1 : eqb (Ex.mk k n ks) (Ex.mk k n' js) = false := eqb_false (by simp [h2])
   rw [e1]
   go_enter Tryz.func21, Tryz.ntmps21
   go_wp2_with fail
   go_ret
   exact ⟨rfl, by (repeat' first | exact Below.refl _ _ | assumption | apply Below.alloc | apply Below.drew | apply Below.setCell | omega | (simp; done) | (simp; omega))⟩
 ·
  have b1 : (k != k') = true := by simp [h1]
  have e1 : eqb (Ex.mk k n ks) (Ex.mk k' n' js) = false := eqb_false (by simp [h1])
  rw [e1]
  go_enter Tryz.func21, Tryz.ntmps21
  go_wp2_with fail
  go_ret
  exact ⟨rfl, by (repeat' first | exact Below.refl _ _ | assumption | apply Below.alloc | apply Below.drew | apply Below.setCell | omega | (simp; done) | (simp; omega))⟩
theorem eqExprS_all (N : Nat) : EqS N := by
 induction N using Nat.strongRecOn with
 | _ N ih =>
 intro ks js s t cap cap' w hN hr hr'
 obtain ⟨-, hlen, hcap, -, -⟩ := kid_at hr
 obtain ⟨-, hlen', hcap', -, -⟩ := kid_at hr'
 unfold maxLen at hcap hcap'
 by_cases hl : ks.length = js.length
 ·
  have b1 : ((ks.length : Int) != (js.length : Int)) = false := by simp [hl]
  have Hl := Lib.hid hl
  clear hl
  go_enter Tryz.func78, Tryz.ntmps78
  go_wp2_with fail
  go_loopw [5] (fun i wr => ∃ k : Nat, k ≤ ks.length ∧ i = .int .i64 k ∧ ks.take k = js.take k ∧ Below w.heap.size w wr) (fun i _ => ks.length - (intOf i).toNat)
  case atStart => exact ⟨0, by omega, rfl, by simp, Below.refl _ _⟩
  case round =>
   obtain ⟨k, hk, rfl, hpre, hB⟩ := hrel
   have Hpre := Lib.hid hpre
   clear hpre
   by_cases hlt : k < ks.length
   ·
    have hlt' : k < js.length := by have := Hl.out; omega
    obtain ⟨e, he⟩ : ∃ e, ks[k]? = some e := ⟨_, List.getElem?_eq_getElem hlt⟩
    obtain ⟨f, hf⟩ : ∃ e, js[k]? = some e := ⟨_, List.getElem?_eq_getElem hlt'⟩
    obtain ⟨b, o, rfl⟩ := kid_some hr (by intro h; simp [h] at hlt)
    obtain ⟨c, p, rfl⟩ := kid_some hr' (by intro h; simp [h] at hlt')
    obtain ⟨-, s', c', g0, g1, g2, gr⟩ := kid_in (hr.below hB) he
    obtain ⟨-, t', d', k0, k1, k2, kr⟩ := kid_in (hr'.below hB) hf
    have hltN : Ex.sizeL e.kids < N := by
     have := Ex.size_eq e
     have := Ex.sizeL_mem (List.mem_of_getElem? he)
     omega
    have ha := Int.natCast_nonneg k
    have hb : (k : Int) < (ks.length : Int) := by omega
    have hb' : (k : Int) < (js.length : Int) := by omega
    have i0 := fun d os => cell_regrown g0 d os
    have i1 := fun d os => cell_regrown g1 d os
    have i2 := fun d os => cell_regrown g2 d os
    have j0 := fun d os => cell_regrown k0 d os
    have j1 := fun d os => cell_regrown k1 d os
    have j2 := fun d os => cell_regrown k2 d os
    clear g0 g1 g2 k0 k1 k2
    go_wp2_with fail
    refine Go.wp_region_quiet_below (by kernel_rfl) (by kernel_rfl) ?_
    repeat (quiet_step (exact Calls.regrown_of (eqExpr_of (ih _ hltN) _ _ _ _ _ _ _ _ _ _ _ (Nat.le_refl _) (gr.below (below_regrown _ _ _)) (kr.below (below_regrown _ _ _)))))
    refine wpQuiet_nil ?_; intro _ hw'; obtain ⟨⟨dq, osq⟩, hw''⟩ := hw'; subst hw''; have hq := below_regrown wr dq osq; revert hq; generalize grow (redrawn wr dq) osq = w1; intro hq
    have hB1 : Below w.heap.size w w1 := Below.on hB hq hB.size
    clear hq i0 i1 i2 j0 j1 j2
    by_cases hef : e = f
    ·
     have c1 : eqb (Ex.mk e.kind e.num e.kids) (Ex.mk f.kind f.num f.kids) = true := eqb_true (by rw [hef])
     have Hst : Hid (ks.take (k + 1) = js.take (k + 1)) := by
      have h1 := List.getElem?_eq_some_iff.1 he
      have h2 := List.getElem?_eq_some_iff.1 hf
      show _ = _
      rw [List.take_succ_eq_append_getElem hlt, List.take_succ_eq_append_getElem hlt', Hpre.out, h1.2, h2.2, hef]
     clear hef
     simp only [c1, Bool.not_true]
     go_wp2_with fail
     go_roundw
     case rel => exact ⟨k + 1, by omega, by go_num, Hst.out, hB1⟩
     case measure => simp [intOf]; omega
    ·
     have c1 : eqb (Ex.mk e.kind e.num e.kids) (Ex.mk f.kind f.num f.kids) = false := eqb_false (by rw [← Ex.eta, ← Ex.eta]; exact hef)
     have c2 : eqb ks js = false := eqb_false (by
      intro h
      rw [h] at he
      exact hef (Option.some.inj (he.symm.trans hf)))
     simp only [c1, Bool.not_false]
     go_wp2_with fail
     go_ret
     exact ⟨by first | rfl | (rw [c2]; rfl), hB1⟩
   ·
    obtain rfl : k = ks.length := by omega
    have c2 : eqb ks js = true := eqb_true (by
     have := Hpre.out
     rwa [List.take_length, Hl.out, List.take_length] at this)
    go_wp2_with fail
    go_ret
    exact ⟨by first | rfl | (rw [c2]; rfl), hB⟩
 ·
  have b1 : ((ks.length : Int) != (js.length : Int)) = true := by simp; omega
  have c2 : eqb ks js = false := eqb_false (by intro h; rw [h] at hl; exact hl rfl)
  go_enter Tryz.func78, Tryz.ntmps78
  go_wp2_with fail
  go_ret
  exact ⟨by first | rfl | (rw [c2]; rfl), Below.refl _ _⟩
theorem eqExpr_i {k n k' n' : Int} {ks js : List Ex} {s t : Option Addr} {cap cap' : Nat} {w : World} (hr : Rd w (kidsD ks) (.slice s ks.length cap)) (hr' : Rd w (kidsD js) (.slice t js.length cap')) :
  Calls Tryz.prog 21 #[.agg #[.int .i64 k, .int .i64 n, .slice s ks.length cap], .agg #[.int .i64 k', .int .i64 n', .slice t js.length cap']] w fun e w' => e = .returned (.bool (eqb (Ex.mk k n ks) (Ex.mk k' n' js))) ∧ Below w.heap.size w w' :=
 eqExpr_of (eqExprS_all _) k n k' n' ks js s t cap cap' w (Nat.le_refl _) hr hr'
end Go.Proofs.YtfopdcdbelaapaaGreatDoor
