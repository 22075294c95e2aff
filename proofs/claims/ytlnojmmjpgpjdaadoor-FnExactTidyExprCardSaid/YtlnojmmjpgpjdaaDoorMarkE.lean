/-
  markExprS, heldExprS, markExpr, heldExpr.
-/
import Derived.Test.YtlnojmmjpgpjdaaDoorMark
import Derived.Test.YtlnojmmjpgpjdaaDoorOwn
namespace Go.Proofs.YtlnojmmjpgpjdaaDoor
open Go.ChangeShapes Go.WideShapes Go.ChangeAt Go.RowKit Go.Sort

theorem marksL_cells : ∀ ks : List Ex, D.marksL (Ex.cellsL ks) = 2 * Ex.sizeL ks
  | [] => by simp [Ex.cellsL, D.marksL, Ex.sizeL]
  | .mk k n us :: r => by
    have h1 := marksL_cells us
    have h2 := marksL_cells r
    simp only [Ex.cellsL, Ex.cells, List.cons_append, List.nil_append, D.marksL, D.marks, Ex.sizeL, Ex.size, h1, h2]
    omega
theorem cellsL_take : ∀ (ks : List Ex) (j : Nat), (Ex.cellsL ks).take (j * 3) = Ex.cellsL (ks.take j)
  | [], j => by simp [Ex.cellsL]
  | e :: r, 0 => by simp [Ex.cellsL]
  | e :: r, j + 1 => by
    simp only [List.take_succ_cons, Ex.cellsL]
    rw [← cellsL_take r j, List.take_append, Ex.cells_length, List.take_of_length_le (by rw [Ex.cells_length]; omega)]
    congr 2
    omega
theorem marks_kids (ks : List Ex) : D.marks (kidsD ks) = 2 * Ex.sizeL ks := by unfold kidsD; simp only [D.marks, marksL_cells]

set_option maxHeartbeats 2000000 in
theorem markExprS_all (N : Nat) : ∀ (ks : List Ex) (s : Option Addr) (c k : Nat) (F : List Nat) (w : World), Ex.sizeL ks ≤ N → Ow w (kidsD ks) (.slice s ks.length c) F → F.Nodup → k + 2 * Ex.sizeL ks ≤ 1000000000000 →
    Calls Tryd.prog 43 #[.slice s ks.length c, .int .i64 k] w fun e w' => e = .returned (.int .i64 (k + 2 * Ex.sizeL ks : Nat)) ∧ Ow w' (D.mark (kidsD ks) k) (.slice s ks.length c) F ∧ Only F w w' := by
  induction N using Nat.strongRecOn with
  | _ N ih =>
  intro ks s c k F w hN h hn hk
  have hkl := Ex.length_le_sizeL ks
  have H0 : Ow w (.sl 3 ks.length (mkd (Ex.cellsL ks) (0 * 3) k)) (.slice s ks.length c) F := by rw [Nat.zero_mul, mkd_zero]; exact h
  go_enter Tryd.func43, Tryd.ntmps43
  go_wp2_with fail
  go_loopw [1, 5] (fun q i wr => ∃ j : Nat, j ≤ ks.length ∧ i = .int .i64 j ∧ q = .int .i64 (k + 2 * Ex.sizeL (ks.take j) : Nat) ∧ Ow wr (.sl 3 ks.length (mkd (Ex.cellsL ks) (j * 3) k)) (.slice s ks.length c) F ∧ Only F w wr) (fun _ i _ => ks.length - (intOf i).toNat)
  case atStart => exact ⟨0, by omega, rfl, by simp [Ex.sizeL], H0, Only.refl _ _⟩
  case round =>
    clear h H0
    obtain ⟨j, hj, rfl, rfl, h, hO⟩ := hrel
    by_cases hlt : j < ks.length
    · obtain ⟨x, hx⟩ : ∃ e, ks[j]? = some e := ⟨_, List.getElem?_eq_getElem hlt⟩
      obtain ⟨b, o, rfl⟩ := h.spot (by omega)
      have hxs := Ex.size_eq x
      have hxm := Ex.sizeL_mem (List.mem_of_getElem? hx)
      have htk := Ex.sizeL_take_succ hx
      have htl := Ex.sizeL_take_le ks (j + 1)
      have c0 := Ex.cellsL_at ks j x hx 0 (by omega)
      have c1 := Ex.cellsL_at ks j x hx 1 (by omega)
      have c2 := Ex.cellsL_at ks j x hx 2 (by omega)
      rw [Ex.cells_eq] at c0 c1 c2
      rw [show 3 * j + 0 = j * 3 by omega] at c0
      rw [show 3 * j + 1 = j * 3 + 1 by omega] at c1
      rw [show 3 * j + 2 = j * 3 + 2 by omega] at c2
      simp only [List.getElem?_cons_zero, List.getElem?_cons_succ] at c0 c1 c2
      obtain ⟨q, hq⟩ : ∃ q, k + 2 * Ex.sizeL (ks.take j) = q := ⟨_, rfl⟩
      have m0 : D.marksL ((Ex.cellsL ks).take (j * 3)) = 2 * Ex.sizeL (ks.take j) := by rw [cellsL_take, marksL_cells]
      have m1 : D.marksL ((Ex.cellsL ks).take (j * 3 + 1)) = 2 * Ex.sizeL (ks.take j) + 1 := by rw [marks_step c0, m0]; rfl
      have m2 : D.marksL ((Ex.cellsL ks).take (j * 3 + 2)) = 2 * Ex.sizeL (ks.take j) + 2 := by rw [marks_step c1, m1]; rfl
      obtain ⟨g0, z0, gl, s0⟩ := h.int_cell hn (mkd_at c0 (Nat.le_refl _) k)
      obtain ⟨p1, p2⟩ := s0 (q : Int)
      have e1 := mkd_step c0 k
      rw [m0, hq] at e1
      rw [show D.mark (D.int x.kind) q = D.int (q : Int) from by simp only [D.mark]] at e1
      rw [e1] at p1
      obtain ⟨g1, z1, -, s1⟩ := p1.int_cell hn (mkd_at c1 (Nat.le_refl _) k)
      obtain ⟨q1, q2⟩ := s1 ((q : Int) + 1)
      have e2 := mkd_step c1 k
      rw [m1, show k + (2 * Ex.sizeL (ks.take j) + 1) = q + 1 by omega] at e2
      rw [show D.mark (D.int x.num) (q + 1) = D.int ((q : Int) + 1) from by simp only [D.mark]; congr 1] at e2
      rw [e2] at q1
      obtain ⟨a', c', G, g2, z2, -, -, hGF, hGn, hG, s2⟩ := q1.sl_cell hn (mkd_at c2 (Nat.le_refl _) k)
      have e3 := mkd_step c2 k
      rw [m2, show k + (2 * Ex.sizeL (ks.take j) + 2) = q + 2 by omega] at e3
      rw [show j * 3 + 2 + 1 = (j + 1) * 3 by omega] at e3
      have He3 := Lib.hid e3
      have q12 := hO.trans (p2.trans q2)
      simp only [← Nat.add_assoc] at s2 q12
      have Hs2 := Lib.hid s2
      have Hq12 := Lib.hid q12
      have Hq : Hid (q + 2 + 2 * Ex.sizeL x.kids = k + 2 * Ex.sizeL (ks.take (j + 1))) := by show _ = _; omega
      have hqb : q + 2 + 2 * Ex.sizeL x.kids ≤ 1000000000000 := by omega
      have hxN : Ex.sizeL x.kids < N := by omega
      rw [← Nat.add_assoc] at g1 z1 g2 z2
      rw [hq]
      simp only [← Nat.add_assoc] at hG g2 z2
      clear q12 e1 e2 e3 m0 m1 m2 c0 c1 c2 hq p1 p2 q1 q2 s0 s1 s2 hxs hxm htk htl hO h hx
      go_wp2_with fail
      rw [show ((q : Int) + 1 + 1) = ((q + 2 : Nat) : Int) from by omega]
      refine (ih _ hxN x.kids a' c' (q + 2) G _ (Nat.le_refl _) hG hGn hqb).mono ?_
      rintro e w1 ⟨rfl, hm, hO2⟩
      obtain ⟨t1, t2⟩ := Hs2.out w1 _ hm hO2
      have t3 : Ow w1 (.sl 3 ks.length (mkd (Ex.cellsL ks) ((j + 1) * 3) k)) (.slice (some ⟨b, o, none⟩) ks.length c) F := by rw [← He3.out]; exact t1
      have Hfin := Lib.hid (And.intro t3 (Hq12.out.trans t2))
      clear t1 t2 t3 hm hO2 hG g2 z2 g0 z0 g1 z1
      rw [Hq.out]
      go_wp2_with fail
      go_roundw
      case rel => exact ⟨j + 1, by omega, by go_num, rfl, Hfin.out.1, Hfin.out.2⟩
      case measure => simp [intOf]; omega
    · obtain rfl : j = ks.length := by omega
      have e := mkd_all (Ex.cellsL ks) k
      rw [Ex.cellsL_length] at e
      rw [e] at h
      rw [List.take_length] at *
      go_wp2_with fail
      go_ret
      exact ⟨rfl, h, hO⟩

theorem markExpr_i {kd n : Int} {ks : List Ex} {s : Option Addr} {c k : Nat} {F : List Nat} {w : World} (h : Ow w (kidsD ks) (.slice s ks.length c) F) (hn : F.Nodup) (hk : k + 2 * Ex.sizeL ks ≤ 1000000000000) :
    Calls Tryd.prog 18 #[.agg #[.int .i64 kd, .int .i64 n, .slice s ks.length c], .int .i64 k] w fun e w' => e = .returned (.int .i64 (k + 2 * Ex.sizeL ks : Nat)) ∧ Ow w' (D.mark (kidsD ks) k) (.slice s ks.length c) F ∧ Only F w w' := by
  have hO : Only F w (w.alloc (.cells #[.int .i64 kd, .int .i64 n, .slice s ks.length c] 44)) := (Only.refl _ _).alloc _
  have h' := h.keep (w' := w.alloc (.cells #[.int .i64 kd, .int .i64 n, .slice s ks.length c] 44)) fun b hb => Below.heap_alloc w _ b (h.lt b hb)
  go_enter Tryd.func18, Tryd.ntmps18
  go_wp2_with fail
  refine (markExprS_all _ ks s c k F _ (Nat.le_refl _) h' hn hk).mono ?_
  rintro e w1 ⟨rfl, hm, hO2⟩
  go_wp2_with fail
  go_ret
  exact ⟨rfl, hm, hO.trans hO2⟩

set_option maxHeartbeats 2000000 in
theorem heldExprS_all (N : Nat) : ∀ (ks : List Ex) (s : Option Addr) (c k : Nat) (w : World), Ex.sizeL ks ≤ N → Rd w (D.mark (kidsD ks) k) (.slice s ks.length c) → k + 2 * Ex.sizeL ks ≤ 1000000000000 →
    Calls Tryd.prog 44 #[.slice s ks.length c, .int .i64 k] w fun e w' => e = .returned (.int .i64 (k + 2 * Ex.sizeL ks : Nat)) ∧ w = w' := by
  induction N using Nat.strongRecOn with
  | _ N ih =>
  intro ks s c k w hN h hk
  have hkl := Ex.length_le_sizeL ks
  have h' := h
  unfold kidsD D.mark at h'
  obtain ⟨-, hln, hcp, -, -, h4⟩ := h'.sl_at
  unfold maxLen at hcp
  clear h'
  go_enter Tryd.func44, Tryd.ntmps44
  go_wp2_with fail
  go_loop [1, 5] (fun q i => ∃ j : Nat, j ≤ ks.length ∧ i = .int .i64 j ∧ q = .int .i64 (k + 2 * Ex.sizeL (ks.take j) : Nat)) (fun _ i => ks.length - (intOf i).toNat)
  case atStart => exact ⟨0, by omega, rfl, by simp [Ex.sizeL]⟩
  case round =>
    obtain ⟨j, hj, rfl, rfl⟩ := hrel
    by_cases hlt : j < ks.length
    · obtain ⟨x, hx⟩ : ∃ e, ks[j]? = some e := ⟨_, List.getElem?_eq_getElem hlt⟩
      rcases h4 with h4 | ⟨b, o, rfl, h4⟩
      · omega
      have hxs := Ex.size_eq x
      have hxm := Ex.sizeL_mem (List.mem_of_getElem? hx)
      have htk := Ex.sizeL_take_succ hx
      have htl := Ex.sizeL_take_le ks (j + 1)
      have c0 := Ex.cellsL_at ks j x hx 0 (by omega)
      have c1 := Ex.cellsL_at ks j x hx 1 (by omega)
      have c2 := Ex.cellsL_at ks j x hx 2 (by omega)
      rw [Ex.cells_eq] at c0 c1 c2
      rw [show 3 * j + 0 = j * 3 by omega] at c0
      rw [show 3 * j + 1 = j * 3 + 1 by omega] at c1
      rw [show 3 * j + 2 = j * 3 + 2 by omega] at c2
      simp only [List.getElem?_cons_zero, List.getElem?_cons_succ] at c0 c1 c2
      obtain ⟨q, hq⟩ : ∃ q, k + 2 * Ex.sizeL (ks.take j) = q := ⟨_, rfl⟩
      have m0 : D.marksL ((Ex.cellsL ks).take (j * 3)) = 2 * Ex.sizeL (ks.take j) := by rw [cellsL_take, marksL_cells]
      have m1 : D.marksL ((Ex.cellsL ks).take (j * 3 + 1)) = 2 * Ex.sizeL (ks.take j) + 1 := by rw [marks_step c0, m0]; rfl
      have m2 : D.marksL ((Ex.cellsL ks).take (j * 3 + 2)) = 2 * Ex.sizeL (ks.take j) + 2 := by rw [marks_step c1, m1]; rfl
      have a0 := markL_at c0 k
      have a1 := markL_at c1 k
      have a2 := markL_at c2 k
      rw [m0, hq] at a0
      rw [m1, show k + (2 * Ex.sizeL (ks.take j) + 1) = q + 1 by omega] at a1
      rw [m2, show k + (2 * Ex.sizeL (ks.take j) + 2) = q + 2 by omega] at a2
      obtain ⟨x0, g0, r0⟩ := h4 _ _ a0
      obtain ⟨x1, g1, r1⟩ := h4 _ _ a1
      obtain ⟨x2, g2, r2⟩ := h4 _ _ a2
      simp only [D.mark, Rd] at r0 r1
      subst r0 r1
      obtain ⟨a', c', rfl, -⟩ : ∃ a' c', x2 = .slice a' x.kids.length c' ∧ True := by
        unfold kidsD D.mark at r2
        obtain ⟨a', c', e, _⟩ := r2.slice
        exact ⟨a', c', e, trivial⟩
      have Hq : Hid (q + 2 + 2 * Ex.sizeL x.kids = k + 2 * Ex.sizeL (ks.take (j + 1))) := by show _ = _; omega
      have hqb : q + 2 + 2 * Ex.sizeL x.kids ≤ 1000000000000 := by omega
      have hxN : Ex.sizeL x.kids < N := by omega
      rw [← Nat.add_assoc] at g1 g2
      rw [hq]
      rw [show ((q + 1 : Nat) : Int) = (q : Int) + 1 from by omega] at g1
      clear m0 m1 m2 c0 c1 c2 a0 a1 a2 hq hxs hxm htk htl h hx h4
      go_wp2_with fail
      rw [show ((q : Int) + 1 + 1) = ((q + 2 : Nat) : Int) from by omega]
      refine (ih _ hxN x.kids a' c' (q + 2) _ (Nat.le_refl _) r2 hqb).mono ?_
      rintro e w' ⟨rfl, rfl⟩
      rw [Hq.out]
      clear g0 g1 g2
      go_wp2_with fail
      go_round
      case rel => exact ⟨j + 1, by omega, by go_num, rfl⟩
      case measure => simp [intOf]; omega
    · obtain rfl : j = ks.length := by omega
      rw [List.take_length] at *
      go_wp2_with fail
      go_ret
      exact ⟨rfl, rfl⟩

theorem heldExpr_i {kd n : Int} {ks : List Ex} {s : Option Addr} {c k : Nat} {w : World} (h : Rd w (D.mark (kidsD ks) k) (.slice s ks.length c)) (hk : k + 2 * Ex.sizeL ks ≤ 1000000000000) :
    Calls Tryd.prog 19 #[.agg #[.int .i64 kd, .int .i64 n, .slice s ks.length c], .int .i64 k] w fun e w' => e = .returned (.int .i64 (k + 2 * Ex.sizeL ks : Nat)) ∧ Below w.heap.size w w' := by
  have h' := h.alloc (.cells #[.int .i64 kd, .int .i64 n, .slice s ks.length c] 44)
  go_enter Tryd.func19, Tryd.ntmps19
  go_wp2_with fail
  refine (heldExprS_all _ ks s c k _ (Nat.le_refl _) h' hk).mono ?_
  rintro e w' ⟨rfl, rfl⟩
  go_wp2_with fail
  go_ret
  exact ⟨rfl, by (repeat' (first | exact Below.refl _ _ | assumption | (refine Below.alloc ?_ (by first | omega | (simp; done) | (simp; omega)) _) | (refine Below.drew ?_) | (refine Below.setCell ?_ (by first | omega | (simp; done) | (simp; omega)) _)))⟩

theorem Ows.single {w : World} {d : D} {v : Value} {F : List Nat} (h : Ows w [d] [v] F) : Ow w d v F := by
  simp only [Ows] at h
  obtain ⟨x, r, G, K, e1, e2, h1, e3, rfl⟩ := h
  simp only [List.cons.injEq] at e1
  obtain ⟨rfl, -⟩ := e1
  rw [e2, List.append_nil]
  exact h1
theorem Ow.single {w : World} {d : D} {v : Value} {F : List Nat} (h : Ow w d v F) : Ows w [d] [v] F := by
  have := Ows.cons h Ows.nil
  simpa using this
theorem markExprL_i {kd n : Int} {ks : List Ex} {s : Option Addr} {c k : Nat} {F : List Nat} {w : World} (h : Ows w [kidsD ks] [.slice s ks.length c] F) (hn : F.Nodup) (hk : k + 2 * Ex.sizeL ks ≤ 1000000000000) :
    Calls Tryd.prog 18 #[.agg #[.int .i64 kd, .int .i64 n, .slice s ks.length c], .int .i64 k] w fun e w' => e = .returned (.int .i64 (k + 2 * Ex.sizeL ks : Nat)) ∧ Ows w' (D.markL [kidsD ks] k) [.slice s ks.length c] F ∧ Only F w w' :=
  (markExpr_i h.single hn hk).mono fun _ _ ⟨h1, h2, h3⟩ => ⟨h1, h2.single, h3⟩
theorem heldExprL_i {kd n : Int} {ks : List Ex} {s : Option Addr} {c k : Nat} {w : World} (h : Rds w (D.markL [kidsD ks] k) [.slice s ks.length c]) (hk : k + 2 * Ex.sizeL ks ≤ 1000000000000) :
    Calls Tryd.prog 19 #[.agg #[.int .i64 kd, .int .i64 n, .slice s ks.length c], .int .i64 k] w fun e w' => e = .returned (.int .i64 (k + 2 * Ex.sizeL ks : Nat)) ∧ Below w.heap.size w w' :=
  heldExpr_i (Rds.one h) hk
end Go.Proofs.YtlnojmmjpgpjdaaDoor
