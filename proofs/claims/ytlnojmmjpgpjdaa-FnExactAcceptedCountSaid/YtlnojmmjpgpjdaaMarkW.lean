/-
  markInt64S, heldInt64S, markWord, heldWord.
-/
import Derived.Test.YtlnojmmjpgpjdaaMark
import Derived.Test.YtlnojmmjpgpjdaaTrace
namespace Go.Proofs.Ytlnojmmjpgpjdaa
open Go.ChangeShapes Go.WideShapes Go.ChangeAt Go.RowKit Go.Sort

theorem markInt64S_i {zs : List Int} {s : Option Addr} {c k : Nat} {F : List Nat} {w : World} (h : Ow w (intsD zs) (.slice s zs.length c) F) (hn : F.Nodup) (hk : k ≤ 1000000000000) (hlen : zs.length ≤ 1000000000000) :
    Calls Try.prog 89 #[.slice s zs.length c, .int .i64 k] w fun e w' => e = .returned (.int .i64 (k + zs.length : Nat)) ∧ Ow w' (D.mark (intsD zs) k) (.slice s zs.length c) F ∧ Only F w w' := by
  have H0 : Ow w (.sl 1 zs.length (mkd (zs.map D.int) 0 k)) (.slice s zs.length c) F := by rw [mkd_zero]; exact h
  go_enter Try.func89, Try.ntmps89
  go_wp2_with fail
  go_loopw [1, 5] (fun q i wr => ∃ j : Nat, j ≤ zs.length ∧ i = .int .i64 j ∧ q = .int .i64 (k + j : Nat) ∧ Ow wr (.sl 1 zs.length (mkd (zs.map D.int) j k)) (.slice s zs.length c) F ∧ Only F w wr) (fun _ i _ => zs.length - (intOf i).toNat)
  case atStart => exact ⟨0, by omega, rfl, rfl, H0, Only.refl _ _⟩
  case round =>
    clear h H0
    obtain ⟨j, hj, rfl, rfl, h, hO⟩ := hrel
    by_cases hlt : j < zs.length
    · obtain ⟨z, hz⟩ : ∃ e, zs[j]? = some e := ⟨_, List.getElem?_eq_getElem hlt⟩
      obtain ⟨b, o, rfl⟩ := h.spot (by omega)
      have hat := mkd_at (ints_at hz) (Nat.le_refl j) k
      obtain ⟨g0, g1, g2, g3⟩ := h.int_cell hn hat
      have Hst : Hid (Ow (wr.setCell ⟨b, o + j, none⟩ (.int .i64 (k + j : Nat))) (.sl 1 zs.length (mkd (zs.map D.int) (j + 1) k)) (.slice (some ⟨b, o, none⟩) zs.length c) F ∧ Only F w (wr.setCell ⟨b, o + j, none⟩ (.int .i64 (k + j : Nat)))) := by
        obtain ⟨q1, q2⟩ := g3 (k + j : Nat)
        refine ⟨?_, hO.trans q2⟩
        have e := mkd_step (ints_at hz) k
        rw [ints_take _ _ hj] at e
        rw [← e]
        exact q1
      clear g3 hat
      go_wp2_with fail
      go_roundw
      case rel => exact ⟨j + 1, by omega, by go_num, by go_num, Hst.out.1, Hst.out.2⟩
      case measure => simp [intOf]; omega
    · obtain rfl : j = zs.length := by omega
      have e := mkd_all (zs.map D.int) k
      rw [List.length_map] at e
      rw [e] at h
      go_wp2_with fail
      go_ret
      exact ⟨rfl, h, hO⟩

theorem heldInt64S_i {zs : List Int} {s : Option Addr} {c k : Nat} {w : World} (h : Rd w (D.mark (intsD zs) k) (.slice s zs.length c)) (hk : k ≤ 1000000000000) (hlen : zs.length ≤ 1000000000000) :
    Calls Try.prog 90 #[.slice s zs.length c, .int .i64 k] w fun e w' => e = .returned (.int .i64 (k + zs.length : Nat)) ∧ w = w' := by
  have h' := h
  unfold intsD D.mark at h'
  obtain ⟨-, -, -, -, -, h4⟩ := h'.sl_at
  go_enter Try.func90, Try.ntmps90
  go_wp2_with fail
  go_loop [1, 5] (fun q i => ∃ j : Nat, j ≤ zs.length ∧ i = .int .i64 j ∧ q = .int .i64 (k + j : Nat)) (fun _ i => zs.length - (intOf i).toNat)
  case atStart => exact ⟨0, by omega, rfl, rfl⟩
  case round =>
    obtain ⟨j, hj, rfl, rfl⟩ := hrel
    by_cases hlt : j < zs.length
    · obtain ⟨z, hz⟩ : ∃ e, zs[j]? = some e := ⟨_, List.getElem?_eq_getElem hlt⟩
      have hat := markL_at (ints_at hz) k
      rw [ints_take _ _ hj] at hat
      rcases h4 with h4 | ⟨b, o, rfl, h4⟩
      · omega
      obtain ⟨x, hx, hr⟩ := h4 _ _ hat
      simp only [D.mark, Rd] at hr
      subst hr
      clear h4 hat
      go_wp2_with fail
      go_round
      case rel => exact ⟨j + 1, by omega, by go_num, by go_num⟩
      case measure => simp [intOf]; omega
    · obtain rfl : j = zs.length := by omega
      go_wp2_with fail
      go_ret
      exact ⟨rfl, rfl⟩

theorem Ows.two {w : World} {d e : D} {u v : Value} {F : List Nat} (h : Ows w [d, e] [u, v] F) : ∃ G K, F = G ++ K ∧ Ow w d u G ∧ Ow w e v K := by
  simp only [Ows] at h
  obtain ⟨x, r, G, K, e1, rfl, h1, y, q, A, B, e2, rfl, h2, e3, rfl⟩ := h
  simp only [List.cons.injEq] at e1
  obtain ⟨rfl, rfl⟩ := e1
  simp only [List.cons.injEq] at e2
  obtain ⟨rfl, _⟩ := e2
  exact ⟨G, A, by simp, h1, h2⟩
theorem Ows.mk2 {w : World} {d e : D} {u v : Value} {G K : List Nat} (h : Ow w d u G) (k : Ow w e v K) : Ows w [d, e] [u, v] (G ++ K) := by
  have := Ows.cons h (Ows.cons k Ows.nil)
  simpa using this
/-- Two lists of numbers, as the fields of a word. -/
def wordD (xs ys : List Int) : List D := [intsD xs, intsD ys]

theorem markWord_i {xs ys : List Int} {s t : Option Addr} {c d k : Nat} {F : List Nat} {w : World} (h : Ows w (wordD xs ys) [.slice s xs.length c, .slice t ys.length d] F) (hn : F.Nodup) (hk : k ≤ 100000000000) (hx : xs.length ≤ 100000000000) (hy : ys.length ≤ 100000000000) :
    Calls Try.prog 45 #[.agg #[.slice s xs.length c, .slice t ys.length d], .int .i64 k] w fun e w' => e = .returned (.int .i64 (k + xs.length + ys.length : Nat)) ∧
      Ows w' (D.markL (wordD xs ys) k) [.slice s xs.length c, .slice t ys.length d] F ∧ Only F w w' := by
  obtain ⟨G, K, rfl, h1, h2⟩ := h.two
  rw [List.nodup_append] at hn
  obtain ⟨nG, nK, dis⟩ := hn
  have gl := h1.lt
  have kl := h2.lt
  go_enter Try.func45, Try.ntmps45
  go_wp2_with fail
  have L := Blk.new2 w 64 (.slice s xs.length c) (.slice t ys.length d)
  have h1' := h1.keep (w' := w.alloc (.cells #[.slice s xs.length c, .slice t ys.length d] 64)) fun b hb => Below.heap_alloc w _ b (gl b hb)
  have h2' := h2.keep (w' := w.alloc (.cells #[.slice s xs.length c, .slice t ys.length d] 64)) fun b hb => Below.heap_alloc w _ b (kl b hb)
  have hO : Only (G ++ K) w (w.alloc (.cells #[.slice s xs.length c, .slice t ys.length d] 64)) := (Only.refl _ _).alloc _
  generalize w.alloc (.cells #[.slice s xs.length c, .slice t ys.length d] 64) = w0 at L h1' h2' hO ⊢
  refine (markInt64S_i h1' nG (by omega) (by omega)).mono ?_
  rintro e w1 ⟨rfl, m1, o1⟩
  replace L := L.keep (o1.block _ L.lt (fun hm => by have := gl _ hm; omega))
  have h2'' := h2'.keep fun b hb => o1.block b (h2'.lt b hb) (fun hm => dis b hm b hb rfl)
  replace hO := hO.trans (o1.more fun b hb => List.mem_append_left K hb)
  clear o1
  have l1 := L.c1
  go_wp2_with fail
  refine (markInt64S_i h2'' nK (by omega) (by omega)).mono ?_
  rintro e w2 ⟨rfl, m2, o2⟩
  have m1' := m1.keep fun b hb => o2.block b (m1.lt b hb) (fun hm => dis b hb b hm rfl)
  replace hO := hO.trans (o2.more fun b hb => List.mem_append_right G hb)
  have e1 : D.markL (wordD xs ys) k = [D.mark (intsD xs) k, D.mark (intsD ys) (k + xs.length)] := by
    simp only [wordD, D.markL]
    rw [show D.marks (intsD xs) = xs.length from marksL_ints xs]
  clear o2 l1
  go_wp2_with fail
  go_ret
  exact ⟨rfl, by rw [e1]; exact Ows.mk2 m1' m2, hO⟩

theorem heldWord_i {xs ys : List Int} {s t : Option Addr} {c d k : Nat} {w : World} (h : Rds w (D.markL (wordD xs ys) k) [.slice s xs.length c, .slice t ys.length d]) (hk : k ≤ 100000000000) (hx : xs.length ≤ 100000000000) (hy : ys.length ≤ 100000000000) :
    Calls Try.prog 46 #[.agg #[.slice s xs.length c, .slice t ys.length d], .int .i64 k] w fun e w' => e = .returned (.int .i64 (k + xs.length + ys.length : Nat)) ∧ Below w.heap.size w w' := by
  have e1 : D.markL (wordD xs ys) k = [D.mark (intsD xs) k, D.mark (intsD ys) (k + xs.length)] := by
    simp only [wordD, D.markL]
    rw [show D.marks (intsD xs) = xs.length from marksL_ints xs]
  rw [e1] at h
  obtain ⟨h1, h2⟩ := h.two
  go_enter Try.func46, Try.ntmps46
  go_wp2_with fail
  refine (heldInt64S_i (h1.alloc _) (by omega) (by omega)).mono ?_
  rintro e w1 ⟨rfl, rfl⟩
  go_wp2_with fail
  refine (heldInt64S_i (h2.alloc _) (by omega) (by omega)).mono ?_
  rintro e w1 ⟨rfl, rfl⟩
  go_wp2_with fail
  go_ret
  exact ⟨rfl, by (repeat' (first | exact Below.refl _ _ | assumption | (refine Below.alloc ?_ (by first | omega | (simp; done) | (simp; omega)) _) | (refine Below.drew ?_) | (refine Below.setCell ?_ (by first | omega | (simp; done) | (simp; omega)) _)))⟩
end Go.Proofs.Ytlnojmmjpgpjdaa
