/-
  The law's own copies: toExpr: a new expression, in blocks of its own.
-/
import Derived.Test.YtlnojmmjpgpjdaaDoorExpr
import Derived.Test.YtlnojmmjpgpjdaaDoorOwn
namespace Go.Proofs.YtlnojmmjpgpjdaaDoor
open Go.ChangeShapes Go.WideShapes Go.ChangeAt Go.RowKit

theorem info_implExpr : (Tryd.prog.info? 44).map (fun i => (i.zero, i.size, i.bytes)) = some (some (.agg #[.int .i64 0, .int .i64 0, .slice none 0 0]), 3, 40) := by kernel_rfl

def ToS (N : Nat) : Prop := ∀ (ks : List Ex) (s : Option Addr) (cap : Nat) (w : World), Ex.sizeL ks ≤ N → Rd w (kidsD ks) (.slice s ks.length cap) → Ex.sizeL ks ≤ 1048576 →
    Calls Tryd.prog 38 #[.slice s ks.length cap] w fun e w' => ∃ s' c', e = .returned (.slice s' ks.length c') ∧ Fresh w w' (kidsD ks) (.slice s' ks.length c') ∧ Below w.heap.size w w'

theorem toExpr_of {N : Nat} (hS : ToS N) (k n : Int) (ks : List Ex) (s : Option Addr) (cap : Nat) (w : World) (hN : Ex.sizeL ks ≤ N) (hr : Rd w (kidsD ks) (.slice s ks.length cap)) (h1 : Ex.sizeL ks ≤ 1048576) :
    Calls Tryd.prog 15 #[.agg #[.int .i64 k, .int .i64 n, .slice s ks.length cap]] w fun e w' => ∃ s' c', e = .returned (.agg #[.int .i64 k, .int .i64 n, .slice s' ks.length c']) ∧ Fresh w w' (kidsD ks) (.slice s' ks.length c') ∧ Below w.heap.size w w' := by
  go_enter Tryd.func15, Tryd.ntmps15
  go_wp2_with fail
  refine (hS ks s cap _ hN (by repeat (first | exact hr | apply Rd.alloc)) h1).mono ?_
  rintro e w1 ⟨s', c', rfl, hfr, hb⟩
  obtain ⟨hc, hf, hz⟩ := bcell hb
  simp at hz
  have q0 : w.heap.size < w1.heap.size := by omega
  have q1 : w.heap.size + 1 < w1.heap.size := by omega
  have q2 : w.heap.size + 1 + 1 < w1.heap.size := by omega
  have hB : Below w.heap.size w w1 := Below.on (by (repeat' (first | exact Below.refl _ _ | assumption | (refine Below.alloc ?_ (by first | omega | (simp; done) | (simp; omega)) _) | (refine Below.drew ?_) | (refine Below.setCell ?_ (by first | omega | (simp; done) | (simp; omega)) _)))) hb (by simp; omega)
  clear hb
  go_wp2
  refine bodyPost_ret (v := .agg #[.int .i64 k, .int .i64 n, .slice s' ks.length c']) (by simp [results, Tryd.results15, go_sem, hc]) rfl ⟨s', c', rfl, ?_, by (repeat' (first | exact Below.refl _ _ | assumption | (refine Below.alloc ?_ (by first | omega | (simp; done) | (simp; omega)) _) | (refine Below.drew ?_) | (refine Below.setCell ?_ (by first | omega | (simp; done) | (simp; omega)) _)))⟩
  refine Fresh.from (hfr.keep fun b h1 _ => ?_) (by simp; omega)
  simp at h1
  rw [Below.heap_setCell _ _ _ _ (by simp; omega), Below.heap_setCell _ _ _ _ (by simp; omega), Below.heap_setCell _ _ _ _ (by simp; omega), Below.heap_setCell _ _ _ _ (by simp; omega)]

theorem toExprS_all (N : Nat) : ToS N := by
  induction N using Nat.strongRecOn with
  | _ N ih =>
  intro ks s cap w hN hr h1
  obtain ⟨-, hlen, hcap, -, -⟩ := kid_at hr
  unfold maxLen at hcap
  have hsz := Ex.length_le_sizeL ks
  obtain ⟨i0, hi, hz0, hz1, hz2⟩ := info_parts info_implExpr
  go_enter Tryd.func38, Tryd.ntmps38
  go_wp2_with (at_make; refine wpList_make_full _ rfl _ _ 42 rfl w.heap.size 44 i0 (.agg #[.int .i64 0, .int .i64 0, .slice none 0 0]) 3 Tryd.underlying42 hi hz0 hz1 .i64 .i64 _ _ ks.length rfl rfl rfl rfl (by rw [hz2]; omega) (by unfold maxLen; omega) (Nat.le_refl _) ?_; intro w0 hown hgrow)
  have hp := Part.start hown
  have hB0 : Below w.heap.size w w0 := Below.grown (Below.refl _ _) hgrow (Nat.le_refl _) (by simp)
  have hz0' := hp.lt
  clear hown hgrow
  go_loopw [4] (fun i wr => ∃ k : Nat, k ≤ ks.length ∧ i = .int .i64 k ∧ Part wr w.heap.size 44 (Ex.cellsL (ks.take k)) (ks.length * 3) ∧ Below w.heap.size w wr) (fun i _ => ks.length - (intOf i).toNat)
  case atStart => exact ⟨0, by omega, rfl, by simpa [Ex.cellsL] using hp, hB0⟩
  case round =>
    clear hp hB0 hz0'
    obtain ⟨k, hk, rfl, hp, hB⟩ := hrel
    by_cases hlt : k < ks.length
    · obtain ⟨e, he⟩ : ∃ e, ks[k]? = some e := ⟨_, List.getElem?_eq_getElem hlt⟩
      obtain ⟨b, o, rfl⟩ := kid_some hr (by intro h; simp [h] at hlt)
      obtain ⟨hbl, s', c', g0, g1, g2, gr⟩ := kid_in (hr.below hB) he
      have hlt' : Ex.sizeL e.kids < N := by
        have := Ex.size_eq e
        have := Ex.sizeL_mem (List.mem_of_getElem? he)
        omega
      have hle : Ex.sizeL e.kids ≤ 1048576 := by
        have := Ex.size_eq e
        have := Ex.sizeL_mem (List.mem_of_getElem? he)
        omega
      go_wp2_with fail
      refine (toExpr_of (ih _ hlt') _ _ _ _ _ _ (Nat.le_refl _) gr hle).mono ?_
      rintro e1 w1 ⟨s2, c2, rfl, ⟨G, hG1, hG2, hG3⟩, hb⟩
      have hlt2 := hp.lt
      have hz := hb.size
      obtain ⟨y0, d0⟩ := (hp.below hb).cell (k * 3) (by omega)
      obtain ⟨y1, d1⟩ := (hp.below hb).cell (k * 3 + 1) (by omega)
      obtain ⟨y2, d2⟩ := (hp.below hb).cell (k * 3 + 2) (by omega)
      have z0 := (hp.below hb).frozen (k * 3)
      have z1 := (hp.below hb).frozen (k * 3 + 1)
      have z2 := (hp.below hb).frozen (k * 3 + 2)
      have hst := hp.step hb (Ows.three (k := e.kind) (n := e.num) hG1) hG2 hG3 (o := k * 3) (by rw [Ex.cellsL_length, List.length_take, Nat.min_eq_left hk]) (by simp; omega)
      rw [← Ex.cellsL_take_succ he] at hst
      have Hst : Hid (Part (((w1.setCell ⟨w.heap.size, k * 3, none⟩ (.int .i64 e.kind)).setCell ⟨w.heap.size, k * 3 + 1, none⟩ (.int .i64 e.num)).setCell ⟨w.heap.size, k * 3 + 2, none⟩ (.slice s2 e.kids.length c2)) w.heap.size 44 (Ex.cellsL (ks.take (k + 1))) (ks.length * 3)) := hst
      have hB1 : Below w.heap.size w w1 := Below.on hB hb (by omega)
      clear hst
      go_wp2_with fail
      go_roundw
      case rel => exact ⟨k + 1, by omega, by go_num, Hst.out, by (repeat' (first | exact Below.refl _ _ | assumption | (refine Below.alloc ?_ (by first | omega | (simp; done) | (simp; omega)) _) | (refine Below.drew ?_) | (refine Below.setCell ?_ (by first | omega | (simp; done) | (simp; omega)) _)))⟩
      case measure => simp [intOf]; omega
    · obtain rfl : k = ks.length := by omega
      rw [List.take_length] at hp
      go_wp2_with fail
      go_ret
      exact ⟨_, _, rfl, hp.done (Nat.le_refl _) (Ex.cellsL_length ks) (Nat.le_refl _) (by unfold maxLen; omega), hB⟩

/-- A NEW EXPRESSION, like the one that is read. -/
theorem toExpr_any (k n : Int) (ks : List Ex) (s : Option Addr) (cap : Nat) (w : World) (hr : Rd w (kidsD ks) (.slice s ks.length cap)) (h1 : Ex.sizeL ks ≤ 1048576) :
    Calls Tryd.prog 15 #[.agg #[.int .i64 k, .int .i64 n, .slice s ks.length cap]] w fun e w' => ∃ s' c', e = .returned (.agg #[.int .i64 k, .int .i64 n, .slice s' ks.length c']) ∧ Fresh w w' (kidsD ks) (.slice s' ks.length c') ∧ Below w.heap.size w w' :=
  toExpr_of (toExprS_all _) k n ks s cap w (Nat.le_refl _) hr h1

theorem toExpr_i {k n : Int} {ks : List Ex} {s : Option Addr} {cap : Nat} {w : World} (hr : Rd w (kidsD ks) (.slice s ks.length cap)) (h1 : Ex.sizeL ks ≤ 1048576) :
    Calls Tryd.prog 15 #[.agg #[.int .i64 k, .int .i64 n, .slice s ks.length cap]] w fun e w' => ∃ s' c', e = .returned (.agg #[.int .i64 k, .int .i64 n, .slice s' ks.length c']) ∧ Freshs w w' [kidsD ks] [.slice s' ks.length c'] ∧ Below w.heap.size w w' :=
  (toExpr_any k n ks s cap w hr h1).mono fun _ _ ⟨s', c', he, hf, hb⟩ => ⟨s', c', he, Freshs.one hf, hb⟩
end Go.Proofs.YtlnojmmjpgpjdaaDoor
