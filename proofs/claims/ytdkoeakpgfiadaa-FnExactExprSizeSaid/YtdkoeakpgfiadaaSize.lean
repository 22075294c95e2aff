/-
  The number of nodes: spec.l01Size, impl.ExprSize.
-/
import Derived.Test.YtdkoeakpgfiadaaExpr
import Derived.Test.YtdkoeakpgfiadaaOwn
namespace Go.Proofs.Ytdkoeakpgfiadaa
open Go.ChangeShapes Go.WideShapes Go.ChangeAt Go.RowKit

theorem l01Size_all (N : Nat) : ∀ (e : Ex) (b o : Nat) (w : World), e.size ≤ N → ExAt w b o e → e.size ≤ 1073741824 →
    Calls Try.prog 47 #[.pointer (some ⟨b, o, none⟩)] w fun f w' => f = .returned (.int .i64 e.size) ∧ w = w' := by
  induction N using Nat.strongRecOn with
  | _ N ih =>
  intro e b o w hN hr h1
  obtain ⟨_, _, s, c, g2, g3⟩ := hr
  obtain ⟨-, hlen, hcap, -, -⟩ := kid_at g3
  unfold maxLen at hcap
  have hse := Ex.size_eq e
  have Hse := Lib.hid hse
  have hks : Ex.sizeL e.kids < N := by omega
  have hks' : Ex.sizeL e.kids ≤ 1073741824 := by omega
  clear hse
  go_enter Try.func47, Try.ntmps47
  go_wp2_with fail
  go_loop [3, 4] (fun n i => ∃ k : Nat, k ≤ e.kids.length ∧ i = .int .i64 k ∧ n = .int .i64 (1 + (Ex.sizeL (e.kids.take k) : Nat) : Nat)) (fun _ i => e.kids.length - (intOf i).toNat)
  case atStart => exact ⟨0, by omega, rfl, by simp [Ex.sizeL]⟩
  case round =>
    obtain ⟨k, hk, rfl, rfl⟩ := hrel
    have hle := Ex.sizeL_take_le e.kids k
    by_cases hlt : k < e.kids.length
    · obtain ⟨f, hf⟩ : ∃ f, e.kids[k]? = some f := ⟨_, List.getElem?_eq_getElem hlt⟩
      obtain ⟨b', o', rfl⟩ := kid_some g3 (by intro h; simp [h] at hlt)
      have hat := kid_exAt g3 hf
      have htk := Ex.sizeL_take_succ hf
      have hmem := Ex.sizeL_mem (List.mem_of_getElem? hf)
      have hle' := Ex.sizeL_take_le e.kids (k + 1)
      have hsum : Ex.sizeL (e.kids.take k) + f.size ≤ 1073741824 := by omega
      have Htk := Lib.hid htk
      clear htk
      go_wp2_with fail
      refine (ih _ (by omega) f _ _ _ (Nat.le_refl _) hat (by omega)).mono ?_
      rintro x w' ⟨rfl, rfl⟩
      go_wp2_with fail
      go_round
      case rel => exact ⟨k + 1, by omega, by go_num, by rw [Htk.out]; go_num⟩
      case measure => simp [intOf]; omega
    · obtain rfl : k = e.kids.length := by omega
      go_wp2_with fail
      go_ret
      exact ⟨ret_int (by have := Hse.out; omega), rfl⟩

theorem specExprSize_i {k n : Int} {ks : List Ex} {s : Option Addr} {cap : Nat} {w : World} (hr : Rd w (kidsD ks) (.slice s ks.length cap)) (h1 : Ex.sizeL ks ≤ 1048576) :
    Calls Try.prog 20 #[.agg #[.int .i64 k, .int .i64 n, .slice s ks.length cap]] w fun f w' => f = .returned (.int .i64 (1 + Ex.sizeL ks : Nat)) ∧ Below w.heap.size w w' := by
  have Hs : Hid (Ex.size (.mk k n ks) = 1 + Ex.sizeL ks) := Ex.size_eq _
  go_enter Try.func20, Try.ntmps20
  go_wp2_with fail
  refine (l01Size_all _ (.mk k n ks) _ _ _ (Nat.le_refl _) ⟨by simp [Ex.kind], by simp [Ex.num], s, cap, by simp [Ex.kids], hr.alloc _⟩ (by have := Hs.out; omega)).mono ?_
  rintro x w' ⟨rfl, rfl⟩
  go_wp2_with fail
  go_ret
  exact ⟨ret_int (by have := Hs.out; omega), by (repeat' (first | exact Below.refl _ _ | assumption | (refine Below.alloc ?_ (by first | omega | (simp; done) | (simp; omega)) _) | (refine Below.drew ?_) | (refine Below.setCell ?_ (by first | omega | (simp; done) | (simp; omega)) _)))⟩

def SizeS (N : Nat) : Prop := ∀ (k n : Int) (ks : List Ex) (s : Option Addr) (cap : Nat) (w : World), Ex.sizeL ks ≤ N → Rd w (kidsD ks) (.slice s ks.length cap) → Ex.sizeL ks ≤ 1073741824 →
    Calls Try.prog 22 #[.agg #[.int .i64 k, .int .i64 n, .slice s ks.length cap]] w fun f w' => f = .returned (.int .i64 (1 + Ex.sizeL ks : Nat)) ∧ Below w.heap.size w w'

theorem implExprSize_all (N : Nat) : SizeS N := by
  induction N using Nat.strongRecOn with
  | _ N ih =>
  intro k0 n0 ks s cap w hN hr h1
  obtain ⟨-, hlen, hcap, -, -⟩ := kid_at hr
  unfold maxLen at hcap
  go_enter Try.func22, Try.ntmps22
  go_wp2_with fail
  go_loopw [3, 9] (fun n i wr => ∃ k : Nat, k ≤ ks.length ∧ i = .int .i64 k ∧ n = .int .i64 (1 + (Ex.sizeL (ks.take k) : Nat) : Nat) ∧ Below w.heap.size w wr) (fun _ i _ => ks.length - (intOf i).toNat)
  case atStart => exact ⟨0, by omega, rfl, by simp [Ex.sizeL], by (repeat' (first | exact Below.refl _ _ | assumption | (refine Below.alloc ?_ (by first | omega | (simp; done) | (simp; omega)) _) | (refine Below.drew ?_) | (refine Below.setCell ?_ (by first | omega | (simp; done) | (simp; omega)) _)))⟩
  case round =>
    obtain ⟨k, hk, rfl, rfl, hB⟩ := hrel
    have hzB := hB.size
    have hle := Ex.sizeL_take_le ks k
    by_cases hlt : k < ks.length
    · obtain ⟨f, hf⟩ : ∃ f, ks[k]? = some f := ⟨_, List.getElem?_eq_getElem hlt⟩
      obtain ⟨b', o', rfl⟩ := kid_some hr (by intro h; simp [h] at hlt)
      obtain ⟨-, s', c', g0, g1, g2, gr⟩ := kid_in (hr.below hB) hf
      have htk := Ex.sizeL_take_succ hf
      have hle' := Ex.sizeL_take_le ks (k + 1)
      have hsf := Ex.size_eq f
      have hmem := Ex.sizeL_mem (List.mem_of_getElem? hf)
      have hsum : Ex.sizeL (ks.take k) + (1 + Ex.sizeL f.kids) ≤ 1073741824 := by omega
      have Htk : Hid (Ex.sizeL (ks.take (k + 1)) = Ex.sizeL (ks.take k) + (1 + Ex.sizeL f.kids)) := by show _ = _; omega
      have hN' : Ex.sizeL f.kids < N := by omega
      clear htk hsf
      go_wp2_with fail
      refine (ih _ hN' _ _ _ _ _ _ (Nat.le_refl _) (gr.alloc _) (by omega)).mono ?_
      rintro x w1 ⟨rfl, hb⟩
      have hB1 : Below w.heap.size w w1 := Below.on (by (repeat' (first | exact Below.refl _ _ | assumption | (refine Below.alloc ?_ (by first | omega | (simp; done) | (simp; omega)) _) | (refine Below.drew ?_) | (refine Below.setCell ?_ (by first | omega | (simp; done) | (simp; omega)) _)))) hb (by simp; omega)
      clear hb
      go_wp2_with fail
      go_roundw
      case rel => exact ⟨k + 1, by omega, by go_num, by rw [Htk.out]; go_num, hB1⟩
      case measure => simp [intOf]; omega
    · obtain rfl : k = ks.length := by omega
      go_wp2_with fail
      go_ret
      exact ⟨ret_int (by simp), hB⟩

theorem implExprSize_i {k n : Int} {ks : List Ex} {s : Option Addr} {cap : Nat} {w : World} (hr : Rd w (kidsD ks) (.slice s ks.length cap)) (h1 : Ex.sizeL ks ≤ 1048576) :
    Calls Try.prog 22 #[.agg #[.int .i64 k, .int .i64 n, .slice s ks.length cap]] w fun f w' => f = .returned (.int .i64 (1 + Ex.sizeL ks : Nat)) ∧ Below w.heap.size w w' :=
  implExprSize_all _ k n ks s cap w (Nat.le_refl _) hr (by omega)
end Go.Proofs.Ytdkoeakpgfiadaa
