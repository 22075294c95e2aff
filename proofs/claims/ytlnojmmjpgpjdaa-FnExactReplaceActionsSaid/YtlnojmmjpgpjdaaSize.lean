/-
  The number of nodes: spec.l01Size, impl.ExprSize.
-/
import Derived.Test.YtlnojmmjpgpjdaaExpr
import Derived.Test.YtlnojmmjpgpjdaaOwn
namespace Go.Proofs.Ytlnojmmjpgpjdaa
open Go.ChangeShapes Go.WideShapes Go.ChangeAt Go.RowKit

theorem l01Size_all (N : Nat) : ∀ (e : Ex) (b o : Nat) (w : World), e.size ≤ N → ExAt w b o e → e.size ≤ 1073741824 →
    Calls Try.prog 106 #[.pointer (some ⟨b, o, none⟩)] w fun f w' => f = .returned (.int .i64 e.size) ∧ w = w' := by
  induction N using Nat.strongRecOn with
  | _ N ih =>
  intro e b o w hN hr h1
  obtain ⟨_, _, s, c, g2, g3⟩ := hr
  obtain ⟨-, hlen, hcap, -, -⟩ := kid_at g3
  unfold maxLen at hcap
  have hse := Ex.size_eq e
  have Hse := Lib.hid hse
  have hks : Ex.sizeL e.kids < N := by omega
  have hks' : Ex.sizeL e.kids ≤ 1073741824 := by omega
  clear hse
  go_enter Try.func106, Try.ntmps106
  go_wp2_with fail
  go_loop [3, 4] (fun n i => ∃ k : Nat, k ≤ e.kids.length ∧ i = .int .i64 k ∧ n = .int .i64 (1 + (Ex.sizeL (e.kids.take k) : Nat) : Nat)) (fun _ i => e.kids.length - (intOf i).toNat)
  case atStart => exact ⟨0, by omega, rfl, by simp [Ex.sizeL]⟩
  case round =>
    obtain ⟨k, hk, rfl, rfl⟩ := hrel
    have hle := Ex.sizeL_take_le e.kids k
    by_cases hlt : k < e.kids.length
    · obtain ⟨f, hf⟩ : ∃ f, e.kids[k]? = some f := ⟨_, List.getElem?_eq_getElem hlt⟩
      obtain ⟨b', o', rfl⟩ := kid_some g3 (by intro h; simp [h] at hlt)
      have hat := kid_exAt g3 hf
      have htk := Ex.sizeL_take_succ hf
      have hmem := Ex.sizeL_mem (List.mem_of_getElem? hf)
      have hle' := Ex.sizeL_take_le e.kids (k + 1)
      have hsum : Ex.sizeL (e.kids.take k) + f.size ≤ 1073741824 := by omega
      have Htk := Lib.hid htk
      clear htk
      go_wp2_with fail
      refine (ih _ (by omega) f _ _ _ (Nat.le_refl _) hat (by omega)).mono ?_
      rintro x w' ⟨rfl, rfl⟩
      go_wp2_with fail
      go_round
      case rel => exact ⟨k + 1, by omega, by go_num, by rw [Htk.out]; go_num⟩
      case measure => simp [intOf]; omega
    · obtain rfl : k = e.kids.length := by omega
      go_wp2_with fail
      go_ret
      exact ⟨ret_int (by have := Hse.out; omega), rfl⟩

end Go.Proofs.Ytlnojmmjpgpjdaa
