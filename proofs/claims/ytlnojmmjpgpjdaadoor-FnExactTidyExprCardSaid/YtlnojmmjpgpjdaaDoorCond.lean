/-
  Conditions: spec.l01Condition, impl.IsCondition.
-/
import Derived.Test.YtlnojmmjpgpjdaaDoorExpr
import Derived.Test.YtlnojmmjpgpjdaaDoorSig
namespace Go.Proofs.YtlnojmmjpgpjdaaDoor
open Go.ChangeShapes Go.WideShapes Go.ChangeAt Go.RowKit

/-- The kinds of a condition. -/
def condKind (k : Int) : Bool := decide (k = 1 ∨ k = 2 ∨ k = 3 ∨ k = 5 ∨ k = 6 ∨ k = 7)
mutual
def Ex.cond : Ex → Bool
  | .mk k _ ks => condKind k && Ex.condL ks
def Ex.condL : List Ex → Bool
  | [] => true
  | e :: r => e.cond && Ex.condL r
end
theorem Ex.cond_eq (e : Ex) : e.cond = (condKind e.kind && Ex.condL e.kids) := by cases e; simp only [Ex.cond, Ex.kind, Ex.kids]
theorem Ex.condL_append : ∀ a b : List Ex, Ex.condL (a ++ b) = (Ex.condL a && Ex.condL b)
  | [], b => by simp [Ex.condL]
  | e :: r, b => by simp only [List.cons_append, Ex.condL, Ex.condL_append r b, Bool.and_assoc]
theorem Ex.condL_take_succ {ks : List Ex} {i : Nat} {e : Ex} (h : ks[i]? = some e) : Ex.condL (ks.take (i + 1)) = (Ex.condL (ks.take i) && e.cond) := by
  obtain ⟨hi, rfl⟩ := List.getElem?_eq_some_iff.1 h
  rw [List.take_succ_eq_append_getElem hi, Ex.condL_append]
  simp [Ex.condL]
theorem Ex.condL_false {ks : List Ex} {i : Nat} {e : Ex} (h : ks[i]? = some e) (hc : e.cond = false) : Ex.condL ks = false := by
  have := Ex.condL_append (ks.take (i + 1)) (ks.drop (i + 1))
  rw [List.take_append_drop, Ex.condL_take_succ h, hc] at this
  simpa using this

theorem l01Condition_all (N : Nat) : ∀ (e : Ex) (b o : Nat) (w : World), e.size ≤ N → ExAt w b o e →
    Calls Tryd.prog 90 #[.pointer (some ⟨b, o, none⟩)] w fun f w' => f = .returned (.bool e.cond) ∧ w = w' := by
  induction N using Nat.strongRecOn with
  | _ N ih =>
  intro e b o w hN hr
  obtain ⟨g0, g1, s, c, g2, g3⟩ := hr
  obtain ⟨-, hlen, hcap, -, -⟩ := kid_at g3
  unfold maxLen at hcap
  have hse := Ex.size_eq e
  have hks : Ex.sizeL e.kids < N := by omega
  clear hse
  by_cases hk : condKind e.kind = true
  · have hc : e.cond = Ex.condL e.kids := by rw [Ex.cond_eq, hk, Bool.true_and]
    have Hc := Lib.hid hc
    have b1 : inB e.kind 1 7 = true := by simp [condKind] at hk; simp [inB]; omega
    have b2 : (e.kind == 4) = false := by simp [condKind] at hk; simp; omega
    clear hc hk
    go_enter Tryd.func90, Tryd.ntmps90
    go_wp2_with ((go_at_call 48; ((with_reducible refine (in_any _ _ _ _).mono ?_); rintro e w' ⟨rfl, rfl⟩)))
    go_loop [3] (fun i => ∃ k : Nat, k ≤ e.kids.length ∧ i = .int .i64 k ∧ Ex.condL (e.kids.take k) = true) (fun i => e.kids.length - (intOf i).toNat)
    case atStart => exact ⟨0, by omega, rfl, by simp [Ex.condL]⟩
    case round =>
      obtain ⟨k, hk, rfl, hpre⟩ := hrel
      have Hpre := Lib.hid hpre
      clear hpre
      by_cases hlt : k < e.kids.length
      · obtain ⟨f, hf⟩ : ∃ f, e.kids[k]? = some f := ⟨_, List.getElem?_eq_getElem hlt⟩
        obtain ⟨b', o', rfl⟩ := kid_some g3 (by intro h; simp [h] at hlt)
        have hat := kid_exAt g3 hf
        have hmem := Ex.sizeL_mem (List.mem_of_getElem? hf)
        have Htk := Lib.hid (Ex.condL_take_succ hf)
        have Hfl := Lib.hid (@Ex.condL_false _ _ _ hf)
        go_wp2_with fail
        refine (ih _ (by omega) f _ _ _ (Nat.le_refl _) hat).mono ?_
        rintro x w' ⟨rfl, rfl⟩
        cases hfc : f.cond
        · go_wp2_with fail
          go_ret
          exact ⟨ret_bool (by rw [Hc.out, Hfl.out hfc]), rfl⟩
        · go_wp2_with fail
          go_round
          case rel => exact ⟨k + 1, by omega, by go_num, by rw [Htk.out, Hpre.out, hfc]; rfl⟩
          case measure => simp [intOf]; omega
      · obtain rfl : k = e.kids.length := by omega
        go_wp2_with fail
        go_ret
        exact ⟨ret_bool (by have := Hpre.out; rw [List.take_length] at this; rw [Hc.out, this]), rfl⟩
  · have hc : e.cond = false := by rw [Ex.cond_eq]; simp [hk]
    rw [hc]
    by_cases hin : inB e.kind 1 7 = true
    · have b2 : (e.kind == 4) = true := by simp [condKind] at hk; simp [inB] at hin; simp; omega
      clear hk hc
      go_enter Tryd.func90, Tryd.ntmps90
      go_wp2_with ((go_at_call 48; ((with_reducible refine (in_any _ _ _ _).mono ?_); rintro e w' ⟨rfl, rfl⟩)))
      go_ret
      exact ⟨rfl, rfl⟩
    · have hin' : inB e.kind 1 7 = false := by simpa using hin
      clear hk hc hin
      go_enter Tryd.func90, Tryd.ntmps90
      go_wp2_with ((go_at_call 48; ((with_reducible refine (in_any _ _ _ _).mono ?_); rintro e w' ⟨rfl, rfl⟩)))
      go_ret
      exact ⟨rfl, rfl⟩

def CondS (N : Nat) : Prop := ∀ (k n : Int) (ks : List Ex) (s : Option Addr) (cap : Nat) (w : World), Ex.sizeL ks ≤ N → Rd w (kidsD ks) (.slice s ks.length cap) →
    Calls Tryd.prog 104 #[.agg #[.int .i64 k, .int .i64 n, .slice s ks.length cap]] w fun f w' => f = .returned (.bool (Ex.cond (.mk k n ks))) ∧ Below w.heap.size w w'

set_option maxHeartbeats 2000000 in
theorem implIsCondition_all (N : Nat) : CondS N := by
  induction N using Nat.strongRecOn with
  | _ N ih =>
  intro k0 n0 ks s cap w hN hr
  obtain ⟨-, hlen, hcap, -, -⟩ := kid_at hr
  unfold maxLen at hcap
  by_cases hk : condKind k0 = true
  · have Hc : Hid (Ex.cond (.mk k0 n0 ks) = Ex.condL ks) := by show _ = _; rw [Ex.cond_eq]; simp [Ex.kind, Ex.kids, hk]
    have hk' : k0 = 1 ∨ k0 = 2 ∨ k0 = 3 ∨ k0 = 5 ∨ k0 = 6 ∨ k0 = 7 := by simpa [condKind] using hk
    clear hk
    rcases hk' with hk' | hk' | hk' | hk' | hk' | hk'
    all_goals
      subst hk'
      go_enter Tryd.func104, Tryd.ntmps104
      go_wp2_with fail
      go_loopw [17] (fun i wr => ∃ k : Nat, k ≤ ks.length ∧ i = .int .i64 k ∧ Ex.condL (ks.take k) = true ∧ Below w.heap.size w wr) (fun i _ => ks.length - (intOf i).toNat)
      case atStart => exact ⟨0, by omega, rfl, by simp [Ex.condL], by (repeat' (first | exact Below.refl _ _ | assumption | (refine Below.alloc ?_ (by first | omega | (simp; done) | (simp; omega)) _) | (refine Below.drew ?_) | (refine Below.setCell ?_ (by first | omega | (simp; done) | (simp; omega)) _)))⟩
      case round =>
        obtain ⟨k, hk, rfl, hpre, hB⟩ := hrel
        have hzB := hB.size
        have Hpre := Lib.hid hpre
        clear hpre
        by_cases hlt : k < ks.length
        · obtain ⟨f, hf⟩ : ∃ f, ks[k]? = some f := ⟨_, List.getElem?_eq_getElem hlt⟩
          obtain ⟨b', o', rfl⟩ := kid_some hr (by intro h; simp [h] at hlt)
          obtain ⟨-, s', c', g0, g1, g2, gr⟩ := kid_in (hr.below hB) hf
          have hN' : Ex.sizeL f.kids < N := by
            have := Ex.sizeL_mem (List.mem_of_getElem? hf)
            have := Ex.size_eq f
            omega
          have Htk := Lib.hid (Ex.condL_take_succ hf)
          have Hfl := Lib.hid (@Ex.condL_false _ _ _ hf)
          have Het : Hid (Ex.mk f.kind f.num f.kids = f) := (Ex.eta f).symm
          go_wp2_with fail
          refine (ih _ hN' _ _ _ _ _ _ (Nat.le_refl _) (gr.alloc _)).mono ?_
          rintro x w1 ⟨rfl, hb⟩
          have hB1 : Below w.heap.size w w1 := Below.on (by (repeat' (first | exact Below.refl _ _ | assumption | (refine Below.alloc ?_ (by first | omega | (simp; done) | (simp; omega)) _) | (refine Below.drew ?_) | (refine Below.setCell ?_ (by first | omega | (simp; done) | (simp; omega)) _)))) hb (by simp; omega)
          clear hb
          rw [Het.out]
          cases hfc : f.cond
          · go_wp2_with fail
            go_ret
            exact ⟨ret_bool (by rw [Hc.out, Hfl.out hfc]), hB1⟩
          · go_wp2_with fail
            go_roundw
            case rel => exact ⟨k + 1, by omega, by go_num, by rw [Htk.out, Hpre.out, hfc]; rfl, hB1⟩
            case measure => simp [intOf]; omega
        · obtain rfl : k = ks.length := by omega
          go_wp2_with fail
          go_ret
          exact ⟨ret_bool (by have := Hpre.out; rw [List.take_length] at this; rw [Hc.out, this]), hB⟩
  · have hc : Ex.cond (.mk k0 n0 ks) = false := by rw [Ex.cond_eq]; simp [Ex.kind, hk]
    have hk' : ¬ (k0 = 1 ∨ k0 = 2 ∨ k0 = 3 ∨ k0 = 5 ∨ k0 = 6 ∨ k0 = 7) := by simpa [condKind] using hk
    have t1 : (k0 == 1) = false := by simp; omega
    have t2 : (k0 == 2) = false := by simp; omega
    have t3 : (k0 == 3) = false := by simp; omega
    have t5 : (k0 == 5) = false := by simp; omega
    have t6 : (k0 == 6) = false := by simp; omega
    have t7 : (k0 == 7) = false := by simp; omega
    rw [hc]
    clear hk hk' hc
    go_enter Tryd.func104, Tryd.ntmps104
    go_wp2_with fail
    go_ret
    exact ⟨rfl, by (repeat' (first | exact Below.refl _ _ | assumption | (refine Below.alloc ?_ (by first | omega | (simp; done) | (simp; omega)) _) | (refine Below.drew ?_) | (refine Below.setCell ?_ (by first | omega | (simp; done) | (simp; omega)) _)))⟩

theorem implIsCondition_i {k n : Int} {ks : List Ex} {s : Option Addr} {cap : Nat} {w : World} (hr : Rd w (kidsD ks) (.slice s ks.length cap)) :
    Calls Tryd.prog 104 #[.agg #[.int .i64 k, .int .i64 n, .slice s ks.length cap]] w fun f w' => f = .returned (.bool (Ex.cond (.mk k n ks))) ∧ Below w.heap.size w w' :=
  implIsCondition_all _ k n ks s cap w (Nat.le_refl _) hr
end Go.Proofs.YtlnojmmjpgpjdaaDoor
