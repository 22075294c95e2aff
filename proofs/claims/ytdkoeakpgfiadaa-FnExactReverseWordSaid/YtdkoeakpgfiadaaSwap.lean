/-
  slices.Reverse of numbers.
-/
import Derived.Test.YtdkoeakpgfiadaaMark
import Derived.Test.YtdkoeakpgfiadaaOwn
namespace Go.Proofs.Ytdkoeakpgfiadaa
open Go.ChangeShapes Go.WideShapes Go.ChangeAt Go.RowKit Go.Deep Go.Sort

/-- Turned as far as k places from both ends. -/
def Turned {α : Type} (zs ys : List α) (k : Nat) : Prop := ys.length = zs.length ∧ ∀ p, p < zs.length → ys[p]? = if p < k ∨ zs.length - k ≤ p then zs[zs.length - 1 - p]? else zs[p]?
theorem Turned.zero {α : Type} (zs : List α) : Turned zs zs 0 := ⟨rfl, fun p hp => by rw [if_neg (by omega)]⟩
theorem Turned.step {α : Type} {zs ys : List α} {k : Nat} {a b : α} (h : Turned zs ys k) (hk : k < zs.length - 1 - k) (ha : zs[k]? = some a) (hb : zs[zs.length - 1 - k]? = some b) :
    ys[k]? = some a ∧ ys[zs.length - 1 - k]? = some b ∧ Turned zs ((ys.set k b).set (zs.length - 1 - k) a) (k + 1) := by
  obtain ⟨hl, h⟩ := h
  have h1 := h k (by omega)
  have h2 := h (zs.length - 1 - k) (by omega)
  rw [if_neg (by omega)] at h1 h2
  refine ⟨by rw [h1, ha], by rw [h2, hb], by simp [hl], fun p hp => ?_⟩
  rw [List.getElem?_set, List.getElem?_set]
  have h3 := h p hp
  by_cases e1 : zs.length - 1 - k = p
  · rw [if_pos e1, if_pos (by simp; omega), if_pos (by omega), show zs.length - 1 - p = k by omega, ha]
  · rw [if_neg e1]
    by_cases e2 : k = p
    · rw [if_pos e2, if_pos (by omega), if_pos (by omega)]
      subst e2
      rw [hb]
    · rw [if_neg e2, h3]
      by_cases e3 : p < k ∨ zs.length - k ≤ p
      · rw [if_pos e3, if_pos (by omega)]
      · rw [if_neg e3, if_neg (by omega)]
theorem Turned.done {α : Type} {zs ys : List α} {k : Nat} (h : Turned zs ys k) (hk : zs.length - 1 - k ≤ k) : ys = zs.reverse := by
  obtain ⟨hl, h⟩ := h
  apply List.ext_getElem?
  intro p
  by_cases hp : p < zs.length
  · rw [h p hp, List.getElem?_reverse hp]
    by_cases e : p < k ∨ zs.length - k ≤ p
    · rw [if_pos e]
    · rw [if_neg e, show zs.length - 1 - p = p by omega]
  · rw [List.getElem?_eq_none (by omega), List.getElem?_eq_none (by simp; omega)]

set_option maxHeartbeats 1000000 in
theorem reverse_ints {zs : List Int} {s : Option Addr} {c : Nat} {F : List Nat} {w : World} (h : Ow w (intsD zs) (.slice s zs.length c) F) (hn : F.Nodup) (h1 : zs.length ≤ 1000000000) :
    Calls Try.prog 62 #[.slice s zs.length c] w fun e w' => e = .returned (.tuple #[]) ∧ Ow w' (intsD zs.reverse) (.slice s zs.length c) F ∧ Only F w w' := by
  go_enter Try.func62, Try.ntmps62
  go_wp2_with fail
  go_loopw [2, 3] (fun i j wr => ∃ (k : Nat) (ys : List Int), 2 * k ≤ zs.length ∧ i = .int .i64 k ∧ j = .int .i64 ((zs.length : Int) - 1 - k) ∧ Turned zs ys k ∧ Ow wr (.sl 1 zs.length (ys.map D.int)) (.slice s zs.length c) F ∧ Only F w wr) (fun i j _ => zs.length - 2 * (intOf i).toNat)
  case atStart => exact ⟨0, zs, by omega, rfl, by simp, Turned.zero zs, h, Only.refl _ _⟩
  case round =>
    clear h
    obtain ⟨k, ys, hk, rfl, rfl, ht, h, hO⟩ := hrel
    by_cases hlt : k < zs.length - 1 - k
    · obtain ⟨a, ha⟩ : ∃ e, zs[k]? = some e := ⟨_, List.getElem?_eq_getElem (by omega)⟩
      obtain ⟨b, hb⟩ : ∃ e, zs[zs.length - 1 - k]? = some e := ⟨_, List.getElem?_eq_getElem (by omega)⟩
      obtain ⟨t1, t2, t3⟩ := ht.step hlt ha hb
      obtain ⟨g, o, rfl⟩ := h.spot (by omega)
      obtain ⟨c1, z1, gl, s1⟩ := h.int_cell hn (ints_at t1)
      obtain ⟨c2, z2, -, -⟩ := h.int_cell hn (ints_at t2)
      obtain ⟨q1, q2⟩ := s1 b
      have m1 : (ys.map D.int).set k (.int b) = (ys.set k b).map D.int := by simp only [List.map_set]
      rw [m1] at q1
      have hne : k ≠ zs.length - 1 - k := by omega
      have t2' : (ys.set k b)[zs.length - 1 - k]? = some b := by rw [List.getElem?_set_ne hne]; exact t2
      obtain ⟨-, -, -, s2⟩ := q1.int_cell hn (ints_at t2')
      obtain ⟨r1, r2⟩ := s2 a
      have m2 : ((ys.set k b).map D.int).set (zs.length - 1 - k) (.int a) = ((ys.set k b).set (zs.length - 1 - k) a).map D.int := by simp only [List.map_set]
      rw [m2] at r1
      obtain ⟨j, hj⟩ : ∃ j : Nat, zs.length - 1 - k = j := ⟨_, rfl⟩
      have ej : (zs.length : Int) - 1 - k = (j : Int) := by omega
      rw [hj] at c2 z2 r1 r2 t3 hlt hne
      rw [ej]
      have Hfin : Hid (Turned zs ((ys.set k b).set j a) (k + 1) ∧ Ow (World.setCell (World.setCell wr ⟨g, o + k, none⟩ (.int .i64 b)) ⟨g, o + j, none⟩ (.int .i64 a)) (.sl 1 zs.length (((ys.set k b).set j a).map D.int)) (.slice (some ⟨g, o, none⟩) zs.length c) F ∧ Only F w (World.setCell (World.setCell wr ⟨g, o + k, none⟩ (.int .i64 b)) ⟨g, o + j, none⟩ (.int .i64 a))) :=
        ⟨t3, r1, (hO.trans q2).trans r2⟩
      clear t1 t2 t3 s1 s2 q1 q2 r1 r2 m1 m2 t2' ht h hO ha hb ej
      have hjl : j < zs.length := by omega
      go_wp2_with fail
      go_region
      go_wp2_with fail
      go_roundw
      case rel => exact ⟨k + 1, _, by omega, by go_num, by congr 1; omega, Hfin.out.1, Hfin.out.2.1.keep (fun _ _ => rfl), Hfin.out.2.2.trans ⟨rfl, rfl, rfl, Nat.le_refl _, fun _ _ _ => rfl⟩⟩
      case measure => simp [intOf]; omega
    · have e := ht.done (by omega)
      subst e
      go_wp2_with fail
      refine bodyPost_end (v := .tuple #[]) (by simp [results, Try.results62, go_sem]) rfl ?_
      exact ⟨rfl, by unfold intsD; rw [List.length_reverse]; exact h, hO⟩
end Go.Proofs.Ytdkoeakpgfiadaa
