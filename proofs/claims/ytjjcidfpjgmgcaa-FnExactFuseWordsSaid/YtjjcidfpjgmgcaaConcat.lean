/-
  slices.Grow, slices.Concat of numbers.
-/
import Derived.Test.YtjjcidfpjgmgcaaClone
import Derived.Lib.AppendZeros
namespace Go.Proofs.Ytjjcidfpjgmgcaa
open Go.ChangeShapes Go.WideShapes Go.ChangeAt Go.RowKit Go.Sort

set_option maxRecDepth 100000 in
theorem grow_ints {n : Nat} {w : World} (h1 : n ≤ 1000000000) :
    Calls Try.prog 147 #[.slice none 0 0, .int .i64 n] w fun e w' => ∃ v, e = .returned v ∧ App w w' 2 1 0 [] v ∧ Below w.heap.size w w' := by
  by_cases h0 : n = 0
  · subst h0
    go_enter Try.func147, Try.ntmps147
    go_wp2_with fail
    go_ret
    exact ⟨_, rfl, App.nil, Below.refl _ _⟩
  · obtain ⟨i, hi, hz, hsize, hby⟩ := info_parts info_int64
    have hrun := Lib.run_append_nil_zeros w 24 3 24 2 i (.int .i64 0) .i64 .i64 Try.underlying24 Try.underlying3 hi hz n (by omega) (by omega) (by omega) (by rw [hby]; omega)
    have hge := grownCap_ge w n 0 2
    have hcm := grownCap_le_maxLen w n 0 2 (by unfold maxLen; omega)
    obtain ⟨cap, hcap⟩ : ∃ cap, grownCap w n 0 2 = cap := ⟨_, rfl⟩
    rw [hcap] at hrun hge hcm
    obtain ⟨M, hM⟩ : ∃ M, Builtin.zeroCells (Value.int .i64 0).cells n ++ Builtin.zeroCells (Value.int .i64 0).cells (cap - n) = M := ⟨_, rfl⟩
    have hMs : M.size = cap := by rw [← hM]; simp only [Array.size_append, size_zeroCells, Value.cells]; simp; omega
    rw [hM] at hrun
    clear hM hcap
    have hblk : Blk (w.drew.alloc (.cells M 2)) w.heap.size 2 M.toList := Blk.made w.drew 2 M
    have hB : Below w.heap.size w (w.drew.alloc (.cells M 2)) := by (repeat' (first | exact Below.refl _ _ | assumption | (refine Below.alloc ?_ (by first | omega | (simp; done) | (simp; omega)) _) | (refine Below.drew ?_) | (refine Below.setCell ?_ (by first | omega | (simp; done) | (simp; omega)) _)))
    have happ : App w (w.drew.alloc (.cells M 2)) 2 1 0 [] (.slice (some ⟨w.heap.size, 0, none⟩) 0 cap) :=
      ⟨[], [], ⟨by simp, Or.inr ⟨w.heap.size, cap, M, rfl, Nat.le_refl _, by simpa [Blk] using hblk, by omega, hcm, by omega, by simp⟩⟩, Ows.nil, by simp, by simp⟩
    have Hrun := Lib.hid hrun
    clear hrun
    generalize w.drew.alloc (.cells M 2) = w2 at Hrun hblk hB happ
    have hpos : 0 < (n : Int) := by omega
    go_enter Try.func147, Try.ntmps147
    go_wp2_with (at_builtin; refine Lib.wpList_append_run _ rfl _ _ 24 3 rfl _ _ rfl rfl _ _ Hrun.out ?_)
    go_ret
    exact ⟨_, rfl, happ, hB⟩

/-- How many numbers lie in the first lists. -/
def sumTo (zss : List (List Int)) (k : Nat) : Nat := (zss.take k).flatten.length
theorem flat_step {zss : List (List Int)} {k : Nat} {z : List Int} (h : zss[k]? = some z) : (zss.take (k + 1)).flatten = (zss.take k).flatten ++ z := by
  obtain ⟨hk, rfl⟩ := List.getElem?_eq_some_iff.1 h
  rw [List.take_succ_eq_append_getElem hk, List.flatten_append]
  simp only [List.flatten_cons, List.flatten_nil, List.append_nil]
theorem sumTo_step {zss : List (List Int)} {k : Nat} {z : List Int} (h : zss[k]? = some z) : sumTo zss (k + 1) = sumTo zss k + z.length := by
  unfold sumTo
  rw [flat_step h, List.length_append]
theorem sumTo_le {zss : List (List Int)} (k : Nat) : sumTo zss k ≤ zss.flatten.length := by
  have : zss.flatten = (zss.take k).flatten ++ (zss.drop k).flatten := by rw [← List.flatten_append, List.take_append_drop]
  unfold sumTo
  rw [this, List.length_append]
  omega
/-- A list of a list of lists. -/
theorem list_in {w : World} {zss : List (List Int)} {a : Option Addr} {len cap : Nat} (h : Rd w (.sl 1 zss.length (zss.map intsD)) (.slice a len cap)) {k : Nat} {z : List Int} (hz : zss[k]? = some z) :
    ∃ b o s c, a = some ⟨b, o, none⟩ ∧ b < w.heap.size ∧ w.cell? ⟨b, o + k, none⟩ = some (.slice s z.length c) ∧ Rd w (intsD z) (.slice s z.length c) := by
  obtain ⟨_, _, _, _, _, h4⟩ := h.sl_at
  rcases h4 with h4 | ⟨b, o, e1, h4⟩
  · have := (List.getElem?_eq_some_iff.1 hz).1
    omega
  · obtain ⟨x, h5, h6⟩ := h4 k (intsD z) (by rw [List.getElem?_map, hz]; rfl)
    obtain ⟨s, c, rfl, _⟩ := Rd.slice (show Rd w (.sl 1 z.length (z.map D.int)) x from h6)
    exact ⟨b, o, s, c, e1, World.block_lt_of_cell? w _ h5, h5, h6⟩

set_option maxHeartbeats 1000000 in
theorem concat_ints {zss : List (List Int)} {s : Option Addr} {c : Nat} {w : World} (hr : Rd w (.sl 1 zss.length (zss.map intsD)) (.slice s zss.length c)) (h1 : zss.flatten.length ≤ 1000000000) :
    Calls Try.prog 115 #[.slice s zss.length c] w fun e w' => ∃ s' c', e = .returned (.slice s' zss.flatten.length c') ∧ Fresh w w' (intsD zss.flatten) (.slice s' zss.flatten.length c') ∧ Below w.heap.size w w' := by
  obtain ⟨-, hlen, hcap, -⟩ := hr.sl_at
  unfold maxLen at hcap
  obtain ⟨T, hT⟩ : ∃ T, zss.flatten.length = T := ⟨_, rfl⟩
  have hT1 : T ≤ 1000000000 := by omega
  have HT := Lib.hid hT
  rw [hT]
  clear hT h1
  go_enter Try.func115, Try.ntmps115
  go_wp2_with fail
  go_loop [3, 11] (fun n i => ∃ k : Nat, k ≤ zss.length ∧ i = .int .i64 k ∧ n = .int .i64 (sumTo zss k : Nat)) (fun _ i => zss.length - (intOf i).toNat)
  case atStart => exact ⟨0, by omega, rfl, by simp [sumTo]⟩
  case round =>
    obtain ⟨k, hk, rfl, rfl⟩ := hrel
    have hle := sumTo_le (zss := zss) k
    rw [HT.out] at hle
    by_cases hlt : k < zss.length
    · obtain ⟨z, hz⟩ : ∃ e, zss[k]? = some e := ⟨_, List.getElem?_eq_getElem hlt⟩
      obtain ⟨b, o, s2, c2, rfl, -, g0, g1⟩ := list_in hr hz
      have hle2 := sumTo_le (zss := zss) (k + 1)
      rw [HT.out, sumTo_step hz] at hle2
      have Hst := Lib.hid (sumTo_step hz)
      go_wp2_with fail
      go_round
      case rel => exact ⟨k + 1, by omega, by go_num, by rw [Hst.out]; go_num⟩
      case measure => simp [intOf]; omega
    · obtain rfl : k = zss.length := by omega
      have hn : sumTo zss zss.length = T := by have := HT.out; unfold sumTo; rw [List.take_length]; exact this
      rw [hn]
      clear hn hle
      go_wp2_with fail
      refine (grow_ints (n := T) hT1).mono ?_
      rintro e w1 ⟨v, rfl, happ, hB⟩
      go_wp2_with fail
      go_loopw [6, 27] (fun v i wr => ∃ k : Nat, k ≤ zss.length ∧ i = .int .i64 k ∧ App w wr 2 1 (sumTo zss k) ((zss.take k).flatten.map D.int) v ∧ Below w.heap.size w wr) (fun _ i _ => zss.length - (intOf i).toNat)
      case atStart => exact ⟨0, by omega, rfl, by simpa [sumTo] using happ, hB⟩
      case round =>
        clear happ hB
        obtain ⟨k, hk', rfl, happ, hB⟩ := hrel
        by_cases hlt : k < zss.length
        · obtain ⟨z, hz⟩ : ∃ e, zss[k]? = some e := ⟨_, List.getElem?_eq_getElem hlt⟩
          obtain ⟨b, o, s2, c2, rfl, -, g0, g1⟩ := list_in (hr.below hB) hz
          have hle2 := sumTo_le (zss := zss) (k + 1)
          rw [HT.out, sumTo_step hz] at hle2
          have Hst : Hid ((zss.take (k + 1)).flatten = (zss.take k).flatten ++ z) := flat_step hz
          have hzB := hB.size
          have Hlen : Hid (((zss.take k).flatten ++ z).length = sumTo zss (k + 1)) := by show _ = _; rw [← flat_step hz]; rfl
          go_wp2_with (at_builtin; refine wpList_append_ints (W := w) (zs := (zss.take k).flatten) (ys := z) _ rfl _ _ 24 rfl 2 Try.underlying24 info_int64 _ rfl happ hzB rfl g1 (by unfold sumTo at hle2; omega) ?_; intro a' cap w2 happ2 hb2; rw [Hlen.out] at happ2 ⊢)
          have hB2 := hB.trans hb2
          rw [← Hst.out] at happ2
          go_roundw
          case rel => exact ⟨k + 1, by omega, by go_num, happ2, hB2⟩
          case measure => simp [intOf]; omega
        · obtain rfl : k = zss.length := by omega
          have hn : sumTo zss zss.length = T := by have := HT.out; unfold sumTo; rw [List.take_length]; exact this
          rw [hn, List.take_length] at happ
          obtain ⟨a', cap, rfl, _⟩ := happ.shape
          clear hn
          go_wp2_with fail
          go_ret
          exact ⟨a', cap, rfl, by have := happ.fresh; rw [← HT.out] at this ⊢; exact this, hB⟩
end Go.Proofs.Ytjjcidfpjgmgcaa
