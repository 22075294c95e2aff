/-
  Parts of a proof, joined: Aut. No condition.
-/
import Derived.Test.YtjlmdhoajfdkbaaGreatDoorPk25
namespace Go.Proofs.YtjlmdhoajfdkbaaGreatDoor
set_option linter.unusedVariables false
set_option linter.unusedSimpArgs false
open Go.ChangeShapes Go.WideShapes Go.ChangeAt Go.RowKit Go.Sort
set_option maxHeartbeats 1000000 in
theorem markBoolS_any (zs : List Bool) (s : Option Addr) (c k : Nat) (F : List Nat) (w : World) (h : Ow w (boolsD zs) (.slice s zs.length c) F) (hn : F.Nodup) (hk : k + (boolsD zs).marks ≤ 1000000000000) (hlen : zs.length ≤ 9223372036854775807) :
  Calls Tryz.prog 155 #[.slice s zs.length c, .int .i64 k] w fun e w' => e = .returned (.int .i64 (k + (boolsD zs).marks : Nat)) ∧ Ow w' (D.mark (boolsD zs) k) (.slice s zs.length c) F ∧ Only F w w' := by
 have e0 : (boolsD zs).marks = zs.length := bools_marks zs
 have H0 : Ow w (.sl 1 zs.length (mkd (zs.map D.bool) 0 k)) (.slice s zs.length c) F := by rw [mkd_zero]; exact h
 rw [e0] at hk ⊢
 clear e0
 go_enter Tryz.func155, Tryz.ntmps155
 go_wp2_with fail
 go_loopw [1, 5] (fun q i wr => ∃ j : Nat, j ≤ zs.length ∧ i = .int .i64 j ∧ q = .int .i64 (k + j : Nat) ∧ Ow wr (.sl 1 zs.length (mkd (zs.map D.bool) j k)) (.slice s zs.length c) F ∧ Only F w wr) (fun _ i _ => zs.length - (intOf i).toNat)
 case atStart => exact ⟨0, by omega, rfl, rfl, H0, Only.refl _ _⟩
 case round =>
  clear h H0
  obtain ⟨j, hj, rfl, rfl, h, hO⟩ := hrel
  by_cases hlt : j < zs.length
  ·
   obtain ⟨z, hz⟩ : ∃ e, zs[j]? = some e := ⟨_, List.getElem?_eq_getElem hlt⟩
   obtain ⟨b, o, rfl⟩ := h.spot (by omega)
   have hat := mkd_at (map_at (f := D.bool) hz) (Nat.le_refl j) k
   obtain ⟨g0, g1, g2, g3⟩ := h.bool_cell hn hat
   obtain ⟨q, hq⟩ : ∃ q, k + j = q := ⟨_, rfl⟩
   have Hst : Hid (Ow (wr.setCell ⟨b, o + j, none⟩ (.bool ((q : Int) % 3 == 0))) (.sl 1 zs.length (mkd (zs.map D.bool) (j + 1) k)) (.slice (some ⟨b, o, none⟩) zs.length c) F ∧ Only F w (wr.setCell ⟨b, o + j, none⟩ (.bool ((q : Int) % 3 == 0)))) := by
    obtain ⟨q1, q2⟩ := g3 ((q : Int) % 3 == 0)
    refine ⟨?_, hO.trans q2⟩
    have e := mkd_step (map_at (f := D.bool) hz) k
    rw [bools_take _ _ hj, hq, mark_bool] at e
    rw [← e]
    exact q1
   have Hq := Lib.hid hq
   rw [hq]
   have hq0 : q + 1 ≤ 1000000000000 := by omega
   clear g3 hat hq
   go_wp2_with fail
   go_roundw
   case rel => exact ⟨j + 1, by omega, by go_num, by rw [← Nat.add_assoc, Hq.out]; go_num, Hst.out.1, Hst.out.2⟩
   case measure => simp [intOf]; omega
  ·
   obtain rfl : j = zs.length := by omega
   have e := mkd_all (zs.map D.bool) k
   rw [List.length_map] at e
   rw [e] at h
   go_wp2_with fail
   go_ret
   exact ⟨rfl, h, hO⟩
theorem markInt64S_r (zs : List Int) (s : Option Addr) (c k : Nat) (F : List Nat) (w : World) (h : Ow w (nestD D.int zs) (.slice s zs.length c) F) (hn : F.Nodup) (hk : k + (intsD zs).marks ≤ 1000000000000) (hlen : zs.length ≤ 9223372036854775807) :
  Calls Tryz.prog 47 #[.slice s zs.length c, .int .i64 k] w fun e w' => e = .returned (.int .i64 (k + (intsD zs).marks : Nat)) ∧ Ow w' (D.mark (intsD zs) k) (.slice s zs.length c) F ∧ Only F w w' := by
 have e0 : (intsD zs).marks = zs.length := marksL_ints zs
 rw [e0] at hk ⊢
 exact markInt64S_i h hn (by omega) (by omega)
theorem markBoolSS_any (xs : List (List Bool)) (s : Option Addr) (c k : Nat) (F : List Nat) (w : World) (h : Ow w (bbD xs) (.slice s xs.length c) F) (hn : F.Nodup) (hk : k + (bbD xs).marks ≤ 1000000000000) (hlen : xs.length ≤ 9223372036854775807) :
  Calls Tryz.prog 112 #[.slice s xs.length c, .int .i64 k] w fun e w' => e = .returned (.int .i64 (k + (bbD xs).marks : Nat)) ∧ Ow w' (D.mark (bbD xs) k) (.slice s xs.length c) F ∧ Only F w w' := by
 have e0 : (bbD xs).marks = accL (fun x => (boolsD x).marks) xs := marksL_map (f := boolsD) xs
 have H0 : Ow w (.sl 1 xs.length (mkd (xs.map boolsD) 0 k)) (.slice s xs.length c) F := by rw [mkd_zero]; exact h
 rw [e0] at hk ⊢
 clear e0
 go_enter Tryz.func112, Tryz.ntmps112
 go_wp2_with fail
 go_loopw [1, 5] (fun q i wr => ∃ j : Nat, j ≤ xs.length ∧ i = .int .i64 j ∧ q = .int .i64 (k + accL (fun x => (boolsD x).marks) (xs.take j) : Nat) ∧ Ow wr (.sl 1 xs.length (mkd (xs.map boolsD) j k)) (.slice s xs.length c) F ∧ Only F w wr) (fun _ i _ => xs.length - (intOf i).toNat)
 case atStart => exact ⟨0, by omega, rfl, by simp [accL], H0, Only.refl _ _⟩
 case round =>
  clear h H0
  obtain ⟨j, hj, rfl, rfl, h, hO⟩ := hrel
  by_cases hlt : j < xs.length
  ·
   obtain ⟨x, hx⟩ : ∃ e, xs[j]? = some e := ⟨_, List.getElem?_eq_getElem hlt⟩
   obtain ⟨b, o, rfl⟩ := h.spot (by omega)
   obtain ⟨q, hq⟩ : ∃ q, k + accL (fun x => (boolsD x).marks) (xs.take j) = q := ⟨_, rfl⟩
   have hat : (mkd (xs.map boolsD) j k)[j]? = some (.sl 1 x.length (x.map D.bool)) := mkd_at (map_at hx) (Nat.le_refl j) k
   obtain ⟨a', c', G, g0, z0, -, -, hGF, hGn, hG, s0⟩ := h.sl_cell hn hat
   have e1 := mkd_step (map_at (f := boolsD) hx) k
   rw [map_take_marks, hq] at e1
   have htk := accL_take_succ (c := fun x => (boolsD x).marks) hx
   have htl := accL_take_le (fun x => (boolsD x).marks) xs (j + 1)
   have hqb : q + (boolsD x).marks ≤ 1000000000000 := by (try simp only at htk htl); omega
   have Hq : Hid (q + (boolsD x).marks = k + accL (fun x => (boolsD x).marks) (xs.take (j + 1))) := by show _ = _; (try simp only at htk); omega
   have He1 := Lib.hid e1
   have Hs0 := Lib.hid s0
   have HO := Lib.hid hO
   have hxl : x.length ≤ 9223372036854775807 := by
    obtain ⟨-, h2, h3, -⟩ := hG.cells
    unfold maxLen at h3
    omega
   rw [hq]
   clear e1 s0 hO htk htl hq h hat
   go_wp2_with fail
   refine (markBoolS_any x a' c' q G _ hG hGn hqb hxl).mono ?_
   rintro e w1 ⟨rfl, hm, hO2⟩
   obtain ⟨t1, t2⟩ := Hs0.out w1 _ hm hO2
   have t3 : Ow w1 (.sl 1 xs.length (mkd (xs.map boolsD) (j + 1) k)) (.slice (some ⟨b, o, none⟩) xs.length c) F := by rw [← He1.out]; exact t1
   have Hfin := Lib.hid (And.intro t3 (HO.out.trans t2))
   clear t1 t2 t3 hm hO2 hG g0 z0
   rw [Hq.out]
   go_wp2_with fail
   go_roundw
   case rel => exact ⟨j + 1, by omega, by go_num, rfl, Hfin.out.1, Hfin.out.2⟩
   case measure => simp [intOf]; omega
  ·
   obtain rfl : j = xs.length := by omega
   have e := mkd_all (xs.map boolsD) k
   rw [List.length_map] at e
   rw [e] at h
   rw [List.take_length] at *
   go_wp2_with fail
   go_ret
   exact ⟨rfl, h, hO⟩
theorem markInt64SS_any (xs : List (List Int)) (s : Option Addr) (c k : Nat) (F : List Nat) (w : World) (h : Ow w (iiD xs) (.slice s xs.length c) F) (hn : F.Nodup) (hk : k + (iiD xs).marks ≤ 1000000000000) (hlen : xs.length ≤ 9223372036854775807) :
  Calls Tryz.prog 156 #[.slice s xs.length c, .int .i64 k] w fun e w' => e = .returned (.int .i64 (k + (iiD xs).marks : Nat)) ∧ Ow w' (D.mark (iiD xs) k) (.slice s xs.length c) F ∧ Only F w w' := by
 have e0 : (iiD xs).marks = accL (fun x => (intsD x).marks) xs := marksL_map (f := intsD) xs
 have H0 : Ow w (.sl 1 xs.length (mkd (xs.map intsD) 0 k)) (.slice s xs.length c) F := by rw [mkd_zero]; exact h
 rw [e0] at hk ⊢
 clear e0
 go_enter Tryz.func156, Tryz.ntmps156
 go_wp2_with fail
 go_loopw [1, 5] (fun q i wr => ∃ j : Nat, j ≤ xs.length ∧ i = .int .i64 j ∧ q = .int .i64 (k + accL (fun x => (intsD x).marks) (xs.take j) : Nat) ∧ Ow wr (.sl 1 xs.length (mkd (xs.map intsD) j k)) (.slice s xs.length c) F ∧ Only F w wr) (fun _ i _ => xs.length - (intOf i).toNat)
 case atStart => exact ⟨0, by omega, rfl, by simp [accL], H0, Only.refl _ _⟩
 case round =>
  clear h H0
  obtain ⟨j, hj, rfl, rfl, h, hO⟩ := hrel
  by_cases hlt : j < xs.length
  ·
   obtain ⟨x, hx⟩ : ∃ e, xs[j]? = some e := ⟨_, List.getElem?_eq_getElem hlt⟩
   obtain ⟨b, o, rfl⟩ := h.spot (by omega)
   obtain ⟨q, hq⟩ : ∃ q, k + accL (fun x => (intsD x).marks) (xs.take j) = q := ⟨_, rfl⟩
   have hat : (mkd (xs.map intsD) j k)[j]? = some (.sl 1 x.length (x.map D.int)) := mkd_at (map_at hx) (Nat.le_refl j) k
   obtain ⟨a', c', G, g0, z0, -, -, hGF, hGn, hG, s0⟩ := h.sl_cell hn hat
   have e1 := mkd_step (map_at (f := intsD) hx) k
   rw [map_take_marks, hq] at e1
   have htk := accL_take_succ (c := fun x => (intsD x).marks) hx
   have htl := accL_take_le (fun x => (intsD x).marks) xs (j + 1)
   have hqb : q + (intsD x).marks ≤ 1000000000000 := by (try simp only at htk htl); omega
   have Hq : Hid (q + (intsD x).marks = k + accL (fun x => (intsD x).marks) (xs.take (j + 1))) := by show _ = _; (try simp only at htk); omega
   have He1 := Lib.hid e1
   have Hs0 := Lib.hid s0
   have HO := Lib.hid hO
   have hxl : x.length ≤ 9223372036854775807 := by
    obtain ⟨-, h2, h3, -⟩ := hG.cells
    unfold maxLen at h3
    omega
   rw [hq]
   clear e1 s0 hO htk htl hq h hat
   go_wp2_with fail
   refine (markInt64S_r x a' c' q G _ hG hGn hqb hxl).mono ?_
   rintro e w1 ⟨rfl, hm, hO2⟩
   obtain ⟨t1, t2⟩ := Hs0.out w1 _ hm hO2
   have t3 : Ow w1 (.sl 1 xs.length (mkd (xs.map intsD) (j + 1) k)) (.slice (some ⟨b, o, none⟩) xs.length c) F := by rw [← He1.out]; exact t1
   have Hfin := Lib.hid (And.intro t3 (HO.out.trans t2))
   clear t1 t2 t3 hm hO2 hG g0 z0
   rw [Hq.out]
   go_wp2_with fail
   go_roundw
   case rel => exact ⟨j + 1, by omega, by go_num, rfl, Hfin.out.1, Hfin.out.2⟩
   case measure => simp [intOf]; omega
  ·
   obtain rfl : j = xs.length := by omega
   have e := mkd_all (xs.map intsD) k
   rw [List.length_map] at e
   rw [e] at h
   rw [List.take_length] at *
   go_wp2_with fail
   go_ret
   exact ⟨rfl, h, hO⟩
theorem markInt64SSS_any (xs : List (List (List Int))) (s : Option Addr) (c k : Nat) (F : List Nat) (w : World) (h : Ow w (iiiD xs) (.slice s xs.length c) F) (hn : F.Nodup) (hk : k + (iiiD xs).marks ≤ 1000000000000) (hlen : xs.length ≤ 9223372036854775807) :
  Calls Tryz.prog 113 #[.slice s xs.length c, .int .i64 k] w fun e w' => e = .returned (.int .i64 (k + (iiiD xs).marks : Nat)) ∧ Ow w' (D.mark (iiiD xs) k) (.slice s xs.length c) F ∧ Only F w w' := by
 have e0 : (iiiD xs).marks = accL (fun x => (iiD x).marks) xs := marksL_map (f := iiD) xs
 have H0 : Ow w (.sl 1 xs.length (mkd (xs.map iiD) 0 k)) (.slice s xs.length c) F := by rw [mkd_zero]; exact h
 rw [e0] at hk ⊢
 clear e0
 go_enter Tryz.func113, Tryz.ntmps113
 go_wp2_with fail
 go_loopw [1, 5] (fun q i wr => ∃ j : Nat, j ≤ xs.length ∧ i = .int .i64 j ∧ q = .int .i64 (k + accL (fun x => (iiD x).marks) (xs.take j) : Nat) ∧ Ow wr (.sl 1 xs.length (mkd (xs.map iiD) j k)) (.slice s xs.length c) F ∧ Only F w wr) (fun _ i _ => xs.length - (intOf i).toNat)
 case atStart => exact ⟨0, by omega, rfl, by simp [accL], H0, Only.refl _ _⟩
 case round =>
  clear h H0
  obtain ⟨j, hj, rfl, rfl, h, hO⟩ := hrel
  by_cases hlt : j < xs.length
  ·
   obtain ⟨x, hx⟩ : ∃ e, xs[j]? = some e := ⟨_, List.getElem?_eq_getElem hlt⟩
   obtain ⟨b, o, rfl⟩ := h.spot (by omega)
   obtain ⟨q, hq⟩ : ∃ q, k + accL (fun x => (iiD x).marks) (xs.take j) = q := ⟨_, rfl⟩
   have hat : (mkd (xs.map iiD) j k)[j]? = some (.sl 1 x.length (x.map intsD)) := mkd_at (map_at hx) (Nat.le_refl j) k
   obtain ⟨a', c', G, g0, z0, -, -, hGF, hGn, hG, s0⟩ := h.sl_cell hn hat
   have e1 := mkd_step (map_at (f := iiD) hx) k
   rw [map_take_marks, hq] at e1
   have htk := accL_take_succ (c := fun x => (iiD x).marks) hx
   have htl := accL_take_le (fun x => (iiD x).marks) xs (j + 1)
   have hqb : q + (iiD x).marks ≤ 1000000000000 := by (try simp only at htk htl); omega
   have Hq : Hid (q + (iiD x).marks = k + accL (fun x => (iiD x).marks) (xs.take (j + 1))) := by show _ = _; (try simp only at htk); omega
   have He1 := Lib.hid e1
   have Hs0 := Lib.hid s0
   have HO := Lib.hid hO
   have hxl : x.length ≤ 9223372036854775807 := by
    obtain ⟨-, h2, h3, -⟩ := hG.cells
    unfold maxLen at h3
    omega
   rw [hq]
   clear e1 s0 hO htk htl hq h hat
   go_wp2_with fail
   refine (markInt64SS_any x a' c' q G _ hG hGn hqb hxl).mono ?_
   rintro e w1 ⟨rfl, hm, hO2⟩
   obtain ⟨t1, t2⟩ := Hs0.out w1 _ hm hO2
   have t3 : Ow w1 (.sl 1 xs.length (mkd (xs.map iiD) (j + 1) k)) (.slice (some ⟨b, o, none⟩) xs.length c) F := by rw [← He1.out]; exact t1
   have Hfin := Lib.hid (And.intro t3 (HO.out.trans t2))
   clear t1 t2 t3 hm hO2 hG g0 z0
   rw [Hq.out]
   go_wp2_with fail
   go_roundw
   case rel => exact ⟨j + 1, by omega, by go_num, rfl, Hfin.out.1, Hfin.out.2⟩
   case measure => simp [intOf]; omega
  ·
   obtain rfl : j = xs.length := by omega
   have e := mkd_all (xs.map iiD) k
   rw [List.length_map] at e
   rw [e] at h
   rw [List.take_length] at *
   go_wp2_with fail
   go_ret
   exact ⟨rfl, h, hO⟩
theorem heldBoolS_any (zs : List Bool) (s : Option Addr) (c k : Nat) (w : World) (h : Rd w (D.mark (boolsD zs) k) (.slice s zs.length c)) (hk : k + (boolsD zs).marks ≤ 1000000000000) :
  Calls Tryz.prog 157 #[.slice s zs.length c, .int .i64 k] w fun e w' => e = .returned (.int .i64 (k + (boolsD zs).marks : Nat)) ∧ w = w' := by
 rw [bools_marks] at hk ⊢
 have h' : Rd w (.sl 1 zs.length (D.markL (zs.map D.bool) k)) (.slice s zs.length c) := h
 obtain ⟨-, hln, hcp, -, -, h4⟩ := h'.sl_at
 unfold maxLen at hcp
 clear h' h
 go_enter Tryz.func157, Tryz.ntmps157
 go_wp2_with fail
 go_loop [1, 5] (fun q i => ∃ j : Nat, j ≤ zs.length ∧ i = .int .i64 j ∧ q = .int .i64 (k + j : Nat)) (fun _ i => zs.length - (intOf i).toNat)
 case atStart => exact ⟨0, by omega, rfl, rfl⟩
 case round =>
  obtain ⟨j, hj, rfl, rfl⟩ := hrel
  by_cases hlt : j < zs.length
  ·
   obtain ⟨z, hz⟩ : ∃ e, zs[j]? = some e := ⟨_, List.getElem?_eq_getElem hlt⟩
   have hat := markL_at (map_at (f := D.bool) hz) k
   rw [bools_take _ _ hj] at hat
   rcases h4 with h4 | ⟨b, o, rfl, h4⟩
   ·
    omega
   obtain ⟨x, hx, hr⟩ := h4 _ _ hat
   rw [mark_bool] at hr
   simp only [Rd] at hr
   subst hr
   obtain ⟨q, hq⟩ : ∃ q, k + j = q := ⟨_, rfl⟩
   have Hq := Lib.hid hq
   rw [hq] at hx ⊢
   have hq0 : q + 1 ≤ 1000000000000 := by omega
   clear h4 hat hq
   go_wp2_with fail
   go_round
   case rel => exact ⟨j + 1, by omega, by go_num, by rw [← Nat.add_assoc, Hq.out]; go_num⟩
   case measure => simp [intOf]; omega
  ·
   obtain rfl : j = zs.length := by omega
   go_wp2_with fail
   go_ret
   exact ⟨rfl, rfl⟩
theorem heldInt64S_r (zs : List Int) (s : Option Addr) (c k : Nat) (w : World) (h : Rd w (D.mark (nestD D.int zs) k) (.slice s zs.length c)) (hk : k + (intsD zs).marks ≤ 1000000000000) :
  Calls Tryz.prog 48 #[.slice s zs.length c, .int .i64 k] w fun e w' => e = .returned (.int .i64 (k + (intsD zs).marks : Nat)) ∧ w = w' := by
 have e0 : (intsD zs).marks = zs.length := marksL_ints zs
 rw [e0] at hk ⊢
 exact heldInt64S_i h (by omega) (by omega)
theorem heldBoolSS_any (xs : List (List Bool)) (s : Option Addr) (c k : Nat) (w : World) (h : Rd w (D.mark (bbD xs) k) (.slice s xs.length c)) (hk : k + (bbD xs).marks ≤ 1000000000000) :
  Calls Tryz.prog 114 #[.slice s xs.length c, .int .i64 k] w fun e w' => e = .returned (.int .i64 (k + (bbD xs).marks : Nat)) ∧ w = w' := by
 have e0 : (bbD xs).marks = accL (fun x => (boolsD x).marks) xs := marksL_map (f := boolsD) xs
 rw [e0] at hk ⊢
 clear e0
 have h' : Rd w (.sl 1 xs.length (D.markL (xs.map boolsD) k)) (.slice s xs.length c) := h
 obtain ⟨-, hln, hcp, -, -, h4⟩ := h'.sl_at
 unfold maxLen at hcp
 clear h'
 go_enter Tryz.func114, Tryz.ntmps114
 go_wp2_with fail
 go_loop [1, 5] (fun q i => ∃ j : Nat, j ≤ xs.length ∧ i = .int .i64 j ∧ q = .int .i64 (k + accL (fun x => (boolsD x).marks) (xs.take j) : Nat)) (fun _ i => xs.length - (intOf i).toNat)
 case atStart => exact ⟨0, by omega, rfl, by simp [accL]⟩
 case round =>
  obtain ⟨j, hj, rfl, rfl⟩ := hrel
  by_cases hlt : j < xs.length
  ·
   obtain ⟨x, hx⟩ : ∃ e, xs[j]? = some e := ⟨_, List.getElem?_eq_getElem hlt⟩
   rcases h4 with h4 | ⟨b, o, rfl, h4⟩
   ·
    omega
   obtain ⟨q, hq⟩ : ∃ q, k + accL (fun x => (boolsD x).marks) (xs.take j) = q := ⟨_, rfl⟩
   have a0 := markL_at (map_at (f := boolsD) hx) k
   rw [map_take_marks, hq] at a0
   obtain ⟨x0, g0, r0⟩ := h4 _ _ a0
   obtain ⟨a', c', rfl, -⟩ : ∃ a' c', x0 = .slice a' x.length c' ∧ True := by
    have r1 : Rd w (.sl 1 x.length (D.markL (x.map D.bool) q)) x0 := r0
    obtain ⟨a', c', e, _⟩ := r1.slice
    exact ⟨a', c', e, trivial⟩
   have htk := accL_take_succ (c := fun x => (boolsD x).marks) hx
   have htl := accL_take_le (fun x => (boolsD x).marks) xs (j + 1)
   have hqb : q + (boolsD x).marks ≤ 1000000000000 := by (try simp only at htk htl); omega
   have Hq : Hid (q + (boolsD x).marks = k + accL (fun x => (boolsD x).marks) (xs.take (j + 1))) := by show _ = _; (try simp only at htk); omega
   rw [hq]
   clear htk htl hq a0 h4 h
   go_wp2_with fail
   refine (heldBoolS_any x a' c' q _ r0 hqb).mono ?_
   rintro e w1 ⟨rfl, rfl⟩
   rw [Hq.out]
   go_wp2_with fail
   go_round
   case rel => exact ⟨j + 1, by omega, by go_num, rfl⟩
   case measure => simp [intOf]; omega
  ·
   obtain rfl : j = xs.length := by omega
   rw [List.take_length] at *
   go_wp2_with fail
   go_ret
   exact ⟨rfl, rfl⟩
theorem heldInt64SS_any (xs : List (List Int)) (s : Option Addr) (c k : Nat) (w : World) (h : Rd w (D.mark (iiD xs) k) (.slice s xs.length c)) (hk : k + (iiD xs).marks ≤ 1000000000000) :
  Calls Tryz.prog 158 #[.slice s xs.length c, .int .i64 k] w fun e w' => e = .returned (.int .i64 (k + (iiD xs).marks : Nat)) ∧ w = w' := by
 have e0 : (iiD xs).marks = accL (fun x => (intsD x).marks) xs := marksL_map (f := intsD) xs
 rw [e0] at hk ⊢
 clear e0
 have h' : Rd w (.sl 1 xs.length (D.markL (xs.map intsD) k)) (.slice s xs.length c) := h
 obtain ⟨-, hln, hcp, -, -, h4⟩ := h'.sl_at
 unfold maxLen at hcp
 clear h'
 go_enter Tryz.func158, Tryz.ntmps158
 go_wp2_with fail
 go_loop [1, 5] (fun q i => ∃ j : Nat, j ≤ xs.length ∧ i = .int .i64 j ∧ q = .int .i64 (k + accL (fun x => (intsD x).marks) (xs.take j) : Nat)) (fun _ i => xs.length - (intOf i).toNat)
 case atStart => exact ⟨0, by omega, rfl, by simp [accL]⟩
 case round =>
  obtain ⟨j, hj, rfl, rfl⟩ := hrel
  by_cases hlt : j < xs.length
  ·
   obtain ⟨x, hx⟩ : ∃ e, xs[j]? = some e := ⟨_, List.getElem?_eq_getElem hlt⟩
   rcases h4 with h4 | ⟨b, o, rfl, h4⟩
   ·
    omega
   obtain ⟨q, hq⟩ : ∃ q, k + accL (fun x => (intsD x).marks) (xs.take j) = q := ⟨_, rfl⟩
   have a0 := markL_at (map_at (f := intsD) hx) k
   rw [map_take_marks, hq] at a0
   obtain ⟨x0, g0, r0⟩ := h4 _ _ a0
   obtain ⟨a', c', rfl, -⟩ : ∃ a' c', x0 = .slice a' x.length c' ∧ True := by
    have r1 : Rd w (.sl 1 x.length (D.markL (x.map D.int) q)) x0 := r0
    obtain ⟨a', c', e, _⟩ := r1.slice
    exact ⟨a', c', e, trivial⟩
   have htk := accL_take_succ (c := fun x => (intsD x).marks) hx
   have htl := accL_take_le (fun x => (intsD x).marks) xs (j + 1)
   have hqb : q + (intsD x).marks ≤ 1000000000000 := by (try simp only at htk htl); omega
   have Hq : Hid (q + (intsD x).marks = k + accL (fun x => (intsD x).marks) (xs.take (j + 1))) := by show _ = _; (try simp only at htk); omega
   rw [hq]
   clear htk htl hq a0 h4 h
   go_wp2_with fail
   refine (heldInt64S_r x a' c' q _ r0 hqb).mono ?_
   rintro e w1 ⟨rfl, rfl⟩
   rw [Hq.out]
   go_wp2_with fail
   go_round
   case rel => exact ⟨j + 1, by omega, by go_num, rfl⟩
   case measure => simp [intOf]; omega
  ·
   obtain rfl : j = xs.length := by omega
   rw [List.take_length] at *
   go_wp2_with fail
   go_ret
   exact ⟨rfl, rfl⟩
theorem heldInt64SSS_any (xs : List (List (List Int))) (s : Option Addr) (c k : Nat) (w : World) (h : Rd w (D.mark (iiiD xs) k) (.slice s xs.length c)) (hk : k + (iiiD xs).marks ≤ 1000000000000) :
  Calls Tryz.prog 115 #[.slice s xs.length c, .int .i64 k] w fun e w' => e = .returned (.int .i64 (k + (iiiD xs).marks : Nat)) ∧ w = w' := by
 have e0 : (iiiD xs).marks = accL (fun x => (iiD x).marks) xs := marksL_map (f := iiD) xs
 rw [e0] at hk ⊢
 clear e0
 have h' : Rd w (.sl 1 xs.length (D.markL (xs.map iiD) k)) (.slice s xs.length c) := h
 obtain ⟨-, hln, hcp, -, -, h4⟩ := h'.sl_at
 unfold maxLen at hcp
 clear h'
 go_enter Tryz.func115, Tryz.ntmps115
 go_wp2_with fail
 go_loop [1, 5] (fun q i => ∃ j : Nat, j ≤ xs.length ∧ i = .int .i64 j ∧ q = .int .i64 (k + accL (fun x => (iiD x).marks) (xs.take j) : Nat)) (fun _ i => xs.length - (intOf i).toNat)
 case atStart => exact ⟨0, by omega, rfl, by simp [accL]⟩
 case round =>
  obtain ⟨j, hj, rfl, rfl⟩ := hrel
  by_cases hlt : j < xs.length
  ·
   obtain ⟨x, hx⟩ : ∃ e, xs[j]? = some e := ⟨_, List.getElem?_eq_getElem hlt⟩
   rcases h4 with h4 | ⟨b, o, rfl, h4⟩
   ·
    omega
   obtain ⟨q, hq⟩ : ∃ q, k + accL (fun x => (iiD x).marks) (xs.take j) = q := ⟨_, rfl⟩
   have a0 := markL_at (map_at (f := iiD) hx) k
   rw [map_take_marks, hq] at a0
   obtain ⟨x0, g0, r0⟩ := h4 _ _ a0
   obtain ⟨a', c', rfl, -⟩ : ∃ a' c', x0 = .slice a' x.length c' ∧ True := by
    have r1 : Rd w (.sl 1 x.length (D.markL (x.map intsD) q)) x0 := r0
    obtain ⟨a', c', e, _⟩ := r1.slice
    exact ⟨a', c', e, trivial⟩
   have htk := accL_take_succ (c := fun x => (iiD x).marks) hx
   have htl := accL_take_le (fun x => (iiD x).marks) xs (j + 1)
   have hqb : q + (iiD x).marks ≤ 1000000000000 := by (try simp only at htk htl); omega
   have Hq : Hid (q + (iiD x).marks = k + accL (fun x => (iiD x).marks) (xs.take (j + 1))) := by show _ = _; (try simp only at htk); omega
   rw [hq]
   clear htk htl hq a0 h4 h
   go_wp2_with fail
   refine (heldInt64SS_any x a' c' q _ r0 hqb).mono ?_
   rintro e w1 ⟨rfl, rfl⟩
   rw [Hq.out]
   go_wp2_with fail
   go_round
   case rel => exact ⟨j + 1, by omega, by go_num, rfl⟩
   case measure => simp [intOf]; omega
  ·
   obtain rfl : j = xs.length := by omega
   rw [List.take_length] at *
   go_wp2_with fail
   go_ret
   exact ⟨rfl, rfl⟩
end Go.Proofs.YtjlmdhoajfdkbaaGreatDoor
