/-
  Parts of a proof, joined: FarP, Counts, CountF, Far, FarI, LiveS. No condition.
-/
import Derived.Test.YtcokljhamhgelaaGreatDoorPk26
namespace Go.Proofs.YtcokljhamhgelaaGreatDoor
set_option linter.unusedVariables false
set_option linter.unusedSimpArgs false
open Go.ChangeShapes Go.WideShapes Go.ChangeAt Go.RowKit Go.Deep
def IdxT (bs : List Bool) (r : Int) : Prop := (r = -1 ∧ ∀ j : Nat, j < bs.length → bs[j]? = some false) ∨ ∃ k : Nat, r = (k : Int) ∧ bs[k]? = some true ∧ ∀ j : Nat, j < k → bs[j]? = some false
theorem IdxT.any {bs : List Bool} {r : Int} (h : IdxT bs r) : decide (0 ≤ r) = bs.any id := by
 rcases h with ⟨rfl, h⟩ | ⟨k, rfl, h1, _⟩
 ·
  have : bs.any id = false := by
   cases hb : bs.any id with
   | false => rfl
   | true =>
    simp only [List.any_eq_true, id] at hb
    obtain ⟨x, hx, rfl⟩ := hb
    obtain ⟨j, hj⟩ := List.mem_iff_getElem?.1 hx
    rw [h j (List.getElem?_eq_some_iff.1 hj).1] at hj
    cases hj
  rw [this]
  decide
 ·
  have : bs.any id = true := by
   simp only [List.any_eq_true, id]
   exact ⟨true, List.mem_of_getElem? h1, rfl⟩
  rw [this]
  simp
def MidL (ac : List (List Bool)) (nx : List (List (List Int))) (m j : Nat) (L : List Int) : Prop := L.length = ac.length ∧ ∀ s, s < ac.length → L[s]? = some (if s < j then farV ac nx (m + 1) s else farV ac nx m s)
def midV (ac : List (List Bool)) (nx : List (List (List Int))) (m j : Nat) (nr : List (List Int)) (l : Nat) : Int :=
 if 0 ≤ farV ac nx m j then farV ac nx m j else if (nr.take l).any (hitR fun z => farV ac nx m z == (m : Int)) then ((m + 1 : Nat) : Int) else -1
section
variable {ac : List (List Bool)} {nx : List (List (List Int))} {m j : Nat} {L : List Int} {nr : List (List Int)}
theorem MidL.zero : MidL ac nx m 0 (farL ac nx m) := ⟨farL_len m, fun s hs => by rw [farL_at hs, if_neg (Nat.not_lt_zero _)]⟩
theorem MidL.all (h : MidL ac nx m ac.length L) : L = farL ac nx (m + 1) := by
 apply List.ext_getElem?
 intro s
 by_cases hs : s < ac.length
 ·
  rw [h.2 s hs, if_pos hs, farL_at hs]
 ·
  rw [List.getElem?_eq_none (by rw [h.1]; omega), List.getElem?_eq_none (by rw [farL_len]; omega)]
theorem MidL.step (h : MidL ac nx m j L) (hj : j < ac.length) : MidL ac nx m (j + 1) (L.set j (farV ac nx (m + 1) j)) := by
 refine ⟨by simpa using h.1, fun s hs => ?_⟩
 by_cases he : j = s
 ·
  subst he
  rw [List.getElem?_set_self (by rw [h.1]; exact hj), if_pos (Nat.lt_succ_self _)]
 ·
  rw [List.getElem?_set_ne he, h.2 s hs]
  by_cases h1 : s < j
  ·
   rw [if_pos h1, if_pos (by omega)]
  ·
   rw [if_neg h1, if_neg (by omega)]
theorem MidL.at (h : MidL ac nx m j L) (hj : j < ac.length) : L[j]? = some (farV ac nx m j) := by
 rw [h.2 j hj, if_neg (Nat.lt_irrefl _)]
theorem midV_zero : midV ac nx m j nr 0 = farV ac nx m j := by
 unfold midV
 by_cases h : 0 ≤ farV ac nx m j
 ·
  rw [if_pos h]
 ·
  rw [if_neg h]
  have := farV_bd (ac := ac) (nx := nx) m j
  simp
  omega
theorem midV_bd (hm : m ≤ 100) (l : Nat) : -1 ≤ midV ac nx m j nr l ∧ midV ac nx m j nr l ≤ 101 := by
 have := farV_bd (ac := ac) (nx := nx) m j
 unfold midV
 split
 ·
  omega
 ·
  split <;> omega
theorem midV_all (hn : nx[j]? = some nr) : midV ac nx m j nr nr.length = farV ac nx (m + 1) j := by
 unfold midV
 by_cases h : 0 ≤ farV ac nx m j
 ·
  rw [if_pos h, farV_stay h]
 ·
  rw [if_neg h, farV_round (by omega), List.take_length, List.getD_eq_getElem?_getD, hn]
  rfl
theorem midV_skip {l : Nat} (h : ¬ midV ac nx m j nr l < 0) : midV ac nx m j nr (l + 1) = midV ac nx m j nr l := by
 unfold midV at h ⊢
 by_cases h0 : 0 ≤ farV ac nx m j
 ·
  rw [if_pos h0, if_pos h0]
 ·
  rw [if_neg h0] at h ⊢
  rw [if_neg h0]
  by_cases hh : (nr.take l).any (hitR fun z => farV ac nx m z == (m : Int)) = true
  ·
   have : (nr.take (l + 1)).any (hitR fun z => farV ac nx m z == (m : Int)) = true := by
    rw [List.any_eq_true] at hh ⊢
    obtain ⟨x, hx, h1⟩ := hh
    exact ⟨x, (List.take_subset_take_left nr (Nat.le_succ l)) hx, h1⟩
   rw [if_pos hh, if_pos this]
  ·
   rw [if_neg hh] at h
   omega
theorem midV_step {l : Nat} {row : List Int} (h : midV ac nx m j nr l < 0) (hr : nr[l]? = some row) : midV ac nx m j nr (l + 1) = if hitR (fun z => farV ac nx m z == (m : Int)) row then ((m + 1 : Nat) : Int) else midV ac nx m j nr l := by
 obtain ⟨hl, rfl⟩ := List.getElem?_eq_some_iff.1 hr
 unfold midV at h ⊢
 by_cases h0 : 0 ≤ farV ac nx m j
 ·
  rw [if_pos h0] at h; omega
 ·
  rw [if_neg h0] at h ⊢
  rw [if_neg h0]
  by_cases hh : (nr.take l).any (hitR fun z => farV ac nx m z == (m : Int)) = true
  ·
   rw [if_pos hh] at h; omega
  ·
   rw [if_neg hh, List.take_succ_eq_append_getElem hl, List.any_append]
   simp only [Bool.not_eq_true] at hh
   rw [hh]
   simp
theorem MidL.hit (h : MidL ac nx m j L) (hj : j < ac.length) {l : Nat} (hv : midV ac nx m j nr l < 0) {row : List Int} (hz : ∀ z ∈ row, z < ac.length) :
  hitR (fun z => (L.set j (midV ac nx m j nr l)).getD z 0 == (m : Int)) row = hitR (fun z => farV ac nx m z == (m : Int)) row := by
 have hfar : farV ac nx m j < 0 := by
  unfold midV at hv
  by_cases h0 : 0 ≤ farV ac nx m j
  ·
   rw [if_pos h0] at hv; omega
  ·
   omega
 rw [Bool.eq_iff_iff, hitR_true, hitR_true]
 have key : ∀ z : Nat, z < ac.length → ((L.set j (midV ac nx m j nr l)).getD z 0 = (m : Int) ↔ farV ac nx m z = (m : Int)) := by
  intro z hzl
  rw [List.getD_eq_getElem?_getD]
  by_cases he : j = z
  ·
   subst he
   rw [List.getElem?_set_self (by rw [h.1]; exact hj)]
   simp only [Option.getD_some]
   omega
  ·
   rw [List.getElem?_set_ne he, h.2 z hzl]
   simp only [Option.getD_some]
   by_cases h1 : z < j
   ·
    rw [if_pos h1]; exact farV_mid
   ·
    rw [if_neg h1]
 constructor
 ·
  rintro ⟨z, hm, h0, h1⟩
  refine ⟨z, hm, h0, ?_⟩
  rw [beq_iff_eq] at h1 ⊢
  exact (key z.toNat (by have := hz z hm; omega)).1 h1
 ·
  rintro ⟨z, hm, h0, h1⟩
  refine ⟨z, hm, h0, ?_⟩
  rw [beq_iff_eq] at h1 ⊢
  exact (key z.toNat (by have := hz z hm; omega)).2 h1
end
theorem farV_zero {ac : List (List Bool)} {nx : List (List (List Int))} {s : Nat} {ar : List Bool} (h : ac[s]? = some ar) : farV ac nx 0 s = if ar.any id then 0 else -1 := by
 have e : accW ac nx 0 s = ar.any id := by
  show (ac.getD s []).any id = _
  rw [List.getD_eq_getElem?_getD, h]
  rfl
 simp only [farV]
 rw [e]
theorem hitR_none {P : Nat → Bool} {row : List Int} {k : Nat} {z : Int} (h : hitR P (row.take k) = false) (hz : row[k]? = some z) (hp : (decide (0 ≤ z) && P z.toNat) = false) : hitR P (row.take (k + 1)) = false := by
 obtain ⟨hk, rfl⟩ := List.getElem?_eq_some_iff.1 hz
 unfold hitR at h ⊢
 rw [List.take_succ_eq_append_getElem hk, List.any_append, h]
 simpa using hp
theorem hitR_found {P : Nat → Bool} {row : List Int} {k : Nat} {z : Int} (hz : row[k]? = some z) (hp : (decide (0 ≤ z) && P z.toNat) = true) : hitR P row = true := by
 rw [hitR_true]
 rw [Bool.and_eq_true, decide_eq_true_eq] at hp
 exact ⟨z, List.mem_of_getElem? hz, hp.1, hp.2⟩
end Go.Proofs.YtcokljhamhgelaaGreatDoor

namespace Go.Proofs.YtcokljhamhgelaaGreatDoor
set_option linter.unusedVariables false
set_option linter.unusedSimpArgs false
open Go.ChangeShapes Go.WideShapes Go.ChangeAt Go.RowKit Go.Sort
theorem App.freshN {α : Type} {f : α → D} {W w : World} {t : TypeId} {xs : List α} {n : Nat} {v : Value} (h : App W w t 1 n (xs.map f) v) (hn : xs.length = n) : Fresh W w (nestD f xs) v := by
 subst hn
 exact h.fresh
end Go.Proofs.YtcokljhamhgelaaGreatDoor

namespace Go.Proofs.YtcokljhamhgelaaGreatDoor
set_option linter.unusedVariables false
set_option linter.unusedSimpArgs false
open Go.ChangeShapes Go.WideShapes Go.ChangeAt Go.RowKit Go.Sort
theorem Blk.autAt' {w : World} {g T : Nat} {t a : Int} {ac : List (List Bool)} {nx : List (List (List Int))} {s u : Option Addr} {c d : Nat} (L : Blk w g T [.int .i64 t, .int .i64 a, .slice s ac.length c, .slice u nx.length d]) (hr : Rd w (bbD ac) (.slice s ac.length c)) (hq : Rd w (iiiD nx) (.slice u nx.length d)) : AutAt w g 0 t a ac nx s u c d :=
 ⟨L.c0, L.c1, L.c2, L.c3, hr, hq⟩
end Go.Proofs.YtcokljhamhgelaaGreatDoor

namespace Go.Proofs.YtcokljhamhgelaaGreatDoor
set_option linter.unusedVariables false
set_option linter.unusedSimpArgs false
open Go.ChangeShapes Go.WideShapes Go.ChangeAt Go.RowKit Go.Sort
set_option maxHeartbeats 4000000 in
theorem indexTrue_i {bs : List Bool} {s : Option Addr} {c : Nat} {w : World} (hr : Rd w (boolsD bs) (.slice s bs.length c)) :
  Calls Tryz.prog 76 #[.slice s bs.length c, .bool true] w fun e w' => ∃ r, e = .returned (.int .i64 r) ∧ IdxT bs r ∧ w' = w := by
 obtain ⟨hlen, hcap⟩ := nest_bd hr
 unfold maxLen at hcap
 go_enter Tryz.func76, Tryz.ntmps76
 go_wp2_with fail
 go_loop [8] (fun i => ∃ k : Nat, k ≤ bs.length ∧ i = .int .i64 k ∧ Hid (∀ j : Nat, j < k → bs[j]? = some false)) (fun i => bs.length - (intOf i).toNat)
 case atStart => exact ⟨0, by omega, rfl, fun j hj => by omega⟩
 case round =>
  obtain ⟨k, hk, rfl, HA⟩ := hrel
  have hk0 := Int.natCast_nonneg k
  by_cases hlt : k < bs.length
  ·
   obtain ⟨z, hz⟩ : ∃ z, bs[k]? = some z := ⟨_, List.getElem?_eq_getElem hlt⟩
   obtain ⟨sb, so, rfl⟩ := nest_some (f := D.bool) hr (by omega)
   obtain ⟨hbl, z0⟩ := bool_in hr hz
   have hkb : (k : Int) < (bs.length : Int) := by omega
   have Hz := Lib.hid hz
   clear hz
   cases z
   ·
    have HA2 : Hid (∀ j : Nat, j < k + 1 → bs[j]? = some false) := fun j hj => by
     by_cases he : j = k
     ·
      rw [he]; exact Hz.out
     ·
      exact HA.out j (by omega)
    go_wp2_with fail
    go_round
    case rel => exact ⟨k + 1, by omega, by go_num, HA2⟩
    case measure => simp [intOf]; omega
   ·
    go_wp2_with fail
    go_ret
    exact ⟨_, rfl, Or.inr ⟨k, rfl, Hz.out, HA.out⟩, rfl⟩
  ·
   obtain rfl : k = bs.length := by omega
   go_wp2_with fail
   go_ret
   exact ⟨_, rfl, Or.inl ⟨rfl, HA.out⟩, rfl⟩
theorem containsTrue_i {bs : List Bool} {s : Option Addr} {c : Nat} {w : World} (hr : Rd w (boolsD bs) (.slice s bs.length c)) :
  Calls Tryz.prog 43 #[.slice s bs.length c, .bool true] w fun e w' => e = .returned (.bool (bs.any id)) ∧ w' = w := by
 go_enter Tryz.func43, Tryz.ntmps43
 go_wp2_with fail
 refine (indexTrue_i hr).mono ?_
 rintro e w1 ⟨r, rfl, hidx, rfl⟩
 have Hr := Lib.hid hidx.any
 clear hidx
 go_wp2_with fail
 go_ret
 exact ⟨ret_bool Hr.out, rfl⟩
set_option maxHeartbeats 4000000 in
theorem aliveC_i {z n : Int} {bo bn g T1 T2 T3 : Nat} {L : List Int} {w : World} (ho : Blk w bo T1 [.slice (some ⟨g, 0, none⟩) L.length L.length]) (hn : Blk w bn T2 [.int .i64 n]) (hg : Blk w g T3 (L.map (Value.int .i64))) (hz : z < L.length) (hn1 : 1 ≤ n) (hn2 : n ≤ 1000) (hL : L.length ≤ 1000) :
  Calls Tryz.prog 45 #[.int .i64 z, .pointer (some ⟨bo, 0, none⟩), .pointer (some ⟨bn, 0, none⟩)] w fun e w' => e = .returned (.bool (decide (0 ≤ z) && (L.getD z.toNat 0 == n - 1))) ∧ Below w.heap.size w w' := by
 have o0 := ho.c0
 have n0 := hn.c0
 have lo := ho.lt
 have ln := hn.lt
 have lg := hg.lt
 by_cases h0 : 0 ≤ z
 ·
  obtain ⟨k, rfl⟩ : ∃ k : Nat, z = (k : Int) := ⟨z.toNat, by omega⟩
  obtain ⟨v, hv⟩ : ∃ v, L[k]? = some v := ⟨_, List.getElem?_eq_getElem (by omega)⟩
  have x0 := arr_cell hg hv
  have HV : Hid (L.getD ((k : Int)).toNat 0 = v) := by show _ = _; rw [Int.toNat_natCast, List.getD_eq_getElem?_getD, hv]; rfl
  rw [HV.out]
  have ge : decide ((0 : Int) ≤ (k : Int)) = true := by simp
  rw [ge]
  have go0 := fun d os => cell_regrown o0 d os
  have gn0 := fun d os => cell_regrown n0 d os
  have gx0 := fun d os => cell_regrown x0 d os
  clear hv HV ho hn hg
  go_enter Tryz.func45, Tryz.ntmps45
  go_wp2_with fail
  refine Go.wp_region_quiet_below (by kernel_rfl) (by kernel_rfl) ?_
  repeat (first | go_big_quiet_step ((fail)) | quiet_step ((fail)))
  refine wpQuiet_nil ?_; intro _ hw'; obtain ⟨⟨dq, osq⟩, hw''⟩ := hw'; subst hw''; have hq := below_regrown w dq osq; revert hq; generalize grow (redrawn w dq) osq = w2; intro hq
  go_wp2_with fail
  go_ret
  exact ⟨ret_bool (by simp), hq⟩
 ·
  have ge : decide ((0 : Int) ≤ z) = false := by simp; omega
  rw [ge]
  clear ho hn hg
  go_enter Tryz.func45, Tryz.ntmps45
  go_wp2_with fail
  refine Go.wp_region_quiet_below (by kernel_rfl) (by kernel_rfl) ?_
  repeat (first | go_big_quiet_step ((fail)) | quiet_step ((fail)))
  refine wpQuiet_nil ?_; intro _ hw'; obtain ⟨⟨dq, osq⟩, hw''⟩ := hw'; subst hw''; have hq := below_regrown w dq osq; revert hq; generalize grow (redrawn w dq) osq = w2; intro hq
  go_wp2_with fail
  go_ret
  exact ⟨ret_bool (by simp), hq⟩
set_option maxHeartbeats 4000000 in
theorem indexAlive_i {n : Int} {bo bn g T1 T2 T3 : Nat} {L row : List Int} {s : Option Addr} {c : Nat} {w : World} (ho : Blk w bo T1 [.slice (some ⟨g, 0, none⟩) L.length L.length]) (hn : Blk w bn T2 [.int .i64 n]) (hg : Blk w g T3 (L.map (Value.int .i64))) (hz : ∀ z ∈ row, z < L.length) (hn1 : 1 ≤ n) (hn2 : n ≤ 1000) (hL : L.length ≤ 1000)
  (hr : Rd w (intsD row) (.slice s row.length c)) :
  Calls Tryz.prog 77 #[.slice s row.length c, .func (.func 45) #[] #[.pointer (some ⟨bo, 0, none⟩), .pointer (some ⟨bn, 0, none⟩)]] w fun e w' => ∃ r : Int, e = .returned (.int .i64 r) ∧ decide (0 ≤ r) = hitR (fun z => L.getD z 0 == n - 1) row ∧ Below w.heap.size w w' := by
 obtain ⟨hlen, hcap⟩ := nest_bd hr
 unfold maxLen at hcap
 have Ho := Lib.hid ho
 have Hn := Lib.hid hn
 have Hg := Lib.hid hg
 have Hz := Lib.hid hz
 clear ho hn hg hz
 go_enter Tryz.func77, Tryz.ntmps77
 go_wp2_with fail
 go_loopw [8] (fun i wr => ∃ k : Nat, k ≤ row.length ∧ i = .int .i64 k ∧ Hid (hitR (fun z => L.getD z 0 == n - 1) (row.take k) = false) ∧ Below w.heap.size w wr) (fun i _ => row.length - (intOf i).toNat)
 case atStart => exact ⟨0, by omega, rfl, by show _ = _; simp [hitR], Below.refl _ _⟩
 case round =>
  obtain ⟨k, hk, rfl, HA, hB⟩ := hrel
  have hk0 := Int.natCast_nonneg k
  by_cases hlt : k < row.length
  ·
   obtain ⟨z, hz⟩ : ∃ z, row[k]? = some z := ⟨_, List.getElem?_eq_getElem hlt⟩
   obtain ⟨sb, so, rfl⟩ := nest_some (f := D.int) hr (by omega)
   obtain ⟨hbl, z0⟩ := int_in (hr.below hB) hz
   have hkb : (k : Int) < (row.length : Int) := by omega
   have hzl := Hz.out z (List.mem_of_getElem? hz)
   have HRz := Lib.hid hz
   have HB := Lib.hid hB
   clear hz hB
   go_wp2_with fail
   refine (aliveC_i (Ho.out.below HB.out) (Hn.out.below HB.out) (Hg.out.below HB.out) hzl hn1 hn2 hL).mono ?_
   rintro e w2 ⟨rfl, hb2⟩
   have hBx : Below w.heap.size w w2 := Below.on HB.out hb2 HB.out.size
   have HBx := Lib.hid hBx
   clear hb2 hBx z0
   cases hp : (decide (0 ≤ z) && (L.getD z.toNat 0 == n - 1))
   ·
    have HA2 : Hid (hitR (fun z => L.getD z 0 == n - 1) (row.take (k + 1)) = false) := hitR_none HA.out HRz.out hp
    clear hp
    go_wp2_with fail
    go_roundw
    case rel => exact ⟨k + 1, by omega, by go_num, HA2, HBx.out⟩
    case measure => simp [intOf]; omega
   ·
    have HA2 : Hid (hitR (fun z => L.getD z 0 == n - 1) row = true) := hitR_found HRz.out hp
    clear hp
    go_wp2_with fail
    go_ret
    exact ⟨_, rfl, by rw [HA2.out]; simp, HBx.out⟩
  ·
   obtain rfl : k = row.length := by omega
   have HA2 : Hid (hitR (fun z => L.getD z 0 == n - 1) row = false) := by show _ = _; have := HA.out; rwa [List.take_length] at this
   go_wp2_with fail
   go_ret
   exact ⟨_, rfl, by rw [HA2.out]; decide, hB⟩
theorem containsAlive_i {n : Int} {bo bn g T1 T2 T3 : Nat} {L row : List Int} {s : Option Addr} {c : Nat} {w : World} (ho : Blk w bo T1 [.slice (some ⟨g, 0, none⟩) L.length L.length]) (hn : Blk w bn T2 [.int .i64 n]) (hg : Blk w g T3 (L.map (Value.int .i64))) (hz : ∀ z ∈ row, z < L.length) (hn1 : 1 ≤ n) (hn2 : n ≤ 1000) (hL : L.length ≤ 1000)
  (hr : Rd w (intsD row) (.slice s row.length c)) :
  Calls Tryz.prog 44 #[.slice s row.length c, .func (.func 45) #[] #[.pointer (some ⟨bo, 0, none⟩), .pointer (some ⟨bn, 0, none⟩)]] w fun e w' => e = .returned (.bool (hitR (fun z => L.getD z 0 == n - 1) row)) ∧ Below w.heap.size w w' := by
 go_enter Tryz.func44, Tryz.ntmps44
 go_wp2_with fail
 refine (indexAlive_i ho hn hg hz hn1 hn2 hL hr).mono ?_
 rintro e w1 ⟨r, rfl, hh, hb⟩
 have Hr := Lib.hid hh
 clear hh
 go_wp2_with fail
 go_ret
 exact ⟨ret_bool Hr.out, hb⟩
end Go.Proofs.YtcokljhamhgelaaGreatDoor

namespace Go.Proofs.YtcokljhamhgelaaGreatDoor
set_option linter.unusedVariables false
set_option linter.unusedSimpArgs false
open Go.ChangeShapes Go.WideShapes Go.ChangeAt Go.RowKit Go.Sort
structure FarB (w : World) (T1 T2 T3 N g ob : Nat) (box : List Value) (wr : World) (L : List Int) : Prop where
 hg : Blk wr g T3 (L.map (Value.int .i64))
 ho : Blk wr ob T2 [.slice (some ⟨g, 0, none⟩) N N]
 hx : Blk wr w.heap.size T1 box
 o1 : w.heap.size < g
 o2 : g < ob
 bl : Below w.heap.size w wr
 ln : L.length = N
section
variable {w wr : World} {T1 T2 T3 N g ob : Nat} {box : List Value} {L : List Int}
theorem FarB.set (h : FarB w T1 T2 T3 N g ob box wr L) (k : Nat) (x : Int) : FarB w T1 T2 T3 N g ob box (wr.setCell ⟨g, k, none⟩ (.int .i64 x)) (L.set k x) :=
 ⟨arr_set h.hg k x, h.ho.other (p := ⟨g, k, none⟩) (by have := h.o2; simp; omega) _, h.hx.other (p := ⟨g, k, none⟩) (by have := h.o1; simp; omega) _, h.o1, h.o2, Below.setCell (p := ⟨g, k, none⟩) h.bl (by have := h.o1; simp; omega) _, by simpa using h.ln⟩
theorem FarB.below {w2 : World} (h : FarB w T1 T2 T3 N g ob box wr L) (hb : Below wr.heap.size wr w2) : FarB w T1 T2 T3 N g ob box w2 L :=
 ⟨h.hg.below hb, h.ho.below hb, h.hx.below hb, h.o1, h.o2, h.bl.trans (hb.mono h.bl.size), h.ln⟩
theorem FarB.alloc (h : FarB w T1 T2 T3 N g ob box wr L) (o : Obj) : FarB w T1 T2 T3 N g ob box (wr.alloc o) L := h.below (Below.alloc (Below.refl _ _) (Nat.le_refl _) o)
end
def ptrInt (p : Value) (w : World) : Nat :=
 match p with
 | .pointer (some a) => match w.cell? a with
  | some v => (intOf v).toNat
  | none => 0
 | _ => 0
theorem ptrInt_eq {w : World} {b t : Nat} {x : Int} (h : Blk w b t [.int .i64 x]) : ptrInt (.pointer (some ⟨b, 0, none⟩)) w = x.toNat := by
 unfold ptrInt
 simp only [h.c0]
 rfl
set_option maxRecDepth 100000 in
set_option maxHeartbeats 16000000 in
theorem alive_i {t a : Int} {ac : List (List Bool)} {nx : List (List (List Int))} {s u : Option Addr} {c d : Nat} {w : World} (hr : Rd w (bbD ac) (.slice s ac.length c)) (hq : Rd w (iiiD nx) (.slice u nx.length d)) (hok : AutOk t a ac nx) :
  Calls Tryz.prog 21 #[.agg #[.int .i64 t, .int .i64 a, .slice s ac.length c, .slice u nx.length d]] w fun e w' => ∃ g, e = .returned (.slice (some ⟨g, 0, none⟩) ac.length ac.length) ∧ Fresh w w' (intsD (farL ac nx (ac.length - 1))) (.slice (some ⟨g, 0, none⟩) ac.length ac.length) ∧ Below w.heap.size w w' := by
 obtain ⟨hlen, hcap⟩ := nest_bd hr
 obtain ⟨hlen', hcap'⟩ := nest_bd hq
 unfold maxLen at hcap hcap'
 have hn1 := hok.lo
 have hn2 := hok.hi
 have hnl1 : nx.length ≤ ac.length := by have := hok.len; omega
 have hnl2 : ac.length ≤ nx.length := by have := hok.len; omega
 have Hok := Lib.hid hok
 have Hr := Lib.hid hr
 have Hq := Lib.hid hq
 obtain ⟨i0, hi, hz0, hz1, hz2⟩ := info_parts info_int64
 have L := Blk.new4 w 49 (.int .i64 t) (.int .i64 a) (.slice s ac.length c) (.slice u nx.length d)
 have HL := Lib.hid L
 have l2 := L.c2
 clear hok L hr hq
 go_enter Tryz.func21, Tryz.ntmps21
 go_wp2_with (at_make; refine wpList_make_full _ rfl _ _ 56 rfl w.heap.size 2 i0 (.int .i64 0) 1 Tryz.underlying56 hi hz0 hz1 .i64 .i64 _ _ ac.length rfl rfl rfl rfl (by rw [hz2]; omega) (by unfold maxLen; omega) (by simp) ?_; intro w1 hown hgrow; have hbx := HL.out.keep (hgrow.block _ HL.out.lt (by simp)); have c2' := hbx.c2; have lx := hbx.lt)
 have hB0 : Below w.heap.size w w1 := Below.grown (Below.alloc (Below.refl _ _) (Nat.le_refl _) _) hgrow (by simp) (by simp)
 clear c2' lx
 rw [show (w.alloc (.cells #[.int .i64 t, .int .i64 a, .slice s ac.length c, .slice u nx.length d] 49)).heap.size = w.heap.size + 1 by simp] at hown
 obtain ⟨hb0, -⟩ := made_blk (z := .int .i64 0) rfl hown
 have hfill := FillL.start (z := (0 : Int)) (farL_len (ac := ac) (nx := nx) 0)
 have hb1 : Blk w1 (w.heap.size + 1) 2 ((List.replicate ac.length (0 : Int)).map (Value.int .i64)) := by simpa using hb0
 obtain ⟨g, hg⟩ : ∃ g, w.heap.size + 1 = g := ⟨_, rfl⟩
 rw [hg] at hb1 ⊢
 obtain ⟨w2, e2, hob, hb2, hz2'⟩ := box1 w1 56 (.slice (some ⟨g, 0, none⟩) ac.length ac.length)
 rw [e2]
 have hlg := hb1.lt
 obtain ⟨ob, hob'⟩ : ∃ ob, w1.heap.size = ob := ⟨_, rfl⟩
 have HF : Hid (FarB w 49 56 2 ac.length g ob [.int .i64 t, .int .i64 a, .slice s ac.length c, .slice u nx.length d] w2 (List.replicate ac.length 0)) :=
  ⟨hb1.below hb2, by rw [← hob']; exact hob, hbx.below hb2, by omega, by omega, hB0.trans (hb2.mono hB0.size), by simp⟩
 rw [hob'] at ⊢
 have Hfill := Lib.hid hfill
 clear hown hgrow hb0 hb1 hfill hbx hB0 HL l2 e2 hob hb2 hz2' hlg hg hob'
 go_loopw [18] (fun i wr => ∃ (k : Nat) (L : List Int), k ≤ ac.length ∧ i = .int .i64 k ∧ FarB w 49 56 2 ac.length g ob [.int .i64 t, .int .i64 a, .slice s ac.length c, .slice u nx.length d] wr L ∧ FillL (0 : Int) (farL ac nx 0) k L) (fun i _ => ac.length - (intOf i).toNat)
 case atStart => exact ⟨0, _, by omega, rfl, HF.out, Hfill.out⟩
 case round =>
  clear HF Hfill
  obtain ⟨k, L, hk, rfl, hF, hfill⟩ := hrel
  obtain ⟨wo, rfl⟩ : ∃ v, v = wr := ⟨_, rfl⟩
  have HF := Lib.hid hF
  have hk0 := Int.natCast_nonneg k
  have hLl := hF.ln
  by_cases hlt : k < ac.length
  ·
   obtain ⟨ar, har⟩ : ∃ e, ac[k]? = some e := ⟨_, List.getElem?_eq_getElem hlt⟩
   obtain ⟨sb, so, rfl⟩ := nest_some (f := boolsD) Hr.out (by omega)
   obtain ⟨hsl, sa, ca, a0, ra⟩ := nest_sl (g := D.bool) Hr.out har
   replace a0 := (hF.bl.cell (p := ⟨sb, so + k, none⟩) hsl).trans a0
   have Hst := Lib.hid (fun v h => hfill.step (v := v) h)
   have Hfar : Hid ((farL ac nx 0)[k]? = some (if ar.any id then (0 : Int) else -1)) := by show _ = _; rw [farL_at hlt, farV_zero har]
   have hkb : (k : Int) < (ac.length : Int) := by omega
   obtain ⟨xv, hxv⟩ : ∃ xv, L[k]? = some xv := ⟨_, List.getElem?_eq_getElem (by omega)⟩
   have x0 := arr_cell hF.hg hxv
   have f0 := hF.hg.frozen k
   clear hfill har hF hxv
   have q0 := HF.out.ho.c0
   have q2 := HF.out.hx.c2
   have q3 := HF.out.hx.c3
   have lo := HF.out.ho.lt
   have lx := HF.out.hx.lt
   have lg := HF.out.hg.lt
   have nab := HF.out.o1
   have ngb := HF.out.o2
   go_wp2_with fail
   clear q0 q2 q3 lo lx lg a0 x0 f0
   have hF2 := HF.out.set k (-1)
   generalize wo.setCell ⟨g, k, none⟩ (.int .i64 (-1)) = w5 at hF2 ⊢
   have HF2 := Lib.hid hF2
   have ra2 := ra.below hF2.bl
   have f0 := hF2.hg.frozen k
   have x0 := arr_cell hF2.hg (set_at (x := (-1 : Int)) (i := k) (by omega))
   clear hF2
   refine (containsTrue_i ra2).mono ?_
   rintro e w6 ⟨rfl, rfl⟩
   have q0 := HF2.out.ho.c0
   have q2 := HF2.out.hx.c2
   have q3 := HF2.out.hx.c3
   have lo := HF2.out.ho.lt
   have lx := HF2.out.hx.lt
   have lg := HF2.out.hg.lt
   have nab := HF2.out.o1
   have ngb := HF2.out.o2
   cases hany : ar.any id
   ·
    rw [hany] at Hfar
    have HF3 := Lib.hid (And.intro HF2.out (Hst.out (-1) (by rw [Hfar.out]; rfl)))
    clear hany Hfar Hst ra ra2
    go_wp2_with fail
    go_roundw
    case rel => exact ⟨k + 1, _, by omega, by go_num, HF3.out⟩
    case measure => simp [intOf]; omega
   ·
    rw [hany] at Hfar
    have HF3 := Lib.hid (And.intro (by have h := HF2.out.set k 0; rw [set_twice] at h; exact h) (Hst.out 0 (by rw [Hfar.out]; rfl)) : FarB w 49 56 2 ac.length g ob [.int .i64 t, .int .i64 a, .slice (some ⟨sb, so, none⟩) ac.length c, .slice u nx.length d] (w6.setCell ⟨g, k, none⟩ (.int .i64 0)) (L.set k 0) ∧ FillL (0 : Int) (farL ac nx 0) (k + 1) (L.set k 0))
    clear hany Hfar Hst ra ra2
    go_wp2_with fail
    go_roundw
    case rel => exact ⟨k + 1, _, by omega, by go_num, HF3.out⟩
    case measure => simp [intOf]; omega
  ·
   obtain rfl : k = ac.length := by omega
   obtain rfl : L = farL ac nx 0 := FillL.all (by rw [farL_len]; exact hfill)
   clear hF hfill
   have q0 := HF.out.ho.c0
   have q2 := HF.out.hx.c2
   have q3 := HF.out.hx.c3
   have lo := HF.out.ho.lt
   have lx := HF.out.hx.lt
   have lg := HF.out.hg.lt
   have nab := HF.out.o1
   have ngb := HF.out.o2
   go_wp2_with fail
   clear q0 q2 q3 lo lx lg
   obtain ⟨w3, e3, hbn, hb3, hz3⟩ := box1 wo 2 (.int .i64 1)
   rw [e3]
   have Hst : Hid (FarB w 49 56 2 ac.length g ob [.int .i64 t, .int .i64 a, .slice s ac.length c, .slice u nx.length d] w3 (farL ac nx 0) ∧ Blk w3 wo.heap.size 2 [.int .i64 (((0 : Nat) : Int) + 1)] ∧ ob < wo.heap.size) := ⟨HF.out.below hb3, hbn, HF.out.ho.lt⟩
   clear e3 hbn hb3 hz3 HF
   go_loopw [6] (fun p wr => ∃ m bn : Nat, p = .pointer (some ⟨bn, 0, none⟩) ∧ m + 1 ≤ ac.length ∧ FarB w 49 56 2 ac.length g ob [.int .i64 t, .int .i64 a, .slice s ac.length c, .slice u nx.length d] wr (farL ac nx m) ∧ Blk wr bn 2 [.int .i64 ((m : Int) + 1)] ∧ ob < bn) (fun p wr => ac.length - ptrInt p wr)
   case atStart => exact ⟨0, _, rfl, by omega, Hst.out⟩
   case round =>
    clear Hst
    obtain ⟨m, bn, rfl, hm, hF, hbn, hobn⟩ := hrel
    obtain ⟨wm, rfl⟩ : ∃ v, v = wr := ⟨_, rfl⟩
    have Hms := Lib.hid (ptrInt_eq hbn)
    have HF := Lib.hid hF
    have HBn := Lib.hid hbn
    have hm0 := Int.natCast_nonneg m
    have hm100 : m ≤ 100 := by omega
    have n0 := hbn.c0
    have ln := hbn.lt
    have q0 := HF.out.ho.c0
    have q2 := HF.out.hx.c2
    have q3 := HF.out.hx.c3
    have lo := HF.out.ho.lt
    have lx := HF.out.hx.lt
    have lg := HF.out.hg.lt
    have nab := HF.out.o1
    have ngb := HF.out.o2
    by_cases hml : m + 1 < ac.length
    rotate_left
    ·
     obtain rfl : m = ac.length - 1 := by omega
     have hnlt : ¬ (((ac.length - 1 : Nat) : Int) + 1 < (ac.length : Int)) := by omega
     have Hfr := Lib.hid (arr_fresh (fd := D.int) (W := w) hF.hg (by omega) (fun x => Ow.int x) (farL_len _) (by unfold maxLen; omega))
     clear hF hbn
     go_wp2_with fail
     go_ret
     exact ⟨g, rfl, Hfr.out, HF.out.bl⟩
    have hmb : (m : Int) + 1 < (ac.length : Int) := by omega
    have HM0 := Lib.hid (MidL.zero (ac := ac) (nx := nx) (m := m))
    clear hF hbn
    go_wp2_with fail
    clear n0 ln q0 q2 q3 lo lx lg
    go_loopw [41] (fun i wr => ∃ (j : Nat) (L : List Int), j ≤ nx.length ∧ i = .int .i64 j ∧ FarB w 49 56 2 ac.length g ob [.int .i64 t, .int .i64 a, .slice s ac.length c, .slice u nx.length d] wr L ∧ MidL ac nx m j L ∧ Blk wr bn 2 [.int .i64 ((m : Int) + 1)]) (fun i _ => nx.length - (intOf i).toNat)
    case atStart => exact ⟨0, _, by omega, rfl, HF.out, HM0.out, HBn.out⟩
    case round =>
     clear HF HM0 HBn
     obtain ⟨j, L, hj, rfl, hF, hM, hbn⟩ := hrel
     obtain ⟨wj, rfl⟩ : ∃ v, v = wr := ⟨_, rfl⟩
     have HF := Lib.hid hF
     have HBn := Lib.hid hbn
     have hj0 := Int.natCast_nonneg j
     have hLl := hF.ln
     by_cases hjl : j < nx.length
     rotate_left
     ·
      obtain rfl : j = nx.length := by omega
      have HL2 : Hid (L = farL ac nx (m + 1)) := MidL.all (by rw [← show nx.length = ac.length by omega]; exact hM)
      have n0 := hbn.c0
      have ln := hbn.lt
      have q0 := HF.out.ho.c0
      have q2 := HF.out.hx.c2
      have q3 := HF.out.hx.c3
      have lo := HF.out.ho.lt
      have lx := HF.out.hx.lt
      have lg := HF.out.hg.lt
      have nab := HF.out.o1
      have ngb := HF.out.o2
      have Hfin : Hid (FarB w 49 56 2 ac.length g ob [.int .i64 t, .int .i64 a, .slice s ac.length c, .slice u nx.length d] (wj.alloc (.cells #[.int .i64 ((m : Int) + 1 + 1)] 2)) (farL ac nx (m + 1)) ∧
        Blk (wj.alloc (.cells #[.int .i64 ((m : Int) + 1 + 1)] 2)) wj.heap.size 2 [.int .i64 (((m + 1 : Nat) : Int) + 1)] ∧ ob < wj.heap.size) := by
       refine ⟨?_, Blk.new1 wj 2 (.int .i64 ((m : Int) + 1 + 1)), lo⟩
       rw [← HL2.out]
       exact HF.out.alloc _
      have Hm3 := Lib.hid (ptrInt_eq Hfin.out.2.1)
      clear hF hM hbn
      go_wp2_with fail
      clear n0 ln q0 q2 q3 lo lx lg
      go_roundw
      case rel => exact ⟨m + 1, _, rfl, by omega, Hfin.out⟩
      case measure => rw [Hms.out, Hm3.out]; omega
     obtain ⟨nr, hnr⟩ : ∃ e, nx[j]? = some e := ⟨_, List.getElem?_eq_getElem hjl⟩
     obtain ⟨ub, uo, rfl⟩ := nest_some (f := iiD) Hq.out (by omega)
     obtain ⟨hul, sn, cn, b0, rb⟩ := nest_sl (g := intsD) Hq.out hnr
     replace b0 := (hF.bl.cell (p := ⟨ub, uo + j, none⟩) hul).trans b0
     obtain ⟨rb1, rb2⟩ := nest_bd rb
     unfold maxLen at rb2
     have Hrb := Lib.hid rb
     have hjb : (j : Int) < (nx.length : Int) := by omega
     have hjc : j < ac.length := by omega
     have HM := Lib.hid hM
     have Hall := Lib.hid (midV_all (ac := ac) (m := m) hnr)
     have Htg := Lib.hid (fun (l : Nat) (row : List Int) (h : nr[l]? = some row) (z : Int) (hz : z ∈ row) => Hok.out.targets j row z (by rw [List.getD_eq_getElem?_getD, hnr]; exact List.mem_of_getElem? h) hz)
     have Hst : Hid (FarB w 49 56 2 ac.length g ob [.int .i64 t, .int .i64 a, .slice s ac.length c, .slice (some ⟨ub, uo, none⟩) nx.length d] wj (L.set j (midV ac nx m j nr 0)) ∧ Blk wj bn 2 [.int .i64 ((m : Int) + 1)]) := by
      refine ⟨?_, hbn⟩
      rw [midV_zero, set_zero_same (hM.at hjc)]
      exact hF
     have q0 := HF.out.ho.c0
     have q2 := HF.out.hx.c2
     have q3 := HF.out.hx.c3
     have lo := HF.out.ho.lt
     have lx := HF.out.hx.lt
     have lg := HF.out.hg.lt
     have nab := HF.out.o1
     have ngb := HF.out.o2
     clear hF hM hbn hnr rb
     go_wp2_with fail
     clear q0 q2 q3 lo lx lg b0
     go_loopw [48] (fun i wr => ∃ l : Nat, l ≤ nr.length ∧ i = .int .i64 l ∧ FarB w 49 56 2 ac.length g ob [.int .i64 t, .int .i64 a, .slice s ac.length c, .slice (some ⟨ub, uo, none⟩) nx.length d] wr (L.set j (midV ac nx m j nr l)) ∧ Blk wr bn 2 [.int .i64 ((m : Int) + 1)]) (fun i _ => nr.length - (intOf i).toNat)
     case atStart => exact ⟨0, by omega, rfl, Hst.out⟩
     case round =>
      clear Hst HF HBn
      obtain ⟨l, hl, rfl, hF, hbn⟩ := hrel
      obtain ⟨wl, rfl⟩ : ∃ v, v = wr := ⟨_, rfl⟩
      have HF := Lib.hid hF
      have HBn := Lib.hid hbn
      have hl0 := Int.natCast_nonneg l
      by_cases hll : l < nr.length
      rotate_left
      ·
       obtain rfl : l = nr.length := by omega
       have Hst2 := Lib.hid (HM.out.step hjc)
       have Hfin : Hid (FarB w 49 56 2 ac.length g ob [.int .i64 t, .int .i64 a, .slice s ac.length c, .slice (some ⟨ub, uo, none⟩) nx.length d] wl (L.set j (farV ac nx (m + 1) j))) := by show FarB ..; rw [← Hall.out]; exact hF
       clear hF hbn
       go_wp2_with fail
       go_roundw
       case rel => exact ⟨j + 1, _, by omega, by go_num, Hfin.out, Hst2.out, HBn.out⟩
       case measure => simp [intOf]; omega
      obtain ⟨row, hrow⟩ : ∃ e, nr[l]? = some e := ⟨_, List.getElem?_eq_getElem hll⟩
      obtain ⟨vb, vo, rfl⟩ := nest_some (f := intsD) Hrb.out (by omega)
      obtain ⟨hvl, sr, cr, r0, rr⟩ := nest_sl (g := D.int) Hrb.out hrow
      replace r0 := (hF.bl.cell (p := ⟨vb, vo + l, none⟩) hvl).trans r0
      replace rr := rr.below hF.bl
      have hlb : (l : Int) < (nr.length : Int) := by omega
      have hzr := Htg.out l row hrow
      have hskip := fun h => midV_skip (ac := ac) (nx := nx) (m := m) (j := j) (nr := nr) (l := l) h
      have hstep := fun h => midV_step (ac := ac) (nx := nx) (m := m) (j := j) (nr := nr) (l := l) h hrow
      have hhit := fun h => HM.out.hit hjc (nr := nr) (l := l) h hzr
      have hvb := midV_bd (ac := ac) (nx := nx) (m := m) (j := j) (nr := nr) hm100 l
      obtain ⟨v, hv⟩ : ∃ v, midV ac nx m j nr l = v := ⟨_, rfl⟩
      rw [hv] at hskip hstep hhit hvb HF hF
      have x0 := arr_cell hF.hg (set_at (x := v) (i := j) (by omega))
      have f0 := hF.hg.frozen j
      have n0 := hbn.c0
      have ln := hbn.lt
      have hLl2 : (L.set j v).length = ac.length := by simpa using hLl
      have Hho : Hid (Blk wl ob 56 [.slice (some ⟨g, 0, none⟩) (L.set j v).length (L.set j v).length]) := by show Blk ..; rw [hLl2]; exact hF.ho
      have Hhg := Lib.hid hF.hg
      have Hzr : Hid (∀ z ∈ row, z < ((L.set j v).length : Int)) := by show ∀ z ∈ row, _; intro z hz; rw [hLl2]; exact hzr z hz
      have Hrr := Lib.hid rr
      have Hhit := Lib.hid hhit
      have Hstep := Lib.hid hstep
      have Hskip := Lib.hid hskip
      have q0 := HF.out.ho.c0
      have q2 := HF.out.hx.c2
      have q3 := HF.out.hx.c3
      have lo := HF.out.ho.lt
      have lx := HF.out.hx.lt
      have lg := HF.out.hg.lt
      have nab := HF.out.o1
      have ngb := HF.out.o2
      clear hF hbn hv hrow rr hzr hhit hstep hskip
      by_cases hneg : v < 0
      rotate_left
      ·
       have hnl : decide (v < 0) = false := by simpa using hneg
       have HF2 : Hid (FarB w 49 56 2 ac.length g ob [.int .i64 t, .int .i64 a, .slice s ac.length c, .slice (some ⟨ub, uo, none⟩) nx.length d] wl (L.set j (midV ac nx m j nr (l + 1)))) := by show FarB ..; rw [Hskip.out hneg]; exact HF.out
       go_wp2_with fail
       go_roundw
       case rel => exact ⟨l + 1, by omega, by go_num, HF2.out, HBn.out⟩
       case measure => simp [intOf]; omega
      have hnl : decide (v < 0) = true := by simpa using hneg
      have Hst2 := Lib.hid (Hstep.out hneg)
      have Hh2 := Lib.hid (Hhit.out hneg)
      clear Hstep Hhit Hskip
      go_wp2_with fail
      refine (containsAlive_i (n := (m : Int) + 1) Hho.out HBn.out Hhg.out Hzr.out (by omega) (by omega) (by omega) Hrr.out).mono ?_
      rintro e w5 ⟨rfl, hb5⟩
      rw [show (m : Int) + 1 - 1 = (m : Int) by omega, Hh2.out]
      have HF5 := Lib.hid (HF.out.below hb5)
      have HBn5 := Lib.hid (HBn.out.below hb5)
      have n5 := HBn5.out.c0
      have ln5 := HBn5.out.lt
      have f5 := HF5.out.hg.frozen j
      have x5 := arr_cell HF5.out.hg (set_at (x := v) (i := j) (by omega))
      clear q0 q2 q3 lo lx lg n0 ln f0 x0 r0 hb5
      have q0 := HF5.out.ho.c0
      have q2 := HF5.out.hx.c2
      have q3 := HF5.out.hx.c3
      have lo := HF5.out.ho.lt
      have lx := HF5.out.hx.lt
      have lg := HF5.out.hg.lt
      have nab := HF5.out.o1
      have ngb := HF5.out.o2
      cases hH : hitR (fun z => farV ac nx m z == (m : Int)) row
      ·
       rw [hH] at Hst2
       have HF2 : Hid (FarB w 49 56 2 ac.length g ob [.int .i64 t, .int .i64 a, .slice s ac.length c, .slice (some ⟨ub, uo, none⟩) nx.length d] w5 (L.set j (midV ac nx m j nr (l + 1)))) := by show FarB ..; rw [Hst2.out]; exact HF5.out
       clear hH Hst2
       go_wp2_with fail
       go_roundw
       case rel => exact ⟨l + 1, by omega, by go_num, HF2.out, HBn5.out⟩
       case measure => simp [intOf]; omega
      ·
       rw [hH] at Hst2
       have HF2 : Hid (FarB w 49 56 2 ac.length g ob [.int .i64 t, .int .i64 a, .slice s ac.length c, .slice (some ⟨ub, uo, none⟩) nx.length d] (w5.setCell ⟨g, j, none⟩ (.int .i64 ((m : Int) + 1))) (L.set j (midV ac nx m j nr (l + 1))) ∧ Blk (w5.setCell ⟨g, j, none⟩ (.int .i64 ((m : Int) + 1))) bn 2 [.int .i64 ((m : Int) + 1)]) := by
        refine ⟨?_, HBn5.out.other (p := ⟨g, j, none⟩) (by simp; omega) _⟩
        have h := HF5.out.set j ((m : Int) + 1)
        rw [set_twice] at h
        rw [Hst2.out]
        exact h
       clear hH Hst2
       go_wp2_with fail
       go_roundw
       case rel => exact ⟨l + 1, by omega, by go_num, HF2.out⟩
       case measure => simp [intOf]; omega
end Go.Proofs.YtcokljhamhgelaaGreatDoor

namespace Go.Proofs.YtcokljhamhgelaaGreatDoor
set_option linter.unusedVariables false
set_option linter.unusedSimpArgs false
open Go.ChangeShapes Go.WideShapes Go.ChangeAt Go.RowKit Go.Sort
def lookB (ac : List (List Bool)) (nx : List (List (List Int))) (L : List Bool) (s : Nat) : Bool := (ac.getD s []).any id || (nx.getD s []).any (hitR fun z => L.getD z false)
def lookTo (ar : List Bool) (nr : List (List Int)) (L : List Bool) (j : Nat) : Bool := (ar.take j).any id || (nr.take j).any (hitR fun z => L.getD z false)
def SoundL (ac : List (List Bool)) (nx : List (List (List Int))) (L : List Bool) : Prop := ∀ s : Nat, L[s]? = some true → Live ac nx s
def ClosedTo (ac : List (List Bool)) (nx : List (List (List Int))) (L : List Bool) (n : Nat) : Prop := ∀ s : Nat, s < n → lookB ac nx L s = true → L[s]? = some true
section
variable {ac : List (List Bool)} {nx : List (List (List Int))} {L : List Bool}
theorem look_sound (h : SoundL ac nx L) {s : Nat} (hl : lookB ac nx L s = true) : Live ac nx s := by
 unfold lookB at hl
 rw [Bool.or_eq_true] at hl
 rcases hl with hl | hl
 ·
  exact ⟨0, hl⟩
 ·
  rw [List.any_eq_true] at hl
  obtain ⟨row, hr, hh⟩ := hl
  rw [hitR_true] at hh
  obtain ⟨z, hz, h0, h1⟩ := hh
  have h2 : L[z.toNat]? = some true := by
   rw [List.getD_eq_getElem?_getD] at h1
   cases he : L[z.toNat]? with
   | none => rw [he] at h1; simp at h1
   | some x => rw [he] at h1; simp at h1; rw [h1]
  obtain ⟨n, hn⟩ := h z.toNat h2
  exact ⟨n + 1, accW_succ.2 ⟨row, hr, z, hz, h0, hn⟩⟩
theorem closed_live (h : ClosedTo ac nx L ac.length) (ht : ∀ s row z, row ∈ nx.getD s [] → z ∈ row → z < ac.length) : ∀ n s, s < ac.length → accW ac nx n s = true → L[s]? = some true
 | 0, s, hs, ha => h s hs (by unfold lookB; rw [Bool.or_eq_true]; exact Or.inl ha)
 | n + 1, s, hs, ha => by
  refine h s hs ?_
  obtain ⟨row, hr, z, hz, h0, h1⟩ := accW_succ.1 ha
  have hlt := ht s row z hr hz
  have := closed_live h ht n z.toNat (by omega) h1
  unfold lookB
  rw [Bool.or_eq_true]
  right
  rw [List.any_eq_true]
  refine ⟨row, hr, ?_⟩
  rw [hitR_true]
  exact ⟨z, hz, h0, by rw [List.getD_eq_getElem?_getD, this]; rfl⟩
theorem live_eq (hs : SoundL ac nx L) (hc : ClosedTo ac nx L ac.length) (hl : L.length = ac.length) (ht : ∀ s row z, row ∈ nx.getD s [] → z ∈ row → z < ac.length) : L = liveL ac nx := by
 apply List.ext_getElem?
 intro s
 by_cases h : s < ac.length
 ·
  rw [liveL_at h]
  obtain ⟨x, hx⟩ : ∃ x, L[s]? = some x := ⟨_, List.getElem?_eq_getElem (by omega)⟩
  rw [hx]
  congr 1
  rw [Bool.eq_iff_iff, liveB_true]
  constructor
  ·
   rintro rfl
   exact hs s hx
  ·
   rintro ⟨n, hn⟩
   rw [closed_live hc ht n s h hn] at hx
   exact (Option.some.inj hx).symm
 ·
  rw [List.getElem?_eq_none (by omega), List.getElem?_eq_none (by rw [liveL_len]; omega)]
theorem SoundL.set (h : SoundL ac nx L) {s : Nat} (hs : Live ac nx s) : SoundL ac nx (L.set s true) := by
 intro k hk
 by_cases he : s = k
 ·
  rw [← he]; exact hs
 ·
  rw [List.getElem?_set_ne he] at hk
  exact h k hk
theorem SoundL.start {n : Nat} : SoundL ac nx (List.replicate n false) := by
 intro s hs
 have := List.mem_of_getElem? hs
 simp at this
theorem lookTo_zero {ar : List Bool} {nr : List (List Int)} : lookTo ar nr L 0 = false := by simp [lookTo]
theorem lookTo_all {ar : List Bool} {nr : List (List Int)} {s : Nat} (ha : ac[s]? = some ar) (hn : nx[s]? = some nr) (hl : nr.length = ar.length) : lookTo ar nr L ar.length = lookB ac nx L s := by
 unfold lookTo lookB
 rw [List.take_length, ← hl, List.take_length, List.getD_eq_getElem?_getD, List.getD_eq_getElem?_getD, ha, hn]
 rfl
theorem lookTo_succ {ar : List Bool} {nr : List (List Int)} {j : Nat} {b : Bool} {row : List Int} (ha : ar[j]? = some b) (hn : nr[j]? = some row) : lookTo ar nr L (j + 1) = (lookTo ar nr L j || b || hitR (fun z => L.getD z false) row) := by
 obtain ⟨h1, rfl⟩ := List.getElem?_eq_some_iff.1 ha
 obtain ⟨h2, rfl⟩ := List.getElem?_eq_some_iff.1 hn
 unfold lookTo
 rw [List.take_succ_eq_append_getElem h1, List.take_succ_eq_append_getElem h2, List.any_append, List.any_append]
 simp only [List.any_cons, List.any_nil, Bool.or_false, id]
 cases (ar.take j).any id <;> cases (nr.take j).any (hitR fun z => L.getD z false) <;> cases ar[j] <;> simp
theorem or_step {y B h x : Bool} (e : y = (B || h)) : (y || x) = (B || (h || x)) := by rw [e, Bool.or_assoc]
theorem ClosedTo.succ {n : Nat} (h : ClosedTo ac nx L n) (hs : lookB ac nx L n = true → L[n]? = some true) : ClosedTo ac nx L (n + 1) := fun s hsn hl => by
 by_cases he : s = n
 ·
  rw [he] at hl ⊢; exact hs hl
 ·
  exact h s (by omega) hl
theorem hitR_zero {P : Nat → Bool} {row : List Int} : hitR P (row.take 0) = false := by simp [hitR]
theorem hitR_succ {P : Nat → Bool} {row : List Int} {k : Nat} {z : Int} (hz : row[k]? = some z) : hitR P (row.take (k + 1)) = (hitR P (row.take k) || (decide (0 ≤ z) && P z.toNat)) := by
 obtain ⟨hk, rfl⟩ := List.getElem?_eq_some_iff.1 hz
 unfold hitR
 rw [List.take_succ_eq_append_getElem hk, List.any_append]
 simp
end
def falses (L : List Bool) : Nat := L.countP fun b => !b
theorem falses_set {L : List Bool} {s : Nat} (h : L[s]? = some false) : falses (L.set s true) < falses L := by
 unfold falses
 induction L generalizing s with
 | nil => simp at h
 | cons x r ih =>
  cases s with
  | zero =>
   simp at h
   subst h
   simp
  | succ s =>
   have h' : r[s]? = some false := by simpa using h
   have := ih h'
   simp only [List.set_cons_succ, List.countP_cons]
   omega
def falsesW (w : World) (g : Nat) : Nat :=
 match w.heap[g]? with
 | some (.cells cur _ _) => cur.toList.countP fun v => match v with | .bool b => !b | _ => false
 | _ => 0
theorem falsesW_eq {w : World} {g t : Nat} {L : List Bool} (h : Blk w g t (L.map Value.bool)) : falsesW w g = falses L := by
 unfold falsesW falses
 have h' : w.heap[g]? = some (.cells (L.map Value.bool).toArray t (0, 0)) := h
 rw [h']
 simp only
 rw [List.countP_map]
 rfl
def b2n (v : Value) : Nat := match v with | .bool true => 1 | _ => 0
set_option maxRecDepth 100000 in
set_option maxHeartbeats 16000000 in
theorem l02Live_i {t a : Int} {ac : List (List Bool)} {nx : List (List (List Int))} {s u : Option Addr} {c d b o : Nat} {w0 : World} (h : AutAt w0 b o t a ac nx s u c d) (hok : AutOk t a ac nx) :
  Calls Tryz.prog 72 #[.pointer (some ⟨b, o, none⟩)] w0 fun e w' => ∃ g, e = .returned (.slice (some ⟨g, 0, none⟩) ac.length ac.length) ∧ Fresh w0 w' (boolsD (liveL ac nx)) (.slice (some ⟨g, 0, none⟩) ac.length ac.length) ∧ Below w0.heap.size w0 w' := by
 have g4 := h.2.2.2.2.1
 have g5 := h.2.2.2.2.2
 obtain ⟨hlen, hcap⟩ := nest_bd g4
 obtain ⟨hlen', hcap'⟩ := nest_bd g5
 unfold maxLen at hcap hcap'
 have hn1 := hok.lo
 have hn2 := hok.hi
 have hnl := Lib.hid hok.len
 have Hok := Lib.hid hok
 have Hh := Lib.hid h
 have HG4 := Lib.hid g4
 have HG5 := Lib.hid g5
 obtain ⟨i0, hi, hz0, hz1, hz2⟩ := info_parts info_bl
 obtain ⟨c0, c1', c2', c3', -, -⟩ := h
 clear hok g4 g5
 go_enter Tryz.func72, Tryz.ntmps72
 go_wp2_with (at_make; refine wpList_make_full _ rfl _ _ 85 rfl w0.heap.size 4 i0 (.bool false) 1 Tryz.underlying85 hi hz0 hz1 .i64 .i64 _ _ ac.length rfl rfl rfl rfl (by rw [hz2]; omega) (by unfold maxLen; omega) (by simp) ?_; intro w1 hown hgrow)
 have hB0 : Below w0.heap.size w0 w1 := Below.grown (Below.refl _ _) hgrow (by simp) (by simp)
 obtain ⟨hb0, -⟩ := made_blk (z := .bool false) rfl hown
 have hb1 : Blk w1 w0.heap.size 4 ((List.replicate ac.length false).map Value.bool) := by simpa using hb0
 have Hst := Lib.hid (And.intro hb1 hB0)
 clear hown hgrow hb0 hb1 hB0 c0 c1' c2' c3'
 go_loopw [4] (fun v wr => ∃ (gr : Bool) (L : List Bool), v = .bool gr ∧ L.length = ac.length ∧ Blk wr w0.heap.size 4 (L.map Value.bool) ∧ Below w0.heap.size w0 wr ∧ SoundL ac nx L ∧ (gr = false → ClosedTo ac nx L ac.length)) (fun v wr => 2 * falsesW wr w0.heap.size + b2n v)
 case atStart => exact ⟨true, _, rfl, by simp, Hst.out.1, Hst.out.2, SoundL.start, fun h => by cases h⟩
 case round =>
  clear Hst
  obtain ⟨gr, L, rfl, hLl, hb, hB, hsd, hcl⟩ := hrel
  obtain ⟨wo, rfl⟩ : ∃ v, v = wr := ⟨_, rfl⟩
  have Hms := Lib.hid (falsesW_eq hb)
  have Hsd := Lib.hid hsd
  have Hcl := Lib.hid hcl
  have Hb := Lib.hid hb
  have HB := Lib.hid hB
  clear hb hB hsd hcl
  cases gr
  ·
   have HL : Hid (L = liveL ac nx) := live_eq Hsd.out (Hcl.out rfl) hLl Hok.out.targets
   have Hfr := Lib.hid (arr_fresh (fd := D.bool) (W := w0) Hb.out (Nat.le_refl _) (fun x => Ow.bool x) hLl (by unfold maxLen; omega))
   go_wp2_with fail
   go_ret
   exact ⟨_, rfl, by have h := Hfr.out; rw [HL.out] at h; exact h, HB.out⟩
  clear Hcl
  go_wp2_with fail
  go_loopw [4, 5] (fun v i wr => ∃ (gr : Bool) (x : Nat) (M : List Bool), v = .bool gr ∧ i = .int .i64 x ∧ x ≤ ac.length ∧ M.length = ac.length ∧ Blk wr w0.heap.size 4 (M.map Value.bool) ∧ Below w0.heap.size w0 wr ∧ SoundL ac nx M ∧ (gr = false → M = L ∧ ClosedTo ac nx L x) ∧ (gr = true → falses M < falses L)) (fun _ i _ => ac.length - (intOf i).toNat)
  case atStart => exact ⟨false, 0, L, rfl, rfl, by omega, hLl, Hb.out, HB.out, Hsd.out, fun _ => ⟨rfl, fun s hs => by omega⟩, fun h => by cases h⟩
  case round =>
   clear Hb HB Hsd
   obtain ⟨gr, x, M, rfl, rfl, hx, hMl, hb, hB, hsd, hno, hyes⟩ := hrel
   obtain ⟨wx, rfl⟩ : ∃ v, v = wr := ⟨_, rfl⟩
   have hx0 := Int.natCast_nonneg x
   have Hsd := Lib.hid hsd
   have Hno := Lib.hid hno
   have Hyes := Lib.hid hyes
   have Hb := Lib.hid hb
   have HB := Lib.hid hB
   have lg := hb.lt
   clear hb hB hsd hno hyes
   by_cases hlt : x < ac.length
   rotate_left
   ·
    obtain rfl : x = ac.length := by omega
    have Hm2 := Lib.hid (falsesW_eq Hb.out)
    go_wp2_with fail
    go_roundw
    case rel => exact ⟨gr, M, rfl, hMl, Hb.out, HB.out, Hsd.out, fun h => by obtain ⟨e1, e2⟩ := Hno.out h; rw [e1]; exact e2⟩
    case measure =>
     rw [Hms.out, Hm2.out]
     cases gr
     ·
      obtain ⟨e1, -⟩ := Hno.out rfl
      rw [e1]
      simp [b2n]
     ·
      have := Hyes.out rfl
      simp [b2n]
      omega
   obtain ⟨ar, har⟩ : ∃ e, ac[x]? = some e := ⟨_, List.getElem?_eq_getElem hlt⟩
   obtain ⟨nr, hnr⟩ : ∃ e, nx[x]? = some e := ⟨_, List.getElem?_eq_getElem (by have := hnl.out; omega)⟩
   obtain ⟨sb, so, rfl⟩ := nest_some (f := boolsD) HG4.out (by omega)
   obtain ⟨ub, uo, rfl⟩ := nest_some (f := iiD) HG5.out (by have := hnl.out; omega)
   obtain ⟨hsl, sa, ca, a0, ra⟩ := nest_sl (g := D.bool) (HG4.out.below HB.out) har
   obtain ⟨hul, sn, cn, b0, rb⟩ := nest_sl (g := intsD) (HG5.out.below HB.out) hnr
   obtain ⟨ra1, ra2⟩ := nest_bd ra
   obtain ⟨rb1, rb2⟩ := nest_bd rb
   unfold maxLen at ra2 rb2
   have hal : nr.length = ar.length := by
    have h1 := Hok.out.acc_row har
    have h2 := (Hok.out.row hnr).1
    omega
   have Hall := Lib.hid (lookTo_all (L := M) har hnr hal)
   have Htg := Lib.hid (fun (l : Nat) (row : List Int) (h : nr[l]? = some row) (z : Int) (hz : z ∈ row) => Hok.out.targets x row z (by rw [List.getD_eq_getElem?_getD, hnr]; exact List.mem_of_getElem? h) hz)
   have hal1 : ar.length ≤ nr.length := by omega
   have hxb : (x : Int) < (ac.length : Int) := by omega
   have hxc : (x : Int) < (nx.length : Int) := by have := hnl.out; omega
   have HL0 : Hid (false = lookTo ar nr M 0) := lookTo_zero.symm
   obtain ⟨c0, c1', c2', c3', -, -⟩ := Hh.out.below HB.out
   clear har hnr hal
   go_wp2_with fail
   go_loop [6, 7] (fun y i => ∃ (j : Nat) (yb : Bool), j ≤ ar.length ∧ i = .int .i64 j ∧ y = .bool yb ∧ Hid (yb = lookTo ar nr M j)) (fun _ i => ar.length - (intOf i).toNat)
   case atStart => exact ⟨0, false, by omega, rfl, rfl, HL0⟩
   case round =>
    clear HL0
    obtain ⟨j, yb, hj, rfl, rfl, HY⟩ := hrel
    have hj0 := Int.natCast_nonneg j
    by_cases hjl : j < ar.length
    rotate_left
    ·
     obtain rfl : j = ar.length := by omega
     have HY2 : Hid (yb = lookB ac nx M x) := by show _ = _; rw [HY.out, Hall.out]
     obtain ⟨mb, hmb⟩ : ∃ e, M[x]? = some e := ⟨_, List.getElem?_eq_getElem (by omega)⟩
     have x0 := arr_cell Hb.out hmb
     have f0 := Hb.out.frozen x
     have HMb := Lib.hid hmb
     clear hmb HY Hall
     cases yb
     ·
      have Hnx : Hid ((gr = false → M = L ∧ ClosedTo ac nx L (x + 1))) := fun h => by
       obtain ⟨e1, e2⟩ := Hno.out h
       refine ⟨e1, e2.succ fun hl => ?_⟩
       have h2 := HY2.out
       rw [e1, hl] at h2
       cases h2
      clear HY2 Hno
      go_wp2_with fail
      go_roundw
      case rel => exact ⟨gr, x + 1, M, rfl, by go_num, by omega, hMl, Hb.out, HB.out, Hsd.out, Hnx.out, Hyes.out⟩
      case measure => simp [intOf]; omega
     ·
      cases mb
      ·
       have Hnx : Hid (falses (M.set x true) < falses L) := by
        show _ < _
        have h1 := falses_set HMb.out
        cases hg : gr with
        | false => have := (Hno.out hg).1; rw [this] at h1 ⊢; exact h1
        | true => have := Hyes.out hg; omega
       have Hs2 := Lib.hid (Hsd.out.set (look_sound Hsd.out HY2.out.symm))
       have Hb2 : Hid (Blk (wx.setCell ⟨w0.heap.size, x, none⟩ (.bool true)) w0.heap.size 4 ((M.set x true).map Value.bool)) := arr_set Hb.out x true
       have HB2 := Lib.hid (Below.setCell (p := ⟨w0.heap.size, x, none⟩) HB.out (Nat.le_refl _) (.bool true))
       have hl2 : (M.set x true).length = ac.length := by simpa using hMl
       clear HY2 Hno Hyes
       go_wp2_with fail
       go_roundw
       case rel => exact ⟨true, x + 1, _, rfl, by go_num, by omega, hl2, Hb2.out, HB2.out, Hs2.out, fun h => (by cases h), fun _ => Hnx.out⟩
       case measure => simp [intOf]; omega
      ·
       have Hnx : Hid ((gr = false → M = L ∧ ClosedTo ac nx L (x + 1))) := fun h => by
        obtain ⟨e1, e2⟩ := Hno.out h
        refine ⟨e1, e2.succ fun hl => ?_⟩
        rw [← e1]
        exact HMb.out
       clear HY2 Hno
       go_wp2_with fail
       go_roundw
       case rel => exact ⟨gr, x + 1, M, rfl, by go_num, by omega, hMl, Hb.out, HB.out, Hsd.out, Hnx.out, Hyes.out⟩
       case measure => simp [intOf]; omega
    obtain ⟨z, hz⟩ : ∃ e, ar[j]? = some e := ⟨_, List.getElem?_eq_getElem hjl⟩
    obtain ⟨row, hrow⟩ : ∃ e, nr[j]? = some e := ⟨_, List.getElem?_eq_getElem (by omega)⟩
    obtain ⟨rb', ro, rfl⟩ := nest_some (f := D.bool) ra (by omega)
    obtain ⟨vb, vo, rfl⟩ := nest_some (f := intsD) rb (by omega)
    obtain ⟨-, z0⟩ := bool_in ra hz
    obtain ⟨-, sr, cr, r0, rr⟩ := nest_sl (g := D.int) rb hrow
    obtain ⟨rr1, rr2⟩ := nest_bd rr
    unfold maxLen at rr2
    have hjb : (j : Int) < (ar.length : Int) := by omega
    have hjc : (j : Int) < (nr.length : Int) := by omega
    have Hsu := Lib.hid (lookTo_succ (L := M) hz hrow)
    have hzr := Lib.hid (Htg.out j row hrow)
    obtain ⟨y2, hy2⟩ : ∃ y2, y2 = (yb || z) := ⟨_, rfl⟩
    have HE : Hid (y2 = (lookTo ar nr M j || z || hitR (fun z => M.getD z false) (row.take 0))) := by show _ = _; rw [hitR_zero, hy2, HY.out]; simp
    have hsp : (yb = true ∧ y2 = true) ∨ (yb = false ∧ z = y2) := by
     cases yb
     ·
      exact Or.inr ⟨rfl, by rw [hy2]; simp⟩
     ·
      exact Or.inl ⟨rfl, by rw [hy2]; simp⟩
    have Hsp := Lib.hid hsp
    clear hz hrow hy2 HY hsp
    rcases Hsp.out with ⟨rfl, rfl⟩ | ⟨rfl, rfl⟩
    all_goals
     clear Hsp
     go_wp2_with fail
     go_loop [6, 8] (fun y i => ∃ (k : Nat) (y3 : Bool), k ≤ row.length ∧ i = .int .i64 k ∧ y = .bool y3 ∧ Hid (y3 = (lookTo ar nr M j || z || hitR (fun z => M.getD z false) (row.take k)))) (fun _ i => row.length - (intOf i).toNat)
     case atStart => exact ⟨0, _, by omega, rfl, rfl, HE⟩
     case round =>
      clear HE
      obtain ⟨k, y3, hk, rfl, rfl, HE⟩ := hrel
      have hk0 := Int.natCast_nonneg k
      by_cases hkl : k < row.length
      rotate_left
      ·
       obtain rfl : k = row.length := by omega
       have HY3 : Hid (y3 = lookTo ar nr M (j + 1)) := by show _ = _; rw [Hsu.out, HE.out, List.take_length]
       clear HE Hsu
       go_wp2_with fail
       go_round
       case rel => exact ⟨j + 1, y3, by omega, by go_num, rfl, HY3⟩
       case measure => simp [intOf]; omega
      obtain ⟨q, hq⟩ : ∃ e, row[k]? = some e := ⟨_, List.getElem?_eq_getElem hkl⟩
      obtain ⟨tb, to', rfl⟩ := nest_some (f := D.int) rr (by omega)
      obtain ⟨-, q0⟩ := int_in rr hq
      have hkb : (k : Int) < (row.length : Int) := by omega
      have hql := hzr.out q (List.mem_of_getElem? hq)
      have Hs2 := Lib.hid (hitR_succ (P := fun z => M.getD z false) hq)
      have Hor := Lib.hid (fun x => or_step (x := x) HE.out)
      clear hq HE
      cases y3
      ·
       by_cases hneg : q < 0
       ·
        have hge : decide ((0 : Int) ≤ q) = false := by simp; omega
        have HE2 : Hid (false = (lookTo ar nr M j || z || hitR (fun z => M.getD z false) (row.take (k + 1)))) := by
         show _ = _
         have h := Hor.out (decide (0 ≤ q) && M.getD q.toNat false)
         rw [Hs2.out, ← h, hge]
         rfl
        clear Hor Hs2
        go_wp2_with fail
        go_round
        case rel => exact ⟨k + 1, false, by omega, by go_num, rfl, HE2⟩
        case measure => simp [intOf]; omega
       ·
        have hge : decide ((0 : Int) ≤ q) = true := by simp; omega
        obtain ⟨qn, rfl⟩ : ∃ qn : Nat, q = (qn : Int) := ⟨q.toNat, by omega⟩
        obtain ⟨v, hv⟩ : ∃ e, M[qn]? = some e := ⟨_, List.getElem?_eq_getElem (by omega)⟩
        have x0 := arr_cell Hb.out hv
        have HE2 : Hid (v = (lookTo ar nr M j || z || hitR (fun z => M.getD z false) (row.take (k + 1)))) := by
         show _ = _
         have h := Hor.out (decide ((0 : Int) ≤ (qn : Int)) && M.getD (qn : Int).toNat false)
         rw [Hs2.out, ← h, hge, Int.toNat_natCast, List.getD_eq_getElem?_getD, hv]
         simp
        have hqn := Int.natCast_nonneg qn
        clear Hor Hs2 hv
        go_wp2_with fail
        go_round
        case rel => exact ⟨k + 1, v, by omega, by go_num, rfl, HE2⟩
        case measure => simp [intOf]; omega
      ·
       have HE2 : Hid (true = (lookTo ar nr M j || z || hitR (fun z => M.getD z false) (row.take (k + 1)))) := by
        show _ = _
        have h := Hor.out (decide (0 ≤ q) && M.getD q.toNat false)
        rw [Hs2.out, ← h]
        simp
       clear Hor Hs2
       go_wp2_with fail
       go_round
       case rel => exact ⟨k + 1, true, by omega, by go_num, rfl, HE2⟩
       case measure => simp [intOf]; omega
end Go.Proofs.YtcokljhamhgelaaGreatDoor
