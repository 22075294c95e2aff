/-
  Numbers of accepted words: spec.l02Counts.
-/
import Derived.Test.YtlnojmmjpgpjdaaValidI
import Derived.Test.YtlnojmmjpgpjdaaCnt
import Derived.Test.YtlnojmmjpgpjdaaApp
namespace Go.Proofs.Ytlnojmmjpgpjdaa
open Go.ChangeShapes Go.WideShapes Go.ChangeAt Go.RowKit Go.Sort

/-- The numbers of the lengths ahead of one. -/
def cntsL (ac : List (List Bool)) (nx : List (List (List Int))) (k : Nat) : List (List Int) := (List.range k).map (cntN ac nx)
theorem cntsL_length (ac : List (List Bool)) (nx : List (List (List Int))) (k : Nat) : (cntsL ac nx k).length = k := by simp [cntsL]
theorem cntsL_at {ac : List (List Bool)} {nx : List (List (List Int))} {k i : Nat} (h : i < k) : (cntsL ac nx k)[i]? = some (cntN ac nx i) := by simp [cntsL, h]
theorem cntsL_succ (ac : List (List Bool)) (nx : List (List (List Int))) (k : Nat) : cntsL ac nx (k + 1) = cntsL ac nx k ++ [cntN ac nx k] := by simp [cntsL, List.range_succ]
theorem App.iid {W w : World} {t : TypeId} {xss : List (List Int)} {n : Nat} {v : Value} (h : App W w t 1 n (xss.map intsD) v) (hn : xss.length = n) : Rd w (nestD intsD xss) v := by
  subst hn
  exact h.rd
theorem App.freshN {α : Type} {f : α → D} {W w : World} {t : TypeId} {xs : List α} {n : Nat} {v : Value} (h : App W w t 1 n (xs.map f) v) (hn : xs.length = n) : Fresh W w (nestD f xs) v := by
  subst hn
  exact h.fresh
theorem App.sized {W w : World} {t : TypeId} {ds ds' : List D} {n n' : Nat} {v : Value} (h : App W w t 1 n ds v) (hd : ds = ds') (hn : n = n') : App W w t 1 n' ds' v := by
  subst hd hn
  exact h

set_option maxRecDepth 100000 in
set_option maxHeartbeats 16000000 in
theorem l02Counts_i {t a : Int} {ac : List (List Bool)} {nx : List (List (List Int))} {s u : Option Addr} {c d b o n : Nat} {w0 : World} (h : AutAt w0 b o t a ac nx s u c d) (hok : AutOk t a ac nx) (hn : n ≤ 10) :
    Calls Try.prog 64 #[.pointer (some ⟨b, o, none⟩), .int .i64 n] w0 fun e w' => ∃ s' c', e = .returned (.slice s' (n + 1) c') ∧ Fresh w0 w' (nestD intsD (cntsL ac nx (n + 1))) (.slice s' (n + 1) c') ∧ Below w0.heap.size w0 w' := by
  have g4 := h.2.2.2.2.1
  have g5 := h.2.2.2.2.2
  obtain ⟨hlen, hcap⟩ := nest_bd g4
  obtain ⟨hlen', hcap'⟩ := nest_bd g5
  unfold maxLen at hcap hcap'
  have hn1 := hok.lo
  have hn2 := hok.hi
  have hnl := Lib.hid hok.len
  have Hok := Lib.hid hok
  have Hh := Lib.hid h
  have h0 := App.empty (W := w0) (size := 1) (Blk.made w0 58 #[]) (Nat.le_refl _)
  clear hok h
  go_enter Try.func64, Try.ntmps64
  go_wp2_with fail
  go_loopw [5, 6] (fun v i wr => ∃ k : Nat, k ≤ n + 1 ∧ i = .int .i64 k ∧ App w0 wr 58 1 k ((cntsL ac nx k).map intsD) v ∧ Below w0.heap.size w0 wr) (fun _ i _ => n + 1 - (intOf i).toNat)
  case atStart => exact ⟨0, by omega, rfl, by simpa [cntsL] using h0, by (repeat' (first | exact Below.refl _ _ | assumption | (refine Below.alloc ?_ (by first | omega | (simp; done) | (simp; omega)) _) | (refine Below.drew ?_) | (refine Below.setCell ?_ (by first | omega | (simp; done) | (simp; omega)) _)))⟩
  case round =>
    clear h0
    obtain ⟨k, hk, rfl, happ, hB⟩ := hrel
    have szB := hB.size
    obtain ⟨a', cap', rfl, hcap1, hcap2⟩ := happ.shape
    unfold maxLen at hcap2
    by_cases hkn : k ≤ n
    rotate_left
    · obtain rfl : k = n + 1 := by omega
      have hf := happ.freshN (cntsL_length ac nx (n + 1))
      go_wp2_with fail
      go_ret
      exact ⟨a', cap', rfl, hf, hB⟩
    obtain ⟨wo, rfl⟩ : ∃ v, v = wr := ⟨_, rfl⟩
    have h1 := App.empty (W := wo) (size := 1) (Blk.made wo 2 #[]) (Nat.le_refl _)
    have hrd := happ.iid (cntsL_length ac nx k)
    have HA := Lib.hid happ
    have HB := Lib.hid hB
    have HR := Lib.hid hrd
    clear happ hB hrd
    go_wp2_with fail
    go_loopw [7, 8] (fun v i w2 => ∃ j : Nat, j ≤ ac.length ∧ i = .int .i64 j ∧ App wo w2 2 1 j (((cntN ac nx k).take j).map D.int) v ∧ Below wo.heap.size wo w2) (fun _ i _ => ac.length - (intOf i).toNat)
    case atStart => exact ⟨0, by omega, rfl, by simpa using h1, by (repeat' (first | exact Below.refl _ _ | assumption | (refine Below.alloc ?_ (by first | omega | (simp; done) | (simp; omega)) _) | (refine Below.drew ?_) | (refine Below.setCell ?_ (by first | omega | (simp; done) | (simp; omega)) _)))⟩
    case round =>
      clear h1
      obtain ⟨j, hj, rfl, happ1, hB2⟩ := hrel
      obtain ⟨w2, rfl⟩ : ∃ v, v = wr := ⟨_, rfl⟩
      have hz2 := hB2.size
      obtain ⟨a1, cap1, rfl, hcap3, hcap4⟩ := happ1.shape
      unfold maxLen at hcap4
      have HA1 := Lib.hid happ1
      have HB2 := Lib.hid hB2
      have HBw := Lib.hid (HB.out.trans (hB2.mono szB))
      clear happ1 hB2
      by_cases hlt : j < ac.length
      rotate_left
      · obtain rfl : j = ac.length := by omega
        have happ1 := HA1.out
        have HC := Lib.hid (cntsL_succ ac nx k)
        have HL := Lib.hid (cntN_length Hok.out k)
        have hf : Freshs wo w2 [intsD (cntN ac nx k)] [.slice a1 ac.length cap1] := Freshs.one (by
          have h1 := happ1
          rw [← HL.out, List.take_length] at h1
          rw [← HL.out]
          exact h1.freshN rfl)
        have hf2 := hf.on (Below.alloc (Below.refl _ _) (Nat.le_refl _) (.cells #[.slice a1 ac.length cap1] 58))
        have happ := HA.out
        obtain ⟨c0, c1', c2', c3', -, -⟩ := Hh.out.below HBw.out
        clear happ1 hf
        go_wp2_with (at_builtin; refine wpList_append_app _ rfl _ _ 86 rfl 58 (.slice none 0 0) 1 24 Try.underlying86 info_int64s rfl (by decide) _ rfl happ (HB2.out.alloc hz2 _) szB ⟨w2.heap.size, 0, none⟩ 1 1 [.slice a1 ac.length cap1] rfl (news_blk (Blk.made _ _ _)) hf2 rfl (by simp [Value.oneCell']) (by omega) (by omega) (by unfold maxLen; omega) ?_; intro g cap3 w3 happ3 hb3)
        have hB3 : Below w0.heap.size w0 w3 := (HBw.out.alloc (by omega) _).trans hb3
        have Hfin := Lib.hid (And.intro (happ3.sized (show _ = ((cntsL ac nx (k + 1)).map intsD) by rw [HC.out, List.map_append]; rfl) rfl) hB3)
        clear happ3 hb3 hB3 happ hf2
        go_wp2_with fail
        go_roundw
        case rel => exact ⟨k + 1, by omega, by go_num, Hfin.out.1, Hfin.out.2⟩
        case measure => simp [intOf]; omega
      obtain ⟨ar, har⟩ : ∃ e, ac[j]? = some e := ⟨_, List.getElem?_eq_getElem hlt⟩
      obtain ⟨nr, hnr⟩ : ∃ e, nx[j]? = some e := ⟨_, List.getElem?_eq_getElem (by have := hnl.out; omega)⟩
      obtain ⟨sb, so, rfl⟩ := nest_some (f := boolsD) g4 (by omega)
      obtain ⟨ub, uo, rfl⟩ := nest_some (f := iiD) g5 (by have := hnl.out; omega)
      obtain ⟨hsl, sa, ca, a0, ra⟩ := nest_sl (g := D.bool) (g4.below HBw.out) har
      obtain ⟨hul, sn, cn, b0, rb⟩ := nest_sl (g := intsD) (g5.below HBw.out) hnr
      obtain ⟨ra1, ra2⟩ := nest_bd ra
      obtain ⟨rb1, rb2⟩ := nest_bd rb
      unfold maxLen at ra2 rb2
      have hal : ar.length ≤ nr.length ∧ nr.length ≤ ar.length := by
        have h1 := Hok.out.acc_row har
        have h2 := (Hok.out.row hnr).1
        omega
      have hjz := Int.natCast_nonneg j
      have hjb : (j : Int) < (ac.length : Int) := by omega
      have hjc : (j : Int) < (nx.length : Int) := by have := hnl.out; omega
      obtain ⟨c0, c1', c2', c3', -, -⟩ := Hh.out.below HBw.out
      have hrec := HR.out.below HB2.out
      by_cases hk0 : k = 0
      · have hq : (cntN ac nx k)[j]? = some (cnt0 ar) := by rw [hk0]; exact cntN_zero_at har
        have e0 : ((k : Int) == 0) = true := by simp [hk0]
        have e1 : decide ((0 : Int) < (k : Int)) = false := by simp [hk0]
        have e2 : decide (0 < k) = false := by simp [hk0]
        clear hk0
        have hbd := fun l => cnt0_bd Hok.out har l
        have Hbd := Lib.hid hbd
        have Hq := Lib.hid hq
        have Har := Lib.hid har
        have Hnr := Lib.hid hnr
        clear hbd hq har hnr
        go_wp2_with fail
        go_loop [9, 10] (fun q i => ∃ l : Nat, l ≤ ar.length ∧ i = .int .i64 l ∧ q = .int .i64 (cnt0 (ar.take l))) (fun _ i => ar.length - (intOf i).toNat)
        case atStart => exact ⟨0, by omega, rfl, by simp [cnt0, sumI]⟩
        case round =>
          obtain ⟨l, hl, rfl, rfl⟩ := hrel
          by_cases hll : l < ar.length
          rotate_left
          · obtain rfl : l = ar.length := by omega
            obtain ⟨q, hqe⟩ : ∃ q, q = cnt0 ar := ⟨_, rfl⟩
            rw [List.take_length, ← hqe]
            have hq' := Hq.out
            rw [← hqe] at hq'
            have Hq := Lib.hid hq'
            clear hqe hq'
            have happ1 := HA1.out
            have Hst : Hid ((cntN ac nx k).take (j + 1) = (cntN ac nx k).take j ++ [q]) := by
              show _ = _
              obtain ⟨h1, h2⟩ := List.getElem?_eq_some_iff.1 Hq.out
              rw [List.take_succ_eq_append_getElem h1, h2]
            go_wp2_with (at_builtin; refine wpList_append_app _ rfl _ _ 58 rfl 2 (.int .i64 0) 1 8 Try.underlying58 info_int64 rfl (by decide) _ rfl happ1 (Below.alloc (Below.refl _ _) (Nat.le_refl _) _) hz2 ⟨w2.heap.size, 0, none⟩ 1 1 [.int .i64 q] rfl (news_blk (Blk.made _ _ _)) (Freshs.int q) rfl (by simp [Value.oneCell']) (by omega) (by omega) (by unfold maxLen; omega) ?_; intro g cap3 w3 happ3 hb3)
            have hB3 : Below wo.heap.size wo w3 := (HB2.out.alloc hz2 _).trans hb3
            have Hfin := Lib.hid (And.intro (happ3.sized (show _ = (((cntN ac nx k).take (j + 1)).map D.int) by rw [Hst.out, List.map_append]; rfl) rfl) hB3)
            clear happ1 happ3 hb3 hB3
            go_wp2_with fail
            go_roundw
            case rel => exact ⟨j + 1, by omega, by go_num, Hfin.out.1, Hfin.out.2⟩
            case measure => simp [intOf]; omega
          obtain ⟨z, hz⟩ : ∃ e, ar[l]? = some e := ⟨_, List.getElem?_eq_getElem hll⟩
          obtain ⟨rb', ro, rfl⟩ := nest_some (f := D.bool) ra (by omega)
          obtain ⟨-, z0⟩ := bool_in ra hz
          have hlz := Int.natCast_nonneg l
          have hlb : (l : Int) < (ar.length : Int) := by omega
          obtain ⟨k1, k2⟩ := Hbd.out l
          have Hs := Lib.hid (cnt0_succ hz)
          clear hz
          cases z
          all_goals
            go_wp2_with fail
            go_loop [9, 11] (fun q i => i = .int .i64 0 ∧ q = .int .i64 (cnt0 (ar.take (l + 1)))) (fun _ _ => 0)
            case atStart => exact ⟨rfl, by rw [Hs.out]; simp⟩
            case round =>
              obtain ⟨rfl, rfl⟩ := hrel
              go_wp2_with fail
              go_round
              case rel => exact ⟨l + 1, by omega, by go_num, rfl⟩
              case measure => simp [intOf]; omega
      · obtain ⟨m0, hm0⟩ : ∃ m, k = m + 1 := ⟨k - 1, by omega⟩
        have hrow : (cntN ac nx k)[j]? = some (cntRows (cntN ac nx m0) nr) := by rw [hm0]; exact cntN_at hnr
        have e0 : ((k : Int) == 0) = false := by simp [hk0]
        have e1 : decide ((0 : Int) < (k : Int)) = true := by simp; omega
        have e2 : decide (0 < k) = true := by simp; omega
        have hmk : m0 < k := by omega
        have hm10 : m0 + 1 ≤ 10 := by omega
        have hbd := fun (i l : Nat) (row : List Int) (hi : nr[i]? = some row) => cnt_round Hok.out hm10 hnr hi l
        have hce := fun (i l : Nat) (row : List Int) (z : Int) (hi : nr[i]? = some row) (hl : row[l]? = some z) => cnt_cell Hok.out hm10 hnr hi hl
        obtain ⟨pb, po, rfl⟩ := nest_some hrec (by rw [cntsL_length]; omega)
        obtain ⟨hpl, sp, cp, p0, rp⟩ := nest_sl (g := D.int) hrec (cntsL_at (ac := ac) (nx := nx) hmk)
        have hpn := cntN_length Hok.out m0
        obtain ⟨sp', so', rfl⟩ := nest_some (f := D.int) rp (by omega)
        obtain ⟨rp1, rp2⟩ := nest_bd rp
        unfold maxLen at rp2
        have Hbd := Lib.hid hbd
        have Hce := Lib.hid hce
        have Hq := Lib.hid hrow
        have Hpn := Lib.hid hpn
        have hpn1 : (cntN ac nx m0).length ≤ ac.length := by omega
        have hpn2 : ac.length ≤ (cntN ac nx m0).length := by omega
        have q1 : IntKind.i64.wrap ((k : Int) - 1) = (m0 : Int) := by rw [show (k : Int) - 1 = (m0 : Int) by omega]; exact wrap_of (by omega) (by omega)
        have hm0z := Int.natCast_nonneg m0
        have hm0k : (m0 : Int) < (k : Int) := by omega
        clear hbd hce hrow har hnr hpn hm0 hk0
        go_wp2_with fail
        go_loop [9, 10] (fun q i => ∃ (l : Nat) (S : Int), l ≤ ar.length ∧ i = .int .i64 l ∧ q = .int .i64 S ∧ Hid (S = cntRows (cntN ac nx m0) (nr.take l))) (fun _ i => ar.length - (intOf i).toNat)
        case atStart => exact ⟨0, _, by omega, rfl, rfl, by show (0 : Int) = _; simp [cntRows, sumI]⟩
        case round =>
          obtain ⟨l, S, hl, rfl, rfl, HS⟩ := hrel
          by_cases hll : l < ar.length
          rotate_left
          · obtain rfl : l = ar.length := by omega
            have hq : (cntN ac nx k)[j]? = some S := by
              have := HS.out
              rw [show ar.length = nr.length by omega, List.take_length] at this
              rw [this]
              exact Hq.out
            have Hq := Lib.hid hq
            clear hq
            obtain ⟨q, rfl⟩ : ∃ q, q = S := ⟨_, rfl⟩
            have happ1 := HA1.out
            have Hst : Hid ((cntN ac nx k).take (j + 1) = (cntN ac nx k).take j ++ [q]) := by
              show _ = _
              obtain ⟨h1, h2⟩ := List.getElem?_eq_some_iff.1 Hq.out
              rw [List.take_succ_eq_append_getElem h1, h2]
            go_wp2_with (at_builtin; refine wpList_append_app _ rfl _ _ 58 rfl 2 (.int .i64 0) 1 8 Try.underlying58 info_int64 rfl (by decide) _ rfl happ1 (Below.alloc (Below.refl _ _) (Nat.le_refl _) _) hz2 ⟨w2.heap.size, 0, none⟩ 1 1 [.int .i64 q] rfl (news_blk (Blk.made _ _ _)) (Freshs.int q) rfl (by simp [Value.oneCell']) (by omega) (by omega) (by unfold maxLen; omega) ?_; intro g cap3 w3 happ3 hb3)
            have hB3 : Below wo.heap.size wo w3 := (HB2.out.alloc hz2 _).trans hb3
            have Hfin := Lib.hid (And.intro (happ3.sized (show _ = (((cntN ac nx k).take (j + 1)).map D.int) by rw [Hst.out, List.map_append]; rfl) rfl) hB3)
            clear happ1 happ3 hb3 hB3
            go_wp2_with fail
            go_roundw
            case rel => exact ⟨j + 1, by omega, by go_num, Hfin.out.1, Hfin.out.2⟩
            case measure => simp [intOf]; omega
          have hln : l < nr.length := by omega
          obtain ⟨row, hrow⟩ : ∃ e, nr[l]? = some e := ⟨_, List.getElem?_eq_getElem hln⟩
          obtain ⟨vb, vo, rfl⟩ := nest_some (f := intsD) rb (by omega)
          obtain ⟨-, sr, cr, r0, rr⟩ := nest_sl (g := D.int) rb hrow
          obtain ⟨rr1, rr2⟩ := nest_bd rr
          unfold maxLen at rr2
          have hlz := Int.natCast_nonneg l
          have hlb : (l : Int) < (ar.length : Int) := by omega
          have hlc : (l : Int) < (nr.length : Int) := by omega
          have Hrow := Lib.hid hrow
          have Hs := Lib.hid (cntRows_succ (c := cntN ac nx m0) hrow)
          clear hrow
          go_wp2_with fail
          go_loop [9, 11] (fun q i => ∃ (m : Nat) (T : Int), m ≤ row.length ∧ i = .int .i64 m ∧ q = .int .i64 T ∧ Hid (T = cntRows (cntN ac nx m0) (nr.take l) + cntRow (cntN ac nx m0) (row.take m))) (fun _ i => row.length - (intOf i).toNat)
          case atStart => exact ⟨0, _, by omega, rfl, rfl, by show _ = _; rw [HS.out]; simp [cntRow, sumI]⟩
          case round =>
            obtain ⟨m, T, hm, rfl, rfl, HT⟩ := hrel
            by_cases hml : m < row.length
            rotate_left
            · obtain rfl : m = row.length := by omega
              have HT2 : Hid (T = cntRows (cntN ac nx m0) (nr.take (l + 1))) := by show _ = _; rw [HT.out, List.take_length, Hs.out]
              go_wp2_with fail
              go_round
              case rel => exact ⟨l + 1, T, by omega, by go_num, rfl, HT2⟩
              case measure => simp [intOf]; omega
            obtain ⟨z, hz⟩ : ∃ e, row[m]? = some e := ⟨_, List.getElem?_eq_getElem hml⟩
            obtain ⟨tb, to', rfl⟩ := nest_some (f := D.int) rr (by omega)
            obtain ⟨-, z0⟩ := int_in rr hz
            have hmz := Int.natCast_nonneg m
            have hmb : (m : Int) < (row.length : Int) := by omega
            obtain ⟨t1, t2⟩ := Hbd.out l m row Hrow.out
            rw [← HT.out] at t1 t2
            obtain ⟨z1, z2, z3, z4⟩ := Hce.out l m row z Hrow.out hz
            clear hz
            by_cases hneg : z < 0
            · have HT2 : Hid (T = cntRows (cntN ac nx m0) (nr.take l) + cntRow (cntN ac nx m0) (row.take (m + 1))) := by show _ = _; rw [HT.out, z4 hneg]
              clear z3 z4
              go_wp2_with fail
              go_round
              case rel => exact ⟨m + 1, T, by omega, by go_num, rfl, HT2⟩
              case measure => simp [intOf]; omega
            · obtain ⟨zn, rfl⟩ : ∃ zn : Nat, z = (zn : Int) := ⟨z.toNat, by omega⟩
              obtain ⟨v, hv, v1, v2, v3⟩ := z3 (by omega)
              rw [Int.toNat_natCast] at hv
              obtain ⟨-, x0⟩ := int_in rp hv
              have HT2 : Hid (T + v = cntRows (cntN ac nx m0) (nr.take l) + cntRow (cntN ac nx m0) (row.take (m + 1))) := by show _ = _; rw [HT.out, v3]; omega
              have hzn := Int.natCast_nonneg zn
              have hznb : (zn : Int) < ((cntN ac nx m0).length : Int) := by omega
              clear z3 z4 hv v3
              go_wp2_with fail
              go_round
              case rel => exact ⟨m + 1, T + v, by omega, by go_num, by go_num, HT2⟩
              case measure => simp [intOf]; omega
end Go.Proofs.Ytlnojmmjpgpjdaa
