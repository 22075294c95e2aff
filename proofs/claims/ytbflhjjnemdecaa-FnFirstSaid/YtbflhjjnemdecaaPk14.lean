/-
  Parts of a proof, joined: Counts, LiveS, Reach. No condition.
-/
import Derived.Test.YtbflhjjnemdecaaPk13
namespace Go.Proofs.Ytbflhjjnemdecaa
set_option linter.unusedVariables false
set_option linter.unusedSimpArgs false
open Go.ChangeShapes Go.WideShapes Go.ChangeAt Go.RowKit Go.Sort
def cntsL (ac : List (List Bool)) (nx : List (List (List Int))) (k : Nat) : List (List Int) := (List.range k).map (cntN ac nx)
theorem cntsL_length (ac : List (List Bool)) (nx : List (List (List Int))) (k : Nat) : (cntsL ac nx k).length = k := by simp [cntsL]
theorem cntsL_at {ac : List (List Bool)} {nx : List (List (List Int))} {k i : Nat} (h : i < k) : (cntsL ac nx k)[i]? = some (cntN ac nx i) := by simp [cntsL, h]
theorem cntsL_succ (ac : List (List Bool)) (nx : List (List (List Int))) (k : Nat) : cntsL ac nx (k + 1) = cntsL ac nx k ++ [cntN ac nx k] := by simp [cntsL, List.range_succ]
theorem App.iid {W w : World} {t : TypeId} {xss : List (List Int)} {n : Nat} {v : Value} (h : App W w t 1 n (xss.map intsD) v) (hn : xss.length = n) : Rd w (nestD intsD xss) v := by
 subst hn
 exact h.rd
theorem App.freshN {α : Type} {f : α → D} {W w : World} {t : TypeId} {xs : List α} {n : Nat} {v : Value} (h : App W w t 1 n (xs.map f) v) (hn : xs.length = n) : Fresh W w (nestD f xs) v := by
 subst hn
 exact h.fresh
theorem App.sized {W w : World} {t : TypeId} {ds ds' : List D} {n n' : Nat} {v : Value} (h : App W w t 1 n ds v) (hd : ds = ds') (hn : n = n') : App W w t 1 n' ds' v := by
 subst hd hn
 exact h
set_option maxRecDepth 100000 in
set_option maxHeartbeats 16000000 in
theorem l02Counts_i {t a : Int} {ac : List (List Bool)} {nx : List (List (List Int))} {s u : Option Addr} {c d b o n : Nat} {w0 : World} (h : AutAt w0 b o t a ac nx s u c d) (hok : AutOk t a ac nx) (hn : n ≤ 10) :
  Calls Try.prog 86 #[.pointer (some ⟨b, o, none⟩), .int .i64 n] w0 fun e w' => ∃ s' c', e = .returned (.slice s' (n + 1) c') ∧ Fresh w0 w' (nestD intsD (cntsL ac nx (n + 1))) (.slice s' (n + 1) c') ∧ Below w0.heap.size w0 w' := by
 have g4 := h.2.2.2.2.1
 have g5 := h.2.2.2.2.2
 obtain ⟨hlen, hcap⟩ := nest_bd g4
 obtain ⟨hlen', hcap'⟩ := nest_bd g5
 unfold maxLen at hcap hcap'
 have hn1 := hok.lo
 have hn2 := hok.hi
 have hnl := Lib.hid hok.len
 have Hok := Lib.hid hok
 have Hh := Lib.hid h
 have h0 := App.empty (W := w0) (size := 1) (Blk.made w0 27 #[]) (Nat.le_refl _)
 clear hok h
 go_enter Try.func86, Try.ntmps86
 go_wp2_with fail
 go_loopw [5, 6] (fun v i wr => ∃ k : Nat, k ≤ n + 1 ∧ i = .int .i64 k ∧ App w0 wr 27 1 k ((cntsL ac nx k).map intsD) v ∧ Below w0.heap.size w0 wr) (fun _ i _ => n + 1 - (intOf i).toNat)
 case atStart => exact ⟨0, by omega, rfl, by simpa [cntsL] using h0, by (repeat' first | exact Below.refl _ _ | assumption | apply Below.alloc | apply Below.drew | apply Below.setCell | omega | (simp; done) | (simp; omega))⟩
 case round =>
  clear h0
  obtain ⟨k, hk, rfl, happ, hB⟩ := hrel
  have szB := hB.size
  obtain ⟨a', cap', rfl, hcap1, hcap2⟩ := happ.shape
  unfold maxLen at hcap2
  by_cases hkn : k ≤ n
  rotate_left
  ·
   obtain rfl : k = n + 1 := by omega
   have hf := happ.freshN (cntsL_length ac nx (n + 1))
   go_wp2_with fail
   go_ret
   exact ⟨a', cap', rfl, hf, hB⟩
  obtain ⟨wo, rfl⟩ : ∃ v, v = wr := ⟨_, rfl⟩
  have h1 := App.empty (W := wo) (size := 1) (Blk.made wo 2 #[]) (Nat.le_refl _)
  have hrd := happ.iid (cntsL_length ac nx k)
  have HA := Lib.hid happ
  have HB := Lib.hid hB
  have HR := Lib.hid hrd
  clear happ hB hrd
  go_wp2_with fail
  go_loopw [7, 8] (fun v i w2 => ∃ j : Nat, j ≤ ac.length ∧ i = .int .i64 j ∧ App wo w2 2 1 j (((cntN ac nx k).take j).map D.int) v ∧ Below wo.heap.size wo w2) (fun _ i _ => ac.length - (intOf i).toNat)
  case atStart => exact ⟨0, by omega, rfl, by simpa using h1, by (repeat' first | exact Below.refl _ _ | assumption | apply Below.alloc | apply Below.drew | apply Below.setCell | omega | (simp; done) | (simp; omega))⟩
  case round =>
   clear h1
   obtain ⟨j, hj, rfl, happ1, hB2⟩ := hrel
   obtain ⟨w2, rfl⟩ : ∃ v, v = wr := ⟨_, rfl⟩
   have hz2 := hB2.size
   obtain ⟨a1, cap1, rfl, hcap3, hcap4⟩ := happ1.shape
   unfold maxLen at hcap4
   have HA1 := Lib.hid happ1
   have HB2 := Lib.hid hB2
   have HBw := Lib.hid (HB.out.trans (hB2.mono szB))
   clear happ1 hB2
   by_cases hlt : j < ac.length
   rotate_left
   ·
    obtain rfl : j = ac.length := by omega
    have happ1 := HA1.out
    have HC := Lib.hid (cntsL_succ ac nx k)
    have HL := Lib.hid (cntN_length Hok.out k)
    have hf : Freshs wo w2 [intsD (cntN ac nx k)] [.slice a1 ac.length cap1] := Freshs.one (by
     have h1 := happ1
     rw [← HL.out, List.take_length] at h1
     rw [← HL.out]
     exact h1.freshN rfl)
    have hf2 := hf.on (Below.alloc (Below.refl _ _) (Nat.le_refl _) (.cells #[.slice a1 ac.length cap1] 27))
    have happ := HA.out
    obtain ⟨c0, c1', c2', c3', -, -⟩ := Hh.out.below HBw.out
    clear happ1 hf
    go_wp2_with (at_builtin; refine wpList_append_app _ rfl _ _ 113 rfl 27 (.slice none 0 0) 1 24 Try.underlying113 info_int64s rfl (by decide) _ rfl happ (HB2.out.alloc hz2 _) szB ⟨w2.heap.size, 0, none⟩ 1 1 [.slice a1 ac.length cap1] rfl (news_blk (Blk.made _ _ _)) hf2 rfl (by simp [Value.oneCell']) (by omega) (by omega) (by unfold maxLen; omega) ?_; intro g cap3 w3 happ3 hb3)
    have hB3 : Below w0.heap.size w0 w3 := (HBw.out.alloc (by omega) _).trans hb3
    have Hfin := Lib.hid (And.intro (happ3.sized (show _ = ((cntsL ac nx (k + 1)).map intsD) by rw [HC.out, List.map_append]; rfl) rfl) hB3)
    clear happ3 hb3 hB3 happ hf2
    go_wp2_with fail
    go_roundw
    case rel => exact ⟨k + 1, by omega, by go_num, Hfin.out.1, Hfin.out.2⟩
    case measure => simp [intOf]; omega
   obtain ⟨ar, har⟩ : ∃ e, ac[j]? = some e := ⟨_, List.getElem?_eq_getElem hlt⟩
   obtain ⟨nr, hnr⟩ : ∃ e, nx[j]? = some e := ⟨_, List.getElem?_eq_getElem (by have := hnl.out; omega)⟩
   obtain ⟨sb, so, rfl⟩ := nest_some (f := boolsD) g4 (by omega)
   obtain ⟨ub, uo, rfl⟩ := nest_some (f := iiD) g5 (by have := hnl.out; omega)
   obtain ⟨hsl, sa, ca, a0, ra⟩ := nest_sl (g := D.bool) (g4.below HBw.out) har
   obtain ⟨hul, sn, cn, b0, rb⟩ := nest_sl (g := intsD) (g5.below HBw.out) hnr
   obtain ⟨ra1, ra2⟩ := nest_bd ra
   obtain ⟨rb1, rb2⟩ := nest_bd rb
   unfold maxLen at ra2 rb2
   have hal : ar.length ≤ nr.length ∧ nr.length ≤ ar.length := by
    have h1 := Hok.out.acc_row har
    have h2 := (Hok.out.row hnr).1
    omega
   have hjz := Int.natCast_nonneg j
   have hjb : (j : Int) < (ac.length : Int) := by omega
   have hjc : (j : Int) < (nx.length : Int) := by have := hnl.out; omega
   obtain ⟨c0, c1', c2', c3', -, -⟩ := Hh.out.below HBw.out
   have hrec := HR.out.below HB2.out
   by_cases hk0 : k = 0
   ·
    have hq : (cntN ac nx k)[j]? = some (cnt0 ar) := by rw [hk0]; exact cntN_zero_at har
    have e0 : ((k : Int) == 0) = true := by simp [hk0]
    have e1 : decide ((0 : Int) < (k : Int)) = false := by simp [hk0]
    have e2 : decide (0 < k) = false := by simp [hk0]
    clear hk0
    have hbd := fun l => cnt0_bd Hok.out har l
    have Hbd := Lib.hid hbd
    have Hq := Lib.hid hq
    have Har := Lib.hid har
    have Hnr := Lib.hid hnr
    clear hbd hq har hnr
    go_wp2_with fail
    go_loop [9, 10] (fun q i => ∃ l : Nat, l ≤ ar.length ∧ i = .int .i64 l ∧ q = .int .i64 (cnt0 (ar.take l))) (fun _ i => ar.length - (intOf i).toNat)
    case atStart => exact ⟨0, by omega, rfl, by simp [cnt0, sumI]⟩
    case round =>
     obtain ⟨l, hl, rfl, rfl⟩ := hrel
     by_cases hll : l < ar.length
     rotate_left
     ·
      obtain rfl : l = ar.length := by omega
      obtain ⟨q, hqe⟩ : ∃ q, q = cnt0 ar := ⟨_, rfl⟩
      rw [List.take_length, ← hqe]
      have hq' := Hq.out
      rw [← hqe] at hq'
      have Hq := Lib.hid hq'
      clear hqe hq'
      have happ1 := HA1.out
      have Hst : Hid ((cntN ac nx k).take (j + 1) = (cntN ac nx k).take j ++ [q]) := by
       show _ = _
       obtain ⟨h1, h2⟩ := List.getElem?_eq_some_iff.1 Hq.out
       rw [List.take_succ_eq_append_getElem h1, h2]
      go_wp2_with (at_builtin; refine wpList_append_app _ rfl _ _ 27 rfl 2 (.int .i64 0) 1 8 Try.underlying27 info_int64 rfl (by decide) _ rfl happ1 (Below.alloc (Below.refl _ _) (Nat.le_refl _) _) hz2 ⟨w2.heap.size, 0, none⟩ 1 1 [.int .i64 q] rfl (news_blk (Blk.made _ _ _)) (Freshs.int q) rfl (by simp [Value.oneCell']) (by omega) (by omega) (by unfold maxLen; omega) ?_; intro g cap3 w3 happ3 hb3)
      have hB3 : Below wo.heap.size wo w3 := (HB2.out.alloc hz2 _).trans hb3
      have Hfin := Lib.hid (And.intro (happ3.sized (show _ = (((cntN ac nx k).take (j + 1)).map D.int) by rw [Hst.out, List.map_append]; rfl) rfl) hB3)
      clear happ1 happ3 hb3 hB3
      go_wp2_with fail
      go_roundw
      case rel => exact ⟨j + 1, by omega, by go_num, Hfin.out.1, Hfin.out.2⟩
      case measure => simp [intOf]; omega
     obtain ⟨z, hz⟩ : ∃ e, ar[l]? = some e := ⟨_, List.getElem?_eq_getElem hll⟩
     obtain ⟨rb', ro, rfl⟩ := nest_some (f := D.bool) ra (by omega)
     obtain ⟨-, z0⟩ := bool_in ra hz
     have hlz := Int.natCast_nonneg l
     have hlb : (l : Int) < (ar.length : Int) := by omega
     obtain ⟨k1, k2⟩ := Hbd.out l
     have Hs := Lib.hid (cnt0_succ hz)
     clear hz
     cases z
     all_goals
      go_wp2_with fail
      go_loop [9, 11] (fun q i => i = .int .i64 0 ∧ q = .int .i64 (cnt0 (ar.take (l + 1)))) (fun _ _ => 0)
      case atStart => exact ⟨rfl, by rw [Hs.out]; simp⟩
      case round =>
       obtain ⟨rfl, rfl⟩ := hrel
       go_wp2_with fail
       go_round
       case rel => exact ⟨l + 1, by omega, by go_num, rfl⟩
       case measure => simp [intOf]; omega
   ·
    obtain ⟨m0, hm0⟩ : ∃ m, k = m + 1 := ⟨k - 1, by omega⟩
    have hrow : (cntN ac nx k)[j]? = some (cntRows (cntN ac nx m0) nr) := by rw [hm0]; exact cntN_at hnr
    have e0 : ((k : Int) == 0) = false := by simp [hk0]
    have e1 : decide ((0 : Int) < (k : Int)) = true := by simp; omega
    have e2 : decide (0 < k) = true := by simp; omega
    have hmk : m0 < k := by omega
    have hm10 : m0 + 1 ≤ 10 := by omega
    have hbd := fun (i l : Nat) (row : List Int) (hi : nr[i]? = some row) => cnt_round Hok.out hm10 hnr hi l
    have hce := fun (i l : Nat) (row : List Int) (z : Int) (hi : nr[i]? = some row) (hl : row[l]? = some z) => cnt_cell Hok.out hm10 hnr hi hl
    obtain ⟨pb, po, rfl⟩ := nest_some hrec (by rw [cntsL_length]; omega)
    obtain ⟨hpl, sp, cp, p0, rp⟩ := nest_sl (g := D.int) hrec (cntsL_at (ac := ac) (nx := nx) hmk)
    have hpn := cntN_length Hok.out m0
    obtain ⟨sp', so', rfl⟩ := nest_some (f := D.int) rp (by omega)
    obtain ⟨rp1, rp2⟩ := nest_bd rp
    unfold maxLen at rp2
    have Hbd := Lib.hid hbd
    have Hce := Lib.hid hce
    have Hq := Lib.hid hrow
    have Hpn := Lib.hid hpn
    have hpn1 : (cntN ac nx m0).length ≤ ac.length := by omega
    have hpn2 : ac.length ≤ (cntN ac nx m0).length := by omega
    have q1 : IntKind.i64.wrap ((k : Int) - 1) = (m0 : Int) := by rw [show (k : Int) - 1 = (m0 : Int) by omega]; exact wrap_of (by omega) (by omega)
    have hm0z := Int.natCast_nonneg m0
    have hm0k : (m0 : Int) < (k : Int) := by omega
    clear hbd hce hrow har hnr hpn hm0 hk0
    go_wp2_with fail
    go_loop [9, 10] (fun q i => ∃ (l : Nat) (S : Int), l ≤ ar.length ∧ i = .int .i64 l ∧ q = .int .i64 S ∧ Hid (S = cntRows (cntN ac nx m0) (nr.take l))) (fun _ i => ar.length - (intOf i).toNat)
    case atStart => exact ⟨0, _, by omega, rfl, rfl, by show (0 : Int) = _; simp [cntRows, sumI]⟩
    case round =>
     obtain ⟨l, S, hl, rfl, rfl, HS⟩ := hrel
     by_cases hll : l < ar.length
     rotate_left
     ·
      obtain rfl : l = ar.length := by omega
      have hq : (cntN ac nx k)[j]? = some S := by
       have := HS.out
       rw [show ar.length = nr.length by omega, List.take_length] at this
       rw [this]
       exact Hq.out
      have Hq := Lib.hid hq
      clear hq
      obtain ⟨q, rfl⟩ : ∃ q, q = S := ⟨_, rfl⟩
      have happ1 := HA1.out
      have Hst : Hid ((cntN ac nx k).take (j + 1) = (cntN ac nx k).take j ++ [q]) := by
       show _ = _
       obtain ⟨h1, h2⟩ := List.getElem?_eq_some_iff.1 Hq.out
       rw [List.take_succ_eq_append_getElem h1, h2]
      go_wp2_with (at_builtin; refine wpList_append_app _ rfl _ _ 27 rfl 2 (.int .i64 0) 1 8 Try.underlying27 info_int64 rfl (by decide) _ rfl happ1 (Below.alloc (Below.refl _ _) (Nat.le_refl _) _) hz2 ⟨w2.heap.size, 0, none⟩ 1 1 [.int .i64 q] rfl (news_blk (Blk.made _ _ _)) (Freshs.int q) rfl (by simp [Value.oneCell']) (by omega) (by omega) (by unfold maxLen; omega) ?_; intro g cap3 w3 happ3 hb3)
      have hB3 : Below wo.heap.size wo w3 := (HB2.out.alloc hz2 _).trans hb3
      have Hfin := Lib.hid (And.intro (happ3.sized (show _ = (((cntN ac nx k).take (j + 1)).map D.int) by rw [Hst.out, List.map_append]; rfl) rfl) hB3)
      clear happ1 happ3 hb3 hB3
      go_wp2_with fail
      go_roundw
      case rel => exact ⟨j + 1, by omega, by go_num, Hfin.out.1, Hfin.out.2⟩
      case measure => simp [intOf]; omega
     have hln : l < nr.length := by omega
     obtain ⟨row, hrow⟩ : ∃ e, nr[l]? = some e := ⟨_, List.getElem?_eq_getElem hln⟩
     obtain ⟨vb, vo, rfl⟩ := nest_some (f := intsD) rb (by omega)
     obtain ⟨-, sr, cr, r0, rr⟩ := nest_sl (g := D.int) rb hrow
     obtain ⟨rr1, rr2⟩ := nest_bd rr
     unfold maxLen at rr2
     have hlz := Int.natCast_nonneg l
     have hlb : (l : Int) < (ar.length : Int) := by omega
     have hlc : (l : Int) < (nr.length : Int) := by omega
     have Hrow := Lib.hid hrow
     have Hs := Lib.hid (cntRows_succ (c := cntN ac nx m0) hrow)
     clear hrow
     go_wp2_with fail
     go_loop [9, 11] (fun q i => ∃ (m : Nat) (T : Int), m ≤ row.length ∧ i = .int .i64 m ∧ q = .int .i64 T ∧ Hid (T = cntRows (cntN ac nx m0) (nr.take l) + cntRow (cntN ac nx m0) (row.take m))) (fun _ i => row.length - (intOf i).toNat)
     case atStart => exact ⟨0, _, by omega, rfl, rfl, by show _ = _; rw [HS.out]; simp [cntRow, sumI]⟩
     case round =>
      obtain ⟨m, T, hm, rfl, rfl, HT⟩ := hrel
      by_cases hml : m < row.length
      rotate_left
      ·
       obtain rfl : m = row.length := by omega
       have HT2 : Hid (T = cntRows (cntN ac nx m0) (nr.take (l + 1))) := by show _ = _; rw [HT.out, List.take_length, Hs.out]
       go_wp2_with fail
       go_round
       case rel => exact ⟨l + 1, T, by omega, by go_num, rfl, HT2⟩
       case measure => simp [intOf]; omega
      obtain ⟨z, hz⟩ : ∃ e, row[m]? = some e := ⟨_, List.getElem?_eq_getElem hml⟩
      obtain ⟨tb, to', rfl⟩ := nest_some (f := D.int) rr (by omega)
      obtain ⟨-, z0⟩ := int_in rr hz
      have hmz := Int.natCast_nonneg m
      have hmb : (m : Int) < (row.length : Int) := by omega
      obtain ⟨t1, t2⟩ := Hbd.out l m row Hrow.out
      rw [← HT.out] at t1 t2
      obtain ⟨z1, z2, z3, z4⟩ := Hce.out l m row z Hrow.out hz
      clear hz
      by_cases hneg : z < 0
      ·
       have HT2 : Hid (T = cntRows (cntN ac nx m0) (nr.take l) + cntRow (cntN ac nx m0) (row.take (m + 1))) := by show _ = _; rw [HT.out, z4 hneg]
       clear z3 z4
       go_wp2_with fail
       go_round
       case rel => exact ⟨m + 1, T, by omega, by go_num, rfl, HT2⟩
       case measure => simp [intOf]; omega
      ·
       obtain ⟨zn, rfl⟩ : ∃ zn : Nat, z = (zn : Int) := ⟨z.toNat, by omega⟩
       obtain ⟨v, hv, v1, v2, v3⟩ := z3 (by omega)
       rw [Int.toNat_natCast] at hv
       obtain ⟨-, x0⟩ := int_in rp hv
       have HT2 : Hid (T + v = cntRows (cntN ac nx m0) (nr.take l) + cntRow (cntN ac nx m0) (row.take (m + 1))) := by show _ = _; rw [HT.out, v3]; omega
       have hzn := Int.natCast_nonneg zn
       have hznb : (zn : Int) < ((cntN ac nx m0).length : Int) := by omega
       clear z3 z4 hv v3
       go_wp2_with fail
       go_round
       case rel => exact ⟨m + 1, T + v, by omega, by go_num, by go_num, HT2⟩
       case measure => simp [intOf]; omega
end Go.Proofs.Ytbflhjjnemdecaa

namespace Go.Proofs.Ytbflhjjnemdecaa
set_option linter.unusedVariables false
set_option linter.unusedSimpArgs false
open Go.ChangeShapes Go.WideShapes Go.ChangeAt Go.RowKit Go.Sort
def lookB (ac : List (List Bool)) (nx : List (List (List Int))) (L : List Bool) (s : Nat) : Bool := (ac.getD s []).any id || (nx.getD s []).any (hitR fun z => L.getD z false)
def lookTo (ar : List Bool) (nr : List (List Int)) (L : List Bool) (j : Nat) : Bool := (ar.take j).any id || (nr.take j).any (hitR fun z => L.getD z false)
def SoundL (ac : List (List Bool)) (nx : List (List (List Int))) (L : List Bool) : Prop := ∀ s : Nat, L[s]? = some true → Live ac nx s
def ClosedTo (ac : List (List Bool)) (nx : List (List (List Int))) (L : List Bool) (n : Nat) : Prop := ∀ s : Nat, s < n → lookB ac nx L s = true → L[s]? = some true
section
variable {ac : List (List Bool)} {nx : List (List (List Int))} {L : List Bool}
theorem look_sound (h : SoundL ac nx L) {s : Nat} (hl : lookB ac nx L s = true) : Live ac nx s := by
 unfold lookB at hl
 rw [Bool.or_eq_true] at hl
 rcases hl with hl | hl
 ·
  exact ⟨0, hl⟩
 ·
  rw [List.any_eq_true] at hl
  obtain ⟨row, hr, hh⟩ := hl
  rw [hitR_true] at hh
  obtain ⟨z, hz, h0, h1⟩ := hh
  have h2 : L[z.toNat]? = some true := by
   rw [List.getD_eq_getElem?_getD] at h1
   cases he : L[z.toNat]? with
   | none => rw [he] at h1; simp at h1
   | some x => rw [he] at h1; simp at h1; rw [h1]
  obtain ⟨n, hn⟩ := h z.toNat h2
  exact ⟨n + 1, accW_succ.2 ⟨row, hr, z, hz, h0, hn⟩⟩
theorem closed_live (h : ClosedTo ac nx L ac.length) (ht : ∀ s row z, row ∈ nx.getD s [] → z ∈ row → z < ac.length) : ∀ n s, s < ac.length → accW ac nx n s = true → L[s]? = some true
 | 0, s, hs, ha => h s hs (by unfold lookB; rw [Bool.or_eq_true]; exact Or.inl ha)
 | n + 1, s, hs, ha => by
  refine h s hs ?_
  obtain ⟨row, hr, z, hz, h0, h1⟩ := accW_succ.1 ha
  have hlt := ht s row z hr hz
  have := closed_live h ht n z.toNat (by omega) h1
  unfold lookB
  rw [Bool.or_eq_true]
  right
  rw [List.any_eq_true]
  refine ⟨row, hr, ?_⟩
  rw [hitR_true]
  exact ⟨z, hz, h0, by rw [List.getD_eq_getElem?_getD, this]; rfl⟩
theorem live_eq (hs : SoundL ac nx L) (hc : ClosedTo ac nx L ac.length) (hl : L.length = ac.length) (ht : ∀ s row z, row ∈ nx.getD s [] → z ∈ row → z < ac.length) : L = liveL ac nx := by
 apply List.ext_getElem?
 intro s
 by_cases h : s < ac.length
 ·
  rw [liveL_at h]
  obtain ⟨x, hx⟩ : ∃ x, L[s]? = some x := ⟨_, List.getElem?_eq_getElem (by omega)⟩
  rw [hx]
  congr 1
  rw [Bool.eq_iff_iff, liveB_true]
  constructor
  ·
   rintro rfl
   exact hs s hx
  ·
   rintro ⟨n, hn⟩
   rw [closed_live hc ht n s h hn] at hx
   exact (Option.some.inj hx).symm
 ·
  rw [List.getElem?_eq_none (by omega), List.getElem?_eq_none (by rw [liveL_len]; omega)]
theorem SoundL.set (h : SoundL ac nx L) {s : Nat} (hs : Live ac nx s) : SoundL ac nx (L.set s true) := by
 intro k hk
 by_cases he : s = k
 ·
  rw [← he]; exact hs
 ·
  rw [List.getElem?_set_ne he] at hk
  exact h k hk
theorem SoundL.start {n : Nat} : SoundL ac nx (List.replicate n false) := by
 intro s hs
 have := List.mem_of_getElem? hs
 simp at this
theorem lookTo_zero {ar : List Bool} {nr : List (List Int)} : lookTo ar nr L 0 = false := by simp [lookTo]
theorem lookTo_all {ar : List Bool} {nr : List (List Int)} {s : Nat} (ha : ac[s]? = some ar) (hn : nx[s]? = some nr) (hl : nr.length = ar.length) : lookTo ar nr L ar.length = lookB ac nx L s := by
 unfold lookTo lookB
 rw [List.take_length, ← hl, List.take_length, List.getD_eq_getElem?_getD, List.getD_eq_getElem?_getD, ha, hn]
 rfl
theorem lookTo_succ {ar : List Bool} {nr : List (List Int)} {j : Nat} {b : Bool} {row : List Int} (ha : ar[j]? = some b) (hn : nr[j]? = some row) : lookTo ar nr L (j + 1) = (lookTo ar nr L j || b || hitR (fun z => L.getD z false) row) := by
 obtain ⟨h1, rfl⟩ := List.getElem?_eq_some_iff.1 ha
 obtain ⟨h2, rfl⟩ := List.getElem?_eq_some_iff.1 hn
 unfold lookTo
 rw [List.take_succ_eq_append_getElem h1, List.take_succ_eq_append_getElem h2, List.any_append, List.any_append]
 simp only [List.any_cons, List.any_nil, Bool.or_false, id]
 cases (ar.take j).any id <;> cases (nr.take j).any (hitR fun z => L.getD z false) <;> cases ar[j] <;> simp
theorem or_step {y B h x : Bool} (e : y = (B || h)) : (y || x) = (B || (h || x)) := by rw [e, Bool.or_assoc]
theorem ClosedTo.succ {n : Nat} (h : ClosedTo ac nx L n) (hs : lookB ac nx L n = true → L[n]? = some true) : ClosedTo ac nx L (n + 1) := fun s hsn hl => by
 by_cases he : s = n
 ·
  rw [he] at hl ⊢; exact hs hl
 ·
  exact h s (by omega) hl
theorem hitR_zero {P : Nat → Bool} {row : List Int} : hitR P (row.take 0) = false := by simp [hitR]
theorem hitR_succ {P : Nat → Bool} {row : List Int} {k : Nat} {z : Int} (hz : row[k]? = some z) : hitR P (row.take (k + 1)) = (hitR P (row.take k) || (decide (0 ≤ z) && P z.toNat)) := by
 obtain ⟨hk, rfl⟩ := List.getElem?_eq_some_iff.1 hz
 unfold hitR
 rw [List.take_succ_eq_append_getElem hk, List.any_append]
 simp
end
def falses (L : List Bool) : Nat := L.countP fun b => !b
theorem falses_set {L : List Bool} {s : Nat} (h : L[s]? = some false) : falses (L.set s true) < falses L := by
 unfold falses
 induction L generalizing s with
 | nil => simp at h
 | cons x r ih =>
  cases s with
  | zero =>
   simp at h
   subst h
   simp
  | succ s =>
   have h' : r[s]? = some false := by simpa using h
   have := ih h'
   simp only [List.set_cons_succ, List.countP_cons]
   omega
def falsesW (w : World) (g : Nat) : Nat :=
 match w.heap[g]? with
 | some (.cells cur _ _) => cur.toList.countP fun v => match v with | .bool b => !b | _ => false
 | _ => 0
theorem falsesW_eq {w : World} {g t : Nat} {L : List Bool} (h : Blk w g t (L.map Value.bool)) : falsesW w g = falses L := by
 unfold falsesW falses
 have h' : w.heap[g]? = some (.cells (L.map Value.bool).toArray t (0, 0)) := h
 rw [h']
 simp only
 rw [List.countP_map]
 rfl
def b2n (v : Value) : Nat := match v with | .bool true => 1 | _ => 0
set_option maxRecDepth 100000 in
set_option maxHeartbeats 16000000 in
theorem l02Live_i {t a : Int} {ac : List (List Bool)} {nx : List (List (List Int))} {s u : Option Addr} {c d b o : Nat} {w0 : World} (h : AutAt w0 b o t a ac nx s u c d) (hok : AutOk t a ac nx) :
  Calls Try.prog 127 #[.pointer (some ⟨b, o, none⟩)] w0 fun e w' => ∃ g, e = .returned (.slice (some ⟨g, 0, none⟩) ac.length ac.length) ∧ Fresh w0 w' (boolsD (liveL ac nx)) (.slice (some ⟨g, 0, none⟩) ac.length ac.length) ∧ Below w0.heap.size w0 w' := by
 have g4 := h.2.2.2.2.1
 have g5 := h.2.2.2.2.2
 obtain ⟨hlen, hcap⟩ := nest_bd g4
 obtain ⟨hlen', hcap'⟩ := nest_bd g5
 unfold maxLen at hcap hcap'
 have hn1 := hok.lo
 have hn2 := hok.hi
 have hnl := Lib.hid hok.len
 have Hok := Lib.hid hok
 have Hh := Lib.hid h
 have HG4 := Lib.hid g4
 have HG5 := Lib.hid g5
 obtain ⟨i0, hi, hz0, hz1, hz2⟩ := info_parts info_bl
 obtain ⟨c0, c1', c2', c3', -, -⟩ := h
 clear hok g4 g5
 go_enter Try.func127, Try.ntmps127
 go_wp2_with (at_make; refine wpList_make_full _ rfl _ _ 114 rfl w0.heap.size 4 i0 (.bool false) 1 Try.underlying114 hi hz0 hz1 .i64 .i64 _ _ ac.length rfl rfl rfl rfl (by rw [hz2]; omega) (by unfold maxLen; omega) (by simp) ?_; intro w1 hown hgrow)
 have hB0 : Below w0.heap.size w0 w1 := Below.grown (Below.refl _ _) hgrow (by simp) (by simp)
 obtain ⟨hb0, -⟩ := made_blk (z := .bool false) rfl hown
 have hb1 : Blk w1 w0.heap.size 4 ((List.replicate ac.length false).map Value.bool) := by simpa using hb0
 have Hst := Lib.hid (And.intro hb1 hB0)
 clear hown hgrow hb0 hb1 hB0 c0 c1' c2' c3'
 go_loopw [4] (fun v wr => ∃ (gr : Bool) (L : List Bool), v = .bool gr ∧ L.length = ac.length ∧ Blk wr w0.heap.size 4 (L.map Value.bool) ∧ Below w0.heap.size w0 wr ∧ SoundL ac nx L ∧ (gr = false → ClosedTo ac nx L ac.length)) (fun v wr => 2 * falsesW wr w0.heap.size + b2n v)
 case atStart => exact ⟨true, _, rfl, by simp, Hst.out.1, Hst.out.2, SoundL.start, fun h => by cases h⟩
 case round =>
  clear Hst
  obtain ⟨gr, L, rfl, hLl, hb, hB, hsd, hcl⟩ := hrel
  obtain ⟨wo, rfl⟩ : ∃ v, v = wr := ⟨_, rfl⟩
  have Hms := Lib.hid (falsesW_eq hb)
  have Hsd := Lib.hid hsd
  have Hcl := Lib.hid hcl
  have Hb := Lib.hid hb
  have HB := Lib.hid hB
  clear hb hB hsd hcl
  cases gr
  ·
   have HL : Hid (L = liveL ac nx) := live_eq Hsd.out (Hcl.out rfl) hLl Hok.out.targets
   have Hfr := Lib.hid (arr_fresh (fd := D.bool) (W := w0) Hb.out (Nat.le_refl _) (fun x => Ow.bool x) hLl (by unfold maxLen; omega))
   go_wp2_with fail
   go_ret
   exact ⟨_, rfl, by have h := Hfr.out; rw [HL.out] at h; exact h, HB.out⟩
  clear Hcl
  go_wp2_with fail
  go_loopw [4, 5] (fun v i wr => ∃ (gr : Bool) (x : Nat) (M : List Bool), v = .bool gr ∧ i = .int .i64 x ∧ x ≤ ac.length ∧ M.length = ac.length ∧ Blk wr w0.heap.size 4 (M.map Value.bool) ∧ Below w0.heap.size w0 wr ∧ SoundL ac nx M ∧ (gr = false → M = L ∧ ClosedTo ac nx L x) ∧ (gr = true → falses M < falses L)) (fun _ i _ => ac.length - (intOf i).toNat)
  case atStart => exact ⟨false, 0, L, rfl, rfl, by omega, hLl, Hb.out, HB.out, Hsd.out, fun _ => ⟨rfl, fun s hs => by omega⟩, fun h => by cases h⟩
  case round =>
   clear Hb HB Hsd
   obtain ⟨gr, x, M, rfl, rfl, hx, hMl, hb, hB, hsd, hno, hyes⟩ := hrel
   obtain ⟨wx, rfl⟩ : ∃ v, v = wr := ⟨_, rfl⟩
   have hx0 := Int.natCast_nonneg x
   have Hsd := Lib.hid hsd
   have Hno := Lib.hid hno
   have Hyes := Lib.hid hyes
   have Hb := Lib.hid hb
   have HB := Lib.hid hB
   have lg := hb.lt
   clear hb hB hsd hno hyes
   by_cases hlt : x < ac.length
   rotate_left
   ·
    obtain rfl : x = ac.length := by omega
    have Hm2 := Lib.hid (falsesW_eq Hb.out)
    go_wp2_with fail
    go_roundw
    case rel => exact ⟨gr, M, rfl, hMl, Hb.out, HB.out, Hsd.out, fun h => by obtain ⟨e1, e2⟩ := Hno.out h; rw [e1]; exact e2⟩
    case measure =>
     rw [Hms.out, Hm2.out]
     cases gr
     ·
      obtain ⟨e1, -⟩ := Hno.out rfl
      rw [e1]
      simp [b2n]
     ·
      have := Hyes.out rfl
      simp [b2n]
      omega
   obtain ⟨ar, har⟩ : ∃ e, ac[x]? = some e := ⟨_, List.getElem?_eq_getElem hlt⟩
   obtain ⟨nr, hnr⟩ : ∃ e, nx[x]? = some e := ⟨_, List.getElem?_eq_getElem (by have := hnl.out; omega)⟩
   obtain ⟨sb, so, rfl⟩ := nest_some (f := boolsD) HG4.out (by omega)
   obtain ⟨ub, uo, rfl⟩ := nest_some (f := iiD) HG5.out (by have := hnl.out; omega)
   obtain ⟨hsl, sa, ca, a0, ra⟩ := nest_sl (g := D.bool) (HG4.out.below HB.out) har
   obtain ⟨hul, sn, cn, b0, rb⟩ := nest_sl (g := intsD) (HG5.out.below HB.out) hnr
   obtain ⟨ra1, ra2⟩ := nest_bd ra
   obtain ⟨rb1, rb2⟩ := nest_bd rb
   unfold maxLen at ra2 rb2
   have hal : nr.length = ar.length := by
    have h1 := Hok.out.acc_row har
    have h2 := (Hok.out.row hnr).1
    omega
   have Hall := Lib.hid (lookTo_all (L := M) har hnr hal)
   have Htg := Lib.hid (fun (l : Nat) (row : List Int) (h : nr[l]? = some row) (z : Int) (hz : z ∈ row) => Hok.out.targets x row z (by rw [List.getD_eq_getElem?_getD, hnr]; exact List.mem_of_getElem? h) hz)
   have hal1 : ar.length ≤ nr.length := by omega
   have hxb : (x : Int) < (ac.length : Int) := by omega
   have hxc : (x : Int) < (nx.length : Int) := by have := hnl.out; omega
   have HL0 : Hid (false = lookTo ar nr M 0) := lookTo_zero.symm
   obtain ⟨c0, c1', c2', c3', -, -⟩ := Hh.out.below HB.out
   clear har hnr hal
   go_wp2_with fail
   go_loop [6, 7] (fun y i => ∃ (j : Nat) (yb : Bool), j ≤ ar.length ∧ i = .int .i64 j ∧ y = .bool yb ∧ Hid (yb = lookTo ar nr M j)) (fun _ i => ar.length - (intOf i).toNat)
   case atStart => exact ⟨0, false, by omega, rfl, rfl, HL0⟩
   case round =>
    clear HL0
    obtain ⟨j, yb, hj, rfl, rfl, HY⟩ := hrel
    have hj0 := Int.natCast_nonneg j
    by_cases hjl : j < ar.length
    rotate_left
    ·
     obtain rfl : j = ar.length := by omega
     have HY2 : Hid (yb = lookB ac nx M x) := by show _ = _; rw [HY.out, Hall.out]
     obtain ⟨mb, hmb⟩ : ∃ e, M[x]? = some e := ⟨_, List.getElem?_eq_getElem (by omega)⟩
     have x0 := arr_cell Hb.out hmb
     have f0 := Hb.out.frozen x
     have HMb := Lib.hid hmb
     clear hmb HY Hall
     cases yb
     ·
      have Hnx : Hid ((gr = false → M = L ∧ ClosedTo ac nx L (x + 1))) := fun h => by
       obtain ⟨e1, e2⟩ := Hno.out h
       refine ⟨e1, e2.succ fun hl => ?_⟩
       have h2 := HY2.out
       rw [e1, hl] at h2
       cases h2
      clear HY2 Hno
      go_wp2_with fail
      go_roundw
      case rel => exact ⟨gr, x + 1, M, rfl, by go_num, by omega, hMl, Hb.out, HB.out, Hsd.out, Hnx.out, Hyes.out⟩
      case measure => simp [intOf]; omega
     ·
      cases mb
      ·
       have Hnx : Hid (falses (M.set x true) < falses L) := by
        show _ < _
        have h1 := falses_set HMb.out
        cases hg : gr with
        | false => have := (Hno.out hg).1; rw [this] at h1 ⊢; exact h1
        | true => have := Hyes.out hg; omega
       have Hs2 := Lib.hid (Hsd.out.set (look_sound Hsd.out HY2.out.symm))
       have Hb2 : Hid (Blk (wx.setCell ⟨w0.heap.size, x, none⟩ (.bool true)) w0.heap.size 4 ((M.set x true).map Value.bool)) := arr_set Hb.out x true
       have HB2 := Lib.hid (Below.setCell (p := ⟨w0.heap.size, x, none⟩) HB.out (Nat.le_refl _) (.bool true))
       have hl2 : (M.set x true).length = ac.length := by simpa using hMl
       clear HY2 Hno Hyes
       go_wp2_with fail
       go_roundw
       case rel => exact ⟨true, x + 1, _, rfl, by go_num, by omega, hl2, Hb2.out, HB2.out, Hs2.out, fun h => (by cases h), fun _ => Hnx.out⟩
       case measure => simp [intOf]; omega
      ·
       have Hnx : Hid ((gr = false → M = L ∧ ClosedTo ac nx L (x + 1))) := fun h => by
        obtain ⟨e1, e2⟩ := Hno.out h
        refine ⟨e1, e2.succ fun hl => ?_⟩
        rw [← e1]
        exact HMb.out
       clear HY2 Hno
       go_wp2_with fail
       go_roundw
       case rel => exact ⟨gr, x + 1, M, rfl, by go_num, by omega, hMl, Hb.out, HB.out, Hsd.out, Hnx.out, Hyes.out⟩
       case measure => simp [intOf]; omega
    obtain ⟨z, hz⟩ : ∃ e, ar[j]? = some e := ⟨_, List.getElem?_eq_getElem hjl⟩
    obtain ⟨row, hrow⟩ : ∃ e, nr[j]? = some e := ⟨_, List.getElem?_eq_getElem (by omega)⟩
    obtain ⟨rb', ro, rfl⟩ := nest_some (f := D.bool) ra (by omega)
    obtain ⟨vb, vo, rfl⟩ := nest_some (f := intsD) rb (by omega)
    obtain ⟨-, z0⟩ := bool_in ra hz
    obtain ⟨-, sr, cr, r0, rr⟩ := nest_sl (g := D.int) rb hrow
    obtain ⟨rr1, rr2⟩ := nest_bd rr
    unfold maxLen at rr2
    have hjb : (j : Int) < (ar.length : Int) := by omega
    have hjc : (j : Int) < (nr.length : Int) := by omega
    have Hsu := Lib.hid (lookTo_succ (L := M) hz hrow)
    have hzr := Lib.hid (Htg.out j row hrow)
    obtain ⟨y2, hy2⟩ : ∃ y2, y2 = (yb || z) := ⟨_, rfl⟩
    have HE : Hid (y2 = (lookTo ar nr M j || z || hitR (fun z => M.getD z false) (row.take 0))) := by show _ = _; rw [hitR_zero, hy2, HY.out]; simp
    have hsp : (yb = true ∧ y2 = true) ∨ (yb = false ∧ z = y2) := by
     cases yb
     ·
      exact Or.inr ⟨rfl, by rw [hy2]; simp⟩
     ·
      exact Or.inl ⟨rfl, by rw [hy2]; simp⟩
    have Hsp := Lib.hid hsp
    clear hz hrow hy2 HY hsp
    rcases Hsp.out with ⟨rfl, rfl⟩ | ⟨rfl, rfl⟩
    all_goals
     clear Hsp
     go_wp2_with fail
     go_loop [6, 8] (fun y i => ∃ (k : Nat) (y3 : Bool), k ≤ row.length ∧ i = .int .i64 k ∧ y = .bool y3 ∧ Hid (y3 = (lookTo ar nr M j || z || hitR (fun z => M.getD z false) (row.take k)))) (fun _ i => row.length - (intOf i).toNat)
     case atStart => exact ⟨0, _, by omega, rfl, rfl, HE⟩
     case round =>
      clear HE
      obtain ⟨k, y3, hk, rfl, rfl, HE⟩ := hrel
      have hk0 := Int.natCast_nonneg k
      by_cases hkl : k < row.length
      rotate_left
      ·
       obtain rfl : k = row.length := by omega
       have HY3 : Hid (y3 = lookTo ar nr M (j + 1)) := by show _ = _; rw [Hsu.out, HE.out, List.take_length]
       clear HE Hsu
       go_wp2_with fail
       go_round
       case rel => exact ⟨j + 1, y3, by omega, by go_num, rfl, HY3⟩
       case measure => simp [intOf]; omega
      obtain ⟨q, hq⟩ : ∃ e, row[k]? = some e := ⟨_, List.getElem?_eq_getElem hkl⟩
      obtain ⟨tb, to', rfl⟩ := nest_some (f := D.int) rr (by omega)
      obtain ⟨-, q0⟩ := int_in rr hq
      have hkb : (k : Int) < (row.length : Int) := by omega
      have hql := hzr.out q (List.mem_of_getElem? hq)
      have Hs2 := Lib.hid (hitR_succ (P := fun z => M.getD z false) hq)
      have Hor := Lib.hid (fun x => or_step (x := x) HE.out)
      clear hq HE
      cases y3
      ·
       by_cases hneg : q < 0
       ·
        have hge : decide ((0 : Int) ≤ q) = false := by simp; omega
        have HE2 : Hid (false = (lookTo ar nr M j || z || hitR (fun z => M.getD z false) (row.take (k + 1)))) := by
         show _ = _
         have h := Hor.out (decide (0 ≤ q) && M.getD q.toNat false)
         rw [Hs2.out, ← h, hge]
         rfl
        clear Hor Hs2
        go_wp2_with fail
        go_round
        case rel => exact ⟨k + 1, false, by omega, by go_num, rfl, HE2⟩
        case measure => simp [intOf]; omega
       ·
        have hge : decide ((0 : Int) ≤ q) = true := by simp; omega
        obtain ⟨qn, rfl⟩ : ∃ qn : Nat, q = (qn : Int) := ⟨q.toNat, by omega⟩
        obtain ⟨v, hv⟩ : ∃ e, M[qn]? = some e := ⟨_, List.getElem?_eq_getElem (by omega)⟩
        have x0 := arr_cell Hb.out hv
        have HE2 : Hid (v = (lookTo ar nr M j || z || hitR (fun z => M.getD z false) (row.take (k + 1)))) := by
         show _ = _
         have h := Hor.out (decide ((0 : Int) ≤ (qn : Int)) && M.getD (qn : Int).toNat false)
         rw [Hs2.out, ← h, hge, Int.toNat_natCast, List.getD_eq_getElem?_getD, hv]
         simp
        have hqn := Int.natCast_nonneg qn
        clear Hor Hs2 hv
        go_wp2_with fail
        go_round
        case rel => exact ⟨k + 1, v, by omega, by go_num, rfl, HE2⟩
        case measure => simp [intOf]; omega
      ·
       have HE2 : Hid (true = (lookTo ar nr M j || z || hitR (fun z => M.getD z false) (row.take (k + 1)))) := by
        show _ = _
        have h := Hor.out (decide (0 ≤ q) && M.getD q.toNat false)
        rw [Hs2.out, ← h]
        simp
       clear Hor Hs2
       go_wp2_with fail
       go_round
       case rel => exact ⟨k + 1, true, by omega, by go_num, rfl, HE2⟩
       case measure => simp [intOf]; omega
end Go.Proofs.Ytbflhjjnemdecaa

namespace Go.Proofs.Ytbflhjjnemdecaa
set_option linter.unusedVariables false
set_option linter.unusedSimpArgs false
open Go.ChangeShapes Go.WideShapes Go.ChangeAt Go.RowKit Go.Sort
def rchL (ac : List (List Bool)) (nx : List (List (List Int))) (k : Nat) : List (List Bool) := (List.range k).map (reachL ac nx)
theorem rchL_length (ac : List (List Bool)) (nx : List (List (List Int))) (k : Nat) : (rchL ac nx k).length = k := by simp [rchL]
theorem rchL_at {ac : List (List Bool)} {nx : List (List (List Int))} {k i : Nat} (h : i < k) : (rchL ac nx k)[i]? = some (reachL ac nx i) := by simp [rchL, h]
theorem rchL_succ (ac : List (List Bool)) (nx : List (List (List Int))) (k : Nat) : rchL ac nx (k + 1) = rchL ac nx k ++ [reachL ac nx k] := by simp [rchL, List.range_succ]
theorem App.bbd {W w : World} {t : TypeId} {xss : List (List Bool)} {n : Nat} {v : Value} (h : App W w t 1 n (xss.map boolsD) v) (hn : xss.length = n) : Rd w (nestD boolsD xss) v := by
 subst hn
 exact h.rd
theorem any_succ {α : Type} {p : α → Bool} {L : List α} {j : Nat} {x : α} (h : L[j]? = some x) : (L.take (j + 1)).any p = ((L.take j).any p || p x) := by
 obtain ⟨h1, rfl⟩ := List.getElem?_eq_some_iff.1 h
 rw [List.take_succ_eq_append_getElem h1, List.any_append]
 simp
theorem accW_zero_at {ac : List (List Bool)} {nx : List (List (List Int))} {s : Nat} {ar : List Bool} (h : ac[s]? = some ar) : accW ac nx 0 s = ar.any id := by
 show (ac.getD s []).any id = _
 rw [List.getD_eq_getElem?_getD, h]
 rfl
theorem accW_succ_at {ac : List (List Bool)} {nx : List (List (List Int))} {n s : Nat} {nr : List (List Int)} (h : nx[s]? = some nr) : accW ac nx (n + 1) s = nr.any (hitR (accW ac nx n)) := by
 show (nx.getD s []).any _ = _
 rw [List.getD_eq_getElem?_getD, h]
 rfl
set_option maxRecDepth 100000 in
set_option maxHeartbeats 16000000 in
theorem l02Reach_i {t a : Int} {ac : List (List Bool)} {nx : List (List (List Int))} {s u : Option Addr} {c d b o n : Nat} {w0 : World} (h : AutAt w0 b o t a ac nx s u c d) (hok : AutOk t a ac nx) (hn : n ≤ 1000) :
  Calls Try.prog 128 #[.pointer (some ⟨b, o, none⟩), .int .i64 n] w0 fun e w' => ∃ s' c', e = .returned (.slice s' (n + 1) c') ∧ Fresh w0 w' (nestD boolsD (rchL ac nx (n + 1))) (.slice s' (n + 1) c') ∧ Below w0.heap.size w0 w' := by
 have g4 := h.2.2.2.2.1
 have g5 := h.2.2.2.2.2
 obtain ⟨hlen, hcap⟩ := nest_bd g4
 obtain ⟨hlen', hcap'⟩ := nest_bd g5
 unfold maxLen at hcap hcap'
 have hn1 := hok.lo
 have hn2 := hok.hi
 have hnl := Lib.hid hok.len
 have Hok := Lib.hid hok
 have Hh := Lib.hid h
 have HG4 := Lib.hid g4
 have HG5 := Lib.hid g5
 obtain ⟨i0, hi, hz0, hz1, hz2'⟩ := info_parts info_bl
 have h0 := App.empty (W := w0) (size := 1) (Blk.made w0 114 #[]) (Nat.le_refl _)
 clear hok h g4 g5
 go_enter Try.func128, Try.ntmps128
 go_wp2_with fail
 go_loopw [5, 6] (fun v i wr => ∃ k : Nat, k ≤ n + 1 ∧ i = .int .i64 k ∧ App w0 wr 114 1 k ((rchL ac nx k).map boolsD) v ∧ Below w0.heap.size w0 wr) (fun _ i _ => n + 1 - (intOf i).toNat)
 case atStart => exact ⟨0, by omega, rfl, by simpa [rchL] using h0, by (repeat' first | exact Below.refl _ _ | assumption | apply Below.alloc | apply Below.drew | apply Below.setCell | omega | (simp; done) | (simp; omega))⟩
 case round =>
  clear h0
  obtain ⟨k, hk, rfl, happ, hB⟩ := hrel
  have szB := hB.size
  obtain ⟨a', cap', rfl, hcap1, hcap2⟩ := happ.shape
  unfold maxLen at hcap2
  have hk0' := Int.natCast_nonneg k
  by_cases hkn : k ≤ n
  rotate_left
  ·
   obtain rfl : k = n + 1 := by omega
   have hf := happ.freshN (rchL_length ac nx (n + 1))
   go_wp2_with fail
   go_ret
   exact ⟨a', cap', rfl, hf, hB⟩
  obtain ⟨wo, rfl⟩ : ∃ v, v = wr := ⟨_, rfl⟩
  have hrd := happ.bbd (rchL_length ac nx k)
  obtain ⟨c0, c1', c2', c3', -, -⟩ := Hh.out.below hB
  have HA := Lib.hid happ
  have HB := Lib.hid hB
  have HR := Lib.hid hrd
  have hkb : (k : Int) ≤ (n : Int) := by omega
  clear happ hB hrd
  go_wp2_with (at_make; refine wpList_make_full _ rfl _ _ 114 rfl wo.heap.size 4 i0 (.bool false) 1 Try.underlying114 hi hz0 hz1 .i64 .i64 _ _ ac.length rfl rfl rfl rfl (by rw [hz2']; omega) (by unfold maxLen; omega) (by simp) ?_; intro w1 hown hgrow)
  have hB1 : Below wo.heap.size wo w1 := Below.grown (Below.refl _ _) hgrow (by simp) (by simp)
  obtain ⟨hb0, -⟩ := made_blk (z := .bool false) rfl hown
  have hb1 : Blk w1 wo.heap.size 4 ((List.replicate ac.length false).map Value.bool) := by simpa using hb0
  have hfill := FillL.start (z := false) (reachL_len (ac := ac) (nx := nx) k)
  have Hst := Lib.hid (And.intro hb1 (And.intro hfill hB1))
  clear hown hgrow hb0 hb1 hB1 hfill c0 c1' c2' c3'
  go_loopw [8] (fun i wr => ∃ (x : Nat) (M : List Bool), x ≤ ac.length ∧ i = .int .i64 x ∧ Blk wr wo.heap.size 4 (M.map Value.bool) ∧ FillL false (reachL ac nx k) x M ∧ Below wo.heap.size wo wr) (fun i _ => ac.length - (intOf i).toNat)
  case atStart => exact ⟨0, _, by omega, rfl, Hst.out⟩
  case round =>
   clear Hst
   obtain ⟨x, M, hx, rfl, hb, hfill, hBx⟩ := hrel
   obtain ⟨wx, rfl⟩ : ∃ v, v = wr := ⟨_, rfl⟩
   have hx0 := Int.natCast_nonneg x
   have szx := hBx.size
   have hMl : M.length = ac.length := by have := hfill.1; rw [reachL_len] at this; exact this
   have Hb := Lib.hid hb
   have HBx := Lib.hid hBx
   by_cases hlt : x < ac.length
   rotate_left
   ·
    obtain rfl : x = ac.length := by omega
    obtain rfl : M = reachL ac nx k := FillL.all (by rw [reachL_len]; exact hfill)
    have HC := Lib.hid (rchL_succ ac nx k)
    have hf : Freshs wo wx [boolsD (reachL ac nx k)] [.slice (some ⟨wo.heap.size, 0, none⟩) ac.length ac.length] := Freshs.one (arr_fresh (fd := D.bool) (W := wo) hb (Nat.le_refl _) (fun x => Ow.bool x) hMl (by unfold maxLen; omega))
    have hf2 := hf.on (Below.alloc (Below.refl _ _) (Nat.le_refl _) (.cells #[.slice (some ⟨wo.heap.size, 0, none⟩) ac.length ac.length] 114))
    have happ := HA.out
    obtain ⟨c0, c1', c2', c3', -, -⟩ := Hh.out.below (HB.out.trans ((hBx).mono szB))
    clear hb hfill hf hBx
    go_wp2_with (at_builtin; go_must (refine wpList_append_app _ rfl _ _ 45 rfl 114 (.slice none 0 0) 1 24 Try.underlying45 info_bls rfl (by decide) _ rfl happ (HBx.out.alloc szx _) szB ⟨wx.heap.size, 0, none⟩ 1 1 [.slice (some ⟨wo.heap.size, 0, none⟩) ac.length ac.length] rfl (news_blk (Blk.made _ _ _)) hf2 rfl (by simp [Value.oneCell']) (by omega) (by omega) (by unfold maxLen; omega) ?_); intro g3 cap3 w3 happ3 hb3)
    have hB3 : Below w0.heap.size w0 w3 := ((HB.out.trans (HBx.out.mono szB)).alloc (by omega) _).trans hb3
    have Hfin := Lib.hid (And.intro (happ3.sized (show _ = ((rchL ac nx (k + 1)).map boolsD) by rw [HC.out, List.map_append]; rfl) rfl) hB3)
    clear happ3 hb3 hB3 happ hf2
    go_wp2_with fail
    go_roundw
    case rel => exact ⟨k + 1, by omega, by go_num, Hfin.out.1, Hfin.out.2⟩
    case measure => simp [intOf]; omega
   obtain ⟨ar, har⟩ : ∃ e, ac[x]? = some e := ⟨_, List.getElem?_eq_getElem hlt⟩
   obtain ⟨nr, hnr⟩ : ∃ e, nx[x]? = some e := ⟨_, List.getElem?_eq_getElem (by have := hnl.out; omega)⟩
   obtain ⟨sb, so, rfl⟩ := nest_some (f := boolsD) HG4.out (by omega)
   obtain ⟨ub, uo, rfl⟩ := nest_some (f := iiD) HG5.out (by have := hnl.out; omega)
   obtain ⟨hsl, sa, ca, a0, ra⟩ := nest_sl (g := D.bool) HG4.out har
   obtain ⟨hul, sn, cn, b0, rb⟩ := nest_sl (g := intsD) HG5.out hnr
   obtain ⟨ra1, ra2⟩ := nest_bd ra
   obtain ⟨rb1, rb2⟩ := nest_bd rb
   unfold maxLen at ra2 rb2
   have hal : nr.length = ar.length := by
    have h1 := Hok.out.acc_row har
    have h2 := (Hok.out.row hnr).1
    omega
   have Htg := Lib.hid (fun (l : Nat) (row : List Int) (h : nr[l]? = some row) (z : Int) (hz : z ∈ row) => Hok.out.targets x row z (by rw [List.getD_eq_getElem?_getD, hnr]; exact List.mem_of_getElem? h) hz)
   have hal1 : ar.length ≤ nr.length := by omega
   have hxb : (x : Int) < (ac.length : Int) := by omega
   have hxc : (x : Int) < (nx.length : Int) := by have := hnl.out; omega
   have hxM : x < M.length := by omega
   have hb' : Blk wx wo.heap.size 4 ((M.set x false).map Value.bool) := by rw [set_zero_same (hfill.at (by rw [reachL_len]; exact hlt))]; exact hb
   have Hb' := Lib.hid hb'
   have Hfill := Lib.hid (fun v h => hfill.step (v := v) h)
   have Hra := Lib.hid ra
   have Hrb := Lib.hid rb
   have Ha0 := Lib.hid a0
   have Hb0 := Lib.hid b0
   have Hrz := Lib.hid (reachL_at (ac := ac) (nx := nx) (n := k) hlt)
   by_cases hk0 : k = 0
   ·
    have e0 : ((k : Int) == 0) = true := by simp [hk0]
    have e1 : decide ((0 : Int) < (k : Int)) = false := by simp [hk0]
    have e2 : decide (0 < k) = false := by simp [hk0]
    have Hlast : Hid ((reachL ac nx k)[x]? = some ((ar.take ar.length).any id)) := by show _ = _; rw [Hrz.out, List.take_length, hk0, accW_zero_at har]
    obtain ⟨c0, c1', c2', c3', -, -⟩ := Hh.out.below (HB.out.trans ((hBx).mono szB))
    clear hb hfill hBx hb' hnr hal ra rb hk0 har
    go_wp2_with fail
    go_loopw [9] (fun i wr => ∃ (j : Nat) (y : Bool), j ≤ ar.length ∧ i = .int .i64 j ∧ Hid (y = (ar.take j).any id) ∧ Blk wr wo.heap.size 4 ((M.set x y).map Value.bool) ∧ Below wo.heap.size wo wr) (fun i _ => ar.length - (intOf i).toNat)
    case atStart => exact ⟨0, false, by omega, rfl, by show _ = _; simp, Hb'.out, HBx.out⟩
    case round =>
     clear c0 c1' c2' c3' a0 b0
     obtain ⟨j, y, hj, rfl, HY, hbj, hBj⟩ := hrel
     obtain ⟨wj, rfl⟩ : ∃ v, v = wr := ⟨_, rfl⟩
     have hj0 := Int.natCast_nonneg j
     have HBj := Lib.hid hBj
     have Hbj := Lib.hid hbj
     have szj := hBj.size
     have lg := hbj.lt
     have x0 := arr_cell hbj (set_at (x := y) (i := x) (by omega))
     have f0 := hbj.frozen x
     have hBw := HB.out.trans (hBj.mono szB)
     have a0 := (hBw.cell (p := ⟨sb, so + x, none⟩) hsl).trans Ha0.out
     have b0 := (hBw.cell (p := ⟨ub, uo + x, none⟩) hul).trans Hb0.out
     by_cases hjl : j < ar.length
     rotate_left
     ·
      obtain rfl : j = ar.length := by omega
      have HF2 := Lib.hid (Hfill.out y (by rw [HY.out]; exact Hlast.out))
      obtain ⟨c0, c1', c2', c3', -, -⟩ := Hh.out.below (HB.out.trans ((hBj).mono szB))
      clear hbj hBj x0 f0 HY hBw
      go_wp2_with fail
      go_roundw
      case rel => exact ⟨x + 1, _, by omega, by go_num, Hbj.out, HF2.out, HBj.out⟩
      case measure => simp [intOf]; omega
     obtain ⟨z, hz⟩ : ∃ e, ar[j]? = some e := ⟨_, List.getElem?_eq_getElem hjl⟩
     obtain ⟨rb', ro, rfl⟩ := nest_some (f := D.bool) Hra.out (by omega)
     obtain ⟨-, z0⟩ := bool_in (Hra.out.below hBw) hz
     have hjb : (j : Int) < (ar.length : Int) := by omega
     have HY2 : Hid ((y || z) = (ar.take (j + 1)).any id) := by show _ = _; rw [any_succ hz, HY.out]; rfl
     have Hnx := Lib.hid (fun v : Bool => And.intro (show Blk (wj.setCell ⟨wo.heap.size, x, none⟩ (.bool v)) wo.heap.size 4 ((M.set x v).map Value.bool) by have h := arr_set hbj x v; rw [set_twice] at h; exact h) (Below.setCell (p := ⟨wo.heap.size, x, none⟩) hBj (Nat.le_refl _) (.bool v)))
     obtain ⟨c0, c1', c2', c3', -, -⟩ := Hh.out.below (HB.out.trans ((hBj).mono szB))
     clear hbj hBj hz hBw HY
     cases y
     all_goals
      go_wp2_with fail
      go_loop [10] (fun i => i = .int .i64 0) (fun _ => 0)
      case atStart => rfl
      case round =>
       obtain rfl := hrel
       go_wp2_with fail
       go_roundw
       case rel => exact ⟨j + 1, _, by omega, by go_num, HY2, (Hnx.out _).1, (Hnx.out _).2⟩
       case measure => simp [intOf]; omega
   ·
    obtain ⟨m0, hm0⟩ : ∃ m, k = m + 1 := ⟨k - 1, by omega⟩
    have e0 : ((k : Int) == 0) = false := by simp [hk0]
    have e1 : decide ((0 : Int) < (k : Int)) = true := by simp; omega
    have e2 : decide (0 < k) = true := by simp; omega
    have hmk : m0 < k := by omega
    obtain ⟨pb, po, rfl⟩ := nest_some HR.out (by rw [rchL_length]; omega)
    obtain ⟨hpl, sp, cp, p0, rp⟩ := nest_sl (g := D.bool) HR.out (rchL_at (ac := ac) (nx := nx) hmk)
    obtain ⟨sp', so', rfl⟩ := nest_some (f := D.bool) rp (by rw [reachL_len]; omega)
    obtain ⟨rp1, rp2⟩ := nest_bd rp
    unfold maxLen at rp2
    rw [reachL_len] at rp1
    have q1 : IntKind.i64.wrap ((k : Int) - 1) = (m0 : Int) := by rw [show (k : Int) - 1 = (m0 : Int) by omega]; exact wrap_of (by omega) (by omega)
    have hm0z := Int.natCast_nonneg m0
    have hm0k : (m0 : Int) < (k : Int) := by omega
    have Hp0 := Lib.hid p0
    have Hrp := Lib.hid rp
    have Hlast : Hid ((reachL ac nx k)[x]? = some ((nr.take ar.length).any (hitR (accW ac nx m0)))) := by show _ = _; rw [Hrz.out, hm0, accW_succ_at hnr, ← hal, List.take_length]
    obtain ⟨c0, c1', c2', c3', -, -⟩ := Hh.out.below (HB.out.trans ((hBx).mono szB))
    clear hb hfill hBx hb' hnr hal ra rb hk0 har hm0 p0 rp
    go_wp2_with fail
    go_loopw [9] (fun i wr => ∃ (j : Nat) (y : Bool), j ≤ ar.length ∧ i = .int .i64 j ∧ Hid (y = (nr.take j).any (hitR (accW ac nx m0))) ∧ Blk wr wo.heap.size 4 ((M.set x y).map Value.bool) ∧ Below wo.heap.size wo wr) (fun i _ => ar.length - (intOf i).toNat)
    case atStart => exact ⟨0, false, by omega, rfl, by show _ = _; simp, Hb'.out, HBx.out⟩
    case round =>
     clear c0 c1' c2' c3' a0 b0
     obtain ⟨j, y, hj, rfl, HY, hbj, hBj⟩ := hrel
     obtain ⟨wj, rfl⟩ : ∃ v, v = wr := ⟨_, rfl⟩
     have hj0 := Int.natCast_nonneg j
     have HBj := Lib.hid hBj
     have Hbj := Lib.hid hbj
     have szj := hBj.size
     have lg := hbj.lt
     have x0 := arr_cell hbj (set_at (x := y) (i := x) (by omega))
     have f0 := hbj.frozen x
     have hBw := HB.out.trans (hBj.mono szB)
     have a0 := (hBw.cell (p := ⟨sb, so + x, none⟩) hsl).trans Ha0.out
     have b0 := (hBw.cell (p := ⟨ub, uo + x, none⟩) hul).trans Hb0.out
     by_cases hjl : j < ar.length
     rotate_left
     ·
      obtain rfl : j = ar.length := by omega
      have HF2 := Lib.hid (Hfill.out y (by rw [HY.out]; exact Hlast.out))
      obtain ⟨c0, c1', c2', c3', -, -⟩ := Hh.out.below (HB.out.trans ((hBj).mono szB))
      clear hbj hBj x0 f0 HY hBw
      go_wp2_with fail
      go_roundw
      case rel => exact ⟨x + 1, _, by omega, by go_num, Hbj.out, HF2.out, HBj.out⟩
      case measure => simp [intOf]; omega
     obtain ⟨row, hrow⟩ : ∃ e, nr[j]? = some e := ⟨_, List.getElem?_eq_getElem (by omega)⟩
     obtain ⟨vb, vo, rfl⟩ := nest_some (f := intsD) Hrb.out (by omega)
     obtain ⟨hvl, sr, cr, r0, rr⟩ := nest_sl (g := D.int) Hrb.out hrow
     obtain ⟨rr1, rr2⟩ := nest_bd rr
     unfold maxLen at rr2
     have Hr0 := Lib.hid r0
     have Hrr := Lib.hid rr
     have hjb : (j : Int) < (ar.length : Int) := by omega
     have hjc : (j : Int) < (nr.length : Int) := by omega
     have hzr := Lib.hid (Htg.out j row hrow)
     have Hsu := Lib.hid (any_succ (p := hitR (accW ac nx m0)) hrow)
     have HE : Hid (y = ((nr.take j).any (hitR (accW ac nx m0)) || hitR (accW ac nx m0) (row.take 0))) := by show _ = _; rw [hitR_zero, HY.out]; simp
     have Hnx := Lib.hid (fun v : Bool => And.intro (show Blk (wj.setCell ⟨wo.heap.size, x, none⟩ (.bool v)) wo.heap.size 4 ((M.set x v).map Value.bool) by have h := arr_set hbj x v; rw [set_twice] at h; exact h) (Below.setCell (p := ⟨wo.heap.size, x, none⟩) hBj (Nat.le_refl _) (.bool v)))
     obtain ⟨c0, c1', c2', c3', -, -⟩ := Hh.out.below (HB.out.trans ((hBj).mono szB))
     clear hbj hBj hrow hBw HY r0 rr
     cases y
     all_goals
      go_wp2_with fail
      go_loopw [10] (fun i wr => ∃ (l : Nat) (y3 : Bool), l ≤ row.length ∧ i = .int .i64 l ∧ Hid (y3 = ((nr.take j).any (hitR (accW ac nx m0)) || hitR (accW ac nx m0) (row.take l))) ∧ Blk wr wo.heap.size 4 ((M.set x y3).map Value.bool) ∧ Below wo.heap.size wo wr) (fun i _ => row.length - (intOf i).toNat)
      case atStart => exact ⟨0, _, by omega, rfl, HE, (Hnx.out _).1, (Hnx.out _).2⟩
      case round =>
       clear c0 c1' c2' c3' a0 b0 HE Hnx x0 f0 lg
       obtain ⟨l, y3, hl, rfl, HE, hbl, hBl⟩ := hrel
       obtain ⟨wl, rfl⟩ : ∃ v, v = wr := ⟨_, rfl⟩
       have hl0 := Int.natCast_nonneg l
       have szl := hBl.size
       have lg := hbl.lt
       have x0 := arr_cell hbl (set_at (x := y3) (i := x) (by omega))
       have f0 := hbl.frozen x
       have hBw := HB.out.trans (hBl.mono szB)
       have b0 := (hBw.cell (p := ⟨ub, uo + x, none⟩) hul).trans Hb0.out
       have r0 := (hBw.cell (p := ⟨vb, vo + j, none⟩) hvl).trans Hr0.out
       obtain ⟨c0, c1', c2', c3', -, -⟩ := Hh.out.below (HB.out.trans ((hBl).mono szB))
       have HBl := Lib.hid hBl
       have Hbl := Lib.hid hbl
       by_cases hll : l < row.length
       rotate_left
       ·
        obtain rfl : l = row.length := by omega
        have HY2 : Hid (y3 = (nr.take (j + 1)).any (hitR (accW ac nx m0))) := by show _ = _; rw [Hsu.out, HE.out, List.take_length]
        clear hbl hBl hBw HE
        go_wp2_with fail
        go_roundw
        case rel => exact ⟨j + 1, y3, by omega, by go_num, HY2, Hbl.out, HBl.out⟩
        case measure => simp [intOf]; omega
       obtain ⟨q, hq⟩ : ∃ e, row[l]? = some e := ⟨_, List.getElem?_eq_getElem hll⟩
       obtain ⟨tb, to', rfl⟩ := nest_some (f := D.int) Hrr.out (by omega)
       obtain ⟨-, q0⟩ := int_in (Hrr.out.below hBw) hq
       have p0 := (hBl.cell (p := ⟨pb, po + m0, none⟩) hpl).trans Hp0.out
       have hlb : (l : Int) < (row.length : Int) := by omega
       have hql := hzr.out q (List.mem_of_getElem? hq)
       have Hs2 := Lib.hid (hitR_succ (P := accW ac nx m0) hq)
       have Hor := Lib.hid (fun x => or_step (x := x) HE.out)
       have Hnx := Lib.hid (fun v : Bool => And.intro (show Blk (wl.setCell ⟨wo.heap.size, x, none⟩ (.bool v)) wo.heap.size 4 ((M.set x v).map Value.bool) by have h := arr_set hbl x v; rw [set_twice] at h; exact h) (Below.setCell (p := ⟨wo.heap.size, x, none⟩) hBl (Nat.le_refl _) (.bool v)))
       have hrp := Hrp.out.below hBl
       have Hrpl := Lib.hid hrp
       clear hq HE hbl hBl hBw hrp
       cases y3
       ·
        by_cases hneg : q < 0
        ·
         have hge : decide ((0 : Int) ≤ q) = false := by simp; omega
         have HE2 : Hid (false = ((nr.take j).any (hitR (accW ac nx m0)) || hitR (accW ac nx m0) (row.take (l + 1)))) := by
          show _ = _
          have h := Hor.out (decide (0 ≤ q) && accW ac nx m0 q.toNat)
          rw [Hs2.out, ← h, hge]
          rfl
         clear Hor Hs2
         go_wp2_with fail
         go_roundw
         case rel => exact ⟨l + 1, false, by omega, by go_num, HE2, (Hnx.out _).1, (Hnx.out _).2⟩
         case measure => simp [intOf]; omega
        ·
         have hge : decide ((0 : Int) ≤ q) = true := by simp; omega
         obtain ⟨qn, rfl⟩ : ∃ qn : Nat, q = (qn : Int) := ⟨q.toNat, by omega⟩
         obtain ⟨v, hv⟩ : ∃ v, accW ac nx m0 qn = v := ⟨_, rfl⟩
         have hvr := reachL_at (ac := ac) (nx := nx) (n := m0) (s := qn) (by omega)
         rw [hv] at hvr
         obtain ⟨-, y0⟩ := bool_in Hrpl.out hvr
         have HE2 : Hid (v = ((nr.take j).any (hitR (accW ac nx m0)) || hitR (accW ac nx m0) (row.take (l + 1)))) := by
          show _ = _
          have h := Hor.out (decide ((0 : Int) ≤ (qn : Int)) && accW ac nx m0 (qn : Int).toNat)
          rw [Hs2.out, ← h, hge, Int.toNat_natCast, hv]
          simp
         have hqn := Int.natCast_nonneg qn
         have hqb : (qn : Int) < ((reachL ac nx m0).length : Int) := by rw [reachL_len]; omega
         clear Hor Hs2 hv hvr
         go_wp2_with fail
         go_roundw
         case rel => exact ⟨l + 1, v, by omega, by go_num, HE2, (Hnx.out _).1, (Hnx.out _).2⟩
         case measure => simp [intOf]; omega
       ·
        have HE2 : Hid (true = ((nr.take j).any (hitR (accW ac nx m0)) || hitR (accW ac nx m0) (row.take (l + 1)))) := by
         show _ = _
         have h := Hor.out (decide (0 ≤ q) && accW ac nx m0 q.toNat)
         rw [Hs2.out, ← h]
         simp
        clear Hor Hs2
        go_wp2_with fail
        go_roundw
        case rel => exact ⟨l + 1, true, by omega, by go_num, HE2, (Hnx.out _).1, (Hnx.out _).2⟩
        case measure => simp [intOf]; omega
end Go.Proofs.Ytbflhjjnemdecaa
