/-
  Parts of a proof, joined: FstI. No condition.
-/
import Derived.Test.YtbflhjjnemdecaaPk15
import Derived.Test.YtbflhjjnemdecaaPk16
namespace Go.Proofs.Ytbflhjjnemdecaa
set_option linter.unusedVariables false
set_option linter.unusedSimpArgs false
open Go.ChangeShapes Go.WideShapes Go.ChangeAt Go.RowKit Go.Deep Go.Sort
set_option maxHeartbeats 8000000 in
theorem firstStep_i {t a : Int} {ac : List (List Bool)} {nx : List (List (List Int))} {s u q : Option Addr} {c d e x n : Nat} {nr : List (List Int)} {w : World} (hr : Rd w (bbD ac) (.slice s ac.length c)) (hq : Rd w (iiiD nx) (.slice u nx.length d)) (hok : AutOk t a ac nx) (hL : Rd w (intsD (farL ac nx (ac.length - 1))) (.slice q ac.length e))
  (hx : x < ac.length) (hnr : nx[x]? = some nr) (hh : nr.any (hitR fun s => farV ac nx (ac.length - 1) s == (n : Int)) = true) :
  Calls Try.prog 148 #[.agg #[.int .i64 t, .int .i64 a, .slice s ac.length c, .slice u nx.length d], .int .i64 x, .slice q ac.length e, .int .i64 n] w fun f w' => ∃ j l : Nat, f = .returned (.tuple #[.int .i64 j, .int .i64 l]) ∧ (∃ z, ChO (fun s => farV ac nx (ac.length - 1) s == (n : Int)) nr j l z) ∧ Below w.heap.size w w' := by
 obtain ⟨hlen', hcap'⟩ := nest_bd hq
 obtain ⟨-, hL1, hL2, -⟩ := hL.sl_at
 rw [farL_len] at hL1
 unfold maxLen at hcap' hL2
 have hnl := hok.len
 have hhi := hok.hi
 have Hnx := Lib.hid hnl
 obtain ⟨ht0, ht3, -, -⟩ := sigB_bd hok.sig
 obtain ⟨hat1, hat8⟩ := atomsN_bd t
 have hnrl := (hok.row hnr).1
 have Htg := Lib.hid (fun (l : Nat) (row : List Int) (h : nr[l]? = some row) (z : Int) (hz : z ∈ row) => hok.targets x row z (by rw [List.getD_eq_getElem?_getD, hnr]; exact List.mem_of_getElem? h) hz)
 obtain ⟨ub, uo, rfl⟩ := nest_some (f := iiD) hq (by omega)
 obtain ⟨hul, sn, cn, b0, rb⟩ := nest_sl (g := intsD) hq hnr
 obtain ⟨lb, lo, rfl⟩ := int_some hL (by rw [farL_len]; omega)
 obtain ⟨rb1, rb2⟩ := nest_bd rb
 unfold maxLen at rb2
 have hx0 := Int.natCast_nonneg x
 have hxc : (x : Int) < (nx.length : Int) := by omega
 have L := Blk.new4 w 51 (.int .i64 t) (.int .i64 a) (.slice s ac.length c) (.slice (some ⟨ub, uo, none⟩) nx.length d)
 have Hb0 := Lib.hid b0
 have Hrb := Lib.hid rb
 have HL := Lib.hid hL
 have Hhh := Lib.hid hh
 have Hnrl := Lib.hid hnrl
 have HI := Lib.hid (show 0 ≤ x from Nat.zero_le x)
 obtain ⟨l0, l1, l2, l3, -, -, -, -, ltL⟩ := L.all4
 clear b0 rb hL hh hnr hok hq hr hnrl
 go_enter Try.func148, Try.ntmps148
 go_wp2_with fail
 refine (atomsIn_i ht0 ht3).mono ?_
 rintro f w1 ⟨rfl, hb1⟩
 have HBw := Lib.hid (Below.on (a := w) (B := w.heap.size) (by (repeat' first | exact Below.refl _ _ | assumption | apply Below.alloc | apply Below.drew | apply Below.setCell | omega | (simp; done) | (simp; omega))) hb1 (by simp))
 rw [hnl] at L
 have HLb := Lib.hid (L.below hb1)
 clear hb1 L l0 l1 l2 l3 ltL
 rw [← Hnrl.out]
 go_wp2_with fail
 go_loopw [16] (fun i wr => ∃ j : Nat, j ≤ nr.length ∧ i = .int .i64 j ∧ Hid ((nr.take j).any (hitR fun s => farV ac nx (ac.length - 1) s == (n : Int)) = false) ∧ Below w1.heap.size w1 wr) (fun i _ => nr.length - (intOf i).toNat)
 case atStart => exact ⟨0, by omega, rfl, by show _ = _; rfl, Below.refl _ _⟩
 case round =>
  obtain ⟨j, hj, rfl, HJ, hB⟩ := hrel
  obtain ⟨wo, rfl⟩ : ∃ v, v = wr := ⟨_, rfl⟩
  have hj0 := Int.natCast_nonneg j
  have HB := Lib.hid hB
  by_cases hjl : j < nr.length
  rotate_left
  ·
   have := any_take_all HJ.out (by omega)
   rw [Hhh.out] at this
   cases this
  obtain ⟨row, hrow⟩ : ∃ e, nr[j]? = some e := ⟨_, List.getElem?_eq_getElem hjl⟩
  obtain ⟨vb, vo, rfl⟩ := nest_some (f := intsD) Hrb.out (by omega)
  obtain ⟨hvl, sr, cr, r0, rr⟩ := nest_sl (g := D.int) Hrb.out hrow
  obtain ⟨rr1, rr2⟩ := nest_bd rr
  unfold maxLen at rr2
  have Hr0 := Lib.hid r0
  have Hrr := Lib.hid rr
  have hjb : (j : Int) < (nr.length : Int) := by omega
  have Hrow := Lib.hid hrow
  have hzr := Lib.hid (Htg.out j row hrow)
  have Hsu := Lib.hid (any_succ (p := hitR fun s => farV ac nx (ac.length - 1) s == (n : Int)) hrow)
  have HBo := Lib.hid (HBw.out.trans (hB.mono HBw.out.size))
  obtain ⟨l0, l1, l2, l3, -, -, -, -, ltL⟩ := (HLb.out.below hB).all4
  have b0 := (HBo.out.cell (p := ⟨ub, uo + x, none⟩) hul).trans Hb0.out
  replace r0 := (HBo.out.cell (p := ⟨vb, vo + j, none⟩) hvl).trans r0
  clear hB hrow rr
  go_wp2_with fail
  clear l0 l1 l2 l3 ltL b0 r0
  go_loopw [28] (fun i wr => ∃ l : Nat, l ≤ row.length ∧ i = .int .i64 l ∧ Hid (hitR (fun s => farV ac nx (ac.length - 1) s == (n : Int)) (row.take l) = false) ∧ Below w1.heap.size w1 wr) (fun i _ => row.length - (intOf i).toNat)
  case atStart => exact ⟨0, by omega, rfl, by show _ = _; rfl, HB.out⟩
  case round =>
   obtain ⟨l, hl, rfl, HE, hBl⟩ := hrel
   obtain ⟨wl, rfl⟩ : ∃ v, v = wr := ⟨_, rfl⟩
   have hl0 := Int.natCast_nonneg l
   have HBl := Lib.hid hBl
   have HBd := Lib.hid (HBw.out.trans (hBl.mono HBw.out.size))
   by_cases hll : l < row.length
   rotate_left
   ·
    have HJ2 : Hid ((nr.take (j + 1)).any (hitR fun s => farV ac nx (ac.length - 1) s == (n : Int)) = false) := by
     show _ = _
     have := HE.out
     rw [show l = row.length by omega, List.take_length] at this
     rw [Hsu.out, HJ.out, this]
     rfl
    clear hBl
    go_wp2_with fail
    go_roundw
    case rel => exact ⟨j + 1, by omega, by go_num, HJ2, HBl.out⟩
    case measure => simp [intOf]; omega
   obtain ⟨z, hz⟩ : ∃ e, row[l]? = some e := ⟨_, List.getElem?_eq_getElem hll⟩
   obtain ⟨tb, to', rfl⟩ := nest_some (f := D.int) Hrr.out (by omega)
   obtain ⟨-, q0⟩ := int_in (Hrr.out.below HBd.out) hz
   have hlb : (l : Int) < (row.length : Int) := by omega
   have hzl := hzr.out z (List.mem_of_getElem? hz)
   have Hz := Lib.hid hz
   clear hBl hz
   by_cases hneg : z < 0
   ·
    have HE2 : Hid (hitR (fun s => farV ac nx (ac.length - 1) s == (n : Int)) (row.take (l + 1)) = false) := hitR_none HE.out Hz.out (by rw [decide_eq_false (by omega)]; rfl)
    go_wp2_with fail
    go_roundw
    case rel => exact ⟨l + 1, by omega, by go_num, HE2, HBl.out⟩
    case measure => simp [intOf]; omega
   obtain ⟨zn, rfl⟩ : ∃ zn : Nat, z = (zn : Int) := ⟨z.toNat, by omega⟩
   obtain ⟨-, y0⟩ := int_in (HL.out.below HBd.out) (farL_at (ac := ac) (nx := nx) (n := ac.length - 1) (s := zn) (by omega))
   have hzn := Int.natCast_nonneg zn
   have hznb : (zn : Int) < (ac.length : Int) := by omega
   have hv : Hid ((farV ac nx (ac.length - 1) (zn : Int).toNat == (n : Int)) = (farV ac nx (ac.length - 1) zn == (n : Int))) := by show _ = _; rw [Int.toNat_natCast]
   have Hhit := Lib.hid (hitR_none (P := fun s => farV ac nx (ac.length - 1) s == (n : Int)) HE.out Hz.out)
   obtain ⟨v, hvv⟩ : ∃ v, farV ac nx (ac.length - 1) zn = v := ⟨_, rfl⟩
   rw [hvv] at y0 hv
   clear hvv
   cases hc : (v == (n : Int))
   ·
    have HE2 : Hid (hitR (fun s => farV ac nx (ac.length - 1) s == (n : Int)) (row.take (l + 1)) = false) := Hhit.out (by show (_ && (farV ac nx (ac.length - 1) (zn : Int).toNat == (n : Int))) = false; rw [hv.out, hc]; simp)
    clear Hhit
    go_wp2_with fail
    go_roundw
    case rel => exact ⟨l + 1, by omega, by go_num, HE2, HBl.out⟩
    case measure => simp [intOf]; omega
   ·
    have HC := Lib.hid hc
    clear Hhit
    go_wp2_with fail
    refine bodyPost_ret (v := .tuple #[.int .i64 j, .int .i64 l]) (by simp [results, Try.results148, go_sem]) rfl ?_
    exact ⟨j, l, rfl, ⟨zn, ⟨row, Hrow.out, Hz.out, HE.out⟩, by omega, by show (farV ac nx (ac.length - 1) (zn : Int).toNat == (n : Int)) = true; rw [hv.out]; exact HC.out, any_take_none HJ.out⟩, HBd.out⟩
theorem WdB.both {B : Nat} {w : World} {wb : Nat} {xs ys : List Int} {va vb : Value} (h : WdB B w wb xs ys va vb) : ∃ own : Nat → Nat, own wb = 1 ∧ B ≤ wb ∧ wb < w.heap.size ∧ AppS (fun b => B ≤ b ∧ b < w.heap.size ∧ own b = 0) w 2 1 xs.length (xs.map D.int) va ∧
  AppS (fun b => B ≤ b ∧ b < w.heap.size ∧ own b = 2) w 2 1 ys.length (ys.map D.int) vb ∧
  (∀ (w' : World) (v u : Value) (x y : Int) (S S' : Nat → Prop), B ≤ w.heap.size → w.heap.size ≤ w'.heap.size → AppS S w' 2 1 (xs.length + 1) (xs.map D.int ++ [.int x]) v → AppS S' w' 2 1 (ys.length + 1) (ys.map D.int ++ [.int y]) u →
   (∀ b, b < w'.heap.size → S b → (B ≤ b ∧ b < w.heap.size ∧ own b = 0) ∨ w.heap.size ≤ b) → (∀ b, b < w'.heap.size → S' b → (B ≤ b ∧ b < w.heap.size ∧ own b = 2) ∨ w.heap.size ≤ b) → (∀ b, b < w'.heap.size → S b → S' b → False) → Blk w' wb 40 [v, u] → WdB B w' wb (xs ++ [x]) (ys ++ [y]) v u) := by
 obtain ⟨own, h⟩ := h
 have h0 := h 0 _ rfl
 have h1 := h 1 _ rfl
 have h2 := h 2 _ rfl
 have how : own wb = 1 := h1.1.2.2
 have hwb : wb < w.heap.size := h1.1.2.1
 refine ⟨own, how, h1.1.1, hwb, h0, h2, ?_⟩
 intro w' v u x y S S' hB hz ha ha' hS hS' hd hb
 classical
 refine ⟨fun b => if S b then 0 else if S' b then 2 else if b = wb then 1 else 3, fun i it hi => ?_⟩
 match i, hi with
 | 0, hi =>
  obtain rfl := Option.some.inj hi
  show AppS _ w' 2 1 (xs ++ [x]).length ((xs ++ [x]).map D.int) v
  rw [List.length_append, List.map_append]
  exact AppS.more ha fun b hl hs => ⟨by rcases hS b hl hs with q | q <;> omega, hl, by dsimp only; rw [if_pos hs]⟩
 | 1, hi =>
  obtain rfl := Option.some.inj hi
  have n1 : ¬ S wb := fun hs => by rcases hS wb hb.lt hs with q | q <;> omega
  have n2 : ¬ S' wb := fun hs => by rcases hS' wb hb.lt hs with q | q <;> omega
  exact ⟨⟨h1.1.1, hb.lt, by show (if S wb then 0 else if S' wb then 2 else if wb = wb then 1 else 3) = 1; rw [if_neg n1, if_neg n2, if_pos rfl]⟩, hb⟩
 | 2, hi =>
  obtain rfl := Option.some.inj hi
  show AppS _ w' 2 1 (ys ++ [y]).length ((ys ++ [y]).map D.int) u
  rw [List.length_append, List.map_append]
  exact AppS.more ha' fun b hl hs => ⟨by rcases hS' b hl hs with q | q <;> omega, hl, by dsimp only; rw [if_neg (fun q => hd b hl q hs), if_pos hs]⟩
 | n + 3, hi => simp at hi
theorem index_first {bs : List Bool} {s : Option Addr} {c L : Nat} {w : World} (hr : Rd w (boolsD bs) (.slice s bs.length c)) (h1 : bs[L]? = some true) (h2 : ∀ j : Nat, j < L → bs[j]? = some false) :
  Calls Try.prog 149 #[.slice s bs.length c, .bool true] w fun e w' => e = .returned (.int .i64 L) ∧ Below w.heap.size w w' := by
 refine (indexTrue_i hr).mono ?_
 rintro e w' ⟨r, rfl, hi, rfl⟩
 refine ⟨?_, Below.refl _ _⟩
 rcases hi with ⟨-, hi⟩ | ⟨k, rfl, hk, hi⟩
 ·
  have := hi L (List.getElem?_eq_some_iff.1 h1).1
  rw [h1] at this
  cases this
 ·
  rcases Nat.lt_trichotomy k L with q | q | q
  ·
   rw [h2 k q] at hk; cases hk
  ·
   rw [q]
  ·
   rw [hi L q] at h1; cases h1
set_option maxRecDepth 100000 in
set_option maxHeartbeats 16000000 in
theorem firstAccepted_no {t a : Int} {ac : List (List Bool)} {nx : List (List (List Int))} {s u : Option Addr} {c d : Nat} {w : World} (hr : Rd w (bbD ac) (.slice s ac.length c)) (hq : Rd w (iiiD nx) (.slice u nx.length d)) (hok : AutOk t a ac nx) (hN : fiN ac nx < 0) :
  Calls Try.prog 130 #[.agg #[.int .i64 t, .int .i64 a, .slice s ac.length c, .slice u nx.length d]] w fun f w' => f = .returned (.tuple #[.agg #[.slice none 0 0, .slice none 0 0], .bool false]) ∧ Below w.heap.size w w' := by
 have hN' : farV ac nx (ac.length - 1) 0 < 0 := hN
 have hl0 := farL_at (ac := ac) (nx := nx) (n := ac.length - 1) hok.lo
 have hlo := hok.lo
 have hhi := hok.hi
 go_enter Try.func130, Try.ntmps130
 go_wp2_with fail
 obtain ⟨w0, e0, A1, hb0, hz0⟩ := box4 w 51 (.int .i64 t) (.int .i64 a) (.slice s ac.length c) (.slice u nx.length d)
 rw [e0]
 obtain ⟨w1, e1, R, hb1, hz1⟩ := box2 w0 40 (.slice none 0 0) (.slice none 0 0)
 rw [e1]
 have hB1 := hb0.trans (hb1.mono (by omega))
 obtain ⟨l0, l1, l2, l3, -, -, -, -, ltL⟩ := (A1.below hb1).all4
 refine (alive_i (t := t) (a := a) (hr.below hB1) (hq.below hB1) hok).mono ?_
 rintro f w2 ⟨g, rfl, hf, hb2⟩
 have hB := hB1.trans (hb2.mono (by omega))
 replace R := R.below hb2
 obtain ⟨-, q0⟩ := int_in hf.rd hl0
 simp only [Nat.add_zero] at q0
 obtain ⟨r0, r1, rl⟩ := R.all2
 have z0 := R.frozen 0
 have z1 := R.frozen 1
 rw [hz0] at r0 r1 rl z0 z1
 clear hf hb2 hb1 hb0 hl0 e0 e1 A1 l0 l1 l2 l3 ltL hB1
 go_wp2_with fail
 rw [hz0] at R
 have K1 := (R.set 0 (.slice none 0 0)).set 1 (.slice none 0 0)
 have k0 := K1.c0
 have k1 := K1.c1
 refine bodyPost_ret (v := .tuple #[.agg #[.slice none 0 0, .slice none 0 0], .bool false]) (by simp [results, Try.results130, go_sem, k0, k1]) rfl ?_
 exact ⟨rfl, by (repeat' first | exact Below.refl _ _ | assumption | apply Below.alloc | apply Below.drew | apply Below.setCell | omega | (simp; done) | (simp; omega))⟩
set_option maxRecDepth 100000 in
set_option maxHeartbeats 16000000 in
theorem firstAccepted_yes {t a : Int} {ac : List (List Bool)} {nx : List (List (List Int))} {s u : Option Addr} {c d N : Nat} {w : World} (hr : Rd w (bbD ac) (.slice s ac.length c)) (hq : Rd w (iiiD nx) (.slice u nx.length d)) (hok : AutOk t a ac nx) (hN : fiN ac nx = (N : Int)) :
  Calls Try.prog 130 #[.agg #[.int .i64 t, .int .i64 a, .slice s ac.length c, .slice u nx.length d]] w fun f w' => ∃ s c s' c', f = .returned (.tuple #[.agg #[.slice s (N + 1) c, .slice s' N c'], .bool true]) ∧ Freshs w w' (wordD (fxA ac nx N) (fyW ac nx N N)) [.slice s (N + 1) c, .slice s' N c'] ∧ Below w.heap.size w w' := by
 have hN' : farV ac nx (ac.length - 1) 0 = (N : Int) := hN
 obtain ⟨ha1, ha2⟩ := farV_eq hN'
 have hNl := least_lt hok.targets hok.lo ha1 ha2
 have hon := fun k hk => OnW.all hok (OnW.start hok ha1 ha2) k hk
 have Hfac := Lib.hid (fun m (hm : m < N) => fst_step hok hm (hon m (by omega)))
 have Hlast := Lib.hid (hon N (Nat.le_refl _))
 have hl0 := farL_at (ac := ac) (nx := nx) (n := ac.length - 1) hok.lo
 rw [hN'] at hl0
 have hlo := hok.lo
 have hhi := hok.hi
 have Hnl := Lib.hid hok.len
 have Hok := Lib.hid hok
 have Hr := Lib.hid hr
 have Hq := Lib.hid hq
 clear hN hN' ha1 ha2 hon
 go_enter Try.func130, Try.ntmps130
 go_wp2_with fail
 obtain ⟨w0, e0, A1, hb0, hz0⟩ := box4 w 51 (.int .i64 t) (.int .i64 a) (.slice s ac.length c) (.slice u nx.length d)
 rw [e0]
 obtain ⟨w1, e1, R, hb1, hz1⟩ := box2 w0 40 (.slice none 0 0) (.slice none 0 0)
 rw [e1]
 have hB1 := hb0.trans (hb1.mono (by omega))
 replace A1 := A1.below hb1
 obtain ⟨l0, l1, l2, l3, -, -, -, -, ltL⟩ := A1.all4
 refine (alive_i (t := t) (a := a) (hr.below hB1) (hq.below hB1) hok).mono ?_
 rintro f w2 ⟨g, rfl, hf, hb2⟩
 have HB2 := Lib.hid (hB1.trans (hb2.mono (by omega)))
 have hz2 := HB2.out.size
 rw [hz0] at R
 have HR := Lib.hid (R.below hb2)
 have HA1 := Lib.hid (A1.below hb2)
 have Hrd := Lib.hid hf.rd
 obtain ⟨-, q0⟩ := int_in hf.rd hl0
 simp only [Nat.add_zero] at q0
 clear hf hb2 hb1 hb0 hl0 e0 e1 A1 R l0 l1 l2 l3 ltL hB1 hr hq hok
 have hWD := WdB.zero (B := w2.heap.size) (w := w2) (Nat.le_refl _)
 have q5 := ((Below.alloc (Below.refl w2.heap.size w2) (Nat.le_refl _) (.cells #[.slice none 0 0, .slice none 0 0] 40)).cell (p := ⟨g, 0, none⟩) (World.block_lt_of_cell? w2 _ q0)).trans q0
 go_wp2_with fail
 clear q0 q5
 obtain ⟨w5, e5, -, hb5, hz5⟩ := box2 w2 40 (.slice none 0 0) (.slice none 0 0)
 rw [e5] at hWD ⊢
 obtain ⟨wb, hwb⟩ : ∃ wb, w2.heap.size = wb := ⟨_, rfl⟩
 have hwb' := Lib.hid hwb
 rw [hwb] at hWD ⊢
 clear e5 hwb
 go_loopw [6, 7] (fun v i wr => ∃ (m : Nat) (va vb : Value), m ≤ N ∧ v = .int .i64 (stW ac nx N m) ∧ i = .int .i64 ((N - m : Nat) : Int) ∧ WdB wb wr wb (fxW ac nx N m) (fyW ac nx N m) va vb ∧ Below w2.heap.size w2 wr) (fun _ i _ => (intOf i).toNat)
 case atStart => exact ⟨0, _, _, by omega, rfl, rfl, hWD, hb5⟩
 case round =>
  clear hWD hb5
  obtain ⟨m, va, vb, hm, rfl, rfl, hwd, hbe⟩ := hrel
  obtain ⟨wp, rfl⟩ : ∃ v, v = wr := ⟨_, rfl⟩
  have hm0 := Int.natCast_nonneg m
  have hzp := hbe.size
  have HWD := Lib.hid hwd
  have HBp := Lib.hid hbe
  obtain ⟨a1, ca1, rfl, hca1, hca2⟩ := hwd.shapeA
  obtain ⟨a2, ca2, rfl, hcb1, hcb2⟩ := hwd.shapeB
  rw [fxW_len] at hca1
  rw [fyW_len] at hcb1
  unfold maxLen at hca2 hcb2
  simp only [fxW_len, fyW_len] at *
  have HBq := Lib.hid (HB2.out.trans (hbe.mono hz2))
  obtain ⟨l0, l1, l2, l3, -, -, -, -, ltL⟩ := (HA1.out.below hbe).all4
  by_cases hmk : m < N
  rotate_left
  ·
   obtain rfl : m = N := by omega
   have e0 : ((m - m : Nat) : Int) = 0 := by omega
   rw [e0]
   have hacc := Hlast.out.acc
   rw [Nat.sub_self] at hacc
   obtain ⟨ar, har⟩ : ∃ e, ac[stW ac nx m m]? = some e := ⟨_, List.getElem?_eq_getElem Hlast.out.lt⟩
   obtain ⟨z1, z2, z3⟩ := last_atom har hacc
   obtain ⟨L, hL⟩ : ∃ L, laW ac (stW ac nx m m) = L := ⟨_, rfl⟩
   have HL : Hid (fxA ac nx m = fxW ac nx m m ++ [(L : Int)]) := by show _ = _; unfold fxA; rw [hL]
   rw [hL] at z1 z2 z3
   have hAA := Hr.out
   obtain ⟨hlen', hcap'⟩ := nest_bd hAA
   unfold maxLen at hcap'
   obtain ⟨ub, uo, rfl⟩ := nest_some (f := boolsD) hAA (by omega)
   obtain ⟨hul, sn, cn, b0, rb⟩ := nest_sl (g := D.bool) hAA har
   obtain ⟨rb1, rb2⟩ := nest_bd rb
   unfold maxLen at rb2
   have hs0 := Int.natCast_nonneg (stW ac nx m m)
   have hsb : (stW ac nx m m : Int) < (ac.length : Int) := by have := Hlast.out.lt; omega
   have har8 := Hok.out.acc_row har
   obtain ⟨ht1, ht8⟩ := atomsN_bd t
   have HL2 := Lib.hid z2
   have HL3 := Lib.hid z3
   have Hb0 := Lib.hid ((HBq.out.cell (p := ⟨ub, uo + stW ac nx m m, none⟩) hul).trans b0)
   have Hrb := Lib.hid rb
   have Hb0w := Lib.hid b0
   clear hwd hbe b0 rb hacc hAA z2 z3 hL har
   go_wp2_with fail
   have hwo := hwb'.out
   obtain ⟨own, how1, hwl, hwlt, hA0, hA2, tA, -⟩ := HWD.out.parts
   rw [fxW_len] at hA0 tA
   rw [fyW_len] at hA2
   have HtA := Lib.hid tA
   have V0 := hA0
   have V0f := fun (b : Nat) (h : wb ≤ b ∧ b < wp.heap.size ∧ own b = 0) => And.intro h.1 h.2.1
   have K2 := HWD.out.box.1
   have hm61 : m ≤ 60 := by omega
   have hwb6 : wb ≤ wp.heap.size := by omega
   have HLb := Lib.hid (HA1.out.below HBp.out)
   have HRp := Lib.hid (HR.out.below HBp.out)
   have hRlt := HR.out.lt
   have hwle : w.heap.size ≤ wb := by omega
   clear hA0 hA2 tA l0 l1 l2 l3 ltL
   have hGb : ∀ m b, (fun m b => (m = 0 ∧ (wb ≤ b ∧ b < wp.heap.size ∧ own b = 0)) ∨ (m = 1 ∧ b = wb)) m b → (wb) ≤ b ∧ b < (wp).heap.size := by
    intro m b hg
    rcases hg with ⟨rfl, hg⟩ | ⟨rfl, hg⟩
    ·
     have q := V0f b hg
     omega
    ·
     subst hg
     have q := K2.lt
     omega
   have hGd : ∀ m m' b, (fun m b => (m = 0 ∧ (wb ≤ b ∧ b < wp.heap.size ∧ own b = 0)) ∨ (m = 1 ∧ b = wb)) m b → (fun m b => (m = 0 ∧ (wb ≤ b ∧ b < wp.heap.size ∧ own b = 0)) ∨ (m = 1 ∧ b = wb)) m' b → m = m' := by
    intro m1 m2 b h h'
    rcases h with ⟨rfl, h⟩ | ⟨rfl, h⟩ <;> rcases h' with ⟨rfl, h'⟩ | ⟨rfl, h'⟩ <;> first
     | rfl
     | (exfalso; rw [h] at h'; have q1 := h'.2.2; omega)
     | (exfalso; rw [h'] at h; have q1 := h.2.2; omega)
   refine region_rs [] [(9, 0), (11, 1)] (fun m b => (m = 0 ∧ (wb ≤ b ∧ b < wp.heap.size ∧ own b = 0)) ∨ (m = 1 ∧ b = wb)) (wb) (fun i iv vs wx => match i with
    | 0 => vs 0 = .pointer (some ⟨wb, 0, none⟩)
    | 1 => vs 1 = .slice a1 m ca1
    | 2 => vs 2 = .pointer (some ⟨w.heap.size, 2, none⟩)
    | 3 => vs 3 = .slice (some ⟨ub, uo, none⟩) ac.length c
    | 4 => vs 4 = .int .i64 (stW ac nx m m)
    | 5 => vs 5 = .pointer (some ⟨ub, uo + stW ac nx m m, none⟩)
    | 6 => vs 6 = .slice sn ar.length cn
    | 7 => vs 7 = .int .i64 L
    | 8 => vs 8 = .slice (some ⟨(iv 8).1, 0, none⟩) 1 1 ∧ (iv 8).2 = (iv 8).1 + 1 ∧ Blk wx (iv 8).1 2 [.int .i64 L]
    | 9 => ∃ g cap, vs 9 = .slice (some ⟨g, 0, none⟩) (m + 1) cap ∧ AppS (foot [] [(9, 0), (11, 1)] (fun m b => (m = 0 ∧ (wb ≤ b ∧ b < wp.heap.size ∧ own b = 0)) ∨ (m = 1 ∧ b = wb)) 12 9 iv) wx 2 1 (m + 1) ((fxW ac nx m m).map D.int ++ [.int L]) (.slice (some ⟨g, 0, none⟩) (m + 1) cap)
    | 10 => vs 10 = .pointer (some ⟨wb, 0, none⟩)
    | 11 => Blk wx (wb) 40 [vs 9, .slice a2 m ca2]
    | _ => True) (fun i iv vs => match i with
    | 0 => vs 0 = .pointer (some ⟨wb, 0, none⟩)
    | 1 => vs 1 = .slice a1 m ca1
    | 2 => vs 2 = .pointer (some ⟨w.heap.size, 2, none⟩)
    | 3 => vs 3 = .slice (some ⟨ub, uo, none⟩) ac.length c
    | 4 => vs 4 = .int .i64 (stW ac nx m m)
    | 5 => vs 5 = .pointer (some ⟨ub, uo + stW ac nx m m, none⟩)
    | 6 => vs 6 = .slice sn ar.length cn
    | 7 => vs 7 = .int .i64 L
    | 8 => vs 8 = .slice (some ⟨(iv 8).1, 0, none⟩) 1 1 ∧ (iv 8).2 = (iv 8).1 + 1
    | 9 => ∃ g cap, vs 9 = .slice (some ⟨g, 0, none⟩) (m + 1) cap
    | 10 => vs 10 = .pointer (some ⟨wb, 0, none⟩)
    | 11 => True
    | _ => True) (by kernel_rfl) (by kernel_rfl) [0, 1, 2, 3, 4, 5, 6, 7, 8, 9, 10, 11] (by kernel_rfl) ?hbase ?hGb ?hG ?hJ ?hE ?hEE ?hstep ?hQ
   case hbase => first | exact Nat.le_refl _ | omega | (simp; omega)
   case hGb =>
    exact hGb
   case hG =>
    exact hGd
   case hJ =>
    intro i hi iv iv' vs vs' wx wx' ha hv hz hk hj
    simp only [List.mem_cons, List.not_mem_nil, or_false] at hi
    rcases hi with rfl | rfl | rfl | rfl | rfl | rfl | rfl | rfl | rfl | rfl | rfl | rfl
    ·
     exact (hv.out 0 (mem_of (by kernel_rfl))).symm.trans hj
    ·
     exact (hv.out 1 (mem_of (by kernel_rfl))).symm.trans hj
    ·
     exact (hv.out 2 (mem_of (by kernel_rfl))).symm.trans hj
    ·
     exact (hv.out 3 (mem_of (by kernel_rfl))).symm.trans hj
    ·
     exact (hv.out 4 (mem_of (by kernel_rfl))).symm.trans hj
    ·
     exact (hv.out 5 (mem_of (by kernel_rfl))).symm.trans hj
    ·
     exact (hv.out 6 (mem_of (by kernel_rfl))).symm.trans hj
    ·
     exact (hv.out 7 (mem_of (by kernel_rfl))).symm.trans hj
    ·
     have e8 := hv.out 8 (mem_of (by kernel_rfl))
     have g8 := ha.out 8 (mem_of (by kernel_rfl))
     obtain ⟨q1, q3, q2⟩ := hj
     show vs' 8 = .slice (some ⟨(iv' 8).1, 0, none⟩) 1 1 ∧ (iv' 8).2 = (iv' 8).1 + 1 ∧ Blk wx' (iv' 8).1 2 [.int .i64 L]
     rw [← e8, ← g8]
     exact ⟨q1, q3, q2.keep (hk.out _ q2.lt (foot_own (Nat.le_refl _) (by omega)))⟩
    ·
     have e9 := hv.out 9 (mem_of (by kernel_rfl))
     obtain ⟨g, cap, q1, q2⟩ := hj
     exact ⟨g, cap, e9 ▸ q1, (q2.keep (fun b hb h1 => hk.out b hb h1)).more (fun b hb h1 => foot_agree (l := ancs _ 12 9) (by exact of_decide_eq_true (by kernel_rfl)) ha.out h1)⟩
    ·
     exact (hv.out 10 (mem_of (by kernel_rfl))).symm.trans hj
    ·
     have e9 := hv.out 9 (mem_of (by kernel_rfl))
     have hj' : Blk wx (wb) 40 [vs 9, .slice a2 m ca2] := hj
     show Blk wx' (wb) 40 [vs' 9, .slice a2 m ca2]
     rw [← e9]
     exact hj'.keep (hk.out _ hj'.lt (foot_given 1 (by decide) (Or.inr ⟨rfl, rfl⟩)))
   case hE =>
    intro i hi iv vs wx hj
    simp only [List.mem_cons, List.not_mem_nil, or_false] at hi
    rcases hi with rfl | rfl | rfl | rfl | rfl | rfl | rfl | rfl | rfl | rfl | rfl | rfl
    ·
     exact hj
    ·
     exact hj
    ·
     exact hj
    ·
     exact hj
    ·
     exact hj
    ·
     exact hj
    ·
     exact hj
    ·
     exact hj
    ·
     exact ⟨hj.1, hj.2.1⟩
    ·
     obtain ⟨g, cap, q1, -⟩ := hj
     exact ⟨g, cap, q1⟩
    ·
     exact hj
    ·
     trivial
   case hEE =>
    intro i hi iv iv' vs vs' ha hv hj
    simp only [List.mem_cons, List.not_mem_nil, or_false] at hi
    rcases hi with rfl | rfl | rfl | rfl | rfl | rfl | rfl | rfl | rfl | rfl | rfl | rfl
    ·
     exact (hv.out 0 (mem_of (by kernel_rfl))).symm.trans hj
    ·
     exact (hv.out 1 (mem_of (by kernel_rfl))).symm.trans hj
    ·
     exact (hv.out 2 (mem_of (by kernel_rfl))).symm.trans hj
    ·
     exact (hv.out 3 (mem_of (by kernel_rfl))).symm.trans hj
    ·
     exact (hv.out 4 (mem_of (by kernel_rfl))).symm.trans hj
    ·
     exact (hv.out 5 (mem_of (by kernel_rfl))).symm.trans hj
    ·
     exact (hv.out 6 (mem_of (by kernel_rfl))).symm.trans hj
    ·
     exact (hv.out 7 (mem_of (by kernel_rfl))).symm.trans hj
    ·
     have e8 := hv.out 8 (mem_of (by kernel_rfl))
     have g8 := ha.out 8 (mem_of (by kernel_rfl))
     have hj' : vs 8 = .slice (some ⟨(iv 8).1, 0, none⟩) 1 1 ∧ (iv 8).2 = (iv 8).1 + 1 := hj
     show vs' 8 = .slice (some ⟨(iv' 8).1, 0, none⟩) 1 1 ∧ (iv' 8).2 = (iv' 8).1 + 1
     rw [← e8, ← g8]
     exact hj'
    ·
     have e9 := hv.out 9 (mem_of (by kernel_rfl))
     have hj' : ∃ g cap, vs 9 = .slice (some ⟨g, 0, none⟩) (m + 1) cap := hj
     show ∃ g cap, vs' 9 = .slice (some ⟨g, 0, none⟩) (m + 1) cap
     rw [← e9]
     exact hj'
    ·
     exact (hv.out 10 (mem_of (by kernel_rfl))).symm.trans hj
    ·
     trivial
   case hstep =>
    intro i hi opr ho iv vs w1 hB hS hSo hd he hbd hsep hun K hK
    simp only [List.mem_cons, List.not_mem_nil, or_false] at hi
    have hzB := hB.size
    have HGb := Lib.hid hGb
    clear hGb hGd
    obtain ⟨l0, l1, l2, l3, -, -, -, -, ltL⟩ := (HLb.out.keep (hB.block _ (show w.heap.size < wb by omega))).all4
    have b0 := ((HBq.out.trans (hB.mono hwle)).cell (p := ⟨ub, uo + stW ac nx m m, none⟩) hul).trans Hb0w.out
    generalize hA : putFrom _ 0 vs _ = A at hK ⊢
    simp only [putFrom, puts] at hA
    rcases hi with rfl | rfl | rfl | rfl | rfl | rfl | rfl | rfl | rfl | rfl | rfl | rfl
    all_goals
     simp at ho
     subst ho
     subst hA
    ·
     go_wp2_with fail
     exact Onward.mk (hK (.pointer (some ⟨wb, 0, none⟩)) _ _ (fun h => by cases h) (by first | rfl | (simp only [puts])) (Spares.refl _) (fun iv' _ _ => rfl))
    ·
     have h0 : vs 0 = .pointer (some ⟨wb, 0, none⟩) := hd.out 0 (mem_of (by kernel_rfl)) (by decide) (by kernel_rfl)
     have K21 := K2.keep (hS.out 1 _ (by kernel_rfl) (Or.inr ⟨rfl, rfl⟩))
     have k2c0 := K21.c0
     have k2z0 := K21.frozen 0
     have k2c1 := K21.c1
     have k2z1 := K21.frozen 1
     have k2lt := K21.lt
     go_wp2_with fail
     exact Onward.mk (hK (.slice a1 m ca1) _ _ (fun h => by cases h) (by first | rfl | (simp only [puts, h0])) (Spares.refl _) (fun iv' _ _ => rfl))
    ·
     go_wp2_with fail
     exact Onward.mk (hK (.pointer (some ⟨w.heap.size, 2, none⟩)) _ _ (fun h => by cases h) (by first | rfl | (simp only [puts])) (Spares.refl _) (fun iv' _ _ => rfl))
    ·
     have h2 : vs 2 = .pointer (some ⟨w.heap.size, 2, none⟩) := hd.out 2 (mem_of (by kernel_rfl)) (by decide) (by kernel_rfl)
     go_wp2_with fail
     exact Onward.mk (hK (.slice (some ⟨ub, uo, none⟩) ac.length c) _ _ (fun h => by cases h) (by first | rfl | (simp only [puts, h2])) (Spares.refl _) (fun iv' _ _ => rfl))
    ·
     go_wp2_with fail
     exact Onward.mk (hK (.int .i64 (stW ac nx m m)) _ _ (fun h => by cases h) (by first | rfl | (simp only [puts])) (Spares.refl _) (fun iv' _ _ => rfl))
    ·
     have h3 : vs 3 = .slice (some ⟨ub, uo, none⟩) ac.length c := hd.out 3 (mem_of (by kernel_rfl)) (by decide) (by kernel_rfl)
     have h4 : vs 4 = .int .i64 (stW ac nx m m) := hd.out 4 (mem_of (by kernel_rfl)) (by decide) (by kernel_rfl)
     go_wp2_with fail
     exact Onward.mk (hK (.pointer (some ⟨ub, uo + stW ac nx m m, none⟩)) _ _ (fun h => by cases h) (by first | rfl | (simp only [puts, h3, h4])) (Spares.refl _) (fun iv' _ _ => rfl))
    ·
     have h5 : vs 5 = .pointer (some ⟨ub, uo + stW ac nx m m, none⟩) := hd.out 5 (mem_of (by kernel_rfl)) (by decide) (by kernel_rfl)
     go_wp2_with fail
     exact Onward.mk (hK (.slice sn ar.length cn) _ _ (fun h => by cases h) (by first | rfl | (simp only [puts, h5])) (Spares.refl _) (fun iv' _ _ => rfl))
    ·
     have h6 : vs 6 = .slice sn ar.length cn := hd.out 6 (mem_of (by kernel_rfl)) (by decide) (by kernel_rfl)
     go_wp2_with fail
     refine (index_first (Hrb.out.below (HBq.out.trans (hB.mono hwle))) HL2.out HL3.out).mono ?_
     rintro e w2 ⟨rfl, hb⟩
     go_wp2_with fail
     exact Onward.mk (hK (.int .i64 L) _ _ (fun h => by cases h) (by first | rfl | (simp only [puts, h6])) (Spares.of_below hb) (fun iv' _ _ => rfl))
    ·
     have h7 : vs 7 = .int .i64 L := hd.out 7 (mem_of (by kernel_rfl)) (by decide) (by kernel_rfl)
     go_wp2_with fail
     exact Onward.mk (hK (.slice (some ⟨w1.heap.size, 0, none⟩) 1 1) _ _ (fun h => by cases h) (by first | rfl | (simp only [puts, h7])) (Spares.of_below (Below.alloc (Below.refl _ _) (Nat.le_refl _) _)) (fun iv' _ hi => by
      show Value.slice (some ⟨w1.heap.size, 0, none⟩) 1 1 = .slice (some ⟨(iv' 8).1, 0, none⟩) 1 1 ∧ (iv' 8).2 = (iv' 8).1 + 1 ∧ Blk _ (iv' 8).1 2 [.int .i64 L]
      rw [hi]
      exact ⟨rfl, by simp, Blk.new1 _ _ _⟩))
    ·
     have h1 : vs 1 = .slice a1 m ca1 := hd.out 1 (mem_of (by kernel_rfl)) (by decide) (by kernel_rfl)
     obtain ⟨h8, q8, f8⟩ := hd.out 8 (mem_of (by kernel_rfl)) (by decide) (by kernel_rfl)
     have V01 := V0.keep (fun b _ hb => hS.out 0 b (by kernel_rfl) (Or.inl ⟨rfl, hb⟩))
     simp only [h1, h8]
     have f8' : Blk w1 (iv 8).1 2 [.int .i64 L] := by first | exact f8 | (rw [h8] at f8; exact f8)
     refine wpList_append_s w1 (by rfl) _ _ 27 (by rfl) 2 ((.int .i64 0)) 1 8 Try.underlying27 info_int64 rfl (by decide) (S := (fun b => (wb ≤ b ∧ b < wp.heap.size ∧ own b = 0))) (T := (fun _ => False)) _ (by rfl) V01 ⟨(iv 8).1, 0, none⟩ 1 1 [.int .i64 L] (by rfl) (news_blk f8') (int_own w1 L) (fun _ _ _ h => h) (by simp) (by simp [Value.oneCell']) (by omega) (by omega) (by unfold maxLen; omega) ?_
     intro g cap w2 hap ht
     go_wp2_with fail
     exact Onward.mk (hK (.slice (some ⟨g, 0, none⟩) (m + 1) cap) _ _ (fun h => by cases h) (by first | rfl | (simp only [puts, h1, h8])) (ht.more (fun b h => Or.inl ⟨0, by decide, (Or.inl ⟨rfl, h⟩)⟩)) (fun iv' ag hi => ⟨g, cap, rfl, hap.more (fun b _ h => by rcases h with h | h | h; exact foot_given 0 (by decide) (Or.inl ⟨rfl, h⟩); exact h.elim; exact foot_new hi h.1 h.2)⟩))
    ·
     go_wp2_with fail
     exact Onward.mk (hK (.pointer (some ⟨wb, 0, none⟩)) _ _ (fun h => by cases h) (by first | rfl | (simp only [puts])) (Spares.refl _) (fun iv' _ _ => rfl))
    ·
     have h10 : vs 10 = .pointer (some ⟨wb, 0, none⟩) := hd.out 10 (mem_of (by kernel_rfl)) (by decide) (by kernel_rfl)
     obtain ⟨g9, cap9, h9, f9⟩ := hd.out 9 (mem_of (by kernel_rfl)) (by decide) (by kernel_rfl)
     have K21 := K2.keep (hS.out 1 _ (by kernel_rfl) (Or.inr ⟨rfl, rfl⟩))
     have k2c0 := K21.c0
     have k2z0 := K21.frozen 0
     have k2c1 := K21.c1
     have k2z1 := K21.frozen 1
     have k2lt := K21.lt
     go_wp2_with fail
     exact Onward.mk (hK undef _ _ (fun _ => rfl) (by simp only [puts, h10, h9]) ((spares_sets (b0 := wb) (by repeat (first | exact Spares.refl _ | apply Spares.set))).more (fun b h => Or.inl ⟨1, by decide, (Or.inr ⟨rfl, h⟩)⟩)) (fun iv' ag hi => by
      show Blk _ (wb) 40 [vs 9, .slice a2 m ca2]
      rw [h9]
      exact (K21.set 0 _)))
   case hQ =>
    intro iv vs wx hB hSp hd he hbd hsep
    have hzB := hB.size
    have h0 : vs 0 = .pointer (some ⟨wb, 0, none⟩) := hd.out 0 (mem_of (by kernel_rfl)) (not_eaten (by kernel_rfl))
    have h1 : vs 1 = .slice a1 m ca1 := hd.out 1 (mem_of (by kernel_rfl)) (not_eaten (by kernel_rfl))
    have h2 : vs 2 = .pointer (some ⟨w.heap.size, 2, none⟩) := hd.out 2 (mem_of (by kernel_rfl)) (not_eaten (by kernel_rfl))
    have h3 : vs 3 = .slice (some ⟨ub, uo, none⟩) ac.length c := hd.out 3 (mem_of (by kernel_rfl)) (not_eaten (by kernel_rfl))
    have h4 : vs 4 = .int .i64 (stW ac nx m m) := hd.out 4 (mem_of (by kernel_rfl)) (not_eaten (by kernel_rfl))
    have h5 : vs 5 = .pointer (some ⟨ub, uo + stW ac nx m m, none⟩) := hd.out 5 (mem_of (by kernel_rfl)) (not_eaten (by kernel_rfl))
    have h6 : vs 6 = .slice sn ar.length cn := hd.out 6 (mem_of (by kernel_rfl)) (not_eaten (by kernel_rfl))
    have h7 : vs 7 = .int .i64 L := hd.out 7 (mem_of (by kernel_rfl)) (not_eaten (by kernel_rfl))
    obtain ⟨h8, q8, f8⟩ := hd.out 8 (mem_of (by kernel_rfl)) (not_eaten (by kernel_rfl))
    obtain ⟨g9, cap9, h9, f9⟩ := hd.out 9 (mem_of (by kernel_rfl)) (not_eaten (by kernel_rfl))
    have h10 : vs 10 = .pointer (some ⟨wb, 0, none⟩) := hd.out 10 (mem_of (by kernel_rfl)) (not_eaten (by kernel_rfl))
    have f11 : Blk _ (wb) 40 [vs 9, .slice a2 m ca2] := hd.out 11 (mem_of (by kernel_rfl)) (not_eaten (by kernel_rfl))
    have lo9 : ∀ b, foot [] [(9, 0), (11, 1)] (fun m b => (m = 0 ∧ (wb ≤ b ∧ b < wp.heap.size ∧ own b = 0)) ∨ (m = 1 ∧ b = wb)) 12 9 iv b → (wb) ≤ b := by
     rintro b ⟨j, hj, hh⟩
     have hj' := of_decide_eq_true (List.all_eq_true.1 (show ((chainOf [] 12 9).all fun j => decide (j ∈ [9])) = true from by kernel_rfl) j hj)
     simp only [List.mem_cons, List.not_mem_nil, or_false] at hj'
     rcases hj' with rfl
     ·
      have q := (hbd.out 9 (mem_of (by kernel_rfl))).1
      rcases hh with hh | ⟨m, hm, hg⟩
      ·
       omega
      ·
       simp at hm
       subst hm
       simp at hg
       have q' := V0f b hg
       omega
    simp only [putFrom, puts]
    have so9 : ∀ b, (foot [] [(9, 0), (11, 1)] (fun m b => (m = 0 ∧ (wb ≤ b ∧ b < wp.heap.size ∧ own b = 0)) ∨ (m = 1 ∧ b = wb)) 12 9 iv) b → (wb ≤ b ∧ b < wp.heap.size ∧ own b = 0) ∨ (wp).heap.size ≤ b := by
     rintro b ⟨j, hj, hh⟩
     have hj' := of_decide_eq_true (List.all_eq_true.1 (show ((chainOf [] 12 9).all fun j => decide (j ∈ [9])) = true from by kernel_rfl) j hj)
     simp only [List.mem_cons, List.not_mem_nil, or_false] at hj'
     rcases hj' with rfl
     ·
      have q := (hbd.out 9 (mem_of (by kernel_rfl))).1
      rcases hh with hh | ⟨m, hm, hg⟩
      ·
       exact Or.inr (by omega)
      ·
       simp at hm; subst hm; simp at hg; exact Or.inl hg
    rw [h9] at f11
    have HW2 : Hid (WdB wb wx wb (fxA ac nx m) (fyW ac nx m m) (.slice (some ⟨g9, 0, none⟩) (m + 1) cap9) (.slice a2 m ca2)) := by
     show WdB _ _ _ _ _ _ _
     rw [HL.out]
     exact HtA.out wx _ _ _ hwb6 hSp.out.size (fun b hb h1 h2 => hSp.out.block b hb (fun ⟨m, hm⟩ => by rcases hm with ⟨_, h⟩ | ⟨_, h⟩; exact h1 (h.2.2); exact h2 (by rw [h]; exact how1))) f9 (fun b _ h => so9 b h) f11
    have R7 := HRp.out.keep (hB.block _ (show w.heap.size + 1 < wb by omega))
    have HB7 := Lib.hid (HBq.out.trans (hB.mono hwle))
    clear hd he hbd hsep h0 h1 h2 h3 h4 h5 h6 h7 h8 h10 so9 lo9 f9 f11 f8 q8 how1 hwl hwlt HtA V0 V0f K2 hSp h9 hB
    obtain ⟨x0, x1, ltx⟩ := HW2.out.box.1.all2
    obtain ⟨r0, r1, rl⟩ := R7.all2
    have rf0 := R7.frozen 0
    have rf1 := R7.frozen 1
    go_wp2_with fail
    have K1 := (R7.set 0 (.slice (some ⟨g9, 0, none⟩) (m + 1) cap9)).set 1 (.slice a2 m ca2)
    have k0 := K1.c0
    have k1 := K1.c1
    refine bodyPost_ret (v := .tuple #[.agg #[.slice (some ⟨g9, 0, none⟩) (m + 1) cap9, .slice a2 m ca2], .bool true]) (by simp [results, Try.results130, go_sem, k0, k1]) rfl ?_
    refine ⟨_, _, _, _, rfl, ((HW2.out.freshs (W := w2) (by omega)).keep fun b h1 h2 => ?_).from hz2, Below.setCell (Below.setCell HB7.out (by simp) _) (by simp) _⟩
    rw [Below.heap_setCell _ _ _ _ (by show b ≠ w.heap.size + 1; omega), Below.heap_setCell _ _ _ _ (by show b ≠ w.heap.size + 1; omega)]
  obtain ⟨nr, hnr, hsl, -, -, hany, hch⟩ := Hfac.out m hmk
  obtain ⟨q, hq⟩ : ∃ q, N - m - 1 = q := ⟨_, rfl⟩
  rw [hq] at hany hch
  have e1 : IntKind.i64.wrap (((N - m : Nat) : Int) - 1) = (q : Int) := by rw [show ((N - m : Nat) : Int) - 1 = (q : Int) by omega]; exact wrap_of (by omega) (by omega)
  have hpos : (0 : Int) < ((N - m : Nat) : Int) := by omega
  have hq0 := Int.natCast_nonneg q
  have hs0 := Int.natCast_nonneg (stW ac nx N m)
  have Hch := Lib.hid hch
  have Hany := Lib.hid hany
  have Hnr := Lib.hid hnr
  clear hwd hbe hany hch hnr
  go_wp2_with fail
  refine (firstStep_i (t := t) (a := a) (n := q) (Hr.out.below HBq.out) (Hq.out.below HBq.out) Hok.out (Hrd.out.below HBp.out) hsl Hnr.out Hany.out).mono ?_
  rintro f w6 ⟨j, l, rfl, hz, hb6⟩
  obtain ⟨⟨row, hrow, hcell⟩, hfx, hfy⟩ := Hch.out j l hz
  have HW6 := Lib.hid (HWD.out.below hb6)
  have HB6 := Lib.hid (HBp.out.trans (hb6.mono hzp))
  have hz6 := HB6.out.size
  clear l0 l1 l2 l3 ltL hz
  go_wp2_with fail
  have hwo := hwb'.out
  obtain ⟨own, how1, hwl, hwlt, hA0, hA2, tAB⟩ := HW6.out.both
  rw [fxW_len] at hA0 tAB
  rw [fyW_len] at hA2 tAB
  have HtAB := Lib.hid tAB
  have V0 := hA0
  have V2 := hA2
  have V0f := fun (b : Nat) (h : wb ≤ b ∧ b < w6.heap.size ∧ own b = 0) => And.intro h.1 h.2.1
  have V2f := fun (b : Nat) (h : wb ≤ b ∧ b < w6.heap.size ∧ own b = 2) => And.intro h.1 h.2.1
  have K2 := HW6.out.box.1
  have hm61 : m ≤ 60 := by omega
  have hwb6 : wb ≤ w6.heap.size := by omega
  clear hA0 hA2 tAB hb6
  have hGb : ∀ m b, (fun m b => (m = 0 ∧ (wb ≤ b ∧ b < w6.heap.size ∧ own b = 0)) ∨ (m = 1 ∧ (wb ≤ b ∧ b < w6.heap.size ∧ own b = 2)) ∨ (m = 2 ∧ b = wb)) m b → (wb) ≤ b ∧ b < (w6).heap.size := by
   intro m b hg
   rcases hg with ⟨rfl, hg⟩ | ⟨rfl, hg⟩ | ⟨rfl, hg⟩
   ·
    have q := V0f b hg
    omega
   ·
    have q := V2f b hg
    omega
   ·
    subst hg
    have q := K2.lt
    omega
  have hGd : ∀ m m' b, (fun m b => (m = 0 ∧ (wb ≤ b ∧ b < w6.heap.size ∧ own b = 0)) ∨ (m = 1 ∧ (wb ≤ b ∧ b < w6.heap.size ∧ own b = 2)) ∨ (m = 2 ∧ b = wb)) m b → (fun m b => (m = 0 ∧ (wb ≤ b ∧ b < w6.heap.size ∧ own b = 0)) ∨ (m = 1 ∧ (wb ≤ b ∧ b < w6.heap.size ∧ own b = 2)) ∨ (m = 2 ∧ b = wb)) m' b → m = m' := by
   intro m1 m2 b h h'
   rcases h with ⟨rfl, h⟩ | ⟨rfl, h⟩ | ⟨rfl, h⟩ <;> rcases h' with ⟨rfl, h'⟩ | ⟨rfl, h'⟩ | ⟨rfl, h'⟩ <;> first
    | rfl
    | (exfalso; have q1 := h.2.2; have q2 := h'.2.2; omega)
    | (exfalso; rw [h] at h'; have q1 := h'.2.2; omega)
    | (exfalso; rw [h'] at h; have q1 := h.2.2; omega)
  refine region_rs [(13, 11)] [(4, 0), (9, 1), (11, 2)] (fun m b => (m = 0 ∧ (wb ≤ b ∧ b < w6.heap.size ∧ own b = 0)) ∨ (m = 1 ∧ (wb ≤ b ∧ b < w6.heap.size ∧ own b = 2)) ∨ (m = 2 ∧ b = wb)) (wb) (fun i iv vs wx => match i with
   | 0 => vs 0 = .pointer (some ⟨wb, 0, none⟩)
   | 1 => vs 1 = .slice a1 m ca1
   | 2 => vs 2 = .int .i64 j
   | 3 => vs 3 = .slice (some ⟨(iv 3).1, 0, none⟩) 1 1 ∧ (iv 3).2 = (iv 3).1 + 1 ∧ Blk wx (iv 3).1 2 [.int .i64 j]
   | 4 => ∃ g cap, vs 4 = .slice (some ⟨g, 0, none⟩) (m + 1) cap ∧ AppS (foot [(13, 11)] [(4, 0), (9, 1), (11, 2)] (fun m b => (m = 0 ∧ (wb ≤ b ∧ b < w6.heap.size ∧ own b = 0)) ∨ (m = 1 ∧ (wb ≤ b ∧ b < w6.heap.size ∧ own b = 2)) ∨ (m = 2 ∧ b = wb)) 14 4 iv) wx 2 1 (m + 1) ((fxW ac nx N m).map D.int ++ [.int j]) (.slice (some ⟨g, 0, none⟩) (m + 1) cap)
   | 5 => vs 5 = .pointer (some ⟨wb, 1, none⟩)
   | 6 => vs 6 = .slice a2 m ca2
   | 7 => vs 7 = .int .i64 l
   | 8 => vs 8 = .slice (some ⟨(iv 8).1, 0, none⟩) 1 1 ∧ (iv 8).2 = (iv 8).1 + 1 ∧ Blk wx (iv 8).1 2 [.int .i64 l]
   | 9 => ∃ g cap, vs 9 = .slice (some ⟨g, 0, none⟩) (m + 1) cap ∧ AppS (foot [(13, 11)] [(4, 0), (9, 1), (11, 2)] (fun m b => (m = 0 ∧ (wb ≤ b ∧ b < w6.heap.size ∧ own b = 0)) ∨ (m = 1 ∧ (wb ≤ b ∧ b < w6.heap.size ∧ own b = 2)) ∨ (m = 2 ∧ b = wb)) 14 9 iv) wx 2 1 (m + 1) ((fyW ac nx N m).map D.int ++ [.int l]) (.slice (some ⟨g, 0, none⟩) (m + 1) cap)
   | 10 => vs 10 = .pointer (some ⟨wb, 0, none⟩)
   | 11 => Blk wx (wb) 40 [vs 4, .slice a2 m ca2]
   | 12 => vs 12 = .pointer (some ⟨wb, 1, none⟩)
   | 13 => Blk wx (wb) 40 [vs 4, vs 9]
   | _ => True) (fun i iv vs => match i with
   | 0 => vs 0 = .pointer (some ⟨wb, 0, none⟩)
   | 1 => vs 1 = .slice a1 m ca1
   | 2 => vs 2 = .int .i64 j
   | 3 => vs 3 = .slice (some ⟨(iv 3).1, 0, none⟩) 1 1 ∧ (iv 3).2 = (iv 3).1 + 1
   | 4 => ∃ g cap, vs 4 = .slice (some ⟨g, 0, none⟩) (m + 1) cap
   | 5 => vs 5 = .pointer (some ⟨wb, 1, none⟩)
   | 6 => vs 6 = .slice a2 m ca2
   | 7 => vs 7 = .int .i64 l
   | 8 => vs 8 = .slice (some ⟨(iv 8).1, 0, none⟩) 1 1 ∧ (iv 8).2 = (iv 8).1 + 1
   | 9 => ∃ g cap, vs 9 = .slice (some ⟨g, 0, none⟩) (m + 1) cap
   | 10 => vs 10 = .pointer (some ⟨wb, 0, none⟩)
   | 11 => True
   | 12 => vs 12 = .pointer (some ⟨wb, 1, none⟩)
   | 13 => True
   | _ => True) (by kernel_rfl) (by kernel_rfl) [0, 1, 2, 3, 4, 5, 6, 7, 8, 9, 10, 11, 12, 13] (by kernel_rfl) ?hbase ?hGb ?hG ?hJ ?hE ?hEE ?hstep ?hQ
  case hbase => first | exact Nat.le_refl _ | omega | (simp; omega)
  case hGb =>
   exact hGb
  case hG =>
   exact hGd
  case hJ =>
   intro i hi iv iv' vs vs' wx wx' ha hv hz hk hj
   simp only [List.mem_cons, List.not_mem_nil, or_false] at hi
   rcases hi with rfl | rfl | rfl | rfl | rfl | rfl | rfl | rfl | rfl | rfl | rfl | rfl | rfl | rfl
   ·
    exact (hv.out 0 (mem_of (by kernel_rfl))).symm.trans hj
   ·
    exact (hv.out 1 (mem_of (by kernel_rfl))).symm.trans hj
   ·
    exact (hv.out 2 (mem_of (by kernel_rfl))).symm.trans hj
   ·
    have e3 := hv.out 3 (mem_of (by kernel_rfl))
    have g3 := ha.out 3 (mem_of (by kernel_rfl))
    obtain ⟨q1, q3, q2⟩ := hj
    show vs' 3 = .slice (some ⟨(iv' 3).1, 0, none⟩) 1 1 ∧ (iv' 3).2 = (iv' 3).1 + 1 ∧ Blk wx' (iv' 3).1 2 [.int .i64 j]
    rw [← e3, ← g3]
    exact ⟨q1, q3, q2.keep (hk.out _ q2.lt (foot_own (Nat.le_refl _) (by omega)))⟩
   ·
    have e4 := hv.out 4 (mem_of (by kernel_rfl))
    obtain ⟨g, cap, q1, q2⟩ := hj
    exact ⟨g, cap, e4 ▸ q1, (q2.keep (fun b hb h1 => hk.out b hb h1)).more (fun b hb h1 => foot_agree (l := ancs _ 14 4) (by exact of_decide_eq_true (by kernel_rfl)) ha.out h1)⟩
   ·
    exact (hv.out 5 (mem_of (by kernel_rfl))).symm.trans hj
   ·
    exact (hv.out 6 (mem_of (by kernel_rfl))).symm.trans hj
   ·
    exact (hv.out 7 (mem_of (by kernel_rfl))).symm.trans hj
   ·
    have e8 := hv.out 8 (mem_of (by kernel_rfl))
    have g8 := ha.out 8 (mem_of (by kernel_rfl))
    obtain ⟨q1, q3, q2⟩ := hj
    show vs' 8 = .slice (some ⟨(iv' 8).1, 0, none⟩) 1 1 ∧ (iv' 8).2 = (iv' 8).1 + 1 ∧ Blk wx' (iv' 8).1 2 [.int .i64 l]
    rw [← e8, ← g8]
    exact ⟨q1, q3, q2.keep (hk.out _ q2.lt (foot_own (Nat.le_refl _) (by omega)))⟩
   ·
    have e9 := hv.out 9 (mem_of (by kernel_rfl))
    obtain ⟨g, cap, q1, q2⟩ := hj
    exact ⟨g, cap, e9 ▸ q1, (q2.keep (fun b hb h1 => hk.out b hb h1)).more (fun b hb h1 => foot_agree (l := ancs _ 14 9) (by exact of_decide_eq_true (by kernel_rfl)) ha.out h1)⟩
   ·
    exact (hv.out 10 (mem_of (by kernel_rfl))).symm.trans hj
   ·
    have e4 := hv.out 4 (mem_of (by kernel_rfl))
    have hj' : Blk wx (wb) 40 [vs 4, .slice a2 m ca2] := hj
    show Blk wx' (wb) 40 [vs' 4, .slice a2 m ca2]
    rw [← e4]
    exact hj'.keep (hk.out _ hj'.lt (foot_given 2 (by decide) (Or.inr (Or.inr ⟨rfl, rfl⟩))))
   ·
    exact (hv.out 12 (mem_of (by kernel_rfl))).symm.trans hj
   ·
    have e4 := hv.out 4 (mem_of (by kernel_rfl))
    have e9 := hv.out 9 (mem_of (by kernel_rfl))
    have hj' : Blk wx (wb) 40 [vs 4, vs 9] := hj
    show Blk wx' (wb) 40 [vs' 4, vs' 9]
    rw [← e4, ← e9]
    exact hj'.keep (hk.out _ hj'.lt ⟨11, mem_of (by kernel_rfl), Or.inr ⟨2, by decide, (Or.inr (Or.inr ⟨rfl, rfl⟩))⟩⟩)
  case hE =>
   intro i hi iv vs wx hj
   simp only [List.mem_cons, List.not_mem_nil, or_false] at hi
   rcases hi with rfl | rfl | rfl | rfl | rfl | rfl | rfl | rfl | rfl | rfl | rfl | rfl | rfl | rfl
   ·
    exact hj
   ·
    exact hj
   ·
    exact hj
   ·
    exact ⟨hj.1, hj.2.1⟩
   ·
    obtain ⟨g, cap, q1, -⟩ := hj
    exact ⟨g, cap, q1⟩
   ·
    exact hj
   ·
    exact hj
   ·
    exact hj
   ·
    exact ⟨hj.1, hj.2.1⟩
   ·
    obtain ⟨g, cap, q1, -⟩ := hj
    exact ⟨g, cap, q1⟩
   ·
    exact hj
   ·
    trivial
   ·
    exact hj
   ·
    trivial
  case hEE =>
   intro i hi iv iv' vs vs' ha hv hj
   simp only [List.mem_cons, List.not_mem_nil, or_false] at hi
   rcases hi with rfl | rfl | rfl | rfl | rfl | rfl | rfl | rfl | rfl | rfl | rfl | rfl | rfl | rfl
   ·
    exact (hv.out 0 (mem_of (by kernel_rfl))).symm.trans hj
   ·
    exact (hv.out 1 (mem_of (by kernel_rfl))).symm.trans hj
   ·
    exact (hv.out 2 (mem_of (by kernel_rfl))).symm.trans hj
   ·
    have e3 := hv.out 3 (mem_of (by kernel_rfl))
    have g3 := ha.out 3 (mem_of (by kernel_rfl))
    have hj' : vs 3 = .slice (some ⟨(iv 3).1, 0, none⟩) 1 1 ∧ (iv 3).2 = (iv 3).1 + 1 := hj
    show vs' 3 = .slice (some ⟨(iv' 3).1, 0, none⟩) 1 1 ∧ (iv' 3).2 = (iv' 3).1 + 1
    rw [← e3, ← g3]
    exact hj'
   ·
    have e4 := hv.out 4 (mem_of (by kernel_rfl))
    have hj' : ∃ g cap, vs 4 = .slice (some ⟨g, 0, none⟩) (m + 1) cap := hj
    show ∃ g cap, vs' 4 = .slice (some ⟨g, 0, none⟩) (m + 1) cap
    rw [← e4]
    exact hj'
   ·
    exact (hv.out 5 (mem_of (by kernel_rfl))).symm.trans hj
   ·
    exact (hv.out 6 (mem_of (by kernel_rfl))).symm.trans hj
   ·
    exact (hv.out 7 (mem_of (by kernel_rfl))).symm.trans hj
   ·
    have e8 := hv.out 8 (mem_of (by kernel_rfl))
    have g8 := ha.out 8 (mem_of (by kernel_rfl))
    have hj' : vs 8 = .slice (some ⟨(iv 8).1, 0, none⟩) 1 1 ∧ (iv 8).2 = (iv 8).1 + 1 := hj
    show vs' 8 = .slice (some ⟨(iv' 8).1, 0, none⟩) 1 1 ∧ (iv' 8).2 = (iv' 8).1 + 1
    rw [← e8, ← g8]
    exact hj'
   ·
    have e9 := hv.out 9 (mem_of (by kernel_rfl))
    have hj' : ∃ g cap, vs 9 = .slice (some ⟨g, 0, none⟩) (m + 1) cap := hj
    show ∃ g cap, vs' 9 = .slice (some ⟨g, 0, none⟩) (m + 1) cap
    rw [← e9]
    exact hj'
   ·
    exact (hv.out 10 (mem_of (by kernel_rfl))).symm.trans hj
   ·
    trivial
   ·
    exact (hv.out 12 (mem_of (by kernel_rfl))).symm.trans hj
   ·
    trivial
  case hstep =>
   intro i hi opr ho iv vs w1 hB hS hSo hd he hbd hsep hun K hK
   simp only [List.mem_cons, List.not_mem_nil, or_false] at hi
   have hzB := hB.size
   have HGb := Lib.hid hGb
   clear hGb hGd
   generalize hA : putFrom _ 0 vs _ = A at hK ⊢
   simp only [putFrom, puts] at hA
   rcases hi with rfl | rfl | rfl | rfl | rfl | rfl | rfl | rfl | rfl | rfl | rfl | rfl | rfl | rfl
   all_goals
    simp at ho
    subst ho
    subst hA
   ·
    go_wp2_with fail
    exact Onward.mk (hK (.pointer (some ⟨wb, 0, none⟩)) _ _ (fun h => by cases h) (by first | rfl | (simp only [puts])) (Spares.refl _) (fun iv' _ _ => rfl))
   ·
    have h0 : vs 0 = .pointer (some ⟨wb, 0, none⟩) := hd.out 0 (mem_of (by kernel_rfl)) (by decide) (by kernel_rfl)
    have K21 := K2.keep (hS.out 2 _ (by kernel_rfl) (Or.inr (Or.inr ⟨rfl, rfl⟩)))
    have k2c0 := K21.c0
    have k2z0 := K21.frozen 0
    have k2c1 := K21.c1
    have k2z1 := K21.frozen 1
    have k2lt := K21.lt
    go_wp2_with fail
    exact Onward.mk (hK (.slice a1 m ca1) _ _ (fun h => by cases h) (by first | rfl | (simp only [puts, h0])) (Spares.refl _) (fun iv' _ _ => rfl))
   ·
    go_wp2_with fail
    exact Onward.mk (hK (.int .i64 j) _ _ (fun h => by cases h) (by first | rfl | (simp only [puts])) (Spares.refl _) (fun iv' _ _ => rfl))
   ·
    have h2 : vs 2 = .int .i64 j := hd.out 2 (mem_of (by kernel_rfl)) (by decide) (by kernel_rfl)
    go_wp2_with fail
    exact Onward.mk (hK (.slice (some ⟨w1.heap.size, 0, none⟩) 1 1) _ _ (fun h => by cases h) (by first | rfl | (simp only [puts, h2])) (Spares.of_below (Below.alloc (Below.refl _ _) (Nat.le_refl _) _)) (fun iv' _ hi => by
     show Value.slice (some ⟨w1.heap.size, 0, none⟩) 1 1 = .slice (some ⟨(iv' 3).1, 0, none⟩) 1 1 ∧ (iv' 3).2 = (iv' 3).1 + 1 ∧ Blk _ (iv' 3).1 2 [.int .i64 j]
     rw [hi]
     exact ⟨rfl, by simp, Blk.new1 _ _ _⟩))
   ·
    have h1 : vs 1 = .slice a1 m ca1 := hd.out 1 (mem_of (by kernel_rfl)) (by decide) (by kernel_rfl)
    obtain ⟨h3, q3, f3⟩ := hd.out 3 (mem_of (by kernel_rfl)) (by decide) (by kernel_rfl)
    have V01 := V0.keep (fun b _ hb => hS.out 0 b (by kernel_rfl) (Or.inl ⟨rfl, hb⟩))
    simp only [h1, h3]
    have f3' : Blk w1 (iv 3).1 2 [.int .i64 j] := by first | exact f3 | (rw [h3] at f3; exact f3)
    refine wpList_append_s w1 (by rfl) _ _ 27 (by rfl) 2 ((.int .i64 0)) 1 8 Try.underlying27 info_int64 rfl (by decide) (S := (fun b => (wb ≤ b ∧ b < w6.heap.size ∧ own b = 0))) (T := (fun _ => False)) _ (by rfl) V01 ⟨(iv 3).1, 0, none⟩ 1 1 [.int .i64 j] (by rfl) (news_blk f3') (int_own w1 j) (fun _ _ _ h => h) (by simp) (by simp [Value.oneCell']) (by omega) (by omega) (by unfold maxLen; omega) ?_
    intro g cap w2 hap ht
    go_wp2_with fail
    exact Onward.mk (hK (.slice (some ⟨g, 0, none⟩) (m + 1) cap) _ _ (fun h => by cases h) (by first | rfl | (simp only [puts, h1, h3])) (ht.more (fun b h => Or.inl ⟨0, by decide, (Or.inl ⟨rfl, h⟩)⟩)) (fun iv' ag hi => ⟨g, cap, rfl, hap.more (fun b _ h => by rcases h with h | h | h; exact foot_given 0 (by decide) (Or.inl ⟨rfl, h⟩); exact h.elim; exact foot_new hi h.1 h.2)⟩))
   ·
    go_wp2_with fail
    exact Onward.mk (hK (.pointer (some ⟨wb, 1, none⟩)) _ _ (fun h => by cases h) (by first | rfl | (simp only [puts])) (Spares.refl _) (fun iv' _ _ => rfl))
   ·
    have h5 : vs 5 = .pointer (some ⟨wb, 1, none⟩) := hd.out 5 (mem_of (by kernel_rfl)) (by decide) (by kernel_rfl)
    have K21 := K2.keep (hS.out 2 _ (by kernel_rfl) (Or.inr (Or.inr ⟨rfl, rfl⟩)))
    have k2c0 := K21.c0
    have k2z0 := K21.frozen 0
    have k2c1 := K21.c1
    have k2z1 := K21.frozen 1
    have k2lt := K21.lt
    go_wp2_with fail
    exact Onward.mk (hK (.slice a2 m ca2) _ _ (fun h => by cases h) (by first | rfl | (simp only [puts, h5])) (Spares.refl _) (fun iv' _ _ => rfl))
   ·
    go_wp2_with fail
    exact Onward.mk (hK (.int .i64 l) _ _ (fun h => by cases h) (by first | rfl | (simp only [puts])) (Spares.refl _) (fun iv' _ _ => rfl))
   ·
    have h7 : vs 7 = .int .i64 l := hd.out 7 (mem_of (by kernel_rfl)) (by decide) (by kernel_rfl)
    go_wp2_with fail
    exact Onward.mk (hK (.slice (some ⟨w1.heap.size, 0, none⟩) 1 1) _ _ (fun h => by cases h) (by first | rfl | (simp only [puts, h7])) (Spares.of_below (Below.alloc (Below.refl _ _) (Nat.le_refl _) _)) (fun iv' _ hi => by
     show Value.slice (some ⟨w1.heap.size, 0, none⟩) 1 1 = .slice (some ⟨(iv' 8).1, 0, none⟩) 1 1 ∧ (iv' 8).2 = (iv' 8).1 + 1 ∧ Blk _ (iv' 8).1 2 [.int .i64 l]
     rw [hi]
     exact ⟨rfl, by simp, Blk.new1 _ _ _⟩))
   ·
    have h6 : vs 6 = .slice a2 m ca2 := hd.out 6 (mem_of (by kernel_rfl)) (by decide) (by kernel_rfl)
    obtain ⟨h8, q8, f8⟩ := hd.out 8 (mem_of (by kernel_rfl)) (by decide) (by kernel_rfl)
    have V21 := V2.keep (fun b _ hb => hS.out 1 b (by kernel_rfl) (Or.inr (Or.inl ⟨rfl, hb⟩)))
    simp only [h6, h8]
    have f8' : Blk w1 (iv 8).1 2 [.int .i64 l] := by first | exact f8 | (rw [h8] at f8; exact f8)
    refine wpList_append_s w1 (by rfl) _ _ 27 (by rfl) 2 ((.int .i64 0)) 1 8 Try.underlying27 info_int64 rfl (by decide) (S := (fun b => (wb ≤ b ∧ b < w6.heap.size ∧ own b = 2))) (T := (fun _ => False)) _ (by rfl) V21 ⟨(iv 8).1, 0, none⟩ 1 1 [.int .i64 l] (by rfl) (news_blk f8') (int_own w1 l) (fun _ _ _ h => h) (by simp) (by simp [Value.oneCell']) (by omega) (by omega) (by unfold maxLen; omega) ?_
    intro g cap w2 hap ht
    go_wp2_with fail
    exact Onward.mk (hK (.slice (some ⟨g, 0, none⟩) (m + 1) cap) _ _ (fun h => by cases h) (by first | rfl | (simp only [puts, h6, h8])) (ht.more (fun b h => Or.inl ⟨1, by decide, (Or.inr (Or.inl ⟨rfl, h⟩))⟩)) (fun iv' ag hi => ⟨g, cap, rfl, hap.more (fun b _ h => by rcases h with h | h | h; exact foot_given 1 (by decide) (Or.inr (Or.inl ⟨rfl, h⟩)); exact h.elim; exact foot_new hi h.1 h.2)⟩))
   ·
    go_wp2_with fail
    exact Onward.mk (hK (.pointer (some ⟨wb, 0, none⟩)) _ _ (fun h => by cases h) (by first | rfl | (simp only [puts])) (Spares.refl _) (fun iv' _ _ => rfl))
   ·
    have h10 : vs 10 = .pointer (some ⟨wb, 0, none⟩) := hd.out 10 (mem_of (by kernel_rfl)) (by decide) (by kernel_rfl)
    obtain ⟨g4, cap4, h4, f4⟩ := hd.out 4 (mem_of (by kernel_rfl)) (by decide) (by kernel_rfl)
    have K21 := K2.keep (hS.out 2 _ (by kernel_rfl) (Or.inr (Or.inr ⟨rfl, rfl⟩)))
    have k2c0 := K21.c0
    have k2z0 := K21.frozen 0
    have k2c1 := K21.c1
    have k2z1 := K21.frozen 1
    have k2lt := K21.lt
    go_wp2_with fail
    exact Onward.mk (hK undef _ _ (fun _ => rfl) (by simp only [puts, h10, h4]) ((spares_sets (b0 := wb) (by repeat (first | exact Spares.refl _ | apply Spares.set))).more (fun b h => Or.inl ⟨2, by decide, (Or.inr (Or.inr ⟨rfl, h⟩))⟩)) (fun iv' ag hi => by
     show Blk _ (wb) 40 [vs 4, .slice a2 m ca2]
     rw [h4]
     exact (K21.set 0 _)))
   ·
    go_wp2_with fail
    exact Onward.mk (hK (.pointer (some ⟨wb, 1, none⟩)) _ _ (fun h => by cases h) (by first | rfl | (simp only [puts])) (Spares.refl _) (fun iv' _ _ => rfl))
   ·
    have h12 : vs 12 = .pointer (some ⟨wb, 1, none⟩) := hd.out 12 (mem_of (by kernel_rfl)) (by decide) (by kernel_rfl)
    obtain ⟨g9, cap9, h9, f9⟩ := hd.out 9 (mem_of (by kernel_rfl)) (by decide) (by kernel_rfl)
    have f11 : Blk _ (wb) 40 [vs 4, .slice a2 m ca2] := hd.out 11 (mem_of (by kernel_rfl)) (by decide) (by kernel_rfl)
    have bc0 := f11.c0
    have bz0 := f11.frozen 0
    have bc1 := f11.c1
    have bz1 := f11.frozen 1
    have blt := f11.lt
    go_wp2_with fail
    exact Onward.mk (hK undef _ _ (fun _ => rfl) (by simp only [puts, h12, h9]) ((spares_sets (b0 := wb) (by repeat (first | exact Spares.refl _ | apply Spares.set))).more (fun b h => Or.inr ⟨11, by decide, foot_given 2 (by decide) (Or.inr (Or.inr ⟨rfl, h⟩))⟩)) (fun iv' ag hi => by
     show Blk _ (wb) 40 [vs 4, vs 9]
     rw [h9]
     exact (f11.set 1 _)))
  case hQ =>
   intro iv vs wx hB hSp hd he hbd hsep
   have hzB := hB.size
   have h0 : vs 0 = .pointer (some ⟨wb, 0, none⟩) := hd.out 0 (mem_of (by kernel_rfl)) (not_eaten (by kernel_rfl))
   have h1 : vs 1 = .slice a1 m ca1 := hd.out 1 (mem_of (by kernel_rfl)) (not_eaten (by kernel_rfl))
   have h2 : vs 2 = .int .i64 j := hd.out 2 (mem_of (by kernel_rfl)) (not_eaten (by kernel_rfl))
   obtain ⟨h3, q3, f3⟩ := hd.out 3 (mem_of (by kernel_rfl)) (not_eaten (by kernel_rfl))
   obtain ⟨g4, cap4, h4, f4⟩ := hd.out 4 (mem_of (by kernel_rfl)) (not_eaten (by kernel_rfl))
   have h5 : vs 5 = .pointer (some ⟨wb, 1, none⟩) := hd.out 5 (mem_of (by kernel_rfl)) (not_eaten (by kernel_rfl))
   have h6 : vs 6 = .slice a2 m ca2 := hd.out 6 (mem_of (by kernel_rfl)) (not_eaten (by kernel_rfl))
   have h7 : vs 7 = .int .i64 l := hd.out 7 (mem_of (by kernel_rfl)) (not_eaten (by kernel_rfl))
   obtain ⟨h8, q8, f8⟩ := hd.out 8 (mem_of (by kernel_rfl)) (not_eaten (by kernel_rfl))
   obtain ⟨g9, cap9, h9, f9⟩ := hd.out 9 (mem_of (by kernel_rfl)) (not_eaten (by kernel_rfl))
   have h10 : vs 10 = .pointer (some ⟨wb, 0, none⟩) := hd.out 10 (mem_of (by kernel_rfl)) (not_eaten (by kernel_rfl))
   skip
   have h12 : vs 12 = .pointer (some ⟨wb, 1, none⟩) := hd.out 12 (mem_of (by kernel_rfl)) (not_eaten (by kernel_rfl))
   have f13 : Blk _ (wb) 40 [vs 4, vs 9] := hd.out 13 (mem_of (by kernel_rfl)) (not_eaten (by kernel_rfl))
   have lo4 : ∀ b, foot [(13, 11)] [(4, 0), (9, 1), (11, 2)] (fun m b => (m = 0 ∧ (wb ≤ b ∧ b < w6.heap.size ∧ own b = 0)) ∨ (m = 1 ∧ (wb ≤ b ∧ b < w6.heap.size ∧ own b = 2)) ∨ (m = 2 ∧ b = wb)) 14 4 iv b → (wb) ≤ b := by
    rintro b ⟨j, hj, hh⟩
    have hj' := of_decide_eq_true (List.all_eq_true.1 (show ((chainOf [(13, 11)] 14 4).all fun j => decide (j ∈ [4])) = true from by kernel_rfl) j hj)
    simp only [List.mem_cons, List.not_mem_nil, or_false] at hj'
    rcases hj' with rfl
    ·
     have q := (hbd.out 4 (mem_of (by kernel_rfl))).1
     rcases hh with hh | ⟨m, hm, hg⟩
     ·
      omega
     ·
      simp at hm
      subst hm
      simp at hg
      have q' := V0f b hg
      omega
   have lo9 : ∀ b, foot [(13, 11)] [(4, 0), (9, 1), (11, 2)] (fun m b => (m = 0 ∧ (wb ≤ b ∧ b < w6.heap.size ∧ own b = 0)) ∨ (m = 1 ∧ (wb ≤ b ∧ b < w6.heap.size ∧ own b = 2)) ∨ (m = 2 ∧ b = wb)) 14 9 iv b → (wb) ≤ b := by
    rintro b ⟨j, hj, hh⟩
    have hj' := of_decide_eq_true (List.all_eq_true.1 (show ((chainOf [(13, 11)] 14 9).all fun j => decide (j ∈ [9])) = true from by kernel_rfl) j hj)
    simp only [List.mem_cons, List.not_mem_nil, or_false] at hj'
    rcases hj' with rfl
    ·
     have q := (hbd.out 9 (mem_of (by kernel_rfl))).1
     rcases hh with hh | ⟨m, hm, hg⟩
     ·
      omega
     ·
      simp at hm
      subst hm
      simp at hg
      have q' := V2f b hg
      omega
   simp only [putFrom, puts]
   have so4 : ∀ b, (foot [(13, 11)] [(4, 0), (9, 1), (11, 2)] (fun m b => (m = 0 ∧ (wb ≤ b ∧ b < w6.heap.size ∧ own b = 0)) ∨ (m = 1 ∧ (wb ≤ b ∧ b < w6.heap.size ∧ own b = 2)) ∨ (m = 2 ∧ b = wb)) 14 4 iv) b → (wb ≤ b ∧ b < w6.heap.size ∧ own b = 0) ∨ (w6).heap.size ≤ b := by
    rintro b ⟨j, hj, hh⟩
    have hj' := of_decide_eq_true (List.all_eq_true.1 (show ((chainOf [(13, 11)] 14 4).all fun j => decide (j ∈ [4])) = true from by kernel_rfl) j hj)
    simp only [List.mem_cons, List.not_mem_nil, or_false] at hj'
    rcases hj' with rfl
    ·
     have q := (hbd.out 4 (mem_of (by kernel_rfl))).1
     rcases hh with hh | ⟨m, hm, hg⟩
     ·
      exact Or.inr (by omega)
     ·
      simp at hm; subst hm; simp at hg; exact Or.inl hg
   have so9 : ∀ b, (foot [(13, 11)] [(4, 0), (9, 1), (11, 2)] (fun m b => (m = 0 ∧ (wb ≤ b ∧ b < w6.heap.size ∧ own b = 0)) ∨ (m = 1 ∧ (wb ≤ b ∧ b < w6.heap.size ∧ own b = 2)) ∨ (m = 2 ∧ b = wb)) 14 9 iv) b → (wb ≤ b ∧ b < w6.heap.size ∧ own b = 2) ∨ (w6).heap.size ≤ b := by
    rintro b ⟨j, hj, hh⟩
    have hj' := of_decide_eq_true (List.all_eq_true.1 (show ((chainOf [(13, 11)] 14 9).all fun j => decide (j ∈ [9])) = true from by kernel_rfl) j hj)
    simp only [List.mem_cons, List.not_mem_nil, or_false] at hj'
    rcases hj' with rfl
    ·
     have q := (hbd.out 9 (mem_of (by kernel_rfl))).1
     rcases hh with hh | ⟨m, hm, hg⟩
     ·
      exact Or.inr (by omega)
     ·
      simp at hm; subst hm; simp at hg; exact Or.inl hg
   have hdis := hsep.out 4 (mem_of (by kernel_rfl)) 9 (mem_of (by kernel_rfl)) (by decide)
   have hd4 := hbd.out 4 (mem_of (by kernel_rfl))
   have hd9 := hbd.out 9 (mem_of (by kernel_rfl))
   rw [h4, h9] at f13
   have HW2 : Hid (WdB wb wx wb (fxW ac nx N (m + 1)) (fyW ac nx N (m + 1)) (.slice (some ⟨g4, 0, none⟩) (m + 1) cap4) (.slice (some ⟨g9, 0, none⟩) (m + 1) cap9)) := by
    show WdB _ _ _ _ _ _ _
    rw [hfx, hfy]
    exact HtAB.out wx _ _ _ _ _ _ hwb6 hSp.out.size f4 f9 (fun b _ h => so4 b h) (fun b _ h => so9 b h) (fun b _ p1 p2 => by
     obtain ⟨j1, u1, v1⟩ := p1
     obtain ⟨j2, u2, v2⟩ := p2
     have u1' := of_decide_eq_true (List.all_eq_true.1 (show ((chainOf [(13, 11)] 14 4).all fun j => decide (j ∈ [4])) = true from by kernel_rfl) j1 u1)
     have u2' := of_decide_eq_true (List.all_eq_true.1 (show ((chainOf [(13, 11)] 14 9).all fun j => decide (j ∈ [9])) = true from by kernel_rfl) j2 u2)
     simp only [List.mem_cons, List.not_mem_nil, or_false] at u1' u2'
     subst u1' u2'
     have hS := hdis
     unfold Sep at hS
     rcases v1 with v1 | ⟨m1, x1, y1⟩ <;> rcases v2 with v2 | ⟨m2, x2, y2⟩
     ·
      omega
     ·
      simp at x2; subst x2; simp at y2; omega
     ·
      simp at x1; subst x1; simp at y1; omega
     ·
      simp at x1 x2; subst x1 x2; simp at y1 y2; omega) f13
   have HB2 := Lib.hid (HB6.out.trans (hB.mono (by omega)))
   clear hd he hbd hsep h0 h1 h2 h3 h5 h6 h7 h8 h10 h12 so4 lo4 f4 so9 lo9 f9 f13 f3 f8 q3 q8 how1 hwl hwlt HtAB V0 V2 V0f V2f K2 hB hSp hdis h4 h9
   have HBf := Lib.hid (HB2.out.mono (show w.heap.size ≤ w2.heap.size from hz2))
   have HBg := Lib.hid (‹Hid (Below w.heap.size w w2)›.out.trans HBf.out)
   obtain ⟨l0, l1, l2, l3, -, -, -, -, ltL⟩ := (HA1.out.below HB2.out).all4
   have hqq := Hq.out
   obtain ⟨hlen', hcap'⟩ := nest_bd hqq
   unfold maxLen at hcap'
   have hnlx : ac.length ≤ nx.length := by have := Hnl.out; omega
   obtain ⟨ub, uo, rfl⟩ := nest_some (f := iiD) hqq (by omega)
   obtain ⟨hul, sn, cn, b0, rb⟩ := nest_sl (g := intsD) hqq Hnr.out
   obtain ⟨rb1, rb2⟩ := nest_bd rb
   unfold maxLen at rb2
   have hjl := (List.getElem?_eq_some_iff.1 hrow).1
   obtain ⟨vb', vo, rfl⟩ := nest_some (f := intsD) rb (by omega)
   obtain ⟨hvl, sr, cr, r0, rr⟩ := nest_sl (g := D.int) rb hrow
   obtain ⟨rr1, rr2⟩ := nest_bd rr
   unfold maxLen at rr2
   have hll2 := (List.getElem?_eq_some_iff.1 hcell).1
   obtain ⟨tb, to', rfl⟩ := nest_some (f := D.int) rr (by omega)
   obtain ⟨htl, q0⟩ := int_in rr hcell
   replace b0 := (HBg.out.cell (p := ⟨ub, uo + stW ac nx N m, none⟩) hul).trans b0
   replace r0 := (HBg.out.cell (p := ⟨vb', vo + j, none⟩) hvl).trans r0
   replace q0 := (HBg.out.cell (p := ⟨tb, to' + l, none⟩) htl).trans q0
   have hj0 := Int.natCast_nonneg j
   have hl0' := Int.natCast_nonneg l
   have hjb : (j : Int) < (nr.length : Int) := by omega
   have hlb : (l : Int) < (row.length : Int) := by omega
   have hsb : (stW ac nx N m : Int) < (nx.length : Int) := by omega
   clear hqq rb rr hrow hcell hul hvl htl
   go_wp2_with fail
   have eq1 : q = N - (m + 1) := by omega
   go_roundw
   case rel => exact ⟨m + 1, _, _, by omega, rfl, by rw [eq1], HW2.out, HB2.out⟩
   case measure => simp [intOf]; omega
end Go.Proofs.Ytbflhjjnemdecaa
