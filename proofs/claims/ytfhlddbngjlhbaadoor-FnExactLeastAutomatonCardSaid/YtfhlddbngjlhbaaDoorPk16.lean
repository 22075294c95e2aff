/-
  Parts of a proof, joined: LeM. No condition.
-/
import Derived.Test.YtfhlddbngjlhbaaDoorPk14
import Derived.Test.YtfhlddbngjlhbaaDoorPk15
namespace Go.Proofs.YtfhlddbngjlhbaaDoor
set_option linter.unusedVariables false
set_option linter.unusedSimpArgs false
open Go.ChangeShapes Go.WideShapes Go.ChangeAt Go.RowKit Go.Deep Go.ChangeMaps Go.MapKept
open Go.Maps (Keyed int_keyed keyOf_int_mk)
theorem clone_bools {bs : List Bool} {s : Option Addr} {c : Nat} {w : World} (hr : Rd w (boolsD bs) (.slice s bs.length c)) (hpos : 0 < bs.length) (h8 : bs.length ≤ 1000000) :
  Calls Tryd.prog 41 #[.slice s bs.length c] w fun e w' => ∃ s' c', e = .returned (.slice s' bs.length c') ∧ Freshs w w' [boolsD bs] [.slice s' bs.length c'] ∧ Below w.heap.size w w' := by
 obtain ⟨b, o, rfl⟩ := nest_some (f := D.bool) hr hpos
 have hn := eql_nil 52 _ (some ⟨b, o, none⟩) bs.length c (Tryd.underlying52)
 have hr1 := hr.alloc (.cells #[] 4)
 go_enter Tryd.func41, Tryd.ntmps41
 go_wp2_with (at_builtin; refine wpList_append_bools0 _ (by rfl) _ _ (by rfl) (by rfl) (by rfl) hr1 (by omega) (by omega) ?_; intro a' cap w1 hf hb1)
 have hB : Below w.heap.size w w1 := (Below.alloc (Below.refl _ _) (Nat.le_refl _) _).trans (hb1.mono (by simp))
 go_wp2_with fail
 go_ret
 exact ⟨a', cap, rfl, hf.from (by simp), hB⟩
theorem kfI_inj (x y : Int) (h : Value.int .i64 x = Value.int .i64 y) : x = y := by simpa using h
theorem lawI : Keyed Tryd.prog 2 := int_keyed Tryd.underlying2
theorem keyI6 {x : Int} (h1 : -1 ≤ x) (h2 : x ≤ 1000) : ∃ l, keyOf Tryd.prog 2 (Value.int .i64 x) = some l := ⟨_, keyOf_int_mk Tryd.underlying2 (by
 have hm : IntKind.i64.min = -9223372036854775808 := rfl
 simp [Lit.wf, hm]
 omega)⟩
def mapJ (L : List Int) : List (Int × Int) := L.zipIdx.map fun p => (p.1, (p.2 : Int))
theorem mapJ_snoc (L : List Int) (d : Int) : mapJ (L ++ [d]) = mapJ L ++ [(d, (L.length : Int))] := by simp [mapJ, List.zipIdx_append]
theorem mapJ_at {L : List Int} {j : Nat} {d : Int} (h : L[j]? = some d) : (mapJ L)[j]? = some (d, (j : Int)) := by
 unfold mapJ
 rw [List.getElem?_map, List.getElem?_zipIdx, h]
 simp
theorem mapJ_keys (L : List Int) : (mapJ L).map (·.1) = L := by
 apply List.ext_getElem?
 intro i
 unfold mapJ
 rw [List.getElem?_map, List.getElem?_map, List.getElem?_zipIdx]
 cases L[i]? <;> rfl
theorem mapJ_in {L : List Int} (hn : ((mapJ L).map (·.1)).Nodup) {d : Int} (h : d ∈ L) : findM (mapJ L) d = some (L.idxOf d : Int) :=
 findM_at hn (mapJ_at (get_idx h))
theorem mapJ_out {L : List Int} {d : Int} (h : d ∉ L) : findM (mapJ L) d = none :=
 findM_none.2 fun p hp e => h (by rw [← mapJ_keys L, ← e]; exact List.mem_map.2 ⟨p, hp, rfl⟩)
def NumJ (g : Nat) (L : List Int) (w : World) : Prop := MapAt Tryd.prog 2 (Value.int .i64) (Value.int .i64) w g (mapJ L)
def LmW (B g gM : Nat) (t a : Int) (w0 wr : World) (f : Int → Int) (S : List Int) (k : Nat) (MA : List (List Bool)) (k' : Nat) (MX : List (List (List Int))) (v0 vA vX : Value) (more : List Item) : Prop :=
 Bun B wr ([.one gM (NumJ gM (S.map f)), .app 2 1 S.length (S.map D.int) v0, .box g 31 [.int .i64 t, .int .i64 a, vA, vX], .app 52 1 k (MA.map boolsD) vA, .app 54 1 k' (MX.map iiD) vX] ++ more) ∧ Below B w0 wr
set_option maxRecDepth 100000 in
set_option maxHeartbeats 16000000 in
theorem least_i {t a : Int} {ac : List (List Bool)} {nx : List (List (List Int))} {s u : Option Addr} {c d : Nat} {w : World} (hr : Rd w (bbD ac) (.slice s ac.length c)) (hq : Rd w (iiiD nx) (.slice u nx.length d)) (hok : AutOk t a ac nx) :
  Calls Tryd.prog 19 #[.agg #[.int .i64 t, .int .i64 a, .slice s ac.length c, .slice u nx.length d]] w fun e w' => ∃ s1 c1 s2 c2, e = .returned (.agg #[.int .i64 t, .int .i64 a, .slice s1 (lsA (lgN ac nx (atomsN t).toNat a.toNat 0) (atomsN t).toNat a.toNat).length c1, .slice s2 (lsX (lgN ac nx (atomsN t).toNat a.toNat 0) (atomsN t).toNat a.toNat).length c2]) ∧
   Freshs w w' (autD (lsA (lgN ac nx (atomsN t).toNat a.toNat 0) (atomsN t).toNat a.toNat) (lsX (lgN ac nx (atomsN t).toNat a.toNat 0) (atomsN t).toNat a.toNat)) [.slice s1 (lsA (lgN ac nx (atomsN t).toNat a.toNat 0) (atomsN t).toNat a.toNat).length c1, .slice s2 (lsX (lgN ac nx (atomsN t).toNat a.toNat 0) (atomsN t).toNat a.toNat).length c2] ∧ Below w.heap.size w w' := by
 obtain ⟨hdm1, hdm2, hdm3, hdm4⟩ := hok.dims
 obtain ⟨ht0, ht3, -, -⟩ := sigB_bd hok.sig
 obtain ⟨hlen, hcap⟩ := nest_bd hr
 obtain ⟨hlen', hcap'⟩ := nest_bd hq
 unfold maxLen at hcap hcap'
 have hn1 := hok.lo
 have hn2 := hok.hi
 have hnl1 : nx.length ≤ ac.length := by rw [hok.len]; exact Nat.le_refl _
 have hnl2 : ac.length ≤ nx.length := by rw [hok.len]; exact Nat.le_refl _
 obtain ⟨sb, so, rfl⟩ := nest_some (f := boolsD) hr (by omega)
 obtain ⟨ub, uo, rfl⟩ := nest_some (f := iiD) hq (by omega)
 have Hrow := Lib.hid (fun (k : Nat) (nr : List (List Int)) (h : nx[k]? = some nr) => hok.row h)
 have hHACC := fun (k : Nat) (ar : List Bool) (h : ac[k]? = some ar) => acc_ls hok h
 have hHSTEP := fun (D : Int) (f : Int → Int) (hc : ClOk ac nx (atomsN t).toNat a.toNat D f) (S : List Int) (i m k : Nat) (s : Int) hS hx hSL hs1 hm hk => ls_step hok hc (S := S) (i := i) (m := m) (k := k) (s := s) hS hx hSL hs1 hm hk
 have hHF := fun (i : Nat) hd => lsL_all hok (i := i) hd
 have hHLENC := fun (i m k : Nat) (x : WL) hx => lsC_len hok (i := i) (m := m) (k := k) (x := x) hx
 have hHIN := fun (i : Nat) (x : WL) hx => prefix_get (lsL_in hok i) (i := i) (x := x) hx
 have hHFD := fun (r : Nat) hc => clsI_ok hok (r := r) hc
 have hcls := fun (wz : World) (hb : Below w.heap.size w wz) => classes_i (hr.below hb) (hq.below hb) hok
 have hHA2 := fun (k : Nat) (x : WL) (hx : (lsF (lgN ac nx (atomsN t).toNat a.toNat 0) (atomsN t).toNat a.toNat)[k]? = some x) => And.intro (map_take_succ (f := accLs (atomsN t).toNat) hx) (map_take_succ (f := rowsR (lsF (lgN ac nx (atomsN t).toNat a.toNat 0) (atomsN t).toNat a.toNat) (atomsN t).toNat a.toNat) hx)
 have hHAL : lsA (lgN ac nx (atomsN t).toNat a.toNat 0) (atomsN t).toNat a.toNat = (lsF (lgN ac nx (atomsN t).toNat a.toNat 0) (atomsN t).toNat a.toNat).map (accLs (atomsN t).toNat) := rfl
 have hHXL : lsX (lgN ac nx (atomsN t).toNat a.toNat 0) (atomsN t).toNat a.toNat = (lsF (lgN ac nx (atomsN t).toNat a.toNat 0) (atomsN t).toNat a.toNat).map (rowsR (lsF (lgN ac nx (atomsN t).toNat a.toNat 0) (atomsN t).toNat a.toNat) (atomsN t).toNat a.toNat) := rfl
 obtain ⟨n, rfl⟩ : ∃ n : Nat, a = (n : Int) := ⟨a.toNat, by omega⟩
 obtain ⟨A, hA⟩ : ∃ A, (atomsN t).toNat = A := ⟨_, rfl⟩
 have hAe : atomsN t = (A : Int) := by omega
 have hA8 : A ≤ 8 := by omega
 have hA0 : 1 ≤ A := by omega
 have hn4 : n ≤ 4 := by omega
 rw [hA, Int.toNat_natCast] at hHACC hHSTEP hHF hHLENC hHIN hHFD hHA2 hHAL hHXL hcls ⊢
 obtain ⟨LG, hLG⟩ : ∃ LG, lgN ac nx A n = LG := ⟨_, rfl⟩
 rw [hLG] at hHACC hHSTEP hHF hHLENC hHIN hHA2 hHAL hHXL ⊢
 obtain ⟨PF, hPF⟩ : ∃ PF, lsF (LG 0) A n = PF := ⟨_, rfl⟩
 rw [hPF] at hHSTEP hHF hHIN hHA2 hHAL hHXL
 obtain ⟨FA, hFA⟩ : ∃ FA, PF.map (accLs A) = FA := ⟨_, rfl⟩
 obtain ⟨FX, hFX⟩ : ∃ FX, PF.map (rowsR PF A n) = FX := ⟨_, rfl⟩
 have HlA : Hid (FA.length = PF.length) := by show _ = _; rw [← hFA, List.length_map]
 have HlX : Hid (FX.length = PF.length) := by show _ = _; rw [← hFX, List.length_map]
 rw [hFA] at hHAL hHA2
 rw [hFX] at hHXL hHA2
 rw [hHAL, hHXL]
 have HACC := Lib.hid hHACC
 have HSTEP := Lib.hid hHSTEP
 have HF := Lib.hid hHF
 have HLENC := Lib.hid hHLENC
 have HIN := Lib.hid hHIN
 have HFD := Lib.hid hHFD
 have HA2 := Lib.hid hHA2
 have HAe := Lib.hid hAe
 have Hok := Lib.hid hok
 have Hr := Lib.hid hr
 have Hq := Lib.hid hq
 have L0 := Blk.new4 w 31 (.int .i64 t) (.int .i64 (n : Int)) (.slice (some ⟨sb, so, none⟩) ac.length c) (.slice (some ⟨ub, uo, none⟩) nx.length d)
 have hb0 : Below w.heap.size w (w.alloc (.cells #[.int .i64 t, .int .i64 (n : Int), .slice (some ⟨sb, so, none⟩) ac.length c, .slice (some ⟨ub, uo, none⟩) nx.length d] 31)) := Below.alloc (Below.refl _ _) (Nat.le_refl _) _
 have hz0 : (w.alloc (.cells #[.int .i64 t, .int .i64 (n : Int), .slice (some ⟨sb, so, none⟩) ac.length c, .slice (some ⟨ub, uo, none⟩) nx.length d] 31)).heap.size = w.heap.size + 1 := by simp
 have Hak := Lib.hid (fun (k : Nat) (ar : List Bool) (h : ac[k]? = some ar) => hok.acc_row h)
 clear hLG hPF hFA hFX hHAL hHXL hok hr hq hHACC hHSTEP hHF hHLENC hHIN hHFD hHA2 hA hAe hdm1 hdm2 hdm3 hdm4
 go_enter Tryd.func19, Tryd.ntmps19
 go_upto_region 1 with fail
 generalize w.alloc (.cells #[.int .i64 t, .int .i64 (n : Int), .slice (some ⟨sb, so, none⟩) ac.length c, .slice (some ⟨ub, uo, none⟩) nx.length d] 31) = w1 at L0 hb0 hz0 ⊢
 obtain ⟨w2, e2, R, hb2, hz2⟩ := box4 w1 31 (.int .i64 0) (.int .i64 0) (.slice none 0 0) (.slice none 0 0)
 rw [hz0] at R
 rw [e2]
 have hb12 := hb0.trans (hb2.mono (by omega))
 have L2 := L0.below hb2
 obtain ⟨l0, l1, l2, l3, -, -, -, -, ltL⟩ := L2.all4
 clear e2 hb0 hb2 L0
 have hw22 : w.heap.size + 2 ≤ w2.heap.size := by omega
 clear hz0 hz2
 go_wp2_with fail
 refine (hcls w2 hb12).mono ?_
 rintro e wc ⟨r, sc, cc, rfl, hcnt, hfc, hbc⟩
 have hcl := HFD.out r hcnt
 have hOl := oL_len (ac := ac) (nx := nx) (A := A) (a := n) (r := r + 1)
 have hOa := fun (z : Nat) (h1 : z < ac.length) => oL_at (ac := ac) (nx := nx) (A := A) (a := n) (r := r + 1) h1
 have hOs := oL_sm (ac := ac) (nx := nx) (A := A) (a := n) (r := r + 1) hn2
 obtain ⟨C, hC⟩ : ∃ C, oL ac nx A n (r + 1) = C := ⟨_, rfl⟩
 obtain ⟨f, hf⟩ : ∃ f, clsI ac nx A n (r + 1) = f := ⟨_, rfl⟩
 rw [hC] at hOl hOs hfc
 rw [hf] at hcl
 have hEa : ∀ z : Nat, z < ac.length → C[z]? = some (f (z : Int)) := fun z h1 => by have h := hOa z h1; rw [hC, hf] at h; exact h
 have HEa := Lib.hid hEa
 have Hcl := Lib.hid hcl
 have hrc := hfc.rd
 have HCr := Lib.hid hrc
 have HOs := Lib.hid hOs
 have hwc : Below w.heap.size w wc := hb12.trans (hbc.mono (by omega))
 obtain ⟨cb, co, rfl⟩ := nest_some (f := D.int) hrc (by rw [hOl]; omega)
 obtain ⟨k1, k2⟩ := nest_bd (f := D.int) hrc
 unfold maxLen at k2
 have Hwc := Lib.hid hwc
 have HR := Lib.hid (R.below hbc)
 have HL := Lib.hid (L2.below hbc)
 have hzc : w.heap.size + 2 ≤ wc.heap.size := by have := hbc.size; omega
 have hBc : wc.heap.size ≤ wc.heap.size := Nat.le_refl _
 obtain ⟨gM, hgM⟩ : ∃ gM, wc.heap.size = gM := ⟨_, rfl⟩
 have hM0 : MapAt Tryd.prog 2 (Value.int .i64) (Value.int .i64) (wc.alloc (.map #[] 0)) wc.heap.size ([] : List (Int × Int)) := MapAt.made wc
 have hb5 : Below wc.heap.size wc (wc.alloc (.map #[] 0)) := Below.alloc (Below.refl _ _) (Nat.le_refl _) _
 have hz5 : (wc.alloc (.map #[] 0)).heap.size = wc.heap.size + 1 := by simp
 have x0 : (wc.alloc (.map #[] 0)).cell? ⟨cb, co, none⟩ = some (.int .i64 (f 0)) := (int_in (hrc.below hb5) (hEa 0 (by omega))).2
 have hf0 := hOs (f 0) (List.mem_of_getElem? (hEa 0 (by omega)))
 have hkey0 := keyI6 (x := f 0) (by have := hf0.1; omega) (by have := hf0.2; omega)
 have hN1 : (0 : Int) < ((ac.length + 1 : Nat) : Int) := by omega
 have hBunM := (Bun.nil (B := wc.heap.size) (w := wc)).push_one (P := NumJ gM []) (Nat.le_refl _) hb5 (by simp) (fun w1 h1 => by unfold NumJ; rw [← hgM]; exact hM0.keep h1)
 have hmm := @run_makeMap Tryd.prog
 clear hcls HFD hcnt hcl hOl hOa hOs hEa hC hf hfc hrc hbc R hwc l0 l1 l2 l3 ltL L2
 go_upto_region 2 with fail
 rw [hgM] at hM0 hBunM
 go_wp2_with (refine wpList_insert_at _ rfl _ _ _ 64 rfl 2 2 lawI Tryd.underlying64 kfI_inj gM hM0 (f 0) hkey0 0 rfl rfl rfl ?_; intro w6 hM6 ho6; have hz6 := ho6.size; have hB6 : Below wc.heap.size wc w6 := hb5.trans ⟨ho6.os, ho6.tape, ho6.output, ho6.size, fun b hb => ho6.block b (by omega) (by simp <;> omega)⟩; have hw3 : Below w6.heap.size w6 (w6.alloc (.cells #[.int .i64 0] 2)) := Below.alloc (Below.refl _ _) (Nat.le_refl _) _; obtain ⟨p0, p1, -, -, -, -, -, -, ltP⟩ := ((HL.out.below hB6).below hw3).all4; have HM6 := Lib.hid hM6; have Ho6 := Lib.hid ho6; have HB6 := Lib.hid hB6; clear hM6 ho6 hB6 hw3)
 clear p0 p1 ltP hmm hkey0 x0
 have hz6' : gM + 1 ≤ w6.heap.size := by omega
 have hBun6 := hBunM.turn_one (Q := NumJ gM [f 0]) 0 rfl Ho6.out (fun w1 h1 => (mapAt_of HM6.out (show putM [] (f 0) (0 : Int) = mapJ [f 0] from rfl)).keep h1)
 have hB1 := bun_zero hBun6 (by omega) (t := 2) (v := 0)
 have hB3 := (((hB1.push_box (by simp <;> omega) 31 #[.int .i64 t, .int .i64 (n : Int), .slice none 0 0, .slice none 0 0])).push_nil 52 1).push_nil 54 1
 have hbe : Below gM wc _ := ((HB6.out.mono (by omega : gM ≤ wc.heap.size)).alloc (by omega) (.cells #[.int .i64 0] 2)).alloc (by simp <;> omega) (.cells #[.int .i64 t, .int .i64 (n : Int), .slice none 0 0, .slice none 0 0] 31)
 rw [show (w6.alloc (.cells #[.int .i64 0] 2)).heap.size = w6.heap.size + 1 by simp] at hB3
 obtain ⟨gA, hg⟩ : ∃ gA, w6.heap.size + 1 = gA := ⟨_, rfl⟩
 rw [hg] at hB3 ⊢
 have hgw : gM ≤ gA := by omega
 have hgc : gM ≤ wc.heap.size := by omega
 replace hBc : wc.heap.size ≤ gM := by omega
 have Hst : Hid (LmW gM gA gM t (n : Int) wc _ f [0] 0 (FA.take 0) 0 (FX.take 0) (.slice (some ⟨w6.heap.size, 0, none⟩) 1 1) (.slice none 0 0) (.slice none 0 0) []) := ⟨by simpa using hB3, hbe⟩
 clear hB1 hB3 hbe hg hgM hBun6 hBunM hM0 hb5 hz5
 go_loopw [5, 7] (fun v0 i wr => ∃ (k : Nat) (S : List Int) (vA vX : Value), i = .int .i64 k ∧ StIn ac.length S ∧ Hid (S.map LG = lsL (LG 0) A n k) ∧ k ≤ S.length ∧ S.length ≤ 60 ∧ LmW gM gA gM t (n : Int) wc wr f S k (FA.take k) k (FX.take k) v0 vA vX []) (fun _ i _ => 61 - (intOf i).toNat)
 case atStart => exact ⟨0, [0], _, _, rfl, stB_in hn1, rfl, by omega, by simp, Hst.out⟩
 case round =>
  clear Hst
  obtain ⟨ri, S, vA, vX, rfl, hS, HL0, hil, hl60, hW⟩ := hrel
  obtain ⟨wo, rfl⟩ : ∃ v, v = wr := ⟨_, rfl⟩
  obtain ⟨a0, c0, rfl, q1, q2⟩ := hW.1.shape 1 rfl
  obtain ⟨aA, cA, rfl, q5, q6⟩ := hW.1.shape 3 rfl
  obtain ⟨aX, cX, rfl, q7, q8⟩ := hW.1.shape 4 rfl
  unfold maxLen at q2 q6 q8
  have hi0 := Int.natCast_nonneg ri
  have hzo := hW.2.size
  have HW := Lib.hid hW
  have HS := Lib.hid hS
  by_cases hlt : ri < S.length
  rotate_left
  ·
   -- dev(
   obtain rfl : ri = S.length := by omega
   have HPL : Hid (PF = lsL (LG 0) A n S.length) := (HF.out S.length (by rw [← HL0.out]; simp)).symm
   have HPn : Hid (PF.length = S.length) := by show _ = _; rw [HPL.out, ← HL0.out, List.length_map]
   have HFr := Lib.hid (hW.1.fresh2 (W := wc) hBc 3 4 (by decide) rfl rfl)
   rw [List.take_of_length_le (by rw [HlA.out, HPn.out]; exact Nat.le_refl _), List.take_of_length_le (by rw [HlX.out, HPn.out]; exact Nat.le_refl _)] at HFr
   obtain ⟨x0, x1, x2, x3, -, -, -, -, ltx⟩ := (hW.1.box 2 rfl).1.all4
   have R := HR.out.below (hW.2.mono hBc)
   have hB : Below w.heap.size w wo := Hwc.out.trans (hW.2.mono (by omega))
   clear hW hS HW
   obtain ⟨r0, r1, r2, r3, z0, z1, z2, z3, ltR⟩ := R.all4
   go_wp2_with fail
   obtain ⟨w5, e5, T2, hs5⟩ := set4 R (.int .i64 t) (.int .i64 (n : Int)) (.slice aA S.length cA) (.slice aX S.length cX)
   rw [e5]
   clear e5 r0 r1 r2 r3 z0 z1 z2 z3 ltR
   obtain ⟨t0, t1, t2, t3, -, -, -, -, -⟩ := T2.all4
   have hzB5 := hB.size
   have hB5 := hB.trans (hs5.below (B := w.heap.size) (by omega) (fun y hy => by omega))
   refine bodyPost_ret (v := .agg #[.int .i64 t, .int .i64 (n : Int), .slice aA S.length cA, .slice aX S.length cX]) (by simp [results, Tryd.results19, go_sem, t0, t1, t2, t3]) rfl ?_
   have hf := (HFr.out.keep fun b hb1 hb2 => hs5.block b hb2 (fun hy => by omega)).from (w0 := w) (by omega)
   rw [HlA.out, HlX.out, HPn.out]
   refine ⟨aA, cA, aX, cX, rfl, ?_, hB5⟩
   show Freshs _ _ [.sl 1 FA.length _, .sl 1 FX.length _] _
   rw [HlA.out, HlX.out, HPn.out]
   exact hf
   -- dev)
  obtain ⟨sz, hsz⟩ : ∃ e, S[ri]? = some e := ⟨_, List.getElem?_eq_getElem hlt⟩
  obtain ⟨hs0, hs1⟩ := hS sz (List.mem_of_getElem? hsz)
  obtain ⟨sn, rfl⟩ : ∃ sn : Nat, sz = (sn : Int) := ⟨sz.toNat, by omega⟩
  have HX : Hid ((lsL (LG 0) A n ri)[ri]? = some (LG (sn : Int))) := by show _ = _; rw [← HL0.out, List.getElem?_map, hsz]; rfl
  obtain ⟨ar, har⟩ : ∃ e, ac[sn]? = some e := ⟨_, List.getElem?_eq_getElem (by omega)⟩
  obtain ⟨nr, hnr⟩ : ∃ e, nx[sn]? = some e := ⟨_, List.getElem?_eq_getElem (by omega)⟩
  have Har := Lib.hid har
  have Hnr := Lib.hid hnr
  have HACe := Lib.hid (HACC.out sn ar har)
  obtain ⟨l1, l2⟩ := Hrow.out sn nr hnr
  have hnA1 : nr.length ≤ A := by have := HAe.out; omega
  have hnA2 : A ≤ nr.length := by have := HAe.out; omega
  have hal := Hak.out sn ar har
  have har1 : ar.length ≤ A := by have := HAe.out; omega
  have har2 : A ≤ ar.length := by have := HAe.out; omega
  have Hl2 := Lib.hid l2
  have hFs := HA2.out ri _ (HIN.out ri _ HX.out)
  rw [← HACe.out] at hFs
  have HRt := Lib.hid (fun (m : Nat) (hm : m < A) => rowsR_take (L := PF) (a := n) (l := LG (sn : Int)) hm)
  have HRl0 : Hid ((rowsR PF A n (LG (sn : Int))).length = A) := rowsR_len
  obtain ⟨RW, hRW⟩ : ∃ RW, rowsR PF A n (LG (sn : Int)) = RW := ⟨_, rfl⟩
  rw [hRW] at hFs HRt HRl0
  have HFs := Lib.hid hFs
  have hil2 : (ri : Int) < (S.length : Int) := by omega
  have hr1 := hW.1.rd 1 rfl
  obtain ⟨fb, fo, rfl⟩ := nest_some (f := D.int) (xs := S) hr1 (by omega)
  obtain ⟨-, v0⟩ := int_in (zs := S) hr1 hsz
  have hsb : (sn : Int) < (nx.length : Int) := by omega
  have hsc : (sn : Int) < (ac.length : Int) := by omega
  have hw5 : Below wo.heap.size wo (wo.alloc (.cells #[] 58)) := Below.alloc (Below.refl _ _) (Nat.le_refl _) _
  obtain ⟨p0, p1, -, -, -, -, -, -, ltP⟩ := ((HL.out.below (hW.2.mono hBc)).below hw5).all4
  have hB3 := hW.1.push_empty (by omega) 58 1
  have hbe3 := hW.2.alloc (by omega) (.cells #[] 58)
  clear hW hS l1 l2 hal hRW hFs har hnr hr1 hsz
  go_wp2_with fail
  refine (atomsIn_i ht0 ht3).mono ?_
  rintro e w5 ⟨rfl, hb5⟩
  rw [HAe.out]
  have hst : Hid (LmW gM gA gM t (n : Int) wc w5 f S ri (FA.take ri) ri (FX.take ri) (.slice (some ⟨fb, fo, none⟩) S.length c0) (.slice aA ri cA) (.slice aX ri cX) [.app 58 1 0 ((RW.take 0).map intsD) (.slice (some ⟨wo.heap.size, 0, none⟩) 0 0)]) := ⟨by simpa using hB3.below hb5, hbe3.trans (hb5.mono (by simp <;> omega))⟩
  have HL1 : Hid (S.map LG = lsC (LG 0) A n ri (LG (sn : Int)) 0 0) := by show _ = _; rw [lsC_zero, HL0.out]
  clear hB3 hbe3 HW HL0 v0 p0 p1 ltP hw5 hb5
  go_wp2_with fail
  go_loopw [5, 9, 41] (fun v0 v9 j wr => ∃ (m : Nat) (S : List Int), j = .int .i64 m ∧ m ≤ A ∧ StIn ac.length S ∧ Hid (S.map LG = lsC (LG 0) A n ri (LG (sn : Int)) m 0) ∧ ri < S.length ∧ S.length ≤ 60 ∧ LmW gM gA gM t (n : Int) wc wr f S ri (FA.take ri) ri (FX.take ri) v0 (.slice aA ri cA) (.slice aX ri cX) [.app 58 1 m ((RW.take m).map intsD) v9]) (fun _ _ j _ => A - (intOf j).toNat)
  case atStart => exact ⟨0, S, rfl, by omega, HS.out, HL1, hlt, hl60, hst.out⟩
  case round =>
   clear hst HL1 q1 q2 HS hlt hl60 hil hil2 hzo
   obtain ⟨m, S, rfl, hm, hS, HL0, hlt, hl60, hW⟩ := hrel
   obtain ⟨wm, rfl⟩ : ∃ v, v = wr := ⟨_, rfl⟩
   obtain ⟨a0, c0, rfl, q1, q2⟩ := hW.1.shape 1 rfl
   obtain ⟨a5, c5, rfl, q9, q10⟩ := hW.1.shape 5 rfl
   unfold maxLen at q2 q10
   have HW := Lib.hid hW
   have HS := Lib.hid hS
   have hzm := hW.2.size
   have hm0 := Int.natCast_nonneg m
   have hwm : Below w.heap.size w wm := Hwc.out.trans (hW.2.mono (by omega))
   by_cases hml : m < A
   rotate_left
   ·
    -- dev(
    obtain rfl : A = m := by omega
    have HEL : Hid (S.map LG = lsL (LG 0) A n (ri + 1)) := by show _ = _; rw [HL0.out, lsC_all HX.out]
    have HEX : Hid ((FX.take (ri + 1)).map iiD = (FX.take ri).map iiD ++ [D.sl 1 A ((RW.take A).map intsD)]) := by
     show _ = _
     rw [List.take_of_length_le (l := RW) (by rw [HRl0.out]; exact Nat.le_refl _)]
     exact fin_rows HFs.out.2 rfl HRl0.out
    have HEA : Hid ((FA.take (ri + 1)).map boolsD = (FA.take ri).map boolsD ++ [boolsD ar]) := by show _ = _; rw [HFs.out.1, List.map_append]; rfl
    obtain ⟨hsl, sr, cr, ra0, rr0⟩ := nest_sl (g := D.bool) Hr.out Har.out
    obtain ⟨own, hown⟩ := hW.1
    have V0 := hown 3 _ rfl
    have K2 := (hown 2 _ rfl).2
    have hgo : own gA = 2 := (hown 2 _ rfl).1.2.2
    have V0f := fun (b : Nat) (h : gM ≤ b ∧ b < wm.heap.size ∧ own b = 3) => And.intro h.1 h.2.1
    have Hown := Lib.hid hown
    obtain ⟨lw, hlw⟩ : ∃ lw, w.heap.size = lw := ⟨_, rfl⟩
    have hlwc : lw < wc.heap.size := by omega
    rw [hlw] at HL
    have hzn := hzm
    clear hown HL0 HX HACe HRt HFs HRl0 HLENC HIN HA2 HF HACC Hrow HSTEP Hcl HOs HEa HCr Hl2 Hnr HlA HlX hW hS
    go_wp2_with fail
    rw [hlw]
    have hGb : ∀ m b, (fun m b => (m = 0 ∧ (gM ≤ b ∧ b < wm.heap.size ∧ own b = 3)) ∨ (m = 1 ∧ b = gA)) m b → (gM) ≤ b ∧ b < (wm).heap.size := by
     intro m b hg
     rcases hg with ⟨rfl, hg⟩ | ⟨rfl, hg⟩
     ·
      have q := V0f b hg
      omega
     ·
      subst hg
      have q := K2.lt
      omega
    have hGd : ∀ m m' b, (fun m b => (m = 0 ∧ (gM ≤ b ∧ b < wm.heap.size ∧ own b = 3)) ∨ (m = 1 ∧ b = gA)) m b → (fun m b => (m = 0 ∧ (gM ≤ b ∧ b < wm.heap.size ∧ own b = 3)) ∨ (m = 1 ∧ b = gA)) m' b → m = m' := by
     intro m1 m2 b h h'
     rcases h with ⟨rfl, h⟩ | ⟨rfl, h⟩ <;> rcases h' with ⟨rfl, h'⟩ | ⟨rfl, h'⟩ <;> first
      | rfl
      | (exfalso; rw [h] at h'; have q1 := h'.2.2; omega)
      | (exfalso; rw [h'] at h; have q1 := h.2.2; omega)
    refine region_rs [(9, 7)] [(9, 0), (11, 1)] (fun m b => (m = 0 ∧ (gM ≤ b ∧ b < wm.heap.size ∧ own b = 3)) ∨ (m = 1 ∧ b = gA)) (gM) (fun i iv vs wx => match i with
     | 0 => vs 0 = .pointer (some ⟨gA, 2, none⟩)
     | 1 => vs 1 = .slice aA ri cA
     | 2 => vs 2 = .pointer (some ⟨lw, 2, none⟩)
     | 3 => vs 3 = .slice (some ⟨sb, so, none⟩) ac.length c
     | 4 => vs 4 = .int .i64 sn
     | 5 => vs 5 = .pointer (some ⟨sb, so + sn, none⟩)
     | 6 => vs 6 = .slice sr ar.length cr
     | 7 => ∃ a7 c7, vs 7 = .slice a7 ar.length c7 ∧ FreshIn (iv 7) wx [boolsD ar] [.slice a7 ar.length c7]
     | 8 => vs 8 = .slice (some ⟨(iv 8).1, 0, none⟩) 1 1 ∧ (iv 8).2 = (iv 8).1 + 1 ∧ Blk wx (iv 8).1 52 [vs 7]
     | 9 => ∃ g cap, vs 9 = .slice (some ⟨g, 0, none⟩) (ri + 1) cap ∧ AppS (foot [(9, 7)] [(9, 0), (11, 1)] (fun m b => (m = 0 ∧ (gM ≤ b ∧ b < wm.heap.size ∧ own b = 3)) ∨ (m = 1 ∧ b = gA)) 12 9 iv) wx 52 1 (ri + 1) ((FA.take ri).map boolsD ++ [boolsD ar]) (.slice (some ⟨g, 0, none⟩) (ri + 1) cap)
     | 10 => vs 10 = .pointer (some ⟨gA, 2, none⟩)
     | 11 => Blk wx (gA) 31 [.int .i64 t, .int .i64 n, vs 9, .slice aX ri cX]
     | _ => True) (fun i iv vs => match i with
     | 0 => vs 0 = .pointer (some ⟨gA, 2, none⟩)
     | 1 => vs 1 = .slice aA ri cA
     | 2 => vs 2 = .pointer (some ⟨lw, 2, none⟩)
     | 3 => vs 3 = .slice (some ⟨sb, so, none⟩) ac.length c
     | 4 => vs 4 = .int .i64 sn
     | 5 => vs 5 = .pointer (some ⟨sb, so + sn, none⟩)
     | 6 => vs 6 = .slice sr ar.length cr
     | 7 => ∃ a7 c7, vs 7 = .slice a7 ar.length c7
     | 8 => vs 8 = .slice (some ⟨(iv 8).1, 0, none⟩) 1 1 ∧ (iv 8).2 = (iv 8).1 + 1
     | 9 => ∃ g cap, vs 9 = .slice (some ⟨g, 0, none⟩) (ri + 1) cap
     | 10 => vs 10 = .pointer (some ⟨gA, 2, none⟩)
     | 11 => True
     | _ => True) (by kernel_rfl) (by kernel_rfl) [0, 1, 2, 3, 4, 5, 6, 7, 8, 9, 10, 11] (by kernel_rfl) ?hbase ?hGb ?hG ?hJ ?hE ?hEE ?hstep ?hQ
    case hbase => first | exact Nat.le_refl _ | omega | (simp; omega)
    case hGb =>
     exact hGb
    case hG =>
     exact hGd
    case hJ =>
     intro i hi iv iv' vs vs' wx wx' ha hv hz hk hj
     simp only [List.mem_cons, List.not_mem_nil, or_false] at hi
     rcases hi with rfl | rfl | rfl | rfl | rfl | rfl | rfl | rfl | rfl | rfl | rfl | rfl
     ·
      exact (hv.out 0 (mem_of (by kernel_rfl))).symm.trans hj
     ·
      exact (hv.out 1 (mem_of (by kernel_rfl))).symm.trans hj
     ·
      exact (hv.out 2 (mem_of (by kernel_rfl))).symm.trans hj
     ·
      exact (hv.out 3 (mem_of (by kernel_rfl))).symm.trans hj
     ·
      exact (hv.out 4 (mem_of (by kernel_rfl))).symm.trans hj
     ·
      exact (hv.out 5 (mem_of (by kernel_rfl))).symm.trans hj
     ·
      exact (hv.out 6 (mem_of (by kernel_rfl))).symm.trans hj
     ·
      have e7 := hv.out 7 (mem_of (by kernel_rfl))
      have g7 := ha.out 7 (mem_of (by kernel_rfl))
      obtain ⟨a7, c7, q1, q2⟩ := hj
      exact ⟨a7, c7, e7 ▸ q1, g7 ▸ q2.keep (fun b hb h1 h2 => hk.out b hb (foot_own h1 h2))⟩
     ·
      have e7 := hv.out 7 (mem_of (by kernel_rfl))
      have e8 := hv.out 8 (mem_of (by kernel_rfl))
      have g8 := ha.out 8 (mem_of (by kernel_rfl))
      obtain ⟨q1, q3, q2⟩ := hj
      show vs' 8 = .slice (some ⟨(iv' 8).1, 0, none⟩) 1 1 ∧ (iv' 8).2 = (iv' 8).1 + 1 ∧ Blk wx' (iv' 8).1 52 [vs' 7]
      rw [← e7, ← e8, ← g8]
      exact ⟨q1, q3, q2.keep (hk.out _ q2.lt (foot_own (Nat.le_refl _) (by omega)))⟩
     ·
      have e9 := hv.out 9 (mem_of (by kernel_rfl))
      obtain ⟨g, cap, q1, q2⟩ := hj
      exact ⟨g, cap, e9 ▸ q1, (q2.keep (fun b hb h1 => hk.out b hb h1)).more (fun b hb h1 => foot_agree (l := ancs _ 12 9) (by exact of_decide_eq_true (by kernel_rfl)) ha.out h1)⟩
     ·
      exact (hv.out 10 (mem_of (by kernel_rfl))).symm.trans hj
     ·
      have e9 := hv.out 9 (mem_of (by kernel_rfl))
      have hj' : Blk wx (gA) 31 [.int .i64 t, .int .i64 n, vs 9, .slice aX ri cX] := hj
      show Blk wx' (gA) 31 [.int .i64 t, .int .i64 n, vs' 9, .slice aX ri cX]
      rw [← e9]
      exact hj'.keep (hk.out _ hj'.lt (foot_given 1 (by decide) (Or.inr ⟨rfl, rfl⟩)))
    case hE =>
     intro i hi iv vs wx hj
     simp only [List.mem_cons, List.not_mem_nil, or_false] at hi
     rcases hi with rfl | rfl | rfl | rfl | rfl | rfl | rfl | rfl | rfl | rfl | rfl | rfl
     ·
      exact hj
     ·
      exact hj
     ·
      exact hj
     ·
      exact hj
     ·
      exact hj
     ·
      exact hj
     ·
      exact hj
     ·
      obtain ⟨a7, c7, q1, -⟩ := hj
      exact ⟨a7, c7, q1⟩
     ·
      exact ⟨hj.1, hj.2.1⟩
     ·
      obtain ⟨g, cap, q1, -⟩ := hj
      exact ⟨g, cap, q1⟩
     ·
      exact hj
     ·
      trivial
    case hEE =>
     intro i hi iv iv' vs vs' ha hv hj
     simp only [List.mem_cons, List.not_mem_nil, or_false] at hi
     rcases hi with rfl | rfl | rfl | rfl | rfl | rfl | rfl | rfl | rfl | rfl | rfl | rfl
     ·
      exact (hv.out 0 (mem_of (by kernel_rfl))).symm.trans hj
     ·
      exact (hv.out 1 (mem_of (by kernel_rfl))).symm.trans hj
     ·
      exact (hv.out 2 (mem_of (by kernel_rfl))).symm.trans hj
     ·
      exact (hv.out 3 (mem_of (by kernel_rfl))).symm.trans hj
     ·
      exact (hv.out 4 (mem_of (by kernel_rfl))).symm.trans hj
     ·
      exact (hv.out 5 (mem_of (by kernel_rfl))).symm.trans hj
     ·
      exact (hv.out 6 (mem_of (by kernel_rfl))).symm.trans hj
     ·
      have e7 := hv.out 7 (mem_of (by kernel_rfl))
      have hj' : ∃ a7 c7, vs 7 = .slice a7 ar.length c7 := hj
      show ∃ a7 c7, vs' 7 = .slice a7 ar.length c7
      rw [← e7]
      exact hj'
     ·
      have e8 := hv.out 8 (mem_of (by kernel_rfl))
      have g8 := ha.out 8 (mem_of (by kernel_rfl))
      have hj' : vs 8 = .slice (some ⟨(iv 8).1, 0, none⟩) 1 1 ∧ (iv 8).2 = (iv 8).1 + 1 := hj
      show vs' 8 = .slice (some ⟨(iv' 8).1, 0, none⟩) 1 1 ∧ (iv' 8).2 = (iv' 8).1 + 1
      rw [← e8, ← g8]
      exact hj'
     ·
      have e9 := hv.out 9 (mem_of (by kernel_rfl))
      have hj' : ∃ g cap, vs 9 = .slice (some ⟨g, 0, none⟩) (ri + 1) cap := hj
      show ∃ g cap, vs' 9 = .slice (some ⟨g, 0, none⟩) (ri + 1) cap
      rw [← e9]
      exact hj'
     ·
      exact (hv.out 10 (mem_of (by kernel_rfl))).symm.trans hj
     ·
      trivial
    case hstep =>
     intro i hi opr ho iv vs w1 hB hS hSo hd he hbd hsep hun K hK
     simp only [List.mem_cons, List.not_mem_nil, or_false] at hi
     have hzB := hB.size
     have HGb := Lib.hid hGb
     clear hGb hGd
     have hBw1 : Below w.heap.size w w1 := Hwc.out.trans ((HW.out.2.trans hB).mono (by omega))
     have k2' := (HL.out.below ((HW.out.2.trans hB).mono hBc)).c2
     have ra1 := (hBw1.cell (p := ⟨sb, so + sn, none⟩) hsl).trans ra0
     have rr1 := rr0.below hBw1
     generalize hA : putFrom _ 0 vs _ = A at hK ⊢
     simp only [putFrom, puts] at hA
     rcases hi with rfl | rfl | rfl | rfl | rfl | rfl | rfl | rfl | rfl | rfl | rfl | rfl
     all_goals
      simp at ho
      subst ho
      subst hA
     ·
      go_wp2_with fail
      exact Onward.mk (hK (.pointer (some ⟨gA, 2, none⟩)) _ _ (fun h => by cases h) (by first | rfl | (simp only [puts])) (Spares.refl _) (fun iv' _ _ => rfl))
     ·
      have h0 : vs 0 = .pointer (some ⟨gA, 2, none⟩) := hd.out 0 (mem_of (by kernel_rfl)) (by decide) (by kernel_rfl)
      have K21 := K2.keep (hS.out 1 _ (by kernel_rfl) (Or.inr ⟨rfl, rfl⟩))
      have k2c0 := K21.c0
      have k2z0 := K21.frozen 0
      have k2c1 := K21.c1
      have k2z1 := K21.frozen 1
      have k2c2 := K21.c2
      have k2z2 := K21.frozen 2
      have k2c3 := K21.c3
      have k2z3 := K21.frozen 3
      have k2lt := K21.lt
      go_wp2_with fail
      exact Onward.mk (hK (.slice aA ri cA) _ _ (fun h => by cases h) (by first | rfl | (simp only [puts, h0])) (Spares.refl _) (fun iv' _ _ => rfl))
     ·
      go_wp2_with fail
      exact Onward.mk (hK (.pointer (some ⟨lw, 2, none⟩)) _ _ (fun h => by cases h) (by first | rfl | (simp only [puts])) (Spares.refl _) (fun iv' _ _ => rfl))
     ·
      have h2 : vs 2 = .pointer (some ⟨lw, 2, none⟩) := hd.out 2 (mem_of (by kernel_rfl)) (by decide) (by kernel_rfl)
      go_wp2_with fail
      exact Onward.mk (hK (.slice (some ⟨sb, so, none⟩) ac.length c) _ _ (fun h => by cases h) (by first | rfl | (simp only [puts, h2])) (Spares.refl _) (fun iv' _ _ => rfl))
     ·
      go_wp2_with fail
      exact Onward.mk (hK (.int .i64 sn) _ _ (fun h => by cases h) (by first | rfl | (simp only [puts])) (Spares.refl _) (fun iv' _ _ => rfl))
     ·
      have h3 : vs 3 = .slice (some ⟨sb, so, none⟩) ac.length c := hd.out 3 (mem_of (by kernel_rfl)) (by decide) (by kernel_rfl)
      have h4 : vs 4 = .int .i64 sn := hd.out 4 (mem_of (by kernel_rfl)) (by decide) (by kernel_rfl)
      go_wp2_with fail
      exact Onward.mk (hK (.pointer (some ⟨sb, so + sn, none⟩)) _ _ (fun h => by cases h) (by first | rfl | (simp only [puts, h3, h4])) (Spares.refl _) (fun iv' _ _ => rfl))
     ·
      have h5 : vs 5 = .pointer (some ⟨sb, so + sn, none⟩) := hd.out 5 (mem_of (by kernel_rfl)) (by decide) (by kernel_rfl)
      go_wp2_with fail
      exact Onward.mk (hK (.slice sr ar.length cr) _ _ (fun h => by cases h) (by first | rfl | (simp only [puts, h5])) (Spares.refl _) (fun iv' _ _ => rfl))
     ·
      have h6 : vs 6 = .slice sr ar.length cr := hd.out 6 (mem_of (by kernel_rfl)) (by decide) (by kernel_rfl)
      go_wp2_with fail
      refine (clone_bools rr1 (by omega) (by omega)).mono ?_
      rintro e w2 ⟨a7, c7, rfl, hf, hb⟩
      go_wp2_with fail
      exact Onward.mk (hK (.slice a7 ar.length c7) _ _ (fun h => by cases h) (by first | rfl | (simp only [puts, h6])) (Spares.of_below hb) (fun iv' _ hi => ⟨a7, c7, rfl, by rw [hi]; exact Freshs.stretch (hf)⟩))
     ·
      obtain ⟨a7, c7, h7, f7⟩ := hd.out 7 (mem_of (by kernel_rfl)) (by decide) (by kernel_rfl)
      go_wp2_with fail
      exact Onward.mk (hK (.slice (some ⟨w1.heap.size, 0, none⟩) 1 1) _ _ (fun h => by cases h) (by first | rfl | (simp only [puts, h7])) (Spares.of_below (Below.alloc (Below.refl _ _) (Nat.le_refl _) _)) (fun iv' _ hi => by
       show Value.slice (some ⟨w1.heap.size, 0, none⟩) 1 1 = .slice (some ⟨(iv' 8).1, 0, none⟩) 1 1 ∧ (iv' 8).2 = (iv' 8).1 + 1 ∧ Blk _ (iv' 8).1 52 [vs 7]
       rw [hi, h7]
       exact ⟨rfl, by simp, Blk.new1 _ _ _⟩))
     ·
      have h1 : vs 1 = .slice aA ri cA := hd.out 1 (mem_of (by kernel_rfl)) (by decide) (by kernel_rfl)
      obtain ⟨a7, c7, h7, f7⟩ := hd.out 7 (mem_of (by kernel_rfl)) (by decide) (by kernel_rfl)
      obtain ⟨h8, q8, f8⟩ := hd.out 8 (mem_of (by kernel_rfl)) (by decide) (by kernel_rfl)
      have V01 := V0.keep (fun b _ hb => hS.out 0 b (by kernel_rfl) (Or.inl ⟨rfl, hb⟩))
      simp only [h1, h7, h8]
      have f8' : Blk w1 (iv 8).1 52 [.slice a7 ar.length c7] := by first | exact f8 | (rw [h7] at f8; exact f8)
      refine wpList_append_s w1 (by rfl) _ _ 24 (by rfl) 52 ((.slice none 0 0)) 1 24 Tryd.underlying24 info_bools1 rfl (by decide) (S := (fun b => (gM ≤ b ∧ b < wm.heap.size ∧ own b = 3))) (T := (fun b => (iv 7).1 ≤ b ∧ b < (iv 7).2)) _ (by rfl) V01 ⟨(iv 8).1, 0, none⟩ 1 1 [.slice a7 ar.length c7] (by rfl) (news_blk f8') f7 (fun b _ h1 h2 => by have q := (hbd.out 7 (mem_of (by kernel_rfl)) (by decide)).1; have q' := (HGb.out 0 b (Or.inl ⟨rfl, h1⟩)).2; omega) (by simp) (by simp [Value.oneCell']) (by omega) (by omega) (by unfold maxLen; omega) ?_
      intro g cap w2 hap ht
      go_wp2_with fail
      exact Onward.mk (hK (.slice (some ⟨g, 0, none⟩) (ri + 1) cap) _ _ (fun h => by cases h) (by first | rfl | (simp only [puts, h1, h7, h8])) (ht.more (fun b h => Or.inl ⟨0, by decide, (Or.inl ⟨rfl, h⟩)⟩)) (fun iv' ag hi => ⟨g, cap, rfl, hap.more (fun b _ h => by rcases h with h | h | h; exact foot_given 0 (by decide) (Or.inl ⟨rfl, h⟩); exact foot_iv (by kernel_rfl) ag h.1 h.2; exact foot_new hi h.1 h.2)⟩))
     ·
      go_wp2_with fail
      exact Onward.mk (hK (.pointer (some ⟨gA, 2, none⟩)) _ _ (fun h => by cases h) (by first | rfl | (simp only [puts])) (Spares.refl _) (fun iv' _ _ => rfl))
     ·
      obtain ⟨g9, cap9, h9, f9⟩ := hd.out 9 (mem_of (by kernel_rfl)) (by decide) (by kernel_rfl)
      have h10 : vs 10 = .pointer (some ⟨gA, 2, none⟩) := hd.out 10 (mem_of (by kernel_rfl)) (by decide) (by kernel_rfl)
      have K21 := K2.keep (hS.out 1 _ (by kernel_rfl) (Or.inr ⟨rfl, rfl⟩))
      have k2c0 := K21.c0
      have k2z0 := K21.frozen 0
      have k2c1 := K21.c1
      have k2z1 := K21.frozen 1
      have k2c2 := K21.c2
      have k2z2 := K21.frozen 2
      have k2c3 := K21.c3
      have k2z3 := K21.frozen 3
      have k2lt := K21.lt
      go_wp2_with fail
      exact Onward.mk (hK undef _ _ (fun _ => rfl) (by simp only [puts, h9, h10]) ((spares_sets (b0 := gA) (by repeat (first | exact Spares.refl _ | apply Spares.set))).more (fun b h => Or.inl ⟨1, by decide, (Or.inr ⟨rfl, h⟩)⟩)) (fun iv' ag hi => by
       show Blk _ (gA) 31 [.int .i64 t, .int .i64 n, vs 9, .slice aX ri cX]
       rw [h9]
       exact (K21.set 2 _)))
    case hQ =>
     intro iv vs wx hB hSp hd he hbd hsep
     have hzB := hB.size
     have h0 : vs 0 = .pointer (some ⟨gA, 2, none⟩) := hd.out 0 (mem_of (by kernel_rfl)) (not_eaten (by kernel_rfl))
     have h1 : vs 1 = .slice aA ri cA := hd.out 1 (mem_of (by kernel_rfl)) (not_eaten (by kernel_rfl))
     have h2 : vs 2 = .pointer (some ⟨lw, 2, none⟩) := hd.out 2 (mem_of (by kernel_rfl)) (not_eaten (by kernel_rfl))
     have h3 : vs 3 = .slice (some ⟨sb, so, none⟩) ac.length c := hd.out 3 (mem_of (by kernel_rfl)) (not_eaten (by kernel_rfl))
     have h4 : vs 4 = .int .i64 sn := hd.out 4 (mem_of (by kernel_rfl)) (not_eaten (by kernel_rfl))
     have h5 : vs 5 = .pointer (some ⟨sb, so + sn, none⟩) := hd.out 5 (mem_of (by kernel_rfl)) (not_eaten (by kernel_rfl))
     have h6 : vs 6 = .slice sr ar.length cr := hd.out 6 (mem_of (by kernel_rfl)) (not_eaten (by kernel_rfl))
     obtain ⟨a7, c7, h7⟩ := he.out 7 (mem_of (by kernel_rfl))
     obtain ⟨h8, q8, f8⟩ := hd.out 8 (mem_of (by kernel_rfl)) (not_eaten (by kernel_rfl))
     obtain ⟨g9, cap9, h9, f9⟩ := hd.out 9 (mem_of (by kernel_rfl)) (not_eaten (by kernel_rfl))
     have h10 : vs 10 = .pointer (some ⟨gA, 2, none⟩) := hd.out 10 (mem_of (by kernel_rfl)) (not_eaten (by kernel_rfl))
     have f11 : Blk _ (gA) 31 [.int .i64 t, .int .i64 n, vs 9, .slice aX ri cX] := hd.out 11 (mem_of (by kernel_rfl)) (not_eaten (by kernel_rfl))
     have lo9 : ∀ b, foot [(9, 7)] [(9, 0), (11, 1)] (fun m b => (m = 0 ∧ (gM ≤ b ∧ b < wm.heap.size ∧ own b = 3)) ∨ (m = 1 ∧ b = gA)) 12 9 iv b → (gM) ≤ b := by
      rintro b ⟨j, hj, hh⟩
      have hj' := of_decide_eq_true (List.all_eq_true.1 (show ((chainOf [(9, 7)] 12 9).all fun j => decide (j ∈ [9, 7])) = true from by kernel_rfl) j hj)
      simp only [List.mem_cons, List.not_mem_nil, or_false] at hj'
      rcases hj' with rfl | rfl
      ·
       have q := (hbd.out 9 (mem_of (by kernel_rfl))).1
       rcases hh with hh | ⟨m, hm, hg⟩
       ·
        omega
       ·
        simp at hm
        subst hm
        simp at hg
        have q' := V0f b hg
        omega
      ·
       have q := (hbd.out 7 (mem_of (by kernel_rfl))).1
       rcases hh with hh | ⟨m, hm, hg⟩
       ·
        omega
       ·
        simp at hm
     simp only [putFrom, puts]
     have so9 : ∀ b, (foot [(9, 7)] [(9, 0), (11, 1)] (fun m b => (m = 0 ∧ (gM ≤ b ∧ b < wm.heap.size ∧ own b = 3)) ∨ (m = 1 ∧ b = gA)) 12 9 iv) b → (gM ≤ b ∧ b < wm.heap.size ∧ own b = 3) ∨ (wm).heap.size ≤ b := by
      rintro b ⟨j, hj, hh⟩
      have hj' := of_decide_eq_true (List.all_eq_true.1 (show ((chainOf [(9, 7)] 12 9).all fun j => decide (j ∈ [9, 7])) = true from by kernel_rfl) j hj)
      simp only [List.mem_cons, List.not_mem_nil, or_false] at hj'
      rcases hj' with rfl | rfl
      ·
       have q := (hbd.out 9 (mem_of (by kernel_rfl))).1
       rcases hh with hh | ⟨m, hm, hg⟩
       ·
        exact Or.inr (by omega)
       ·
        simp at hm; subst hm; simp at hg; exact Or.inl hg
      ·
       have q := (hbd.out 7 (mem_of (by kernel_rfl))).1
       rcases hh with hh | ⟨m, hm, hg⟩
       ·
        exact Or.inr (by omega)
       ·
        simp at hm
     subst hlw
     rw [h9] at f11
     have hBu := Bun.turn_two Hown.out hSp.out.size (by omega) 3 2 (by decide) rfl (by simp) (fun b hb h1 h2 => hSp.out.block b hb (fun ⟨mm, hm⟩ => by
      rcases hm with ⟨_, h⟩ | ⟨_, h⟩
      ·
       exact h1 h.2.2
      ·
       exact h2 h)) f9 (fun b _ hS => so9 b hS) f11
     have HW2 : Hid (LmW gM gA gM t (n : Int) wc wx f S (ri + 1) (FA.take (ri + 1)) ri (FX.take ri) (.slice a0 S.length c0) (.slice (some ⟨g9, 0, none⟩) (ri + 1) cap9) (.slice aX ri cX) [.app 58 1 A ((RW.take A).map intsD) (.slice a5 A c5)]) := by
      show LmW ..
      unfold LmW
      rw [HEA.out]
      exact ⟨hBu, HW.out.2.trans hB⟩
     clear hd he hbd hsep h0 h1 h2 h3 h4 h5 h6 h7 h8 h9 h10 so9 lo9 f9 f11 hgo V0 V0f K2 hB hSp hBu Hown HW
     have hzx := HW2.out.2.size
     have hBu := HW2.out.1.alloc (.cells #[.slice a5 A c5] 54)
     have hNb := Blk.new1 wx 54 (.slice a5 A c5)
     obtain ⟨x0, x1, x2, x3, z0, z1, z2, z3, ltx⟩ := (HW2.out.1.box 2 rfl).1.all4
     have hgb := (HW2.out.1.box 2 rfl).2
     go_wp2_with (at_builtin; go_must (refine wpList_append_bun_own _ rfl _ _ 25 rfl 54 24 Tryd.underlying25 info_i64ss hBu (by simp; omega) 4 _ rfl rfl 5 (by decide) _ rfl ⟨wx.heap.size, 0, none⟩ rfl (news_blk hNb) (by omega) (by unfold maxLen; omega) ?_); intro g7' cap7' w7 hbun7 hb7; obtain ⟨y0, y1, y2, y3, f0, f1, f2, f3, lty⟩ := (hbun7.box 2 rfl).1.all4)
     have Hfin := Lib.hid (And.intro ((hbun7.take 5).store 2 rfl 3 (.slice (some ⟨g7', 0, none⟩) (ri + 1) cap7')) (Below.setCell (p := ⟨gA, 3, none⟩) ((HW2.out.2.alloc (by omega) (.cells #[.slice a5 A c5] 54)).trans hb7) hgb (.slice (some ⟨g7', 0, none⟩) (ri + 1) cap7')))
     clear hbun7 hb7 hBu hNb x0 x1 x2 x3 z0 z1 z2 z3 ltx y0 y1 y2 y3 f0 f1 f2 f3 lty HW2
     go_wp2_with fail
     go_roundw
     case rel =>
      refine ⟨ri + 1, S, .slice (some ⟨g9, 0, none⟩) (ri + 1) cap9, .slice (some ⟨g7', 0, none⟩) (ri + 1) cap7', by go_num, HS.out, HEL, by omega, hl60, ?_⟩
      have h := Hfin.out
      unfold LmW
      rw [HEX.out]
      exact h
     case measure => simp [intOf]; omega
    -- dev)
   obtain ⟨row, hrow⟩ : ∃ e, nr[m]? = some e := ⟨_, List.getElem?_eq_getElem (by omega)⟩
   obtain ⟨r1, r2⟩ := Hl2.out m row hrow
   have hrn1 : row.length ≤ n := by omega
   have hrn2 : n ≤ row.length := by omega
   have hmb : (m : Int) < (nr.length : Int) := by omega
   have hmA : (m : Int) < (A : Int) := by omega
   have Hrow2 := Lib.hid hrow
   have hRm := HRt.out m hml
   have HRRt := Lib.hid (fun (q : Nat) (hq : q < n) => rowR_take (L := PF) (m := m) (l := LG (sn : Int)) hq)
   have HRRl0 : Hid ((rowR PF n m (LG (sn : Int))).length = n) := rowR_len
   obtain ⟨RR, hRR⟩ : ∃ RR, rowR PF n m (LG (sn : Int)) = RR := ⟨_, rfl⟩
   rw [hRR] at hRm HRRt HRRl0
   obtain ⟨AR, hAR⟩ : ∃ AR, RW.take m = AR := ⟨_, rfl⟩
   rw [hAR] at hRm HW
   have HRm := Lib.hid hRm
   have hw5 : Below wm.heap.size wm (wm.alloc (.cells #[] 2)) := Below.alloc (Below.refl _ _) (Nat.le_refl _) _
   obtain ⟨p0, p1, -, -, -, -, -, -, ltP⟩ := ((HL.out.below (hW.2.mono hBc)).below hw5).all4
   clear hW hS r1 r2 hwm hrow hRm hRR hAR HRt HFs
   go_wp2_with fail
   have hB4 := HW.out.1.push_empty (by omega) 2 1
   have hbe4 := HW.out.2.alloc (by omega) (.cells #[] 2)
   have hst : Hid (LmW gM gA gM t (n : Int) wc (wm.alloc (.cells #[] 2)) f S ri (FA.take ri) ri (FX.take ri) (.slice a0 S.length c0) (.slice aA ri cA) (.slice aX ri cX) [.app 58 1 m (AR.map intsD) (.slice a5 m c5), .app 2 1 0 ((RR.take 0).map D.int) (.slice (some ⟨wm.heap.size, 0, none⟩) 0 0)]) := ⟨by simpa using hB4, hbe4⟩
   clear hB4 hbe4 HW p0 p1 ltP hw5
   go_loopw [5, 11, 48] (fun v0 v11 j wr => ∃ (q : Nat) (S : List Int), j = .int .i64 q ∧ q ≤ n ∧ StIn ac.length S ∧ Hid (S.map LG = lsC (LG 0) A n ri (LG (sn : Int)) m q) ∧ ri < S.length ∧ S.length ≤ 60 ∧ LmW gM gA gM t (n : Int) wc wr f S ri (FA.take ri) ri (FX.take ri) v0 (.slice aA ri cA) (.slice aX ri cX) [.app 58 1 m (AR.map intsD) (.slice a5 m c5), .app 2 1 q ((RR.take q).map D.int) v11]) (fun _ _ j _ => n - (intOf j).toNat)
   case atStart => exact ⟨0, S, rfl, by omega, HS.out, HL0, hlt, hl60, hst.out⟩
   case round =>
    clear hst HL0 q1 q2 HS hlt hl60
    obtain ⟨q, S, rfl, hq, hS, HL0, hlt, hl60, hW⟩ := hrel
    obtain ⟨wq, rfl⟩ : ∃ v, v = wr := ⟨_, rfl⟩
    obtain ⟨a0, c0, rfl, q1, q2⟩ := hW.1.shape 1 rfl
    obtain ⟨a6, c6, rfl, q11, q12⟩ := hW.1.shape 6 rfl
    unfold maxLen at q2 q12
    have HW := Lib.hid hW
    have HS := Lib.hid hS
    have hzq := hW.2.size
    have hq0 := Int.natCast_nonneg q
    by_cases hql : q < n
    rotate_left
    ·
     -- dev(
     obtain rfl : n = q := by omega
     have HEL : Hid (S.map LG = lsC (LG 0) A n ri (LG (sn : Int)) (m + 1) 0) := by show _ = _; rw [HL0.out, lsC_line]
     have HEX : Hid ((RW.take (m + 1)).map intsD = AR.map intsD ++ [D.sl 1 n ((RR.take n).map D.int)]) := by
      show _ = _
      rw [List.take_of_length_le (l := RR) (by rw [HRRl0.out]; exact Nat.le_refl _)]
      exact fin_rows HRm.out rfl HRRl0.out
     have hBu := HW.out.1.alloc (.cells #[.slice a6 n c6] 58)
     have hNb := Blk.new1 wq 58 (.slice a6 n c6)
     clear hW hS
     go_wp2_with (at_builtin; go_must (refine wpList_append_bun_own _ rfl _ _ 54 rfl 58 24 Tryd.underlying54 info_i64s hBu (by simp; omega) 5 _ rfl rfl 6 (by decide) _ rfl ⟨wq.heap.size, 0, none⟩ rfl (news_blk hNb) (by omega) (by unfold maxLen; omega) ?_); intro g8 cap8 w8 hbun8 hb8)
     have Hfin := Lib.hid (And.intro (hbun8.take 6) ((HW.out.2.alloc (by omega) (.cells #[.slice a6 n c6] 58)).trans hb8))
     clear hbun8 hb8 hBu hNb
     go_wp2_with fail
     go_roundw
     case rel =>
      refine ⟨m + 1, S, by go_num, by omega, HS.out, HEL, hlt, hl60, ?_⟩
      have h := Hfin.out
      unfold LmW
      rw [HEX.out]
      exact h
     case measure => simp [intOf]; omega
     -- dev)
    have hwq : Below w.heap.size w wq := Hwc.out.trans (hW.2.mono (by omega))
    obtain ⟨l0, l1, l2, l3, -, -, -, -, ltL⟩ := (HL.out.below (hW.2.mono hBc)).all4
    obtain ⟨-, un', cn', b0, rb⟩ := nest_sl (g := intsD) (Hq.out.below hwq) Hnr.out
    obtain ⟨nb', no', rfl⟩ := nest_some (f := intsD) rb (by omega)
    obtain ⟨rb3, rb4⟩ := nest_bd rb
    unfold maxLen at rb4
    obtain ⟨-, sr, cr, p0, rr⟩ := nest_sl (g := D.int) rb Hrow2.out
    obtain ⟨rb5, rb6⟩ := nest_bd (f := D.int) rr
    unfold maxLen at rb6
    obtain ⟨z, hz⟩ : ∃ e, row[q]? = some e := ⟨_, List.getElem?_eq_getElem (by omega)⟩
    obtain ⟨tb, to', rfl⟩ := nest_some (f := D.int) rr (by omega)
    obtain ⟨-, v0⟩ := int_in rr hz
    have hzb := (Hl2.out m row Hrow2.out).2 q z hz
    have hgz : goN nx (sn : Int) m q = z := by rw [goN_nat, getD_of Hnr.out, getD_of Hrow2.out, getD_of hz]
    have hstp := HSTEP.out 0 f Hcl.out S ri m q (sn : Int) hS HX.out HL0.out hsc hml hql
    rw [hgz] at hstp
    have HRs0 := Lib.hid (HRRt.out q hql)
    have HLn := Lib.hid (HLENC.out ri m (q + 1) _ HX.out)
    have hqb : (q : Int) < (row.length : Int) := by omega
    have hqn : (q : Int) < (n : Int) := by omega
    have hzn : z < (ac.length : Int) := by omega
    have hM := (hW.1.one 0 rfl).1
    unfold NumJ at hM
    have hnd := hM.nodup
    have Hstp := Lib.hid hstp
    have hHC := HCr.out.below (hW.2.mono hBc)
    clear hW hS rb rr hwq hz hgz hstp
    by_cases h0 : z < 0
    ·
     -- dev(
     obtain ⟨e1, e2⟩ := Hstp.out.1 (Or.inl h0)
     have HEL := Lib.hid e1
     have HRs := Lib.hid HRs0.out
     rw [e2] at HRs
     have hBu := HW.out.1.alloc (.cells #[.int .i64 (-1)] 2)
     have hNb := Blk.new1 wq 2 (.int .i64 (-1))
     have hd0 : decide (z < 0) = true := by apply decide_eq_true; omega
     clear e1 e2 Hstp hM hnd hHC
     go_wp2_with
      (at_builtin; go_must (refine wpList_append_bun _ rfl _ _ 58 rfl 2 (.int .i64 0) 1 8 Tryd.underlying58 info_int64 rfl (by decide) hBu (by simp <;> omega) 6 _ rfl rfl ⟨wq.heap.size, 0, none⟩ 1 1 [.int .i64 (-1)] rfl (news_blk hNb) le_none rfl (by simp [Value.oneCell']) (by omega) (by omega) (by unfold maxLen; omega) ?_); intro g8 cap8 w8 hbun8 hb8)
     have Hfin := Lib.hid (And.intro hbun8 ((HW.out.2.alloc (by omega) (.cells #[.int .i64 (-1)] 2)).trans hb8))
     clear hbun8 hb8 hBu hNb
     go_wp2_with fail
     go_roundw
     case rel =>
      refine ⟨q + 1, S, by go_num, by omega, HS.out, HEL, by omega, by omega, ?_, Hfin.out.2⟩
      have h := Hfin.out.1
      (try rw [← List.map_take])
      rw [HRs.out, List.map_append]
      exact h
     case measure => simp [intOf]; omega
     -- dev)
    have hz0 : 0 ≤ z := by omega
    obtain ⟨zn, rfl⟩ : ∃ zn : Nat, z = (zn : Int) := ⟨z.toNat, by omega⟩
    have hd0 : decide ((zn : Int) < 0) = false := by apply decide_eq_false; omega
    have hzn1 : (zn : Int) < ((ac.length + 1 : Nat) : Int) := by omega
    have hcell := (int_in hHC (HEa.out zn (by omega))).2
    have hfs := HOs.out (f (zn : Int)) (List.mem_of_getElem? (HEa.out zn (by omega)))
    have hkey := keyI6 (x := f (zn : Int)) (by have := hfs.1; omega) (by have := hfs.2; omega)
    have h1 := Hstp.out.1
    have h2 := Hstp.out.2.1 hz0
    have h3 := Hstp.out.2.2 hz0
    obtain ⟨fz, hfe⟩ : ∃ v, f (zn : Int) = v := ⟨_, rfl⟩
    rw [hfe] at hcell hkey h1 h2 h3
    have Hfe := Lib.hid hfe
    have Hkey := Lib.hid hkey
    clear Hstp hfe hfs hHC hkey
    by_cases hfz : fz = 0
    ·
     -- dev(
     obtain ⟨e1, e2⟩ := h1 (Or.inr hfz)
     have HEL := Lib.hid e1
     have HRs := Lib.hid HRs0.out
     rw [e2] at HRs
     have hBu := HW.out.1.alloc (.cells #[.int .i64 (-1)] 2)
     have hNb := Blk.new1 wq 2 (.int .i64 (-1))
     have hb0 : (fz == 0) = true := beq_iff_eq.2 hfz
     clear e1 e2 h1 h2 h3 hM hnd hfz
     go_wp2_with
      (at_builtin; go_must (refine wpList_append_bun _ rfl _ _ 58 rfl 2 (.int .i64 0) 1 8 Tryd.underlying58 info_int64 rfl (by decide) hBu (by simp <;> omega) 6 _ rfl rfl ⟨wq.heap.size, 0, none⟩ 1 1 [.int .i64 (-1)] rfl (news_blk hNb) le_none rfl (by simp [Value.oneCell']) (by omega) (by omega) (by unfold maxLen; omega) ?_); intro g8 cap8 w8 hbun8 hb8)
     have Hfin := Lib.hid (And.intro hbun8 ((HW.out.2.alloc (by omega) (.cells #[.int .i64 (-1)] 2)).trans hb8))
     clear hbun8 hb8 hBu hNb
     go_wp2_with fail
     go_roundw
     case rel =>
      refine ⟨q + 1, S, by go_num, by omega, HS.out, HEL, by omega, by omega, ?_, Hfin.out.2⟩
      have h := Hfin.out.1
      (try rw [← List.map_take])
      rw [HRs.out, List.map_append]
      exact h
     case measure => simp [intOf]; omega
     -- dev)
    have hbz : (fz == 0) = false := beq_eq_false_iff_ne.2 hfz
    have hkey := Hkey.out
    by_cases hin : fz ∈ S.map f
    ·
     -- dev(
     obtain ⟨e1, e2⟩ := h2 hfz hin
     have hfin := mapJ_in hnd hin
     have HEL := Lib.hid e1
     have HRs := Lib.hid HRs0.out
     obtain ⟨jx, hjx⟩ : ∃ v : Int, ((S.map f).idxOf fz : Int) = v := ⟨_, rfl⟩
     rw [e2, hjx] at HRs
     rw [hjx] at hfin
     have hBu := HW.out.1.alloc (.cells #[.int .i64 jx] 2)
     have hNb := Blk.new1 wq 2 (.int .i64 jx)
     clear e1 e2 h1 h2 h3 hnd hin hjx hfz
     go_wp2_with (first
      |
       (at_lookup; refine wpList_lookup_at _ rfl _ _ 64 true rfl 2 2 lawI Tryd.underlying64 (.int .i64 0) (zeroK _) kfI_inj gM (hM) fz hkey rfl rfl (some jx) (hfin) ?_; simp only [lookV])
      |
       (at_lookup; refine wpList_lookup_at _ rfl _ _ 64 false rfl 2 2 lawI Tryd.underlying64 (.int .i64 0) (zeroK _) kfI_inj gM (hM) fz hkey rfl rfl (some jx) (hfin) ?_; simp only [lookV])
      |
       (at_builtin; go_must (refine wpList_append_bun _ rfl _ _ 58 rfl 2 (.int .i64 0) 1 8 Tryd.underlying58 info_int64 rfl (by decide) hBu (by simp <;> omega) 6 _ rfl rfl ⟨wq.heap.size, 0, none⟩ 1 1 [.int .i64 (jx)] rfl (news_blk hNb) le_none rfl (by simp [Value.oneCell']) (by omega) (by omega) (by unfold maxLen; omega) ?_); intro g8 cap8 w8 hbun8 hb8)
      )
     have Hfin := Lib.hid (And.intro hbun8 ((HW.out.2.alloc (by omega) (.cells #[.int .i64 jx] 2)).trans hb8))
     clear hbun8 hb8 hBu hNb
     go_wp2_with fail
     go_roundw
     case rel =>
      refine ⟨q + 1, S, by go_num, by omega, HS.out, HEL, by omega, by omega, ?_, Hfin.out.2⟩
      have h := Hfin.out.1
      (try rw [← List.map_take])
      rw [HRs.out, List.map_append]
      exact h
     case measure => simp [intOf]; omega
     -- dev)
    ·
     -- dev(
     obtain ⟨e1, e2, e3⟩ := h3 hfz hin
     have hfin := mapJ_out hin
     have HEL := Lib.hid e1
     have HS3 := Lib.hid e3
     have HRs := Lib.hid HRs0.out
     rw [e2] at HRs
     have hl3 : S.length + 1 ≤ 60 := by
      have h := HLn.out
      rw [← e1] at h
      simp only [List.map_append, List.length_append, List.length_map, List.length_singleton, List.map_cons, List.map_nil] at h
      omega
     have Hpm : Hid (putM (mapJ (S.map f)) fz (S.length : Int) = mapJ ((S ++ [(zn : Int)]).map f)) := by
      show _ = _
      rw [putM_new hfin, List.map_append, List.map_cons, List.map_nil, Hfe.out, mapJ_snoc, List.length_map]
     have Hnew : Hid (findM (mapJ ((S ++ [(zn : Int)]).map f)) fz = some (S.length : Int)) := by
      show _ = _
      rw [← Hpm.out, findM_putM, if_pos rfl]
     clear e1 e2 e3 h1 h2 h3 hnd hin hfz
     go_wp2_with (first
      |
       (at_lookup; refine wpList_lookup_at _ rfl _ _ 64 true rfl 2 2 lawI Tryd.underlying64 (.int .i64 0) (zeroK _) kfI_inj gM (hM) fz hkey rfl rfl (none) (hfin) ?_; simp only [lookV])
      | (at_mapUpdate; go_must (refine (wpList_mapUpdate_at _ rfl _ _ _ 64 rfl 2 2 lawI Tryd.underlying64 kfI_inj gM hM fz hkey (S.length : Int) rfl rfl rfl ?_); intro w10 hM10 ho10; have hz10 := ho10.size; have hM10' := mapAt_of hM10 Hpm.out; have hBm := HW.out.1.turn_one (Q := NumJ gM ((S ++ [(zn : Int)]).map f)) 0 rfl ho10 (fun w1 h1 => hM10'.keep h1); have hBe10 : Below gM wc w10 := HW.out.2.trans ⟨ho10.os, ho10.tape, ho10.output, ho10.size, fun b hb => ho10.block b (by omega) (by simp <;> omega)⟩; have hBl := hBm.alloc (.cells #[.int .i64 (zn : Int)] 2); have hNl := Blk.new1 w10 2 (.int .i64 (zn : Int)); have hcl10 := (int_in (HCr.out.below (hBe10.mono hBc)) (HEa.out zn (by omega))).2; have HBe10 := Lib.hid hBe10; clear hM10 hM10' ho10 hBm hBe10))
      | (at_builtin; (refine wpList_append_bun _ rfl _ _ 58 rfl 2 (.int .i64 0) 1 8 Tryd.underlying58 info_int64 rfl (by decide) hBl (by simp <;> omega) 1 _ rfl rfl ⟨w10.heap.size, 0, none⟩ 1 1 [.int .i64 (zn : Int)] rfl (news_blk hNl) le_none rfl (by simp [Value.oneCell']) (by omega) (by omega) (by unfold maxLen; omega) ?_); intro g5 cap5 w11 hbun5 hb5; have hz11 : w10.heap.size + 1 ≤ w11.heap.size := (by have q := hb5.size; simpa using q); have hBr := hbun5.alloc (.cells #[.int .i64 (S.length : Int)] 2); have hNr := Blk.new1 w11 2 (.int .i64 (S.length : Int)); have Hb5 := Lib.hid ((HBe10.out.alloc (by omega) (.cells #[.int .i64 (zn : Int)] 2)).trans hb5); have hM11 := (hbun5.one 0 rfl).1; have hc11 := (int_in (HCr.out.below (Hb5.out.mono hBc)) (HEa.out zn (by omega))).2; unfold NumJ at hM11; rw [Hfe.out] at hc11; clear hbun5 hb5)
      |
       (at_lookup; refine wpList_lookup_at _ rfl _ _ 64 false rfl 2 2 lawI Tryd.underlying64 (.int .i64 0) (zeroK _) kfI_inj gM (hM11) fz hkey rfl rfl (some (S.length : Int)) (Hnew.out) ?_; simp only [lookV])
      |
       (at_builtin; go_must (refine wpList_append_bun _ rfl _ _ 58 rfl 2 (.int .i64 0) 1 8 Tryd.underlying58 info_int64 rfl (by decide) hBr (by simp <;> omega) 6 _ rfl rfl ⟨w11.heap.size, 0, none⟩ 1 1 [.int .i64 ((S.length : Int))] rfl (news_blk hNr) le_none rfl (by simp [Value.oneCell']) (by omega) (by omega) (by unfold maxLen; omega) ?_); intro g8 cap8 w8 hbun8 hb8)
      )
     have Hfin := Lib.hid (And.intro hbun8 ((Hb5.out.alloc (by omega) (.cells #[.int .i64 (S.length : Int)] 2)).trans hb8))
     clear hbun8 hb8 hBl hNl hBr hNr
     go_wp2_with fail
     go_roundw
     case rel =>
      refine ⟨q + 1, S ++ [(zn : Int)], by go_num, by omega, HS3.out, HEL, by simp; omega, by simp; omega, ?_, Hfin.out.2⟩
      have h := Hfin.out.1
      (try rw [← List.map_take])
      rw [HRs.out, List.map_append]
      simp only [List.map_append, List.length_append, List.map_cons, List.map_nil] at h ⊢; exact h
     case measure => simp [intOf]; omega
     -- dev)
end Go.Proofs.YtfhlddbngjlhbaaDoor
