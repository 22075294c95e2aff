/-
  Parts of a proof, joined: LeJ. No condition.
-/
import Derived.Test.YtfhlddbngjlhbaaDoorPk12
namespace Go.Proofs.YtfhlddbngjlhbaaDoor
set_option linter.unusedVariables false
set_option linter.unusedSimpArgs false
open Go.ChangeShapes Go.WideShapes Go.ChangeAt Go.RowKit Go.Deep Go.Sort Go.ChangeMaps Go.MapKept
open Go.Maps (Keyed string_keyed)
def kfK (t : List UInt8) : Value := .string (bs t)
theorem kfK_inj (x y : List UInt8) (h : kfK x = kfK y) : x = y := bs_inj (by simpa [kfK] using h)
theorem lawK : Keyed Tryd.prog 9 := string_keyed Tryd.underlying9
theorem keyK {t : List UInt8} (h : t.length ≤ 1000000000) : ∃ l, keyOf Tryd.prog 9 (kfK t) = some l := ⟨_, WideMaps.keyOf_string_mk (P := Tryd.prog) Tryd.underlying9 (by rw [bs_size]; unfold maxLen; omega)⟩
theorem zeroK (w : World) : (zeroValue 2).run Tryd.prog w = .ok (.int .i64 0) w := by kernel_rfl
theorem mapAt_of {κ ν : Type} {L M : List (κ × ν)} {kf : κ → Value} {vf : ν → Value} {w : World} {g : Nat} {kt : TypeId} (h : MapAt Tryd.prog kt kf vf w g L) (e : L = M) : MapAt Tryd.prog kt kf vf w g M := e ▸ h
theorem wpList_len_at {κ ν : Type} {P : Program} (w : World) {ops : Array Oper} {rest : List Oper} {o : Oper} {a : Act} {Q : Exit → Act → World → Prop} (hg : o.guard = none) (m : Operand) (t : TypeId) (hop : o.op = Op.call { callee := Callee.builtin Builtin.len, args := #[m], argTypes := #[t] })
  (kt e : TypeId) (ht : P.underlying t = some (.map kt e)) {kf : κ → Value} {vf : ν → Value} {L : List (κ × ν)} (b : Nat) (hM : MapAt P kt kf vf w b L) (hm : a.eval m = .map (some b)) (n : Nat) (hn : L.length = n)
  (hK : wpList P ops Q rest (a.put o.dst (.int .i64 (n : Int))) w) : wpList P ops Q (o :: rest) a w := by
 obtain ⟨es, clock, hb, he, -, -⟩ := hM
 have hs : es.size = n := by
  have := congrArg List.length he
  simpa [hn] using this
 have hrun : (Builtin.len_ #[t] o.type #[.map (some b)]).run P w = .ok (.int .i64 (n : Int)) w := by
  simp [Builtin.len_, run_underlying ht, MapKept.run_getObj_map hb, goInt, Result.andThen, hs]
 refine wpList_plain hg fun K' hK' => ?_
 unfold Oper.wp
 simp [execOp, hop, resolve, invoke, builtin, hm, hrun, Result.andThen]
 exact hK' _ _ hK
theorem ats_len {c : Nat} : ∀ {L : List (Bool × List Int)}, (∀ p ∈ L, (atT p).length ≤ c) → (L.flatMap atT).length ≤ L.length * c
 | [], _ => by simp
 | p :: L, h => by
  have h1 := h p (List.mem_cons_self ..)
  have h2 := ats_len (L := L) fun q hq => h q (List.mem_cons_of_mem _ hq)
  simp only [List.flatMap_cons, List.length_append, List.length_cons, Nat.add_mul, Nat.one_mul]
  omega
theorem skT_len {ac : List (List Bool)} {nx : List (List (List Int))} {A n : Nat} {O : List Int} (hA : A ≤ 8) (hn : n ≤ 4) (hO : ∀ x ∈ O, Sm x) (s : Int) : (skT ac nx A n O s).length ≤ 1000 := by
 unfold skT kyT keyI
 have h1 := dgt_len (clN_sm (N := ac.length) hO s)
 have h2 := ats_len (c := 14) (L := (List.range A).map fun m => (hasN ac s m, (List.range n).map fun k => clN O ac.length (goN nx s m k))) (fun p hp => by
  obtain ⟨m, -, rfl⟩ := List.mem_map.1 hp
  have h3 := rwT_len (xs := (List.range n).map fun k => clN O ac.length (goN nx s m k)) (fun x hx => by
   obtain ⟨k, -, rfl⟩ := List.mem_map.1 hx
   exact clN_sm hO _)
  simp only [List.length_map, List.length_range] at h3
  unfold atT
  simp only [List.length_append, List.length_cons, List.length_nil]
  have h4 : (if hasN ac s m then ([43] : List UInt8) else []).length ≤ 1 := by split <;> simp
  omega)
 simp only [List.length_map, List.length_range] at h2
 simp only [List.length_append, List.length_cons]
 omega
set_option maxRecDepth 100000 in
set_option maxHeartbeats 16000000 in
theorem classes_i {t a : Int} {ac : List (List Bool)} {nx : List (List (List Int))} {s u : Option Addr} {c d : Nat} {w : World} (hr : Rd w (bbD ac) (.slice s ac.length c)) (hq : Rd w (iiiD nx) (.slice u nx.length d)) (hok : AutOk t a ac nx) :
  Calls Tryd.prog 40 #[.agg #[.int .i64 t, .int .i64 a, .slice s ac.length c, .slice u nx.length d]] w fun e w' => ∃ r s' c', e = .returned (.slice s' (ac.length + 1) c') ∧ cntI ac nx (atomsN t).toNat a.toNat (r + 1) = cntI ac nx (atomsN t).toNat a.toNat r ∧ Fresh w w' (intsD (oL ac nx (atomsN t).toNat a.toNat (r + 1))) (.slice s' (ac.length + 1) c') ∧ Below w.heap.size w w' := by
 obtain ⟨hdm1, hdm2, hdm3, hdm4⟩ := hok.dims
 obtain ⟨hlen, hcap⟩ := nest_bd hr
 obtain ⟨hlen', hcap'⟩ := nest_bd hq
 unfold maxLen at hcap hcap'
 have hn1 := hok.lo
 have hn2 := hok.hi
 have Hok := Lib.hid hok
 have hA8 : (atomsN t).toNat ≤ 8 := by omega
 have hn4 : a.toNat ≤ 4 := by omega
 have Hnum := Lib.hid (fun (r i : Nat) (hi : i < ac.length) => skR_num hok r hi)
 have Hcnt := Lib.hid (fun (r : Nat) => skR_cnt hok r)
 have Hmono := Lib.hid (fun (r : Nat) => cntI_mono (ac := ac) (nx := nx) (A := (atomsN t).toNat) (a := a.toNat) r)
 have Hle := Lib.hid (fun (r : Nat) => cntI_le (ac := ac) (nx := nx) (A := (atomsN t).toNat) (a := a.toNat) r)
 have Hsm := Lib.hid (fun (r : Nat) => oL_sm (nx := nx) (A := (atomsN t).toNat) (a := a.toNat) (r := r) hok.hi)
 have Hkl := Lib.hid (fun (r : Nat) (z : Int) => skT_len (ac := ac) (nx := nx) (A := (atomsN t).toNat) (n := a.toNat) (O := oL ac nx (atomsN t).toNat a.toNat r) hA8 hn4 (oL_sm hok.hi) z)
 have HLl := Lib.hid (fun (r : Nat) => oL_len (ac := ac) (nx := nx) (A := (atomsN t).toNat) (a := a.toNat) (r := r))
 have Hz := Lib.hid (oL_zero (ac := ac) (nx := nx) (A := (atomsN t).toNat) (a := a.toNat))
 have Hmz := Lib.hid (fun (r : Nat) => oM_zero (ac := ac) (nx := nx) (A := (atomsN t).toNat) (a := a.toNat) (r := r))
 have Hml := Lib.hid (fun (r i : Nat) (h : i ≤ ac.length) => oM_len (ac := ac) (nx := nx) (A := (atomsN t).toNat) (a := a.toNat) (r := r) h)
 have Hms := Lib.hid (fun (r i : Nat) (h : i < ac.length) => oM_set (ac := ac) (nx := nx) (A := (atomsN t).toNat) (a := a.toNat) (r := r) h)
 have Hma := Lib.hid (fun (r i : Nat) (h : i < ac.length) => oM_at (ac := ac) (nx := nx) (A := (atomsN t).toNat) (a := a.toNat) (r := r) h)
 have HmA := Lib.hid (fun (r : Nat) => oM_all (ac := ac) (nx := nx) (A := (atomsN t).toNat) (a := a.toNat) (r := r))
 obtain ⟨i0, hi, hz0, hz1', hz2⟩ := info_parts info_int64
 have hmm := @run_makeMap Tryd.prog
 have hmf : ∀ (fn : Fn) (first cap : Array Value) (w : World), (Instr.makeFunc fn first cap).run Tryd.prog w = .ok (.func fn first cap) w := fun _ _ _ _ => rfl
 obtain ⟨N1, hN1⟩ : ∃ N1, ac.length + 1 = N1 := ⟨_, rfl⟩
 have hNw : IntKind.i64.wrap ((ac.length : Int) + 1) = (N1 : Int) := by rw [← hN1, wrap_of (by omega) (by omega)]; push_cast; rfl
 rw [hN1]
 have hNlt : ac.length < N1 := by omega
 have hN61 : N1 ≤ 61 := by omega
 have HN1 := Lib.hid hN1
 rw [hN1] at HLl Hz Hmz Hml
 have hk := fun (w0 : World) (hb : Below w.heap.size w w0) (b1 b2 b3 co : Nat) (so : Option Addr) (r i : Nat) (sv : Int) (L : Blk w0 b1 31 [.int .i64 t, .int .i64 a, .slice s ac.length c, .slice u nx.length d]) (L2 : Blk w0 b2 3 [.int .i64 ac.length]) (L3 : Blk w0 b3 58 [.slice so N1 co]) (hO : Rd w0 (intsD (oL ac nx (atomsN t).toNat a.toNat r)) (.slice so N1 co)) (hsv : (i < ac.length ∧ sv = (i : Int)) ∨ (i = ac.length ∧ sv = -1)) =>
  key_i L (hr.below hb) (hq.below hb) hok L2 L3 hO (by rw [← hN1]; exact oL_len) hN1.symm (oL_sm hok.hi) hsv
 have Hk := Lib.hid hk
 have L0 := Blk.new4 w 31 (.int .i64 t) (.int .i64 a) (.slice s ac.length c) (.slice u nx.length d)
 obtain ⟨l0, l1, l2, l3, -, -, -, -, ltL⟩ := L0.all4
 clear hr hq hok hk hN1 hcap' hlen' hdm1 hdm2 hdm3 hdm4 L0
 go_enter Tryd.func40, Tryd.ntmps40
 go_upto_region 2 with fail
 obtain ⟨w1, e1, L, hb1, hz1⟩ := box4 w 31 (.int .i64 t) (.int .i64 a) (.slice s ac.length c) (.slice u nx.length d)
 rw [e1]
 clear e1 l0 l1 l2 l3 ltL
 obtain ⟨w2, e2, L2, hb2, hz2'⟩ := box1 w1 3 (.int .i64 (ac.length : Int))
 rw [e2]
 clear e2
 rw [hz1] at L2
 have n0 := L2.c0
 have hb12 : Below w.heap.size w w2 := hb1.trans (hb2.mono (by omega))
 have L1 := L.below hb2
 have hzz1 : w.heap.size + 2 ≤ w2.heap.size := by omega
 clear hz1 hz2'
 go_wp2_with (at_make; refine wpList_make_full _ rfl _ _ 58 rfl w2.heap.size 2 i0 (.int .i64 0) 1 Tryd.underlying58 hi hz0 hz1' .i64 .i64 _ _ N1 rfl rfl rfl rfl (by rw [hz2]; omega) (by unfold maxLen; omega) (by simp) ?_; intro w3 hown hgrow)
 have hb3 : Below w2.heap.size w2 w3 := Below.grown (Below.refl _ _) hgrow (by simp) (by simp)
 obtain ⟨hk0, -⟩ := made_blk (z := .int .i64 0) rfl hown
 have hk1 : Blk w3 w2.heap.size 2 ((List.replicate N1 (0 : Int)).map (Value.int .i64)) := by simpa using hk0
 have hf3 : Fresh w2 w3 (intsD (oL ac nx (atomsN t).toNat a.toNat 0)) (.slice (some ⟨w2.heap.size, 0, none⟩) N1 N1) := by
  rw [Hz.out]
  exact arr_fresh (fd := D.int) (W := w2) hk1 (Nat.le_refl _) (fun x => Ow.int x) (by simp) (by unfold maxLen; omega)
 obtain ⟨w4, e4, L3, hb4, hz4⟩ := box1 w3 58 (.slice (some ⟨w2.heap.size, 0, none⟩) N1 N1)
 rw [e4]
 have hf4 := hf3.on hb4
 have hb24 := hb3.trans (hb4.mono hb3.size)
 have Hst := Lib.hid (And.intro L3 (And.intro hf4 hb24))
 have hz3 := hb3.size
 obtain ⟨b3, hb3e⟩ : ∃ b3, w3.heap.size = b3 := ⟨_, rfl⟩
 rw [hb3e] at Hst ⊢
 have hb3w : w2.heap.size ≤ b3 := by omega
 have HL1 := Lib.hid L1
 have HL2 := Lib.hid L2
 have Hb12 := Lib.hid hb12
 have hz12 := hb12.size
 clear hown hgrow hk0 hk1 hf3 hf4 hb24 e4 L3 hb4 hz4 hb3e hb3 L L2 hb1 hb2 n0 hb12 L1
 go_loopw [5] (fun n wr => ∃ (r : Nat) (so : Option Addr) (co : Nat), n = .int .i64 ((cntI ac nx (atomsN t).toNat a.toNat r : Nat) : Int) ∧ Blk wr b3 58 [.slice so N1 co] ∧ Fresh w2 wr (intsD (oL ac nx (atomsN t).toNat a.toNat r)) (.slice so N1 co) ∧ Below w2.heap.size w2 wr) (fun n _ => ac.length + 2 - (intOf n).toNat)
 case atStart => exact ⟨0, _, _, rfl, Hst.out.1, Hst.out.2.1, Hst.out.2.2⟩
 case round =>
  clear Hst
  obtain ⟨r, so, co, rfl, L3, hf, hB⟩ := hrel
  obtain ⟨wo, rfl⟩ : ∃ v, v = wr := ⟨_, rfl⟩
  have szB := hB.size
  have ltb3 := L3.lt
  have hm1 := Hmono.out r
  have hl1 := Hle.out (r + 1)
  obtain ⟨n0, hn0⟩ : ∃ n0, cntI ac nx (atomsN t).toNat a.toNat r = n0 := ⟨_, rfl⟩
  obtain ⟨n1, hn1'⟩ : ∃ n1, cntI ac nx (atomsN t).toNat a.toNat (r + 1) = n1 := ⟨_, rfl⟩
  rw [hn0, hn1'] at hm1
  rw [hn1'] at hl1
  rw [hn0]
  have Hn0 := Lib.hid hn0
  have Hn1 := Lib.hid hn1'
  have HL3 := Lib.hid L3
  have HO := Lib.hid hf.rd
  have HB := Lib.hid hB
  obtain ⟨gM, hgM⟩ : ∃ gM, wo.heap.size = gM := ⟨_, rfl⟩
  have hM0 : MapAt Tryd.prog 9 kfK (Value.int .i64) (wo.alloc (.map #[] 0)) wo.heap.size ([] : List (List UInt8 × Int)) := MapAt.made wo
  have hb5 : Below wo.heap.size wo (wo.alloc (.map #[] 0)) := Below.alloc (Below.refl _ _) (Nat.le_refl _) _
  have hz5 : (wo.alloc (.map #[] 0)).heap.size = wo.heap.size + 1 := by simp
  have m0 := ((HL2.out.below hB).below hb5).c0
  have hOl := HLl.out r
  clear hn0 hn1' hf L3 hB
  go_upto_region 5 with fail
  generalize wo.alloc (.map #[] 0) = w5 at hM0 hb5 hz5 m0 ⊢
  rw [hgM] at hM0
  go_wp2_with (at_make; refine wpList_make_full _ rfl _ _ 58 rfl w5.heap.size 2 i0 (.int .i64 0) 1 Tryd.underlying58 hi hz0 hz1' .i64 .i64 _ _ N1 rfl rfl rfl rfl (by rw [hz2]; omega) (by unfold maxLen; omega) (by simp) ?_; intro w6 hown hgrow; have hb6 : Below w5.heap.size w5 w6 := Below.grown (Below.refl _ _) hgrow (by simp) (by simp); have m1 := (hb6.cell (p := ⟨w.heap.size + 1, 0, none⟩) (by have := hb5.size; simp only; omega)).trans m0)
  obtain ⟨hk0, -⟩ := made_blk (z := .int .i64 0) rfl hown
  have hk1 : Blk w6 w5.heap.size 2 ((oM ac nx (atomsN t).toNat a.toNat r 0).map (Value.int .i64)) := by rw [Hmz.out r]; simpa using hk0
  have hM6 := hM0.below hb6
  have hB6 : Below wo.heap.size wo w6 := hb5.trans (hb6.mono (by omega))
  rw [show w5.heap.size = gM + 1 by omega] at hk1
  have hgg2 : wo.heap.size ≤ gM := by omega
  have hgg3 : gM ≤ wo.heap.size := by omega
  have hz6 := hB6.size
  clear hown hgrow hk0 hM0 m0 m1 hb5 hb6 hz5 hgM
  have hkey0 := Hk.out w6 (Hb12.out.trans ((HB.out.trans (hB6.mono szB)).mono (by omega))) _ _ b3 co so r ac.length (-1) (HL1.out.below (HB.out.trans (hB6.mono szB))) (HL2.out.below (HB.out.trans (hB6.mono szB))) (HL3.out.below hB6) (HO.out.below hB6) (Or.inr ⟨rfl, rfl⟩)
  refine hkey0.mono ?_
  rintro e w7 ⟨rfl, hb7⟩
  have hM7 := hM6.below hb7
  have hk7 := hk1.below hb7
  have hB7 := hB6.trans (hb7.mono hz6)
  obtain ⟨K0, hK0⟩ : ∃ K0, skT ac nx (atomsN t).toNat a.toNat (oL ac nx (atomsN t).toNat a.toNat r) (-1) = K0 := ⟨_, rfl⟩
  have hkK := Hkl.out r (-1)
  rw [hK0] at hkK ⊢
  have hkey := keyK (t := K0) (by omega)
  have hz7 := hB7.size
  have ltN := hk7.lt
  clear hkey0 hM6 hk1 hB6 hb7 hkK
  go_wp2_with (
   (at_mapUpdate; go_must (refine (wpList_mapUpdate_at _ rfl _ _ _ 74 rfl 9 2 lawK Tryd.underlying74 kfK_inj gM (hM7) (K0) (hkey) (0) rfl rfl rfl ?_); intro w10 hM10 ho10; have hz10 := ho10.size; have hk8 := hk7.keep (ho10.block _ ltN (by simp <;> omega)); have n8 := ((((HL2.out.below (HB.out.trans (hB7.mono szB)))).keep (ho10.block _ (by have := HL2.out.lt; omega) (by have := HL2.out.lt; simp <;> omega)))).c0; have HB8 := Lib.hid (show Below wo.heap.size wo w10 from hB7.trans ⟨ho10.os, ho10.tape, ho10.output, ho10.size, fun b hb => ho10.block b (by omega) (by simp <;> omega)⟩); have HM8 := Lib.hid hM10; clear hM10 ho10))
   )
  have hMs : MapAt Tryd.prog 9 kfK (Value.int .i64) w10 gM (mapT (kyL (skR ac nx (atomsN t).toNat a.toNat r) 0)) := mapAt_of HM8.out (by rw [kyL_zero]; unfold skR; rw [hK0]; rfl)
  have Hst := Lib.hid (And.intro hMs (And.intro hk8 HB8.out))
  clear hMs hk8 HM8 HB8 hM7 hk7 hB7 hkey hK0 n8 ltN
  go_loopw [29] (fun i wr => ∃ k : Nat, k ≤ ac.length ∧ i = .int .i64 k ∧ MapAt Tryd.prog 9 kfK (Value.int .i64) wr gM (mapT (kyL (skR ac nx (atomsN t).toNat a.toNat r) k)) ∧ Blk wr (gM + 1) 2 ((oM ac nx (atomsN t).toNat a.toNat r k).map (Value.int .i64)) ∧ Below wo.heap.size wo wr) (fun i _ => ac.length - (intOf i).toNat)
  case atStart => exact ⟨0, by omega, rfl, Hst.out.1, Hst.out.2.1, Hst.out.2.2⟩
  case round =>
   clear Hst
   obtain ⟨k, hk, rfl, hM, hK, hBk⟩ := hrel
   obtain ⟨wk, rfl⟩ : ∃ v, v = wr := ⟨_, rfl⟩
   have hk0 := Int.natCast_nonneg k
   have szk := hBk.size
   have hBw := HB.out.trans (hBk.mono szB)
   have ltM := hM.lt
   have ltN := hK.lt
   by_cases hlt : k < ac.length
   rotate_left
   ·
    -- dev(
    obtain rfl : k = ac.length := by omega
    have hlM : (mapT (kyL (skR ac nx (atomsN t).toNat a.toNat r) ac.length)).length = n1 := by rw [mapT_len, Hcnt.out r, Hn1.out]
    have b0 := (HL3.out.below hBk).c0
    have ltb := (HL3.out.below hBk).lt
    have bz := (HL3.out.below hBk).frozen 0
    have hfN : Fresh wo wk (intsD (oL ac nx (atomsN t).toNat a.toNat (r + 1))) (.slice (some ⟨gM + 1, 0, none⟩) N1 N1) := by
     rw [HmA.out r] at hK
     exact arr_fresh (fd := D.int) (W := wo) hK (by omega) (fun x => Ow.int x) (HLl.out (r + 1)) (by unfold maxLen; omega)
    have hfS : Fresh wo (wk.setCell ⟨b3, 0, none⟩ (.slice (some ⟨gM + 1, 0, none⟩) N1 N1)) (intsD (oL ac nx (atomsN t).toNat a.toNat (r + 1))) (.slice (some ⟨gM + 1, 0, none⟩) N1 N1) := hfN.keep fun b hb1 hb2 => Below.heap_setCell _ _ _ _ (fun e => by have e' : b = b3 := e; omega)
    have hMS : MapAt Tryd.prog 9 kfK (Value.int .i64) (wk.setCell ⟨b3, 0, none⟩ (.slice (some ⟨gM + 1, 0, none⟩) N1 N1)) gM (mapT (kyL (skR ac nx (atomsN t).toNat a.toNat r) ac.length)) := hM.keep (Below.heap_setCell _ _ _ _ (fun e => by have e' : gM = b3 := e; omega))
    have hL3S : Blk (wk.setCell ⟨b3, 0, none⟩ (.slice (some ⟨gM + 1, 0, none⟩) N1 N1)) b3 58 [.slice (some ⟨gM + 1, 0, none⟩) N1 N1] := (HL3.out.below hBk).set 0 _
    have hBS : Below w2.heap.size w2 (wk.setCell ⟨b3, 0, none⟩ (.slice (some ⟨gM + 1, 0, none⟩) N1 N1)) := Below.setCell (p := ⟨b3, 0, none⟩) hBw hb3w _
    have s0 := hL3S.c0
    have HS := Lib.hid (And.intro (hfS.from (w0 := w2) szB) (And.intro hL3S hBS))
    clear hM hK hBk hBw hfN hfS hL3S hBS
    by_cases heq : n1 = n0
    ·
     have e1 : ((n1 : Int) == (n0 : Int)) = true := beq_iff_eq.2 (by omega)
     have HC : Hid (cntI ac nx (atomsN t).toNat a.toNat (r + 1) = cntI ac nx (atomsN t).toNat a.toNat r) := by show _ = _; rw [Hn0.out, Hn1.out, heq]
     clear heq
     go_wp2_with (
      (at_len; refine wpList_len_at _ rfl _ 74 rfl 9 2 Tryd.underlying74 gM (hMS) rfl (n1) (hlM) ?_)
      )
     go_ret
     exact ⟨r, _, _, rfl, HC.out, HS.out.1.from (by omega), Hb12.out.trans (HS.out.2.2.mono (by omega))⟩
    ·
     have e1 : ((n1 : Int) == (n0 : Int)) = false := beq_eq_false_iff_ne.2 (by omega)
     go_wp2_with (
      (at_len; refine wpList_len_at _ rfl _ 74 rfl 9 2 Tryd.underlying74 gM (hMS) rfl (n1) (hlM) ?_)
      )
     go_roundw
     case rel => exact ⟨r + 1, _, _, by rw [Hn1.out], HS.out.2.1, HS.out.1, HS.out.2.2⟩
     case measure => simp [intOf]; omega
    -- dev)
   have hkey0 := Hk.out wk (Hb12.out.trans (hBw.mono (by omega))) _ _ b3 co so r k (k : Int) (HL1.out.below hBw) (HL2.out.below hBw) (HL3.out.below hBk) (HO.out.below hBk) (Or.inl ⟨hlt, rfl⟩)
   obtain ⟨hin1, hnum⟩ := kyL_num (f := skR ac nx (atomsN t).toNat a.toNat r) hlt
   have hsucc := kyL_succ (skR ac nx (atomsN t).toNat a.toNat r) k
   have hnd1 := kyL_nodup (skR ac nx (atomsN t).toNat a.toNat r) (k + 1)
   rw [Hnum.out r k hlt] at hnum
   have hfin := mapT_in hnd1 hin1
   rw [hnum] at hfin
   obtain ⟨KT, hKT⟩ : ∃ KT, skR ac nx (atomsN t).toNat a.toNat r (k : Int) = KT := ⟨_, rfl⟩
   have hKT' : skT ac nx (atomsN t).toNat a.toNat (oL ac nx (atomsN t).toNat a.toNat r) (k : Int) = KT := hKT
   have hkK := Hkl.out r (k : Int)
   rw [hKT'] at hkK hkey0
   rw [hKT] at hfin hsucc
   obtain ⟨Y, hY⟩ : ∃ Y, clsI ac nx (atomsN t).toNat a.toNat (r + 1) (k : Int) = Y := ⟨_, rfl⟩
   have hset := Hms.out r k hlt
   have hold := Hma.out r k hlt
   rw [hY] at hfin hset
   obtain ⟨KL, hKL⟩ : ∃ KL, kyL (skR ac nx (atomsN t).toNat a.toNat r) k = KL := ⟨_, rfl⟩
   have hnd0 := kyL_nodup (skR ac nx (atomsN t).toNat a.toNat r) k
   rw [hKL] at hM hsucc hnd0
   have HKL := Lib.hid hKL
   have Hset := Lib.hid hset
   have Hsucc := Lib.hid hsucc
   have Hfin := Lib.hid hfin
   have hkb : (k : Int) < (N1 : Int) := by omega
   have hkc : (k : Int) < (ac.length : Int) := by omega
   have hkey := keyK (t := KT) (by omega)
   clear hin1 hnum hnd1 hKT hKT' hkK hY hset hsucc hfin hKL
   go_wp2_with fail
   refine hkey0.mono ?_
   rintro e w7 ⟨rfl, hb7⟩
   have hM7 := hM.below hb7
   have hK7 := hK.below hb7
   have hB7 := hBk.trans (hb7.mono szk)
   have hz7 := hB7.size
   have lt7 := hK7.lt
   have x7 := arr_cell hK7 hold
   have f7 := hK7.frozen k
   clear hkey0 hb7 hM hK hBk hBw
   by_cases hin : KT ∈ KL
   ·
    -- dev(
    have hf1 := mapT_in hnd0 hin
    have hL1 : Hid (kyL (skR ac nx (atomsN t).toNat a.toNat r) (k + 1) = KL) := by show _ = _; rw [Hsucc.out, grow1_old hin]
    have hfY : findM (mapT KL) KT = some Y := by rw [← hL1.out]; exact Hfin.out
    have hKn := arr_set hK7 k Y
    rw [Hset.out] at hKn
    have HN := Lib.hid (And.intro (mapAt_of (hM7.keep (w' := w7.setCell ⟨gM + 1, k, none⟩ (.int .i64 Y)) (Below.heap_setCell _ _ _ _ (fun e => by have e' : gM = gM + 1 := e; omega))) (show mapT KL = mapT (kyL (skR ac nx (atomsN t).toNat a.toNat r) (k + 1)) by rw [hL1.out])) (And.intro hKn (Below.setCell (p := ⟨gM + 1, k, none⟩) hB7 (by simp only; omega) (.int .i64 Y))))
    clear hin hf1 hKn hK7 hB7
    go_wp2_with (first
     |
      (at_lookup; refine wpList_lookup_at _ rfl _ _ 74 true rfl 9 2 lawK Tryd.underlying74 (.int .i64 0) (zeroK _) kfK_inj gM (hM7) (KT) (hkey) rfl rfl (some Y) (hfY) ?_; simp only [lookV])
     |
      (at_lookup; refine wpList_lookup_at _ rfl _ _ 74 false rfl 9 2 lawK Tryd.underlying74 (.int .i64 0) (zeroK _) kfK_inj gM (hM7) (KT) (hkey) rfl rfl (some Y) (hfY) ?_; simp only [lookV])
     )
    go_roundw
    case rel => exact ⟨k + 1, by omega, by go_num, HN.out.1, HN.out.2.1, HN.out.2.2⟩
    case measure => simp [intOf]; omega
    -- dev)
   ·
    -- dev(
    have hf0 := mapT_out hin
    have hlK : (mapT KL).length = KL.length := mapT_len KL
    have Hpm : Hid (putM (mapT KL) KT (KL.length : Int) = mapT (kyL (skR ac nx (atomsN t).toNat a.toNat r) (k + 1))) := by show _ = _; rw [putM_new hf0, ← mapT_snoc, Hsucc.out, grow1_new hin]
    clear hin
    go_wp2_with (first
     |
      (at_lookup; refine wpList_lookup_at _ rfl _ _ 74 true rfl 9 2 lawK Tryd.underlying74 (.int .i64 0) (zeroK _) kfK_inj gM (hM7) (KT) (hkey) rfl rfl (none) (hf0) ?_; simp only [lookV])
     |
      (at_len; refine wpList_len_at _ rfl _ 74 rfl 9 2 Tryd.underlying74 gM (hM7) rfl (KL.length) (hlK) ?_)
     |
      (at_mapUpdate; go_must (refine (wpList_mapUpdate_at _ rfl _ _ _ 74 rfl 9 2 lawK Tryd.underlying74 kfK_inj gM (hM7) (KT) (hkey) ((KL.length : Int)) rfl rfl rfl ?_); intro w10 hM10 ho10; have hz10 := ho10.size; have hM10' := mapAt_of hM10 Hpm.out; have hK10 := hK7.keep (ho10.block _ lt7 (by simp)); have x10 := arr_cell hK10 hold; have f10 := hK10.frozen k; have lt10 := hK10.lt; have hB10 : Below wo.heap.size wo w10 := hB7.trans ⟨ho10.os, ho10.tape, ho10.output, ho10.size, fun b hb => ho10.block b (by omega) (by simp <;> omega)⟩))
     |
      (at_lookup; refine wpList_lookup_at _ rfl _ _ 74 false rfl 9 2 lawK Tryd.underlying74 (.int .i64 0) (zeroK _) kfK_inj gM (hM10') (KT) (hkey) rfl rfl (some Y) (Hfin.out) ?_; simp only [lookV])
     )
    have hKn := arr_set hK10 k Y
    rw [Hset.out] at hKn
    have HN := Lib.hid (And.intro (hM10'.keep (w' := w10.setCell ⟨gM + 1, k, none⟩ (.int .i64 Y)) (Below.heap_setCell _ _ _ _ (fun e => by have e' : gM = gM + 1 := e; omega))) (And.intro hKn (Below.setCell (p := ⟨gM + 1, k, none⟩) hB10 (by simp only; omega) (.int .i64 Y))))
    go_roundw
    case rel => exact ⟨k + 1, by omega, by go_num, HN.out.1, HN.out.2.1, HN.out.2.2⟩
    case measure => simp [intOf]; omega
    -- dev)
end Go.Proofs.YtfhlddbngjlhbaaDoor
