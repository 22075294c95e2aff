/-
  Parts of a proof, joined: LeL. No condition.
-/
import Derived.ArgAppend
import Derived.Test.YtcokljhamhgelaaGreatDoorPk30
namespace Go.Proofs.YtcokljhamhgelaaGreatDoor
set_option linter.unusedVariables false
set_option linter.unusedSimpArgs false
open Go.ChangeShapes Go.WideShapes Go.ChangeAt Go.RowKit Go.Deep
def LlW (B g : Nat) (t a : Int) (w0 wr : World) (f : Int → Int) (S : List Int) (k : Nat) (MA : List (List Bool)) (k' : Nat) (MX : List (List (List Int))) (v0 v1 vA vX : Value) (more : List Item) : Prop :=
 Bun B wr ([.app 2 1 S.length ((S.map f).map D.int) v0, .app 2 1 S.length (S.map D.int) v1, .box g 49 [.int .i64 t, .int .i64 a, vA, vX], .app 85 1 k (MA.map boolsD) vA, .app 55 1 k' (MX.map iiD) vX] ++ more) ∧ Below B w0 wr
theorem Bun.turn_two {B : Nat} {w w' : World} {items : List Item} {own : Nat → Nat} (h : ∀ (i : Nat) (it : Item), items[i]? = some it → it.on (fun b => B ≤ b ∧ b < w.heap.size ∧ own b = i) w) (hz : w.heap.size ≤ w'.heap.size) (hB : B ≤ w.heap.size) (k m : Nat) (hkm : k ≠ m)
  {S : Nat → Prop} {t size n : Nat} {ds : List D} {v : Value} {g T : Nat} {cur cur' : List Value} (hm : items[m]? = some (.box g T cur)) (hl : k < items.length) (hk : ∀ b, b < w.heap.size → own b ≠ k → b ≠ g → w'.heap[b]? = w.heap[b]?) (f : AppS S w' t size n ds v)
  (hs : ∀ b, b < w'.heap.size → S b → (B ≤ b ∧ b < w.heap.size ∧ own b = k) ∨ w.heap.size ≤ b) (hb : Blk w' g T cur') : Bun B w' ((items.set k (.app t size n ds v)).set m (.box g T cur')) := by
 have q := h m _ hm
 have hml := (List.getElem?_eq_some_iff.1 hm).1
 refine ⟨fun b => if w.heap.size ≤ b then k else own b, fun i it hi => ?_⟩
 by_cases him : m = i
 ·
  subst him
  rw [List.getElem?_set_self (by rw [List.length_set]; exact hml)] at hi
  obtain rfl := Option.some.inj hi
  refine ⟨⟨q.1.1, hb.lt, ?_⟩, hb⟩
  have := q.1.2
  dsimp only
  rw [if_neg (by omega)]
  exact this.2
 ·
  rw [List.getElem?_set_ne him] at hi
  by_cases hik : k = i
  ·
   subst hik
   rw [List.getElem?_set_self hl] at hi
   obtain rfl := Option.some.inj hi
   refine AppS.more f fun b hb' hS => ?_
   dsimp only
   rcases hs b hb' hS with p | p
   ·
    refine ⟨p.1, hb', ?_⟩
    rw [if_neg (by omega)]
    exact p.2.2
   ·
    refine ⟨by omega, hb', ?_⟩
    rw [if_pos p]
  ·
   rw [List.getElem?_set_ne hik] at hi
   have h1 := Item.keep (w' := w') hz (h i it hi) fun b hb' hs' => hk b hb' (by rw [hs'.2.2]; omega) (fun e => by
    subst e
    have p1 := q.1.2.2
    have p2 := hs'.2.2
    omega)
   refine Item.more h1 fun b _ hb' => ⟨hb'.1, by omega, ?_⟩
   dsimp only
   rw [if_neg (by omega)]
   exact hb'.2.2
theorem Ows.boolVs {w : World} : ∀ zs : List Bool, Ows w (zs.map D.bool) (zs.map Value.bool) []
 | [] => Ows.nil
 | z :: r => Ows.cons (Ow.bool z) (Ows.boolVs r)
theorem bool_news {w : World} {zs : List Bool} {b o len cap : Nat} (h : Rd w (boolsD zs) (.slice (some ⟨b, o, none⟩) len cap)) : ∀ j u, (zs.map Value.bool)[j]? = some u → w.cell? ((⟨b, o, none⟩ : Addr).add j) = some u := by
 intro j u hj
 rw [List.getElem?_map] at hj
 cases hz : zs[j]? with
 | none => rw [hz] at hj; cases hj
 | some z =>
  rw [hz] at hj
  simp at hj
  subst hj
  have := (bool_in h hz).2
  by_cases hj0 : j = 0
  ·
   subst hj0; simpa [Addr.add] using this
  ·
   simpa [Addr.add, hj0] using this
theorem info_bool1 : (Tryz.prog.info? 4).map (fun i => (i.zero, i.size, i.bytes)) = some (some (.bool false), 1, 1) := by kernel_rfl
theorem info_bools1 : (Tryz.prog.info? 85).map (fun i => (i.zero, i.size, i.bytes)) = some (some (.slice none 0 0), 1, 24) := by kernel_rfl
theorem wpList_append_bools0 (w : World) {ops : Array Oper} {rest : List Oper} {o : Oper} {a : Act} {Q : Exit → Act → World → Prop} (hgd : o.guard = none) (s x : Operand)
  (ho : o.op = .call { callee := .builtin .append, args := #[s, x], argTypes := #[85, 85] }) {ao : Option Addr} (hs : a.eval s = .slice ao 0 0)
  {bs : List Bool} {sa : Option Addr} {c : Nat} (hx : a.eval x = .slice sa bs.length c) (hr : Rd w (boolsD bs) (.slice sa bs.length c)) (hlen : 0 < bs.length) (hl8 : bs.length ≤ 1000000)
  (h : ∀ a' cap w', Freshs w w' [boolsD bs] [.slice a' bs.length cap] → Below w.heap.size w w' → wpList Tryz.prog ops Q rest (a.put o.dst (.slice a' bs.length cap)) w') : wpList Tryz.prog ops Q (o :: rest) a w := by
 obtain ⟨b, o', rfl⟩ := nest_some (f := D.bool) hr hlen
 obtain ⟨i, hi, hz, hsize, hby⟩ := info_parts info_bool1
 refine wpList_append_grows w hgd s x 85 ho 4 i (.bool false) 1 1 Tryz.underlying85 hi hz hsize hby rfl (by decide) ao 0 0 [] hs (fun _ => ⟨rfl, rfl⟩) rfl (fun _ _ j u hj => by simp at hj) ⟨b, o', none⟩ bs.length c (bs.map Value.bool) hx (by simp) (bool_news hr) (fun u hu => by obtain ⟨v, -, rfl⟩ := List.mem_map.1 hu; rfl) (by omega) (by unfold maxLen; omega) (by omega) ?_
 intro v' w' k1 k2
 simp only [Nat.zero_add, List.nil_append] at k1
 have happ : App w w' 4 1 bs.length (bs.map D.bool) v' := ⟨_, [], k1, Ows.boolVs bs, by simp, by simp⟩
 obtain ⟨a', cap, rfl, -⟩ := happ.shape
 exact h a' cap w' (Freshs.one happ.fresh) ⟨k2.os, k2.tape, k2.output, k2.size, fun b hb => k2.block b hb (by simp)⟩
theorem stB_in {N : Nat} (h : 1 ≤ N) : StIn N [0] := fun s hs => by
 rw [List.mem_singleton] at hs
 subst hs
 omega
theorem rowR_len {L : List WL} {a m : Nat} {l : WL} : (rowR L a m l).length = a := by simp [rowR]
theorem rowsR_len {L : List WL} {A a : Nat} {l : WL} : (rowsR L A a l).length = A := by simp [rowsR]
theorem idx_case {L : List Int} {n : Int} : (n ∈ L ∧ idxI L n = (L.idxOf n : Int) ∧ 0 ≤ idxI L n) ∨ (n ∉ L ∧ idxI L n = -1) := by
 unfold idxI
 by_cases h : n ∈ L
 ·
  exact Or.inl ⟨h, if_pos h, by rw [if_pos h]; omega⟩
 ·
  exact Or.inr ⟨h, if_neg h⟩
set_option maxRecDepth 100000 in
set_option maxHeartbeats 16000000 in
theorem l02Least_i {t a : Int} {ac : List (List Bool)} {nx : List (List (List Int))} {s u : Option Addr} {c d bA oA : Nat} {w : World} (h : AutAt w bA oA t a ac nx s u c d) (hok : AutOk t a ac nx) :
  Calls Tryz.prog 18 #[.pointer (some ⟨bA, oA, none⟩)] w fun e w' => ∃ s1 c1 s2 c2, e = .returned (.agg #[.int .i64 t, .int .i64 a, .slice s1 (lsA (lgN ac nx (atomsN t).toNat a.toNat 0) (atomsN t).toNat a.toNat).length c1, .slice s2 (lsX (lgN ac nx (atomsN t).toNat a.toNat 0) (atomsN t).toNat a.toNat).length c2]) ∧
   Freshs w w' (autD (lsA (lgN ac nx (atomsN t).toNat a.toNat 0) (atomsN t).toNat a.toNat) (lsX (lgN ac nx (atomsN t).toNat a.toNat 0) (atomsN t).toNat a.toNat)) [.slice s1 (lsA (lgN ac nx (atomsN t).toNat a.toNat 0) (atomsN t).toNat a.toNat).length c1, .slice s2 (lsX (lgN ac nx (atomsN t).toNat a.toNat 0) (atomsN t).toNat a.toNat).length c2] ∧ Below w.heap.size w w' := by
 obtain ⟨hdm1, hdm2, hdm3, hdm4⟩ := hok.dims
 have g4 := h.2.2.2.2.1
 have g5 := h.2.2.2.2.2
 obtain ⟨hlen, hcap⟩ := nest_bd g4
 obtain ⟨hlen', hcap'⟩ := nest_bd g5
 unfold maxLen at hcap hcap'
 have hn1 := hok.lo
 have hn2 := hok.hi
 have hnl1 : nx.length ≤ ac.length := by rw [hok.len]; exact Nat.le_refl _
 have hnl2 : ac.length ≤ nx.length := by rw [hok.len]; exact Nat.le_refl _
 obtain ⟨sb, so, rfl⟩ := nest_some (f := boolsD) g4 (by omega)
 obtain ⟨ub, uo, rfl⟩ := nest_some (f := iiD) g5 (by omega)
 have Hrow := Lib.hid (fun (k : Nat) (nr : List (List Int)) (h : nx[k]? = some nr) => hok.row h)
 have hHACC := fun (k : Nat) (ar : List Bool) (h : ac[k]? = some ar) => acc_ls hok h
 have hHSTEP := fun (D : Int) (f : Int → Int) (hc : ClOk ac nx (atomsN t).toNat a.toNat D f) (S : List Int) (i m k : Nat) (s : Int) hS hx hSL hs1 hm hk => ls_step hok hc (S := S) (i := i) (m := m) (k := k) (s := s) hS hx hSL hs1 hm hk
 have hHF := fun (i : Nat) hd => lsL_all hok (i := i) hd
 have hHLEN := fun i => lsL_len hok i
 have hHLENC := fun (i m k : Nat) (x : WL) hx => lsC_len hok (i := i) (m := m) (k := k) (x := x) hx
 have hHIN := fun (i : Nat) (x : WL) hx => prefix_get (lsL_in hok i) (i := i) (x := x) hx
 have hHFD := fun (r : Nat) hc => clsF_ok hok (r := r) hc
 have hcls := fun (wz : World) (hb : Below w.heap.size w wz) => l02Classes_i (h.below hb) hok
 have hHA2 := fun (k : Nat) (x : WL) (hx : (lsF (lgN ac nx (atomsN t).toNat a.toNat 0) (atomsN t).toNat a.toNat)[k]? = some x) => And.intro (map_take_succ (f := accLs (atomsN t).toNat) hx) (map_take_succ (f := rowsR (lsF (lgN ac nx (atomsN t).toNat a.toNat 0) (atomsN t).toNat a.toNat) (atomsN t).toNat a.toNat) hx)
 have hHAL : lsA (lgN ac nx (atomsN t).toNat a.toNat 0) (atomsN t).toNat a.toNat = (lsF (lgN ac nx (atomsN t).toNat a.toNat 0) (atomsN t).toNat a.toNat).map (accLs (atomsN t).toNat) := rfl
 have hHXL : lsX (lgN ac nx (atomsN t).toNat a.toNat 0) (atomsN t).toNat a.toNat = (lsF (lgN ac nx (atomsN t).toNat a.toNat 0) (atomsN t).toNat a.toNat).map (rowsR (lsF (lgN ac nx (atomsN t).toNat a.toNat 0) (atomsN t).toNat a.toNat) (atomsN t).toNat a.toNat) := rfl
 obtain ⟨n, hn⟩ : ∃ n, a.toNat = n := ⟨_, rfl⟩
 obtain ⟨A, hA⟩ : ∃ A, (atomsN t).toNat = A := ⟨_, rfl⟩
 have hA1 : atomsN t ≤ (A : Int) := by omega
 have hA2 : (A : Int) ≤ atomsN t := by omega
 have hA8 : A ≤ 8 := by omega
 have hA0 : 1 ≤ A := by omega
 have hn4 : n ≤ 4 := by omega
 have hna1 : a ≤ (n : Int) := by omega
 have hna2 : (n : Int) ≤ a := by omega
 rw [hA, hn] at hHACC hHSTEP hHF hHLEN hHLENC hHIN hHFD hHA2 hHAL hHXL hcls ⊢
 clear hA hn
 obtain ⟨LG, hLG⟩ : ∃ LG, lgN ac nx A n = LG := ⟨_, rfl⟩
 have HGO := Lib.hid (fun (q : Int) => by rw [← hLG] : ∀ q, lgN ac nx A n q = LG q)
 rw [hLG] at hHACC hHSTEP hHF hHLEN hHLENC hHIN hHA2 hHAL hHXL ⊢
 obtain ⟨PF, hPF⟩ : ∃ PF, lsF (LG 0) A n = PF := ⟨_, rfl⟩
 rw [hPF] at hHSTEP hHF hHIN hHA2 hHAL hHXL
 obtain ⟨FA, hFA⟩ : ∃ FA, PF.map (accLs A) = FA := ⟨_, rfl⟩
 obtain ⟨FX, hFX⟩ : ∃ FX, PF.map (rowsR PF A n) = FX := ⟨_, rfl⟩
 have HlA : Hid (FA.length = PF.length) := by show _ = _; rw [← hFA, List.length_map]
 have HlX : Hid (FX.length = PF.length) := by show _ = _; rw [← hFX, List.length_map]
 rw [hFA] at hHAL hHA2
 rw [hFX] at hHXL hHA2
 rw [hHAL, hHXL]
 have HACC := Lib.hid hHACC
 have HSTEP := Lib.hid hHSTEP
 have HF := Lib.hid hHF
 have HLEN := Lib.hid hHLEN
 have HLENC := Lib.hid hHLENC
 have HIN := Lib.hid hHIN
 have HFD := Lib.hid hHFD
 have HA2 := Lib.hid hHA2
 have Hok := Lib.hid hok
 have Hh := Lib.hid h
 clear hLG hPF hFA hFX hHAL hHXL hok g4 g5 hHACC hHSTEP hHF hHLEN hHLENC hHIN hHFD hHA2
 go_enter Tryz.func18, Tryz.ntmps18
 go_wp2_with fail
 obtain ⟨w0, e0, R, hb0, hz0⟩ := box4 w 49 (.int .i64 0) (.int .i64 0) (.slice none 0 0) (.slice none 0 0)
 rw [e0]
 clear e0
 refine (hcls w0 hb0).mono ?_
 rintro e wc ⟨r, sc, cc, rfl, hcnt, hfc, hbc⟩
 have hcl := HFD.out r hcnt
 have hbd := fun (z : Int) (h0 : 0 ≤ z) (h1 : z < ac.length) => clsF_bd (nx := nx) (A := A) (a := n) (r := r) h0 h1
 have hEl : (clsE ac nx A n r).length = ac.length := clsE_len
 have hEa := fun (z : Nat) (h1 : z < ac.length) => clsE_at (nx := nx) (A := A) (a := n) (r := r) h1
 obtain ⟨C, hC⟩ : ∃ C, clsE ac nx A n r = C := ⟨_, rfl⟩
 obtain ⟨f, hf⟩ : ∃ f, clsF ac nx A n r = f := ⟨_, rfl⟩
 rw [hC] at hEl hEa hfc
 rw [hf] at hcl hbd hEa
 have Hcl := Lib.hid hcl
 have Hbd := Lib.hid hbd
 have HCl := Lib.hid hEl
 have HEa := Lib.hid hEa
 have hrc := hfc.rd
 have HCr := Lib.hid hrc
 have hzc := hbc.size
 have hwc : Below w.heap.size w wc := hb0.trans (hbc.mono (by omega))
 obtain ⟨cb, co, rfl⟩ := nest_some (f := D.int) hrc (by omega)
 obtain ⟨k1, k2⟩ := nest_bd (f := D.int) hrc
 rw [hEl] at k1
 unfold maxLen at k2
 obtain ⟨-, x0⟩ := int_in hrc (hEa 0 (by omega))
 have x0' : wc.cell? ⟨cb, co, none⟩ = some (.int .i64 (f 0)) := x0
 have Hwc := Lib.hid hwc
 have HR := Lib.hid (R.below hbc)
 have hBc : wc.heap.size ≤ wc.heap.size := Nat.le_refl _
 have hw3 : Below wc.heap.size wc ((wc.alloc (.cells #[.int .i64 (f 0)] 2)).alloc (.cells #[.int .i64 0] 2)) := ((Below.refl wc.heap.size wc).alloc (Nat.le_refl _) _).alloc (by simp) _
 obtain ⟨p0, p1, -, -, -, -⟩ := (h.below hwc).below hw3
 clear hcls HFD hcnt hcl hbd hEl hEa hC hf hfc hrc hbc hw3 h R hwc hdm1 hdm2
 go_wp2_with fail
 clear p0 p1 x0 x0'
 have hB1 := bun_zero (Bun.nil (B := wc.heap.size) (w := wc)) (Nat.le_refl _) (t := 2) (v := f 0)
 have hB2 := bun_zero hB1 (by simp) (t := 2) (v := 0)
 have hB3 := (((hB2.push_box (by simp; omega) 49 #[.int .i64 t, .int .i64 a, .slice none 0 0, .slice none 0 0])).push_nil 85 1).push_nil 55 1
 have hbe := (((Below.refl wc.heap.size wc).alloc (Nat.le_refl _) (.cells #[.int .i64 (f 0)] 2)).alloc (by simp) (.cells #[.int .i64 0] 2)).alloc (by simp; omega) (.cells #[.int .i64 t, .int .i64 a, .slice none 0 0, .slice none 0 0] 49)
 rw [show ((wc.alloc (.cells #[.int .i64 (f 0)] 2)).alloc (.cells #[.int .i64 0] 2)).heap.size = wc.heap.size + 1 + 1 by simp, show (wc.alloc (.cells #[.int .i64 (f 0)] 2)).heap.size = wc.heap.size + 1 by simp] at hB3
 obtain ⟨gA, hg⟩ : ∃ gA, wc.heap.size + 1 + 1 = gA := ⟨_, rfl⟩
 rw [hg] at hB3 ⊢
 have hgw : wc.heap.size ≤ gA := by omega
 have Hst : Hid (LlW wc.heap.size gA t a wc _ f [0] 0 (FA.take 0) 0 (FX.take 0) (.slice (some ⟨wc.heap.size, 0, none⟩) 1 1) (.slice (some ⟨wc.heap.size + 1, 0, none⟩) 1 1) (.slice none 0 0) (.slice none 0 0) []) := ⟨by simpa using hB3, hbe⟩
 clear hB1 hB2 hB3 hbe hg
 go_loopw [4, 5, 7] (fun v0 v1 i wr => ∃ (k : Nat) (S : List Int) (vA vX : Value), i = .int .i64 k ∧ StIn ac.length S ∧ Hid (S.map LG = lsL (LG 0) A n k) ∧ k ≤ S.length ∧ S.length ≤ 60 ∧ LlW wc.heap.size gA t a wc wr f S k (FA.take k) k (FX.take k) v0 v1 vA vX []) (fun _ _ i _ => 61 - (intOf i).toNat)
 case atStart => exact ⟨0, [0], _, _, rfl, stB_in hn1, rfl, by omega, by simp, Hst.out⟩
 case round =>
  clear Hst
  obtain ⟨ri, S, vA, vX, rfl, hS, HL, hil, hl60, hW⟩ := hrel
  obtain ⟨wo, rfl⟩ : ∃ v, v = wr := ⟨_, rfl⟩
  obtain ⟨a0, c0, rfl, q1, q2⟩ := hW.1.shape 0 rfl
  obtain ⟨a1, c1, rfl, q3, q4⟩ := hW.1.shape 1 rfl
  obtain ⟨aA, cA, rfl, q5, q6⟩ := hW.1.shape 3 rfl
  obtain ⟨aX, cX, rfl, q7, q8⟩ := hW.1.shape 4 rfl
  unfold maxLen at q2 q4 q6 q8
  have hi0 := Int.natCast_nonneg ri
  have hzo := hW.2.size
  have HW := Lib.hid hW
  have HS := Lib.hid hS
  by_cases hlt : ri < S.length
  rotate_left
  ·
   -- dev(
   obtain rfl : ri = S.length := by omega
   have HPL : Hid (PF = lsL (LG 0) A n S.length) := (HF.out S.length (by rw [← HL.out]; simp)).symm
   have HPn : Hid (PF.length = S.length) := by show _ = _; rw [HPL.out, ← HL.out, List.length_map]
   have HFr := Lib.hid (hW.1.fresh2 (W := wc) (by omega) 3 4 (by decide) rfl rfl)
   rw [List.take_of_length_le (by rw [HlA.out, HPn.out]; exact Nat.le_refl _), List.take_of_length_le (by rw [HlX.out, HPn.out]; exact Nat.le_refl _)] at HFr
   obtain ⟨x0, x1, x2, x3, -, -, -, -, ltx⟩ := (hW.1.box 2 rfl).1.all4
   have R := HR.out.below (hW.2.mono hBc)
   have hB : Below w.heap.size w wo := Hwc.out.trans (hW.2.mono (by omega))
   clear hW hS HW
   obtain ⟨r0, r1, r2, r3, z0, z1, z2, z3, ltR⟩ := R.all4
   go_wp2_with fail
   obtain ⟨w5, e5, T2, hs5⟩ := set4 R (.int .i64 t) (.int .i64 a) (.slice aA S.length cA) (.slice aX S.length cX)
   rw [e5]
   clear e5 r0 r1 r2 r3 z0 z1 z2 z3 ltR
   obtain ⟨t0, t1, t2, t3, -, -, -, -, -⟩ := T2.all4
   have hzB5 := hB.size
   have hB5 := hB.trans (hs5.below (B := w.heap.size) (by omega) (fun y hy => by omega))
   refine bodyPost_ret (v := .agg #[.int .i64 t, .int .i64 a, .slice aA S.length cA, .slice aX S.length cX]) (by simp [results, Tryz.results18, go_sem, t0, t1, t2, t3]) rfl ?_
   have hf := (HFr.out.keep fun b hb1 hb2 => hs5.block b hb2 (fun hy => by omega)).from (w0 := w) (by omega)
   rw [HlA.out, HlX.out, HPn.out]
   refine ⟨aA, cA, aX, cX, rfl, ?_, hB5⟩
   show Freshs _ _ [.sl 1 FA.length _, .sl 1 FX.length _] _
   rw [HlA.out, HlX.out, HPn.out]
   exact hf
   -- dev)
  obtain ⟨sz, hsz⟩ : ∃ e, S[ri]? = some e := ⟨_, List.getElem?_eq_getElem hlt⟩
  obtain ⟨hs0, hs1⟩ := hS sz (List.mem_of_getElem? hsz)
  obtain ⟨sn, rfl⟩ : ∃ sn : Nat, sz = (sn : Int) := ⟨sz.toNat, by omega⟩
  have HX : Hid ((lsL (LG 0) A n ri)[ri]? = some (LG (sn : Int))) := by show _ = _; rw [← HL.out, List.getElem?_map, hsz]; rfl
  obtain ⟨ar, har⟩ : ∃ e, ac[sn]? = some e := ⟨_, List.getElem?_eq_getElem (by omega)⟩
  obtain ⟨nr, hnr⟩ : ∃ e, nx[sn]? = some e := ⟨_, List.getElem?_eq_getElem (by omega)⟩
  have Har := Lib.hid har
  have Hnr := Lib.hid hnr
  have HACe := Lib.hid (HACC.out sn ar har)
  obtain ⟨l1, l2⟩ := Hrow.out sn nr hnr
  have hnA1 : nr.length ≤ A := by omega
  have hnA2 : A ≤ nr.length := by omega
  have hal := Hok.out.acc_row har
  have har1 : ar.length ≤ A := by omega
  have har2 : A ≤ ar.length := by omega
  have Hl2 := Lib.hid l2
  have hFs := HA2.out ri _ (HIN.out ri _ HX.out)
  rw [← HACe.out] at hFs
  have HRt := Lib.hid (fun (m : Nat) (hm : m < A) => rowsR_take (L := PF) (a := n) (l := LG (sn : Int)) hm)
  have HRl0 : Hid ((rowsR PF A n (LG (sn : Int))).length = A) := rowsR_len
  obtain ⟨RW, hRW⟩ : ∃ RW, rowsR PF A n (LG (sn : Int)) = RW := ⟨_, rfl⟩
  rw [hRW] at hFs HRt HRl0
  have HFs := Lib.hid hFs
  have hil2 : (ri : Int) < (S.length : Int) := by omega
  have hr1 := hW.1.rd 1 rfl
  obtain ⟨fb, fo, rfl⟩ := nest_some (f := D.int) (xs := S) hr1 (by omega)
  obtain ⟨-, v0⟩ := int_in (zs := S) hr1 hsz
  have hsb : (sn : Int) < (nx.length : Int) := by omega
  have hsc : (sn : Int) < (ac.length : Int) := by omega
  clear hW hS l1 l2 hal hRW hFs har hnr hr1 hsz
  go_wp2_with fail
  have hB3 := HW.out.1.push_empty (by omega) 56 1
  have hbe3 := HW.out.2.alloc (by omega) (.cells #[] 56)
  have hst : Hid (LlW wc.heap.size gA t a wc (wo.alloc (.cells #[] 56)) f S ri (FA.take ri) ri (FX.take ri) (.slice a0 S.length c0) (.slice (some ⟨fb, fo, none⟩) S.length c1) (.slice aA ri cA) (.slice aX ri cX) [.app 56 1 0 ((RW.take 0).map intsD) (.slice (some ⟨wo.heap.size, 0, none⟩) 0 0)]) := ⟨by simpa using hB3, hbe3⟩
  have HL0 : Hid (S.map LG = lsC (LG 0) A n ri (LG (sn : Int)) 0 0) := by show _ = _; rw [lsC_zero, HL.out]
  clear hB3 hbe3 HW HL v0
  go_loopw [4, 5, 9, 10] (fun v0 v1 v9 j wr => ∃ (m : Nat) (S : List Int), j = .int .i64 m ∧ m ≤ A ∧ StIn ac.length S ∧ Hid (S.map LG = lsC (LG 0) A n ri (LG (sn : Int)) m 0) ∧ ri < S.length ∧ S.length ≤ 60 ∧ LlW wc.heap.size gA t a wc wr f S ri (FA.take ri) ri (FX.take ri) v0 v1 (.slice aA ri cA) (.slice aX ri cX) [.app 56 1 m ((RW.take m).map intsD) v9]) (fun _ _ _ j _ => A - (intOf j).toNat)
  case atStart => exact ⟨0, S, rfl, by omega, HS.out, HL0, hlt, hl60, hst.out⟩
  case round =>
   clear hst HL0 q1 q2 q3 q4 HS hlt hl60 hil hil2 hzo
   obtain ⟨m, S, rfl, hm, hS, HL, hlt, hl60, hW⟩ := hrel
   obtain ⟨wm, rfl⟩ : ∃ v, v = wr := ⟨_, rfl⟩
   obtain ⟨a0, c0, rfl, q1, q2⟩ := hW.1.shape 0 rfl
   obtain ⟨a1, c1, rfl, q3, q4⟩ := hW.1.shape 1 rfl
   obtain ⟨a5, c5, rfl, q9, q10⟩ := hW.1.shape 5 rfl
   unfold maxLen at q2 q4 q10
   have HW := Lib.hid hW
   have HS := Lib.hid hS
   have hzm := hW.2.size
   have hm0 := Int.natCast_nonneg m
   have hwm : Below w.heap.size w wm := Hwc.out.trans (hW.2.mono (by omega))
   obtain ⟨-, -, c2', c3', g4, g5⟩ := Hh.out.below hwm
   obtain ⟨-, un, cn, b0, rb⟩ := nest_sl (g := intsD) g5 Hnr.out
   obtain ⟨rb1, rb2⟩ := nest_bd rb
   unfold maxLen at rb2
   by_cases hml : m < A
   rotate_left
   ·
    -- dev(
    obtain rfl : A = m := by omega
    have hdA : decide ((A : Int) < (nr.length : Int)) = false := by apply decide_eq_false; omega
    have HEL : Hid (S.map LG = lsL (LG 0) A n (ri + 1)) := by show _ = _; rw [HL.out, lsC_all HX.out]
    have HEX : Hid ((FX.take (ri + 1)).map iiD = (FX.take ri).map iiD ++ [D.sl 1 A ((RW.take A).map intsD)]) := by
     show _ = _
     rw [List.take_of_length_le (l := RW) (by rw [HRl0.out]; exact Nat.le_refl _)]
     exact fin_rows HFs.out.2 rfl HRl0.out
    have HEA : Hid ((FA.take (ri + 1)).map boolsD = (FA.take ri).map boolsD ++ [boolsD ar]) := by show _ = _; rw [HFs.out.1, List.map_append]; rfl
    have hBu := HW.out.1.alloc (.cells #[.slice a5 A c5] 55)
    have hNb := Blk.new1 wm 55 (.slice a5 A c5)
    obtain ⟨x0, x1, x2, x3, z0, z1, z2, z3, ltx⟩ := (HW.out.1.box 2 rfl).1.all4
    have hgb := (HW.out.1.box 2 rfl).2
    clear hW hS hwm g4 g5 rb
    go_wp2_with (at_builtin; go_must (refine wpList_append_bun_own _ rfl _ _ 47 rfl 55 24 Tryz.underlying47 info_i64ss hBu (by simp; omega) 4 _ rfl rfl 5 (by decide) _ rfl ⟨wm.heap.size, 0, none⟩ rfl (news_blk hNb) (by omega) (by unfold maxLen; omega) ?_); intro g7 cap7 w7 hbun7 hb7; obtain ⟨y0, y1, y2, y3, f0, f1, f2, f3, lty⟩ := (hbun7.box 2 rfl).1.all4)
    have Hfin := Lib.hid (And.intro ((hbun7.take 5).store 2 rfl 3 (.slice (some ⟨g7, 0, none⟩) (ri + 1) cap7)) (Below.setCell (p := ⟨gA, 3, none⟩) ((HW.out.2.alloc (by omega) (.cells #[.slice a5 A c5] 55)).trans hb7) hgb (.slice (some ⟨g7, 0, none⟩) (ri + 1) cap7)))
    clear hbun7 hb7 hBu hNb x0 x1 x2 x3 z0 z1 z2 z3 ltx y0 y1 y2 y3 f0 f1 f2 f3 lty HW
    generalize w7.setCell ⟨gA, 3, none⟩ (.slice (some ⟨g7, 0, none⟩) (ri + 1) cap7) = wn at Hfin ⊢
    have HWn : Hid (LlW wc.heap.size gA t a wc wn f S ri (FA.take ri) (ri + 1) (FX.take (ri + 1)) (.slice a0 S.length c0) (.slice a1 S.length c1) (.slice aA ri cA) (.slice (some ⟨g7, 0, none⟩) (ri + 1) cap7) []) := by
     have h := Hfin.out
     show LlW ..
     unfold LlW
     rw [HEX.out]
     exact h
    have hzn := HWn.out.2.size
    obtain ⟨hsl, sr, cr, ra0, rr0⟩ := nest_sl (g := D.bool) Hh.out.2.2.2.2.1 Har.out
    obtain ⟨own, hown⟩ := HWn.out.1
    have V0 := hown 3 _ rfl
    have K2 := (hown 2 _ rfl).2
    have hgo : own gA = 2 := (hown 2 _ rfl).1.2.2
    have V0f := fun (b : Nat) (h : wc.heap.size ≤ b ∧ b < wn.heap.size ∧ own b = 3) => And.intro h.1 h.2.1
    have Hown := Lib.hid hown
    clear hown Hfin HL HX HACe HRt HFs HRl0 HLEN HLENC HIN HA2 HF HACC Hrow HSTEP HR Hcl Hbd HCl HEa HCr HGO Hl2 Hnr HlA HlX HEX c2' c3' b0
    go_wp2_with fail
    have hGb : ∀ m b, (fun m b => (m = 0 ∧ (wc.heap.size ≤ b ∧ b < wn.heap.size ∧ own b = 3)) ∨ (m = 1 ∧ b = gA)) m b → (wc.heap.size) ≤ b ∧ b < (wn).heap.size := by
     intro m b hg
     rcases hg with ⟨rfl, hg⟩ | ⟨rfl, hg⟩
     ·
      have q := V0f b hg
      omega
     ·
      subst hg
      have q := K2.lt
      omega
    have hGd : ∀ m m' b, (fun m b => (m = 0 ∧ (wc.heap.size ≤ b ∧ b < wn.heap.size ∧ own b = 3)) ∨ (m = 1 ∧ b = gA)) m b → (fun m b => (m = 0 ∧ (wc.heap.size ≤ b ∧ b < wn.heap.size ∧ own b = 3)) ∨ (m = 1 ∧ b = gA)) m' b → m = m' := by
     intro m1 m2 b h h'
     rcases h with ⟨rfl, h⟩ | ⟨rfl, h⟩ <;> rcases h' with ⟨rfl, h'⟩ | ⟨rfl, h'⟩ <;> first
      | rfl
      | (exfalso; rw [h] at h'; have q1 := h'.2.2; omega)
      | (exfalso; rw [h'] at h; have q1 := h.2.2; omega)
    refine region_rs [(12, 10)] [(12, 0), (14, 1)] (fun m b => (m = 0 ∧ (wc.heap.size ≤ b ∧ b < wn.heap.size ∧ own b = 3)) ∨ (m = 1 ∧ b = gA)) (wc.heap.size) (fun i iv vs wx => match i with
     | 0 => vs 0 = .pointer (some ⟨gA, 2, none⟩)
     | 1 => vs 1 = .slice aA ri cA
     | 2 => vs 2 = .slice (some ⟨(iv 2).1, 0, none⟩) 0 0 ∧ (iv 2).2 = (iv 2).1 + 1 ∧ Blk wx (iv 2).1 4 []
     | 3 => vs 3 = .pointer (some ⟨bA, oA, none⟩)
     | 4 => vs 4 = .pointer (some ⟨bA, oA, none⟩)
     | 5 => vs 5 = .pointer (some ⟨bA, oA + 2, none⟩)
     | 6 => vs 6 = .slice (some ⟨sb, so, none⟩) ac.length c
     | 7 => vs 7 = .int .i64 sn
     | 8 => vs 8 = .pointer (some ⟨sb, so + sn, none⟩)
     | 9 => vs 9 = .slice sr ar.length cr
     | 10 => ∃ a10 c10, vs 10 = .slice a10 ar.length c10 ∧ FreshIn (iv 10) wx [boolsD ar] [.slice a10 ar.length c10]
     | 11 => vs 11 = .slice (some ⟨(iv 11).1, 0, none⟩) 1 1 ∧ (iv 11).2 = (iv 11).1 + 1 ∧ Blk wx (iv 11).1 85 [vs 10]
     | 12 => ∃ g cap, vs 12 = .slice (some ⟨g, 0, none⟩) (ri + 1) cap ∧ AppS (foot [(12, 10)] [(12, 0), (14, 1)] (fun m b => (m = 0 ∧ (wc.heap.size ≤ b ∧ b < wn.heap.size ∧ own b = 3)) ∨ (m = 1 ∧ b = gA)) 15 12 iv) wx 85 1 (ri + 1) ((FA.take ri).map boolsD ++ [boolsD ar]) (.slice (some ⟨g, 0, none⟩) (ri + 1) cap)
     | 13 => vs 13 = .pointer (some ⟨gA, 2, none⟩)
     | 14 => Blk wx (gA) 49 [.int .i64 t, .int .i64 a, vs 12, .slice (some ⟨g7, 0, none⟩) (ri + 1) cap7]
     | _ => True) (fun i iv vs => match i with
     | 0 => vs 0 = .pointer (some ⟨gA, 2, none⟩)
     | 1 => vs 1 = .slice aA ri cA
     | 2 => vs 2 = .slice (some ⟨(iv 2).1, 0, none⟩) 0 0 ∧ (iv 2).2 = (iv 2).1 + 1
     | 3 => vs 3 = .pointer (some ⟨bA, oA, none⟩)
     | 4 => vs 4 = .pointer (some ⟨bA, oA, none⟩)
     | 5 => vs 5 = .pointer (some ⟨bA, oA + 2, none⟩)
     | 6 => vs 6 = .slice (some ⟨sb, so, none⟩) ac.length c
     | 7 => vs 7 = .int .i64 sn
     | 8 => vs 8 = .pointer (some ⟨sb, so + sn, none⟩)
     | 9 => vs 9 = .slice sr ar.length cr
     | 10 => ∃ a10 c10, vs 10 = .slice a10 ar.length c10
     | 11 => vs 11 = .slice (some ⟨(iv 11).1, 0, none⟩) 1 1 ∧ (iv 11).2 = (iv 11).1 + 1
     | 12 => ∃ g cap, vs 12 = .slice (some ⟨g, 0, none⟩) (ri + 1) cap
     | 13 => vs 13 = .pointer (some ⟨gA, 2, none⟩)
     | 14 => True
     | _ => True) (by kernel_rfl) (by kernel_rfl) [0, 1, 2, 3, 4, 5, 6, 7, 8, 9, 10, 11, 12, 13, 14] (by kernel_rfl) ?hbase ?hGb ?hG ?hJ ?hE ?hEE ?hstep ?hQ
    case hbase => first | exact Nat.le_refl _ | omega | (simp; omega)
    case hGb =>
     exact hGb
    case hG =>
     exact hGd
    case hJ =>
     intro i hi iv iv' vs vs' wx wx' ha hv hz hk hj
     simp only [List.mem_cons, List.not_mem_nil, or_false] at hi
     rcases hi with rfl | rfl | rfl | rfl | rfl | rfl | rfl | rfl | rfl | rfl | rfl | rfl | rfl | rfl | rfl
     ·
      exact (hv.out 0 (mem_of (by kernel_rfl))).symm.trans hj
     ·
      exact (hv.out 1 (mem_of (by kernel_rfl))).symm.trans hj
     ·
      have e2 := hv.out 2 (mem_of (by kernel_rfl))
      have g2 := ha.out 2 (mem_of (by kernel_rfl))
      obtain ⟨q1, q3, q2⟩ := hj
      show vs' 2 = .slice (some ⟨(iv' 2).1, 0, none⟩) 0 0 ∧ (iv' 2).2 = (iv' 2).1 + 1 ∧ Blk wx' (iv' 2).1 4 []
      rw [← e2, ← g2]
      exact ⟨q1, q3, q2.keep (hk.out _ q2.lt (foot_own (Nat.le_refl _) (by omega)))⟩
     ·
      exact (hv.out 3 (mem_of (by kernel_rfl))).symm.trans hj
     ·
      exact (hv.out 4 (mem_of (by kernel_rfl))).symm.trans hj
     ·
      exact (hv.out 5 (mem_of (by kernel_rfl))).symm.trans hj
     ·
      exact (hv.out 6 (mem_of (by kernel_rfl))).symm.trans hj
     ·
      exact (hv.out 7 (mem_of (by kernel_rfl))).symm.trans hj
     ·
      exact (hv.out 8 (mem_of (by kernel_rfl))).symm.trans hj
     ·
      exact (hv.out 9 (mem_of (by kernel_rfl))).symm.trans hj
     ·
      have e10 := hv.out 10 (mem_of (by kernel_rfl))
      have g10 := ha.out 10 (mem_of (by kernel_rfl))
      obtain ⟨a10, c10, q1, q2⟩ := hj
      exact ⟨a10, c10, e10 ▸ q1, g10 ▸ q2.keep (fun b hb h1 h2 => hk.out b hb (foot_own h1 h2))⟩
     ·
      have e10 := hv.out 10 (mem_of (by kernel_rfl))
      have e11 := hv.out 11 (mem_of (by kernel_rfl))
      have g11 := ha.out 11 (mem_of (by kernel_rfl))
      obtain ⟨q1, q3, q2⟩ := hj
      show vs' 11 = .slice (some ⟨(iv' 11).1, 0, none⟩) 1 1 ∧ (iv' 11).2 = (iv' 11).1 + 1 ∧ Blk wx' (iv' 11).1 85 [vs' 10]
      rw [← e10, ← e11, ← g11]
      exact ⟨q1, q3, q2.keep (hk.out _ q2.lt (foot_own (Nat.le_refl _) (by omega)))⟩
     ·
      have e12 := hv.out 12 (mem_of (by kernel_rfl))
      obtain ⟨g, cap, q1, q2⟩ := hj
      exact ⟨g, cap, e12 ▸ q1, (q2.keep (fun b hb h1 => hk.out b hb h1)).more (fun b hb h1 => foot_agree (l := ancs _ 15 12) (by exact of_decide_eq_true (by kernel_rfl)) ha.out h1)⟩
     ·
      exact (hv.out 13 (mem_of (by kernel_rfl))).symm.trans hj
     ·
      have e12 := hv.out 12 (mem_of (by kernel_rfl))
      have hj' : Blk wx (gA) 49 [.int .i64 t, .int .i64 a, vs 12, .slice (some ⟨g7, 0, none⟩) (ri + 1) cap7] := hj
      show Blk wx' (gA) 49 [.int .i64 t, .int .i64 a, vs' 12, .slice (some ⟨g7, 0, none⟩) (ri + 1) cap7]
      rw [← e12]
      exact hj'.keep (hk.out _ hj'.lt (foot_given 1 (by decide) (Or.inr ⟨rfl, rfl⟩)))
    case hE =>
     intro i hi iv vs wx hj
     simp only [List.mem_cons, List.not_mem_nil, or_false] at hi
     rcases hi with rfl | rfl | rfl | rfl | rfl | rfl | rfl | rfl | rfl | rfl | rfl | rfl | rfl | rfl | rfl
     ·
      exact hj
     ·
      exact hj
     ·
      exact ⟨hj.1, hj.2.1⟩
     ·
      exact hj
     ·
      exact hj
     ·
      exact hj
     ·
      exact hj
     ·
      exact hj
     ·
      exact hj
     ·
      exact hj
     ·
      obtain ⟨a10, c10, q1, -⟩ := hj
      exact ⟨a10, c10, q1⟩
     ·
      exact ⟨hj.1, hj.2.1⟩
     ·
      obtain ⟨g, cap, q1, -⟩ := hj
      exact ⟨g, cap, q1⟩
     ·
      exact hj
     ·
      trivial
    case hEE =>
     intro i hi iv iv' vs vs' ha hv hj
     simp only [List.mem_cons, List.not_mem_nil, or_false] at hi
     rcases hi with rfl | rfl | rfl | rfl | rfl | rfl | rfl | rfl | rfl | rfl | rfl | rfl | rfl | rfl | rfl
     ·
      exact (hv.out 0 (mem_of (by kernel_rfl))).symm.trans hj
     ·
      exact (hv.out 1 (mem_of (by kernel_rfl))).symm.trans hj
     ·
      have e2 := hv.out 2 (mem_of (by kernel_rfl))
      have g2 := ha.out 2 (mem_of (by kernel_rfl))
      have hj' : vs 2 = .slice (some ⟨(iv 2).1, 0, none⟩) 0 0 ∧ (iv 2).2 = (iv 2).1 + 1 := hj
      show vs' 2 = .slice (some ⟨(iv' 2).1, 0, none⟩) 0 0 ∧ (iv' 2).2 = (iv' 2).1 + 1
      rw [← e2, ← g2]
      exact hj'
     ·
      exact (hv.out 3 (mem_of (by kernel_rfl))).symm.trans hj
     ·
      exact (hv.out 4 (mem_of (by kernel_rfl))).symm.trans hj
     ·
      exact (hv.out 5 (mem_of (by kernel_rfl))).symm.trans hj
     ·
      exact (hv.out 6 (mem_of (by kernel_rfl))).symm.trans hj
     ·
      exact (hv.out 7 (mem_of (by kernel_rfl))).symm.trans hj
     ·
      exact (hv.out 8 (mem_of (by kernel_rfl))).symm.trans hj
     ·
      exact (hv.out 9 (mem_of (by kernel_rfl))).symm.trans hj
     ·
      have e10 := hv.out 10 (mem_of (by kernel_rfl))
      have hj' : ∃ a10 c10, vs 10 = .slice a10 ar.length c10 := hj
      show ∃ a10 c10, vs' 10 = .slice a10 ar.length c10
      rw [← e10]
      exact hj'
     ·
      have e11 := hv.out 11 (mem_of (by kernel_rfl))
      have g11 := ha.out 11 (mem_of (by kernel_rfl))
      have hj' : vs 11 = .slice (some ⟨(iv 11).1, 0, none⟩) 1 1 ∧ (iv 11).2 = (iv 11).1 + 1 := hj
      show vs' 11 = .slice (some ⟨(iv' 11).1, 0, none⟩) 1 1 ∧ (iv' 11).2 = (iv' 11).1 + 1
      rw [← e11, ← g11]
      exact hj'
     ·
      have e12 := hv.out 12 (mem_of (by kernel_rfl))
      have hj' : ∃ g cap, vs 12 = .slice (some ⟨g, 0, none⟩) (ri + 1) cap := hj
      show ∃ g cap, vs' 12 = .slice (some ⟨g, 0, none⟩) (ri + 1) cap
      rw [← e12]
      exact hj'
     ·
      exact (hv.out 13 (mem_of (by kernel_rfl))).symm.trans hj
     ·
      trivial
    case hstep =>
     intro i hi opr ho iv vs w1 hB hS hSo hd he hbd hsep hun K hK
     simp only [List.mem_cons, List.not_mem_nil, or_false] at hi
     have hzB := hB.size
     have HGb := Lib.hid hGb
     clear hGb hGd
     have hBw1 : Below w.heap.size w w1 := Hwc.out.trans ((HWn.out.2.trans hB).mono (by omega))
     obtain ⟨-, -, k2', -, -, -⟩ := Hh.out.below hBw1
     have ra1 := (hBw1.cell (p := ⟨sb, so + sn, none⟩) hsl).trans ra0
     have rr1 := rr0.below hBw1
     generalize hA : putFrom _ 0 vs _ = A at hK ⊢
     simp only [putFrom, puts] at hA
     rcases hi with rfl | rfl | rfl | rfl | rfl | rfl | rfl | rfl | rfl | rfl | rfl | rfl | rfl | rfl | rfl
     all_goals
      simp at ho
      subst ho
      subst hA
     ·
      go_wp2_with fail
      exact Onward.mk (hK (.pointer (some ⟨gA, 2, none⟩)) _ _ (fun h => by cases h) (by first | rfl | (simp only [puts])) (Spares.refl _) (fun iv' _ _ => rfl))
     ·
      have h0 : vs 0 = .pointer (some ⟨gA, 2, none⟩) := hd.out 0 (mem_of (by kernel_rfl)) (by decide) (by kernel_rfl)
      have K21 := K2.keep (hS.out 1 _ (by kernel_rfl) (Or.inr ⟨rfl, rfl⟩))
      have k2c0 := K21.c0
      have k2z0 := K21.frozen 0
      have k2c1 := K21.c1
      have k2z1 := K21.frozen 1
      have k2c2 := K21.c2
      have k2z2 := K21.frozen 2
      have k2c3 := K21.c3
      have k2z3 := K21.frozen 3
      have k2lt := K21.lt
      go_wp2_with fail
      exact Onward.mk (hK (.slice aA ri cA) _ _ (fun h => by cases h) (by first | rfl | (simp only [puts, h0])) (Spares.refl _) (fun iv' _ _ => rfl))
     ·
      go_wp2_with fail
      exact Onward.mk (hK (.slice (some ⟨w1.heap.size, 0, none⟩) 0 0) _ _ (fun h => by cases h) (by first | rfl | (simp only [puts])) (Spares.of_below (Below.alloc (Below.refl _ _) (Nat.le_refl _) _)) (fun iv' _ hi => by
       show Value.slice (some ⟨w1.heap.size, 0, none⟩) 0 0 = .slice (some ⟨(iv' 2).1, 0, none⟩) 0 0 ∧ (iv' 2).2 = (iv' 2).1 + 1 ∧ Blk _ (iv' 2).1 4 []
       rw [hi]
       exact ⟨rfl, by simp, Blk.made _ _ _⟩))
     ·
      go_wp2_with fail
      exact Onward.mk (hK (.pointer (some ⟨bA, oA, none⟩)) _ _ (fun h => by cases h) (by first | rfl | (simp only [puts])) (Spares.refl _) (fun iv' _ _ => rfl))
     ·
      have h3 : vs 3 = .pointer (some ⟨bA, oA, none⟩) := hd.out 3 (mem_of (by kernel_rfl)) (by decide) (by kernel_rfl)
      go_wp2_with fail
      exact Onward.mk (hK (.pointer (some ⟨bA, oA, none⟩)) _ _ (fun h => by cases h) (by first | rfl | (simp only [puts, h3])) (Spares.refl _) (fun iv' _ _ => rfl))
     ·
      have h4 : vs 4 = .pointer (some ⟨bA, oA, none⟩) := hd.out 4 (mem_of (by kernel_rfl)) (by decide) (by kernel_rfl)
      go_wp2_with fail
      exact Onward.mk (hK (.pointer (some ⟨bA, oA + 2, none⟩)) _ _ (fun h => by cases h) (by first | rfl | (simp only [puts, h4])) (Spares.refl _) (fun iv' _ _ => rfl))
     ·
      have h5 : vs 5 = .pointer (some ⟨bA, oA + 2, none⟩) := hd.out 5 (mem_of (by kernel_rfl)) (by decide) (by kernel_rfl)
      go_wp2_with fail
      exact Onward.mk (hK (.slice (some ⟨sb, so, none⟩) ac.length c) _ _ (fun h => by cases h) (by first | rfl | (simp only [puts, h5])) (Spares.refl _) (fun iv' _ _ => rfl))
     ·
      go_wp2_with fail
      exact Onward.mk (hK (.int .i64 sn) _ _ (fun h => by cases h) (by first | rfl | (simp only [puts])) (Spares.refl _) (fun iv' _ _ => rfl))
     ·
      have h6 : vs 6 = .slice (some ⟨sb, so, none⟩) ac.length c := hd.out 6 (mem_of (by kernel_rfl)) (by decide) (by kernel_rfl)
      have h7 : vs 7 = .int .i64 sn := hd.out 7 (mem_of (by kernel_rfl)) (by decide) (by kernel_rfl)
      go_wp2_with fail
      exact Onward.mk (hK (.pointer (some ⟨sb, so + sn, none⟩)) _ _ (fun h => by cases h) (by first | rfl | (simp only [puts, h6, h7])) (Spares.refl _) (fun iv' _ _ => rfl))
     ·
      have h8 : vs 8 = .pointer (some ⟨sb, so + sn, none⟩) := hd.out 8 (mem_of (by kernel_rfl)) (by decide) (by kernel_rfl)
      go_wp2_with fail
      exact Onward.mk (hK (.slice sr ar.length cr) _ _ (fun h => by cases h) (by first | rfl | (simp only [puts, h8])) (Spares.refl _) (fun iv' _ _ => rfl))
     ·
      obtain ⟨h2, q2, f2⟩ := hd.out 2 (mem_of (by kernel_rfl)) (by decide) (by kernel_rfl)
      have h9 : vs 9 = .slice sr ar.length cr := hd.out 9 (mem_of (by kernel_rfl)) (by decide) (by kernel_rfl)
      simp only [h2, h9]
      refine wpList_append_bools0 w1 (by rfl) _ _ (by rfl) (by rfl) (by rfl) rr1 (by omega) (by omega) ?_
      intro a10 cap10 w2 hf hb
      go_wp2_with fail
      exact Onward.mk (hK (.slice a10 ar.length cap10) _ _ (fun h => by cases h) (by first | rfl | (simp only [puts, h2, h9])) (Spares.of_below hb) (fun iv' _ hi => ⟨a10, cap10, rfl, by rw [hi]; exact Freshs.stretch hf⟩))
     ·
      obtain ⟨a10, c10, h10, f10⟩ := hd.out 10 (mem_of (by kernel_rfl)) (by decide) (by kernel_rfl)
      go_wp2_with fail
      exact Onward.mk (hK (.slice (some ⟨w1.heap.size, 0, none⟩) 1 1) _ _ (fun h => by cases h) (by first | rfl | (simp only [puts, h10])) (Spares.of_below (Below.alloc (Below.refl _ _) (Nat.le_refl _) _)) (fun iv' _ hi => by
       show Value.slice (some ⟨w1.heap.size, 0, none⟩) 1 1 = .slice (some ⟨(iv' 11).1, 0, none⟩) 1 1 ∧ (iv' 11).2 = (iv' 11).1 + 1 ∧ Blk _ (iv' 11).1 85 [vs 10]
       rw [hi, h10]
       exact ⟨rfl, by simp, Blk.new1 _ _ _⟩))
     ·
      have h1 : vs 1 = .slice aA ri cA := hd.out 1 (mem_of (by kernel_rfl)) (by decide) (by kernel_rfl)
      obtain ⟨a10, c10, h10, f10⟩ := hd.out 10 (mem_of (by kernel_rfl)) (by decide) (by kernel_rfl)
      obtain ⟨h11, q11, f11⟩ := hd.out 11 (mem_of (by kernel_rfl)) (by decide) (by kernel_rfl)
      have V01 := V0.keep (fun b _ hb => hS.out 0 b (by kernel_rfl) (Or.inl ⟨rfl, hb⟩))
      simp only [h1, h10, h11]
      have f11' : Blk w1 (iv 11).1 85 [.slice a10 ar.length c10] := by first | exact f11 | (rw [h10] at f11; exact f11)
      refine wpList_append_s w1 (by rfl) _ _ 46 (by rfl) 85 ((.slice none 0 0)) 1 24 Tryz.underlying46 info_bools1 rfl (by decide) (S := (fun b => (wc.heap.size ≤ b ∧ b < wn.heap.size ∧ own b = 3))) (T := (fun b => (iv 10).1 ≤ b ∧ b < (iv 10).2)) _ (by rfl) V01 ⟨(iv 11).1, 0, none⟩ 1 1 [.slice a10 ar.length c10] (by rfl) (news_blk f11') f10 (fun b _ h1 h2 => by have q := (hbd.out 10 (mem_of (by kernel_rfl)) (by decide)).1; have q' := (HGb.out 0 b (Or.inl ⟨rfl, h1⟩)).2; omega) (by simp) (by simp [Value.oneCell']) (by omega) (by omega) (by unfold maxLen; omega) ?_
      intro g cap w2 hap ht
      go_wp2_with fail
      exact Onward.mk (hK (.slice (some ⟨g, 0, none⟩) (ri + 1) cap) _ _ (fun h => by cases h) (by first | rfl | (simp only [puts, h1, h10, h11])) (ht.more (fun b h => Or.inl ⟨0, by decide, (Or.inl ⟨rfl, h⟩)⟩)) (fun iv' ag hi => ⟨g, cap, rfl, hap.more (fun b _ h => by rcases h with h | h | h; exact foot_given 0 (by decide) (Or.inl ⟨rfl, h⟩); exact foot_iv (by kernel_rfl) ag h.1 h.2; exact foot_new hi h.1 h.2)⟩))
     ·
      go_wp2_with fail
      exact Onward.mk (hK (.pointer (some ⟨gA, 2, none⟩)) _ _ (fun h => by cases h) (by first | rfl | (simp only [puts])) (Spares.refl _) (fun iv' _ _ => rfl))
     ·
      obtain ⟨g12, cap12, h12, f12⟩ := hd.out 12 (mem_of (by kernel_rfl)) (by decide) (by kernel_rfl)
      have h13 : vs 13 = .pointer (some ⟨gA, 2, none⟩) := hd.out 13 (mem_of (by kernel_rfl)) (by decide) (by kernel_rfl)
      have K21 := K2.keep (hS.out 1 _ (by kernel_rfl) (Or.inr ⟨rfl, rfl⟩))
      have k2c0 := K21.c0
      have k2z0 := K21.frozen 0
      have k2c1 := K21.c1
      have k2z1 := K21.frozen 1
      have k2c2 := K21.c2
      have k2z2 := K21.frozen 2
      have k2c3 := K21.c3
      have k2z3 := K21.frozen 3
      have k2lt := K21.lt
      go_wp2_with fail
      exact Onward.mk (hK undef _ _ (fun _ => rfl) (by simp only [puts, h12, h13]) ((spares_sets (b0 := gA) (by repeat (first | exact Spares.refl _ | apply Spares.set))).more (fun b h => Or.inl ⟨1, by decide, (Or.inr ⟨rfl, h⟩)⟩)) (fun iv' ag hi => by
       show Blk _ (gA) 49 [.int .i64 t, .int .i64 a, vs 12, .slice (some ⟨g7, 0, none⟩) (ri + 1) cap7]
       rw [h12]
       exact (K21.set 2 _)))
    case hQ =>
     intro iv vs wx hB hSp hd he hbd hsep
     have hzB := hB.size
     have h0 : vs 0 = .pointer (some ⟨gA, 2, none⟩) := hd.out 0 (mem_of (by kernel_rfl)) (not_eaten (by kernel_rfl))
     have h1 : vs 1 = .slice aA ri cA := hd.out 1 (mem_of (by kernel_rfl)) (not_eaten (by kernel_rfl))
     obtain ⟨h2, q2, f2⟩ := hd.out 2 (mem_of (by kernel_rfl)) (not_eaten (by kernel_rfl))
     have h3 : vs 3 = .pointer (some ⟨bA, oA, none⟩) := hd.out 3 (mem_of (by kernel_rfl)) (not_eaten (by kernel_rfl))
     have h4 : vs 4 = .pointer (some ⟨bA, oA, none⟩) := hd.out 4 (mem_of (by kernel_rfl)) (not_eaten (by kernel_rfl))
     have h5 : vs 5 = .pointer (some ⟨bA, oA + 2, none⟩) := hd.out 5 (mem_of (by kernel_rfl)) (not_eaten (by kernel_rfl))
     have h6 : vs 6 = .slice (some ⟨sb, so, none⟩) ac.length c := hd.out 6 (mem_of (by kernel_rfl)) (not_eaten (by kernel_rfl))
     have h7 : vs 7 = .int .i64 sn := hd.out 7 (mem_of (by kernel_rfl)) (not_eaten (by kernel_rfl))
     have h8 : vs 8 = .pointer (some ⟨sb, so + sn, none⟩) := hd.out 8 (mem_of (by kernel_rfl)) (not_eaten (by kernel_rfl))
     have h9 : vs 9 = .slice sr ar.length cr := hd.out 9 (mem_of (by kernel_rfl)) (not_eaten (by kernel_rfl))
     obtain ⟨a10, c10, h10⟩ := he.out 10 (mem_of (by kernel_rfl))
     obtain ⟨h11, q11, f11⟩ := hd.out 11 (mem_of (by kernel_rfl)) (not_eaten (by kernel_rfl))
     obtain ⟨g12, cap12, h12, f12⟩ := hd.out 12 (mem_of (by kernel_rfl)) (not_eaten (by kernel_rfl))
     have h13 : vs 13 = .pointer (some ⟨gA, 2, none⟩) := hd.out 13 (mem_of (by kernel_rfl)) (not_eaten (by kernel_rfl))
     have f14 : Blk _ (gA) 49 [.int .i64 t, .int .i64 a, vs 12, .slice (some ⟨g7, 0, none⟩) (ri + 1) cap7] := hd.out 14 (mem_of (by kernel_rfl)) (not_eaten (by kernel_rfl))
     have lo12 : ∀ b, foot [(12, 10)] [(12, 0), (14, 1)] (fun m b => (m = 0 ∧ (wc.heap.size ≤ b ∧ b < wn.heap.size ∧ own b = 3)) ∨ (m = 1 ∧ b = gA)) 15 12 iv b → (wc.heap.size) ≤ b := by
      rintro b ⟨j, hj, hh⟩
      have hj' := of_decide_eq_true (List.all_eq_true.1 (show ((chainOf [(12, 10)] 15 12).all fun j => decide (j ∈ [12, 10])) = true from by kernel_rfl) j hj)
      simp only [List.mem_cons, List.not_mem_nil, or_false] at hj'
      rcases hj' with rfl | rfl
      ·
       have q := (hbd.out 12 (mem_of (by kernel_rfl))).1
       rcases hh with hh | ⟨m, hm, hg⟩
       ·
        omega
       ·
        simp at hm
        subst hm
        simp at hg
        have q' := V0f b hg
        omega
      ·
       have q := (hbd.out 10 (mem_of (by kernel_rfl))).1
       rcases hh with hh | ⟨m, hm, hg⟩
       ·
        omega
       ·
        simp at hm
     simp only [putFrom, puts]
     have so12 : ∀ b, (foot [(12, 10)] [(12, 0), (14, 1)] (fun m b => (m = 0 ∧ (wc.heap.size ≤ b ∧ b < wn.heap.size ∧ own b = 3)) ∨ (m = 1 ∧ b = gA)) 15 12 iv) b → (wc.heap.size ≤ b ∧ b < wn.heap.size ∧ own b = 3) ∨ (wn).heap.size ≤ b := by
      rintro b ⟨j, hj, hh⟩
      have hj' := of_decide_eq_true (List.all_eq_true.1 (show ((chainOf [(12, 10)] 15 12).all fun j => decide (j ∈ [12, 10])) = true from by kernel_rfl) j hj)
      simp only [List.mem_cons, List.not_mem_nil, or_false] at hj'
      rcases hj' with rfl | rfl
      ·
       have q := (hbd.out 12 (mem_of (by kernel_rfl))).1
       rcases hh with hh | ⟨m, hm, hg⟩
       ·
        exact Or.inr (by omega)
       ·
        simp at hm; subst hm; simp at hg; exact Or.inl hg
      ·
       have q := (hbd.out 10 (mem_of (by kernel_rfl))).1
       rcases hh with hh | ⟨m, hm, hg⟩
       ·
        exact Or.inr (by omega)
       ·
        simp at hm
     rw [h12] at f14
     have hBu := Bun.turn_two Hown.out hSp.out.size (by omega) 3 2 (by decide) rfl (by simp) (fun b hb h1 h2 => hSp.out.block b hb (fun ⟨mm, hm⟩ => by
      rcases hm with ⟨_, h⟩ | ⟨_, h⟩
      ·
       exact h1 h.2.2
      ·
       exact h2 h)) f12 (fun b _ hS => so12 b hS) f14
     have HW2 : Hid (LlW wc.heap.size gA t a wc wx f S (ri + 1) (FA.take (ri + 1)) (ri + 1) (FX.take (ri + 1)) (.slice a0 S.length c0) (.slice a1 S.length c1) (.slice (some ⟨g12, 0, none⟩) (ri + 1) cap12) (.slice (some ⟨g7, 0, none⟩) (ri + 1) cap7) []) := by
      show LlW ..
      unfold LlW
      rw [HEA.out]
      exact ⟨hBu, HWn.out.2.trans hB⟩
     clear hd he hbd hsep h0 h1 h2 h3 h4 h5 h6 h7 h8 h9 h10 h11 h12 h13 so12 lo12 f12 f14 hgo V0 V0f K2 hB hSp hBu
     go_wp2_with fail
     go_roundw
     case rel => exact ⟨ri + 1, S, .slice (some ⟨g12, 0, none⟩) (ri + 1) cap12, .slice (some ⟨g7, 0, none⟩) (ri + 1) cap7, by go_num, HS.out, HEL, by omega, hl60, HW2.out⟩
     case measure => simp [intOf]; omega
    -- dev)
   obtain ⟨row, hrow⟩ : ∃ e, nr[m]? = some e := ⟨_, List.getElem?_eq_getElem (by omega)⟩
   obtain ⟨nb, no, rfl⟩ := nest_some (f := intsD) rb (by omega)
   obtain ⟨r1, r2⟩ := Hl2.out m row hrow
   have hrn1 : row.length ≤ n := by omega
   have hrn2 : n ≤ row.length := by omega
   have hmb : (m : Int) < (nr.length : Int) := by omega
   have Hrow2 := Lib.hid hrow
   have hRm := HRt.out m hml
   have HRRt := Lib.hid (fun (q : Nat) (hq : q < n) => rowR_take (L := PF) (m := m) (l := LG (sn : Int)) hq)
   have HRRl0 : Hid ((rowR PF n m (LG (sn : Int))).length = n) := rowR_len
   obtain ⟨RR, hRR⟩ : ∃ RR, rowR PF n m (LG (sn : Int)) = RR := ⟨_, rfl⟩
   rw [hRR] at hRm HRRt HRRl0
   obtain ⟨AR, hAR⟩ : ∃ AR, RW.take m = AR := ⟨_, rfl⟩
   rw [hAR] at hRm HW
   have HRm := Lib.hid hRm
   clear hW hS g4 g5 rb r1 r2 hwm hrow hRm hRR hAR HRt HFs
   go_wp2_with fail
   have hB4 := HW.out.1.push_empty (by omega) 2 1
   have hbe4 := HW.out.2.alloc (by omega) (.cells #[] 2)
   have hst : Hid (LlW wc.heap.size gA t a wc (wm.alloc (.cells #[] 2)) f S ri (FA.take ri) ri (FX.take ri) (.slice a0 S.length c0) (.slice a1 S.length c1) (.slice aA ri cA) (.slice aX ri cX) [.app 56 1 m (AR.map intsD) (.slice a5 m c5), .app 2 1 0 ((RR.take 0).map D.int) (.slice (some ⟨wm.heap.size, 0, none⟩) 0 0)]) := ⟨by simpa using hB4, hbe4⟩
   clear hB4 hbe4 HW c2' c3' b0
   go_loopw [4, 5, 11, 12] (fun v0 v1 v11 j wr => ∃ (q : Nat) (S : List Int), j = .int .i64 q ∧ q ≤ n ∧ StIn ac.length S ∧ Hid (S.map LG = lsC (LG 0) A n ri (LG (sn : Int)) m q) ∧ ri < S.length ∧ S.length ≤ 60 ∧ LlW wc.heap.size gA t a wc wr f S ri (FA.take ri) ri (FX.take ri) v0 v1 (.slice aA ri cA) (.slice aX ri cX) [.app 56 1 m (AR.map intsD) (.slice a5 m c5), .app 2 1 q ((RR.take q).map D.int) v11]) (fun _ _ _ j _ => n - (intOf j).toNat)
   case atStart => exact ⟨0, S, rfl, by omega, HS.out, HL, hlt, hl60, hst.out⟩
   case round =>
    clear hst HL q1 q2 q3 q4 HS hlt hl60
    obtain ⟨q, S, rfl, hq, hS, HL, hlt, hl60, hW⟩ := hrel
    obtain ⟨wq, rfl⟩ : ∃ v, v = wr := ⟨_, rfl⟩
    obtain ⟨a0, c0, rfl, q1, q2⟩ := hW.1.shape 0 rfl
    obtain ⟨a1, c1, rfl, q3, q4⟩ := hW.1.shape 1 rfl
    obtain ⟨a6, c6, rfl, q11, q12⟩ := hW.1.shape 6 rfl
    unfold maxLen at q2 q4 q12
    have HW := Lib.hid hW
    have HS := Lib.hid hS
    have hzq := hW.2.size
    have hq0 := Int.natCast_nonneg q
    have hwq : Below w.heap.size w wq := Hwc.out.trans (hW.2.mono (by omega))
    obtain ⟨-, -, c2', c3', g4, g5⟩ := Hh.out.below hwq
    obtain ⟨-, un', cn', b0, rb⟩ := nest_sl (g := intsD) g5 Hnr.out
    obtain ⟨nb', no', rfl⟩ := nest_some (f := intsD) rb (by omega)
    obtain ⟨rb3, rb4⟩ := nest_bd rb
    unfold maxLen at rb4
    obtain ⟨-, sr, cr, p0, rr⟩ := nest_sl (g := D.int) rb Hrow2.out
    obtain ⟨rb5, rb6⟩ := nest_bd (f := D.int) rr
    unfold maxLen at rb6
    by_cases hql : q < n
    rotate_left
    ·
     -- dev(
     obtain rfl : n = q := by omega
     have hdn : decide ((n : Int) < (row.length : Int)) = false := by apply decide_eq_false; omega
     have HEL : Hid (S.map LG = lsC (LG 0) A n ri (LG (sn : Int)) (m + 1) 0) := by show _ = _; rw [HL.out, lsC_line]
     have HEX : Hid ((RW.take (m + 1)).map intsD = AR.map intsD ++ [D.sl 1 n ((RR.take n).map D.int)]) := by
      show _ = _
      rw [List.take_of_length_le (l := RR) (by rw [HRRl0.out]; exact Nat.le_refl _)]
      exact fin_rows HRm.out rfl HRRl0.out
     have hBu := HW.out.1.alloc (.cells #[.slice a6 n c6] 56)
     have hNb := Blk.new1 wq 56 (.slice a6 n c6)
     clear hW hS hwq g4 g5 rb rr
     go_wp2_with (at_builtin; go_must (refine wpList_append_bun_own _ rfl _ _ 55 rfl 56 24 Tryz.underlying55 info_i64s hBu (by simp; omega) 5 _ rfl rfl 6 (by decide) _ rfl ⟨wq.heap.size, 0, none⟩ rfl (news_blk hNb) (by omega) (by unfold maxLen; omega) ?_); intro g8 cap8 w8 hbun8 hb8)
     have Hfin := Lib.hid (And.intro (hbun8.take 6) ((HW.out.2.alloc (by omega) (.cells #[.slice a6 n c6] 56)).trans hb8))
     clear hbun8 hb8 hBu hNb
     go_wp2_with fail
     go_roundw
     case rel =>
      refine ⟨m + 1, S, by go_num, by omega, HS.out, HEL, hlt, hl60, ?_⟩
      have h := Hfin.out
      unfold LlW
      rw [HEX.out]
      exact h
     case measure => simp [intOf]; omega
     -- dev)
    obtain ⟨z, hz⟩ : ∃ e, row[q]? = some e := ⟨_, List.getElem?_eq_getElem (by omega)⟩
    obtain ⟨tb, to', rfl⟩ := nest_some (f := D.int) rr (by omega)
    obtain ⟨-, v0⟩ := int_in rr hz
    have hzb := (Hl2.out m row Hrow2.out).2 q z hz
    have hgz : goN nx (sn : Int) m q = z := by rw [goN_nat, getD_of Hnr.out, getD_of Hrow2.out, getD_of hz]
    have hstp := HSTEP.out (-1) f Hcl.out S ri m q (sn : Int) hS HX.out HL.out hsc hml hql
    rw [hgz] at hstp
    have HRs0 := Lib.hid (HRRt.out q hql)
    have HLn := Lib.hid (HLENC.out ri m (q + 1) _ HX.out)
    have hqb : (q : Int) < (row.length : Int) := by omega
    have hzn : z < (ac.length : Int) := by omega
    have hrd0 := hW.1.rd 0 rfl
    have hix := fun (v : Int) => l02Index_i (L := S.map f) (s := a0) (c := c0) (n := v) (w := wq) (by rw [List.length_map]; simpa [intsD] using hrd0)
    rw [List.length_map] at hix
    have Hix := Lib.hid hix
    have Hstp := Lib.hid hstp
    clear hW hS g4 g5 rb rr hwq hz hgz hstp hrd0 hix
    by_cases hcz : z < 0 ∨ f z = -1
    ·
     -- dev(
     obtain ⟨e1, e2⟩ := Hstp.out.1 hcz
     have HEL := Lib.hid e1
     have HRs := Lib.hid HRs0.out
     rw [e2] at HRs
     have HCz : Hid (clL C z = -1) := by
      show _ = _
      rcases hcz with q1 | q1
      ·
       exact clL_neg q1
      ·
       by_cases h0 : z < 0
       ·
        exact clL_neg h0
       ·
        obtain ⟨zn, rfl⟩ : ∃ zn : Nat, z = (zn : Int) := ⟨z.toNat, by omega⟩
        rw [clL_at (HEa.out zn (by omega)), q1]
     clear e1 e2 hcz Hstp
     go_wp2_with fail
     refine (l02Class_n (HCr.out.below (HW.out.2.mono hBc)) HCl.out hzn).mono ?_
     rintro e w6 ⟨rfl, hw6⟩
     rw [hw6, HCz.out]
     clear hw6
     go_wp2_with fail
     refine (l02Class_n (HCr.out.below (HW.out.2.mono hBc)) HCl.out hzn).mono ?_
     rintro e w6 ⟨rfl, hw6⟩
     rw [hw6, HCz.out]
     clear hw6
     have hBu := HW.out.1.alloc (.cells #[.int .i64 (-1)] 2)
     have hNb := Blk.new1 wq 2 (.int .i64 (-1))
     go_wp2_with (at_builtin; go_must (refine wpList_append_bun _ rfl _ _ 56 rfl 2 (.int .i64 0) 1 8 Tryz.underlying56 info_int64 rfl (by decide) hBu (by simp <;> omega) 6 _ rfl rfl ⟨wq.heap.size, 0, none⟩ 1 1 [.int .i64 (-1)] rfl (news_blk hNb) le_none rfl (by simp [Value.oneCell']) (by omega) (by omega) (by unfold maxLen; omega) ?_); intro g8 cap8 w8 hbun8 hb8)
     have Hfin := Lib.hid (And.intro hbun8 ((HW.out.2.alloc (by omega) (.cells #[.int .i64 (-1)] 2)).trans hb8))
     clear hbun8 hb8 hBu hNb
     go_wp2_with fail
     go_roundw
     case rel =>
      refine ⟨q + 1, S, by go_num, by omega, HS.out, HEL, by omega, by omega, ?_, Hfin.out.2⟩
      have h := Hfin.out.1
      (try rw [← List.map_take])
      rw [HRs.out, List.map_append]
      exact h
     case measure => simp [intOf]; omega
     -- dev)
    have hz0 : 0 ≤ z := by omega
    obtain ⟨zn, rfl⟩ : ∃ zn : Nat, z = (zn : Int) := ⟨z.toNat, by omega⟩
    have hfz : 0 ≤ f (zn : Int) := by rcases Hbd.out (zn : Int) hz0 hzn with q1 | q1; exact absurd (Or.inr q1) hcz; exact q1
    have hfn : f (zn : Int) ≠ -1 := fun q1 => hcz (Or.inr q1)
    have HCz : Hid (clL C (zn : Int) = f (zn : Int)) := clL_at (HEa.out zn (by omega))
    have hcell := (int_in (HCr.out.below (HW.out.2.mono hBc)) (HEa.out zn (by omega))).2
    have h2 := Hstp.out.2.1 hz0 hfn
    have h3 := Hstp.out.2.2 hz0 hfn
    obtain ⟨fz, hfe⟩ : ∃ v, f (zn : Int) = v := ⟨_, rfl⟩
    rw [hfe] at hfz hfn HCz hcell h2 h3
    have Hfe := Lib.hid hfe
    have hd0 : decide (0 ≤ fz) = true := by apply decide_eq_true; omega
    clear hcz Hstp hfn hfe
    rcases idx_case (L := S.map f) (n := fz) with ⟨hin, hid, hi0'⟩ | ⟨hin, hid⟩
    ·
     -- dev(
     obtain ⟨e1, e2⟩ := h2 hin
     have HEL := Lib.hid e1
     have HRs := Lib.hid HRs0.out
     rw [e2, ← hid] at HRs
     obtain ⟨jx, hjx⟩ : ∃ v, idxI (S.map f) fz = v := ⟨_, rfl⟩
     rw [hjx] at HRs hi0'
     have Hjx := Lib.hid hjx
     have hdj : decide (jx < 0) = false := by apply decide_eq_false; omega
     clear e1 e2 h2 h3 hin hid hjx
     go_wp2_with fail
     refine (l02Class_n (HCr.out.below (HW.out.2.mono hBc)) HCl.out hzn).mono ?_
     rintro e w6 ⟨rfl, hw6⟩
     rw [hw6, HCz.out]
     clear hw6
     go_wp2_with fail
     refine (Hix.out fz).mono ?_
     rintro e w6 ⟨rfl, hw6⟩
     rw [hw6, Hjx.out]
     clear hw6
     go_wp2_with fail
     refine (l02Class_n (HCr.out.below (HW.out.2.mono hBc)) HCl.out hzn).mono ?_
     rintro e w6 ⟨rfl, hw6⟩
     rw [hw6, HCz.out]
     clear hw6
     have hBu := HW.out.1.alloc (.cells #[.int .i64 (jx)] 2)
     have hNb := Blk.new1 wq 2 (.int .i64 (jx))
     go_wp2_with (at_builtin; go_must (refine wpList_append_bun _ rfl _ _ 56 rfl 2 (.int .i64 0) 1 8 Tryz.underlying56 info_int64 rfl (by decide) hBu (by simp <;> omega) 6 _ rfl rfl ⟨wq.heap.size, 0, none⟩ 1 1 [.int .i64 (jx)] rfl (news_blk hNb) le_none rfl (by simp [Value.oneCell']) (by omega) (by omega) (by unfold maxLen; omega) ?_); intro g8 cap8 w8 hbun8 hb8)
     have Hfin := Lib.hid (And.intro hbun8 ((HW.out.2.alloc (by omega) (.cells #[.int .i64 (jx)] 2)).trans hb8))
     clear hbun8 hb8 hBu hNb
     go_wp2_with fail
     go_roundw
     case rel =>
      refine ⟨q + 1, S, by go_num, by omega, HS.out, HEL, by omega, by omega, ?_, Hfin.out.2⟩
      have h := Hfin.out.1
      (try rw [← List.map_take])
      rw [HRs.out, List.map_append]
      exact h
     case measure => simp [intOf]; omega
     -- dev)
    ·
     -- dev(
     obtain ⟨e1, e2, e3⟩ := h3 hin
     have HEL := Lib.hid e1
     have HS3 := Lib.hid e3
     have HRs := Lib.hid HRs0.out
     rw [e2] at HRs
     have Hjx := Lib.hid hid
     have hl3 : S.length + 1 ≤ 60 := by
      have h := HLn.out
      rw [← e1] at h
      simp only [List.map_append, List.length_append, List.length_map, List.length_singleton, List.map_cons, List.map_nil] at h
      omega
     clear e1 e2 e3 h2 h3 hin hid
     go_wp2_with fail
     refine (l02Class_n (HCr.out.below (HW.out.2.mono hBc)) HCl.out hzn).mono ?_
     rintro e w6 ⟨rfl, hw6⟩
     rw [hw6, HCz.out]
     clear hw6
     go_wp2_with fail
     refine (Hix.out fz).mono ?_
     rintro e w6 ⟨rfl, hw6⟩
     rw [hw6, Hjx.out]
     clear hw6
     go_wp2_with fail
     refine (l02Class_n (HCr.out.below (HW.out.2.mono hBc)) HCl.out hzn).mono ?_
     rintro e w6 ⟨rfl, hw6⟩
     rw [hw6, HCz.out]
     clear hw6
     have hBl := HW.out.1.alloc (.cells #[.int .i64 fz] 2)
     have hNl := Blk.new1 wq 2 (.int .i64 fz)
     go_wp2_with (first
      | (at_builtin; (refine wpList_append_bun _ rfl _ _ 56 rfl 2 (.int .i64 0) 1 8 Tryz.underlying56 info_int64 rfl (by decide) hBl (by simp <;> omega) 0 _ rfl rfl ⟨wq.heap.size, 0, none⟩ 1 1 [.int .i64 fz] rfl (news_blk hNl) le_none rfl (by simp [Value.oneCell']) (by omega) (by omega) (by unfold maxLen; omega) ?_); intro g5 cap5 w8 hbun5 hb5; have hz8 : wq.heap.size + 1 ≤ w8.heap.size := (by have q := hb5.size; simpa using q); have hBu := hbun5.alloc (.cells #[.int .i64 (zn : Int)] 2); have hNb := Blk.new1 w8 2 (.int .i64 (zn : Int)); have Hb5 := Lib.hid ((HW.out.2.alloc (by omega) (.cells #[.int .i64 fz] 2)).trans hb5); clear hbun5 hb5)
      | (at_builtin; (refine wpList_append_bun _ rfl _ _ 56 rfl 2 (.int .i64 0) 1 8 Tryz.underlying56 info_int64 rfl (by decide) hBu (by simp <;> omega) 1 _ rfl rfl ⟨w8.heap.size, 0, none⟩ 1 1 [.int .i64 (zn : Int)] rfl (news_blk hNb) le_none rfl (by simp [Value.oneCell']) (by omega) (by omega) (by unfold maxLen; omega) ?_); intro g6 cap6 w9 hbun6 hb6; have hz9 : w8.heap.size + 1 ≤ w9.heap.size := (by have q := hb6.size; simpa using q); have hBr := hbun6.alloc (.cells #[.int .i64 (S.length : Int)] 2); have hNr := Blk.new1 w9 2 (.int .i64 (S.length : Int)); have Hb6 := Lib.hid ((Hb5.out.alloc (by omega) (.cells #[.int .i64 (zn : Int)] 2)).trans hb6); clear hbun6 hb6)
      | (at_builtin; go_must (refine wpList_append_bun _ rfl _ _ 56 rfl 2 (.int .i64 0) 1 8 Tryz.underlying56 info_int64 rfl (by decide) hBr (by simp <;> omega) 6 _ rfl rfl ⟨w9.heap.size, 0, none⟩ 1 1 [.int .i64 (S.length : Int)] rfl (news_blk hNr) le_none rfl (by simp [Value.oneCell']) (by omega) (by omega) (by unfold maxLen; omega) ?_); intro g8 cap8 w10 hbun8 hb8))
     have Hfin := Lib.hid (And.intro hbun8 ((Hb6.out.alloc (by omega) (.cells #[.int .i64 (S.length : Int)] 2)).trans hb8))
     clear hbun8 hb8 hBu hNb hBl hNl hBr hNr
     go_wp2_with fail
     go_roundw
     case rel =>
      refine ⟨q + 1, S ++ [(zn : Int)], by go_num, by omega, HS3.out, HEL, by simp; omega, by simp; omega, ?_, Hfin.out.2⟩
      have h := Hfin.out.1
      (try rw [← List.map_take])
      rw [HRs.out, List.map_append]
      simp only [List.map_append, List.length_append, List.map_cons, List.map_nil, Hfe.out]; exact h
     case measure => simp [intOf]; omega
     -- dev)
end Go.Proofs.YtcokljhamhgelaaGreatDoor
