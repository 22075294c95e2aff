/-
  Parts of a proof, joined: Fst. No condition.
-/
import Derived.Test.YtbflhjjnemdecaaPk21
namespace Go.Proofs.Ytbflhjjnemdecaa
set_option linter.unusedVariables false
set_option linter.unusedSimpArgs false
open Go.ChangeShapes Go.WideShapes Go.ChangeAt Go.RowKit Go.Deep Go.Sort
theorem implFirst_l {t a : Int} {ac : List (List Bool)} {nx : List (List (List Int))} {s u : Option Addr} {c d : Nat} {w : World} (hA : Rds w (autD ac nx) [.slice s ac.length c, .slice u nx.length d]) :
  Calls Try.prog 27 #[.agg #[.int .i64 t, .int .i64 a, .slice s ac.length c, .slice u nx.length d]] w fun z w' => ∃ (ps qs : List Int) (k : Int) (s' : Option Addr) (c' : Nat) (u' : Option Addr) (d' : Nat), z = .returned (.tuple #[.agg #[.slice s' ps.length c', .slice u' qs.length d'], .int .i64 k]) ∧
   (ps = fiX t a ac nx ∧ qs = fiY t a ac nx ∧ k = fiC t a ac nx) ∧ Rd w' (intsD ps) (.slice s' ps.length c') ∧ Rd w' (intsD qs) (.slice u' qs.length d') ∧ Below w.heap.size w w' := by
 refine (implFirstAccepted_i (t := t) (a := a) hA.two.1 hA.two.2).mono ?_
 rintro z w' ⟨s', c', u', d', h1, h2, h3⟩
 obtain ⟨r1, r2⟩ := word_rds h2.rds
 exact ⟨_, _, _, s', c', u', d', h1, ⟨rfl, rfl, rfl⟩, r1, r2, h3⟩
theorem specFirst_l {t a : Int} {ac : List (List Bool)} {nx : List (List (List Int))} {s u : Option Addr} {c d : Nat} {w : World} (hA : Rds w (autD ac nx) [.slice s ac.length c, .slice u nx.length d]) :
  Calls Try.prog 26 #[.agg #[.int .i64 t, .int .i64 a, .slice s ac.length c, .slice u nx.length d]] w fun z w' => ∃ (ps qs : List Int) (k : Int) (s' : Option Addr) (c' : Nat) (u' : Option Addr) (d' : Nat), z = .returned (.tuple #[.agg #[.slice s' ps.length c', .slice u' qs.length d'], .int .i64 k]) ∧
   (ps = fiX t a ac nx ∧ qs = fiY t a ac nx ∧ k = fiC t a ac nx) ∧ Rd w' (intsD ps) (.slice s' ps.length c') ∧ Rd w' (intsD qs) (.slice u' qs.length d') ∧ Below w.heap.size w w' := by
 refine (specFirstAccepted_i (t := t) (a := a) hA.two.1 hA.two.2).mono ?_
 rintro z w' ⟨s', c', u', d', h1, h2, h3⟩
 obtain ⟨r1, r2⟩ := word_rds h2.rds
 exact ⟨_, _, _, s', c', u', d', h1, ⟨rfl, rfl, rfl⟩, r1, r2, h3⟩
theorem wordB_lens {t a : Int} {xs ys : List Int} (h : wordB t a xs ys = true) : xs.length = ys.length + 1 := (wordB_parts h).2.1
def FlW (gA gW : Nat) (t a : Int) (ac : List (List Bool)) (nx : List (List (List Int))) (vA vX v1 v2 : Value) (w : World) : Prop := Rds w (autD ac nx) [vA, vX] ∧ Blk w gA 51 [.int .i64 t, .int .i64 a, vA, vX] ∧ Blk w gW 40 [v1, v2]
set_option maxRecDepth 100000 in
set_option maxHeartbeats 16000000 in
theorem law_First {xs ys : List Int} {s s' : Option Addr} {c c' : Nat} {w : World} (hr : Rd w (bytesD xs) (.slice s xs.length c)) (hx : ∀ x ∈ xs, 0 ≤ x ∧ x ≤ 255) (hr' : Rd w (bytesD ys) (.slice s' ys.length c')) (hx' : ∀ x ∈ ys, 0 ≤ x ∧ x ≤ 255) :
  Calls Try.prog 9 #[.slice s xs.length c, .slice s' ys.length c'] w fun f w' => f = .returned (.bool true) ∧ Below w.heap.size w w' := by
 obtain ⟨-, hl1, hl2, -⟩ := hr.sl_at
 obtain ⟨-, hl3, hl4, -⟩ := hr'.sl_at
 have HX := Lib.hid hx
 have HX' := Lib.hid hx'
 have HR := Lib.hid hr
 have HR' := Lib.hid hr'
 have HL := Lib.hid (And.intro hl1 (And.intro hl2 (And.intro hl3 hl4)))
 clear hx hx' hr hr' hl1 hl2 hl3 hl4
 go_enter Try.func9, Try.ntmps9
 go_wp2_with fail
 refine (a2Long_i HL.out.1 HL.out.2.1 HL.out.2.2.1 HL.out.2.2.2).mono ?_
 rintro z wq ⟨rfl, hwq⟩
 subst hwq
 obtain ⟨v, hv⟩ : ∃ v, (decide (3000 < xs.length) || decide (3000 < ys.length)) = v := ⟨_, rfl⟩
 rw [hv]
 clear hv
 cases v
 rotate_left
 ·
  go_wp2_with fail
  go_ret
  exact ⟨rfl, Below.refl _ _⟩
 go_wp2_with fail
 refine (a2Automata_i HR.out HX.out).mono ?_
 rintro z wa ⟨t, a, ac, bc, nx, ny, s1, s2, s3, s4, c1, c2, c3, c4, rfl, ⟨hok1, hok2, hl1, hl2⟩, hA, hB, hb⟩
 have Hok1 := Lib.hid hok1
 have Hok2 := Lib.hid hok2
 have HE := Lib.hid (((Later.rds hA).and (Later.rds hB)).and (Later.rd (HR'.out.below hb)))
 have HB0 := Lib.hid hb
 have hza := hb.size
 clear hA hB hb hok1 hok2
 go_wp2_with fail
 obtain ⟨w2, e2, B5, hb2, hz2⟩ := box4 wa 51 (.int .i64 t) (.int .i64 a) (.slice s1 ac.length c1) (.slice s2 nx.length c2)
 rw [e2]
 obtain ⟨wb, e3, B6, hb3, hz3⟩ := box4 w2 51 (.int .i64 t) (.int .i64 a) (.slice s3 bc.length c3) (.slice s4 ny.length c4)
 rw [e3]
 rw [hz2] at B6
 have hbB2 := hb2.trans (hb3.mono (by omega))
 replace B5 := B5.below hb3
 have HB2 := Lib.hid (HB0.out.trans (hbB2.mono hza))
 have HG := Lib.hid (((HE.out.on hbB2).and (Later.blk B5)).and (Later.blk B6))
 clear e2 e3 hb2 hb3 hz2 hz3 hbB2 B5 B6 HE HB0
 obtain ⟨⟨⟨⟨-, -⟩, ry⟩, g5⟩, -⟩ := HG.out.now
 obtain ⟨g50, g51, g52, g53, -, -, -, -, l5⟩ := g5.all4
 clear g5
 go_wp2_with fail
 clear g50 g51 g52 g53 l5
 refine (a2Word_l ry HX'.out (e := .mk 2 0 []) kids_none (okB_one Hok1.out.sig)).mono ?_
 rintro z v3 ⟨ps, qs, s9, c9, u9, d9, rfl, hw, hp, hq, hb⟩
 have Hw := Lib.hid hw
 clear hw ry
 obtain ⟨v4, eb, K, hbz, hzz⟩ := box2 v3 40 (.slice s9 ps.length c9) (.slice u9 qs.length d9)
 have ltz : v3.heap.size < v4.heap.size := by omega
 clear hzz
 replace HB2 := Lib.hid ((HB2.out.trans (hb.mono HB2.out.size)).trans (hbz.mono (by have := HB2.out.size; have := hb.size; omega)))
 replace HG := Lib.hid ((((HG.out.on hb).on hbz).and (((Later.rd hp).and (Later.rd hq)).on hbz)).and (Later.blk K))
 clear hb hbz K hp hq
 obtain ⟨⟨⟨⟨⟨⟨rA, -⟩, -⟩, g5⟩, -⟩, -⟩, -⟩ := HG.out.now
 obtain ⟨g50, g51, g52, g53, -, -, -, -, l5⟩ := g5.all4
 clear g5
 go_wp2_with fail
 clear eb g50 g51 g52 g53 l5
 refine (implFirst_l rA).mono ?_
 rintro z v5 ⟨us, js, k, s11, c11, u11, d11, rfl, hx11, hp, hq, hb⟩
 have Hx11 := Lib.hid hx11
 clear hx11 rA
 obtain ⟨v6, eb, K, hbz, hzz⟩ := box2 v5 40 (.slice s11 us.length c11) (.slice u11 js.length d11)
 have ltz : v5.heap.size < v6.heap.size := by omega
 clear hzz
 replace HB2 := Lib.hid ((HB2.out.trans (hb.mono HB2.out.size)).trans (hbz.mono (by have := HB2.out.size; have := hb.size; omega)))
 replace HG := Lib.hid ((((HG.out.on hb).on hbz).and (((Later.rd hp).and (Later.rd hq)).on hbz)).and (Later.blk K))
 clear hb hbz K hp hq
 obtain ⟨⟨⟨⟨⟨⟨⟨⟨rA, -⟩, -⟩, g5⟩, -⟩, r9⟩, g9⟩, r11⟩, g11⟩ := HG.out.now
 obtain ⟨g50, g51, g52, g53, -, -, -, -, l5⟩ := g5.all4
 obtain ⟨g90, g91, l9⟩ := g9.all2
 obtain ⟨g110, g111, l11⟩ := g11.all2
 clear g5 g9 g11
 by_cases hk : k = 0
 rotate_left
 ·
  have hk1 : (k != 0) = true := by simpa using hk
  have HNo := Lib.hid (first_no Hok1.out Hw.out (fun h => hk (by rw [Hx11.out.2.2, h])))
  clear hk
  go_wp2_with fail
  clear eb g50 g51 g52 g53 l5 g90 g91 l9 g110 g111 l11
  refine (run_l rA r9.1 r9.2 Hok1.out Hw.out HNo.out).mono ?_
  rintro z v7 ⟨rfl, hb⟩
  clear rA r9 r11
  replace HB2 := Lib.hid (HB2.out.trans (hb.mono HB2.out.size))
  replace HG := Lib.hid (HG.out.on hb)
  clear hb
  obtain ⟨⟨⟨⟨⟨⟨⟨⟨rA, -⟩, -⟩, g5⟩, -⟩, -⟩, -⟩, -⟩, -⟩ := HG.out.now
  obtain ⟨g50, g51, g52, g53, -, -, -, -, l5⟩ := g5.all4
  clear g5
  go_wp2_with fail
  clear g50 g51 g52 g53 l5
  refine (specFirst_l rA).mono ?_
  rintro z v8 ⟨us2, js2, k2, s12, c12, u12, d12, rfl, hx12, hp, hq, hb⟩
  have hkk : k2 = k := hx12.2.2.trans Hx11.out.2.2.symm
  obtain rfl := hkk
  clear hx12 rA
  obtain ⟨v9, eb, K, hbz, hzz⟩ := box2 v8 40 (.slice s12 us2.length c12) (.slice u12 js2.length d12)
  have ltz : v8.heap.size < v9.heap.size := by omega
  clear hzz
  replace HB2 := Lib.hid ((HB2.out.trans (hb.mono HB2.out.size)).trans (hbz.mono (by have := HB2.out.size; have := hb.size; omega)))
  replace HG := Lib.hid ((((HG.out.on hb).on hbz).and (((Later.rd hp).and (Later.rd hq)).on hbz)).and (Later.blk K))
  clear hb hbz K hp hq
  have hkk : (k2 == k2) = true := by simp
  go_wp2_with fail
  go_ret
  exact ⟨rfl, HB2.out⟩
 subst hk
 have hfy := first_yes Hok1.out (Hx11.out.2.2.symm)
 rw [← Hx11.out.1, ← Hx11.out.2.1] at hfy
 have HFY := Lib.hid hfy
 clear hfy
 go_wp2_with fail
 clear eb g50 g51 g52 g53 l5 g90 g91 l9 g110 g111 l11
 refine (run_l rA r11.1 r11.2 Hok1.out HFY.out.1 HFY.out.2.1).mono ?_
 rintro z v7 ⟨rfl, hb⟩
 clear rA r9 r11
 replace HB2 := Lib.hid (HB2.out.trans (hb.mono HB2.out.size))
 replace HG := Lib.hid (HG.out.on hb)
 clear hb
 obtain ⟨⟨⟨⟨⟨⟨⟨⟨rA, -⟩, -⟩, g5⟩, -⟩, r9⟩, g9⟩, r11⟩, g11⟩ := HG.out.now
 obtain ⟨g50, g51, g52, g53, -, -, -, -, l5⟩ := g5.all4
 obtain ⟨g90, g91, l9⟩ := g9.all2
 obtain ⟨g110, g111, l11⟩ := g11.all2
 clear g5 g9 g11
 obtain ⟨tr, htr⟩ : ∃ b, runsB ac nx ps qs = b := ⟨_, rfl⟩
 have HTR := Lib.hid htr
 clear htr
 go_wp2_with fail
 clear g50 g51 g52 g53 l5 g90 g91 l9 g110 g111 l11
 refine (run_l rA r9.1 r9.2 Hok1.out Hw.out HTR.out).mono ?_
 rintro z v8 ⟨rfl, hb⟩
 clear rA r9 r11
 replace HB2 := Lib.hid (HB2.out.trans (hb.mono HB2.out.size))
 replace HG := Lib.hid (HG.out.on hb)
 clear hb
 cases tr
 rotate_left
 ·
  have HLe := Lib.hid (HFY.out.2.2.1 ps qs Hw.out HTR.out)
  obtain ⟨⟨⟨⟨⟨⟨⟨⟨-, -⟩, -⟩, -⟩, -⟩, r9⟩, g9⟩, r11⟩, g11⟩ := HG.out.now
  obtain ⟨g90, g91, l9⟩ := g9.all2
  obtain ⟨g110, g111, l11⟩ := g11.all2
  clear g9 g11
  go_wp2_with fail
  clear g90 g91 l9 g110 g111 l11
  refine (a2Less_i r9.1 r9.2 r11.1 r11.2 (wordB_lens Hw.out) (wordB_lens HFY.out.1)).mono ?_
  rintro z v9 ⟨rfl, hb⟩
  rw [HLe.out]
  clear r9 r11
  replace HB2 := Lib.hid (HB2.out.trans (hb.mono HB2.out.size))
  replace HG := Lib.hid (HG.out.on hb)
  clear hb
  have HFl : Hid (Later v9 (FlW wa.heap.size v5.heap.size t a ac nx (.slice s1 ac.length c1) (.slice s2 nx.length c2) (.slice s11 us.length c11) (.slice u11 js.length d11))) := by
   refine ⟨fun w' b => ?_⟩
   obtain ⟨⟨⟨⟨⟨⟨⟨⟨rA, -⟩, -⟩, g5⟩, -⟩, -⟩, -⟩, -⟩, g11⟩ := HG.out.ok w' b
   exact ⟨rA, g5, g11⟩
  go_wp2_with fail
  go_loopw [18] (fun i wr => ∃ k : Nat, i = .int .i64 k ∧ k ≤ js.length ∧ Hid (Later wr (FlW wa.heap.size v5.heap.size t a ac nx (.slice s1 ac.length c1) (.slice s2 nx.length c2) (.slice s11 us.length c11) (.slice u11 js.length d11))) ∧ Hid (Below w.heap.size w wr)) (fun i _ => js.length - (intOf i).toNat)
  case atStart => exact ⟨0, rfl, by omega, HFl, HB2⟩
  case round =>
   clear HFl HG HB2
   have hj10 := (wordB_parts HFY.out.1).1
   obtain ⟨k, rfl, hk, HFl, HB⟩ := hrel
   obtain ⟨wo, rfl⟩ : ∃ v, v = wr := ⟨_, rfl⟩
   have hk0 := Int.natCast_nonneg k
   obtain ⟨rA, g5, g11⟩ := HFl.out.now
   obtain ⟨g50, g51, g52, g53, -, -, -, -, l5⟩ := g5.all4
   obtain ⟨g110, g111, l11⟩ := g11.all2
   clear g5 g11
   by_cases hlt : k < js.length
   ·
    have HC := Lib.hid (HFY.out.2.2.2 k hlt)
    have hi1 : (k : Int) < (js.length : Int) := by omega
    go_wp2_with fail
    clear g50 g51 g52 g53 l5 g110 g111 l11
    refine (cnt_l rA HC.out.1 HC.out.2).mono ?_
    rintro z v10 ⟨rfl, hb⟩
    have HFn := Lib.hid (HFl.out.on hb)
    have HBn := Lib.hid (HB.out.trans (hb.mono HB.out.size))
    clear hb rA
    go_wp2_with fail
    go_roundw
    case rel => exact ⟨k + 1, by go_num, by omega, HFn, HBn⟩
    case measure => simp [intOf]; omega
   ·
    have hi1 : ¬ (k : Int) < (js.length : Int) := by omega
    go_wp2_with fail
    go_ret
    exact ⟨rfl, HB.out⟩
 ·
  skip
  have HFl : Hid (Later v8 (FlW wa.heap.size v5.heap.size t a ac nx (.slice s1 ac.length c1) (.slice s2 nx.length c2) (.slice s11 us.length c11) (.slice u11 js.length d11))) := by
   refine ⟨fun w' b => ?_⟩
   obtain ⟨⟨⟨⟨⟨⟨⟨⟨rA, -⟩, -⟩, g5⟩, -⟩, -⟩, -⟩, -⟩, g11⟩ := HG.out.ok w' b
   exact ⟨rA, g5, g11⟩
  go_wp2_with fail
  go_loopw [18] (fun i wr => ∃ k : Nat, i = .int .i64 k ∧ k ≤ js.length ∧ Hid (Later wr (FlW wa.heap.size v5.heap.size t a ac nx (.slice s1 ac.length c1) (.slice s2 nx.length c2) (.slice s11 us.length c11) (.slice u11 js.length d11))) ∧ Hid (Below w.heap.size w wr)) (fun i _ => js.length - (intOf i).toNat)
  case atStart => exact ⟨0, rfl, by omega, HFl, HB2⟩
  case round =>
   clear HFl HG HB2
   have hj10 := (wordB_parts HFY.out.1).1
   obtain ⟨k, rfl, hk, HFl, HB⟩ := hrel
   obtain ⟨wo, rfl⟩ : ∃ v, v = wr := ⟨_, rfl⟩
   have hk0 := Int.natCast_nonneg k
   obtain ⟨rA, g5, g11⟩ := HFl.out.now
   obtain ⟨g50, g51, g52, g53, -, -, -, -, l5⟩ := g5.all4
   obtain ⟨g110, g111, l11⟩ := g11.all2
   clear g5 g11
   by_cases hlt : k < js.length
   ·
    have HC := Lib.hid (HFY.out.2.2.2 k hlt)
    have hi1 : (k : Int) < (js.length : Int) := by omega
    go_wp2_with fail
    clear g50 g51 g52 g53 l5 g110 g111 l11
    refine (cnt_l rA HC.out.1 HC.out.2).mono ?_
    rintro z v10 ⟨rfl, hb⟩
    have HFn := Lib.hid (HFl.out.on hb)
    have HBn := Lib.hid (HB.out.trans (hb.mono HB.out.size))
    clear hb rA
    go_wp2_with fail
    go_roundw
    case rel => exact ⟨k + 1, by go_num, by omega, HFn, HBn⟩
    case measure => simp [intOf]; omega
   ·
    have hi1 : ¬ (k : Int) < (js.length : Int) := by omega
    go_wp2_with fail
    go_ret
    exact ⟨rfl, HB.out⟩
set_option maxRecDepth 100000 in
theorem law_First_of {H : Type} {enc : TypeId × Value → H} (W : World) (args : Array Value) (ds : List (DataW H)) (ps : List MemPlace) (hA : DataW.TrodAll enc Try.prog W 0 (fun _ => true) true Try.f9.params.toList args.toList ds ps)
  (hval : ∀ (j : Nat) t v, Try.f9.params[j]? = some t → args[j]? = some v → ∃ base, Value.okWide Try.prog W .any base t v) :
  Calls Try.prog 9 args W fun e W' => e = .returned (.bool true) ∧ Below W.heap.size W W' := by
 rw [Try.params9] at hA hval
 obtain ⟨v0, vs0, d0', ds0, p0, q0, hargs, rfl, rfl, h0, ra0⟩ := trodAll_cons hA
 obtain ⟨v1, vs1, d1', ds1, p1, q1, rfl, rfl, rfl, h1, ra1⟩ := trodAll_cons ra0
 obtain ⟨rfl, rfl, rfl⟩ := trodAll_nil ra1
 obtain rfl : args = #[v0, v1] := Array.toList_inj.1 hargs
 obtain ⟨b0, hv0⟩ := hval 0 62 v0 rfl rfl
 obtain ⟨b1, hv1⟩ := hval 1 62 v1 rfl rfl
 obtain ⟨xs, s, c, rfl, hr, hx⟩ := open_byteS hv0 h0
 obtain ⟨ys, s', c', rfl, hr', hx'⟩ := open_byteS hv1 h1
 exact law_First hr hx hr' hx'
end Go.Proofs.Ytbflhjjnemdecaa
