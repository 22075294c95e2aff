/-
  Parts of a proof, joined: Rnd, AccC, LwM, MixP. No condition.
-/
import Derived.Test.YtfhlddbngjlhbaaPk15
import Derived.Test.YtfhlddbngjlhbaaPk18
namespace Go.Proofs.Ytfhlddbngjlhbaa
set_option linter.unusedVariables false
set_option linter.unusedSimpArgs false
open Go.ChangeShapes Go.WideShapes Go.ChangeAt Go.RowKit Go.Deep Go.Sort
theorem rn_bl : (Try.prog.info? 4).map (fun i => (i.zero, i.size, i.bytes)) = some (some (.bool false), 1, 1) := by kernel_rfl
theorem rn_bls : (Try.prog.info? 77).map (fun i => (i.zero, i.size, i.bytes)) = some (some (.slice none 0 0), 1, 24) := by kernel_rfl
theorem rn_none {w : World} {v : Int} : OwS (fun _ => False) w [D.int v] [.int .i64 v] := ⟨[], Ows.cons (F := []) (by simp [Ow]) Ows.nil, by simp, by simp⟩
theorem rn_noneb {w : World} {v : Bool} : OwS (fun _ => False) w [D.bool v] [.bool v] := ⟨[], Ows.cons (F := []) (by simp [Ow]) Ows.nil, by simp, by simp⟩
def RnRow (n : Int) (row : List Int) : Prop := ∀ z ∈ row, -1 ≤ z ∧ z ≤ n - 1
def RnRows (a n : Int) (nr : List (List Int)) : Prop := ∀ row ∈ nr, RowOk a n row
def RnSt (t a n : Int) (ac : List (List Bool)) (nx : List (List (List Int))) : Prop := ∀ (i : Nat) (ar : List Bool) (nr : List (List Int)), ac[i]? = some ar → nx[i]? = some nr → StOk t a n ar nr
theorem RnRow.nil {n : Int} : RnRow n [] := by intro z hz; cases hz
theorem RnRow.snoc {n z : Int} {row : List Int} (h : RnRow n row) (h1 : -1 ≤ z) (h2 : z ≤ n - 1) : RnRow n (row ++ [z]) := by
 intro y hy
 rcases List.mem_append.1 hy with q | q
 ·
  exact h y q
 ·
  rw [List.mem_singleton.1 q]
  exact ⟨h1, h2⟩
theorem RnRow.ok {a n : Int} {row : List Int} (h : RnRow n row) (hl : (row.length : Int) = a) : RowOk a n row := ⟨hl, fun l z hz => h z (List.mem_of_getElem? hz)⟩
theorem RnRows.nil {a n : Int} : RnRows a n [] := by intro z hz; cases hz
theorem RnRows.snoc {a n : Int} {nr : List (List Int)} {row : List Int} (h : RnRows a n nr) (k : RowOk a n row) : RnRows a n (nr ++ [row]) := by
 intro y hy
 rcases List.mem_append.1 hy with q | q
 ·
  exact h y q
 ·
  rw [List.mem_singleton.1 q]
  exact k
theorem RnRows.ok {t a n : Int} {nr : List (List Int)} {ar : List Bool} (h : RnRows a n nr) (h1 : (ar.length : Int) = atomsN t) (h2 : (nr.length : Int) = atomsN t) : StOk t a n ar nr := ⟨h1, h2, fun j row hj => h row (List.mem_of_getElem? hj)⟩
theorem RnSt.nil {t a n : Int} : RnSt t a n [] [] := by intro i ar nr h; simp at h
theorem RnSt.snoc {t a n : Int} {ac : List (List Bool)} {nx : List (List (List Int))} {ar : List Bool} {nr : List (List Int)} (h : RnSt t a n ac nx) (hl : ac.length = nx.length) (k : StOk t a n ar nr) : RnSt t a n (ac ++ [ar]) (nx ++ [nr]) := by
 intro i ar' nr' h1 h2
 by_cases hi : i < ac.length
 ·
  rw [List.getElem?_append_left hi] at h1
  rw [List.getElem?_append_left (by omega)] at h2
  exact h i ar' nr' h1 h2
 ·
  have hi2 := (List.getElem?_eq_some_iff.1 h1).1
  simp at hi2
  obtain rfl : i = ac.length := by omega
  simp at h1
  rw [hl] at h2
  simp at h2
  subst h1 h2
  exact k
structure RnA (t a n : Int) (k : Nat) where
 ac : List (List Bool)
 nx : List (List (List Int))
 va : Option Addr
 ca : Nat
 vx : Option Addr
 cx : Nat
 l1 : ac.length = k
 l2 : nx.length = k
 st : RnSt t a n ac nx
def RnW (B b N g : Nat) (t a n : Int) (w0 wr : World) (k : Nat) (u : RnA t a n k) (more : List Item) : Prop :=
 Bun w0.heap.size wr ([.box g 31 [.int .i64 t, .int .i64 a, .slice u.va k u.ca, .slice u.vx k u.cx], .app 77 1 k (u.ac.map boolsD) (.slice u.va k u.ca), .app 76 1 k (u.nx.map iiD) (.slice u.vx k u.cx)] ++ more) ∧ Drew B b N w0 wr
theorem Bun.drew {B0 B b N : Nat} {w w' : World} {items : List Item} (h : Bun B0 w items) (k : Drew B b N w w') (hb : b < B0) : Bun B0 w' items := h.keep k.size fun i h1 h2 => k.2.block i h2 (by omega)
theorem Drew.grow {B b N : Nat} {w w1 w2 : World} (h : Drew B b N w w1) (k : Below w.heap.size w1 w2) (hB : B ≤ w.heap.size) (hb : b < w.heap.size) : Drew B b N w w2 := by
 have hz := h.size
 exact ⟨h.1.keep (k.mono hB) (k.block _ hb), k.os.trans h.2.os, k.tape.trans h.2.tape, k.output.trans h.2.output, Nat.le_trans hz k.size, fun i hi hn => (k.block i hi).trans (h.2.block i hi hn)⟩
theorem Drew.alloc {B b N : Nat} {w w1 : World} (h : Drew B b N w w1) (o : Obj) : Drew B b N w (w1.alloc o) := h.on (Below.alloc (Below.refl _ _) (Nat.le_refl _) o)
theorem Drew.cell {B b N : Nat} {w w1 : World} (h : Drew B b N w w1) (hB : B ≤ w.heap.size) (hb : b < w.heap.size) {g : Nat} (hg : w.heap.size ≤ g) (i : Nat) (v : Value) : Drew B b N w (w1.setCell ⟨g, i, none⟩ v) := h.grow (Below.setCell (p := ⟨g, i, none⟩) (Below.refl _ _) hg v) hB hb
theorem rn_new (u : World) (s T : Nat) (v : Value) (h : u.heap.size = s := by simp) : Blk (u.alloc (.cells #[v] T)) s T [v] := by subst h; exact Blk.new1 u T v
set_option maxRecDepth 100000 in
set_option maxHeartbeats 16000000 in
theorem l02Random_i {B b N : Nat} {t a mo : Int} {w : World} (h : SrcW B b N w) (hN : N ≤ 1000000) (hB : B ≤ w.heap.size) (hsig : sigB t a = true) (hm : 1 ≤ mo) (hm5 : mo ≤ 5) :
  Calls Try.prog 40 #[.pointer (some ⟨b, 0, none⟩), .agg #[.int .i64 t, .int .i64 a], .int .i64 mo] w fun f w' => ∃ ac nx s c s' c', f = .returned (.agg #[.int .i64 t, .int .i64 a, .slice s ac.length c, .slice s' nx.length c']) ∧ AutOk t a ac nx ∧ ac.length ≤ 5 ∧
   Freshs w w' (autD ac nx) [.slice s ac.length c, .slice s' nx.length c'] ∧ Drew B b (N + 1000) w w' := by
 obtain ⟨ht0, ht3, ha0, ha4⟩ := sigB_bd hsig
 obtain ⟨hat1, hat8⟩ := atomsN_bd t
 have Hsig := Lib.hid hsig
 obtain ⟨A, hA⟩ : ∃ A : Nat, atomsN t = (A : Int) := ⟨(atomsN t).toNat, by omega⟩
 have HA := Lib.hid hA
 have hA8 : A ≤ 8 := by omega
 have hbw := h.lt
 clear hsig hA hat1 hat8
 go_enter Try.func40, Try.ntmps40
 go_wp2_with fail
 obtain ⟨w1, e1, G, hb1, hz1⟩ := box2 w 29 (.int .i64 t) (.int .i64 a)
 rw [e1]
 clear e1
 obtain ⟨w0, e0, R, hb2, hz2⟩ := box4 w1 31 (.int .i64 0) (.int .i64 0) (.slice none 0 0) (.slice none 0 0)
 rw [e0]
 clear e0
 rw [hz1] at R
 have D0 := (h.drew.on hb1).on hb2
 replace G := G.below hb2
 clear hb1 hb2
 have hz0 : w0.heap.size = w.heap.size + 2 := by omega
 clear hz1 hz2
 refine (pick_i D0.1 (by omega) (by omega)).mono ?_
 rintro f w2 ⟨z, rfl, hz, hz5, D1⟩
 replace G := D1.blk G (by omega)
 replace R := D1.blk R (by omega)
 have D2 := D0.trans D1
 have hz2 := D1.size
 obtain ⟨n, hn⟩ : ∃ n : Int, 1 + z = n := ⟨_, rfl⟩
 have hn1 : 1 ≤ n := by omega
 have hn5 : n ≤ 5 := by omega
 obtain ⟨g0, g1, ltG⟩ := G.all2
 clear D0 D1
 go_wp2_with fail
 try rw [hn]
 clear hn g0 g1 ltG
 have hB2 := (((Bun.nil (B := w2.heap.size) (w := w2)).push_box (by omega) 31 #[.int .i64 t, .int .i64 a, .slice none 0 0, .slice none 0 0]).push_nil 77 1).push_nil 76 1
 obtain ⟨w3, e3, -, hb3, hz3⟩ := box4 w2 31 (.int .i64 t) (.int .i64 a) (.slice none 0 0) (.slice none 0 0)
 rw [e3] at hB2 ⊢
 obtain ⟨g, hg⟩ : ∃ g, w2.heap.size = g := ⟨_, rfl⟩
 have HG := Lib.hid G
 have HR := Lib.hid R
 have HD2 := Lib.hid D2
 have hst : Hid (∃ u : RnA t a n 0, RnW B b (N + 1) g t a n w2 w3 0 u []) := ⟨⟨[], [], none, 0, none, 0, rfl, rfl, RnSt.nil⟩, by rw [← hg]; simpa using hB2, D2.1.drew.on hb3⟩
 rw [hg]
 have hgb : w2.heap.size ≤ g := by omega
 have hgb2 : g ≤ w2.heap.size := by omega
 have hBw2 : B ≤ w2.heap.size := by omega
 have hbw2 : b < w2.heap.size := by omega
 clear e3 hb3 hB2 G R D2 hg h
 go_loopw [9] (fun i wr => ∃ k : Nat, i = .int .i64 k ∧ (k : Int) ≤ n ∧ ∃ u : RnA t a n k, RnW B b (N + 1 + k * 100) g t a n w2 wr k u []) (fun i _ => 6 - (intOf i).toNat)
 case atStart => exact ⟨0, rfl, by omega, hst.out⟩
 case round =>
  clear hst
  obtain ⟨k, rfl, hk, u, hbun, hD⟩ := hrel
  obtain ⟨wo, rfl⟩ : ∃ v, v = wr := ⟨_, rfl⟩
  have hk0 := Int.natCast_nonneg k
  have hzo := hD.size
  by_cases hlt : (k : Int) < n
  rotate_left
  ·
   obtain rfl : (k : Int) = n := by omega
   obtain ⟨x0, x1, x2, x3, -, -, -, -, ltx⟩ := (hbun.box 0 rfl).1.all4
   have R5 := hD.blk HR.out (by omega)
   obtain ⟨r0, r1, r2, r3, z0, z1, z2, z3, ltR⟩ := R5.all4
   have HF := Lib.hid (hbun.fresh2 (W := w2) (Nat.le_refl _) 1 2 (by decide) rfl rfl)
   have HD := Lib.hid (HD2.out.trans hD)
   clear hbun hD
   go_wp2_with fail
   obtain ⟨w5, e5, T2, hs5⟩ := set4 R5 (.int .i64 t) (.int .i64 a) (.slice u.va k u.ca) (.slice u.vx k u.cx)
   rw [e5]
   clear e5 r0 r1 r2 r3 z0 z1 z2 z3 ltR
   obtain ⟨t0, t1, t2, t3, -, -, -, -, -⟩ := T2.all4
   refine bodyPost_ret (v := .agg #[.int .i64 t, .int .i64 a, .slice u.va k u.ca, .slice u.vx k u.cx]) (by simp [results, Try.results40, go_sem, t0, t1, t2, t3]) rfl ?_
   refine ⟨u.ac, u.nx, u.va, u.ca, u.vx, u.cx, by rw [u.l1, u.l2], ⟨Hsig.out, by rw [u.l1]; omega, by rw [u.l1]; omega, by rw [u.l1, u.l2], by rw [u.l1]; exact u.st⟩, by rw [u.l1]; omega, ?_, (HD.out.set hs5 (by omega) hB (by omega)).more (by omega)⟩
   have e1 : autD u.ac u.nx = [D.sl 1 k (u.ac.map boolsD), D.sl 1 k (u.nx.map iiD)] := by unfold autD bbD iiiD nestD; rw [u.l1, u.l2]
   rw [e1, u.l1, u.l2]
   exact (HF.out.keep fun y h1 h2 => hs5.block y h2 (fun e => by subst e; omega)).from (by omega)
  ·
   have HB := Lib.hid hbun
   have HDo := Lib.hid hD
   clear hbun hD
   go_wp2_with fail
   have hB3 := (HB.out.push_empty hzo 4 1).push_empty (by simp; omega) 42 1
   rw [show (wo.alloc (.cells #[] 4)).heap.size = wo.heap.size + 1 by simp] at hB3
   have hD3 := (HDo.out.on (Below.alloc (Below.refl _ _) (Nat.le_refl _) (.cells #[] 4))).on (Below.alloc (Below.refl _ _) (Nat.le_refl _) (.cells #[] 42))
   have hst : Hid (RnW B b (N + 1 + k * 100) g t a n w2 ((wo.alloc (.cells #[] 4)).alloc (.cells #[] 42)) k u [.app 4 1 0 [] (.slice (some ⟨wo.heap.size, 0, none⟩) 0 0), .app 42 1 0 [] (.slice (some ⟨wo.heap.size + 1, 0, none⟩) 0 0)]) := ⟨by simpa using hB3, hD3⟩
   clear hB3 hD3
   go_loopw [10, 11, 12] (fun v3 v4 i wr => ∃ m : Nat, i = .int .i64 m ∧ m ≤ A ∧ ∃ (ar : List Bool) (nr : List (List Int)), ar.length = m ∧ nr.length = m ∧ RnRows a n nr ∧ RnW B b (N + 1 + k * 100 + m * 10) g t a n w2 wr k u [.app 4 1 m (ar.map D.bool) v3, .app 42 1 m (nr.map intsD) v4]) (fun _ _ i _ => A - (intOf i).toNat)
   case atStart => exact ⟨0, rfl, by omega, [], [], rfl, rfl, RnRows.nil, hst.out⟩
   case round =>
    clear hst
    obtain ⟨m, rfl, hmA, ar, nr, la, ln, hrows, hbun, hD⟩ := hrel
    obtain ⟨wm, rfl⟩ : ∃ v, v = wr := ⟨_, rfl⟩
    obtain ⟨a3, c3, rfl, hc3, hc3'⟩ := hbun.shape 3 rfl
    obtain ⟨a4, c4, rfl, hc4, hc4'⟩ := hbun.shape 4 rfl
    unfold maxLen at hc3' hc4'
    have Hrows := Lib.hid hrows
    have hm0 := Int.natCast_nonneg m
    have hzm := hD.size
    have G4 := hD.blk HG.out (by omega)
    obtain ⟨g0, g1, ltG⟩ := G4.all2
    have HB4 := Lib.hid hbun
    have HD4 := Lib.hid hD
    clear hbun hD G4 hrows
    go_wp2_with fail
    clear g0 g1 ltG
    refine (l01Atoms_i ht0 ht3).mono ?_
    rintro f w5 ⟨rfl, hb5⟩
    rw [HA.out]
    have HB5 := Lib.hid (HB4.out.below hb5)
    have HD5 := Lib.hid (HD4.out.on hb5)
    have hz5 := hb5.size
    clear hb5 HB4 HD4
    by_cases hmlt : m < A
    rotate_left
    ·
     obtain rfl : A = m := by omega
     obtain ⟨x0, x1, x2, x3, z0, z1, z2, z3, ltx⟩ := (HB5.out.box 0 rfl).1.all4
     have hBu := HB5.out.alloc (.cells #[.slice a3 A c3] 77)
     have hNb := Blk.new1 w5 77 (.slice a3 A c3)
     have hk5 : k + 1 ≤ 5 := by omega
     obtain ⟨-, -, -, q1, q2⟩ : True ∧ True ∧ True ∧ k ≤ u.ca ∧ u.ca ≤ maxLen := by
      obtain ⟨_, _, q9, hd3, hd4⟩ := HB5.out.shape 1 rfl
      simp only [Value.slice.injEq, true_and] at q9
      obtain ⟨_, rfl⟩ := q9
      exact ⟨trivial, trivial, trivial, hd3, hd4⟩
     obtain ⟨-, -, -, q3, q4⟩ : True ∧ True ∧ True ∧ k ≤ u.cx ∧ u.cx ≤ maxLen := by
      obtain ⟨_, _, q9, hd3, hd4⟩ := HB5.out.shape 2 rfl
      simp only [Value.slice.injEq, true_and] at q9
      obtain ⟨_, rfl⟩ := q9
      exact ⟨trivial, trivial, trivial, hd3, hd4⟩
     unfold maxLen at q2 q4
     go_wp2_with (first
      | (at_builtin; (refine wpList_append_bun_own _ rfl _ _ 24 rfl 77 24 Try.underlying24 rn_bls hBu (by simp; omega) 1 _ rfl rfl 3 (by decide) _ rfl ⟨w5.heap.size, 0, none⟩ rfl (news_blk hNb) (by omega) (by unfold maxLen; omega) ?_); intro g6 cap6 w6 hbun6 hb6; obtain ⟨y0, y1, y2, y3, f0, f1, f2, f3, lty⟩ := (hbun6.box 0 rfl).1.all4; have hz6 : w5.heap.size + 1 ≤ w6.heap.size := (by have q := hb6.size; simpa using q); have hBu2 := (hbun6.store 0 rfl 2 (.slice (some ⟨g6, 0, none⟩) (k + 1) cap6)).alloc (.cells #[.slice a4 A c4] 76); have hNb2 := rn_new (w6.setCell ⟨g, 2, none⟩ (.slice (some ⟨g6, 0, none⟩) (k + 1) cap6)) w6.heap.size 76 (.slice a4 A c4); have hD6 := Lib.hid ((((HD5.out.alloc (.cells #[.slice a3 A c3] 77)).grow hb6 hBw2 hbw2).cell hBw2 hbw2 hgb 2 (.slice (some ⟨g6, 0, none⟩) (k + 1) cap6)).alloc (.cells #[.slice a4 A c4] 76)); clear hbun6 hb6)
      | (at_builtin; go_must (refine wpList_append_bun_own _ rfl _ _ 25 rfl 76 24 Try.underlying25 info_i64ss hBu2 (by simp; omega) 2 _ rfl rfl 4 (by decide) _ rfl ⟨w6.heap.size, 0, none⟩ rfl (news_blk hNb2) (by omega) (by unfold maxLen; omega) ?_); intro g7 cap7 w7 hbun7 hb7; obtain ⟨y0, y1, y2, y3, f0, f1, f2, f3, lty⟩ := (hbun7.box 0 rfl).1.all4))
     have Hfin := Lib.hid (And.intro ((hbun7.take 3).store 0 rfl 3 (.slice (some ⟨g7, 0, none⟩) (k + 1) cap7)) ((hD6.out.grow hb7 hBw2 hbw2).cell hBw2 hbw2 hgb 3 (.slice (some ⟨g7, 0, none⟩) (k + 1) cap7)))
     clear hbun7 hb7 hBu hNb hBu2 hNb2 x0 x1 x2 x3 z0 z1 z2 z3 ltx y0 y1 y2 y3
     go_wp2_with fail
     go_roundw
     case rel =>
      refine ⟨k + 1, by go_num, by omega, ⟨u.ac ++ [ar], u.nx ++ [nr], some ⟨g6, 0, none⟩, cap6, some ⟨g7, 0, none⟩, cap7, by simp [u.l1], by simp [u.l2], u.st.snoc (by rw [u.l1, u.l2]) (Hrows.out.ok (by rw [HA.out, la]) (by rw [HA.out, ln]))⟩, ?_, Hfin.out.2.more (by omega)⟩
      have e1 : (u.ac ++ [ar]).map boolsD = u.ac.map boolsD ++ [D.sl 1 A (ar.map D.bool)] := by rw [List.map_append, ← la]; rfl
      have e2 : (u.nx ++ [nr]).map iiD = u.nx.map iiD ++ [D.sl 1 A (nr.map intsD)] := by rw [List.map_append, ← ln]; rfl
      have h := Hfin.out.1
      show Bun _ _ [_, .app _ _ _ ((u.ac ++ [ar]).map boolsD) _, .app _ _ _ ((u.nx ++ [nr]).map iiD) _]
      rw [e1, e2]
      exact h
     case measure => simp [intOf]; omega
    ·
     have hm1 : (m : Int) < (A : Int) := by omega
     go_wp2_with fail
     refine (one_i HD5.out.1 (by omega) (by omega)).mono ?_
     rintro f w6 ⟨v, rfl, D6⟩
     have HB6 := Lib.hid (HB5.out.drew D6 (by omega))
     have HD6 := Lib.hid (HD5.out.trans D6)
     have hz6 := D6.size
     have hBu := HB6.out.alloc (.cells #[.bool v] 4)
     have hNb := Blk.new1 w6 4 (.bool v)
     clear D6
     go_wp2_with (at_builtin; go_must (refine wpList_append_bun _ rfl _ _ 77 rfl 4 (.bool false) 1 1 Try.underlying77 rn_bl rfl (by decide) hBu (by simp <;> omega) 3 _ rfl rfl ⟨w6.heap.size, 0, none⟩ 1 1 [.bool v] rfl (news_blk hNb) rn_noneb rfl (by simp [Value.oneCell']) (by omega) (by omega) (by unfold maxLen; omega) ?_); intro g7 cap7 w7 hbun7 hb7; have hz7 : w6.heap.size + 1 ≤ w7.heap.size := (by have q := hb7.size; simpa using q))
     have hB8 := hbun7.push_empty (by omega) 2 1
     have hD8 := ((HD6.out.alloc (.cells #[.bool v] 4)).grow hb7 hBw2 hbw2).alloc (.cells #[] 2)
     have hst : Hid (RnW B b (N + 1 + k * 100 + m * 10 + 1) g t a n w2 (w7.alloc (.cells #[] 2)) k u [.app 4 1 (m + 1) ((ar ++ [v]).map D.bool) (.slice (some ⟨g7, 0, none⟩) (m + 1) cap7), .app 42 1 m (nr.map intsD) (.slice a4 m c4), .app 2 1 0 [] (.slice (some ⟨w7.heap.size, 0, none⟩) 0 0)]) := ⟨by simpa using hB8, hD8⟩
     clear hB8 hD8 hbun7 hb7 hBu hNb
     go_wp2_with fail
     go_loopw [13, 14] (fun v5 i wr => ∃ q : Nat, i = .int .i64 q ∧ (q : Int) ≤ a ∧ ∃ row : List Int, row.length = q ∧ RnRow n row ∧ RnW B b (N + 1 + k * 100 + m * 10 + 1 + q) g t a n w2 wr k u [.app 4 1 (m + 1) ((ar ++ [v]).map D.bool) (.slice (some ⟨g7, 0, none⟩) (m + 1) cap7), .app 42 1 m (nr.map intsD) (.slice a4 m c4), .app 2 1 q (row.map D.int) v5]) (fun _ i _ => 5 - (intOf i).toNat)
     case atStart => exact ⟨0, rfl, by omega, [], rfl, RnRow.nil, hst.out⟩
     case round =>
      clear hst
      obtain ⟨q, rfl, hqa, row, lr, hrow, hbun, hD⟩ := hrel
      obtain ⟨wq, rfl⟩ : ∃ v, v = wr := ⟨_, rfl⟩
      obtain ⟨a5, c5, rfl, hc5, hc5'⟩ := hbun.shape 5 rfl
      unfold maxLen at hc5'
      have Hrow := Lib.hid hrow
      have hq0 := Int.natCast_nonneg q
      have hzq := hD.size
      have G4 := hD.blk HG.out (by omega)
      obtain ⟨g0, g1, ltG⟩ := G4.all2
      clear G4 hrow
      by_cases hqlt : (q : Int) < a
      rotate_left
      ·
       have hqe : (q : Int) = a := by omega
       have Hqe := Lib.hid hqe
       have Hr1 : Hid (RowOk a n row) := Hrow.out.ok (by rw [lr]; exact hqe)
       have hBu := hbun.alloc (.cells #[.slice a5 q c5] 42)
       have hNb := Blk.new1 wq 42 (.slice a5 q c5)
       have hnq : ¬ (q : Int) < a := by omega
       have HD := Lib.hid hD
       clear hqe hbun hD hqlt
       go_wp2_with (at_builtin; go_must (refine wpList_append_bun_own _ rfl _ _ 76 rfl 42 24 Try.underlying76 info_i64s hBu (by simp; omega) 4 _ rfl rfl 5 (by decide) _ rfl ⟨wq.heap.size, 0, none⟩ rfl (news_blk hNb) (by omega) (by unfold maxLen; omega) ?_); intro g8 cap8 w8 hbun8 hb8)
       have Hfin := Lib.hid (And.intro (hbun8.take 5) ((HD.out.alloc (.cells #[.slice a5 q c5] 42)).grow hb8 hBw2 hbw2))
       clear hbun8 hb8 hBu hNb g0 g1 ltG
       go_wp2_with fail
       go_roundw
       case rel =>
        refine ⟨m + 1, by go_num, by omega, ar ++ [v], nr ++ [row], by simp [la], by simp [ln], Hrows.out.snoc Hr1.out, ?_, Hfin.out.2.more (by omega)⟩
        have e2 : (nr ++ [row]).map intsD = nr.map intsD ++ [D.sl 1 q (row.map D.int)] := by rw [List.map_append, ← lr]; rfl
        have h := Hfin.out.1
        rw [e2]
        exact h
       case measure => simp [intOf]; omega
      ·
       have HB := Lib.hid hbun
       have HD := Lib.hid hD
       clear hbun hD
       go_wp2_with fail
       clear g0 g1 ltG
       refine (pick_i HD.out.1 (by omega) (by omega)).mono ?_
       rintro f w6 ⟨y, rfl, y0, y1, D6⟩
       have hBu := (HB.out.drew D6 (by omega)).alloc (.cells #[.int .i64 (y - 1)] 2)
       have HD6 := Lib.hid (HD.out.trans D6)
       have hz6 := D6.size
       have hNb := Blk.new1 w6 2 (.int .i64 (y - 1))
       clear D6
       go_wp2_with (at_builtin; go_must (refine wpList_append_bun _ rfl _ _ 42 rfl 2 (.int .i64 0) 1 8 Try.underlying42 info_int64 rfl (by decide) hBu (by simp <;> omega) 5 _ rfl rfl ⟨w6.heap.size, 0, none⟩ 1 1 [.int .i64 (y - 1)] rfl (news_blk hNb) rn_none rfl (by simp [Value.oneCell']) (by omega) (by omega) (by unfold maxLen; omega) ?_); intro g8 cap8 w8 hbun8 hb8)
       have Hfin := Lib.hid (And.intro hbun8 ((HD6.out.alloc (.cells #[.int .i64 (y - 1)] 2)).grow hb8 hBw2 hbw2))
       clear hbun8 hb8 hBu hNb
       go_wp2_with fail
       go_roundw
       case rel =>
        refine ⟨q + 1, by go_num, by omega, row ++ [y - 1], by simp [lr], Hrow.out.snoc (by omega) (by omega), ?_, Hfin.out.2.more (by omega)⟩
        have h := Hfin.out.1
        have e2 : (row ++ [y - 1]).map D.int = row.map D.int ++ [D.int (y - 1)] := by rw [List.map_append]; rfl
        rw [e2]
        exact h
       case measure => simp [intOf]; omega
set_option maxRecDepth 100000 in
set_option maxHeartbeats 8000000 in
theorem a2Automata_i {xs : List Int} {s : Option Addr} {c : Nat} {w : World} (hr : Rd w (bytesD xs) (.slice s xs.length c)) (hx : ∀ x ∈ xs, 0 ≤ x ∧ x ≤ 255) :
  Calls Try.prog 13 #[.slice s xs.length c] w fun f w' => ∃ (t a : Int) (ac bc : List (List Bool)) (nx ny : List (List (List Int))) (s1 s2 s3 s4 : Option Addr) (c1 c2 c3 c4 : Nat), f = .returned (.tuple #[.agg #[.int .i64 t, .int .i64 a, .slice s1 ac.length c1, .slice s2 nx.length c2], .agg #[.int .i64 t, .int .i64 a, .slice s3 bc.length c3, .slice s4 ny.length c4]]) ∧
   (AutOk t a ac nx ∧ AutOk t a bc ny ∧ ac.length ≤ 5 ∧ bc.length ≤ 5) ∧ Rds w' (autD ac nx) [.slice s1 ac.length c1, .slice s2 nx.length c2] ∧ Rds w' (autD bc ny) [.slice s3 bc.length c3, .slice s4 ny.length c4] ∧ Below w.heap.size w w' := by
 go_enter Try.func13, Try.ntmps13
 go_wp2_with fail
 obtain ⟨w1, e1, R, hb1, hz1⟩ := box4 w 31 (.int .i64 0) (.int .i64 0) (.slice none 0 0) (.slice none 0 0)
 rw [e1]
 obtain ⟨w2, e2, Q, hb2, hz2⟩ := box4 w1 31 (.int .i64 0) (.int .i64 0) (.slice none 0 0) (.slice none 0 0)
 rw [e2]
 rw [hz1] at Q
 replace R := R.below hb2
 have hB := hb1.trans (hb2.mono (by omega))
 clear e1 e2 hb1 hb2
 refine (from_i (hr.below hB) hx).mono ?_
 rintro f w5 ⟨sb, rfl, S, hb⟩
 have hsl := S.lt
 have hs0 := S.1
 replace R := R.below hb
 replace Q := Q.below hb
 have HB := Lib.hid (Below.on hB hb hB.size)
 have hz5 := hb.size
 clear hb hB hr hx
 go_wp2_with fail
 refine (pick_i S (by omega) (by omega)).mono ?_
 rintro f w6 ⟨t, rfl, t0, t1, D1⟩
 replace R := D1.blk R (by omega)
 replace Q := D1.blk Q (by omega)
 have hz6 := D1.size
 go_wp2_with fail
 refine (pick_i D1.1 (by omega) (by omega)).mono ?_
 rintro f w7 ⟨y, rfl, y0, y1, D2⟩
 replace R := D2.blk R (by omega)
 replace Q := D2.blk Q (by omega)
 have hz7 := D2.size
 have hsig : sigB t (1 + y) = true := by simp only [sigB, inB, Bool.and_eq_true, decide_eq_true_eq]; omega
 obtain ⟨a, ha⟩ : ∃ a, 1 + y = a := ⟨_, rfl⟩
 rw [ha] at hsig
 replace HB := Lib.hid (HB.out.trans (((D1.trans D2).below (by omega)).mono (by omega)))
 have D12 := D1.trans D2
 clear D1 S
 go_wp2_with fail
 try rw [ha]
 clear ha y0 y1
 obtain ⟨w8, e8, G, hb8, hz8⟩ := box2 w7 29 (.int .i64 t) (.int .i64 a)
 rw [e8]
 replace R := R.below hb8
 replace Q := Q.below hb8
 replace HB := Lib.hid (HB.out.trans (hb8.mono (by omega)))
 have S8 := D2.1.below hb8
 clear e8 hb8 D2 D12
 obtain ⟨g0, g1, ltG⟩ := G.all2
 go_wp2_with fail
 clear g0 g1 ltG
 refine (l02Random_i S8 (by omega) (by omega) hsig (by omega) (by omega)).mono ?_
 rintro f w9 ⟨ac, nx, s1, c1, s2, c2, rfl, hok1, hl1, hf1, D3⟩
 replace R := D3.blk R (by omega)
 replace Q := D3.blk Q (by omega)
 replace G := D3.blk G (by omega)
 have hz9 := D3.size
 replace HB := Lib.hid (HB.out.trans ((D3.below (by omega)).mono (by omega)))
 obtain ⟨w10, e10, X, hb10, hz10⟩ := box4 w9 31 (.int .i64 t) (.int .i64 a) (.slice s1 ac.length c1) (.slice s2 nx.length c2)
 replace R := R.below hb10
 replace Q := Q.below hb10
 replace G := G.below hb10
 have S10 := D3.1.below hb10
 have HF1 := Lib.hid (hf1.keep (w'' := w10) fun b h1 h2 => hb10.block b h2)
 replace HB := Lib.hid (HB.out.trans (hb10.mono (by omega)))
 have Hok1 := Lib.hid hok1
 obtain ⟨g0, g1, ltG⟩ := G.all2
 clear D3 hok1 hf1 S8 hb10
 go_wp2_with fail
 clear e10 g0 g1 ltG
 refine (l02Random_i S10 (by omega) (by omega) hsig (by omega) (by omega)).mono ?_
 rintro f w11 ⟨bc, ny, s3, c3, s4, c4, rfl, hok2, hl2, hf2, D4⟩
 replace R := D4.blk R (by omega)
 replace Q := D4.blk Q (by omega)
 replace X := D4.blk X (by omega)
 have hz11 := D4.size
 replace HB := Lib.hid (HB.out.trans ((D4.below (by omega)).mono (by omega)))
 replace HF1 := Lib.hid (HF1.out.keep fun b h1 h2 => D4.2.block b h2 (by omega))
 obtain ⟨w12, e12, Y, hb12, hz12⟩ := box4 w11 31 (.int .i64 t) (.int .i64 a) (.slice s3 bc.length c3) (.slice s4 ny.length c4)
 replace R := R.below hb12
 replace Q := Q.below hb12
 replace X := X.below hb12
 have hB := HB.out.trans (hb12.mono (by omega))
 replace HF1 := Lib.hid (HF1.out.keep fun b h1 h2 => hb12.block b h2)
 have HF2 := Lib.hid (hf2.keep (w'' := w12) fun b h1 h2 => hb12.block b h2)
 have Hok2 := Lib.hid hok2
 clear D4 hok2 hf2 S10 hb12 HB G
 obtain ⟨r0, r1, r2, r3, z0, z1, z2, z3, ltR⟩ := R.all4
 obtain ⟨p0, p1, p2, p3, y0, y1, y2, y3, ltQ⟩ := Q.all4
 obtain ⟨x0, x1, x2, x3, -, -, -, -, ltX⟩ := X.all4
 obtain ⟨v0, v1, v2, v3, -, -, -, -, ltY⟩ := Y.all4
 go_wp2_with fail
 go_region
 obtain ⟨w15, e15, T1, hs5⟩ := set4 R (.int .i64 t) (.int .i64 a) (.slice s1 ac.length c1) (.slice s2 nx.length c2)
 rw [e15]
 have Q5 := Q.keep (hs5.block _ Q.lt (by simp))
 obtain ⟨wz, e16, T2, hs6⟩ := set4 Q5 (.int .i64 t) (.int .i64 a) (.slice s3 bc.length c3) (.slice s4 ny.length c4)
 rw [e16]
 have T3 := (T1.keep (hs6.block _ T1.lt (by simp))).drew
 have T4 := T2.drew
 clear e15 e16 T1 T2
 obtain ⟨t0', t1', t2, t3, -, -, -, -, -⟩ := T3.all4
 obtain ⟨ss0, ss1, ss2, ss3, -, -, -, -, -⟩ := T4.all4
 have hzB5 := hB.size
 have hz15 := hs5.size
 have hB4 := (hB.trans (hs5.below (B := w.heap.size) (by omega) (fun y hy => by omega))).trans (hs6.below (B := w.heap.size) (by omega) (fun y hy => by omega))
 have hB5 : Below w.heap.size w wz.drew := hB4.drew
 have hkk : ∀ b, w8.heap.size ≤ b → b < w12.heap.size → wz.drew.heap[b]? = w12.heap[b]? := fun b h1 h2 => (hs6.block b (by omega) (by omega)).trans (hs5.block b h2 (by omega))
 go_wp2_with fail
 refine bodyPost_ret (v := .tuple #[.agg #[.int .i64 t, .int .i64 a, .slice s1 ac.length c1, .slice s2 nx.length c2], .agg #[.int .i64 t, .int .i64 a, .slice s3 bc.length c3, .slice s4 ny.length c4]]) (by simp [results, Try.results13, go_sem, t0', t1', t2, t3, ss0, ss1, ss2, ss3]) rfl ?_
 exact ⟨t, a, ac, bc, nx, ny, s1, s2, s3, s4, c1, c2, c3, c4, rfl, ⟨Hok1.out, Hok2.out, hl1, hl2⟩, (HF1.out.keep fun b h1 h2 => hkk b (by omega) h2).rds, (HF2.out.keep fun b h1 h2 => hkk b (by omega) h2).rds, hB5⟩
end Go.Proofs.Ytfhlddbngjlhbaa

namespace Go.Proofs.Ytfhlddbngjlhbaa
set_option linter.unusedVariables false
set_option linter.unusedSimpArgs false
open Go.ChangeShapes Go.WideShapes Go.ChangeAt Go.RowKit Go.Sort
noncomputable def accR (t a : Int) (ac : List (List Bool)) (nx : List (List (List Int))) (x : Int) : Int := if autB t a ac nx && inB x 0 10 then (cntN ac nx x.toNat).getD 0 0 else 0
noncomputable def accK (t a : Int) (ac : List (List Bool)) (nx : List (List (List Int))) (x : Int) : Int := if autB t a ac nx then (if inB x 0 10 then 0 else 2) else 1
theorem inB_nat {x : Int} {m : Nat} (h : inB x 0 m = true) : ∃ n : Nat, x = (n : Int) ∧ n ≤ m := by
 simp only [inB, Bool.and_eq_true, decide_eq_true_eq] at h
 exact ⟨x.toNat, by omega, by omega⟩
theorem cntN_first {t a : Int} {ac : List (List Bool)} {nx : List (List (List Int))} (h : AutOk t a ac nx) (n : Nat) : ∃ v, (cntN ac nx n)[0]? = some v ∧ (cntN ac nx n).getD 0 0 = v := by
 obtain ⟨v, hv⟩ : ∃ v, (cntN ac nx n)[0]? = some v := ⟨_, List.getElem?_eq_getElem (by rw [cntN_length h]; exact h.lo)⟩
 exact ⟨v, hv, by rw [List.getD_eq_getElem?_getD, hv]; rfl⟩
set_option maxHeartbeats 4000000 in
theorem specAcceptedCount_i {t a x : Int} {ac : List (List Bool)} {nx : List (List (List Int))} {s u : Option Addr} {c d : Nat} {w : World} (hr : Rd w (bbD ac) (.slice s ac.length c)) (hq : Rd w (iiiD nx) (.slice u nx.length d)) :
  Calls Try.prog 18 #[.agg #[.int .i64 t, .int .i64 a, .slice s ac.length c, .slice u nx.length d], .int .i64 x] w
   fun e w' => e = .returned (.tuple #[.int .i64 (accR t a ac nx x), .int .i64 (accK t a ac nx x)]) ∧ Below w.heap.size w w' := by
 go_enter Try.func18, Try.ntmps18
 go_wp2_with fail
 have L := Blk.new4 w 31 (.int .i64 t) (.int .i64 a) (.slice s ac.length c) (.slice u nx.length d)
 have hB : Below w.heap.size w (w.alloc (.cells #[.int .i64 t, .int .i64 a, .slice s ac.length c, .slice u nx.length d] 31)) := by (repeat' first | exact Below.refl _ _ | assumption | apply Below.alloc | apply Below.drew | apply Below.setCell | omega | (simp; done) | (simp; omega))
 have hB0 := hB
 generalize (w.alloc (.cells #[.int .i64 t, .int .i64 a, .slice s ac.length c, .slice u nx.length d] 31)) = v0 at L hB hB0 ⊢
 have l0 := L.c0
 have l1 := L.c1
 have l2 := L.c2
 have l3 := L.c3
 have ltL := L.lt
 go_wp2_with fail
 refine (l02Ok_i (L.autAt' (hr.below hB) (hq.below hB))).mono ?_
 rintro x w1 ⟨rfl, hb⟩
 clear l0 l1 l2 l3 ltL
 replace hB := Below.on hB hb hB.size
 replace L := L.below hb
 clear hb
 have szW1 := hB.size
 cases hs1 : autB t a ac nx
 ·
  have l0 := L.c0
  have l1 := L.c1
  have l2 := L.c2
  have l3 := L.c3
  have ltL := L.lt
  go_wp2_with fail
  go_ret2
  exact ⟨ret_ii (by simp [accR, hs1]) (by simp [accK, hs1]), hB⟩
 have Hs1 := Lib.hid hs1
 clear hs1
 have l0 := L.c0
 have l1 := L.c1
 have l2 := L.c2
 have l3 := L.c3
 have ltL := L.lt
 go_wp2_with fail
 refine (in_any x 0 10 _).mono ?_
 rintro x w2 ⟨rfl, rfl⟩
 clear l0 l1 l2 l3 ltL
 cases hs2 : inB x 0 10
 ·
  have l0 := L.c0
  have l1 := L.c1
  have l2 := L.c2
  have l3 := L.c3
  have ltL := L.lt
  go_wp2_with fail
  go_ret2
  exact ⟨ret_ii (by simp [accR, hs2]) (by simp [accK, Hs1.out, hs2]), hB⟩
 have Hs2 := Lib.hid hs2
 clear hs2
 have l0 := L.c0
 have l1 := L.c1
 have l2 := L.c2
 have l3 := L.c3
 have ltL := L.lt
 go_wp2_with fail
 have HR : Hid (accR t a ac nx x = (cntN ac nx x.toNat).getD 0 0) := by show _ = _; simp [accR, Hs1.out, Hs2.out]
 have HK : Hid (accK t a ac nx x = 0) := by show _ = _; simp [accK, Hs1.out, Hs2.out]
 obtain ⟨m, rfl, hm⟩ := inB_nat (m := 10) Hs2.out
 have hok := autB_true.1 Hs1.out
 refine (l02Counts_i (L.autAt' (hr.below hB) (hq.below hB)) hok hm).mono ?_
 rintro e w2 ⟨s', c', rfl, hf, hb⟩
 replace hB := Below.on hB hb hB.size
 have hrd := hf.rd
 obtain ⟨b1, b2⟩ := nest_bd hrd
 unfold maxLen at b2
 rw [cntsL_length] at b1
 obtain ⟨pb, po, rfl⟩ := nest_some hrd (by rw [cntsL_length]; omega)
 obtain ⟨-, sp, cp, p0, rp⟩ := nest_sl (g := D.int) hrd (cntsL_at (ac := ac) (nx := nx) (show m < m + 1 by omega))
 obtain ⟨v, hv, hv2⟩ := cntN_first hok m
 have hpl := cntN_length hok m
 have hlo := hok.lo
 obtain ⟨qb, qo, rfl⟩ := nest_some (f := D.int) rp (by omega)
 obtain ⟨-, q0⟩ := int_in rp hv
 simp only [Nat.add_zero] at q0
 obtain ⟨b3, b4⟩ := nest_bd rp
 unfold maxLen at b4
 have b5 : (1 : Nat) ≤ (cntN ac nx m).length := by omega
 have HV : Hid (accR t a ac nx m = v) := by show _ = _; rw [HR.out, Int.toNat_natCast, hv2]
 have hmz := Int.natCast_nonneg m
 clear hb hf hrd rp hv hv2 hok hr hq hpl HR l0 l1 l2 l3
 go_wp2_with fail
 go_ret2
 exact ⟨ret_ii HV.out.symm HK.out.symm, hB⟩
set_option maxHeartbeats 4000000 in
theorem implAcceptedCount_i {t a x : Int} {ac : List (List Bool)} {nx : List (List (List Int))} {s u : Option Addr} {c d : Nat} {w : World} (hr : Rd w (bbD ac) (.slice s ac.length c)) (hq : Rd w (iiiD nx) (.slice u nx.length d)) :
  Calls Try.prog 17 #[.agg #[.int .i64 t, .int .i64 a, .slice s ac.length c, .slice u nx.length d], .int .i64 x] w
   fun e w' => e = .returned (.tuple #[.int .i64 (accR t a ac nx x), .int .i64 (accK t a ac nx x)]) ∧ Below w.heap.size w w' := by
 go_enter Try.func17, Try.ntmps17
 go_wp2_with fail
 have L := Blk.new4 w 31 (.int .i64 t) (.int .i64 a) (.slice s ac.length c) (.slice u nx.length d)
 have hB : Below w.heap.size w (w.alloc (.cells #[.int .i64 t, .int .i64 a, .slice s ac.length c, .slice u nx.length d] 31)) := by (repeat' first | exact Below.refl _ _ | assumption | apply Below.alloc | apply Below.drew | apply Below.setCell | omega | (simp; done) | (simp; omega))
 have hB0 := hB
 generalize (w.alloc (.cells #[.int .i64 t, .int .i64 a, .slice s ac.length c, .slice u nx.length d] 31)) = v0 at L hB hB0 ⊢
 have l0 := L.c0
 have l1 := L.c1
 have l2 := L.c2
 have l3 := L.c3
 have ltL := L.lt
 go_wp2_with fail
 refine (implValidAutomaton_i (hr.below hB) (hq.below hB)).mono ?_
 rintro x w1 ⟨rfl, hb⟩
 clear l0 l1 l2 l3 ltL
 replace hB := Below.on hB hb hB.size
 replace L := L.below hb
 clear hb
 have szW1 := hB.size
 cases hs1 : autB t a ac nx
 ·
  have l0 := L.c0
  have l1 := L.c1
  have l2 := L.c2
  have l3 := L.c3
  have ltL := L.lt
  go_wp2_with fail
  go_ret2
  exact ⟨ret_ii (by simp [accR, hs1]) (by simp [accK, hs1]), hB⟩
 have Hs1 := Lib.hid hs1
 clear hs1
 have l0 := L.c0
 have l1 := L.c1
 have l2 := L.c2
 have l3 := L.c3
 have ltL := L.lt
 go_wp2_with fail
 refine (within_any x 0 10 _).mono ?_
 rintro x w2 ⟨rfl, rfl⟩
 clear l0 l1 l2 l3 ltL
 cases hs2 : inB x 0 10
 ·
  have l0 := L.c0
  have l1 := L.c1
  have l2 := L.c2
  have l3 := L.c3
  have ltL := L.lt
  go_wp2_with fail
  go_ret2
  exact ⟨ret_ii (by simp [accR, hs2]) (by simp [accK, Hs1.out, hs2]), hB⟩
 have Hs2 := Lib.hid hs2
 clear hs2
 have l0 := L.c0
 have l1 := L.c1
 have l2 := L.c2
 have l3 := L.c3
 have ltL := L.lt
 go_wp2_with fail
 have HR : Hid (accR t a ac nx x = (cntN ac nx x.toNat).getD 0 0) := by show _ = _; simp [accR, Hs1.out, Hs2.out]
 have HK : Hid (accK t a ac nx x = 0) := by show _ = _; simp [accK, Hs1.out, Hs2.out]
 obtain ⟨m, rfl, hm⟩ := inB_nat (m := 10) Hs2.out
 have hok := autB_true.1 Hs1.out
 refine (countFrom_i (hr.below hB) (hq.below hB) hok hm).mono ?_
 rintro e w2 ⟨g, rfl, hf, hb⟩
 replace hB := Below.on hB hb hB.size
 obtain ⟨v, hv, hv2⟩ := cntN_first hok m
 obtain ⟨-, q0⟩ := int_in hf.rd hv
 simp only [Nat.add_zero] at q0
 have hlo := hok.lo
 have hhi := hok.hi
 have HV : Hid (accR t a ac nx m = v) := by show _ = _; rw [HR.out, Int.toNat_natCast, hv2]
 clear hb hf hv hv2 hok hr hq HR l0 l1 l2 l3
 go_wp2_with fail
 go_ret2
 exact ⟨ret_ii HV.out.symm HK.out.symm, hB⟩
end Go.Proofs.Ytfhlddbngjlhbaa

namespace Go.Proofs.Ytfhlddbngjlhbaa
set_option linter.unusedVariables false
set_option linter.unusedSimpArgs false
open Go.ChangeShapes Go.WideShapes Go.ChangeAt Go.RowKit Go.Deep Go.Sort
theorem okB_one {t a : Int} (h : sigB t a = true) : okB t a (.mk 2 0 []) = true := okB_of h (tree_leaf (k := 2) (Or.inr rfl)) (by rw [Ex.size_eq]; simp [Ex.kids, Ex.sizeL])
theorem kids_none {w : World} : Rd w (kidsD []) (.slice none 0 0) := by
 have h2 : AppS (fun _ => True) w 48 3 0 [] (.slice none 0 0) := ⟨[], [], ⟨by simp, Or.inl ⟨rfl, rfl⟩⟩, Ows.nil, by simp, by simp, by simp [Value.ownBlock]⟩
 exact h2.rd
theorem run_l {t a : Int} {ac : List (List Bool)} {nx : List (List (List Int))} {xs ys : List Int} {s u p q : Option Addr} {c d pc qc : Nat} {w : World} (hA : Rds w (autD ac nx) [.slice s ac.length c, .slice u nx.length d]) (hx : Rd w (intsD xs) (.slice p xs.length pc)) (hy : Rd w (intsD ys) (.slice q ys.length qc)) (hok : AutOk t a ac nx) (hw : wordB t a xs ys = true) {v : Bool} (hv : runsB ac nx xs ys = v) :
  Calls Try.prog 15 #[.agg #[.int .i64 t, .int .i64 a, .slice s ac.length c, .slice u nx.length d], .agg #[.slice p xs.length pc, .slice q ys.length qc]] w fun z w' => z = .returned (.tuple #[.bool v, .int .i64 0]) ∧ Below w.heap.size w w' := by
 refine (implRunAutomaton_i (t := t) (a := a) hA.two.1 hA.two.2 hx hy).mono ?_
 rintro z w' ⟨h1, h2⟩
 have e1 : runR t a ac nx xs ys = v := by unfold runR; rw [autB_yes hok, hw, hv]; rfl
 have e2 : runK t a ac nx xs ys = 0 := by unfold runK; rw [autB_yes hok, hw]; rfl
 rw [e1, e2] at h1
 exact ⟨h1, h2⟩
theorem cnt_l {t a x : Int} {ac : List (List Bool)} {nx : List (List (List Int))} {s u : Option Addr} {c d : Nat} {w : World} (hA : Rds w (autD ac nx) [.slice s ac.length c, .slice u nx.length d]) {v : Int} (hv : accR t a ac nx x = v) (hk : accK t a ac nx x = 0) :
  Calls Try.prog 17 #[.agg #[.int .i64 t, .int .i64 a, .slice s ac.length c, .slice u nx.length d], .int .i64 x] w fun z w' => z = .returned (.tuple #[.int .i64 v, .int .i64 0]) ∧ Below w.heap.size w w' := by
 refine (implAcceptedCount_i (t := t) (a := a) (x := x) hA.two.1 hA.two.2).mono ?_
 rintro z w' ⟨h1, h2⟩
 rw [hv, hk] at h1
 exact ⟨h1, h2⟩
end Go.Proofs.Ytfhlddbngjlhbaa

namespace Go.Proofs.Ytfhlddbngjlhbaa
set_option linter.unusedVariables false
set_option linter.unusedSimpArgs false
def mixB (k : Int) (x y : Bool) : Bool := if k = 1 then x || y else if k = 2 then x && y else x && !y
theorem mixB_no (k : Int) : mixB k false false = false := by
 unfold mixB
 split
 ·
  rfl
 ·
  split <;> rfl
def accM (k : Int) (ac bc : List (List Bool)) (A : Nat) (p : Int × Int) : List Bool := (List.range A).map fun m => mixB k (hasN ac p.1 m) (hasN bc p.2 m)
def rowM (nx ny : List (List (List Int))) (L : List (Int × Int)) (a m : Nat) (p : Int × Int) : List Int := (List.range a).map fun k => numO L (nxtP nx ny m k p)
def rowsM (nx ny : List (List (List Int))) (L : List (Int × Int)) (A a : Nat) (p : Int × Int) : List (List Int) := (List.range A).map fun m => rowM nx ny L a m p
def mxOk (nx ny : List (List (List Int))) (A a : Nat) : Prop := (prF nx ny A a).length ≤ 60
open Classical in
noncomputable def mxA (k : Int) (ac bc : List (List Bool)) (nx ny : List (List (List Int))) (A a : Nat) : List (List Bool) := if mxOk nx ny A a then (prF nx ny A a).map (accM k ac bc A) else []
open Classical in
noncomputable def mxX (nx ny : List (List (List Int))) (A a : Nat) : List (List (List Int)) := if mxOk nx ny A a then (prF nx ny A a).map (rowsM nx ny (prF nx ny A a) A a) else []
open Classical in
noncomputable def mxC (nx ny : List (List (List Int))) (A a : Nat) : Int := if mxOk nx ny A a then 0 else 3
theorem accM_len (k : Int) (ac bc : List (List Bool)) (A : Nat) (p : Int × Int) : (accM k ac bc A p).length = A := by simp [accM]
theorem accM_take {k : Int} {ac bc : List (List Bool)} {A m : Nat} {p : Int × Int} (hm : m < A) : (accM k ac bc A p).take (m + 1) = (accM k ac bc A p).take m ++ [mixB k (hasN ac p.1 m) (hasN bc p.2 m)] := by
 have hl : m < (accM k ac bc A p).length := by rw [accM_len]; exact hm
 rw [List.take_succ_eq_append_getElem hl]
 simp [accM]
theorem rowM_len (nx ny : List (List (List Int))) (L : List (Int × Int)) (a m : Nat) (p : Int × Int) : (rowM nx ny L a m p).length = a := by simp [rowM]
theorem rowM_take {nx ny : List (List (List Int))} {L : List (Int × Int)} {a m k : Nat} {p : Int × Int} (hk : k < a) : (rowM nx ny L a m p).take (k + 1) = (rowM nx ny L a m p).take k ++ [numO L (nxtP nx ny m k p)] := by
 have hl : k < (rowM nx ny L a m p).length := by rw [rowM_len]; exact hk
 rw [List.take_succ_eq_append_getElem hl]
 simp [rowM]
theorem rowsM_len (nx ny : List (List (List Int))) (L : List (Int × Int)) (A a : Nat) (p : Int × Int) : (rowsM nx ny L A a p).length = A := by simp [rowsM]
theorem rowsM_take {nx ny : List (List (List Int))} {L : List (Int × Int)} {A a m : Nat} {p : Int × Int} (hm : m < A) : (rowsM nx ny L A a p).take (m + 1) = (rowsM nx ny L A a p).take m ++ [rowM nx ny L a m p] := by
 have hl : m < (rowsM nx ny L A a p).length := by rw [rowsM_len]; exact hm
 rw [List.take_succ_eq_append_getElem hl]
 simp [rowsM]
theorem map_take_succ {α β : Type} {f : α → β} {L : List α} {i : Nat} {x : α} (h : L[i]? = some x) : (L.map f).take (i + 1) = (L.map f).take i ++ [f x] := by
 obtain ⟨hi, rfl⟩ := List.getElem?_eq_some_iff.1 h
 have hl : i < (L.map f).length := by simpa using hi
 rw [List.take_succ_eq_append_getElem hl]
 simp
section
variable {t a : Int} {ac bc : List (List Bool)} {nx ny : List (List (List Int))}
theorem prF_first (nx ny : List (List (List Int))) (A b : Nat) : (prF nx ny A b)[0]? = some ((0 : Int), (0 : Int)) := by unfold prF prL; exact expl_first _ _ _
theorem mix_has {k : Int} {A b : Nat} (hok : mxOk nx ny A b) {i m : Nat} {p : Int × Int} (h : (prF nx ny A b)[i]? = some p) (hm : m < A) : hasN (mxA k ac bc nx ny A b) i m = mixB k (hasN ac p.1 m) (hasN bc p.2 m) := by
 have h1 : (mxA k ac bc nx ny A b)[i]? = some (accM k ac bc A p) := by unfold mxA; rw [if_pos hok, List.getElem?_map, h]; rfl
 have h2 : (accM k ac bc A p)[m]? = some (mixB k (hasN ac p.1 m) (hasN bc p.2 m)) := by unfold accM; rw [List.getElem?_map, List.getElem?_range hm]; rfl
 unfold hasN at h2 ⊢
 rw [decide_eq_true (by omega), Bool.true_and, Int.toNat_natCast, List.getD_eq_getElem?_getD, List.getD_eq_getElem?_getD, h1]
 simp only [Option.getD_some]
 rw [h2]
 rfl
theorem mix_go {A b : Nat} (hok : mxOk nx ny A b) {i m k : Nat} {p : Int × Int} (h : (prF nx ny A b)[i]? = some p) (hm : m < A) (hk : k < b) : goN (mxX nx ny A b) i m k = numO (prF nx ny A b) (nxtP nx ny m k p) := by
 unfold goN stepN
 rw [if_neg (by omega), Int.toNat_natCast]
 have h1 : (mxX nx ny A b)[i]? = some (rowsM nx ny (prF nx ny A b) A b p) := by unfold mxX; rw [if_pos hok, List.getElem?_map, h]; rfl
 have h2 : (rowsM nx ny (prF nx ny A b) A b p)[m]? = some (rowM nx ny (prF nx ny A b) b m p) := by unfold rowsM; rw [List.getElem?_map, List.getElem?_range hm]; rfl
 have h3 : (rowM nx ny (prF nx ny A b) b m p)[k]? = some (numO (prF nx ny A b) (nxtP nx ny m k p)) := by unfold rowM; rw [List.getElem?_map, List.getElem?_range hk]; rfl
 rw [List.getD_eq_getElem?_getD, List.getD_eq_getElem?_getD, List.getD_eq_getElem?_getD, h1]
 simp only [Option.getD_some]
 rw [h2]
 simp only [Option.getD_some]
 rw [h3]
 rfl
theorem mix_len {k : Int} {A b : Nat} (hok : mxOk nx ny A b) : (mxA k ac bc nx ny A b).length = (prF nx ny A b).length ∧ (mxX nx ny A b).length = (prF nx ny A b).length := by
 unfold mxA mxX
 rw [if_pos hok, if_pos hok]
 simp
theorem mix_ok (h : AutOk t a ac nx) (h' : AutOk t a bc ny) {k : Int} (hok : mxOk nx ny (atomsN t).toNat a.toNat) : AutOk t a (mxA k ac bc nx ny (atomsN t).toNat a.toNat) (mxX nx ny (atomsN t).toNat a.toNat) := by
 obtain ⟨e1, e2⟩ := mix_len (k := k) (ac := ac) (bc := bc) hok
 obtain ⟨d1, d2, d3, d4⟩ := h.dims
 have hp : 1 ≤ (prF nx ny (atomsN t).toNat a.toNat).length := expl_pos _ _ _
 refine ⟨h.sig, by rw [e1]; exact hp, by rw [e1]; exact hok, by rw [e1, e2], ?_⟩
 intro i ar nr h1 h2
 rw [e1]
 unfold mxA at h1
 unfold mxX at h2
 rw [if_pos hok, List.getElem?_map] at h1 h2
 obtain ⟨p, hpi, rfl⟩ := Option.map_eq_some_iff.1 h1
 rw [hpi] at h2
 obtain rfl := Option.some.inj h2
 refine ⟨by rw [accM_len]; omega, by rw [rowsM_len]; omega, ?_⟩
 intro m row hr
 have hm : m < (atomsN t).toNat := by have := (List.getElem?_eq_some_iff.1 hr).1; rwa [rowsM_len] at this
 unfold rowsM at hr
 rw [List.getElem?_map, List.getElem?_range hm] at hr
 obtain rfl := Option.some.inj hr
 refine ⟨by rw [rowM_len]; omega, ?_⟩
 intro q z hz
 have hq : q < a.toNat := by have := (List.getElem?_eq_some_iff.1 hz).1; rwa [rowM_len] at this
 unfold rowM at hz
 rw [List.getElem?_map, List.getElem?_range hq] at hz
 have hz' : numO (prF nx ny (atomsN t).toNat a.toNat) (nxtP nx ny m q p) = z := Option.some.inj hz
 subst hz'
 have := numO_bd (L := prF nx ny (atomsN t).toNat a.toNat) (o := nxtP nx ny m q p) fun x hx => prF_closed h h' hm hq (List.mem_of_getElem? hpi) hx
 exact ⟨this.1, by omega⟩
theorem at_num {α : Type} [DecidableEq α] {L : List α} {z : α} (h : z ∈ L) : ∃ i : Nat, numO L (some z) = (i : Int) ∧ L[i]? = some z :=
 ⟨L.idxOf z, rfl, by rw [List.getElem?_eq_getElem (List.idxOf_lt_length_of_mem h), List.getElem_idxOf]⟩
theorem nxtP_none_inv {m k : Nat} {p : Int × Int} (hz : nxtP nx ny m k p = none) : goN nx p.1 m k < 0 ∧ goN ny p.2 m k < 0 := by
 unfold nxtP at hz
 split at hz
 ·
  assumption
 ·
  cases hz
theorem nxtP_some_inv {m k : Nat} {p z : Int × Int} (hz : nxtP nx ny m k p = some z) : z = (goN nx p.1 m k, goN ny p.2 m k) := by
 unfold nxtP at hz
 split at hz
 ·
  cases hz
 ·
  exact (Option.some.inj hz).symm
theorem mix_acc_aux {k : Int} {A b : Nat} {L : List (Int × Int)} {mA : List (List Bool)} {mX : List (List (List Int))} (hcl : ∀ p ∈ L, ∀ m k, m < A → k < b → ∀ z, nxtP nx ny m k p = some z → z ∈ L)
  (hhas : ∀ (i : Nat) (p : Int × Int) (m : Nat), L[i]? = some p → m < A → hasN mA i m = mixB k (hasN ac p.1 m) (hasN bc p.2 m)) (hgo : ∀ (i : Nat) (p : Int × Int) (m k : Nat), L[i]? = some p → m < A → k < b → goN mX i m k = numO L (nxtP nx ny m k p)) (ws : List (Nat × Nat)) :
  ∀ (i : Nat) (p : Int × Int) (m : Nat), L[i]? = some p → okW A b ws m → accN mA mX i ws m = mixB k (accN ac nx p.1 ws m) (accN bc ny p.2 ws m) := by
 induction ws with
 | nil => intro i p m hp hw; exact hhas i p m hp hw.2
 | cons q ws ih =>
  intro i p m hp hw
  obtain ⟨hq1, hq2, hw'⟩ := hw.tail
  show accN _ _ (goN _ i q.1 q.2) ws m = mixB k (accN ac nx (goN nx p.1 q.1 q.2) ws m) (accN bc ny (goN ny p.2 q.1 q.2) ws m)
  rw [hgo i p q.1 q.2 hp hq1 hq2]
  cases hz : nxtP nx ny q.1 q.2 p with
  | none =>
   have hn := nxtP_none_inv hz
   simp only [numO]
   rw [accN_neg _ _ _ _ _ (by omega), accN_neg _ _ _ _ _ hn.1, accN_neg _ _ _ _ _ hn.2, mixB_no]
  | some z =>
   have hin := hcl p (List.mem_of_getElem? hp) q.1 q.2 hq1 hq2 z hz
   have he := nxtP_some_inv hz
   obtain ⟨i', e1, e2⟩ := at_num hin
   rw [e1, ih i' z m e2 hw', he]
theorem mix_acc (h : AutOk t a ac nx) (h' : AutOk t a bc ny) {k : Int} (hok : mxOk nx ny (atomsN t).toNat a.toNat) {ws : List (Nat × Nat)} {m : Nat} (hw : okW (atomsN t).toNat a.toNat ws m) :
  accN (mxA k ac bc nx ny (atomsN t).toNat a.toNat) (mxX nx ny (atomsN t).toNat a.toNat) 0 ws m = mixB k (accN ac nx 0 ws m) (accN bc ny 0 ws m) :=
 mix_acc_aux (L := prF nx ny (atomsN t).toNat a.toNat) (fun p hp m k hm hk z hz => prF_closed h h' hm hk hp hz) (fun i p m hp hm => mix_has hok hp hm) (fun i p m k hp hm hk => mix_go hok hp hm hk) ws 0 (0, 0) m (prF_first _ _ _ _) hw
theorem sumI_range {α : Type} (g : α → Int) (d : α) (l : List α) : sumI g l = sumI (fun i => g (l.getD i d)) (List.range l.length) := by
 have key : ∀ n, n ≤ l.length → sumI g (l.take n) = sumI (fun i => g (l.getD i d)) (List.range n) := by
  intro n
  induction n with
  | zero => intro _; simp [sumI]
  | succ n ih =>
   intro hn
   have hx : l[n]? = some l[n] := List.getElem?_eq_getElem (by omega)
   rw [sumI_take_succ hx, List.range_succ, sumI_append, ih (by omega)]
   simp only [sumI, List.getD_eq_getElem?_getD, hx, Option.getD_some, Int.add_zero]
 have := key l.length (Nat.le_refl _)
 rwa [List.take_length] at this
theorem sumI_congr {α : Type} {f g : α → Int} : ∀ {l : List α}, (∀ x ∈ l, f x = g x) → sumI f l = sumI g l
 | [], _ => rfl
 | x :: r, h => by simp only [sumI]; rw [h x (List.mem_cons_self ..), sumI_congr fun y hy => h y (List.mem_cons_of_mem _ hy)]
theorem sumI_add {α : Type} (f g : α → Int) : ∀ l : List α, sumI (fun x => f x + g x) l = sumI f l + sumI g l
 | [] => rfl
 | x :: r => by simp only [sumI, sumI_add f g r]; omega
def cntS (ac : List (List Bool)) (nx : List (List (List Int))) (n : Nat) (s : Int) : Int := if s < 0 then 0 else (cntN ac nx n).getD s.toNat 0
theorem cntS_zero (h : AutOk t a ac nx) {s : Int} (hs : s < ac.length) : cntS ac nx 0 s = sumI (fun m => if hasN ac s m then 1 else 0) (List.range (atomsN t).toNat) := by
 unfold cntS
 split
 ·
  rename_i hn
  have : ∀ l : List Nat, sumI (fun m => if hasN ac s m then (1 : Int) else 0) l = 0 := by
   intro l
   induction l with
   | nil => rfl
   | cons x r ih =>
    simp only [sumI, ih]
    unfold hasN
    rw [decide_eq_false (by omega), Bool.false_and]
    rfl
  rw [this]
 ·
  rename_i hn
  obtain ⟨ar, har⟩ : ∃ e, ac[s.toNat]? = some e := ⟨_, List.getElem?_eq_getElem (by omega)⟩
  obtain ⟨nr, hnr⟩ : ∃ e, nx[s.toNat]? = some e := ⟨_, List.getElem?_eq_getElem (by rw [h.len]; omega)⟩
  have hl := (h.st _ _ _ har hnr).1
  show ((ac.map cnt0).getD s.toNat 0) = _
  rw [List.getD_eq_getElem?_getD, List.getElem?_map, har]
  show cnt0 ar = _
  unfold cnt0
  rw [sumI_range _ false, show ar.length = (atomsN t).toNat by omega]
  refine sumI_congr fun m _ => ?_
  unfold hasN
  rw [decide_eq_true (by omega), Bool.true_and, List.getD_eq_getElem?_getD (l := ac), har]
  rfl
theorem cntS_succ (h : AutOk t a ac nx) {n : Nat} {s : Int} (hs : s < ac.length) : cntS ac nx (n + 1) s = sumI (fun m => sumI (fun k => cntS ac nx n (goN nx s m k)) (List.range a.toNat)) (List.range (atomsN t).toNat) := by
 by_cases hn : s < 0
 ·
  have e : ∀ m k, cntS ac nx n (goN nx s m k) = 0 := fun m k => by unfold cntS goN; rw [if_pos hn]; rfl
  have z : ∀ l : List Nat, sumI (fun _ => (0 : Int)) l = 0 := by
   intro l
   induction l with
   | nil => rfl
   | cons x r ih => simp only [sumI, ih]; rfl
  simp only [e, z]
  unfold cntS
  rw [if_pos hn]
 ·
  obtain ⟨ar, har⟩ : ∃ e, ac[s.toNat]? = some e := ⟨_, List.getElem?_eq_getElem (by omega)⟩
  obtain ⟨nr, hnr⟩ : ∃ e, nx[s.toNat]? = some e := ⟨_, List.getElem?_eq_getElem (by rw [h.len]; omega)⟩
  obtain ⟨-, hl, hrow⟩ := h.st _ _ _ har hnr
  unfold cntS
  rw [if_neg hn]
  show ((nx.map (cntRows (cntN ac nx n))).getD s.toNat 0) = _
  rw [List.getD_eq_getElem?_getD, List.getElem?_map, hnr]
  show cntRows (cntN ac nx n) nr = _
  unfold cntRows
  rw [sumI_range _ [], show nr.length = (atomsN t).toNat by omega]
  refine sumI_congr fun m hm => ?_
  have hm := List.mem_range.1 hm
  obtain ⟨row, hr⟩ : ∃ e, nr[m]? = some e := ⟨_, List.getElem?_eq_getElem (by omega)⟩
  obtain ⟨hl2, -⟩ := hrow m row hr
  rw [List.getD_eq_getElem?_getD, hr, Option.getD_some]
  unfold cntRow
  rw [sumI_range _ (-1), show row.length = a.toNat by omega]
  refine sumI_congr fun k hk => ?_
  have e0 : nx.getD s.toNat [] = nr := by rw [List.getD_eq_getElem?_getD, hnr]; rfl
  have e2 : nr.getD m [] = row := by rw [List.getD_eq_getElem?_getD, hr]; rfl
  have e1 : goN nx s m k = row.getD k (-1) := by
   unfold goN stepN
   rw [if_neg hn, e0, e2]
  rw [e1]
  unfold stepV
  by_cases h0 : 0 ≤ row.getD k (-1)
  ·
   rw [if_pos h0, if_neg (by omega)]
  ·
   rw [if_neg h0, if_pos (by omega)]
theorem mix_cnt_aux (h : AutOk t a ac nx) (h' : AutOk t a bc ny) {L : List (Int × Int)} {mA : Int → List (List Bool)} {mX : List (List (List Int))} (hm' : ∀ k, AutOk t a (mA k) mX) (hl : ∀ k, (mA k).length = L.length) (hpk : ∀ p ∈ L, PairOk ac.length bc.length p)
  (hcl : ∀ p ∈ L, ∀ m k, m < (atomsN t).toNat → k < a.toNat → ∀ z, nxtP nx ny m k p = some z → z ∈ L)
  (hhas : ∀ (k : Int) (i : Nat) (p : Int × Int) (m : Nat), L[i]? = some p → m < (atomsN t).toNat → hasN (mA k) i m = mixB k (hasN ac p.1 m) (hasN bc p.2 m)) (hgo : ∀ (i : Nat) (p : Int × Int) (m k : Nat), L[i]? = some p → m < (atomsN t).toNat → k < a.toNat → goN mX i m k = numO L (nxtP nx ny m k p)) (n : Nat) :
  ∀ (i : Nat) (p : Int × Int), L[i]? = some p → cntS ac nx n p.1 + cntS bc ny n p.2 = cntS (mA 1) mX n i + cntS (mA 2) mX n i ∧ cntS ac nx n p.1 = cntS (mA 2) mX n i + cntS (mA 3) mX n i := by
 induction n with
 | zero =>
  intro i p hp
  obtain ⟨-, p1, -, p2⟩ := hpk p (List.mem_of_getElem? hp)
  have hi := (List.getElem?_eq_some_iff.1 hp).1
  have hb : ∀ k, (i : Int) < ((mA k).length : Int) := fun k => by rw [hl k]; omega
  rw [cntS_zero h p1, cntS_zero h' p2, cntS_zero (hm' 1) (hb 1), cntS_zero (hm' 2) (hb 2), cntS_zero (hm' 3) (hb 3), ← sumI_add, ← sumI_add, ← sumI_add]
  constructor
  ·
   refine sumI_congr fun m hm => ?_
   have hm := List.mem_range.1 hm
   rw [hhas 1 i p m hp hm, hhas 2 i p m hp hm]
   generalize hasN ac p.1 m = u
   generalize hasN bc p.2 m = v
   cases u <;> cases v <;> decide
  ·
   refine sumI_congr fun m hm => ?_
   have hm := List.mem_range.1 hm
   rw [hhas 2 i p m hp hm, hhas 3 i p m hp hm]
   generalize hasN ac p.1 m = u
   generalize hasN bc p.2 m = v
   cases u <;> cases v <;> decide
 | succ n ih =>
  intro i p hp
  obtain ⟨-, p1, -, p2⟩ := hpk p (List.mem_of_getElem? hp)
  have hi := (List.getElem?_eq_some_iff.1 hp).1
  have hb : ∀ k, (i : Int) < ((mA k).length : Int) := fun k => by rw [hl k]; omega
  rw [cntS_succ h p1, cntS_succ h' p2, cntS_succ (hm' 1) (hb 1), cntS_succ (hm' 2) (hb 2), cntS_succ (hm' 3) (hb 3), ← sumI_add, ← sumI_add, ← sumI_add]
  have cell : ∀ m, m < (atomsN t).toNat → ∀ k, k < a.toNat →
    cntS ac nx n (goN nx p.1 m k) + cntS bc ny n (goN ny p.2 m k) = cntS (mA 1) mX n (goN mX i m k) + cntS (mA 2) mX n (goN mX i m k) ∧ cntS ac nx n (goN nx p.1 m k) = cntS (mA 2) mX n (goN mX i m k) + cntS (mA 3) mX n (goN mX i m k) := by
   intro m hm k hk
   rw [hgo i p m k hp hm hk]
   cases hz : nxtP nx ny m k p with
   | none =>
    have hn := nxtP_none_inv hz
    simp only [numO]
    unfold cntS
    rw [if_pos hn.1, if_pos hn.2, if_pos (by omega), if_pos (by omega), if_pos (by omega)]
    exact ⟨rfl, rfl⟩
   | some z =>
    have hin := hcl p (List.mem_of_getElem? hp) m k hm hk z hz
    have he := nxtP_some_inv hz
    obtain ⟨i', e1, e2⟩ := at_num hin
    have := ih i' z e2
    rw [e1]
    rw [he] at this
    exact this
  constructor
  ·
   refine sumI_congr fun m hm => ?_
   have hm := List.mem_range.1 hm
   rw [← sumI_add, ← sumI_add]
   exact sumI_congr fun k hk => (cell m hm k (List.mem_range.1 hk)).1
  ·
   refine sumI_congr fun m hm => ?_
   have hm := List.mem_range.1 hm
   rw [← sumI_add]
   exact sumI_congr fun k hk => (cell m hm k (List.mem_range.1 hk)).2
theorem mix_cnt (h : AutOk t a ac nx) (h' : AutOk t a bc ny) (hok : mxOk nx ny (atomsN t).toNat a.toNat) (n : Nat) :
  cntS ac nx n 0 + cntS bc ny n 0 = cntS (mxA 1 ac bc nx ny (atomsN t).toNat a.toNat) (mxX nx ny (atomsN t).toNat a.toNat) n 0 + cntS (mxA 2 ac bc nx ny (atomsN t).toNat a.toNat) (mxX nx ny (atomsN t).toNat a.toNat) n 0 ∧
  cntS ac nx n 0 = cntS (mxA 2 ac bc nx ny (atomsN t).toNat a.toNat) (mxX nx ny (atomsN t).toNat a.toNat) n 0 + cntS (mxA 3 ac bc nx ny (atomsN t).toNat a.toNat) (mxX nx ny (atomsN t).toNat a.toNat) n 0 :=
 mix_cnt_aux (L := prF nx ny (atomsN t).toNat a.toNat) (mA := fun k => mxA k ac bc nx ny (atomsN t).toNat a.toNat) h h' (fun k => mix_ok h h' hok) (fun k => (mix_len hok).1) (fun p hp => prL_ok h h' 3721 p hp) (fun p hp m k hm hk z hz => prF_closed h h' hm hk hp hz)
  (fun k i p m hp hm => mix_has hok hp hm) (fun i p m k hp hm hk => mix_go hok hp hm hk) n 0 (0, 0) (prF_first _ _ _ _)
theorem runN_go {nx : List (List (List Int))} {xs ys : List Int} : ∀ k, (∀ j, j ≤ k → 0 ≤ runN nx xs ys j) → goW nx 0 (segW xs ys 0 k) = runN nx xs ys k
 | 0, _ => by rw [segW_self]; rfl
 | k + 1, h => by
  have hk := h k (by omega)
  rw [segW_succ xs ys (Nat.zero_le k), goW_append, runN_go k fun j hj => h j (by omega)]
  show goN nx (runN nx xs ys k) (atW xs k) (ys.getD k 0).toNat = _
  unfold goN
  rw [if_neg (by omega)]
  rfl
theorem goW_neg (nx : List (List (List Int))) : ∀ (ws : List (Nat × Nat)) (s : Int), s < 0 → goW nx s ws < 0
 | [], s, h => h
 | q :: ws, s, h => goW_neg nx ws _ (by unfold goN; rw [if_pos h]; omega)
theorem first_neg {f : Nat → Int} (h0 : 0 ≤ f 0) : ∀ n, (∀ j, j ≤ n → 0 ≤ f j) ∨ ∃ k, k < n ∧ (∀ j, j ≤ k → 0 ≤ f j) ∧ f (k + 1) < 0
 | 0 => Or.inl fun j hj => by
  obtain rfl : j = 0 := by omega
  exact h0
 | n + 1 => by
  rcases first_neg h0 n with h | ⟨k, k1, k2⟩
  ·
   by_cases hn : 0 ≤ f (n + 1)
   ·
    refine Or.inl fun j hj => ?_
    by_cases he : j = n + 1
    ·
     rw [he]; exact hn
    ·
     exact h j (by omega)
   ·
    exact Or.inr ⟨n, by omega, h, by omega⟩
  ·
   exact Or.inr ⟨k, by omega, k2⟩
theorem runs_acc {ac : List (List Bool)} {nx : List (List (List Int))} {xs ys : List Int} : runsB ac nx xs ys = accN ac nx 0 (segW xs ys 0 ys.length) (atW xs ys.length) := by
 rw [accN_goW]
 by_cases hall : ∀ k, k ≤ ys.length → 0 ≤ runN nx xs ys k
 ·
  rw [runN_go _ hall]
  have h0 := hall _ (Nat.le_refl _)
  unfold runsB hasN
  rw [@decide_eq_true _ (Classical.propDecidable _) hall, decide_eq_true h0]
  rfl
 ·
  obtain ⟨k, k1, k2, k3⟩ := (first_neg (f := runN nx xs ys) (Int.le_refl 0) ys.length).resolve_left hall
  rw [runsB_no (show k + 1 ≤ ys.length by omega) k3]
  have hg : goW nx 0 (segW xs ys 0 (k + 1)) < 0 := by
   rw [segW_succ xs ys (Nat.zero_le k), goW_append, runN_go k k2]
   show goN nx (runN nx xs ys k) (atW xs k) (ys.getD k 0).toNat < 0
   unfold goN
   rw [if_neg (by have := k2 k (Nat.le_refl _); omega)]
   exact k3
  rw [segW_append xs ys (show 0 ≤ k + 1 by omega) (show k + 1 ≤ ys.length by omega), goW_append]
  unfold hasN
  rw [decide_eq_false (by have := goW_neg nx (segW xs ys (k + 1) ys.length) _ hg; omega), Bool.false_and]
end
end Go.Proofs.Ytfhlddbngjlhbaa
