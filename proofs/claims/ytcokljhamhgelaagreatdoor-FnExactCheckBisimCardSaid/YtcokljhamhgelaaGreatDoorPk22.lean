/-
  Parts of a proof, joined: Pair, PairO, BisT. No condition.
-/
import Derived.Test.YtcokljhamhgelaaGreatDoorPk14
import Derived.Test.YtcokljhamhgelaaGreatDoorPk21
namespace Go.Proofs.YtcokljhamhgelaaGreatDoor
set_option linter.unusedVariables false
set_option linter.unusedSimpArgs false
open Go.ChangeShapes Go.WideShapes Go.ChangeAt Go.RowKit Go.Sort
def flatP : List (Ex × Ex) → List Ex
 | [] => []
 | p :: r => p.1 :: p.2 :: flatP r
theorem flatP_length : ∀ ps : List (Ex × Ex), (flatP ps).length = 2 * ps.length
 | [] => rfl
 | p :: r => by simp only [flatP, List.length_cons, flatP_length r]; omega
theorem flatP_append : ∀ a b : List (Ex × Ex), flatP (a ++ b) = flatP a ++ flatP b
 | [], b => by simp [flatP]
 | p :: a, b => by simp only [List.cons_append, flatP, flatP_append a b]
theorem flatP_at : ∀ (ps : List (Ex × Ex)) (i : Nat) (p : Ex × Ex), ps[i]? = some p → (flatP ps)[2 * i]? = some p.1 ∧ (flatP ps)[2 * i + 1]? = some p.2
 | [], i, p, h => by simp at h
 | q :: r, 0, p, h => by
  simp at h
  subst h
  simp [flatP]
 | q :: r, i + 1, p, h => by
  have := flatP_at r i p (by simpa using h)
  rw [show 2 * (i + 1) = 2 * i + 2 by omega]
  simpa [flatP] using this
def prD (ps : List (Ex × Ex)) : D := .sl 6 ps.length (Ex.cellsL (flatP ps))
def cntP : List (Ex × Ex) → Nat
 | [] => 0
 | p :: r => 1 + Ex.sizeL p.1.kids + Ex.sizeL p.2.kids + cntP r
theorem cntP_len : ∀ ps, ps.length ≤ cntP ps
 | [] => by simp
 | p :: r => by have := cntP_len r; simp only [List.length_cons, cntP]; omega
theorem cntP_append : ∀ a b, cntP (a ++ b) = cntP a + cntP b
 | [], b => by simp [cntP]
 | p :: a, b => by simp only [List.cons_append, cntP, cntP_append a b]; omega
theorem cntP_take_succ {ps : List (Ex × Ex)} {i : Nat} {p : Ex × Ex} (h : ps[i]? = some p) : cntP (ps.take (i + 1)) = cntP (ps.take i) + (1 + Ex.sizeL p.1.kids + Ex.sizeL p.2.kids) := by
 obtain ⟨hi, rfl⟩ := List.getElem?_eq_some_iff.1 h
 rw [List.take_succ_eq_append_getElem hi, cntP_append]
 simp [cntP]
theorem cntP_mem {ps : List (Ex × Ex)} {i : Nat} {p : Ex × Ex} (h : ps[i]? = some p) : 1 + Ex.sizeL p.1.kids + Ex.sizeL p.2.kids ≤ cntP ps := by
 have h1 := cntP_take_succ h
 have h2 : cntP ps = cntP (ps.take (i + 1)) + cntP (ps.drop (i + 1)) := by rw [← cntP_append, List.take_append_drop]
 omega
theorem flatP_take_succ {ps : List (Ex × Ex)} {i : Nat} {p : Ex × Ex} (h : ps[i]? = some p) :
  Ex.cellsL (flatP (ps.take (i + 1))) = Ex.cellsL (flatP (ps.take i)) ++ [.int p.1.kind, .int p.1.num, kidsD p.1.kids, .int p.2.kind, .int p.2.num, kidsD p.2.kids] := by
 obtain ⟨hi, rfl⟩ := List.getElem?_eq_some_iff.1 h
 rw [List.take_succ_eq_append_getElem hi, flatP_append, Ex.cellsL_append]
 simp [flatP, Ex.cellsL, Ex.cells_eq]
theorem pr_bd {w : World} {ps : List (Ex × Ex)} {a : Option Addr} {len cap : Nat} (h : Rd w (prD ps) (.slice a len cap)) : len = ps.length ∧ ps.length ≤ cap ∧ cap ≤ maxLen := by
 obtain ⟨h1, h2, h3, _⟩ := h.sl_at
 exact ⟨h1, h2, h3⟩
theorem pr_some {w : World} {ps : List (Ex × Ex)} {a : Option Addr} {len cap : Nat} (h : Rd w (prD ps) (.slice a len cap)) (hk : 0 < ps.length) : ∃ b o, a = some ⟨b, o, none⟩ := by
 obtain ⟨_, _, _, _, _, h4⟩ := h.sl_at
 rcases h4 with h4 | ⟨b, o, e, _⟩
 ·
  omega
 ·
  exact ⟨b, o, e⟩
theorem pr_in {w : World} {ps : List (Ex × Ex)} {b o len cap : Nat} (h : Rd w (prD ps) (.slice (some ⟨b, o, none⟩) len cap)) {i : Nat} {p : Ex × Ex} (hp : ps[i]? = some p) :
  b < w.heap.size ∧ ∃ s c t d, w.cell? ⟨b, o + i * 6, none⟩ = some (.int .i64 p.1.kind) ∧ w.cell? ⟨b, o + i * 6 + 1, none⟩ = some (.int .i64 p.1.num) ∧ w.cell? ⟨b, o + i * 6 + 2, none⟩ = some (.slice s p.1.kids.length c) ∧
   w.cell? ⟨b, o + i * 6 + 3, none⟩ = some (.int .i64 p.2.kind) ∧ w.cell? ⟨b, o + i * 6 + 4, none⟩ = some (.int .i64 p.2.num) ∧ w.cell? ⟨b, o + i * 6 + 5, none⟩ = some (.slice t p.2.kids.length d) ∧
   Rd w (kidsD p.1.kids) (.slice s p.1.kids.length c) ∧ Rd w (kidsD p.2.kids) (.slice t p.2.kids.length d) := by
 obtain ⟨_, _, _, _, _, h4⟩ := h.sl_at
 rcases h4 with h4 | ⟨b', o', e1, h4⟩
 ·
  have := (List.getElem?_eq_some_iff.1 hp).1
  omega
 simp only [Option.some.injEq, Addr.mk.injEq, and_true] at e1
 obtain ⟨rfl, rfl⟩ := e1
 obtain ⟨k1, k2⟩ := flatP_at ps i p hp
 have c1 := Ex.cellsL_at _ _ _ k1
 have c2 := Ex.cellsL_at _ _ _ k2
 rw [Ex.cells_eq] at c1 c2
 obtain ⟨x0, g0, r0⟩ := h4 _ _ (c1 0 (by omega))
 obtain ⟨x1, g1, r1⟩ := h4 _ _ (c1 1 (by omega))
 obtain ⟨x2, g2, r2⟩ := h4 _ _ (c1 2 (by omega))
 obtain ⟨x3, g3, r3⟩ := h4 _ _ (c2 0 (by omega))
 obtain ⟨x4, g4, r4⟩ := h4 _ _ (c2 1 (by omega))
 obtain ⟨x5, g5, r5⟩ := h4 _ _ (c2 2 (by omega))
 simp only [Rd] at r0 r1 r3 r4
 subst r0 r1 r3 r4
 obtain ⟨s, c, rfl, _⟩ := Rd.slice r2
 obtain ⟨t, d, rfl, _⟩ := Rd.slice r5
 rw [show o + (3 * (2 * i) + 0) = o + i * 6 by omega] at g0
 rw [show o + (3 * (2 * i) + 1) = o + i * 6 + 1 by omega] at g1
 rw [show o + (3 * (2 * i) + 2) = o + i * 6 + 2 by omega] at g2
 rw [show o + (3 * (2 * i + 1) + 0) = o + i * 6 + 3 by omega] at g3
 rw [show o + (3 * (2 * i + 1) + 1) = o + i * 6 + 4 by omega] at g4
 rw [show o + (3 * (2 * i + 1) + 2) = o + i * 6 + 5 by omega] at g5
 exact ⟨World.block_lt_of_cell? w _ g0, s, c, t, d, g0, g1, g2, g3, g4, g5, r2, r5⟩
set_option maxHeartbeats 1000000 in
theorem szPair_i {k n k' n' : Int} {ks js : List Ex} {s t : Option Addr} {c d : Nat} {left : Int} {w : World} (hr : Rd w (kidsD ks) (.slice s ks.length c)) (hq : Rd w (kidsD js) (.slice t js.length d)) (h0 : 0 ≤ left) (h1 : left ≤ 1048576) :
  Calls Tryz.prog 23 #[.agg #[.int .i64 k, .int .i64 n, .slice s ks.length c, .int .i64 k', .int .i64 n', .slice t js.length d], .int .i64 left] w fun e w' => Szd (Ex.sizeL ks + Ex.sizeL js) left e ∧ Below w.heap.size w w' := by
 have L := Blk.new6 w 63 (.int .i64 k) (.int .i64 n) (.slice s ks.length c) (.int .i64 k') (.int .i64 n') (.slice t js.length d)
 go_enter Tryz.func23, Tryz.ntmps23
 go_wp2_with fail
 refine (szExpr_i (hr.alloc _) h0 h1).mono ?_
 rintro e w1 ⟨⟨r, rfl, r1, r2, r3⟩, hb⟩
 have hB : Below w.heap.size w w1 := Below.on (by (repeat' first | exact Below.refl _ _ | assumption | apply Below.alloc | apply Below.drew | apply Below.setCell | omega | (simp; done) | (simp; omega))) hb (by simp)
 replace L := L.below hb
 clear hb
 have l3 := L.c3
 have l4 := L.c4
 have l5 := L.c5
 by_cases hn1 : r < 0
 ·
  go_wp2_with fail
  go_ret
  exact ⟨⟨-1, rfl, by omega, by omega, by omega⟩, hB⟩
 have hd1 : decide (r < 0) = false := by simpa using hn1
 go_wp2_with fail
 refine (szExpr_i (hq.below hB) (by omega) (by omega)).mono ?_
 rintro e w2 ⟨⟨r', rfl, q1, q2, q3⟩, hb⟩
 replace hB := Below.on hB hb hB.size
 by_cases hn2 : r' < 0
 ·
  go_wp2_with fail
  go_ret
  exact ⟨⟨-1, rfl, by omega, by omega, by omega⟩, hB⟩
 have hd2 : decide (r' < 0) = false := by simpa using hn2
 go_wp2_with fail
 go_ret
 exact ⟨⟨r', rfl, by omega, by omega, by omega⟩, hB⟩
set_option maxHeartbeats 1000000 in
theorem szPairS_i {ps : List (Ex × Ex)} {s : Option Addr} {c : Nat} {left : Int} {w : World} (hr : Rd w (prD ps) (.slice s ps.length c)) (h0 : 0 ≤ left) (h1 : left ≤ 1048576) :
  Calls Tryz.prog 11 #[.slice s ps.length c, .int .i64 left] w fun e w' => Szd (cntP ps) left e ∧ Below w.heap.size w w' := by
 obtain ⟨-, hlen, hcap⟩ := pr_bd hr
 unfold maxLen at hcap
 have hcl := cntP_len ps
 by_cases hneg : left - (ps.length : Int) < 0
 ·
  go_enter Tryz.func11, Tryz.ntmps11
  go_wp2_with fail
  go_ret
  exact ⟨⟨-1, rfl, by omega, by omega, by omega⟩, Below.refl _ _⟩
 ·
  have hd : decide (left - (ps.length : Int) < 0) = false := by simpa using hneg
  go_enter Tryz.func11, Tryz.ntmps11
  go_wp2_with fail
  go_loopw [1, 5] (fun l i wr => ∃ (k : Nat) (r : Int), k ≤ ps.length ∧ i = .int .i64 k ∧ l = .int .i64 r ∧ 0 ≤ r ∧ (ps.length : Int) + (cntP (ps.take k) : Int) - k + r ≤ left ∧ r ≤ left ∧ Below w.heap.size w wr) (fun _ i _ => ps.length - (intOf i).toNat)
  case atStart => exact ⟨0, _, by omega, rfl, rfl, by omega, by simp [cntP]; omega, by omega, Below.refl _ _⟩
  case round =>
   obtain ⟨k, r, hk, rfl, rfl, hr0, hr1, hr2, hB⟩ := hrel
   by_cases hlt : k < ps.length
   ·
    obtain ⟨p, hp⟩ : ∃ e, ps[k]? = some e := ⟨_, List.getElem?_eq_getElem hlt⟩
    obtain ⟨b, o, rfl⟩ := pr_some hr (by omega)
    obtain ⟨hbl, s', c', t', d', g0, g1, g2, g3, g4, g5, gr, gq⟩ := pr_in (hr.below hB) hp
    have Htk := Lib.hid (cntP_take_succ hp)
    clear hp
    go_wp2_with fail
    refine (szPair_i gr gq hr0 (by omega)).mono ?_
    rintro e1 w1 ⟨⟨r', rfl, r1, r2, r3⟩, hb⟩
    have hB1 : Below w.heap.size w w1 := Below.on hB hb hB.size
    by_cases hr' : r' < 0
    ·
     go_wp2_with fail
     go_ret
     exact ⟨⟨-1, rfl, by omega, by omega, by omega⟩, hB1⟩
    ·
     have hd' : decide (r' < 0) = false := by simpa using hr'
     go_wp2_with fail
     go_roundw
     case rel =>
      have := Htk.out
      exact ⟨k + 1, r', by omega, by go_num, rfl, by omega, by omega, by omega, hB1⟩
     case measure => simp [intOf]; omega
   ·
    obtain rfl : k = ps.length := by omega
    have H := Lib.hid (show cntP (ps.take ps.length) = cntP ps by rw [List.take_length])
    go_wp2_with fail
    go_ret
    have := H.out
    exact ⟨⟨r, rfl, by omega, by omega, by omega⟩, hB⟩
theorem info_implPair : (Tryz.prog.info? 69).map (fun i => (i.zero, i.size, i.bytes)) = some (some (.agg #[.int .i64 0, .int .i64 0, .slice none 0 0, .int .i64 0, .int .i64 0, .slice none 0 0]), 6, 80) := by kernel_rfl
theorem Ows.two_ex {w : World} {k n k' n' : Int} {d d' : D} {v v' : Value} {G : List Nat} (h : Ows w [d, d'] [v, v'] G) : Ows w [.int k, .int n, d, .int k', .int n', d'] [.int .i64 k, .int .i64 n, v, .int .i64 k', .int .i64 n', v'] G := by
 simp only [Ows, Ow] at h ⊢
 obtain ⟨x, r, F, K, e1, e2, h1, y, r', F', K', e3, e4, h2, e5, e6⟩ := h
 simp only [List.cons.injEq, and_true] at e1
 obtain ⟨rfl, rfl⟩ := e1
 simp only [List.cons.injEq] at e3
 obtain ⟨rfl, rfl⟩ := e3
 subst e2 e4 e6
 exact ⟨_, _, [], F ++ (F' ++ []), rfl, by simp, ⟨rfl, rfl⟩, _, _, [], F ++ (F' ++ []), rfl, by simp, ⟨rfl, rfl⟩, _, _, F, F' ++ [], rfl, rfl, h1, _, _, [], F' ++ [], rfl, by simp, ⟨rfl, rfl⟩, _, _, [], F' ++ [], rfl, by simp, ⟨rfl, rfl⟩, _, _, F', [], rfl, rfl, h2, rfl, rfl⟩
set_option maxHeartbeats 2000000 in
theorem toPair_i {k n k' n' : Int} {ks js : List Ex} {s t : Option Addr} {c d : Nat} {w : World} (hr : Rd w (kidsD ks) (.slice s ks.length c)) (hq : Rd w (kidsD js) (.slice t js.length d)) (h1 : Ex.sizeL ks ≤ 1048576) (h2 : Ex.sizeL js ≤ 1048576) :
  Calls Tryz.prog 29 #[.agg #[.int .i64 k, .int .i64 n, .slice s ks.length c, .int .i64 k', .int .i64 n', .slice t js.length d]] w fun e w' => ∃ s' c' t' d', e = .returned (.agg #[.int .i64 k, .int .i64 n, .slice s' ks.length c', .int .i64 k', .int .i64 n', .slice t' js.length d']) ∧
   Freshs w w' [kidsD ks, kidsD js] [.slice s' ks.length c', .slice t' js.length d'] ∧ Below w.heap.size w w' := by
 have L := ((Blk.new6 w 63 (.int .i64 k) (.int .i64 n) (.slice s ks.length c) (.int .i64 k') (.int .i64 n') (.slice t js.length d)).alloc (.cells #[.int .i64 0, .int .i64 0, .slice none 0 0, .int .i64 0, .int .i64 0, .slice none 0 0] 69)).alloc (.cells #[.int .i64 0, .int .i64 0, .slice none 0 0, .int .i64 0, .int .i64 0, .slice none 0 0] 69)
 have R2 := (Blk.new6 (w.alloc (.cells #[.int .i64 k, .int .i64 n, .slice s ks.length c, .int .i64 k', .int .i64 n', .slice t js.length d] 63)) 69 (.int .i64 0) (.int .i64 0) (.slice none 0 0) (.int .i64 0) (.int .i64 0) (.slice none 0 0)).alloc (.cells #[.int .i64 0, .int .i64 0, .slice none 0 0, .int .i64 0, .int .i64 0, .slice none 0 0] 69)
 have R := Blk.new6 ((w.alloc (.cells #[.int .i64 k, .int .i64 n, .slice s ks.length c, .int .i64 k', .int .i64 n', .slice t js.length d] 63)).alloc (.cells #[.int .i64 0, .int .i64 0, .slice none 0 0, .int .i64 0, .int .i64 0, .slice none 0 0] 69)) 69 (.int .i64 0) (.int .i64 0) (.slice none 0 0) (.int .i64 0) (.int .i64 0) (.slice none 0 0)
 simp at R2 R
 have hB0 : Below w.heap.size w (((w.alloc (.cells #[.int .i64 k, .int .i64 n, .slice s ks.length c, .int .i64 k', .int .i64 n', .slice t js.length d] 63)).alloc (.cells #[.int .i64 0, .int .i64 0, .slice none 0 0, .int .i64 0, .int .i64 0, .slice none 0 0] 69)).alloc (.cells #[.int .i64 0, .int .i64 0, .slice none 0 0, .int .i64 0, .int .i64 0, .slice none 0 0] 69)) := by (repeat' first | exact Below.refl _ _ | assumption | apply Below.alloc | apply Below.drew | apply Below.setCell | omega | (simp; done) | (simp; omega))
 have hz0 : (((w.alloc (.cells #[.int .i64 k, .int .i64 n, .slice s ks.length c, .int .i64 k', .int .i64 n', .slice t js.length d] 63)).alloc (.cells #[.int .i64 0, .int .i64 0, .slice none 0 0, .int .i64 0, .int .i64 0, .slice none 0 0] 69)).alloc (.cells #[.int .i64 0, .int .i64 0, .slice none 0 0, .int .i64 0, .int .i64 0, .slice none 0 0] 69)).heap.size = w.heap.size + 3 := by simp
 go_enter Tryz.func29, Tryz.ntmps29
 go_wp2_with fail
 generalize ((w.alloc (.cells #[.int .i64 k, .int .i64 n, .slice s ks.length c, .int .i64 k', .int .i64 n', .slice t js.length d] 63)).alloc (.cells #[.int .i64 0, .int .i64 0, .slice none 0 0, .int .i64 0, .int .i64 0, .slice none 0 0] 69)).alloc (.cells #[.int .i64 0, .int .i64 0, .slice none 0 0, .int .i64 0, .int .i64 0, .slice none 0 0] 69) = w0 at L R2 R hB0 hz0 ⊢
 refine (toExpr_any k n ks s c w0 (hr.below hB0) h1).mono ?_
 rintro e w1 ⟨s', c', rfl, ⟨G, hG1, hG2, hG3⟩, hb⟩
 have sz1 := hb.size
 replace L := L.below hb
 replace R2 := R2.below hb
 replace R := R.below hb
 have hB1 := Below.on hB0 hb hB0.size
 clear hb hB0
 have l3 := L.c3
 have l4 := L.c4
 have l5 := L.c5
 have r0 := R.c0
 have r1 := R.c1
 have r2 := R.c2
 have z0 := R.frozen 0
 have z1 := R.frozen 1
 have z2 := R.frozen 2
 have ltR := R.lt
 have ltL := L.lt
 go_wp2_with fail
 clear l3 l4 l5 r0 r1 r2 z0 z1 z2
 have RS := ((R.set 0 (.int .i64 k)).set 1 (.int .i64 n)).set 2 (.slice s' ks.length c')
 have hbs : Spares (fun b => b = w.heap.size + 1 + 1) w1 (((w1.setCell ⟨w.heap.size + 1 + 1, 0, none⟩ (.int .i64 k)).setCell ⟨w.heap.size + 1 + 1, 1, none⟩ (.int .i64 n)).setCell ⟨w.heap.size + 1 + 1, 2, none⟩ (.slice s' ks.length c')) := by (repeat apply Spares.set); exact Spares.refl _
 have hz2 : (((w1.setCell ⟨w.heap.size + 1 + 1, 0, none⟩ (.int .i64 k)).setCell ⟨w.heap.size + 1 + 1, 1, none⟩ (.int .i64 n)).setCell ⟨w.heap.size + 1 + 1, 2, none⟩ (.slice s' ks.length c')).heap.size = w1.heap.size := by simp [World.setCell]
 generalize (((w1.setCell ⟨w.heap.size + 1 + 1, 0, none⟩ (.int .i64 k)).setCell ⟨w.heap.size + 1 + 1, 1, none⟩ (.int .i64 n)).setCell ⟨w.heap.size + 1 + 1, 2, none⟩ (.slice s' ks.length c')) = w2 at RS hbs hz2 ⊢
 have hG1 := hG1.keep (w' := w2) fun b hb => hbs.block b (hG1.lt b hb) (by have := hG3 b hb; omega)
 have hB2 := hB1.trans (hbs.below (B := w.heap.size) (by omega) (fun b hb => by omega))
 have R2 := R2.keep (hbs.block _ (by omega) (by omega))
 have L := L.keep (hbs.block _ (by omega) (by omega))
 clear hbs R hB1
 have gl := hG1.lt
 refine (toExpr_any k' n' js t d w2 (hq.below hB2) h2).mono ?_
 rintro e w3 ⟨t', d', rfl, ⟨K, hK1, hK2, hK3⟩, hb⟩
 have sz3 := hb.size
 have hG1 := hG1.keep (w' := w3) fun b hm => hb.block b (hG1.lt b hm)
 have hB3 := Below.on hB2 hb hB2.size
 have R2 := R2.below hb
 have RS := RS.below hb
 clear hb hB2
 have r3 := RS.c3
 have r4 := RS.c4
 have r5 := RS.c5
 have z3 := RS.frozen 3
 have z4 := RS.frozen 4
 have z5 := RS.frozen 5
 have r0 := RS.c0
 have r1 := RS.c1
 have r2 := RS.c2
 have q0 := R2.c0
 have q1 := R2.c1
 have q2 := R2.c2
 have q3 := R2.c3
 have q4 := R2.c4
 have q5 := R2.c5
 have y0 := R2.frozen 0
 have y1 := R2.frozen 1
 have y2 := R2.frozen 2
 have y3 := R2.frozen 3
 have y4 := R2.frozen 4
 have y5 := R2.frozen 5
 have ltS := RS.lt
 have lt2 := R2.lt
 go_wp2_with fail
 have hs4 : Spares (fun b => b = w.heap.size + 1 + 1) w3 (((w3.setCell ⟨w.heap.size + 1 + 1, 3, none⟩ (.int .i64 k')).setCell ⟨w.heap.size + 1 + 1, 4, none⟩ (.int .i64 n')).setCell ⟨w.heap.size + 1 + 1, 5, none⟩ (.slice t' js.length d')) := by (repeat apply Spares.set); exact Spares.refl _
 generalize (((w3.setCell ⟨w.heap.size + 1 + 1, 3, none⟩ (.int .i64 k')).setCell ⟨w.heap.size + 1 + 1, 4, none⟩ (.int .i64 n')).setCell ⟨w.heap.size + 1 + 1, 5, none⟩ (.slice t' js.length d')) = w4 at hs4 ⊢
 have sz4 := hs4.size
 replace R2 := R2.keep (hs4.block _ (by omega) (by omega))
 have hG1 := hG1.keep (w' := w4) fun b hm => hs4.block b (hG1.lt b hm) (by have := hG3 b hm; omega)
 have hK1 := hK1.keep (w' := w4) fun b hm => hs4.block b (hK1.lt b hm) (by have := hK3 b hm; omega)
 have hB4 := hB3.trans (hs4.below (B := w.heap.size) (by omega) (fun b hb => by omega))
 have T2 := (((((R2.set 0 (.int .i64 k)).set 1 (.int .i64 n)).set 2 (.slice s' ks.length c')).set 3 (.int .i64 k')).set 4 (.int .i64 n')).set 5 (.slice t' js.length d')
 have hs5 : Spares (fun b => b = w.heap.size + 1) w4 ((((((w4.setCell ⟨w.heap.size + 1, 0, none⟩ (.int .i64 k)).setCell ⟨w.heap.size + 1, 1, none⟩ (.int .i64 n)).setCell ⟨w.heap.size + 1, 2, none⟩ (.slice s' ks.length c')).setCell ⟨w.heap.size + 1, 3, none⟩ (.int .i64 k')).setCell ⟨w.heap.size + 1, 4, none⟩ (.int .i64 n')).setCell ⟨w.heap.size + 1, 5, none⟩ (.slice t' js.length d')) := by (repeat apply Spares.set); exact Spares.refl _
 generalize ((((((w4.setCell ⟨w.heap.size + 1, 0, none⟩ (.int .i64 k)).setCell ⟨w.heap.size + 1, 1, none⟩ (.int .i64 n)).setCell ⟨w.heap.size + 1, 2, none⟩ (.slice s' ks.length c')).setCell ⟨w.heap.size + 1, 3, none⟩ (.int .i64 k')).setCell ⟨w.heap.size + 1, 4, none⟩ (.int .i64 n')).setCell ⟨w.heap.size + 1, 5, none⟩ (.slice t' js.length d')) = w5 at T2 hs5 ⊢
 have hG1 := hG1.keep (w' := w5) fun b hm => hs5.block b (hG1.lt b hm) (by have := hG3 b hm; omega)
 have hK1 := hK1.keep (w' := w5) fun b hm => hs5.block b (hK1.lt b hm) (by have := hK3 b hm; omega)
 have hB5 := hB4.trans (hs5.below (B := w.heap.size) (by omega) (fun b hb => by omega))
 have t0 := T2.c0
 have t1 := T2.c1
 have t2 := T2.c2
 have t3 := T2.c3
 have t4 := T2.c4
 have t5 := T2.c5
 refine bodyPost_ret (v := .agg #[.int .i64 k, .int .i64 n, .slice s' ks.length c', .int .i64 k', .int .i64 n', .slice t' js.length d']) (by simp [results, Tryz.results29, go_sem, t0, t1, t2, t3, t4, t5]) rfl ⟨s', c', t', d', rfl, ⟨G ++ K, ?_, ?_, ?_⟩, hB5⟩
 ·
  simp only [Ows]
  exact ⟨_, _, G, K, rfl, rfl, hG1, _, _, K, [], rfl, by simp, hK1, rfl, rfl⟩
 ·
  rw [List.nodup_append]
  exact ⟨hG2, hK2, fun a ha b hb e => by have := gl a ha; have := hK3 b hb; omega⟩
 ·
  intro b hb
  rcases List.mem_append.1 hb with h | h
  ·
   have := hG3 b h; omega
  ·
   have := hK3 b h; omega
set_option maxHeartbeats 2000000 in
theorem toPairS_i {ps : List (Ex × Ex)} {s : Option Addr} {c : Nat} {w : World} (hr : Rd w (prD ps) (.slice s ps.length c)) (h1 : cntP ps ≤ 1048576) :
  Calls Tryz.prog 13 #[.slice s ps.length c] w fun e w' => ∃ s' c', e = .returned (.slice s' ps.length c') ∧ Freshs w w' [prD ps] [.slice s' ps.length c'] ∧ Below w.heap.size w w' := by
 obtain ⟨-, hlen, hcap⟩ := pr_bd hr
 unfold maxLen at hcap
 have hcl := cntP_len ps
 obtain ⟨i0, hi, hz0, hz1, hz2⟩ := info_parts info_implPair
 go_enter Tryz.func13, Tryz.ntmps13
 go_wp2_with (at_make; refine wpList_make_full _ rfl _ _ 41 rfl w.heap.size 69 i0 (.agg #[.int .i64 0, .int .i64 0, .slice none 0 0, .int .i64 0, .int .i64 0, .slice none 0 0]) 6 Tryz.underlying41 hi hz0 hz1 .i64 .i64 _ _ ps.length rfl rfl rfl rfl (by rw [hz2]; omega) (by unfold maxLen; omega) (Nat.le_refl _) ?_; intro w0 hown hgrow)
 have hp := Part.start hown
 have hB0 : Below w.heap.size w w0 := Below.grown (Below.refl _ _) hgrow (Nat.le_refl _) (by simp)
 have hz0' := hp.lt
 clear hown hgrow
 go_loopw [4] (fun i wr => ∃ k : Nat, k ≤ ps.length ∧ i = .int .i64 k ∧ Part wr w.heap.size 69 (Ex.cellsL (flatP (ps.take k))) (ps.length * 6) ∧ Below w.heap.size w wr) (fun i _ => ps.length - (intOf i).toNat)
 case atStart => exact ⟨0, by omega, rfl, by simpa [flatP, Ex.cellsL] using hp, hB0⟩
 case round =>
  clear hp hB0 hz0'
  obtain ⟨k, hk, rfl, hp, hB⟩ := hrel
  by_cases hlt : k < ps.length
  ·
   obtain ⟨p, hpk⟩ : ∃ e, ps[k]? = some e := ⟨_, List.getElem?_eq_getElem hlt⟩
   obtain ⟨b, o, rfl⟩ := pr_some hr (by omega)
   obtain ⟨hbl, s1, c1, t1, d1, g0, g1, g2, g3, g4, g5, gr, gq⟩ := pr_in (hr.below hB) hpk
   have hcm := cntP_mem hpk
   have Hst0 := Lib.hid (flatP_take_succ hpk)
   clear hpk
   go_wp2_with fail
   refine (toPair_i gr gq (by omega) (by omega)).mono ?_
   rintro e1 w1 ⟨s2, c2, t2, d2, rfl, ⟨G, hG1, hG2, hG3⟩, hb⟩
   have hlt2 := hp.lt
   have hz := hb.size
   obtain ⟨y0, d0⟩ := (hp.below hb).cell (k * 6) (by omega)
   obtain ⟨y1, d1'⟩ := (hp.below hb).cell (k * 6 + 1) (by omega)
   obtain ⟨y2, d2'⟩ := (hp.below hb).cell (k * 6 + 2) (by omega)
   obtain ⟨y3, d3⟩ := (hp.below hb).cell (k * 6 + 3) (by omega)
   obtain ⟨y4, d4⟩ := (hp.below hb).cell (k * 6 + 4) (by omega)
   obtain ⟨y5, d5⟩ := (hp.below hb).cell (k * 6 + 5) (by omega)
   have z0 := (hp.below hb).frozen (k * 6)
   have z1 := (hp.below hb).frozen (k * 6 + 1)
   have z2 := (hp.below hb).frozen (k * 6 + 2)
   have z3 := (hp.below hb).frozen (k * 6 + 3)
   have z4 := (hp.below hb).frozen (k * 6 + 4)
   have z5 := (hp.below hb).frozen (k * 6 + 5)
   have hst := hp.step hb (Ows.two_ex (k := p.1.kind) (n := p.1.num) (k' := p.2.kind) (n' := p.2.num) hG1) hG2 hG3 (o := k * 6) (by rw [Ex.cellsL_length, flatP_length, List.length_take, Nat.min_eq_left hk]; omega) (by simp; omega)
   rw [← Hst0.out] at hst
   have Hst : Hid (Part ((((((w1.setCell ⟨w.heap.size, k * 6, none⟩ (.int .i64 p.1.kind)).setCell ⟨w.heap.size, k * 6 + 1, none⟩ (.int .i64 p.1.num)).setCell ⟨w.heap.size, k * 6 + 2, none⟩ (.slice s2 p.1.kids.length c2)).setCell ⟨w.heap.size, k * 6 + 3, none⟩ (.int .i64 p.2.kind)).setCell ⟨w.heap.size, k * 6 + 4, none⟩ (.int .i64 p.2.num)).setCell ⟨w.heap.size, k * 6 + 5, none⟩ (.slice t2 p.2.kids.length d2)) w.heap.size 69 (Ex.cellsL (flatP (ps.take (k + 1)))) (ps.length * 6)) := hst
   have hB1 : Below w.heap.size w w1 := Below.on hB hb (by omega)
   clear hst hcm
   go_wp2_with fail
   go_roundw
   case rel => exact ⟨k + 1, by omega, by go_num, Hst.out, hB1.trans ((Spares.set (b0 := w.heap.size) (Spares.set (Spares.set (Spares.set (Spares.set (Spares.set (Spares.refl w1))))))).below (B := w.heap.size) (by omega) (fun b hb => by omega))⟩
   case measure => simp [intOf]; omega
  ·
   obtain rfl : k = ps.length := by omega
   rw [List.take_length] at hp
   go_wp2_with fail
   go_ret
   exact ⟨_, _, rfl, Freshs.one (hp.done (Nat.le_refl _) (by rw [Ex.cellsL_length, flatP_length]; omega) (Nat.le_refl _) (by unfold maxLen; omega)), hB⟩
theorem eqb_pair {a b a' b' : Ex} : eqb (a, b) (a', b') = (eqb a a' && eqb b b') := by
 by_cases h1 : a = a'
 ·
  by_cases h2 : b = b'
  ·
   rw [eqb_true h1, eqb_true h2, eqb_true (by rw [h1, h2])]; rfl
  ·
   rw [eqb_true h1, eqb_false h2, eqb_false (by simp [h2])]; rfl
 ·
  rw [eqb_false h1, eqb_false (by simp [h1])]; rfl
set_option maxHeartbeats 2000000 in
theorem eqPair_i {a b a' b' : Ex} {s t s' t' : Option Addr} {c d c' d' : Nat} {w : World} (hr : Rd w (kidsD a.kids) (.slice s a.kids.length c)) (hq : Rd w (kidsD b.kids) (.slice t b.kids.length d)) (hr' : Rd w (kidsD a'.kids) (.slice s' a'.kids.length c')) (hq' : Rd w (kidsD b'.kids) (.slice t' b'.kids.length d')) :
  Calls Tryz.prog 37 #[.agg #[.int .i64 a.kind, .int .i64 a.num, .slice s a.kids.length c, .int .i64 b.kind, .int .i64 b.num, .slice t b.kids.length d], .agg #[.int .i64 a'.kind, .int .i64 a'.num, .slice s' a'.kids.length c', .int .i64 b'.kind, .int .i64 b'.num, .slice t' b'.kids.length d']] w fun e w' =>
   e = .returned (.bool (eqb (a, b) (a', b'))) ∧ Below w.heap.size w w' := by
 rw [eqb_pair]
 have e1 : eqb (Ex.mk a.kind a.num a.kids) (Ex.mk a'.kind a'.num a'.kids) = eqb a a' := by rw [← Ex.eta, ← Ex.eta]
 have e2 : eqb (Ex.mk b.kind b.num b.kids) (Ex.mk b'.kind b'.num b'.kids) = eqb b b' := by rw [← Ex.eta, ← Ex.eta]
 have L := (Blk.new6 w 69 (.int .i64 a.kind) (.int .i64 a.num) (.slice s a.kids.length c) (.int .i64 b.kind) (.int .i64 b.num) (.slice t b.kids.length d)).alloc (.cells #[.int .i64 a'.kind, .int .i64 a'.num, .slice s' a'.kids.length c', .int .i64 b'.kind, .int .i64 b'.num, .slice t' b'.kids.length d'] 69)
 have M := Blk.new6 (w.alloc (.cells #[.int .i64 a.kind, .int .i64 a.num, .slice s a.kids.length c, .int .i64 b.kind, .int .i64 b.num, .slice t b.kids.length d] 69)) 69 (.int .i64 a'.kind) (.int .i64 a'.num) (.slice s' a'.kids.length c') (.int .i64 b'.kind) (.int .i64 b'.num) (.slice t' b'.kids.length d')
 simp at M
 go_enter Tryz.func37, Tryz.ntmps37
 go_wp2_with fail
 refine (eqExpr_i (by repeat (first | exact hr | apply Rd.alloc)) (by repeat (first | exact hr' | apply Rd.alloc))).mono ?_
 rintro e w1 ⟨rfl, hb⟩
 rw [e1]
 have hB : Below w.heap.size w w1 := Below.on (by (repeat' first | exact Below.refl _ _ | assumption | apply Below.alloc | apply Below.drew | apply Below.setCell | omega | (simp; done) | (simp; omega))) hb (by simp; omega)
 replace L := L.below hb
 replace M := M.below hb
 clear hb e1
 have l3 := L.c3
 have l4 := L.c4
 have l5 := L.c5
 have m3 := M.c3
 have m4 := M.c4
 have m5 := M.c5
 cases hx : eqb a a'
 ·
  go_wp2_with fail
  go_ret
  exact ⟨ret_bool (by rw [hx]; rfl), hB⟩
 go_wp2_with fail
 refine (eqExpr_i (hq.below hB) (hq'.below hB)).mono ?_
 rintro e w2 ⟨rfl, hb⟩
 rw [e2]
 replace hB := Below.on hB hb hB.size
 cases hy : eqb b b'
 all_goals
  go_wp2_with fail
  go_ret
  exact ⟨ret_bool (by rw [hx, hy]; rfl), hB⟩
set_option maxHeartbeats 4000000 in
theorem eqPairS_i {ps qs : List (Ex × Ex)} {s t : Option Addr} {c d : Nat} {w : World} (hr : Rd w (prD ps) (.slice s ps.length c)) (hr' : Rd w (prD qs) (.slice t qs.length d)) :
  Calls Tryz.prog 15 #[.slice s ps.length c, .slice t qs.length d] w fun e w' => e = .returned (.bool (eqb ps qs)) ∧ Below w.heap.size w w' := by
 obtain ⟨-, hlen, hcap⟩ := pr_bd hr
 obtain ⟨-, hlen', hcap'⟩ := pr_bd hr'
 unfold maxLen at hcap hcap'
 by_cases hl : ps.length = qs.length
 ·
  have b1 : ((ps.length : Int) != (qs.length : Int)) = false := by simp [hl]
  have Hl := Lib.hid hl
  clear hl
  go_enter Tryz.func15, Tryz.ntmps15
  go_wp2_with fail
  go_loopw [5] (fun i wr => ∃ k : Nat, k ≤ ps.length ∧ i = .int .i64 k ∧ ps.take k = qs.take k ∧ Below w.heap.size w wr) (fun i _ => ps.length - (intOf i).toNat)
  case atStart => exact ⟨0, by omega, rfl, by simp, Below.refl _ _⟩
  case round =>
   obtain ⟨k, hk, rfl, hpre, hB⟩ := hrel
   have Hpre := Lib.hid hpre
   clear hpre
   by_cases hlt : k < ps.length
   ·
    have hlt' : k < qs.length := by have := Hl.out; omega
    obtain ⟨p, hp⟩ : ∃ e, ps[k]? = some e := ⟨_, List.getElem?_eq_getElem hlt⟩
    obtain ⟨q, hq⟩ : ∃ e, qs[k]? = some e := ⟨_, List.getElem?_eq_getElem hlt'⟩
    obtain ⟨b, o, rfl⟩ := pr_some hr (by omega)
    obtain ⟨b', o', rfl⟩ := pr_some hr' (by omega)
    obtain ⟨-, s1, c1, t1, d1, g0, g1, g2, g3, g4, g5, gr, gq⟩ := pr_in (hr.below hB) hp
    obtain ⟨-, s2, c2, t2, d2, k0, k1, k2, k3, k4, k5, kr, kq⟩ := pr_in (hr'.below hB) hq
    have ha := Int.natCast_nonneg k
    have hb : (k : Int) < (ps.length : Int) := by omega
    have hb' : (k : Int) < (qs.length : Int) := by omega
    have i0 := fun d os => cell_regrown g0 d os
    have i1 := fun d os => cell_regrown g1 d os
    have i2 := fun d os => cell_regrown g2 d os
    have i3 := fun d os => cell_regrown g3 d os
    have i4 := fun d os => cell_regrown g4 d os
    have i5 := fun d os => cell_regrown g5 d os
    have j0 := fun d os => cell_regrown k0 d os
    have j1 := fun d os => cell_regrown k1 d os
    have j2 := fun d os => cell_regrown k2 d os
    have j3 := fun d os => cell_regrown k3 d os
    have j4 := fun d os => cell_regrown k4 d os
    have j5 := fun d os => cell_regrown k5 d os
    clear g0 g1 g2 g3 g4 g5 k0 k1 k2 k3 k4 k5
    have Hp := Lib.hid hp
    have Hq := Lib.hid hq
    clear hp hq
    go_wp2_with fail
    refine Go.wp_region_quiet_below (by kernel_rfl) (by kernel_rfl) ?_
    repeat (quiet_step (exact Calls.regrown_of (eqPair_i (gr.below (below_regrown _ _ _)) (gq.below (below_regrown _ _ _)) (kr.below (below_regrown _ _ _)) (kq.below (below_regrown _ _ _)))))
    refine wpQuiet_nil ?_; intro _ hw'; obtain ⟨⟨dq, osq⟩, hw''⟩ := hw'; subst hw''; have hq := below_regrown wr dq osq; revert hq; generalize grow (redrawn wr dq) osq = w1; intro hq
    have hB1 : Below w.heap.size w w1 := Below.on hB hq hB.size
    clear hq i0 i1 i2 i3 i4 i5 j0 j1 j2 j3 j4 j5
    by_cases hef : p = q
    ·
     have c1 : eqb (p.1, p.2) (q.1, q.2) = true := by rw [hef, eqb_true rfl]
     have Hst : Hid (ps.take (k + 1) = qs.take (k + 1)) := by
      have h1 := List.getElem?_eq_some_iff.1 Hp.out
      have h2 := List.getElem?_eq_some_iff.1 Hq.out
      show _ = _
      rw [List.take_succ_eq_append_getElem hlt, List.take_succ_eq_append_getElem hlt', Hpre.out, h1.2, h2.2, hef]
     clear hef
     simp only [c1, Bool.not_true]
     go_wp2_with fail
     go_roundw
     case rel => exact ⟨k + 1, by omega, by go_num, Hst.out, hB1⟩
     case measure => simp [intOf]; omega
    ·
     have c1 : eqb (p.1, p.2) (q.1, q.2) = false := eqb_false hef
     have c2 : eqb ps qs = false := eqb_false (by
      intro h
      have h1 := Hp.out
      rw [h] at h1
      exact hef (Option.some.inj (h1.symm.trans Hq.out)))
     simp only [c1, Bool.not_false]
     go_wp2_with fail
     go_ret
     exact ⟨by first | rfl | (rw [c2]; rfl), hB1⟩
   ·
    obtain rfl : k = ps.length := by omega
    have c2 : eqb ps qs = true := eqb_true (by
     have := Hpre.out
     rwa [List.take_length, Hl.out, List.take_length] at this)
    go_wp2_with fail
    go_ret
    exact ⟨by first | rfl | (rw [c2]; rfl), hB⟩
 ·
  have b1 : ((ps.length : Int) != (qs.length : Int)) = true := by simp; omega
  have c2 : eqb ps qs = false := eqb_false (by intro h; rw [h] at hl; exact hl rfl)
  go_enter Tryz.func15, Tryz.ntmps15
  go_wp2_with fail
  go_ret
  exact ⟨by first | rfl | (rw [c2]; rfl), Below.refl _ _⟩
end Go.Proofs.YtcokljhamhgelaaGreatDoor

namespace Go.Proofs.YtcokljhamhgelaaGreatDoor
set_option linter.unusedVariables false
set_option linter.unusedSimpArgs false
open Go.ChangeShapes Go.WideShapes Go.ChangeAt Go.RowKit
theorem cells_laws_Pair : Tryz.prog.cellsOf 63 = 6 := by kernel_rfl
theorem rows_pairs : ∀ rows : List (List D), (∀ r ∈ rows, ∃ p : Ex × Ex, r = p.1.cells ++ p.2.cells) → ∃ ps : List (Ex × Ex), rows.length = ps.length ∧ rows.flatten = Ex.cellsL (flatP ps)
 | [], _ => ⟨[], rfl, rfl⟩
 | r :: rs, h => by
  obtain ⟨p, rfl⟩ := h r (List.mem_cons_self ..)
  obtain ⟨ps, h1, h2⟩ := rows_pairs rs fun x hx => h x (List.mem_cons_of_mem _ hx)
  exact ⟨p :: ps, by simp [h1], by simp [flatP, Ex.cellsL, h2]⟩
set_option maxRecDepth 10000
section
variable {H : Type} {enc : TypeId × Value → H} {W : World} {base : Nat} {sp : Nat → Bool} {hd : Bool} {v : Value} {d : DataW H} {ps : List MemPlace}
theorem open_lawsPairS {r : Reach} {b0 : Nat} (hval : Value.okWide Tryz.prog W r b0 38 v) (h : DataW.Trod enc Tryz.prog W base sp hd 38 v d ps) :
  ∃ qs s cap, v = .slice s (List.length qs) cap ∧ Rd W (prD qs) (.slice s qs.length cap) := by
 obtain ⟨a, len, cap, rfl⟩ := okWide_slice Tryz.underlying38 hval
 obtain ⟨fuel, hf⟩ := h
 obtain ⟨v', rows, e2, hrows, hr⟩ := open_sl (size := 6) (Q := fun r => ∃ p : Ex × Ex, r = p.1.cells ++ p.2.cells) Tryz.underlying38 cells_laws_Pair (by omega) (fun m _ cs x hx => by
  obtain ⟨y0, y1, n, _, hl, g0, g1⟩ := trod_struct2 Tryz.underlying63 hx
  rw [cells_laws_Pair] at hl
  match cs, hl with
  | [v0, v1, v2, v3, v4, v5], _ =>
   simp [cells_laws_Expr] at g0 g1
   obtain ⟨e, h0⟩ := open_expr Tryz.underlying26 Tryz.underlying24 Tryz.underlying2 rfl rfl rfl rfl rfl rfl cells_int64 cells_laws_Exprs cells_laws_Expr _ _ _ g0
   obtain ⟨f, h1⟩ := open_expr Tryz.underlying26 Tryz.underlying24 Tryz.underlying2 rfl rfl rfl rfl rfl rfl cells_int64 cells_laws_Exprs cells_laws_Expr _ _ _ g1
   exact ⟨e.cells ++ f.cells, ⟨(e, f), rfl⟩, by simp [Ex.cells_length], Rds.append h0 h1⟩) hf
 have e3 : v' = .slice a len cap := by simpa [Value.cells] using e2.symm
 subst e3
 obtain ⟨qs, k1, k2⟩ := rows_pairs rows hrows
 rw [k1, k2] at hr
 obtain ⟨rfl, _⟩ := hr.sl_at
 exact ⟨qs, a, cap, rfl, hr⟩
end
end Go.Proofs.YtcokljhamhgelaaGreatDoor

namespace Go.Proofs.YtcokljhamhgelaaGreatDoor
set_option linter.unusedVariables false
set_option linter.unusedSimpArgs false
open Go.ChangeShapes Go.WideShapes Go.ChangeAt Go.RowKit Go.Sort
def formB (tm am : Int) (e : Ex) : Bool := decide (e.size ≤ 800) && e.tree tm am
theorem formB_sh {tm am : Int} {e : Ex} : shF tm am e 800 800 = formB tm am e := by
 unfold shF formB
 have := e.depth_le
 rw [Bool.eq_iff_iff]
 simp
 constructor
 ·
  rintro ⟨h1, h2, h3⟩; exact ⟨by omega, h1⟩
 ·
  rintro ⟨h1, h2⟩; exact ⟨h2, by omega, by omega⟩
theorem isShaped_i {t a tm am k m : Int} {ks : List Ex} {s : Option Addr} {c : Nat} {w : World} (q1 : IntKind.i64.wrap (t - 1) = tm) (q2 : IntKind.i64.wrap (a - 1) = am) (hr : Rd w (kidsD ks) (.slice s ks.length c)) :
  Calls Tryz.prog 31 #[.agg #[.int .i64 t, .int .i64 a], .agg #[.int .i64 k, .int .i64 m, .slice s ks.length c], .int .i64 800] w fun f w' => f = .returned (.bool (formB tm am (.mk k m ks))) ∧ Below w.heap.size w w' := by
 rw [← formB_sh]
 go_enter Tryz.func31, Tryz.ntmps31
 go_wp2_with fail
 refine (shaped_all t a tm am q1 q2 _ k m ks s c 800 800 _ (Nat.le_refl _) ((hr.alloc _).alloc _) (by omega) (by omega) (by omega) (by omega)).mono ?_
 rintro x w1 ⟨rfl, hb⟩
 have hB : Below w.heap.size w w1 := Below.on (by (repeat' first | exact Below.refl _ _ | assumption | apply Below.alloc | apply Below.drew | apply Below.setCell | omega | (simp; done) | (simp; omega))) hb (by simp; omega)
 clear hb
 cases h : shF tm am (.mk k m ks) 800 800
 ·
  rw [shV_false h]
  go_wp2_with fail
  go_ret
  exact ⟨ret_bool (by rw [h]), hB⟩
 ·
  rw [shV_true h]
  go_wp2_with fail
  go_ret
  exact ⟨ret_bool (by rw [h]), hB⟩
theorem l03Form_i {t a tm am : Int} {e : Ex} {b o : Nat} {w : World} (q1 : IntKind.i64.wrap (t - 1) = tm) (q2 : IntKind.i64.wrap (a - 1) = am) (hr : ExAt w b o e) :
  Calls Tryz.prog 50 #[.agg #[.int .i64 t, .int .i64 a], .pointer (some ⟨b, o, none⟩)] w fun f w' => f = .returned (.bool (formB tm am e)) ∧ Below w.heap.size w w' := by
 have Hq1 := Lib.hid q1
 have Hq2 := Lib.hid q2
 clear q1 q2
 go_enter Tryz.func50, Tryz.ntmps50
 go_wp2_with fail
 have L := Blk.new2 w 30 (.int .i64 t) (.int .i64 a)
 have hB : Below w.heap.size w (w.alloc (.cells #[.int .i64 t, .int .i64 a] 30)) := by (repeat' first | exact Below.refl _ _ | assumption | apply Below.alloc | apply Below.drew | apply Below.setCell | omega | (simp; done) | (simp; omega))
 generalize w.alloc (.cells #[.int .i64 t, .int .i64 a] 30) = w1 at L hB ⊢
 refine (l01Left_all _ e _ _ _ _ (Nat.le_refl _) (hr.below hB) (by omega) (by omega)).mono ?_
 rintro x w' ⟨rfl, rfl⟩
 by_cases hsz : e.size ≤ 800
 rotate_left
 ·
  have hd : decide (0 ≤ leftF e.size 800) = false := by unfold leftF; rw [if_neg (by omega)]; rfl
  go_wp2_with fail
  go_ret
  exact ⟨ret_bool (by simp [formB, hsz]), hB⟩
 have hd : decide (0 ≤ leftF e.size 800) = true := by unfold leftF; rw [if_pos (by omega)]; simp; omega
 have l0 := L.c0
 have l1 := L.c1
 have ef : formB tm am e = e.tree tm am := by simp [formB, hsz]
 have Hef := Lib.hid ef
 clear ef
 go_wp2_with fail
 refine (l01Tree_w t a tm am Hq1.out Hq2.out _ e _ _ _ (Nat.le_refl _) (hr.below hB)).mono ?_
 rintro x w2 ⟨rfl, hb⟩
 have hB2 := Below.on hB hb hB.size
 go_wp2_with fail
 go_ret
 exact ⟨by rw [Hef.out]; rfl, hB2⟩
def pairB (tm am : Int) (p : Ex × Ex) : Bool := formB tm am p.1 && formB tm am p.2
def pairsB (tm am : Int) (ps : List (Ex × Ex)) : Bool := ps.all (pairB tm am)
theorem pairsB_false {tm am : Int} {ps : List (Ex × Ex)} {k : Nat} {p : Ex × Ex} (h : ps[k]? = some p) (hp : pairB tm am p = false) : pairsB tm am ps = false := by
 unfold pairsB
 rw [List.all_eq_false]
 exact ⟨p, List.mem_of_getElem? h, by simp [hp]⟩
theorem pairsB_all {tm am : Int} {ps : List (Ex × Ex)} (h : ∀ (k : Nat) (p : Ex × Ex), k < ps.length → ps[k]? = some p → pairB tm am p = true) : pairsB tm am ps = true := by
 unfold pairsB
 rw [List.all_eq_true]
 intro p hp
 obtain ⟨k, hk⟩ := List.mem_iff_getElem?.1 hp
 exact h k p (List.getElem?_eq_some_iff.1 hk).1 hk
theorem pr_ex {w : World} {ps : List (Ex × Ex)} {b o len cap : Nat} (h : Rd w (prD ps) (.slice (some ⟨b, o, none⟩) len cap)) {i : Nat} {p : Ex × Ex} (hp : ps[i]? = some p) : ExAt w b (o + i * 6) p.1 ∧ ExAt w b (o + i * 6 + 3) p.2 := by
 obtain ⟨-, s, c, t, d, g0, g1, g2, g3, g4, g5, r1, r2⟩ := pr_in h hp
 exact ⟨⟨g0, g1, s, c, g2, r1⟩, ⟨g3, g4, t, d, g5, r2⟩⟩
set_option maxHeartbeats 4000000 in
theorem l03Listed_i {t a tm am : Int} {ps : List (Ex × Ex)} {s : Option Addr} {c : Nat} {w : World} (q1 : IntKind.i64.wrap (t - 1) = tm) (q2 : IntKind.i64.wrap (a - 1) = am) (hr : Rd w (prD ps) (.slice s ps.length c)) :
  Calls Tryz.prog 25 #[.agg #[.int .i64 t, .int .i64 a], .slice s ps.length c] w fun f w' => f = .returned (.bool (pairsB tm am ps && sigB t a)) ∧ Below w.heap.size w w' := by
 have Hq1 := Lib.hid q1
 have Hq2 := Lib.hid q2
 clear q1 q2
 obtain ⟨-, hlen, hcap⟩ := pr_bd hr
 unfold maxLen at hcap
 go_enter Tryz.func25, Tryz.ntmps25
 go_wp2_with fail
 have L := Blk.new2 w 30 (.int .i64 t) (.int .i64 a)
 have hB0 : Below w.heap.size w (w.alloc (.cells #[.int .i64 t, .int .i64 a] 30)) := by (repeat' first | exact Below.refl _ _ | assumption | apply Below.alloc | apply Below.drew | apply Below.setCell | omega | (simp; done) | (simp; omega))
 generalize w.alloc (.cells #[.int .i64 t, .int .i64 a] 30) = w1 at L hB0 ⊢
 go_loopw [5] (fun i wr => ∃ k : Nat, k ≤ ps.length ∧ i = .int .i64 k ∧ Hid (∀ (j : Nat) (p : Ex × Ex), j < k → ps[j]? = some p → pairB tm am p = true) ∧ Blk wr w.heap.size 30 [.int .i64 t, .int .i64 a] ∧ Below w.heap.size w wr) (fun i _ => ps.length - (intOf i).toNat)
 case atStart => exact ⟨0, by omega, rfl, fun j p hj => by omega, L, hB0⟩
 case round =>
  clear L hB0
  obtain ⟨k, hk, rfl, Hpre, L, hB⟩ := hrel
  by_cases hlt : k < ps.length
  rotate_left
  ·
   obtain rfl : k = ps.length := by omega
   have c2 : pairsB tm am ps = true := pairsB_all Hpre.out
   have C2 := Lib.hid c2
   clear c2
   have l0 := L.c0
   have l1 := L.c1
   go_wp2_with fail
   refine (l01Sig_any _ _ _).mono ?_
   rintro x w2 ⟨rfl, hb⟩
   have hB2 := Below.on hB hb hB.size
   go_wp2_with fail
   go_ret
   exact ⟨by rw [C2.out]; rfl, hB2⟩
  obtain ⟨p, hp⟩ : ∃ e, ps[k]? = some e := ⟨_, List.getElem?_eq_getElem hlt⟩
  obtain ⟨b, o, rfl⟩ := pr_some hr (by omega)
  obtain ⟨e1, e2⟩ := pr_ex (hr.below hB) hp
  have ha := Int.natCast_nonneg k
  have hb0 : (k : Int) < (ps.length : Int) := by omega
  have gl0 := fun d os => cell_regrown L.c0 d os
  have gl1 := fun d os => cell_regrown L.c1 d os
  have Hp := Lib.hid hp
  clear hp
  cases h1 : formB tm am p.1
  ·
   have C1 : Hid (pairsB tm am ps = false) := pairsB_false Hp.out (by simp [pairB, h1])
   go_wp2_with fail
   refine Go.wp_region_quiet_below (by kernel_rfl) (by kernel_rfl) ?_
   repeat (first | go_big_quiet_step ((exact Calls.regrown_of (l03Form_i Hq1.out Hq2.out (e1.below (below_regrown _ _ _))))) | quiet_step ((exact Calls.regrown_of (l03Form_i Hq1.out Hq2.out (e1.below (below_regrown _ _ _))))))
   refine wpQuiet_nil ?_; intro _ hw'; obtain ⟨⟨dq, osq⟩, hw''⟩ := hw'; subst hw''; have hq := below_regrown wr dq osq; revert hq; generalize grow (redrawn wr dq) osq = w2; intro hq
   have hB2 := Below.on hB hq hB.size
   clear hq gl0 gl1
   go_wp2_with fail
   go_ret
   exact ⟨by rw [C1.out]; rfl, hB2⟩
  cases h2 : formB tm am p.2
  ·
   have C1 : Hid (pairsB tm am ps = false) := pairsB_false Hp.out (by simp [pairB, h2])
   go_wp2_with fail
   refine Go.wp_region_quiet_below (by kernel_rfl) (by kernel_rfl) ?_
   repeat (first | go_big_quiet_step ((first | exact Calls.regrown_of (l03Form_i Hq1.out Hq2.out (e1.below (below_regrown _ _ _))) | exact Calls.regrown_of (l03Form_i Hq1.out Hq2.out (e2.below (below_regrown _ _ _))))) | quiet_step ((first | exact Calls.regrown_of (l03Form_i Hq1.out Hq2.out (e1.below (below_regrown _ _ _))) | exact Calls.regrown_of (l03Form_i Hq1.out Hq2.out (e2.below (below_regrown _ _ _))))))
   refine wpQuiet_nil ?_; intro _ hw'; obtain ⟨⟨dq, osq⟩, hw''⟩ := hw'; subst hw''; have hq := below_regrown wr dq osq; revert hq; generalize grow (redrawn wr dq) osq = w2; intro hq
   have hB2 := Below.on hB hq hB.size
   clear hq gl0 gl1
   go_wp2_with fail
   go_ret
   exact ⟨by rw [C1.out]; rfl, hB2⟩
  have Hpre2 : Hid (∀ (j : Nat) (p : Ex × Ex), j < k + 1 → ps[j]? = some p → pairB tm am p = true) := by
   show ∀ (j : Nat) (p : Ex × Ex), _
   intro j q hj hq
   by_cases hjk : j = k
   ·
    subst hjk
    have := Hp.out
    rw [hq] at this
    cases this
    simp [pairB, h1, h2]
   ·
    exact Hpre.out j q (by omega) hq
  clear Hpre
  go_wp2_with fail
  refine Go.wp_region_quiet_below (by kernel_rfl) (by kernel_rfl) ?_
  repeat (first | go_big_quiet_step ((first | exact Calls.regrown_of (l03Form_i Hq1.out Hq2.out (e1.below (below_regrown _ _ _))) | exact Calls.regrown_of (l03Form_i Hq1.out Hq2.out (e2.below (below_regrown _ _ _))))) | quiet_step ((first | exact Calls.regrown_of (l03Form_i Hq1.out Hq2.out (e1.below (below_regrown _ _ _))) | exact Calls.regrown_of (l03Form_i Hq1.out Hq2.out (e2.below (below_regrown _ _ _))))))
  refine wpQuiet_nil ?_; intro _ hw'; obtain ⟨⟨dq, osq⟩, hw''⟩ := hw'; subst hw''; have hq := below_regrown wr dq osq; revert hq; generalize grow (redrawn wr dq) osq = w2; intro hq
  have hB2 := Below.on hB hq hB.size
  have L2 := L.below hq
  clear hq gl0 gl1
  go_wp2_with fail
  go_roundw
  case rel => exact ⟨k + 1, by omega, by go_num, Hpre2, L2, hB2⟩
  case measure => simp [intOf]; omega
end Go.Proofs.YtcokljhamhgelaaGreatDoor
