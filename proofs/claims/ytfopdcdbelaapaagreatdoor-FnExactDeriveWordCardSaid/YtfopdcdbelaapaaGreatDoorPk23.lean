/-
  Parts of a proof, joined: DerUS, DerU, DerT, Word, MarkW, Run, DwP. No condition.
-/
import Derived.Test.YtfopdcdbelaapaaGreatDoorPk16
import Derived.Test.YtfopdcdbelaapaaGreatDoorPk22
namespace Go.Proofs.YtfopdcdbelaapaaGreatDoor
set_option linter.unusedVariables false
set_option linter.unusedSimpArgs false
open Go.ChangeShapes Go.WideShapes Go.ChangeAt Go.RowKit Go.Deep Go.Sort
theorem step_some' {tm am m x : Int} (ht2 : tm ≤ 2) (ha : am ≤ 8) (h0 : 0 ≤ m) (h7 : m ≤ 7) {e d : Ex} {b o : Nat} {w : World} (hx : ExAt w b o e) (htr : e.tree tm am = true) (hs : e.size ≤ 10000) (ho : Hid (e.step m x = some d)) :
  Calls Tryz.prog 70 #[.pointer (some ⟨b, o, none⟩), .int .i64 m, .int .i64 x] w fun f w' => ∃ s' c', f = .returned (.tuple #[.agg #[.int .i64 d.kind, .int .i64 d.num, .slice s' d.kids.length c'], .bool true]) ∧ Freshs w w' [kidsD d.kids] [.slice s' d.kids.length c'] ∧ Below w.heap.size w w' := by
 have := l02Step_all tm am m x ht2 ha h0 h7 _ e b o w (Nat.le_refl _) hx htr hs
 rw [ho.out] at this
 exact this.mono fun _ _ ⟨y, s', c', h1, h2, h3⟩ => by obtain ⟨rfl, h4⟩ := h2 d rfl; exact ⟨s', c', h1, h4, h3⟩
theorem step_none' {tm am m x : Int} (ht2 : tm ≤ 2) (ha : am ≤ 8) (h0 : 0 ≤ m) (h7 : m ≤ 7) {e : Ex} {b o : Nat} {w : World} (hx : ExAt w b o e) (htr : e.tree tm am = true) (hs : e.size ≤ 10000) (ho : Hid (e.step m x = none)) :
  Calls Tryz.prog 70 #[.pointer (some ⟨b, o, none⟩), .int .i64 m, .int .i64 x] w fun f w' => ∃ (y : Ex) (s' : Option Addr) (c' : Nat), f = .returned (.tuple #[.agg #[.int .i64 y.kind, .int .i64 y.num, .slice s' y.kids.length c'], .bool false]) ∧ Below w.heap.size w w' := by
 have := l02Step_all tm am m x ht2 ha h0 h7 _ e b o w (Nat.le_refl _) hx htr hs
 rw [ho.out] at this
 exact this.mono fun _ _ ⟨y, s', c', h1, h2, h3⟩ => ⟨y, s', c', h1, h3⟩
end Go.Proofs.YtfopdcdbelaapaaGreatDoor

namespace Go.Proofs.YtfopdcdbelaapaaGreatDoor
set_option linter.unusedVariables false
set_option linter.unusedSimpArgs false
open Go.ChangeShapes Go.WideShapes Go.ChangeAt Go.RowKit Go.Deep Go.Sort
theorem derived_some {tm am m x : Int} (ht2 : tm ≤ 2) (ha : am ≤ 8) (h0 : 0 ≤ m) (h7 : m ≤ 7) {X : Nat → Prop} {e d : Ex} {s : Option Addr} {c : Nat} {w : World} (hX : ∀ b, X b → b < w.heap.size) (hx : ExX X w e s c) (htr : e.tree tm am = true) (hs : e.size ≤ 10000) (ho : Hid (e.step m x = some d)) :
  Calls Tryz.prog 77 #[.agg #[.int .i64 e.kind, .int .i64 e.num, .slice s e.kids.length c], .int .i64 m, .int .i64 x] w fun f w' => ∃ s' c', f = .returned (.tuple #[.agg #[.int .i64 d.kind, .int .i64 d.num, .slice s' d.kids.length c'], .bool true]) ∧ ExX X w' d s' c' ∧ Below w.heap.size w w' := by
 have := derived_all tm am m x ht2 ha h0 h7 _ e X s c w (Nat.le_refl _) hX hx htr hs
 rw [ho.out] at this
 exact this
theorem derived_none {tm am m x : Int} (ht2 : tm ≤ 2) (ha : am ≤ 8) (h0 : 0 ≤ m) (h7 : m ≤ 7) {X : Nat → Prop} {e : Ex} {s : Option Addr} {c : Nat} {w : World} (hX : ∀ b, X b → b < w.heap.size) (hx : ExX X w e s c) (htr : e.tree tm am = true) (hs : e.size ≤ 10000) (ho : Hid (e.step m x = none)) :
  Calls Tryz.prog 77 #[.agg #[.int .i64 e.kind, .int .i64 e.num, .slice s e.kids.length c], .int .i64 m, .int .i64 x] w fun f w' => ∃ s' c', f = .returned (.tuple #[.agg #[.int .i64 0, .int .i64 0, .slice s' 0 c'], .bool false]) ∧ Below w.heap.size w w' := by
 have := derived_all tm am m x ht2 ha h0 h7 _ e X s c w (Nat.le_refl _) hX hx htr hs
 rw [ho.out] at this
 exact this.mono fun _ _ ⟨s', c', h1, _, h3⟩ => ⟨s', c', h1, h3⟩
end Go.Proofs.YtfopdcdbelaapaaGreatDoor

namespace Go.Proofs.YtfopdcdbelaapaaGreatDoor
set_option linter.unusedVariables false
set_option linter.unusedSimpArgs false
open Go.ChangeShapes Go.WideShapes Go.ChangeAt Go.RowKit Go.Deep Go.Sort
theorem okB_bd3 {t a : Int} {e : Ex} (h : okB t a e = true) : t - 1 ≤ 2 ∧ a - 1 ≤ 8 ∧ e.size ≤ 200 ∧ e.tree (t - 1) (a - 1) = true := by
 have h1 := sigB_bd (okB_sig h)
 obtain ⟨-, -, h3⟩ := okB_bd h
 exact ⟨by omega, by omega, h3, okB_tree h⟩
end Go.Proofs.YtfopdcdbelaapaaGreatDoor

namespace Go.Proofs.YtfopdcdbelaapaaGreatDoor
set_option linter.unusedVariables false
set_option linter.unusedSimpArgs false
open Go.ChangeShapes Go.WideShapes Go.ChangeAt Go.RowKit
def SzR (n : Nat) (left : Int) (e : Ending) : Prop := ∃ r : Int, e = .returned (.int .i64 r) ∧ r ≤ left ∧ -1 ≤ r ∧ (0 ≤ r → (n : Int) + r ≤ left)
theorem szWord_i {xs ys : List Int} {s t : Option Addr} {c d : Nat} {left : Int} {w : World} (hr : Rd w (intsD xs) (.slice s xs.length c)) (hr' : Rd w (intsD ys) (.slice t ys.length d)) (h0 : 0 ≤ left) (h1 : left ≤ 1048576) :
  Calls Tryz.prog 15 #[.agg #[.slice s xs.length c, .slice t ys.length d], .int .i64 left] w fun e w' => SzR (xs.length + ys.length) left e ∧ Below w.heap.size w w' := by
 go_enter Tryz.func15, Tryz.ntmps15
 go_wp2_with fail
 refine (szInt64S_any _ _ _ _ _ (hr.alloc _) h0 h1).mono ?_
 rintro e w1 ⟨⟨r, rfl, r1, r2, r3⟩, rfl⟩
 by_cases hneg : r < 0
 ·
  go_wp2_with fail
  go_ret
  exact ⟨⟨-1, rfl, by omega, by omega, by omega⟩, by (repeat' first | exact Below.refl _ _ | assumption | apply Below.alloc | apply Below.drew | apply Below.setCell | omega | (simp; done) | (simp; omega))⟩
 ·
  have hd : decide (r < 0) = false := by simpa using hneg
  have r4 := r3 (by omega)
  clear r3
  go_wp2_with fail
  refine (szInt64S_any _ _ _ _ _ (hr'.alloc _) (by omega) (by omega)).mono ?_
  rintro e w1 ⟨⟨q, rfl, q1, q2, q3⟩, rfl⟩
  by_cases hneg' : q < 0
  ·
   go_wp2_with fail
   go_ret
   exact ⟨⟨-1, rfl, by omega, by omega, by omega⟩, by (repeat' first | exact Below.refl _ _ | assumption | apply Below.alloc | apply Below.drew | apply Below.setCell | omega | (simp; done) | (simp; omega))⟩
  ·
   have hd' : decide (q < 0) = false := by simpa using hneg'
   have q4 := q3 (by omega)
   clear q3
   go_wp2_with fail
   go_ret
   exact ⟨⟨q, rfl, by omega, by omega, by omega⟩, by (repeat' first | exact Below.refl _ _ | assumption | apply Below.alloc | apply Below.drew | apply Below.setCell | omega | (simp; done) | (simp; omega))⟩
theorem toWord_i {xs ys : List Int} {s t : Option Addr} {c d : Nat} {w : World} (hr : Rd w (intsD xs) (.slice s xs.length c)) (hr' : Rd w (intsD ys) (.slice t ys.length d)) (h1 : xs.length + ys.length ≤ 1048576) :
  Calls Tryz.prog 19 #[.agg #[.slice s xs.length c, .slice t ys.length d]] w fun e w' => ∃ s' c' t' d', e = .returned (.agg #[.slice s' xs.length c', .slice t' ys.length d']) ∧
   Freshs w w' [intsD xs, intsD ys] [.slice s' xs.length c', .slice t' ys.length d'] ∧ Below w.heap.size w w' := by
 go_enter Tryz.func19, Tryz.ntmps19
 go_wp2_with fail
 have L := ((Blk.new2 w 29 (.slice s xs.length c) (.slice t ys.length d)).alloc (.cells #[.slice none 0 0, .slice none 0 0] 40)).alloc (.cells #[.slice none 0 0, .slice none 0 0] 40)
 have M := (Blk.new2 (w.alloc (.cells #[.slice s xs.length c, .slice t ys.length d] 29)) 40 (.slice none 0 0) (.slice none 0 0)).alloc (.cells #[.slice none 0 0, .slice none 0 0] 40)
 have N := (Blk.new2 ((w.alloc (.cells #[.slice s xs.length c, .slice t ys.length d] 29)).alloc (.cells #[.slice none 0 0, .slice none 0 0] 40)) 40 (.slice none 0 0) (.slice none 0 0))
 refine (toInt64S_any xs s c _ (by repeat (first | exact hr | apply Rd.alloc)) (by omega)).mono ?_
 rintro e w1 ⟨s1, c1, rfl, hf1, hb⟩
 have hB : Below w.heap.size w w1 := Below.on (by (repeat' first | exact Below.refl _ _ | assumption | apply Below.alloc | apply Below.drew | apply Below.setCell | omega | (simp; done) | (simp; omega))) hb (by simp; omega)
 have hz1 := hb.size
 simp at hz1
 replace L := L.below hb
 replace M := M.below hb
 replace N := N.below hb
 simp at M N
 clear hb
 have l1 := L.c1
 have n0 := N.c0
 have z0 := N.frozen 0
 go_wp2_with fail
 have hB1 : Below w.heap.size w (w1.setCell ⟨w.heap.size + 1 + 1, 0, none⟩ (.slice s1 xs.length c1)) := by (repeat' first | exact Below.refl _ _ | assumption | apply Below.alloc | apply Below.drew | apply Below.setCell | omega | (simp; done) | (simp; omega))
 obtain ⟨wa, hwa, hf1⟩ : ∃ wa : World, wa.heap.size = w.heap.size + 1 + 1 + 1 ∧ Fresh wa w1 (intsD xs) (.slice s1 xs.length c1) := ⟨_, by simp, hf1⟩
 have hf1' : Fresh wa (w1.setCell ⟨w.heap.size + 1 + 1, 0, none⟩ (.slice s1 xs.length c1)) (intsD xs) (.slice s1 xs.length c1) :=
  hf1.keep fun b h1 _ => Below.heap_setCell _ _ _ _ (by simp; omega)
 have Hwa := Lib.hid hwa
 clear hwa
 replace M := M.other (p := ⟨w.heap.size + 1 + 1, 0, none⟩) (by simp) (.slice s1 xs.length c1)
 replace N := N.set 0 (.slice s1 xs.length c1)
 simp at N
 have hz2 : w.heap.size + 1 + 1 + 1 ≤ (w1.setCell ⟨w.heap.size + 1 + 1, 0, none⟩ (.slice s1 xs.length c1)).heap.size := by simpa [World.setCell] using hz1
 clear l1 n0 z0 hf1 hB L hz1
 revert hB1 hf1' M N hz2
 generalize w1.setCell ⟨w.heap.size + 1 + 1, 0, none⟩ (.slice s1 xs.length c1) = w2
 intro hB1 hf1 M N hz2
 refine (toInt64S_any ys t d _ (hr'.below hB1) (by omega)).mono ?_
 rintro e w3 ⟨s2, c2, rfl, hf2, hb⟩
 replace hf2 := Freshs.cons hf1 (Freshs.one hf2) hb (by have := Hwa.out; omega)
 have hB := Below.on hB1 hb hB1.size
 have hz3 := hb.size
 replace M := M.below hb
 replace N := N.below hb
 clear hb hB1 hf1
 have n1 := N.c1
 have n0 := N.c0
 have m0 := M.c0
 have m1 := M.c1
 have z1 := N.frozen 1
 have y0 := M.frozen 0
 have y1 := M.frozen 1
 go_wp2
 refine bodyPost_ret (v := .agg #[.slice s1 xs.length c1, .slice s2 ys.length c2]) (by simp [results, Tryz.results19, go_sem, m0, m1]) rfl ⟨s1, c1, s2, c2, rfl, ?_, by (repeat' first | exact Below.refl _ _ | assumption | apply Below.alloc | apply Below.drew | apply Below.setCell | omega | (simp; done) | (simp; omega))⟩
 have hwa := Hwa.out
 refine Freshs.from (hf2.keep fun b h1 _ => ?_) (by omega)
 rw [Below.heap_setCell _ _ _ _ (by simp; omega), Below.heap_setCell _ _ _ _ (by simp; omega), Below.heap_setCell _ _ _ _ (by simp; omega)]
theorem eqWord_i {xs ys xs' ys' : List Int} {s t s' t' : Option Addr} {c d c' d' : Nat} {w : World} (hr : Rd w (intsD xs) (.slice s xs.length c)) (hr2 : Rd w (intsD ys) (.slice t ys.length d))
  (hr' : Rd w (intsD xs') (.slice s' xs'.length c')) (hr2' : Rd w (intsD ys') (.slice t' ys'.length d')) :
  Calls Tryz.prog 22 #[.agg #[.slice s xs.length c, .slice t ys.length d], .agg #[.slice s' xs'.length c', .slice t' ys'.length d']] w fun e w' => e = .returned (.bool (eqb xs xs' && eqb ys ys')) ∧ Below w.heap.size w w' := by
 go_enter Tryz.func22, Tryz.ntmps22
 go_wp2_with fail
 have L := (Blk.new2 w 40 (.slice s xs.length c) (.slice t ys.length d)).alloc (.cells #[.slice s' xs'.length c', .slice t' ys'.length d'] 40)
 have M := Blk.new2 (w.alloc (.cells #[.slice s xs.length c, .slice t ys.length d] 40)) 40 (.slice s' xs'.length c') (.slice t' ys'.length d')
 refine (eqInt64S_any xs xs' _ _ _ _ _ (by repeat (first | exact hr | apply Rd.alloc)) (by repeat (first | exact hr' | apply Rd.alloc))).mono ?_
 rintro e w1 ⟨rfl, hb⟩
 have hB : Below w.heap.size w w1 := Below.on (by (repeat' first | exact Below.refl _ _ | assumption | apply Below.alloc | apply Below.drew | apply Below.setCell | omega | (simp; done) | (simp; omega))) hb (by simp; omega)
 replace L := L.below hb
 replace M := M.below hb
 simp at M
 clear hb
 have l1 := L.c1
 have m1 := M.c1
 cases h1 : eqb xs xs'
 ·
  go_wp2_with fail
  go_ret
  exact ⟨ret_bool (by rw [h1]; rfl), hB⟩
 ·
  go_wp2_with fail
  refine (eqInt64S_any ys ys' _ _ _ _ _ (hr2.below hB) (hr2'.below hB)).mono ?_
  rintro e w2 ⟨rfl, hb⟩
  replace hB := Below.on hB hb hB.size
  clear hb
  cases h2 : eqb ys ys'
  all_goals
   go_wp2_with fail
   go_ret
   exact ⟨ret_bool (by rw [h1, h2]; rfl), hB⟩
end Go.Proofs.YtfopdcdbelaapaaGreatDoor

namespace Go.Proofs.YtfopdcdbelaapaaGreatDoor
set_option linter.unusedVariables false
set_option linter.unusedSimpArgs false
open Go.ChangeShapes Go.WideShapes Go.ChangeAt Go.RowKit Go.Sort
theorem markInt64S_i {zs : List Int} {s : Option Addr} {c k : Nat} {F : List Nat} {w : World} (h : Ow w (intsD zs) (.slice s zs.length c) F) (hn : F.Nodup) (hk : k ≤ 1000000000000) (hlen : zs.length ≤ 1000000000000) :
  Calls Tryz.prog 81 #[.slice s zs.length c, .int .i64 k] w fun e w' => e = .returned (.int .i64 (k + zs.length : Nat)) ∧ Ow w' (D.mark (intsD zs) k) (.slice s zs.length c) F ∧ Only F w w' := by
 have H0 : Ow w (.sl 1 zs.length (mkd (zs.map D.int) 0 k)) (.slice s zs.length c) F := by rw [mkd_zero]; exact h
 go_enter Tryz.func81, Tryz.ntmps81
 go_wp2_with fail
 go_loopw [1, 5] (fun q i wr => ∃ j : Nat, j ≤ zs.length ∧ i = .int .i64 j ∧ q = .int .i64 (k + j : Nat) ∧ Ow wr (.sl 1 zs.length (mkd (zs.map D.int) j k)) (.slice s zs.length c) F ∧ Only F w wr) (fun _ i _ => zs.length - (intOf i).toNat)
 case atStart => exact ⟨0, by omega, rfl, rfl, H0, Only.refl _ _⟩
 case round =>
  clear h H0
  obtain ⟨j, hj, rfl, rfl, h, hO⟩ := hrel
  by_cases hlt : j < zs.length
  ·
   obtain ⟨z, hz⟩ : ∃ e, zs[j]? = some e := ⟨_, List.getElem?_eq_getElem hlt⟩
   obtain ⟨b, o, rfl⟩ := h.spot (by omega)
   have hat := mkd_at (ints_at hz) (Nat.le_refl j) k
   obtain ⟨g0, g1, g2, g3⟩ := h.int_cell hn hat
   have Hst : Hid (Ow (wr.setCell ⟨b, o + j, none⟩ (.int .i64 (k + j : Nat))) (.sl 1 zs.length (mkd (zs.map D.int) (j + 1) k)) (.slice (some ⟨b, o, none⟩) zs.length c) F ∧ Only F w (wr.setCell ⟨b, o + j, none⟩ (.int .i64 (k + j : Nat)))) := by
    obtain ⟨q1, q2⟩ := g3 (k + j : Nat)
    refine ⟨?_, hO.trans q2⟩
    have e := mkd_step (ints_at hz) k
    rw [ints_take _ _ hj] at e
    rw [← e]
    exact q1
   clear g3 hat
   go_wp2_with fail
   go_roundw
   case rel => exact ⟨j + 1, by omega, by go_num, by go_num, Hst.out.1, Hst.out.2⟩
   case measure => simp [intOf]; omega
  ·
   obtain rfl : j = zs.length := by omega
   have e := mkd_all (zs.map D.int) k
   rw [List.length_map] at e
   rw [e] at h
   go_wp2_with fail
   go_ret
   exact ⟨rfl, h, hO⟩
theorem Ows.two {w : World} {d e : D} {u v : Value} {F : List Nat} (h : Ows w [d, e] [u, v] F) : ∃ G K, F = G ++ K ∧ Ow w d u G ∧ Ow w e v K := by
 simp only [Ows] at h
 obtain ⟨x, r, G, K, e1, rfl, h1, y, q, A, B, e2, rfl, h2, e3, rfl⟩ := h
 simp only [List.cons.injEq] at e1
 obtain ⟨rfl, rfl⟩ := e1
 simp only [List.cons.injEq] at e2
 obtain ⟨rfl, _⟩ := e2
 exact ⟨G, A, by simp, h1, h2⟩
theorem Ows.mk2 {w : World} {d e : D} {u v : Value} {G K : List Nat} (h : Ow w d u G) (k : Ow w e v K) : Ows w [d, e] [u, v] (G ++ K) := by
 have := Ows.cons h (Ows.cons k Ows.nil)
 simpa using this
def wordD (xs ys : List Int) : List D := [intsD xs, intsD ys]
theorem markWord_i {xs ys : List Int} {s t : Option Addr} {c d k : Nat} {F : List Nat} {w : World} (h : Ows w (wordD xs ys) [.slice s xs.length c, .slice t ys.length d] F) (hn : F.Nodup) (hk : k ≤ 100000000000) (hx : xs.length ≤ 100000000000) (hy : ys.length ≤ 100000000000) :
  Calls Tryz.prog 24 #[.agg #[.slice s xs.length c, .slice t ys.length d], .int .i64 k] w fun e w' => e = .returned (.int .i64 (k + xs.length + ys.length : Nat)) ∧
   Ows w' (D.markL (wordD xs ys) k) [.slice s xs.length c, .slice t ys.length d] F ∧ Only F w w' := by
 obtain ⟨G, K, rfl, h1, h2⟩ := h.two
 rw [List.nodup_append] at hn
 obtain ⟨nG, nK, dis⟩ := hn
 have gl := h1.lt
 have kl := h2.lt
 go_enter Tryz.func24, Tryz.ntmps24
 go_wp2_with fail
 have L := Blk.new2 w 40 (.slice s xs.length c) (.slice t ys.length d)
 have h1' := h1.keep (w' := w.alloc (.cells #[.slice s xs.length c, .slice t ys.length d] 40)) fun b hb => Below.heap_alloc w _ b (gl b hb)
 have h2' := h2.keep (w' := w.alloc (.cells #[.slice s xs.length c, .slice t ys.length d] 40)) fun b hb => Below.heap_alloc w _ b (kl b hb)
 have hO : Only (G ++ K) w (w.alloc (.cells #[.slice s xs.length c, .slice t ys.length d] 40)) := (Only.refl _ _).alloc _
 generalize w.alloc (.cells #[.slice s xs.length c, .slice t ys.length d] 40) = w0 at L h1' h2' hO ⊢
 refine (markInt64S_i h1' nG (by omega) (by omega)).mono ?_
 rintro e w1 ⟨rfl, m1, o1⟩
 replace L := L.keep (o1.block _ L.lt (fun hm => by have := gl _ hm; omega))
 have h2'' := h2'.keep fun b hb => o1.block b (h2'.lt b hb) (fun hm => dis b hm b hb rfl)
 replace hO := hO.trans (o1.more fun b hb => List.mem_append_left K hb)
 clear o1
 have l1 := L.c1
 go_wp2_with fail
 refine (markInt64S_i h2'' nK (by omega) (by omega)).mono ?_
 rintro e w2 ⟨rfl, m2, o2⟩
 have m1' := m1.keep fun b hb => o2.block b (m1.lt b hb) (fun hm => dis b hb b hm rfl)
 replace hO := hO.trans (o2.more fun b hb => List.mem_append_right G hb)
 have e1 : D.markL (wordD xs ys) k = [D.mark (intsD xs) k, D.mark (intsD ys) (k + xs.length)] := by
  simp only [wordD, D.markL]
  rw [show D.marks (intsD xs) = xs.length from marksL_ints xs]
 clear o2 l1
 go_wp2_with fail
 go_ret
 exact ⟨rfl, by rw [e1]; exact Ows.mk2 m1' m2, hO⟩
end Go.Proofs.YtfopdcdbelaapaaGreatDoor

namespace Go.Proofs.YtfopdcdbelaapaaGreatDoor
set_option linter.unusedVariables false
set_option linter.unusedSimpArgs false
open Go.ChangeShapes Go.WideShapes Go.ChangeAt Go.RowKit Go.Sort
theorem allIn_at {zs : List Int} {n : Int} {i : Nat} {z : Int} (h : allIn zs n = true) (hz : zs[i]? = some z) : ∃ m : Nat, z = (m : Int) ∧ (m : Int) < n := by
 unfold allIn at h
 rw [List.all_eq_true] at h
 have := h z (List.mem_of_getElem? hz)
 simp only [inB, Bool.and_eq_true, decide_eq_true_eq] at this
 exact ⟨z.toNat, by omega, by omega⟩
theorem wordB_parts {t a : Int} {xs ys : List Int} (h : wordB t a xs ys = true) : ys.length ≤ 10 ∧ xs.length = ys.length + 1 ∧ allIn xs (atomsN t) = true ∧ allIn ys a = true := by
 simp only [wordB, Bool.and_eq_true, decide_eq_true_eq] at h
 exact ⟨h.1.1.1.2, h.1.1.2, h.1.2, h.2⟩
theorem Blk.wdAt {w : World} {g T : Nat} {xs ys : List Int} {s u : Option Addr} {c d : Nat} (L : Blk w g T [.slice s xs.length c, .slice u ys.length d]) (hr : Rd w (intsD xs) (.slice s xs.length c)) (hq : Rd w (intsD ys) (.slice u ys.length d)) : WdAt w g 0 xs ys :=
 ⟨_, _, _, _, L.c0, L.c1, hr, hq⟩
end Go.Proofs.YtfopdcdbelaapaaGreatDoor

namespace Go.Proofs.YtfopdcdbelaapaaGreatDoor
set_option linter.unusedVariables false
set_option linter.unusedSimpArgs false
open Go.ChangeShapes Go.WideShapes Go.ChangeAt Go.RowKit Go.Deep
noncomputable def dwO (e : Ex) (xs ys : List Int) : Nat → Option Ex
 | 0 => some e
 | k + 1 => (dwO e xs ys k).bind fun d => d.step (xs.getD k 0) (ys.getD k 0)
theorem dwO_succ {e d : Ex} {xs ys : List Int} {k : Nat} {m x : Int} (h : dwO e xs ys k = some d) (hx : xs[k]? = some m) (hy : ys[k]? = some x) : dwO e xs ys (k + 1) = d.step m x := by
 simp only [dwO, h, Option.bind_some]
 rw [List.getD_eq_getElem?_getD, List.getD_eq_getElem?_getD, hx, hy]
 rfl
theorem dwO_none {e : Ex} {xs ys : List Int} {k : Nat} (h : dwO e xs ys k = none) : ∀ j, dwO e xs ys (k + j) = none
 | 0 => h
 | j + 1 => by
  have := dwO_none h j
  show (dwO e xs ys (k + j)).bind _ = none
  rw [this]
  rfl
theorem dwO_spec {tm am : Int} {e : Ex} {xs ys : List Int} (ht : e.tree tm am = true) (hs : e.size ≤ 200) : ∀ (k : Nat) (d : Ex), dwO e xs ys k = some d → d.tree tm am = true ∧ d.size ≤ 800
 | 0, d, h => by
  simp only [dwO, Option.some.injEq] at h
  subst h
  exact ⟨ht, by omega⟩
 | k + 1, d, h => by
  simp only [dwO] at h
  obtain ⟨y, hy, hd⟩ := Option.bind_eq_some_iff.1 h
  exact step_spec tm am _ _ _ y d (Nat.le_refl _) (dwO_spec ht hs k y hy).1 hd
noncomputable def dwE (t a : Int) (xs ys : List Int) (e : Ex) : Ex := if (okB t a e && wordB t a xs ys) = true then (if ys.length = 0 then e.tidy else optE (dwO e xs ys ys.length)) else .mk 0 0 []
noncomputable def dwC (t a : Int) (xs ys : List Int) (e : Ex) : Int := if (okB t a e && wordB t a xs ys) = true then (if ys.length = 0 then 0 else if (dwO e xs ys ys.length).isSome then 0 else 3) else 1
theorem dw_bad {t a : Int} {xs ys : List Int} {e : Ex} (h : (okB t a e && wordB t a xs ys) = false) : dwE t a xs ys e = .mk 0 0 [] ∧ dwC t a xs ys e = 1 := by
 unfold dwE dwC
 rw [h]
 exact ⟨rfl, rfl⟩
theorem dw_empty {t a : Int} {xs ys : List Int} {e : Ex} (h : (okB t a e && wordB t a xs ys) = true) (hy : ys.length = 0) : dwE t a xs ys e = e.tidy ∧ dwC t a xs ys e = 0 := by
 unfold dwE dwC
 rw [if_pos h, if_pos h, if_pos hy, if_pos hy]
 exact ⟨rfl, rfl⟩
theorem dw_some {t a : Int} {xs ys : List Int} {e d : Ex} (h : (okB t a e && wordB t a xs ys) = true) (hy : ¬ ys.length = 0) (hd : dwO e xs ys ys.length = some d) : dwE t a xs ys e = d ∧ dwC t a xs ys e = 0 := by
 unfold dwE dwC
 rw [if_pos h, if_pos h, if_neg hy, if_neg hy, hd]
 exact ⟨rfl, rfl⟩
theorem dw_none {t a : Int} {xs ys : List Int} {e : Ex} (h : (okB t a e && wordB t a xs ys) = true) (hy : ¬ ys.length = 0) {k : Nat} (hk : k ≤ ys.length) (hd : dwO e xs ys k = none) : dwE t a xs ys e = .mk 0 0 [] ∧ dwC t a xs ys e = 3 := by
 have hl : dwO e xs ys ys.length = none := by
  have := dwO_none hd (ys.length - k)
  rwa [show k + (ys.length - k) = ys.length by omega] at this
 unfold dwE dwC
 rw [if_pos h, if_pos h, if_neg hy, if_neg hy, hl]
 exact ⟨rfl, rfl⟩
theorem dwE_size (t a : Int) (xs ys : List Int) (e : Ex) : Ex.sizeL (dwE t a xs ys e).kids ≤ 800 := by
 have key : ∀ d : Ex, d.size ≤ 800 → Ex.sizeL d.kids ≤ 800 := fun d h => by have := Ex.size_eq d; omega
 cases h : (okB t a e && wordB t a xs ys)
 ·
  rw [(dw_bad h).1]
  simp [Ex.kids, Ex.sizeL]
 ·
  have hok := (Bool.and_eq_true .. ▸ h : okB t a e = true ∧ wordB t a xs ys = true).1
  obtain ⟨-, -, hs, htr⟩ := okB_bd3 hok
  by_cases hy : ys.length = 0
  ·
   rw [(dw_empty h hy).1]
   have := (tidy_spec _ _ _ e (Nat.le_refl _) htr).2
   exact key _ (by omega)
  ·
   cases hd : dwO e xs ys ys.length with
   | none =>
    rw [(dw_none h hy (Nat.le_refl _) hd).1]
    simp [Ex.kids, Ex.sizeL]
   | some d =>
    rw [(dw_some h hy hd).1]
    exact key _ (dwO_spec htr hs _ d hd).2
theorem word_at {t a : Int} {xs ys : List Int} (h : wordB t a xs ys = true) {k : Nat} (hk : k < ys.length) : ∃ m x : Nat, xs[k]? = some (m : Int) ∧ ys[k]? = some (x : Int) ∧ (m : Int) < atomsN t ∧ (x : Int) < a := by
 obtain ⟨-, hl, h1, h2⟩ := wordB_parts h
 obtain ⟨y, hy⟩ : ∃ y, ys[k]? = some y := ⟨_, List.getElem?_eq_getElem hk⟩
 obtain ⟨z, hz⟩ : ∃ z, xs[k]? = some z := ⟨_, List.getElem?_eq_getElem (by omega)⟩
 obtain ⟨m, rfl, hm⟩ := allIn_at h1 hz
 obtain ⟨x, rfl, hx⟩ := allIn_at h2 hy
 exact ⟨m, x, hz, hy, hm, hx⟩
end Go.Proofs.YtfopdcdbelaapaaGreatDoor
