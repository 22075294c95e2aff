/-
  Parts of a proof, joined: SpnI, Cut, SpnW, SpLa, SpLb. No condition.
-/
import Derived.BigRegion
import Derived.Test.YtbflhjjnemdecaaPk5
namespace Go.Proofs.Ytbflhjjnemdecaa
set_option linter.unusedVariables false
set_option linter.unusedSimpArgs false
open Go.ChangeShapes Go.WideShapes Go.ChangeAt Go.RowKit Go.Deep Go.Sort
theorem set_mid {α : Type} {A : List α} {z v : α} {n k : Nat} (hA : A.length = k) (hk : k < n) : (A ++ List.replicate (n - k) z).set k v = (A ++ [v]) ++ List.replicate (n - (k + 1)) z := by
 subst hA
 rw [List.set_append_right _ _ (Nat.le_refl _), Nat.sub_self, show n - A.length = (n - (A.length + 1)) + 1 by omega, List.replicate_succ, List.set_cons_zero, List.append_assoc]
 rfl
theorem mid_at {α : Type} {A : List α} {z : α} {n k : Nat} (hA : A.length = k) (hk : k < n) : (A ++ List.replicate (n - k) z)[k]? = some z := by
 subst hA
 rw [List.getElem?_append_right (Nat.le_refl _), Nat.sub_self, List.getElem?_replicate, if_pos (by omega)]
def rowV (n : Nat) (x : Nat) : Value := .slice (some ⟨x, 0, none⟩) n n
set_option maxRecDepth 100000 in
set_option maxHeartbeats 8000000 in
theorem newSpans_i {n : Nat} {w : World} (hn : 1 ≤ n) (hn2 : n ≤ 1000) :
  Calls Try.prog 145 #[.int .i64 n] w fun e w' => ∃ g gs, e = .returned (.slice (some ⟨g, 0, none⟩) n n) ∧ SpW w.heap.size n g gs (fun _ _ => false) w' ∧ Below w.heap.size w w' := by
 have hn0 := Int.natCast_nonneg n
 obtain ⟨i0, hi, hz0, hz1, hz2⟩ := info_parts info_bls
 obtain ⟨i1, hi1, ho0, ho1, ho2⟩ := info_parts info_bl
 go_enter Try.func145, Try.ntmps145
 go_wp2_with (at_make; go_must (refine wpList_make_full _ rfl _ _ 131 rfl w.heap.size 114 i0 (.slice none 0 0) 1 Try.underlying131 hi hz0 hz1 .i64 .i64 _ _ n rfl rfl rfl rfl (by rw [hz2]; omega) (by unfold maxLen; omega) (by simp) ?_); intro w1 hown hgrow)
 have hB1 : Below w.heap.size w w1 := Below.grown (Below.refl _ _) hgrow (by simp) (by simp)
 obtain ⟨hb0, -⟩ := made_blk (z := .slice none 0 0) rfl hown
 have Hst := Lib.hid (And.intro hb0 hB1)
 clear hown hgrow hb0 hB1
 go_loopw [9] (fun i wr => ∃ (k : Nat) (gs : List Nat), k ≤ n ∧ i = .int .i64 k ∧ gs.length = k ∧ Blk wr w.heap.size 114 (gs.map (rowV n) ++ List.replicate (n - k) (.slice none 0 0)) ∧ (∀ x ∈ gs, Blk wr x 4 ((List.replicate n false).map Value.bool) ∧ w.heap.size < x) ∧ gs.Nodup ∧ Below w.heap.size w wr) (fun i _ => n - (intOf i).toNat)
 case atStart => exact ⟨0, [], Nat.zero_le _, rfl, rfl, by simpa using Hst.out.1, by simp, by simp, Hst.out.2⟩
 case round =>
  clear Hst
  obtain ⟨k, gs, hk, rfl, hgl, hb, hrows, hnd, hB⟩ := hrel
  obtain ⟨wo, rfl⟩ : ∃ v, v = wr := ⟨_, rfl⟩
  have hk0 := Int.natCast_nonneg k
  have szB := hB.size
  by_cases hkn : k < n
  rotate_left
  ·
   obtain rfl : k = n := by omega
   rw [Nat.sub_self, List.replicate_zero, List.append_nil] at hb
   have hsp : SpW w.heap.size k w.heap.size gs (fun _ _ => false) wo := ⟨hb, hgl, fun i x hx => by rw [rowOf_const]; exact (hrows x (List.mem_of_getElem? hx)).1, hnd, Nat.le_refl _, fun x hx => by have := (hrows x hx).2; omega⟩
   have Hsp := Lib.hid hsp
   have HB := Lib.hid hB
   clear hb hrows hnd hB hsp
   go_wp2_with fail
   go_ret
   exact ⟨_, gs, rfl, Hsp.out, HB.out⟩
  have hkz : (k : Int) < (n : Int) := by omega
  have hgml : (gs.map (rowV n)).length = k := by rw [List.length_map]; exact hgl
  have Hb := Lib.hid hb
  have Hrows := Lib.hid hrows
  have Hnd := Lib.hid hnd
  have HB := Lib.hid hB
  have Hgl := Lib.hid hgl
  have Hset := Lib.hid (set_mid (v := rowV n wo.heap.size) (z := .slice none 0 0) hgml hkn)
  have Hat := Lib.hid (mid_at (z := .slice none 0 0) hgml hkn)
  have hbl := hb.lt
  clear hb hrows hnd hB hgl hgml
  go_wp2_with (at_make; go_must (refine wpList_make_full _ rfl _ _ 114 rfl wo.heap.size 4 i1 (.bool false) 1 Try.underlying114 hi1 ho0 ho1 .i64 .i64 _ _ n rfl rfl rfl rfl (by rw [ho2]; omega) (by unfold maxLen; omega) (by simp) ?_); intro w2 hown hgrow; have hb2 := Hb.out.keep (hgrow.block _ hbl (by simp)); have f0 := hb2.frozen k; have x0 := hb2.cell k; rw [Hat.out] at x0)
  have hB2 : Below wo.heap.size wo w2 := Below.grown (Below.refl _ _) hgrow (by simp) (by simp)
  obtain ⟨hbn, -⟩ := made_blk (z := .bool false) rfl hown
  have hbn1 : Blk w2 wo.heap.size 4 ((List.replicate n false).map Value.bool) := by simpa using hbn
  have hset := hb2.set k (rowV n wo.heap.size)
  rw [Hset.out] at hset
  have Hfin : Hid (Blk (w2.setCell ⟨w.heap.size, k, none⟩ (rowV n wo.heap.size)) w.heap.size 114 ((gs ++ [wo.heap.size]).map (rowV n) ++ List.replicate (n - (k + 1)) (.slice none 0 0)) ∧
    (∀ x ∈ gs ++ [wo.heap.size], Blk (w2.setCell ⟨w.heap.size, k, none⟩ (rowV n wo.heap.size)) x 4 ((List.replicate n false).map Value.bool) ∧ w.heap.size < x) ∧ (gs ++ [wo.heap.size]).Nodup ∧ Below w.heap.size w (w2.setCell ⟨w.heap.size, k, none⟩ (rowV n wo.heap.size))) := by
   refine ⟨by rw [List.map_append]; exact hset, fun x hx => ?_, ?_, Below.setCell (p := ⟨w.heap.size, k, none⟩) (HB.out.trans (hB2.mono szB)) (Nat.le_refl _) _⟩
   ·
    rcases List.mem_append.1 hx with hx | hx
    ·
     obtain ⟨q1, q2⟩ := Hrows.out x hx
     exact ⟨(q1.below hB2).other (p := ⟨w.heap.size, k, none⟩) (by simp; omega) _, q2⟩
    ·
     obtain rfl := List.mem_singleton.1 hx
     exact ⟨hbn1.other (p := ⟨w.heap.size, k, none⟩) (by simp; omega) _, hbl⟩
   ·
    rw [List.nodup_append]
    refine ⟨Hnd.out, by simp, fun x hx y hy => ?_⟩
    obtain rfl := List.mem_singleton.1 hy
    have := (Hrows.out x hx).1.lt
    omega
  clear hown hgrow hbn hbn1 hset hb2 f0 x0 hB2
  go_roundw
  case rel => exact ⟨k + 1, gs ++ [wo.heap.size], by omega, by go_num, by rw [List.length_append, Hgl.out]; rfl, Hfin.out⟩
  case measure => simp [intOf]; omega
theorem spares_put {X : Nat → Prop} {w w' : World} {p : Addr} (h : Spares X w w') (hp : X p.block) (v : Value) : Spares X w (w'.setCell p v) :=
 h.trans ⟨rfl, rfl, rfl, by simp, fun b _ hn => Below.heap_setCell _ _ _ _ (fun e => hn (by rw [e]; exact hp))⟩
theorem spares_drew {X : Nat → Prop} {w w' : World} (h : Spares X w w') : Spares X w w'.drew := h.trans (Spares.of_below (Below.drew (Below.refl _ _)))
theorem SpW.drew {B n g : Nat} {gs : List Nat} {M : Nat → Nat → Bool} {w : World} (h : SpW B n g gs M w) : SpW B n g gs M w.drew := h.keep fun _ _ _ => rfl
def moM (fn bs : Nat → Nat → Bool) (a : Nat) : Nat → Nat → Bool := fun r c => if a ≤ r then fn r c else bs r c
def miM (fn bs : Nat → Nat → Bool) (i b : Nat) : Nat → Nat → Bool := fun r c => if i < r ∨ (r = i ∧ c < b) then fn r c else bs r c
section
variable {fn bs : Nat → Nat → Bool} {n i b : Nat}
theorem mo_mi (h : ∀ c, c < i → bs i c = fn i c) (r c : Nat) : moM fn bs (i + 1) r c = miM fn bs i i r c := by
 unfold moM miM
 by_cases h1 : i + 1 ≤ r
 ·
  rw [if_pos h1, if_pos (Or.inl (by omega))]
 ·
  rw [if_neg h1]
  by_cases h2 : r = i ∧ c < i
  ·
   rw [if_pos (Or.inr h2), h2.1]; exact h c h2.2
  ·
   rw [if_neg (by omega)]
theorem mi_mo (r c : Nat) (hc : c < n) : miM fn bs i n r c = moM fn bs i r c := by
 unfold moM miM
 by_cases h1 : i ≤ r
 ·
  rw [if_pos h1, if_pos (by omega)]
 ·
  rw [if_neg h1, if_neg (by omega)]
theorem mi_upd (r c : Nat) : updM (miM fn bs i b) i b (fn i b) r c = miM fn bs i (b + 1) r c := by
 unfold updM miM
 by_cases h1 : r = i ∧ c = b
 ·
  rw [if_pos h1, if_pos (by omega), h1.1, h1.2]
 ·
  rw [if_neg h1]
  by_cases h2 : i < r ∨ (r = i ∧ c < b)
  ·
   rw [if_pos h2, if_pos (by omega)]
  ·
   rw [if_neg h2, if_neg (by omega)]
theorem mi_start (r c : Nat) : updM (miM fn bs i b) i b (bs i b) r c = miM fn bs i b r c := by
 unfold updM
 by_cases h1 : r = i ∧ c = b
 ·
  rw [if_pos h1, h1.1, h1.2]
  unfold miM
  rw [if_neg (by omega)]
 ·
  rw [if_neg h1]
theorem upd_upd {M : Nat → Nat → Bool} {u v : Bool} (r c : Nat) : updM (updM M i b u) i b v r c = updM M i b v r c := by
 unfold updM
 by_cases h1 : r = i ∧ c = b
 ·
  rw [if_pos h1, if_pos h1]
 ·
  rw [if_neg h1, if_neg h1, if_neg h1]
theorem mo_all (r c : Nat) : moM fn bs 0 r c = fn r c := by unfold moM; rw [if_pos (Nat.zero_le _)]
end
theorem sq_cell {w : World} {Ls : List (List (List Bool))} {kb ko m kc q n i j : Nat} {K : Nat → Nat → Bool} (h : Rd w (nestD bbD Ls) (.slice (some ⟨kb, ko, none⟩) m kc)) (hq : Ls[q]? = some (sqL n K)) (hi : i < n) (hj : j < n) :
  ∃ b1 o1 c1 b2 o2 c2, w.cell? ⟨kb, ko + q, none⟩ = some (.slice (some ⟨b1, o1, none⟩) n c1) ∧ w.cell? ⟨b1, o1 + i, none⟩ = some (.slice (some ⟨b2, o2, none⟩) n c2) ∧ w.cell? ⟨b2, o2 + j, none⟩ = some (.bool (K i j)) ∧ n ≤ c1 ∧ c1 ≤ maxLen ∧ n ≤ c2 ∧ c2 ≤ maxLen := by
 obtain ⟨-, s1, c1, h1, r1⟩ := nest_sl (g := boolsD) h hq
 rw [sqL_len] at h1 r1
 obtain ⟨b1, o1, rfl⟩ := nest_some (f := boolsD) r1 (by rw [sqL_len]; omega)
 obtain ⟨k1, k2⟩ := nest_bd r1
 rw [sqL_len] at k1
 obtain ⟨-, s2, c2, h2, r2⟩ := nest_sl (g := D.bool) r1 (sqL_at hi)
 rw [rowOf_len] at h2 r2
 obtain ⟨b2, o2, rfl⟩ := nest_some (f := D.bool) r2 (by rw [rowOf_len]; omega)
 obtain ⟨k3, k4⟩ := nest_bd r2
 rw [rowOf_len] at k3
 obtain ⟨-, h3⟩ := bool_in r2 (rowOf_at hj)
 exact ⟨b1, o1, c1, b2, o2, c2, h1, h2, h3, k1, k2, k3, k4⟩
end Go.Proofs.Ytbflhjjnemdecaa

namespace Go.Proofs.Ytbflhjjnemdecaa
set_option linter.unusedVariables false
set_option linter.unusedSimpArgs false
open Go.ChangeShapes Go.WideShapes Go.ChangeAt Go.RowKit Go.Deep
theorem rds_ints {w : World} : ∀ {zs : List Int} {xs : List Value}, Rds w (zs.map D.int) xs → xs = zs.map (Value.int .i64)
 | [], xs, h => by simpa [Rds] using h
 | z :: r, xs, h => by
  simp only [List.map_cons, Rds] at h
  obtain ⟨x, q, rfl, h1, h2⟩ := h
  simp only [Rd] at h1
  rw [h1, rds_ints h2]
  rfl
theorem ints_ows {w : World} : ∀ zs : List Int, Ows w (zs.map D.int) (zs.map (Value.int .i64)) []
 | [] => Ows.nil
 | z :: r => Ows.cons (F := []) (Ow.int z) (ints_ows r)
theorem cut_len {zs : List Int} {f n : Nat} (hn : f + n ≤ zs.length) : ((zs.drop f).take n).length = n := by simp; omega
theorem rd_cut {w : World} {zs : List Int} {b o cap f n cap' : Nat} (h : Rd w (intsD zs) (.slice (some ⟨b, o, none⟩) zs.length cap)) (hn : f + n ≤ zs.length) (hc : n ≤ cap') (hm : cap' ≤ maxLen) : Rd w (intsD ((zs.drop f).take n)) (.slice (some ⟨b, o + f, none⟩) n cap') := by
 simp only [intsD, Rd] at h ⊢
 obtain ⟨a', cap2, e1, _, _, _, _, h5⟩ := h
 simp only [Value.slice.injEq] at e1
 obtain ⟨rfl, _, rfl⟩ := e1
 rw [cut_len hn]
 rcases h5 with h5 | ⟨b', o', xs, e2, hrow, hrds⟩
 ·
  have h0 : n = 0 := by omega
  subst h0
  exact ⟨_, _, rfl, hc, hm, by simp, by simp, Or.inl rfl⟩
 simp only [Option.some.injEq, Addr.mk.injEq, and_true] at e2
 obtain ⟨rfl, rfl⟩ := e2
 have hx := rds_ints hrds
 subst hx
 refine ⟨_, _, rfl, hc, hm, by rw [List.length_map, cut_len hn, Nat.mul_one], by simp, Or.inr ⟨b, o + f, ((zs.drop f).take n).map (Value.int .i64), rfl, ?_, (ints_ows _).rds⟩⟩
 intro i hi
 rw [List.length_map, cut_len hn] at hi
 have := hrow (f + i) (by simp; omega)
 rw [← Nat.add_assoc] at this
 rw [this, List.getElem?_map, List.getElem?_map, List.getElem?_take, if_pos hi, List.getElem?_drop]
theorem rd_nilp {w : World} {p : Option Addr} {cap : Nat} (hm : cap ≤ maxLen) (hp : p = none → cap = 0) : Rd w (intsD []) (.slice p 0 cap) := by
 simp only [intsD, Rd]
 exact ⟨_, _, rfl, Nat.zero_le _, hm, by simp, hp, Or.inl rfl⟩
end Go.Proofs.Ytbflhjjnemdecaa

namespace Go.Proofs.Ytbflhjjnemdecaa
set_option linter.unusedVariables false
set_option linter.unusedSimpArgs false
open Go.ChangeShapes Go.WideShapes Go.ChangeAt Go.RowKit Go.Deep Go.Sort
theorem info_spans : (Try.prog.info? 131).map (fun i => (i.zero, i.size, i.bytes)) = some (some (.slice none 0 0), 1, 24) := by kernel_rfl
def SpnC (tm am : Int) (N : Nat) : Prop := ∀ (e : Ex) (xs ys : List Int) (s p q : Option Addr) (c pc qc : Nat) (w : World), Ex.sizeL e.kids ≤ N → Rd w (kidsD e.kids) (.slice s e.kids.length c) → e.tree tm am = true → Rd w (intsD xs) (.slice p xs.length pc) → Rd w (intsD ys) (.slice q ys.length qc) → WOk xs ys →
  Calls Try.prog 110 #[.agg #[.int .i64 e.kind, .int .i64 e.num, .slice s e.kids.length c], .agg #[.slice p xs.length pc, .slice q ys.length qc]] w fun f w' => ∃ g, f = .returned (.slice (some ⟨g, 0, none⟩) xs.length xs.length) ∧ Fresh w w' (bbD (sqL xs.length (spB e xs ys))) (.slice (some ⟨g, 0, none⟩) xs.length xs.length) ∧ Below w.heap.size w w'
structure SpK (w : World) (n g : Nat) (gs : List Nat) (k num : Int) (s p q : Option Addr) (c pc qc kl : Nat) (ks : List Ex) (xs ys : List Int) (v : Value) (W : World) : Prop where
 E : Blk W w.heap.size 38 [.int .i64 k, .int .i64 num, .slice s ks.length c]
 Q : Blk W (w.heap.size + 1) 40 [.slice p n pc, .slice q ys.length qc]
 bl : Below w.heap.size w W
 kd : Rd W (nestD (fun e => bbD (sqL n (spB e xs ys))) ks) v ∨ kl = 0
theorem truth_r {tm am x k num : Int} {ks : List Ex} {s : Option Addr} {c : Nat} {r : Bool} {w : World} (he : Ex.tru x (.mk k num ks) = r) (htm : tm ≤ 2) (h0 : 0 ≤ x) (h7 : x ≤ 7) (hr : Rd w (kidsD ks) (.slice s ks.length c)) (htr : Ex.tree tm am (.mk k num ks) = true) (hcc : Ex.cond (.mk k num ks) = true) :
  Calls Try.prog 146 #[.agg #[.int .i64 k, .int .i64 num, .slice s ks.length c], .int .i64 x] w fun f w' => f = .returned (.bool r) ∧ Below w.heap.size w w' := by
 subst he
 exact truth_all tm am x htm h0 h7 _ k num ks s c w (Nat.le_refl _) hr htr hcc
theorem spB_cond {q n : Int} {ks : List Ex} {xs ys : List Int} {i k : Nat} (hq : q = 1 ∨ q = 2 ∨ q = 3 ∨ q = 5) : spB (.mk q n ks) xs ys i k = (decide (i = k) && Ex.tru (atW xs k : Int) (.mk q n ks)) := by
 rw [Bool.eq_iff_iff, spB_else (by omega) (by omega) (by omega) (by omega), Bool.and_eq_true, decide_eq_true_eq]
 have ee : (Ex.mk q n ks).emp (atW xs k : Int) = (Ex.mk q n ks).tru (atW xs k : Int) := by
  rcases hq with rfl | rfl | rfl | rfl <;> simp [Ex.emp, empC, Ex.tru, truC]
 rw [ee]
theorem spB_actE {n : Int} {ks : List Ex} {xs ys : List Int} {i k : Nat} : spB (.mk 4 n ks) xs ys i k = (decide (k = i + 1) && (((ys.getD i 0).toNat : Int) == n)) := by
 rw [Bool.eq_iff_iff, spB_act, Bool.and_eq_true, decide_eq_true_eq, beq_iff_eq]
end Go.Proofs.Ytbflhjjnemdecaa

namespace Go.Proofs.Ytbflhjjnemdecaa
set_option linter.unusedVariables false
set_option linter.unusedSimpArgs false
open Go.ChangeShapes Go.WideShapes Go.ChangeAt Go.RowKit Go.Deep Go.Sort
set_option maxRecDepth 100000 in
set_option maxHeartbeats 16000000 in
theorem spans_1 {tm am : Int} (htm : tm ≤ 2) {N : Nat} (ih : ∀ m, m < N → SpnC tm am m) {num : Int} {ks : List Ex} {xs ys : List Int} {s p q : Option Addr} {c pc qc : Nat} {w : World} (hN : Ex.sizeL ks ≤ N) (hr : Rd w (kidsD ks) (.slice s ks.length c)) (htr : Ex.tree tm am (.mk 1 num ks) = true) (rx : Rd w (intsD xs) (.slice p xs.length pc)) (ry : Rd w (intsD ys) (.slice q ys.length qc)) (hok : WOk xs ys) :
  Calls Try.prog 110 #[.agg #[.int .i64 1, .int .i64 num, .slice s ks.length c], .agg #[.slice p xs.length pc, .slice q ys.length qc]] w fun f w' => ∃ g, f = .returned (.slice (some ⟨g, 0, none⟩) xs.length xs.length) ∧ Fresh w w' (bbD (sqL xs.length (spB (.mk 1 num ks) xs ys))) (.slice (some ⟨g, 0, none⟩) xs.length xs.length) ∧ Below w.heap.size w w' := by
 obtain ⟨hk, hnum, hc, htl⟩ := tree_parts htr
 have hk2 : ks.length ≤ 2 := by have h := hk; simp [kidsN] at h; omega
 have hsh := hok.short
 have hlen := hok.len
 have Hok := Lib.hid hok
 have Htl := Lib.hid htl
 have Ih := Lib.hid ih
 have Htr := Lib.hid htr
 have Hc := Lib.hid hc
 clear htl ih hok htr hc
 obtain ⟨n, hn⟩ : ∃ n, xs.length = n := ⟨_, rfl⟩
 rw [hn] at rx ⊢
 have Hn := Lib.hid hn
 have hn1 : 1 ≤ n := by omega
 have hn2 : n ≤ 11 := by omega
 have hyn : ys.length ≤ n := by omega
 have Hny := Lib.hid (show n = ys.length + 1 by omega)
 have Hrx := Lib.hid rx
 have Hry := Lib.hid ry
 have Hr := Lib.hid hr
 have hn0 := Int.natCast_nonneg n
 obtain ⟨-, hlx, hcx, -⟩ := rx.sl_at
 obtain ⟨-, hly, hcy, -⟩ := ry.sl_at
 unfold maxLen at hcx hcy
 clear hn hlen hsh rx ry hr
 rw [show (List.length xs) = n from Hn.out] at hlx
 go_enter Try.func110, Try.ntmps110
 go_wp2_with fail
 obtain ⟨w0, e0, E, hb0, hz0⟩ := box3 w 38 (.int .i64 1) (.int .i64 num) (.slice s ks.length c)
 rw [e0]
 obtain ⟨w1, e1, Q, hb1, hz1⟩ := box2 w0 40 (.slice p n pc) (.slice q ys.length qc)
 rw [e1]
 rw [hz0] at Q
 have hB1 := hb0.trans (hb1.mono (by omega))
 replace E := E.below hb1
 have hzz : w1.heap.size = w.heap.size + 2 := by omega
 refine (newSpans_i hn1 (by omega)).mono ?_
 rintro f w2 ⟨g, gs, rfl, hsp, hb2⟩
 have HB2 := Lib.hid (hB1.trans (hb2.mono (by omega)))
 have HE := Lib.hid (E.below hb2)
 have HQ := Lib.hid (Q.below hb2)
 obtain ⟨B0, hB0⟩ : ∃ B0, w1.heap.size = B0 := ⟨_, rfl⟩
 rw [hB0] at hsp hzz
 have hz12 := hb2.size
 rw [hB0] at hz12
 have Hsp := Lib.hid hsp
 have hz2 := HB2.out.size
 clear hB0
 have h0 := App.empty (W := w2) (size := 1) (Blk.made w2 131 #[]) (Nat.le_refl _)
 obtain ⟨x0, x1, x2, -, -, -, ltx⟩ := (HE.out.alloc (.cells #[] 131)).all3
 clear e0 e1 hb0 hb1 hb2 E Q hB1 hz0 hz1 hsp
 go_wp2_with fail
 clear x0 x1 x2 ltx
 go_loopw [7, 27] (fun v i wr => ∃ j : Nat, j ≤ ks.length ∧ i = .int .i64 j ∧ App w2 wr 131 1 j ((ks.take j).map fun e => bbD (sqL n (spB e xs ys))) v ∧ Below w2.heap.size w2 wr) (fun _ i _ => ks.length - (intOf i).toNat)
 case atStart => exact ⟨0, Nat.zero_le _, rfl, by simpa using h0, Below.alloc (Below.refl _ _) (Nat.le_refl _) _⟩
 case round =>
  clear h0
  obtain ⟨j, hj, rfl, happ, hB⟩ := hrel
  obtain ⟨wo, rfl⟩ : ∃ v, v = wr := ⟨_, rfl⟩
  have hj0 := Int.natCast_nonneg j
  have szB := hB.size
  obtain ⟨a', cap', rfl, hcap1, hcap2⟩ := happ.shape
  unfold maxLen at hcap2
  have HB := Lib.hid hB
  by_cases hjl : j < ks.length
  ·
   obtain ⟨e', he'⟩ : ∃ e', ks[j]? = some e' := ⟨_, List.getElem?_eq_getElem hjl⟩
   obtain ⟨kb, ko, rfl⟩ := kid_some Hr.out (by intro h; rw [h] at hjl; simp at hjl)
   have hjz : (j : Int) < (ks.length : Int) := by omega
   have hBw := HB2.out.trans (hB.mono hz2)
   obtain ⟨hkb, sx, cx, i0, i1, i2, hxr⟩ := kid_in Hr.out he'
   replace i0 := (hBw.cell (p := ⟨kb, ko + j * 3, none⟩) hkb).trans i0
   replace i1 := (hBw.cell (p := ⟨kb, ko + j * 3 + 1, none⟩) hkb).trans i1
   replace i2 := (hBw.cell (p := ⟨kb, ko + j * 3 + 2, none⟩) hkb).trans i2
   have hbx := Below.alloc (Below.refl wo.heap.size wo) (Nat.le_refl _) (.cells #[.int .i64 e'.kind, .int .i64 e'.num, .slice sx e'.kids.length cx] 38)
   obtain ⟨y0, y1, lty⟩ := ((HQ.out.below hB).alloc (.cells #[.int .i64 e'.kind, .int .i64 e'.num, .slice sx e'.kids.length cx] 38)).all2
   obtain ⟨v0, v1, v2, -, -, -, ltv⟩ := (Blk.new3 wo 38 (.int .i64 e'.kind) (.int .i64 e'.num) (.slice sx e'.kids.length cx)).all3
   have HA := Lib.hid happ
   have htr' := Ex.treeL_mem Htl.out (List.mem_of_getElem? he')
   have hsz : Ex.sizeL e'.kids < N := by
    have h1 := Ex.sizeL_mem (List.mem_of_getElem? he')
    have h2 := Ex.size_eq e'
    omega
   have hBx := hBw.alloc hBw.size (.cells #[.int .i64 e'.kind, .int .i64 e'.num, .slice sx e'.kids.length cx] 38)
   have Htk := Lib.hid (show (ks.take (j + 1)).map (fun e => bbD (sqL n (spB e xs ys))) = (ks.take j).map (fun e => bbD (sqL n (spB e xs ys))) ++ [bbD (sqL n (spB e' xs ys))] by
    obtain ⟨h1, h2⟩ := List.getElem?_eq_some_iff.1 he'
    rw [List.take_succ_eq_append_getElem h1, List.map_append, h2]
    rfl)
   have hih := Ih.out _ hsz e' xs ys sx p q cx pc qc _ (Nat.le_refl _) (hxr.below hBx) htr' (by rw [Hn.out]; exact Hrx.out.below hBx) (Hry.out.below hBx) Hok.out
   rw [Hn.out] at hih
   clear happ hB he' hBw hxr hBx
   go_wp2_with fail
   refine hih.mono ?_
   rintro f w5 ⟨g5, rfl, hf5, hb5⟩
   have hb55 := hbx.trans (hb5.mono (by simp))
   have hz5 := hb55.size
   have hf6 : Freshs wo (w5.alloc (.cells #[.slice (some ⟨g5, 0, none⟩) n n] 131)) [bbD (sqL n (spB e' xs ys))] [.slice (some ⟨g5, 0, none⟩) n n] := (Freshs.one (hf5.from (by simp))).on (Below.alloc (Below.refl _ _) (Nat.le_refl _) _)
   have hb6 := hb55.alloc hz5 (.cells #[.slice (some ⟨g5, 0, none⟩) n n] 131)
   have happ := HA.out
   clear i0 i1 i2 y0 y1 lty v0 v1 v2 ltv hf5 hb5 hbx hb55 hih
   go_wp2_with (at_builtin; go_must (refine wpList_append_app _ rfl _ _ 174 rfl 131 (.slice none 0 0) 1 24 Try.underlying174 info_spans rfl (by decide) _ rfl happ hb6 szB ⟨w5.heap.size, 0, none⟩ 1 1 [.slice (some ⟨g5, 0, none⟩) n n] rfl (news_blk (Blk.made _ _ _)) hf6 rfl (by simp [Value.oneCell']) (by omega) (by omega) (by unfold maxLen; omega) ?_); intro g3 cap3 w3 happ3 hb3)
   have hB3 : Below w2.heap.size w2 w3 := (HB.out.trans (hb6.mono szB)).trans hb3
   have Hfin := Lib.hid (And.intro (happ3.sized Htk.out.symm rfl) hB3)
   clear happ3 hb3 hB3 happ hf6 hb6
   go_wp2_with fail
   go_roundw
   case rel => exact ⟨j + 1, by omega, by go_num, Hfin.out.1, Hfin.out.2⟩
   case measure => simp [intOf]; omega
  obtain rfl : j = ks.length := by omega
  rw [List.take_length] at happ
  have HKf := Lib.hid (happ.freshN (f := fun e => bbD (sqL n (spB e xs ys))) rfl)
  clear happ hB
  obtain ⟨wK, rfl⟩ : ∃ v, v = wo := ⟨_, rfl⟩
  obtain ⟨X, hX⟩ : ∃ X : Nat → Prop, X = fun b => b = g ∨ b ∈ gs := ⟨_, rfl⟩
  have hXb : ∀ b, X b → w.heap.size + 2 ≤ b ∧ b < w2.heap.size := by
   intro b hb
   rw [hX] at hb
   have h1 := Hsp.out.own
   rcases hb with rfl | hb
   ·
    exact ⟨by omega, Hsp.out.blk.lt⟩
   ·
    obtain ⟨i, hi⟩ := List.mem_iff_getElem?.1 hb
    exact ⟨by have := (h1.2 b hb).1; omega, (Hsp.out.row i b hi).lt⟩
  have HK : Hid (∀ W, Spares X wK W → SpK w n g gs 1 num s p q c pc qc 0 ks xs ys (.slice a' ks.length cap') W) := by
   intro W hs
   refine ⟨(HE.out.below HB.out).keep (hs.block _ (HE.out.below HB.out).lt (fun h => by have := hXb _ h; omega)), (HQ.out.below HB.out).keep (hs.block _ (HQ.out.below HB.out).lt (fun h => by have := hXb _ h; omega)), (HB2.out.trans (HB.out.mono hz2)).trans (hs.below (B := w.heap.size) (by have := HB.out.size; omega) (fun b h => by have := hXb _ h; omega)), Or.inr rfl⟩
  have HXm := Lib.hid (fun i x (hx : gs[i]? = some x) => (show X x by rw [hX]; exact Or.inr (List.mem_of_getElem? hx)))
  obtain ⟨bs, hbs⟩ : ∃ bs : Nat → Nat → Bool, bs = fun _ _ => false := ⟨_, rfl⟩
  have Hbs := Lib.hid hbs
  have Hsp0 := Lib.hid ((Hsp.out.below HB.out).congr (K := fun r c => if r < 0 then bs r c else false) (fun r c _ _ => by rw [if_neg (Nat.not_lt_zero _)]))
  clear hX hXb hbs HE HQ HB Hsp HB2
  go_wp2_with fail
  go_loopw [39] (fun i wr => ∃ j : Nat, j ≤ n ∧ i = .int .i64 j ∧ SpW B0 n g gs (fun r c => if r < j then bs r c else false) wr ∧ Spares X wK wr) (fun i _ => n - (intOf i).toNat)
  case atStart => exact ⟨0, Nat.zero_le _, rfl, Hsp0.out, Spares.refl _⟩
  case round =>
   clear Hsp0
   obtain ⟨j, hj, rfl, hsp, hs⟩ := hrel
   obtain ⟨wo, rfl⟩ : ∃ v, v = wr := ⟨_, rfl⟩
   have hj0 := Int.natCast_nonneg j
   have Hsp := Lib.hid hsp
   have Hs := Lib.hid hs
   have hkk := HK.out wo hs
   obtain ⟨x0, x1, x2, -, -, -, ltx⟩ := hkk.E.all3
   obtain ⟨y0, y1, lty⟩ := hkk.Q.all2
   by_cases hjn : j < n
   ·
    have hjz : (j : Int) < (n : Int) := by omega
    clear hsp hs
    have Hnx := Lib.hid (Hsp.out.congr (K := fun r c => if r < j + 1 then bs r c else false) (fun r c _ _ => by rw [Hbs.out]; simp))
    clear hkk
    go_wp2_with fail
    go_roundw
    case rel => exact ⟨j + 1, by omega, by go_num, Hnx.out, Hs.out⟩
    case measure => simp [intOf]; omega
   obtain rfl : n = j := by omega
   have Hsq := Lib.hid (hsp.congr (K := bs) (fun r c hr _ => if_pos hr))
   clear Hsp hsp hs hkk
   have e1 : IntKind.i64.wrap ((n : Int) - 1) = ((n - 1 : Nat) : Int) := by rw [show (n : Int) - 1 = ((n - 1 : Nat) : Int) by omega]; exact wrap_of (by omega) (by omega)
   obtain ⟨fn, hfn⟩ : ∃ fn : Nat → Nat → Bool, fn = spB (.mk 1 num ks) xs ys := ⟨_, rfl⟩
   have Hfn := Lib.hid hfn
   have Hlow : Hid (∀ i c, c < i → bs i c = fn i c) := fun i c hci => by rw [Hfn.out, Hbs.out]; exact (show false = _ from (by rw [spB_cond (by omega)]; simp [Ex.tru, truC] : spB (.mk 1 num ks) xs ys i c = false).symm)
   clear hfn x0 x1 x2 ltx y0 y1 lty
   go_wp2_with fail
   clear e1
   go_loopw [11] (fun v wr => (∃ i : Nat, i < n ∧ v = .int .i64 i ∧ SpW B0 n g gs (moM fn bs (i + 1)) wr ∧ Spares X wK wr) ∨ (v = .int .i64 (-1) ∧ SpW B0 n g gs fn wr ∧ Spares X wK wr)) (fun i _ => (intOf i + 1).toNat)
   case atStart => exact Or.inl ⟨n - 1, by omega, rfl, Hsq.out.congr (fun r c hr _ => by unfold moM; rw [if_neg (by omega)]), Hs.out⟩
   case round =>
    clear Hsq Hs
    rcases hrel with ⟨i, hi, rfl, hsp, hs⟩ | ⟨rfl, hsp, hs⟩
    rotate_left
    ·
     have HF := Lib.hid (hsp.fresh (W := w) (by omega) hn1 (by unfold maxLen; omega))
     have HBf := Lib.hid (HK.out _ hs).bl
     clear hsp hs
     go_wp2_with fail
     go_ret
     exact ⟨g, rfl, by rw [← Hfn.out]; exact HF.out, HBf.out⟩
    obtain ⟨wo, rfl⟩ : ∃ v, v = wr := ⟨_, rfl⟩
    have hi0 := Int.natCast_nonneg i
    have Hmi := Lib.hid (hsp.congr (K := miM fn bs i i) (fun r c _ _ => mo_mi (Hlow.out i) r c))
    have Hs := Lib.hid hs
    clear hsp hs
    go_wp2_with fail
    go_loopw [12] (fun v wr => ∃ b : Nat, i ≤ b ∧ b ≤ n ∧ v = .int .i64 b ∧ SpW B0 n g gs (miM fn bs i b) wr ∧ Spares X wK wr) (fun v _ => n - (intOf v).toNat)
    case atStart => exact ⟨i, Nat.le_refl _, by omega, rfl, Hmi.out, Hs.out⟩
    case round =>
     clear Hmi Hs
     obtain ⟨b, hib, hb, rfl, hsp, hs⟩ := hrel
     obtain ⟨wp, rfl⟩ : ∃ v, v = wr := ⟨_, rfl⟩
     have hb0 := Int.natCast_nonneg b
     have Hs := Lib.hid hs
     by_cases hbn : b < n
     rotate_left
     ·
      obtain rfl : n = b := by omega
      have Hmo := Lib.hid (hsp.congr (K := moM fn bs i) (fun r c _ hc => mi_mo r c hc))
      clear hsp hs
      by_cases hi1 : i = 0
      ·
       subst hi1
       have e2 : IntKind.i64.wrap (((0 : Nat) : Int) - 1) = -1 := rfl
       have Hall := Lib.hid (Hmo.out.congr (K := fn) (fun r c _ _ => mo_all r c))
       go_wp2_with fail
       go_roundw
       case rel => exact Or.inr ⟨rfl, Hall.out, Hs.out⟩
       case measure => simp [intOf]
      ·
       obtain ⟨i', rfl⟩ : ∃ i', i = i' + 1 := ⟨i - 1, by omega⟩
       have e2 : IntKind.i64.wrap (((i' + 1 : Nat) : Int) - 1) = (i' : Int) := by rw [show ((i' + 1 : Nat) : Int) - 1 = (i' : Int) by omega]; exact wrap_of (by omega) (by omega)
       go_wp2_with fail
       go_roundw
       case rel => exact Or.inl ⟨i', by omega, by go_num, Hmo.out, Hs.out⟩
       case measure => simp [intOf]; omega
     have hbz : (b : Int) < (n : Int) := by omega
     have Hsp := Lib.hid hsp
     have hkk := HK.out wp hs
     obtain ⟨x0, x1, x2, -, -, -, ltx⟩ := hkk.E.all3
     clear hsp hs
     have Hnx := Lib.hid (Hsp.out.congr (K := miM fn bs i (b + 1)) (fun r c hr hc => by
      unfold miM
      have h : bs r c = fn r c := by rw [Hbs.out, Hfn.out]; exact ((by rw [spB_cond (by omega)]; simp [Ex.tru, truC] : spB (.mk 1 num ks) xs ys r c = false)).symm
      rw [h]
      simp))
     clear hkk
     go_wp2_with fail
     go_roundw
     case rel => exact ⟨b + 1, by omega, by omega, by go_num, Hnx.out, Hs.out⟩
     case measure => simp [intOf]; omega
end Go.Proofs.Ytbflhjjnemdecaa

namespace Go.Proofs.Ytbflhjjnemdecaa
set_option linter.unusedVariables false
set_option linter.unusedSimpArgs false
open Go.ChangeShapes Go.WideShapes Go.ChangeAt Go.RowKit Go.Deep Go.Sort
set_option maxRecDepth 100000 in
set_option maxHeartbeats 16000000 in
theorem spans_2 {tm am : Int} (htm : tm ≤ 2) {N : Nat} (ih : ∀ m, m < N → SpnC tm am m) {num : Int} {ks : List Ex} {xs ys : List Int} {s p q : Option Addr} {c pc qc : Nat} {w : World} (hN : Ex.sizeL ks ≤ N) (hr : Rd w (kidsD ks) (.slice s ks.length c)) (htr : Ex.tree tm am (.mk 2 num ks) = true) (rx : Rd w (intsD xs) (.slice p xs.length pc)) (ry : Rd w (intsD ys) (.slice q ys.length qc)) (hok : WOk xs ys) :
  Calls Try.prog 110 #[.agg #[.int .i64 2, .int .i64 num, .slice s ks.length c], .agg #[.slice p xs.length pc, .slice q ys.length qc]] w fun f w' => ∃ g, f = .returned (.slice (some ⟨g, 0, none⟩) xs.length xs.length) ∧ Fresh w w' (bbD (sqL xs.length (spB (.mk 2 num ks) xs ys))) (.slice (some ⟨g, 0, none⟩) xs.length xs.length) ∧ Below w.heap.size w w' := by
 obtain ⟨hk, hnum, hc, htl⟩ := tree_parts htr
 have hk2 : ks.length ≤ 2 := by have h := hk; simp [kidsN] at h; omega
 have hsh := hok.short
 have hlen := hok.len
 have Hok := Lib.hid hok
 have Htl := Lib.hid htl
 have Ih := Lib.hid ih
 have Htr := Lib.hid htr
 have Hc := Lib.hid hc
 clear htl ih hok htr hc
 obtain ⟨n, hn⟩ : ∃ n, xs.length = n := ⟨_, rfl⟩
 rw [hn] at rx ⊢
 have Hn := Lib.hid hn
 have hn1 : 1 ≤ n := by omega
 have hn2 : n ≤ 11 := by omega
 have hyn : ys.length ≤ n := by omega
 have Hny := Lib.hid (show n = ys.length + 1 by omega)
 have Hrx := Lib.hid rx
 have Hry := Lib.hid ry
 have Hr := Lib.hid hr
 have hn0 := Int.natCast_nonneg n
 obtain ⟨-, hlx, hcx, -⟩ := rx.sl_at
 obtain ⟨-, hly, hcy, -⟩ := ry.sl_at
 unfold maxLen at hcx hcy
 clear hn hlen hsh rx ry hr
 rw [show (List.length xs) = n from Hn.out] at hlx
 go_enter Try.func110, Try.ntmps110
 go_wp2_with fail
 obtain ⟨w0, e0, E, hb0, hz0⟩ := box3 w 38 (.int .i64 2) (.int .i64 num) (.slice s ks.length c)
 rw [e0]
 obtain ⟨w1, e1, Q, hb1, hz1⟩ := box2 w0 40 (.slice p n pc) (.slice q ys.length qc)
 rw [e1]
 rw [hz0] at Q
 have hB1 := hb0.trans (hb1.mono (by omega))
 replace E := E.below hb1
 have hzz : w1.heap.size = w.heap.size + 2 := by omega
 refine (newSpans_i hn1 (by omega)).mono ?_
 rintro f w2 ⟨g, gs, rfl, hsp, hb2⟩
 have HB2 := Lib.hid (hB1.trans (hb2.mono (by omega)))
 have HE := Lib.hid (E.below hb2)
 have HQ := Lib.hid (Q.below hb2)
 obtain ⟨B0, hB0⟩ : ∃ B0, w1.heap.size = B0 := ⟨_, rfl⟩
 rw [hB0] at hsp hzz
 have hz12 := hb2.size
 rw [hB0] at hz12
 have Hsp := Lib.hid hsp
 have hz2 := HB2.out.size
 clear hB0
 have h0 := App.empty (W := w2) (size := 1) (Blk.made w2 131 #[]) (Nat.le_refl _)
 obtain ⟨x0, x1, x2, -, -, -, ltx⟩ := (HE.out.alloc (.cells #[] 131)).all3
 clear e0 e1 hb0 hb1 hb2 E Q hB1 hz0 hz1 hsp
 go_wp2_with fail
 clear x0 x1 x2 ltx
 go_loopw [7, 27] (fun v i wr => ∃ j : Nat, j ≤ ks.length ∧ i = .int .i64 j ∧ App w2 wr 131 1 j ((ks.take j).map fun e => bbD (sqL n (spB e xs ys))) v ∧ Below w2.heap.size w2 wr) (fun _ i _ => ks.length - (intOf i).toNat)
 case atStart => exact ⟨0, Nat.zero_le _, rfl, by simpa using h0, Below.alloc (Below.refl _ _) (Nat.le_refl _) _⟩
 case round =>
  clear h0
  obtain ⟨j, hj, rfl, happ, hB⟩ := hrel
  obtain ⟨wo, rfl⟩ : ∃ v, v = wr := ⟨_, rfl⟩
  have hj0 := Int.natCast_nonneg j
  have szB := hB.size
  obtain ⟨a', cap', rfl, hcap1, hcap2⟩ := happ.shape
  unfold maxLen at hcap2
  have HB := Lib.hid hB
  by_cases hjl : j < ks.length
  ·
   obtain ⟨e', he'⟩ : ∃ e', ks[j]? = some e' := ⟨_, List.getElem?_eq_getElem hjl⟩
   obtain ⟨kb, ko, rfl⟩ := kid_some Hr.out (by intro h; rw [h] at hjl; simp at hjl)
   have hjz : (j : Int) < (ks.length : Int) := by omega
   have hBw := HB2.out.trans (hB.mono hz2)
   obtain ⟨hkb, sx, cx, i0, i1, i2, hxr⟩ := kid_in Hr.out he'
   replace i0 := (hBw.cell (p := ⟨kb, ko + j * 3, none⟩) hkb).trans i0
   replace i1 := (hBw.cell (p := ⟨kb, ko + j * 3 + 1, none⟩) hkb).trans i1
   replace i2 := (hBw.cell (p := ⟨kb, ko + j * 3 + 2, none⟩) hkb).trans i2
   have hbx := Below.alloc (Below.refl wo.heap.size wo) (Nat.le_refl _) (.cells #[.int .i64 e'.kind, .int .i64 e'.num, .slice sx e'.kids.length cx] 38)
   obtain ⟨y0, y1, lty⟩ := ((HQ.out.below hB).alloc (.cells #[.int .i64 e'.kind, .int .i64 e'.num, .slice sx e'.kids.length cx] 38)).all2
   obtain ⟨v0, v1, v2, -, -, -, ltv⟩ := (Blk.new3 wo 38 (.int .i64 e'.kind) (.int .i64 e'.num) (.slice sx e'.kids.length cx)).all3
   have HA := Lib.hid happ
   have htr' := Ex.treeL_mem Htl.out (List.mem_of_getElem? he')
   have hsz : Ex.sizeL e'.kids < N := by
    have h1 := Ex.sizeL_mem (List.mem_of_getElem? he')
    have h2 := Ex.size_eq e'
    omega
   have hBx := hBw.alloc hBw.size (.cells #[.int .i64 e'.kind, .int .i64 e'.num, .slice sx e'.kids.length cx] 38)
   have Htk := Lib.hid (show (ks.take (j + 1)).map (fun e => bbD (sqL n (spB e xs ys))) = (ks.take j).map (fun e => bbD (sqL n (spB e xs ys))) ++ [bbD (sqL n (spB e' xs ys))] by
    obtain ⟨h1, h2⟩ := List.getElem?_eq_some_iff.1 he'
    rw [List.take_succ_eq_append_getElem h1, List.map_append, h2]
    rfl)
   have hih := Ih.out _ hsz e' xs ys sx p q cx pc qc _ (Nat.le_refl _) (hxr.below hBx) htr' (by rw [Hn.out]; exact Hrx.out.below hBx) (Hry.out.below hBx) Hok.out
   rw [Hn.out] at hih
   clear happ hB he' hBw hxr hBx
   go_wp2_with fail
   refine hih.mono ?_
   rintro f w5 ⟨g5, rfl, hf5, hb5⟩
   have hb55 := hbx.trans (hb5.mono (by simp))
   have hz5 := hb55.size
   have hf6 : Freshs wo (w5.alloc (.cells #[.slice (some ⟨g5, 0, none⟩) n n] 131)) [bbD (sqL n (spB e' xs ys))] [.slice (some ⟨g5, 0, none⟩) n n] := (Freshs.one (hf5.from (by simp))).on (Below.alloc (Below.refl _ _) (Nat.le_refl _) _)
   have hb6 := hb55.alloc hz5 (.cells #[.slice (some ⟨g5, 0, none⟩) n n] 131)
   have happ := HA.out
   clear i0 i1 i2 y0 y1 lty v0 v1 v2 ltv hf5 hb5 hbx hb55 hih
   go_wp2_with (at_builtin; go_must (refine wpList_append_app _ rfl _ _ 174 rfl 131 (.slice none 0 0) 1 24 Try.underlying174 info_spans rfl (by decide) _ rfl happ hb6 szB ⟨w5.heap.size, 0, none⟩ 1 1 [.slice (some ⟨g5, 0, none⟩) n n] rfl (news_blk (Blk.made _ _ _)) hf6 rfl (by simp [Value.oneCell']) (by omega) (by omega) (by unfold maxLen; omega) ?_); intro g3 cap3 w3 happ3 hb3)
   have hB3 : Below w2.heap.size w2 w3 := (HB.out.trans (hb6.mono szB)).trans hb3
   have Hfin := Lib.hid (And.intro (happ3.sized Htk.out.symm rfl) hB3)
   clear happ3 hb3 hB3 happ hf6 hb6
   go_wp2_with fail
   go_roundw
   case rel => exact ⟨j + 1, by omega, by go_num, Hfin.out.1, Hfin.out.2⟩
   case measure => simp [intOf]; omega
  obtain rfl : j = ks.length := by omega
  rw [List.take_length] at happ
  have HKf := Lib.hid (happ.freshN (f := fun e => bbD (sqL n (spB e xs ys))) rfl)
  clear happ hB
  obtain ⟨wK, rfl⟩ : ∃ v, v = wo := ⟨_, rfl⟩
  obtain ⟨X, hX⟩ : ∃ X : Nat → Prop, X = fun b => b = g ∨ b ∈ gs := ⟨_, rfl⟩
  have hXb : ∀ b, X b → w.heap.size + 2 ≤ b ∧ b < w2.heap.size := by
   intro b hb
   rw [hX] at hb
   have h1 := Hsp.out.own
   rcases hb with rfl | hb
   ·
    exact ⟨by omega, Hsp.out.blk.lt⟩
   ·
    obtain ⟨i, hi⟩ := List.mem_iff_getElem?.1 hb
    exact ⟨by have := (h1.2 b hb).1; omega, (Hsp.out.row i b hi).lt⟩
  have HK : Hid (∀ W, Spares X wK W → SpK w n g gs 2 num s p q c pc qc 0 ks xs ys (.slice a' ks.length cap') W) := by
   intro W hs
   refine ⟨(HE.out.below HB.out).keep (hs.block _ (HE.out.below HB.out).lt (fun h => by have := hXb _ h; omega)), (HQ.out.below HB.out).keep (hs.block _ (HQ.out.below HB.out).lt (fun h => by have := hXb _ h; omega)), (HB2.out.trans (HB.out.mono hz2)).trans (hs.below (B := w.heap.size) (by have := HB.out.size; omega) (fun b h => by have := hXb _ h; omega)), Or.inr rfl⟩
  have HXm := Lib.hid (fun i x (hx : gs[i]? = some x) => (show X x by rw [hX]; exact Or.inr (List.mem_of_getElem? hx)))
  obtain ⟨bs, hbs⟩ : ∃ bs : Nat → Nat → Bool, bs = fun r c => decide (r = c) := ⟨_, rfl⟩
  have Hbs := Lib.hid hbs
  have Hsp0 := Lib.hid ((Hsp.out.below HB.out).congr (K := fun r c => if r < 0 then bs r c else false) (fun r c _ _ => by rw [if_neg (Nat.not_lt_zero _)]))
  clear hX hXb hbs HE HQ HB Hsp HB2
  go_wp2_with fail
  go_loopw [39] (fun i wr => ∃ j : Nat, j ≤ n ∧ i = .int .i64 j ∧ SpW B0 n g gs (fun r c => if r < j then bs r c else false) wr ∧ Spares X wK wr) (fun i _ => n - (intOf i).toNat)
  case atStart => exact ⟨0, Nat.zero_le _, rfl, Hsp0.out, Spares.refl _⟩
  case round =>
   clear Hsp0
   obtain ⟨j, hj, rfl, hsp, hs⟩ := hrel
   obtain ⟨wo, rfl⟩ : ∃ v, v = wr := ⟨_, rfl⟩
   have hj0 := Int.natCast_nonneg j
   have Hsp := Lib.hid hsp
   have Hs := Lib.hid hs
   have hkk := HK.out wo hs
   obtain ⟨x0, x1, x2, -, -, -, ltx⟩ := hkk.E.all3
   obtain ⟨y0, y1, lty⟩ := hkk.Q.all2
   by_cases hjn : j < n
   ·
    have hjz : (j : Int) < (n : Int) := by omega
    clear hsp hs
    obtain ⟨xr, hxr, c1, c2, c3, c4, c5, c6, c7⟩ := Hsp.out.cells hjn hjn
    have Hnx := Lib.hid (And.intro ((Hsp.out.set hxr true).congr (K := fun r c => if r < j + 1 then bs r c else false) (fun r c _ _ => by
     rw [Hbs.out]
     show (if r = j ∧ c = j then true else if r < j then decide (r = c) else false) = if r < j + 1 then decide (r = c) else false
     by_cases h1 : r = j ∧ c = j
     ·
      rw [if_pos h1, if_pos (by omega)]; simp [h1.1, h1.2]
     ·
      rw [if_neg h1]
      by_cases h2 : r < j
      ·
       rw [if_pos h2, if_pos (by omega)]
      ·
       rw [if_neg h2]
       by_cases h3 : r < j + 1
       ·
        rw [if_pos h3]
        exact (decide_eq_false (by omega)).symm
       ·
        rw [if_neg h3])) (spares_put (p := ⟨xr, j, none⟩) Hs.out (HXm.out j xr hxr) (.bool true)))
    clear hkk hxr
    go_wp2_with fail
    go_roundw
    case rel => exact ⟨j + 1, by omega, by go_num, Hnx.out.1, Hnx.out.2⟩
    case measure => simp [intOf]; omega
   obtain rfl : n = j := by omega
   have Hsq := Lib.hid (hsp.congr (K := bs) (fun r c hr _ => if_pos hr))
   clear Hsp hsp hs hkk
   have e1 : IntKind.i64.wrap ((n : Int) - 1) = ((n - 1 : Nat) : Int) := by rw [show (n : Int) - 1 = ((n - 1 : Nat) : Int) by omega]; exact wrap_of (by omega) (by omega)
   obtain ⟨fn, hfn⟩ : ∃ fn : Nat → Nat → Bool, fn = spB (.mk 2 num ks) xs ys := ⟨_, rfl⟩
   have Hfn := Lib.hid hfn
   have Hlow : Hid (∀ i c, c < i → bs i c = fn i c) := fun i c hci => by rw [Hfn.out, Hbs.out]; exact ((by rw [spB_cond (by omega)]; simp [Ex.tru, truC] : spB (.mk 2 num ks) xs ys i c = decide (i = c)).symm)
   clear hfn x0 x1 x2 ltx y0 y1 lty
   go_wp2_with fail
   clear e1
   go_loopw [11] (fun v wr => (∃ i : Nat, i < n ∧ v = .int .i64 i ∧ SpW B0 n g gs (moM fn bs (i + 1)) wr ∧ Spares X wK wr) ∨ (v = .int .i64 (-1) ∧ SpW B0 n g gs fn wr ∧ Spares X wK wr)) (fun i _ => (intOf i + 1).toNat)
   case atStart => exact Or.inl ⟨n - 1, by omega, rfl, Hsq.out.congr (fun r c hr _ => by unfold moM; rw [if_neg (by omega)]), Hs.out⟩
   case round =>
    clear Hsq Hs
    rcases hrel with ⟨i, hi, rfl, hsp, hs⟩ | ⟨rfl, hsp, hs⟩
    rotate_left
    ·
     have HF := Lib.hid (hsp.fresh (W := w) (by omega) hn1 (by unfold maxLen; omega))
     have HBf := Lib.hid (HK.out _ hs).bl
     clear hsp hs
     go_wp2_with fail
     go_ret
     exact ⟨g, rfl, by rw [← Hfn.out]; exact HF.out, HBf.out⟩
    obtain ⟨wo, rfl⟩ : ∃ v, v = wr := ⟨_, rfl⟩
    have hi0 := Int.natCast_nonneg i
    have Hmi := Lib.hid (hsp.congr (K := miM fn bs i i) (fun r c _ _ => mo_mi (Hlow.out i) r c))
    have Hs := Lib.hid hs
    clear hsp hs
    go_wp2_with fail
    go_loopw [12] (fun v wr => ∃ b : Nat, i ≤ b ∧ b ≤ n ∧ v = .int .i64 b ∧ SpW B0 n g gs (miM fn bs i b) wr ∧ Spares X wK wr) (fun v _ => n - (intOf v).toNat)
    case atStart => exact ⟨i, Nat.le_refl _, by omega, rfl, Hmi.out, Hs.out⟩
    case round =>
     clear Hmi Hs
     obtain ⟨b, hib, hb, rfl, hsp, hs⟩ := hrel
     obtain ⟨wp, rfl⟩ : ∃ v, v = wr := ⟨_, rfl⟩
     have hb0 := Int.natCast_nonneg b
     have Hs := Lib.hid hs
     by_cases hbn : b < n
     rotate_left
     ·
      obtain rfl : n = b := by omega
      have Hmo := Lib.hid (hsp.congr (K := moM fn bs i) (fun r c _ hc => mi_mo r c hc))
      clear hsp hs
      by_cases hi1 : i = 0
      ·
       subst hi1
       have e2 : IntKind.i64.wrap (((0 : Nat) : Int) - 1) = -1 := rfl
       have Hall := Lib.hid (Hmo.out.congr (K := fn) (fun r c _ _ => mo_all r c))
       go_wp2_with fail
       go_roundw
       case rel => exact Or.inr ⟨rfl, Hall.out, Hs.out⟩
       case measure => simp [intOf]
      ·
       obtain ⟨i', rfl⟩ : ∃ i', i = i' + 1 := ⟨i - 1, by omega⟩
       have e2 : IntKind.i64.wrap (((i' + 1 : Nat) : Int) - 1) = (i' : Int) := by rw [show ((i' + 1 : Nat) : Int) - 1 = (i' : Int) by omega]; exact wrap_of (by omega) (by omega)
       go_wp2_with fail
       go_roundw
       case rel => exact Or.inl ⟨i', by omega, by go_num, Hmo.out, Hs.out⟩
       case measure => simp [intOf]; omega
     have hbz : (b : Int) < (n : Int) := by omega
     have Hsp := Lib.hid hsp
     have hkk := HK.out wp hs
     obtain ⟨x0, x1, x2, -, -, -, ltx⟩ := hkk.E.all3
     clear hsp hs
     have Hnx := Lib.hid (Hsp.out.congr (K := miM fn bs i (b + 1)) (fun r c hr hc => by
      unfold miM
      have h : bs r c = fn r c := by rw [Hbs.out, Hfn.out]; exact ((by rw [spB_cond (by omega)]; simp [Ex.tru, truC] : spB (.mk 2 num ks) xs ys r c = decide (r = c))).symm
      rw [h]
      simp))
     clear hkk
     go_wp2_with fail
     go_roundw
     case rel => exact ⟨b + 1, by omega, by omega, by go_num, Hnx.out, Hs.out⟩
     case measure => simp [intOf]; omega
end Go.Proofs.Ytbflhjjnemdecaa
