/-
  Parts of a proof, joined: Aps, Aut. No condition.
-/
import Derived.Test.YtfhlddbngjlhbaaDoorPk4
namespace Go.Proofs.YtfhlddbngjlhbaaDoor
set_option linter.unusedVariables false
set_option linter.unusedSimpArgs false
open Go.ChangeShapes Go.WideShapes Go.ChangeAt Go.RowKit Go.Deep
def AppS (S : Nat → Prop) (w : World) (t : TypeId) (size n : Nat) (ds : List D) (v : Value) : Prop :=
 ∃ xs F, w.ownsRow 0 t size v n xs ∧ Ows w ds xs F ∧ F.Nodup ∧ (∀ b ∈ F, S b ∧ v.ownBlock ≠ some b) ∧ ∀ b, v.ownBlock = some b → S b
def OwS (S : Nat → Prop) (w : World) (ds : List D) (vs : List Value) : Prop := ∃ F : List Nat, Ows w ds vs F ∧ F.Nodup ∧ ∀ b ∈ F, S b
theorem OwS.keep {S : Nat → Prop} {w w' : World} {ds : List D} {vs : List Value} (h : OwS S w ds vs) (hk : ∀ b, b < w.heap.size → S b → w'.heap[b]? = w.heap[b]?) : OwS S w' ds vs := by
 obtain ⟨F, h1, h2, h3⟩ := h
 exact ⟨F, h1.keep fun b hb => hk b (h1.lt b hb) (h3 b hb), h2, h3⟩
theorem OwS.more {S T : Nat → Prop} {w : World} {ds : List D} {vs : List Value} (h : OwS S w ds vs) (hs : ∀ b, b < w.heap.size → S b → T b) : OwS T w ds vs := by
 obtain ⟨F, h1, h2, h3⟩ := h
 exact ⟨F, h1, h2, fun b hb => hs b (h1.lt b hb) (h3 b hb)⟩
theorem FreshIn.keep {p : Nat × Nat} {w w' : World} {ds : List D} {vs : List Value} (h : FreshIn p w ds vs) (hk : ∀ b, b < w.heap.size → p.1 ≤ b → b < p.2 → w'.heap[b]? = w.heap[b]?) : FreshIn p w' ds vs :=
 OwS.keep h fun b h1 h2 => hk b h1 h2.1 h2.2
theorem AppS.keep {S : Nat → Prop} {w w' : World} {t size n : Nat} {ds : List D} {v : Value} (h : AppS S w t size n ds v) (hk : ∀ b, b < w.heap.size → S b → w'.heap[b]? = w.heap[b]?) : AppS S w' t size n ds v := by
 obtain ⟨xs, F, h1, h2, h3, h4, h5⟩ := h
 refine ⟨xs, F, ⟨h1.1, ?_⟩, h2.keep fun b hb => hk b (h2.lt b hb) (h4 b hb).1, h3, h4, h5⟩
 rcases h1.2 with h | ⟨g, cap, cur, e, hg, hb, hr⟩
 ·
  exact Or.inl h
 ·
  exact Or.inr ⟨g, cap, cur, e, hg, (hk g (Array.getElem?_eq_some_iff.1 hb).1 (h5 g (by rw [e]; rfl))).trans hb, hr⟩
theorem AppS.more {S T : Nat → Prop} {w : World} {t size n : Nat} {ds : List D} {v : Value} (h : AppS S w t size n ds v) (hs : ∀ b, b < w.heap.size → S b → T b) : AppS T w t size n ds v := by
 obtain ⟨xs, F, h1, h2, h3, h4, h5⟩ := h
 exact ⟨xs, F, h1, h2, h3, fun b hb => ⟨hs b (h2.lt b hb) (h4 b hb).1, (h4 b hb).2⟩, fun b hb => hs b (h1.lt b hb).2 (h5 b hb)⟩
theorem AppS.app {S : Nat → Prop} {W w : World} {t size n : Nat} {ds : List D} {v : Value} (h : AppS S w t size n ds v) (hS : ∀ b, S b → W.heap.size ≤ b) : App W w t size n ds v := by
 obtain ⟨xs, F, h1, h2, h3, h4, h5⟩ := h
 refine ⟨xs, F, ⟨h1.1, ?_⟩, h2, h3, fun b hb => ⟨hS b (h4 b hb).1, (h4 b hb).2⟩⟩
 rcases h1.2 with h | ⟨g, cap, cur, e, _, hb, hr⟩
 ·
  exact Or.inl h
 ·
  exact Or.inr ⟨g, cap, cur, e, hS g (h5 g (by rw [e]; rfl)), hb, hr⟩
theorem AppS.shape {S : Nat → Prop} {w : World} {t size n : Nat} {ds : List D} {v : Value} (h : AppS S w t size n ds v) : ∃ a cap, v = .slice a n cap ∧ n ≤ cap ∧ cap ≤ maxLen := by
 obtain ⟨xs, F, ⟨_, h1⟩, _⟩ := h
 rcases h1 with ⟨rfl, rfl⟩ | ⟨g, cap, cur, rfl, _, _, h2, h3, _⟩
 ·
  exact ⟨none, 0, rfl, by omega, by simp [maxLen]⟩
 ·
  exact ⟨_, cap, rfl, h2, h3⟩
theorem news_blk {w : World} {g T : Nat} {vs : List Value} (h : Blk w g T vs) : ∀ j u, vs[j]? = some u → w.cell? ((⟨g, 0, none⟩ : Addr).add j) = some u := by
 intro j u hj
 rw [add_plain, Nat.zero_add, h.cell, hj]
theorem wpList_append_s {P : Program} (w : World) {ops : Array Oper} {rest : List Oper} {o : Oper} {a : Act} {Q : Exit → Act → World → Prop} (hgd : o.guard = none) (s x : Operand) (t : TypeId)
  (ho : o.op = .call { callee := .builtin .append, args := #[s, x], argTypes := #[t, t] })
  (e : TypeId) (z : Value) (size bytes : Nat) (ht : P.underlying t = some (.slice e)) (hinfo : (P.info? e).map (fun i => (i.zero, i.size, i.bytes)) = some (some z, size, bytes)) (hzs : z.cells.size = size) (hsz : 0 < size)
  {S T : Nat → Prop} (v : Value) {n : Nat} {ds : List D} (hs : a.eval s = v) (happ : AppS S w e size n ds v)
  (ad : Addr) (m c : Nat) {es : List D} (news : List Value) (hx : a.eval x = .slice (some ad) m c) (hnews : ∀ j u, news[j]? = some u → w.cell? (ad.add j) = some u) (hes : OwS T w es news) (hST : ∀ b, b < w.heap.size → S b → T b → False)
  (hl : news.length = m * size) (h1 : ∀ u ∈ news, u.oneCell' = true) (hm : 0 < m) (hbytes : (n + m) * bytes ≤ 140737488355328) (h63 : n + m ≤ maxLen)
  (h : ∀ g cap w', AppS (fun b => S b ∨ T b ∨ (w.heap.size ≤ b ∧ b < w'.heap.size)) w' e size (n + m) (ds ++ es) (.slice (some ⟨g, 0, none⟩) (n + m) cap) → Spares S w w' →
   wpList P ops Q rest (a.put o.dst (.slice (some ⟨g, 0, none⟩) (n + m) cap)) w') : wpList P ops Q (o :: rest) a w := by
 obtain ⟨i, hi, hz, hsize, hby⟩ := info_parts hinfo
 obtain ⟨xs, F, a1, a2, a3, a4, a5⟩ := happ
 obtain ⟨G, g1, g2, g3⟩ := hes
 refine wpList_append_lies w hgd s x t ho 0 e i z size bytes ht hi hz hsize hby hzs hsz v n xs hs a1 ad m c news hx hl hnews h1 hm h63 hbytes (Nat.zero_le _) w.heap.size rfl ?_
 intro g cap w' k1 k2 k3 k4
 have hF : ∀ b ∈ F, some b ≠ v.ownBlock := fun b hb' e => (a4 b hb').2 e.symm
 have hG : ∀ b ∈ G, some b ≠ v.ownBlock := fun b hb' e => hST b (g1.lt b hb') (a5 b e.symm) (g3 b hb')
 have hgb : ∀ b, some b ≠ v.ownBlock → b < w.heap.size → Value.ownBlock (.slice (some ⟨g, 0, none⟩) (n + m) cap) ≠ some b := by
  intro b hne hlt e
  simp only [Value.ownBlock, Option.some.injEq] at e
  subst e
  rcases k3 with k3 | k3
  ·
   exact hne k3.symm
  ·
   omega
 refine h g cap w' ⟨xs ++ news, F ++ G, k1, Ows.append (a2.keep fun b hb' => k2.block b (a2.lt b hb') (hF b hb')) (g1.keep fun b hb' => k2.block b (g1.lt b hb') (hG b hb')), ?_, ?_, ?_⟩
  ⟨k2.os, k2.tape, k2.output, k2.size, fun b hb' hn => k2.block b hb' (fun e => hn (a5 b e.symm))⟩
 ·
  rw [List.nodup_append]
  refine ⟨a3, g2, fun p hp q hq hpq => ?_⟩
  subst hpq
  exact hST p (a2.lt p hp) (a4 p hp).1 (g3 p hq)
 ·
  intro b hm'
  rcases List.mem_append.1 hm' with hm' | hm'
  ·
   exact ⟨Or.inl (a4 b hm').1, hgb b (hF b hm') (a2.lt b hm')⟩
  ·
   exact ⟨Or.inr (Or.inl (g3 b hm')), hgb b (hG b hm') (g1.lt b hm')⟩
 ·
  intro b hb'
  simp only [Value.ownBlock, Option.some.injEq] at hb'
  subst hb'
  rcases k3 with k3 | k3
  ·
   exact Or.inl (a5 _ k3)
  ·
   exact Or.inr (Or.inr ⟨by omega, k4⟩)
end Go.Proofs.YtfhlddbngjlhbaaDoor

namespace Go.Proofs.YtfhlddbngjlhbaaDoor
set_option linter.unusedVariables false
set_option linter.unusedSimpArgs false
open Go.ChangeShapes Go.WideShapes Go.ChangeAt Go.RowKit Go.Sort
theorem info_bool : (Tryd.prog.info? 4).map (fun i => (i.zero, i.size, i.bytes)) = some (some (.bool false), 1, 1) := by kernel_rfl
theorem info_bools : (Tryd.prog.info? 52).map (fun i => (i.zero, i.size, i.bytes)) = some (some (.slice none 0 0), 1, 24) := by kernel_rfl
theorem info_int64s : (Tryd.prog.info? 58).map (fun i => (i.zero, i.size, i.bytes)) = some (some (.slice none 0 0), 1, 24) := by kernel_rfl
theorem info_int64ss : (Tryd.prog.info? 54).map (fun i => (i.zero, i.size, i.bytes)) = some (some (.slice none 0 0), 1, 24) := by kernel_rfl
theorem szBoolS_any (zs : List Bool) (s : Option Addr) (cap : Nat) (left : Int) (w : World) (hr : Rd w (boolsD zs) (.slice s zs.length cap)) (h0 : 0 ≤ left) (h1 : left ≤ 1048576) :
  Calls Tryd.prog 27 #[.slice s zs.length cap, .int .i64 left] w fun e w' => SzR zs.length left e ∧ w = w' := by
 obtain ⟨hlen, hcap⟩ := nest_bd hr
 unfold maxLen at hcap
 by_cases hneg : left - (zs.length : Int) < 0
 ·
  go_enter Tryd.func27, Tryd.ntmps27
  go_wp2_with fail
  go_ret
  exact ⟨⟨-1, rfl, by omega, by omega, by omega⟩, rfl⟩
 ·
  have hd : decide (left - (zs.length : Int) < 0) = false := by simpa using hneg
  go_enter Tryd.func27, Tryd.ntmps27
  go_wp2_with fail
  go_ret
  exact ⟨⟨_, rfl, by omega, by omega, by omega⟩, rfl⟩
theorem szInt64S_r (zs : List Int) (s : Option Addr) (cap : Nat) (left : Int) (w : World) (hr : Rd w (nestD D.int zs) (.slice s zs.length cap)) (h0 : 0 ≤ left) (h1 : left ≤ 1048576) :
  Calls Tryd.prog 48 #[.slice s zs.length cap, .int .i64 left] w fun e w' => SzR zs.length left e ∧ w = w' := szInt64S_any zs s cap left w hr h0 h1
theorem szBoolSS_any (xs : List (List Bool)) (s : Option Addr) (cap : Nat) (left : Int) (w : World) (hr : Rd w (bbD xs) (.slice s xs.length cap)) (h0 : 0 ≤ left) (h1 : left ≤ 1048576) :
  Calls Tryd.prog 11 #[.slice s xs.length cap, .int .i64 left] w fun e w' => SzR (xs.length + accL List.length xs) left e ∧ w = w' := by
 obtain ⟨hlen, hcap⟩ := nest_bd hr
 unfold maxLen at hcap
 by_cases hneg : left - (xs.length : Int) < 0
 ·
  go_enter Tryd.func11, Tryd.ntmps11
  go_wp2_with fail
  go_ret
  exact ⟨⟨-1, rfl, by omega, by omega, by omega⟩, rfl⟩
 ·
  have hd : decide (left - (xs.length : Int) < 0) = false := by simpa using hneg
  go_enter Tryd.func11, Tryd.ntmps11
  go_wp2_with fail
  go_loop [1, 5] (fun l i => ∃ (k : Nat) (r : Int), k ≤ xs.length ∧ i = .int .i64 k ∧ l = .int .i64 r ∧ 0 ≤ r ∧ (xs.length : Int) + (accL List.length (xs.take k) : Int) + r ≤ left ∧ r ≤ left) (fun _ i => xs.length - (intOf i).toNat)
  case atStart => exact ⟨0, _, by omega, rfl, rfl, by omega, by simp [accL]; omega, by omega⟩
  case round =>
   obtain ⟨k, r, hk, rfl, rfl, hr0, hr1, hr2⟩ := hrel
   by_cases hlt : k < xs.length
   ·
    obtain ⟨x, hx⟩ : ∃ e, xs[k]? = some e := ⟨_, List.getElem?_eq_getElem hlt⟩
    obtain ⟨b, o, rfl⟩ := nest_some hr (by omega)
    obtain ⟨hbl, s', c', g0, gr⟩ := nest_sl (g := D.bool) hr hx
    have Htk := Lib.hid (accL_take_succ (c := List.length) hx)
    go_wp2_with fail
    refine (szBoolS_any x s' c' r _ gr hr0 (by omega)).mono ?_
    rintro e1 w1 ⟨⟨r', rfl, r1, r2, r3⟩, rfl⟩
    by_cases hr' : r' < 0
    ·
     go_wp2_with fail
     go_ret
     exact ⟨⟨-1, rfl, by omega, by omega, by omega⟩, rfl⟩
    ·
     have hd' : decide (r' < 0) = false := by simpa using hr'
     have r4 := r3 (by omega)
     clear r3
     go_wp2_with fail
     go_round
     case rel =>
      have := Htk.out
      have hc : List.length x = x.length := rfl
      exact ⟨k + 1, r', by omega, by go_num, rfl, by omega, by omega, by omega⟩
     case measure => simp [intOf]; omega
   ·
    obtain rfl : k = xs.length := by omega
    have H := Lib.hid (show accL List.length (xs.take xs.length) = accL List.length xs by rw [List.take_length])
    go_wp2_with fail
    go_ret
    have := H.out
    exact ⟨⟨r, rfl, by omega, by omega, by omega⟩, rfl⟩
theorem szInt64SS_any (xs : List (List Int)) (s : Option Addr) (cap : Nat) (left : Int) (w : World) (hr : Rd w (iiD xs) (.slice s xs.length cap)) (h0 : 0 ≤ left) (h1 : left ≤ 1048576) :
  Calls Tryd.prog 28 #[.slice s xs.length cap, .int .i64 left] w fun e w' => SzR (xs.length + accL List.length xs) left e ∧ w = w' := by
 obtain ⟨hlen, hcap⟩ := nest_bd hr
 unfold maxLen at hcap
 by_cases hneg : left - (xs.length : Int) < 0
 ·
  go_enter Tryd.func28, Tryd.ntmps28
  go_wp2_with fail
  go_ret
  exact ⟨⟨-1, rfl, by omega, by omega, by omega⟩, rfl⟩
 ·
  have hd : decide (left - (xs.length : Int) < 0) = false := by simpa using hneg
  go_enter Tryd.func28, Tryd.ntmps28
  go_wp2_with fail
  go_loop [1, 5] (fun l i => ∃ (k : Nat) (r : Int), k ≤ xs.length ∧ i = .int .i64 k ∧ l = .int .i64 r ∧ 0 ≤ r ∧ (xs.length : Int) + (accL List.length (xs.take k) : Int) + r ≤ left ∧ r ≤ left) (fun _ i => xs.length - (intOf i).toNat)
  case atStart => exact ⟨0, _, by omega, rfl, rfl, by omega, by simp [accL]; omega, by omega⟩
  case round =>
   obtain ⟨k, r, hk, rfl, rfl, hr0, hr1, hr2⟩ := hrel
   by_cases hlt : k < xs.length
   ·
    obtain ⟨x, hx⟩ : ∃ e, xs[k]? = some e := ⟨_, List.getElem?_eq_getElem hlt⟩
    obtain ⟨b, o, rfl⟩ := nest_some hr (by omega)
    obtain ⟨hbl, s', c', g0, gr⟩ := nest_sl (g := D.int) hr hx
    have Htk := Lib.hid (accL_take_succ (c := List.length) hx)
    go_wp2_with fail
    refine (szInt64S_r x s' c' r _ gr hr0 (by omega)).mono ?_
    rintro e1 w1 ⟨⟨r', rfl, r1, r2, r3⟩, rfl⟩
    by_cases hr' : r' < 0
    ·
     go_wp2_with fail
     go_ret
     exact ⟨⟨-1, rfl, by omega, by omega, by omega⟩, rfl⟩
    ·
     have hd' : decide (r' < 0) = false := by simpa using hr'
     have r4 := r3 (by omega)
     clear r3
     go_wp2_with fail
     go_round
     case rel =>
      have := Htk.out
      have hc : List.length x = x.length := rfl
      exact ⟨k + 1, r', by omega, by go_num, rfl, by omega, by omega, by omega⟩
     case measure => simp [intOf]; omega
   ·
    obtain rfl : k = xs.length := by omega
    have H := Lib.hid (show accL List.length (xs.take xs.length) = accL List.length xs by rw [List.take_length])
    go_wp2_with fail
    go_ret
    have := H.out
    exact ⟨⟨r, rfl, by omega, by omega, by omega⟩, rfl⟩
def cntII (x : List (List Int)) : Nat := x.length + accL List.length x
theorem szInt64SSS_any (xs : List (List (List Int))) (s : Option Addr) (cap : Nat) (left : Int) (w : World) (hr : Rd w (iiiD xs) (.slice s xs.length cap)) (h0 : 0 ≤ left) (h1 : left ≤ 1048576) :
  Calls Tryd.prog 12 #[.slice s xs.length cap, .int .i64 left] w fun e w' => SzR (xs.length + accL cntII xs) left e ∧ w = w' := by
 obtain ⟨hlen, hcap⟩ := nest_bd hr
 unfold maxLen at hcap
 by_cases hneg : left - (xs.length : Int) < 0
 ·
  go_enter Tryd.func12, Tryd.ntmps12
  go_wp2_with fail
  go_ret
  exact ⟨⟨-1, rfl, by omega, by omega, by omega⟩, rfl⟩
 ·
  have hd : decide (left - (xs.length : Int) < 0) = false := by simpa using hneg
  go_enter Tryd.func12, Tryd.ntmps12
  go_wp2_with fail
  go_loop [1, 5] (fun l i => ∃ (k : Nat) (r : Int), k ≤ xs.length ∧ i = .int .i64 k ∧ l = .int .i64 r ∧ 0 ≤ r ∧ (xs.length : Int) + (accL cntII (xs.take k) : Int) + r ≤ left ∧ r ≤ left) (fun _ i => xs.length - (intOf i).toNat)
  case atStart => exact ⟨0, _, by omega, rfl, rfl, by omega, by simp [accL]; omega, by omega⟩
  case round =>
   obtain ⟨k, r, hk, rfl, rfl, hr0, hr1, hr2⟩ := hrel
   by_cases hlt : k < xs.length
   ·
    obtain ⟨x, hx⟩ : ∃ e, xs[k]? = some e := ⟨_, List.getElem?_eq_getElem hlt⟩
    obtain ⟨b, o, rfl⟩ := nest_some hr (by omega)
    obtain ⟨hbl, s', c', g0, gr⟩ := nest_sl (g := intsD) hr hx
    have Htk := Lib.hid (accL_take_succ (c := cntII) hx)
    go_wp2_with fail
    refine (szInt64SS_any x s' c' r _ gr hr0 (by omega)).mono ?_
    rintro e1 w1 ⟨⟨r', rfl, r1, r2, r3⟩, rfl⟩
    by_cases hr' : r' < 0
    ·
     go_wp2_with fail
     go_ret
     exact ⟨⟨-1, rfl, by omega, by omega, by omega⟩, rfl⟩
    ·
     have hd' : decide (r' < 0) = false := by simpa using hr'
     have r4 := r3 (by omega)
     clear r3
     go_wp2_with fail
     go_round
     case rel =>
      have := Htk.out
      have hc : cntII x = x.length + accL List.length x := rfl
      exact ⟨k + 1, r', by omega, by go_num, rfl, by omega, by omega, by omega⟩
     case measure => simp [intOf]; omega
   ·
    obtain rfl : k = xs.length := by omega
    have H := Lib.hid (show accL cntII (xs.take xs.length) = accL cntII xs by rw [List.take_length])
    go_wp2_with fail
    go_ret
    have := H.out
    exact ⟨⟨r, rfl, by omega, by omega, by omega⟩, rfl⟩
theorem toBoolS_any (zs : List Bool) (s : Option Addr) (cap : Nat) (w : World) (hr : Rd w (boolsD zs) (.slice s zs.length cap)) (h1 : zs.length ≤ 1048576) :
  Calls Tryd.prog 35 #[.slice s zs.length cap] w fun e w' => ∃ s' c', e = .returned (.slice s' zs.length c') ∧ Fresh w w' (boolsD zs) (.slice s' zs.length c') ∧ Below w.heap.size w w' := by
 obtain ⟨hlen, hcap⟩ := nest_bd hr
 unfold maxLen at hcap
 obtain ⟨i0, hi, hz0, hz1, hz2⟩ := info_parts info_bool
 go_enter Tryd.func35, Tryd.ntmps35
 go_wp2_with (at_make; refine wpList_make_full _ rfl _ _ 52 rfl w.heap.size 4 i0 (.bool false) 1 Tryd.underlying52 hi hz0 hz1 .i64 .i64 _ _ zs.length rfl rfl rfl rfl (by rw [hz2]; omega) (by unfold maxLen; omega) (Nat.le_refl _) ?_; intro w0 hown hgrow)
 have hp := Part.start hown
 have hB0 : Below w.heap.size w w0 := Below.grown (Below.refl _ _) hgrow (Nat.le_refl _) (by simp)
 have hz0' := hp.lt
 clear hown hgrow
 go_loopw [4] (fun i wr => ∃ k : Nat, k ≤ zs.length ∧ i = .int .i64 k ∧ Part wr w.heap.size 4 ((zs.take k).map D.bool) (zs.length * 1) ∧ Below w.heap.size w wr) (fun i _ => zs.length - (intOf i).toNat)
 case atStart => exact ⟨0, by omega, rfl, by simpa using hp, hB0⟩
 case round =>
  clear hp hB0 hz0'
  obtain ⟨k, hk, rfl, hp, hB⟩ := hrel
  by_cases hlt : k < zs.length
  ·
   obtain ⟨z, hz⟩ : ∃ z, zs[k]? = some z := ⟨_, List.getElem?_eq_getElem hlt⟩
   obtain ⟨b, o, rfl⟩ := nest_some hr (by omega)
   obtain ⟨_, g0⟩ := bool_in (hr.below hB) hz
   obtain ⟨y0, d0⟩ := hp.cell k (by omega)
   have z0 := hp.frozen k
   have Hst := Lib.hid (hp.bool hz (by omega))
   have hlt2 := hp.lt
   go_wp2_with fail
   go_roundw
   case rel => exact ⟨k + 1, by omega, by go_num, Hst.out, by (repeat' first | exact Below.refl _ _ | assumption | apply Below.alloc | apply Below.drew | apply Below.setCell | omega | (simp; done) | (simp; omega))⟩
   case measure => simp [intOf]; omega
  ·
   obtain rfl : k = zs.length := by omega
   rw [List.take_length] at hp
   go_wp2_with fail
   go_ret
   exact ⟨_, _, rfl, hp.done (Nat.le_refl _) (by simp) (Nat.le_refl _) (by unfold maxLen; omega), hB⟩
theorem toBoolSS_any (xs : List (List Bool)) (s : Option Addr) (cap : Nat) (w : World) (hr : Rd w (bbD xs) (.slice s xs.length cap)) (h1 : xs.length + accL List.length xs ≤ 1048576) :
  Calls Tryd.prog 16 #[.slice s xs.length cap] w fun e w' => ∃ s' c', e = .returned (.slice s' xs.length c') ∧ Fresh w w' (bbD xs) (.slice s' xs.length c') ∧ Below w.heap.size w w' := by
 obtain ⟨hlen, hcap⟩ := nest_bd hr
 unfold maxLen at hcap
 obtain ⟨i0, hi, hz0, hz1, hz2⟩ := info_parts info_bools
 go_enter Tryd.func16, Tryd.ntmps16
 go_wp2_with (at_make; refine wpList_make_full _ rfl _ _ 24 rfl w.heap.size 52 i0 (.slice none 0 0) 1 Tryd.underlying24 hi hz0 hz1 .i64 .i64 _ _ xs.length rfl rfl rfl rfl (by rw [hz2]; omega) (by unfold maxLen; omega) (Nat.le_refl _) ?_; intro w0 hown hgrow)
 have hp := Part.start hown
 have hB0 : Below w.heap.size w w0 := Below.grown (Below.refl _ _) hgrow (Nat.le_refl _) (by simp)
 have hz0' := hp.lt
 clear hown hgrow
 go_loopw [4] (fun i wr => ∃ k : Nat, k ≤ xs.length ∧ i = .int .i64 k ∧ Part wr w.heap.size 52 ((xs.take k).map boolsD) (xs.length * 1) ∧ Below w.heap.size w wr) (fun i _ => xs.length - (intOf i).toNat)
 case atStart => exact ⟨0, by omega, rfl, by simpa using hp, hB0⟩
 case round =>
  clear hp hB0 hz0'
  obtain ⟨k, hk, rfl, hp, hB⟩ := hrel
  by_cases hlt : k < xs.length
  ·
   obtain ⟨x, hx⟩ : ∃ z, xs[k]? = some z := ⟨_, List.getElem?_eq_getElem hlt⟩
   obtain ⟨b, o, rfl⟩ := nest_some hr (by omega)
   obtain ⟨_, s', c', g0, gr⟩ := nest_sl (g := D.bool) (hr.below hB) hx
   have hcx := accL_mem (c := List.length) hx
   go_wp2_with fail
   refine (toBoolS_any x s' c' _ gr (by have hc : List.length x = x.length := rfl; omega)).mono ?_
   rintro e w1 ⟨s2, c2, rfl, hf, hb⟩
   have hp1 := hp.below hb
   obtain ⟨y0, d0⟩ := hp1.cell k (by omega)
   have z0 := hp1.frozen k
   have Hst := Lib.hid (hp.nest hx hf hb (by omega))
   have hlt2 := hp1.lt
   have hB1 : Below w.heap.size w w1 := Below.on hB hb hB.size
   clear hp hf hb hcx g0
   go_wp2_with fail
   go_roundw
   case rel => exact ⟨k + 1, by omega, by go_num, Hst.out, by (repeat' first | exact Below.refl _ _ | assumption | apply Below.alloc | apply Below.drew | apply Below.setCell | omega | (simp; done) | (simp; omega))⟩
   case measure => simp [intOf]; omega
  ·
   obtain rfl : k = xs.length := by omega
   rw [List.take_length] at hp
   go_wp2_with fail
   go_ret
   exact ⟨_, _, rfl, hp.done (Nat.le_refl _) (by simp) (Nat.le_refl _) (by unfold maxLen; omega), hB⟩
theorem toInt64SS_any (xs : List (List Int)) (s : Option Addr) (cap : Nat) (w : World) (hr : Rd w (iiD xs) (.slice s xs.length cap)) (h1 : xs.length + accL List.length xs ≤ 1048576) :
  Calls Tryd.prog 36 #[.slice s xs.length cap] w fun e w' => ∃ s' c', e = .returned (.slice s' xs.length c') ∧ Fresh w w' (iiD xs) (.slice s' xs.length c') ∧ Below w.heap.size w w' := by
 obtain ⟨hlen, hcap⟩ := nest_bd hr
 unfold maxLen at hcap
 obtain ⟨i0, hi, hz0, hz1, hz2⟩ := info_parts info_int64s
 go_enter Tryd.func36, Tryd.ntmps36
 go_wp2_with (at_make; refine wpList_make_full _ rfl _ _ 54 rfl w.heap.size 58 i0 (.slice none 0 0) 1 Tryd.underlying54 hi hz0 hz1 .i64 .i64 _ _ xs.length rfl rfl rfl rfl (by rw [hz2]; omega) (by unfold maxLen; omega) (Nat.le_refl _) ?_; intro w0 hown hgrow)
 have hp := Part.start hown
 have hB0 : Below w.heap.size w w0 := Below.grown (Below.refl _ _) hgrow (Nat.le_refl _) (by simp)
 have hz0' := hp.lt
 clear hown hgrow
 go_loopw [4] (fun i wr => ∃ k : Nat, k ≤ xs.length ∧ i = .int .i64 k ∧ Part wr w.heap.size 58 ((xs.take k).map intsD) (xs.length * 1) ∧ Below w.heap.size w wr) (fun i _ => xs.length - (intOf i).toNat)
 case atStart => exact ⟨0, by omega, rfl, by simpa using hp, hB0⟩
 case round =>
  clear hp hB0 hz0'
  obtain ⟨k, hk, rfl, hp, hB⟩ := hrel
  by_cases hlt : k < xs.length
  ·
   obtain ⟨x, hx⟩ : ∃ z, xs[k]? = some z := ⟨_, List.getElem?_eq_getElem hlt⟩
   obtain ⟨b, o, rfl⟩ := nest_some hr (by omega)
   obtain ⟨_, s', c', g0, gr⟩ := nest_sl (g := D.int) (hr.below hB) hx
   have hcx := accL_mem (c := List.length) hx
   go_wp2_with fail
   refine (toInt64S_any x s' c' _ gr (by have hc : List.length x = x.length := rfl; omega)).mono ?_
   rintro e w1 ⟨s2, c2, rfl, hf, hb⟩
   have hp1 := hp.below hb
   obtain ⟨y0, d0⟩ := hp1.cell k (by omega)
   have z0 := hp1.frozen k
   have Hst := Lib.hid (hp.nest hx hf hb (by omega))
   have hlt2 := hp1.lt
   have hB1 : Below w.heap.size w w1 := Below.on hB hb hB.size
   clear hp hf hb hcx g0
   go_wp2_with fail
   go_roundw
   case rel => exact ⟨k + 1, by omega, by go_num, Hst.out, by (repeat' first | exact Below.refl _ _ | assumption | apply Below.alloc | apply Below.drew | apply Below.setCell | omega | (simp; done) | (simp; omega))⟩
   case measure => simp [intOf]; omega
  ·
   obtain rfl : k = xs.length := by omega
   rw [List.take_length] at hp
   go_wp2_with fail
   go_ret
   exact ⟨_, _, rfl, hp.done (Nat.le_refl _) (by simp) (Nat.le_refl _) (by unfold maxLen; omega), hB⟩
theorem toInt64SSS_any (xs : List (List (List Int))) (s : Option Addr) (cap : Nat) (w : World) (hr : Rd w (iiiD xs) (.slice s xs.length cap)) (h1 : xs.length + accL cntII xs ≤ 1048576) :
  Calls Tryd.prog 17 #[.slice s xs.length cap] w fun e w' => ∃ s' c', e = .returned (.slice s' xs.length c') ∧ Fresh w w' (iiiD xs) (.slice s' xs.length c') ∧ Below w.heap.size w w' := by
 obtain ⟨hlen, hcap⟩ := nest_bd hr
 unfold maxLen at hcap
 obtain ⟨i0, hi, hz0, hz1, hz2⟩ := info_parts info_int64ss
 go_enter Tryd.func17, Tryd.ntmps17
 go_wp2_with (at_make; refine wpList_make_full _ rfl _ _ 25 rfl w.heap.size 54 i0 (.slice none 0 0) 1 Tryd.underlying25 hi hz0 hz1 .i64 .i64 _ _ xs.length rfl rfl rfl rfl (by rw [hz2]; omega) (by unfold maxLen; omega) (Nat.le_refl _) ?_; intro w0 hown hgrow)
 have hp := Part.start hown
 have hB0 : Below w.heap.size w w0 := Below.grown (Below.refl _ _) hgrow (Nat.le_refl _) (by simp)
 have hz0' := hp.lt
 clear hown hgrow
 go_loopw [4] (fun i wr => ∃ k : Nat, k ≤ xs.length ∧ i = .int .i64 k ∧ Part wr w.heap.size 54 ((xs.take k).map iiD) (xs.length * 1) ∧ Below w.heap.size w wr) (fun i _ => xs.length - (intOf i).toNat)
 case atStart => exact ⟨0, by omega, rfl, by simpa using hp, hB0⟩
 case round =>
  clear hp hB0 hz0'
  obtain ⟨k, hk, rfl, hp, hB⟩ := hrel
  by_cases hlt : k < xs.length
  ·
   obtain ⟨x, hx⟩ : ∃ z, xs[k]? = some z := ⟨_, List.getElem?_eq_getElem hlt⟩
   obtain ⟨b, o, rfl⟩ := nest_some hr (by omega)
   obtain ⟨_, s', c', g0, gr⟩ := nest_sl (g := intsD) (hr.below hB) hx
   have hcx := accL_mem (c := cntII) hx
   go_wp2_with fail
   refine (toInt64SS_any x s' c' _ gr (by have hc : cntII x = x.length + accL List.length x := rfl; omega)).mono ?_
   rintro e w1 ⟨s2, c2, rfl, hf, hb⟩
   have hp1 := hp.below hb
   obtain ⟨y0, d0⟩ := hp1.cell k (by omega)
   have z0 := hp1.frozen k
   have Hst := Lib.hid (hp.nest hx hf hb (by omega))
   have hlt2 := hp1.lt
   have hB1 : Below w.heap.size w w1 := Below.on hB hb hB.size
   clear hp hf hb hcx g0
   go_wp2_with fail
   go_roundw
   case rel => exact ⟨k + 1, by omega, by go_num, Hst.out, by (repeat' first | exact Below.refl _ _ | assumption | apply Below.alloc | apply Below.drew | apply Below.setCell | omega | (simp; done) | (simp; omega))⟩
   case measure => simp [intOf]; omega
  ·
   obtain rfl : k = xs.length := by omega
   rw [List.take_length] at hp
   go_wp2_with fail
   go_ret
   exact ⟨_, _, rfl, hp.done (Nat.le_refl _) (by simp) (Nat.le_refl _) (by unfold maxLen; omega), hB⟩
set_option maxHeartbeats 1000000 in
theorem markBoolS_any (zs : List Bool) (s : Option Addr) (c k : Nat) (F : List Nat) (w : World) (h : Ow w (boolsD zs) (.slice s zs.length c) F) (hn : F.Nodup) (hk : k + (boolsD zs).marks ≤ 1000000000000) (hlen : zs.length ≤ 9223372036854775807) :
  Calls Tryd.prog 44 #[.slice s zs.length c, .int .i64 k] w fun e w' => e = .returned (.int .i64 (k + (boolsD zs).marks : Nat)) ∧ Ow w' (D.mark (boolsD zs) k) (.slice s zs.length c) F ∧ Only F w w' := by
 have e0 : (boolsD zs).marks = zs.length := bools_marks zs
 have H0 : Ow w (.sl 1 zs.length (mkd (zs.map D.bool) 0 k)) (.slice s zs.length c) F := by rw [mkd_zero]; exact h
 rw [e0] at hk ⊢
 clear e0
 go_enter Tryd.func44, Tryd.ntmps44
 go_wp2_with fail
 go_loopw [1, 5] (fun q i wr => ∃ j : Nat, j ≤ zs.length ∧ i = .int .i64 j ∧ q = .int .i64 (k + j : Nat) ∧ Ow wr (.sl 1 zs.length (mkd (zs.map D.bool) j k)) (.slice s zs.length c) F ∧ Only F w wr) (fun _ i _ => zs.length - (intOf i).toNat)
 case atStart => exact ⟨0, by omega, rfl, rfl, H0, Only.refl _ _⟩
 case round =>
  clear h H0
  obtain ⟨j, hj, rfl, rfl, h, hO⟩ := hrel
  by_cases hlt : j < zs.length
  ·
   obtain ⟨z, hz⟩ : ∃ e, zs[j]? = some e := ⟨_, List.getElem?_eq_getElem hlt⟩
   obtain ⟨b, o, rfl⟩ := h.spot (by omega)
   have hat := mkd_at (map_at (f := D.bool) hz) (Nat.le_refl j) k
   obtain ⟨g0, g1, g2, g3⟩ := h.bool_cell hn hat
   obtain ⟨q, hq⟩ : ∃ q, k + j = q := ⟨_, rfl⟩
   have Hst : Hid (Ow (wr.setCell ⟨b, o + j, none⟩ (.bool ((q : Int) % 3 == 0))) (.sl 1 zs.length (mkd (zs.map D.bool) (j + 1) k)) (.slice (some ⟨b, o, none⟩) zs.length c) F ∧ Only F w (wr.setCell ⟨b, o + j, none⟩ (.bool ((q : Int) % 3 == 0)))) := by
    obtain ⟨q1, q2⟩ := g3 ((q : Int) % 3 == 0)
    refine ⟨?_, hO.trans q2⟩
    have e := mkd_step (map_at (f := D.bool) hz) k
    rw [bools_take _ _ hj, hq, mark_bool] at e
    rw [← e]
    exact q1
   have Hq := Lib.hid hq
   rw [hq]
   have hq0 : q + 1 ≤ 1000000000000 := by omega
   clear g3 hat hq
   go_wp2_with fail
   go_roundw
   case rel => exact ⟨j + 1, by omega, by go_num, by rw [← Nat.add_assoc, Hq.out]; go_num, Hst.out.1, Hst.out.2⟩
   case measure => simp [intOf]; omega
  ·
   obtain rfl : j = zs.length := by omega
   have e := mkd_all (zs.map D.bool) k
   rw [List.length_map] at e
   rw [e] at h
   go_wp2_with fail
   go_ret
   exact ⟨rfl, h, hO⟩
theorem markInt64S_r (zs : List Int) (s : Option Addr) (c k : Nat) (F : List Nat) (w : World) (h : Ow w (nestD D.int zs) (.slice s zs.length c) F) (hn : F.Nodup) (hk : k + (intsD zs).marks ≤ 1000000000000) (hlen : zs.length ≤ 9223372036854775807) :
  Calls Tryd.prog 57 #[.slice s zs.length c, .int .i64 k] w fun e w' => e = .returned (.int .i64 (k + (intsD zs).marks : Nat)) ∧ Ow w' (D.mark (intsD zs) k) (.slice s zs.length c) F ∧ Only F w w' := by
 have e0 : (intsD zs).marks = zs.length := marksL_ints zs
 rw [e0] at hk ⊢
 exact markInt64S_i h hn (by omega) (by omega)
theorem markBoolSS_any (xs : List (List Bool)) (s : Option Addr) (c k : Nat) (F : List Nat) (w : World) (h : Ow w (bbD xs) (.slice s xs.length c) F) (hn : F.Nodup) (hk : k + (bbD xs).marks ≤ 1000000000000) (hlen : xs.length ≤ 9223372036854775807) :
  Calls Tryd.prog 23 #[.slice s xs.length c, .int .i64 k] w fun e w' => e = .returned (.int .i64 (k + (bbD xs).marks : Nat)) ∧ Ow w' (D.mark (bbD xs) k) (.slice s xs.length c) F ∧ Only F w w' := by
 have e0 : (bbD xs).marks = accL (fun x => (boolsD x).marks) xs := marksL_map (f := boolsD) xs
 have H0 : Ow w (.sl 1 xs.length (mkd (xs.map boolsD) 0 k)) (.slice s xs.length c) F := by rw [mkd_zero]; exact h
 rw [e0] at hk ⊢
 clear e0
 go_enter Tryd.func23, Tryd.ntmps23
 go_wp2_with fail
 go_loopw [1, 5] (fun q i wr => ∃ j : Nat, j ≤ xs.length ∧ i = .int .i64 j ∧ q = .int .i64 (k + accL (fun x => (boolsD x).marks) (xs.take j) : Nat) ∧ Ow wr (.sl 1 xs.length (mkd (xs.map boolsD) j k)) (.slice s xs.length c) F ∧ Only F w wr) (fun _ i _ => xs.length - (intOf i).toNat)
 case atStart => exact ⟨0, by omega, rfl, by simp [accL], H0, Only.refl _ _⟩
 case round =>
  clear h H0
  obtain ⟨j, hj, rfl, rfl, h, hO⟩ := hrel
  by_cases hlt : j < xs.length
  ·
   obtain ⟨x, hx⟩ : ∃ e, xs[j]? = some e := ⟨_, List.getElem?_eq_getElem hlt⟩
   obtain ⟨b, o, rfl⟩ := h.spot (by omega)
   obtain ⟨q, hq⟩ : ∃ q, k + accL (fun x => (boolsD x).marks) (xs.take j) = q := ⟨_, rfl⟩
   have hat : (mkd (xs.map boolsD) j k)[j]? = some (.sl 1 x.length (x.map D.bool)) := mkd_at (map_at hx) (Nat.le_refl j) k
   obtain ⟨a', c', G, g0, z0, -, -, hGF, hGn, hG, s0⟩ := h.sl_cell hn hat
   have e1 := mkd_step (map_at (f := boolsD) hx) k
   rw [map_take_marks, hq] at e1
   have htk := accL_take_succ (c := fun x => (boolsD x).marks) hx
   have htl := accL_take_le (fun x => (boolsD x).marks) xs (j + 1)
   have hqb : q + (boolsD x).marks ≤ 1000000000000 := by (try simp only at htk htl); omega
   have Hq : Hid (q + (boolsD x).marks = k + accL (fun x => (boolsD x).marks) (xs.take (j + 1))) := by show _ = _; (try simp only at htk); omega
   have He1 := Lib.hid e1
   have Hs0 := Lib.hid s0
   have HO := Lib.hid hO
   have hxl : x.length ≤ 9223372036854775807 := by
    obtain ⟨-, h2, h3, -⟩ := hG.cells
    unfold maxLen at h3
    omega
   rw [hq]
   clear e1 s0 hO htk htl hq h hat
   go_wp2_with fail
   refine (markBoolS_any x a' c' q G _ hG hGn hqb hxl).mono ?_
   rintro e w1 ⟨rfl, hm, hO2⟩
   obtain ⟨t1, t2⟩ := Hs0.out w1 _ hm hO2
   have t3 : Ow w1 (.sl 1 xs.length (mkd (xs.map boolsD) (j + 1) k)) (.slice (some ⟨b, o, none⟩) xs.length c) F := by rw [← He1.out]; exact t1
   have Hfin := Lib.hid (And.intro t3 (HO.out.trans t2))
   clear t1 t2 t3 hm hO2 hG g0 z0
   rw [Hq.out]
   go_wp2_with fail
   go_roundw
   case rel => exact ⟨j + 1, by omega, by go_num, rfl, Hfin.out.1, Hfin.out.2⟩
   case measure => simp [intOf]; omega
  ·
   obtain rfl : j = xs.length := by omega
   have e := mkd_all (xs.map boolsD) k
   rw [List.length_map] at e
   rw [e] at h
   rw [List.take_length] at *
   go_wp2_with fail
   go_ret
   exact ⟨rfl, h, hO⟩
theorem markInt64SS_any (xs : List (List Int)) (s : Option Addr) (c k : Nat) (F : List Nat) (w : World) (h : Ow w (iiD xs) (.slice s xs.length c) F) (hn : F.Nodup) (hk : k + (iiD xs).marks ≤ 1000000000000) (hlen : xs.length ≤ 9223372036854775807) :
  Calls Tryd.prog 45 #[.slice s xs.length c, .int .i64 k] w fun e w' => e = .returned (.int .i64 (k + (iiD xs).marks : Nat)) ∧ Ow w' (D.mark (iiD xs) k) (.slice s xs.length c) F ∧ Only F w w' := by
 have e0 : (iiD xs).marks = accL (fun x => (intsD x).marks) xs := marksL_map (f := intsD) xs
 have H0 : Ow w (.sl 1 xs.length (mkd (xs.map intsD) 0 k)) (.slice s xs.length c) F := by rw [mkd_zero]; exact h
 rw [e0] at hk ⊢
 clear e0
 go_enter Tryd.func45, Tryd.ntmps45
 go_wp2_with fail
 go_loopw [1, 5] (fun q i wr => ∃ j : Nat, j ≤ xs.length ∧ i = .int .i64 j ∧ q = .int .i64 (k + accL (fun x => (intsD x).marks) (xs.take j) : Nat) ∧ Ow wr (.sl 1 xs.length (mkd (xs.map intsD) j k)) (.slice s xs.length c) F ∧ Only F w wr) (fun _ i _ => xs.length - (intOf i).toNat)
 case atStart => exact ⟨0, by omega, rfl, by simp [accL], H0, Only.refl _ _⟩
 case round =>
  clear h H0
  obtain ⟨j, hj, rfl, rfl, h, hO⟩ := hrel
  by_cases hlt : j < xs.length
  ·
   obtain ⟨x, hx⟩ : ∃ e, xs[j]? = some e := ⟨_, List.getElem?_eq_getElem hlt⟩
   obtain ⟨b, o, rfl⟩ := h.spot (by omega)
   obtain ⟨q, hq⟩ : ∃ q, k + accL (fun x => (intsD x).marks) (xs.take j) = q := ⟨_, rfl⟩
   have hat : (mkd (xs.map intsD) j k)[j]? = some (.sl 1 x.length (x.map D.int)) := mkd_at (map_at hx) (Nat.le_refl j) k
   obtain ⟨a', c', G, g0, z0, -, -, hGF, hGn, hG, s0⟩ := h.sl_cell hn hat
   have e1 := mkd_step (map_at (f := intsD) hx) k
   rw [map_take_marks, hq] at e1
   have htk := accL_take_succ (c := fun x => (intsD x).marks) hx
   have htl := accL_take_le (fun x => (intsD x).marks) xs (j + 1)
   have hqb : q + (intsD x).marks ≤ 1000000000000 := by (try simp only at htk htl); omega
   have Hq : Hid (q + (intsD x).marks = k + accL (fun x => (intsD x).marks) (xs.take (j + 1))) := by show _ = _; (try simp only at htk); omega
   have He1 := Lib.hid e1
   have Hs0 := Lib.hid s0
   have HO := Lib.hid hO
   have hxl : x.length ≤ 9223372036854775807 := by
    obtain ⟨-, h2, h3, -⟩ := hG.cells
    unfold maxLen at h3
    omega
   rw [hq]
   clear e1 s0 hO htk htl hq h hat
   go_wp2_with fail
   refine (markInt64S_r x a' c' q G _ hG hGn hqb hxl).mono ?_
   rintro e w1 ⟨rfl, hm, hO2⟩
   obtain ⟨t1, t2⟩ := Hs0.out w1 _ hm hO2
   have t3 : Ow w1 (.sl 1 xs.length (mkd (xs.map intsD) (j + 1) k)) (.slice (some ⟨b, o, none⟩) xs.length c) F := by rw [← He1.out]; exact t1
   have Hfin := Lib.hid (And.intro t3 (HO.out.trans t2))
   clear t1 t2 t3 hm hO2 hG g0 z0
   rw [Hq.out]
   go_wp2_with fail
   go_roundw
   case rel => exact ⟨j + 1, by omega, by go_num, rfl, Hfin.out.1, Hfin.out.2⟩
   case measure => simp [intOf]; omega
  ·
   obtain rfl : j = xs.length := by omega
   have e := mkd_all (xs.map intsD) k
   rw [List.length_map] at e
   rw [e] at h
   rw [List.take_length] at *
   go_wp2_with fail
   go_ret
   exact ⟨rfl, h, hO⟩
theorem markInt64SSS_any (xs : List (List (List Int))) (s : Option Addr) (c k : Nat) (F : List Nat) (w : World) (h : Ow w (iiiD xs) (.slice s xs.length c) F) (hn : F.Nodup) (hk : k + (iiiD xs).marks ≤ 1000000000000) (hlen : xs.length ≤ 9223372036854775807) :
  Calls Tryd.prog 24 #[.slice s xs.length c, .int .i64 k] w fun e w' => e = .returned (.int .i64 (k + (iiiD xs).marks : Nat)) ∧ Ow w' (D.mark (iiiD xs) k) (.slice s xs.length c) F ∧ Only F w w' := by
 have e0 : (iiiD xs).marks = accL (fun x => (iiD x).marks) xs := marksL_map (f := iiD) xs
 have H0 : Ow w (.sl 1 xs.length (mkd (xs.map iiD) 0 k)) (.slice s xs.length c) F := by rw [mkd_zero]; exact h
 rw [e0] at hk ⊢
 clear e0
 go_enter Tryd.func24, Tryd.ntmps24
 go_wp2_with fail
 go_loopw [1, 5] (fun q i wr => ∃ j : Nat, j ≤ xs.length ∧ i = .int .i64 j ∧ q = .int .i64 (k + accL (fun x => (iiD x).marks) (xs.take j) : Nat) ∧ Ow wr (.sl 1 xs.length (mkd (xs.map iiD) j k)) (.slice s xs.length c) F ∧ Only F w wr) (fun _ i _ => xs.length - (intOf i).toNat)
 case atStart => exact ⟨0, by omega, rfl, by simp [accL], H0, Only.refl _ _⟩
 case round =>
  clear h H0
  obtain ⟨j, hj, rfl, rfl, h, hO⟩ := hrel
  by_cases hlt : j < xs.length
  ·
   obtain ⟨x, hx⟩ : ∃ e, xs[j]? = some e := ⟨_, List.getElem?_eq_getElem hlt⟩
   obtain ⟨b, o, rfl⟩ := h.spot (by omega)
   obtain ⟨q, hq⟩ : ∃ q, k + accL (fun x => (iiD x).marks) (xs.take j) = q := ⟨_, rfl⟩
   have hat : (mkd (xs.map iiD) j k)[j]? = some (.sl 1 x.length (x.map intsD)) := mkd_at (map_at hx) (Nat.le_refl j) k
   obtain ⟨a', c', G, g0, z0, -, -, hGF, hGn, hG, s0⟩ := h.sl_cell hn hat
   have e1 := mkd_step (map_at (f := iiD) hx) k
   rw [map_take_marks, hq] at e1
   have htk := accL_take_succ (c := fun x => (iiD x).marks) hx
   have htl := accL_take_le (fun x => (iiD x).marks) xs (j + 1)
   have hqb : q + (iiD x).marks ≤ 1000000000000 := by (try simp only at htk htl); omega
   have Hq : Hid (q + (iiD x).marks = k + accL (fun x => (iiD x).marks) (xs.take (j + 1))) := by show _ = _; (try simp only at htk); omega
   have He1 := Lib.hid e1
   have Hs0 := Lib.hid s0
   have HO := Lib.hid hO
   have hxl : x.length ≤ 9223372036854775807 := by
    obtain ⟨-, h2, h3, -⟩ := hG.cells
    unfold maxLen at h3
    omega
   rw [hq]
   clear e1 s0 hO htk htl hq h hat
   go_wp2_with fail
   refine (markInt64SS_any x a' c' q G _ hG hGn hqb hxl).mono ?_
   rintro e w1 ⟨rfl, hm, hO2⟩
   obtain ⟨t1, t2⟩ := Hs0.out w1 _ hm hO2
   have t3 : Ow w1 (.sl 1 xs.length (mkd (xs.map iiD) (j + 1) k)) (.slice (some ⟨b, o, none⟩) xs.length c) F := by rw [← He1.out]; exact t1
   have Hfin := Lib.hid (And.intro t3 (HO.out.trans t2))
   clear t1 t2 t3 hm hO2 hG g0 z0
   rw [Hq.out]
   go_wp2_with fail
   go_roundw
   case rel => exact ⟨j + 1, by omega, by go_num, rfl, Hfin.out.1, Hfin.out.2⟩
   case measure => simp [intOf]; omega
  ·
   obtain rfl : j = xs.length := by omega
   have e := mkd_all (xs.map iiD) k
   rw [List.length_map] at e
   rw [e] at h
   rw [List.take_length] at *
   go_wp2_with fail
   go_ret
   exact ⟨rfl, h, hO⟩
theorem heldBoolS_any (zs : List Bool) (s : Option Addr) (c k : Nat) (w : World) (h : Rd w (D.mark (boolsD zs) k) (.slice s zs.length c)) (hk : k + (boolsD zs).marks ≤ 1000000000000) :
  Calls Tryd.prog 46 #[.slice s zs.length c, .int .i64 k] w fun e w' => e = .returned (.int .i64 (k + (boolsD zs).marks : Nat)) ∧ w = w' := by
 rw [bools_marks] at hk ⊢
 have h' : Rd w (.sl 1 zs.length (D.markL (zs.map D.bool) k)) (.slice s zs.length c) := h
 obtain ⟨-, hln, hcp, -, -, h4⟩ := h'.sl_at
 unfold maxLen at hcp
 clear h' h
 go_enter Tryd.func46, Tryd.ntmps46
 go_wp2_with fail
 go_loop [1, 5] (fun q i => ∃ j : Nat, j ≤ zs.length ∧ i = .int .i64 j ∧ q = .int .i64 (k + j : Nat)) (fun _ i => zs.length - (intOf i).toNat)
 case atStart => exact ⟨0, by omega, rfl, rfl⟩
 case round =>
  obtain ⟨j, hj, rfl, rfl⟩ := hrel
  by_cases hlt : j < zs.length
  ·
   obtain ⟨z, hz⟩ : ∃ e, zs[j]? = some e := ⟨_, List.getElem?_eq_getElem hlt⟩
   have hat := markL_at (map_at (f := D.bool) hz) k
   rw [bools_take _ _ hj] at hat
   rcases h4 with h4 | ⟨b, o, rfl, h4⟩
   ·
    omega
   obtain ⟨x, hx, hr⟩ := h4 _ _ hat
   rw [mark_bool] at hr
   simp only [Rd] at hr
   subst hr
   obtain ⟨q, hq⟩ : ∃ q, k + j = q := ⟨_, rfl⟩
   have Hq := Lib.hid hq
   rw [hq] at hx ⊢
   have hq0 : q + 1 ≤ 1000000000000 := by omega
   clear h4 hat hq
   go_wp2_with fail
   go_round
   case rel => exact ⟨j + 1, by omega, by go_num, by rw [← Nat.add_assoc, Hq.out]; go_num⟩
   case measure => simp [intOf]; omega
  ·
   obtain rfl : j = zs.length := by omega
   go_wp2_with fail
   go_ret
   exact ⟨rfl, rfl⟩
theorem heldInt64S_r (zs : List Int) (s : Option Addr) (c k : Nat) (w : World) (h : Rd w (D.mark (nestD D.int zs) k) (.slice s zs.length c)) (hk : k + (intsD zs).marks ≤ 1000000000000) :
  Calls Tryd.prog 58 #[.slice s zs.length c, .int .i64 k] w fun e w' => e = .returned (.int .i64 (k + (intsD zs).marks : Nat)) ∧ w = w' := by
 have e0 : (intsD zs).marks = zs.length := marksL_ints zs
 rw [e0] at hk ⊢
 exact heldInt64S_i h (by omega) (by omega)
theorem heldBoolSS_any (xs : List (List Bool)) (s : Option Addr) (c k : Nat) (w : World) (h : Rd w (D.mark (bbD xs) k) (.slice s xs.length c)) (hk : k + (bbD xs).marks ≤ 1000000000000) :
  Calls Tryd.prog 25 #[.slice s xs.length c, .int .i64 k] w fun e w' => e = .returned (.int .i64 (k + (bbD xs).marks : Nat)) ∧ w = w' := by
 have e0 : (bbD xs).marks = accL (fun x => (boolsD x).marks) xs := marksL_map (f := boolsD) xs
 rw [e0] at hk ⊢
 clear e0
 have h' : Rd w (.sl 1 xs.length (D.markL (xs.map boolsD) k)) (.slice s xs.length c) := h
 obtain ⟨-, hln, hcp, -, -, h4⟩ := h'.sl_at
 unfold maxLen at hcp
 clear h'
 go_enter Tryd.func25, Tryd.ntmps25
 go_wp2_with fail
 go_loop [1, 5] (fun q i => ∃ j : Nat, j ≤ xs.length ∧ i = .int .i64 j ∧ q = .int .i64 (k + accL (fun x => (boolsD x).marks) (xs.take j) : Nat)) (fun _ i => xs.length - (intOf i).toNat)
 case atStart => exact ⟨0, by omega, rfl, by simp [accL]⟩
 case round =>
  obtain ⟨j, hj, rfl, rfl⟩ := hrel
  by_cases hlt : j < xs.length
  ·
   obtain ⟨x, hx⟩ : ∃ e, xs[j]? = some e := ⟨_, List.getElem?_eq_getElem hlt⟩
   rcases h4 with h4 | ⟨b, o, rfl, h4⟩
   ·
    omega
   obtain ⟨q, hq⟩ : ∃ q, k + accL (fun x => (boolsD x).marks) (xs.take j) = q := ⟨_, rfl⟩
   have a0 := markL_at (map_at (f := boolsD) hx) k
   rw [map_take_marks, hq] at a0
   obtain ⟨x0, g0, r0⟩ := h4 _ _ a0
   obtain ⟨a', c', rfl, -⟩ : ∃ a' c', x0 = .slice a' x.length c' ∧ True := by
    have r1 : Rd w (.sl 1 x.length (D.markL (x.map D.bool) q)) x0 := r0
    obtain ⟨a', c', e, _⟩ := r1.slice
    exact ⟨a', c', e, trivial⟩
   have htk := accL_take_succ (c := fun x => (boolsD x).marks) hx
   have htl := accL_take_le (fun x => (boolsD x).marks) xs (j + 1)
   have hqb : q + (boolsD x).marks ≤ 1000000000000 := by (try simp only at htk htl); omega
   have Hq : Hid (q + (boolsD x).marks = k + accL (fun x => (boolsD x).marks) (xs.take (j + 1))) := by show _ = _; (try simp only at htk); omega
   rw [hq]
   clear htk htl hq a0 h4 h
   go_wp2_with fail
   refine (heldBoolS_any x a' c' q _ r0 hqb).mono ?_
   rintro e w1 ⟨rfl, rfl⟩
   rw [Hq.out]
   go_wp2_with fail
   go_round
   case rel => exact ⟨j + 1, by omega, by go_num, rfl⟩
   case measure => simp [intOf]; omega
  ·
   obtain rfl : j = xs.length := by omega
   rw [List.take_length] at *
   go_wp2_with fail
   go_ret
   exact ⟨rfl, rfl⟩
theorem heldInt64SS_any (xs : List (List Int)) (s : Option Addr) (c k : Nat) (w : World) (h : Rd w (D.mark (iiD xs) k) (.slice s xs.length c)) (hk : k + (iiD xs).marks ≤ 1000000000000) :
  Calls Tryd.prog 47 #[.slice s xs.length c, .int .i64 k] w fun e w' => e = .returned (.int .i64 (k + (iiD xs).marks : Nat)) ∧ w = w' := by
 have e0 : (iiD xs).marks = accL (fun x => (intsD x).marks) xs := marksL_map (f := intsD) xs
 rw [e0] at hk ⊢
 clear e0
 have h' : Rd w (.sl 1 xs.length (D.markL (xs.map intsD) k)) (.slice s xs.length c) := h
 obtain ⟨-, hln, hcp, -, -, h4⟩ := h'.sl_at
 unfold maxLen at hcp
 clear h'
 go_enter Tryd.func47, Tryd.ntmps47
 go_wp2_with fail
 go_loop [1, 5] (fun q i => ∃ j : Nat, j ≤ xs.length ∧ i = .int .i64 j ∧ q = .int .i64 (k + accL (fun x => (intsD x).marks) (xs.take j) : Nat)) (fun _ i => xs.length - (intOf i).toNat)
 case atStart => exact ⟨0, by omega, rfl, by simp [accL]⟩
 case round =>
  obtain ⟨j, hj, rfl, rfl⟩ := hrel
  by_cases hlt : j < xs.length
  ·
   obtain ⟨x, hx⟩ : ∃ e, xs[j]? = some e := ⟨_, List.getElem?_eq_getElem hlt⟩
   rcases h4 with h4 | ⟨b, o, rfl, h4⟩
   ·
    omega
   obtain ⟨q, hq⟩ : ∃ q, k + accL (fun x => (intsD x).marks) (xs.take j) = q := ⟨_, rfl⟩
   have a0 := markL_at (map_at (f := intsD) hx) k
   rw [map_take_marks, hq] at a0
   obtain ⟨x0, g0, r0⟩ := h4 _ _ a0
   obtain ⟨a', c', rfl, -⟩ : ∃ a' c', x0 = .slice a' x.length c' ∧ True := by
    have r1 : Rd w (.sl 1 x.length (D.markL (x.map D.int) q)) x0 := r0
    obtain ⟨a', c', e, _⟩ := r1.slice
    exact ⟨a', c', e, trivial⟩
   have htk := accL_take_succ (c := fun x => (intsD x).marks) hx
   have htl := accL_take_le (fun x => (intsD x).marks) xs (j + 1)
   have hqb : q + (intsD x).marks ≤ 1000000000000 := by (try simp only at htk htl); omega
   have Hq : Hid (q + (intsD x).marks = k + accL (fun x => (intsD x).marks) (xs.take (j + 1))) := by show _ = _; (try simp only at htk); omega
   rw [hq]
   clear htk htl hq a0 h4 h
   go_wp2_with fail
   refine (heldInt64S_r x a' c' q _ r0 hqb).mono ?_
   rintro e w1 ⟨rfl, rfl⟩
   rw [Hq.out]
   go_wp2_with fail
   go_round
   case rel => exact ⟨j + 1, by omega, by go_num, rfl⟩
   case measure => simp [intOf]; omega
  ·
   obtain rfl : j = xs.length := by omega
   rw [List.take_length] at *
   go_wp2_with fail
   go_ret
   exact ⟨rfl, rfl⟩
theorem heldInt64SSS_any (xs : List (List (List Int))) (s : Option Addr) (c k : Nat) (w : World) (h : Rd w (D.mark (iiiD xs) k) (.slice s xs.length c)) (hk : k + (iiiD xs).marks ≤ 1000000000000) :
  Calls Tryd.prog 26 #[.slice s xs.length c, .int .i64 k] w fun e w' => e = .returned (.int .i64 (k + (iiiD xs).marks : Nat)) ∧ w = w' := by
 have e0 : (iiiD xs).marks = accL (fun x => (iiD x).marks) xs := marksL_map (f := iiD) xs
 rw [e0] at hk ⊢
 clear e0
 have h' : Rd w (.sl 1 xs.length (D.markL (xs.map iiD) k)) (.slice s xs.length c) := h
 obtain ⟨-, hln, hcp, -, -, h4⟩ := h'.sl_at
 unfold maxLen at hcp
 clear h'
 go_enter Tryd.func26, Tryd.ntmps26
 go_wp2_with fail
 go_loop [1, 5] (fun q i => ∃ j : Nat, j ≤ xs.length ∧ i = .int .i64 j ∧ q = .int .i64 (k + accL (fun x => (iiD x).marks) (xs.take j) : Nat)) (fun _ i => xs.length - (intOf i).toNat)
 case atStart => exact ⟨0, by omega, rfl, by simp [accL]⟩
 case round =>
  obtain ⟨j, hj, rfl, rfl⟩ := hrel
  by_cases hlt : j < xs.length
  ·
   obtain ⟨x, hx⟩ : ∃ e, xs[j]? = some e := ⟨_, List.getElem?_eq_getElem hlt⟩
   rcases h4 with h4 | ⟨b, o, rfl, h4⟩
   ·
    omega
   obtain ⟨q, hq⟩ : ∃ q, k + accL (fun x => (iiD x).marks) (xs.take j) = q := ⟨_, rfl⟩
   have a0 := markL_at (map_at (f := iiD) hx) k
   rw [map_take_marks, hq] at a0
   obtain ⟨x0, g0, r0⟩ := h4 _ _ a0
   obtain ⟨a', c', rfl, -⟩ : ∃ a' c', x0 = .slice a' x.length c' ∧ True := by
    have r1 : Rd w (.sl 1 x.length (D.markL (x.map intsD) q)) x0 := r0
    obtain ⟨a', c', e, _⟩ := r1.slice
    exact ⟨a', c', e, trivial⟩
   have htk := accL_take_succ (c := fun x => (iiD x).marks) hx
   have htl := accL_take_le (fun x => (iiD x).marks) xs (j + 1)
   have hqb : q + (iiD x).marks ≤ 1000000000000 := by (try simp only at htk htl); omega
   have Hq : Hid (q + (iiD x).marks = k + accL (fun x => (iiD x).marks) (xs.take (j + 1))) := by show _ = _; (try simp only at htk); omega
   rw [hq]
   clear htk htl hq a0 h4 h
   go_wp2_with fail
   refine (heldInt64SS_any x a' c' q _ r0 hqb).mono ?_
   rintro e w1 ⟨rfl, rfl⟩
   rw [Hq.out]
   go_wp2_with fail
   go_round
   case rel => exact ⟨j + 1, by omega, by go_num, rfl⟩
   case measure => simp [intOf]; omega
  ·
   obtain rfl : j = xs.length := by omega
   rw [List.take_length] at *
   go_wp2_with fail
   go_ret
   exact ⟨rfl, rfl⟩
end Go.Proofs.YtfhlddbngjlhbaaDoor
