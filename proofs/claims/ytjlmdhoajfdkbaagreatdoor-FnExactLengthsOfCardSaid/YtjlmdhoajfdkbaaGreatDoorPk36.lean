/-
  Parts of a proof, joined: Mem, Rg, Ints, App, Mark, MarkW, Cnt, LiveP, AutU, Counts, Arr. No condition.
-/
import Derived.Test.YtjlmdhoajfdkbaaGreatDoorPk23
namespace Go.Proofs.YtjlmdhoajfdkbaaGreatDoor
set_option linter.unusedVariables false
set_option linter.unusedSimpArgs false
open Go.ChangeShapes Go.WideShapes Go.ChangeAt Go.RowKit Go.Deep
theorem Free.frozen {w : World} {g : Nat} (h : Free w g) (i : Nat) : w.frozen? ⟨g, i, none⟩ = false := by
 obtain ⟨cur, t, h⟩ := h
 have h' : w.heap[(⟨g, i, none⟩ : Addr).block]? = some (.cells cur t (0, 0)) := h
 simp [World.frozen?, h']
theorem Only.refl (F : List Nat) (w : World) : Only F w w := ⟨rfl, rfl, rfl, Nat.le_refl _, fun _ _ _ => rfl⟩
theorem Only.trans {F : List Nat} {a b c : World} (h : Only F a b) (k : Only F b c) : Only F a c :=
 ⟨k.os.trans h.os, k.tape.trans h.tape, k.output.trans h.output, Nat.le_trans h.size k.size, fun i hi hn => (k.block i (Nat.lt_of_lt_of_le hi h.size) hn).trans (h.block i hi hn)⟩
theorem Only.more {F G : List Nat} {a b : World} (h : Only F a b) (hs : ∀ x ∈ F, x ∈ G) : Only G a b :=
 ⟨h.os, h.tape, h.output, h.size, fun i hi hn => h.block i hi fun hm => hn (hs i hm)⟩
theorem Only.setCell {F : List Nat} {a w : World} (h : Only F a w) {p : Addr} (hp : p.block ∈ F) (u : Value) : Only F a (w.setCell p u) :=
 h.trans ⟨rfl, rfl, rfl, by simp [World.setCell], fun k _ hn => Below.heap_setCell _ _ _ _ (fun e => hn (e ▸ hp))⟩
theorem Only.alloc {F : List Nat} {a w : World} (h : Only F a w) (o : Obj) : Only F a (w.alloc o) :=
 h.trans ⟨rfl, rfl, rfl, by simp, fun k hk _ => Below.heap_alloc w o k hk⟩
theorem Only.below {F : List Nat} {a w : World} (h : Only F a w) {B : Nat} (hB : B ≤ a.heap.size) (hF : ∀ b ∈ F, B ≤ b) : Below B a w :=
 ⟨h.os, h.tape, h.output, h.size, fun k hk => h.block k (by omega) (fun hm => by have := hF k hm; omega)⟩
theorem Ow.bool {w : World} (b : Bool) : Ow w (.bool b) (.bool b) [] := by simp [Ow]
theorem int_some {w : World} {zs : List Int} {a : Option Addr} {len cap : Nat} (h : Rd w (intsD zs) (.slice a len cap)) (hk : 0 < zs.length) : ∃ b o, a = some ⟨b, o, none⟩ := by
 obtain ⟨_, _, _, _, _, h4⟩ := h.sl_at
 rcases h4 with h4 | ⟨b, o, e, _⟩
 ·
  omega
 ·
  exact ⟨b, o, e⟩
section
variable {H : Type} {enc : TypeId × Value → H} {P : Program} {w : World} {base : Nat} {sp : Nat → Bool} {hd : Bool}
end
end Go.Proofs.YtjlmdhoajfdkbaaGreatDoor

namespace Go.Proofs.YtjlmdhoajfdkbaaGreatDoor
set_option linter.unusedVariables false
set_option linter.unusedSimpArgs false
open Go.ChangeShapes Go.WideShapes Go.ChangeAt Go.RowKit Go.Deep
section
variable {P : Program} {ops : Array Oper}
def tupAt (v : Value) (k : Nat) : Value := match v with
 | .tuple vs => vs.getD k undef
 | _ => undef
end
theorem FreshIn.rds {p : Nat × Nat} {w : World} {ds : List D} {vs : List Value} (h : FreshIn p w ds vs) : Rds w ds vs := by
 obtain ⟨F, h1, _⟩ := h
 exact h1.rds
end Go.Proofs.YtjlmdhoajfdkbaaGreatDoor

namespace Go.Proofs.YtjlmdhoajfdkbaaGreatDoor
set_option linter.unusedVariables false
set_option linter.unusedSimpArgs false
open Go.ChangeShapes Go.WideShapes Go.ChangeAt Go.RowKit
theorem eqInt64S_any (xs ys : List Int) (s t : Option Addr) (c d : Nat) (w : World) (hr : Rd w (intsD xs) (.slice s xs.length c)) (hr' : Rd w (intsD ys) (.slice t ys.length d)) :
  Calls Tryz.prog 46 #[.slice s xs.length c, .slice t ys.length d] w fun e w' => e = .returned (.bool (eqb xs ys)) ∧ Below w.heap.size w w' := by
 obtain ⟨-, hlen, hcap, -⟩ := hr.sl_at
 obtain ⟨-, hlen', hcap', -⟩ := hr'.sl_at
 unfold maxLen at hcap hcap'
 by_cases hl : xs.length = ys.length
 ·
  have b1 : ((xs.length : Int) != (ys.length : Int)) = false := by simp [hl]
  have Hl := Lib.hid hl
  clear hl
  go_enter Tryz.func46, Tryz.ntmps46
  go_wp2_with fail
  go_loopw [5] (fun i wr => ∃ k : Nat, k ≤ xs.length ∧ i = .int .i64 k ∧ xs.take k = ys.take k ∧ Below w.heap.size w wr) (fun i _ => xs.length - (intOf i).toNat)
  case atStart => exact ⟨0, by omega, rfl, by simp, Below.refl _ _⟩
  case round =>
   obtain ⟨k, hk, rfl, hpre, hB⟩ := hrel
   have Hpre := Lib.hid hpre
   clear hpre
   by_cases hlt : k < xs.length
   ·
    have hlt' : k < ys.length := by have := Hl.out; omega
    obtain ⟨x, hx⟩ : ∃ e, xs[k]? = some e := ⟨_, List.getElem?_eq_getElem hlt⟩
    obtain ⟨y, hy⟩ : ∃ e, ys[k]? = some e := ⟨_, List.getElem?_eq_getElem hlt'⟩
    obtain ⟨b, o, rfl⟩ := int_some hr (by omega)
    obtain ⟨b', o', rfl⟩ := int_some hr' (by omega)
    obtain ⟨-, g0⟩ := int_in (hr.below hB) hx
    obtain ⟨-, g1⟩ := int_in (hr'.below hB) hy
    have ha := Int.natCast_nonneg k
    have hb : (k : Int) < (xs.length : Int) := by omega
    have hb' : (k : Int) < (ys.length : Int) := by omega
    by_cases hxy : x = y
    ·
     have Hst : Hid (xs.take (k + 1) = ys.take (k + 1)) := by
      have h1 := (List.getElem?_eq_some_iff.1 hx).2
      have h2 := (List.getElem?_eq_some_iff.1 hy).2
      show _ = _
      rw [List.take_succ_eq_append_getElem hlt, List.take_succ_eq_append_getElem hlt', Hpre.out, h1, h2, hxy]
     subst hxy
     have b2 : (x != x) = false := by simp
     go_wp2_with fail
     go_quiet (fail)
     go_wp2_with fail
     go_roundw
     case rel => exact ⟨k + 1, by omega, by go_num, Hst.out, hB.trans (below_draws _ _ _)⟩
     case measure => simp [intOf]; omega
    ·
     have b2 : (x != y) = true := by simp [hxy]
     have c2 : eqb xs ys = false := eqb_false (by
      intro h
      rw [h] at hx
      exact hxy (Option.some.inj (hx.symm.trans hy)))
     go_wp2_with fail
     go_quiet (fail)
     go_wp2_with fail
     go_ret
     exact ⟨by first | rfl | (rw [c2]; rfl), hB.trans (below_draws _ _ _)⟩
   ·
    obtain rfl : k = xs.length := by omega
    have c2 : eqb xs ys = true := eqb_true (by
     have := Hpre.out
     rwa [List.take_length, Hl.out, List.take_length] at this)
    go_wp2_with fail
    go_ret
    exact ⟨by first | rfl | (rw [c2]; rfl), hB⟩
 ·
  have b1 : ((xs.length : Int) != (ys.length : Int)) = true := by simp; omega
  have c2 : eqb xs ys = false := eqb_false (by intro h; rw [h] at hl; exact hl rfl)
  rw [c2]
  go_enter Tryz.func46, Tryz.ntmps46
  go_wp2_with fail
  go_ret
  exact ⟨rfl, Below.refl _ _⟩
end Go.Proofs.YtjlmdhoajfdkbaaGreatDoor

namespace Go.Proofs.YtjlmdhoajfdkbaaGreatDoor
set_option linter.unusedVariables false
set_option linter.unusedSimpArgs false
open Go.ChangeShapes Go.WideShapes Go.ChangeAt Go.RowKit Go.Deep
theorem App.empty {W w : World} {t size g : Nat} (h : Blk w g t []) (hg : W.heap.size ≤ g) : App W w t size 0 [] (.slice (some ⟨g, 0, none⟩) 0 0) :=
 ⟨[], [], ⟨by simp, Or.inr ⟨g, 0, #[], rfl, hg, by simpa [Blk] using h, by omega, by simp [maxLen], by simp, by simp⟩⟩, Ows.nil, by simp, by simp⟩
theorem App.keep {W w w' : World} {t size n : Nat} {ds : List D} {v : Value} (h : App W w t size n ds v) (hk : ∀ b, b < w.heap.size → W.heap.size ≤ b → w'.heap[b]? = w.heap[b]?) : App W w' t size n ds v := by
 obtain ⟨xs, F, h1, h2, h3, h4⟩ := h
 refine ⟨xs, F, ⟨h1.1, ?_⟩, h2.keep fun b hb => hk b (h2.lt b hb) (h4 b hb).1, h3, h4⟩
 rcases h1.2 with h | ⟨g, cap, cur, e, hg, hb, hr⟩
 ·
  exact Or.inl h
 ·
  exact Or.inr ⟨g, cap, cur, e, hg, (hk g (Array.getElem?_eq_some_iff.1 hb).1 hg).trans hb, hr⟩
theorem App.below {W w w' : World} {t size n : Nat} {ds : List D} {v : Value} (h : App W w t size n ds v) (hb : Below w.heap.size w w') : App W w' t size n ds v := h.keep fun b hl _ => hb.block b hl
theorem wpList_append_app {P : Program} (w : World) {ops : Array Oper} {rest : List Oper} {o : Oper} {a : Act} {Q : Exit → Act → World → Prop} (hgd : o.guard = none) (s x : Operand) (t : TypeId)
  (ho : o.op = .call { callee := .builtin .append, args := #[s, x], argTypes := #[t, t] })
  (e : TypeId) (z : Value) (size bytes : Nat) (ht : P.underlying t = some (.slice e)) (hinfo : (P.info? e).map (fun i => (i.zero, i.size, i.bytes)) = some (some z, size, bytes)) (hzs : z.cells.size = size) (hsz : 0 < size)
  {W w1 : World} (v : Value) {n : Nat} {ds : List D} (hs : a.eval s = v) (happ : App W w1 e size n ds v) (hb : Below w1.heap.size w1 w) (hB : W.heap.size ≤ w1.heap.size)
  (ad : Addr) (m c : Nat) {es : List D} (news : List Value) (hx : a.eval x = .slice (some ad) m c) (hnews : ∀ j u, news[j]? = some u → w.cell? (ad.add j) = some u) (hes : Freshs w1 w es news)
  (hl : news.length = m * size) (h1 : ∀ u ∈ news, u.oneCell' = true) (hm : 0 < m) (hbytes : (n + m) * bytes ≤ 140737488355328) (h63 : n + m ≤ maxLen)
  (h : ∀ g cap w', App W w' e size (n + m) (ds ++ es) (.slice (some ⟨g, 0, none⟩) (n + m) cap) → Below W.heap.size w w' → wpList P ops Q rest (a.put o.dst (.slice (some ⟨g, 0, none⟩) (n + m) cap)) w') : wpList P ops Q (o :: rest) a w := by
 obtain ⟨i, hi, hz, hsize, hby⟩ := info_parts hinfo
 have hz1 := hb.size
 obtain ⟨xs, F, a1, a2, a3, a4⟩ := happ.below hb
 have a5 := happ.lt
 obtain ⟨G, g1, g2, g3⟩ := hes
 obtain ⟨xs', F', b1, b2, b3, b4⟩ := happ
 -- the same cells and blocks as in w1
 have a6 : ∀ b ∈ F', b < w1.heap.size := b2.lt
 have b1' : w.ownsRow W.heap.size e size v n xs' := by
  refine ⟨b1.1, ?_⟩
  rcases b1.2 with h | ⟨g, cap, cur, q, hg, hbb, hr⟩
  ·
   exact Or.inl h
  ·
   exact Or.inr ⟨g, cap, cur, q, hg, (hb.block g (Array.getElem?_eq_some_iff.1 hbb).1).trans hbb, hr⟩
 have b2' : Ows w ds xs' F' := b2.keep fun b hb' => hb.block b (a6 b hb')
 refine wpList_append_lies w hgd s x t ho W.heap.size e i z size bytes ht hi hz hsize hby hzs hsz v n xs' hs b1' ad m c news hx hl hnews h1 hm h63 hbytes (by omega) w.heap.size rfl ?_
 intro g cap w' k1 k2 k3 k4
 have hF : ∀ b ∈ F', some b ≠ v.ownBlock := fun b hb' e => (b4 b hb').2 e.symm
 have hG : ∀ b ∈ G, some b ≠ v.ownBlock := fun b hb' e => by have := (a5 b e.symm).2; have := g3 b hb'; omega
 refine h g cap w' ⟨xs' ++ news, F' ++ G, k1, Ows.append (b2'.keep fun b hb' => k2.block b (b2'.lt b hb') (hF b hb')) (g1.keep fun b hb' => k2.block b (g1.lt b hb') (hG b hb')), ?_, ?_⟩ ⟨k2.os, k2.tape, k2.output, k2.size, fun b hb' => k2.block b (by omega) (fun e => by have := (a5 b e.symm).1; omega)⟩
 ·
  rw [List.nodup_append]
  refine ⟨b3, g2, fun p hp q hq hpq => ?_⟩
  subst hpq
  have := a6 p hp
  have := g3 p hq
  omega
 ·
  intro b hm'
  have hgb : ∀ b, some b ≠ v.ownBlock → b < w.heap.size → Value.ownBlock (.slice (some ⟨g, 0, none⟩) (n + m) cap) ≠ some b := by
   intro b hne hlt e
   simp only [Value.ownBlock, Option.some.injEq] at e
   subst e
   rcases k3 with k3 | k3
   ·
    exact hne k3.symm
   ·
    omega
  rcases List.mem_append.1 hm' with hm' | hm'
  ·
   exact ⟨(b4 b hm').1, hgb b (hF b hm') (b2'.lt b hm')⟩
  ·
   exact ⟨by have := g3 b hm'; omega, hgb b (hG b hm') (g1.lt b hm')⟩
end Go.Proofs.YtjlmdhoajfdkbaaGreatDoor

namespace Go.Proofs.YtjlmdhoajfdkbaaGreatDoor
set_option linter.unusedVariables false
set_option linter.unusedSimpArgs false
open Go.ChangeShapes Go.WideShapes Go.ChangeAt Go.RowKit Go.Deep
mutual
def D.marks : D → Nat
 | .int _ => 1
 | .bool _ => 1
 | .str _ => 0
 | .raw _ => 0
 | .sl _ _ cs => D.marksL cs
def D.marksL : List D → Nat
 | [] => 0
 | c :: cs => D.marks c + D.marksL cs
end
mutual
def D.mark : D → Nat → D
 | .int _, k => .int k
 | .bool _, k => .bool ((k : Int).tmod 3 == 0)
 | .str s, _ => .str s
 | .raw u, _ => .raw u
 | .sl size n cs, k => .sl size n (D.markL cs k)
def D.markL : List D → Nat → List D
 | [], _ => []
 | c :: cs, k => D.mark c k :: D.markL cs (k + D.marks c)
end
theorem marksL_append : ∀ a b : List D, D.marksL (a ++ b) = D.marksL a + D.marksL b
 | [], b => by simp [D.marksL]
 | c :: a, b => by simp only [List.cons_append, D.marksL, marksL_append a b]; omega
theorem markL_append : ∀ (a b : List D) (k : Nat), D.markL (a ++ b) k = D.markL a k ++ D.markL b (k + D.marksL a)
 | [], b, k => by simp [D.markL, D.marksL]
 | c :: a, b, k => by simp only [List.cons_append, D.markL, D.marksL, markL_append a b, Nat.add_assoc]
theorem markL_length : ∀ (a : List D) (k : Nat), (D.markL a k).length = a.length
 | [], _ => by simp [D.markL]
 | c :: a, k => by simp [D.markL, markL_length a]
theorem marks_step {cs : List D} {j : Nat} {c : D} (h : cs[j]? = some c) : D.marksL (cs.take (j + 1)) = D.marksL (cs.take j) + c.marks := by
 obtain ⟨hj, rfl⟩ := List.getElem?_eq_some_iff.1 h
 rw [List.take_succ_eq_append_getElem hj, marksL_append]
 simp [D.marksL]
theorem markL_at {cs : List D} {j : Nat} {c : D} (h : cs[j]? = some c) (k : Nat) : (D.markL cs k)[j]? = some (c.mark (k + D.marksL (cs.take j))) := by
 obtain ⟨hj, rfl⟩ := List.getElem?_eq_some_iff.1 h
 have e : D.markL cs k = D.markL (cs.take j) k ++ D.markL (cs.drop j) (k + D.marksL (cs.take j)) := by rw [← markL_append, List.take_append_drop]
 rw [e, List.getElem?_append_right (by rw [markL_length, List.length_take]; omega), markL_length, List.length_take, Nat.min_eq_left (by omega), Nat.sub_self, List.drop_eq_getElem_cons hj]
 simp [D.markL]
def mkd (cs : List D) (j k : Nat) : List D := D.markL (cs.take j) k ++ cs.drop j
theorem mkd_zero (cs : List D) (k : Nat) : mkd cs 0 k = cs := by simp [mkd, D.markL]
theorem mkd_all (cs : List D) (k : Nat) : mkd cs cs.length k = D.markL cs k := by simp [mkd]
theorem mkd_at {cs : List D} {i j : Nat} {c : D} (h : cs[i]? = some c) (hij : j ≤ i) (k : Nat) : (mkd cs j k)[i]? = some c := by
 obtain ⟨hj, rfl⟩ := List.getElem?_eq_some_iff.1 h
 unfold mkd
 rw [List.getElem?_append_right (by rw [markL_length, List.length_take]; omega), markL_length, List.length_take, Nat.min_eq_left (by omega), List.getElem?_drop]
 rw [show j + (i - j) = i by omega]
 exact h
theorem mkd_step {cs : List D} {j : Nat} {c : D} (h : cs[j]? = some c) (k : Nat) : (mkd cs j k).set j (c.mark (k + D.marksL (cs.take j))) = mkd cs (j + 1) k := by
 obtain ⟨hj, rfl⟩ := List.getElem?_eq_some_iff.1 h
 unfold mkd
 have e1 : (D.markL (cs.take j) k).length = j := by rw [markL_length, List.length_take]; omega
 rw [List.set_append_right _ _ (by omega), e1, Nat.sub_self, List.drop_eq_getElem_cons hj, List.set_cons_zero, List.take_succ_eq_append_getElem hj, markL_append]
 simp [D.markL]
theorem Ows.split {w : World} : ∀ {cs : List D} {xs : List Value} {F : List Nat}, Ows w cs xs F → ∀ {j : Nat} {c : D}, cs[j]? = some c →
  ∃ x A G B, xs[j]? = some x ∧ F = A ++ (G ++ B) ∧ Ow w c x G ∧
   (∀ w' c' x' G', Ow w' c' x' G' → (∀ b ∈ A ++ B, w'.heap[b]? = w.heap[b]?) → Ows w' (cs.set j c') (xs.set j x') (A ++ (G' ++ B)))
 | [], _, _, _, j, c, hj => by simp at hj
 | c0 :: cs, _, _, h, j, c, hj => by
  simp only [Ows] at h
  obtain ⟨x, r, G, K, rfl, rfl, h1, h2⟩ := h
  cases j with
  | zero =>
   simp at hj
   subst hj
   refine ⟨x, [], G, K, by simp, by simp, h1, fun w' c' x' G' h' hk => ?_⟩
   simp only [List.set_cons_zero, Ows, List.nil_append]
   exact ⟨x', r, G', K, rfl, rfl, h', h2.keep fun b hb => hk b (by simpa using hb)⟩
  | succ j =>
   obtain ⟨y, A, G1, B, e1, e2, e3, e4⟩ := Ows.split h2 (j := j) (c := c) (by simpa using hj)
   subst e2
   refine ⟨y, G ++ A, G1, B, by simpa using e1, by simp, e3, fun w' c' x' G' h' hk => ?_⟩
   have := e4 w' c' x' G' h' (fun b hb => hk b (by
    rcases List.mem_append.1 hb with hb | hb
    ·
     exact List.mem_append_left _ (List.mem_append_right _ hb)
    ·
     exact List.mem_append_right _ hb))
   simp only [List.set_cons_succ, Ows]
   exact ⟨x, _, G, A ++ (G' ++ B), rfl, by simp, h1.keep fun b hb => hk b (by simp [hb]), this⟩
theorem Free.blk {w : World} {b : Nat} (h : Free w b) : ∃ t cur, Blk w b t cur := by
 obtain ⟨cur, t, h⟩ := h
 exact ⟨t, cur.toList, by simpa [Blk] using h⟩
theorem Free.set {w : World} {b : Nat} (h : Free w b) (i : Nat) (v : Value) : Free (w.setCell ⟨b, i, none⟩ v) b := by
 obtain ⟨t, cur, h⟩ := h.blk
 exact (h.set i v).free
theorem Row.set {w : World} {b o : Nat} {xs : List Value} (hf : Free w b) (h : Row w b o xs) (j : Nat) (v : Value) : Row (w.setCell ⟨b, o + j, none⟩ v) b o (xs.set j v) := by
 obtain ⟨t, cur, hb⟩ := hf.blk
 have hb' := hb.set (o + j) v
 intro i hi
 have h1 := h i (by simpa using hi)
 rw [hb.cell] at h1
 rw [hb'.cell, List.getElem?_set, List.getElem?_set]
 by_cases hij : j = i
 ·
  subst hij
  have hlen : j < xs.length := by simpa using hi
  have hcur : o + j < cur.length := by
   by_cases hc : o + j < cur.length
   ·
    exact hc
   ·
    rw [List.getElem?_eq_none (by omega), List.getElem?_eq_getElem hlen] at h1
    cases h1
  simp [hlen, hcur]
 ·
  rw [if_neg (by omega), if_neg hij, h1]
theorem Ow.spot {w : World} {size n len cap : Nat} {cs : List D} {a : Option Addr} {F : List Nat} (h : Ow w (.sl size n cs) (.slice a len cap) F) (hn : 0 < n) : ∃ b o, a = some ⟨b, o, none⟩ := by
 simp only [Ow] at h
 obtain ⟨a', cap', h1, h2, h3, h4, h6, h5⟩ := h
 simp only [Value.slice.injEq] at h1
 obtain ⟨rfl, rfl, rfl⟩ := h1
 rcases h5 with h5 | ⟨b, o, xs, G, e1, _⟩
 ·
  omega
 ·
  exact ⟨b, o, e1⟩
theorem Ow.cell {w : World} {size n b o len cap : Nat} {cs : List D} {F : List Nat} (h : Ow w (.sl size n cs) (.slice (some ⟨b, o, none⟩) len cap) F) (hn : F.Nodup) {j : Nat} {c : D} (hj : cs[j]? = some c) :
  ∃ x G, w.cell? ⟨b, o + j, none⟩ = some x ∧ w.frozen? ⟨b, o + j, none⟩ = false ∧ b ∈ F ∧ b < w.heap.size ∧ b ∉ G ∧ (∀ g ∈ G, g ∈ F) ∧ G.Nodup ∧ Ow w c x G ∧
   (∀ w' c', Ow w' c' x G → Only G w w' → Ow w' (.sl size n (cs.set j c')) (.slice (some ⟨b, o, none⟩) len cap) F) ∧
   (G = [] → ∀ c' x', (∀ w', Ow w' c' x' []) → Ow (w.setCell ⟨b, o + j, none⟩ x') (.sl size n (cs.set j c')) (.slice (some ⟨b, o, none⟩) len cap) F) := by
 simp only [Ow] at h
 obtain ⟨a, cap', h1, h2, h3, h4, h6, h5⟩ := h
 simp only [Value.slice.injEq] at h1
 obtain ⟨rfl, rfl, rfl⟩ := h1
 rcases h5 with ⟨h0, _⟩ | ⟨b', o', xs, K, e1, rfl, hf, hrow, hows⟩
 ·
  have := (List.getElem?_eq_some_iff.1 hj).1
  rw [h4, h0] at this
  omega
 simp only [Option.some.injEq, Addr.mk.injEq, and_true] at e1
 obtain ⟨rfl, rfl⟩ := e1
 obtain ⟨x, A, G, B, s1, s2, s3, s4⟩ := hows.split hj
 subst s2
 rw [List.nodup_cons] at hn
 obtain ⟨hnb, hnd⟩ := hn
 have hbl := hf.lt
 have ndG : G.Nodup := by
  rw [List.nodup_append, List.nodup_append] at hnd
  exact hnd.2.1.1
 have dis : ∀ g ∈ A ++ B, g ∉ G := by
  intro g hg hg'
  rw [List.nodup_append, List.nodup_append] at hnd
  rcases List.mem_append.1 hg with hg | hg
  ·
   exact hnd.2.2 g hg g (List.mem_append_left _ hg') rfl
  ·
   exact hnd.2.1.2.2 g hg' g hg rfl
 have hltAB : ∀ g ∈ A ++ B, g < w.heap.size := fun g hg => hows.lt g (by
  rcases List.mem_append.1 hg with hg | hg
  ·
   exact List.mem_append_left _ hg
  ·
   exact List.mem_append_right _ (List.mem_append_right _ hg))
 have hj' : j < xs.length := (List.getElem?_eq_some_iff.1 s1).1
 refine ⟨x, G, (hrow j hj').trans s1, hf.frozen _, List.mem_cons_self .., hbl, fun hm => hnb (List.mem_append_right _ (List.mem_append_left _ hm)), fun g hg => List.mem_cons_of_mem _ (List.mem_append_right _ (List.mem_append_left _ hg)), ndG, s3, ?_, ?_⟩
 ·
  intro w' c' hc' honly
  have hb' : w'.heap[b]? = w.heap[b]? := honly.block b hbl (fun hm => hnb (List.mem_append_right _ (List.mem_append_left _ hm)))
  have hset := s4 w' c' x G hc' (fun g hg => honly.block g (hltAB g hg) (dis g hg))
  rw [show xs.set j x = xs by
   obtain ⟨hl, hx⟩ := List.getElem?_eq_some_iff.1 s1
   rw [← hx]; exact List.set_getElem_self hl] at hset
  obtain ⟨cur, t, hcur⟩ := hf
  simp only [Ow]
  exact ⟨_, cap, rfl, h2, h3, by rw [List.length_set]; exact h4, h6, Or.inr ⟨b, o, xs, A ++ (G ++ B), rfl, rfl, ⟨cur, t, hb'.trans hcur⟩, hrow.congr hb', hset⟩⟩
 ·
  intro hG c' x' hc'
  subst hG
  have hset := s4 (w.setCell ⟨b, o + j, none⟩ x') c' x' [] (hc' _) (fun g hg => Below.heap_setCell _ _ _ _ (fun e => hnb (by
   have e' : g = b := e
   rw [← e']
   rcases List.mem_append.1 hg with hg | hg
   ·
    exact List.mem_append_left _ hg
   ·
    exact List.mem_append_right _ (List.mem_append_right _ hg))))
  simp only [Ow]
  exact ⟨_, cap, rfl, h2, h3, by rw [List.length_set]; exact h4, h6, Or.inr ⟨b, o, _, _, rfl, rfl, hf.set _ _, hrow.set hf j x', hset⟩⟩
theorem Ow.int_cell {w : World} {size n b o len cap : Nat} {cs : List D} {F : List Nat} (h : Ow w (.sl size n cs) (.slice (some ⟨b, o, none⟩) len cap) F) (hn : F.Nodup) {j : Nat} {z : Int} (hj : cs[j]? = some (.int z)) :
  w.cell? ⟨b, o + j, none⟩ = some (.int .i64 z) ∧ w.frozen? ⟨b, o + j, none⟩ = false ∧ b < w.heap.size ∧
   (∀ z' : Int, Ow (w.setCell ⟨b, o + j, none⟩ (.int .i64 z')) (.sl size n (cs.set j (.int z'))) (.slice (some ⟨b, o, none⟩) len cap) F ∧ Only F w (w.setCell ⟨b, o + j, none⟩ (.int .i64 z'))) := by
 obtain ⟨x, G, h1, h2, h3, h4, h5, h6, h7, h8, h9, h10⟩ := h.cell hn hj
 simp only [Ow] at h8
 obtain ⟨rfl, rfl⟩ := h8
 exact ⟨h1, h2, h4, fun z' => ⟨h10 rfl _ _ (fun _ => Ow.int _), (Only.refl F w).setCell h3 _⟩⟩
theorem Ow.sl_cell {w : World} {size n b o len cap : Nat} {cs : List D} {F : List Nat} (h : Ow w (.sl size n cs) (.slice (some ⟨b, o, none⟩) len cap) F) (hn : F.Nodup) {j size' n' : Nat} {ds : List D} (hj : cs[j]? = some (.sl size' n' ds)) :
  ∃ a c G, w.cell? ⟨b, o + j, none⟩ = some (.slice a n' c) ∧ w.frozen? ⟨b, o + j, none⟩ = false ∧ b < w.heap.size ∧ b ∉ G ∧ (∀ g ∈ G, g ∈ F) ∧ G.Nodup ∧ Ow w (.sl size' n' ds) (.slice a n' c) G ∧
   (∀ w' ds', Ow w' (.sl size' n' ds') (.slice a n' c) G → Only G w w' → Ow w' (.sl size n (cs.set j (.sl size' n' ds'))) (.slice (some ⟨b, o, none⟩) len cap) F ∧ Only F w w') := by
 obtain ⟨x, G, h1, h2, h3, h4, h5, h6, h7, h8, h9, h10⟩ := h.cell hn hj
 have h8' := h8
 simp only [Ow] at h8'
 obtain ⟨a, c, rfl, _⟩ := h8'
 exact ⟨a, c, G, h1, h2, h4, h5, h6, h7, h8, fun w' ds' k1 k2 => ⟨h9 w' _ k1 k2, k2.more h6⟩⟩
theorem marksL_ints : ∀ zs : List Int, D.marksL (zs.map D.int) = zs.length
 | [] => rfl
 | z :: r => by simp only [List.map_cons, D.marksL, D.marks, marksL_ints r, List.length_cons]; omega
theorem ints_at {zs : List Int} {i : Nat} {z : Int} (h : zs[i]? = some z) : (zs.map D.int)[i]? = some (D.int z) := by rw [List.getElem?_map, h]; rfl
theorem ints_take (zs : List Int) (i : Nat) (h : i ≤ zs.length) : D.marksL ((zs.map D.int).take i) = i := by rw [← List.map_take, marksL_ints, List.length_take]; omega
end Go.Proofs.YtjlmdhoajfdkbaaGreatDoor

namespace Go.Proofs.YtjlmdhoajfdkbaaGreatDoor
set_option linter.unusedVariables false
set_option linter.unusedSimpArgs false
open Go.ChangeShapes Go.WideShapes Go.ChangeAt Go.RowKit Go.Sort
theorem markInt64S_i {zs : List Int} {s : Option Addr} {c k : Nat} {F : List Nat} {w : World} (h : Ow w (intsD zs) (.slice s zs.length c) F) (hn : F.Nodup) (hk : k ≤ 1000000000000) (hlen : zs.length ≤ 1000000000000) :
  Calls Tryz.prog 47 #[.slice s zs.length c, .int .i64 k] w fun e w' => e = .returned (.int .i64 (k + zs.length : Nat)) ∧ Ow w' (D.mark (intsD zs) k) (.slice s zs.length c) F ∧ Only F w w' := by
 have H0 : Ow w (.sl 1 zs.length (mkd (zs.map D.int) 0 k)) (.slice s zs.length c) F := by rw [mkd_zero]; exact h
 go_enter Tryz.func47, Tryz.ntmps47
 go_wp2_with fail
 go_loopw [1, 5] (fun q i wr => ∃ j : Nat, j ≤ zs.length ∧ i = .int .i64 j ∧ q = .int .i64 (k + j : Nat) ∧ Ow wr (.sl 1 zs.length (mkd (zs.map D.int) j k)) (.slice s zs.length c) F ∧ Only F w wr) (fun _ i _ => zs.length - (intOf i).toNat)
 case atStart => exact ⟨0, by omega, rfl, rfl, H0, Only.refl _ _⟩
 case round =>
  clear h H0
  obtain ⟨j, hj, rfl, rfl, h, hO⟩ := hrel
  by_cases hlt : j < zs.length
  ·
   obtain ⟨z, hz⟩ : ∃ e, zs[j]? = some e := ⟨_, List.getElem?_eq_getElem hlt⟩
   obtain ⟨b, o, rfl⟩ := h.spot (by omega)
   have hat := mkd_at (ints_at hz) (Nat.le_refl j) k
   obtain ⟨g0, g1, g2, g3⟩ := h.int_cell hn hat
   have Hst : Hid (Ow (wr.setCell ⟨b, o + j, none⟩ (.int .i64 (k + j : Nat))) (.sl 1 zs.length (mkd (zs.map D.int) (j + 1) k)) (.slice (some ⟨b, o, none⟩) zs.length c) F ∧ Only F w (wr.setCell ⟨b, o + j, none⟩ (.int .i64 (k + j : Nat)))) := by
    obtain ⟨q1, q2⟩ := g3 (k + j : Nat)
    refine ⟨?_, hO.trans q2⟩
    have e := mkd_step (ints_at hz) k
    rw [ints_take _ _ hj] at e
    rw [← e]
    exact q1
   clear g3 hat
   go_wp2_with fail
   go_roundw
   case rel => exact ⟨j + 1, by omega, by go_num, by go_num, Hst.out.1, Hst.out.2⟩
   case measure => simp [intOf]; omega
  ·
   obtain rfl : j = zs.length := by omega
   have e := mkd_all (zs.map D.int) k
   rw [List.length_map] at e
   rw [e] at h
   go_wp2_with fail
   go_ret
   exact ⟨rfl, h, hO⟩
theorem heldInt64S_i {zs : List Int} {s : Option Addr} {c k : Nat} {w : World} (h : Rd w (D.mark (intsD zs) k) (.slice s zs.length c)) (hk : k ≤ 1000000000000) (hlen : zs.length ≤ 1000000000000) :
  Calls Tryz.prog 48 #[.slice s zs.length c, .int .i64 k] w fun e w' => e = .returned (.int .i64 (k + zs.length : Nat)) ∧ w = w' := by
 have h' := h
 unfold intsD D.mark at h'
 obtain ⟨-, -, -, -, -, h4⟩ := h'.sl_at
 go_enter Tryz.func48, Tryz.ntmps48
 go_wp2_with fail
 go_loop [1, 5] (fun q i => ∃ j : Nat, j ≤ zs.length ∧ i = .int .i64 j ∧ q = .int .i64 (k + j : Nat)) (fun _ i => zs.length - (intOf i).toNat)
 case atStart => exact ⟨0, by omega, rfl, rfl⟩
 case round =>
  obtain ⟨j, hj, rfl, rfl⟩ := hrel
  by_cases hlt : j < zs.length
  ·
   obtain ⟨z, hz⟩ : ∃ e, zs[j]? = some e := ⟨_, List.getElem?_eq_getElem hlt⟩
   have hat := markL_at (ints_at hz) k
   rw [ints_take _ _ hj] at hat
   rcases h4 with h4 | ⟨b, o, rfl, h4⟩
   ·
    omega
   obtain ⟨x, hx, hr⟩ := h4 _ _ hat
   simp only [D.mark, Rd] at hr
   subst hr
   clear h4 hat
   go_wp2_with fail
   go_round
   case rel => exact ⟨j + 1, by omega, by go_num, by go_num⟩
   case measure => simp [intOf]; omega
  ·
   obtain rfl : j = zs.length := by omega
   go_wp2_with fail
   go_ret
   exact ⟨rfl, rfl⟩
end Go.Proofs.YtjlmdhoajfdkbaaGreatDoor

namespace Go.Proofs.YtjlmdhoajfdkbaaGreatDoor
set_option linter.unusedVariables false
set_option linter.unusedSimpArgs false
open Go.ChangeShapes Go.WideShapes Go.ChangeAt Go.RowKit
def sumI {α : Type} (f : α → Int) : List α → Int
 | [] => 0
 | x :: r => f x + sumI f r
section
variable {α : Type} {f : α → Int}
theorem sumI_append : ∀ a b : List α, sumI f (a ++ b) = sumI f a + sumI f b
 | [], b => by simp [sumI]
 | x :: a, b => by simp only [List.cons_append, sumI, sumI_append a b]; omega
theorem sumI_take_succ {xs : List α} {i : Nat} {x : α} (h : xs[i]? = some x) : sumI f (xs.take (i + 1)) = sumI f (xs.take i) + f x := by
 obtain ⟨hi, rfl⟩ := List.getElem?_eq_some_iff.1 h
 rw [List.take_succ_eq_append_getElem hi, sumI_append]
 simp [sumI]
theorem sumI_bd {B : Int} : ∀ {xs : List α}, (∀ x ∈ xs, 0 ≤ f x ∧ f x ≤ B) → 0 ≤ sumI f xs ∧ sumI f xs ≤ xs.length * B
 | [], _ => by simp [sumI]
 | x :: r, h => by
  obtain ⟨h1, h2⟩ := h x (List.mem_cons_self ..)
  obtain ⟨h3, h4⟩ := sumI_bd (xs := r) fun y hy => h y (List.mem_cons_of_mem _ hy)
  simp only [sumI, List.length_cons]
  refine ⟨by omega, ?_⟩
  have : ((r.length + 1 : Nat) : Int) * B = r.length * B + B := by
   rw [Int.natCast_add, Int.add_mul]; simp
  omega
theorem sumI_bd_le {B M : Int} {n : Nat} {xs : List α} (h : ∀ x ∈ xs, 0 ≤ f x ∧ f x ≤ B) (hn : xs.length ≤ n) (hB : 0 ≤ B) (hM : n * B ≤ M) : 0 ≤ sumI f xs ∧ sumI f xs ≤ M := by
 obtain ⟨h1, h2⟩ := sumI_bd h
 have : (xs.length : Int) * B ≤ n * B := Int.mul_le_mul_of_nonneg_right (by omega) hB
 omega
end
def cnt0 (ar : List Bool) : Int := sumI (fun b => if b then 1 else 0) ar
def stepV (c : List Int) (z : Int) : Int := if 0 ≤ z then c.getD z.toNat 0 else 0
def cntRow (c : List Int) (row : List Int) : Int := sumI (stepV c) row
def cntRows (c : List Int) (nr : List (List Int)) : Int := sumI (cntRow c) nr
def cntN (ac : List (List Bool)) (nx : List (List (List Int))) : Nat → List Int
 | 0 => ac.map cnt0
 | n + 1 => nx.map (cntRows (cntN ac nx n))
theorem cntN_length {t a : Int} {ac : List (List Bool)} {nx : List (List (List Int))} (h : AutOk t a ac nx) : ∀ n, (cntN ac nx n).length = ac.length
 | 0 => by simp [cntN]
 | n + 1 => by simp [cntN, h.len]
def cntB (n : Nat) : Int := 8 * 32 ^ n
theorem cntB_succ (n : Nat) : cntB (n + 1) = 32 * cntB n := by unfold cntB; rw [Int.pow_succ]; omega
theorem cntB_nonneg : ∀ n, 0 ≤ cntB n
 | 0 => by decide
 | n + 1 => by rw [cntB_succ]; have := cntB_nonneg n; omega
theorem cntB_mono {n m : Nat} (h : n ≤ m) : cntB n ≤ cntB m := by
 induction h with
 | refl => exact Int.le_refl _
 | step _ ih => rw [cntB_succ]; have := cntB_nonneg n; rename_i m _; have := cntB_nonneg m; omega
theorem cntB_ten {n : Nat} (h : n ≤ 10) : cntB n ≤ 10000000000000000 := Int.le_trans (cntB_mono h) (by decide)
theorem AutOk.dims {t a : Int} {ac : List (List Bool)} {nx : List (List (List Int))} (h : AutOk t a ac nx) : 1 ≤ atomsN t ∧ atomsN t ≤ 8 ∧ 0 ≤ a ∧ a ≤ 4 := by
 obtain ⟨h0, h1, h2, h3⟩ := sigB_bd h.sig
 have := atomsN_bd t
 exact ⟨this.1, this.2, h2, h3⟩
theorem cnt0_bd {t a : Int} {ac : List (List Bool)} {nx : List (List (List Int))} (h : AutOk t a ac nx) {i : Nat} {ar : List Bool} (h1 : ac[i]? = some ar) (k : Nat) : 0 ≤ cnt0 (ar.take k) ∧ cnt0 (ar.take k) ≤ 8 := by
 have h2 := h.acc_row h1
 have h3 := h.dims
 refine sumI_bd_le (B := 1) (n := 8) (fun x _ => ?_) (by simp; omega) (by omega) (by omega)
 cases x <;> simp
theorem stepV_bd {c : List Int} {B : Int} (hB : 0 ≤ B) (hc : ∀ (i : Nat) (z : Int), c[i]? = some z → 0 ≤ z ∧ z ≤ B) (z : Int) : 0 ≤ stepV c z ∧ stepV c z ≤ B := by
 unfold stepV
 split
 ·
  rw [List.getD_eq_getElem?_getD]
  cases h : c[z.toNat]? with
  | none => simp; exact hB
  | some v => simpa using hc _ v h
 ·
  omega
theorem cntRow_bd {t a : Int} {ac : List (List Bool)} {nx : List (List (List Int))} (h : AutOk t a ac nx) {c : List Int} {B : Int} (hB : 0 ≤ B) (hc : ∀ (i : Nat) (z : Int), c[i]? = some z → 0 ≤ z ∧ z ≤ B)
  {row : List Int} (hr : RowOk a ac.length row) (k : Nat) : 0 ≤ cntRow c (row.take k) ∧ cntRow c (row.take k) ≤ 4 * B := by
 have h3 := h.dims
 have h4 := hr.1
 exact sumI_bd_le (n := 4) (fun z _ => stepV_bd hB hc z) (by simp; omega) hB (by omega)
theorem cntRows_bd {t a : Int} {ac : List (List Bool)} {nx : List (List (List Int))} (h : AutOk t a ac nx) {c : List Int} {B : Int} (hB : 0 ≤ B) (hc : ∀ (i : Nat) (z : Int), c[i]? = some z → 0 ≤ z ∧ z ≤ B)
  {i : Nat} {nr : List (List Int)} (hi : nx[i]? = some nr) (k : Nat) : 0 ≤ cntRows c (nr.take k) ∧ cntRows c (nr.take k) ≤ 32 * B := by
 have h3 := h.dims
 obtain ⟨h4, h5⟩ := h.row hi
 refine sumI_bd_le (n := 8) (B := 4 * B) (fun row hrow => ?_) (by simp; omega) (by omega) (by omega)
 obtain ⟨j, hj⟩ := List.mem_iff_getElem?.1 (List.mem_of_mem_take hrow)
 have := cntRow_bd h hB hc (h5 j row hj) row.length
 rwa [List.take_length] at this
theorem cntN_bd {t a : Int} {ac : List (List Bool)} {nx : List (List (List Int))} (h : AutOk t a ac nx) : ∀ (n i : Nat) (z : Int), (cntN ac nx n)[i]? = some z → 0 ≤ z ∧ z ≤ cntB n
 | 0, i, z, hz => by
  simp only [cntN, List.getElem?_map, Option.map_eq_some_iff] at hz
  obtain ⟨ar, h1, rfl⟩ := hz
  have := cnt0_bd h h1 ar.length
  rw [List.take_length] at this
  have e : cntB 0 = 8 := by decide
  omega
 | n + 1, i, z, hz => by
  simp only [cntN, List.getElem?_map, Option.map_eq_some_iff] at hz
  obtain ⟨nr, h1, rfl⟩ := hz
  have := cntRows_bd h (cntB_nonneg n) (cntN_bd h n) h1 nr.length
  rw [List.take_length] at this
  rw [cntB_succ]
  exact this
theorem cnt_round {t a : Int} {ac : List (List Bool)} {nx : List (List (List Int))} (h : AutOk t a ac nx) {n : Nat} (hn : n + 1 ≤ 10) {i j : Nat} {nr : List (List Int)} {row : List Int} (hi : nx[i]? = some nr) (hj : nr[j]? = some row) (k : Nat) :
  0 ≤ cntRows (cntN ac nx n) (nr.take j) + cntRow (cntN ac nx n) (row.take k) ∧ cntRows (cntN ac nx n) (nr.take j) + cntRow (cntN ac nx n) (row.take k) ≤ 100000000000000000 := by
 have h1 := cntRows_bd h (cntB_nonneg n) (cntN_bd h n) hi j
 have h2 := cntRow_bd h (cntB_nonneg n) (cntN_bd h n) ((h.row hi).2 j row hj) k
 have h3 := cntB_succ n
 have h4 := cntB_ten hn
 omega
theorem cnt_cell {t a : Int} {ac : List (List Bool)} {nx : List (List (List Int))} (h : AutOk t a ac nx) {n : Nat} (hn : n + 1 ≤ 10) {i j l : Nat} {nr : List (List Int)} {row : List Int} {z : Int} (hi : nx[i]? = some nr) (hj : nr[j]? = some row)
  (hz : row[l]? = some z) : -1 ≤ z ∧ z < ac.length ∧ (0 ≤ z → ∃ v, (cntN ac nx n)[z.toNat]? = some v ∧ 0 ≤ v ∧ v ≤ 10000000000000000 ∧ cntRow (cntN ac nx n) (row.take (l + 1)) = cntRow (cntN ac nx n) (row.take l) + v) ∧
   (z < 0 → cntRow (cntN ac nx n) (row.take (l + 1)) = cntRow (cntN ac nx n) (row.take l)) := by
 obtain ⟨h1, h2⟩ := ((h.row hi).2 j row hj).2 l z hz
 have hs := sumI_take_succ (f := stepV (cntN ac nx n)) hz
 refine ⟨h1, by omega, fun h0 => ?_, fun h0 => ?_⟩
 ·
  obtain ⟨v, hv⟩ : ∃ v, (cntN ac nx n)[z.toNat]? = some v := ⟨_, List.getElem?_eq_getElem (by rw [cntN_length h]; omega)⟩
  obtain ⟨h3, h4⟩ := cntN_bd h n _ v hv
  have h5 := cntB_ten (show n ≤ 10 by omega)
  refine ⟨v, hv, h3, by omega, ?_⟩
  unfold cntRow
  rw [hs]
  unfold stepV
  rw [if_pos h0, List.getD_eq_getElem?_getD, hv]
  rfl
 ·
  unfold cntRow
  rw [hs]
  unfold stepV
  rw [if_neg (by omega)]
  omega
theorem cntRows_succ {c : List Int} {nr : List (List Int)} {j : Nat} {row : List Int} (h : nr[j]? = some row) : cntRows c (nr.take (j + 1)) = cntRows c (nr.take j) + cntRow c row := sumI_take_succ h
theorem cnt0_succ {ar : List Bool} {j : Nat} {b : Bool} (h : ar[j]? = some b) : cnt0 (ar.take (j + 1)) = cnt0 (ar.take j) + if b then 1 else 0 := sumI_take_succ h
theorem cntN_at {ac : List (List Bool)} {nx : List (List (List Int))} {n i : Nat} {nr : List (List Int)} (hi : nx[i]? = some nr) : (cntN ac nx (n + 1))[i]? = some (cntRows (cntN ac nx n) nr) := by
 simp [cntN, hi]
theorem cntN_zero_at {ac : List (List Bool)} {nx : List (List (List Int))} {i : Nat} {ar : List Bool} (hi : ac[i]? = some ar) : (cntN ac nx 0)[i]? = some (cnt0 ar) := by
 simp [cntN, hi]
end Go.Proofs.YtjlmdhoajfdkbaaGreatDoor

namespace Go.Proofs.YtjlmdhoajfdkbaaGreatDoor
set_option linter.unusedVariables false
set_option linter.unusedSimpArgs false
open Go.ChangeShapes Go.WideShapes Go.ChangeAt Go.RowKit Go.Deep
def hitR (P : Nat → Bool) (row : List Int) : Bool := row.any fun z => decide (0 ≤ z) && P z.toNat
def accW (ac : List (List Bool)) (nx : List (List (List Int))) : Nat → Nat → Bool
 | 0 => fun s => (ac.getD s []).any id
 | n + 1 => fun s => (nx.getD s []).any (hitR (accW ac nx n))
def reachL (ac : List (List Bool)) (nx : List (List (List Int))) (n : Nat) : List Bool := (List.range ac.length).map (accW ac nx n)
section
variable {ac : List (List Bool)} {nx : List (List (List Int))}
theorem reachL_len (n : Nat) : (reachL ac nx n).length = ac.length := by simp [reachL]
theorem reachL_at {n s : Nat} (h : s < ac.length) : (reachL ac nx n)[s]? = some (accW ac nx n s) := by simp [reachL, h]
theorem hitR_true {P : Nat → Bool} {row : List Int} : hitR P row = true ↔ ∃ z ∈ row, 0 ≤ z ∧ P z.toNat = true := by
 simp only [hitR, List.any_eq_true, Bool.and_eq_true, decide_eq_true_eq]
theorem accW_succ {n s : Nat} : accW ac nx (n + 1) s = true ↔ ∃ row ∈ nx.getD s [], ∃ z ∈ row, 0 ≤ z ∧ accW ac nx n z.toNat = true := by
 show (nx.getD s []).any (hitR (accW ac nx n)) = true ↔ _
 simp only [List.any_eq_true, hitR_true]
end
theorem AutOk.targets {t a : Int} {ac : List (List Bool)} {nx : List (List (List Int))} (h : AutOk t a ac nx) : ∀ s row z, row ∈ nx.getD s [] → z ∈ row → z < ac.length := by
 intro s row z hr hz
 rw [List.getD_eq_getElem?_getD] at hr
 cases hs : nx[s]? with
 | none => rw [hs] at hr; simp at hr
 | some nr =>
  rw [hs] at hr
  obtain ⟨j, hj⟩ := List.mem_iff_getElem?.1 (show row ∈ nr from hr)
  obtain ⟨l, hl⟩ := List.mem_iff_getElem?.1 hz
  have := (((h.row hs).2 j row hj).2 l z hl).2
  omega
theorem sumI_pos {α : Type} {f : α → Int} : ∀ {xs : List α}, (∀ x ∈ xs, 0 ≤ f x) → (0 < sumI f xs ↔ ∃ x ∈ xs, 0 < f x) ∧ 0 ≤ sumI f xs
 | [], _ => by simp [sumI]
 | x :: r, h => by
  obtain ⟨h1, h2⟩ := sumI_pos (xs := r) fun y hy => h y (List.mem_cons_of_mem _ hy)
  have h3 := h x (List.mem_cons_self ..)
  simp only [sumI]
  refine ⟨?_, by omega⟩
  constructor
  ·
   intro h4
   by_cases h5 : 0 < f x
   ·
    exact ⟨x, List.mem_cons_self .., h5⟩
   ·
    obtain ⟨y, hy, h6⟩ := h1.1 (by omega)
    exact ⟨y, List.mem_cons_of_mem _ hy, h6⟩
  ·
   rintro ⟨y, hy, h6⟩
   rcases List.mem_cons.1 hy with rfl | hy
   ·
    omega
   ·
    have := h1.2 ⟨y, hy, h6⟩; omega
theorem cnt_pos {t a : Int} {ac : List (List Bool)} {nx : List (List (List Int))} (h : AutOk t a ac nx) : ∀ (n s : Nat), s < ac.length → ∃ v, (cntN ac nx n)[s]? = some v ∧ 0 ≤ v ∧ (0 < v ↔ accW ac nx n s = true)
 | 0, s, hs => by
  obtain ⟨ar, har⟩ : ∃ e, ac[s]? = some e := ⟨_, List.getElem?_eq_getElem hs⟩
  refine ⟨cnt0 ar, cntN_zero_at har, ?_⟩
  have := sumI_pos (f := fun b : Bool => if b then (1 : Int) else 0) (xs := ar) (fun x _ => by cases x <;> simp)
  refine ⟨this.2, this.1.trans ?_⟩
  show _ ↔ (ac.getD s []).any id = true
  rw [List.getD_eq_getElem?_getD, har]
  simp only [Option.getD_some, List.any_eq_true, id]
  constructor
  ·
   rintro ⟨x, hx, hp⟩
   cases x
   ·
    simp at hp
   ·
    exact ⟨true, hx, rfl⟩
  ·
   rintro ⟨x, hx, rfl⟩
   exact ⟨true, hx, by simp⟩
 | n + 1, s, hs => by
  obtain ⟨nr, hnr⟩ : ∃ e, nx[s]? = some e := ⟨_, List.getElem?_eq_getElem (by rw [h.len]; exact hs)⟩
  have hstep : ∀ row ∈ nr, ∀ z ∈ row, 0 ≤ stepV (cntN ac nx n) z ∧ (0 < stepV (cntN ac nx n) z ↔ 0 ≤ z ∧ accW ac nx n z.toNat = true) := by
   intro row hr z hz
   have hlt := h.targets s row z (by rw [List.getD_eq_getElem?_getD, hnr]; exact hr) hz
   unfold stepV
   by_cases h0 : 0 ≤ z
   ·
    rw [if_pos h0]
    obtain ⟨v, hv, hv0, hv1⟩ := cnt_pos h n z.toNat (by omega)
    rw [List.getD_eq_getElem?_getD, hv]
    exact ⟨hv0, hv1.trans ⟨fun h => ⟨h0, h⟩, fun h => h.2⟩⟩
   ·
    rw [if_neg h0]
    exact ⟨by omega, by omega⟩
  have hrow : ∀ row ∈ nr, 0 ≤ cntRow (cntN ac nx n) row ∧ (0 < cntRow (cntN ac nx n) row ↔ ∃ z ∈ row, 0 ≤ z ∧ accW ac nx n z.toNat = true) := by
   intro row hr
   have := sumI_pos (f := stepV (cntN ac nx n)) (xs := row) (fun z hz => (hstep row hr z hz).1)
   refine ⟨this.2, this.1.trans ?_⟩
   constructor
   ·
    rintro ⟨z, hz, hp⟩
    exact ⟨z, hz, (hstep row hr z hz).2.1 hp⟩
   ·
    rintro ⟨z, hz, hp⟩
    exact ⟨z, hz, (hstep row hr z hz).2.2 hp⟩
  refine ⟨_, cntN_at hnr, ?_⟩
  have := sumI_pos (f := cntRow (cntN ac nx n)) (xs := nr) (fun row hr => (hrow row hr).1)
  refine ⟨this.2, this.1.trans ?_⟩
  rw [accW_succ, List.getD_eq_getElem?_getD, hnr]
  constructor
  ·
   rintro ⟨row, hr, hp⟩
   exact ⟨row, hr, (hrow row hr).2.1 hp⟩
  ·
   rintro ⟨row, hr, hp⟩
   exact ⟨row, hr, (hrow row hr).2.2 hp⟩
end Go.Proofs.YtjlmdhoajfdkbaaGreatDoor

namespace Go.Proofs.YtjlmdhoajfdkbaaGreatDoor
set_option linter.unusedVariables false
set_option linter.unusedSimpArgs false
open Go.ChangeShapes Go.WideShapes Go.ChangeAt Go.RowKit Go.Deep
set_option maxHeartbeats 4000000 in
theorem l03One_au {t a : Int} {e : Ex} {b o : Nat} {w : World} (hx : ExAt w b o e) (hsz : e.size ≤ 1073741824) :
  Calls Tryz.prog 97 #[.agg #[.int .i64 t, .int .i64 a], .pointer (some ⟨b, o, none⟩)] w (AuPost t a e w) := by
 have Hsz := Lib.hid hsz
 clear hsz
 go_enter Tryz.func97, Tryz.ntmps97
 go_wp2_with fail
 have L := (Blk.new2 w 33 (.int .i64 t) (.int .i64 a)).alloc (.cells #[.int .i64 0, .int .i64 0, .slice none 0 0, .slice none 0 0] 75)
 have R := Blk.new4 (w.alloc (.cells #[.int .i64 t, .int .i64 a] 33)) 75 (.int .i64 0) (.int .i64 0) (.slice none 0 0) (.slice none 0 0)
 simp at R
 have hB : Below w.heap.size w ((w.alloc (.cells #[.int .i64 t, .int .i64 a] 33)).alloc (.cells #[.int .i64 0, .int .i64 0, .slice none 0 0, .slice none 0 0] 75)) := by (repeat' first | exact Below.refl _ _ | assumption | apply Below.alloc | apply Below.drew | apply Below.setCell | omega | (simp; done) | (simp; omega))
 have hB0 := hB
 generalize ((w.alloc (.cells #[.int .i64 t, .int .i64 a] 33)).alloc (.cells #[.int .i64 0, .int .i64 0, .slice none 0 0, .slice none 0 0] 75)) = v0 at L R hB hB0 ⊢
 have l0 := L.c0
 have l1 := L.c1
 have r0 := R.c0
 have r1 := R.c1
 have r2 := R.c2
 have r3 := R.c3
 have ltL := L.lt
 have ltR := R.lt
 have zz0 := R.frozen 0
 have zz1 := R.frozen 1
 have zz2 := R.frozen 2
 have zz3 := R.frozen 3
 go_wp2_with fail
 refine (l01Ok_i (hx.below hB) Hsz.out).mono ?_
 rintro x w1 ⟨rfl, hb⟩
 clear l0 l1 r0 r1 r2 r3 ltL ltR zz0 zz1 zz2 zz3
 replace hB := Below.on hB hb hB.size
 replace L := L.below hb
 replace R := R.below hb
 clear hb
 have szW1 := hB.size
 have rlt1 := R.lt
 cases hs1 : okB t a e
 ·
  have l0 := L.c0
  have l1 := L.c1
  have ltL := L.lt
  have r0 := R.c0
  have zz0 := R.frozen 0
  have r1 := R.c1
  have zz1 := R.frozen 1
  have r2 := R.c2
  have zz2 := R.frozen 2
  have r3 := R.c3
  have zz3 := R.frozen 3
  have ltR := R.lt
  go_wp2_with fail
  have R' := ((((R.set 0 (.int .i64 0)).set 1 (.int .i64 0)).set 2 (.slice none 0 0)).set 3 (.slice none 0 0))
  have c0 := R'.c0
  have c1 := R'.c1
  have c2 := R'.c2
  have c3 := R'.c3
  refine bodyPost_ret (v := .tuple #[.agg #[.int .i64 0, .int .i64 0, .slice none 0 0, .slice none 0 0], .int .i64 1]) (by simp [results, Tryz.results97, go_sem, c0, c1, c2, c3]) rfl ?_
  obtain ⟨e1, e2, e3, e4, e5⟩ := au_no (t := t) (a := a) (e := e) (by simp [hs1])
  unfold AuPost
  rw [e1, e2, e3, e4, e5]
  exact ⟨none, 0, none, 0, rfl, nil_au, by (repeat' first | exact Below.refl _ _ | assumption | apply Below.alloc | apply Below.drew | apply Below.setCell | omega | (simp; done) | (simp; omega))⟩
 have Hs1 := Lib.hid hs1
 clear hs1
 have l0 := L.c0
 have l1 := L.c1
 have r0 := R.c0
 have r1 := R.c1
 have r2 := R.c2
 have r3 := R.c3
 have ltL := L.lt
 have ltR := R.lt
 have zz0 := R.frozen 0
 have zz1 := R.frozen 1
 have zz2 := R.frozen 2
 have zz3 := R.frozen 3
 go_wp2_with fail
 refine (l02Made_au Hs1.out (hx.below hB)).mono ?_
 rintro x w2 ⟨sb, cb, sd, cd, rfl, hf, hb⟩
 clear l0 l1 r0 r1 r2 r3 ltL ltR zz0 zz1 zz2 zz3
 replace hB := Below.on hB hb hB.size
 replace L := L.below hb
 replace R := R.below hb
 clear hb
 have szW2 := hB.size
 have rlt2 := R.lt
 have l0 := L.c0
 have l1 := L.c1
 have r0 := R.c0
 have r1 := R.c1
 have r2 := R.c2
 have r3 := R.c3
 have ltL := L.lt
 have ltR := R.lt
 have zz0 := R.frozen 0
 have zz1 := R.frozen 1
 have zz2 := R.frozen 2
 have zz3 := R.frozen 3
 go_wp2_with fail
 have R' := ((((R.set 0 (.int .i64 (auT t a e))).set 1 (.int .i64 (auN t a e))).set 2 (.slice sb (auA t a e).length cb)).set 3 (.slice sd (auX t a e).length cd))
 have c0 := R'.c0
 have c1 := R'.c1
 have c2 := R'.c2
 have c3 := R'.c3
 refine bodyPost_ret (v := .tuple #[.agg #[.int .i64 (auT t a e), .int .i64 (auN t a e), .slice sb (auA t a e).length cb, .slice sd (auX t a e).length cd], .int .i64 (auC t a e)]) (by simp [results, Tryz.results97, go_sem, c0, c1, c2, c3]) rfl ?_
 refine ⟨sb, cb, sd, cd, rfl, (hf.keep fun b hb1 hb2 => ?_).from szW1, by (repeat' first | exact Below.refl _ _ | assumption | apply Below.alloc | apply Below.drew | apply Below.setCell | omega | (simp; done) | (simp; omega))⟩
 repeat rw [Below.heap_setCell _ _ _ _ (by simp; omega)]
set_option maxHeartbeats 4000000 in
theorem oneAutomaton_au {t a k n : Int} {ks : List Ex} {s : Option Addr} {c : Nat} {w : World} (hr : Rd w (kidsD ks) (.slice s ks.length c)) (h1 : Ex.sizeL ks ≤ 1048576) :
  Calls Tryz.prog 99 #[.agg #[.int .i64 t, .int .i64 a], .agg #[.int .i64 k, .int .i64 n, .slice s ks.length c]] w (AuPost t a (.mk k n ks) w) := by
 have H1 := Lib.hid h1
 go_enter Tryz.func99, Tryz.ntmps99
 go_wp2_with fail
 have L := ((Blk.new2 w 33 (.int .i64 t) (.int .i64 a)).alloc (.cells #[.int .i64 k, .int .i64 n, .slice s ks.length c] 30)).alloc (.cells #[.int .i64 0, .int .i64 0, .slice none 0 0, .slice none 0 0] 75)
 have M := (Blk.new3 (w.alloc (.cells #[.int .i64 t, .int .i64 a] 33)) 30 (.int .i64 k) (.int .i64 n) (.slice s ks.length c)).alloc (.cells #[.int .i64 0, .int .i64 0, .slice none 0 0, .slice none 0 0] 75)
 simp at M
 have R := Blk.new4 ((w.alloc (.cells #[.int .i64 t, .int .i64 a] 33)).alloc (.cells #[.int .i64 k, .int .i64 n, .slice s ks.length c] 30)) 75 (.int .i64 0) (.int .i64 0) (.slice none 0 0) (.slice none 0 0)
 simp at R
 have hB : Below w.heap.size w (((w.alloc (.cells #[.int .i64 t, .int .i64 a] 33)).alloc (.cells #[.int .i64 k, .int .i64 n, .slice s ks.length c] 30)).alloc (.cells #[.int .i64 0, .int .i64 0, .slice none 0 0, .slice none 0 0] 75)) := by (repeat' first | exact Below.refl _ _ | assumption | apply Below.alloc | apply Below.drew | apply Below.setCell | omega | (simp; done) | (simp; omega))
 have hB0 := hB
 generalize (((w.alloc (.cells #[.int .i64 t, .int .i64 a] 33)).alloc (.cells #[.int .i64 k, .int .i64 n, .slice s ks.length c] 30)).alloc (.cells #[.int .i64 0, .int .i64 0, .slice none 0 0, .slice none 0 0] 75)) = v0 at L M R hB hB0 ⊢
 have l0 := L.c0
 have l1 := L.c1
 have m0 := M.c0
 have m1 := M.c1
 have m2 := M.c2
 have r0 := R.c0
 have r1 := R.c1
 have r2 := R.c2
 have r3 := R.c3
 have ltL := L.lt
 have ltM := M.lt
 have ltR := R.lt
 have zz0 := R.frozen 0
 have zz1 := R.frozen 1
 have zz2 := R.frozen 2
 have zz3 := R.frozen 3
 go_wp2_with fail
 have rlt0 := R.lt
 refine (implAutomatonOf_au (t := t) (a := a) (k := k) (n := n) (hr.below hB) H1.out).mono ?_
 rintro x w1 ⟨sb, cb, sd, cd, rfl, hf, hb⟩
 clear l0 l1 m0 m1 m2 r0 r1 r2 r3 ltL ltM ltR zz0 zz1 zz2 zz3
 replace hB := Below.on hB hb hB.size
 replace L := L.below hb
 replace M := M.below hb
 replace R := R.below hb
 clear hb
 have szW1 := hB.size
 have rlt1 := R.lt
 have l0 := L.c0
 have l1 := L.c1
 have m0 := M.c0
 have m1 := M.c1
 have m2 := M.c2
 have r0 := R.c0
 have r1 := R.c1
 have r2 := R.c2
 have r3 := R.c3
 have ltL := L.lt
 have ltM := M.lt
 have ltR := R.lt
 have zz0 := R.frozen 0
 have zz1 := R.frozen 1
 have zz2 := R.frozen 2
 have zz3 := R.frozen 3
 go_wp2_with fail
 have R' := ((((R.set 0 (.int .i64 (auT t a (.mk k n ks)))).set 1 (.int .i64 (auN t a (.mk k n ks)))).set 2 (.slice sb (auA t a (.mk k n ks)).length cb)).set 3 (.slice sd (auX t a (.mk k n ks)).length cd))
 have c0 := R'.c0
 have c1 := R'.c1
 have c2 := R'.c2
 have c3 := R'.c3
 refine bodyPost_ret (v := .tuple #[.agg #[.int .i64 (auT t a (.mk k n ks)), .int .i64 (auN t a (.mk k n ks)), .slice sb (auA t a (.mk k n ks)).length cb, .slice sd (auX t a (.mk k n ks)).length cd], .int .i64 (auC t a (.mk k n ks))]) (by simp [results, Tryz.results99, go_sem, c0, c1, c2, c3]) rfl ?_
 refine ⟨sb, cb, sd, cd, rfl, (hf.keep fun b hb1 hb2 => ?_).from hB0.size, by (repeat' first | exact Below.refl _ _ | assumption | apply Below.alloc | apply Below.drew | apply Below.setCell | omega | (simp; done) | (simp; omega))⟩
 repeat rw [Below.heap_setCell _ _ _ _ (by simp; omega)]
end Go.Proofs.YtjlmdhoajfdkbaaGreatDoor

namespace Go.Proofs.YtjlmdhoajfdkbaaGreatDoor
set_option linter.unusedVariables false
set_option linter.unusedSimpArgs false
open Go.ChangeShapes Go.WideShapes Go.ChangeAt Go.RowKit Go.Sort
theorem App.freshN {α : Type} {f : α → D} {W w : World} {t : TypeId} {xs : List α} {n : Nat} {v : Value} (h : App W w t 1 n (xs.map f) v) (hn : xs.length = n) : Fresh W w (nestD f xs) v := by
 subst hn
 exact h.fresh
theorem App.sized {W w : World} {t : TypeId} {ds ds' : List D} {n n' : Nat} {v : Value} (h : App W w t 1 n ds v) (hd : ds = ds') (hn : n = n') : App W w t 1 n' ds' v := by
 subst hd hn
 exact h
end Go.Proofs.YtjlmdhoajfdkbaaGreatDoor

namespace Go.Proofs.YtjlmdhoajfdkbaaGreatDoor
set_option linter.unusedVariables false
set_option linter.unusedSimpArgs false
open Go.ChangeShapes Go.WideShapes Go.ChangeAt Go.RowKit Go.Deep
section
variable {α : Type} {f : α → Value} {w : World} {g t : Nat} {L : List α}
end
section
variable {α : Type} {z : α} {full L : List α} {k : Nat}
theorem FillL.at (h : FillL z full k L) (hk : k < full.length) : L[k]? = some z := h.2.2 k (Nat.le_refl _) hk
end
end Go.Proofs.YtjlmdhoajfdkbaaGreatDoor
