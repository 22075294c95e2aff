/-
  Parts of a proof, joined: Nest, Word, App, Aps, Run, TidyI, Shr, SortN, MadS, Arr, Counts, Mat, MatQ, Spn. No condition.
-/
import Derived.Deep.AppendLies
import Derived.Shelf.SlSortCmp.WholeK
import Derived.Maps.OwnOps
import Derived.DeepKeys4
import Derived.Test.YtbflhjjnemdecaaPk4
namespace Go.Proofs.Ytbflhjjnemdecaa
set_option linter.unusedVariables false
set_option linter.unusedSimpArgs false
open Go.ChangeShapes Go.WideShapes Go.ChangeAt Go.RowKit Go.Deep
def nestD {α : Type} (f : α → D) (xs : List α) : D := .sl 1 xs.length (xs.map f)
def boolsD (bs : List Bool) : D := nestD D.bool bs
def bbD (xs : List (List Bool)) : D := nestD boolsD xs
section
variable {α : Type}
variable {w : World} {f : α → D} {xs : List α}
theorem nest_in {b o len cap : Nat} (h : Rd w (nestD f xs) (.slice (some ⟨b, o, none⟩) len cap)) {i : Nat} {x : α} (hx : xs[i]? = some x) : b < w.heap.size ∧ ∃ v, w.cell? ⟨b, o + i, none⟩ = some v ∧ Rd w (f x) v := by
 obtain ⟨_, _, _, _, _, h4⟩ := Rd.sl_at h
 rcases h4 with h4 | ⟨b', o', e1, h4⟩
 ·
  have := (List.getElem?_eq_some_iff.1 hx).1
  omega
 ·
  simp only [Option.some.injEq, Addr.mk.injEq, and_true] at e1
  obtain ⟨rfl, rfl⟩ := e1
  obtain ⟨v, h5, h6⟩ := h4 i (f x) (by rw [List.getElem?_map, hx]; rfl)
  exact ⟨World.block_lt_of_cell? w _ h5, v, h5, h6⟩
theorem nest_some {a : Option Addr} {len cap : Nat} (h : Rd w (nestD f xs) (.slice a len cap)) (hk : 0 < xs.length) : ∃ b o, a = some ⟨b, o, none⟩ := by
 obtain ⟨_, _, _, _, _, h4⟩ := Rd.sl_at h
 rcases h4 with h4 | ⟨b, o, e, _⟩
 ·
  omega
 ·
  exact ⟨b, o, e⟩
theorem nest_bd {a : Option Addr} {len cap : Nat} (h : Rd w (nestD f xs) (.slice a len cap)) : xs.length ≤ cap ∧ cap ≤ maxLen := by
 obtain ⟨_, h2, h3, _⟩ := Rd.sl_at h
 exact ⟨h2, h3⟩
theorem nest_sl {β : Type} {g : β → D} {ys : List (List β)} {b o len cap : Nat} (h : Rd w (nestD (nestD g) ys) (.slice (some ⟨b, o, none⟩) len cap)) {i : Nat} {x : List β} (hx : ys[i]? = some x) :
  b < w.heap.size ∧ ∃ s c, w.cell? ⟨b, o + i, none⟩ = some (.slice s x.length c) ∧ Rd w (nestD g x) (.slice s x.length c) := by
 obtain ⟨h1, v, h2, h3⟩ := nest_in h hx
 obtain ⟨s, c, rfl, _⟩ := Rd.slice h3
 exact ⟨h1, s, c, h2, h3⟩
theorem bool_in {bs : List Bool} {b o len cap : Nat} (h : Rd w (boolsD bs) (.slice (some ⟨b, o, none⟩) len cap)) {i : Nat} {z : Bool} (hz : bs[i]? = some z) : b < w.heap.size ∧ w.cell? ⟨b, o + i, none⟩ = some (.bool z) := by
 obtain ⟨h1, v, h2, h3⟩ := nest_in h hz
 simp only [Rd] at h3
 subst h3
 exact ⟨h1, h2⟩
end
end Go.Proofs.Ytbflhjjnemdecaa

namespace Go.Proofs.Ytbflhjjnemdecaa
set_option linter.unusedVariables false
set_option linter.unusedSimpArgs false
open Go.ChangeShapes Go.WideShapes Go.ChangeAt Go.RowKit
def SzR (n : Nat) (left : Int) (e : Ending) : Prop := ∃ r : Int, e = .returned (.int .i64 r) ∧ r ≤ left ∧ -1 ≤ r ∧ (0 ≤ r → (n : Int) + r ≤ left)
theorem szWord_i {xs ys : List Int} {s t : Option Addr} {c d : Nat} {left : Int} {w : World} (hr : Rd w (intsD xs) (.slice s xs.length c)) (hr' : Rd w (intsD ys) (.slice t ys.length d)) (h0 : 0 ≤ left) (h1 : left ≤ 1048576) :
  Calls Try.prog 11 #[.agg #[.slice s xs.length c, .slice t ys.length d], .int .i64 left] w fun e w' => SzR (xs.length + ys.length) left e ∧ Below w.heap.size w w' := by
 go_enter Try.func11, Try.ntmps11
 go_wp2_with fail
 refine (szInt64S_any _ _ _ _ _ (hr.alloc _) h0 h1).mono ?_
 rintro e w1 ⟨⟨r, rfl, r1, r2, r3⟩, rfl⟩
 by_cases hneg : r < 0
 ·
  go_wp2_with fail
  go_ret
  exact ⟨⟨-1, rfl, by omega, by omega, by omega⟩, by (repeat' first | exact Below.refl _ _ | assumption | apply Below.alloc | apply Below.drew | apply Below.setCell | omega | (simp; done) | (simp; omega))⟩
 ·
  have hd : decide (r < 0) = false := by simpa using hneg
  have r4 := r3 (by omega)
  clear r3
  go_wp2_with fail
  refine (szInt64S_any _ _ _ _ _ (hr'.alloc _) (by omega) (by omega)).mono ?_
  rintro e w1 ⟨⟨q, rfl, q1, q2, q3⟩, rfl⟩
  by_cases hneg' : q < 0
  ·
   go_wp2_with fail
   go_ret
   exact ⟨⟨-1, rfl, by omega, by omega, by omega⟩, by (repeat' first | exact Below.refl _ _ | assumption | apply Below.alloc | apply Below.drew | apply Below.setCell | omega | (simp; done) | (simp; omega))⟩
  ·
   have hd' : decide (q < 0) = false := by simpa using hneg'
   have q4 := q3 (by omega)
   clear q3
   go_wp2_with fail
   go_ret
   exact ⟨⟨q, rfl, by omega, by omega, by omega⟩, by (repeat' first | exact Below.refl _ _ | assumption | apply Below.alloc | apply Below.drew | apply Below.setCell | omega | (simp; done) | (simp; omega))⟩
theorem toWord_i {xs ys : List Int} {s t : Option Addr} {c d : Nat} {w : World} (hr : Rd w (intsD xs) (.slice s xs.length c)) (hr' : Rd w (intsD ys) (.slice t ys.length d)) (h1 : xs.length + ys.length ≤ 1048576) :
  Calls Try.prog 15 #[.agg #[.slice s xs.length c, .slice t ys.length d]] w fun e w' => ∃ s' c' t' d', e = .returned (.agg #[.slice s' xs.length c', .slice t' ys.length d']) ∧
   Freshs w w' [intsD xs, intsD ys] [.slice s' xs.length c', .slice t' ys.length d'] ∧ Below w.heap.size w w' := by
 go_enter Try.func15, Try.ntmps15
 go_wp2_with fail
 have L := ((Blk.new2 w 29 (.slice s xs.length c) (.slice t ys.length d)).alloc (.cells #[.slice none 0 0, .slice none 0 0] 40)).alloc (.cells #[.slice none 0 0, .slice none 0 0] 40)
 have M := (Blk.new2 (w.alloc (.cells #[.slice s xs.length c, .slice t ys.length d] 29)) 40 (.slice none 0 0) (.slice none 0 0)).alloc (.cells #[.slice none 0 0, .slice none 0 0] 40)
 have N := (Blk.new2 ((w.alloc (.cells #[.slice s xs.length c, .slice t ys.length d] 29)).alloc (.cells #[.slice none 0 0, .slice none 0 0] 40)) 40 (.slice none 0 0) (.slice none 0 0))
 refine (toInt64S_any xs s c _ (by repeat (first | exact hr | apply Rd.alloc)) (by omega)).mono ?_
 rintro e w1 ⟨s1, c1, rfl, hf1, hb⟩
 have hB : Below w.heap.size w w1 := Below.on (by (repeat' first | exact Below.refl _ _ | assumption | apply Below.alloc | apply Below.drew | apply Below.setCell | omega | (simp; done) | (simp; omega))) hb (by simp; omega)
 have hz1 := hb.size
 simp at hz1
 replace L := L.below hb
 replace M := M.below hb
 replace N := N.below hb
 simp at M N
 clear hb
 have l1 := L.c1
 have n0 := N.c0
 have z0 := N.frozen 0
 go_wp2_with fail
 have hB1 : Below w.heap.size w (w1.setCell ⟨w.heap.size + 1 + 1, 0, none⟩ (.slice s1 xs.length c1)) := by (repeat' first | exact Below.refl _ _ | assumption | apply Below.alloc | apply Below.drew | apply Below.setCell | omega | (simp; done) | (simp; omega))
 obtain ⟨wa, hwa, hf1⟩ : ∃ wa : World, wa.heap.size = w.heap.size + 1 + 1 + 1 ∧ Fresh wa w1 (intsD xs) (.slice s1 xs.length c1) := ⟨_, by simp, hf1⟩
 have hf1' : Fresh wa (w1.setCell ⟨w.heap.size + 1 + 1, 0, none⟩ (.slice s1 xs.length c1)) (intsD xs) (.slice s1 xs.length c1) :=
  hf1.keep fun b h1 _ => Below.heap_setCell _ _ _ _ (by simp; omega)
 have Hwa := Lib.hid hwa
 clear hwa
 replace M := M.other (p := ⟨w.heap.size + 1 + 1, 0, none⟩) (by simp) (.slice s1 xs.length c1)
 replace N := N.set 0 (.slice s1 xs.length c1)
 simp at N
 have hz2 : w.heap.size + 1 + 1 + 1 ≤ (w1.setCell ⟨w.heap.size + 1 + 1, 0, none⟩ (.slice s1 xs.length c1)).heap.size := by simpa [World.setCell] using hz1
 clear l1 n0 z0 hf1 hB L hz1
 revert hB1 hf1' M N hz2
 generalize w1.setCell ⟨w.heap.size + 1 + 1, 0, none⟩ (.slice s1 xs.length c1) = w2
 intro hB1 hf1 M N hz2
 refine (toInt64S_any ys t d _ (hr'.below hB1) (by omega)).mono ?_
 rintro e w3 ⟨s2, c2, rfl, hf2, hb⟩
 replace hf2 := Freshs.cons hf1 (Freshs.one hf2) hb (by have := Hwa.out; omega)
 have hB := Below.on hB1 hb hB1.size
 have hz3 := hb.size
 replace M := M.below hb
 replace N := N.below hb
 clear hb hB1 hf1
 have n1 := N.c1
 have n0 := N.c0
 have m0 := M.c0
 have m1 := M.c1
 have z1 := N.frozen 1
 have y0 := M.frozen 0
 have y1 := M.frozen 1
 go_wp2
 refine bodyPost_ret (v := .agg #[.slice s1 xs.length c1, .slice s2 ys.length c2]) (by simp [results, Try.results15, go_sem, m0, m1]) rfl ⟨s1, c1, s2, c2, rfl, ?_, by (repeat' first | exact Below.refl _ _ | assumption | apply Below.alloc | apply Below.drew | apply Below.setCell | omega | (simp; done) | (simp; omega))⟩
 have hwa := Hwa.out
 refine Freshs.from (hf2.keep fun b h1 _ => ?_) (by omega)
 rw [Below.heap_setCell _ _ _ _ (by simp; omega), Below.heap_setCell _ _ _ _ (by simp; omega), Below.heap_setCell _ _ _ _ (by simp; omega)]
theorem eqWord_i {xs ys xs' ys' : List Int} {s t s' t' : Option Addr} {c d c' d' : Nat} {w : World} (hr : Rd w (intsD xs) (.slice s xs.length c)) (hr2 : Rd w (intsD ys) (.slice t ys.length d))
  (hr' : Rd w (intsD xs') (.slice s' xs'.length c')) (hr2' : Rd w (intsD ys') (.slice t' ys'.length d')) :
  Calls Try.prog 18 #[.agg #[.slice s xs.length c, .slice t ys.length d], .agg #[.slice s' xs'.length c', .slice t' ys'.length d']] w fun e w' => e = .returned (.bool (eqb xs xs' && eqb ys ys')) ∧ Below w.heap.size w w' := by
 go_enter Try.func18, Try.ntmps18
 go_wp2_with fail
 have L := (Blk.new2 w 40 (.slice s xs.length c) (.slice t ys.length d)).alloc (.cells #[.slice s' xs'.length c', .slice t' ys'.length d'] 40)
 have M := Blk.new2 (w.alloc (.cells #[.slice s xs.length c, .slice t ys.length d] 40)) 40 (.slice s' xs'.length c') (.slice t' ys'.length d')
 refine (eqInt64S_any xs xs' _ _ _ _ _ (by repeat (first | exact hr | apply Rd.alloc)) (by repeat (first | exact hr' | apply Rd.alloc))).mono ?_
 rintro e w1 ⟨rfl, hb⟩
 have hB : Below w.heap.size w w1 := Below.on (by (repeat' first | exact Below.refl _ _ | assumption | apply Below.alloc | apply Below.drew | apply Below.setCell | omega | (simp; done) | (simp; omega))) hb (by simp; omega)
 replace L := L.below hb
 replace M := M.below hb
 simp at M
 clear hb
 have l1 := L.c1
 have m1 := M.c1
 cases h1 : eqb xs xs'
 ·
  go_wp2_with fail
  go_ret
  exact ⟨ret_bool (by rw [h1]; rfl), hB⟩
 ·
  go_wp2_with fail
  refine (eqInt64S_any ys ys' _ _ _ _ _ (hr2.below hB) (hr2'.below hB)).mono ?_
  rintro e w2 ⟨rfl, hb⟩
  replace hB := Below.on hB hb hB.size
  clear hb
  cases h2 : eqb ys ys'
  all_goals
   go_wp2_with fail
   go_ret
   exact ⟨ret_bool (by rw [h1, h2]; rfl), hB⟩
end Go.Proofs.Ytbflhjjnemdecaa

namespace Go.Proofs.Ytbflhjjnemdecaa
set_option linter.unusedVariables false
set_option linter.unusedSimpArgs false
open Go.ChangeShapes Go.WideShapes Go.ChangeAt Go.RowKit Go.Deep
def App (W w : World) (t : TypeId) (size n : Nat) (ds : List D) (v : Value) : Prop :=
 ∃ xs F, w.ownsRow W.heap.size t size v n xs ∧ Ows w ds xs F ∧ F.Nodup ∧ ∀ b ∈ F, W.heap.size ≤ b ∧ v.ownBlock ≠ some b
theorem App.empty {W w : World} {t size g : Nat} (h : Blk w g t []) (hg : W.heap.size ≤ g) : App W w t size 0 [] (.slice (some ⟨g, 0, none⟩) 0 0) :=
 ⟨[], [], ⟨by simp, Or.inr ⟨g, 0, #[], rfl, hg, by simpa [Blk] using h, by omega, by simp [maxLen], by simp, by simp⟩⟩, Ows.nil, by simp, by simp⟩
theorem App.len {W w : World} {t size n : Nat} {ds : List D} {v : Value} (h : App W w t size n ds v) : ds.length = n * size := by
 obtain ⟨xs, F, h1, h2, _⟩ := h
 rw [← h2.length, h1.1]
theorem App.shape {W w : World} {t size n : Nat} {ds : List D} {v : Value} (h : App W w t size n ds v) : ∃ a cap, v = .slice a n cap ∧ n ≤ cap ∧ cap ≤ maxLen := by
 obtain ⟨xs, F, ⟨_, h1⟩, _⟩ := h
 rcases h1 with ⟨rfl, rfl⟩ | ⟨g, cap, cur, rfl, _, _, h2, h3, _⟩
 ·
  exact ⟨none, 0, rfl, by omega, by simp [maxLen]⟩
 ·
  exact ⟨_, cap, rfl, h2, h3⟩
theorem App.lt {W w : World} {t size n : Nat} {ds : List D} {v : Value} (h : App W w t size n ds v) : ∀ k, v.ownBlock = some k → W.heap.size ≤ k ∧ k < w.heap.size := by
 obtain ⟨xs, F, h1, _⟩ := h
 exact h1.lt
theorem App.keep {W w w' : World} {t size n : Nat} {ds : List D} {v : Value} (h : App W w t size n ds v) (hk : ∀ b, b < w.heap.size → W.heap.size ≤ b → w'.heap[b]? = w.heap[b]?) : App W w' t size n ds v := by
 obtain ⟨xs, F, h1, h2, h3, h4⟩ := h
 refine ⟨xs, F, ⟨h1.1, ?_⟩, h2.keep fun b hb => hk b (h2.lt b hb) (h4 b hb).1, h3, h4⟩
 rcases h1.2 with h | ⟨g, cap, cur, e, hg, hb, hr⟩
 ·
  exact Or.inl h
 ·
  exact Or.inr ⟨g, cap, cur, e, hg, (hk g (Array.getElem?_eq_some_iff.1 hb).1 hg).trans hb, hr⟩
theorem App.below {W w w' : World} {t size n : Nat} {ds : List D} {v : Value} (h : App W w t size n ds v) (hb : Below w.heap.size w w') : App W w' t size n ds v := h.keep fun b hl _ => hb.block b hl
theorem App.fresh {W w : World} {t size n : Nat} {ds : List D} {v : Value} (h : App W w t size n ds v) : Fresh W w (.sl size n ds) v := by
 have hlen := h.len
 obtain ⟨xs, F, h1, h2, h3, h4⟩ := h
 have hxl := h1.1
 rcases h1.2 with ⟨rfl, rfl⟩ | ⟨g, cap, cur, rfl, hg, hb, h5, h6, h7, h8⟩
 ·
  exact ⟨[], by simp only [Ow]; exact ⟨_, 0, rfl, by omega, by simp [maxLen], hlen, by simp, Or.inl (by simp)⟩, by simp, by simp⟩
 ·
  by_cases h0 : n = 0
  ·
   exact ⟨[], by simp only [Ow]; exact ⟨_, cap, rfl, h5, h6, hlen, by simp, Or.inl (by simp [h0])⟩, by simp, by simp⟩
  ·
   have hblk : Blk w g t cur.toList := by simpa [Blk] using hb
   refine ⟨g :: F, by simp only [Ow]; exact ⟨_, cap, rfl, h5, h6, hlen, by simp, Or.inr ⟨g, 0, xs, F, rfl, rfl, hblk.free, hblk.row (by rw [hxl]; exact h8), h2⟩⟩, ?_, ?_⟩
   ·
    rw [List.nodup_cons]
    exact ⟨fun hm => (h4 g hm).2 rfl, h3⟩
   ·
    intro b hm
    rcases List.mem_cons.1 hm with rfl | hm
    ·
     exact hg
    ·
     exact (h4 b hm).1
theorem wpList_append_app {P : Program} (w : World) {ops : Array Oper} {rest : List Oper} {o : Oper} {a : Act} {Q : Exit → Act → World → Prop} (hgd : o.guard = none) (s x : Operand) (t : TypeId)
  (ho : o.op = .call { callee := .builtin .append, args := #[s, x], argTypes := #[t, t] })
  (e : TypeId) (z : Value) (size bytes : Nat) (ht : P.underlying t = some (.slice e)) (hinfo : (P.info? e).map (fun i => (i.zero, i.size, i.bytes)) = some (some z, size, bytes)) (hzs : z.cells.size = size) (hsz : 0 < size)
  {W w1 : World} (v : Value) {n : Nat} {ds : List D} (hs : a.eval s = v) (happ : App W w1 e size n ds v) (hb : Below w1.heap.size w1 w) (hB : W.heap.size ≤ w1.heap.size)
  (ad : Addr) (m c : Nat) {es : List D} (news : List Value) (hx : a.eval x = .slice (some ad) m c) (hnews : ∀ j u, news[j]? = some u → w.cell? (ad.add j) = some u) (hes : Freshs w1 w es news)
  (hl : news.length = m * size) (h1 : ∀ u ∈ news, u.oneCell' = true) (hm : 0 < m) (hbytes : (n + m) * bytes ≤ 140737488355328) (h63 : n + m ≤ maxLen)
  (h : ∀ g cap w', App W w' e size (n + m) (ds ++ es) (.slice (some ⟨g, 0, none⟩) (n + m) cap) → Below W.heap.size w w' → wpList P ops Q rest (a.put o.dst (.slice (some ⟨g, 0, none⟩) (n + m) cap)) w') : wpList P ops Q (o :: rest) a w := by
 obtain ⟨i, hi, hz, hsize, hby⟩ := info_parts hinfo
 have hz1 := hb.size
 obtain ⟨xs, F, a1, a2, a3, a4⟩ := happ.below hb
 have a5 := happ.lt
 obtain ⟨G, g1, g2, g3⟩ := hes
 obtain ⟨xs', F', b1, b2, b3, b4⟩ := happ
 -- the same cells and blocks as in w1
 have a6 : ∀ b ∈ F', b < w1.heap.size := b2.lt
 have b1' : w.ownsRow W.heap.size e size v n xs' := by
  refine ⟨b1.1, ?_⟩
  rcases b1.2 with h | ⟨g, cap, cur, q, hg, hbb, hr⟩
  ·
   exact Or.inl h
  ·
   exact Or.inr ⟨g, cap, cur, q, hg, (hb.block g (Array.getElem?_eq_some_iff.1 hbb).1).trans hbb, hr⟩
 have b2' : Ows w ds xs' F' := b2.keep fun b hb' => hb.block b (a6 b hb')
 refine wpList_append_lies w hgd s x t ho W.heap.size e i z size bytes ht hi hz hsize hby hzs hsz v n xs' hs b1' ad m c news hx hl hnews h1 hm h63 hbytes (by omega) w.heap.size rfl ?_
 intro g cap w' k1 k2 k3 k4
 have hF : ∀ b ∈ F', some b ≠ v.ownBlock := fun b hb' e => (b4 b hb').2 e.symm
 have hG : ∀ b ∈ G, some b ≠ v.ownBlock := fun b hb' e => by have := (a5 b e.symm).2; have := g3 b hb'; omega
 refine h g cap w' ⟨xs' ++ news, F' ++ G, k1, Ows.append (b2'.keep fun b hb' => k2.block b (b2'.lt b hb') (hF b hb')) (g1.keep fun b hb' => k2.block b (g1.lt b hb') (hG b hb')), ?_, ?_⟩ ⟨k2.os, k2.tape, k2.output, k2.size, fun b hb' => k2.block b (by omega) (fun e => by have := (a5 b e.symm).1; omega)⟩
 ·
  rw [List.nodup_append]
  refine ⟨b3, g2, fun p hp q hq hpq => ?_⟩
  subst hpq
  have := a6 p hp
  have := g3 p hq
  omega
 ·
  intro b hm'
  have hgb : ∀ b, some b ≠ v.ownBlock → b < w.heap.size → Value.ownBlock (.slice (some ⟨g, 0, none⟩) (n + m) cap) ≠ some b := by
   intro b hne hlt e
   simp only [Value.ownBlock, Option.some.injEq] at e
   subst e
   rcases k3 with k3 | k3
   ·
    exact hne k3.symm
   ·
    omega
  rcases List.mem_append.1 hm' with hm' | hm'
  ·
   exact ⟨(b4 b hm').1, hgb b (hF b hm') (b2'.lt b hm')⟩
  ·
   exact ⟨by have := g3 b hm'; omega, hgb b (hG b hm') (g1.lt b hm')⟩
end Go.Proofs.Ytbflhjjnemdecaa

namespace Go.Proofs.Ytbflhjjnemdecaa
set_option linter.unusedVariables false
set_option linter.unusedSimpArgs false
open Go.ChangeShapes Go.WideShapes Go.ChangeAt Go.RowKit Go.Deep
theorem news_blk {w : World} {g T : Nat} {vs : List Value} (h : Blk w g T vs) : ∀ j u, vs[j]? = some u → w.cell? ((⟨g, 0, none⟩ : Addr).add j) = some u := by
 intro j u hj
 rw [add_plain, Nat.zero_add, h.cell, hj]
end Go.Proofs.Ytbflhjjnemdecaa

namespace Go.Proofs.Ytbflhjjnemdecaa
set_option linter.unusedVariables false
set_option linter.unusedSimpArgs false
open Go.ChangeShapes Go.WideShapes Go.ChangeAt Go.RowKit Go.Sort
theorem wordB_parts {t a : Int} {xs ys : List Int} (h : wordB t a xs ys = true) : ys.length ≤ 10 ∧ xs.length = ys.length + 1 ∧ allIn xs (atomsN t) = true ∧ allIn ys a = true := by
 simp only [wordB, Bool.and_eq_true, decide_eq_true_eq] at h
 exact ⟨h.1.1.1.2, h.1.1.2, h.1.2, h.2⟩
theorem Blk.wdAt {w : World} {g T : Nat} {xs ys : List Int} {s u : Option Addr} {c d : Nat} (L : Blk w g T [.slice s xs.length c, .slice u ys.length d]) (hr : Rd w (intsD xs) (.slice s xs.length c)) (hq : Rd w (intsD ys) (.slice u ys.length d)) : WdAt w g 0 xs ys :=
 ⟨_, _, _, _, L.c0, L.c1, hr, hq⟩
end Go.Proofs.Ytbflhjjnemdecaa

namespace Go.Proofs.Ytbflhjjnemdecaa
set_option linter.unusedVariables false
set_option linter.unusedSimpArgs false
open Go.ChangeShapes Go.WideShapes Go.ChangeAt Go.RowKit Go.Deep Go.Sort
def K1 (w : World) (b o : Nat) (e : Ex) (s : Option Addr) (c : Nat) : Prop := w.cell? ⟨b, o, none⟩ = some (.int .i64 e.kind) ∧ w.cell? ⟨b, o + 1, none⟩ = some (.int .i64 e.num) ∧ w.cell? ⟨b, o + 2, none⟩ = some (.slice s e.kids.length c)
end Go.Proofs.Ytbflhjjnemdecaa

namespace Go.Proofs.Ytbflhjjnemdecaa
set_option linter.unusedVariables false
set_option linter.unusedSimpArgs false
open Go.ChangeShapes Go.WideShapes Go.ChangeAt Go.RowKit Go.Deep Go.Sort
structure Sh where
 e : Ex
 s : Option Addr
 c : Nat
end Go.Proofs.Ytbflhjjnemdecaa

namespace Go.Proofs.Ytbflhjjnemdecaa
set_option linter.unusedVariables false
set_option linter.unusedSimpArgs false
open Go.ChangeShapes Go.WideShapes Go.ChangeAt Go.RowKit Go.Deep Go.Sort
instance shInh : Inhabited Sh := ⟨⟨.mk 0 0 [], none, 0⟩⟩
end Go.Proofs.Ytbflhjjnemdecaa

namespace Go.Proofs.Ytbflhjjnemdecaa
set_option linter.unusedVariables false
set_option linter.unusedSimpArgs false
open Go.ChangeShapes Go.WideShapes Go.ChangeAt Go.RowKit Go.Deep
theorem info_bl : (Try.prog.info? 4).map (fun i => (i.zero, i.size, i.bytes)) = some (some (.bool false), 1, 1) := by kernel_rfl
theorem info_bls : (Try.prog.info? 114).map (fun i => (i.zero, i.size, i.bytes)) = some (some (.slice none 0 0), 1, 24) := by kernel_rfl
end Go.Proofs.Ytbflhjjnemdecaa

namespace Go.Proofs.Ytbflhjjnemdecaa
set_option linter.unusedVariables false
set_option linter.unusedSimpArgs false
open Go.ChangeShapes Go.WideShapes Go.ChangeAt Go.RowKit Go.Deep
theorem madeCells_one (z : Value) (n : Nat) : (madeCells #[z] n).toList = List.replicate n z := by
 apply List.ext_getElem
 ·
  simp [madeCells]
 ·
  intro i h1 h2
  simp [madeCells, Nat.mod_one]
theorem made_blk {w : World} {base t n g : Nat} {z : Value} {cs : Array Value} (hz : cs = #[z]) (h : w.ownsRow base t 1 (.slice (some ⟨g, 0, none⟩) n n) n (madeCells cs (n * 1)).toList) : Blk w g t (List.replicate n z) ∧ base ≤ g := by
 subst hz
 obtain ⟨h0, h⟩ := h
 rcases h with ⟨h, _⟩ | ⟨g', cap, cur, hv, hb, hg, _, _, hs, ht⟩
 ·
  cases h
 ·
  simp only [Value.slice.injEq, Option.some.injEq, Addr.mk.injEq, and_true, true_and] at hv
  obtain ⟨rfl, rfl⟩ := hv
  rw [madeCells_one, Nat.mul_one, List.take_of_length_le (by simp; omega)] at ht
  refine ⟨?_, hb⟩
  unfold Blk
  rw [hg, ← ht]
section
variable {α : Type} {f : α → Value} {w : World} {g t : Nat} {L : List α}
theorem arr_cell (h : Blk w g t (L.map f)) {i : Nat} {x : α} (hx : L[i]? = some x) : w.cell? ⟨g, i, none⟩ = some (f x) := by rw [h.cell, List.getElem?_map, hx]; rfl
theorem arr_set (h : Blk w g t (L.map f)) (i : Nat) (x : α) : Blk (w.setCell ⟨g, i, none⟩ (f x)) g t ((L.set i x).map f) := by
 rw [List.map_set]
 exact h.set i (f x)
end
def FillL {α : Type} (z : α) (full : List α) (k : Nat) (L : List α) : Prop := L.length = full.length ∧ (∀ j, j < k → L[j]? = full[j]?) ∧ ∀ j, k ≤ j → j < full.length → L[j]? = some z
section
variable {α : Type} {z : α} {full L : List α} {k : Nat}
theorem FillL.start {n : Nat} (hn : full.length = n) : FillL z full 0 (List.replicate n z) := by
 subst hn
 exact ⟨by simp, fun j hj => by omega, fun j _ hj => by simp [hj]⟩
theorem FillL.at (h : FillL z full k L) (hk : k < full.length) : L[k]? = some z := h.2.2 k (Nat.le_refl _) hk
theorem FillL.step (h : FillL z full k L) {v : α} (hv : full[k]? = some v) : FillL z full (k + 1) (L.set k v) := by
 obtain ⟨h1, h2, h3⟩ := h
 have hk := (List.getElem?_eq_some_iff.1 hv).1
 refine ⟨by simpa using h1, fun j hj => ?_, fun j hj hl => ?_⟩
 ·
  by_cases hjk : k = j
  ·
   subst hjk
   rw [List.getElem?_set_self (by omega), hv]
  ·
   rw [List.getElem?_set_ne hjk]
   exact h2 j (by omega)
 ·
  rw [List.getElem?_set_ne (by omega)]
  exact h3 j (by omega) hl
theorem FillL.all (h : FillL z full full.length L) : L = full := by
 obtain ⟨h1, h2, h3⟩ := h
 apply List.ext_getElem?
 intro j
 by_cases hj : j < full.length
 ·
  exact h2 j hj
 ·
  rw [List.getElem?_eq_none (by omega), List.getElem?_eq_none (by omega)]
theorem set_zero_same {i : Nat} {x : α} (h : L[i]? = some x) : L.set i x = L := by
 obtain ⟨h1, h2⟩ := List.getElem?_eq_some_iff.1 h
 rw [← h2]
 exact List.set_getElem_self h1
theorem set_twice {i : Nat} {x y : α} : (L.set i x).set i y = L.set i y := List.set_set ..
theorem set_at {i : Nat} {x : α} (h : i < L.length) : (L.set i x)[i]? = some x := by rw [List.getElem?_set_self h]
end
end Go.Proofs.Ytbflhjjnemdecaa

namespace Go.Proofs.Ytbflhjjnemdecaa
set_option linter.unusedVariables false
set_option linter.unusedSimpArgs false
open Go.ChangeShapes Go.WideShapes Go.ChangeAt Go.RowKit Go.Sort
theorem App.freshN {α : Type} {f : α → D} {W w : World} {t : TypeId} {xs : List α} {n : Nat} {v : Value} (h : App W w t 1 n (xs.map f) v) (hn : xs.length = n) : Fresh W w (nestD f xs) v := by
 subst hn
 exact h.fresh
theorem App.sized {W w : World} {t : TypeId} {ds ds' : List D} {n n' : Nat} {v : Value} (h : App W w t 1 n ds v) (hd : ds = ds') (hn : n = n') : App W w t 1 n' ds' v := by
 subst hd hn
 exact h
end Go.Proofs.Ytbflhjjnemdecaa

namespace Go.Proofs.Ytbflhjjnemdecaa
set_option linter.unusedVariables false
set_option linter.unusedSimpArgs false
def segW (xs ys : List Int) (i k : Nat) : List (Nat × Nat) := (List.range (k - i)).map fun j => ((xs.getD (i + j) 0).toNat, (ys.getD (i + j) 0).toNat)
def atW (xs : List Int) (i : Nat) : Nat := (xs.getD i 0).toNat
section
variable (xs ys : List Int)
theorem segW_self (i : Nat) : segW xs ys i i = [] := by simp [segW]
theorem segW_length (i k : Nat) : (segW xs ys i k).length = k - i := by simp [segW]
theorem segW_succ {i k : Nat} (h : i ≤ k) : segW xs ys i (k + 1) = segW xs ys i k ++ [(atW xs k, (ys.getD k 0).toNat)] := by
 unfold segW atW
 rw [show k + 1 - i = (k - i) + 1 by omega, List.range_succ, List.map_append, List.map_cons, List.map_nil, show i + (k - i) = k by omega]
theorem segW_append {i j : Nat} (hij : i ≤ j) : ∀ {k : Nat}, j ≤ k → segW xs ys i k = segW xs ys i j ++ segW xs ys j k := by
 intro k
 induction k with
 | zero =>
  intro h
  obtain rfl : j = 0 := by omega
  rw [segW_self, List.append_nil]
 | succ k ih =>
  intro h
  by_cases hk : j = k + 1
  ·
   subst hk; rw [segW_self, List.append_nil]
  ·
   rw [segW_succ xs ys (by omega), segW_succ xs ys (by omega), ih (by omega), List.append_assoc]
theorem segW_one (i : Nat) : segW xs ys i (i + 1) = [(atW xs i, (ys.getD i 0).toNat)] := by rw [segW_succ xs ys (Nat.le_refl i), segW_self]; rfl
theorem hdA_seg {i k : Nat} (h : i ≤ k) : hdA (segW xs ys i k) (atW xs k) = atW xs i := by
 by_cases hk : i = k
 ·
  subst hk; rw [segW_self]; rfl
 ·
  rw [segW_append xs ys (show i ≤ i + 1 by omega) (show i + 1 ≤ k by omega), segW_one]; rfl
theorem segW_split {i k : Nat} (h : i ≤ k) {u v : List (Nat × Nat)} (e : segW xs ys i k = u ++ v) : ∃ j, i ≤ j ∧ j ≤ k ∧ u = segW xs ys i j ∧ v = segW xs ys j k := by
 have hl := congrArg List.length e
 rw [segW_length, List.length_append] at hl
 have h1 : i ≤ i + u.length := by omega
 have h2 : i + u.length ≤ k := by omega
 rw [segW_append xs ys h1 h2] at e
 obtain ⟨e1, e2⟩ := List.append_inj e (by rw [segW_length]; omega)
 exact ⟨i + u.length, h1, h2, e1.symm, e2.symm⟩
def spP (K : Lng) (i k : Nat) : Prop := i ≤ k ∧ K (segW xs ys i k) (atW xs k)
variable {xs ys}
theorem spP_sum {K L : Lng} {i k : Nat} : spP xs ys (sumG K L) i k ↔ spP xs ys K i k ∨ spP xs ys L i k := by
 unfold spP sumG
 constructor
 ·
  rintro ⟨h, h1 | h1⟩
  ·
   exact Or.inl ⟨h, h1⟩
  ·
   exact Or.inr ⟨h, h1⟩
 ·
  rintro (⟨h, h1⟩ | ⟨h, h1⟩)
  ·
   exact ⟨h, Or.inl h1⟩
  ·
   exact ⟨h, Or.inr h1⟩
theorem spP_dot {K L : Lng} {i k : Nat} : spP xs ys (dotG K L) i k ↔ ∃ j, i ≤ j ∧ j ≤ k ∧ spP xs ys K i j ∧ spP xs ys L j k := by
 constructor
 ·
  rintro ⟨h, u, v, e, h1, h2⟩
  obtain ⟨j, hj1, hj2, rfl, rfl⟩ := segW_split xs ys h e
  rw [hdA_seg xs ys hj2] at h1
  exact ⟨j, hj1, hj2, ⟨hj1, h1⟩, ⟨hj2, h2⟩⟩
 ·
  rintro ⟨j, hj1, hj2, ⟨-, h1⟩, ⟨-, h2⟩⟩
  exact ⟨by omega, segW xs ys i j, segW xs ys j k, segW_append xs ys hj1 hj2, by rw [hdA_seg xs ys hj2]; exact h1, h2⟩
theorem spP_one {i k : Nat} : spP xs ys oneG i k ↔ i = k := by
 unfold spP oneG
 constructor
 ·
  rintro ⟨h, e⟩
  have := congrArg List.length e
  rw [segW_length] at this
  simp at this
  omega
 ·
  rintro rfl
  exact ⟨Nat.le_refl _, segW_self _ _ _⟩
theorem spP_cnd {e : Ex} {i k : Nat} : spP xs ys (cndG e) i k ↔ i = k ∧ e.emp (atW xs k : Int) = true := by
 constructor
 ·
  rintro ⟨h, h1, h2⟩
  exact ⟨spP_one.1 ⟨h, h1⟩, h2⟩
 ·
  rintro ⟨rfl, h⟩
  exact ⟨Nat.le_refl _, segW_self _ _ _, h⟩
theorem spP_act {n : Int} {i k : Nat} : spP xs ys (actG n) i k ↔ k = i + 1 ∧ ((ys.getD i 0).toNat : Int) = n := by
 constructor
 ·
  rintro ⟨h, p, y, e, h1⟩
  have hl := congrArg List.length e
  rw [segW_length] at hl
  simp at hl
  obtain rfl : k = i + 1 := by omega
  rw [segW_one] at e
  simp only [List.cons.injEq, and_true, Prod.mk.injEq] at e
  rw [e.2]
  exact ⟨rfl, h1⟩
 ·
  rintro ⟨rfl, h⟩
  exact ⟨by omega, _, _, segW_one xs ys i, h⟩
theorem spP_star {K : Lng} {i k : Nat} : spP xs ys (StarG K) i k ↔ i = k ∨ ∃ j, i + 1 ≤ j ∧ j ≤ k ∧ spP xs ys K i j ∧ spP xs ys (StarG K) j k := by
 constructor
 ·
  rintro ⟨h, h1⟩
  by_cases hk : i = k
  ·
   exact Or.inl hk
  refine Or.inr ?_
  rw [segW_append xs ys (show i ≤ i + 1 by omega) (show i + 1 ≤ k by omega), segW_one] at h1
  obtain ⟨u, v, e, h2, h3⟩ := StarG.step.1 h1
  obtain ⟨j, hj1, hj2, rfl, rfl⟩ := segW_split xs ys (show i + 1 ≤ k by omega) e
  rw [hdA_seg xs ys hj2] at h2
  refine ⟨j, hj1, hj2, ⟨by omega, ?_⟩, ⟨hj2, h3⟩⟩
  rw [segW_append xs ys (show i ≤ i + 1 by omega) hj1, segW_one]
  exact h2
 ·
  rintro (rfl | ⟨j, hj1, hj2, ⟨-, h1⟩, ⟨-, h2⟩⟩)
  ·
   exact ⟨Nat.le_refl _, by rw [segW_self]; exact StarG.nil _⟩
  ·
   refine ⟨by omega, ?_⟩
   rw [segW_append xs ys (show i ≤ j by omega) hj2]
   exact StarG.cons _ _ _ (by rw [hdA_seg xs ys hj2]; exact h1) h2
theorem spP_star' {K : Lng} {i k : Nat} : spP xs ys (StarG K) i k ↔ i = k ∨ ∃ j, i ≤ j ∧ j < k ∧ spP xs ys (StarG K) i j ∧ spP xs ys K j k := by
 constructor
 ·
  intro h
  have key : ∀ (d i : Nat), k - i = d → spP xs ys (StarG K) i k → i = k ∨ ∃ j, i ≤ j ∧ j < k ∧ spP xs ys (StarG K) i j ∧ spP xs ys K j k := by
   intro d
   induction d using Nat.strongRecOn with
   | _ d ih =>
    intro i hd h
    rcases spP_star.1 h with h | ⟨j, h1, h2, h3, h4⟩
    ·
     exact Or.inl h
    ·
     rcases ih (k - j) (by omega) j rfl h4 with rfl | ⟨l, l1, l2, l3, l4⟩
     ·
      exact Or.inr ⟨i, Nat.le_refl _, by omega, spP_star.2 (Or.inl rfl), h3⟩
     ·
      exact Or.inr ⟨l, by omega, l2, spP_star.2 (Or.inr ⟨j, h1, by omega, h3, l3⟩), l4⟩
  exact key _ i rfl h
 ·
  rintro (rfl | ⟨j, h1, h2, ⟨-, h3⟩, ⟨-, h4⟩⟩)
  ·
   exact spP_star.2 (Or.inl rfl)
  ·
   refine ⟨by omega, ?_⟩
   rw [segW_append xs ys h1 (show j ≤ k by omega)]
   exact StarG.append (by rw [hdA_seg xs ys (show j ≤ k by omega)]; exact h3) (StarG.one h4)
end
noncomputable def spB (e : Ex) (xs ys : List Int) (i k : Nat) : Bool := @decide (spP xs ys e.lng i k) (Classical.propDecidable _)
theorem spB_iff {e : Ex} {xs ys : List Int} {i k : Nat} : spB e xs ys i k = true ↔ spP xs ys e.lng i k := by unfold spB; exact @decide_eq_true_iff _ (Classical.propDecidable _)
noncomputable def mtB (e : Ex) (xs ys : List Int) : Bool := spB e xs ys 0 ys.length
theorem getD_part {zs : List Int} {f n j : Nat} (h : j < n) : ((zs.drop f).take n).getD j 0 = zs.getD (f + j) 0 := by
 simp only [List.getD_eq_getElem?_getD, List.getElem?_take, if_pos h, List.getElem?_drop]
theorem segW_part {xs ys : List Int} {f t i k : Nat} (hk : f + k ≤ t) (hf : f ≤ t) : segW ((xs.drop f).take (t - f + 1)) ((ys.drop f).take (t - f)) i k = segW xs ys (f + i) (f + k) := by
 unfold segW
 rw [show f + k - (f + i) = k - i by omega]
 refine List.map_congr_left fun j hj => ?_
 have hj := List.mem_range.1 hj
 rw [getD_part (by omega), getD_part (by omega), Nat.add_assoc]
theorem spP_part {K : Lng} {xs ys : List Int} {f t i k : Nat} (hk : f + k ≤ t) (hf : f ≤ t) : spP ((xs.drop f).take (t - f + 1)) ((ys.drop f).take (t - f)) K i k ↔ spP xs ys K (f + i) (f + k) := by
 unfold spP
 rw [segW_part hk hf]
 unfold atW
 rw [getD_part (by omega)]
 constructor
 ·
  rintro ⟨h1, h2⟩; exact ⟨by omega, h2⟩
 ·
  rintro ⟨h1, h2⟩; exact ⟨by omega, h2⟩
section
variable {xs ys : List Int} {i k : Nat}
theorem spB_sum {n : Int} {a b : Ex} : spB (.mk 6 n [a, b]) xs ys i k = (spB a xs ys i k || spB b xs ys i k) := by
 rw [Bool.eq_iff_iff, Bool.or_eq_true, spB_iff, spB_iff, spB_iff, Ex.lng_sum]
 exact spP_sum
theorem spB_dot {n : Int} {a b : Ex} : spB (.mk 7 n [a, b]) xs ys i k = true ↔ ∃ j, i ≤ j ∧ j ≤ k ∧ spB a xs ys i j = true ∧ spB b xs ys j k = true := by
 simp only [spB_iff, Ex.lng_dot]
 exact spP_dot
theorem spB_star {n : Int} {a : Ex} : spB (.mk 8 n [a]) xs ys i k = true ↔ i = k ∨ ∃ j, i + 1 ≤ j ∧ j ≤ k ∧ spB a xs ys i j = true ∧ spB (.mk 8 n [a]) xs ys j k = true := by
 simp only [spB_iff, Ex.lng_star]
 exact spP_star
theorem spB_star' {n : Int} {a : Ex} : spB (.mk 8 n [a]) xs ys i k = true ↔ i = k ∨ ∃ j, i ≤ j ∧ j < k ∧ spB (.mk 8 n [a]) xs ys i j = true ∧ spB a xs ys j k = true := by
 simp only [spB_iff, Ex.lng_star]
 exact spP_star'
theorem spB_act {n : Int} {ks : List Ex} : spB (.mk 4 n ks) xs ys i k = true ↔ k = i + 1 ∧ ((ys.getD i 0).toNat : Int) = n := by
 rw [spB_iff, Ex.lng_act]
 exact spP_act
theorem spB_else {q n : Int} {ks : List Ex} (h4 : q ≠ 4) (h6 : q ≠ 6) (h7 : q ≠ 7) (h8 : q ≠ 8) : spB (.mk q n ks) xs ys i k = true ↔ i = k ∧ (Ex.mk q n ks).emp (atW xs k : Int) = true := by
 rw [spB_iff, Ex.lng_else h4 h6 h7 h8]
 exact spP_cnd
end
end Go.Proofs.Ytbflhjjnemdecaa

namespace Go.Proofs.Ytbflhjjnemdecaa
set_option linter.unusedVariables false
set_option linter.unusedSimpArgs false
open Go.ChangeShapes Go.WideShapes Go.ChangeAt Go.RowKit Go.Deep
def prX (xs : List Int) (f t : Nat) : List Int := (xs.drop f).take (t - f + 1)
def prY (ys : List Int) (f t : Nat) : List Int := (ys.drop f).take (t - f)
structure WOk (xs ys : List Int) : Prop where
 len : xs.length = ys.length + 1
 short : ys.length ≤ 10
 atoms : ∀ x ∈ xs, 0 ≤ x ∧ x ≤ 7
 acts : ∀ y ∈ ys, 0 ≤ y ∧ y ≤ 7
section
variable {xs ys : List Int}
theorem WOk.atom (h : WOk xs ys) {i : Nat} (hi : i ≤ ys.length) : ∃ x, xs[i]? = some x ∧ 0 ≤ x ∧ x ≤ 7 ∧ (atW xs i : Int) = x := by
 have hl := h.len
 have hx : xs[i]? = some xs[i] := List.getElem?_eq_getElem (by omega)
 obtain ⟨h0, h7⟩ := h.atoms _ (List.mem_iff_getElem?.2 ⟨i, hx⟩)
 refine ⟨_, hx, h0, h7, ?_⟩
 unfold atW
 rw [List.getD_eq_getElem?_getD, hx]
 exact Int.toNat_of_nonneg h0
theorem WOk.act (h : WOk xs ys) {i : Nat} (hi : i < ys.length) : ∃ y, ys[i]? = some y ∧ 0 ≤ y ∧ y ≤ 7 ∧ ((ys.getD i 0).toNat : Int) = y := by
 have hy : ys[i]? = some ys[i] := List.getElem?_eq_getElem hi
 obtain ⟨h0, h7⟩ := h.acts _ (List.mem_iff_getElem?.2 ⟨i, hy⟩)
 refine ⟨_, hy, h0, h7, ?_⟩
 rw [List.getD_eq_getElem?_getD, hy]
 exact Int.toNat_of_nonneg h0
theorem prX_len {f t : Nat} (hft : f ≤ t) (ht : t < xs.length) : (prX xs f t).length = t - f + 1 := by unfold prX; simp; omega
theorem prY_len {f t : Nat} (ht : t ≤ ys.length) : (prY ys f t).length = t - f := by unfold prY; simp; omega
theorem WOk.part (h : WOk xs ys) {f t : Nat} (hft : f ≤ t) (ht : t ≤ ys.length) : WOk (prX xs f t) (prY ys f t) :=
 ⟨by rw [prX_len hft (by rw [h.len]; omega), prY_len ht], by rw [prY_len ht]; have := h.short; omega,
  fun x hx => h.atoms x (List.mem_of_mem_drop (List.mem_of_mem_take hx)), fun y hy => h.acts y (List.mem_of_mem_drop (List.mem_of_mem_take hy))⟩
theorem mtB_part {e : Ex} {f t : Nat} (hft : f ≤ t) (ht : t ≤ ys.length) : mtB e (prX xs f t) (prY ys f t) = spB e xs ys f t := by
 unfold mtB
 rw [prY_len ht, Bool.eq_iff_iff, spB_iff, spB_iff]
 have := spP_part (K := e.lng) (xs := xs) (ys := ys) (f := f) (t := t) (i := 0) (k := t - f) (by omega) hft
 rw [show f + (t - f) = t by omega, Nat.add_zero] at this
 exact this
theorem mtB_whole {e : Ex} : mtB e xs ys = spB e xs ys 0 ys.length := rfl
theorem mt_act {n : Int} {ks : List Ex} (h : WOk xs ys) : mtB (.mk 4 n ks) xs ys = (decide (ys.length = 1) && (ys.getD 0 0 == n)) := by
 rw [mtB_whole, Bool.eq_iff_iff, spB_act, Bool.and_eq_true, decide_eq_true_eq, beq_iff_eq]
 constructor
 ·
  rintro ⟨h1, h2⟩
  obtain ⟨y, hy, _, _, e⟩ := h.act (i := 0) (by omega)
  refine ⟨by omega, ?_⟩
  rw [← h2, e, List.getD_eq_getElem?_getD, hy]
  rfl
 ·
  rintro ⟨h1, h2⟩
  obtain ⟨y, hy, _, _, e⟩ := h.act (i := 0) (by omega)
  refine ⟨by omega, ?_⟩
  rw [e, ← h2, List.getD_eq_getElem?_getD, hy]
  rfl
theorem mt_else {q n : Int} {ks : List Ex} (hq : q = 1 ∨ q = 2 ∨ q = 3 ∨ q = 5) (h : WOk xs ys) {x : Int} (hx : xs[0]? = some x) : mtB (.mk q n ks) xs ys = (decide (ys.length = 0) && Ex.tru x (.mk q n ks)) := by
 obtain ⟨x', hx', h0, h7, e⟩ := h.atom (i := 0) (Nat.zero_le _)
 rw [hx] at hx'
 obtain rfl := Option.some.inj hx'
 rw [mtB_whole, Bool.eq_iff_iff, spB_else (by omega) (by omega) (by omega) (by omega), Bool.and_eq_true, decide_eq_true_eq]
 have ee : (Ex.mk q n ks).emp x = (Ex.mk q n ks).tru x := by
  rcases hq with rfl | rfl | rfl | rfl <;> simp [Ex.emp, empC, Ex.tru, truC]
 constructor
 ·
  rintro ⟨h1, h2⟩
  rw [← h1, e, ee] at h2
  exact ⟨h1.symm, h2⟩
 ·
  rintro ⟨h1, h2⟩
  refine ⟨h1.symm, ?_⟩
  rw [h1, e, ee]
  exact h2
noncomputable def dotTo (a b : Ex) (xs ys : List Int) (i k m : Nat) : Bool := (List.range m).any fun j => decide (i ≤ j) && (spB a xs ys i j && spB b xs ys j k)
theorem dotTo_succ {a b : Ex} {i k m : Nat} : dotTo a b xs ys i k (m + 1) = (dotTo a b xs ys i k m || (decide (i ≤ m) && (spB a xs ys i m && spB b xs ys m k))) := by
 unfold dotTo
 rw [List.range_succ, List.any_append]
 simp
theorem dotTo_zero {a b : Ex} {i k m : Nat} (hm : m ≤ i) : dotTo a b xs ys i k m = false := by
 unfold dotTo
 rw [List.any_eq_false]
 intro j hj
 have := List.mem_range.1 hj
 have e : decide (i ≤ j) = false := by simp; omega
 rw [e]
 simp
theorem dotTo_all {n : Int} {a b : Ex} {i k : Nat} : dotTo a b xs ys i k (k + 1) = spB (.mk 7 n [a, b]) xs ys i k := by
 rw [Bool.eq_iff_iff, spB_dot]
 unfold dotTo
 rw [List.any_eq_true]
 constructor
 ·
  rintro ⟨j, hj, h⟩
  simp only [Bool.and_eq_true, decide_eq_true_eq] at h
  exact ⟨j, h.1, by have := List.mem_range.1 hj; omega, h.2.1, h.2.2⟩
 ·
  rintro ⟨j, h1, h2, h3, h4⟩
  exact ⟨j, List.mem_range.2 (by omega), by simp [h1, h3, h4]⟩
noncomputable def bakTo (a : Ex) (xs ys : List Int) (k m : Nat) : Bool := (List.range m).any fun j => spB (.mk 8 0 [a]) xs ys 0 j && spB a xs ys j k
theorem bakTo_succ {a : Ex} {k m : Nat} : bakTo a xs ys k (m + 1) = (bakTo a xs ys k m || (spB (.mk 8 0 [a]) xs ys 0 m && spB a xs ys m k)) := by
 unfold bakTo
 rw [List.range_succ, List.any_append]
 simp
theorem bakTo_zero {a : Ex} {k : Nat} : bakTo a xs ys k 0 = false := rfl
theorem bakTo_more {a : Ex} {k m m' : Nat} (h : bakTo a xs ys k m = true) (hm : m ≤ m') : bakTo a xs ys k m' = true := by
 unfold bakTo at h ⊢
 rw [List.any_eq_true] at h ⊢
 obtain ⟨j, hj, h⟩ := h
 exact ⟨j, List.mem_range.2 (by have := List.mem_range.1 hj; omega), h⟩
theorem bakTo_all {a : Ex} {k : Nat} (hk : 1 ≤ k) : bakTo a xs ys k k = spB (.mk 8 0 [a]) xs ys 0 k := by
 rw [Bool.eq_iff_iff, spB_star']
 unfold bakTo
 rw [List.any_eq_true]
 constructor
 ·
  rintro ⟨j, hj, h⟩
  simp only [Bool.and_eq_true] at h
  exact Or.inr ⟨j, Nat.zero_le _, List.mem_range.1 hj, h.1, h.2⟩
 ·
  rintro (h | ⟨j, _, h2, h3, h4⟩)
  ·
   omega
  ·
   exact ⟨j, List.mem_range.2 h2, by simp [h3, h4]⟩
theorem spB_star_zero {a : Ex} {n : Int} {i : Nat} : spB (.mk 8 n [a]) xs ys i i = true := spB_star.2 (Or.inl rfl)
theorem spB_star_num {a : Ex} {n n' : Int} {i k : Nat} : spB (.mk 8 n [a]) xs ys i k = spB (.mk 8 n' [a]) xs ys i k := by
 rw [Bool.eq_iff_iff, spB_iff, spB_iff, Ex.lng_star, Ex.lng_star]
noncomputable def bakL (a : Ex) (xs ys : List Int) : List Bool := (List.range (ys.length + 1)).map fun k => spB (.mk 8 0 [a]) xs ys 0 k
theorem bakL_len {a : Ex} : (bakL a xs ys).length = ys.length + 1 := by simp [bakL]
theorem bakL_at {a : Ex} {k : Nat} (hk : k ≤ ys.length) : (bakL a xs ys)[k]? = some (spB (.mk 8 0 [a]) xs ys 0 k) := by unfold bakL; rw [List.getElem?_map, List.getElem?_range (by omega)]; rfl
noncomputable def frtTo (a : Ex) (xs ys : List Int) (i k m : Nat) : Bool := decide (i = k) || (List.range m).any fun j => decide (i + 1 ≤ j) && (spB a xs ys i j && spB (.mk 8 0 [a]) xs ys j k)
theorem frtTo_succ {a : Ex} {i k m : Nat} : frtTo a xs ys i k (m + 1) = (frtTo a xs ys i k m || (decide (i + 1 ≤ m) && (spB a xs ys i m && spB (.mk 8 0 [a]) xs ys m k))) := by
 unfold frtTo
 rw [List.range_succ, List.any_append, Bool.or_assoc]
 simp
theorem frtTo_zero {a : Ex} {i k m : Nat} (hm : m ≤ i + 1) : frtTo a xs ys i k m = decide (i = k) := by
 have e : ((List.range m).any fun j => decide (i + 1 ≤ j) && (spB a xs ys i j && spB (.mk 8 0 [a]) xs ys j k)) = false := by
  rw [List.any_eq_false]
  intro j hj
  have := List.mem_range.1 hj
  have e : decide (i + 1 ≤ j) = false := by simp; omega
  rw [e]
  simp
 unfold frtTo
 rw [e, Bool.or_false]
theorem frtTo_all {a : Ex} {i k : Nat} : frtTo a xs ys i k (k + 1) = spB (.mk 8 0 [a]) xs ys i k := by
 rw [Bool.eq_iff_iff, spB_star]
 unfold frtTo
 rw [Bool.or_eq_true, decide_eq_true_eq, List.any_eq_true]
 constructor
 ·
  rintro (h | ⟨j, hj, h⟩)
  ·
   exact Or.inl h
  ·
   simp only [Bool.and_eq_true, decide_eq_true_eq] at h
   exact Or.inr ⟨j, h.1, by have := List.mem_range.1 hj; omega, h.2.1, h.2.2⟩
 ·
  rintro (h | ⟨j, h1, h2, h3, h4⟩)
  ·
   exact Or.inl h
  ·
   exact Or.inr ⟨j, List.mem_range.2 (by omega), by simp [h1, h3, h4]⟩
end
end Go.Proofs.Ytbflhjjnemdecaa

namespace Go.Proofs.Ytbflhjjnemdecaa
set_option linter.unusedVariables false
set_option linter.unusedSimpArgs false
open Go.ChangeShapes Go.WideShapes Go.ChangeAt Go.RowKit Go.Deep
def rowOf (n : Nat) (f : Nat → Bool) : List Bool := (List.range n).map f
def sqL (n : Nat) (M : Nat → Nat → Bool) : List (List Bool) := (List.range n).map fun i => rowOf n (M i)
def updM (M : Nat → Nat → Bool) (i k : Nat) (v : Bool) : Nat → Nat → Bool := fun a b => if a = i ∧ b = k then v else M a b
theorem rowOf_len (n : Nat) (f : Nat → Bool) : (rowOf n f).length = n := by simp [rowOf]
theorem sqL_len (n : Nat) (M : Nat → Nat → Bool) : (sqL n M).length = n := by simp [sqL]
theorem rowOf_at {n : Nat} {f : Nat → Bool} {k : Nat} (h : k < n) : (rowOf n f)[k]? = some (f k) := by unfold rowOf; rw [List.getElem?_map, List.getElem?_range h]; rfl
theorem sqL_at {n : Nat} {M : Nat → Nat → Bool} {i : Nat} (h : i < n) : (sqL n M)[i]? = some (rowOf n (M i)) := by unfold sqL; rw [List.getElem?_map, List.getElem?_range h]; rfl
theorem rowOf_congr {n : Nat} {f g : Nat → Bool} (h : ∀ k, k < n → f k = g k) : rowOf n f = rowOf n g := List.map_congr_left fun k hk => h k (List.mem_range.1 hk)
theorem rowOf_set {n : Nat} {M : Nat → Nat → Bool} {i k : Nat} {v : Bool} : (rowOf n (M i)).set k v = rowOf n (updM M i k v i) := by
 apply List.ext_getElem?
 intro j
 by_cases hj : j < n
 ·
  rw [rowOf_at hj]
  unfold updM
  by_cases hk : k = j
  ·
   subst hk
   rw [List.getElem?_set_self (by rw [rowOf_len]; exact hj), if_pos ⟨rfl, rfl⟩]
  ·
   rw [List.getElem?_set_ne hk, rowOf_at hj, if_neg (fun e => hk e.2.symm)]
 ·
  rw [List.getElem?_eq_none (by rw [List.length_set, rowOf_len]; omega), List.getElem?_eq_none (by rw [rowOf_len]; omega)]
theorem rowOf_other {n : Nat} {M : Nat → Nat → Bool} {i a k : Nat} {v : Bool} (h : a ≠ i) : rowOf n (updM M i k v a) = rowOf n (M a) := rowOf_congr fun b _ => by unfold updM; rw [if_neg fun e => h e.1]
theorem updM_self {M : Nat → Nat → Bool} {i k : Nat} {v : Bool} : updM M i k v i k = v := by unfold updM; rw [if_pos ⟨rfl, rfl⟩]
theorem updM_ne {M : Nat → Nat → Bool} {i k a b : Nat} {v : Bool} (h : a ≠ i ∨ b ≠ k) : updM M i k v a b = M a b := by unfold updM; rw [if_neg fun e => by rcases h with h | h; exact h e.1; exact h e.2]
theorem rowOf_const (n : Nat) (v : Bool) : rowOf n (fun _ => v) = List.replicate n v := by
 apply List.ext_getElem?
 intro j
 by_cases hj : j < n
 ·
  rw [rowOf_at hj]; simp [hj]
 ·
  rw [List.getElem?_eq_none (by rw [rowOf_len]; omega), List.getElem?_eq_none (by simp; omega)]
theorem ows_rows {w : World} {f : Nat → D} {v : Nat → Value} : ∀ (gs : List Nat) (o : Nat), (∀ i x, gs[i]? = some x → Ow w (f (o + i)) (v x) [x]) → Ows w ((List.range' o gs.length).map f) (gs.map v) gs
 | [], o, _ => Ows.nil
 | x :: r, o, h => by
  simp only [List.length_cons, List.range'_succ, List.map_cons]
  exact Ows.cons (F := [x]) (h 0 x rfl) (ows_rows r (o + 1) fun i y hy => by
   have := h (i + 1) y hy
   rwa [show o + (i + 1) = o + 1 + i by omega] at this)
theorem bools_ows {w : World} : ∀ L : List Bool, Ows w (L.map D.bool) (L.map Value.bool) []
 | [] => Ows.nil
 | x :: r => Ows.cons (F := []) (Ow.bool x) (bools_ows r)
theorem row_ow {w : World} {x t n : Nat} {L : List Bool} (h : Blk w x t (L.map Value.bool)) (hn : L.length = n) (hm : n ≤ maxLen) : Ow w (boolsD L) (.slice (some ⟨x, 0, none⟩) n n) [x] := by
 subst hn
 simp only [boolsD, nestD, Ow]
 exact ⟨_, _, rfl, Nat.le_refl _, hm, by simp, by simp, Or.inr ⟨x, 0, L.map Value.bool, [], rfl, rfl, h.free, h.row (List.take_length ..), bools_ows L⟩⟩
structure SpW (B n g : Nat) (gs : List Nat) (M : Nat → Nat → Bool) (w : World) : Prop where
 blk : Blk w g 114 (gs.map fun x => .slice (some ⟨x, 0, none⟩) n n)
 len : gs.length = n
 row : ∀ (i x : Nat), gs[i]? = some x → Blk w x 4 ((rowOf n (M i)).map Value.bool)
 sep : gs.Nodup
 own : B ≤ g ∧ ∀ x ∈ gs, B ≤ x ∧ x ≠ g
section
variable {B n g : Nat} {gs : List Nat} {M : Nat → Nat → Bool} {w : World}
theorem SpW.cells (h : SpW B n g gs M w) {i k : Nat} (hi : i < n) (hk : k < n) : ∃ x, gs[i]? = some x ∧ w.cell? ⟨g, i, none⟩ = some (.slice (some ⟨x, 0, none⟩) n n) ∧ w.cell? ⟨x, k, none⟩ = some (.bool (M i k)) ∧ w.frozen? ⟨x, k, none⟩ = false ∧ x < w.heap.size ∧ g < w.heap.size ∧ B ≤ x ∧ x ≠ g := by
 have hil : i < gs.length := by rw [h.len]; exact hi
 have hx : gs[i]? = some gs[i] := List.getElem?_eq_getElem hil
 obtain ⟨q1, q2⟩ := h.own.2 _ (List.mem_of_getElem? hx)
 refine ⟨_, hx, ?_, ?_, (h.row _ _ hx).frozen k, (h.row _ _ hx).lt, h.blk.lt, q1, q2⟩
 ·
  rw [h.blk.cell, List.getElem?_map, hx]; rfl
 ·
  rw [(h.row _ _ hx).cell, List.getElem?_map, rowOf_at hk]; rfl
theorem SpW.set (h : SpW B n g gs M w) {i k x : Nat} (hx : gs[i]? = some x) (v : Bool) : SpW B n g gs (updM M i k v) (w.setCell ⟨x, k, none⟩ (.bool v)) := by
 have hxm := h.own.2 _ (List.mem_of_getElem? hx)
 refine ⟨h.blk.other (p := ⟨x, k, none⟩) (fun e => hxm.2 e.symm) _, h.len, fun j y hy => ?_, h.sep, h.own⟩
 by_cases hij : j = i
 ·
  subst hij
  rw [hx] at hy
  obtain rfl := Option.some.inj hy
  rw [← rowOf_set]
  exact arr_set (h.row _ _ hx) k v
 ·
  rw [rowOf_other hij]
  refine (h.row _ _ hy).other (p := ⟨x, k, none⟩) (fun e => hij ?_) _
  have e' : y = x := e
  rw [e'] at hy
  have h1 := (List.getElem?_eq_some_iff.1 hy).1
  exact (List.getElem?_inj h1 h.sep).1 (hy.trans hx.symm)
theorem SpW.keep (h : SpW B n g gs M w) {w' : World} (hk : ∀ b, B ≤ b → b < w.heap.size → w'.heap[b]? = w.heap[b]?) : SpW B n g gs M w' :=
 ⟨h.blk.keep (hk _ h.own.1 h.blk.lt), h.len, fun i x hx => (h.row i x hx).keep (hk _ (h.own.2 _ (List.mem_of_getElem? hx)).1 (h.row i x hx).lt), h.sep, h.own⟩
theorem SpW.below (h : SpW B n g gs M w) {w' : World} (hb : Below w.heap.size w w') : SpW B n g gs M w' := h.keep fun b _ hl => hb.block b hl
theorem SpW.congr (h : SpW B n g gs M w) {K : Nat → Nat → Bool} (e : ∀ i k, i < n → k < n → M i k = K i k) : SpW B n g gs K w :=
 ⟨h.blk, h.len, fun i x hx => by
  have hi : i < n := by have := (List.getElem?_eq_some_iff.1 hx).1; rw [h.len] at this; exact this
  rw [← rowOf_congr (fun k hk => e i k hi hk)]; exact h.row i x hx, h.sep, h.own⟩
theorem SpW.fresh (h : SpW B n g gs M w) {W : World} (hW : W.heap.size ≤ B) (hn : 1 ≤ n) (hm : n ≤ maxLen) : Fresh W w (nestD boolsD (sqL n M)) (.slice (some ⟨g, 0, none⟩) n n) := by
 have hows : Ows w ((sqL n M).map boolsD) (gs.map fun x => .slice (some ⟨x, 0, none⟩) n n) gs := by
  have := ows_rows (w := w) (f := fun i => boolsD (rowOf n (M i))) (v := fun x => .slice (some ⟨x, 0, none⟩) n n) gs 0 (fun i x hx => by
   rw [Nat.zero_add]
   exact row_ow (h.row i x hx) (rowOf_len _ _) hm)
  rw [h.len, ← List.range_eq_range'] at this
  unfold sqL
  rw [List.map_map]
  exact this
 refine ⟨g :: gs, ?_, ?_, ?_⟩
 ·
  simp only [nestD, Ow]
  rw [sqL_len]
  exact ⟨_, _, rfl, Nat.le_refl _, hm, by rw [List.length_map, sqL_len, Nat.mul_one], by simp, Or.inr ⟨g, 0, _, gs, rfl, rfl, h.blk.free, h.blk.row (List.take_length ..), hows⟩⟩
 ·
  exact List.nodup_cons.2 ⟨fun hg => (h.own.2 g hg).2 rfl, h.sep⟩
 ·
  intro b hb
  rcases List.mem_cons.1 hb with rfl | hb
  ·
   have := h.own.1; omega
  ·
   have := (h.own.2 b hb).1; omega
end
end Go.Proofs.Ytbflhjjnemdecaa
