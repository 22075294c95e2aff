/-
  Parts of a proof, joined: SpSum. No condition.
-/
import Derived.Test.YtcokljhamhgelaaGreatDoorPk13
import Derived.Test.YtcokljhamhgelaaGreatDoorPk16
namespace Go.Proofs.YtcokljhamhgelaaGreatDoor
set_option linter.unusedVariables false
set_option linter.unusedSimpArgs false
open Go.ChangeShapes Go.WideShapes Go.ChangeAt Go.RowKit Go.Deep Go.Sort
def slB : Value → Nat
 | .slice (some a) _ _ => a.block
 | _ => 0
def zero3 : List Value := [.int .i64 0, .int .i64 0, .slice none 0 0]
theorem zero3_one : ∀ u ∈ zero3, u.oneCell' = true := by
 intro u hu
 simp [zero3] at hu
 rcases hu with rfl | rfl | rfl <;> rfl
theorem Blk.mid {w : World} {g t k : Nat} {a rest : List Value} {x y z : Value} (h : Blk w g t (a ++ [x, y, z] ++ rest)) (hl : a.length = k) :
  w.cell? ⟨g, k, none⟩ = some x ∧ w.cell? ⟨g, k + 1, none⟩ = some y ∧ w.cell? ⟨g, k + 2, none⟩ = some z := by
 subst hl
 rw [List.append_assoc] at h
 refine ⟨?_, ?_, ?_⟩
 ·
  rw [h.cell, List.getElem?_append_right (Nat.le_refl _)]; simp
 ·
  rw [h.cell, List.getElem?_append_right (by omega)]; simp
 ·
  rw [h.cell, List.getElem?_append_right (by omega)]; simp
theorem Blk.mid_set {w : World} {g t k : Nat} {a rest : List Value} {x y z u v q : Value} (h : Blk w g t (a ++ [x, y, z] ++ rest)) (hl : a.length = k) :
  Blk (((w.setCell ⟨g, k, none⟩ u).setCell ⟨g, k + 1, none⟩ v).setCell ⟨g, k + 2, none⟩ q) g t (a ++ [u, v, q] ++ rest) := by
 subst hl
 have := ((h.set a.length u).set (a.length + 1) v).set (a.length + 2) q
 rw [List.append_assoc] at this ⊢
 rw [List.set_append_right _ _ (Nat.le_refl _), List.set_append_right _ _ (by omega), List.set_append_right _ _ (by omega)] at this
 simpa using this
theorem AppS.turn {S : Nat → Prop} {w : World} {t size n g c : Nat} {us : List Value} (h : AppS S w t size n (us.map D.raw) (.slice (some ⟨g, 0, none⟩) n c)) :
  ∃ rest, Blk w g t (us ++ rest) ∧ ∀ (w' : World) (vs : List Value), vs.length = us.length → (∀ u ∈ vs, u.oneCell' = true) → Blk w' g t (vs ++ rest) → AppS S w' t size n (vs.map D.raw) (.slice (some ⟨g, 0, none⟩) n c) := by
 obtain ⟨xs, F, h1, h2, h3, h4, h5⟩ := h
 have hx := Rds.raws h2.rds
 subst hx
 have hl : xs.length = n * size := h1.1
 rcases h1.2 with ⟨h, -⟩ | ⟨g', cap, cur, e, -, hb, k1, k2, k3, k4⟩
 ·
  simp at h
 ·
  simp only [Value.slice.injEq, Option.some.injEq, Addr.mk.injEq, and_true, true_and] at e
  obtain ⟨rfl, rfl⟩ := e
  have e1 : cur.toList = xs ++ cur.toList.drop xs.length := by
   conv => lhs; rw [← List.take_append_drop xs.length cur.toList]
   congr 1
   rw [hl]
   exact k4
  refine ⟨cur.toList.drop xs.length, by rw [← e1]; simpa [Blk] using hb, fun w' vs hv ho hb' => ?_⟩
  refine ⟨vs, [], ⟨hv.trans hl, Or.inr ⟨g, c, (vs ++ cur.toList.drop xs.length).toArray, rfl, Nat.zero_le _, hb', k1, k2, ?_, ?_⟩⟩, Ows.raws ho, by simp, by simp, h5⟩
  ·
   have q := congrArg List.length e1
   have q3 : cur.toList.length = c * size := by simpa using k3
   rw [List.length_append] at q
   rw [List.size_toArray, List.length_append, hv]
   omega
  ·
   rw [show n * size = vs.length by omega]
   simp
def AtX (X : Nat → Prop) (w : World) (b o : Nat) (e : Ex) : Prop := b < w.heap.size ∧ ¬ X b ∧ ∃ s c, K1 w b o e s c ∧ ExX X w e s c
theorem AtX.keep {X : Nat → Prop} {w w' : World} {b o : Nat} {e : Ex} (h : AtX X w b o e) (k : KeptX X w w') : AtX X w' b o e := by
 obtain ⟨h1, h2, s, c, h3, h4⟩ := h
 exact ⟨Nat.lt_of_lt_of_le h1 k.1, h2, s, c, h3.keep (k.2 b h1 h2), h4.keep k⟩
theorem AtX.less {X Y : Nat → Prop} {w : World} {b o : Nat} {e : Ex} (h : AtX X w b o e) (hs : ∀ b, b < w.heap.size → Y b → X b) : AtX Y w b o e := by
 obtain ⟨h1, h2, s, c, h3, h4⟩ := h
 exact ⟨h1, fun hy => h2 (hs b h1 hy), s, c, h3, h4.less hs⟩
theorem AtX.at {X : Nat → Prop} {w : World} {b o : Nat} {e : Ex} (h : AtX X w b o e) : ExAt w b o e := by
 obtain ⟨h1, h2, s, c, ⟨k0, k1, k2⟩, h4⟩ := h
 exact ⟨k0, k1, s, c, k2, h4.rd⟩
theorem AtX.kid01 {X : Nat → Prop} {w : World} {b o : Nat} {k n : Int} {u v : Ex} (h : AtX X w b o (.mk k n [u, v])) : b < w.heap.size ∧ ¬ X b ∧ ∃ kb ko c, K1 w b o (.mk k n [u, v]) (some ⟨kb, ko, none⟩) c ∧ 2 ≤ c ∧ c ≤ maxLen ∧ kb < w.heap.size ∧ ¬ X kb ∧ AtX X w kb ko u ∧ AtX X w kb (ko + 3) v := by
 obtain ⟨h1, h2, s, c, h3, h4⟩ := h
 obtain ⟨kb, ko, sx, cx, rfl, e1, e2, e3, e4, e5, e6, e7⟩ := kidX0 (r := [v]) h4
 obtain ⟨sv, cv, k6, k7⟩ := kidX1 (r := []) h4
 exact ⟨h1, h2, kb, ko, c, h3, e2, e3, e4, e5, ⟨e4, e5, sx, cx, e6, e7⟩, ⟨e4, e5, sv, cv, k6, k7⟩⟩
set_option maxRecDepth 100000 in
set_option maxHeartbeats 8000000 in
theorem l02Summands_all (tm am : Int) (N : Nat) : ∀ (e : Ex) (b o ob : Nat) (X S : Nat → Prop) (v : Value) (L : List Sh) (w0 w : World), e.size ≤ N → KeptX X w0 w → (∀ q, X q → q < w.heap.size) → (∀ q, S q → X q) → X ob → ¬ S ob → AtX X w0 b o e → e.tree tm am = true →
  L.length + e.size ≤ 1000000 → ShX X w0 L → Blk w ob 32 [v] → AppS S w 34 3 L.length (shD L) v →
  Calls Tryz.prog 82 #[.pointer (some ⟨b, o, none⟩), .pointer (some ⟨ob, 0, none⟩)] w fun f w' => f = .returned (.tuple #[]) ∧ ∃ v' L', ((L ++ L').map Sh.e = growL (L.map Sh.e) (e.summ.map some) ∧ ShX X w0 L') ∧
   Blk w' ob 32 [v'] ∧ AppS (fun q => S q ∨ (w.heap.size ≤ q ∧ q < w'.heap.size)) w' 34 3 (L ++ L').length (shD (L ++ L')) v' ∧ Spares (fun q => S q ∨ q = ob) w w' := by
 induction N using Nat.strongRecOn with
 | _ N ih =>
 intro e b o ob X S v L w0 w hN h0 hX hSX hXo hnS he ht hlen hLX hO hV
 have HIH := Lib.hid ih
 clear ih
 obtain ⟨k, n, ks⟩ := e
 by_cases h1 : k = 1
 ·
  subst h1
  obtain ⟨hb0, hbX, s, c, ⟨k0, k1, k2⟩, -⟩ := he
  have hb1 := h0.2 b hb0 hbX
  have k0' := (World.cell?_of_block (w := w0) (w' := w) (a := ⟨b, o, none⟩) hb1).trans k0
  rw [Ex.kind_mk] at k0'
  go_enter Tryz.func82, Tryz.ntmps82
  go_wp2_with fail
  (first | refine bodyPost_ret (v := .tuple #[]) (by simp [results, Tryz.results82, go_sem]) rfl ?_ | refine bodyPost_end (v := .tuple #[]) (by simp [results, Tryz.results82, go_sem]) rfl ?_)
  exact ⟨rfl, v, [], ⟨by rw [Ex.summ_zero]; simp [growL], ShX.nil⟩, hO, by simpa using hV.more fun b _ h => Or.inl h, Spares.refl _⟩
 have c1 : (k == 1) = false := by simp [h1]
 by_cases h6 : k = 6
 ·
  subst h6
  obtain ⟨hk, -, -, htl⟩ := tree_parts ht
  obtain ⟨u, z, rfl⟩ := two_kids hk (by omega)
  have hsum : Hid ((Ex.mk 6 n [u, z]).summ = u.summ ++ z.summ) := by show _ = _; exact Ex.summ_sum
  have hsz := Ex.size_eq (.mk 6 n [u, z])
  simp only [Ex.sizeL, Ex.kids_mk] at hsz
  have hut : u.tree tm am = true := Ex.treeL_mem htl (by simp)
  have hzt : z.tree tm am = true := Ex.treeL_mem htl (by simp)
  obtain ⟨hb0, hbX, kb, ko, c, kk0, hc1, hc2, hkb, hkX, hu, hz⟩ := he.kid01
  obtain ⟨q0, q1, q2⟩ := kk0.keep (h0.2 b hb0 hbX)
  rw [Ex.kind_mk] at q0
  simp only [Ex.kids_mk, List.length_cons, List.length_nil, Nat.zero_add, Nat.reduceAdd] at q2
  unfold maxLen at hc2
  have HQ : ∀ w' : World, Hid (w'.heap[b]? = w.heap[b]? → w'.cell? ⟨b, o, none⟩ = some (.int .i64 6) ∧ w'.cell? ⟨b, o + 2, none⟩ = some (.slice (some ⟨kb, ko, none⟩) 2 c)) := fun w' h =>
   ⟨(World.cell?_of_block (w := w) (w' := w') (a := ⟨b, o, none⟩) h).trans q0, (World.cell?_of_block (w := w) (w' := w') (a := ⟨b, o + 2, none⟩) h).trans q2⟩
  go_enter Tryz.func82, Tryz.ntmps82
  go_wp2_with fail
  refine (HIH.out u.size (by omega) u kb ko ob X S v L w0 w (Nat.le_refl _) h0 hX hSX hXo hnS hu hut (by omega) hLX hO hV).mono ?_
  rintro f w2 ⟨rfl, v2, M1, ⟨p1, p2⟩, hO2, hV2, hs2⟩
  have hz2 := hs2.size
  have h02 : KeptX X w0 w2 := h0.trans (KeptX.of_spares hs2 (fun q _ h => h.elim (hSX q) (fun h => h ▸ hXo)))
  have hbw : b < w.heap.size := Nat.lt_of_lt_of_le hb0 h0.1
  obtain ⟨q0', q2'⟩ := (HQ w2).out (hs2.block b hbw (fun h => hbX (h.elim (hSX b) (fun h => h ▸ hXo))))
  have hM1 : M1.length ≤ u.summ.length := by
   have q := congrArg List.length p1
   rw [List.length_map, List.length_append] at q
   have q' := growL_len u.summ (L.map Sh.e)
   rw [List.length_map] at q'
   omega
  have hM1' := summ_len hut
  clear q0 q1 q2 HQ
  go_wp2_with fail
  refine (HIH.out z.size (by omega) z kb (ko + 3) ob (fun q => (X q ∨ w0.heap.size ≤ q) ∧ q < w2.heap.size) _ v2 (L ++ M1) w0 w2 (Nat.le_refl _) (h02.more (fun q hq h => ⟨Or.inl h, Nat.lt_of_lt_of_le hq h02.1⟩)) (fun q h => h.2) (fun q h => ?_) ⟨Or.inl hXo, hO2.lt⟩ (fun h => ?_) (hz.less (fun q hq h => h.1.elim id (fun h => by omega))) hzt (by rw [List.length_append]; omega)
   (fun y hy => (List.mem_append.1 hy).elim (fun hy => (hLX y hy).less (fun q hq h => h.1.elim id (fun h => by omega))) (fun hy => (p2 y hy).less (fun q hq h => h.1.elim id (fun h => by omega)))) hO2 hV2).mono ?_
  ·
   rcases h with h | h
   ·
    exact ⟨Or.inl (hSX q h), by have := hX q (hSX q h); omega⟩
   ·
    exact ⟨Or.inr (by have := h0.1; omega), h.2⟩
  ·
   rcases h with h | h
   ·
    exact hnS h
   ·
    have := hX ob hXo; omega
  rintro f w3 ⟨rfl, v3, M2, ⟨r1, r2⟩, hO3, hV3, hs3⟩
  have hz3 := hs3.size
  go_wp2_with fail
  (first | refine bodyPost_ret (v := .tuple #[]) (by simp [results, Tryz.results82, go_sem]) rfl ?_ | refine bodyPost_end (v := .tuple #[]) (by simp [results, Tryz.results82, go_sem]) rfl ?_)
  refine ⟨rfl, v3, M1 ++ M2, ⟨?_, ?_⟩, hO3, ?_, ?_⟩
  ·
   rw [← List.append_assoc, r1, p1, hsum.out, List.map_append, growL_append]
  ·
   exact p2.append (fun y hy => (r2 y hy).less (fun q hq h => ⟨Or.inl h, Nat.lt_of_lt_of_le hq h02.1⟩))
  ·
   rw [← List.append_assoc]
   exact hV3.more (fun q hq h => by
    rcases h with (h | h) | h
    ·
     exact Or.inl h
    ·
     exact Or.inr (by omega)
    ·
     exact Or.inr (by omega))
  ·
   refine ⟨hs3.os.trans hs2.os, hs3.tape.trans hs2.tape, hs3.output.trans hs2.output, by omega, fun q hq h => ?_⟩
   exact (hs3.block q (by omega) (fun hh => by
    rcases hh with (hh | hh) | hh
    ·
     exact h (Or.inl hh)
    ·
     omega
    ·
     exact h (Or.inr hh))).trans (hs2.block q hq h)
 have c6 : (k == 6) = false := by simp [h6]
 have hsum : Hid ((Ex.mk k n ks).summ = [.mk k n ks]) := by show _ = _; exact Ex.summ_else h1 h6
 have he1 := he.keep h0
 obtain ⟨hb0, hbX, s, c, kk0, hkx⟩ := he
 obtain ⟨q0, q1, q2⟩ := kk0.keep (h0.2 b hb0 hbX)
 rw [Ex.kind_mk] at q0
 rw [Ex.num_mk] at q1
 rw [Ex.kids_mk] at q2
 obtain ⟨a1, l1, rfl, hcap1, hcap2⟩ := hV.shape
 unfold maxLen at hcap2
 have o0 := hO.c0
 have olt := hO.lt
 have hbw : b < w.heap.size := Nat.lt_of_lt_of_le hb0 h0.1
 have hrow : Hid (L = [] ∨ ∃ g, a1 = some ⟨g, 0, none⟩ ∧ S g ∧ g < w.heap.size ∧ ∃ rest, Blk w g 34 (shs L ++ rest)) := by
  obtain ⟨a', c', e', -, -, -, hh⟩ := AppS.at hV
  simp only [Value.slice.injEq, true_and] at e'
  obtain ⟨rfl, rfl⟩ := e'
  rcases hh with h | ⟨g, h1, h2, h3, h4⟩
  ·
   refine Or.inl ?_
   have := shs_length L
   rw [h] at this
   exact List.eq_nil_of_length_eq_zero (by simp at this; omega)
  ·
   exact Or.inr ⟨g, h1, h2, h3, h4⟩
 have Hq0 := Lib.hid q0
 have Hq1 := Lib.hid q1
 have Hq2 := Lib.hid q2
 clear q1 q2 h1 h6 kk0
 go_enter Tryz.func82, Tryz.ntmps82
 go_wp2_with fail
 go_loopw [4] (fun i wr => ∃ j : Nat, j ≤ L.length ∧ i = .int .i64 j ∧ (∀ m, m < j → ∀ y, L[m]? = some y → y.e ≠ .mk k n ks) ∧ Below w.heap.size w wr) (fun i _ => L.length - (intOf i).toNat)
 case atStart => exact ⟨0, by omega, rfl, fun m hm => by omega, Below.refl _ _⟩
 case round =>
  obtain ⟨j, hj, rfl, hne, hBr⟩ := hrel
  have o0r := (hBr.cell (p := ⟨ob, 0, none⟩) olt).trans o0
  have hszr := hBr.size
  by_cases hlt : j < L.length
  ·
   obtain ⟨y, hy⟩ : ∃ y, L[j]? = some y := ⟨_, List.getElem?_eq_getElem hlt⟩
   rcases hrow.out with h | ⟨g, e9, hg1, hg2, rest, hblk⟩
   ·
    exfalso; rw [h] at hlt; simp at hlt
   subst e9
   have hbr := hblk.below hBr
   have q : ∀ m v, y.cells[m]? = some v → wr.cell? ⟨g, j * 3 + m, none⟩ = some v := by
    intro m v hv
    have hm : m < 3 := by have := (List.getElem?_eq_some_iff.1 hv).1; simpa [Sh.cells] using this
    rw [hbr.cell, List.getElem?_append_left (by rw [shs_length]; omega), shs_at L j y hy m hm, hv]
   have hyX := (hLX y (List.mem_of_getElem? hy)).keep (h0.trans (KeptX.of_below hBr))
   have hya : ExAt wr g (j * 3) y.e := ⟨q 0 _ rfl, q 1 _ rfl, y.s, y.c, q 2 _ rfl, hyX.rd⟩
   have hea : ExAt wr b o (.mk k n ks) := he1.at.below hBr
   have ha1 := Int.natCast_nonneg j
   have hb1 : (j : Int) < (L.length : Int) := by omega
   clear q hbr hblk
   go_wp2_with fail
   refine (l01Same_all _ _ _ _ _ _ _ _ (Nat.le_refl _) hya hea).mono ?_
   rintro f w2 ⟨rfl, hb⟩
   have hB2 := hBr.trans (hb.mono hszr)
   by_cases heq : y.e = .mk k n ks
   ·
    have e1 : eqb y.e (.mk k n ks) = true := eqb_true heq
    have Heq := Lib.hid heq
    clear heq
    go_wp2_with fail
    (first | refine bodyPost_ret (v := .tuple #[]) (by simp [results, Tryz.results82, go_sem]) rfl ?_ | refine bodyPost_end (v := .tuple #[]) (by simp [results, Tryz.results82, go_sem]) rfl ?_)
    refine ⟨rfl, _, [], ⟨?_, ShX.nil⟩, hO.below hB2, ?_, Spares.of_below hB2⟩
    ·
     rw [hsum.out, List.append_nil]
     show List.map Sh.e L = grow1 (List.map Sh.e L) (some (.mk k n ks))
     rw [grow1_old (List.mem_map.2 ⟨y, List.mem_of_getElem? hy, Heq.out⟩)]
    ·
     rw [List.append_nil]
     exact (hV.keep fun q hq _ => hB2.block q hq).more fun q _ h => Or.inl h
   ·
    have e1 : eqb y.e (.mk k n ks) = false := eqb_false heq
    go_wp2_with fail
    go_roundw
    case rel => exact ⟨j + 1, by omega, by go_num, fun m hm y' hy' => by
     by_cases hmj : m = j
     ·
      subst hmj
      rw [hy] at hy'
      obtain rfl := Option.some.inj hy'
      exact heq
     ·
      exact hne m (by omega) y' hy', hB2⟩
    case measure => simp [intOf]; omega
  ·
   obtain rfl : j = L.length := by omega
   have hnm : Ex.mk k n ks ∉ L.map Sh.e := by
    intro h
    obtain ⟨y, hy, he⟩ := List.mem_map.1 h
    obtain ⟨m, hm⟩ := List.mem_iff_getElem?.1 hy
    exact hne m (List.getElem?_eq_some_iff.1 hm).1 y hm he
   have hgr : Hid (growL (L.map Sh.e) ((Ex.mk k n ks).summ.map some) = L.map Sh.e ++ [.mk k n ks]) := by
    show _ = _
    rw [hsum.out]
    show grow1 (L.map Sh.e) (some (.mk k n ks)) = _
    rw [grow1_new hnm]
   obtain ⟨wb, rfl⟩ : ∃ wb, wb = wr := ⟨_, rfl⟩
   have V : AppS (fun q => S q) wb 34 3 L.length (shD L) (.slice a1 L.length l1) := hV.keep fun q hq _ => hBr.block q hq
   have Vf : ∀ q, S q → 0 ≤ q ∧ q < wb.heap.size := fun q hq => by have := hX q (hSX q hq); omega
   have OB := hO.below hBr
   have OBf := OB.lt
   have hbo : b ≠ ob := fun e => hbX (e ▸ hXo)
   have hbS : ¬ S b := fun h => hbX (hSX b h)
   have hbk0 := hBr.block b hbw
   have hL100 : L.length ≤ 1000000 := by omega
   clear hne hnm
   go_wp2_with fail
   obtain ⟨x0, hx0⟩ := mkval ?a1_0
   obtain ⟨x1, hx1⟩ := mkval ?a1_1
   obtain ⟨x3, hx3⟩ := mkval ?a1_3
   obtain ⟨x4, hx4⟩ := mkval ?a1_4
   obtain ⟨x5, hx5⟩ := mkval ?a1_5
   obtain ⟨x6, hx6⟩ := mkval ?a1_6
   obtain ⟨x11, hx11⟩ := mkval ?a1_11
   have hGb : ∀ m b, (fun m b => (m = 0 ∧ b = ob) ∨ (m = 1 ∧ S b)) m b → (0) ≤ b ∧ b < (wb).heap.size := by
    intro m b hg
    rcases hg with ⟨rfl, rfl⟩ | ⟨rfl, hg⟩
    ·
     omega
    ·
     exact Vf b hg
   have hGd : ∀ m m' b, (fun m b => (m = 0 ∧ b = ob) ∨ (m = 1 ∧ S b)) m b → (fun m b => (m = 0 ∧ b = ob) ∨ (m = 1 ∧ S b)) m' b → m = m' := by
    intro m m' b h h'
    rcases h with ⟨rfl, h⟩ | ⟨rfl, h⟩ <;> rcases h' with ⟨rfl, h'⟩ | ⟨rfl, h'⟩
    ·
     rfl
    ·
     exact absurd (h ▸ h') hnS
    ·
     exact absurd (h' ▸ h) hnS
    ·
     rfl
   refine region_rs [(10, 8)] [(8, 1), (12, 0)] (fun m b => (m = 0 ∧ b = ob) ∨ (m = 1 ∧ S b)) (0) (fun i iv vs wx => match i with
    | 0 => vs 0 = x0
    | 1 => vs 1 = x1
    | 2 => vs 2 = .slice a1 L.length l1
    | 3 => vs 3 = x3
    | 4 => vs 4 = x4
    | 5 => vs 5 = x5
    | 6 => vs 6 = x6
    | 7 => vs 7 = .slice (some ⟨(iv 7).1, 0, none⟩) 1 1 ∧ (iv 7).2 = (iv 7).1 + 1 ∧ Blk wx (iv 7).1 34 [.int .i64 0, .int .i64 0, .slice none 0 0]
    | 8 => ∃ g cap, vs 8 = .slice (some ⟨g, 0, none⟩) (L.length + 1) cap ∧ AppS (foot [(10, 8)] [(8, 1), (12, 0)] (fun m b => (m = 0 ∧ b = ob) ∨ (m = 1 ∧ S b)) 13 8 iv) wx 34 3 (L.length + 1) (shD L ++ zero3.map D.raw) (.slice (some ⟨g, 0, none⟩) (L.length + 1) cap)
    | 9 => vs 9 = .pointer (some ⟨slB (vs 8), L.length * 3, none⟩)
    | 10 => AppS (foot [(10, 8)] [(8, 1), (12, 0)] (fun m b => (m = 0 ∧ b = ob) ∨ (m = 1 ∧ S b)) 13 10 iv) wx 34 3 (L.length + 1) (shD (L ++ [⟨.mk k n ks, s, c⟩])) (vs 8)
    | 11 => vs 11 = x11
    | 12 => Blk wx (ob) 32 [vs 8]
    | _ => True) (fun i iv vs => match i with
    | 0 => vs 0 = x0
    | 1 => vs 1 = x1
    | 2 => vs 2 = .slice a1 L.length l1
    | 3 => vs 3 = x3
    | 4 => vs 4 = x4
    | 5 => vs 5 = x5
    | 6 => vs 6 = x6
    | 7 => vs 7 = .slice (some ⟨(iv 7).1, 0, none⟩) 1 1 ∧ (iv 7).2 = (iv 7).1 + 1
    | 8 => ∃ g cap, vs 8 = .slice (some ⟨g, 0, none⟩) (L.length + 1) cap
    | 9 => vs 9 = .pointer (some ⟨slB (vs 8), L.length * 3, none⟩)
    | 10 => True
    | 11 => vs 11 = x11
    | 12 => True
    | _ => True) (by kernel_rfl) (by kernel_rfl) [0, 1, 2, 3, 4, 5, 6, 7, 8, 9, 10, 11, 12] (by kernel_rfl) ?hbase ?hGb ?hG ?hJ ?hE ?hEE ?hstep ?hQ
   case hbase => first | exact Nat.le_refl _ | omega | (simp; omega)
   case hGb =>
    exact hGb
   case hG =>
    exact hGd
   case hJ =>
    intro i hi iv iv' vs vs' wx wx' ha hv hz hk hj
    simp only [List.mem_cons, List.not_mem_nil, or_false] at hi
    rcases hi with rfl | rfl | rfl | rfl | rfl | rfl | rfl | rfl | rfl | rfl | rfl | rfl | rfl
    ·
     exact (hv.out 0 (mem_of (by kernel_rfl))).symm.trans hj
    ·
     exact (hv.out 1 (mem_of (by kernel_rfl))).symm.trans hj
    ·
     exact (hv.out 2 (mem_of (by kernel_rfl))).symm.trans hj
    ·
     exact (hv.out 3 (mem_of (by kernel_rfl))).symm.trans hj
    ·
     exact (hv.out 4 (mem_of (by kernel_rfl))).symm.trans hj
    ·
     exact (hv.out 5 (mem_of (by kernel_rfl))).symm.trans hj
    ·
     exact (hv.out 6 (mem_of (by kernel_rfl))).symm.trans hj
    ·
     have e7 := hv.out 7 (mem_of (by kernel_rfl))
     have g7 := ha.out 7 (mem_of (by kernel_rfl))
     obtain ⟨q1, q3, q2⟩ := hj
     show vs' 7 = .slice (some ⟨(iv' 7).1, 0, none⟩) 1 1 ∧ (iv' 7).2 = (iv' 7).1 + 1 ∧ Blk wx' (iv' 7).1 34 [.int .i64 0, .int .i64 0, .slice none 0 0]
     rw [← e7, ← g7]
     exact ⟨q1, q3, q2.keep (hk.out _ q2.lt (foot_own (Nat.le_refl _) (by omega)))⟩
    ·
     have e8 := hv.out 8 (mem_of (by kernel_rfl))
     obtain ⟨g, cap, q1, q2⟩ := hj
     exact ⟨g, cap, e8 ▸ q1, (q2.keep (fun b hb h1 => hk.out b hb h1)).more (fun b hb h1 => foot_agree (l := ancs _ 13 8) (by exact of_decide_eq_true (by kernel_rfl)) ha.out h1)⟩
    ·
     have e8 := hv.out 8 (mem_of (by kernel_rfl))
     have e9 := hv.out 9 (mem_of (by kernel_rfl))
     have hj' : vs 9 = .pointer (some ⟨slB (vs 8), L.length * 3, none⟩) := hj
     show vs' 9 = .pointer (some ⟨slB (vs' 8), L.length * 3, none⟩)
     rw [← e8, ← e9]
     exact hj'
    ·
     have e8 := hv.out 8 (mem_of (by kernel_rfl))
     have hj' : AppS (foot [(10, 8)] [(8, 1), (12, 0)] (fun m b => (m = 0 ∧ b = ob) ∨ (m = 1 ∧ S b)) 13 10 iv) wx 34 3 (L.length + 1) (shD (L ++ [⟨.mk k n ks, s, c⟩])) (vs 8) := hj
     show AppS (foot [(10, 8)] [(8, 1), (12, 0)] (fun m b => (m = 0 ∧ b = ob) ∨ (m = 1 ∧ S b)) 13 10 iv') wx' 34 3 (L.length + 1) (shD (L ++ [⟨.mk k n ks, s, c⟩])) (vs' 8)
     rw [← e8]
     exact (hj'.keep (fun b hb h1 => hk.out b hb h1)).more (fun b hb h1 => foot_agree (l := ancs _ 13 10) (by exact of_decide_eq_true (by kernel_rfl)) ha.out h1)
    ·
     exact (hv.out 11 (mem_of (by kernel_rfl))).symm.trans hj
    ·
     have e8 := hv.out 8 (mem_of (by kernel_rfl))
     have hj' : Blk wx (ob) 32 [vs 8] := hj
     show Blk wx' (ob) 32 [vs' 8]
     rw [← e8]
     exact hj'.keep (hk.out _ hj'.lt (foot_given 0 (by decide) (Or.inl ⟨rfl, rfl⟩)))
   case hE =>
    intro i hi iv vs wx hj
    simp only [List.mem_cons, List.not_mem_nil, or_false] at hi
    rcases hi with rfl | rfl | rfl | rfl | rfl | rfl | rfl | rfl | rfl | rfl | rfl | rfl | rfl
    ·
     exact hj
    ·
     exact hj
    ·
     exact hj
    ·
     exact hj
    ·
     exact hj
    ·
     exact hj
    ·
     exact hj
    ·
     exact ⟨hj.1, hj.2.1⟩
    ·
     obtain ⟨g, cap, q1, -⟩ := hj
     exact ⟨g, cap, q1⟩
    ·
     exact hj
    ·
     trivial
    ·
     exact hj
    ·
     trivial
   case hEE =>
    intro i hi iv iv' vs vs' ha hv hj
    simp only [List.mem_cons, List.not_mem_nil, or_false] at hi
    rcases hi with rfl | rfl | rfl | rfl | rfl | rfl | rfl | rfl | rfl | rfl | rfl | rfl | rfl
    ·
     exact (hv.out 0 (mem_of (by kernel_rfl))).symm.trans hj
    ·
     exact (hv.out 1 (mem_of (by kernel_rfl))).symm.trans hj
    ·
     exact (hv.out 2 (mem_of (by kernel_rfl))).symm.trans hj
    ·
     exact (hv.out 3 (mem_of (by kernel_rfl))).symm.trans hj
    ·
     exact (hv.out 4 (mem_of (by kernel_rfl))).symm.trans hj
    ·
     exact (hv.out 5 (mem_of (by kernel_rfl))).symm.trans hj
    ·
     exact (hv.out 6 (mem_of (by kernel_rfl))).symm.trans hj
    ·
     have e7 := hv.out 7 (mem_of (by kernel_rfl))
     have g7 := ha.out 7 (mem_of (by kernel_rfl))
     have hj' : vs 7 = .slice (some ⟨(iv 7).1, 0, none⟩) 1 1 ∧ (iv 7).2 = (iv 7).1 + 1 := hj
     show vs' 7 = .slice (some ⟨(iv' 7).1, 0, none⟩) 1 1 ∧ (iv' 7).2 = (iv' 7).1 + 1
     rw [← e7, ← g7]
     exact hj'
    ·
     have e8 := hv.out 8 (mem_of (by kernel_rfl))
     have hj' : ∃ g cap, vs 8 = .slice (some ⟨g, 0, none⟩) (L.length + 1) cap := hj
     show ∃ g cap, vs' 8 = .slice (some ⟨g, 0, none⟩) (L.length + 1) cap
     rw [← e8]
     exact hj'
    ·
     have e8 := hv.out 8 (mem_of (by kernel_rfl))
     have e9 := hv.out 9 (mem_of (by kernel_rfl))
     have hj' : vs 9 = .pointer (some ⟨slB (vs 8), L.length * 3, none⟩) := hj
     show vs' 9 = .pointer (some ⟨slB (vs' 8), L.length * 3, none⟩)
     rw [← e8, ← e9]
     exact hj'
    ·
     trivial
    ·
     exact (hv.out 11 (mem_of (by kernel_rfl))).symm.trans hj
    ·
     trivial
   case hstep =>
    intro i hi opr ho iv vs w1 hB hS hSo hd he hbd hsep hun K hK
    simp only [List.mem_cons, List.not_mem_nil, or_false] at hi
    have hzB := hB.size
    have HGb := Lib.hid hGb
    clear hGb hGd
    have kbb := hSo.out.block b (by omega) (fun ⟨m, h⟩ => by rcases h with ⟨_, h⟩ | ⟨_, h⟩; exact hbo h; exact hbS h)
    have q0 := (World.cell?_of_block (w := w) (w' := w1) (a := ⟨b, o, none⟩) (kbb.trans hbk0)).trans Hq0.out
    have q1 := (World.cell?_of_block (w := w) (w' := w1) (a := ⟨b, o + 1, none⟩) (kbb.trans hbk0)).trans Hq1.out
    have q2 := (World.cell?_of_block (w := w) (w' := w1) (a := ⟨b, o + 2, none⟩) (kbb.trans hbk0)).trans Hq2.out
    have hb9 : (L.length : Int) < (L.length : Int) + 1 := by omega
    generalize hA : putFrom _ 0 vs _ = A at hK ⊢
    simp only [putFrom, puts] at hA
    rcases hi with rfl | rfl | rfl | rfl | rfl | rfl | rfl | rfl | rfl | rfl | rfl | rfl | rfl
    all_goals
     simp at ho
     subst ho
     subst hA
    ·
     go_wp2_with fail
     refine Onward.mk (hK ?val1_0 _ _ (fun h => by cases h) ?eqA (Spares.refl _) (fun iv' _ _ => ?ja))
     case eqA => first | rfl | (simp only [puts]; rfl)
     case ja => exact hx0.out.symm
    ·
     have h0 := (hd.out 0 (mem_of (by kernel_rfl)) (by decide) (by kernel_rfl)).trans hx0.out
     go_wp2_with fail
     refine Onward.mk (hK ?val1_1 _ _ (fun h => by cases h) ?eqA (Spares.refl _) (fun iv' _ _ => ?ja))
     case eqA => first | rfl | (simp only [puts, h0]; rfl)
     case ja => exact hx1.out.symm
    ·
     have h1 := (hd.out 1 (mem_of (by kernel_rfl)) (by decide) (by kernel_rfl)).trans hx1.out
     have OB1 := OB.keep (hS.out 0 _ (by kernel_rfl) (Or.inl ⟨rfl, rfl⟩))
     have obc0 := OB1.c0
     have obz0 := OB1.frozen 0
     have oblt := OB1.lt
     go_wp2_with fail
     exact Onward.mk (hK (.slice a1 L.length l1) _ _ (fun h => by cases h) (by first | rfl | (simp only [puts, h1])) (Spares.refl _) (fun iv' _ _ => rfl))
    ·
     go_wp2_with fail
     refine Onward.mk (hK ?val1_3 _ _ (fun h => by cases h) ?eqA (Spares.refl _) (fun iv' _ _ => ?ja))
     case eqA => first | rfl | (simp only [puts]; rfl)
     case ja => exact hx3.out.symm
    ·
     have h3 := (hd.out 3 (mem_of (by kernel_rfl)) (by decide) (by kernel_rfl)).trans hx3.out
     go_wp2_with fail
     refine Onward.mk (hK ?val1_4 _ _ (fun h => by cases h) ?eqA (Spares.refl _) (fun iv' _ _ => ?ja))
     case eqA => first | rfl | (simp only [puts, h3]; rfl)
     case ja => exact hx4.out.symm
    ·
     have h4 := (hd.out 4 (mem_of (by kernel_rfl)) (by decide) (by kernel_rfl)).trans hx4.out
     go_wp2_with fail
     refine Onward.mk (hK ?val1_5 _ _ (fun h => by cases h) ?eqA (Spares.refl _) (fun iv' _ _ => ?ja))
     case eqA => first | rfl | (simp only [puts, h4]; rfl)
     case ja => exact hx5.out.symm
    ·
     have h2 : vs 2 = .slice a1 L.length l1 := hd.out 2 (mem_of (by kernel_rfl)) (by decide) (by kernel_rfl)
     go_wp2_with fail
     refine Onward.mk (hK ?val1_6 _ _ (fun h => by cases h) ?eqA (Spares.refl _) (fun iv' _ _ => ?ja))
     case eqA => first | rfl | (simp only [puts, h2]; rfl)
     case ja => exact hx6.out.symm
    ·
     go_wp2_with fail
     exact Onward.mk (hK (.slice (some ⟨w1.heap.size, 0, none⟩) 1 1) _ _ (fun h => by cases h) (by first | rfl | (simp only [puts])) (Spares.of_below (Below.alloc (Below.refl _ _) (Nat.le_refl _) _)) (fun iv' _ hi => by
      show Value.slice (some ⟨w1.heap.size, 0, none⟩) 1 1 = .slice (some ⟨(iv' 7).1, 0, none⟩) 1 1 ∧ (iv' 7).2 = (iv' 7).1 + 1 ∧ Blk _ (iv' 7).1 34 [.int .i64 0, .int .i64 0, .slice none 0 0]
      rw [hi]
      exact ⟨rfl, by simp, Blk.new3 _ _ _ _ _⟩))
    ·
     have h2 : vs 2 = .slice a1 L.length l1 := hd.out 2 (mem_of (by kernel_rfl)) (by decide) (by kernel_rfl)
     obtain ⟨h7, q7, f7⟩ := hd.out 7 (mem_of (by kernel_rfl)) (by decide) (by kernel_rfl)
     have V1 := V.keep (fun b _ hb => hS.out 1 b (by kernel_rfl) (Or.inr ⟨rfl, hb⟩))
     simp only [h2, h7]
     have f7' : Blk w1 (iv 7).1 34 [.int .i64 0, .int .i64 0, .slice none 0 0] := by first | exact f7 | (rw [h7] at f7; exact f7)
     refine wpList_append_s w1 (by rfl) _ _ 32 (by rfl) 34 (.agg #[.int .i64 0, .int .i64 0, .slice none 0 0]) 3 40 Tryz.underlying32 zero_implExpr rfl (by decide) (S := (fun b => S b)) (T := (fun _ => False)) _ (by rfl) V1 ⟨(iv 7).1, 0, none⟩ 1 1 [.int .i64 0, .int .i64 0, .slice none 0 0] (by rfl) (news_blk f7') ⟨[], Ows.raws zero3_one, by simp, by simp⟩ (fun _ _ _ h => h) (by simp) (by simp [Value.oneCell']) (by omega) (by omega) (by unfold maxLen; omega) ?_
     intro g cap w2 hap ht
     go_wp2_with fail
     exact Onward.mk (hK (.slice (some ⟨g, 0, none⟩) (L.length + 1) cap) _ _ (fun h => by cases h) (by first | rfl | (simp only [puts, h2, h7])) (ht.more (fun b h => Or.inl ⟨1, by decide, (Or.inr ⟨rfl, h⟩)⟩)) (fun iv' ag hi => ⟨g, cap, rfl, hap.more (fun b _ h => by rcases h with h | h | h; exact foot_given 1 (by decide) (Or.inr ⟨rfl, h⟩); exact h.elim; exact foot_new hi h.1 h.2)⟩))
    ·
     obtain ⟨g8, cap8, h8, f8⟩ := hd.out 8 (mem_of (by kernel_rfl)) (by decide) (by kernel_rfl)
     have h6 := (hd.out 6 (mem_of (by kernel_rfl)) (by decide) (by kernel_rfl)).trans hx6.out
     go_wp2_with fail
     exact Onward.mk (hK (.pointer (some ⟨g8, L.length * 3, none⟩)) _ _ (fun h => by cases h) (by first | rfl | (simp only [puts, h8, h6])) (Spares.refl _) (fun iv' _ _ => by
      show (.pointer (some ⟨g8, L.length * 3, none⟩) : Value) = .pointer (some ⟨slB (vs 8), L.length * 3, none⟩)
      simp only [h8, h6]; rfl))
    ·
     have h9 : vs 9 = .pointer (some ⟨slB (vs 8), L.length * 3, none⟩) := hd.out 9 (mem_of (by kernel_rfl)) (by decide) (by kernel_rfl)
     have h5 := (hd.out 5 (mem_of (by kernel_rfl)) (by decide) (by kernel_rfl)).trans hx5.out
     obtain ⟨g8, cap8, h8, f8⟩ := hd.out 8 (mem_of (by kernel_rfl)) (by decide) (by kernel_rfl)
     rw [h8] at h9
     simp only [slB] at h9
     have f8' := f8
     rw [show shD L ++ zero3.map D.raw = (shs L ++ zero3).map D.raw by rw [List.map_append]; rfl] at f8'
     have hfg := f8'.blk.1
     obtain ⟨rest8, hbk, hback⟩ := f8'.turn
     have hl8 := shs_length L
     obtain ⟨y0, y1, y2⟩ := hbk.mid hl8
     have z0 := hbk.frozen (L.length * 3)
     have z1 := hbk.frozen (L.length * 3 + 1)
     have z2 := hbk.frozen (L.length * 3 + 2)
     have hgl := hbk.lt
     have HBk := Lib.hid hbk
     have HBack := Lib.hid hback
     clear hbk hback f8 f8'
     go_wp2_with fail
     have hms := HBk.out.mid_set hl8 (u := .int .i64 k) (v := .int .i64 n) (q := .slice s ks.length c)
     have hap := HBack.out _ (shs L ++ [.int .i64 k, .int .i64 n, .slice s ks.length c]) (by simp [zero3]) (fun u hu => by
      rcases List.mem_append.1 hu with h | h
      ·
       simp only [shs, List.mem_flatMap, Sh.cells] at h
       obtain ⟨y, -, h⟩ := h
       simp at h
       rcases h with rfl | rfl | rfl <;> rfl
      ·
       simp at h
       rcases h with rfl | rfl | rfl <;> rfl) hms
     have hsp8 : Spares (fun q => q = g8) w1 (((w1.setCell ⟨g8, L.length * 3, none⟩ (.int .i64 k)).setCell ⟨g8, L.length * 3 + 1, none⟩ (.int .i64 n)).setCell ⟨g8, L.length * 3 + 2, none⟩ (.slice s ks.length c)) := Spares.set (Spares.set (Spares.set (Spares.refl w1)))
     rw [show (shs L ++ ([.int .i64 k, .int .i64 n, .slice s ks.length c] : List Value)).map D.raw = shD (L ++ [⟨.mk k n ks, s, c⟩]) by simp [shD, shs, Sh.cells, Ex.kind_mk, Ex.num_mk, Ex.kids_mk]] at hap
     exact Onward.mk (hK undef _ _ (fun _ => rfl) (by simp only [Act.put, List.setIfInBounds_toArray, List.set_cons_succ, List.set_cons_zero, h9, h5, h8]) (hsp8.more (fun q h => Or.inr ⟨8, by decide, by rw [h]; exact hfg⟩)) (fun iv' ag hi => by
      show AppS _ _ _ _ _ _ (vs 8)
      rw [h8]
      exact hap.more (fun q hq h => foot_step (by kernel_rfl) ag h)))
    ·
     have h0 := (hd.out 0 (mem_of (by kernel_rfl)) (by decide) (by kernel_rfl)).trans hx0.out
     go_wp2_with fail
     refine Onward.mk (hK ?val1_11 _ _ (fun h => by cases h) ?eqA (Spares.refl _) (fun iv' _ _ => ?ja))
     case eqA => first | rfl | (simp only [puts, h0]; rfl)
     case ja => exact hx11.out.symm
    ·
     have h11 := (hd.out 11 (mem_of (by kernel_rfl)) (by decide) (by kernel_rfl)).trans hx11.out
     obtain ⟨g8, cap8, h8⟩ := he.out 8 (mem_of (by kernel_rfl)) (by decide)
     have OB1 := OB.keep (hS.out 0 _ (by kernel_rfl) (Or.inl ⟨rfl, rfl⟩))
     have obc0 := OB1.c0
     have obz0 := OB1.frozen 0
     have oblt := OB1.lt
     go_wp2_with fail
     exact Onward.mk (hK undef _ _ (fun _ => rfl) (by simp only [puts, h11, h8]) ((spares_sets (b0 := ob) (by repeat (first | exact Spares.refl _ | apply Spares.set))).more (fun b h => Or.inl ⟨0, by decide, (Or.inl ⟨rfl, h⟩)⟩)) (fun iv' ag hi => by
      show Blk _ (ob) 32 [vs 8]
      rw [h8]
      exact (OB1.set 0 _)))
   case hQ =>
    intro iv vs wx hB hSp hd he hbd hsep
    have hzB := hB.size
    have h0 := (hd.out 0 (mem_of (by kernel_rfl)) (not_eaten (by kernel_rfl))).trans hx0.out
    have h1 := (hd.out 1 (mem_of (by kernel_rfl)) (not_eaten (by kernel_rfl))).trans hx1.out
    have h2 : vs 2 = .slice a1 L.length l1 := hd.out 2 (mem_of (by kernel_rfl)) (not_eaten (by kernel_rfl))
    have h3 := (hd.out 3 (mem_of (by kernel_rfl)) (not_eaten (by kernel_rfl))).trans hx3.out
    have h4 := (hd.out 4 (mem_of (by kernel_rfl)) (not_eaten (by kernel_rfl))).trans hx4.out
    have h5 := (hd.out 5 (mem_of (by kernel_rfl)) (not_eaten (by kernel_rfl))).trans hx5.out
    have h6 := (hd.out 6 (mem_of (by kernel_rfl)) (not_eaten (by kernel_rfl))).trans hx6.out
    obtain ⟨h7, q7, f7⟩ := hd.out 7 (mem_of (by kernel_rfl)) (not_eaten (by kernel_rfl))
    obtain ⟨g8, cap8, h8⟩ := he.out 8 (mem_of (by kernel_rfl))
    have h9 : vs 9 = .pointer (some ⟨slB (vs 8), L.length * 3, none⟩) := hd.out 9 (mem_of (by kernel_rfl)) (not_eaten (by kernel_rfl))
    have f10 : AppS (foot [(10, 8)] [(8, 1), (12, 0)] (fun m b => (m = 0 ∧ b = ob) ∨ (m = 1 ∧ S b)) 13 10 iv) _ 34 3 (L.length + 1) (shD (L ++ [⟨.mk k n ks, s, c⟩])) (vs 8) := hd.out 10 (mem_of (by kernel_rfl)) (not_eaten (by kernel_rfl))
    have h11 := (hd.out 11 (mem_of (by kernel_rfl)) (not_eaten (by kernel_rfl))).trans hx11.out
    have f12 : Blk _ (ob) 32 [vs 8] := hd.out 12 (mem_of (by kernel_rfl)) (not_eaten (by kernel_rfl))
    simp only [putFrom, puts]
    have so10 : ∀ b, (foot [(10, 8)] [(8, 1), (12, 0)] (fun m b => (m = 0 ∧ b = ob) ∨ (m = 1 ∧ S b)) 13 10 iv) b → S b ∨ (wb).heap.size ≤ b := by
     rintro b ⟨j, hj, hh⟩
     have hj' := of_decide_eq_true (List.all_eq_true.1 (show ((chainOf [(10, 8)] 13 10).all fun j => decide (j ∈ [10, 8])) = true from by kernel_rfl) j hj)
     simp only [List.mem_cons, List.not_mem_nil, or_false] at hj'
     rcases hj' with rfl | rfl
     ·
      have q := (hbd.out 10 (mem_of (by kernel_rfl))).1
      rcases hh with hh | ⟨m, hm, hg⟩
      ·
       exact Or.inr (by omega)
      ·
       simp at hm
     ·
      have q := (hbd.out 8 (mem_of (by kernel_rfl))).1
      rcases hh with hh | ⟨m, hm, hg⟩
      ·
       exact Or.inr (by omega)
      ·
       simp at hm; subst hm; simp at hg; exact Or.inl hg
    rw [h8] at f12 f10
    have hS2 := hSp.out
    clear hd he hbd hsep
    go_wp2_with fail
    (first | refine bodyPost_ret (v := .tuple #[]) (by simp [results, Tryz.results82, go_sem]) rfl ?_ | refine bodyPost_end (v := .tuple #[]) (by simp [results, Tryz.results82, go_sem]) rfl ?_)
    refine ⟨rfl, _, [⟨.mk k n ks, s, c⟩], ⟨?_, fun y hy => ?_⟩, f12, ?_, ?_⟩
    ·
     rw [hgr.out]; first | rfl | (rw [List.map_append]; rfl)
    ·
     rw [List.mem_singleton] at hy
     subst hy
     exact hkx
    ·
     try rw [List.length_append]
     exact f10.more (fun q hq h => (so10 q h).imp id (fun h => ⟨by have := hBr.size; omega, hq⟩))
    ·
     exact (Spares.of_below hBr).trans (hS2.more fun q ⟨m, h⟩ => by rcases h with ⟨_, h⟩ | ⟨_, h⟩; exact Or.inr h; exact Or.inl h)
end Go.Proofs.YtcokljhamhgelaaGreatDoor
