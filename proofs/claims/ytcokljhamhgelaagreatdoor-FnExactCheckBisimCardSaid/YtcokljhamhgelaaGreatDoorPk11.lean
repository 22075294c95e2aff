/-
  Parts of a proof, joined: Shr, ShelfS, SortN. No condition.
-/
import Derived.Shelf.SlGeneric
import Derived.Shelf.SlSortCmp.WholeK
import Derived.Ground.SlsfProg
import Derived.Test.YtcokljhamhgelaaGreatDoorPk9
import Derived.Test.YtcokljhamhgelaaGreatDoorPk10
namespace Go.Proofs.YtcokljhamhgelaaGreatDoor
set_option linter.unusedVariables false
set_option linter.unusedSimpArgs false
open Go.ChangeShapes Go.WideShapes Go.ChangeAt Go.RowKit Go.Deep Go.Sort
structure Sh where
 e : Ex
 s : Option Addr
 c : Nat
def Sh.cells (x : Sh) : List Value := [.int .i64 x.e.kind, .int .i64 x.e.num, .slice x.s x.e.kids.length x.c]
def shs (L : List Sh) : List Value := L.flatMap Sh.cells
def shD (L : List Sh) : List D := (shs L).map D.raw
def ShX (X : Nat → Prop) (w : World) (L : List Sh) : Prop := ∀ x ∈ L, ExX X w x.e x.s x.c
theorem shs_one (x : Sh) : ∀ u ∈ shs [x], u.oneCell' = true := by
 intro u hu
 simp [shs, Sh.cells] at hu
 rcases hu with rfl | rfl | rfl <;> rfl
theorem shD_append (L M : List Sh) : shD (L ++ M) = shD L ++ shD M := by simp [shD, shs]
theorem shs_length : ∀ L : List Sh, (shs L).length = L.length * 3
 | [] => rfl
 | x :: r => by
  have := shs_length r
  simp only [shs, List.flatMap_cons, List.length_append, List.length_cons, Sh.cells] at this ⊢
  simp only [List.length_nil]
  omega
theorem shs_at : ∀ (L : List Sh) (i : Nat) (x : Sh), L[i]? = some x → ∀ j, j < 3 → (shs L)[i * 3 + j]? = x.cells[j]?
 | [], i, x, h => by simp at h
 | y :: r, 0, x, h => by
  simp at h
  subst h
  intro j hj
  simp only [shs, List.flatMap_cons, Nat.zero_mul, Nat.zero_add]
  rw [List.getElem?_append_left (by simp [Sh.cells]; exact hj)]
 | y :: r, i + 1, x, h => by
  intro j hj
  have := shs_at r i x (by simpa using h) j hj
  simp only [shs, List.flatMap_cons] at this ⊢
  rw [List.getElem?_append_right (by simp [Sh.cells]; omega)]
  rw [← this]
  congr 1
  simp [Sh.cells]
  omega
theorem ShX.nil {X : Nat → Prop} {w : World} : ShX X w [] := fun x h => by simp at h
theorem ShX.append {X : Nat → Prop} {w : World} {L M : List Sh} (h : ShX X w L) (k : ShX X w M) : ShX X w (L ++ M) := fun x hx => (List.mem_append.1 hx).elim (h x) (k x)
theorem ShX.keep {X : Nat → Prop} {w w' : World} {L : List Sh} (h : ShX X w L) (k : KeptX X w w') : ShX X w' L := fun x hx => (h x hx).keep k
theorem summ_len {tm am : Int} {e : Ex} (h : e.tree tm am = true) : e.summ.length ≤ e.size := by
 have h2 := (summ_spec tm am _ e (Nat.le_refl _) h).2
 have h3 : ∀ L : List Ex, L.length ≤ sizes L := by
  intro L
  induction L with
  | nil => simp [sizes]
  | cons x r ih =>
   have : 0 < x.size := by rw [Ex.size_eq]; omega
   simp only [sizes, List.map_cons, List.sum_cons, List.length_cons] at ih ⊢
   omega
 have := h3 e.summ
 omega
set_option maxRecDepth 100000 in
set_option maxHeartbeats 8000000 in
theorem summands_all (tm am : Int) (N : Nat) : ∀ (e : Ex) (X S : Nat → Prop) (v : Value) (L : List Sh) (s : Option Addr) (c : Nat) (w0 w : World), e.size ≤ N → KeptX X w0 w → (∀ b, X b → b < w.heap.size) → (∀ b, S b → X b) → ExX X w0 e s c → e.tree tm am = true → L.length + e.size ≤ 1000000 →
  AppS S w 34 3 L.length (shD L) v →
  Calls Tryz.prog 94 #[v, .agg #[.int .i64 e.kind, .int .i64 e.num, .slice s e.kids.length c]] w fun f w' => ∃ v' L', f = .returned v' ∧ (L'.map Sh.e = e.summ ∧ ShX X w0 L') ∧
   AppS (fun b => S b ∨ (w.heap.size ≤ b ∧ b < w'.heap.size)) w' 34 3 (L.length + L'.length) (shD (L ++ L')) v' ∧ Spares S w w' := by
 induction N using Nat.strongRecOn with
 | _ N ih =>
 intro e X S v L s c w0 w hN h0 hX hSX hx ht hlen hV
 have HIH := Lib.hid ih
 clear ih
 obtain ⟨k, n, ks⟩ := e
 have hx1 := hx.keep h0
 obtain ⟨-, hl, hcap, -, -⟩ := kid_at hx1.rd
 unfold maxLen at hcap
 simp only [Ex.kind_mk, Ex.num_mk, Ex.kids_mk] at hl ⊢
 by_cases h1 : k = 1
 ·
  subst h1
  go_enter Tryz.func94, Tryz.ntmps94
  go_wp2_with fail
  go_ret
  exact ⟨v, [], rfl, ⟨by rw [Ex.summ_zero]; rfl, ShX.nil⟩, by simpa using ((hV.keep fun b hb _ => (Below.alloc (Below.refl w.heap.size w) (Nat.le_refl _) _).block b hb).more fun b _ h => Or.inl h), Spares.of_below (by (repeat' first | exact Below.refl _ _ | assumption | apply Below.alloc | apply Below.drew | apply Below.setCell | omega | (simp; done) | (simp; omega)))⟩
 have c1 : (k == 1) = false := by simp [h1]
 by_cases h6 : k = 6
 rotate_left
 ·
  have c6 : (k == 6) = false := by simp [h6]
  have hsum : Hid ((Ex.mk k n ks).summ = [.mk k n ks]) := by show _ = _; exact Ex.summ_else h1 h6
  have hsz : 0 < (Ex.mk k n ks).size := by rw [Ex.size_eq]; omega
  clear h1 h6
  have hV1 : AppS S ((w.alloc (.cells #[.int .i64 k, .int .i64 n, .slice s ks.length c] 34)).alloc (.cells #[.int .i64 k, .int .i64 n, .slice s ks.length c] 34)) 34 3 L.length (shD L) v := hV.keep fun b hb _ => (Below.alloc (Below.alloc (Below.refl w.heap.size w) (Nat.le_refl _) _) (by simp) _).block b hb
  have hB : Below w.heap.size w ((w.alloc (.cells #[.int .i64 k, .int .i64 n, .slice s ks.length c] 34)).alloc (.cells #[.int .i64 k, .int .i64 n, .slice s ks.length c] 34)) := by (repeat' first | exact Below.refl _ _ | assumption | apply Below.alloc | apply Below.drew | apply Below.setCell | omega | (simp; done) | (simp; omega))
  have hz0 : ((w.alloc (.cells #[.int .i64 k, .int .i64 n, .slice s ks.length c] 34)).alloc (.cells #[.int .i64 k, .int .i64 n, .slice s ks.length c] 34)).heap.size = w.heap.size + 2 := by simp
  have hnew : ∀ j u, (shs [⟨.mk k n ks, s, c⟩])[j]? = some u → ((w.alloc (.cells #[.int .i64 k, .int .i64 n, .slice s ks.length c] 34)).alloc (.cells #[.int .i64 k, .int .i64 n, .slice s ks.length c] 34)).cell? ((⟨w.heap.size + 1, 0, none⟩ : Addr).add j) = some u := by
   have := news_blk (Blk.made (w.alloc (.cells #[.int .i64 k, .int .i64 n, .slice s ks.length c] 34)) 34 #[.int .i64 k, .int .i64 n, .slice s ks.length c])
   simpa [shs, Sh.cells, Ex.kind_mk, Ex.num_mk, Ex.kids_mk] using this
  have Hn := Lib.hid hnew
  have Hz := Lib.hid hz0
  clear hnew hz0
  go_enter Tryz.func94, Tryz.ntmps94
  go_wp2_with (at_builtin; refine wpList_append_s _ rfl _ _ 32 rfl 34 (.agg #[.int .i64 0, .int .i64 0, .slice none 0 0]) 3 40 Tryz.underlying32 zero_implExpr rfl (by decide) (S := S) (T := fun _ => False) v rfl hV1 ⟨w.heap.size + 1, 0, none⟩ 1 1 (shs [⟨.mk k n ks, s, c⟩]) rfl Hn.out ⟨[], Ows.raws (shs_one _), by simp, by simp⟩ (fun _ _ _ h => h) rfl (shs_one _) (by omega) (by omega) (by unfold maxLen; omega) ?_; intro g cap w2 hap ht)
  go_ret
  refine ⟨_, [⟨.mk k n ks, s, c⟩], rfl, ⟨by rw [hsum.out]; rfl, fun x hx' => ?_⟩, ?_, ?_⟩
  ·
   rw [List.mem_singleton] at hx'
   subst hx'
   exact hx
  ·
   rw [shD_append]
   refine hap.more fun b _ h => ?_
   have := Hz.out
   rcases h with h | h | h
   ·
    exact Or.inl h
   ·
    exact h.elim
   ·
    exact Or.inr (by omega)
  ·
   exact (Spares.of_below hB).trans ht
 subst h6
 obtain ⟨hk, -, -, htl⟩ := tree_parts ht
 obtain ⟨a, b, rfl⟩ := two_kids hk (by omega)
 have hsum : Hid ((Ex.mk 6 n [a, b]).summ = a.summ ++ b.summ) := by show _ = _; exact Ex.summ_sum
 have hsz := Ex.size_eq (.mk 6 n [a, b])
 simp only [Ex.sizeL, Ex.kids_mk] at hsz
 have hat : a.tree tm am = true := Ex.treeL_mem htl (by simp)
 have hbt : b.tree tm am = true := Ex.treeL_mem htl (by simp)
 obtain ⟨kb, ko, su, cu, rfl, -, -, -, hkb0, hkX, ku0, hu⟩ := kidX0 hx
 obtain ⟨sv, cv, kv0, hv⟩ := kidX1 hx
 have kh := h0.2 kb hkb0 hkX
 have ku := ku0.keep kh
 have kv := kv0.keep kh
 have hkb : kb < w.heap.size := Nat.lt_of_lt_of_le hkb0 h0.1
 simp only [List.length_cons, List.length_nil, Nat.zero_add] at hl ⊢
 clear ku0 kv0 kh
 have Hku := Lib.hid ku
 have Hkv := Lib.hid kv
 have hsa := Ex.size_eq a
 clear ku kv c1 htl hk hx hx1
 go_enter Tryz.func94, Tryz.ntmps94
 go_wp2_with fail
 have L1 := Blk.new3 w 34 (.int .i64 6) (.int .i64 n) (.slice (some ⟨kb, ko, none⟩) 2 c)
 have hB : Below w.heap.size w (w.alloc (.cells #[.int .i64 6, .int .i64 n, .slice (some ⟨kb, ko, none⟩) 2 c] 34)) := by (repeat' first | exact Below.refl _ _ | assumption | apply Below.alloc | apply Below.drew | apply Below.setCell | omega | (simp; done) | (simp; omega))
 have hz0 : (w.alloc (.cells #[.int .i64 6, .int .i64 n, .slice (some ⟨kb, ko, none⟩) 2 c] 34)).heap.size = w.heap.size + 1 := by simp
 generalize w.alloc (.cells #[.int .i64 6, .int .i64 n, .slice (some ⟨kb, ko, none⟩) 2 c] 34) = wb at L1 hB hz0 ⊢
 have hB' := hB
 have V : AppS (fun b => S b) wb 34 3 L.length (shD L) v := hV.keep fun b hb _ => hB.block b hb
 have hSl : ∀ b, S b → b < w.heap.size := fun b hb => hX b (hSX b hb)
 have Vf : ∀ b, S b → 0 ≤ b ∧ b < wb.heap.size := fun b hb => by have := hSl b hb; omega
 have hkS : ¬ S kb := fun h => hkX (hSX _ h)
 have h0b : KeptX X w0 wb := h0.trans (KeptX.of_below hB)
 obtain ⟨x0, hx0⟩ := mkval ?a1_0
 obtain ⟨x1, hx1⟩ := mkval ?a1_1
 obtain ⟨x2, hx2⟩ := mkval ?a1_2
 obtain ⟨x3, hx3⟩ := mkval ?a1_3
 obtain ⟨x4, hx4⟩ := mkval ?a1_4
 obtain ⟨x6, hx6⟩ := mkval ?a1_6
 obtain ⟨x7, hx7⟩ := mkval ?a1_7
 obtain ⟨x8, hx8⟩ := mkval ?a1_8
 obtain ⟨x9, hx9⟩ := mkval ?a1_9
 have hGb : ∀ m b, (fun m b => (m = 0 ∧ S b)) m b → (0) ≤ b ∧ b < (wb).heap.size := by
  intro m b hg
  rcases hg with ⟨rfl, hg⟩
  ·
   have q := Vf b hg
   omega
 have hGd : ∀ m m' b, (fun m b => (m = 0 ∧ S b)) m b → (fun m b => (m = 0 ∧ S b)) m' b → m = m' := by
  intro m m' b h h'
  rcases h with ⟨rfl, h⟩ <;> rcases h' with ⟨rfl, h'⟩ <;> first
   | rfl
 refine region_rs [(10, 5)] [(5, 0)] (fun m b => (m = 0 ∧ S b)) (0) (fun i iv vs wx => match i with
  | 0 => vs 0 = x0
  | 1 => vs 1 = x1
  | 2 => vs 2 = x2
  | 3 => vs 3 = x3
  | 4 => vs 4 = x4
  | 5 => ∃ v1 M1, vs 5 = v1 ∧ (M1.map Sh.e = a.summ ∧ ShX X w0 M1) ∧ AppS (foot [(10, 5)] [(5, 0)] (fun m b => (m = 0 ∧ S b)) 12 5 iv) wx 34 3 (L.length + M1.length) (shD (L ++ M1)) (v1)
  | 6 => vs 6 = x6
  | 7 => vs 7 = x7
  | 8 => vs 8 = x8
  | 9 => vs 9 = x9
  | 10 => ∃ v2 M1 M2, vs 10 = v2 ∧ ((M1.map Sh.e = a.summ ∧ ShX X w0 M1) ∧ (M2.map Sh.e = b.summ ∧ ShX X w0 M2)) ∧ AppS (foot [(10, 5)] [(5, 0)] (fun m b => (m = 0 ∧ S b)) 12 10 iv) wx 34 3 ((L ++ M1).length + M2.length) (shD (L ++ M1 ++ M2)) (v2)
  | 11 => vs 11 = vs 10
  | _ => True) (fun i iv vs => match i with
  | 0 => vs 0 = x0
  | 1 => vs 1 = x1
  | 2 => vs 2 = x2
  | 3 => vs 3 = x3
  | 4 => vs 4 = x4
  | 5 => ∃ v1 M1, vs 5 = v1 ∧ (M1.map Sh.e = a.summ ∧ ShX X w0 M1)
  | 6 => vs 6 = x6
  | 7 => vs 7 = x7
  | 8 => vs 8 = x8
  | 9 => vs 9 = x9
  | 10 => ∃ v2 M1 M2, vs 10 = v2 ∧ ((M1.map Sh.e = a.summ ∧ ShX X w0 M1) ∧ (M2.map Sh.e = b.summ ∧ ShX X w0 M2))
  | 11 => vs 11 = vs 10
  | _ => True) (by kernel_rfl) (by kernel_rfl) [0, 1, 2, 3, 4, 5, 6, 7, 8, 9, 10, 11] (by kernel_rfl) ?hbase ?hGb ?hG ?hJ ?hE ?hEE ?hstep ?hQ
 case hbase => first | exact Nat.le_refl _ | omega | (simp; omega)
 case hGb =>
  exact hGb
 case hG =>
  exact hGd
 case hJ =>
  intro i hi iv iv' vs vs' wx wx' ha hv hz hk hj
  simp only [List.mem_cons, List.not_mem_nil, or_false] at hi
  rcases hi with rfl | rfl | rfl | rfl | rfl | rfl | rfl | rfl | rfl | rfl | rfl | rfl
  ·
   exact (hv.out 0 (mem_of (by kernel_rfl))).symm.trans hj
  ·
   exact (hv.out 1 (mem_of (by kernel_rfl))).symm.trans hj
  ·
   exact (hv.out 2 (mem_of (by kernel_rfl))).symm.trans hj
  ·
   exact (hv.out 3 (mem_of (by kernel_rfl))).symm.trans hj
  ·
   exact (hv.out 4 (mem_of (by kernel_rfl))).symm.trans hj
  ·
   have e5 := hv.out 5 (mem_of (by kernel_rfl))
   obtain ⟨v1, M1, q1, q3, q2⟩ := hj
   exact ⟨v1, M1, e5 ▸ q1, q3, (q2.keep (fun b hb h1 => hk.out b hb h1)).more (fun b hb h1 => foot_agree (l := ancs _ 12 5) (by exact of_decide_eq_true (by kernel_rfl)) ha.out h1)⟩
  ·
   exact (hv.out 6 (mem_of (by kernel_rfl))).symm.trans hj
  ·
   exact (hv.out 7 (mem_of (by kernel_rfl))).symm.trans hj
  ·
   exact (hv.out 8 (mem_of (by kernel_rfl))).symm.trans hj
  ·
   exact (hv.out 9 (mem_of (by kernel_rfl))).symm.trans hj
  ·
   have e10 := hv.out 10 (mem_of (by kernel_rfl))
   obtain ⟨v2, M1, M2, q1, q3, q2⟩ := hj
   exact ⟨v2, M1, M2, e10 ▸ q1, q3, (q2.keep (fun b hb h1 => hk.out b hb h1)).more (fun b hb h1 => foot_agree (l := ancs _ 12 10) (by exact of_decide_eq_true (by kernel_rfl)) ha.out h1)⟩
  ·
   have e10 := hv.out 10 (mem_of (by kernel_rfl))
   have e11 := hv.out 11 (mem_of (by kernel_rfl))
   have hj' : vs 11 = vs 10 := hj
   show vs' 11 = vs' 10
   rw [← e10, ← e11]
   exact hj'
 case hE =>
  intro i hi iv vs wx hj
  simp only [List.mem_cons, List.not_mem_nil, or_false] at hi
  rcases hi with rfl | rfl | rfl | rfl | rfl | rfl | rfl | rfl | rfl | rfl | rfl | rfl
  ·
   exact hj
  ·
   exact hj
  ·
   exact hj
  ·
   exact hj
  ·
   exact hj
  ·
   obtain ⟨v1, M1, q1, q3, -⟩ := hj
   exact ⟨v1, M1, q1, q3⟩
  ·
   exact hj
  ·
   exact hj
  ·
   exact hj
  ·
   exact hj
  ·
   obtain ⟨v2, M1, M2, q1, q3, -⟩ := hj
   exact ⟨v2, M1, M2, q1, q3⟩
  ·
   exact hj
 case hEE =>
  intro i hi iv iv' vs vs' ha hv hj
  simp only [List.mem_cons, List.not_mem_nil, or_false] at hi
  rcases hi with rfl | rfl | rfl | rfl | rfl | rfl | rfl | rfl | rfl | rfl | rfl | rfl
  ·
   exact (hv.out 0 (mem_of (by kernel_rfl))).symm.trans hj
  ·
   exact (hv.out 1 (mem_of (by kernel_rfl))).symm.trans hj
  ·
   exact (hv.out 2 (mem_of (by kernel_rfl))).symm.trans hj
  ·
   exact (hv.out 3 (mem_of (by kernel_rfl))).symm.trans hj
  ·
   exact (hv.out 4 (mem_of (by kernel_rfl))).symm.trans hj
  ·
   have e5 := hv.out 5 (mem_of (by kernel_rfl))
   have hj' : ∃ v1 M1, vs 5 = v1 ∧ (M1.map Sh.e = a.summ ∧ ShX X w0 M1) := hj
   show ∃ v1 M1, vs' 5 = v1 ∧ (M1.map Sh.e = a.summ ∧ ShX X w0 M1)
   rw [← e5]
   exact hj'
  ·
   exact (hv.out 6 (mem_of (by kernel_rfl))).symm.trans hj
  ·
   exact (hv.out 7 (mem_of (by kernel_rfl))).symm.trans hj
  ·
   exact (hv.out 8 (mem_of (by kernel_rfl))).symm.trans hj
  ·
   exact (hv.out 9 (mem_of (by kernel_rfl))).symm.trans hj
  ·
   have e10 := hv.out 10 (mem_of (by kernel_rfl))
   have hj' : ∃ v2 M1 M2, vs 10 = v2 ∧ ((M1.map Sh.e = a.summ ∧ ShX X w0 M1) ∧ (M2.map Sh.e = b.summ ∧ ShX X w0 M2)) := hj
   show ∃ v2 M1 M2, vs' 10 = v2 ∧ ((M1.map Sh.e = a.summ ∧ ShX X w0 M1) ∧ (M2.map Sh.e = b.summ ∧ ShX X w0 M2))
   rw [← e10]
   exact hj'
  ·
   have e10 := hv.out 10 (mem_of (by kernel_rfl))
   have e11 := hv.out 11 (mem_of (by kernel_rfl))
   have hj' : vs 11 = vs 10 := hj
   show vs' 11 = vs' 10
   rw [← e10, ← e11]
   exact hj'
 case hstep =>
  intro i hi opr ho iv vs w1 hB hS hSo hd he hbd hsep hun K hK
  simp only [List.mem_cons, List.not_mem_nil, or_false] at hi
  have hzB := hB.size
  have HGb := Lib.hid hGb
  clear hGb hGd
  have kw := hSo.out.block kb (by omega) (fun ⟨_, _, h⟩ => hkS h)
  have kwb : wb.heap[kb]? = w.heap[kb]? := hB'.block kb hkb
  obtain ⟨u0, u1, u2⟩ := Hku.out.keep (kw.trans kwb)
  obtain ⟨v0, v1, v2⟩ := Hkv.out.keep (kw.trans kwb)
  have L2 := L1.keep (hSo.out.block _ L1.lt (fun ⟨_, _, h⟩ => by have := hSl _ h; omega))
  have l0 := L2.c0
  have l1 := L2.c1
  have l2 := L2.c2
  generalize hA : putFrom _ 0 vs _ = A at hK ⊢
  simp only [putFrom, puts] at hA
  rcases hi with rfl | rfl | rfl | rfl | rfl | rfl | rfl | rfl | rfl | rfl | rfl | rfl
  all_goals
   simp at ho
   subst ho
   subst hA
  ·
   go_wp2_with fail
   refine Onward.mk (hK ?val1_0 _ _ (fun h => by cases h) ?eqA (Spares.refl _) (fun iv' _ _ => ?ja))
   case eqA => first | rfl | (simp only [puts]; rfl)
   case ja => exact hx0.out.symm
  ·
   go_wp2_with fail
   refine Onward.mk (hK ?val1_1 _ _ (fun h => by cases h) ?eqA (Spares.refl _) (fun iv' _ _ => ?ja))
   case eqA => first | rfl | (simp only [puts]; rfl)
   case ja => exact hx1.out.symm
  ·
   have h1 := (hd.out 1 (mem_of (by kernel_rfl)) (by decide) (by kernel_rfl)).trans hx1.out
   go_wp2_with fail
   refine Onward.mk (hK ?val1_2 _ _ (fun h => by cases h) ?eqA (Spares.refl _) (fun iv' _ _ => ?ja))
   case eqA => first | rfl | (simp only [puts, h1]; rfl)
   case ja => exact hx2.out.symm
  ·
   have h2 := (hd.out 2 (mem_of (by kernel_rfl)) (by decide) (by kernel_rfl)).trans hx2.out
   go_wp2_with fail
   refine Onward.mk (hK ?val1_3 _ _ (fun h => by cases h) ?eqA (Spares.refl _) (fun iv' _ _ => ?ja))
   case eqA => first | rfl | (simp only [puts, h2]; rfl)
   case ja => exact hx3.out.symm
  ·
   have h3 := (hd.out 3 (mem_of (by kernel_rfl)) (by decide) (by kernel_rfl)).trans hx3.out
   go_wp2_with fail
   refine Onward.mk (hK ?val1_4 _ _ (fun h => by cases h) ?eqA (Spares.refl _) (fun iv' _ _ => ?ja))
   case eqA => first | rfl | (simp only [puts, h3]; rfl)
   case ja => exact hx4.out.symm
  ·
   have h0 := (hd.out 0 (mem_of (by kernel_rfl)) (by decide) (by kernel_rfl)).trans hx0.out
   have h4 := (hd.out 4 (mem_of (by kernel_rfl)) (by decide) (by kernel_rfl)).trans hx4.out
   have V1 := V.keep (fun b _ hb => hS.out 0 b (by kernel_rfl) ⟨rfl, hb⟩)
   go_wp2_with fail
   refine (HIH.out a.size (by omega) a X S v L _ _ w0 w1 (Nat.le_refl _) (h0b.trans (KeptX.of_spares hSo.out (fun b _ ⟨_, _, h⟩ => hSX b h))) (fun b hb => by have := hX b hb; have := hSo.out.size; omega) hSX hu hat (by omega) V1).mono ?_
   rintro e w2 ⟨v1, M1, rfl, hp, hap, ht⟩
   go_wp2_with fail
   exact Onward.mk (hK (v1) _ _ (fun h => by cases h) (by first | rfl | (simp only [puts, h0, h4])) (ht.more (fun b h => Or.inl ⟨0, by decide, ⟨rfl, h⟩⟩)) (fun iv' ag hi => ⟨v1, M1, rfl, hp, hap.more (fun b _ h => by rcases h with h | h; exact foot_given 0 (by decide) ⟨rfl, h⟩; exact foot_new hi h.1 h.2)⟩))
  ·
   go_wp2_with fail
   refine Onward.mk (hK ?val1_6 _ _ (fun h => by cases h) ?eqA (Spares.refl _) (fun iv' _ _ => ?ja))
   case eqA => first | rfl | (simp only [puts]; rfl)
   case ja => exact hx6.out.symm
  ·
   have h6 := (hd.out 6 (mem_of (by kernel_rfl)) (by decide) (by kernel_rfl)).trans hx6.out
   go_wp2_with fail
   refine Onward.mk (hK ?val1_7 _ _ (fun h => by cases h) ?eqA (Spares.refl _) (fun iv' _ _ => ?ja))
   case eqA => first | rfl | (simp only [puts, h6]; rfl)
   case ja => exact hx7.out.symm
  ·
   have h7 := (hd.out 7 (mem_of (by kernel_rfl)) (by decide) (by kernel_rfl)).trans hx7.out
   go_wp2_with fail
   refine Onward.mk (hK ?val1_8 _ _ (fun h => by cases h) ?eqA (Spares.refl _) (fun iv' _ _ => ?ja))
   case eqA => first | rfl | (simp only [puts, h7]; rfl)
   case ja => exact hx8.out.symm
  ·
   have h8 := (hd.out 8 (mem_of (by kernel_rfl)) (by decide) (by kernel_rfl)).trans hx8.out
   go_wp2_with fail
   refine Onward.mk (hK ?val1_9 _ _ (fun h => by cases h) ?eqA (Spares.refl _) (fun iv' _ _ => ?ja))
   case eqA => first | rfl | (simp only [puts, h8]; rfl)
   case ja => exact hx9.out.symm
  ·
   obtain ⟨v1, M1, h5, p5, f5⟩ := hd.out 5 (mem_of (by kernel_rfl)) (by decide) (by kernel_rfl)
   have h9 := (hd.out 9 (mem_of (by kernel_rfl)) (by decide) (by kernel_rfl)).trans hx9.out
   have hF5 : ∀ b, (foot [(10, 5)] [(5, 0)] (fun m b => (m = 0 ∧ S b)) 12 5 iv) b → (S b) ∨ ((wb).heap.size ≤ b ∧ b < w1.heap.size) := by
    rintro b ⟨j, hj, hh⟩
    have hj' := of_decide_eq_true (List.all_eq_true.1 (show ((chainOf [(10, 5)] 12 5).all fun j => decide (j ∈ [5])) = true from by kernel_rfl) j hj)
    simp only [List.mem_cons, List.not_mem_nil, or_false] at hj'
    rcases hj' with rfl
    ·
     have q := (hbd.out 5 (mem_of (by kernel_rfl)) (by decide))
     rcases hh with hh | ⟨m, hm, hg⟩
     ·
      exact Or.inr (by omega)
     ·
      simp at hm; subst hm; simp at hg; exact Or.inl hg
   have h01 : KeptX X w0 w1 := h0b.trans (KeptX.of_spares hSo.out (fun b _ ⟨_, _, h⟩ => hSX b h))
   have hQ1 : KeptX (fun b => (X b ∨ w0.heap.size ≤ b) ∧ b < w1.heap.size) w0 w1 := h01.more (fun b hb h => ⟨Or.inl h, Nat.lt_of_lt_of_le hb h01.1⟩)
   have hQ3 : ∀ b, foot [(10, 5)] [(5, 0)] (fun m b => (m = 0 ∧ S b)) 12 5 iv b → (X b ∨ w0.heap.size ≤ b) ∧ b < w1.heap.size := fun b h => by
    have q1 := h0b.1
    have q2 := hSo.out.size
    rcases hF5 b h with h | h
    ·
     exact ⟨Or.inl (hSX b h), by have := Vf b h; omega⟩
    ·
     exact ⟨Or.inr (by omega), h.2⟩
   have hQ4 : ExX (fun b => (X b ∨ w0.heap.size ≤ b) ∧ b < w1.heap.size) w0 b sv cv := hv.less (fun b hb h => h.1.elim id (fun q => by omega))
   have hQ5 : (L ++ M1).length + b.size ≤ 1000000 := by
    have q1 := congrArg List.length p5.1
    rw [List.length_map] at q1
    have q2 := summ_len hat
    rw [List.length_append]
    omega
   go_wp2_with fail
   refine (HIH.out b.size (by omega) b (fun b => (X b ∨ w0.heap.size ≤ b) ∧ b < w1.heap.size) _ v1 (L ++ M1) _ _ w0 w1 (Nat.le_refl _) hQ1 (fun b h => h.2) hQ3 hQ4 hbt hQ5 (by rw [List.length_append]; exact f5)).mono ?_
   rintro e w2 ⟨v2, M2, rfl, hp, hap, ht⟩
   go_wp2_with fail
   exact Onward.mk (hK (v2) _ _ (fun h => by cases h) (by first | rfl | (simp only [puts, h5, h9])) (ht.more (fun b h => Or.inr ⟨5, by decide, h⟩)) (fun iv' ag hi => ⟨v2, M1, M2, rfl, ⟨p5, hp.1, fun x hx => (hp.2 x hx).less (fun b hb h => ⟨Or.inl h, Nat.lt_of_lt_of_le hb (h0b.trans (KeptX.of_spares hSo.out (fun b _ ⟨_, _, h⟩ => hSX b h))).1⟩)⟩, hap.more (fun b _ h => by rcases h with h | h; exact foot_step (by kernel_rfl) ag h; exact foot_new hi h.1 h.2)⟩))
  ·
   obtain ⟨v2, M1, M2, h10, p10, f10⟩ := hd.out 10 (mem_of (by kernel_rfl)) (by decide) (by kernel_rfl)
   go_wp2_with fail
   refine Onward.mk (hK ?val1_11 _ _ (fun h => by cases h) ?eqA (Spares.refl _) (fun iv' _ _ => ?ja))
   case eqA => first | rfl | (simp only [puts, h10]; rfl)
   case ja => show _ = vs 10; simp only [h10]; rfl
 case hQ =>
  intro iv vs wx hB hSp hd he hbd hsep
  have hzB := hB.size
  have h0 := (hd.out 0 (mem_of (by kernel_rfl)) (not_eaten (by kernel_rfl))).trans hx0.out
  have h1 := (hd.out 1 (mem_of (by kernel_rfl)) (not_eaten (by kernel_rfl))).trans hx1.out
  have h2 := (hd.out 2 (mem_of (by kernel_rfl)) (not_eaten (by kernel_rfl))).trans hx2.out
  have h3 := (hd.out 3 (mem_of (by kernel_rfl)) (not_eaten (by kernel_rfl))).trans hx3.out
  have h4 := (hd.out 4 (mem_of (by kernel_rfl)) (not_eaten (by kernel_rfl))).trans hx4.out
  obtain ⟨v1, M1, h5, p5⟩ := he.out 5 (mem_of (by kernel_rfl))
  have h6 := (hd.out 6 (mem_of (by kernel_rfl)) (not_eaten (by kernel_rfl))).trans hx6.out
  have h7 := (hd.out 7 (mem_of (by kernel_rfl)) (not_eaten (by kernel_rfl))).trans hx7.out
  have h8 := (hd.out 8 (mem_of (by kernel_rfl)) (not_eaten (by kernel_rfl))).trans hx8.out
  have h9 := (hd.out 9 (mem_of (by kernel_rfl)) (not_eaten (by kernel_rfl))).trans hx9.out
  obtain ⟨v2, M1, M2, h10, p10, f10⟩ := hd.out 10 (mem_of (by kernel_rfl)) (not_eaten (by kernel_rfl))
  have h11 : vs 11 = vs 10 := hd.out 11 (mem_of (by kernel_rfl)) (not_eaten (by kernel_rfl))
  simp only [putFrom, puts]
  have so10 : ∀ b, (foot [(10, 5)] [(5, 0)] (fun m b => (m = 0 ∧ S b)) 12 10 iv) b → S b ∨ (wb).heap.size ≤ b := by
   rintro b ⟨j, hj, hh⟩
   have hj' := of_decide_eq_true (List.all_eq_true.1 (show ((chainOf [(10, 5)] 12 10).all fun j => decide (j ∈ [10, 5])) = true from by kernel_rfl) j hj)
   simp only [List.mem_cons, List.not_mem_nil, or_false] at hj'
   rcases hj' with rfl | rfl
   ·
    have q := (hbd.out 10 (mem_of (by kernel_rfl))).1
    rcases hh with hh | ⟨m, hm, hg⟩
    ·
     exact Or.inr (by omega)
    ·
     simp at hm
   ·
    have q := (hbd.out 5 (mem_of (by kernel_rfl))).1
    rcases hh with hh | ⟨m, hm, hg⟩
    ·
     exact Or.inr (by omega)
    ·
     simp at hm; subst hm; simp at hg; exact Or.inl hg
  have hS2 := hSp.out
  clear hd he hbd hsep
  go_wp2_with fail
  go_ret
  refine ⟨v2, rfl, M1 ++ M2, ⟨by rw [hsum.out, List.map_append, p10.1.1, p10.2.1], p10.1.2.append p10.2.2⟩, ?_, ?_⟩
  ·
   have q := f10.more (T := fun b => S b ∨ (w.heap.size ≤ b ∧ b < wx.heap.size)) (fun b hb h => (so10 b h).imp id (fun h => ⟨by omega, hb⟩))
   rw [List.append_assoc, List.length_append, Nat.add_assoc, ← List.length_append] at q
   exact q
  ·
   exact (Spares.of_below hB').trans (hS2.more fun b ⟨_, _, h⟩ => h)
end Go.Proofs.YtcokljhamhgelaaGreatDoor

namespace Go.Proofs
open Go.Shelf
def Tryz.sortNamed_ren : Go.Shelf.Ren := ⟨fun | 6 => 95 | 15 => 106 | 14 => 105 | 28 => 120 | 29 => 121 | 20 => 112 | 21 => 113 | 22 => 114 | 23 => 115 | 24 => 116 | 25 => 117 | 26 => 118 | 27 => 119 | 46 => 125 | 47 => 126 | 48 => 127 | 49 => 128 | 50 => 129 | 57 => 134 | n => n, fun | 22 => 128 | 24 => 131 | 25 => 134 | 3 => 3 | 39 => 120 | 0 => 0 | 53 => 161 | 55 => 163 | 4 => 4 | 46 => 154 | 45 => 153 | 50 => 158 | 5 => 5 | 9 => 9 | 66 => 166 | 70 => 170 | 76 => 177 | 77 => 178 | n => n, fun | n => n⟩
theorem Tryz.sortNamed : Go.Proofs.SlLaysF0.n6 Tryz.prog Tryz.sortNamed_ren := {
 mixed := by kernel_rfl
 f6 := ⟨Tryz.f95.name, by decide, Tryz.func95.trans (congrArg some (by kernel_rfl))⟩
 f14 := ⟨Tryz.f105.name, by decide, Tryz.func105.trans (congrArg some (by kernel_rfl))⟩
 f15 := Tryz.func106.trans (congrArg some (by kernel_rfl))
 f20 := ⟨Tryz.f112.name, by decide, Tryz.func112.trans (congrArg some (by kernel_rfl))⟩
 f21 := ⟨Tryz.f113.name, by decide, Tryz.func113.trans (congrArg some (by kernel_rfl))⟩
 f22 := ⟨Tryz.f114.name, by decide, Tryz.func114.trans (congrArg some (by kernel_rfl))⟩
 f23 := ⟨Tryz.f115.name, by decide, Tryz.func115.trans (congrArg some (by kernel_rfl))⟩
 f24 := ⟨Tryz.f116.name, by decide, Tryz.func116.trans (congrArg some (by kernel_rfl))⟩
 f25 := ⟨Tryz.f117.name, by decide, Tryz.func117.trans (congrArg some (by kernel_rfl))⟩
 f26 := ⟨Tryz.f118.name, by decide, Tryz.func118.trans (congrArg some (by kernel_rfl))⟩
 f27 := ⟨Tryz.f119.name, by decide, Tryz.func119.trans (congrArg some (by kernel_rfl))⟩
 f28 := Tryz.func120.trans (congrArg some (by kernel_rfl))
 f29 := Tryz.func121.trans (congrArg some (by kernel_rfl))
 f46 := ⟨Tryz.f125.name, by decide, Tryz.func125.trans (congrArg some (by kernel_rfl))⟩
 f47 := Tryz.func126.trans (congrArg some (by kernel_rfl))
 f48 := Tryz.func127.trans (congrArg some (by kernel_rfl))
 f49 := ⟨Tryz.f128.name, by decide, Tryz.func128.trans (congrArg some (by kernel_rfl))⟩
 f50 := ⟨Tryz.f129.name, by decide, Tryz.func129.trans (congrArg some (by kernel_rfl))⟩
 f57 := ⟨Tryz.f134.name, by decide, Tryz.func134.trans (congrArg some (by kernel_rfl))⟩
 t0 := Tryz.underlying0
 a0 := Tryz.isAgg0
 z0 := Tryz.sizeOf0
 v0 := Tryz.zeroValue0
 t3 := Tryz.underlying3
 a3 := Tryz.isAgg3
 z3 := Tryz.sizeOf3
 v3 := Tryz.zeroValue3
 t4 := Tryz.underlying4
 a4 := Tryz.isAgg4
 z4 := Tryz.sizeOf4
 v4 := Tryz.zeroValue4
 t5 := Tryz.underlying5
 a5 := Tryz.isAgg5
 z5 := Tryz.sizeOf5
 v5 := Tryz.zeroValue5
 t9 := Tryz.underlying9
 a9 := Tryz.isAgg9
 z9 := Tryz.sizeOf9
 v9 := Tryz.zeroValue9
 t22 := Tryz.underlying128
 a22 := Tryz.isAgg128
 z22 := Tryz.sizeOf128
 v22 := Tryz.zeroValue128
 t25 := Tryz.underlying134
 a25 := Tryz.isAgg134
 z25 := Tryz.sizeOf134
 v25 := Tryz.zeroValue134
 t39 := Tryz.underlying120
 a39 := Tryz.isAgg120
 z39 := Tryz.sizeOf120
 v39 := Tryz.zeroValue120
 t45 := Tryz.underlying153
 a45 := Tryz.isAgg153
 z45 := Tryz.sizeOf153
 v45 := Tryz.zeroValue153
 t46 := Tryz.underlying154
 a46 := Tryz.isAgg154
 z46 := Tryz.sizeOf154
 v46 := Tryz.zeroValue154
 t50 := Tryz.underlying158
 a50 := Tryz.isAgg158
 z50 := Tryz.sizeOf158
 v50 := Tryz.zeroValue158
 t53 := Tryz.underlying161
 a53 := Tryz.isAgg161
 z53 := Tryz.sizeOf161
 v53 := Tryz.zeroValue161
 t55 := Tryz.underlying163
 a55 := Tryz.isAgg163
 z55 := Tryz.sizeOf163
 v55 := Tryz.zeroValue163
 t66 := Tryz.underlying166
 a66 := Tryz.isAgg166
 z66 := Tryz.sizeOf166
 v66 := Tryz.zeroValue166
 t70 := Tryz.underlying170
 a70 := Tryz.isAgg170
 z70 := Tryz.sizeOf170
 v70 := Tryz.zeroValue170
 t76 := Tryz.underlying177
 a76 := Tryz.isAgg177
 z76 := Tryz.sizeOf177
 v76 := Tryz.zeroValue177
 t77 := Tryz.underlying178
 a77 := Tryz.isAgg178
 z77 := Tryz.sizeOf178
 v77 := Tryz.zeroValue178 }
end Go.Proofs

namespace Go.Proofs.YtcokljhamhgelaaGreatDoor
set_option linter.unusedVariables false
set_option linter.unusedSimpArgs false
open Go.ChangeShapes Go.WideShapes Go.ChangeAt Go.RowKit Go.Deep Go.Sort
theorem compare_lt : ∀ a b : List UInt8, Lib.compareBytes a b < 0 ↔ a < b
 | [], [] => by simp [Lib.compareBytes]
 | [], y :: b => by simp [Lib.compareBytes]
 | x :: a, [] => by simp [Lib.compareBytes]
 | x :: a, y :: b => by
  rw [Lib.compareBytes, List.cons_lt_cons_iff]
  by_cases h1 : x < y
  ·
   simp [h1]
  ·
   by_cases h2 : y < x
   ·
    rw [if_neg h1, if_pos h2]
    have h3 : x ≠ y := fun e => by subst e; exact h1 h2
    simp [h1, h3]
   ·
    rw [if_neg h1, if_neg h2, compare_lt a b]
    have h3 : x = y := UInt8.le_antisymm (UInt8.not_lt.1 h2) (UInt8.not_lt.1 h1)
    simp [h1, h3]
instance shInh : Inhabited Sh := ⟨⟨.mk 0 0 [], none, 0⟩⟩
def Sh.named (x : Sh) : List Value := [.string (bs x.e.text), .int .i64 x.e.kind, .int .i64 x.e.num, .slice x.s x.e.kids.length x.c]
def cmpS (x y : Sh) : Int := Lib.compareBytes x.e.text y.e.text
theorem ltS (x y : Sh) : ltOf cmpS x y = decide (x.e.text < y.e.text) := by
 unfold ltOf cmpS
 by_cases h : x.e.text < y.e.text
 ·
  simp [h, compare_lt]
 ·
  simp only [h, decide_false, decide_eq_false_iff_not]
  rw [compare_lt]
  exact h
theorem swoS : SWO (ltOf cmpS) where
 irrefl x := by rw [ltS]; simp [List.lt_irrefl]
 trans x y z h1 h2 := by
  rw [ltS] at *
  simp only [decide_eq_true_eq] at *
  exact List.lt_trans h1 h2
 ntrans x y z h1 h2 := by
  rw [ltS] at *
  simp only [decide_eq_false_iff_not, List.not_lt] at *
  exact List.le_trans h2 h1
set_option maxHeartbeats 1000000 in
theorem closure_i (x y : Sh) (W : World) : Calls Tryz.prog 96 #[.agg x.named.toArray, .agg y.named.toArray] W fun e w' => e = .returned (.int .i64 (cmpS x y)) ∧ ∃ q os', w' = grow (W.drewN q) os' := by
 have hcon := fun W' => Tryz.strings_Compare (bs x.e.text) (bs y.e.text) W'
 have e1 : Lib.compareBytes (bs x.e.text).data.toList (bs y.e.text).data.toList = cmpS x y := by simp [bs, cmpS]
 simp only [e1] at hcon
 generalize cmpS x y = r at hcon ⊢
 simp only [Sh.named]
 generalize bs x.e.text = tx at hcon ⊢
 generalize bs y.e.text = ty at hcon ⊢
 go_enter Tryz.func96, Tryz.ntmps96
 go_wp2_with fail
 refine (hcon _).mono ?_
 rintro e w' ⟨rfl, rfl⟩
 go_wp2_with fail
 go_ret
 exact ⟨rfl, 0, _, by rw [alloc_eq_grow, alloc_eq_grow, grow_grow]; rfl⟩
def namedsV (N : List Sh) : List Value := N.flatMap Sh.named
theorem namedsV_length : ∀ N : List Sh, (namedsV N).length = N.length * 4
 | [] => rfl
 | x :: r => by
  have := namedsV_length r
  simp only [namedsV, List.flatMap_cons, List.length_append, List.length_cons, Sh.named] at this ⊢
  simp only [List.length_nil]
  omega
theorem namedsV_at : ∀ (N : List Sh) (i : Nat) (x : Sh), N[i]? = some x → ∀ j, j < 4 → (namedsV N)[i * 4 + j]? = x.named[j]?
 | [], i, x, h => by simp at h
 | y :: r, 0, x, h => by
  simp at h
  subst h
  intro j hj
  simp only [namedsV, List.flatMap_cons, Nat.zero_mul, Nat.zero_add]
  rw [List.getElem?_append_left (by simp [Sh.named]; exact hj)]
 | y :: r, i + 1, x, h => by
  intro j hj
  have := namedsV_at r i x (by simpa using h) j hj
  simp only [namedsV, List.flatMap_cons] at this ⊢
  rw [List.getElem?_append_right (by simp [Sh.named]; omega)]
  rw [← this]
  congr 1
  simp [Sh.named]
  omega
theorem sortWorld_spares (w : World) (g n : Nat) (d : Array Sh) (os : Array Obj) : Spares (fun b => b = g) w (sortWorldK Sh.named 4 w g 0 n d os) := by
 refine ⟨rfl, rfl, rfl, by simp [sortWorldK, putRowK, putRow, mapBlock, Sort.ahead, grow], fun b hb hne => ?_⟩
 unfold sortWorldK
 rw [heap_grow_old _ _ (by simpa [putRowK, putRow, mapBlock, Sort.ahead] using hb)]
 have hne' : g ≠ b := fun e => hne e.symm
 simp [putRowK, putRow, mapBlock, Sort.ahead, Array.getElem?_modify, hne']
set_option maxHeartbeats 1000000 in
theorem sort_named {N : List Sh} {g cap t : Nat} {rest : List Value} {w : World} (hb : Blk w g t (namedsV N ++ rest)) (hsz : N.length < 1000000000) :
  Calls Tryz.prog 95 #[.slice (some ⟨g, 0, none⟩) N.length cap, .func (.func 96) #[] #[]] w fun e w' => e = .returned (.tuple #[]) ∧
   ∃ N' : List Sh, N'.Perm N ∧ N'.Pairwise (fun a b => leT a.e b.e) ∧ (∀ i x, N'[i]? = some x → ∀ j v, x.named[j]? = some v → w'.cell? ⟨g, i * 4 + j, none⟩ = some v) ∧ Spares (fun b => b = g) w w' := by
 have eg : ∀ args w, (callFunc 96 args).run Tryz.prog w = .ok (.enter 96 args) w := enters_of Tryz.func96 (by kernel_rfl) rfl
 have hcell : ∀ i x, N[i]? = some x → ∀ j v, x.named[j]? = some v → w.cell? ⟨g, i * 4 + j, none⟩ = some v := by
  intro i x hx j v hv
  have hj : j < 4 := by have := (List.getElem?_eq_some_iff.1 hv).1; simpa [Sh.named] using this
  have hi := (List.getElem?_eq_some_iff.1 hx).1
  rw [hb.cell, List.getElem?_append_left (by rw [namedsV_length]; omega), namedsV_at N i x hx j hj, hv]
 have hH : HoldsK Sh.named 4 w g 0 N.toArray := by
  intro t ht
  rw [size_flatK] at ht
  simp only [List.size_toArray] at ht
  rw [get_flatK _ _ _ _ (by simpa using ht)]
  refine ⟨?_, hb.frozen _⟩
  have hi : t / 4 < N.length := by omega
  obtain ⟨x, hx⟩ : ∃ x, N[t / 4]? = some x := ⟨_, List.getElem?_eq_getElem hi⟩
  have hd : N.toArray[t / 4]! = x := by simp [hx]
  have := hcell _ x hx (t % 4) (x.named[t % 4]!) (by
   have h4 : t % 4 < x.named.length := by simp [Sh.named]; omega
   rw [List.getElem!_eq_getElem?_getD, List.getElem?_eq_getElem h4]; rfl)
  rw [show t / 4 * 4 + t % 4 = t by omega] at this
  rw [hd, Nat.zero_add]
  exact this
 have hcon := AnyQ.slices_SortFunc Tryz.sortNamed 4 Tryz.isAgg131 Tryz.sizeOf131 Sh.named (fun _ => rfl) (fun x v hv => by simp [Sh.named] at hv; rcases hv with rfl | rfl | rfl | rfl <;> rfl) cmpS swoS 96 #[] g 0 cap N.toArray w eg (fun _ _ _ _ x y => closure_i x y _) hH hb.lt (by simp; omega)
 refine hcon.mono ?_
 rintro e w' ⟨rfl, d', n, os, ⟨p1, -, p2⟩, hs, rfl⟩
 simp only [List.size_toArray] at p1 p2 hs
 have pe : d'.toList.Perm N := by
  have q1 : d'.extract 0 N.length = d' := by rw [← p1]; exact Array.extract_size
  have q2 : (N.toArray).extract 0 N.length = N.toArray := by
   simp
  rw [q1, q2] at p2
  simpa using p2
 refine ⟨rfl, d'.toList, pe, ?_, ?_, sortWorld_spares _ _ _ _ _⟩
 ·
  rw [List.pairwise_iff_getElem]
  intro i j hi hj hij
  have h1 := hs i j (Nat.zero_le _) hij (by simp at hj; omega)
  rw [ltS] at h1
  simp only [decide_eq_false_iff_not] at h1
  unfold leT
  have ei : d'[i]! = d'.toList[i] := by simp at hi; simp [hi]
  have ej : d'[j]! = d'.toList[j] := by simp at hj; simp [hj]
  rw [ei, ej] at h1
  exact h1
 ·
  intro i x hx j v hv
  have hH' := holdsK_sortWorldK_c (enc := Sh.named) (k := 4) (w := w) (blk := g) (off := 0) N.toArray d' n os hH hb.lt (by simpa using p1)
  have hi : i < d'.size := by have := (List.getElem?_eq_some_iff.1 hx).1; simpa using this
  have hj : j < 4 := by have := (List.getElem?_eq_some_iff.1 hv).1; simpa [Sh.named] using this
  have := (hH'.cell hi hj).1
  have ed : d'[i]! = x := by
   obtain ⟨h1, h2⟩ := List.getElem?_eq_some_iff.1 hx
   rw [← h2]
   simp [hi]
  rw [ed, Nat.zero_add] at this
  rw [this, List.getElem!_eq_getElem?_getD, hv]
  rfl
end Go.Proofs.YtcokljhamhgelaaGreatDoor
