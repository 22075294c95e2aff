/-
  Parts of a proof, joined: TextE, Inj, Map, Pky, Grow. No condition.
-/
import Derived.Maps.OwnOps
import Derived.DeepKeys4
import Derived.Test.YtcokljhamhgelaaGreatDoorPk6
namespace Go.Proofs.YtcokljhamhgelaaGreatDoor
set_option linter.unusedVariables false
set_option linter.unusedSimpArgs false
open Go.ChangeShapes Go.WideShapes Go.ChangeAt Go.RowKit Go.Sort
def texC (k n : Int) (ts : List (List UInt8)) : List UInt8 :=
 if k = 1 then [48] else if k = 2 then [49] else if k = 3 then [116] ++ Lib.decDigits n.toNat else if k = 4 then [97] ++ Lib.decDigits n.toNat else if k = 5 then [126] ++ ts.getD 0 []
 else if k = 6 then [40] ++ ts.getD 0 [] ++ [32, 43, 32] ++ ts.getD 1 [] ++ [41] else if k = 7 then [40] ++ ts.getD 0 [] ++ [32] ++ ts.getD 1 [] ++ [41] else ts.getD 0 [] ++ [42]
mutual
def Ex.text : Ex → List UInt8
 | .mk k n ks => texC k n (Ex.textL ks)
def Ex.textL : List Ex → List (List UInt8)
 | [] => []
 | e :: r => e.text :: Ex.textL r
end
theorem numB_any {tm am k n : Int} (hk : k = 3 ∨ k = 4) (h : numB tm am k n = true) (ht : tm ≤ 8) (ha : am ≤ 8) : 0 ≤ n ∧ n ≤ 8 := by
 rcases hk with rfl | rfl <;> simp [numB, inB] at h <;> omega
theorem digits_one {m : Nat} (h : m < 10) : (Lib.decDigits m).length = 1 := by rw [Lib.decDigits_one h]; rfl
theorem text_bound (tm am : Int) (ht : tm ≤ 8) (ha : am ≤ 8) (N : Nat) : ∀ e : Ex, e.size ≤ N → e.tree tm am = true → e.text.length ≤ 5 * e.size := by
 induction N using Nat.strongRecOn with
 | _ N ih =>
 intro e hN htr
 obtain ⟨k, n, ks⟩ := e
 obtain ⟨hk, hnum, hc, htl⟩ := tree_parts htr
 have hs := Ex.size_eq (.mk k n ks)
 simp only [Ex.kids] at hs
 have kid : ∀ x, x ∈ ks → x.text.length ≤ 5 * x.size := fun x hx => ih x.size (by have := Ex.sizeL_mem hx; omega) x (Nat.le_refl _) (Ex.treeL_mem htl hx)
 rcases kind_cases hk with rfl | rfl | rfl | rfl | rfl | rfl | rfl | rfl
 ·
  simp [Ex.text, texC]; omega
 ·
  simp [Ex.text, texC]; omega
 ·
  obtain ⟨h0, h8⟩ := numB_any (by omega) hnum ht ha
  simp only [Ex.text, texC]
  simp [digits_one (show n.toNat < 10 by omega)]
  omega
 ·
  obtain ⟨h0, h8⟩ := numB_any (by omega) hnum ht ha
  simp only [Ex.text, texC]
  simp [digits_one (show n.toNat < 10 by omega)]
  omega
 ·
  obtain ⟨x, rfl⟩ := one_kid hk (by omega)
  have := kid x (by simp)
  simp [Ex.text, texC, Ex.textL]
  simp only [Ex.sizeL] at hs
  omega
 ·
  obtain ⟨x, y, rfl⟩ := two_kids hk (by omega)
  have := kid x (by simp)
  have := kid y (by simp)
  simp [Ex.text, texC, Ex.textL]
  simp only [Ex.sizeL] at hs
  omega
 ·
  obtain ⟨x, y, rfl⟩ := two_kids hk (by omega)
  have := kid x (by simp)
  have := kid y (by simp)
  simp [Ex.text, texC, Ex.textL]
  simp only [Ex.sizeL] at hs
  omega
 ·
  obtain ⟨x, rfl⟩ := one_kid hk (by omega)
  have := kid x (by simp)
  simp [Ex.text, texC, Ex.textL]
  simp only [Ex.sizeL] at hs
  omega
set_option maxHeartbeats 16000000 in
theorem writeExpr_all (W0 : World) (B b : Nat) (hW : W0.heap.size ≤ B) (tm am : Int) (ht : tm ≤ 8) (ha : am ≤ 8) (N : Nat) : ∀ (k n : Int) (ks : List Ex) (s : Option Addr) (c : Nat) (S : Nat → Prop) (l : List UInt8) (w : World), Ex.sizeL ks ≤ N → Rd W0 (kidsD ks) (.slice s ks.length c) →
  Ex.tree tm am (.mk k n ks) = true → Below W0.heap.size W0 w → BldAt B S b l w → B ≤ w.heap.size → l.length + 5 * (1 + Ex.sizeL ks) ≤ 100000000 →
  Calls Tryz.prog 92 #[.pointer (some ⟨b, 0, none⟩), .agg #[.int .i64 k, .int .i64 n, .slice s ks.length c]] w fun e w' => e = .returned (.tuple #[]) ∧ BldAt B (fun x => S x ∨ (w.heap.size ≤ x ∧ x < w'.heap.size)) b (l ++ Ex.text (.mk k n ks)) w' ∧ Spares S w w' := by
 induction N using Nat.strongRecOn with
 | _ N ih =>
 intro k n ks s c S l w hN hr htr h0 hb hB hlen
 obtain ⟨hk, hnum, hc, htl⟩ := tree_parts htr
 rcases kind_cases hk with rfl | rfl | rfl | rfl | rfl | rfl | rfl | rfl
 ·
  have e0 : Ex.text (.mk 1 n ks) = [48] := by simp [Ex.text, texC]
  clear hk hnum htl hc htr
  go_enter Tryz.func92, Tryz.ntmps92
  go_wp2_with fail
  have L := Blk.new3 w 34 (.int .i64 1) (.int .i64 n) (.slice s ks.length c)
  have hS := hb.set.2
  have hb1 := BldS.start (hb.below (Below.alloc (Below.refl _ _) (Nat.le_refl _) (.cells #[.int .i64 1, .int .i64 n, .slice s ks.length c] 34)))
  have hBw : Below w.heap.size w (w.alloc (.cells #[.int .i64 1, .int .i64 n, .slice s ks.length c] 34)) := Below.alloc (Below.refl _ _) (Nat.le_refl _) _
  clear hb
  generalize w.alloc (.cells #[.int .i64 1, .int .i64 n, .slice s ks.length c] 34) = w1 at L hb1 hBw ⊢
  have hb := hb1
  have h01 : Below W0.heap.size W0 w1 := h0.trans (hBw.mono (by omega))
  have hz1 := hBw.size
  have HS := Lib.hid hS
  have HBw := Lib.hid hBw
  have H01 := Lib.hid h01
  clear hb1 hS hBw h01
  have l0 := L.c0
  go_wp2_with fail
  clear l0
  obtain ⟨T, hT, hTS⟩ := hb.ex
  refine (WriteString_i (s := [48]) hT (by simp only [List.length_append, List.length_cons, List.length_nil] at *; omega) (by omega)).mono ?_
  rintro e w2 ⟨⟨u, rfl⟩, hb', hs'⟩
  have szw2 := hs'.size
  replace hb := hb.next hTS hb' hs'
  clear hT hTS hb' hs' T
  have h0c : Below W0.heap.size W0 w2 := H01.out.trans (hb.sp.below (by omega) (fun x hx => by have := HS.out x hx; omega))
  have L2 := L.keep (hb.sp.block _ L.lt (fun hx => by have := HS.out _ hx; omega))
  have l0 := L2.c0
  have l1 := L2.c1
  have l2 := L2.c2
  go_wp2_with fail
  refine bodyPost_end (v := .tuple #[]) (by simp [results, Tryz.results92, go_sem]) rfl ?_
  refine ⟨rfl, ?_⟩
  rw [e0]
  try simp only [List.append_assoc] at hb ⊢
  exact hb.done HBw.out HS.out hB
 ·
  have e0 : Ex.text (.mk 2 n ks) = [49] := by simp [Ex.text, texC]
  clear hk hnum htl hc htr
  go_enter Tryz.func92, Tryz.ntmps92
  go_wp2_with fail
  have L := Blk.new3 w 34 (.int .i64 2) (.int .i64 n) (.slice s ks.length c)
  have hS := hb.set.2
  have hb1 := BldS.start (hb.below (Below.alloc (Below.refl _ _) (Nat.le_refl _) (.cells #[.int .i64 2, .int .i64 n, .slice s ks.length c] 34)))
  have hBw : Below w.heap.size w (w.alloc (.cells #[.int .i64 2, .int .i64 n, .slice s ks.length c] 34)) := Below.alloc (Below.refl _ _) (Nat.le_refl _) _
  clear hb
  generalize w.alloc (.cells #[.int .i64 2, .int .i64 n, .slice s ks.length c] 34) = w1 at L hb1 hBw ⊢
  have hb := hb1
  have h01 : Below W0.heap.size W0 w1 := h0.trans (hBw.mono (by omega))
  have hz1 := hBw.size
  have HS := Lib.hid hS
  have HBw := Lib.hid hBw
  have H01 := Lib.hid h01
  clear hb1 hS hBw h01
  have l0 := L.c0
  go_wp2_with fail
  clear l0
  obtain ⟨T, hT, hTS⟩ := hb.ex
  refine (WriteString_i (s := [49]) hT (by simp only [List.length_append, List.length_cons, List.length_nil] at *; omega) (by omega)).mono ?_
  rintro e w2 ⟨⟨u, rfl⟩, hb', hs'⟩
  have szw2 := hs'.size
  replace hb := hb.next hTS hb' hs'
  clear hT hTS hb' hs' T
  have h0c : Below W0.heap.size W0 w2 := H01.out.trans (hb.sp.below (by omega) (fun x hx => by have := HS.out x hx; omega))
  have L2 := L.keep (hb.sp.block _ L.lt (fun hx => by have := HS.out _ hx; omega))
  have l0 := L2.c0
  have l1 := L2.c1
  have l2 := L2.c2
  go_wp2_with fail
  refine bodyPost_end (v := .tuple #[]) (by simp [results, Tryz.results92, go_sem]) rfl ?_
  refine ⟨rfl, ?_⟩
  rw [e0]
  try simp only [List.append_assoc] at hb ⊢
  exact hb.done HBw.out HS.out hB
 ·
  obtain ⟨n0, n8⟩ := numB_any (by omega) hnum ht ha
  obtain ⟨m, rfl⟩ : ∃ m : Nat, n = (m : Int) := ⟨n.toNat, by omega⟩
  have e0 : Ex.text (.mk 3 m ks) = 116 :: Lib.decDigits m := by simp [Ex.text, texC]
  have hm : m < 10 := by omega
  have Hd := Lib.hid (digits_one hm)
  have Ha : ∀ w, (Op.stringOp .add { data := #[116] } (bs (Lib.decDigits m))).run Tryz.prog w = .ok (.string (bs ([116] ++ Lib.decDigits m))) w := run_cat [116] _ (by rw [digits_one hm]; simp)
  clear hk hnum htl hc htr n0 n8
  go_enter Tryz.func92, Tryz.ntmps92
  go_wp2_with fail
  have L := Blk.new3 w 34 (.int .i64 3) (.int .i64 m) (.slice s ks.length c)
  have hS := hb.set.2
  have hb1 := BldS.start (hb.below (Below.alloc (Below.refl _ _) (Nat.le_refl _) (.cells #[.int .i64 3, .int .i64 m, .slice s ks.length c] 34)))
  have hBw : Below w.heap.size w (w.alloc (.cells #[.int .i64 3, .int .i64 m, .slice s ks.length c] 34)) := Below.alloc (Below.refl _ _) (Nat.le_refl _) _
  clear hb
  generalize w.alloc (.cells #[.int .i64 3, .int .i64 m, .slice s ks.length c] 34) = w1 at L hb1 hBw ⊢
  have hb := hb1
  have h01 : Below W0.heap.size W0 w1 := h0.trans (hBw.mono (by omega))
  have hz1 := hBw.size
  have HS := Lib.hid hS
  have HBw := Lib.hid hBw
  have H01 := Lib.hid h01
  clear hb1 hS hBw h01
  have l0 := L.c0
  have l1 := L.c1
  go_wp2_with fail
  refine (decimal_i (n := m) (by omega)).mono ?_
  rintro e w2 ⟨rfl, rfl⟩
  go_wp2_with fail
  clear l0 l1 Ha
  obtain ⟨T, hT, hTS⟩ := hb.ex
  refine (WriteString_i (s := 116 :: Lib.decDigits m) hT (by have hgg := Hd.out; simp only [List.length_append, List.length_cons, List.length_nil]; omega) (by omega)).mono ?_
  rintro e w2 ⟨⟨u, rfl⟩, hb', hs'⟩
  have szw2 := hs'.size
  replace hb := hb.next hTS hb' hs'
  clear hT hTS hb' hs' T
  have h0c : Below W0.heap.size W0 w2 := H01.out.trans (hb.sp.below (by omega) (fun x hx => by have := HS.out x hx; omega))
  have L2 := L.keep (hb.sp.block _ L.lt (fun hx => by have := HS.out _ hx; omega))
  have l0 := L2.c0
  have l1 := L2.c1
  have l2 := L2.c2
  go_wp2_with fail
  refine bodyPost_end (v := .tuple #[]) (by simp [results, Tryz.results92, go_sem]) rfl ?_
  refine ⟨rfl, ?_⟩
  rw [e0]
  try simp only [List.append_assoc] at hb ⊢
  exact hb.done HBw.out HS.out hB
 ·
  obtain ⟨n0, n8⟩ := numB_any (by omega) hnum ht ha
  obtain ⟨m, rfl⟩ : ∃ m : Nat, n = (m : Int) := ⟨n.toNat, by omega⟩
  have e0 : Ex.text (.mk 4 m ks) = 97 :: Lib.decDigits m := by simp [Ex.text, texC]
  have hm : m < 10 := by omega
  have Hd := Lib.hid (digits_one hm)
  have Ha : ∀ w, (Op.stringOp .add { data := #[97] } (bs (Lib.decDigits m))).run Tryz.prog w = .ok (.string (bs ([97] ++ Lib.decDigits m))) w := run_cat [97] _ (by rw [digits_one hm]; simp)
  clear hk hnum htl hc htr n0 n8
  go_enter Tryz.func92, Tryz.ntmps92
  go_wp2_with fail
  have L := Blk.new3 w 34 (.int .i64 4) (.int .i64 m) (.slice s ks.length c)
  have hS := hb.set.2
  have hb1 := BldS.start (hb.below (Below.alloc (Below.refl _ _) (Nat.le_refl _) (.cells #[.int .i64 4, .int .i64 m, .slice s ks.length c] 34)))
  have hBw : Below w.heap.size w (w.alloc (.cells #[.int .i64 4, .int .i64 m, .slice s ks.length c] 34)) := Below.alloc (Below.refl _ _) (Nat.le_refl _) _
  clear hb
  generalize w.alloc (.cells #[.int .i64 4, .int .i64 m, .slice s ks.length c] 34) = w1 at L hb1 hBw ⊢
  have hb := hb1
  have h01 : Below W0.heap.size W0 w1 := h0.trans (hBw.mono (by omega))
  have hz1 := hBw.size
  have HS := Lib.hid hS
  have HBw := Lib.hid hBw
  have H01 := Lib.hid h01
  clear hb1 hS hBw h01
  have l0 := L.c0
  have l1 := L.c1
  go_wp2_with fail
  refine (decimal_i (n := m) (by omega)).mono ?_
  rintro e w2 ⟨rfl, rfl⟩
  go_wp2_with fail
  clear l0 l1 Ha
  obtain ⟨T, hT, hTS⟩ := hb.ex
  refine (WriteString_i (s := 97 :: Lib.decDigits m) hT (by have hgg := Hd.out; simp only [List.length_append, List.length_cons, List.length_nil]; omega) (by omega)).mono ?_
  rintro e w2 ⟨⟨u, rfl⟩, hb', hs'⟩
  have szw2 := hs'.size
  replace hb := hb.next hTS hb' hs'
  clear hT hTS hb' hs' T
  have h0c : Below W0.heap.size W0 w2 := H01.out.trans (hb.sp.below (by omega) (fun x hx => by have := HS.out x hx; omega))
  have L2 := L.keep (hb.sp.block _ L.lt (fun hx => by have := HS.out _ hx; omega))
  have l0 := L2.c0
  have l1 := L2.c1
  have l2 := L2.c2
  go_wp2_with fail
  refine bodyPost_end (v := .tuple #[]) (by simp [results, Tryz.results92, go_sem]) rfl ?_
  refine ⟨rfl, ?_⟩
  rw [e0]
  try simp only [List.append_assoc] at hb ⊢
  exact hb.done HBw.out HS.out hB
 ·
  obtain ⟨x, rfl⟩ := one_kid hk (by omega)
  have hx : [x][0]? = some x := rfl
  obtain ⟨b', o', rfl⟩ := kid_some hr (by simp)
  have hxt0 : x.tree tm am = true := Ex.treeL_mem htl (by simp)
  have bx := text_bound tm am ht ha _ x (Nat.le_refl _) hxt0
  have hxt : Ex.tree tm am (.mk x.kind x.num x.kids) = true := by rw [← Ex.eta x]; exact hxt0
  have hsx := Ex.size_eq x
  simp only [Ex.sizeL] at hN hlen
  have hxs : Ex.sizeL x.kids < N := by omega
  have ex : Ex.text (.mk x.kind x.num x.kids) = x.text := by rw [← Ex.eta x]
  obtain ⟨hbl, s', c', g0, g1, g2, gr⟩ := kid_in hr hx
  simp only [Nat.zero_mul, Nat.add_zero] at g0 g1 g2
  have e0 : Ex.text (.mk 5 n [x]) = [126] ++ x.text := by simp [Ex.text, texC, Ex.textL]
  clear hk hnum htl hc htr hx hxt0
  go_enter Tryz.func92, Tryz.ntmps92
  go_wp2_with fail
  have L := Blk.new3 w 34 (.int .i64 5) (.int .i64 n) (.slice (some ⟨b', o', none⟩) 1 c)
  have hS := hb.set.2
  have hb1 := BldS.start (hb.below (Below.alloc (Below.refl _ _) (Nat.le_refl _) (.cells #[.int .i64 5, .int .i64 n, .slice (some ⟨b', o', none⟩) 1 c] 34)))
  have hBw : Below w.heap.size w (w.alloc (.cells #[.int .i64 5, .int .i64 n, .slice (some ⟨b', o', none⟩) 1 c] 34)) := Below.alloc (Below.refl _ _) (Nat.le_refl _) _
  clear hb
  generalize w.alloc (.cells #[.int .i64 5, .int .i64 n, .slice (some ⟨b', o', none⟩) 1 c] 34) = w1 at L hb1 hBw ⊢
  have hb := hb1
  have h01 : Below W0.heap.size W0 w1 := h0.trans (hBw.mono (by omega))
  have hz1 := hBw.size
  have HS := Lib.hid hS
  have HBw := Lib.hid hBw
  have H01 := Lib.hid h01
  clear hb1 hS hBw h01
  have l0 := L.c0
  go_wp2_with fail
  clear l0
  obtain ⟨T, hT, hTS⟩ := hb.ex
  refine (WriteString_i (s := [126]) hT (by simp only [List.length_append, List.length_cons, List.length_nil] at *; omega) (by omega)).mono ?_
  rintro e w2 ⟨⟨u, rfl⟩, hb', hs'⟩
  have szw2 := hs'.size
  replace hb := hb.next hTS hb' hs'
  clear hT hTS hb' hs' T
  have h0c : Below W0.heap.size W0 w2 := H01.out.trans (hb.sp.below (by omega) (fun x hx => by have := HS.out x hx; omega))
  have L2 := L.keep (hb.sp.block _ L.lt (fun hx => by have := HS.out _ hx; omega))
  have l0 := L2.c0
  have l1 := L2.c1
  have l2 := L2.c2
  have q0 := (h0c.cell (p := ⟨b', o', none⟩) hbl).trans g0
  have q1 := (h0c.cell (p := ⟨b', o' + 1, none⟩) hbl).trans g1
  have q2 := (h0c.cell (p := ⟨b', o' + 2, none⟩) hbl).trans g2
  go_wp2_with fail
  clear l0 l1 l2 L2 q0 q1 q2
  obtain ⟨T, hT, hTS⟩ := hb.ex
  refine (ih _ hxs _ _ _ _ _ T _ _ (Nat.le_refl _) gr hxt h0c hT (by omega) (by simp only [List.length_append, List.length_cons, List.length_nil] at *; omega)).mono ?_
  rintro e w3 ⟨rfl, hb', hs'⟩
  have szw3 := hs'.size
  replace hb := hb.next hTS hb' hs'
  clear hT hTS hb' hs' T
  have h0c : Below W0.heap.size W0 w3 := H01.out.trans (hb.sp.below (by omega) (fun x hx => by have := HS.out x hx; omega))
  have L2 := L.keep (hb.sp.block _ L.lt (fun hx => by have := HS.out _ hx; omega))
  have l0 := L2.c0
  have l1 := L2.c1
  have l2 := L2.c2
  rw [ex] at hb
  go_wp2_with fail
  refine bodyPost_end (v := .tuple #[]) (by simp [results, Tryz.results92, go_sem]) rfl ?_
  refine ⟨rfl, ?_⟩
  rw [e0]
  try simp only [List.append_assoc] at hb ⊢
  exact hb.done HBw.out HS.out hB
 ·
  obtain ⟨x, y, rfl⟩ := two_kids hk (by omega)
  have hx : [x, y][0]? = some x := rfl
  have hy : [x, y][1]? = some y := rfl
  obtain ⟨b', o', rfl⟩ := kid_some hr (by simp)
  have hxt0 : x.tree tm am = true := Ex.treeL_mem htl (by simp)
  have hyt0 : y.tree tm am = true := Ex.treeL_mem htl (by simp)
  have bx := text_bound tm am ht ha _ x (Nat.le_refl _) hxt0
  have bY := text_bound tm am ht ha _ y (Nat.le_refl _) hyt0
  have hxt : Ex.tree tm am (.mk x.kind x.num x.kids) = true := by rw [← Ex.eta x]; exact hxt0
  have hyt : Ex.tree tm am (.mk y.kind y.num y.kids) = true := by rw [← Ex.eta y]; exact hyt0
  have hsx := Ex.size_eq x
  have hsy := Ex.size_eq y
  simp only [Ex.sizeL] at hN hlen
  have hxs : Ex.sizeL x.kids < N := by omega
  have hys : Ex.sizeL y.kids < N := by omega
  have ex : Ex.text (.mk x.kind x.num x.kids) = x.text := by rw [← Ex.eta x]
  have ey : Ex.text (.mk y.kind y.num y.kids) = y.text := by rw [← Ex.eta y]
  have e0 : Ex.text (.mk 6 n [x, y]) = [40] ++ x.text ++ [32, 43, 32] ++ y.text ++ [41] := by simp [Ex.text, texC, Ex.textL]
  obtain ⟨hbl, s', c', g0, g1, g2, gr⟩ := kid_in hr hx
  obtain ⟨-, s2, c2, k0, k1, k2, kr⟩ := kid_in hr hy
  simp only [Nat.zero_mul, Nat.add_zero] at g0 g1 g2
  simp only [Nat.one_mul] at k0 k1 k2
  clear hk hnum htl hc htr hx hy hxt0 hyt0
  go_enter Tryz.func92, Tryz.ntmps92
  go_wp2_with fail
  have L := Blk.new3 w 34 (.int .i64 6) (.int .i64 n) (.slice (some ⟨b', o', none⟩) 2 c)
  have hS := hb.set.2
  have hb1 := BldS.start (hb.below (Below.alloc (Below.refl _ _) (Nat.le_refl _) (.cells #[.int .i64 6, .int .i64 n, .slice (some ⟨b', o', none⟩) 2 c] 34)))
  have hBw : Below w.heap.size w (w.alloc (.cells #[.int .i64 6, .int .i64 n, .slice (some ⟨b', o', none⟩) 2 c] 34)) := Below.alloc (Below.refl _ _) (Nat.le_refl _) _
  clear hb
  generalize w.alloc (.cells #[.int .i64 6, .int .i64 n, .slice (some ⟨b', o', none⟩) 2 c] 34) = w1 at L hb1 hBw ⊢
  have hb := hb1
  have h01 : Below W0.heap.size W0 w1 := h0.trans (hBw.mono (by omega))
  have hz1 := hBw.size
  have HS := Lib.hid hS
  have HBw := Lib.hid hBw
  have H01 := Lib.hid h01
  clear hb1 hS hBw h01
  have l0 := L.c0
  go_wp2_with fail
  clear l0
  obtain ⟨T, hT, hTS⟩ := hb.ex
  refine (WriteString_i (s := [40]) hT (by simp only [List.length_append, List.length_cons, List.length_nil] at *; omega) (by omega)).mono ?_
  rintro e w2 ⟨⟨u, rfl⟩, hb', hs'⟩
  have szw2 := hs'.size
  replace hb := hb.next hTS hb' hs'
  clear hT hTS hb' hs' T
  have h0c : Below W0.heap.size W0 w2 := H01.out.trans (hb.sp.below (by omega) (fun x hx => by have := HS.out x hx; omega))
  have L2 := L.keep (hb.sp.block _ L.lt (fun hx => by have := HS.out _ hx; omega))
  have l0 := L2.c0
  have l1 := L2.c1
  have l2 := L2.c2
  have q0 := (h0c.cell (p := ⟨b', o', none⟩) hbl).trans g0
  have q1 := (h0c.cell (p := ⟨b', o' + 1, none⟩) hbl).trans g1
  have q2 := (h0c.cell (p := ⟨b', o' + 2, none⟩) hbl).trans g2
  go_wp2_with fail
  clear l0 l1 l2 L2 q0 q1 q2
  obtain ⟨T, hT, hTS⟩ := hb.ex
  refine (ih _ hxs _ _ _ _ _ T _ _ (Nat.le_refl _) gr hxt h0c hT (by omega) (by simp only [List.length_append, List.length_cons, List.length_nil] at *; omega)).mono ?_
  rintro e w3 ⟨rfl, hb', hs'⟩
  have szw3 := hs'.size
  replace hb := hb.next hTS hb' hs'
  clear hT hTS hb' hs' T
  have h0c : Below W0.heap.size W0 w3 := H01.out.trans (hb.sp.below (by omega) (fun x hx => by have := HS.out x hx; omega))
  have L2 := L.keep (hb.sp.block _ L.lt (fun hx => by have := HS.out _ hx; omega))
  have l0 := L2.c0
  have l1 := L2.c1
  have l2 := L2.c2
  rw [ex] at hb
  go_wp2_with fail
  clear l0 l1 l2 L2 h0c
  obtain ⟨T, hT, hTS⟩ := hb.ex
  refine (WriteString_i (s := [32, 43, 32]) hT (by simp only [List.length_append, List.length_cons, List.length_nil] at *; omega) (by omega)).mono ?_
  rintro e w4 ⟨⟨u, rfl⟩, hb', hs'⟩
  have szw4 := hs'.size
  replace hb := hb.next hTS hb' hs'
  clear hT hTS hb' hs' T
  have h0c : Below W0.heap.size W0 w4 := H01.out.trans (hb.sp.below (by omega) (fun x hx => by have := HS.out x hx; omega))
  have L2 := L.keep (hb.sp.block _ L.lt (fun hx => by have := HS.out _ hx; omega))
  have l0 := L2.c0
  have l1 := L2.c1
  have l2 := L2.c2
  have q0 := (h0c.cell (p := ⟨b', o' + 3, none⟩) hbl).trans k0
  have q1 := (h0c.cell (p := ⟨b', o' + 3 + 1, none⟩) hbl).trans k1
  have q2 := (h0c.cell (p := ⟨b', o' + 3 + 2, none⟩) hbl).trans k2
  go_wp2_with fail
  clear l0 l1 l2 L2 q0 q1 q2
  obtain ⟨T, hT, hTS⟩ := hb.ex
  refine (ih _ hys _ _ _ _ _ T _ _ (Nat.le_refl _) kr hyt h0c hT (by omega) (by simp only [List.length_append, List.length_cons, List.length_nil] at *; omega)).mono ?_
  rintro e w5 ⟨rfl, hb', hs'⟩
  have szw5 := hs'.size
  replace hb := hb.next hTS hb' hs'
  clear hT hTS hb' hs' T
  have h0c : Below W0.heap.size W0 w5 := H01.out.trans (hb.sp.below (by omega) (fun x hx => by have := HS.out x hx; omega))
  have L2 := L.keep (hb.sp.block _ L.lt (fun hx => by have := HS.out _ hx; omega))
  have l0 := L2.c0
  have l1 := L2.c1
  have l2 := L2.c2
  rw [ey] at hb
  go_wp2_with fail
  clear l0 l1 l2 L2 h0c
  obtain ⟨T, hT, hTS⟩ := hb.ex
  refine (WriteString_i (s := [41]) hT (by simp only [List.length_append, List.length_cons, List.length_nil] at *; omega) (by omega)).mono ?_
  rintro e w6 ⟨⟨u, rfl⟩, hb', hs'⟩
  have szw6 := hs'.size
  replace hb := hb.next hTS hb' hs'
  clear hT hTS hb' hs' T
  have h0c : Below W0.heap.size W0 w6 := H01.out.trans (hb.sp.below (by omega) (fun x hx => by have := HS.out x hx; omega))
  have L2 := L.keep (hb.sp.block _ L.lt (fun hx => by have := HS.out _ hx; omega))
  have l0 := L2.c0
  have l1 := L2.c1
  have l2 := L2.c2
  go_wp2_with fail
  refine bodyPost_end (v := .tuple #[]) (by simp [results, Tryz.results92, go_sem]) rfl ?_
  refine ⟨rfl, ?_⟩
  rw [e0]
  try simp only [List.append_assoc] at hb ⊢
  exact hb.done HBw.out HS.out hB
 ·
  obtain ⟨x, y, rfl⟩ := two_kids hk (by omega)
  have hx : [x, y][0]? = some x := rfl
  have hy : [x, y][1]? = some y := rfl
  obtain ⟨b', o', rfl⟩ := kid_some hr (by simp)
  have hxt0 : x.tree tm am = true := Ex.treeL_mem htl (by simp)
  have hyt0 : y.tree tm am = true := Ex.treeL_mem htl (by simp)
  have bx := text_bound tm am ht ha _ x (Nat.le_refl _) hxt0
  have bY := text_bound tm am ht ha _ y (Nat.le_refl _) hyt0
  have hxt : Ex.tree tm am (.mk x.kind x.num x.kids) = true := by rw [← Ex.eta x]; exact hxt0
  have hyt : Ex.tree tm am (.mk y.kind y.num y.kids) = true := by rw [← Ex.eta y]; exact hyt0
  have hsx := Ex.size_eq x
  have hsy := Ex.size_eq y
  simp only [Ex.sizeL] at hN hlen
  have hxs : Ex.sizeL x.kids < N := by omega
  have hys : Ex.sizeL y.kids < N := by omega
  have ex : Ex.text (.mk x.kind x.num x.kids) = x.text := by rw [← Ex.eta x]
  have ey : Ex.text (.mk y.kind y.num y.kids) = y.text := by rw [← Ex.eta y]
  have e0 : Ex.text (.mk 7 n [x, y]) = [40] ++ x.text ++ [32] ++ y.text ++ [41] := by simp [Ex.text, texC, Ex.textL]
  obtain ⟨hbl, s', c', g0, g1, g2, gr⟩ := kid_in hr hx
  obtain ⟨-, s2, c2, k0, k1, k2, kr⟩ := kid_in hr hy
  simp only [Nat.zero_mul, Nat.add_zero] at g0 g1 g2
  simp only [Nat.one_mul] at k0 k1 k2
  clear hk hnum htl hc htr hx hy hxt0 hyt0
  go_enter Tryz.func92, Tryz.ntmps92
  go_wp2_with fail
  have L := Blk.new3 w 34 (.int .i64 7) (.int .i64 n) (.slice (some ⟨b', o', none⟩) 2 c)
  have hS := hb.set.2
  have hb1 := BldS.start (hb.below (Below.alloc (Below.refl _ _) (Nat.le_refl _) (.cells #[.int .i64 7, .int .i64 n, .slice (some ⟨b', o', none⟩) 2 c] 34)))
  have hBw : Below w.heap.size w (w.alloc (.cells #[.int .i64 7, .int .i64 n, .slice (some ⟨b', o', none⟩) 2 c] 34)) := Below.alloc (Below.refl _ _) (Nat.le_refl _) _
  clear hb
  generalize w.alloc (.cells #[.int .i64 7, .int .i64 n, .slice (some ⟨b', o', none⟩) 2 c] 34) = w1 at L hb1 hBw ⊢
  have hb := hb1
  have h01 : Below W0.heap.size W0 w1 := h0.trans (hBw.mono (by omega))
  have hz1 := hBw.size
  have HS := Lib.hid hS
  have HBw := Lib.hid hBw
  have H01 := Lib.hid h01
  clear hb1 hS hBw h01
  have l0 := L.c0
  go_wp2_with fail
  clear l0
  obtain ⟨T, hT, hTS⟩ := hb.ex
  refine (WriteString_i (s := [40]) hT (by simp only [List.length_append, List.length_cons, List.length_nil] at *; omega) (by omega)).mono ?_
  rintro e w2 ⟨⟨u, rfl⟩, hb', hs'⟩
  have szw2 := hs'.size
  replace hb := hb.next hTS hb' hs'
  clear hT hTS hb' hs' T
  have h0c : Below W0.heap.size W0 w2 := H01.out.trans (hb.sp.below (by omega) (fun x hx => by have := HS.out x hx; omega))
  have L2 := L.keep (hb.sp.block _ L.lt (fun hx => by have := HS.out _ hx; omega))
  have l0 := L2.c0
  have l1 := L2.c1
  have l2 := L2.c2
  have q0 := (h0c.cell (p := ⟨b', o', none⟩) hbl).trans g0
  have q1 := (h0c.cell (p := ⟨b', o' + 1, none⟩) hbl).trans g1
  have q2 := (h0c.cell (p := ⟨b', o' + 2, none⟩) hbl).trans g2
  go_wp2_with fail
  clear l0 l1 l2 L2 q0 q1 q2
  obtain ⟨T, hT, hTS⟩ := hb.ex
  refine (ih _ hxs _ _ _ _ _ T _ _ (Nat.le_refl _) gr hxt h0c hT (by omega) (by simp only [List.length_append, List.length_cons, List.length_nil] at *; omega)).mono ?_
  rintro e w3 ⟨rfl, hb', hs'⟩
  have szw3 := hs'.size
  replace hb := hb.next hTS hb' hs'
  clear hT hTS hb' hs' T
  have h0c : Below W0.heap.size W0 w3 := H01.out.trans (hb.sp.below (by omega) (fun x hx => by have := HS.out x hx; omega))
  have L2 := L.keep (hb.sp.block _ L.lt (fun hx => by have := HS.out _ hx; omega))
  have l0 := L2.c0
  have l1 := L2.c1
  have l2 := L2.c2
  rw [ex] at hb
  go_wp2_with fail
  clear l0 l1 l2 L2 h0c
  obtain ⟨T, hT, hTS⟩ := hb.ex
  refine (WriteString_i (s := [32]) hT (by simp only [List.length_append, List.length_cons, List.length_nil] at *; omega) (by omega)).mono ?_
  rintro e w4 ⟨⟨u, rfl⟩, hb', hs'⟩
  have szw4 := hs'.size
  replace hb := hb.next hTS hb' hs'
  clear hT hTS hb' hs' T
  have h0c : Below W0.heap.size W0 w4 := H01.out.trans (hb.sp.below (by omega) (fun x hx => by have := HS.out x hx; omega))
  have L2 := L.keep (hb.sp.block _ L.lt (fun hx => by have := HS.out _ hx; omega))
  have l0 := L2.c0
  have l1 := L2.c1
  have l2 := L2.c2
  have q0 := (h0c.cell (p := ⟨b', o' + 3, none⟩) hbl).trans k0
  have q1 := (h0c.cell (p := ⟨b', o' + 3 + 1, none⟩) hbl).trans k1
  have q2 := (h0c.cell (p := ⟨b', o' + 3 + 2, none⟩) hbl).trans k2
  go_wp2_with fail
  clear l0 l1 l2 L2 q0 q1 q2
  obtain ⟨T, hT, hTS⟩ := hb.ex
  refine (ih _ hys _ _ _ _ _ T _ _ (Nat.le_refl _) kr hyt h0c hT (by omega) (by simp only [List.length_append, List.length_cons, List.length_nil] at *; omega)).mono ?_
  rintro e w5 ⟨rfl, hb', hs'⟩
  have szw5 := hs'.size
  replace hb := hb.next hTS hb' hs'
  clear hT hTS hb' hs' T
  have h0c : Below W0.heap.size W0 w5 := H01.out.trans (hb.sp.below (by omega) (fun x hx => by have := HS.out x hx; omega))
  have L2 := L.keep (hb.sp.block _ L.lt (fun hx => by have := HS.out _ hx; omega))
  have l0 := L2.c0
  have l1 := L2.c1
  have l2 := L2.c2
  rw [ey] at hb
  go_wp2_with fail
  clear l0 l1 l2 L2 h0c
  obtain ⟨T, hT, hTS⟩ := hb.ex
  refine (WriteString_i (s := [41]) hT (by simp only [List.length_append, List.length_cons, List.length_nil] at *; omega) (by omega)).mono ?_
  rintro e w6 ⟨⟨u, rfl⟩, hb', hs'⟩
  have szw6 := hs'.size
  replace hb := hb.next hTS hb' hs'
  clear hT hTS hb' hs' T
  have h0c : Below W0.heap.size W0 w6 := H01.out.trans (hb.sp.below (by omega) (fun x hx => by have := HS.out x hx; omega))
  have L2 := L.keep (hb.sp.block _ L.lt (fun hx => by have := HS.out _ hx; omega))
  have l0 := L2.c0
  have l1 := L2.c1
  have l2 := L2.c2
  go_wp2_with fail
  refine bodyPost_end (v := .tuple #[]) (by simp [results, Tryz.results92, go_sem]) rfl ?_
  refine ⟨rfl, ?_⟩
  rw [e0]
  try simp only [List.append_assoc] at hb ⊢
  exact hb.done HBw.out HS.out hB
 ·
  obtain ⟨x, rfl⟩ := one_kid hk (by omega)
  have hx : [x][0]? = some x := rfl
  obtain ⟨b', o', rfl⟩ := kid_some hr (by simp)
  have hxt0 : x.tree tm am = true := Ex.treeL_mem htl (by simp)
  have bx := text_bound tm am ht ha _ x (Nat.le_refl _) hxt0
  have hxt : Ex.tree tm am (.mk x.kind x.num x.kids) = true := by rw [← Ex.eta x]; exact hxt0
  have hsx := Ex.size_eq x
  simp only [Ex.sizeL] at hN hlen
  have hxs : Ex.sizeL x.kids < N := by omega
  have ex : Ex.text (.mk x.kind x.num x.kids) = x.text := by rw [← Ex.eta x]
  obtain ⟨hbl, s', c', g0, g1, g2, gr⟩ := kid_in hr hx
  simp only [Nat.zero_mul, Nat.add_zero] at g0 g1 g2
  have e0 : Ex.text (.mk 8 n [x]) = x.text ++ [42] := by simp [Ex.text, texC, Ex.textL]
  clear hk hnum htl hc htr hx hxt0
  have p0 := (h0.cell (p := ⟨b', o', none⟩) hbl).trans g0
  have p1 := (h0.cell (p := ⟨b', o' + 1, none⟩) hbl).trans g1
  have p2 := (h0.cell (p := ⟨b', o' + 2, none⟩) hbl).trans g2
  have pl : b' < w.heap.size := by omega
  go_enter Tryz.func92, Tryz.ntmps92
  go_wp2_with fail
  have L := Blk.new3 w 34 (.int .i64 8) (.int .i64 n) (.slice (some ⟨b', o', none⟩) 1 c)
  have hS := hb.set.2
  have hb1 := BldS.start (hb.below (Below.alloc (Below.refl _ _) (Nat.le_refl _) (.cells #[.int .i64 8, .int .i64 n, .slice (some ⟨b', o', none⟩) 1 c] 34)))
  have hBw : Below w.heap.size w (w.alloc (.cells #[.int .i64 8, .int .i64 n, .slice (some ⟨b', o', none⟩) 1 c] 34)) := Below.alloc (Below.refl _ _) (Nat.le_refl _) _
  clear hb
  generalize w.alloc (.cells #[.int .i64 8, .int .i64 n, .slice (some ⟨b', o', none⟩) 1 c] 34) = w1 at L hb1 hBw ⊢
  have hb := hb1
  have h01 : Below W0.heap.size W0 w1 := h0.trans (hBw.mono (by omega))
  have hz1 := hBw.size
  have HS := Lib.hid hS
  have HBw := Lib.hid hBw
  have H01 := Lib.hid h01
  clear hb1 hS hBw h01
  have h0c := H01.out
  clear p0 p1 p2 pl
  obtain ⟨T, hT, hTS⟩ := hb.ex
  refine (ih _ hxs _ _ _ _ _ T _ _ (Nat.le_refl _) gr hxt h0c hT (by omega) (by simp only [List.length_append, List.length_cons, List.length_nil] at *; omega)).mono ?_
  rintro e w3 ⟨rfl, hb', hs'⟩
  have szw3 := hs'.size
  replace hb := hb.next hTS hb' hs'
  clear hT hTS hb' hs' T
  have h0c : Below W0.heap.size W0 w3 := H01.out.trans (hb.sp.below (by omega) (fun x hx => by have := HS.out x hx; omega))
  have L2 := L.keep (hb.sp.block _ L.lt (fun hx => by have := HS.out _ hx; omega))
  have l0 := L2.c0
  have l1 := L2.c1
  have l2 := L2.c2
  rw [ex] at hb
  go_wp2_with fail
  clear l0 l1 l2 L2 h0c
  obtain ⟨T, hT, hTS⟩ := hb.ex
  refine (WriteString_i (s := [42]) hT (by simp only [List.length_append, List.length_cons, List.length_nil] at *; omega) (by omega)).mono ?_
  rintro e w4 ⟨⟨u, rfl⟩, hb', hs'⟩
  have szw4 := hs'.size
  replace hb := hb.next hTS hb' hs'
  clear hT hTS hb' hs' T
  have h0c : Below W0.heap.size W0 w4 := H01.out.trans (hb.sp.below (by omega) (fun x hx => by have := HS.out x hx; omega))
  have L2 := L.keep (hb.sp.block _ L.lt (fun hx => by have := HS.out _ hx; omega))
  have l0 := L2.c0
  have l1 := L2.c1
  have l2 := L2.c2
  go_wp2_with fail
  refine bodyPost_end (v := .tuple #[]) (by simp [results, Tryz.results92, go_sem]) rfl ?_
  refine ⟨rfl, ?_⟩
  rw [e0]
  try simp only [List.append_assoc] at hb ⊢
  exact hb.done HBw.out HS.out hB
end Go.Proofs.YtcokljhamhgelaaGreatDoor

namespace Go.Proofs.YtcokljhamhgelaaGreatDoor
set_option linter.unusedVariables false
set_option linter.unusedSimpArgs false
open Go.ChangeShapes Go.WideShapes Go.ChangeAt Go.RowKit
theorem digit_inj {m n : Nat} (hm : m < 10) (hn : n < 10) {r s : List UInt8} (h : Lib.decDigits m ++ r = Lib.decDigits n ++ s) : m = n ∧ r = s := by
 rw [Lib.decDigits_one hm, Lib.decDigits_one hn] at h
 simp only [List.cons_append, List.nil_append, List.cons.injEq] at h
 refine ⟨?_, h.2⟩
 have := congrArg UInt8.toNat h.1
 simp at this
 omega
def starN : Nat → Ex → Ex
 | 0, x => x
 | i + 1, x => .mk 8 0 [starN i x]
theorem starN_text (x : Ex) : ∀ i, (starN i x).text = x.text ++ List.replicate i 42
 | 0 => by simp [starN]
 | i + 1 => by
  simp only [starN, Ex.text, Ex.textL]
  rw [starN_text x i]
  simp [texC, List.replicate_succ']
theorem star_base (tm am : Int) (N : Nat) : ∀ e : Ex, e.size ≤ N → e.tree tm am = true → ∃ i x, e = starN i x ∧ x.kind ≠ 8 ∧ x.tree tm am = true ∧ x.size ≤ e.size := by
 induction N using Nat.strongRecOn with
 | _ N ih =>
 intro e hN ht
 by_cases h8 : e.kind = 8
 ·
  obtain ⟨k, n, ks⟩ := e
  simp only [Ex.kind] at h8
  subst h8
  obtain ⟨hk, hnum, -, htl⟩ := tree_parts ht
  obtain ⟨x, rfl⟩ := one_kid hk (by omega)
  have hx : x.tree tm am = true := Ex.treeL_mem htl (by simp)
  have hs := Ex.size_eq (.mk 8 n [x])
  simp only [Ex.kids, Ex.sizeL] at hs
  obtain ⟨i, y, hy, h1, h2, h3⟩ := ih x.size (by omega) x (Nat.le_refl _) hx
  obtain rfl : n = 0 := by simpa [numB] using hnum
  exact ⟨i + 1, y, by rw [hy]; rfl, h1, h2, by omega⟩
 ·
  exact ⟨0, e, rfl, h8, ht, Nat.le_refl _⟩
theorem rep_inj : ∀ (i j : Nat) {r s : List UInt8}, r.head? ≠ some 42 → s.head? ≠ some 42 → List.replicate i 42 ++ r = List.replicate j 42 ++ s → i = j ∧ r = s
 | 0, 0, r, s, _, _, h => ⟨rfl, by simpa using h⟩
 | 0, j + 1, r, s, h1, _, h => by rw [List.replicate_zero, List.nil_append] at h; rw [h] at h1; simp [List.replicate_succ] at h1
 | i + 1, 0, r, s, _, h2, h => by rw [List.replicate_zero, List.nil_append] at h; rw [← h] at h2; simp [List.replicate_succ] at h2
 | i + 1, j + 1, r, s, h1, h2, h => by
  simp only [List.replicate_succ, List.cons_append, List.cons.injEq, true_and] at h
  obtain ⟨a, b⟩ := rep_inj i j h1 h2 h
  exact ⟨by omega, b⟩
theorem cond_kind {e : Ex} (h : e.cond = true) : e.kind ≠ 8 := by
 intro h8
 obtain ⟨k, n, ks⟩ := e
 simp only [Ex.kind] at h8
 subst h8
 simp [Ex.cond, condKind] at h
theorem text_head (tm am : Int) (N : Nat) : ∀ e : Ex, e.size ≤ N → e.tree tm am = true → ∃ c l, e.text = c :: l ∧ c ≠ 43 := by
 induction N using Nat.strongRecOn with
 | _ N ih =>
 intro e hN ht
 obtain ⟨k, n, ks⟩ := e
 obtain ⟨hk, -, -, htl⟩ := tree_parts ht
 have hs := Ex.size_eq (.mk k n ks)
 simp only [Ex.kids] at hs
 rcases kind_cases hk with rfl | rfl | rfl | rfl | rfl | rfl | rfl | rfl
 ·
  exact ⟨48, [], by simp [Ex.text, texC], by decide⟩
 ·
  exact ⟨49, [], by simp [Ex.text, texC], by decide⟩
 ·
  exact ⟨116, _, by simp [Ex.text, texC]; rfl, by decide⟩
 ·
  exact ⟨97, _, by simp [Ex.text, texC]; rfl, by decide⟩
 ·
  exact ⟨126, _, by simp [Ex.text, texC]; rfl, by decide⟩
 ·
  exact ⟨40, _, by simp [Ex.text, texC]; rfl, by decide⟩
 ·
  exact ⟨40, _, by simp [Ex.text, texC]; rfl, by decide⟩
 ·
  obtain ⟨x, rfl⟩ := one_kid hk (by omega)
  simp only [Ex.sizeL] at hs
  obtain ⟨c, l, h1, h2⟩ := ih x.size (by omega) x (Nat.le_refl _) (Ex.treeL_mem htl (by simp))
  exact ⟨c, l ++ [42], by simp [Ex.text, texC, Ex.textL, h1], h2⟩
theorem text_inj_core (tm am : Int) (ht : tm ≤ 8) (ha : am ≤ 8) (N : Nat) : ∀ (e f : Ex) (r s : List UInt8), e.size ≤ N → e.tree tm am = true → f.tree tm am = true → e.kind ≠ 8 → f.kind ≠ 8 → e.text ++ r = f.text ++ s → e = f ∧ r = s := by
  induction N using Nat.strongRecOn with
  | _ N ih =>
  intro e f r s hN he hf h8 h8' h
  have whole : ∀ (x y : Ex) (r s : List UInt8), x.size < N → x.tree tm am = true → y.tree tm am = true → r.head? ≠ some 42 → s.head? ≠ some 42 → x.text ++ r = y.text ++ s → x = y ∧ r = s := by
    intro x y r s hx tx ty hr hs h
    obtain ⟨i, x0, rfl, a1, a2, a3⟩ := star_base tm am _ x (Nat.le_refl _) tx
    obtain ⟨j, y0, rfl, b1, b2, b3⟩ := star_base tm am _ y (Nat.le_refl _) ty
    rw [starN_text, starN_text, List.append_assoc, List.append_assoc] at h
    obtain ⟨rfl, h'⟩ := ih x0.size (by omega) x0 y0 _ _ (Nat.le_refl _) a2 b2 a1 b1 h
    obtain ⟨rfl, rfl⟩ := rep_inj i j hr hs h'
    exact ⟨rfl, rfl⟩
  obtain ⟨k, n, ks⟩ := e
  obtain ⟨k', n', ks'⟩ := f
  obtain ⟨hk, hnum, hc, htl⟩ := tree_parts he
  obtain ⟨hk', hnum', hc', htl'⟩ := tree_parts hf
  simp only [Ex.kind] at h8 h8'
  have hs := Ex.size_eq (.mk k n ks)
  simp only [Ex.kids] at hs
  have z0 : ∀ {q : Int} {l : List Ex}, kidsN q = (l.length : Int) → q = 1 ∨ q = 2 ∨ q = 3 ∨ q = 4 → l = [] := by
    intro q l hq hh
    have : kidsN q = 0 := by unfold kidsN; rw [if_pos hh]
    exact List.eq_nil_of_length_eq_zero (by omega)
  rcases kind_cases hk with rfl | rfl | rfl | rfl | rfl | rfl | rfl | rfl <;> rcases kind_cases hk' with rfl | rfl | rfl | rfl | rfl | rfl | rfl | rfl
  all_goals first
    | exact absurd rfl h8
    | exact absurd rfl h8'
    | (exfalso; simp [Ex.text, texC] at h; done)
    | skip
  · obtain rfl := z0 hk (by omega)
    obtain rfl := z0 hk' (by omega)
    obtain rfl : n = 0 := by simpa [numB] using hnum
    obtain rfl : n' = 0 := by simpa [numB] using hnum'
    exact ⟨rfl, by simpa [Ex.text, texC] using h⟩
  · obtain rfl := z0 hk (by omega)
    obtain rfl := z0 hk' (by omega)
    obtain rfl : n = 0 := by simpa [numB] using hnum
    obtain rfl : n' = 0 := by simpa [numB] using hnum'
    exact ⟨rfl, by simpa [Ex.text, texC] using h⟩
  · obtain rfl := z0 hk (by omega)
    obtain rfl := z0 hk' (by omega)
    obtain ⟨a0, a8⟩ := numB_any (by omega) hnum ht ha
    obtain ⟨b0, b8⟩ := numB_any (by omega) hnum' ht ha
    simp [Ex.text, texC] at h
    obtain ⟨h1, h2⟩ := digit_inj (by omega) (by omega) h
    obtain rfl : n = n' := by omega
    exact ⟨rfl, h2⟩
  · obtain rfl := z0 hk (by omega)
    obtain rfl := z0 hk' (by omega)
    obtain ⟨a0, a8⟩ := numB_any (by omega) hnum ht ha
    obtain ⟨b0, b8⟩ := numB_any (by omega) hnum' ht ha
    simp [Ex.text, texC] at h
    obtain ⟨h1, h2⟩ := digit_inj (by omega) (by omega) h
    obtain rfl : n = n' := by omega
    exact ⟨rfl, h2⟩
  · obtain ⟨x, rfl⟩ := one_kid hk (by omega)
    obtain ⟨y, rfl⟩ := one_kid hk' (by omega)
    obtain rfl : n = 0 := by simpa [numB] using hnum
    obtain rfl : n' = 0 := by simpa [numB] using hnum'
    have cx : x.cond = true := by simpa [Ex.condL] using hc rfl
    have cy : y.cond = true := by simpa [Ex.condL] using hc' rfl
    simp [Ex.text, texC, Ex.textL] at h
    simp only [Ex.sizeL] at hs
    obtain ⟨rfl, h'⟩ := ih x.size (by omega) x y r s (Nat.le_refl _) (Ex.treeL_mem htl (by simp)) (Ex.treeL_mem htl' (by simp)) (cond_kind cx) (cond_kind cy) h
    exact ⟨rfl, h'⟩
  all_goals
    obtain ⟨x, y, rfl⟩ := two_kids hk (by omega)
    obtain ⟨x', y', rfl⟩ := two_kids hk' (by omega)
    obtain rfl : n = 0 := by simpa [numB] using hnum
    obtain rfl : n' = 0 := by simpa [numB] using hnum'
    have ty : y.tree tm am = true := Ex.treeL_mem htl (by simp)
    have ty' : y'.tree tm am = true := Ex.treeL_mem htl' (by simp)
    simp [Ex.text, texC, Ex.textL] at h
    simp only [Ex.sizeL] at hs
    obtain ⟨hxx, h2⟩ := whole x x' _ _ (by omega) (Ex.treeL_mem htl (by simp)) (Ex.treeL_mem htl' (by simp)) (by simp) (by simp) h
    subst hxx
    clear h
    obtain ⟨c1, l1, q1, p1⟩ := text_head tm am _ y (Nat.le_refl _) ty
    obtain ⟨c2, l2, q2, p2⟩ := text_head tm am _ y' (Nat.le_refl _) ty'
    first
      | (exfalso; rw [q1] at h2; simp at h2; exact p1 h2.1)
      | (exfalso; rw [q2] at h2; simp at h2; exact p2 h2.1.symm)
      | (simp at h2
         obtain ⟨hyy, h3⟩ := whole y y' _ _ (by omega) ty ty' (by simp) (by simp) h2
         subst hyy
         exact ⟨rfl, by simpa using h3⟩)
theorem text_inj {tm am : Int} (ht : tm ≤ 8) (ha : am ≤ 8) {e f : Ex} (he : e.tree tm am = true) (hf : f.tree tm am = true) (h : e.text = f.text) : e = f := by
 obtain ⟨i, x0, rfl, a1, a2, -⟩ := star_base tm am _ e (Nat.le_refl _) he
 obtain ⟨j, y0, rfl, b1, b2, -⟩ := star_base tm am _ f (Nat.le_refl _) hf
 rw [starN_text, starN_text] at h
 obtain ⟨rfl, h'⟩ := text_inj_core tm am ht ha _ x0 y0 _ _ (Nat.le_refl _) a2 b2 a1 b1 h
 obtain ⟨rfl, -⟩ := rep_inj i j (r := []) (s := []) (by simp) (by simp) (by simpa using h')
 rfl
end Go.Proofs.YtcokljhamhgelaaGreatDoor

namespace Go.Proofs.YtcokljhamhgelaaGreatDoor
set_option linter.unusedVariables false
set_option linter.unusedSimpArgs false
open Go.ChangeShapes Go.WideShapes Go.ChangeAt Go.RowKit Go.Deep Go.ChangeMaps Go.MapKept
open Go.Maps (Keyed)
section
variable {κ ν : Type} [DecidableEq κ]
def findM : List (κ × ν) → κ → Option ν
 | [], _ => none
 | p :: r, k => if p.1 = k then some p.2 else findM r k
def putM : List (κ × ν) → κ → ν → List (κ × ν)
 | [], k, v => [(k, v)]
 | p :: r, k, v => if p.1 = k then (k, v) :: r else p :: putM r k v
theorem findM_putM (k : κ) (v : ν) (k' : κ) : ∀ L : List (κ × ν), findM (putM L k v) k' = if k = k' then some v else findM L k'
 | [] => by simp [putM, findM]
 | p :: r => by
  have ih := findM_putM k v k' r
  unfold putM
  split
  ·
   rename_i h
   simp only [findM]
   by_cases hk : k = k'
   ·
    simp [hk]
   ·
    rw [if_neg hk, if_neg hk, if_neg (by rw [h]; exact hk)]
  ·
   rename_i h
   simp only [findM, ih]
   by_cases hk : k = k'
   ·
    subst hk
    simp [h]
   ·
    simp [hk]
theorem findM_none {k : κ} : ∀ {L : List (κ × ν)}, findM L k = none ↔ ∀ p ∈ L, p.1 ≠ k
 | [] => by simp [findM]
 | p :: r => by
  simp only [findM, List.mem_cons]
  by_cases h : p.1 = k
  ·
   simp [h]
  ·
   rw [if_neg h, findM_none]
   constructor
   ·
    rintro h1 q (rfl | hq)
    ·
     exact h
    ·
     exact h1 q hq
   ·
    exact fun h1 q hq => h1 q (Or.inr hq)
theorem findM_at {k : κ} {v : ν} : ∀ {L : List (κ × ν)} {j : Nat}, (L.map (·.1)).Nodup → L[j]? = some (k, v) → findM L k = some v
 | [], _, _, h => by simp at h
 | p :: r, 0, _, h => by
  simp at h
  subst h
  simp [findM]
 | p :: r, j + 1, hn, h => by
  simp only [List.map_cons, List.nodup_cons] at hn
  have hr : r[j]? = some (k, v) := by simpa using h
  have hne : p.1 ≠ k := fun e => hn.1 (by rw [e]; exact List.mem_map.2 ⟨(k, v), List.mem_of_getElem? hr, rfl⟩)
  simp only [findM]
  rw [if_neg hne]
  exact findM_at hn.2 hr
theorem findM_mem {k : κ} {v : ν} : ∀ {L : List (κ × ν)}, findM L k = some v → (k, v) ∈ L
 | [], h => by simp [findM] at h
 | p :: r, h => by
  simp only [findM] at h
  split at h
  ·
   rename_i hk
   simp only [Option.some.injEq] at h
   subst h
   exact List.mem_cons.2 (Or.inl (by rw [← hk]))
  ·
   exact List.mem_cons_of_mem _ (findM_mem h)
theorem putM_new {k : κ} {v : ν} : ∀ {L : List (κ × ν)}, findM L k = none → putM L k v = L ++ [(k, v)]
 | [], _ => rfl
 | p :: r, h => by
  simp only [findM] at h
  split at h
  ·
   cases h
  ·
   rename_i hk
   unfold putM
   rw [if_neg hk, putM_new h]
   rfl
theorem putM_set {k : κ} {v : ν} : ∀ {L : List (κ × ν)} {j : Nat} {u : ν}, (L.map (·.1)).Nodup → L[j]? = some (k, u) → putM L k v = L.set j (k, v)
 | [], _, _, _, h => by simp at h
 | p :: r, 0, _, _, h => by
  simp at h
  subst h
  simp [putM]
 | p :: r, j + 1, u, hn, h => by
  simp only [List.map_cons, List.nodup_cons] at hn
  have hr : r[j]? = some (k, u) := by simpa using h
  have hne : p.1 ≠ k := fun e => hn.1 (by rw [e]; exact List.mem_map.2 ⟨(k, u), List.mem_of_getElem? hr, rfl⟩)
  unfold putM
  rw [if_neg hne, putM_set hn.2 hr]
  rfl
theorem putM_nodup {k : κ} {v : ν} {L : List (κ × ν)} (hn : (L.map (·.1)).Nodup) : ((putM L k v).map (·.1)).Nodup := by
 cases h : findM L k with
 | none =>
  rw [putM_new h, List.map_append, List.nodup_append]
  refine ⟨hn, by simp, ?_⟩
  intro a ha b hb hab
  simp only [List.map_cons, List.map_nil, List.mem_singleton] at hb
  obtain ⟨p, hp, rfl⟩ := List.mem_map.1 ha
  exact findM_none.1 h p hp (by rw [hab, hb])
 | some u =>
  obtain ⟨j, hj⟩ := List.mem_iff_getElem?.1 (findM_mem h)
  rw [putM_set hn hj]
  have : (L.set j (k, v)).map (·.1) = L.map (·.1) := by
   rw [List.map_set]
   apply List.ext_getElem?
   intro i
   by_cases hij : j = i
   ·
    subst hij
    obtain ⟨h1, h2⟩ := List.getElem?_eq_some_iff.1 hj
    rw [List.getElem?_set_self (by simpa using h1), List.getElem?_map, hj]
    rfl
   ·
    rw [List.getElem?_set_ne hij]
  rw [this]
  exact hn
theorem putM_keys {k : κ} {v : ν} {L : List (κ × ν)} {q : κ} (h : q ∈ (putM L k v).map (·.1)) : q = k ∨ q ∈ L.map (·.1) := by
 induction L with
 | nil => simp [putM] at h; exact Or.inl h
 | cons p r ih =>
  unfold putM at h
  split at h
  ·
   simp only [List.map_cons, List.mem_cons] at h ⊢
   rcases h with h | h
   ·
    exact Or.inl h
   ·
    exact Or.inr (Or.inr h)
  ·
   simp only [List.map_cons, List.mem_cons] at h ⊢
   rcases h with h | h
   ·
    exact Or.inr (Or.inl h)
   ·
    rcases ih h with h | h
    ·
     exact Or.inl h
    ·
     exact Or.inr (Or.inr h)
def MapAt (P : Program) (kt : TypeId) (kf : κ → Value) (vf : ν → Value) (w : World) (b : Nat) (L : List (κ × ν)) : Prop :=
 ∃ es clock, w.heap[b]? = some (.map es clock) ∧ es.toList.map (fun e => (e.key, e.val)) = L.map (fun p => (kf p.1, vf p.2)) ∧ (L.map (·.1)).Nodup ∧ ∀ p ∈ L, ∃ l, keyOf P kt (kf p.1) = some l
variable {P : Program} {kt : TypeId} {kf : κ → Value} {vf : ν → Value} {w : World} {b : Nat} {L : List (κ × ν)}
omit [DecidableEq κ] in
theorem MapAt.made (w : World) : MapAt P kt kf vf (w.alloc (.map #[] 0)) w.heap.size ([] : List (κ × ν)) := ⟨#[], 0, (MapKept.heap_alloc w _).1, by simp, by simp, by simp⟩
omit [DecidableEq κ] in
theorem MapAt.lt (h : MapAt P kt kf vf w b L) : b < w.heap.size := by
 obtain ⟨es, clock, hb, _⟩ := h
 exact (Array.getElem?_eq_some_iff.1 hb).1
omit [DecidableEq κ] in
theorem MapAt.keep {w' : World} (h : MapAt P kt kf vf w b L) (hk : w'.heap[b]? = w.heap[b]?) : MapAt P kt kf vf w' b L := by
 obtain ⟨es, clock, hb, h2⟩ := h
 exact ⟨es, clock, hk.trans hb, h2⟩
omit [DecidableEq κ] in
theorem MapAt.below {w' : World} (h : MapAt P kt kf vf w b L) (hb : Below w.heap.size w w') : MapAt P kt kf vf w' b L := h.keep (hb.block _ h.lt)
omit [DecidableEq κ] in
theorem MapAt.nodup (h : MapAt P kt kf vf w b L) : (L.map (·.1)).Nodup := by
 obtain ⟨_, _, _, _, h, _⟩ := h
 exact h
theorem MapAt.find (h : MapAt P kt kf vf w b L) (K : Keyed P kt) (hinj : ∀ x y, kf x = kf y → x = y) {k : κ} (hk : ∃ l, keyOf P kt (kf k) = some l) : ∃ es clock, w.heap[b]? = some (.map es clock) ∧ es.toList.map (fun e => (e.key, e.val)) = L.map (fun p => (kf p.1, vf p.2)) ∧
  (((Instr.findKey kt (kf k) es.toList).run P w = .ok none w ∧ findM L k = none) ∨ ∃ j e v, (Instr.findKey kt (kf k) es.toList).run P w = .ok (some (j, e.val)) w ∧ es.toList[j]? = some e ∧ e.key = kf k ∧ e.val = vf v ∧ L[j]? = some (k, v) ∧ findM L k = some v) := by
 obtain ⟨es, clock, hb, he, hn, hl⟩ := h
 obtain ⟨l, hkl⟩ := hk
 refine ⟨es, clock, hb, he, ?_⟩
 have pair : ∀ (j : Nat) (e : MapEntry), es.toList[j]? = some e → ∃ p, L[j]? = some p ∧ e.key = kf p.1 ∧ e.val = vf p.2 := by
  intro j e h1
  have h2 : (es.toList.map (fun e => (e.key, e.val)))[j]? = some (e.key, e.val) := by rw [List.getElem?_map, h1]; rfl
  rw [he, List.getElem?_map, Option.map_eq_some_iff] at h2
  obtain ⟨p, h3, h4⟩ := h2
  simp only [Prod.mk.injEq] at h4
  exact ⟨p, h3, h4.1.symm, h4.2.symm⟩
 have pair' : ∀ p ∈ L, ∃ e ∈ es.toList, e.key = kf p.1 := by
  intro p hp
  have h2 : (kf p.1, vf p.2) ∈ L.map (fun p => (kf p.1, vf p.2)) := List.mem_map.2 ⟨p, hp, rfl⟩
  rw [← he] at h2
  obtain ⟨e, h3, h4⟩ := List.mem_map.1 h2
  simp only [Prod.mk.injEq] at h4
  exact ⟨e, h3, h4.1⟩
 rcases K.find w hkl es.toList (fun e he' => by
  obtain ⟨j, hj⟩ := List.mem_iff_getElem?.1 he'
  obtain ⟨p, h1, h2, _⟩ := pair j e hj
  rw [h2]
  exact hl p (List.mem_of_getElem? h1)) with ⟨h1, h2⟩ | ⟨j, e, h1, h2, h3⟩
 ·
  refine Or.inl ⟨h1, findM_none.2 fun p hp hpk => ?_⟩
  obtain ⟨e, h3, h4⟩ := pair' p hp
  exact h2 e h3 (by rw [h4, hpk])
 ·
  obtain ⟨p, h4, h5, h6⟩ := pair j e h2
  have hpk : p.1 = k := hinj _ _ (h5.symm.trans h3)
  have h7 : L[j]? = some (k, p.2) := by rw [h4, ← hpk]
  exact Or.inr ⟨j, e, p.2, h1, h2, h3, h6, h7, findM_at hn h7⟩
def lookV (c : Bool) (z : Value) (vf : ν → Value) : Option ν → Value
 | none => if c then .tuple #[z, .bool false] else z
 | some v => if c then .tuple #[vf v, .bool true] else vf v
theorem MapAt.lookup (h : MapAt P kt kf vf w b L) (c : Bool) (K : Keyed P kt) (hinj : ∀ x y, kf x = kf y → x = y) {t e : TypeId} (ht : P.underlying t = some (.map kt e)) {z : Value} (hz : (zeroValue e).run P w = .ok z w) {k : κ} (hk : ∃ l, keyOf P kt (kf k) = some l) :
  (Instr.lookup t (.map (some b)) (kf k) c).run P w = .ok (lookV c z vf (findM L k)) w := by
 obtain ⟨l, hkl⟩ := hk
 obtain ⟨es, clock, hb, he, h | ⟨j, e, v, h1, h2, h3, h4, _, h5⟩⟩ := h.find K hinj ⟨l, hkl⟩
 ·
  rw [h.2]
  simp [lookV, Instr.lookup, run_underlying ht, MapKept.run_getObj_map hb, K.check w _ hkl, h.1, hz, Result.andThen]
 ·
  rw [h5]
  simp [lookV, Instr.lookup, run_underlying ht, MapKept.run_getObj_map hb, K.check w _ hkl, h1, h4, Result.andThen]
theorem MapAt.update (h : MapAt P kt kf vf w b L) (K : Keyed P kt) (hinj : ∀ x y, kf x = kf y → x = y) {t e : TypeId} (ht : P.underlying t = some (.map kt e)) {k : κ} (hk : ∃ l, keyOf P kt (kf k) = some l) (v : ν) :
  ∃ w', (Instr.mapUpdate t (.map (some b)) (kf k) (vf v)).run P w = .ok () w' ∧ MapAt P kt kf vf w' b (putM L k v) ∧ Only [b] w w' := by
 obtain ⟨l, hkl⟩ := hk
 have hn := h.nodup
 have hl : ∀ p ∈ L, ∃ l, keyOf P kt (kf p.1) = some l := by obtain ⟨_, _, _, _, _, h⟩ := h; exact h
 have hl' : ∀ p ∈ putM L k v, ∃ l, keyOf P kt (kf p.1) = some l := by
  intro p hp
  rcases putM_keys (List.mem_map.2 ⟨p, hp, rfl⟩) with h | h
  ·
   rw [h]; exact ⟨l, hkl⟩
  ·
   obtain ⟨q, hq, he⟩ := List.mem_map.1 h
   rw [← he]
   exact hl q hq
 obtain ⟨es, clock, hb, he, h | ⟨j, e, u, h1, h2, h3, h4, h6, h5⟩⟩ := h.find K hinj ⟨l, hkl⟩
 ·
  refine ⟨setBlock w b (.map (es.push ⟨kf k, vf v, clock⟩) (clock + 1)), ?_, ⟨_, _, heap_setBlock_same hb _, ?_, putM_nodup hn, hl'⟩, ⟨rfl, rfl, rfl, by simp [setBlock], fun i _ hi => heap_setBlock_other hb _ (by simpa using hi)⟩⟩
  ·
   simp [Instr.mapUpdate, run_underlying ht, MapKept.run_getObj_map hb, K.check w false hkl, h.1, MapKept.run_setObj_map _ hb, Result.andThen, setBlock]
  ·
   rw [putM_new h.2, Array.toList_push, List.map_append, List.map_append, he]
   rfl
 ·
  have hj : es[j]? = some e := by rw [← Array.getElem?_toList]; exact h2
  refine ⟨setBlock w b (.map (es.modify j fun e => { e with key := kf k, val := vf v }) clock), ?_, ⟨_, _, heap_setBlock_same hb _, ?_, putM_nodup hn, hl'⟩, ⟨rfl, rfl, rfl, by simp [setBlock], fun i _ hi => heap_setBlock_other hb _ (by simpa using hi)⟩⟩
  ·
   simp [Instr.mapUpdate, run_underlying ht, MapKept.run_getObj_map hb, K.check w false hkl, h1, MapKept.run_setObj_map _ hb, Result.andThen, setBlock, hj, h3, K.stays w hkl]
  ·
   rw [putM_set hn h6, List.map_set, ← he, Array.toList_modify]
   apply List.ext_getElem?
   intro i
   rw [List.getElem?_map, List.getElem?_modify]
   by_cases hij : j = i
   ·
    subst hij
    rw [List.getElem?_set_self (by have := (List.getElem?_eq_some_iff.1 h2).1; simpa using this)]
    simp [hj]
   ·
    rw [List.getElem?_set_ne hij, List.getElem?_map]
    simp [hij]
theorem wpList_lookup_at (w : World) {ops : Array Oper} {rest : List Oper} {o : Oper} {a : Act} {Q : Exit → Act → World → Prop} (hg : o.guard = none) (m x : Operand) (t : TypeId) (c : Bool) (hop : o.op = Op.lookup t m x c)
  (kt e : TypeId) (K : Keyed P kt) (ht : P.underlying t = some (.map kt e)) (z : Value) (hz : (zeroValue e).run P w = .ok z w) {kf : κ → Value} (hinj : ∀ x y, kf x = kf y → x = y) {vf : ν → Value} {L : List (κ × ν)} (b : Nat)
  (hM : MapAt P kt kf vf w b L) (k : κ) (hk : ∃ l, keyOf P kt (kf k) = some l) (hm : a.eval m = .map (some b)) (hx : a.eval x = kf k) (r : Option ν) (hr : findM L k = r)
  (hK : wpList P ops Q rest (a.put o.dst (lookV c z vf r)) w) : wpList P ops Q (o :: rest) a w := by
 subst hr
 refine wpList_plain hg fun K' hK' => ?_
 have hrun := hM.lookup c K hinj ht hz hk
 unfold Oper.wp
 simp [execOp, hop, hm, hx, hrun, Result.andThen]
 exact hK' _ _ hK
theorem wpList_mapUpdate_at (w : World) {ops : Array Oper} {rest : List Oper} {o : Oper} {a : Act} {Q : Exit → Act → World → Prop} (hg : o.guard = none) (m x y : Operand) (t : TypeId) (hop : o.op = Op.mapUpdate t m x y)
  (kt e : TypeId) (K : Keyed P kt) (ht : P.underlying t = some (.map kt e)) {kf : κ → Value} (hinj : ∀ x y, kf x = kf y → x = y) {vf : ν → Value} {L : List (κ × ν)} (b : Nat)
  (hM : MapAt P kt kf vf w b L) (k : κ) (hk : ∃ l, keyOf P kt (kf k) = some l) (v : ν) (hm : a.eval m = .map (some b)) (hx : a.eval x = kf k) (hy : a.eval y = vf v)
  (hK : ∀ w', MapAt P kt kf vf w' b (putM L k v) → Only [b] w w' → wpList P ops Q rest (a.put o.dst undef) w') : wpList P ops Q (o :: rest) a w := by
 refine wpList_plain hg fun K' hK' => ?_
 obtain ⟨w', hrun, r1, r2⟩ := hM.update K hinj ht hk v
 unfold Oper.wp
 simp [execOp, hop, hm, hx, hy, hrun, Result.andThen]
 exact hK' _ _ (hK w' r1 r2)
end
end Go.Proofs.YtcokljhamhgelaaGreatDoor

namespace Go.Proofs.YtcokljhamhgelaaGreatDoor
set_option linter.unusedVariables false
set_option linter.unusedSimpArgs false
theorem text_inj2 {tm am : Int} (ht : tm ≤ 8) (ha : am ≤ 8) {e f : Ex} {r s : List UInt8} (he : e.tree tm am = true) (hf : f.tree tm am = true) (hr : r.head? ≠ some 42) (hs : s.head? ≠ some 42) (h : e.text ++ r = f.text ++ s) : e = f ∧ r = s := by
 obtain ⟨i, x0, rfl, a1, a2, -⟩ := star_base tm am _ e (Nat.le_refl _) he
 obtain ⟨j, y0, rfl, b1, b2, -⟩ := star_base tm am _ f (Nat.le_refl _) hf
 rw [starN_text, starN_text, List.append_assoc, List.append_assoc] at h
 obtain ⟨rfl, h'⟩ := text_inj_core tm am ht ha _ x0 y0 _ _ (Nat.le_refl _) a2 b2 a1 b1 h
 obtain ⟨rfl, h2⟩ := rep_inj i j hr hs h'
 exact ⟨rfl, h2⟩
def pkey (p : Ex × Ex) : List UInt8 := p.1.text ++ (61 :: p.2.text)
theorem pkey_inj {tm am : Int} (ht : tm ≤ 8) (ha : am ≤ 8) {p q : Ex × Ex} (h1 : p.1.tree tm am = true) (h2 : p.2.tree tm am = true) (h3 : q.1.tree tm am = true) (h4 : q.2.tree tm am = true) (h : pkey p = pkey q) : p = q := by
 obtain ⟨e1, e2⟩ := text_inj2 ht ha h1 h3 (by simp) (by simp) h
 have e3 := text_inj ht ha h2 h4 (by simpa using e2)
 exact Prod.ext e1 e3
def PairT (tm am : Int) (p : Ex × Ex) : Prop := p.1.tree tm am = true ∧ p.2.tree tm am = true
def InMap (L : List (Ex × Ex)) (M : List (List UInt8 × Bool)) : Prop := (∀ p ∈ L, findM M (pkey p) = some true) ∧ ∀ k b, findM M k = some b → b = true ∧ ∃ p ∈ L, pkey p = k
theorem InMap.nil : InMap [] [] := ⟨fun _ h => by simp at h, fun _ _ h => by simp [findM] at h⟩
theorem InMap.snoc {L : List (Ex × Ex)} {M : List (List UInt8 × Bool)} (h : InMap L M) (p : Ex × Ex) : InMap (L ++ [p]) (putM M (pkey p) true) := by
 refine ⟨fun q hq => ?_, fun k b hb => ?_⟩
 ·
  rw [findM_putM]
  by_cases e : pkey p = pkey q
  ·
   rw [if_pos e]
  ·
   rw [if_neg e]
   rcases List.mem_append.1 hq with hq | hq
   ·
    exact h.1 q hq
   ·
    rw [List.mem_singleton] at hq
    exact absurd (by rw [hq]) e
 ·
  rw [findM_putM] at hb
  by_cases e : pkey p = k
  ·
   rw [if_pos e] at hb
   exact ⟨(Option.some.inj hb).symm, p, by simp, e⟩
  ·
   rw [if_neg e] at hb
   obtain ⟨h1, q, h2, h3⟩ := h.2 k b hb
   exact ⟨h1, q, List.mem_append_left _ h2, h3⟩
theorem InMap.yes {L : List (Ex × Ex)} {M : List (List UInt8 × Bool)} (h : InMap L M) {p : Ex × Ex} (hp : p ∈ L) : findM M (pkey p) = some true := h.1 p hp
theorem InMap.no {tm am : Int} (ht : tm ≤ 8) (ha : am ≤ 8) {L : List (Ex × Ex)} {M : List (List UInt8 × Bool)} (h : InMap L M) (hL : ∀ p ∈ L, PairT tm am p) {p : Ex × Ex} (hp : PairT tm am p) (hn : p ∉ L) : findM M (pkey p) = none := by
 cases hf : findM M (pkey p) with
 | none => rfl
 | some b =>
  obtain ⟨-, q, hq, e⟩ := h.2 _ b hf
  have := pkey_inj ht ha (hL q hq).1 (hL q hq).2 hp.1 hp.2 e
  exact absurd (this ▸ hq) hn
end Go.Proofs.YtcokljhamhgelaaGreatDoor

namespace Go.Proofs.YtcokljhamhgelaaGreatDoor
set_option linter.unusedVariables false
set_option linter.unusedSimpArgs false
section
variable {α : Type} [DecidableEq α]
def grow1 (L : List α) : Option α → List α
 | none => L
 | some x => if x ∈ L then L else L ++ [x]
def growL (L : List α) (ss : List (Option α)) : List α := ss.foldl grow1 L
theorem growL_append (L : List α) (a b : List (Option α)) : growL L (a ++ b) = growL (growL L a) b := List.foldl_append
theorem grow1_old {L : List α} {x : α} (h : x ∈ L) : grow1 L (some x) = L := if_pos h
theorem grow1_new {L : List α} {x : α} (h : x ∉ L) : grow1 L (some x) = L ++ [x] := if_neg h
end
end Go.Proofs.YtcokljhamhgelaaGreatDoor
