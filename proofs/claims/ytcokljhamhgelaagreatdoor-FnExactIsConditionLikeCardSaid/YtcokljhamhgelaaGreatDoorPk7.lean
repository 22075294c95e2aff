/-
  Parts of a proof, joined: TextE, Inj, Grow. No condition.
-/
import Derived.Test.YtcokljhamhgelaaGreatDoorPk6
namespace Go.Proofs.YtcokljhamhgelaaGreatDoor
set_option linter.unusedVariables false
set_option linter.unusedSimpArgs false
open Go.ChangeShapes Go.WideShapes Go.ChangeAt Go.RowKit Go.Sort
def texC (k n : Int) (ts : List (List UInt8)) : List UInt8 :=
 if k = 1 then [48] else if k = 2 then [49] else if k = 3 then [116] ++ Lib.decDigits n.toNat else if k = 4 then [97] ++ Lib.decDigits n.toNat else if k = 5 then [126] ++ ts.getD 0 []
 else if k = 6 then [40] ++ ts.getD 0 [] ++ [32, 43, 32] ++ ts.getD 1 [] ++ [41] else if k = 7 then [40] ++ ts.getD 0 [] ++ [32] ++ ts.getD 1 [] ++ [41] else ts.getD 0 [] ++ [42]
mutual
def Ex.text : Ex → List UInt8
 | .mk k n ks => texC k n (Ex.textL ks)
def Ex.textL : List Ex → List (List UInt8)
 | [] => []
 | e :: r => e.text :: Ex.textL r
end
theorem numB_any {tm am k n : Int} (hk : k = 3 ∨ k = 4) (h : numB tm am k n = true) (ht : tm ≤ 8) (ha : am ≤ 8) : 0 ≤ n ∧ n ≤ 8 := by
 rcases hk with rfl | rfl <;> simp [numB, inB] at h <;> omega
theorem digits_one {m : Nat} (h : m < 10) : (Lib.decDigits m).length = 1 := by rw [Lib.decDigits_one h]; rfl
theorem text_bound (tm am : Int) (ht : tm ≤ 8) (ha : am ≤ 8) (N : Nat) : ∀ e : Ex, e.size ≤ N → e.tree tm am = true → e.text.length ≤ 5 * e.size := by
 induction N using Nat.strongRecOn with
 | _ N ih =>
 intro e hN htr
 obtain ⟨k, n, ks⟩ := e
 obtain ⟨hk, hnum, hc, htl⟩ := tree_parts htr
 have hs := Ex.size_eq (.mk k n ks)
 simp only [Ex.kids] at hs
 have kid : ∀ x, x ∈ ks → x.text.length ≤ 5 * x.size := fun x hx => ih x.size (by have := Ex.sizeL_mem hx; omega) x (Nat.le_refl _) (Ex.treeL_mem htl hx)
 rcases kind_cases hk with rfl | rfl | rfl | rfl | rfl | rfl | rfl | rfl
 ·
  simp [Ex.text, texC]; omega
 ·
  simp [Ex.text, texC]; omega
 ·
  obtain ⟨h0, h8⟩ := numB_any (by omega) hnum ht ha
  simp only [Ex.text, texC]
  simp [digits_one (show n.toNat < 10 by omega)]
  omega
 ·
  obtain ⟨h0, h8⟩ := numB_any (by omega) hnum ht ha
  simp only [Ex.text, texC]
  simp [digits_one (show n.toNat < 10 by omega)]
  omega
 ·
  obtain ⟨x, rfl⟩ := one_kid hk (by omega)
  have := kid x (by simp)
  simp [Ex.text, texC, Ex.textL]
  simp only [Ex.sizeL] at hs
  omega
 ·
  obtain ⟨x, y, rfl⟩ := two_kids hk (by omega)
  have := kid x (by simp)
  have := kid y (by simp)
  simp [Ex.text, texC, Ex.textL]
  simp only [Ex.sizeL] at hs
  omega
 ·
  obtain ⟨x, y, rfl⟩ := two_kids hk (by omega)
  have := kid x (by simp)
  have := kid y (by simp)
  simp [Ex.text, texC, Ex.textL]
  simp only [Ex.sizeL] at hs
  omega
 ·
  obtain ⟨x, rfl⟩ := one_kid hk (by omega)
  have := kid x (by simp)
  simp [Ex.text, texC, Ex.textL]
  simp only [Ex.sizeL] at hs
  omega
set_option maxHeartbeats 16000000 in
theorem writeExpr_all (W0 : World) (B b : Nat) (hW : W0.heap.size ≤ B) (tm am : Int) (ht : tm ≤ 8) (ha : am ≤ 8) (N : Nat) : ∀ (k n : Int) (ks : List Ex) (s : Option Addr) (c : Nat) (S : Nat → Prop) (l : List UInt8) (w : World), Ex.sizeL ks ≤ N → Rd W0 (kidsD ks) (.slice s ks.length c) →
  Ex.tree tm am (.mk k n ks) = true → Below W0.heap.size W0 w → BldAt B S b l w → B ≤ w.heap.size → l.length + 5 * (1 + Ex.sizeL ks) ≤ 100000000 →
  Calls Tryz.prog 92 #[.pointer (some ⟨b, 0, none⟩), .agg #[.int .i64 k, .int .i64 n, .slice s ks.length c]] w fun e w' => e = .returned (.tuple #[]) ∧ BldAt B (fun x => S x ∨ (w.heap.size ≤ x ∧ x < w'.heap.size)) b (l ++ Ex.text (.mk k n ks)) w' ∧ Spares S w w' := by
 induction N using Nat.strongRecOn with
 | _ N ih =>
 intro k n ks s c S l w hN hr htr h0 hb hB hlen
 obtain ⟨hk, hnum, hc, htl⟩ := tree_parts htr
 rcases kind_cases hk with rfl | rfl | rfl | rfl | rfl | rfl | rfl | rfl
 ·
  have e0 : Ex.text (.mk 1 n ks) = [48] := by simp [Ex.text, texC]
  clear hk hnum htl hc htr
  go_enter Tryz.func92, Tryz.ntmps92
  go_wp2_with fail
  have L := Blk.new3 w 34 (.int .i64 1) (.int .i64 n) (.slice s ks.length c)
  have hS := hb.set.2
  have hb1 := BldS.start (hb.below (Below.alloc (Below.refl _ _) (Nat.le_refl _) (.cells #[.int .i64 1, .int .i64 n, .slice s ks.length c] 34)))
  have hBw : Below w.heap.size w (w.alloc (.cells #[.int .i64 1, .int .i64 n, .slice s ks.length c] 34)) := Below.alloc (Below.refl _ _) (Nat.le_refl _) _
  clear hb
  generalize w.alloc (.cells #[.int .i64 1, .int .i64 n, .slice s ks.length c] 34) = w1 at L hb1 hBw ⊢
  have hb := hb1
  have h01 : Below W0.heap.size W0 w1 := h0.trans (hBw.mono (by omega))
  have hz1 := hBw.size
  have HS := Lib.hid hS
  have HBw := Lib.hid hBw
  have H01 := Lib.hid h01
  clear hb1 hS hBw h01
  have l0 := L.c0
  go_wp2_with fail
  clear l0
  obtain ⟨T, hT, hTS⟩ := hb.ex
  refine (WriteString_i (s := [48]) hT (by simp only [List.length_append, List.length_cons, List.length_nil] at *; omega) (by omega)).mono ?_
  rintro e w2 ⟨⟨u, rfl⟩, hb', hs'⟩
  have szw2 := hs'.size
  replace hb := hb.next hTS hb' hs'
  clear hT hTS hb' hs' T
  have h0c : Below W0.heap.size W0 w2 := H01.out.trans (hb.sp.below (by omega) (fun x hx => by have := HS.out x hx; omega))
  have L2 := L.keep (hb.sp.block _ L.lt (fun hx => by have := HS.out _ hx; omega))
  have l0 := L2.c0
  have l1 := L2.c1
  have l2 := L2.c2
  go_wp2_with fail
  refine bodyPost_end (v := .tuple #[]) (by simp [results, Tryz.results92, go_sem]) rfl ?_
  refine ⟨rfl, ?_⟩
  rw [e0]
  try simp only [List.append_assoc] at hb ⊢
  exact hb.done HBw.out HS.out hB
 ·
  have e0 : Ex.text (.mk 2 n ks) = [49] := by simp [Ex.text, texC]
  clear hk hnum htl hc htr
  go_enter Tryz.func92, Tryz.ntmps92
  go_wp2_with fail
  have L := Blk.new3 w 34 (.int .i64 2) (.int .i64 n) (.slice s ks.length c)
  have hS := hb.set.2
  have hb1 := BldS.start (hb.below (Below.alloc (Below.refl _ _) (Nat.le_refl _) (.cells #[.int .i64 2, .int .i64 n, .slice s ks.length c] 34)))
  have hBw : Below w.heap.size w (w.alloc (.cells #[.int .i64 2, .int .i64 n, .slice s ks.length c] 34)) := Below.alloc (Below.refl _ _) (Nat.le_refl _) _
  clear hb
  generalize w.alloc (.cells #[.int .i64 2, .int .i64 n, .slice s ks.length c] 34) = w1 at L hb1 hBw ⊢
  have hb := hb1
  have h01 : Below W0.heap.size W0 w1 := h0.trans (hBw.mono (by omega))
  have hz1 := hBw.size
  have HS := Lib.hid hS
  have HBw := Lib.hid hBw
  have H01 := Lib.hid h01
  clear hb1 hS hBw h01
  have l0 := L.c0
  go_wp2_with fail
  clear l0
  obtain ⟨T, hT, hTS⟩ := hb.ex
  refine (WriteString_i (s := [49]) hT (by simp only [List.length_append, List.length_cons, List.length_nil] at *; omega) (by omega)).mono ?_
  rintro e w2 ⟨⟨u, rfl⟩, hb', hs'⟩
  have szw2 := hs'.size
  replace hb := hb.next hTS hb' hs'
  clear hT hTS hb' hs' T
  have h0c : Below W0.heap.size W0 w2 := H01.out.trans (hb.sp.below (by omega) (fun x hx => by have := HS.out x hx; omega))
  have L2 := L.keep (hb.sp.block _ L.lt (fun hx => by have := HS.out _ hx; omega))
  have l0 := L2.c0
  have l1 := L2.c1
  have l2 := L2.c2
  go_wp2_with fail
  refine bodyPost_end (v := .tuple #[]) (by simp [results, Tryz.results92, go_sem]) rfl ?_
  refine ⟨rfl, ?_⟩
  rw [e0]
  try simp only [List.append_assoc] at hb ⊢
  exact hb.done HBw.out HS.out hB
 ·
  obtain ⟨n0, n8⟩ := numB_any (by omega) hnum ht ha
  obtain ⟨m, rfl⟩ : ∃ m : Nat, n = (m : Int) := ⟨n.toNat, by omega⟩
  have e0 : Ex.text (.mk 3 m ks) = 116 :: Lib.decDigits m := by simp [Ex.text, texC]
  have hm : m < 10 := by omega
  have Hd := Lib.hid (digits_one hm)
  have Ha : ∀ w, (Op.stringOp .add { data := #[116] } (bs (Lib.decDigits m))).run Tryz.prog w = .ok (.string (bs ([116] ++ Lib.decDigits m))) w := run_cat [116] _ (by rw [digits_one hm]; simp)
  clear hk hnum htl hc htr n0 n8
  go_enter Tryz.func92, Tryz.ntmps92
  go_wp2_with fail
  have L := Blk.new3 w 34 (.int .i64 3) (.int .i64 m) (.slice s ks.length c)
  have hS := hb.set.2
  have hb1 := BldS.start (hb.below (Below.alloc (Below.refl _ _) (Nat.le_refl _) (.cells #[.int .i64 3, .int .i64 m, .slice s ks.length c] 34)))
  have hBw : Below w.heap.size w (w.alloc (.cells #[.int .i64 3, .int .i64 m, .slice s ks.length c] 34)) := Below.alloc (Below.refl _ _) (Nat.le_refl _) _
  clear hb
  generalize w.alloc (.cells #[.int .i64 3, .int .i64 m, .slice s ks.length c] 34) = w1 at L hb1 hBw ⊢
  have hb := hb1
  have h01 : Below W0.heap.size W0 w1 := h0.trans (hBw.mono (by omega))
  have hz1 := hBw.size
  have HS := Lib.hid hS
  have HBw := Lib.hid hBw
  have H01 := Lib.hid h01
  clear hb1 hS hBw h01
  have l0 := L.c0
  have l1 := L.c1
  go_wp2_with fail
  refine (decimal_i (n := m) (by omega)).mono ?_
  rintro e w2 ⟨rfl, rfl⟩
  go_wp2_with fail
  clear l0 l1 Ha
  obtain ⟨T, hT, hTS⟩ := hb.ex
  refine (WriteString_i (s := 116 :: Lib.decDigits m) hT (by have hgg := Hd.out; simp only [List.length_append, List.length_cons, List.length_nil]; omega) (by omega)).mono ?_
  rintro e w2 ⟨⟨u, rfl⟩, hb', hs'⟩
  have szw2 := hs'.size
  replace hb := hb.next hTS hb' hs'
  clear hT hTS hb' hs' T
  have h0c : Below W0.heap.size W0 w2 := H01.out.trans (hb.sp.below (by omega) (fun x hx => by have := HS.out x hx; omega))
  have L2 := L.keep (hb.sp.block _ L.lt (fun hx => by have := HS.out _ hx; omega))
  have l0 := L2.c0
  have l1 := L2.c1
  have l2 := L2.c2
  go_wp2_with fail
  refine bodyPost_end (v := .tuple #[]) (by simp [results, Tryz.results92, go_sem]) rfl ?_
  refine ⟨rfl, ?_⟩
  rw [e0]
  try simp only [List.append_assoc] at hb ⊢
  exact hb.done HBw.out HS.out hB
 ·
  obtain ⟨n0, n8⟩ := numB_any (by omega) hnum ht ha
  obtain ⟨m, rfl⟩ : ∃ m : Nat, n = (m : Int) := ⟨n.toNat, by omega⟩
  have e0 : Ex.text (.mk 4 m ks) = 97 :: Lib.decDigits m := by simp [Ex.text, texC]
  have hm : m < 10 := by omega
  have Hd := Lib.hid (digits_one hm)
  have Ha : ∀ w, (Op.stringOp .add { data := #[97] } (bs (Lib.decDigits m))).run Tryz.prog w = .ok (.string (bs ([97] ++ Lib.decDigits m))) w := run_cat [97] _ (by rw [digits_one hm]; simp)
  clear hk hnum htl hc htr n0 n8
  go_enter Tryz.func92, Tryz.ntmps92
  go_wp2_with fail
  have L := Blk.new3 w 34 (.int .i64 4) (.int .i64 m) (.slice s ks.length c)
  have hS := hb.set.2
  have hb1 := BldS.start (hb.below (Below.alloc (Below.refl _ _) (Nat.le_refl _) (.cells #[.int .i64 4, .int .i64 m, .slice s ks.length c] 34)))
  have hBw : Below w.heap.size w (w.alloc (.cells #[.int .i64 4, .int .i64 m, .slice s ks.length c] 34)) := Below.alloc (Below.refl _ _) (Nat.le_refl _) _
  clear hb
  generalize w.alloc (.cells #[.int .i64 4, .int .i64 m, .slice s ks.length c] 34) = w1 at L hb1 hBw ⊢
  have hb := hb1
  have h01 : Below W0.heap.size W0 w1 := h0.trans (hBw.mono (by omega))
  have hz1 := hBw.size
  have HS := Lib.hid hS
  have HBw := Lib.hid hBw
  have H01 := Lib.hid h01
  clear hb1 hS hBw h01
  have l0 := L.c0
  have l1 := L.c1
  go_wp2_with fail
  refine (decimal_i (n := m) (by omega)).mono ?_
  rintro e w2 ⟨rfl, rfl⟩
  go_wp2_with fail
  clear l0 l1 Ha
  obtain ⟨T, hT, hTS⟩ := hb.ex
  refine (WriteString_i (s := 97 :: Lib.decDigits m) hT (by have hgg := Hd.out; simp only [List.length_append, List.length_cons, List.length_nil]; omega) (by omega)).mono ?_
  rintro e w2 ⟨⟨u, rfl⟩, hb', hs'⟩
  have szw2 := hs'.size
  replace hb := hb.next hTS hb' hs'
  clear hT hTS hb' hs' T
  have h0c : Below W0.heap.size W0 w2 := H01.out.trans (hb.sp.below (by omega) (fun x hx => by have := HS.out x hx; omega))
  have L2 := L.keep (hb.sp.block _ L.lt (fun hx => by have := HS.out _ hx; omega))
  have l0 := L2.c0
  have l1 := L2.c1
  have l2 := L2.c2
  go_wp2_with fail
  refine bodyPost_end (v := .tuple #[]) (by simp [results, Tryz.results92, go_sem]) rfl ?_
  refine ⟨rfl, ?_⟩
  rw [e0]
  try simp only [List.append_assoc] at hb ⊢
  exact hb.done HBw.out HS.out hB
 ·
  obtain ⟨x, rfl⟩ := one_kid hk (by omega)
  have hx : [x][0]? = some x := rfl
  obtain ⟨b', o', rfl⟩ := kid_some hr (by simp)
  have hxt0 : x.tree tm am = true := Ex.treeL_mem htl (by simp)
  have bx := text_bound tm am ht ha _ x (Nat.le_refl _) hxt0
  have hxt : Ex.tree tm am (.mk x.kind x.num x.kids) = true := by rw [← Ex.eta x]; exact hxt0
  have hsx := Ex.size_eq x
  simp only [Ex.sizeL] at hN hlen
  have hxs : Ex.sizeL x.kids < N := by omega
  have ex : Ex.text (.mk x.kind x.num x.kids) = x.text := by rw [← Ex.eta x]
  obtain ⟨hbl, s', c', g0, g1, g2, gr⟩ := kid_in hr hx
  simp only [Nat.zero_mul, Nat.add_zero] at g0 g1 g2
  have e0 : Ex.text (.mk 5 n [x]) = [126] ++ x.text := by simp [Ex.text, texC, Ex.textL]
  clear hk hnum htl hc htr hx hxt0
  go_enter Tryz.func92, Tryz.ntmps92
  go_wp2_with fail
  have L := Blk.new3 w 34 (.int .i64 5) (.int .i64 n) (.slice (some ⟨b', o', none⟩) 1 c)
  have hS := hb.set.2
  have hb1 := BldS.start (hb.below (Below.alloc (Below.refl _ _) (Nat.le_refl _) (.cells #[.int .i64 5, .int .i64 n, .slice (some ⟨b', o', none⟩) 1 c] 34)))
  have hBw : Below w.heap.size w (w.alloc (.cells #[.int .i64 5, .int .i64 n, .slice (some ⟨b', o', none⟩) 1 c] 34)) := Below.alloc (Below.refl _ _) (Nat.le_refl _) _
  clear hb
  generalize w.alloc (.cells #[.int .i64 5, .int .i64 n, .slice (some ⟨b', o', none⟩) 1 c] 34) = w1 at L hb1 hBw ⊢
  have hb := hb1
  have h01 : Below W0.heap.size W0 w1 := h0.trans (hBw.mono (by omega))
  have hz1 := hBw.size
  have HS := Lib.hid hS
  have HBw := Lib.hid hBw
  have H01 := Lib.hid h01
  clear hb1 hS hBw h01
  have l0 := L.c0
  go_wp2_with fail
  clear l0
  obtain ⟨T, hT, hTS⟩ := hb.ex
  refine (WriteString_i (s := [126]) hT (by simp only [List.length_append, List.length_cons, List.length_nil] at *; omega) (by omega)).mono ?_
  rintro e w2 ⟨⟨u, rfl⟩, hb', hs'⟩
  have szw2 := hs'.size
  replace hb := hb.next hTS hb' hs'
  clear hT hTS hb' hs' T
  have h0c : Below W0.heap.size W0 w2 := H01.out.trans (hb.sp.below (by omega) (fun x hx => by have := HS.out x hx; omega))
  have L2 := L.keep (hb.sp.block _ L.lt (fun hx => by have := HS.out _ hx; omega))
  have l0 := L2.c0
  have l1 := L2.c1
  have l2 := L2.c2
  have q0 := (h0c.cell (p := ⟨b', o', none⟩) hbl).trans g0
  have q1 := (h0c.cell (p := ⟨b', o' + 1, none⟩) hbl).trans g1
  have q2 := (h0c.cell (p := ⟨b', o' + 2, none⟩) hbl).trans g2
  go_wp2_with fail
  clear l0 l1 l2 L2 q0 q1 q2
  obtain ⟨T, hT, hTS⟩ := hb.ex
  refine (ih _ hxs _ _ _ _ _ T _ _ (Nat.le_refl _) gr hxt h0c hT (by omega) (by simp only [List.length_append, List.length_cons, List.length_nil] at *; omega)).mono ?_
  rintro e w3 ⟨rfl, hb', hs'⟩
  have szw3 := hs'.size
  replace hb := hb.next hTS hb' hs'
  clear hT hTS hb' hs' T
  have h0c : Below W0.heap.size W0 w3 := H01.out.trans (hb.sp.below (by omega) (fun x hx => by have := HS.out x hx; omega))
  have L2 := L.keep (hb.sp.block _ L.lt (fun hx => by have := HS.out _ hx; omega))
  have l0 := L2.c0
  have l1 := L2.c1
  have l2 := L2.c2
  rw [ex] at hb
  go_wp2_with fail
  refine bodyPost_end (v := .tuple #[]) (by simp [results, Tryz.results92, go_sem]) rfl ?_
  refine ⟨rfl, ?_⟩
  rw [e0]
  try simp only [List.append_assoc] at hb ⊢
  exact hb.done HBw.out HS.out hB
 ·
  obtain ⟨x, y, rfl⟩ := two_kids hk (by omega)
  have hx : [x, y][0]? = some x := rfl
  have hy : [x, y][1]? = some y := rfl
  obtain ⟨b', o', rfl⟩ := kid_some hr (by simp)
  have hxt0 : x.tree tm am = true := Ex.treeL_mem htl (by simp)
  have hyt0 : y.tree tm am = true := Ex.treeL_mem htl (by simp)
  have bx := text_bound tm am ht ha _ x (Nat.le_refl _) hxt0
  have bY := text_bound tm am ht ha _ y (Nat.le_refl _) hyt0
  have hxt : Ex.tree tm am (.mk x.kind x.num x.kids) = true := by rw [← Ex.eta x]; exact hxt0
  have hyt : Ex.tree tm am (.mk y.kind y.num y.kids) = true := by rw [← Ex.eta y]; exact hyt0
  have hsx := Ex.size_eq x
  have hsy := Ex.size_eq y
  simp only [Ex.sizeL] at hN hlen
  have hxs : Ex.sizeL x.kids < N := by omega
  have hys : Ex.sizeL y.kids < N := by omega
  have ex : Ex.text (.mk x.kind x.num x.kids) = x.text := by rw [← Ex.eta x]
  have ey : Ex.text (.mk y.kind y.num y.kids) = y.text := by rw [← Ex.eta y]
  have e0 : Ex.text (.mk 6 n [x, y]) = [40] ++ x.text ++ [32, 43, 32] ++ y.text ++ [41] := by simp [Ex.text, texC, Ex.textL]
  obtain ⟨hbl, s', c', g0, g1, g2, gr⟩ := kid_in hr hx
  obtain ⟨-, s2, c2, k0, k1, k2, kr⟩ := kid_in hr hy
  simp only [Nat.zero_mul, Nat.add_zero] at g0 g1 g2
  simp only [Nat.one_mul] at k0 k1 k2
  clear hk hnum htl hc htr hx hy hxt0 hyt0
  go_enter Tryz.func92, Tryz.ntmps92
  go_wp2_with fail
  have L := Blk.new3 w 34 (.int .i64 6) (.int .i64 n) (.slice (some ⟨b', o', none⟩) 2 c)
  have hS := hb.set.2
  have hb1 := BldS.start (hb.below (Below.alloc (Below.refl _ _) (Nat.le_refl _) (.cells #[.int .i64 6, .int .i64 n, .slice (some ⟨b', o', none⟩) 2 c] 34)))
  have hBw : Below w.heap.size w (w.alloc (.cells #[.int .i64 6, .int .i64 n, .slice (some ⟨b', o', none⟩) 2 c] 34)) := Below.alloc (Below.refl _ _) (Nat.le_refl _) _
  clear hb
  generalize w.alloc (.cells #[.int .i64 6, .int .i64 n, .slice (some ⟨b', o', none⟩) 2 c] 34) = w1 at L hb1 hBw ⊢
  have hb := hb1
  have h01 : Below W0.heap.size W0 w1 := h0.trans (hBw.mono (by omega))
  have hz1 := hBw.size
  have HS := Lib.hid hS
  have HBw := Lib.hid hBw
  have H01 := Lib.hid h01
  clear hb1 hS hBw h01
  have l0 := L.c0
  go_wp2_with fail
  clear l0
  obtain ⟨T, hT, hTS⟩ := hb.ex
  refine (WriteString_i (s := [40]) hT (by simp only [List.length_append, List.length_cons, List.length_nil] at *; omega) (by omega)).mono ?_
  rintro e w2 ⟨⟨u, rfl⟩, hb', hs'⟩
  have szw2 := hs'.size
  replace hb := hb.next hTS hb' hs'
  clear hT hTS hb' hs' T
  have h0c : Below W0.heap.size W0 w2 := H01.out.trans (hb.sp.below (by omega) (fun x hx => by have := HS.out x hx; omega))
  have L2 := L.keep (hb.sp.block _ L.lt (fun hx => by have := HS.out _ hx; omega))
  have l0 := L2.c0
  have l1 := L2.c1
  have l2 := L2.c2
  have q0 := (h0c.cell (p := ⟨b', o', none⟩) hbl).trans g0
  have q1 := (h0c.cell (p := ⟨b', o' + 1, none⟩) hbl).trans g1
  have q2 := (h0c.cell (p := ⟨b', o' + 2, none⟩) hbl).trans g2
  go_wp2_with fail
  clear l0 l1 l2 L2 q0 q1 q2
  obtain ⟨T, hT, hTS⟩ := hb.ex
  refine (ih _ hxs _ _ _ _ _ T _ _ (Nat.le_refl _) gr hxt h0c hT (by omega) (by simp only [List.length_append, List.length_cons, List.length_nil] at *; omega)).mono ?_
  rintro e w3 ⟨rfl, hb', hs'⟩
  have szw3 := hs'.size
  replace hb := hb.next hTS hb' hs'
  clear hT hTS hb' hs' T
  have h0c : Below W0.heap.size W0 w3 := H01.out.trans (hb.sp.below (by omega) (fun x hx => by have := HS.out x hx; omega))
  have L2 := L.keep (hb.sp.block _ L.lt (fun hx => by have := HS.out _ hx; omega))
  have l0 := L2.c0
  have l1 := L2.c1
  have l2 := L2.c2
  rw [ex] at hb
  go_wp2_with fail
  clear l0 l1 l2 L2 h0c
  obtain ⟨T, hT, hTS⟩ := hb.ex
  refine (WriteString_i (s := [32, 43, 32]) hT (by simp only [List.length_append, List.length_cons, List.length_nil] at *; omega) (by omega)).mono ?_
  rintro e w4 ⟨⟨u, rfl⟩, hb', hs'⟩
  have szw4 := hs'.size
  replace hb := hb.next hTS hb' hs'
  clear hT hTS hb' hs' T
  have h0c : Below W0.heap.size W0 w4 := H01.out.trans (hb.sp.below (by omega) (fun x hx => by have := HS.out x hx; omega))
  have L2 := L.keep (hb.sp.block _ L.lt (fun hx => by have := HS.out _ hx; omega))
  have l0 := L2.c0
  have l1 := L2.c1
  have l2 := L2.c2
  have q0 := (h0c.cell (p := ⟨b', o' + 3, none⟩) hbl).trans k0
  have q1 := (h0c.cell (p := ⟨b', o' + 3 + 1, none⟩) hbl).trans k1
  have q2 := (h0c.cell (p := ⟨b', o' + 3 + 2, none⟩) hbl).trans k2
  go_wp2_with fail
  clear l0 l1 l2 L2 q0 q1 q2
  obtain ⟨T, hT, hTS⟩ := hb.ex
  refine (ih _ hys _ _ _ _ _ T _ _ (Nat.le_refl _) kr hyt h0c hT (by omega) (by simp only [List.length_append, List.length_cons, List.length_nil] at *; omega)).mono ?_
  rintro e w5 ⟨rfl, hb', hs'⟩
  have szw5 := hs'.size
  replace hb := hb.next hTS hb' hs'
  clear hT hTS hb' hs' T
  have h0c : Below W0.heap.size W0 w5 := H01.out.trans (hb.sp.below (by omega) (fun x hx => by have := HS.out x hx; omega))
  have L2 := L.keep (hb.sp.block _ L.lt (fun hx => by have := HS.out _ hx; omega))
  have l0 := L2.c0
  have l1 := L2.c1
  have l2 := L2.c2
  rw [ey] at hb
  go_wp2_with fail
  clear l0 l1 l2 L2 h0c
  obtain ⟨T, hT, hTS⟩ := hb.ex
  refine (WriteString_i (s := [41]) hT (by simp only [List.length_append, List.length_cons, List.length_nil] at *; omega) (by omega)).mono ?_
  rintro e w6 ⟨⟨u, rfl⟩, hb', hs'⟩
  have szw6 := hs'.size
  replace hb := hb.next hTS hb' hs'
  clear hT hTS hb' hs' T
  have h0c : Below W0.heap.size W0 w6 := H01.out.trans (hb.sp.below (by omega) (fun x hx => by have := HS.out x hx; omega))
  have L2 := L.keep (hb.sp.block _ L.lt (fun hx => by have := HS.out _ hx; omega))
  have l0 := L2.c0
  have l1 := L2.c1
  have l2 := L2.c2
  go_wp2_with fail
  refine bodyPost_end (v := .tuple #[]) (by simp [results, Tryz.results92, go_sem]) rfl ?_
  refine ⟨rfl, ?_⟩
  rw [e0]
  try simp only [List.append_assoc] at hb ⊢
  exact hb.done HBw.out HS.out hB
 ·
  obtain ⟨x, y, rfl⟩ := two_kids hk (by omega)
  have hx : [x, y][0]? = some x := rfl
  have hy : [x, y][1]? = some y := rfl
  obtain ⟨b', o', rfl⟩ := kid_some hr (by simp)
  have hxt0 : x.tree tm am = true := Ex.treeL_mem htl (by simp)
  have hyt0 : y.tree tm am = true := Ex.treeL_mem htl (by simp)
  have bx := text_bound tm am ht ha _ x (Nat.le_refl _) hxt0
  have bY := text_bound tm am ht ha _ y (Nat.le_refl _) hyt0
  have hxt : Ex.tree tm am (.mk x.kind x.num x.kids) = true := by rw [← Ex.eta x]; exact hxt0
  have hyt : Ex.tree tm am (.mk y.kind y.num y.kids) = true := by rw [← Ex.eta y]; exact hyt0
  have hsx := Ex.size_eq x
  have hsy := Ex.size_eq y
  simp only [Ex.sizeL] at hN hlen
  have hxs : Ex.sizeL x.kids < N := by omega
  have hys : Ex.sizeL y.kids < N := by omega
  have ex : Ex.text (.mk x.kind x.num x.kids) = x.text := by rw [← Ex.eta x]
  have ey : Ex.text (.mk y.kind y.num y.kids) = y.text := by rw [← Ex.eta y]
  have e0 : Ex.text (.mk 7 n [x, y]) = [40] ++ x.text ++ [32] ++ y.text ++ [41] := by simp [Ex.text, texC, Ex.textL]
  obtain ⟨hbl, s', c', g0, g1, g2, gr⟩ := kid_in hr hx
  obtain ⟨-, s2, c2, k0, k1, k2, kr⟩ := kid_in hr hy
  simp only [Nat.zero_mul, Nat.add_zero] at g0 g1 g2
  simp only [Nat.one_mul] at k0 k1 k2
  clear hk hnum htl hc htr hx hy hxt0 hyt0
  go_enter Tryz.func92, Tryz.ntmps92
  go_wp2_with fail
  have L := Blk.new3 w 34 (.int .i64 7) (.int .i64 n) (.slice (some ⟨b', o', none⟩) 2 c)
  have hS := hb.set.2
  have hb1 := BldS.start (hb.below (Below.alloc (Below.refl _ _) (Nat.le_refl _) (.cells #[.int .i64 7, .int .i64 n, .slice (some ⟨b', o', none⟩) 2 c] 34)))
  have hBw : Below w.heap.size w (w.alloc (.cells #[.int .i64 7, .int .i64 n, .slice (some ⟨b', o', none⟩) 2 c] 34)) := Below.alloc (Below.refl _ _) (Nat.le_refl _) _
  clear hb
  generalize w.alloc (.cells #[.int .i64 7, .int .i64 n, .slice (some ⟨b', o', none⟩) 2 c] 34) = w1 at L hb1 hBw ⊢
  have hb := hb1
  have h01 : Below W0.heap.size W0 w1 := h0.trans (hBw.mono (by omega))
  have hz1 := hBw.size
  have HS := Lib.hid hS
  have HBw := Lib.hid hBw
  have H01 := Lib.hid h01
  clear hb1 hS hBw h01
  have l0 := L.c0
  go_wp2_with fail
  clear l0
  obtain ⟨T, hT, hTS⟩ := hb.ex
  refine (WriteString_i (s := [40]) hT (by simp only [List.length_append, List.length_cons, List.length_nil] at *; omega) (by omega)).mono ?_
  rintro e w2 ⟨⟨u, rfl⟩, hb', hs'⟩
  have szw2 := hs'.size
  replace hb := hb.next hTS hb' hs'
  clear hT hTS hb' hs' T
  have h0c : Below W0.heap.size W0 w2 := H01.out.trans (hb.sp.below (by omega) (fun x hx => by have := HS.out x hx; omega))
  have L2 := L.keep (hb.sp.block _ L.lt (fun hx => by have := HS.out _ hx; omega))
  have l0 := L2.c0
  have l1 := L2.c1
  have l2 := L2.c2
  have q0 := (h0c.cell (p := ⟨b', o', none⟩) hbl).trans g0
  have q1 := (h0c.cell (p := ⟨b', o' + 1, none⟩) hbl).trans g1
  have q2 := (h0c.cell (p := ⟨b', o' + 2, none⟩) hbl).trans g2
  go_wp2_with fail
  clear l0 l1 l2 L2 q0 q1 q2
  obtain ⟨T, hT, hTS⟩ := hb.ex
  refine (ih _ hxs _ _ _ _ _ T _ _ (Nat.le_refl _) gr hxt h0c hT (by omega) (by simp only [List.length_append, List.length_cons, List.length_nil] at *; omega)).mono ?_
  rintro e w3 ⟨rfl, hb', hs'⟩
  have szw3 := hs'.size
  replace hb := hb.next hTS hb' hs'
  clear hT hTS hb' hs' T
  have h0c : Below W0.heap.size W0 w3 := H01.out.trans (hb.sp.below (by omega) (fun x hx => by have := HS.out x hx; omega))
  have L2 := L.keep (hb.sp.block _ L.lt (fun hx => by have := HS.out _ hx; omega))
  have l0 := L2.c0
  have l1 := L2.c1
  have l2 := L2.c2
  rw [ex] at hb
  go_wp2_with fail
  clear l0 l1 l2 L2 h0c
  obtain ⟨T, hT, hTS⟩ := hb.ex
  refine (WriteString_i (s := [32]) hT (by simp only [List.length_append, List.length_cons, List.length_nil] at *; omega) (by omega)).mono ?_
  rintro e w4 ⟨⟨u, rfl⟩, hb', hs'⟩
  have szw4 := hs'.size
  replace hb := hb.next hTS hb' hs'
  clear hT hTS hb' hs' T
  have h0c : Below W0.heap.size W0 w4 := H01.out.trans (hb.sp.below (by omega) (fun x hx => by have := HS.out x hx; omega))
  have L2 := L.keep (hb.sp.block _ L.lt (fun hx => by have := HS.out _ hx; omega))
  have l0 := L2.c0
  have l1 := L2.c1
  have l2 := L2.c2
  have q0 := (h0c.cell (p := ⟨b', o' + 3, none⟩) hbl).trans k0
  have q1 := (h0c.cell (p := ⟨b', o' + 3 + 1, none⟩) hbl).trans k1
  have q2 := (h0c.cell (p := ⟨b', o' + 3 + 2, none⟩) hbl).trans k2
  go_wp2_with fail
  clear l0 l1 l2 L2 q0 q1 q2
  obtain ⟨T, hT, hTS⟩ := hb.ex
  refine (ih _ hys _ _ _ _ _ T _ _ (Nat.le_refl _) kr hyt h0c hT (by omega) (by simp only [List.length_append, List.length_cons, List.length_nil] at *; omega)).mono ?_
  rintro e w5 ⟨rfl, hb', hs'⟩
  have szw5 := hs'.size
  replace hb := hb.next hTS hb' hs'
  clear hT hTS hb' hs' T
  have h0c : Below W0.heap.size W0 w5 := H01.out.trans (hb.sp.below (by omega) (fun x hx => by have := HS.out x hx; omega))
  have L2 := L.keep (hb.sp.block _ L.lt (fun hx => by have := HS.out _ hx; omega))
  have l0 := L2.c0
  have l1 := L2.c1
  have l2 := L2.c2
  rw [ey] at hb
  go_wp2_with fail
  clear l0 l1 l2 L2 h0c
  obtain ⟨T, hT, hTS⟩ := hb.ex
  refine (WriteString_i (s := [41]) hT (by simp only [List.length_append, List.length_cons, List.length_nil] at *; omega) (by omega)).mono ?_
  rintro e w6 ⟨⟨u, rfl⟩, hb', hs'⟩
  have szw6 := hs'.size
  replace hb := hb.next hTS hb' hs'
  clear hT hTS hb' hs' T
  have h0c : Below W0.heap.size W0 w6 := H01.out.trans (hb.sp.below (by omega) (fun x hx => by have := HS.out x hx; omega))
  have L2 := L.keep (hb.sp.block _ L.lt (fun hx => by have := HS.out _ hx; omega))
  have l0 := L2.c0
  have l1 := L2.c1
  have l2 := L2.c2
  go_wp2_with fail
  refine bodyPost_end (v := .tuple #[]) (by simp [results, Tryz.results92, go_sem]) rfl ?_
  refine ⟨rfl, ?_⟩
  rw [e0]
  try simp only [List.append_assoc] at hb ⊢
  exact hb.done HBw.out HS.out hB
 ·
  obtain ⟨x, rfl⟩ := one_kid hk (by omega)
  have hx : [x][0]? = some x := rfl
  obtain ⟨b', o', rfl⟩ := kid_some hr (by simp)
  have hxt0 : x.tree tm am = true := Ex.treeL_mem htl (by simp)
  have bx := text_bound tm am ht ha _ x (Nat.le_refl _) hxt0
  have hxt : Ex.tree tm am (.mk x.kind x.num x.kids) = true := by rw [← Ex.eta x]; exact hxt0
  have hsx := Ex.size_eq x
  simp only [Ex.sizeL] at hN hlen
  have hxs : Ex.sizeL x.kids < N := by omega
  have ex : Ex.text (.mk x.kind x.num x.kids) = x.text := by rw [← Ex.eta x]
  obtain ⟨hbl, s', c', g0, g1, g2, gr⟩ := kid_in hr hx
  simp only [Nat.zero_mul, Nat.add_zero] at g0 g1 g2
  have e0 : Ex.text (.mk 8 n [x]) = x.text ++ [42] := by simp [Ex.text, texC, Ex.textL]
  clear hk hnum htl hc htr hx hxt0
  have p0 := (h0.cell (p := ⟨b', o', none⟩) hbl).trans g0
  have p1 := (h0.cell (p := ⟨b', o' + 1, none⟩) hbl).trans g1
  have p2 := (h0.cell (p := ⟨b', o' + 2, none⟩) hbl).trans g2
  have pl : b' < w.heap.size := by omega
  go_enter Tryz.func92, Tryz.ntmps92
  go_wp2_with fail
  have L := Blk.new3 w 34 (.int .i64 8) (.int .i64 n) (.slice (some ⟨b', o', none⟩) 1 c)
  have hS := hb.set.2
  have hb1 := BldS.start (hb.below (Below.alloc (Below.refl _ _) (Nat.le_refl _) (.cells #[.int .i64 8, .int .i64 n, .slice (some ⟨b', o', none⟩) 1 c] 34)))
  have hBw : Below w.heap.size w (w.alloc (.cells #[.int .i64 8, .int .i64 n, .slice (some ⟨b', o', none⟩) 1 c] 34)) := Below.alloc (Below.refl _ _) (Nat.le_refl _) _
  clear hb
  generalize w.alloc (.cells #[.int .i64 8, .int .i64 n, .slice (some ⟨b', o', none⟩) 1 c] 34) = w1 at L hb1 hBw ⊢
  have hb := hb1
  have h01 : Below W0.heap.size W0 w1 := h0.trans (hBw.mono (by omega))
  have hz1 := hBw.size
  have HS := Lib.hid hS
  have HBw := Lib.hid hBw
  have H01 := Lib.hid h01
  clear hb1 hS hBw h01
  have h0c := H01.out
  clear p0 p1 p2 pl
  obtain ⟨T, hT, hTS⟩ := hb.ex
  refine (ih _ hxs _ _ _ _ _ T _ _ (Nat.le_refl _) gr hxt h0c hT (by omega) (by simp only [List.length_append, List.length_cons, List.length_nil] at *; omega)).mono ?_
  rintro e w3 ⟨rfl, hb', hs'⟩
  have szw3 := hs'.size
  replace hb := hb.next hTS hb' hs'
  clear hT hTS hb' hs' T
  have h0c : Below W0.heap.size W0 w3 := H01.out.trans (hb.sp.below (by omega) (fun x hx => by have := HS.out x hx; omega))
  have L2 := L.keep (hb.sp.block _ L.lt (fun hx => by have := HS.out _ hx; omega))
  have l0 := L2.c0
  have l1 := L2.c1
  have l2 := L2.c2
  rw [ex] at hb
  go_wp2_with fail
  clear l0 l1 l2 L2 h0c
  obtain ⟨T, hT, hTS⟩ := hb.ex
  refine (WriteString_i (s := [42]) hT (by simp only [List.length_append, List.length_cons, List.length_nil] at *; omega) (by omega)).mono ?_
  rintro e w4 ⟨⟨u, rfl⟩, hb', hs'⟩
  have szw4 := hs'.size
  replace hb := hb.next hTS hb' hs'
  clear hT hTS hb' hs' T
  have h0c : Below W0.heap.size W0 w4 := H01.out.trans (hb.sp.below (by omega) (fun x hx => by have := HS.out x hx; omega))
  have L2 := L.keep (hb.sp.block _ L.lt (fun hx => by have := HS.out _ hx; omega))
  have l0 := L2.c0
  have l1 := L2.c1
  have l2 := L2.c2
  go_wp2_with fail
  refine bodyPost_end (v := .tuple #[]) (by simp [results, Tryz.results92, go_sem]) rfl ?_
  refine ⟨rfl, ?_⟩
  rw [e0]
  try simp only [List.append_assoc] at hb ⊢
  exact hb.done HBw.out HS.out hB
end Go.Proofs.YtcokljhamhgelaaGreatDoor

namespace Go.Proofs.YtcokljhamhgelaaGreatDoor
set_option linter.unusedVariables false
set_option linter.unusedSimpArgs false
open Go.ChangeShapes Go.WideShapes Go.ChangeAt Go.RowKit
theorem digit_inj {m n : Nat} (hm : m < 10) (hn : n < 10) {r s : List UInt8} (h : Lib.decDigits m ++ r = Lib.decDigits n ++ s) : m = n ∧ r = s := by
 rw [Lib.decDigits_one hm, Lib.decDigits_one hn] at h
 simp only [List.cons_append, List.nil_append, List.cons.injEq] at h
 refine ⟨?_, h.2⟩
 have := congrArg UInt8.toNat h.1
 simp at this
 omega
def starN : Nat → Ex → Ex
 | 0, x => x
 | i + 1, x => .mk 8 0 [starN i x]
theorem starN_text (x : Ex) : ∀ i, (starN i x).text = x.text ++ List.replicate i 42
 | 0 => by simp [starN]
 | i + 1 => by
  simp only [starN, Ex.text, Ex.textL]
  rw [starN_text x i]
  simp [texC, List.replicate_succ']
theorem star_base (tm am : Int) (N : Nat) : ∀ e : Ex, e.size ≤ N → e.tree tm am = true → ∃ i x, e = starN i x ∧ x.kind ≠ 8 ∧ x.tree tm am = true ∧ x.size ≤ e.size := by
 induction N using Nat.strongRecOn with
 | _ N ih =>
 intro e hN ht
 by_cases h8 : e.kind = 8
 ·
  obtain ⟨k, n, ks⟩ := e
  simp only [Ex.kind] at h8
  subst h8
  obtain ⟨hk, hnum, -, htl⟩ := tree_parts ht
  obtain ⟨x, rfl⟩ := one_kid hk (by omega)
  have hx : x.tree tm am = true := Ex.treeL_mem htl (by simp)
  have hs := Ex.size_eq (.mk 8 n [x])
  simp only [Ex.kids, Ex.sizeL] at hs
  obtain ⟨i, y, hy, h1, h2, h3⟩ := ih x.size (by omega) x (Nat.le_refl _) hx
  obtain rfl : n = 0 := by simpa [numB] using hnum
  exact ⟨i + 1, y, by rw [hy]; rfl, h1, h2, by omega⟩
 ·
  exact ⟨0, e, rfl, h8, ht, Nat.le_refl _⟩
theorem rep_inj : ∀ (i j : Nat) {r s : List UInt8}, r.head? ≠ some 42 → s.head? ≠ some 42 → List.replicate i 42 ++ r = List.replicate j 42 ++ s → i = j ∧ r = s
 | 0, 0, r, s, _, _, h => ⟨rfl, by simpa using h⟩
 | 0, j + 1, r, s, h1, _, h => by rw [List.replicate_zero, List.nil_append] at h; rw [h] at h1; simp [List.replicate_succ] at h1
 | i + 1, 0, r, s, _, h2, h => by rw [List.replicate_zero, List.nil_append] at h; rw [← h] at h2; simp [List.replicate_succ] at h2
 | i + 1, j + 1, r, s, h1, h2, h => by
  simp only [List.replicate_succ, List.cons_append, List.cons.injEq, true_and] at h
  obtain ⟨a, b⟩ := rep_inj i j h1 h2 h
  exact ⟨by omega, b⟩
theorem cond_kind {e : Ex} (h : e.cond = true) : e.kind ≠ 8 := by
 intro h8
 obtain ⟨k, n, ks⟩ := e
 simp only [Ex.kind] at h8
 subst h8
 simp [Ex.cond, condKind] at h
theorem text_head (tm am : Int) (N : Nat) : ∀ e : Ex, e.size ≤ N → e.tree tm am = true → ∃ c l, e.text = c :: l ∧ c ≠ 43 := by
 induction N using Nat.strongRecOn with
 | _ N ih =>
 intro e hN ht
 obtain ⟨k, n, ks⟩ := e
 obtain ⟨hk, -, -, htl⟩ := tree_parts ht
 have hs := Ex.size_eq (.mk k n ks)
 simp only [Ex.kids] at hs
 rcases kind_cases hk with rfl | rfl | rfl | rfl | rfl | rfl | rfl | rfl
 ·
  exact ⟨48, [], by simp [Ex.text, texC], by decide⟩
 ·
  exact ⟨49, [], by simp [Ex.text, texC], by decide⟩
 ·
  exact ⟨116, _, by simp [Ex.text, texC]; rfl, by decide⟩
 ·
  exact ⟨97, _, by simp [Ex.text, texC]; rfl, by decide⟩
 ·
  exact ⟨126, _, by simp [Ex.text, texC]; rfl, by decide⟩
 ·
  exact ⟨40, _, by simp [Ex.text, texC]; rfl, by decide⟩
 ·
  exact ⟨40, _, by simp [Ex.text, texC]; rfl, by decide⟩
 ·
  obtain ⟨x, rfl⟩ := one_kid hk (by omega)
  simp only [Ex.sizeL] at hs
  obtain ⟨c, l, h1, h2⟩ := ih x.size (by omega) x (Nat.le_refl _) (Ex.treeL_mem htl (by simp))
  exact ⟨c, l ++ [42], by simp [Ex.text, texC, Ex.textL, h1], h2⟩
theorem text_inj_core (tm am : Int) (ht : tm ≤ 8) (ha : am ≤ 8) (N : Nat) : ∀ (e f : Ex) (r s : List UInt8), e.size ≤ N → e.tree tm am = true → f.tree tm am = true → e.kind ≠ 8 → f.kind ≠ 8 → e.text ++ r = f.text ++ s → e = f ∧ r = s := by
  induction N using Nat.strongRecOn with
  | _ N ih =>
  intro e f r s hN he hf h8 h8' h
  have whole : ∀ (x y : Ex) (r s : List UInt8), x.size < N → x.tree tm am = true → y.tree tm am = true → r.head? ≠ some 42 → s.head? ≠ some 42 → x.text ++ r = y.text ++ s → x = y ∧ r = s := by
    intro x y r s hx tx ty hr hs h
    obtain ⟨i, x0, rfl, a1, a2, a3⟩ := star_base tm am _ x (Nat.le_refl _) tx
    obtain ⟨j, y0, rfl, b1, b2, b3⟩ := star_base tm am _ y (Nat.le_refl _) ty
    rw [starN_text, starN_text, List.append_assoc, List.append_assoc] at h
    obtain ⟨rfl, h'⟩ := ih x0.size (by omega) x0 y0 _ _ (Nat.le_refl _) a2 b2 a1 b1 h
    obtain ⟨rfl, rfl⟩ := rep_inj i j hr hs h'
    exact ⟨rfl, rfl⟩
  obtain ⟨k, n, ks⟩ := e
  obtain ⟨k', n', ks'⟩ := f
  obtain ⟨hk, hnum, hc, htl⟩ := tree_parts he
  obtain ⟨hk', hnum', hc', htl'⟩ := tree_parts hf
  simp only [Ex.kind] at h8 h8'
  have hs := Ex.size_eq (.mk k n ks)
  simp only [Ex.kids] at hs
  have z0 : ∀ {q : Int} {l : List Ex}, kidsN q = (l.length : Int) → q = 1 ∨ q = 2 ∨ q = 3 ∨ q = 4 → l = [] := by
    intro q l hq hh
    have : kidsN q = 0 := by unfold kidsN; rw [if_pos hh]
    exact List.eq_nil_of_length_eq_zero (by omega)
  rcases kind_cases hk with rfl | rfl | rfl | rfl | rfl | rfl | rfl | rfl <;> rcases kind_cases hk' with rfl | rfl | rfl | rfl | rfl | rfl | rfl | rfl
  all_goals first
    | exact absurd rfl h8
    | exact absurd rfl h8'
    | (exfalso; simp [Ex.text, texC] at h; done)
    | skip
  · obtain rfl := z0 hk (by omega)
    obtain rfl := z0 hk' (by omega)
    obtain rfl : n = 0 := by simpa [numB] using hnum
    obtain rfl : n' = 0 := by simpa [numB] using hnum'
    exact ⟨rfl, by simpa [Ex.text, texC] using h⟩
  · obtain rfl := z0 hk (by omega)
    obtain rfl := z0 hk' (by omega)
    obtain rfl : n = 0 := by simpa [numB] using hnum
    obtain rfl : n' = 0 := by simpa [numB] using hnum'
    exact ⟨rfl, by simpa [Ex.text, texC] using h⟩
  · obtain rfl := z0 hk (by omega)
    obtain rfl := z0 hk' (by omega)
    obtain ⟨a0, a8⟩ := numB_any (by omega) hnum ht ha
    obtain ⟨b0, b8⟩ := numB_any (by omega) hnum' ht ha
    simp [Ex.text, texC] at h
    obtain ⟨h1, h2⟩ := digit_inj (by omega) (by omega) h
    obtain rfl : n = n' := by omega
    exact ⟨rfl, h2⟩
  · obtain rfl := z0 hk (by omega)
    obtain rfl := z0 hk' (by omega)
    obtain ⟨a0, a8⟩ := numB_any (by omega) hnum ht ha
    obtain ⟨b0, b8⟩ := numB_any (by omega) hnum' ht ha
    simp [Ex.text, texC] at h
    obtain ⟨h1, h2⟩ := digit_inj (by omega) (by omega) h
    obtain rfl : n = n' := by omega
    exact ⟨rfl, h2⟩
  · obtain ⟨x, rfl⟩ := one_kid hk (by omega)
    obtain ⟨y, rfl⟩ := one_kid hk' (by omega)
    obtain rfl : n = 0 := by simpa [numB] using hnum
    obtain rfl : n' = 0 := by simpa [numB] using hnum'
    have cx : x.cond = true := by simpa [Ex.condL] using hc rfl
    have cy : y.cond = true := by simpa [Ex.condL] using hc' rfl
    simp [Ex.text, texC, Ex.textL] at h
    simp only [Ex.sizeL] at hs
    obtain ⟨rfl, h'⟩ := ih x.size (by omega) x y r s (Nat.le_refl _) (Ex.treeL_mem htl (by simp)) (Ex.treeL_mem htl' (by simp)) (cond_kind cx) (cond_kind cy) h
    exact ⟨rfl, h'⟩
  all_goals
    obtain ⟨x, y, rfl⟩ := two_kids hk (by omega)
    obtain ⟨x', y', rfl⟩ := two_kids hk' (by omega)
    obtain rfl : n = 0 := by simpa [numB] using hnum
    obtain rfl : n' = 0 := by simpa [numB] using hnum'
    have ty : y.tree tm am = true := Ex.treeL_mem htl (by simp)
    have ty' : y'.tree tm am = true := Ex.treeL_mem htl' (by simp)
    simp [Ex.text, texC, Ex.textL] at h
    simp only [Ex.sizeL] at hs
    obtain ⟨hxx, h2⟩ := whole x x' _ _ (by omega) (Ex.treeL_mem htl (by simp)) (Ex.treeL_mem htl' (by simp)) (by simp) (by simp) h
    subst hxx
    clear h
    obtain ⟨c1, l1, q1, p1⟩ := text_head tm am _ y (Nat.le_refl _) ty
    obtain ⟨c2, l2, q2, p2⟩ := text_head tm am _ y' (Nat.le_refl _) ty'
    first
      | (exfalso; rw [q1] at h2; simp at h2; exact p1 h2.1)
      | (exfalso; rw [q2] at h2; simp at h2; exact p2 h2.1.symm)
      | (simp at h2
         obtain ⟨hyy, h3⟩ := whole y y' _ _ (by omega) ty ty' (by simp) (by simp) h2
         subst hyy
         exact ⟨rfl, by simpa using h3⟩)
theorem text_inj {tm am : Int} (ht : tm ≤ 8) (ha : am ≤ 8) {e f : Ex} (he : e.tree tm am = true) (hf : f.tree tm am = true) (h : e.text = f.text) : e = f := by
 obtain ⟨i, x0, rfl, a1, a2, -⟩ := star_base tm am _ e (Nat.le_refl _) he
 obtain ⟨j, y0, rfl, b1, b2, -⟩ := star_base tm am _ f (Nat.le_refl _) hf
 rw [starN_text, starN_text] at h
 obtain ⟨rfl, h'⟩ := text_inj_core tm am ht ha _ x0 y0 _ _ (Nat.le_refl _) a2 b2 a1 b1 h
 obtain ⟨rfl, -⟩ := rep_inj i j (r := []) (s := []) (by simp) (by simp) (by simpa using h')
 rfl
end Go.Proofs.YtcokljhamhgelaaGreatDoor

namespace Go.Proofs.YtcokljhamhgelaaGreatDoor
set_option linter.unusedVariables false
set_option linter.unusedSimpArgs false
section
variable {α : Type} [DecidableEq α]
def grow1 (L : List α) : Option α → List α
 | none => L
 | some x => if x ∈ L then L else L ++ [x]
def growL (L : List α) (ss : List (Option α)) : List α := ss.foldl grow1 L
def numO (L : List α) : Option α → Int
 | none => -1
 | some x => (L.idxOf x : Int)
def upto (L : List α) (ss : List (Option α)) (m : Nat) : List α := growL L (ss.take m)
def expl (s : α) (succ : α → List (Option α)) : Nat → List α
 | 0 => [s]
 | k + 1 => match (expl s succ k)[k]? with
  | none => expl s succ k
  | some x => growL (expl s succ k) (succ x)
theorem grow1_prefix (L : List α) (o : Option α) : L <+: grow1 L o := by
 cases o with
 | none => exact List.prefix_refl _
 | some x =>
  show L <+: if x ∈ L then L else L ++ [x]
  by_cases h : x ∈ L
  ·
   rw [if_pos h]; exact List.prefix_refl _
  ·
   rw [if_neg h]; exact List.prefix_append _ _
theorem growL_prefix : ∀ (ss : List (Option α)) (L : List α), L <+: growL L ss
 | [], L => List.prefix_refl _
 | o :: r, L => (grow1_prefix L o).trans (growL_prefix r (grow1 L o))
theorem growL_append (L : List α) (a b : List (Option α)) : growL L (a ++ b) = growL (growL L a) b := List.foldl_append
theorem upto_zero (L : List α) (ss : List (Option α)) : upto L ss 0 = L := rfl
theorem upto_succ {L : List α} {ss : List (Option α)} {m : Nat} {o : Option α} (h : ss[m]? = some o) : upto L ss (m + 1) = grow1 (upto L ss m) o := by
 obtain ⟨hm, rfl⟩ := List.getElem?_eq_some_iff.1 h
 unfold upto
 rw [List.take_succ_eq_append_getElem hm, growL_append]
 rfl
theorem upto_all {L : List α} {ss : List (Option α)} {m : Nat} (h : ss.length ≤ m) : upto L ss m = growL L ss := by
 unfold upto
 rw [List.take_of_length_le h]
theorem upto_prefix (L : List α) (ss : List (Option α)) (m : Nat) : L <+: upto L ss m := growL_prefix _ _
theorem upto_le {L : List α} {ss : List (Option α)} {m n : Nat} (h : m ≤ n) : upto L ss m <+: upto L ss n := by
 unfold upto
 have : ss.take n = ss.take m ++ (ss.take n).drop m := by
  have h1 := (List.take_append_drop m (ss.take n)).symm
  rwa [List.take_take, Nat.min_eq_left h] at h1
 rw [this, growL_append]
 exact growL_prefix _ _
omit [DecidableEq α] in
theorem prefix_get {L M : List α} (h : L <+: M) {i : Nat} {x : α} (hx : L[i]? = some x) : M[i]? = some x := by
 obtain ⟨r, rfl⟩ := h
 rw [List.getElem?_append_left (List.getElem?_eq_some_iff.1 hx).1]
 exact hx
omit [DecidableEq α] in
theorem prefix_length {L M : List α} (h : L <+: M) : L.length ≤ M.length := by
 obtain ⟨r, rfl⟩ := h
 simp
theorem grow1_old {L : List α} {x : α} (h : x ∈ L) : grow1 L (some x) = L := if_pos h
theorem grow1_new {L : List α} {x : α} (h : x ∉ L) : grow1 L (some x) = L ++ [x] := if_neg h
theorem grow1_mem {L : List α} {x : α} : x ∈ grow1 L (some x) := by
 by_cases h : x ∈ L
 ·
  rw [grow1_old h]; exact h
 ·
  rw [grow1_new h]; simp
theorem grow1_nodup {L : List α} (h : L.Nodup) (o : Option α) : (grow1 L o).Nodup := by
 cases o with
 | none => exact h
 | some x =>
  by_cases hx : x ∈ L
  ·
   rw [grow1_old hx]; exact h
  ·
   rw [grow1_new hx, List.nodup_append]
   exact ⟨h, by simp, fun a ha b hb hab => by
    simp only [List.mem_singleton] at hb
    exact hx (by rw [← hb, ← hab]; exact ha)⟩
theorem growL_nodup : ∀ (ss : List (Option α)) {L : List α}, L.Nodup → (growL L ss).Nodup
 | [], _, h => h
 | o :: r, _, h => growL_nodup r (grow1_nodup h o)
theorem upto_nodup {L : List α} (h : L.Nodup) (ss : List (Option α)) (m : Nat) : (upto L ss m).Nodup := growL_nodup _ h
theorem expl_nodup (s : α) (succ : α → List (Option α)) : ∀ k, (expl s succ k).Nodup
 | 0 => by simp [expl]
 | k + 1 => by
  simp only [expl]
  split
  ·
   exact expl_nodup s succ k
  ·
   exact growL_nodup _ (expl_nodup s succ k)
theorem expl_succ {s : α} {succ : α → List (Option α)} {k : Nat} {x : α} (h : (expl s succ k)[k]? = some x) : expl s succ (k + 1) = growL (expl s succ k) (succ x) := by
 simp only [expl, h]
theorem expl_stop {s : α} {succ : α → List (Option α)} {k : Nat} (h : (expl s succ k).length ≤ k) : ∀ m, k ≤ m → expl s succ m = expl s succ k := by
 intro m hm
 induction hm with
 | refl => rfl
 | step hkm ih =>
  simp only [expl, ih]
  rw [List.getElem?_eq_none (by have : k ≤ _ := hkm; omega)]
theorem expl_step_prefix (s : α) (succ : α → List (Option α)) (k : Nat) : expl s succ k <+: expl s succ (k + 1) := by
 simp only [expl]
 split
 ·
  exact List.prefix_refl _
 ·
  exact growL_prefix _ _
theorem expl_prefix (s : α) (succ : α → List (Option α)) {k m : Nat} (h : k ≤ m) : expl s succ k <+: expl s succ m := by
 induction h with
 | refl => exact List.prefix_refl _
 | step _ ih => exact ih.trans (expl_step_prefix s succ _)
theorem expl_pos (s : α) (succ : α → List (Option α)) (k : Nat) : 1 ≤ (expl s succ k).length := by
 have := prefix_length (expl_prefix s succ (Nat.zero_le k))
 simpa [expl] using this
theorem idxOf_prefix {L M : List α} (h : L <+: M) {x : α} (hx : x ∈ L) : M.idxOf x = L.idxOf x := by
 obtain ⟨r, rfl⟩ := h
 rw [List.idxOf_append, if_pos hx]
theorem idxOf_at {L : List α} (hn : L.Nodup) {i : Nat} {x : α} (h : L[i]? = some x) : L.idxOf x = i := by
 obtain ⟨hi, rfl⟩ := List.getElem?_eq_some_iff.1 h
 exact hn.idxOf_getElem i hi
theorem idxOf_new {L : List α} {x : α} (h : x ∉ L) : (L ++ [x]).idxOf x = L.length := by
 rw [List.idxOf_append, if_neg h]
 simp
theorem numO_bd {L : List α} {o : Option α} (h : ∀ x, o = some x → x ∈ L) : -1 ≤ numO L o ∧ numO L o < L.length := by
 cases o with
 | none => simp only [numO]; omega
 | some x =>
  have := List.idxOf_lt_length_of_mem (h x rfl)
  simp only [numO]
  omega
end
end Go.Proofs.YtcokljhamhgelaaGreatDoor
