/-
  Texts of expressions: impl.writeExpr, impl.textOf, spec.l01Text; ExprText of both.
-/
import Derived.Test.YtlnojmmjpgpjdaaDoorBld
import Derived.Test.YtlnojmmjpgpjdaaDoorEmpty
namespace Go.Proofs.YtlnojmmjpgpjdaaDoor
open Go.ChangeShapes Go.WideShapes Go.ChangeAt Go.RowKit Go.Sort

def texC (k n : Int) (ts : List (List UInt8)) : List UInt8 :=
  if k = 1 then [48] else if k = 2 then [49] else if k = 3 then [116] ++ Lib.decDigits n.toNat else if k = 4 then [97] ++ Lib.decDigits n.toNat else if k = 5 then [126] ++ ts.getD 0 []
  else if k = 6 then [40] ++ ts.getD 0 [] ++ [32, 43, 32] ++ ts.getD 1 [] ++ [41] else if k = 7 then [40] ++ ts.getD 0 [] ++ [32] ++ ts.getD 1 [] ++ [41] else ts.getD 0 [] ++ [42]
mutual
/-- The text of an expression. -/
def Ex.text : Ex → List UInt8
  | .mk k n ks => texC k n (Ex.textL ks)
def Ex.textL : List Ex → List (List UInt8)
  | [] => []
  | e :: r => e.text :: Ex.textL r
end
theorem Ex.text_eq (e : Ex) : e.text = texC e.kind e.num (Ex.textL e.kids) := by cases e; simp only [Ex.text, Ex.kind, Ex.num, Ex.kids]
theorem numB_any {tm am k n : Int} (hk : k = 3 ∨ k = 4) (h : numB tm am k n = true) (ht : tm ≤ 8) (ha : am ≤ 8) : 0 ≤ n ∧ n ≤ 8 := by
  rcases hk with rfl | rfl <;> simp [numB, inB] at h <;> omega
theorem digits_one {m : Nat} (h : m < 10) : (Lib.decDigits m).length = 1 := by rw [Lib.decDigits_one h]; rfl
theorem text_bound (tm am : Int) (ht : tm ≤ 8) (ha : am ≤ 8) (N : Nat) : ∀ e : Ex, e.size ≤ N → e.tree tm am = true → e.text.length ≤ 5 * e.size := by
  induction N using Nat.strongRecOn with
  | _ N ih =>
  intro e hN htr
  obtain ⟨k, n, ks⟩ := e
  obtain ⟨hk, hnum, hc, htl⟩ := tree_parts htr
  have hs := Ex.size_eq (.mk k n ks)
  simp only [Ex.kids] at hs
  have kid : ∀ x, x ∈ ks → x.text.length ≤ 5 * x.size := fun x hx => ih x.size (by have := Ex.sizeL_mem hx; omega) x (Nat.le_refl _) (Ex.treeL_mem htl hx)
  rcases kind_cases hk with rfl | rfl | rfl | rfl | rfl | rfl | rfl | rfl
  · simp [Ex.text, texC]; omega
  · simp [Ex.text, texC]; omega
  · obtain ⟨h0, h8⟩ := numB_any (by omega) hnum ht ha
    simp only [Ex.text, texC]
    simp [digits_one (show n.toNat < 10 by omega)]
    omega
  · obtain ⟨h0, h8⟩ := numB_any (by omega) hnum ht ha
    simp only [Ex.text, texC]
    simp [digits_one (show n.toNat < 10 by omega)]
    omega
  · obtain ⟨x, rfl⟩ := one_kid hk (by omega)
    have := kid x (by simp)
    simp [Ex.text, texC, Ex.textL]
    simp only [Ex.sizeL] at hs
    omega
  · obtain ⟨x, y, rfl⟩ := two_kids hk (by omega)
    have := kid x (by simp)
    have := kid y (by simp)
    simp [Ex.text, texC, Ex.textL]
    simp only [Ex.sizeL] at hs
    omega
  · obtain ⟨x, y, rfl⟩ := two_kids hk (by omega)
    have := kid x (by simp)
    have := kid y (by simp)
    simp [Ex.text, texC, Ex.textL]
    simp only [Ex.sizeL] at hs
    omega
  · obtain ⟨x, rfl⟩ := one_kid hk (by omega)
    have := kid x (by simp)
    simp [Ex.text, texC, Ex.textL]
    simp only [Ex.sizeL] at hs
    omega

set_option maxHeartbeats 16000000 in
theorem writeExpr_all (W0 : World) (B b : Nat) (hW : W0.heap.size ≤ B) (tm am : Int) (ht : tm ≤ 8) (ha : am ≤ 8) (N : Nat) : ∀ (k n : Int) (ks : List Ex) (s : Option Addr) (c : Nat) (S : Nat → Prop) (l : List UInt8) (w : World), Ex.sizeL ks ≤ N → Rd W0 (kidsD ks) (.slice s ks.length c) →
    Ex.tree tm am (.mk k n ks) = true → Below W0.heap.size W0 w → BldAt B S b l w → B ≤ w.heap.size → l.length + 5 * (1 + Ex.sizeL ks) ≤ 100000000 →
    Calls Tryd.prog 111 #[.pointer (some ⟨b, 0, none⟩), .agg #[.int .i64 k, .int .i64 n, .slice s ks.length c]] w fun e w' => e = .returned (.tuple #[]) ∧ BldAt B (fun x => S x ∨ (w.heap.size ≤ x ∧ x < w'.heap.size)) b (l ++ Ex.text (.mk k n ks)) w' ∧ Spares S w w' := by
  induction N using Nat.strongRecOn with
  | _ N ih =>
  intro k n ks s c S l w hN hr htr h0 hb hB hlen
  obtain ⟨hk, hnum, hc, htl⟩ := tree_parts htr
  rcases kind_cases hk with rfl | rfl | rfl | rfl | rfl | rfl | rfl | rfl
  · have e0 : Ex.text (.mk 1 n ks) = [48] := by simp [Ex.text, texC]
    clear hk hnum htl hc htr
    go_enter Tryd.func111, Tryd.ntmps111
    go_wp2_with fail
    have L := Blk.new3 w 44 (.int .i64 1) (.int .i64 n) (.slice s ks.length c)
    have hS := hb.set.2
    have hb1 := BldS.start (hb.below (Below.alloc (Below.refl _ _) (Nat.le_refl _) (.cells #[.int .i64 1, .int .i64 n, .slice s ks.length c] 44)))
    have hBw : Below w.heap.size w (w.alloc (.cells #[.int .i64 1, .int .i64 n, .slice s ks.length c] 44)) := Below.alloc (Below.refl _ _) (Nat.le_refl _) _
    clear hb
    generalize w.alloc (.cells #[.int .i64 1, .int .i64 n, .slice s ks.length c] 44) = w1 at L hb1 hBw ⊢
    have hb := hb1
    have h01 : Below W0.heap.size W0 w1 := h0.trans (hBw.mono (by omega))
    have hz1 := hBw.size
    have HS := Lib.hid hS
    have HBw := Lib.hid hBw
    have H01 := Lib.hid h01
    clear hb1 hS hBw h01
    have l0 := L.c0
    go_wp2_with fail
    clear l0
    obtain ⟨T, hT, hTS⟩ := hb.ex
    refine (WriteString_i (s := [48]) hT (by simp only [List.length_append, List.length_cons, List.length_nil] at *; omega) (by omega)).mono ?_
    rintro e w2 ⟨⟨u, rfl⟩, hb', hs'⟩
    have szw2 := hs'.size
    replace hb := hb.next hTS hb' hs'
    clear hT hTS hb' hs' T
    have h0c : Below W0.heap.size W0 w2 := H01.out.trans (hb.sp.below (by omega) (fun x hx => by have := HS.out x hx; omega))
    have L2 := L.keep (hb.sp.block _ L.lt (fun hx => by have := HS.out _ hx; omega))
    have l0 := L2.c0
    have l1 := L2.c1
    have l2 := L2.c2
    go_wp2_with fail
    refine bodyPost_end (v := .tuple #[]) (by simp [results, Tryd.results111, go_sem]) rfl ?_
    refine ⟨rfl, ?_⟩
    rw [e0]
    try simp only [List.append_assoc] at hb ⊢
    exact hb.done HBw.out HS.out hB
  · have e0 : Ex.text (.mk 2 n ks) = [49] := by simp [Ex.text, texC]
    clear hk hnum htl hc htr
    go_enter Tryd.func111, Tryd.ntmps111
    go_wp2_with fail
    have L := Blk.new3 w 44 (.int .i64 2) (.int .i64 n) (.slice s ks.length c)
    have hS := hb.set.2
    have hb1 := BldS.start (hb.below (Below.alloc (Below.refl _ _) (Nat.le_refl _) (.cells #[.int .i64 2, .int .i64 n, .slice s ks.length c] 44)))
    have hBw : Below w.heap.size w (w.alloc (.cells #[.int .i64 2, .int .i64 n, .slice s ks.length c] 44)) := Below.alloc (Below.refl _ _) (Nat.le_refl _) _
    clear hb
    generalize w.alloc (.cells #[.int .i64 2, .int .i64 n, .slice s ks.length c] 44) = w1 at L hb1 hBw ⊢
    have hb := hb1
    have h01 : Below W0.heap.size W0 w1 := h0.trans (hBw.mono (by omega))
    have hz1 := hBw.size
    have HS := Lib.hid hS
    have HBw := Lib.hid hBw
    have H01 := Lib.hid h01
    clear hb1 hS hBw h01
    have l0 := L.c0
    go_wp2_with fail
    clear l0
    obtain ⟨T, hT, hTS⟩ := hb.ex
    refine (WriteString_i (s := [49]) hT (by simp only [List.length_append, List.length_cons, List.length_nil] at *; omega) (by omega)).mono ?_
    rintro e w2 ⟨⟨u, rfl⟩, hb', hs'⟩
    have szw2 := hs'.size
    replace hb := hb.next hTS hb' hs'
    clear hT hTS hb' hs' T
    have h0c : Below W0.heap.size W0 w2 := H01.out.trans (hb.sp.below (by omega) (fun x hx => by have := HS.out x hx; omega))
    have L2 := L.keep (hb.sp.block _ L.lt (fun hx => by have := HS.out _ hx; omega))
    have l0 := L2.c0
    have l1 := L2.c1
    have l2 := L2.c2
    go_wp2_with fail
    refine bodyPost_end (v := .tuple #[]) (by simp [results, Tryd.results111, go_sem]) rfl ?_
    refine ⟨rfl, ?_⟩
    rw [e0]
    try simp only [List.append_assoc] at hb ⊢
    exact hb.done HBw.out HS.out hB
  · obtain ⟨n0, n8⟩ := numB_any (by omega) hnum ht ha
    obtain ⟨m, rfl⟩ : ∃ m : Nat, n = (m : Int) := ⟨n.toNat, by omega⟩
    have e0 : Ex.text (.mk 3 m ks) = 116 :: Lib.decDigits m := by simp [Ex.text, texC]
    have hm : m < 10 := by omega
    have Hd := Lib.hid (digits_one hm)
    have Ha : ∀ w, (Op.stringOp .add { data := #[116] } (bs (Lib.decDigits m))).run Tryd.prog w = .ok (.string (bs ([116] ++ Lib.decDigits m))) w := run_cat [116] _ (by rw [digits_one hm]; simp)
    clear hk hnum htl hc htr n0 n8
    go_enter Tryd.func111, Tryd.ntmps111
    go_wp2_with fail
    have L := Blk.new3 w 44 (.int .i64 3) (.int .i64 m) (.slice s ks.length c)
    have hS := hb.set.2
    have hb1 := BldS.start (hb.below (Below.alloc (Below.refl _ _) (Nat.le_refl _) (.cells #[.int .i64 3, .int .i64 m, .slice s ks.length c] 44)))
    have hBw : Below w.heap.size w (w.alloc (.cells #[.int .i64 3, .int .i64 m, .slice s ks.length c] 44)) := Below.alloc (Below.refl _ _) (Nat.le_refl _) _
    clear hb
    generalize w.alloc (.cells #[.int .i64 3, .int .i64 m, .slice s ks.length c] 44) = w1 at L hb1 hBw ⊢
    have hb := hb1
    have h01 : Below W0.heap.size W0 w1 := h0.trans (hBw.mono (by omega))
    have hz1 := hBw.size
    have HS := Lib.hid hS
    have HBw := Lib.hid hBw
    have H01 := Lib.hid h01
    clear hb1 hS hBw h01
    have l0 := L.c0
    have l1 := L.c1
    go_wp2_with fail
    refine (decimal_i (n := m) (by omega)).mono ?_
    rintro e w2 ⟨rfl, rfl⟩
    go_wp2_with fail
    clear l0 l1 Ha
    obtain ⟨T, hT, hTS⟩ := hb.ex
    refine (WriteString_i (s := 116 :: Lib.decDigits m) hT (by have hgg := Hd.out; simp only [List.length_append, List.length_cons, List.length_nil]; omega) (by omega)).mono ?_
    rintro e w2 ⟨⟨u, rfl⟩, hb', hs'⟩
    have szw2 := hs'.size
    replace hb := hb.next hTS hb' hs'
    clear hT hTS hb' hs' T
    have h0c : Below W0.heap.size W0 w2 := H01.out.trans (hb.sp.below (by omega) (fun x hx => by have := HS.out x hx; omega))
    have L2 := L.keep (hb.sp.block _ L.lt (fun hx => by have := HS.out _ hx; omega))
    have l0 := L2.c0
    have l1 := L2.c1
    have l2 := L2.c2
    go_wp2_with fail
    refine bodyPost_end (v := .tuple #[]) (by simp [results, Tryd.results111, go_sem]) rfl ?_
    refine ⟨rfl, ?_⟩
    rw [e0]
    try simp only [List.append_assoc] at hb ⊢
    exact hb.done HBw.out HS.out hB
  · obtain ⟨n0, n8⟩ := numB_any (by omega) hnum ht ha
    obtain ⟨m, rfl⟩ : ∃ m : Nat, n = (m : Int) := ⟨n.toNat, by omega⟩
    have e0 : Ex.text (.mk 4 m ks) = 97 :: Lib.decDigits m := by simp [Ex.text, texC]
    have hm : m < 10 := by omega
    have Hd := Lib.hid (digits_one hm)
    have Ha : ∀ w, (Op.stringOp .add { data := #[97] } (bs (Lib.decDigits m))).run Tryd.prog w = .ok (.string (bs ([97] ++ Lib.decDigits m))) w := run_cat [97] _ (by rw [digits_one hm]; simp)
    clear hk hnum htl hc htr n0 n8
    go_enter Tryd.func111, Tryd.ntmps111
    go_wp2_with fail
    have L := Blk.new3 w 44 (.int .i64 4) (.int .i64 m) (.slice s ks.length c)
    have hS := hb.set.2
    have hb1 := BldS.start (hb.below (Below.alloc (Below.refl _ _) (Nat.le_refl _) (.cells #[.int .i64 4, .int .i64 m, .slice s ks.length c] 44)))
    have hBw : Below w.heap.size w (w.alloc (.cells #[.int .i64 4, .int .i64 m, .slice s ks.length c] 44)) := Below.alloc (Below.refl _ _) (Nat.le_refl _) _
    clear hb
    generalize w.alloc (.cells #[.int .i64 4, .int .i64 m, .slice s ks.length c] 44) = w1 at L hb1 hBw ⊢
    have hb := hb1
    have h01 : Below W0.heap.size W0 w1 := h0.trans (hBw.mono (by omega))
    have hz1 := hBw.size
    have HS := Lib.hid hS
    have HBw := Lib.hid hBw
    have H01 := Lib.hid h01
    clear hb1 hS hBw h01
    have l0 := L.c0
    have l1 := L.c1
    go_wp2_with fail
    refine (decimal_i (n := m) (by omega)).mono ?_
    rintro e w2 ⟨rfl, rfl⟩
    go_wp2_with fail
    clear l0 l1 Ha
    obtain ⟨T, hT, hTS⟩ := hb.ex
    refine (WriteString_i (s := 97 :: Lib.decDigits m) hT (by have hgg := Hd.out; simp only [List.length_append, List.length_cons, List.length_nil]; omega) (by omega)).mono ?_
    rintro e w2 ⟨⟨u, rfl⟩, hb', hs'⟩
    have szw2 := hs'.size
    replace hb := hb.next hTS hb' hs'
    clear hT hTS hb' hs' T
    have h0c : Below W0.heap.size W0 w2 := H01.out.trans (hb.sp.below (by omega) (fun x hx => by have := HS.out x hx; omega))
    have L2 := L.keep (hb.sp.block _ L.lt (fun hx => by have := HS.out _ hx; omega))
    have l0 := L2.c0
    have l1 := L2.c1
    have l2 := L2.c2
    go_wp2_with fail
    refine bodyPost_end (v := .tuple #[]) (by simp [results, Tryd.results111, go_sem]) rfl ?_
    refine ⟨rfl, ?_⟩
    rw [e0]
    try simp only [List.append_assoc] at hb ⊢
    exact hb.done HBw.out HS.out hB
  · obtain ⟨x, rfl⟩ := one_kid hk (by omega)
    have hx : [x][0]? = some x := rfl
    obtain ⟨b', o', rfl⟩ := kid_some hr (by simp)
    have hxt0 : x.tree tm am = true := Ex.treeL_mem htl (by simp)
    have bx := text_bound tm am ht ha _ x (Nat.le_refl _) hxt0
    have hxt : Ex.tree tm am (.mk x.kind x.num x.kids) = true := by rw [← Ex.eta x]; exact hxt0
    have hsx := Ex.size_eq x
    simp only [Ex.sizeL] at hN hlen
    have hxs : Ex.sizeL x.kids < N := by omega
    have ex : Ex.text (.mk x.kind x.num x.kids) = x.text := by rw [← Ex.eta x]
    obtain ⟨hbl, s', c', g0, g1, g2, gr⟩ := kid_in hr hx
    simp only [Nat.zero_mul, Nat.add_zero] at g0 g1 g2
    have e0 : Ex.text (.mk 5 n [x]) = [126] ++ x.text := by simp [Ex.text, texC, Ex.textL]
    clear hk hnum htl hc htr hx hxt0
    go_enter Tryd.func111, Tryd.ntmps111
    go_wp2_with fail
    have L := Blk.new3 w 44 (.int .i64 5) (.int .i64 n) (.slice (some ⟨b', o', none⟩) 1 c)
    have hS := hb.set.2
    have hb1 := BldS.start (hb.below (Below.alloc (Below.refl _ _) (Nat.le_refl _) (.cells #[.int .i64 5, .int .i64 n, .slice (some ⟨b', o', none⟩) 1 c] 44)))
    have hBw : Below w.heap.size w (w.alloc (.cells #[.int .i64 5, .int .i64 n, .slice (some ⟨b', o', none⟩) 1 c] 44)) := Below.alloc (Below.refl _ _) (Nat.le_refl _) _
    clear hb
    generalize w.alloc (.cells #[.int .i64 5, .int .i64 n, .slice (some ⟨b', o', none⟩) 1 c] 44) = w1 at L hb1 hBw ⊢
    have hb := hb1
    have h01 : Below W0.heap.size W0 w1 := h0.trans (hBw.mono (by omega))
    have hz1 := hBw.size
    have HS := Lib.hid hS
    have HBw := Lib.hid hBw
    have H01 := Lib.hid h01
    clear hb1 hS hBw h01
    have l0 := L.c0
    go_wp2_with fail
    clear l0
    obtain ⟨T, hT, hTS⟩ := hb.ex
    refine (WriteString_i (s := [126]) hT (by simp only [List.length_append, List.length_cons, List.length_nil] at *; omega) (by omega)).mono ?_
    rintro e w2 ⟨⟨u, rfl⟩, hb', hs'⟩
    have szw2 := hs'.size
    replace hb := hb.next hTS hb' hs'
    clear hT hTS hb' hs' T
    have h0c : Below W0.heap.size W0 w2 := H01.out.trans (hb.sp.below (by omega) (fun x hx => by have := HS.out x hx; omega))
    have L2 := L.keep (hb.sp.block _ L.lt (fun hx => by have := HS.out _ hx; omega))
    have l0 := L2.c0
    have l1 := L2.c1
    have l2 := L2.c2
    have q0 := (h0c.cell (p := ⟨b', o', none⟩) hbl).trans g0
    have q1 := (h0c.cell (p := ⟨b', o' + 1, none⟩) hbl).trans g1
    have q2 := (h0c.cell (p := ⟨b', o' + 2, none⟩) hbl).trans g2
    go_wp2_with fail
    clear l0 l1 l2 L2 q0 q1 q2
    obtain ⟨T, hT, hTS⟩ := hb.ex
    refine (ih _ hxs _ _ _ _ _ T _ _ (Nat.le_refl _) gr hxt h0c hT (by omega) (by simp only [List.length_append, List.length_cons, List.length_nil] at *; omega)).mono ?_
    rintro e w3 ⟨rfl, hb', hs'⟩
    have szw3 := hs'.size
    replace hb := hb.next hTS hb' hs'
    clear hT hTS hb' hs' T
    have h0c : Below W0.heap.size W0 w3 := H01.out.trans (hb.sp.below (by omega) (fun x hx => by have := HS.out x hx; omega))
    have L2 := L.keep (hb.sp.block _ L.lt (fun hx => by have := HS.out _ hx; omega))
    have l0 := L2.c0
    have l1 := L2.c1
    have l2 := L2.c2
    rw [ex] at hb
    go_wp2_with fail
    refine bodyPost_end (v := .tuple #[]) (by simp [results, Tryd.results111, go_sem]) rfl ?_
    refine ⟨rfl, ?_⟩
    rw [e0]
    try simp only [List.append_assoc] at hb ⊢
    exact hb.done HBw.out HS.out hB
  · obtain ⟨x, y, rfl⟩ := two_kids hk (by omega)
    have hx : [x, y][0]? = some x := rfl
    have hy : [x, y][1]? = some y := rfl
    obtain ⟨b', o', rfl⟩ := kid_some hr (by simp)
    have hxt0 : x.tree tm am = true := Ex.treeL_mem htl (by simp)
    have hyt0 : y.tree tm am = true := Ex.treeL_mem htl (by simp)
    have bx := text_bound tm am ht ha _ x (Nat.le_refl _) hxt0
    have bY := text_bound tm am ht ha _ y (Nat.le_refl _) hyt0
    have hxt : Ex.tree tm am (.mk x.kind x.num x.kids) = true := by rw [← Ex.eta x]; exact hxt0
    have hyt : Ex.tree tm am (.mk y.kind y.num y.kids) = true := by rw [← Ex.eta y]; exact hyt0
    have hsx := Ex.size_eq x
    have hsy := Ex.size_eq y
    simp only [Ex.sizeL] at hN hlen
    have hxs : Ex.sizeL x.kids < N := by omega
    have hys : Ex.sizeL y.kids < N := by omega
    have ex : Ex.text (.mk x.kind x.num x.kids) = x.text := by rw [← Ex.eta x]
    have ey : Ex.text (.mk y.kind y.num y.kids) = y.text := by rw [← Ex.eta y]
    have e0 : Ex.text (.mk 6 n [x, y]) = [40] ++ x.text ++ [32, 43, 32] ++ y.text ++ [41] := by simp [Ex.text, texC, Ex.textL]
    obtain ⟨hbl, s', c', g0, g1, g2, gr⟩ := kid_in hr hx
    obtain ⟨-, s2, c2, k0, k1, k2, kr⟩ := kid_in hr hy
    simp only [Nat.zero_mul, Nat.add_zero] at g0 g1 g2
    simp only [Nat.one_mul] at k0 k1 k2
    clear hk hnum htl hc htr hx hy hxt0 hyt0
    go_enter Tryd.func111, Tryd.ntmps111
    go_wp2_with fail
    have L := Blk.new3 w 44 (.int .i64 6) (.int .i64 n) (.slice (some ⟨b', o', none⟩) 2 c)
    have hS := hb.set.2
    have hb1 := BldS.start (hb.below (Below.alloc (Below.refl _ _) (Nat.le_refl _) (.cells #[.int .i64 6, .int .i64 n, .slice (some ⟨b', o', none⟩) 2 c] 44)))
    have hBw : Below w.heap.size w (w.alloc (.cells #[.int .i64 6, .int .i64 n, .slice (some ⟨b', o', none⟩) 2 c] 44)) := Below.alloc (Below.refl _ _) (Nat.le_refl _) _
    clear hb
    generalize w.alloc (.cells #[.int .i64 6, .int .i64 n, .slice (some ⟨b', o', none⟩) 2 c] 44) = w1 at L hb1 hBw ⊢
    have hb := hb1
    have h01 : Below W0.heap.size W0 w1 := h0.trans (hBw.mono (by omega))
    have hz1 := hBw.size
    have HS := Lib.hid hS
    have HBw := Lib.hid hBw
    have H01 := Lib.hid h01
    clear hb1 hS hBw h01
    have l0 := L.c0
    go_wp2_with fail
    clear l0
    obtain ⟨T, hT, hTS⟩ := hb.ex
    refine (WriteString_i (s := [40]) hT (by simp only [List.length_append, List.length_cons, List.length_nil] at *; omega) (by omega)).mono ?_
    rintro e w2 ⟨⟨u, rfl⟩, hb', hs'⟩
    have szw2 := hs'.size
    replace hb := hb.next hTS hb' hs'
    clear hT hTS hb' hs' T
    have h0c : Below W0.heap.size W0 w2 := H01.out.trans (hb.sp.below (by omega) (fun x hx => by have := HS.out x hx; omega))
    have L2 := L.keep (hb.sp.block _ L.lt (fun hx => by have := HS.out _ hx; omega))
    have l0 := L2.c0
    have l1 := L2.c1
    have l2 := L2.c2
    have q0 := (h0c.cell (p := ⟨b', o', none⟩) hbl).trans g0
    have q1 := (h0c.cell (p := ⟨b', o' + 1, none⟩) hbl).trans g1
    have q2 := (h0c.cell (p := ⟨b', o' + 2, none⟩) hbl).trans g2
    go_wp2_with fail
    clear l0 l1 l2 L2 q0 q1 q2
    obtain ⟨T, hT, hTS⟩ := hb.ex
    refine (ih _ hxs _ _ _ _ _ T _ _ (Nat.le_refl _) gr hxt h0c hT (by omega) (by simp only [List.length_append, List.length_cons, List.length_nil] at *; omega)).mono ?_
    rintro e w3 ⟨rfl, hb', hs'⟩
    have szw3 := hs'.size
    replace hb := hb.next hTS hb' hs'
    clear hT hTS hb' hs' T
    have h0c : Below W0.heap.size W0 w3 := H01.out.trans (hb.sp.below (by omega) (fun x hx => by have := HS.out x hx; omega))
    have L2 := L.keep (hb.sp.block _ L.lt (fun hx => by have := HS.out _ hx; omega))
    have l0 := L2.c0
    have l1 := L2.c1
    have l2 := L2.c2
    rw [ex] at hb
    go_wp2_with fail
    clear l0 l1 l2 L2 h0c
    obtain ⟨T, hT, hTS⟩ := hb.ex
    refine (WriteString_i (s := [32, 43, 32]) hT (by simp only [List.length_append, List.length_cons, List.length_nil] at *; omega) (by omega)).mono ?_
    rintro e w4 ⟨⟨u, rfl⟩, hb', hs'⟩
    have szw4 := hs'.size
    replace hb := hb.next hTS hb' hs'
    clear hT hTS hb' hs' T
    have h0c : Below W0.heap.size W0 w4 := H01.out.trans (hb.sp.below (by omega) (fun x hx => by have := HS.out x hx; omega))
    have L2 := L.keep (hb.sp.block _ L.lt (fun hx => by have := HS.out _ hx; omega))
    have l0 := L2.c0
    have l1 := L2.c1
    have l2 := L2.c2
    have q0 := (h0c.cell (p := ⟨b', o' + 3, none⟩) hbl).trans k0
    have q1 := (h0c.cell (p := ⟨b', o' + 3 + 1, none⟩) hbl).trans k1
    have q2 := (h0c.cell (p := ⟨b', o' + 3 + 2, none⟩) hbl).trans k2
    go_wp2_with fail
    clear l0 l1 l2 L2 q0 q1 q2
    obtain ⟨T, hT, hTS⟩ := hb.ex
    refine (ih _ hys _ _ _ _ _ T _ _ (Nat.le_refl _) kr hyt h0c hT (by omega) (by simp only [List.length_append, List.length_cons, List.length_nil] at *; omega)).mono ?_
    rintro e w5 ⟨rfl, hb', hs'⟩
    have szw5 := hs'.size
    replace hb := hb.next hTS hb' hs'
    clear hT hTS hb' hs' T
    have h0c : Below W0.heap.size W0 w5 := H01.out.trans (hb.sp.below (by omega) (fun x hx => by have := HS.out x hx; omega))
    have L2 := L.keep (hb.sp.block _ L.lt (fun hx => by have := HS.out _ hx; omega))
    have l0 := L2.c0
    have l1 := L2.c1
    have l2 := L2.c2
    rw [ey] at hb
    go_wp2_with fail
    clear l0 l1 l2 L2 h0c
    obtain ⟨T, hT, hTS⟩ := hb.ex
    refine (WriteString_i (s := [41]) hT (by simp only [List.length_append, List.length_cons, List.length_nil] at *; omega) (by omega)).mono ?_
    rintro e w6 ⟨⟨u, rfl⟩, hb', hs'⟩
    have szw6 := hs'.size
    replace hb := hb.next hTS hb' hs'
    clear hT hTS hb' hs' T
    have h0c : Below W0.heap.size W0 w6 := H01.out.trans (hb.sp.below (by omega) (fun x hx => by have := HS.out x hx; omega))
    have L2 := L.keep (hb.sp.block _ L.lt (fun hx => by have := HS.out _ hx; omega))
    have l0 := L2.c0
    have l1 := L2.c1
    have l2 := L2.c2
    go_wp2_with fail
    refine bodyPost_end (v := .tuple #[]) (by simp [results, Tryd.results111, go_sem]) rfl ?_
    refine ⟨rfl, ?_⟩
    rw [e0]
    try simp only [List.append_assoc] at hb ⊢
    exact hb.done HBw.out HS.out hB
  · obtain ⟨x, y, rfl⟩ := two_kids hk (by omega)
    have hx : [x, y][0]? = some x := rfl
    have hy : [x, y][1]? = some y := rfl
    obtain ⟨b', o', rfl⟩ := kid_some hr (by simp)
    have hxt0 : x.tree tm am = true := Ex.treeL_mem htl (by simp)
    have hyt0 : y.tree tm am = true := Ex.treeL_mem htl (by simp)
    have bx := text_bound tm am ht ha _ x (Nat.le_refl _) hxt0
    have bY := text_bound tm am ht ha _ y (Nat.le_refl _) hyt0
    have hxt : Ex.tree tm am (.mk x.kind x.num x.kids) = true := by rw [← Ex.eta x]; exact hxt0
    have hyt : Ex.tree tm am (.mk y.kind y.num y.kids) = true := by rw [← Ex.eta y]; exact hyt0
    have hsx := Ex.size_eq x
    have hsy := Ex.size_eq y
    simp only [Ex.sizeL] at hN hlen
    have hxs : Ex.sizeL x.kids < N := by omega
    have hys : Ex.sizeL y.kids < N := by omega
    have ex : Ex.text (.mk x.kind x.num x.kids) = x.text := by rw [← Ex.eta x]
    have ey : Ex.text (.mk y.kind y.num y.kids) = y.text := by rw [← Ex.eta y]
    have e0 : Ex.text (.mk 7 n [x, y]) = [40] ++ x.text ++ [32] ++ y.text ++ [41] := by simp [Ex.text, texC, Ex.textL]
    obtain ⟨hbl, s', c', g0, g1, g2, gr⟩ := kid_in hr hx
    obtain ⟨-, s2, c2, k0, k1, k2, kr⟩ := kid_in hr hy
    simp only [Nat.zero_mul, Nat.add_zero] at g0 g1 g2
    simp only [Nat.one_mul] at k0 k1 k2
    clear hk hnum htl hc htr hx hy hxt0 hyt0
    go_enter Tryd.func111, Tryd.ntmps111
    go_wp2_with fail
    have L := Blk.new3 w 44 (.int .i64 7) (.int .i64 n) (.slice (some ⟨b', o', none⟩) 2 c)
    have hS := hb.set.2
    have hb1 := BldS.start (hb.below (Below.alloc (Below.refl _ _) (Nat.le_refl _) (.cells #[.int .i64 7, .int .i64 n, .slice (some ⟨b', o', none⟩) 2 c] 44)))
    have hBw : Below w.heap.size w (w.alloc (.cells #[.int .i64 7, .int .i64 n, .slice (some ⟨b', o', none⟩) 2 c] 44)) := Below.alloc (Below.refl _ _) (Nat.le_refl _) _
    clear hb
    generalize w.alloc (.cells #[.int .i64 7, .int .i64 n, .slice (some ⟨b', o', none⟩) 2 c] 44) = w1 at L hb1 hBw ⊢
    have hb := hb1
    have h01 : Below W0.heap.size W0 w1 := h0.trans (hBw.mono (by omega))
    have hz1 := hBw.size
    have HS := Lib.hid hS
    have HBw := Lib.hid hBw
    have H01 := Lib.hid h01
    clear hb1 hS hBw h01
    have l0 := L.c0
    go_wp2_with fail
    clear l0
    obtain ⟨T, hT, hTS⟩ := hb.ex
    refine (WriteString_i (s := [40]) hT (by simp only [List.length_append, List.length_cons, List.length_nil] at *; omega) (by omega)).mono ?_
    rintro e w2 ⟨⟨u, rfl⟩, hb', hs'⟩
    have szw2 := hs'.size
    replace hb := hb.next hTS hb' hs'
    clear hT hTS hb' hs' T
    have h0c : Below W0.heap.size W0 w2 := H01.out.trans (hb.sp.below (by omega) (fun x hx => by have := HS.out x hx; omega))
    have L2 := L.keep (hb.sp.block _ L.lt (fun hx => by have := HS.out _ hx; omega))
    have l0 := L2.c0
    have l1 := L2.c1
    have l2 := L2.c2
    have q0 := (h0c.cell (p := ⟨b', o', none⟩) hbl).trans g0
    have q1 := (h0c.cell (p := ⟨b', o' + 1, none⟩) hbl).trans g1
    have q2 := (h0c.cell (p := ⟨b', o' + 2, none⟩) hbl).trans g2
    go_wp2_with fail
    clear l0 l1 l2 L2 q0 q1 q2
    obtain ⟨T, hT, hTS⟩ := hb.ex
    refine (ih _ hxs _ _ _ _ _ T _ _ (Nat.le_refl _) gr hxt h0c hT (by omega) (by simp only [List.length_append, List.length_cons, List.length_nil] at *; omega)).mono ?_
    rintro e w3 ⟨rfl, hb', hs'⟩
    have szw3 := hs'.size
    replace hb := hb.next hTS hb' hs'
    clear hT hTS hb' hs' T
    have h0c : Below W0.heap.size W0 w3 := H01.out.trans (hb.sp.below (by omega) (fun x hx => by have := HS.out x hx; omega))
    have L2 := L.keep (hb.sp.block _ L.lt (fun hx => by have := HS.out _ hx; omega))
    have l0 := L2.c0
    have l1 := L2.c1
    have l2 := L2.c2
    rw [ex] at hb
    go_wp2_with fail
    clear l0 l1 l2 L2 h0c
    obtain ⟨T, hT, hTS⟩ := hb.ex
    refine (WriteString_i (s := [32]) hT (by simp only [List.length_append, List.length_cons, List.length_nil] at *; omega) (by omega)).mono ?_
    rintro e w4 ⟨⟨u, rfl⟩, hb', hs'⟩
    have szw4 := hs'.size
    replace hb := hb.next hTS hb' hs'
    clear hT hTS hb' hs' T
    have h0c : Below W0.heap.size W0 w4 := H01.out.trans (hb.sp.below (by omega) (fun x hx => by have := HS.out x hx; omega))
    have L2 := L.keep (hb.sp.block _ L.lt (fun hx => by have := HS.out _ hx; omega))
    have l0 := L2.c0
    have l1 := L2.c1
    have l2 := L2.c2
    have q0 := (h0c.cell (p := ⟨b', o' + 3, none⟩) hbl).trans k0
    have q1 := (h0c.cell (p := ⟨b', o' + 3 + 1, none⟩) hbl).trans k1
    have q2 := (h0c.cell (p := ⟨b', o' + 3 + 2, none⟩) hbl).trans k2
    go_wp2_with fail
    clear l0 l1 l2 L2 q0 q1 q2
    obtain ⟨T, hT, hTS⟩ := hb.ex
    refine (ih _ hys _ _ _ _ _ T _ _ (Nat.le_refl _) kr hyt h0c hT (by omega) (by simp only [List.length_append, List.length_cons, List.length_nil] at *; omega)).mono ?_
    rintro e w5 ⟨rfl, hb', hs'⟩
    have szw5 := hs'.size
    replace hb := hb.next hTS hb' hs'
    clear hT hTS hb' hs' T
    have h0c : Below W0.heap.size W0 w5 := H01.out.trans (hb.sp.below (by omega) (fun x hx => by have := HS.out x hx; omega))
    have L2 := L.keep (hb.sp.block _ L.lt (fun hx => by have := HS.out _ hx; omega))
    have l0 := L2.c0
    have l1 := L2.c1
    have l2 := L2.c2
    rw [ey] at hb
    go_wp2_with fail
    clear l0 l1 l2 L2 h0c
    obtain ⟨T, hT, hTS⟩ := hb.ex
    refine (WriteString_i (s := [41]) hT (by simp only [List.length_append, List.length_cons, List.length_nil] at *; omega) (by omega)).mono ?_
    rintro e w6 ⟨⟨u, rfl⟩, hb', hs'⟩
    have szw6 := hs'.size
    replace hb := hb.next hTS hb' hs'
    clear hT hTS hb' hs' T
    have h0c : Below W0.heap.size W0 w6 := H01.out.trans (hb.sp.below (by omega) (fun x hx => by have := HS.out x hx; omega))
    have L2 := L.keep (hb.sp.block _ L.lt (fun hx => by have := HS.out _ hx; omega))
    have l0 := L2.c0
    have l1 := L2.c1
    have l2 := L2.c2
    go_wp2_with fail
    refine bodyPost_end (v := .tuple #[]) (by simp [results, Tryd.results111, go_sem]) rfl ?_
    refine ⟨rfl, ?_⟩
    rw [e0]
    try simp only [List.append_assoc] at hb ⊢
    exact hb.done HBw.out HS.out hB
  · obtain ⟨x, rfl⟩ := one_kid hk (by omega)
    have hx : [x][0]? = some x := rfl
    obtain ⟨b', o', rfl⟩ := kid_some hr (by simp)
    have hxt0 : x.tree tm am = true := Ex.treeL_mem htl (by simp)
    have bx := text_bound tm am ht ha _ x (Nat.le_refl _) hxt0
    have hxt : Ex.tree tm am (.mk x.kind x.num x.kids) = true := by rw [← Ex.eta x]; exact hxt0
    have hsx := Ex.size_eq x
    simp only [Ex.sizeL] at hN hlen
    have hxs : Ex.sizeL x.kids < N := by omega
    have ex : Ex.text (.mk x.kind x.num x.kids) = x.text := by rw [← Ex.eta x]
    obtain ⟨hbl, s', c', g0, g1, g2, gr⟩ := kid_in hr hx
    simp only [Nat.zero_mul, Nat.add_zero] at g0 g1 g2
    have e0 : Ex.text (.mk 8 n [x]) = x.text ++ [42] := by simp [Ex.text, texC, Ex.textL]
    clear hk hnum htl hc htr hx hxt0
    have p0 := (h0.cell (p := ⟨b', o', none⟩) hbl).trans g0
    have p1 := (h0.cell (p := ⟨b', o' + 1, none⟩) hbl).trans g1
    have p2 := (h0.cell (p := ⟨b', o' + 2, none⟩) hbl).trans g2
    have pl : b' < w.heap.size := by omega
    go_enter Tryd.func111, Tryd.ntmps111
    go_wp2_with fail
    have L := Blk.new3 w 44 (.int .i64 8) (.int .i64 n) (.slice (some ⟨b', o', none⟩) 1 c)
    have hS := hb.set.2
    have hb1 := BldS.start (hb.below (Below.alloc (Below.refl _ _) (Nat.le_refl _) (.cells #[.int .i64 8, .int .i64 n, .slice (some ⟨b', o', none⟩) 1 c] 44)))
    have hBw : Below w.heap.size w (w.alloc (.cells #[.int .i64 8, .int .i64 n, .slice (some ⟨b', o', none⟩) 1 c] 44)) := Below.alloc (Below.refl _ _) (Nat.le_refl _) _
    clear hb
    generalize w.alloc (.cells #[.int .i64 8, .int .i64 n, .slice (some ⟨b', o', none⟩) 1 c] 44) = w1 at L hb1 hBw ⊢
    have hb := hb1
    have h01 : Below W0.heap.size W0 w1 := h0.trans (hBw.mono (by omega))
    have hz1 := hBw.size
    have HS := Lib.hid hS
    have HBw := Lib.hid hBw
    have H01 := Lib.hid h01
    clear hb1 hS hBw h01
    have h0c := H01.out
    clear p0 p1 p2 pl
    obtain ⟨T, hT, hTS⟩ := hb.ex
    refine (ih _ hxs _ _ _ _ _ T _ _ (Nat.le_refl _) gr hxt h0c hT (by omega) (by simp only [List.length_append, List.length_cons, List.length_nil] at *; omega)).mono ?_
    rintro e w3 ⟨rfl, hb', hs'⟩
    have szw3 := hs'.size
    replace hb := hb.next hTS hb' hs'
    clear hT hTS hb' hs' T
    have h0c : Below W0.heap.size W0 w3 := H01.out.trans (hb.sp.below (by omega) (fun x hx => by have := HS.out x hx; omega))
    have L2 := L.keep (hb.sp.block _ L.lt (fun hx => by have := HS.out _ hx; omega))
    have l0 := L2.c0
    have l1 := L2.c1
    have l2 := L2.c2
    rw [ex] at hb
    go_wp2_with fail
    clear l0 l1 l2 L2 h0c
    obtain ⟨T, hT, hTS⟩ := hb.ex
    refine (WriteString_i (s := [42]) hT (by simp only [List.length_append, List.length_cons, List.length_nil] at *; omega) (by omega)).mono ?_
    rintro e w4 ⟨⟨u, rfl⟩, hb', hs'⟩
    have szw4 := hs'.size
    replace hb := hb.next hTS hb' hs'
    clear hT hTS hb' hs' T
    have h0c : Below W0.heap.size W0 w4 := H01.out.trans (hb.sp.below (by omega) (fun x hx => by have := HS.out x hx; omega))
    have L2 := L.keep (hb.sp.block _ L.lt (fun hx => by have := HS.out _ hx; omega))
    have l0 := L2.c0
    have l1 := L2.c1
    have l2 := L2.c2
    go_wp2_with fail
    refine bodyPost_end (v := .tuple #[]) (by simp [results, Tryd.results111, go_sem]) rfl ?_
    refine ⟨rfl, ?_⟩
    rw [e0]
    try simp only [List.append_assoc] at hb ⊢
    exact hb.done HBw.out HS.out hB
end Go.Proofs.YtlnojmmjpgpjdaaDoor
