/-
  Parts of a proof, joined: TextE, Inj, Grow, TidyP, DerP, App, Aps, Rdx, Copy, TidyI, Shr, ShelfS, SortN. No condition.
-/
import Derived.Lib.AppendStr
import Derived.WalkKit
import Derived.ProofKit
import Derived.OpenShut
import Derived.ChangeSame
import Derived.Carry
import Derived.Deep.Slices
import Derived.Deep.LoopGhost
import Derived.Deep.DeepFit
import Derived.Deep.DeepMust
import Derived.Deep.RegionWith
import Derived.Deep.RegionHeld3
import Derived.Deep.QuietTactic
import Derived.BigQuiet
import Derived.WalkSpells
import Derived.WalkLawsBesides
import Derived.WalkSmall
import Derived.Lib.Hide
import Derived.Lib.QuietBelow
import Derived.Deep.CutRange
import Derived.Shelf.Strings.Builder1
import Derived.Shelf.Small.Bits
import Derived.Shelf.Small.Strs
import Derived.Shelf.Strings.BuilderF
import Derived.Shelf.Strings.BuilderK
import Derived.Shelf.Strconv.Itoa0
import Derived.Shelf.Strconv.Itoa1
import Derived.Shelf.LaysM
import Derived.Shelf.Strconv.Itoa2
import Derived.Shelf.Strconv.Itoa3
import Derived.Shelf.Strconv.Itoa4
import Derived.Shelf.Strings.BuilderCap
import Derived.Test.YtjlmdhoajfdkbaaGreatDoorProg
import Derived.Deep.AppendLies
import Derived.Shelf.SlGeneric
import Derived.Shelf.SlSortCmp.WholeK
import Derived.Ground.SlsfProg
import Derived.Test.YtjlmdhoajfdkbaaGreatDoorPk0
import Derived.Test.YtjlmdhoajfdkbaaGreatDoorPk1
import Derived.Test.YtjlmdhoajfdkbaaGreatDoorPk2
namespace Go.Proofs.YtjlmdhoajfdkbaaGreatDoor
set_option linter.unusedVariables false
set_option linter.unusedSimpArgs false
open Go.ChangeShapes Go.WideShapes Go.ChangeAt Go.RowKit Go.Sort
def texC (k n : Int) (ts : List (List UInt8)) : List UInt8 :=
  if k = 1 then [48] else if k = 2 then [49] else if k = 3 then [116] ++ Lib.decDigits n.toNat else if k = 4 then [97] ++ Lib.decDigits n.toNat else if k = 5 then [126] ++ ts.getD 0 []
  else if k = 6 then [40] ++ ts.getD 0 [] ++ [32, 43, 32] ++ ts.getD 1 [] ++ [41] else if k = 7 then [40] ++ ts.getD 0 [] ++ [32] ++ ts.getD 1 [] ++ [41] else ts.getD 0 [] ++ [42]
mutual
def Ex.text : Ex → List UInt8
  | .mk k n ks => texC k n (Ex.textL ks)
def Ex.textL : List Ex → List (List UInt8)
  | [] => []
  | e :: r => e.text :: Ex.textL r
end
theorem numB_any {tm am k n : Int} (hk : k = 3 ∨ k = 4) (h : numB tm am k n = true) (ht : tm ≤ 8) (ha : am ≤ 8) : 0 ≤ n ∧ n ≤ 8 := by
  rcases hk with rfl | rfl <;> simp [numB, inB] at h <;> omega
theorem digits_one {m : Nat} (h : m < 10) : (Lib.decDigits m).length = 1 := by rw [Lib.decDigits_one h]; rfl
theorem text_bound (tm am : Int) (ht : tm ≤ 8) (ha : am ≤ 8) (N : Nat) : ∀ e : Ex, e.size ≤ N → e.tree tm am = true → e.text.length ≤ 5 * e.size := by
  induction N using Nat.strongRecOn with
  | _ N ih =>
  intro e hN htr
  obtain ⟨k, n, ks⟩ := e
  obtain ⟨hk, hnum, hc, htl⟩ := tree_parts htr
  have hs := Ex.size_eq (.mk k n ks)
  simp only [Ex.kids] at hs
  have kid : ∀ x, x ∈ ks → x.text.length ≤ 5 * x.size := fun x hx => ih x.size (by have := Ex.sizeL_mem hx; omega) x (Nat.le_refl _) (Ex.treeL_mem htl hx)
  rcases kind_cases hk with rfl | rfl | rfl | rfl | rfl | rfl | rfl | rfl
  · simp [Ex.text, texC]; omega
  · simp [Ex.text, texC]; omega
  · obtain ⟨h0, h8⟩ := numB_any (by omega) hnum ht ha
    simp only [Ex.text, texC]
    simp [digits_one (show n.toNat < 10 by omega)]
    omega
  · obtain ⟨h0, h8⟩ := numB_any (by omega) hnum ht ha
    simp only [Ex.text, texC]
    simp [digits_one (show n.toNat < 10 by omega)]
    omega
  · obtain ⟨x, rfl⟩ := one_kid hk (by omega)
    have := kid x (by simp)
    simp [Ex.text, texC, Ex.textL]
    simp only [Ex.sizeL] at hs
    omega
  · obtain ⟨x, y, rfl⟩ := two_kids hk (by omega)
    have := kid x (by simp)
    have := kid y (by simp)
    simp [Ex.text, texC, Ex.textL]
    simp only [Ex.sizeL] at hs
    omega
  · obtain ⟨x, y, rfl⟩ := two_kids hk (by omega)
    have := kid x (by simp)
    have := kid y (by simp)
    simp [Ex.text, texC, Ex.textL]
    simp only [Ex.sizeL] at hs
    omega
  · obtain ⟨x, rfl⟩ := one_kid hk (by omega)
    have := kid x (by simp)
    simp [Ex.text, texC, Ex.textL]
    simp only [Ex.sizeL] at hs
    omega
set_option maxHeartbeats 16000000 in
theorem writeExpr_all (W0 : World) (B b : Nat) (hW : W0.heap.size ≤ B) (tm am : Int) (ht : tm ≤ 8) (ha : am ≤ 8) (N : Nat) : ∀ (k n : Int) (ks : List Ex) (s : Option Addr) (c : Nat) (S : Nat → Prop) (l : List UInt8) (w : World), Ex.sizeL ks ≤ N → Rd W0 (kidsD ks) (.slice s ks.length c) →
    Ex.tree tm am (.mk k n ks) = true → Below W0.heap.size W0 w → BldAt B S b l w → B ≤ w.heap.size → l.length + 5 * (1 + Ex.sizeL ks) ≤ 100000000 →
    Calls Tryz.prog 166 #[.pointer (some ⟨b, 0, none⟩), .agg #[.int .i64 k, .int .i64 n, .slice s ks.length c]] w fun e w' => e = .returned (.tuple #[]) ∧ BldAt B (fun x => S x ∨ (w.heap.size ≤ x ∧ x < w'.heap.size)) b (l ++ Ex.text (.mk k n ks)) w' ∧ Spares S w w' := by
  induction N using Nat.strongRecOn with
  | _ N ih =>
  intro k n ks s c S l w hN hr htr h0 hb hB hlen
  obtain ⟨hk, hnum, hc, htl⟩ := tree_parts htr
  rcases kind_cases hk with rfl | rfl | rfl | rfl | rfl | rfl | rfl | rfl
  · have e0 : Ex.text (.mk 1 n ks) = [48] := by simp [Ex.text, texC]
    clear hk hnum htl hc htr
    go_enter Tryz.func166, Tryz.ntmps166
    go_wp2_with fail
    have L := Blk.new3 w 30 (.int .i64 1) (.int .i64 n) (.slice s ks.length c)
    have hS := hb.set.2
    have hb1 := BldS.start (hb.below (Below.alloc (Below.refl _ _) (Nat.le_refl _) (.cells #[.int .i64 1, .int .i64 n, .slice s ks.length c] 30)))
    have hBw : Below w.heap.size w (w.alloc (.cells #[.int .i64 1, .int .i64 n, .slice s ks.length c] 30)) := Below.alloc (Below.refl _ _) (Nat.le_refl _) _
    clear hb
    generalize w.alloc (.cells #[.int .i64 1, .int .i64 n, .slice s ks.length c] 30) = w1 at L hb1 hBw ⊢
    have hb := hb1
    have h01 : Below W0.heap.size W0 w1 := h0.trans (hBw.mono (by omega))
    have hz1 := hBw.size
    have HS := Lib.hid hS
    have HBw := Lib.hid hBw
    have H01 := Lib.hid h01
    clear hb1 hS hBw h01
    have l0 := L.c0
    go_wp2_with fail
    clear l0
    obtain ⟨T, hT, hTS⟩ := hb.ex
    refine (WriteString_i (s := [48]) hT (by simp only [List.length_append, List.length_cons, List.length_nil] at *; omega) (by omega)).mono ?_
    rintro e w2 ⟨⟨u, rfl⟩, hb', hs'⟩
    have szw2 := hs'.size
    replace hb := hb.next hTS hb' hs'
    clear hT hTS hb' hs' T
    have h0c : Below W0.heap.size W0 w2 := H01.out.trans (hb.sp.below (by omega) (fun x hx => by have := HS.out x hx; omega))
    have L2 := L.keep (hb.sp.block _ L.lt (fun hx => by have := HS.out _ hx; omega))
    have l0 := L2.c0
    have l1 := L2.c1
    have l2 := L2.c2
    go_wp2_with fail
    refine bodyPost_end (v := .tuple #[]) (by simp [results, Tryz.results166, go_sem]) rfl ?_
    refine ⟨rfl, ?_⟩
    rw [e0]
    try simp only [List.append_assoc] at hb ⊢
    exact hb.done HBw.out HS.out hB
  · have e0 : Ex.text (.mk 2 n ks) = [49] := by simp [Ex.text, texC]
    clear hk hnum htl hc htr
    go_enter Tryz.func166, Tryz.ntmps166
    go_wp2_with fail
    have L := Blk.new3 w 30 (.int .i64 2) (.int .i64 n) (.slice s ks.length c)
    have hS := hb.set.2
    have hb1 := BldS.start (hb.below (Below.alloc (Below.refl _ _) (Nat.le_refl _) (.cells #[.int .i64 2, .int .i64 n, .slice s ks.length c] 30)))
    have hBw : Below w.heap.size w (w.alloc (.cells #[.int .i64 2, .int .i64 n, .slice s ks.length c] 30)) := Below.alloc (Below.refl _ _) (Nat.le_refl _) _
    clear hb
    generalize w.alloc (.cells #[.int .i64 2, .int .i64 n, .slice s ks.length c] 30) = w1 at L hb1 hBw ⊢
    have hb := hb1
    have h01 : Below W0.heap.size W0 w1 := h0.trans (hBw.mono (by omega))
    have hz1 := hBw.size
    have HS := Lib.hid hS
    have HBw := Lib.hid hBw
    have H01 := Lib.hid h01
    clear hb1 hS hBw h01
    have l0 := L.c0
    go_wp2_with fail
    clear l0
    obtain ⟨T, hT, hTS⟩ := hb.ex
    refine (WriteString_i (s := [49]) hT (by simp only [List.length_append, List.length_cons, List.length_nil] at *; omega) (by omega)).mono ?_
    rintro e w2 ⟨⟨u, rfl⟩, hb', hs'⟩
    have szw2 := hs'.size
    replace hb := hb.next hTS hb' hs'
    clear hT hTS hb' hs' T
    have h0c : Below W0.heap.size W0 w2 := H01.out.trans (hb.sp.below (by omega) (fun x hx => by have := HS.out x hx; omega))
    have L2 := L.keep (hb.sp.block _ L.lt (fun hx => by have := HS.out _ hx; omega))
    have l0 := L2.c0
    have l1 := L2.c1
    have l2 := L2.c2
    go_wp2_with fail
    refine bodyPost_end (v := .tuple #[]) (by simp [results, Tryz.results166, go_sem]) rfl ?_
    refine ⟨rfl, ?_⟩
    rw [e0]
    try simp only [List.append_assoc] at hb ⊢
    exact hb.done HBw.out HS.out hB
  · obtain ⟨n0, n8⟩ := numB_any (by omega) hnum ht ha
    obtain ⟨m, rfl⟩ : ∃ m : Nat, n = (m : Int) := ⟨n.toNat, by omega⟩
    have e0 : Ex.text (.mk 3 m ks) = 116 :: Lib.decDigits m := by simp [Ex.text, texC]
    have hm : m < 10 := by omega
    have Hd := Lib.hid (digits_one hm)
    have Ha : ∀ w, (Op.stringOp .add { data := #[116] } (bs (Lib.decDigits m))).run Tryz.prog w = .ok (.string (bs ([116] ++ Lib.decDigits m))) w := run_cat [116] _ (by rw [digits_one hm]; simp)
    clear hk hnum htl hc htr n0 n8
    go_enter Tryz.func166, Tryz.ntmps166
    go_wp2_with fail
    have L := Blk.new3 w 30 (.int .i64 3) (.int .i64 m) (.slice s ks.length c)
    have hS := hb.set.2
    have hb1 := BldS.start (hb.below (Below.alloc (Below.refl _ _) (Nat.le_refl _) (.cells #[.int .i64 3, .int .i64 m, .slice s ks.length c] 30)))
    have hBw : Below w.heap.size w (w.alloc (.cells #[.int .i64 3, .int .i64 m, .slice s ks.length c] 30)) := Below.alloc (Below.refl _ _) (Nat.le_refl _) _
    clear hb
    generalize w.alloc (.cells #[.int .i64 3, .int .i64 m, .slice s ks.length c] 30) = w1 at L hb1 hBw ⊢
    have hb := hb1
    have h01 : Below W0.heap.size W0 w1 := h0.trans (hBw.mono (by omega))
    have hz1 := hBw.size
    have HS := Lib.hid hS
    have HBw := Lib.hid hBw
    have H01 := Lib.hid h01
    clear hb1 hS hBw h01
    have l0 := L.c0
    have l1 := L.c1
    go_wp2_with fail
    refine (decimal_i (n := m) (by omega)).mono ?_
    rintro e w2 ⟨rfl, rfl⟩
    go_wp2_with fail
    clear l0 l1 Ha
    obtain ⟨T, hT, hTS⟩ := hb.ex
    refine (WriteString_i (s := 116 :: Lib.decDigits m) hT (by have hgg := Hd.out; simp only [List.length_append, List.length_cons, List.length_nil]; omega) (by omega)).mono ?_
    rintro e w2 ⟨⟨u, rfl⟩, hb', hs'⟩
    have szw2 := hs'.size
    replace hb := hb.next hTS hb' hs'
    clear hT hTS hb' hs' T
    have h0c : Below W0.heap.size W0 w2 := H01.out.trans (hb.sp.below (by omega) (fun x hx => by have := HS.out x hx; omega))
    have L2 := L.keep (hb.sp.block _ L.lt (fun hx => by have := HS.out _ hx; omega))
    have l0 := L2.c0
    have l1 := L2.c1
    have l2 := L2.c2
    go_wp2_with fail
    refine bodyPost_end (v := .tuple #[]) (by simp [results, Tryz.results166, go_sem]) rfl ?_
    refine ⟨rfl, ?_⟩
    rw [e0]
    try simp only [List.append_assoc] at hb ⊢
    exact hb.done HBw.out HS.out hB
  · obtain ⟨n0, n8⟩ := numB_any (by omega) hnum ht ha
    obtain ⟨m, rfl⟩ : ∃ m : Nat, n = (m : Int) := ⟨n.toNat, by omega⟩
    have e0 : Ex.text (.mk 4 m ks) = 97 :: Lib.decDigits m := by simp [Ex.text, texC]
    have hm : m < 10 := by omega
    have Hd := Lib.hid (digits_one hm)
    have Ha : ∀ w, (Op.stringOp .add { data := #[97] } (bs (Lib.decDigits m))).run Tryz.prog w = .ok (.string (bs ([97] ++ Lib.decDigits m))) w := run_cat [97] _ (by rw [digits_one hm]; simp)
    clear hk hnum htl hc htr n0 n8
    go_enter Tryz.func166, Tryz.ntmps166
    go_wp2_with fail
    have L := Blk.new3 w 30 (.int .i64 4) (.int .i64 m) (.slice s ks.length c)
    have hS := hb.set.2
    have hb1 := BldS.start (hb.below (Below.alloc (Below.refl _ _) (Nat.le_refl _) (.cells #[.int .i64 4, .int .i64 m, .slice s ks.length c] 30)))
    have hBw : Below w.heap.size w (w.alloc (.cells #[.int .i64 4, .int .i64 m, .slice s ks.length c] 30)) := Below.alloc (Below.refl _ _) (Nat.le_refl _) _
    clear hb
    generalize w.alloc (.cells #[.int .i64 4, .int .i64 m, .slice s ks.length c] 30) = w1 at L hb1 hBw ⊢
    have hb := hb1
    have h01 : Below W0.heap.size W0 w1 := h0.trans (hBw.mono (by omega))
    have hz1 := hBw.size
    have HS := Lib.hid hS
    have HBw := Lib.hid hBw
    have H01 := Lib.hid h01
    clear hb1 hS hBw h01
    have l0 := L.c0
    have l1 := L.c1
    go_wp2_with fail
    refine (decimal_i (n := m) (by omega)).mono ?_
    rintro e w2 ⟨rfl, rfl⟩
    go_wp2_with fail
    clear l0 l1 Ha
    obtain ⟨T, hT, hTS⟩ := hb.ex
    refine (WriteString_i (s := 97 :: Lib.decDigits m) hT (by have hgg := Hd.out; simp only [List.length_append, List.length_cons, List.length_nil]; omega) (by omega)).mono ?_
    rintro e w2 ⟨⟨u, rfl⟩, hb', hs'⟩
    have szw2 := hs'.size
    replace hb := hb.next hTS hb' hs'
    clear hT hTS hb' hs' T
    have h0c : Below W0.heap.size W0 w2 := H01.out.trans (hb.sp.below (by omega) (fun x hx => by have := HS.out x hx; omega))
    have L2 := L.keep (hb.sp.block _ L.lt (fun hx => by have := HS.out _ hx; omega))
    have l0 := L2.c0
    have l1 := L2.c1
    have l2 := L2.c2
    go_wp2_with fail
    refine bodyPost_end (v := .tuple #[]) (by simp [results, Tryz.results166, go_sem]) rfl ?_
    refine ⟨rfl, ?_⟩
    rw [e0]
    try simp only [List.append_assoc] at hb ⊢
    exact hb.done HBw.out HS.out hB
  · obtain ⟨x, rfl⟩ := one_kid hk (by omega)
    have hx : [x][0]? = some x := rfl
    obtain ⟨b', o', rfl⟩ := kid_some hr (by simp)
    have hxt0 : x.tree tm am = true := Ex.treeL_mem htl (by simp)
    have bx := text_bound tm am ht ha _ x (Nat.le_refl _) hxt0
    have hxt : Ex.tree tm am (.mk x.kind x.num x.kids) = true := by rw [← Ex.eta x]; exact hxt0
    have hsx := Ex.size_eq x
    simp only [Ex.sizeL] at hN hlen
    have hxs : Ex.sizeL x.kids < N := by omega
    have ex : Ex.text (.mk x.kind x.num x.kids) = x.text := by rw [← Ex.eta x]
    obtain ⟨hbl, s', c', g0, g1, g2, gr⟩ := kid_in hr hx
    simp only [Nat.zero_mul, Nat.add_zero] at g0 g1 g2
    have e0 : Ex.text (.mk 5 n [x]) = [126] ++ x.text := by simp [Ex.text, texC, Ex.textL]
    clear hk hnum htl hc htr hx hxt0
    go_enter Tryz.func166, Tryz.ntmps166
    go_wp2_with fail
    have L := Blk.new3 w 30 (.int .i64 5) (.int .i64 n) (.slice (some ⟨b', o', none⟩) 1 c)
    have hS := hb.set.2
    have hb1 := BldS.start (hb.below (Below.alloc (Below.refl _ _) (Nat.le_refl _) (.cells #[.int .i64 5, .int .i64 n, .slice (some ⟨b', o', none⟩) 1 c] 30)))
    have hBw : Below w.heap.size w (w.alloc (.cells #[.int .i64 5, .int .i64 n, .slice (some ⟨b', o', none⟩) 1 c] 30)) := Below.alloc (Below.refl _ _) (Nat.le_refl _) _
    clear hb
    generalize w.alloc (.cells #[.int .i64 5, .int .i64 n, .slice (some ⟨b', o', none⟩) 1 c] 30) = w1 at L hb1 hBw ⊢
    have hb := hb1
    have h01 : Below W0.heap.size W0 w1 := h0.trans (hBw.mono (by omega))
    have hz1 := hBw.size
    have HS := Lib.hid hS
    have HBw := Lib.hid hBw
    have H01 := Lib.hid h01
    clear hb1 hS hBw h01
    have l0 := L.c0
    go_wp2_with fail
    clear l0
    obtain ⟨T, hT, hTS⟩ := hb.ex
    refine (WriteString_i (s := [126]) hT (by simp only [List.length_append, List.length_cons, List.length_nil] at *; omega) (by omega)).mono ?_
    rintro e w2 ⟨⟨u, rfl⟩, hb', hs'⟩
    have szw2 := hs'.size
    replace hb := hb.next hTS hb' hs'
    clear hT hTS hb' hs' T
    have h0c : Below W0.heap.size W0 w2 := H01.out.trans (hb.sp.below (by omega) (fun x hx => by have := HS.out x hx; omega))
    have L2 := L.keep (hb.sp.block _ L.lt (fun hx => by have := HS.out _ hx; omega))
    have l0 := L2.c0
    have l1 := L2.c1
    have l2 := L2.c2
    have q0 := (h0c.cell (p := ⟨b', o', none⟩) hbl).trans g0
    have q1 := (h0c.cell (p := ⟨b', o' + 1, none⟩) hbl).trans g1
    have q2 := (h0c.cell (p := ⟨b', o' + 2, none⟩) hbl).trans g2
    go_wp2_with fail
    clear l0 l1 l2 L2 q0 q1 q2
    obtain ⟨T, hT, hTS⟩ := hb.ex
    refine (ih _ hxs _ _ _ _ _ T _ _ (Nat.le_refl _) gr hxt h0c hT (by omega) (by simp only [List.length_append, List.length_cons, List.length_nil] at *; omega)).mono ?_
    rintro e w3 ⟨rfl, hb', hs'⟩
    have szw3 := hs'.size
    replace hb := hb.next hTS hb' hs'
    clear hT hTS hb' hs' T
    have h0c : Below W0.heap.size W0 w3 := H01.out.trans (hb.sp.below (by omega) (fun x hx => by have := HS.out x hx; omega))
    have L2 := L.keep (hb.sp.block _ L.lt (fun hx => by have := HS.out _ hx; omega))
    have l0 := L2.c0
    have l1 := L2.c1
    have l2 := L2.c2
    rw [ex] at hb
    go_wp2_with fail
    refine bodyPost_end (v := .tuple #[]) (by simp [results, Tryz.results166, go_sem]) rfl ?_
    refine ⟨rfl, ?_⟩
    rw [e0]
    try simp only [List.append_assoc] at hb ⊢
    exact hb.done HBw.out HS.out hB
  · obtain ⟨x, y, rfl⟩ := two_kids hk (by omega)
    have hx : [x, y][0]? = some x := rfl
    have hy : [x, y][1]? = some y := rfl
    obtain ⟨b', o', rfl⟩ := kid_some hr (by simp)
    have hxt0 : x.tree tm am = true := Ex.treeL_mem htl (by simp)
    have hyt0 : y.tree tm am = true := Ex.treeL_mem htl (by simp)
    have bx := text_bound tm am ht ha _ x (Nat.le_refl _) hxt0
    have bY := text_bound tm am ht ha _ y (Nat.le_refl _) hyt0
    have hxt : Ex.tree tm am (.mk x.kind x.num x.kids) = true := by rw [← Ex.eta x]; exact hxt0
    have hyt : Ex.tree tm am (.mk y.kind y.num y.kids) = true := by rw [← Ex.eta y]; exact hyt0
    have hsx := Ex.size_eq x
    have hsy := Ex.size_eq y
    simp only [Ex.sizeL] at hN hlen
    have hxs : Ex.sizeL x.kids < N := by omega
    have hys : Ex.sizeL y.kids < N := by omega
    have ex : Ex.text (.mk x.kind x.num x.kids) = x.text := by rw [← Ex.eta x]
    have ey : Ex.text (.mk y.kind y.num y.kids) = y.text := by rw [← Ex.eta y]
    have e0 : Ex.text (.mk 6 n [x, y]) = [40] ++ x.text ++ [32, 43, 32] ++ y.text ++ [41] := by simp [Ex.text, texC, Ex.textL]
    obtain ⟨hbl, s', c', g0, g1, g2, gr⟩ := kid_in hr hx
    obtain ⟨-, s2, c2, k0, k1, k2, kr⟩ := kid_in hr hy
    simp only [Nat.zero_mul, Nat.add_zero] at g0 g1 g2
    simp only [Nat.one_mul] at k0 k1 k2
    clear hk hnum htl hc htr hx hy hxt0 hyt0
    go_enter Tryz.func166, Tryz.ntmps166
    go_wp2_with fail
    have L := Blk.new3 w 30 (.int .i64 6) (.int .i64 n) (.slice (some ⟨b', o', none⟩) 2 c)
    have hS := hb.set.2
    have hb1 := BldS.start (hb.below (Below.alloc (Below.refl _ _) (Nat.le_refl _) (.cells #[.int .i64 6, .int .i64 n, .slice (some ⟨b', o', none⟩) 2 c] 30)))
    have hBw : Below w.heap.size w (w.alloc (.cells #[.int .i64 6, .int .i64 n, .slice (some ⟨b', o', none⟩) 2 c] 30)) := Below.alloc (Below.refl _ _) (Nat.le_refl _) _
    clear hb
    generalize w.alloc (.cells #[.int .i64 6, .int .i64 n, .slice (some ⟨b', o', none⟩) 2 c] 30) = w1 at L hb1 hBw ⊢
    have hb := hb1
    have h01 : Below W0.heap.size W0 w1 := h0.trans (hBw.mono (by omega))
    have hz1 := hBw.size
    have HS := Lib.hid hS
    have HBw := Lib.hid hBw
    have H01 := Lib.hid h01
    clear hb1 hS hBw h01
    have l0 := L.c0
    go_wp2_with fail
    clear l0
    obtain ⟨T, hT, hTS⟩ := hb.ex
    refine (WriteString_i (s := [40]) hT (by simp only [List.length_append, List.length_cons, List.length_nil] at *; omega) (by omega)).mono ?_
    rintro e w2 ⟨⟨u, rfl⟩, hb', hs'⟩
    have szw2 := hs'.size
    replace hb := hb.next hTS hb' hs'
    clear hT hTS hb' hs' T
    have h0c : Below W0.heap.size W0 w2 := H01.out.trans (hb.sp.below (by omega) (fun x hx => by have := HS.out x hx; omega))
    have L2 := L.keep (hb.sp.block _ L.lt (fun hx => by have := HS.out _ hx; omega))
    have l0 := L2.c0
    have l1 := L2.c1
    have l2 := L2.c2
    have q0 := (h0c.cell (p := ⟨b', o', none⟩) hbl).trans g0
    have q1 := (h0c.cell (p := ⟨b', o' + 1, none⟩) hbl).trans g1
    have q2 := (h0c.cell (p := ⟨b', o' + 2, none⟩) hbl).trans g2
    go_wp2_with fail
    clear l0 l1 l2 L2 q0 q1 q2
    obtain ⟨T, hT, hTS⟩ := hb.ex
    refine (ih _ hxs _ _ _ _ _ T _ _ (Nat.le_refl _) gr hxt h0c hT (by omega) (by simp only [List.length_append, List.length_cons, List.length_nil] at *; omega)).mono ?_
    rintro e w3 ⟨rfl, hb', hs'⟩
    have szw3 := hs'.size
    replace hb := hb.next hTS hb' hs'
    clear hT hTS hb' hs' T
    have h0c : Below W0.heap.size W0 w3 := H01.out.trans (hb.sp.below (by omega) (fun x hx => by have := HS.out x hx; omega))
    have L2 := L.keep (hb.sp.block _ L.lt (fun hx => by have := HS.out _ hx; omega))
    have l0 := L2.c0
    have l1 := L2.c1
    have l2 := L2.c2
    rw [ex] at hb
    go_wp2_with fail
    clear l0 l1 l2 L2 h0c
    obtain ⟨T, hT, hTS⟩ := hb.ex
    refine (WriteString_i (s := [32, 43, 32]) hT (by simp only [List.length_append, List.length_cons, List.length_nil] at *; omega) (by omega)).mono ?_
    rintro e w4 ⟨⟨u, rfl⟩, hb', hs'⟩
    have szw4 := hs'.size
    replace hb := hb.next hTS hb' hs'
    clear hT hTS hb' hs' T
    have h0c : Below W0.heap.size W0 w4 := H01.out.trans (hb.sp.below (by omega) (fun x hx => by have := HS.out x hx; omega))
    have L2 := L.keep (hb.sp.block _ L.lt (fun hx => by have := HS.out _ hx; omega))
    have l0 := L2.c0
    have l1 := L2.c1
    have l2 := L2.c2
    have q0 := (h0c.cell (p := ⟨b', o' + 3, none⟩) hbl).trans k0
    have q1 := (h0c.cell (p := ⟨b', o' + 3 + 1, none⟩) hbl).trans k1
    have q2 := (h0c.cell (p := ⟨b', o' + 3 + 2, none⟩) hbl).trans k2
    go_wp2_with fail
    clear l0 l1 l2 L2 q0 q1 q2
    obtain ⟨T, hT, hTS⟩ := hb.ex
    refine (ih _ hys _ _ _ _ _ T _ _ (Nat.le_refl _) kr hyt h0c hT (by omega) (by simp only [List.length_append, List.length_cons, List.length_nil] at *; omega)).mono ?_
    rintro e w5 ⟨rfl, hb', hs'⟩
    have szw5 := hs'.size
    replace hb := hb.next hTS hb' hs'
    clear hT hTS hb' hs' T
    have h0c : Below W0.heap.size W0 w5 := H01.out.trans (hb.sp.below (by omega) (fun x hx => by have := HS.out x hx; omega))
    have L2 := L.keep (hb.sp.block _ L.lt (fun hx => by have := HS.out _ hx; omega))
    have l0 := L2.c0
    have l1 := L2.c1
    have l2 := L2.c2
    rw [ey] at hb
    go_wp2_with fail
    clear l0 l1 l2 L2 h0c
    obtain ⟨T, hT, hTS⟩ := hb.ex
    refine (WriteString_i (s := [41]) hT (by simp only [List.length_append, List.length_cons, List.length_nil] at *; omega) (by omega)).mono ?_
    rintro e w6 ⟨⟨u, rfl⟩, hb', hs'⟩
    have szw6 := hs'.size
    replace hb := hb.next hTS hb' hs'
    clear hT hTS hb' hs' T
    have h0c : Below W0.heap.size W0 w6 := H01.out.trans (hb.sp.below (by omega) (fun x hx => by have := HS.out x hx; omega))
    have L2 := L.keep (hb.sp.block _ L.lt (fun hx => by have := HS.out _ hx; omega))
    have l0 := L2.c0
    have l1 := L2.c1
    have l2 := L2.c2
    go_wp2_with fail
    refine bodyPost_end (v := .tuple #[]) (by simp [results, Tryz.results166, go_sem]) rfl ?_
    refine ⟨rfl, ?_⟩
    rw [e0]
    try simp only [List.append_assoc] at hb ⊢
    exact hb.done HBw.out HS.out hB
  · obtain ⟨x, y, rfl⟩ := two_kids hk (by omega)
    have hx : [x, y][0]? = some x := rfl
    have hy : [x, y][1]? = some y := rfl
    obtain ⟨b', o', rfl⟩ := kid_some hr (by simp)
    have hxt0 : x.tree tm am = true := Ex.treeL_mem htl (by simp)
    have hyt0 : y.tree tm am = true := Ex.treeL_mem htl (by simp)
    have bx := text_bound tm am ht ha _ x (Nat.le_refl _) hxt0
    have bY := text_bound tm am ht ha _ y (Nat.le_refl _) hyt0
    have hxt : Ex.tree tm am (.mk x.kind x.num x.kids) = true := by rw [← Ex.eta x]; exact hxt0
    have hyt : Ex.tree tm am (.mk y.kind y.num y.kids) = true := by rw [← Ex.eta y]; exact hyt0
    have hsx := Ex.size_eq x
    have hsy := Ex.size_eq y
    simp only [Ex.sizeL] at hN hlen
    have hxs : Ex.sizeL x.kids < N := by omega
    have hys : Ex.sizeL y.kids < N := by omega
    have ex : Ex.text (.mk x.kind x.num x.kids) = x.text := by rw [← Ex.eta x]
    have ey : Ex.text (.mk y.kind y.num y.kids) = y.text := by rw [← Ex.eta y]
    have e0 : Ex.text (.mk 7 n [x, y]) = [40] ++ x.text ++ [32] ++ y.text ++ [41] := by simp [Ex.text, texC, Ex.textL]
    obtain ⟨hbl, s', c', g0, g1, g2, gr⟩ := kid_in hr hx
    obtain ⟨-, s2, c2, k0, k1, k2, kr⟩ := kid_in hr hy
    simp only [Nat.zero_mul, Nat.add_zero] at g0 g1 g2
    simp only [Nat.one_mul] at k0 k1 k2
    clear hk hnum htl hc htr hx hy hxt0 hyt0
    go_enter Tryz.func166, Tryz.ntmps166
    go_wp2_with fail
    have L := Blk.new3 w 30 (.int .i64 7) (.int .i64 n) (.slice (some ⟨b', o', none⟩) 2 c)
    have hS := hb.set.2
    have hb1 := BldS.start (hb.below (Below.alloc (Below.refl _ _) (Nat.le_refl _) (.cells #[.int .i64 7, .int .i64 n, .slice (some ⟨b', o', none⟩) 2 c] 30)))
    have hBw : Below w.heap.size w (w.alloc (.cells #[.int .i64 7, .int .i64 n, .slice (some ⟨b', o', none⟩) 2 c] 30)) := Below.alloc (Below.refl _ _) (Nat.le_refl _) _
    clear hb
    generalize w.alloc (.cells #[.int .i64 7, .int .i64 n, .slice (some ⟨b', o', none⟩) 2 c] 30) = w1 at L hb1 hBw ⊢
    have hb := hb1
    have h01 : Below W0.heap.size W0 w1 := h0.trans (hBw.mono (by omega))
    have hz1 := hBw.size
    have HS := Lib.hid hS
    have HBw := Lib.hid hBw
    have H01 := Lib.hid h01
    clear hb1 hS hBw h01
    have l0 := L.c0
    go_wp2_with fail
    clear l0
    obtain ⟨T, hT, hTS⟩ := hb.ex
    refine (WriteString_i (s := [40]) hT (by simp only [List.length_append, List.length_cons, List.length_nil] at *; omega) (by omega)).mono ?_
    rintro e w2 ⟨⟨u, rfl⟩, hb', hs'⟩
    have szw2 := hs'.size
    replace hb := hb.next hTS hb' hs'
    clear hT hTS hb' hs' T
    have h0c : Below W0.heap.size W0 w2 := H01.out.trans (hb.sp.below (by omega) (fun x hx => by have := HS.out x hx; omega))
    have L2 := L.keep (hb.sp.block _ L.lt (fun hx => by have := HS.out _ hx; omega))
    have l0 := L2.c0
    have l1 := L2.c1
    have l2 := L2.c2
    have q0 := (h0c.cell (p := ⟨b', o', none⟩) hbl).trans g0
    have q1 := (h0c.cell (p := ⟨b', o' + 1, none⟩) hbl).trans g1
    have q2 := (h0c.cell (p := ⟨b', o' + 2, none⟩) hbl).trans g2
    go_wp2_with fail
    clear l0 l1 l2 L2 q0 q1 q2
    obtain ⟨T, hT, hTS⟩ := hb.ex
    refine (ih _ hxs _ _ _ _ _ T _ _ (Nat.le_refl _) gr hxt h0c hT (by omega) (by simp only [List.length_append, List.length_cons, List.length_nil] at *; omega)).mono ?_
    rintro e w3 ⟨rfl, hb', hs'⟩
    have szw3 := hs'.size
    replace hb := hb.next hTS hb' hs'
    clear hT hTS hb' hs' T
    have h0c : Below W0.heap.size W0 w3 := H01.out.trans (hb.sp.below (by omega) (fun x hx => by have := HS.out x hx; omega))
    have L2 := L.keep (hb.sp.block _ L.lt (fun hx => by have := HS.out _ hx; omega))
    have l0 := L2.c0
    have l1 := L2.c1
    have l2 := L2.c2
    rw [ex] at hb
    go_wp2_with fail
    clear l0 l1 l2 L2 h0c
    obtain ⟨T, hT, hTS⟩ := hb.ex
    refine (WriteString_i (s := [32]) hT (by simp only [List.length_append, List.length_cons, List.length_nil] at *; omega) (by omega)).mono ?_
    rintro e w4 ⟨⟨u, rfl⟩, hb', hs'⟩
    have szw4 := hs'.size
    replace hb := hb.next hTS hb' hs'
    clear hT hTS hb' hs' T
    have h0c : Below W0.heap.size W0 w4 := H01.out.trans (hb.sp.below (by omega) (fun x hx => by have := HS.out x hx; omega))
    have L2 := L.keep (hb.sp.block _ L.lt (fun hx => by have := HS.out _ hx; omega))
    have l0 := L2.c0
    have l1 := L2.c1
    have l2 := L2.c2
    have q0 := (h0c.cell (p := ⟨b', o' + 3, none⟩) hbl).trans k0
    have q1 := (h0c.cell (p := ⟨b', o' + 3 + 1, none⟩) hbl).trans k1
    have q2 := (h0c.cell (p := ⟨b', o' + 3 + 2, none⟩) hbl).trans k2
    go_wp2_with fail
    clear l0 l1 l2 L2 q0 q1 q2
    obtain ⟨T, hT, hTS⟩ := hb.ex
    refine (ih _ hys _ _ _ _ _ T _ _ (Nat.le_refl _) kr hyt h0c hT (by omega) (by simp only [List.length_append, List.length_cons, List.length_nil] at *; omega)).mono ?_
    rintro e w5 ⟨rfl, hb', hs'⟩
    have szw5 := hs'.size
    replace hb := hb.next hTS hb' hs'
    clear hT hTS hb' hs' T
    have h0c : Below W0.heap.size W0 w5 := H01.out.trans (hb.sp.below (by omega) (fun x hx => by have := HS.out x hx; omega))
    have L2 := L.keep (hb.sp.block _ L.lt (fun hx => by have := HS.out _ hx; omega))
    have l0 := L2.c0
    have l1 := L2.c1
    have l2 := L2.c2
    rw [ey] at hb
    go_wp2_with fail
    clear l0 l1 l2 L2 h0c
    obtain ⟨T, hT, hTS⟩ := hb.ex
    refine (WriteString_i (s := [41]) hT (by simp only [List.length_append, List.length_cons, List.length_nil] at *; omega) (by omega)).mono ?_
    rintro e w6 ⟨⟨u, rfl⟩, hb', hs'⟩
    have szw6 := hs'.size
    replace hb := hb.next hTS hb' hs'
    clear hT hTS hb' hs' T
    have h0c : Below W0.heap.size W0 w6 := H01.out.trans (hb.sp.below (by omega) (fun x hx => by have := HS.out x hx; omega))
    have L2 := L.keep (hb.sp.block _ L.lt (fun hx => by have := HS.out _ hx; omega))
    have l0 := L2.c0
    have l1 := L2.c1
    have l2 := L2.c2
    go_wp2_with fail
    refine bodyPost_end (v := .tuple #[]) (by simp [results, Tryz.results166, go_sem]) rfl ?_
    refine ⟨rfl, ?_⟩
    rw [e0]
    try simp only [List.append_assoc] at hb ⊢
    exact hb.done HBw.out HS.out hB
  · obtain ⟨x, rfl⟩ := one_kid hk (by omega)
    have hx : [x][0]? = some x := rfl
    obtain ⟨b', o', rfl⟩ := kid_some hr (by simp)
    have hxt0 : x.tree tm am = true := Ex.treeL_mem htl (by simp)
    have bx := text_bound tm am ht ha _ x (Nat.le_refl _) hxt0
    have hxt : Ex.tree tm am (.mk x.kind x.num x.kids) = true := by rw [← Ex.eta x]; exact hxt0
    have hsx := Ex.size_eq x
    simp only [Ex.sizeL] at hN hlen
    have hxs : Ex.sizeL x.kids < N := by omega
    have ex : Ex.text (.mk x.kind x.num x.kids) = x.text := by rw [← Ex.eta x]
    obtain ⟨hbl, s', c', g0, g1, g2, gr⟩ := kid_in hr hx
    simp only [Nat.zero_mul, Nat.add_zero] at g0 g1 g2
    have e0 : Ex.text (.mk 8 n [x]) = x.text ++ [42] := by simp [Ex.text, texC, Ex.textL]
    clear hk hnum htl hc htr hx hxt0
    have p0 := (h0.cell (p := ⟨b', o', none⟩) hbl).trans g0
    have p1 := (h0.cell (p := ⟨b', o' + 1, none⟩) hbl).trans g1
    have p2 := (h0.cell (p := ⟨b', o' + 2, none⟩) hbl).trans g2
    have pl : b' < w.heap.size := by omega
    go_enter Tryz.func166, Tryz.ntmps166
    go_wp2_with fail
    have L := Blk.new3 w 30 (.int .i64 8) (.int .i64 n) (.slice (some ⟨b', o', none⟩) 1 c)
    have hS := hb.set.2
    have hb1 := BldS.start (hb.below (Below.alloc (Below.refl _ _) (Nat.le_refl _) (.cells #[.int .i64 8, .int .i64 n, .slice (some ⟨b', o', none⟩) 1 c] 30)))
    have hBw : Below w.heap.size w (w.alloc (.cells #[.int .i64 8, .int .i64 n, .slice (some ⟨b', o', none⟩) 1 c] 30)) := Below.alloc (Below.refl _ _) (Nat.le_refl _) _
    clear hb
    generalize w.alloc (.cells #[.int .i64 8, .int .i64 n, .slice (some ⟨b', o', none⟩) 1 c] 30) = w1 at L hb1 hBw ⊢
    have hb := hb1
    have h01 : Below W0.heap.size W0 w1 := h0.trans (hBw.mono (by omega))
    have hz1 := hBw.size
    have HS := Lib.hid hS
    have HBw := Lib.hid hBw
    have H01 := Lib.hid h01
    clear hb1 hS hBw h01
    have h0c := H01.out
    clear p0 p1 p2 pl
    obtain ⟨T, hT, hTS⟩ := hb.ex
    refine (ih _ hxs _ _ _ _ _ T _ _ (Nat.le_refl _) gr hxt h0c hT (by omega) (by simp only [List.length_append, List.length_cons, List.length_nil] at *; omega)).mono ?_
    rintro e w3 ⟨rfl, hb', hs'⟩
    have szw3 := hs'.size
    replace hb := hb.next hTS hb' hs'
    clear hT hTS hb' hs' T
    have h0c : Below W0.heap.size W0 w3 := H01.out.trans (hb.sp.below (by omega) (fun x hx => by have := HS.out x hx; omega))
    have L2 := L.keep (hb.sp.block _ L.lt (fun hx => by have := HS.out _ hx; omega))
    have l0 := L2.c0
    have l1 := L2.c1
    have l2 := L2.c2
    rw [ex] at hb
    go_wp2_with fail
    clear l0 l1 l2 L2 h0c
    obtain ⟨T, hT, hTS⟩ := hb.ex
    refine (WriteString_i (s := [42]) hT (by simp only [List.length_append, List.length_cons, List.length_nil] at *; omega) (by omega)).mono ?_
    rintro e w4 ⟨⟨u, rfl⟩, hb', hs'⟩
    have szw4 := hs'.size
    replace hb := hb.next hTS hb' hs'
    clear hT hTS hb' hs' T
    have h0c : Below W0.heap.size W0 w4 := H01.out.trans (hb.sp.below (by omega) (fun x hx => by have := HS.out x hx; omega))
    have L2 := L.keep (hb.sp.block _ L.lt (fun hx => by have := HS.out _ hx; omega))
    have l0 := L2.c0
    have l1 := L2.c1
    have l2 := L2.c2
    go_wp2_with fail
    refine bodyPost_end (v := .tuple #[]) (by simp [results, Tryz.results166, go_sem]) rfl ?_
    refine ⟨rfl, ?_⟩
    rw [e0]
    try simp only [List.append_assoc] at hb ⊢
    exact hb.done HBw.out HS.out hB
end Go.Proofs.YtjlmdhoajfdkbaaGreatDoor

namespace Go.Proofs.YtjlmdhoajfdkbaaGreatDoor
set_option linter.unusedVariables false
set_option linter.unusedSimpArgs false
open Go.ChangeShapes Go.WideShapes Go.ChangeAt Go.RowKit
theorem digit_inj {m n : Nat} (hm : m < 10) (hn : n < 10) {r s : List UInt8} (h : Lib.decDigits m ++ r = Lib.decDigits n ++ s) : m = n ∧ r = s := by
  rw [Lib.decDigits_one hm, Lib.decDigits_one hn] at h
  simp only [List.cons_append, List.nil_append, List.cons.injEq] at h
  refine ⟨?_, h.2⟩
  have := congrArg UInt8.toNat h.1
  simp at this
  omega
def starN : Nat → Ex → Ex
  | 0, x => x
  | i + 1, x => .mk 8 0 [starN i x]
theorem starN_text (x : Ex) : ∀ i, (starN i x).text = x.text ++ List.replicate i 42
  | 0 => by simp [starN]
  | i + 1 => by
    simp only [starN, Ex.text, Ex.textL]
    rw [starN_text x i]
    simp [texC, List.replicate_succ']
theorem star_base (tm am : Int) (N : Nat) : ∀ e : Ex, e.size ≤ N → e.tree tm am = true → ∃ i x, e = starN i x ∧ x.kind ≠ 8 ∧ x.tree tm am = true ∧ x.size ≤ e.size := by
  induction N using Nat.strongRecOn with
  | _ N ih =>
  intro e hN ht
  by_cases h8 : e.kind = 8
  · obtain ⟨k, n, ks⟩ := e
    simp only [Ex.kind] at h8
    subst h8
    obtain ⟨hk, hnum, -, htl⟩ := tree_parts ht
    obtain ⟨x, rfl⟩ := one_kid hk (by omega)
    have hx : x.tree tm am = true := Ex.treeL_mem htl (by simp)
    have hs := Ex.size_eq (.mk 8 n [x])
    simp only [Ex.kids, Ex.sizeL] at hs
    obtain ⟨i, y, hy, h1, h2, h3⟩ := ih x.size (by omega) x (Nat.le_refl _) hx
    obtain rfl : n = 0 := by simpa [numB] using hnum
    exact ⟨i + 1, y, by rw [hy]; rfl, h1, h2, by omega⟩
  · exact ⟨0, e, rfl, h8, ht, Nat.le_refl _⟩
theorem rep_inj : ∀ (i j : Nat) {r s : List UInt8}, r.head? ≠ some 42 → s.head? ≠ some 42 → List.replicate i 42 ++ r = List.replicate j 42 ++ s → i = j ∧ r = s
  | 0, 0, r, s, _, _, h => ⟨rfl, by simpa using h⟩
  | 0, j + 1, r, s, h1, _, h => by rw [List.replicate_zero, List.nil_append] at h; rw [h] at h1; simp [List.replicate_succ] at h1
  | i + 1, 0, r, s, _, h2, h => by rw [List.replicate_zero, List.nil_append] at h; rw [← h] at h2; simp [List.replicate_succ] at h2
  | i + 1, j + 1, r, s, h1, h2, h => by
    simp only [List.replicate_succ, List.cons_append, List.cons.injEq, true_and] at h
    obtain ⟨a, b⟩ := rep_inj i j h1 h2 h
    exact ⟨by omega, b⟩
theorem cond_kind {e : Ex} (h : e.cond = true) : e.kind ≠ 8 := by
  intro h8
  obtain ⟨k, n, ks⟩ := e
  simp only [Ex.kind] at h8
  subst h8
  simp [Ex.cond, condKind] at h
theorem text_head (tm am : Int) (N : Nat) : ∀ e : Ex, e.size ≤ N → e.tree tm am = true → ∃ c l, e.text = c :: l ∧ c ≠ 43 := by
  induction N using Nat.strongRecOn with
  | _ N ih =>
  intro e hN ht
  obtain ⟨k, n, ks⟩ := e
  obtain ⟨hk, -, -, htl⟩ := tree_parts ht
  have hs := Ex.size_eq (.mk k n ks)
  simp only [Ex.kids] at hs
  rcases kind_cases hk with rfl | rfl | rfl | rfl | rfl | rfl | rfl | rfl
  · exact ⟨48, [], by simp [Ex.text, texC], by decide⟩
  · exact ⟨49, [], by simp [Ex.text, texC], by decide⟩
  · exact ⟨116, _, by simp [Ex.text, texC]; rfl, by decide⟩
  · exact ⟨97, _, by simp [Ex.text, texC]; rfl, by decide⟩
  · exact ⟨126, _, by simp [Ex.text, texC]; rfl, by decide⟩
  · exact ⟨40, _, by simp [Ex.text, texC]; rfl, by decide⟩
  · exact ⟨40, _, by simp [Ex.text, texC]; rfl, by decide⟩
  · obtain ⟨x, rfl⟩ := one_kid hk (by omega)
    simp only [Ex.sizeL] at hs
    obtain ⟨c, l, h1, h2⟩ := ih x.size (by omega) x (Nat.le_refl _) (Ex.treeL_mem htl (by simp))
    exact ⟨c, l ++ [42], by simp [Ex.text, texC, Ex.textL, h1], h2⟩
theorem text_inj_core (tm am : Int) (ht : tm ≤ 8) (ha : am ≤ 8) (N : Nat) : ∀ (e f : Ex) (r s : List UInt8), e.size ≤ N → e.tree tm am = true → f.tree tm am = true → e.kind ≠ 8 → f.kind ≠ 8 → e.text ++ r = f.text ++ s → e = f ∧ r = s := by
  induction N using Nat.strongRecOn with
  | _ N ih =>
  intro e f r s hN he hf h8 h8' h
  have whole : ∀ (x y : Ex) (r s : List UInt8), x.size < N → x.tree tm am = true → y.tree tm am = true → r.head? ≠ some 42 → s.head? ≠ some 42 → x.text ++ r = y.text ++ s → x = y ∧ r = s := by
    intro x y r s hx tx ty hr hs h
    obtain ⟨i, x0, rfl, a1, a2, a3⟩ := star_base tm am _ x (Nat.le_refl _) tx
    obtain ⟨j, y0, rfl, b1, b2, b3⟩ := star_base tm am _ y (Nat.le_refl _) ty
    rw [starN_text, starN_text, List.append_assoc, List.append_assoc] at h
    obtain ⟨rfl, h'⟩ := ih x0.size (by omega) x0 y0 _ _ (Nat.le_refl _) a2 b2 a1 b1 h
    obtain ⟨rfl, rfl⟩ := rep_inj i j hr hs h'
    exact ⟨rfl, rfl⟩
  obtain ⟨k, n, ks⟩ := e
  obtain ⟨k', n', ks'⟩ := f
  obtain ⟨hk, hnum, hc, htl⟩ := tree_parts he
  obtain ⟨hk', hnum', hc', htl'⟩ := tree_parts hf
  simp only [Ex.kind] at h8 h8'
  have hs := Ex.size_eq (.mk k n ks)
  simp only [Ex.kids] at hs
  have z0 : ∀ {q : Int} {l : List Ex}, kidsN q = (l.length : Int) → q = 1 ∨ q = 2 ∨ q = 3 ∨ q = 4 → l = [] := by
    intro q l hq hh
    have : kidsN q = 0 := by unfold kidsN; rw [if_pos hh]
    exact List.eq_nil_of_length_eq_zero (by omega)
  rcases kind_cases hk with rfl | rfl | rfl | rfl | rfl | rfl | rfl | rfl <;> rcases kind_cases hk' with rfl | rfl | rfl | rfl | rfl | rfl | rfl | rfl
  all_goals first
    | exact absurd rfl h8
    | exact absurd rfl h8'
    | (exfalso; simp [Ex.text, texC] at h; done)
    | skip
  · obtain rfl := z0 hk (by omega)
    obtain rfl := z0 hk' (by omega)
    obtain rfl : n = 0 := by simpa [numB] using hnum
    obtain rfl : n' = 0 := by simpa [numB] using hnum'
    exact ⟨rfl, by simpa [Ex.text, texC] using h⟩
  · obtain rfl := z0 hk (by omega)
    obtain rfl := z0 hk' (by omega)
    obtain rfl : n = 0 := by simpa [numB] using hnum
    obtain rfl : n' = 0 := by simpa [numB] using hnum'
    exact ⟨rfl, by simpa [Ex.text, texC] using h⟩
  · obtain rfl := z0 hk (by omega)
    obtain rfl := z0 hk' (by omega)
    obtain ⟨a0, a8⟩ := numB_any (by omega) hnum ht ha
    obtain ⟨b0, b8⟩ := numB_any (by omega) hnum' ht ha
    simp [Ex.text, texC] at h
    obtain ⟨h1, h2⟩ := digit_inj (by omega) (by omega) h
    obtain rfl : n = n' := by omega
    exact ⟨rfl, h2⟩
  · obtain rfl := z0 hk (by omega)
    obtain rfl := z0 hk' (by omega)
    obtain ⟨a0, a8⟩ := numB_any (by omega) hnum ht ha
    obtain ⟨b0, b8⟩ := numB_any (by omega) hnum' ht ha
    simp [Ex.text, texC] at h
    obtain ⟨h1, h2⟩ := digit_inj (by omega) (by omega) h
    obtain rfl : n = n' := by omega
    exact ⟨rfl, h2⟩
  · obtain ⟨x, rfl⟩ := one_kid hk (by omega)
    obtain ⟨y, rfl⟩ := one_kid hk' (by omega)
    obtain rfl : n = 0 := by simpa [numB] using hnum
    obtain rfl : n' = 0 := by simpa [numB] using hnum'
    have cx : x.cond = true := by simpa [Ex.condL] using hc rfl
    have cy : y.cond = true := by simpa [Ex.condL] using hc' rfl
    simp [Ex.text, texC, Ex.textL] at h
    simp only [Ex.sizeL] at hs
    obtain ⟨rfl, h'⟩ := ih x.size (by omega) x y r s (Nat.le_refl _) (Ex.treeL_mem htl (by simp)) (Ex.treeL_mem htl' (by simp)) (cond_kind cx) (cond_kind cy) h
    exact ⟨rfl, h'⟩
  all_goals
    obtain ⟨x, y, rfl⟩ := two_kids hk (by omega)
    obtain ⟨x', y', rfl⟩ := two_kids hk' (by omega)
    obtain rfl : n = 0 := by simpa [numB] using hnum
    obtain rfl : n' = 0 := by simpa [numB] using hnum'
    have ty : y.tree tm am = true := Ex.treeL_mem htl (by simp)
    have ty' : y'.tree tm am = true := Ex.treeL_mem htl' (by simp)
    simp [Ex.text, texC, Ex.textL] at h
    simp only [Ex.sizeL] at hs
    obtain ⟨hxx, h2⟩ := whole x x' _ _ (by omega) (Ex.treeL_mem htl (by simp)) (Ex.treeL_mem htl' (by simp)) (by simp) (by simp) h
    subst hxx
    clear h
    obtain ⟨c1, l1, q1, p1⟩ := text_head tm am _ y (Nat.le_refl _) ty
    obtain ⟨c2, l2, q2, p2⟩ := text_head tm am _ y' (Nat.le_refl _) ty'
    first
      | (exfalso; rw [q1] at h2; simp at h2; exact p1 h2.1)
      | (exfalso; rw [q2] at h2; simp at h2; exact p2 h2.1.symm)
      | (simp at h2
         obtain ⟨hyy, h3⟩ := whole y y' _ _ (by omega) ty ty' (by simp) (by simp) h2
         subst hyy
         exact ⟨rfl, by simpa using h3⟩)
theorem text_inj {tm am : Int} (ht : tm ≤ 8) (ha : am ≤ 8) {e f : Ex} (he : e.tree tm am = true) (hf : f.tree tm am = true) (h : e.text = f.text) : e = f := by
  obtain ⟨i, x0, rfl, a1, a2, -⟩ := star_base tm am _ e (Nat.le_refl _) he
  obtain ⟨j, y0, rfl, b1, b2, -⟩ := star_base tm am _ f (Nat.le_refl _) hf
  rw [starN_text, starN_text] at h
  obtain ⟨rfl, h'⟩ := text_inj_core tm am ht ha _ x0 y0 _ _ (Nat.le_refl _) a2 b2 a1 b1 h
  obtain ⟨rfl, -⟩ := rep_inj i j (r := []) (s := []) (by simp) (by simp) (by simpa using h')
  rfl
end Go.Proofs.YtjlmdhoajfdkbaaGreatDoor

namespace Go.Proofs.YtjlmdhoajfdkbaaGreatDoor
set_option linter.unusedVariables false
set_option linter.unusedSimpArgs false
section
variable {α : Type} [DecidableEq α]
def grow1 (L : List α) : Option α → List α
  | none => L
  | some x => if x ∈ L then L else L ++ [x]
def growL (L : List α) (ss : List (Option α)) : List α := ss.foldl grow1 L
def numO (L : List α) : Option α → Int
  | none => -1
  | some x => (L.idxOf x : Int)
def upto (L : List α) (ss : List (Option α)) (m : Nat) : List α := growL L (ss.take m)
def expl (s : α) (succ : α → List (Option α)) : Nat → List α
  | 0 => [s]
  | k + 1 => match (expl s succ k)[k]? with
    | none => expl s succ k
    | some x => growL (expl s succ k) (succ x)
theorem grow1_prefix (L : List α) (o : Option α) : L <+: grow1 L o := by
  cases o with
  | none => exact List.prefix_refl _
  | some x =>
    show L <+: if x ∈ L then L else L ++ [x]
    by_cases h : x ∈ L
    · rw [if_pos h]; exact List.prefix_refl _
    · rw [if_neg h]; exact List.prefix_append _ _
theorem growL_prefix : ∀ (ss : List (Option α)) (L : List α), L <+: growL L ss
  | [], L => List.prefix_refl _
  | o :: r, L => (grow1_prefix L o).trans (growL_prefix r (grow1 L o))
theorem growL_append (L : List α) (a b : List (Option α)) : growL L (a ++ b) = growL (growL L a) b := List.foldl_append
theorem upto_zero (L : List α) (ss : List (Option α)) : upto L ss 0 = L := rfl
theorem upto_succ {L : List α} {ss : List (Option α)} {m : Nat} {o : Option α} (h : ss[m]? = some o) : upto L ss (m + 1) = grow1 (upto L ss m) o := by
  obtain ⟨hm, rfl⟩ := List.getElem?_eq_some_iff.1 h
  unfold upto
  rw [List.take_succ_eq_append_getElem hm, growL_append]
  rfl
theorem upto_all {L : List α} {ss : List (Option α)} {m : Nat} (h : ss.length ≤ m) : upto L ss m = growL L ss := by
  unfold upto
  rw [List.take_of_length_le h]
theorem upto_prefix (L : List α) (ss : List (Option α)) (m : Nat) : L <+: upto L ss m := growL_prefix _ _
theorem upto_le {L : List α} {ss : List (Option α)} {m n : Nat} (h : m ≤ n) : upto L ss m <+: upto L ss n := by
  unfold upto
  have : ss.take n = ss.take m ++ (ss.take n).drop m := by
    have h1 := (List.take_append_drop m (ss.take n)).symm
    rwa [List.take_take, Nat.min_eq_left h] at h1
  rw [this, growL_append]
  exact growL_prefix _ _
omit [DecidableEq α] in
theorem prefix_get {L M : List α} (h : L <+: M) {i : Nat} {x : α} (hx : L[i]? = some x) : M[i]? = some x := by
  obtain ⟨r, rfl⟩ := h
  rw [List.getElem?_append_left (List.getElem?_eq_some_iff.1 hx).1]
  exact hx
omit [DecidableEq α] in
theorem prefix_length {L M : List α} (h : L <+: M) : L.length ≤ M.length := by
  obtain ⟨r, rfl⟩ := h
  simp
theorem grow1_old {L : List α} {x : α} (h : x ∈ L) : grow1 L (some x) = L := if_pos h
theorem grow1_new {L : List α} {x : α} (h : x ∉ L) : grow1 L (some x) = L ++ [x] := if_neg h
theorem grow1_mem {L : List α} {x : α} : x ∈ grow1 L (some x) := by
  by_cases h : x ∈ L
  · rw [grow1_old h]; exact h
  · rw [grow1_new h]; simp
theorem grow1_nodup {L : List α} (h : L.Nodup) (o : Option α) : (grow1 L o).Nodup := by
  cases o with
  | none => exact h
  | some x =>
    by_cases hx : x ∈ L
    · rw [grow1_old hx]; exact h
    · rw [grow1_new hx, List.nodup_append]
      exact ⟨h, by simp, fun a ha b hb hab => by
        simp only [List.mem_singleton] at hb
        exact hx (by rw [← hb, ← hab]; exact ha)⟩
theorem growL_nodup : ∀ (ss : List (Option α)) {L : List α}, L.Nodup → (growL L ss).Nodup
  | [], _, h => h
  | o :: r, _, h => growL_nodup r (grow1_nodup h o)
theorem upto_nodup {L : List α} (h : L.Nodup) (ss : List (Option α)) (m : Nat) : (upto L ss m).Nodup := growL_nodup _ h
theorem expl_nodup (s : α) (succ : α → List (Option α)) : ∀ k, (expl s succ k).Nodup
  | 0 => by simp [expl]
  | k + 1 => by
    simp only [expl]
    split
    · exact expl_nodup s succ k
    · exact growL_nodup _ (expl_nodup s succ k)
theorem expl_succ {s : α} {succ : α → List (Option α)} {k : Nat} {x : α} (h : (expl s succ k)[k]? = some x) : expl s succ (k + 1) = growL (expl s succ k) (succ x) := by
  simp only [expl, h]
theorem expl_stop {s : α} {succ : α → List (Option α)} {k : Nat} (h : (expl s succ k).length ≤ k) : ∀ m, k ≤ m → expl s succ m = expl s succ k := by
  intro m hm
  induction hm with
  | refl => rfl
  | step hkm ih =>
    simp only [expl, ih]
    rw [List.getElem?_eq_none (by have : k ≤ _ := hkm; omega)]
theorem expl_step_prefix (s : α) (succ : α → List (Option α)) (k : Nat) : expl s succ k <+: expl s succ (k + 1) := by
  simp only [expl]
  split
  · exact List.prefix_refl _
  · exact growL_prefix _ _
theorem expl_prefix (s : α) (succ : α → List (Option α)) {k m : Nat} (h : k ≤ m) : expl s succ k <+: expl s succ m := by
  induction h with
  | refl => exact List.prefix_refl _
  | step _ ih => exact ih.trans (expl_step_prefix s succ _)
theorem idxOf_prefix {L M : List α} (h : L <+: M) {x : α} (hx : x ∈ L) : M.idxOf x = L.idxOf x := by
  obtain ⟨r, rfl⟩ := h
  rw [List.idxOf_append, if_pos hx]
theorem idxOf_at {L : List α} (hn : L.Nodup) {i : Nat} {x : α} (h : L[i]? = some x) : L.idxOf x = i := by
  obtain ⟨hi, rfl⟩ := List.getElem?_eq_some_iff.1 h
  exact hn.idxOf_getElem i hi
theorem idxOf_new {L : List α} {x : α} (h : x ∉ L) : (L ++ [x]).idxOf x = L.length := by
  rw [List.idxOf_append, if_neg h]
  simp
end
end Go.Proofs.YtjlmdhoajfdkbaaGreatDoor

namespace Go.Proofs.YtjlmdhoajfdkbaaGreatDoor
set_option linter.unusedVariables false
set_option linter.unusedSimpArgs false
noncomputable instance exDec : DecidableEq Ex := fun a b => Classical.propDecidable (a = b)
def Ex.two (k : Int) (a b : Ex) : Ex := .mk k 0 [a, b]
def Ex.leaf (k : Int) : Ex := .mk k 0 []
def summC (k n : Int) (ks : List Ex) (rs : List (List Ex)) : List Ex := if k = 1 then [] else if k = 6 then rs.flatten else [.mk k n ks]
mutual
def Ex.summ : Ex → List Ex
  | .mk k n ks => summC k n ks (Ex.summL ks)
def Ex.summL : List Ex → List (List Ex)
  | [] => []
  | e :: r => e.summ :: Ex.summL r
end
theorem Ex.summ_zero {n : Int} {ks : List Ex} : (Ex.mk 1 n ks).summ = [] := by simp [Ex.summ, summC]
theorem Ex.summ_sum {n : Int} {a b : Ex} : (Ex.mk 6 n [a, b]).summ = a.summ ++ b.summ := by simp [Ex.summ, summC, Ex.summL]
theorem Ex.summ_else {k n : Int} {ks : List Ex} (h1 : k ≠ 1) (h6 : k ≠ 6) : (Ex.mk k n ks).summ = [.mk k n ks] := by simp [Ex.summ, summC, h1, h6]
def sizes (L : List Ex) : Nat := (L.map Ex.size).sum
theorem sizes_append (a b : List Ex) : sizes (a ++ b) = sizes a + sizes b := by simp [sizes]
theorem summ_spec (tm am : Int) (N : Nat) : ∀ e : Ex, e.size ≤ N → e.tree tm am = true → (∀ x ∈ e.summ, x.tree tm am = true ∧ x.size ≤ e.size) ∧ sizes e.summ + e.summ.length ≤ e.size + 1 := by
  induction N using Nat.strongRecOn with
  | _ N ih =>
  intro e hN ht
  obtain ⟨k, n, ks⟩ := e
  by_cases h1 : k = 1
  · subst h1
    rw [Ex.summ_zero]
    simp [sizes]
  by_cases h6 : k = 6
  · subst h6
    obtain ⟨hk, -, -, htl⟩ := tree_parts ht
    obtain ⟨a, b, rfl⟩ := two_kids hk (by omega)
    have hs := Ex.size_eq (.mk 6 n [a, b])
    simp only [Ex.kids, Ex.sizeL] at hs
    obtain ⟨a1, a2⟩ := ih a.size (by omega) a (Nat.le_refl _) (Ex.treeL_mem htl (by simp))
    obtain ⟨b1, b2⟩ := ih b.size (by omega) b (Nat.le_refl _) (Ex.treeL_mem htl (by simp))
    rw [Ex.summ_sum]
    refine ⟨fun x hx => ?_, by rw [sizes_append, List.length_append]; omega⟩
    rcases List.mem_append.1 hx with hx | hx
    · exact ⟨(a1 x hx).1, by have := (a1 x hx).2; omega⟩
    · exact ⟨(b1 x hx).1, by have := (b1 x hx).2; omega⟩
  · rw [Ex.summ_else h1 h6]
    refine ⟨fun x hx => ?_, by simp [sizes]⟩
    rw [List.mem_singleton] at hx
    subst hx
    exact ⟨ht, Nat.le_refl _⟩
def Ex.lt (a b : Ex) : Bool := decide (a.text < b.text)
def insT (e : Ex) (L : List Ex) : List Ex := L.takeWhile (fun x => Ex.lt x e) ++ e :: L.dropWhile (fun x => x.lt e)
def sortI (L : List Ex) : List Ex := L.foldl (fun acc e => insT e acc) []
theorem insT_perm (e : Ex) (L : List Ex) : (insT e L).Perm (e :: L) := by
  unfold insT
  refine List.perm_middle.trans ?_
  rw [List.takeWhile_append_dropWhile]
theorem sortI_perm_aux : ∀ (L acc : List Ex), (L.foldl (fun acc e => insT e acc) acc).Perm (acc ++ L)
  | [], acc => by simp
  | e :: r, acc => by
    refine (sortI_perm_aux r (insT e acc)).trans ?_
    refine ((insT_perm e acc).append_right r).trans ?_
    exact (List.perm_middle (a := e) (l₁ := acc) (l₂ := r)).symm
theorem sortI_perm (L : List Ex) : (sortI L).Perm L := by have := sortI_perm_aux L []; rwa [List.nil_append] at this
def leT (a b : Ex) : Prop := ¬ b.text < a.text
theorem leT_trans {a b c : Ex} (h : leT a b) (k : leT b c) : leT a c := by
  unfold leT at *
  rw [List.not_lt] at *
  exact List.le_trans h k
theorem leT_of_lt {a b : Ex} (h : a.text < b.text) : leT a b := List.lt_asymm h
theorem insT_sorted (e : Ex) : ∀ L : List Ex, L.Pairwise leT → (insT e L).Pairwise leT
  | [], _ => by simp [insT]
  | x :: r, h => by
    rw [List.pairwise_cons] at h
    unfold insT
    by_cases hx : x.lt e = true
    · rw [List.takeWhile_cons_of_pos (p := fun x => Ex.lt x e) hx, List.dropWhile_cons_of_pos (p := fun x => Ex.lt x e) hx, List.cons_append, List.pairwise_cons]
      refine ⟨fun y hy => ?_, insT_sorted e r h.2⟩
      have hy' : y ∈ insT e r := hy
      rcases List.mem_cons.1 ((insT_perm e r).mem_iff.1 hy') with rfl | hy2
      · exact leT_of_lt (by simpa [Ex.lt] using hx)
      · exact h.1 y hy2
    · rw [List.takeWhile_cons_of_neg (p := fun x => Ex.lt x e) hx, List.dropWhile_cons_of_neg (p := fun x => Ex.lt x e) hx, List.nil_append, List.pairwise_cons]
      have hxe : leT e x := by simpa [Ex.lt, leT] using hx
      refine ⟨fun y hy => ?_, List.pairwise_cons.2 h⟩
      rcases List.mem_cons.1 hy with rfl | hy
      · exact hxe
      · exact leT_trans hxe (h.1 y hy)
theorem sortI_sorted_aux : ∀ (L acc : List Ex), acc.Pairwise leT → (L.foldl (fun acc e => insT e acc) acc).Pairwise leT
  | [], _, h => h
  | e :: r, acc, h => sortI_sorted_aux r _ (insT_sorted e acc h)
theorem sortI_sorted (L : List Ex) : (sortI L).Pairwise leT := sortI_sorted_aux L [] List.Pairwise.nil
theorem sortI_unique {tm am : Int} (ht : tm ≤ 8) (ha : am ≤ 8) {L M : List Ex} (hL : ∀ x ∈ L, x.tree tm am = true) (hp : M.Perm L) (hs : M.Pairwise leT) : M = sortI L := by
  refine List.Perm.eq_of_pairwise (le := leT) (fun a b h1 h2 h3 h4 => ?_) hs (sortI_sorted L) (hp.trans (sortI_perm L).symm)
  have ha' := hL a (hp.mem_iff.1 h1)
  have hb' := hL b ((sortI_perm L).mem_iff.1 h2)
  unfold leT at h3 h4
  rw [List.not_lt] at h3 h4
  exact text_inj ht ha ha' hb' (List.le_antisymm h3 h4)
noncomputable def nub (L : List Ex) : List Ex := growL [] (L.map some)
def foldS : List Ex → Ex
  | [] => .leaf 1
  | x :: r => r.foldl (fun a b => .two 6 a b) x
noncomputable def sumT (x y : Ex) : Ex := foldS (sortI (nub (x.summ ++ y.summ)))
theorem growL_mem {α : Type} [DecidableEq α] : ∀ (ss : List α) (L : List α) (x : α), x ∈ growL L (ss.map some) ↔ x ∈ L ∨ x ∈ ss
  | [], L, x => by simp [growL]
  | s :: r, L, x => by
    show x ∈ growL (grow1 L (some s)) (r.map some) ↔ _
    rw [growL_mem r]
    by_cases h : s ∈ L
    · rw [grow1_old h]
      constructor
      · rintro (q | q); exact Or.inl q; exact Or.inr (List.mem_cons_of_mem _ q)
      · rintro (q | q)
        · exact Or.inl q
        · rcases List.mem_cons.1 q with rfl | q; exact Or.inl h; exact Or.inr q
    · rw [grow1_new h]
      simp [or_assoc]
theorem nub_mem {L : List Ex} {x : Ex} : x ∈ nub L ↔ x ∈ L := by unfold nub; rw [growL_mem]; simp
theorem grow_sizes : ∀ (ss : List Ex) (L : List Ex), sizes (growL L (ss.map some)) + (growL L (ss.map some)).length ≤ sizes L + L.length + (sizes ss + ss.length)
  | [], L => by simp [growL, sizes]
  | s :: r, L => by
    show sizes (growL (grow1 L (some s)) (r.map some)) + (growL (grow1 L (some s)) (r.map some)).length ≤ _
    have := grow_sizes r (grow1 L (some s))
    have h2 : sizes (s :: r) = s.size + sizes r := by simp [sizes]
    have h3 : sizes (grow1 L (some s)) + (grow1 L (some s)).length ≤ sizes L + L.length + (s.size + 1) := by
      by_cases h : s ∈ L
      · rw [grow1_old h]; omega
      · rw [grow1_new h, sizes_append, List.length_append]
        simp [sizes]
        omega
    rw [h2, List.length_cons]
    omega
theorem nub_sizes (L : List Ex) : sizes (nub L) + (nub L).length ≤ sizes L + L.length := by
  have := grow_sizes L []
  simpa [nub, sizes] using this
theorem foldS_size : ∀ (r : List Ex) (x : Ex), (r.foldl (fun a b => Ex.two 6 a b) x).size = x.size + sizes r + r.length
  | [], x => by simp [sizes]
  | e :: r, x => by
    rw [List.foldl_cons, foldS_size r]
    have : (Ex.two 6 x e).size = 1 + (x.size + e.size) := by rw [Ex.size_eq]; simp [Ex.two, Ex.kids, Ex.sizeL]
    simp [this, sizes]
    omega
theorem sizes_perm {L M : List Ex} (h : L.Perm M) : sizes L = sizes M := List.Perm.sum_nat (h.map Ex.size)
theorem tree_two {tm am k : Int} {a b : Ex} (hk : k = 6 ∨ k = 7) (ha : a.tree tm am = true) (hb : b.tree tm am = true) : (Ex.two k a b).tree tm am = true := by
  rcases hk with rfl | rfl <;> simp [Ex.two, Ex.tree, Ex.treeL, ha, hb, nodeB, kidsN, numB]
theorem tree_leaf {tm am k : Int} (hk : k = 1 ∨ k = 2) : (Ex.leaf k).tree tm am = true := by
  rcases hk with rfl | rfl <;> simp [Ex.leaf, Ex.tree, Ex.treeL, nodeB, kidsN, numB]
theorem foldS_tree {tm am : Int} : ∀ (r : List Ex) (x : Ex), x.tree tm am = true → (∀ y ∈ r, y.tree tm am = true) → (r.foldl (fun a b => Ex.two 6 a b) x).tree tm am = true
  | [], x, h, _ => h
  | e :: r, x, h, hr => foldS_tree r _ (tree_two (Or.inl rfl) h (hr e (by simp))) (fun y hy => hr y (by simp [hy]))
theorem sumT_spec {tm am : Int} {x y : Ex} (hx : x.tree tm am = true) (hy : y.tree tm am = true) : (sumT x y).tree tm am = true ∧ (sumT x y).size ≤ 1 + x.size + y.size := by
  obtain ⟨x1, x2⟩ := summ_spec tm am _ x (Nat.le_refl _) hx
  obtain ⟨y1, y2⟩ := summ_spec tm am _ y (Nat.le_refl _) hy
  have hm : ∀ z ∈ sortI (nub (x.summ ++ y.summ)), z.tree tm am = true := fun z hz => by
    have := nub_mem.1 ((sortI_perm _).mem_iff.1 hz)
    rcases List.mem_append.1 this with h | h
    · exact (x1 z h).1
    · exact (y1 z h).1
  have hs := nub_sizes (x.summ ++ y.summ)
  rw [sizes_append, List.length_append, ← sizes_perm (sortI_perm (nub _)), ← (sortI_perm (nub _)).length_eq] at hs
  unfold sumT
  generalize sortI (nub (x.summ ++ y.summ)) = L at hm hs
  cases L with
  | nil => exact ⟨tree_leaf (Or.inl rfl), by simp [foldS, Ex.leaf, Ex.size, Ex.sizeL]; omega⟩
  | cons z r =>
    refine ⟨foldS_tree r z (hm z (by simp)) (fun q hq => hm q (by simp [hq])), ?_⟩
    show (r.foldl (fun a b => Ex.two 6 a b) z).size ≤ _
    rw [foldS_size]
    have hz : sizes (z :: r) = z.size + sizes r := by simp [sizes]
    rw [hz, List.length_cons] at hs
    omega
def dotC (k n : Int) (ks : List Ex) (fs : List (Ex → Ex)) (y : Ex) : Ex :=
  if k = 1 ∨ y.kind = 1 then .leaf 1 else if k = 2 then y else if y.kind = 2 then .mk k n ks
  else if k = 7 then fs.foldr (fun f z => f z) y else .two 7 (.mk k n ks) y
mutual
def Ex.dot : Ex → Ex → Ex
  | .mk k n ks => fun y => dotC k n ks (Ex.dotL ks) y
def Ex.dotL : List Ex → List (Ex → Ex)
  | [] => []
  | e :: r => e.dot :: Ex.dotL r
end
theorem Ex.dot_eq (k n : Int) (ks : List Ex) (y : Ex) : (Ex.mk k n ks).dot y = dotC k n ks (Ex.dotL ks) y := by simp only [Ex.dot]
theorem Ex.dot_seven {n : Int} {a b y : Ex} (h1 : y.kind ≠ 1) (h2 : y.kind ≠ 2) : (Ex.mk 7 n [a, b]).dot y = a.dot (b.dot y) := by
  rw [Ex.dot_eq]
  simp [dotC, h1, h2, Ex.dotL]
theorem dot_spec (tm am : Int) (N : Nat) : ∀ x y : Ex, x.size ≤ N → x.tree tm am = true → y.tree tm am = true → (x.dot y).tree tm am = true ∧ (x.dot y).size ≤ 1 + x.size + y.size := by
  induction N using Nat.strongRecOn with
  | _ N ih =>
  intro x y hN hx hy
  obtain ⟨k, n, ks⟩ := x
  have hs := Ex.size_eq (.mk k n ks)
  simp only [Ex.kids] at hs
  by_cases h1 : k = 1 ∨ y.kind = 1
  · rw [Ex.dot_eq, dotC, if_pos h1]
    exact ⟨tree_leaf (Or.inl rfl), by simp [Ex.leaf, Ex.size, Ex.sizeL]; omega⟩
  by_cases h2 : k = 2
  · rw [Ex.dot_eq, dotC, if_neg h1, if_pos h2]
    exact ⟨hy, by omega⟩
  by_cases h3 : y.kind = 2
  · rw [Ex.dot_eq, dotC, if_neg h1, if_neg h2, if_pos h3]
    exact ⟨hx, by omega⟩
  by_cases h7 : k = 7
  · subst h7
    obtain ⟨hk, -, -, htl⟩ := tree_parts hx
    obtain ⟨a, b, rfl⟩ := two_kids hk (by omega)
    simp only [Ex.sizeL] at hs
    obtain ⟨b1, b2⟩ := ih b.size (by omega) b y (Nat.le_refl _) (Ex.treeL_mem htl (by simp)) hy
    obtain ⟨a1, a2⟩ := ih a.size (by omega) a (b.dot y) (Nat.le_refl _) (Ex.treeL_mem htl (by simp)) b1
    rw [Ex.dot_seven (by omega) h3]
    exact ⟨a1, by omega⟩
  · rw [Ex.dot_eq, dotC, if_neg h1, if_neg h2, if_neg h3, if_neg h7]
    exact ⟨tree_two (Or.inr rfl) hx hy, by rw [Ex.size_eq]; simp [Ex.two, Ex.kids, Ex.sizeL]; omega⟩
def Ex.star (x : Ex) : Ex := if x.cond = true then .leaf 2 else if x.kind = 8 then x else .mk 8 0 [x]
theorem star_spec {tm am : Int} {x : Ex} (hx : x.tree tm am = true) : x.star.tree tm am = true ∧ x.star.size ≤ 1 + x.size := by
  unfold Ex.star
  split
  · exact ⟨tree_leaf (Or.inr rfl), by simp [Ex.leaf, Ex.size, Ex.sizeL]⟩
  split
  · exact ⟨hx, by omega⟩
  · exact ⟨by simp [Ex.tree, Ex.treeL, hx, nodeB, kidsN, numB], by simp [Ex.size, Ex.sizeL]⟩
noncomputable def tidyC (k n : Int) (ks ts : List Ex) : Ex :=
  if k = 6 then sumT (ts.getD 0 (.leaf 1)) (ts.getD 1 (.leaf 1)) else if k = 7 then (ts.getD 0 (.leaf 1)).dot (ts.getD 1 (.leaf 1)) else if k = 8 then (ts.getD 0 (.leaf 1)).star else .mk k n ks
mutual
noncomputable def Ex.tidy : Ex → Ex
  | .mk k n ks => tidyC k n ks (Ex.tidyL ks)
noncomputable def Ex.tidyL : List Ex → List Ex
  | [] => []
  | e :: r => e.tidy :: Ex.tidyL r
end
theorem Ex.tidy_eq (k n : Int) (ks : List Ex) : (Ex.mk k n ks).tidy = tidyC k n ks (Ex.tidyL ks) := by simp only [Ex.tidy]
theorem Ex.tidy_sum {n : Int} {a b : Ex} : (Ex.mk 6 n [a, b]).tidy = sumT a.tidy b.tidy := by rw [Ex.tidy_eq]; simp [tidyC, Ex.tidyL]
theorem Ex.tidy_dot {n : Int} {a b : Ex} : (Ex.mk 7 n [a, b]).tidy = a.tidy.dot b.tidy := by rw [Ex.tidy_eq]; simp [tidyC, Ex.tidyL]
theorem Ex.tidy_star {n : Int} {a : Ex} : (Ex.mk 8 n [a]).tidy = a.tidy.star := by rw [Ex.tidy_eq]; simp [tidyC, Ex.tidyL]
theorem Ex.tidy_else {k n : Int} {ks : List Ex} (h6 : k ≠ 6) (h7 : k ≠ 7) (h8 : k ≠ 8) : (Ex.mk k n ks).tidy = .mk k n ks := by rw [Ex.tidy_eq, tidyC, if_neg h6, if_neg h7, if_neg h8]
theorem tidy_spec (tm am : Int) (N : Nat) : ∀ e : Ex, e.size ≤ N → e.tree tm am = true → e.tidy.tree tm am = true ∧ e.tidy.size ≤ e.size := by
  induction N using Nat.strongRecOn with
  | _ N ih =>
  intro e hN ht
  obtain ⟨k, n, ks⟩ := e
  obtain ⟨hk, -, -, htl⟩ := tree_parts ht
  have hs := Ex.size_eq (.mk k n ks)
  simp only [Ex.kids] at hs
  by_cases h67 : k = 6 ∨ k = 7
  · obtain ⟨a, b, rfl⟩ := two_kids hk h67
    simp only [Ex.sizeL] at hs
    obtain ⟨a1, a2⟩ := ih a.size (by omega) a (Nat.le_refl _) (Ex.treeL_mem htl (by simp))
    obtain ⟨b1, b2⟩ := ih b.size (by omega) b (Nat.le_refl _) (Ex.treeL_mem htl (by simp))
    rcases h67 with rfl | rfl
    · rw [Ex.tidy_sum]
      obtain ⟨c1, c2⟩ := sumT_spec a1 b1
      exact ⟨c1, by omega⟩
    · rw [Ex.tidy_dot]
      obtain ⟨c1, c2⟩ := dot_spec tm am _ a.tidy b.tidy (Nat.le_refl _) a1 b1
      exact ⟨c1, by omega⟩
  by_cases h8 : k = 8
  · subst h8
    obtain ⟨a, rfl⟩ := one_kid hk (by omega)
    simp only [Ex.sizeL] at hs
    obtain ⟨a1, a2⟩ := ih a.size (by omega) a (Nat.le_refl _) (Ex.treeL_mem htl (by simp))
    rw [Ex.tidy_star]
    obtain ⟨c1, c2⟩ := star_spec a1
    exact ⟨c1, by omega⟩
  · rw [Ex.tidy_else (by omega) (by omega) h8]
    exact ⟨ht, Nat.le_refl _⟩
end Go.Proofs.YtjlmdhoajfdkbaaGreatDoor

namespace Go.Proofs.YtjlmdhoajfdkbaaGreatDoor
set_option linter.unusedVariables false
set_option linter.unusedSimpArgs false
noncomputable def limE (e : Ex) : Option Ex := if e.size ≤ 800 then some e.tidy else none
noncomputable def stepC (emp : Ex → Bool) (x k n : Int) (ks : List Ex) (ds : List (Option Ex)) : Option Ex :=
  if k = 4 then some (.leaf (if n = x then 2 else 1))
  else if k = 6 then (ds.getD 0 none).bind fun a => (ds.getD 1 none).bind fun b => limE (.two 6 a b)
  else if k = 7 then (ds.getD 0 none).bind fun a => if emp (ks.getD 0 (.leaf 1)) = true then (ds.getD 1 none).bind fun b => limE (.two 6 (.two 7 a (ks.getD 1 (.leaf 1))) b) else limE (.two 7 a (ks.getD 1 (.leaf 1)))
  else if k = 8 then (ds.getD 0 none).bind fun a => limE (.two 7 a (.mk k n ks))
  else some (.leaf 1)
mutual
noncomputable def Ex.step (m x : Int) : Ex → Option Ex
  | .mk k n ks => stepC (Ex.emp m) x k n ks (Ex.stepL m x ks)
noncomputable def Ex.stepL (m x : Int) : List Ex → List (Option Ex)
  | [] => []
  | e :: r => e.step m x :: Ex.stepL m x r
end
theorem Ex.step_eq (m x k n : Int) (ks : List Ex) : (Ex.mk k n ks).step m x = stepC (Ex.emp m) x k n ks (Ex.stepL m x ks) := by simp only [Ex.step]
theorem Ex.step_act {m x n : Int} {ks : List Ex} : (Ex.mk 4 n ks).step m x = some (.leaf (if n = x then 2 else 1)) := by rw [Ex.step_eq]; simp [stepC]
theorem Ex.step_sum {m x n : Int} {a b : Ex} : (Ex.mk 6 n [a, b]).step m x = (a.step m x).bind fun p => (b.step m x).bind fun q => limE (.two 6 p q) := by rw [Ex.step_eq]; simp [stepC, Ex.stepL]
theorem Ex.step_dot {m x n : Int} {a b : Ex} : (Ex.mk 7 n [a, b]).step m x = (a.step m x).bind fun p => if a.emp m = true then (b.step m x).bind fun q => limE (.two 6 (.two 7 p b) q) else limE (.two 7 p b) := by rw [Ex.step_eq]; simp [stepC, Ex.stepL]
theorem Ex.step_star {m x n : Int} {a : Ex} : (Ex.mk 8 n [a]).step m x = (a.step m x).bind fun p => limE (.two 7 p (.mk 8 n [a])) := by rw [Ex.step_eq]; simp [stepC, Ex.stepL]
theorem Ex.step_else {m x k n : Int} {ks : List Ex} (h4 : k ≠ 4) (h6 : k ≠ 6) (h7 : k ≠ 7) (h8 : k ≠ 8) : (Ex.mk k n ks).step m x = some (.leaf 1) := by rw [Ex.step_eq, stepC, if_neg h4, if_neg h6, if_neg h7, if_neg h8]
theorem size_two (k : Int) (a b : Ex) : (Ex.two k a b).size = 1 + a.size + b.size := by rw [Ex.size_eq]; simp [Ex.two, Ex.kids, Ex.sizeL]; omega
theorem limE_spec {tm am : Int} {e d : Ex} (h : limE e = some d) (ht : e.tree tm am = true) : d.tree tm am = true ∧ d.size ≤ 800 := by
  unfold limE at h
  split at h
  · obtain rfl := Option.some.inj h
    obtain ⟨h1, h2⟩ := tidy_spec tm am _ e (Nat.le_refl _) ht
    exact ⟨h1, by omega⟩
  · cases h
theorem step_spec (tm am m x : Int) (N : Nat) : ∀ e d : Ex, e.size ≤ N → e.tree tm am = true → e.step m x = some d → d.tree tm am = true ∧ d.size ≤ 800 := by
  induction N using Nat.strongRecOn with
  | _ N ih =>
  intro e d hN ht h
  obtain ⟨k, n, ks⟩ := e
  obtain ⟨hk, -, -, htl⟩ := tree_parts ht
  have hs := Ex.size_eq (.mk k n ks)
  simp only [Ex.kids] at hs
  by_cases h4 : k = 4
  · subst h4
    rw [Ex.step_act] at h
    obtain rfl := Option.some.inj h
    refine ⟨?_, by simp [Ex.leaf, Ex.size, Ex.sizeL]⟩
    split
    · exact tree_leaf (Or.inr rfl)
    · exact tree_leaf (Or.inl rfl)
  by_cases h6 : k = 6
  · obtain ⟨a, b, rfl⟩ := two_kids hk (Or.inl h6)
    subst h6
    simp only [Ex.sizeL] at hs
    rw [Ex.step_sum] at h
    obtain ⟨p, hp, h⟩ := Option.bind_eq_some_iff.1 h
    obtain ⟨q, hq, h⟩ := Option.bind_eq_some_iff.1 h
    exact limE_spec h (tree_two (Or.inl rfl) (ih a.size (by omega) a p (Nat.le_refl _) (Ex.treeL_mem htl (by simp)) hp).1 (ih b.size (by omega) b q (Nat.le_refl _) (Ex.treeL_mem htl (by simp)) hq).1)
  by_cases h7 : k = 7
  · obtain ⟨a, b, rfl⟩ := two_kids hk (Or.inr h7)
    subst h7
    simp only [Ex.sizeL] at hs
    rw [Ex.step_dot] at h
    obtain ⟨p, hp, h⟩ := Option.bind_eq_some_iff.1 h
    have hbt : b.tree tm am = true := Ex.treeL_mem htl (by simp)
    have hpt := (ih a.size (by omega) a p (Nat.le_refl _) (Ex.treeL_mem htl (by simp)) hp).1
    split at h
    · obtain ⟨q, hq, h⟩ := Option.bind_eq_some_iff.1 h
      exact limE_spec h (tree_two (Or.inl rfl) (tree_two (Or.inr rfl) hpt hbt) (ih b.size (by omega) b q (Nat.le_refl _) hbt hq).1)
    · exact limE_spec h (tree_two (Or.inr rfl) hpt hbt)
  by_cases h8 : k = 8
  · subst h8
    obtain ⟨a, rfl⟩ := one_kid hk (by omega)
    simp only [Ex.sizeL] at hs
    rw [Ex.step_star] at h
    obtain ⟨p, hp, h⟩ := Option.bind_eq_some_iff.1 h
    exact limE_spec h (tree_two (Or.inr rfl) (ih a.size (by omega) a p (Nat.le_refl _) (Ex.treeL_mem htl (by simp)) hp).1 ht)
  · rw [Ex.step_else h4 h6 h7 h8] at h
    obtain rfl := Option.some.inj h
    exact ⟨tree_leaf (Or.inl rfl), by simp [Ex.leaf, Ex.size, Ex.sizeL]⟩
end Go.Proofs.YtjlmdhoajfdkbaaGreatDoor

namespace Go.Proofs.YtjlmdhoajfdkbaaGreatDoor
set_option linter.unusedVariables false
set_option linter.unusedSimpArgs false
open Go.ChangeShapes Go.WideShapes Go.ChangeAt Go.RowKit Go.Deep
def App (W w : World) (t : TypeId) (size n : Nat) (ds : List D) (v : Value) : Prop :=
  ∃ xs F, w.ownsRow W.heap.size t size v n xs ∧ Ows w ds xs F ∧ F.Nodup ∧ ∀ b ∈ F, W.heap.size ≤ b ∧ v.ownBlock ≠ some b
theorem App.nil {W w : World} {t size : Nat} : App W w t size 0 [] (.slice none 0 0) := ⟨[], [], World.ownsRow_nil _ _ _ _, Ows.nil, by simp, by simp⟩
theorem App.len {W w : World} {t size n : Nat} {ds : List D} {v : Value} (h : App W w t size n ds v) : ds.length = n * size := by
  obtain ⟨xs, F, h1, h2, _⟩ := h
  rw [← h2.length, h1.1]
theorem App.shape {W w : World} {t size n : Nat} {ds : List D} {v : Value} (h : App W w t size n ds v) : ∃ a cap, v = .slice a n cap ∧ n ≤ cap ∧ cap ≤ maxLen := by
  obtain ⟨xs, F, ⟨_, h1⟩, _⟩ := h
  rcases h1 with ⟨rfl, rfl⟩ | ⟨g, cap, cur, rfl, _, _, h2, h3, _⟩
  · exact ⟨none, 0, rfl, by omega, by simp [maxLen]⟩
  · exact ⟨_, cap, rfl, h2, h3⟩
theorem App.lt {W w : World} {t size n : Nat} {ds : List D} {v : Value} (h : App W w t size n ds v) : ∀ k, v.ownBlock = some k → W.heap.size ≤ k ∧ k < w.heap.size := by
  obtain ⟨xs, F, h1, _⟩ := h
  exact h1.lt
theorem App.fresh {W w : World} {t size n : Nat} {ds : List D} {v : Value} (h : App W w t size n ds v) : Fresh W w (.sl size n ds) v := by
  have hlen := h.len
  obtain ⟨xs, F, h1, h2, h3, h4⟩ := h
  have hxl := h1.1
  rcases h1.2 with ⟨rfl, rfl⟩ | ⟨g, cap, cur, rfl, hg, hb, h5, h6, h7, h8⟩
  · exact ⟨[], by simp only [Ow]; exact ⟨_, 0, rfl, by omega, by simp [maxLen], hlen, by simp, Or.inl (by simp)⟩, by simp, by simp⟩
  · by_cases h0 : n = 0
    · exact ⟨[], by simp only [Ow]; exact ⟨_, cap, rfl, h5, h6, hlen, by simp, Or.inl (by simp [h0])⟩, by simp, by simp⟩
    · have hblk : Blk w g t cur.toList := by simpa [Blk] using hb
      refine ⟨g :: F, by simp only [Ow]; exact ⟨_, cap, rfl, h5, h6, hlen, by simp, Or.inr ⟨g, 0, xs, F, rfl, rfl, hblk.free, hblk.row (by rw [hxl]; exact h8), h2⟩⟩, ?_, ?_⟩
      · rw [List.nodup_cons]
        exact ⟨fun hm => (h4 g hm).2 rfl, h3⟩
      · intro b hm
        rcases List.mem_cons.1 hm with rfl | hm
        · exact hg
        · exact (h4 b hm).1
theorem App.rd {W w : World} {t size n : Nat} {ds : List D} {v : Value} (h : App W w t size n ds v) : Rd w (.sl size n ds) v := h.fresh.rd
end Go.Proofs.YtjlmdhoajfdkbaaGreatDoor

namespace Go.Proofs.YtjlmdhoajfdkbaaGreatDoor
set_option linter.unusedVariables false
set_option linter.unusedSimpArgs false
open Go.ChangeShapes Go.WideShapes Go.ChangeAt Go.RowKit Go.Deep
def AppS (S : Nat → Prop) (w : World) (t : TypeId) (size n : Nat) (ds : List D) (v : Value) : Prop :=
  ∃ xs F, w.ownsRow 0 t size v n xs ∧ Ows w ds xs F ∧ F.Nodup ∧ (∀ b ∈ F, S b ∧ v.ownBlock ≠ some b) ∧ ∀ b, v.ownBlock = some b → S b
def OwS (S : Nat → Prop) (w : World) (ds : List D) (vs : List Value) : Prop := ∃ F : List Nat, Ows w ds vs F ∧ F.Nodup ∧ ∀ b ∈ F, S b
theorem OwS.keep {S : Nat → Prop} {w w' : World} {ds : List D} {vs : List Value} (h : OwS S w ds vs) (hk : ∀ b, b < w.heap.size → S b → w'.heap[b]? = w.heap[b]?) : OwS S w' ds vs := by
  obtain ⟨F, h1, h2, h3⟩ := h
  exact ⟨F, h1.keep fun b hb => hk b (h1.lt b hb) (h3 b hb), h2, h3⟩
theorem OwS.more {S T : Nat → Prop} {w : World} {ds : List D} {vs : List Value} (h : OwS S w ds vs) (hs : ∀ b, b < w.heap.size → S b → T b) : OwS T w ds vs := by
  obtain ⟨F, h1, h2, h3⟩ := h
  exact ⟨F, h1, h2, fun b hb => hs b (h1.lt b hb) (h3 b hb)⟩
theorem FreshIn.keep {p : Nat × Nat} {w w' : World} {ds : List D} {vs : List Value} (h : FreshIn p w ds vs) (hk : ∀ b, b < w.heap.size → p.1 ≤ b → b < p.2 → w'.heap[b]? = w.heap[b]?) : FreshIn p w' ds vs :=
  OwS.keep h fun b h1 h2 => hk b h1 h2.1 h2.2
theorem FreshIn.three {p : Nat × Nat} {w : World} {a b : Int} {d : D} {v : Value} (h : FreshIn p w [d] [v]) : FreshIn p w [.int a, .int b, d] [.int .i64 a, .int .i64 b, v] := by
  obtain ⟨F, h1, h2, h3⟩ := h
  refine ⟨F, ?_, h2, h3⟩
  simp only [Ows] at h1 ⊢
  obtain ⟨x, r, G, K, e1, e2, h4, e3, e4⟩ := h1
  exact ⟨_, _, [], F, rfl, rfl, by simp [Ow], _, _, [], F, rfl, rfl, by simp [Ow], x, r, G, K, e1, e2, h4, e3, e4⟩
theorem AppS.keep {S : Nat → Prop} {w w' : World} {t size n : Nat} {ds : List D} {v : Value} (h : AppS S w t size n ds v) (hk : ∀ b, b < w.heap.size → S b → w'.heap[b]? = w.heap[b]?) : AppS S w' t size n ds v := by
  obtain ⟨xs, F, h1, h2, h3, h4, h5⟩ := h
  refine ⟨xs, F, ⟨h1.1, ?_⟩, h2.keep fun b hb => hk b (h2.lt b hb) (h4 b hb).1, h3, h4, h5⟩
  rcases h1.2 with h | ⟨g, cap, cur, e, hg, hb, hr⟩
  · exact Or.inl h
  · exact Or.inr ⟨g, cap, cur, e, hg, (hk g (Array.getElem?_eq_some_iff.1 hb).1 (h5 g (by rw [e]; rfl))).trans hb, hr⟩
theorem AppS.more {S T : Nat → Prop} {w : World} {t size n : Nat} {ds : List D} {v : Value} (h : AppS S w t size n ds v) (hs : ∀ b, b < w.heap.size → S b → T b) : AppS T w t size n ds v := by
  obtain ⟨xs, F, h1, h2, h3, h4, h5⟩ := h
  exact ⟨xs, F, h1, h2, h3, fun b hb => ⟨hs b (h2.lt b hb) (h4 b hb).1, (h4 b hb).2⟩, fun b hb => hs b (h1.lt b hb).2 (h5 b hb)⟩
theorem AppS.app {S : Nat → Prop} {W w : World} {t size n : Nat} {ds : List D} {v : Value} (h : AppS S w t size n ds v) (hS : ∀ b, S b → W.heap.size ≤ b) : App W w t size n ds v := by
  obtain ⟨xs, F, h1, h2, h3, h4, h5⟩ := h
  refine ⟨xs, F, ⟨h1.1, ?_⟩, h2, h3, fun b hb => ⟨hS b (h4 b hb).1, (h4 b hb).2⟩⟩
  rcases h1.2 with h | ⟨g, cap, cur, e, _, hb, hr⟩
  · exact Or.inl h
  · exact Or.inr ⟨g, cap, cur, e, hS g (h5 g (by rw [e]; rfl)), hb, hr⟩
theorem App.foot {W w : World} {t size n : Nat} {ds : List D} {v : Value} (h : App W w t size n ds v) : ∃ Fs : List Nat, AppS (· ∈ Fs) w t size n ds v ∧ ∀ b ∈ Fs, W.heap.size ≤ b ∧ b < w.heap.size := by
  have hlt := h.lt
  obtain ⟨xs, F, h1, h2, h3, h4⟩ := h
  have h1' : w.ownsRow 0 t size v n xs := ⟨h1.1, by
    rcases h1.2 with h | ⟨g, cap, cur, e, _, hb, hr⟩
    · exact Or.inl h
    · exact Or.inr ⟨g, cap, cur, e, Nat.zero_le _, hb, hr⟩⟩
  refine ⟨(match v.ownBlock with | some g => g :: F | none => F), ⟨xs, F, h1', h2, h3, fun b hb => ⟨?_, (h4 b hb).2⟩, fun b hb => ?_⟩, fun b hb => ?_⟩
  · cases v.ownBlock <;> simp [hb]
  · rw [hb]; simp
  · cases hv : v.ownBlock with
    | none => rw [hv] at hb; exact ⟨(h4 b hb).1, h2.lt b hb⟩
    | some g =>
      rw [hv] at hb
      rcases List.mem_cons.1 hb with rfl | hb
      · exact hlt b hv
      · exact ⟨(h4 b hb).1, h2.lt b hb⟩
theorem AppS.shape {S : Nat → Prop} {w : World} {t size n : Nat} {ds : List D} {v : Value} (h : AppS S w t size n ds v) : ∃ a cap, v = .slice a n cap ∧ n ≤ cap ∧ cap ≤ maxLen := by
  obtain ⟨xs, F, ⟨_, h1⟩, _⟩ := h
  rcases h1 with ⟨rfl, rfl⟩ | ⟨g, cap, cur, rfl, _, _, h2, h3, _⟩
  · exact ⟨none, 0, rfl, by omega, by simp [maxLen]⟩
  · exact ⟨_, cap, rfl, h2, h3⟩
theorem news_blk {w : World} {g T : Nat} {vs : List Value} (h : Blk w g T vs) : ∀ j u, vs[j]? = some u → w.cell? ((⟨g, 0, none⟩ : Addr).add j) = some u := by
  intro j u hj
  rw [add_plain, Nat.zero_add, h.cell, hj]
theorem wpList_append_s {P : Program} (w : World) {ops : Array Oper} {rest : List Oper} {o : Oper} {a : Act} {Q : Exit → Act → World → Prop} (hgd : o.guard = none) (s x : Operand) (t : TypeId)
    (ho : o.op = .call { callee := .builtin .append, args := #[s, x], argTypes := #[t, t] })
    (e : TypeId) (z : Value) (size bytes : Nat) (ht : P.underlying t = some (.slice e)) (hinfo : (P.info? e).map (fun i => (i.zero, i.size, i.bytes)) = some (some z, size, bytes)) (hzs : z.cells.size = size) (hsz : 0 < size)
    {S T : Nat → Prop} (v : Value) {n : Nat} {ds : List D} (hs : a.eval s = v) (happ : AppS S w e size n ds v)
    (ad : Addr) (m c : Nat) {es : List D} (news : List Value) (hx : a.eval x = .slice (some ad) m c) (hnews : ∀ j u, news[j]? = some u → w.cell? (ad.add j) = some u) (hes : OwS T w es news) (hST : ∀ b, b < w.heap.size → S b → T b → False)
    (hl : news.length = m * size) (h1 : ∀ u ∈ news, u.oneCell' = true) (hm : 0 < m) (hbytes : (n + m) * bytes ≤ 140737488355328) (h63 : n + m ≤ maxLen)
    (h : ∀ g cap w', AppS (fun b => S b ∨ T b ∨ (w.heap.size ≤ b ∧ b < w'.heap.size)) w' e size (n + m) (ds ++ es) (.slice (some ⟨g, 0, none⟩) (n + m) cap) → Spares S w w' →
      wpList P ops Q rest (a.put o.dst (.slice (some ⟨g, 0, none⟩) (n + m) cap)) w') : wpList P ops Q (o :: rest) a w := by
  obtain ⟨i, hi, hz, hsize, hby⟩ := info_parts hinfo
  obtain ⟨xs, F, a1, a2, a3, a4, a5⟩ := happ
  obtain ⟨G, g1, g2, g3⟩ := hes
  refine wpList_append_lies w hgd s x t ho 0 e i z size bytes ht hi hz hsize hby hzs hsz v n xs hs a1 ad m c news hx hl hnews h1 hm h63 hbytes (Nat.zero_le _) w.heap.size rfl ?_
  intro g cap w' k1 k2 k3 k4
  have hF : ∀ b ∈ F, some b ≠ v.ownBlock := fun b hb' e => (a4 b hb').2 e.symm
  have hG : ∀ b ∈ G, some b ≠ v.ownBlock := fun b hb' e => hST b (g1.lt b hb') (a5 b e.symm) (g3 b hb')
  have hgb : ∀ b, some b ≠ v.ownBlock → b < w.heap.size → Value.ownBlock (.slice (some ⟨g, 0, none⟩) (n + m) cap) ≠ some b := by
    intro b hne hlt e
    simp only [Value.ownBlock, Option.some.injEq] at e
    subst e
    rcases k3 with k3 | k3
    · exact hne k3.symm
    · omega
  refine h g cap w' ⟨xs ++ news, F ++ G, k1, Ows.append (a2.keep fun b hb' => k2.block b (a2.lt b hb') (hF b hb')) (g1.keep fun b hb' => k2.block b (g1.lt b hb') (hG b hb')), ?_, ?_, ?_⟩
    ⟨k2.os, k2.tape, k2.output, k2.size, fun b hb' hn => k2.block b hb' (fun e => hn (a5 b e.symm))⟩
  · rw [List.nodup_append]
    refine ⟨a3, g2, fun p hp q hq hpq => ?_⟩
    subst hpq
    exact hST p (a2.lt p hp) (a4 p hp).1 (g3 p hq)
  · intro b hm'
    rcases List.mem_append.1 hm' with hm' | hm'
    · exact ⟨Or.inl (a4 b hm').1, hgb b (hF b hm') (a2.lt b hm')⟩
    · exact ⟨Or.inr (Or.inl (g3 b hm')), hgb b (hG b hm') (g1.lt b hm')⟩
  · intro b hb'
    simp only [Value.ownBlock, Option.some.injEq] at hb'
    subst hb'
    rcases k3 with k3 | k3
    · exact Or.inl (a5 _ k3)
    · exact Or.inr (Or.inr ⟨by omega, k4⟩)
end Go.Proofs.YtjlmdhoajfdkbaaGreatDoor

namespace Go.Proofs.YtjlmdhoajfdkbaaGreatDoor
set_option linter.unusedVariables false
set_option linter.unusedSimpArgs false
open Go.ChangeShapes Go.WideShapes Go.ChangeAt Go.RowKit Go.Deep
def KeptX (X : Nat → Prop) (w w' : World) : Prop := w.heap.size ≤ w'.heap.size ∧ ∀ b, b < w.heap.size → ¬ X b → w'.heap[b]? = w.heap[b]?
theorem KeptX.refl (X : Nat → Prop) (w : World) : KeptX X w w := ⟨Nat.le_refl _, fun _ _ _ => rfl⟩
theorem KeptX.trans {X : Nat → Prop} {a b c : World} (h : KeptX X a b) (k : KeptX X b c) : KeptX X a c :=
  ⟨Nat.le_trans h.1 k.1, fun i hi hx => (k.2 i (Nat.lt_of_lt_of_le hi h.1) hx).trans (h.2 i hi hx)⟩
theorem KeptX.of_below {X : Nat → Prop} {w w' : World} (h : Below w.heap.size w w') : KeptX X w w' := ⟨h.size, fun b hb _ => h.block b hb⟩
theorem KeptX.of_spares {X Y : Nat → Prop} {w w' : World} (h : Spares Y w w') (hY : ∀ b, b < w.heap.size → Y b → X b) : KeptX X w w' := ⟨h.size, fun b hb hx => h.block b hb fun hy => hx (hY b hb hy)⟩
theorem KeptX.more {X Y : Nat → Prop} {w w' : World} (h : KeptX X w w') (hs : ∀ b, b < w.heap.size → X b → Y b) : KeptX Y w w' := ⟨h.1, fun b hb hy => h.2 b hb fun hx => hy (hs b hb hx)⟩
def RdX (X : Nat → Prop) (w : World) (d : D) (v : Value) : Prop := ∀ w', KeptX X w w' → Rd w' d v
theorem RdX.rd {X : Nat → Prop} {w : World} {d : D} {v : Value} (h : RdX X w d v) : Rd w d v := h w (KeptX.refl X w)
theorem RdX.keep {X : Nat → Prop} {w w' : World} {d : D} {v : Value} (h : RdX X w d v) (hk : KeptX X w w') : RdX X w' d v := fun _ k => h _ (hk.trans k)
theorem RdX.below {X : Nat → Prop} {w w' : World} {d : D} {v : Value} (h : RdX X w d v) (hb : Below w.heap.size w w') : RdX X w' d v := h.keep (KeptX.of_below hb)
theorem RdX.less {X Y : Nat → Prop} {w : World} {d : D} {v : Value} (h : RdX X w d v) (hs : ∀ b, b < w.heap.size → Y b → X b) : RdX Y w d v := fun w' k => h w' (k.more hs)
theorem RdX.of_rd {X : Nat → Prop} {w : World} {d : D} {v : Value} (h : Rd w d v) (hX : ∀ b, X b → w.heap.size ≤ b) : RdX X w d v := fun _ k => h.keep fun b hb => k.2 b hb fun hx => by have := hX b hx; omega
theorem RdX.nil {X : Nat → Prop} {w : World} {size : Nat} : RdX X w (.sl size 0 []) (.slice Option.none 0 0) := fun _ _ => by simp only [Rd]; exact ⟨Option.none, 0, rfl, Nat.le_refl _, by unfold maxLen; omega, by simp, fun _ => rfl, Or.inl trivial⟩
theorem RdX.fresh {X : Nat → Prop} {w w' : World} {d : D} {v : Value} (h : Freshs w w' [d] [v]) (hX : ∀ b, X b → b < w.heap.size) : RdX X w' d v := by
  obtain ⟨F, h1, h2, h3⟩ := h
  intro w2 k
  exact Rds.one (h1.keep fun b hb => k.2 b (h1.lt b hb) fun hx => by have := h3 b hb; have := hX b hx; omega).rds
def RdO (W0 : World) (X F : Nat → Prop) (w : World) (d : D) (v : Value) : Prop :=
  ∀ w', w.heap.size ≤ w'.heap.size → KeptX X W0 w' → (∀ b, b < w.heap.size → F b → w'.heap[b]? = w.heap[b]?) → Rd w' d v
theorem RdO.keep {W0 : World} {X F F' : Nat → Prop} {w w' : World} {d : D} {v : Value} (h : RdO W0 X F w d v) (hz : w.heap.size ≤ w'.heap.size) (hk : ∀ b, b < w.heap.size → F b → w'.heap[b]? = w.heap[b]?) (hF : ∀ b, F b → F' b) : RdO W0 X F' w' d v :=
  fun w2 h1 h2 h3 => h w2 (Nat.le_trans hz h1) h2 fun b hb hf => (h3 b (Nat.lt_of_lt_of_le hb hz) (hF b hf)).trans (hk b hb hf)
def OutX (W0 : World) (X F : Nat → Prop) (w : World) (b : Nat) : Prop := b < w.heap.size ∧ ¬ ((b < W0.heap.size ∧ ¬ X b) ∨ F b)
theorem OutX.lt {W0 : World} {X F : Nat → Prop} {w : World} : ∀ b, OutX W0 X F w b → b < w.heap.size := fun _ h => h.1
theorem OutX.kept {W0 : World} {X F : Nat → Prop} {w w2 : World} (k : KeptX (OutX W0 X F w) w w2) (hW : KeptX X W0 w) : KeptX X W0 w2 :=
  ⟨Nat.le_trans hW.1 k.1, fun b hb hx => (k.2 b (Nat.lt_of_lt_of_le hb hW.1) fun ho => ho.2 (Or.inl ⟨hb, hx⟩)).trans (hW.2 b hb hx)⟩
theorem OutX.foot {W0 : World} {X F : Nat → Prop} {w w2 : World} (k : KeptX (OutX W0 X F w) w w2) {b : Nat} (hb : b < w.heap.size) (hf : F b) : w2.heap[b]? = w.heap[b]? := k.2 b hb fun ho => ho.2 (Or.inr hf)
theorem RdO.toX {W0 : World} {X F F' : Nat → Prop} {w : World} {d : D} {v : Value} (h : RdO W0 X F w d v) (hW : KeptX X W0 w) (hF : ∀ b, F b → F' b) : RdX (OutX W0 X F' w) w d v :=
  fun w2 k => h w2 k.1 (OutX.kept k hW) fun b hb hf => OutX.foot k hb (hF b hf)
theorem RdX.toOut {W0 : World} {X F : Nat → Prop} {w : World} {d : D} {v : Value} (h : RdX X W0 d v) (hW : KeptX X W0 w) : RdX (OutX W0 X F w) w d v :=
  fun w2 k => h w2 (OutX.kept k hW)
theorem RdO.ofX {W0 : World} {X F F' : Nat → Prop} {w w2 : World} {d : D} {v : Value} (h : RdX (OutX W0 X F' w) w2 d v) (hb : Below w.heap.size w w2) (hW : KeptX X W0 w) (hF : ∀ b, F' b → F b) (hn : ∀ b, w.heap.size ≤ b → b < w2.heap.size → F b) : RdO W0 X F w2 d v :=
  fun w3 hz k3 h3 => h w3 ⟨hz, fun b hb2 hno => by
    by_cases hl : b < w.heap.size
    · by_cases hf : F' b
      · exact h3 b hb2 (hF b hf)
      · by_cases ho : b < W0.heap.size ∧ ¬ X b
        · exact (k3.2 b ho.1 ho.2).trans (((hW.trans (KeptX.of_below hb)).2 b ho.1 ho.2).symm)
        · exact absurd ⟨hl, fun q => q.elim ho hf⟩ hno
    · exact h3 b hb2 (hn b (by omega) hb2)⟩
theorem RdO.done {W0 : World} {X F : Nat → Prop} {w : World} {d : D} {v : Value} (h : RdO W0 X F w d v) (hW : KeptX X W0 w) (hF : ∀ b, F b → ¬ X b) : RdX X w d v :=
  fun w2 k => h w2 k.1 (hW.trans k) fun b hb hf => k.2 b hb (hF b hf)
theorem foot_no {C D : List (Nat × Nat)} {G : Nat → Nat → Prop} {n i B z : Nat} {iv : Nat → Nat × Nat} {l : List Nat} (hl : ((chainOf C n i).all fun j => l.contains j) = true) (hD : ((chainOf C n i).all fun j => D.all fun p => p.1 != j) = true)
    (hb : ∀ j ∈ l, B ≤ (iv j).1 ∧ (iv j).1 ≤ (iv j).2 ∧ (iv j).2 ≤ z) {b : Nat} (hf : foot C D G n i iv b) : B ≤ b := by
  obtain ⟨j, hj, h | ⟨m, hm, hg⟩⟩ := hf
  · have := List.all_eq_true.1 hl j hj
    have := (hb j (by simpa using this)).1
    omega
  · have := List.all_eq_true.1 (List.all_eq_true.1 hD j hj) (j, m) hm
    simp at this
theorem kidsD_nil {X : Nat → Prop} {w : World} : RdX X w (kidsD []) (.slice none 0 0) := RdX.nil
def ExX (X : Nat → Prop) (w : World) (e : Ex) (s : Option Addr) (c : Nat) : Prop := RdX X w (kidsD e.kids) (.slice s e.kids.length c)
theorem kidsD_one {X : Nat → Prop} {w : World} {g t : Nat} {x : Ex} {sx : Option Addr} {cx : Nat} (h : Blk w g t [.int .i64 x.kind, .int .i64 x.num, .slice sx x.kids.length cx]) (hg : ¬ X g) (hx : ExX X w x sx cx) : RdX X w (kidsD [x]) (.slice (some ⟨g, 0, none⟩) 1 1) := by
  intro w' k
  have h' := h.keep (k.2 g h.lt hg)
  have hx' := hx w' k
  unfold kidsD
  simp only [Rd]
  have hrow : Row w' g 0 [.int .i64 x.kind, .int .i64 x.num, .slice sx x.kids.length cx] := h'.row rfl
  refine ⟨some ⟨g, 0, none⟩, 1, rfl, Nat.le_refl _, by unfold maxLen; omega, by rw [Ex.cellsL_length], (fun h => by cases h), Or.inr ⟨g, 0, _, rfl, hrow, ?_⟩⟩
  simp only [Ex.cellsL, List.append_nil]
  rw [Ex.cells_eq]
  simp only [Rds, Rd]
  exact ⟨_, _, rfl, rfl, _, _, rfl, rfl, _, _, rfl, hx', rfl⟩
theorem kidsD_two {X : Nat → Prop} {w : World} {g t : Nat} {x y : Ex} {sx sy : Option Addr} {cx cy : Nat} (h : Blk w g t [.int .i64 x.kind, .int .i64 x.num, .slice sx x.kids.length cx, .int .i64 y.kind, .int .i64 y.num, .slice sy y.kids.length cy]) (hg : ¬ X g)
    (hx : ExX X w x sx cx) (hy : ExX X w y sy cy) : RdX X w (kidsD [x, y]) (.slice (some ⟨g, 0, none⟩) 2 2) := by
  intro w' k
  have h' := h.keep (k.2 g h.lt hg)
  have hx' := hx w' k
  have hy' := hy w' k
  unfold kidsD
  simp only [Rd]
  have hrow : Row w' g 0 [.int .i64 x.kind, .int .i64 x.num, .slice sx x.kids.length cx, .int .i64 y.kind, .int .i64 y.num, .slice sy y.kids.length cy] := h'.row rfl
  refine ⟨some ⟨g, 0, none⟩, 2, rfl, Nat.le_refl _, by unfold maxLen; omega, by rw [Ex.cellsL_length], (fun h => by cases h), Or.inr ⟨g, 0, _, rfl, hrow, ?_⟩⟩
  simp only [Ex.cellsL, List.append_nil]
  rw [Ex.cells_eq, Ex.cells_eq]
  simp only [List.cons_append, List.nil_append, Rds, Rd]
  exact ⟨_, _, rfl, rfl, _, _, rfl, rfl, _, _, rfl, hx', _, _, rfl, rfl, _, _, rfl, rfl, _, _, rfl, hy', rfl⟩
theorem RdX.row_out {X : Nat → Prop} {w : World} {ks : List Ex} {b o len cap : Nat} (h : RdX X w (kidsD ks) (.slice (some ⟨b, o, none⟩) len cap)) {i : Nat} {x : Ex} (hx : ks[i]? = some x) : ¬ X b := by
  intro hb
  have hlt := (kid_in h.rd hx).1
  have k : KeptX X w { w with heap := w.heap.setIfInBounds b (.cells #[] 0) } :=
    ⟨by simp, fun j hj hn => by
      have hne : b ≠ j := fun e => hn (e ▸ hb)
      simp [Array.getElem?_setIfInBounds_ne hne]⟩
  obtain ⟨-, s', c', k0, -⟩ := kid_in (h _ k) hx
  have hblk : Blk { w with heap := w.heap.setIfInBounds b (.cells #[] 0) } b 0 [] := by
    unfold Blk
    simp [hlt]
  rw [hblk.cell] at k0
  simp at k0
theorem kidX {X : Nat → Prop} {w : World} {ks : List Ex} {b o len cap : Nat} (h : RdX X w (kidsD ks) (.slice (some ⟨b, o, none⟩) len cap)) {i : Nat} {x : Ex} (hx : ks[i]? = some x) :
    b < w.heap.size ∧ ¬ X b ∧ ∃ s c, w.cell? ⟨b, o + i * 3, none⟩ = some (.int .i64 x.kind) ∧ w.cell? ⟨b, o + i * 3 + 1, none⟩ = some (.int .i64 x.num) ∧ w.cell? ⟨b, o + i * 3 + 2, none⟩ = some (.slice s x.kids.length c) ∧ ExX X w x s c := by
  obtain ⟨hb, s, c, h0, h1, h2, h3⟩ := kid_in h.rd hx
  have hn := h.row_out hx
  refine ⟨hb, hn, s, c, h0, h1, h2, fun w' k => ?_⟩
  obtain ⟨-, s', c', k0, k1, k2, k3⟩ := kid_in (h w' k) hx
  have e := World.cell?_of_block (w := w) (w' := w') (a := ⟨b, o + i * 3 + 2, none⟩) (k.2 b hb hn)
  rw [k2, h2] at e
  simp only [Option.some.injEq, Value.slice.injEq, true_and] at e
  obtain ⟨rfl, rfl⟩ := e
  exact k3
end Go.Proofs.YtjlmdhoajfdkbaaGreatDoor

namespace Go.Proofs.YtjlmdhoajfdkbaaGreatDoor
set_option linter.unusedVariables false
set_option linter.unusedSimpArgs false
open Go.ChangeShapes Go.WideShapes Go.ChangeAt Go.RowKit Go.Deep
theorem zero_implExpr : (Tryz.prog.info? 30).map (fun i => (i.zero, i.size, i.bytes)) = some (some (.agg #[.int .i64 0, .int .i64 0, .slice none 0 0]), 3, 40) := by kernel_rfl
def Ex.same (e : Ex) : Ex := e
set_option maxHeartbeats 16000000 in
theorem l01Own_same (N : Nat) : ∀ (e : Ex) (b o : Nat) (w : World), e.size ≤ N → ExAt w b o e → e.size ≤ 1073741824 → 
    Calls Tryz.prog 90 #[.pointer (some ⟨b, o, none⟩)] w fun f w' => ∃ s' c', f = .returned (.agg #[.int .i64 (Ex.same e).kind, .int .i64 (Ex.same e).num, .slice s' (Ex.same e).kids.length c']) ∧
      Freshs w w' [kidsD (Ex.same e).kids] [.slice s' (Ex.same e).kids.length c'] ∧ Below w.heap.size w w' := by
  induction N using Nat.strongRecOn with
  | _ N ih =>
  intro e b o w hN hat h1 
  obtain ⟨g0, g1, s, c, g2, g3⟩ := hat
  have hat : ExAt w b o e := ⟨g0, g1, s, c, g2, g3⟩
  obtain ⟨-, hlen, hcap, -, -⟩ := kid_at g3
  unfold maxLen at hcap
  have hse := Ex.size_eq e
  have hks : Ex.sizeL e.kids < N := by omega
  have hkl := Ex.length_le_sizeL e.kids
  have hkm : e.kids.length ≤ 1073741824 := by omega
  have hsl : Ex.sizeL e.kids ≤ 1073741824 := by omega
  clear hse hkl
  have hbl := hat.lt
  have Hl : Hid (e.kids.length = (Ex.same e).kids.length) := rfl
  have Hk : Hid ((Ex.same e).kind = e.kind) := rfl
  have Hn : Hid ((Ex.same e).num = e.num) := rfl
  have Hf : Hid (D.sl 3 e.kids.length (Ex.cellsL (Ex.same e).kids) = kidsD (Ex.same e).kids) := by show _ = _; unfold kidsD; rw [Hl.out]
  go_enter Tryz.func90, Tryz.ntmps90
  go_wp2_with fail
  have R0 := Blk.new3 w 30 (.int .i64 0) (.int .i64 0) (.slice none 0 0)
  have hB0 : Below w.heap.size w (w.alloc (.cells #[.int .i64 0, .int .i64 0, .slice none 0 0] 30)) := by (repeat' first | exact Below.refl _ _ | assumption | apply Below.alloc | apply Below.drew | apply Below.setCell | omega | (simp; done) | (simp; omega))
  have hz0 : (w.alloc (.cells #[.int .i64 0, .int .i64 0, .slice none 0 0] 30)).heap.size = w.heap.size + 1 := by simp
  generalize (w.alloc (.cells #[.int .i64 0, .int .i64 0, .slice none 0 0] 30)) = w0 at R0 hB0 hz0 ⊢
  have G2 := Lib.hid g2
  have G0 := Lib.hid g0
  clear g0 g1 g2
  have Hz0 := Lib.hid hz0
  have hz0' : w.heap.size < w0.heap.size := by omega
  clear hz0
  refine region_rs [(10, 9)] [] (fun _ _ => False) (w0.heap.size) (fun i iv vs wx => match i with
    | 0 => vs 0 = .pointer (some ⟨b, o, none⟩)
    | 1 => vs 1 = .pointer (some ⟨b, o, none⟩)
    | 2 => vs 2 = .pointer (some ⟨b, o, none⟩)
    | 3 => vs 3 = .int .i64 e.kind
    | 4 => vs 4 = .pointer (some ⟨b, o, none⟩)
    | 5 => vs 5 = .pointer (some ⟨b, o, none⟩)
    | 6 => vs 6 = .pointer (some ⟨b, o + 1, none⟩)
    | 7 => vs 7 = .int .i64 e.num
    | 8 => vs 8 = .agg #[.int .i64 e.kind, .int .i64 e.num, .slice none 0 0]
    | 9 => vs 9 = .pointer (some ⟨(iv 9).1, 0, none⟩) ∧ (iv 9).2 = (iv 9).1 + 1 ∧ Blk wx (iv 9).1 30 [.int .i64 0, .int .i64 0, .slice none 0 0]
    | 10 => (iv 9).2 = (iv 9).1 + 1 ∧ Blk wx ((iv 9).1) 30 [.int .i64 e.kind, .int .i64 e.num, .slice none 0 0]
    | _ => True) (fun i iv vs => match i with
    | 0 => vs 0 = .pointer (some ⟨b, o, none⟩)
    | 1 => vs 1 = .pointer (some ⟨b, o, none⟩)
    | 2 => vs 2 = .pointer (some ⟨b, o, none⟩)
    | 3 => vs 3 = .int .i64 e.kind
    | 4 => vs 4 = .pointer (some ⟨b, o, none⟩)
    | 5 => vs 5 = .pointer (some ⟨b, o, none⟩)
    | 6 => vs 6 = .pointer (some ⟨b, o + 1, none⟩)
    | 7 => vs 7 = .int .i64 e.num
    | 8 => vs 8 = .agg #[.int .i64 e.kind, .int .i64 e.num, .slice none 0 0]
    | 9 => vs 9 = .pointer (some ⟨(iv 9).1, 0, none⟩) ∧ (iv 9).2 = (iv 9).1 + 1
    | 10 => True
    | _ => True) (by kernel_rfl) (by kernel_rfl) [0, 1, 2, 3, 4, 5, 6, 7, 8, 9, 10] (by kernel_rfl) ?hbase ?hGb ?hG ?hJ ?hE ?hEE ?hstep ?hQ
  case hbase => first | exact Nat.le_refl _ | omega | (simp; omega)
  case hGb =>
    exact fun _ _ h => h.elim
  case hG =>
    exact fun _ _ _ h => h.elim
  case hJ =>
    intro i hi iv iv' vs vs' wx wx' ha hv hz hk hj
    simp only [List.mem_cons, List.not_mem_nil, or_false] at hi
    rcases hi with rfl | rfl | rfl | rfl | rfl | rfl | rfl | rfl | rfl | rfl | rfl
    · exact (hv.out 0 (mem_of (by kernel_rfl))).symm.trans hj
    · exact (hv.out 1 (mem_of (by kernel_rfl))).symm.trans hj
    · exact (hv.out 2 (mem_of (by kernel_rfl))).symm.trans hj
    · exact (hv.out 3 (mem_of (by kernel_rfl))).symm.trans hj
    · exact (hv.out 4 (mem_of (by kernel_rfl))).symm.trans hj
    · exact (hv.out 5 (mem_of (by kernel_rfl))).symm.trans hj
    · exact (hv.out 6 (mem_of (by kernel_rfl))).symm.trans hj
    · exact (hv.out 7 (mem_of (by kernel_rfl))).symm.trans hj
    · exact (hv.out 8 (mem_of (by kernel_rfl))).symm.trans hj
    · have e9 := hv.out 9 (mem_of (by kernel_rfl))
      have g9 := ha.out 9 (mem_of (by kernel_rfl))
      obtain ⟨q1, q3, q2⟩ := hj
      show vs' 9 = .pointer (some ⟨(iv' 9).1, 0, none⟩) ∧ (iv' 9).2 = (iv' 9).1 + 1 ∧ Blk wx' (iv' 9).1 30 [.int .i64 0, .int .i64 0, .slice none 0 0]
      rw [← e9, ← g9]
      exact ⟨q1, q3, q2.keep (hk.out _ q2.lt (foot_own (Nat.le_refl _) (by omega)))⟩
    · have g9 := ha.out 9 (mem_of (by kernel_rfl))
      have hj' : (iv 9).2 = (iv 9).1 + 1 ∧ Blk wx ((iv 9).1) 30 [.int .i64 e.kind, .int .i64 e.num, .slice none 0 0] := hj
      show (iv' 9).2 = (iv' 9).1 + 1 ∧ Blk wx' ((iv' 9).1) 30 [.int .i64 e.kind, .int .i64 e.num, .slice none 0 0]
      rw [← g9]
      exact ⟨hj'.1, hj'.2.keep (hk.out _ hj'.2.lt ⟨9, mem_of (by kernel_rfl), Or.inl ⟨Nat.le_refl _, by omega⟩⟩)⟩
  case hE =>
    intro i hi iv vs wx hj
    simp only [List.mem_cons, List.not_mem_nil, or_false] at hi
    rcases hi with rfl | rfl | rfl | rfl | rfl | rfl | rfl | rfl | rfl | rfl | rfl
    · exact hj
    · exact hj
    · exact hj
    · exact hj
    · exact hj
    · exact hj
    · exact hj
    · exact hj
    · exact hj
    · exact ⟨hj.1, hj.2.1⟩
    · trivial
  case hEE =>
    intro i hi iv iv' vs vs' ha hv hj
    simp only [List.mem_cons, List.not_mem_nil, or_false] at hi
    rcases hi with rfl | rfl | rfl | rfl | rfl | rfl | rfl | rfl | rfl | rfl | rfl
    · exact (hv.out 0 (mem_of (by kernel_rfl))).symm.trans hj
    · exact (hv.out 1 (mem_of (by kernel_rfl))).symm.trans hj
    · exact (hv.out 2 (mem_of (by kernel_rfl))).symm.trans hj
    · exact (hv.out 3 (mem_of (by kernel_rfl))).symm.trans hj
    · exact (hv.out 4 (mem_of (by kernel_rfl))).symm.trans hj
    · exact (hv.out 5 (mem_of (by kernel_rfl))).symm.trans hj
    · exact (hv.out 6 (mem_of (by kernel_rfl))).symm.trans hj
    · exact (hv.out 7 (mem_of (by kernel_rfl))).symm.trans hj
    · exact (hv.out 8 (mem_of (by kernel_rfl))).symm.trans hj
    · have e9 := hv.out 9 (mem_of (by kernel_rfl))
      have g9 := ha.out 9 (mem_of (by kernel_rfl))
      have hj' : vs 9 = .pointer (some ⟨(iv 9).1, 0, none⟩) ∧ (iv 9).2 = (iv 9).1 + 1 := hj
      show vs' 9 = .pointer (some ⟨(iv' 9).1, 0, none⟩) ∧ (iv' 9).2 = (iv' 9).1 + 1
      rw [← e9, ← g9]
      exact hj'
    · trivial
  case hstep =>
    intro i hi opr ho iv vs w1 hB hS hSo hd he hbd hsep hun K hK
    simp only [List.mem_cons, List.not_mem_nil, or_false] at hi
    have hzB := hB.size
    obtain ⟨g0, g1, s', c', g2, g3'⟩ := (hat.below hB0).below hB
    generalize hA : putFrom _ 0 vs _ = A at hK ⊢
    simp only [putFrom, puts] at hA
    rcases hi with rfl | rfl | rfl | rfl | rfl | rfl | rfl | rfl | rfl | rfl | rfl
    all_goals
      simp at ho
      subst ho
      subst hA
    · go_wp2_with fail
      exact Onward.mk (hK (.pointer (some ⟨b, o, none⟩)) _ _ (fun h => by cases h) (by first | rfl | (simp only [puts])) (Spares.refl _) (fun iv' _ _ => rfl))
    · have h0 : vs 0 = .pointer (some ⟨b, o, none⟩) := hd.out 0 (mem_of (by kernel_rfl)) (by decide) (by kernel_rfl)
      go_wp2_with fail
      exact Onward.mk (hK (.pointer (some ⟨b, o, none⟩)) _ _ (fun h => by cases h) (by first | rfl | (simp only [puts, h0])) (Spares.refl _) (fun iv' _ _ => rfl))
    · have h1 : vs 1 = .pointer (some ⟨b, o, none⟩) := hd.out 1 (mem_of (by kernel_rfl)) (by decide) (by kernel_rfl)
      go_wp2_with fail
      exact Onward.mk (hK (.pointer (some ⟨b, o, none⟩)) _ _ (fun h => by cases h) (by first | rfl | (simp only [puts, h1])) (Spares.refl _) (fun iv' _ _ => rfl))
    · have h2 : vs 2 = .pointer (some ⟨b, o, none⟩) := hd.out 2 (mem_of (by kernel_rfl)) (by decide) (by kernel_rfl)
      go_wp2_with fail
      exact Onward.mk (hK (.int .i64 e.kind) _ _ (fun h => by cases h) (by first | rfl | (simp only [puts, h2])) (Spares.refl _) (fun iv' _ _ => rfl))
    · go_wp2_with fail
      exact Onward.mk (hK (.pointer (some ⟨b, o, none⟩)) _ _ (fun h => by cases h) (by first | rfl | (simp only [puts])) (Spares.refl _) (fun iv' _ _ => rfl))
    · have h4 : vs 4 = .pointer (some ⟨b, o, none⟩) := hd.out 4 (mem_of (by kernel_rfl)) (by decide) (by kernel_rfl)
      go_wp2_with fail
      exact Onward.mk (hK (.pointer (some ⟨b, o, none⟩)) _ _ (fun h => by cases h) (by first | rfl | (simp only [puts, h4])) (Spares.refl _) (fun iv' _ _ => rfl))
    · have h5 : vs 5 = .pointer (some ⟨b, o, none⟩) := hd.out 5 (mem_of (by kernel_rfl)) (by decide) (by kernel_rfl)
      go_wp2_with fail
      exact Onward.mk (hK (.pointer (some ⟨b, o + 1, none⟩)) _ _ (fun h => by cases h) (by first | rfl | (simp only [puts, h5])) (Spares.refl _) (fun iv' _ _ => rfl))
    · have h6 : vs 6 = .pointer (some ⟨b, o + 1, none⟩) := hd.out 6 (mem_of (by kernel_rfl)) (by decide) (by kernel_rfl)
      go_wp2_with fail
      exact Onward.mk (hK (.int .i64 e.num) _ _ (fun h => by cases h) (by first | rfl | (simp only [puts, h6])) (Spares.refl _) (fun iv' _ _ => rfl))
    · have h3 : vs 3 = .int .i64 e.kind := hd.out 3 (mem_of (by kernel_rfl)) (by decide) (by kernel_rfl)
      have h7 : vs 7 = .int .i64 e.num := hd.out 7 (mem_of (by kernel_rfl)) (by decide) (by kernel_rfl)
      go_wp2_with fail
      exact Onward.mk (hK (.agg #[.int .i64 e.kind, .int .i64 e.num, .slice none 0 0]) _ _ (fun h => by cases h) (by first | rfl | (simp only [puts, h3, h7])) (Spares.refl _) (fun iv' _ _ => rfl))
    · go_wp2_with fail
      exact Onward.mk (hK (.pointer (some ⟨w1.heap.size, 0, none⟩)) _ _ (fun h => by cases h) (by first | rfl | (simp only [puts])) (Spares.of_below (Below.alloc (Below.refl _ _) (Nat.le_refl _) _)) (fun iv' _ hi => by
        show Value.pointer (some ⟨w1.heap.size, 0, none⟩) = .pointer (some ⟨(iv' 9).1, 0, none⟩) ∧ (iv' 9).2 = (iv' 9).1 + 1 ∧ Blk _ (iv' 9).1 30 [.int .i64 0, .int .i64 0, .slice none 0 0]
        rw [hi]
        exact ⟨rfl, by simp, Blk.new3 _ _ _ _ _⟩))
    · have h8 : vs 8 = .agg #[.int .i64 e.kind, .int .i64 e.num, .slice none 0 0] := hd.out 8 (mem_of (by kernel_rfl)) (by decide) (by kernel_rfl)
      obtain ⟨h9, q9, f9⟩ := hd.out 9 (mem_of (by kernel_rfl)) (by decide) (by kernel_rfl)
      have bc0 := f9.c0
      have bz0 := f9.frozen 0
      have bc1 := f9.c1
      have bz1 := f9.frozen 1
      have bc2 := f9.c2
      have bz2 := f9.frozen 2
      have blt := f9.lt
      go_wp2_with fail
      exact Onward.mk (hK undef _ _ (fun _ => rfl) (by simp only [puts, h8, h9]) ((spares_sets (b0 := (iv 9).1) (by repeat (first | exact Spares.refl _ | apply Spares.set))).more (fun b h => Or.inr ⟨9, by decide, foot_own (by omega) (by omega)⟩)) (fun iv' ag hi => by
        show (iv' 9).2 = (iv' 9).1 + 1 ∧ Blk _ ((iv' 9).1) 30 [.int .i64 e.kind, .int .i64 e.num, .slice none 0 0]
        rw [← ag.out 9 (mem_of (by kernel_rfl))]
        exact ⟨q9, (((f9.set 0 _).set 1 _).set 2 _)⟩))
  case hQ =>
    intro iv vs wx hB hSp hd he hbd hsep
    have hzB := hB.size
    have h0 : vs 0 = .pointer (some ⟨b, o, none⟩) := hd.out 0 (mem_of (by kernel_rfl)) (not_eaten (by kernel_rfl))
    have h1 : vs 1 = .pointer (some ⟨b, o, none⟩) := hd.out 1 (mem_of (by kernel_rfl)) (not_eaten (by kernel_rfl))
    have h2 : vs 2 = .pointer (some ⟨b, o, none⟩) := hd.out 2 (mem_of (by kernel_rfl)) (not_eaten (by kernel_rfl))
    have h3 : vs 3 = .int .i64 e.kind := hd.out 3 (mem_of (by kernel_rfl)) (not_eaten (by kernel_rfl))
    have h4 : vs 4 = .pointer (some ⟨b, o, none⟩) := hd.out 4 (mem_of (by kernel_rfl)) (not_eaten (by kernel_rfl))
    have h5 : vs 5 = .pointer (some ⟨b, o, none⟩) := hd.out 5 (mem_of (by kernel_rfl)) (not_eaten (by kernel_rfl))
    have h6 : vs 6 = .pointer (some ⟨b, o + 1, none⟩) := hd.out 6 (mem_of (by kernel_rfl)) (not_eaten (by kernel_rfl))
    have h7 : vs 7 = .int .i64 e.num := hd.out 7 (mem_of (by kernel_rfl)) (not_eaten (by kernel_rfl))
    have h8 : vs 8 = .agg #[.int .i64 e.kind, .int .i64 e.num, .slice none 0 0] := hd.out 8 (mem_of (by kernel_rfl)) (not_eaten (by kernel_rfl))
    obtain ⟨h9, q9⟩ := he.out 9 (mem_of (by kernel_rfl))
    obtain ⟨q10, f10⟩ := hd.out 10 (mem_of (by kernel_rfl)) (not_eaten (by kernel_rfl))
    simp only [putFrom, puts]
    obtain ⟨rb, hrb⟩ : ∃ rb, (iv 9).1 = rb := ⟨_, rfl⟩
    have b9 := (hbd.out 9 (mem_of (by kernel_rfl))).1
    rw [hrb] at h9 f10 b9
    simp only [h9]
    clear hd he hbd hsep h0 h1 h2 h3 h4 h5 h6 h7 h8 h9 q9 q10 hrb
    have hBx : Below w.heap.size w wx := Below.on hB0 hB hB0.size
    have R2 := R0.below hB
    have ltR := f10.lt
    have lt2 := R2.lt
    have szx := hBx.size
    obtain ⟨wz, rfl⟩ : ∃ wz : World, wz = wx := ⟨_, rfl⟩
    go_wp2_with fail
    go_loopw [4] (fun i wr => ∃ (k : Nat) (v : Value), k ≤ e.kids.length ∧ i = .int .i64 k ∧ Blk wr rb 30 [.int .i64 e.kind, .int .i64 e.num, v] ∧ App wz wr 30 3 k (Ex.cellsL ((Ex.same e).kids.take k)) v ∧ Below (w.heap.size + 1) wz wr) (fun i _ => e.kids.length - (intOf i).toNat)
    case atStart => exact ⟨0, .slice none 0 0, by omega, rfl, f10, by simpa [Ex.cellsL] using App.nil, Below.refl _ _⟩
    case round =>
      obtain ⟨k, v, hk, rfl, R, happ, hBr⟩ := hrel
      have hBw : Below w.heap.size w wr := hBx.trans (hBr.mono (by omega))
      have szr := hBr.size
      by_cases hlt : k < e.kids.length
      · skip
        skip
        obtain ⟨x, hx⟩ : ∃ x, e.kids[k]? = some x := ⟨_, List.getElem?_eq_getElem (by omega)⟩
        have hy : (Ex.same e).kids[k]? = some (Ex.same x) := hx
        obtain ⟨kb, ko, rfl⟩ := kid_some g3 (by intro h; simp [h] at hlt)
        have hxat := kid_exAt g3 hx
        have hxm := Ex.sizeL_mem (List.mem_of_getElem? hx)
        have hxs : x.size < N := by omega
        have hx1 : x.size ≤ 1073741824 := by omega
        clear hxm
        have Hds := Lib.hid (Ex.cellsL_take_succ hy)
        clear hy
        obtain ⟨Fs, V, Vf⟩ := happ.foot
        have g2r := (hBw.cell (p := ⟨b, o + 2, none⟩) hbl).trans G2.out
        go_wp2_with fail
        skip
        clear g2r
        have hGb : ∀ m b, (fun m b => (m = 0 ∧ b ∈ Fs) ∨ (m = 1 ∧ b = rb)) m b → (w.heap.size + 1) ≤ b ∧ b < (wr).heap.size := by
          intro m b hg
          rcases hg with ⟨rfl, hg⟩ | ⟨rfl, hg⟩
          · have q := Vf b hg
            omega
          · subst hg
            have q := R.lt
            omega
        have hGd : ∀ m m' b, (fun m b => (m = 0 ∧ b ∈ Fs) ∨ (m = 1 ∧ b = rb)) m b → (fun m b => (m = 0 ∧ b ∈ Fs) ∨ (m = 1 ∧ b = rb)) m' b → m = m' := by
          intro m m' b h h'
          rcases h with ⟨rfl, h⟩ | ⟨rfl, h⟩ <;> rcases h' with ⟨rfl, h'⟩ | ⟨rfl, h'⟩ <;> first
            | rfl
            | (exfalso; have q := Vf b h; omega) | (exfalso; have q := Vf b h'; omega)
        refine region_rs [(10, 8)] [(10, 0), (12, 1)] (fun m b => (m = 0 ∧ b ∈ Fs) ∨ (m = 1 ∧ b = rb)) (w.heap.size + 1) (fun i iv vs wx => match i with
          | 0 => vs 0 = .pointer (some ⟨rb, 2, none⟩)
          | 1 => vs 1 = v
          | 2 => vs 2 = .pointer (some ⟨b, o, none⟩)
          | 3 => vs 3 = .pointer (some ⟨b, o, none⟩)
          | 4 => vs 4 = .pointer (some ⟨b, o + 2, none⟩)
          | 5 => vs 5 = .slice (some ⟨kb, ko, none⟩) e.kids.length c
          | 6 => vs 6 = .int .i64 k
          | 7 => vs 7 = .pointer (some ⟨kb, ko + k * 3, none⟩)
          | 8 => ∃ s2 c2, vs 8 = .agg #[.int .i64 (Ex.same x).kind, .int .i64 (Ex.same x).num, .slice s2 (Ex.same x).kids.length c2] ∧ FreshIn (iv 8) wx [kidsD (Ex.same x).kids] [.slice s2 (Ex.same x).kids.length c2]
          | 9 => vs 9 = .slice (some ⟨(iv 9).1, 0, none⟩) 1 1 ∧ (iv 9).2 = (iv 9).1 + 1 ∧ Blk wx (iv 9).1 30 [aggAt (vs 8) 0, aggAt (vs 8) 1, aggAt (vs 8) 2]
          | 10 => ∃ g cap, vs 10 = .slice (some ⟨g, 0, none⟩) (k + 1) cap ∧ AppS (foot [(10, 8)] [(10, 0), (12, 1)] (fun m b => (m = 0 ∧ b ∈ Fs) ∨ (m = 1 ∧ b = rb)) 13 10 iv) wx 30 3 (k + 1) (Ex.cellsL ((Ex.same e).kids.take k) ++ [.int (Ex.same x).kind, .int (Ex.same x).num, kidsD (Ex.same x).kids]) (.slice (some ⟨g, 0, none⟩) (k + 1) cap)
          | 11 => vs 11 = .pointer (some ⟨rb, 2, none⟩)
          | 12 => Blk wx (rb) 30 [.int .i64 e.kind, .int .i64 e.num, vs 10]
          | _ => True) (fun i iv vs => match i with
          | 0 => vs 0 = .pointer (some ⟨rb, 2, none⟩)
          | 1 => vs 1 = v
          | 2 => vs 2 = .pointer (some ⟨b, o, none⟩)
          | 3 => vs 3 = .pointer (some ⟨b, o, none⟩)
          | 4 => vs 4 = .pointer (some ⟨b, o + 2, none⟩)
          | 5 => vs 5 = .slice (some ⟨kb, ko, none⟩) e.kids.length c
          | 6 => vs 6 = .int .i64 k
          | 7 => vs 7 = .pointer (some ⟨kb, ko + k * 3, none⟩)
          | 8 => ∃ s2 c2, vs 8 = .agg #[.int .i64 (Ex.same x).kind, .int .i64 (Ex.same x).num, .slice s2 (Ex.same x).kids.length c2]
          | 9 => vs 9 = .slice (some ⟨(iv 9).1, 0, none⟩) 1 1 ∧ (iv 9).2 = (iv 9).1 + 1
          | 10 => ∃ g cap, vs 10 = .slice (some ⟨g, 0, none⟩) (k + 1) cap
          | 11 => vs 11 = .pointer (some ⟨rb, 2, none⟩)
          | 12 => True
          | _ => True) (by kernel_rfl) (by kernel_rfl) [0, 1, 2, 3, 4, 5, 6, 7, 8, 9, 10, 11, 12] (by kernel_rfl) ?hbase ?hGb ?hG ?hJ ?hE ?hEE ?hstep ?hQ
        case hbase => first | exact Nat.le_refl _ | omega | (simp; omega)
        case hGb =>
          exact hGb
        case hG =>
          exact hGd
        case hJ =>
          intro i hi iv iv' vs vs' wx wx' ha hv hz hk hj
          simp only [List.mem_cons, List.not_mem_nil, or_false] at hi
          rcases hi with rfl | rfl | rfl | rfl | rfl | rfl | rfl | rfl | rfl | rfl | rfl | rfl | rfl
          · exact (hv.out 0 (mem_of (by kernel_rfl))).symm.trans hj
          · exact (hv.out 1 (mem_of (by kernel_rfl))).symm.trans hj
          · exact (hv.out 2 (mem_of (by kernel_rfl))).symm.trans hj
          · exact (hv.out 3 (mem_of (by kernel_rfl))).symm.trans hj
          · exact (hv.out 4 (mem_of (by kernel_rfl))).symm.trans hj
          · exact (hv.out 5 (mem_of (by kernel_rfl))).symm.trans hj
          · exact (hv.out 6 (mem_of (by kernel_rfl))).symm.trans hj
          · exact (hv.out 7 (mem_of (by kernel_rfl))).symm.trans hj
          · have e8 := hv.out 8 (mem_of (by kernel_rfl))
            have g8 := ha.out 8 (mem_of (by kernel_rfl))
            obtain ⟨s2, c2, q1, q2⟩ := hj
            exact ⟨s2, c2, e8 ▸ q1, g8 ▸ q2.keep (fun b hb h1 h2 => hk.out b hb (foot_own h1 h2))⟩
          · have e8 := hv.out 8 (mem_of (by kernel_rfl))
            have e9 := hv.out 9 (mem_of (by kernel_rfl))
            have g9 := ha.out 9 (mem_of (by kernel_rfl))
            obtain ⟨q1, q3, q2⟩ := hj
            show vs' 9 = .slice (some ⟨(iv' 9).1, 0, none⟩) 1 1 ∧ (iv' 9).2 = (iv' 9).1 + 1 ∧ Blk wx' (iv' 9).1 30 [aggAt (vs' 8) 0, aggAt (vs' 8) 1, aggAt (vs' 8) 2]
            rw [← e8, ← e9, ← g9]
            exact ⟨q1, q3, q2.keep (hk.out _ q2.lt (foot_own (Nat.le_refl _) (by omega)))⟩
          · have e10 := hv.out 10 (mem_of (by kernel_rfl))
            obtain ⟨g, cap, q1, q2⟩ := hj
            exact ⟨g, cap, e10 ▸ q1, (q2.keep (fun b hb h1 => hk.out b hb h1)).more (fun b hb h1 => foot_agree (l := ancs _ 13 10) (by exact of_decide_eq_true (by kernel_rfl)) ha.out h1)⟩
          · exact (hv.out 11 (mem_of (by kernel_rfl))).symm.trans hj
          · have e10 := hv.out 10 (mem_of (by kernel_rfl))
            have hj' : Blk wx (rb) 30 [.int .i64 e.kind, .int .i64 e.num, vs 10] := hj
            show Blk wx' (rb) 30 [.int .i64 e.kind, .int .i64 e.num, vs' 10]
            rw [← e10]
            exact hj'.keep (hk.out _ hj'.lt (foot_given 1 (by decide) (Or.inr ⟨rfl, rfl⟩)))
        case hE =>
          intro i hi iv vs wx hj
          simp only [List.mem_cons, List.not_mem_nil, or_false] at hi
          rcases hi with rfl | rfl | rfl | rfl | rfl | rfl | rfl | rfl | rfl | rfl | rfl | rfl | rfl
          · exact hj
          · exact hj
          · exact hj
          · exact hj
          · exact hj
          · exact hj
          · exact hj
          · exact hj
          · obtain ⟨s2, c2, q1, -⟩ := hj
            exact ⟨s2, c2, q1⟩
          · exact ⟨hj.1, hj.2.1⟩
          · obtain ⟨g, cap, q1, -⟩ := hj
            exact ⟨g, cap, q1⟩
          · exact hj
          · trivial
        case hEE =>
          intro i hi iv iv' vs vs' ha hv hj
          simp only [List.mem_cons, List.not_mem_nil, or_false] at hi
          rcases hi with rfl | rfl | rfl | rfl | rfl | rfl | rfl | rfl | rfl | rfl | rfl | rfl | rfl
          · exact (hv.out 0 (mem_of (by kernel_rfl))).symm.trans hj
          · exact (hv.out 1 (mem_of (by kernel_rfl))).symm.trans hj
          · exact (hv.out 2 (mem_of (by kernel_rfl))).symm.trans hj
          · exact (hv.out 3 (mem_of (by kernel_rfl))).symm.trans hj
          · exact (hv.out 4 (mem_of (by kernel_rfl))).symm.trans hj
          · exact (hv.out 5 (mem_of (by kernel_rfl))).symm.trans hj
          · exact (hv.out 6 (mem_of (by kernel_rfl))).symm.trans hj
          · exact (hv.out 7 (mem_of (by kernel_rfl))).symm.trans hj
          · have e8 := hv.out 8 (mem_of (by kernel_rfl))
            have hj' : ∃ s2 c2, vs 8 = .agg #[.int .i64 (Ex.same x).kind, .int .i64 (Ex.same x).num, .slice s2 (Ex.same x).kids.length c2] := hj
            show ∃ s2 c2, vs' 8 = .agg #[.int .i64 (Ex.same x).kind, .int .i64 (Ex.same x).num, .slice s2 (Ex.same x).kids.length c2]
            rw [← e8]
            exact hj'
          · have e9 := hv.out 9 (mem_of (by kernel_rfl))
            have g9 := ha.out 9 (mem_of (by kernel_rfl))
            have hj' : vs 9 = .slice (some ⟨(iv 9).1, 0, none⟩) 1 1 ∧ (iv 9).2 = (iv 9).1 + 1 := hj
            show vs' 9 = .slice (some ⟨(iv' 9).1, 0, none⟩) 1 1 ∧ (iv' 9).2 = (iv' 9).1 + 1
            rw [← e9, ← g9]
            exact hj'
          · have e10 := hv.out 10 (mem_of (by kernel_rfl))
            have hj' : ∃ g cap, vs 10 = .slice (some ⟨g, 0, none⟩) (k + 1) cap := hj
            show ∃ g cap, vs' 10 = .slice (some ⟨g, 0, none⟩) (k + 1) cap
            rw [← e10]
            exact hj'
          · exact (hv.out 11 (mem_of (by kernel_rfl))).symm.trans hj
          · trivial
        case hstep =>
          intro i hi opr ho iv vs w1 hB hS hSo hd he hbd hsep hun K hK
          simp only [List.mem_cons, List.not_mem_nil, or_false] at hi
          have hzB := hB.size
          have hBw1 : Below w.heap.size w w1 := hBw.trans (hB.mono (by omega))
          have g2' := (hBw1.cell (p := ⟨b, o + 2, none⟩) hbl).trans G2.out
          have hx1' := hxat.below hBw1
          generalize hA : putFrom _ 0 vs _ = A at hK ⊢
          simp only [putFrom, puts] at hA
          rcases hi with rfl | rfl | rfl | rfl | rfl | rfl | rfl | rfl | rfl | rfl | rfl | rfl | rfl
          all_goals
            simp at ho
            subst ho
            subst hA
          · go_wp2_with fail
            exact Onward.mk (hK (.pointer (some ⟨rb, 2, none⟩)) _ _ (fun h => by cases h) (by first | rfl | (simp only [puts])) (Spares.refl _) (fun iv' _ _ => rfl))
          · have h0 : vs 0 = .pointer (some ⟨rb, 2, none⟩) := hd.out 0 (mem_of (by kernel_rfl)) (by decide) (by kernel_rfl)
            have R1 := R.keep (hS.out 1 _ (by kernel_rfl) (Or.inr ⟨rfl, rfl⟩))
            have rc0 := R1.c0
            have rz0 := R1.frozen 0
            have rc1 := R1.c1
            have rz1 := R1.frozen 1
            have rc2 := R1.c2
            have rz2 := R1.frozen 2
            have rlt := R1.lt
            go_wp2_with fail
            exact Onward.mk (hK (v) _ _ (fun h => by cases h) (by first | rfl | (simp only [puts, h0])) (Spares.refl _) (fun iv' _ _ => rfl))
          · go_wp2_with fail
            exact Onward.mk (hK (.pointer (some ⟨b, o, none⟩)) _ _ (fun h => by cases h) (by first | rfl | (simp only [puts])) (Spares.refl _) (fun iv' _ _ => rfl))
          · have h2 : vs 2 = .pointer (some ⟨b, o, none⟩) := hd.out 2 (mem_of (by kernel_rfl)) (by decide) (by kernel_rfl)
            go_wp2_with fail
            exact Onward.mk (hK (.pointer (some ⟨b, o, none⟩)) _ _ (fun h => by cases h) (by first | rfl | (simp only [puts, h2])) (Spares.refl _) (fun iv' _ _ => rfl))
          · have h3 : vs 3 = .pointer (some ⟨b, o, none⟩) := hd.out 3 (mem_of (by kernel_rfl)) (by decide) (by kernel_rfl)
            go_wp2_with fail
            exact Onward.mk (hK (.pointer (some ⟨b, o + 2, none⟩)) _ _ (fun h => by cases h) (by first | rfl | (simp only [puts, h3])) (Spares.refl _) (fun iv' _ _ => rfl))
          · have h4 : vs 4 = .pointer (some ⟨b, o + 2, none⟩) := hd.out 4 (mem_of (by kernel_rfl)) (by decide) (by kernel_rfl)
            go_wp2_with fail
            exact Onward.mk (hK (.slice (some ⟨kb, ko, none⟩) e.kids.length c) _ _ (fun h => by cases h) (by first | rfl | (simp only [puts, h4])) (Spares.refl _) (fun iv' _ _ => rfl))
          · go_wp2_with fail
            exact Onward.mk (hK (.int .i64 k) _ _ (fun h => by cases h) (by first | rfl | (simp only [puts])) (Spares.refl _) (fun iv' _ _ => rfl))
          · have h5 : vs 5 = .slice (some ⟨kb, ko, none⟩) e.kids.length c := hd.out 5 (mem_of (by kernel_rfl)) (by decide) (by kernel_rfl)
            have h6 : vs 6 = .int .i64 k := hd.out 6 (mem_of (by kernel_rfl)) (by decide) (by kernel_rfl)
            go_wp2_with fail
            exact Onward.mk (hK (.pointer (some ⟨kb, ko + k * 3, none⟩)) _ _ (fun h => by cases h) (by first | rfl | (simp only [puts, h5, h6])) (Spares.refl _) (fun iv' _ _ => rfl))
          · have h7 : vs 7 = .pointer (some ⟨kb, ko + k * 3, none⟩) := hd.out 7 (mem_of (by kernel_rfl)) (by decide) (by kernel_rfl)
            go_wp2_with fail
            refine (ih _ hxs x _ _ _ (Nat.le_refl _) hx1' hx1).mono ?_
            rintro e w2 ⟨s2, c2, rfl, hf, hb⟩
            go_wp2_with fail
            exact Onward.mk (hK (.agg #[.int .i64 (Ex.same x).kind, .int .i64 (Ex.same x).num, .slice s2 (Ex.same x).kids.length c2]) _ _ (fun h => by cases h) (by first | rfl | (simp only [puts, h7])) (Spares.of_below hb) (fun iv' _ hi => ⟨s2, c2, rfl, by rw [hi]; exact Freshs.stretch (hf)⟩))
          · obtain ⟨s2, c2, h8, f8⟩ := hd.out 8 (mem_of (by kernel_rfl)) (by decide) (by kernel_rfl)
            go_wp2_with fail
            exact Onward.mk (hK (.slice (some ⟨w1.heap.size, 0, none⟩) 1 1) _ _ (fun h => by cases h) (by first | rfl | (simp only [puts, h8])) (Spares.of_below (Below.alloc (Below.refl _ _) (Nat.le_refl _) _)) (fun iv' _ hi => by
              show Value.slice (some ⟨w1.heap.size, 0, none⟩) 1 1 = .slice (some ⟨(iv' 9).1, 0, none⟩) 1 1 ∧ (iv' 9).2 = (iv' 9).1 + 1 ∧ Blk _ (iv' 9).1 30 [aggAt (vs 8) 0, aggAt (vs 8) 1, aggAt (vs 8) 2]
              rw [hi, h8]
              exact ⟨rfl, by simp, Blk.new3 _ _ _ _ _⟩))
          · have h1 : vs 1 = v := hd.out 1 (mem_of (by kernel_rfl)) (by decide) (by kernel_rfl)
            obtain ⟨s2, c2, h8, f8⟩ := hd.out 8 (mem_of (by kernel_rfl)) (by decide) (by kernel_rfl)
            obtain ⟨h9, q9, f9⟩ := hd.out 9 (mem_of (by kernel_rfl)) (by decide) (by kernel_rfl)
            have V1 := V.keep (fun b _ hb => hS.out 0 b (by kernel_rfl) (Or.inl ⟨rfl, hb⟩))
            simp only [h1, h8, h9]
            have f9' : Blk w1 (iv 9).1 30 [.int .i64 (Ex.same x).kind, .int .i64 (Ex.same x).num, .slice s2 (Ex.same x).kids.length c2] := by first | exact f9 | (rw [h8] at f9; exact f9)
            refine wpList_append_s w1 (by rfl) _ _ 28 (by rfl) 30 (.agg #[.int .i64 0, .int .i64 0, .slice none 0 0]) 3 40 Tryz.underlying28 zero_implExpr rfl (by decide) (S := (fun b => b ∈ Fs)) (T := (fun b => (iv 8).1 ≤ b ∧ b < (iv 8).2)) _ (by rfl) V1 ⟨(iv 9).1, 0, none⟩ 1 1 [.int .i64 (Ex.same x).kind, .int .i64 (Ex.same x).num, .slice s2 (Ex.same x).kids.length c2] (by rfl) (news_blk f9') f8.three (fun b _ h1 h2 => by have q := (hbd.out 8 (mem_of (by kernel_rfl)) (by decide)).1; have q' := (hGb 0 b (Or.inl ⟨rfl, h1⟩)).2; omega) (by simp) (by simp [Value.oneCell']) (by omega) (by omega) (by unfold maxLen; omega) ?_
            intro g cap w2 hap ht
            go_wp2_with fail
            exact Onward.mk (hK (.slice (some ⟨g, 0, none⟩) (k + 1) cap) _ _ (fun h => by cases h) (by first | rfl | (simp only [puts, h1, h8, h9])) (ht.more (fun b h => Or.inl ⟨0, by decide, (Or.inl ⟨rfl, h⟩)⟩)) (fun iv' ag hi => ⟨g, cap, rfl, hap.more (fun b _ h => by rcases h with h | h | h; exact foot_given 0 (by decide) (Or.inl ⟨rfl, h⟩); exact foot_iv (by kernel_rfl) ag h.1 h.2; exact foot_new hi h.1 h.2)⟩))
          · go_wp2_with fail
            exact Onward.mk (hK (.pointer (some ⟨rb, 2, none⟩)) _ _ (fun h => by cases h) (by first | rfl | (simp only [puts])) (Spares.refl _) (fun iv' _ _ => rfl))
          · obtain ⟨g10, cap10, h10, f10⟩ := hd.out 10 (mem_of (by kernel_rfl)) (by decide) (by kernel_rfl)
            have h11 : vs 11 = .pointer (some ⟨rb, 2, none⟩) := hd.out 11 (mem_of (by kernel_rfl)) (by decide) (by kernel_rfl)
            have R1 := R.keep (hS.out 1 _ (by kernel_rfl) (Or.inr ⟨rfl, rfl⟩))
            have rc0 := R1.c0
            have rz0 := R1.frozen 0
            have rc1 := R1.c1
            have rz1 := R1.frozen 1
            have rc2 := R1.c2
            have rz2 := R1.frozen 2
            have rlt := R1.lt
            go_wp2_with fail
            exact Onward.mk (hK undef _ _ (fun _ => rfl) (by simp only [puts, h10, h11]) ((spares_sets (b0 := rb) (by repeat (first | exact Spares.refl _ | apply Spares.set))).more (fun b h => Or.inl ⟨1, by decide, (Or.inr ⟨rfl, h⟩)⟩)) (fun iv' ag hi => by
              show Blk _ (rb) 30 [.int .i64 e.kind, .int .i64 e.num, vs 10]
              rw [h10]
              exact (R1.set 2 _)))
        case hQ =>
          intro iv vs wx hB hSp hd he hbd hsep
          have hzB := hB.size
          have h0 : vs 0 = .pointer (some ⟨rb, 2, none⟩) := hd.out 0 (mem_of (by kernel_rfl)) (not_eaten (by kernel_rfl))
          have h1 : vs 1 = v := hd.out 1 (mem_of (by kernel_rfl)) (not_eaten (by kernel_rfl))
          have h2 : vs 2 = .pointer (some ⟨b, o, none⟩) := hd.out 2 (mem_of (by kernel_rfl)) (not_eaten (by kernel_rfl))
          have h3 : vs 3 = .pointer (some ⟨b, o, none⟩) := hd.out 3 (mem_of (by kernel_rfl)) (not_eaten (by kernel_rfl))
          have h4 : vs 4 = .pointer (some ⟨b, o + 2, none⟩) := hd.out 4 (mem_of (by kernel_rfl)) (not_eaten (by kernel_rfl))
          have h5 : vs 5 = .slice (some ⟨kb, ko, none⟩) e.kids.length c := hd.out 5 (mem_of (by kernel_rfl)) (not_eaten (by kernel_rfl))
          have h6 : vs 6 = .int .i64 k := hd.out 6 (mem_of (by kernel_rfl)) (not_eaten (by kernel_rfl))
          have h7 : vs 7 = .pointer (some ⟨kb, ko + k * 3, none⟩) := hd.out 7 (mem_of (by kernel_rfl)) (not_eaten (by kernel_rfl))
          obtain ⟨s2, c2, h8⟩ := he.out 8 (mem_of (by kernel_rfl))
          obtain ⟨h9, q9, f9⟩ := hd.out 9 (mem_of (by kernel_rfl)) (not_eaten (by kernel_rfl))
          obtain ⟨g10, cap10, h10, f10⟩ := hd.out 10 (mem_of (by kernel_rfl)) (not_eaten (by kernel_rfl))
          have h11 : vs 11 = .pointer (some ⟨rb, 2, none⟩) := hd.out 11 (mem_of (by kernel_rfl)) (not_eaten (by kernel_rfl))
          have f12 : Blk _ (rb) 30 [.int .i64 e.kind, .int .i64 e.num, vs 10] := hd.out 12 (mem_of (by kernel_rfl)) (not_eaten (by kernel_rfl))
          have lo10 : ∀ b, foot [(10, 8)] [(10, 0), (12, 1)] (fun m b => (m = 0 ∧ b ∈ Fs) ∨ (m = 1 ∧ b = rb)) 13 10 iv b → (wz.heap.size) ≤ b := by
            rintro b ⟨j, hj, hh⟩
            have hj' := of_decide_eq_true (List.all_eq_true.1 (show ((chainOf [(10, 8)] 13 10).all fun j => decide (j ∈ [10, 8])) = true from by kernel_rfl) j hj)
            simp only [List.mem_cons, List.not_mem_nil, or_false] at hj'
            rcases hj' with rfl | rfl
            · have q := (hbd.out 10 (mem_of (by kernel_rfl))).1
              rcases hh with hh | ⟨m, hm, hg⟩
              · omega
              · simp at hm
                subst hm
                simp at hg
                have q' := Vf b hg
                omega
            · have q := (hbd.out 8 (mem_of (by kernel_rfl))).1
              rcases hh with hh | ⟨m, hm, hg⟩
              · omega
              · simp at hm
          simp only [putFrom, puts]
          rw [h10] at f12
          have hap := f10.app (W := wz) lo10
          rw [← Hds.out] at hap
          clear hd he hbd hsep h0 h1 h2 h3 h4 h5 h6 h7 h8 h9 h10 h11 lo10 f10
          go_wp2_with fail
          go_roundw
          case rel => exact ⟨k + 1, _, by omega, by go_num, f12, hap, hBr.trans hB⟩
          case measure => simp [intOf]; omega
      · obtain rfl : k = e.kids.length := by omega
        rw [List.take_of_length_le (by have := Hl.out; omega)] at happ
        obtain ⟨a', cap', rfl, -⟩ := happ.shape
        have g2r := (hBw.cell (p := ⟨b, o + 2, none⟩) hbl).trans G2.out
        have r0 := R.c0
        have r1 := R.c1
        have r2 := R.c2
        have Q2 := R2.keep (hBr.block _ (by omega))
        have q0 := Q2.c0
        have q1 := Q2.c1
        have q2 := Q2.c2
        have z0 := Q2.frozen 0
        have z1 := Q2.frozen 1
        have z2 := Q2.frozen 2
        go_wp2_with fail
        have T2 := ((Q2.set 0 (.int .i64 e.kind)).set 1 (.int .i64 e.num)).set 2 (.slice a' e.kids.length cap')
        have t0 := T2.c0
        have t1 := T2.c1
        have t2 := T2.c2
        refine bodyPost_ret (v := .agg #[.int .i64 e.kind, .int .i64 e.num, .slice a' e.kids.length cap']) (by simp [results, Tryz.results90, go_sem, t0, t1, t2]) rfl ⟨a', cap', by rw [Hk.out, Hn.out, ← Hl.out], ?_, by (repeat' first | exact Below.refl _ _ | assumption | apply Below.alloc | apply Below.drew | apply Below.setCell | omega | (simp; done) | (simp; omega))⟩
        rw [← Hf.out, ← Hl.out]
        refine Freshs.one ((happ.fresh.keep fun bb hb1 hb2 => ?_).from szx)
        rw [Below.heap_setCell _ _ _ _ (by show bb ≠ w.heap.size; omega), Below.heap_setCell _ _ _ _ (by show bb ≠ w.heap.size; omega), Below.heap_setCell _ _ _ _ (by show bb ≠ w.heap.size; omega)]
set_option maxHeartbeats 16000000 in
theorem copyExpr_same (N : Nat) : ∀ (k0 n0 : Int) (ks : List Ex) (s : Option Addr) (c : Nat) (w : World), Ex.sizeL ks ≤ N → Rd w (kidsD ks) (.slice s ks.length c) → Ex.sizeL ks ≤ 1073741824 → 
    Calls Tryz.prog 71 #[.agg #[.int .i64 k0, .int .i64 n0, .slice s ks.length c]] w fun f w' => ∃ s' c', f = .returned (.agg #[.int .i64 (Ex.same (.mk k0 n0 ks)).kind, .int .i64 (Ex.same (.mk k0 n0 ks)).num, .slice s' (Ex.same (.mk k0 n0 ks)).kids.length c']) ∧
      Freshs w w' [kidsD (Ex.same (.mk k0 n0 ks)).kids] [.slice s' (Ex.same (.mk k0 n0 ks)).kids.length c'] ∧ Below w.heap.size w w' := by
  induction N using Nat.strongRecOn with
  | _ N ih =>
  intro k0 n0 ks s c w hN g3 hsl 
  obtain ⟨-, hlen, hcap, -, -⟩ := kid_at g3
  unfold maxLen at hcap
  have hkl := Ex.length_le_sizeL ks
  have hkm : ks.length ≤ 1073741824 := by omega
  clear hkl
  have Hl : Hid (ks.length = (Ex.same (.mk k0 n0 ks)).kids.length) := rfl
  have Hk : Hid ((Ex.same (.mk k0 n0 ks)).kind = k0) := rfl
  have Hn : Hid ((Ex.same (.mk k0 n0 ks)).num = n0) := rfl
  have Hf : Hid (D.sl 3 ks.length (Ex.cellsL (Ex.same (.mk k0 n0 ks)).kids) = kidsD (Ex.same (.mk k0 n0 ks)).kids) := by show _ = _; unfold kidsD; rw [Hl.out]
  go_enter Tryz.func71, Tryz.ntmps71
  go_wp2_with fail
  have M := ((Blk.new3 w 30 (.int .i64 k0) (.int .i64 n0) (.slice s ks.length c)).alloc (.cells #[.int .i64 0, .int .i64 0, .slice none 0 0] 30)).alloc (.cells #[.int .i64 k0, .int .i64 n0, .slice none 0 0] 30)
  have R2 := (Blk.new3 (w.alloc (.cells #[.int .i64 k0, .int .i64 n0, .slice s ks.length c] 30)) 30 (.int .i64 0) (.int .i64 0) (.slice none 0 0)).alloc (.cells #[.int .i64 k0, .int .i64 n0, .slice none 0 0] 30)
  have R := Blk.new3 ((w.alloc (.cells #[.int .i64 k0, .int .i64 n0, .slice s ks.length c] 30)).alloc (.cells #[.int .i64 0, .int .i64 0, .slice none 0 0] 30)) 30 (.int .i64 k0) (.int .i64 n0) (.slice none 0 0)
  simp at R2 R
  have hBx : Below w.heap.size w (((w.alloc (.cells #[.int .i64 k0, .int .i64 n0, .slice s ks.length c] 30)).alloc (.cells #[.int .i64 0, .int .i64 0, .slice none 0 0] 30)).alloc (.cells #[.int .i64 k0, .int .i64 n0, .slice none 0 0] 30)) := by (repeat' first | exact Below.refl _ _ | assumption | apply Below.alloc | apply Below.drew | apply Below.setCell | omega | (simp; done) | (simp; omega))
  generalize (((w.alloc (.cells #[.int .i64 k0, .int .i64 n0, .slice s ks.length c] 30)).alloc (.cells #[.int .i64 0, .int .i64 0, .slice none 0 0] 30)).alloc (.cells #[.int .i64 k0, .int .i64 n0, .slice none 0 0] 30)) = wz at M R2 R hBx ⊢
  have ltR := R.lt
  have szx := hBx.size
  go_loopw [14] (fun i wr => ∃ (k : Nat) (v : Value), k ≤ ks.length ∧ i = .int .i64 k ∧ Blk wr (w.heap.size + 1 + 1) 30 [.int .i64 k0, .int .i64 n0, v] ∧ App wz wr 30 3 k (Ex.cellsL (ks.take k)) v ∧ Below (w.heap.size + 1 + 1) wz wr) (fun i _ => ks.length - (intOf i).toNat)
  case atStart => exact ⟨0, .slice none 0 0, by omega, rfl, R, by simpa [Ex.cellsL] using App.nil, Below.refl _ _⟩
  case round =>
    clear R
    obtain ⟨k, v, hk, rfl, R, happ, hBr⟩ := hrel
    have hBw : Below w.heap.size w wr := hBx.trans (hBr.mono (by omega))
    have szr := hBr.size
    by_cases hlt : k < ks.length
    · obtain ⟨x, hx⟩ : ∃ x, ks[k]? = some x := ⟨_, List.getElem?_eq_getElem (by omega)⟩
      have hy : ks[k]? = some (Ex.same (.mk x.kind x.num x.kids)) := by rw [hx]; exact congrArg some (Ex.eta x)
      obtain ⟨kb, ko, rfl⟩ := kid_some g3 (by intro h; simp [h] at hlt)
      have hxm := Ex.sizeL_mem (List.mem_of_getElem? hx)
      have hse := Ex.size_eq x
      have hxs : Ex.sizeL x.kids < N := by omega
      have hx1 : Ex.sizeL x.kids ≤ 1073741824 := by omega
      clear hxm hse
      have Hds := Lib.hid (Ex.cellsL_take_succ hy)
      clear hy
      obtain ⟨-, sx, cx, g0, g1, g2, gr⟩ := kid_in (g3.below hBw) hx
      obtain ⟨-, sy, cy, i0, i1, i2, hgr0⟩ := kid_in g3 hx
      obtain ⟨rfl, rfl⟩ : sx = sy ∧ cx = cy := by
        have := ((hBw.cell (p := ⟨kb, ko + k * 3 + 2, none⟩) (World.block_lt_of_cell? w _ i2)).trans i2).symm.trans g2
        simp at this
        exact ⟨this.1.symm, this.2.symm⟩
      clear i0 i1 i2
      obtain ⟨Fs, V, Vf⟩ := happ.foot
      skip
      go_wp2_with fail
      clear g0 g1 g2 gr
      have Kb := Blk.new3 wr 30 (.int .i64 x.kind) (.int .i64 x.num) (.slice sx x.kids.length cx)
      replace R := R.alloc (.cells #[.int .i64 x.kind, .int .i64 x.num, .slice sx x.kids.length cx] 30)
      have V := V.keep (w' := wr.alloc (.cells #[.int .i64 x.kind, .int .i64 x.num, .slice sx x.kids.length cx] 30)) (fun b hb _ => Below.heap_alloc _ _ _ hb)
      replace hBr : Below (w.heap.size + 1 + 1) wz (wr.alloc (.cells #[.int .i64 x.kind, .int .i64 x.num, .slice sx x.kids.length cx] 30)) := hBr.alloc (by omega) _
      replace hBw : Below w.heap.size w (wr.alloc (.cells #[.int .i64 x.kind, .int .i64 x.num, .slice sx x.kids.length cx] 30)) := hBw.alloc (by omega) _
      have sza : (wr.alloc (.cells #[.int .i64 x.kind, .int .i64 x.num, .slice sx x.kids.length cx] 30)).heap.size = wr.heap.size + 1 := by simp
      generalize (wr.alloc (.cells #[.int .i64 x.kind, .int .i64 x.num, .slice sx x.kids.length cx] 30)) = wa at Kb R V hBr hBw sza ⊢
      obtain ⟨kq, hkq⟩ : ∃ kq, wr.heap.size = kq := ⟨_, rfl⟩
      have Vf' : ∀ b ∈ Fs, wz.heap.size ≤ b ∧ b < kq := fun b hb => by have := Vf b hb; omega
      clear Vf
      have Vf : ∀ b ∈ Fs, wz.heap.size ≤ b ∧ b < wa.heap.size := fun b hb => by have := Vf' b hb; omega
      rw [hkq] at Kb
      simp only [hkq]
      have szk : wa.heap.size = kq + 1 ∧ wz.heap.size ≤ kq := by omega
      clear sza szr hkq
      obtain ⟨szk1, szk2⟩ := szk
      have Hszk := Lib.hid szk1
      have szk3 : kq < wa.heap.size := by omega
      clear szk1
      have hGb : ∀ m b, (fun m b => (m = 0 ∧ b ∈ Fs) ∨ (m = 1 ∧ b = w.heap.size + 1 + 1) ∨ (m = 2 ∧ b = kq)) m b → (w.heap.size + 1 + 1) ≤ b ∧ b < (wa).heap.size := by
        intro m b hg
        rcases hg with ⟨rfl, hg⟩ | ⟨rfl, hg⟩ | ⟨rfl, hg⟩
        · have q := Vf b hg
          omega
        · subst hg
          have q := R.lt
          omega
        · subst hg
          have q := Kb.lt
          omega
      have hGd : ∀ m m' b, (fun m b => (m = 0 ∧ b ∈ Fs) ∨ (m = 1 ∧ b = w.heap.size + 1 + 1) ∨ (m = 2 ∧ b = kq)) m b → (fun m b => (m = 0 ∧ b ∈ Fs) ∨ (m = 1 ∧ b = w.heap.size + 1 + 1) ∨ (m = 2 ∧ b = kq)) m' b → m = m' := by
        intro m m' b h h'
        rcases h with ⟨rfl, h⟩ | ⟨rfl, h⟩ | ⟨rfl, h⟩ <;> rcases h' with ⟨rfl, h'⟩ | ⟨rfl, h'⟩ | ⟨rfl, h'⟩ <;> first
          | rfl
          | (exfalso; omega)
          | (exfalso; have q := Vf' b h; omega)
          | (exfalso; have q := Vf' b h'; omega)
      refine region_rs [(5, 3)] [(5, 0), (7, 1)] (fun m b => (m = 0 ∧ b ∈ Fs) ∨ (m = 1 ∧ b = w.heap.size + 1 + 1) ∨ (m = 2 ∧ b = kq)) (w.heap.size + 1 + 1) (fun i iv vs wx => match i with
        | 0 => vs 0 = .pointer (some ⟨w.heap.size + 1 + 1, 2, none⟩)
        | 1 => vs 1 = v
        | 2 => vs 2 = .agg #[.int .i64 x.kind, .int .i64 x.num, .slice sx x.kids.length cx]
        | 3 => ∃ s2 c2, vs 3 = .agg #[.int .i64 (Ex.same (.mk x.kind x.num x.kids)).kind, .int .i64 (Ex.same (.mk x.kind x.num x.kids)).num, .slice s2 (Ex.same (.mk x.kind x.num x.kids)).kids.length c2] ∧ FreshIn (iv 3) wx [kidsD (Ex.same (.mk x.kind x.num x.kids)).kids] [.slice s2 (Ex.same (.mk x.kind x.num x.kids)).kids.length c2]
        | 4 => vs 4 = .slice (some ⟨(iv 4).1, 0, none⟩) 1 1 ∧ (iv 4).2 = (iv 4).1 + 1 ∧ Blk wx (iv 4).1 30 [aggAt (vs 3) 0, aggAt (vs 3) 1, aggAt (vs 3) 2]
        | 5 => ∃ g cap, vs 5 = .slice (some ⟨g, 0, none⟩) (k + 1) cap ∧ AppS (foot [(5, 3)] [(5, 0), (7, 1)] (fun m b => (m = 0 ∧ b ∈ Fs) ∨ (m = 1 ∧ b = w.heap.size + 1 + 1) ∨ (m = 2 ∧ b = kq)) 8 5 iv) wx 30 3 (k + 1) (Ex.cellsL (ks.take k) ++ [.int (Ex.same (.mk x.kind x.num x.kids)).kind, .int (Ex.same (.mk x.kind x.num x.kids)).num, kidsD (Ex.same (.mk x.kind x.num x.kids)).kids]) (.slice (some ⟨g, 0, none⟩) (k + 1) cap)
        | 6 => vs 6 = .pointer (some ⟨w.heap.size + 1 + 1, 2, none⟩)
        | 7 => Blk wx (w.heap.size + 1 + 1) 30 [.int .i64 k0, .int .i64 n0, vs 5]
        | _ => True) (fun i iv vs => match i with
        | 0 => vs 0 = .pointer (some ⟨w.heap.size + 1 + 1, 2, none⟩)
        | 1 => vs 1 = v
        | 2 => vs 2 = .agg #[.int .i64 x.kind, .int .i64 x.num, .slice sx x.kids.length cx]
        | 3 => ∃ s2 c2, vs 3 = .agg #[.int .i64 (Ex.same (.mk x.kind x.num x.kids)).kind, .int .i64 (Ex.same (.mk x.kind x.num x.kids)).num, .slice s2 (Ex.same (.mk x.kind x.num x.kids)).kids.length c2]
        | 4 => vs 4 = .slice (some ⟨(iv 4).1, 0, none⟩) 1 1 ∧ (iv 4).2 = (iv 4).1 + 1
        | 5 => ∃ g cap, vs 5 = .slice (some ⟨g, 0, none⟩) (k + 1) cap
        | 6 => vs 6 = .pointer (some ⟨w.heap.size + 1 + 1, 2, none⟩)
        | 7 => True
        | _ => True) (by kernel_rfl) (by kernel_rfl) [0, 1, 2, 3, 4, 5, 6, 7] (by kernel_rfl) ?hbase ?hGb ?hG ?hJ ?hE ?hEE ?hstep ?hQ
      case hbase => first | exact Nat.le_refl _ | omega | (simp; omega)
      case hGb =>
        exact hGb
      case hG =>
        exact hGd
      case hJ =>
        intro i hi iv iv' vs vs' wx wx' ha hv hz hk hj
        simp only [List.mem_cons, List.not_mem_nil, or_false] at hi
        rcases hi with rfl | rfl | rfl | rfl | rfl | rfl | rfl | rfl
        · exact (hv.out 0 (mem_of (by kernel_rfl))).symm.trans hj
        · exact (hv.out 1 (mem_of (by kernel_rfl))).symm.trans hj
        · exact (hv.out 2 (mem_of (by kernel_rfl))).symm.trans hj
        · have e3 := hv.out 3 (mem_of (by kernel_rfl))
          have g3 := ha.out 3 (mem_of (by kernel_rfl))
          obtain ⟨s2, c2, q1, q2⟩ := hj
          exact ⟨s2, c2, e3 ▸ q1, g3 ▸ q2.keep (fun b hb h1 h2 => hk.out b hb (foot_own h1 h2))⟩
        · have e3 := hv.out 3 (mem_of (by kernel_rfl))
          have e4 := hv.out 4 (mem_of (by kernel_rfl))
          have g4 := ha.out 4 (mem_of (by kernel_rfl))
          obtain ⟨q1, q3, q2⟩ := hj
          show vs' 4 = .slice (some ⟨(iv' 4).1, 0, none⟩) 1 1 ∧ (iv' 4).2 = (iv' 4).1 + 1 ∧ Blk wx' (iv' 4).1 30 [aggAt (vs' 3) 0, aggAt (vs' 3) 1, aggAt (vs' 3) 2]
          rw [← e3, ← e4, ← g4]
          exact ⟨q1, q3, q2.keep (hk.out _ q2.lt (foot_own (Nat.le_refl _) (by omega)))⟩
        · have e5 := hv.out 5 (mem_of (by kernel_rfl))
          obtain ⟨g, cap, q1, q2⟩ := hj
          exact ⟨g, cap, e5 ▸ q1, (q2.keep (fun b hb h1 => hk.out b hb h1)).more (fun b hb h1 => foot_agree (l := ancs _ 8 5) (by exact of_decide_eq_true (by kernel_rfl)) ha.out h1)⟩
        · exact (hv.out 6 (mem_of (by kernel_rfl))).symm.trans hj
        · have e5 := hv.out 5 (mem_of (by kernel_rfl))
          have hj' : Blk wx (w.heap.size + 1 + 1) 30 [.int .i64 k0, .int .i64 n0, vs 5] := hj
          show Blk wx' (w.heap.size + 1 + 1) 30 [.int .i64 k0, .int .i64 n0, vs' 5]
          rw [← e5]
          exact hj'.keep (hk.out _ hj'.lt (foot_given 1 (by decide) (Or.inr (Or.inl ⟨rfl, rfl⟩))))
      case hE =>
        intro i hi iv vs wx hj
        simp only [List.mem_cons, List.not_mem_nil, or_false] at hi
        rcases hi with rfl | rfl | rfl | rfl | rfl | rfl | rfl | rfl
        · exact hj
        · exact hj
        · exact hj
        · obtain ⟨s2, c2, q1, -⟩ := hj
          exact ⟨s2, c2, q1⟩
        · exact ⟨hj.1, hj.2.1⟩
        · obtain ⟨g, cap, q1, -⟩ := hj
          exact ⟨g, cap, q1⟩
        · exact hj
        · trivial
      case hEE =>
        intro i hi iv iv' vs vs' ha hv hj
        simp only [List.mem_cons, List.not_mem_nil, or_false] at hi
        rcases hi with rfl | rfl | rfl | rfl | rfl | rfl | rfl | rfl
        · exact (hv.out 0 (mem_of (by kernel_rfl))).symm.trans hj
        · exact (hv.out 1 (mem_of (by kernel_rfl))).symm.trans hj
        · exact (hv.out 2 (mem_of (by kernel_rfl))).symm.trans hj
        · have e3 := hv.out 3 (mem_of (by kernel_rfl))
          have hj' : ∃ s2 c2, vs 3 = .agg #[.int .i64 (Ex.same (.mk x.kind x.num x.kids)).kind, .int .i64 (Ex.same (.mk x.kind x.num x.kids)).num, .slice s2 (Ex.same (.mk x.kind x.num x.kids)).kids.length c2] := hj
          show ∃ s2 c2, vs' 3 = .agg #[.int .i64 (Ex.same (.mk x.kind x.num x.kids)).kind, .int .i64 (Ex.same (.mk x.kind x.num x.kids)).num, .slice s2 (Ex.same (.mk x.kind x.num x.kids)).kids.length c2]
          rw [← e3]
          exact hj'
        · have e4 := hv.out 4 (mem_of (by kernel_rfl))
          have g4 := ha.out 4 (mem_of (by kernel_rfl))
          have hj' : vs 4 = .slice (some ⟨(iv 4).1, 0, none⟩) 1 1 ∧ (iv 4).2 = (iv 4).1 + 1 := hj
          show vs' 4 = .slice (some ⟨(iv' 4).1, 0, none⟩) 1 1 ∧ (iv' 4).2 = (iv' 4).1 + 1
          rw [← e4, ← g4]
          exact hj'
        · have e5 := hv.out 5 (mem_of (by kernel_rfl))
          have hj' : ∃ g cap, vs 5 = .slice (some ⟨g, 0, none⟩) (k + 1) cap := hj
          show ∃ g cap, vs' 5 = .slice (some ⟨g, 0, none⟩) (k + 1) cap
          rw [← e5]
          exact hj'
        · exact (hv.out 6 (mem_of (by kernel_rfl))).symm.trans hj
        · trivial
      case hstep =>
        intro i hi opr ho iv vs w1 hB hS hSo hd he hbd hsep hun K hK
        simp only [List.mem_cons, List.not_mem_nil, or_false] at hi
        have hzB := hB.size
        have gr1 := hgr0.below (hBw.trans (hB.mono (by omega)))
        skip
        generalize hA : putFrom _ 0 vs _ = A at hK ⊢
        simp only [putFrom, puts] at hA
        rcases hi with rfl | rfl | rfl | rfl | rfl | rfl | rfl | rfl
        all_goals
          simp at ho
          subst ho
          subst hA
        · go_wp2_with fail
          exact Onward.mk (hK (.pointer (some ⟨w.heap.size + 1 + 1, 2, none⟩)) _ _ (fun h => by cases h) (by first | rfl | (simp only [puts])) (Spares.refl _) (fun iv' _ _ => rfl))
        · have h0 : vs 0 = .pointer (some ⟨w.heap.size + 1 + 1, 2, none⟩) := hd.out 0 (mem_of (by kernel_rfl)) (by decide) (by kernel_rfl)
          have R1 := R.keep (hS.out 1 _ (by kernel_rfl) (Or.inr (Or.inl ⟨rfl, rfl⟩)))
          have rc0 := R1.c0
          have rz0 := R1.frozen 0
          have rc1 := R1.c1
          have rz1 := R1.frozen 1
          have rc2 := R1.c2
          have rz2 := R1.frozen 2
          have rlt := R1.lt
          go_wp2_with fail
          exact Onward.mk (hK (v) _ _ (fun h => by cases h) (by first | rfl | (simp only [puts, h0])) (Spares.refl _) (fun iv' _ _ => rfl))
        · have Kb1 := Kb.keep (hS.out 2 _ (by kernel_rfl) (Or.inr (Or.inr ⟨rfl, rfl⟩)))
          have kbc0 := Kb1.c0
          have kbz0 := Kb1.frozen 0
          have kbc1 := Kb1.c1
          have kbz1 := Kb1.frozen 1
          have kbc2 := Kb1.c2
          have kbz2 := Kb1.frozen 2
          have kblt := Kb1.lt
          go_wp2_with fail
          exact Onward.mk (hK (.agg #[.int .i64 x.kind, .int .i64 x.num, .slice sx x.kids.length cx]) _ _ (fun h => by cases h) (by first | rfl | (simp only [puts])) (Spares.refl _) (fun iv' _ _ => rfl))
        · have h2 : vs 2 = .agg #[.int .i64 x.kind, .int .i64 x.num, .slice sx x.kids.length cx] := hd.out 2 (mem_of (by kernel_rfl)) (by decide) (by kernel_rfl)
          go_wp2_with fail
          refine (ih _ hxs _ _ _ _ _ _ (Nat.le_refl _) gr1 hx1).mono ?_
          rintro e w2 ⟨s2, c2, rfl, hf, hb⟩
          go_wp2_with fail
          exact Onward.mk (hK (.agg #[.int .i64 (Ex.same (.mk x.kind x.num x.kids)).kind, .int .i64 (Ex.same (.mk x.kind x.num x.kids)).num, .slice s2 (Ex.same (.mk x.kind x.num x.kids)).kids.length c2]) _ _ (fun h => by cases h) (by first | rfl | (simp only [puts, h2])) (Spares.of_below hb) (fun iv' _ hi => ⟨s2, c2, rfl, by rw [hi]; exact Freshs.stretch (hf)⟩))
        · obtain ⟨s2, c2, h3, f3⟩ := hd.out 3 (mem_of (by kernel_rfl)) (by decide) (by kernel_rfl)
          go_wp2_with fail
          exact Onward.mk (hK (.slice (some ⟨w1.heap.size, 0, none⟩) 1 1) _ _ (fun h => by cases h) (by first | rfl | (simp only [puts, h3])) (Spares.of_below (Below.alloc (Below.refl _ _) (Nat.le_refl _) _)) (fun iv' _ hi => by
            show Value.slice (some ⟨w1.heap.size, 0, none⟩) 1 1 = .slice (some ⟨(iv' 4).1, 0, none⟩) 1 1 ∧ (iv' 4).2 = (iv' 4).1 + 1 ∧ Blk _ (iv' 4).1 30 [aggAt (vs 3) 0, aggAt (vs 3) 1, aggAt (vs 3) 2]
            rw [hi, h3]
            exact ⟨rfl, by simp, Blk.new3 _ _ _ _ _⟩))
        · have h1 : vs 1 = v := hd.out 1 (mem_of (by kernel_rfl)) (by decide) (by kernel_rfl)
          obtain ⟨s2, c2, h3, f3⟩ := hd.out 3 (mem_of (by kernel_rfl)) (by decide) (by kernel_rfl)
          obtain ⟨h4, q4, f4⟩ := hd.out 4 (mem_of (by kernel_rfl)) (by decide) (by kernel_rfl)
          have V1 := V.keep (fun b _ hb => hS.out 0 b (by kernel_rfl) (Or.inl ⟨rfl, hb⟩))
          simp only [h1, h3, h4]
          have f4' : Blk w1 (iv 4).1 30 [.int .i64 (Ex.same (.mk x.kind x.num x.kids)).kind, .int .i64 (Ex.same (.mk x.kind x.num x.kids)).num, .slice s2 (Ex.same (.mk x.kind x.num x.kids)).kids.length c2] := by first | exact f4 | (rw [h3] at f4; exact f4)
          refine wpList_append_s w1 (by rfl) _ _ 28 (by rfl) 30 (.agg #[.int .i64 0, .int .i64 0, .slice none 0 0]) 3 40 Tryz.underlying28 zero_implExpr rfl (by decide) (S := (fun b => b ∈ Fs)) (T := (fun b => (iv 3).1 ≤ b ∧ b < (iv 3).2)) _ (by rfl) V1 ⟨(iv 4).1, 0, none⟩ 1 1 [.int .i64 (Ex.same (.mk x.kind x.num x.kids)).kind, .int .i64 (Ex.same (.mk x.kind x.num x.kids)).num, .slice s2 (Ex.same (.mk x.kind x.num x.kids)).kids.length c2] (by rfl) (news_blk f4') f3.three (fun b _ h1 h2 => by have q := (hbd.out 3 (mem_of (by kernel_rfl)) (by decide)).1; have q' := (hGb 0 b (Or.inl ⟨rfl, h1⟩)).2; omega) (by simp) (by simp [Value.oneCell']) (by omega) (by omega) (by unfold maxLen; omega) ?_
          intro g cap w2 hap ht
          go_wp2_with fail
          exact Onward.mk (hK (.slice (some ⟨g, 0, none⟩) (k + 1) cap) _ _ (fun h => by cases h) (by first | rfl | (simp only [puts, h1, h3, h4])) (ht.more (fun b h => Or.inl ⟨0, by decide, (Or.inl ⟨rfl, h⟩)⟩)) (fun iv' ag hi => ⟨g, cap, rfl, hap.more (fun b _ h => by rcases h with h | h | h; exact foot_given 0 (by decide) (Or.inl ⟨rfl, h⟩); exact foot_iv (by kernel_rfl) ag h.1 h.2; exact foot_new hi h.1 h.2)⟩))
        · go_wp2_with fail
          exact Onward.mk (hK (.pointer (some ⟨w.heap.size + 1 + 1, 2, none⟩)) _ _ (fun h => by cases h) (by first | rfl | (simp only [puts])) (Spares.refl _) (fun iv' _ _ => rfl))
        · obtain ⟨g5, cap5, h5, f5⟩ := hd.out 5 (mem_of (by kernel_rfl)) (by decide) (by kernel_rfl)
          have h6 : vs 6 = .pointer (some ⟨w.heap.size + 1 + 1, 2, none⟩) := hd.out 6 (mem_of (by kernel_rfl)) (by decide) (by kernel_rfl)
          have R1 := R.keep (hS.out 1 _ (by kernel_rfl) (Or.inr (Or.inl ⟨rfl, rfl⟩)))
          have rc0 := R1.c0
          have rz0 := R1.frozen 0
          have rc1 := R1.c1
          have rz1 := R1.frozen 1
          have rc2 := R1.c2
          have rz2 := R1.frozen 2
          have rlt := R1.lt
          go_wp2_with fail
          exact Onward.mk (hK undef _ _ (fun _ => rfl) (by simp only [puts, h5, h6]) ((spares_sets (b0 := w.heap.size + 1 + 1) (by repeat (first | exact Spares.refl _ | apply Spares.set))).more (fun b h => Or.inl ⟨1, by decide, (Or.inr (Or.inl ⟨rfl, h⟩))⟩)) (fun iv' ag hi => by
            show Blk _ (w.heap.size + 1 + 1) 30 [.int .i64 k0, .int .i64 n0, vs 5]
            rw [h5]
            exact (R1.set 2 _)))
      case hQ =>
        intro iv vs wx hB hSp hd he hbd hsep
        have hzB := hB.size
        have h0 : vs 0 = .pointer (some ⟨w.heap.size + 1 + 1, 2, none⟩) := hd.out 0 (mem_of (by kernel_rfl)) (not_eaten (by kernel_rfl))
        have h1 : vs 1 = v := hd.out 1 (mem_of (by kernel_rfl)) (not_eaten (by kernel_rfl))
        have h2 : vs 2 = .agg #[.int .i64 x.kind, .int .i64 x.num, .slice sx x.kids.length cx] := hd.out 2 (mem_of (by kernel_rfl)) (not_eaten (by kernel_rfl))
        obtain ⟨s2, c2, h3⟩ := he.out 3 (mem_of (by kernel_rfl))
        obtain ⟨h4, q4, f4⟩ := hd.out 4 (mem_of (by kernel_rfl)) (not_eaten (by kernel_rfl))
        obtain ⟨g5, cap5, h5, f5⟩ := hd.out 5 (mem_of (by kernel_rfl)) (not_eaten (by kernel_rfl))
        have h6 : vs 6 = .pointer (some ⟨w.heap.size + 1 + 1, 2, none⟩) := hd.out 6 (mem_of (by kernel_rfl)) (not_eaten (by kernel_rfl))
        have f7 : Blk _ (w.heap.size + 1 + 1) 30 [.int .i64 k0, .int .i64 n0, vs 5] := hd.out 7 (mem_of (by kernel_rfl)) (not_eaten (by kernel_rfl))
        have lo5 : ∀ b, foot [(5, 3)] [(5, 0), (7, 1)] (fun m b => (m = 0 ∧ b ∈ Fs) ∨ (m = 1 ∧ b = w.heap.size + 1 + 1) ∨ (m = 2 ∧ b = kq)) 8 5 iv b → (wz.heap.size) ≤ b := by
          rintro b ⟨j, hj, hh⟩
          have hj' := of_decide_eq_true (List.all_eq_true.1 (show ((chainOf [(5, 3)] 8 5).all fun j => decide (j ∈ [5, 3])) = true from by kernel_rfl) j hj)
          simp only [List.mem_cons, List.not_mem_nil, or_false] at hj'
          rcases hj' with rfl | rfl
          · have q := (hbd.out 5 (mem_of (by kernel_rfl))).1
            rcases hh with hh | ⟨m, hm, hg⟩
            · omega
            · simp at hm
              subst hm
              simp at hg
              have q' := Vf b hg
              omega
          · have q := (hbd.out 3 (mem_of (by kernel_rfl))).1
            rcases hh with hh | ⟨m, hm, hg⟩
            · omega
            · simp at hm
        simp only [putFrom, puts]
        rw [h5] at f7
        have hap := f5.app (W := wz) lo5
        rw [← Hds.out] at hap
        clear hd he hbd hsep h0 h1 h2 h3 h4 h5 h6 lo5 f5
        go_wp2_with fail
        go_roundw
        case rel => exact ⟨k + 1, _, by omega, by go_num, f7, hap, hBr.trans hB⟩
        case measure => simp [intOf]; omega
    · obtain rfl : k = ks.length := by omega
      rw [List.take_of_length_le (by omega)] at happ
      obtain ⟨a', cap', rfl, -⟩ := happ.shape
      have r0 := R.c0
      have r1 := R.c1
      have r2 := R.c2
      have z0 := R.frozen 0
      have z1 := R.frozen 1
      have z2 := R.frozen 2
      have Q2 := R2.keep (hBr.block _ (by omega))
      have q0 := Q2.c0
      have q1 := Q2.c1
      have q2 := Q2.c2
      have y0 := Q2.frozen 0
      have y1 := Q2.frozen 1
      have y2 := Q2.frozen 2
      have M2 := M.keep (hBr.block _ (by omega))
      have m0 := M2.c0
      have m1 := M2.c1
      have m2 := M2.c2
      go_wp2_with fail
      have T2 := ((Q2.set 0 (.int .i64 k0)).set 1 (.int .i64 n0)).set 2 (.slice a' ks.length cap')
      have t0 := T2.c0
      have t1 := T2.c1
      have t2 := T2.c2
      refine bodyPost_ret (v := .agg #[.int .i64 k0, .int .i64 n0, .slice a' ks.length cap']) (by simp [results, Tryz.results71, go_sem, t0, t1, t2]) rfl ⟨a', cap', by rw [Hk.out, Hn.out, ← Hl.out], ?_, by (repeat' first | exact Below.refl _ _ | assumption | apply Below.alloc | apply Below.drew | apply Below.setCell | omega | (simp; done) | (simp; omega))⟩
      rw [← Hf.out, ← Hl.out]
      refine Freshs.one ((happ.fresh.keep fun bb hb1 hb2 => ?_).from szx)
      rw [Below.heap_setCell _ _ _ _ (by show bb ≠ w.heap.size + 1; omega), Below.heap_setCell _ _ _ _ (by show bb ≠ w.heap.size + 1; omega), Below.heap_setCell _ _ _ _ (by show bb ≠ w.heap.size + 1; omega)]
end Go.Proofs.YtjlmdhoajfdkbaaGreatDoor

namespace Go.Proofs.YtjlmdhoajfdkbaaGreatDoor
set_option linter.unusedVariables false
set_option linter.unusedSimpArgs false
open Go.ChangeShapes Go.WideShapes Go.ChangeAt Go.RowKit Go.Deep Go.Sort
theorem Ex.kind_mk {k n : Int} {ks : List Ex} : (Ex.mk k n ks).kind = k := rfl
theorem Ex.num_mk {k n : Int} {ks : List Ex} : (Ex.mk k n ks).num = n := rfl
theorem Ex.kids_mk {k n : Int} {ks : List Ex} : (Ex.mk k n ks).kids = ks := rfl
def K1 (w : World) (b o : Nat) (e : Ex) (s : Option Addr) (c : Nat) : Prop := w.cell? ⟨b, o, none⟩ = some (.int .i64 e.kind) ∧ w.cell? ⟨b, o + 1, none⟩ = some (.int .i64 e.num) ∧ w.cell? ⟨b, o + 2, none⟩ = some (.slice s e.kids.length c)
theorem K1.keep {w w' : World} {b o : Nat} {e : Ex} {s : Option Addr} {c : Nat} (h : K1 w b o e s c) (hk : w'.heap[b]? = w.heap[b]?) : K1 w' b o e s c :=
  ⟨(World.cell?_of_block (w := w) (w' := w') (a := ⟨b, o, none⟩) hk).trans h.1, (World.cell?_of_block (w := w) (w' := w') (a := ⟨b, o + 1, none⟩) hk).trans h.2.1, (World.cell?_of_block (w := w) (w' := w') (a := ⟨b, o + 2, none⟩) hk).trans h.2.2⟩
theorem kidX0 {X : Nat → Prop} {w : World} {x : Ex} {r : List Ex} {s : Option Addr} {len cap : Nat} (h : RdX X w (kidsD (x :: r)) (.slice s len cap)) :
    ∃ b o sx cx, s = some ⟨b, o, none⟩ ∧ len = r.length + 1 ∧ len ≤ cap ∧ cap ≤ maxLen ∧ b < w.heap.size ∧ ¬ X b ∧ K1 w b o x sx cx ∧ ExX X w x sx cx := by
  obtain ⟨hl, h1, h2, -, -⟩ := kid_at h.rd
  simp only [List.length_cons] at hl
  subst hl
  obtain ⟨b, o, rfl⟩ := kid_some (a := s) (cap := cap) h.rd (by simp)
  obtain ⟨hb, hn, sx, cx, k0, k1, k2, hx⟩ := kidX h (i := 0) (x := x) rfl
  simp only [Nat.zero_mul, Nat.add_zero] at k0 k1 k2
  exact ⟨b, o, sx, cx, rfl, rfl, h1, h2, hb, hn, ⟨k0, k1, k2⟩, hx⟩
theorem kidX1 {X : Nat → Prop} {w : World} {x y : Ex} {r : List Ex} {b o len cap : Nat} (h : RdX X w (kidsD (x :: y :: r)) (.slice (some ⟨b, o, none⟩) len cap)) : ∃ sy cy, K1 w b (o + 3) y sy cy ∧ ExX X w y sy cy := by
  obtain ⟨hb, hn, sx, cx, k0, k1, k2, hx⟩ := kidX h (i := 1) (x := y) rfl
  simp only [Nat.one_mul] at k0 k1 k2
  exact ⟨sx, cx, ⟨k0, k1, k2⟩, hx⟩
theorem ExX.rd {X : Nat → Prop} {w : World} {e : Ex} {s : Option Addr} {c : Nat} (h : ExX X w e s c) : Rd w (kidsD e.kids) (.slice s e.kids.length c) := RdX.rd h
theorem ExX.keep {X : Nat → Prop} {w w' : World} {e : Ex} {s : Option Addr} {c : Nat} (h : ExX X w e s c) (hk : KeptX X w w') : ExX X w' e s c := RdX.keep h hk
theorem ExX.below {X : Nat → Prop} {w w' : World} {e : Ex} {s : Option Addr} {c : Nat} (h : ExX X w e s c) (hk : Below w.heap.size w w') : ExX X w' e s c := RdX.below h hk
theorem ExX.less {X Y : Nat → Prop} {w : World} {e : Ex} {s : Option Addr} {c : Nat} (h : ExX X w e s c) (hs : ∀ b, b < w.heap.size → Y b → X b) : ExX Y w e s c := RdX.less h hs
def XB (X : Nat → Prop) (p n : Nat) (b : Nat) : Prop := X b ∨ (p ≤ b ∧ b < p + n)
theorem ExX.boxes {X : Nat → Prop} {w w1 : World} {e : Ex} {s : Option Addr} {c n : Nat} (h : ExX X w e s c) (hb : Below w.heap.size w w1) : ExX (XB X w.heap.size n) w1 e s c :=
  fun w2 k => h w2 ⟨Nat.le_trans hb.size k.1, fun b hl hx => (k.2 b (Nat.lt_of_lt_of_le hl hb.size) (fun q => q.elim hx (fun q => by omega))).trans (hb.block b hl)⟩
theorem ExX.unbox {X : Nat → Prop} {w : World} {e : Ex} {s : Option Addr} {c p n : Nat} (h : ExX (XB X p n) w e s c) : ExX X w e s c := h.less fun _ _ hx => Or.inl hx
theorem leaf_i {k n : Int} {w : World} : Calls Tryz.prog 130 #[.int .i64 k, .int .i64 n] w fun e w' => e = .returned (.agg #[.int .i64 k, .int .i64 n, .slice none 0 0]) ∧ Below w.heap.size w w' := by
  go_enter Tryz.func130, Tryz.ntmps130
  go_wp2_with fail
  have T := (((Blk.new3 w 30 (.int .i64 0) (.int .i64 0) (.slice none 0 0)).set 0 (.int .i64 k)).set 1 (.int .i64 n)).set 2 (.slice none 0 0)
  have t0 := T.c0
  have t1 := T.c1
  have t2 := T.c2
  refine bodyPost_ret (v := .agg #[.int .i64 k, .int .i64 n, .slice none 0 0]) (by simp [results, Tryz.results130, go_sem, t0, t1, t2]) rfl ⟨rfl, by (repeat' first | exact Below.refl _ _ | assumption | apply Below.alloc | apply Below.drew | apply Below.setCell | omega | (simp; done) | (simp; omega))⟩
theorem tree_i {k : Int} {a : Option Addr} {l c : Nat} {w : World} : Calls Tryz.prog 132 #[.int .i64 k, .slice a l c] w fun e w' => e = .returned (.agg #[.int .i64 k, .int .i64 0, .slice a l c]) ∧ Below w.heap.size w w' := by
  go_enter Tryz.func132, Tryz.ntmps132
  go_wp2_with fail
  have T := (((Blk.new3 w 30 (.int .i64 0) (.int .i64 0) (.slice none 0 0)).set 0 (.int .i64 k)).set 1 (.int .i64 0)).set 2 (.slice a l c)
  have t0 := T.c0
  have t1 := T.c1
  have t2 := T.c2
  refine bodyPost_ret (v := .agg #[.int .i64 k, .int .i64 0, .slice a l c]) (by simp [results, Tryz.results132, go_sem, t0, t1, t2]) rfl ⟨rfl, by (repeat' first | exact Below.refl _ _ | assumption | apply Below.alloc | apply Below.drew | apply Below.setCell | omega | (simp; done) | (simp; omega))⟩
set_option maxHeartbeats 4000000 in
theorem tidyStar_i {X : Nat → Prop} {e : Ex} {s : Option Addr} {c : Nat} {w : World} (hX : ∀ b, X b → b < w.heap.size) (hx : ExX X w e s c) :
    Calls Tryz.prog 143 #[.agg #[.int .i64 e.kind, .int .i64 e.num, .slice s e.kids.length c]] w fun f w' => ∃ s' c', f = .returned (.agg #[.int .i64 e.star.kind, .int .i64 e.star.num, .slice s' e.star.kids.length c']) ∧ ExX X w' e.star s' c' ∧ Below w.heap.size w w' := by
  obtain ⟨-, hlen, hcap, -, -⟩ := kid_at hx.rd
  unfold maxLen at hcap
  go_enter Tryz.func143, Tryz.ntmps143
  go_wp2_with fail
  have L := (Blk.new3 w 30 (.int .i64 e.kind) (.int .i64 e.num) (.slice s e.kids.length c)).alloc (.cells #[.int .i64 0, .int .i64 0, .slice none 0 0] 30)
  have R := Blk.new3 (w.alloc (.cells #[.int .i64 e.kind, .int .i64 e.num, .slice s e.kids.length c] 30)) 30 (.int .i64 0) (.int .i64 0) (.slice none 0 0)
  have hB : Below w.heap.size w ((w.alloc (.cells #[.int .i64 e.kind, .int .i64 e.num, .slice s e.kids.length c] 30)).alloc (.cells #[.int .i64 0, .int .i64 0, .slice none 0 0] 30)) := by (repeat' first | exact Below.refl _ _ | assumption | apply Below.alloc | apply Below.drew | apply Below.setCell | omega | (simp; done) | (simp; omega))
  have hz0 : ((w.alloc (.cells #[.int .i64 e.kind, .int .i64 e.num, .slice s e.kids.length c] 30)).alloc (.cells #[.int .i64 0, .int .i64 0, .slice none 0 0] 30)).heap.size = w.heap.size + 2 := by simp
  simp at R
  generalize (w.alloc (.cells #[.int .i64 e.kind, .int .i64 e.num, .slice s e.kids.length c] 30)).alloc (.cells #[.int .i64 0, .int .i64 0, .slice none 0 0] 30) = w1 at L R hB hz0 ⊢
  have hx1 : ExX (XB X w.heap.size 2) w1 e s c := hx.boxes hB
  refine (implIsCondition_i hx1.rd).mono ?_
  rintro f w2 ⟨rfl, hb⟩
  have eta : Ex.cond (.mk e.kind e.num e.kids) = e.cond := by rw [← Ex.eta]
  try rw [eta]
  replace hB := Below.on hB hb hB.size
  replace L := L.below hb
  replace R := R.below hb
  replace hx1 := hx1.below hb
  have hsz := hB.size
  have hsz2 := hb.size
  rw [hz0] at hsz2
  clear hb hx
  cases hc : e.cond
  · have l0 := L.c0
    have l1 := L.c1
    have l2 := L.c2
    by_cases h8 : e.kind = 8
    · have c8 : (e.kind == 8) = true := by simp [h8]
      have ee : e.star = e := by unfold Ex.star; rw [hc]; simp [h8]
      have E1 := Lib.hid ee
      clear ee h8
      -- the result box w.heap.size + 1 of world w2 is set to an expression; goal: bodyPost. R : the box; Rests: hs5 : Spares, T2
      have r0 := R.c0
      have r1 := R.c1
      have r2 := R.c2
      have z0 := R.frozen 0
      have z1 := R.frozen 1
      have z2 := R.frozen 2
      have ltR := R.lt
      go_wp2_with fail
      have T2 := ((R.set 0 (.int .i64 e.kind)).set 1 (.int .i64 e.num)).set 2 (.slice s e.kids.length c)
      have hs5 : Spares (fun y => y = w.heap.size + 1) w2 (((w2.setCell ⟨w.heap.size + 1, 0, none⟩ (.int .i64 e.kind)).setCell ⟨w.heap.size + 1, 1, none⟩ (.int .i64 e.num)).setCell ⟨w.heap.size + 1, 2, none⟩ (.slice s e.kids.length c)) := Spares.set (Spares.set (Spares.set (Spares.refl w2)))
      generalize (((w2.setCell ⟨w.heap.size + 1, 0, none⟩ (.int .i64 e.kind)).setCell ⟨w.heap.size + 1, 1, none⟩ (.int .i64 e.num)).setCell ⟨w.heap.size + 1, 2, none⟩ (.slice s e.kids.length c)) = w5 at T2 hs5 ⊢
      have t0 := T2.c0
      have t1 := T2.c1
      have t2 := T2.c2
      have hzB5 := hB.size
      have hB5 := hB.trans (hs5.below (B := w.heap.size) (by omega) (fun y hy => by omega))
      refine bodyPost_ret (v := .agg #[.int .i64 e.kind, .int .i64 e.num, .slice s e.kids.length c]) (by simp [results, Tryz.results143, go_sem, t0, t1, t2]) rfl ?_
      rw [E1.out]
      exact ⟨_, _, rfl, (hx1.keep (KeptX.of_spares hs5 (fun y _ hy => Or.inr (by omega)))).unbox, hB5⟩
    · have c8 : (e.kind == 8) = false := by simp [h8]
      have ee : e.star = .mk 8 0 [e] := by unfold Ex.star; rw [hc]; simp [h8]
      have E1 := Lib.hid ee
      clear ee h8
      go_wp2_with fail
      have N1 := Blk.new3 w2 30 (.int .i64 e.kind) (.int .i64 e.num) (.slice s e.kids.length c)
      have hb1 : Below w2.heap.size w2 (w2.alloc (.cells #[.int .i64 e.kind, .int .i64 e.num, .slice s e.kids.length c] 30)) := by (repeat' first | exact Below.refl _ _ | assumption | apply Below.alloc | apply Below.drew | apply Below.setCell | omega | (simp; done) | (simp; omega))
      generalize w2.alloc (.cells #[.int .i64 e.kind, .int .i64 e.num, .slice s e.kids.length c] 30) = w3 at N1 hb1 ⊢
      refine (tree_i).mono ?_
      rintro f w4 ⟨rfl, hb⟩
      replace N1 := N1.below hb
      have hb4 := hb1.trans (hb.mono hb1.size)
      replace hB := Below.on hB hb4 hB.size
      replace R := R.below hb4
      replace hx1 := hx1.below hb4
      have hk := kidsD_one N1 (X := XB X w.heap.size 2) (fun q => q.elim (fun q => by have := hX _ q; omega) (fun q => by omega)) hx1
      clear hb hb1 hb4 l0 l1 l2
      -- the result box w.heap.size + 1 of world w4 is set to an expression; goal: bodyPost. R : the box; Rests: hs5 : Spares, T2
      have r0 := R.c0
      have r1 := R.c1
      have r2 := R.c2
      have z0 := R.frozen 0
      have z1 := R.frozen 1
      have z2 := R.frozen 2
      have ltR := R.lt
      go_wp2_with fail
      have T2 := ((R.set 0 (.int .i64 8)).set 1 (.int .i64 0)).set 2 (.slice (some ⟨w2.heap.size, 0, none⟩) 1 1)
      have hs5 : Spares (fun y => y = w.heap.size + 1) w4 (((w4.setCell ⟨w.heap.size + 1, 0, none⟩ (.int .i64 8)).setCell ⟨w.heap.size + 1, 1, none⟩ (.int .i64 0)).setCell ⟨w.heap.size + 1, 2, none⟩ (.slice (some ⟨w2.heap.size, 0, none⟩) 1 1)) := Spares.set (Spares.set (Spares.set (Spares.refl w4)))
      generalize (((w4.setCell ⟨w.heap.size + 1, 0, none⟩ (.int .i64 8)).setCell ⟨w.heap.size + 1, 1, none⟩ (.int .i64 0)).setCell ⟨w.heap.size + 1, 2, none⟩ (.slice (some ⟨w2.heap.size, 0, none⟩) 1 1)) = w5 at T2 hs5 ⊢
      have t0 := T2.c0
      have t1 := T2.c1
      have t2 := T2.c2
      have hzB5 := hB.size
      have hB5 := hB.trans (hs5.below (B := w.heap.size) (by omega) (fun y hy => by omega))
      refine bodyPost_ret (v := .agg #[.int .i64 8, .int .i64 0, .slice (some ⟨w2.heap.size, 0, none⟩) 1 1]) (by simp [results, Tryz.results143, go_sem, t0, t1, t2]) rfl ?_
      rw [E1.out]
      exact ⟨_, _, rfl, ExX.unbox (e := .mk 8 0 [e]) (hk.keep (KeptX.of_spares hs5 (fun y _ hy => Or.inr (by omega)))), hB5⟩
  · have ee : e.star = .leaf 2 := by unfold Ex.star; rw [hc]; simp
    have E1 := Lib.hid ee
    clear ee
    go_wp2_with fail
    refine (leaf_i).mono ?_
    rintro f w4 ⟨rfl, hb⟩
    replace hB := Below.on hB hb hB.size
    replace R := R.below hb
    -- the result box w.heap.size + 1 of world w4 is set to an expression; goal: bodyPost. R : the box; Rests: hs5 : Spares, T2
    have r0 := R.c0
    have r1 := R.c1
    have r2 := R.c2
    have z0 := R.frozen 0
    have z1 := R.frozen 1
    have z2 := R.frozen 2
    have ltR := R.lt
    go_wp2_with fail
    have T2 := ((R.set 0 (.int .i64 2)).set 1 (.int .i64 0)).set 2 (.slice none 0 0)
    have hs5 : Spares (fun y => y = w.heap.size + 1) w4 (((w4.setCell ⟨w.heap.size + 1, 0, none⟩ (.int .i64 2)).setCell ⟨w.heap.size + 1, 1, none⟩ (.int .i64 0)).setCell ⟨w.heap.size + 1, 2, none⟩ (.slice none 0 0)) := Spares.set (Spares.set (Spares.set (Spares.refl w4)))
    generalize (((w4.setCell ⟨w.heap.size + 1, 0, none⟩ (.int .i64 2)).setCell ⟨w.heap.size + 1, 1, none⟩ (.int .i64 0)).setCell ⟨w.heap.size + 1, 2, none⟩ (.slice none 0 0)) = w5 at T2 hs5 ⊢
    have t0 := T2.c0
    have t1 := T2.c1
    have t2 := T2.c2
    have hzB5 := hB.size
    have hB5 := hB.trans (hs5.below (B := w.heap.size) (by omega) (fun y hy => by omega))
    refine bodyPost_ret (v := .agg #[.int .i64 2, .int .i64 0, .slice none 0 0]) (by simp [results, Tryz.results143, go_sem, t0, t1, t2]) rfl ?_
    rw [E1.out]
    exact ⟨_, _, rfl, kidsD_nil, hB5⟩
set_option maxRecDepth 100000 in
set_option maxHeartbeats 8000000 in
theorem tidyDot_all (tm am : Int) (N : Nat) : ∀ (x y : Ex) (X : Nat → Prop) (sx sy : Option Addr) (cx cy : Nat) (w : World), x.size ≤ N → (∀ b, X b → b < w.heap.size) → ExX X w x sx cx → ExX X w y sy cy → x.tree tm am = true →
    Calls Tryz.prog 142 #[.agg #[.int .i64 x.kind, .int .i64 x.num, .slice sx x.kids.length cx], .agg #[.int .i64 y.kind, .int .i64 y.num, .slice sy y.kids.length cy]] w fun f w' => ∃ s' c', f = .returned (.agg #[.int .i64 (x.dot y).kind, .int .i64 (x.dot y).num, .slice s' (x.dot y).kids.length c']) ∧ ExX X w' (x.dot y) s' c' ∧ Below w.heap.size w w' := by
  induction N using Nat.strongRecOn with
  | _ N ih =>
  intro x y X sx sy cx cy w hN hX hx hy ht
  have HIH := Lib.hid ih
  clear ih
  obtain ⟨-, hlen, hcap, -, -⟩ := kid_at hx.rd
  obtain ⟨-, hlen', hcap', -, -⟩ := kid_at hy.rd
  unfold maxLen at hcap hcap'
  obtain ⟨k, n, ks⟩ := x
  obtain ⟨k', n', ks'⟩ := y
  have edef : (Ex.mk k n ks).dot (.mk k' n' ks') = dotC k n ks (Ex.dotL ks) (.mk k' n' ks') := Ex.dot_eq ..
  simp only [Ex.kind_mk, Ex.num_mk, Ex.kids_mk] at hlen hlen' ⊢
  by_cases h1 : k = 1
  · subst h1
    have E1 : Hid ((Ex.mk 1 n ks).dot (.mk k' n' ks') = .leaf 1) := by show _ = _; rw [edef, dotC, if_pos (Or.inl rfl)]
    clear edef
    go_enter Tryz.func142, Tryz.ntmps142
    go_wp2_with fail
    have L := ((Blk.new3 w 30 (.int .i64 1) (.int .i64 n) (.slice sx ks.length cx)).alloc (.cells #[.int .i64 k', .int .i64 n', .slice sy ks'.length cy] 30)).alloc (.cells #[.int .i64 0, .int .i64 0, .slice none 0 0] 30)
    have M := (Blk.new3 (w.alloc (.cells #[.int .i64 1, .int .i64 n, .slice sx ks.length cx] 30)) 30 (.int .i64 k') (.int .i64 n') (.slice sy ks'.length cy)).alloc (.cells #[.int .i64 0, .int .i64 0, .slice none 0 0] 30)
    have R := Blk.new3 ((w.alloc (.cells #[.int .i64 1, .int .i64 n, .slice sx ks.length cx] 30)).alloc (.cells #[.int .i64 k', .int .i64 n', .slice sy ks'.length cy] 30)) 30 (.int .i64 0) (.int .i64 0) (.slice none 0 0)
    have hB : Below w.heap.size w (((w.alloc (.cells #[.int .i64 1, .int .i64 n, .slice sx ks.length cx] 30)).alloc (.cells #[.int .i64 k', .int .i64 n', .slice sy ks'.length cy] 30)).alloc (.cells #[.int .i64 0, .int .i64 0, .slice none 0 0] 30)) := by (repeat' first | exact Below.refl _ _ | assumption | apply Below.alloc | apply Below.drew | apply Below.setCell | omega | (simp; done) | (simp; omega))
    have hz0 : (((w.alloc (.cells #[.int .i64 1, .int .i64 n, .slice sx ks.length cx] 30)).alloc (.cells #[.int .i64 k', .int .i64 n', .slice sy ks'.length cy] 30)).alloc (.cells #[.int .i64 0, .int .i64 0, .slice none 0 0] 30)).heap.size = w.heap.size + 3 := by simp
    simp at M R
    generalize ((w.alloc (.cells #[.int .i64 1, .int .i64 n, .slice sx ks.length cx] 30)).alloc (.cells #[.int .i64 k', .int .i64 n', .slice sy ks'.length cy] 30)).alloc (.cells #[.int .i64 0, .int .i64 0, .slice none 0 0] 30) = wb at L M R hB hz0 ⊢
    have hx1 : ExX (XB X w.heap.size 3) wb (.mk 1 n ks) sx cx := hx.boxes hB
    have hy1 : ExX (XB X w.heap.size 3) wb (.mk k' n' ks') sy cy := hy.boxes hB
    have hB' := hB
    have hGl : ∀ b, XB X w.heap.size 3 b → b < wb.heap.size := fun b q => q.elim (fun q => by have := hX _ q; omega) (fun q => by omega)
    clear hx hy
    refine (leaf_i).mono ?_
    rintro f w4 ⟨rfl, hb⟩
    replace hB := Below.on hB hb hB.size
    replace R := R.below hb
    -- the result box w.heap.size + 1 + 1 of world w4 is set to an expression; goal: bodyPost. R : the box; Rests: hs5 : Spares, T2
    have r0 := R.c0
    have r1 := R.c1
    have r2 := R.c2
    have z0 := R.frozen 0
    have z1 := R.frozen 1
    have z2 := R.frozen 2
    have ltR := R.lt
    go_wp2_with fail
    have T2 := ((R.set 0 (.int .i64 1)).set 1 (.int .i64 0)).set 2 (.slice none 0 0)
    have hs5 : Spares (fun y => y = w.heap.size + 1 + 1) w4 (((w4.setCell ⟨w.heap.size + 1 + 1, 0, none⟩ (.int .i64 1)).setCell ⟨w.heap.size + 1 + 1, 1, none⟩ (.int .i64 0)).setCell ⟨w.heap.size + 1 + 1, 2, none⟩ (.slice none 0 0)) := Spares.set (Spares.set (Spares.set (Spares.refl w4)))
    generalize (((w4.setCell ⟨w.heap.size + 1 + 1, 0, none⟩ (.int .i64 1)).setCell ⟨w.heap.size + 1 + 1, 1, none⟩ (.int .i64 0)).setCell ⟨w.heap.size + 1 + 1, 2, none⟩ (.slice none 0 0)) = w5 at T2 hs5 ⊢
    have t0 := T2.c0
    have t1 := T2.c1
    have t2 := T2.c2
    have hzB5 := hB.size
    have hB5 := hB.trans (hs5.below (B := w.heap.size) (by omega) (fun y hy => by omega))
    refine bodyPost_ret (v := .agg #[.int .i64 1, .int .i64 0, .slice none 0 0]) (by simp [results, Tryz.results142, go_sem, t0, t1, t2]) rfl ?_
    rw [E1.out]
    exact ⟨_, _, rfl, kidsD_nil, hB5⟩
  have c1 : (k == 1) = false := by simp [h1]
  by_cases h2 : k' = 1
  · subst h2
    have E1 : Hid ((Ex.mk k n ks).dot (.mk 1 n' ks') = .leaf 1) := by show _ = _; rw [edef, dotC, if_pos (Or.inr (show (Ex.mk 1 n' ks').kind = 1 from rfl))]
    clear edef h1
    go_enter Tryz.func142, Tryz.ntmps142
    go_wp2_with fail
    have L := ((Blk.new3 w 30 (.int .i64 k) (.int .i64 n) (.slice sx ks.length cx)).alloc (.cells #[.int .i64 1, .int .i64 n', .slice sy ks'.length cy] 30)).alloc (.cells #[.int .i64 0, .int .i64 0, .slice none 0 0] 30)
    have M := (Blk.new3 (w.alloc (.cells #[.int .i64 k, .int .i64 n, .slice sx ks.length cx] 30)) 30 (.int .i64 1) (.int .i64 n') (.slice sy ks'.length cy)).alloc (.cells #[.int .i64 0, .int .i64 0, .slice none 0 0] 30)
    have R := Blk.new3 ((w.alloc (.cells #[.int .i64 k, .int .i64 n, .slice sx ks.length cx] 30)).alloc (.cells #[.int .i64 1, .int .i64 n', .slice sy ks'.length cy] 30)) 30 (.int .i64 0) (.int .i64 0) (.slice none 0 0)
    have hB : Below w.heap.size w (((w.alloc (.cells #[.int .i64 k, .int .i64 n, .slice sx ks.length cx] 30)).alloc (.cells #[.int .i64 1, .int .i64 n', .slice sy ks'.length cy] 30)).alloc (.cells #[.int .i64 0, .int .i64 0, .slice none 0 0] 30)) := by (repeat' first | exact Below.refl _ _ | assumption | apply Below.alloc | apply Below.drew | apply Below.setCell | omega | (simp; done) | (simp; omega))
    have hz0 : (((w.alloc (.cells #[.int .i64 k, .int .i64 n, .slice sx ks.length cx] 30)).alloc (.cells #[.int .i64 1, .int .i64 n', .slice sy ks'.length cy] 30)).alloc (.cells #[.int .i64 0, .int .i64 0, .slice none 0 0] 30)).heap.size = w.heap.size + 3 := by simp
    simp at M R
    generalize ((w.alloc (.cells #[.int .i64 k, .int .i64 n, .slice sx ks.length cx] 30)).alloc (.cells #[.int .i64 1, .int .i64 n', .slice sy ks'.length cy] 30)).alloc (.cells #[.int .i64 0, .int .i64 0, .slice none 0 0] 30) = wb at L M R hB hz0 ⊢
    have hx1 : ExX (XB X w.heap.size 3) wb (.mk k n ks) sx cx := hx.boxes hB
    have hy1 : ExX (XB X w.heap.size 3) wb (.mk 1 n' ks') sy cy := hy.boxes hB
    have hB' := hB
    have hGl : ∀ b, XB X w.heap.size 3 b → b < wb.heap.size := fun b q => q.elim (fun q => by have := hX _ q; omega) (fun q => by omega)
    clear hx hy
    refine (leaf_i).mono ?_
    rintro f w4 ⟨rfl, hb⟩
    replace hB := Below.on hB hb hB.size
    replace R := R.below hb
    -- the result box w.heap.size + 1 + 1 of world w4 is set to an expression; goal: bodyPost. R : the box; Rests: hs5 : Spares, T2
    have r0 := R.c0
    have r1 := R.c1
    have r2 := R.c2
    have z0 := R.frozen 0
    have z1 := R.frozen 1
    have z2 := R.frozen 2
    have ltR := R.lt
    go_wp2_with fail
    have T2 := ((R.set 0 (.int .i64 1)).set 1 (.int .i64 0)).set 2 (.slice none 0 0)
    have hs5 : Spares (fun y => y = w.heap.size + 1 + 1) w4 (((w4.setCell ⟨w.heap.size + 1 + 1, 0, none⟩ (.int .i64 1)).setCell ⟨w.heap.size + 1 + 1, 1, none⟩ (.int .i64 0)).setCell ⟨w.heap.size + 1 + 1, 2, none⟩ (.slice none 0 0)) := Spares.set (Spares.set (Spares.set (Spares.refl w4)))
    generalize (((w4.setCell ⟨w.heap.size + 1 + 1, 0, none⟩ (.int .i64 1)).setCell ⟨w.heap.size + 1 + 1, 1, none⟩ (.int .i64 0)).setCell ⟨w.heap.size + 1 + 1, 2, none⟩ (.slice none 0 0)) = w5 at T2 hs5 ⊢
    have t0 := T2.c0
    have t1 := T2.c1
    have t2 := T2.c2
    have hzB5 := hB.size
    have hB5 := hB.trans (hs5.below (B := w.heap.size) (by omega) (fun y hy => by omega))
    refine bodyPost_ret (v := .agg #[.int .i64 1, .int .i64 0, .slice none 0 0]) (by simp [results, Tryz.results142, go_sem, t0, t1, t2]) rfl ?_
    rw [E1.out]
    exact ⟨_, _, rfl, kidsD_nil, hB5⟩
  have c2 : (k' == 1) = false := by simp [h2]
  have hor : ¬ (k = 1 ∨ (Ex.mk k' n' ks').kind = 1) := fun q => q.elim h1 h2
  by_cases h3 : k = 2
  · have E1 : Hid ((Ex.mk k n ks).dot (.mk k' n' ks') = .mk k' n' ks') := by show _ = _; rw [edef, dotC, if_neg hor, if_pos h3]
    subst h3
    clear edef h1 h2 hor c1
    go_enter Tryz.func142, Tryz.ntmps142
    go_wp2_with fail
    refine bodyPost_ret (v := .agg #[.int .i64 k', .int .i64 n', .slice sy ks'.length cy]) (by simp [results, Tryz.results142, go_sem]) rfl ?_
    rw [E1.out]
    exact ⟨_, _, rfl, hy.below (by (repeat' first | exact Below.refl _ _ | assumption | apply Below.alloc | apply Below.drew | apply Below.setCell | omega | (simp; done) | (simp; omega))), by (repeat' first | exact Below.refl _ _ | assumption | apply Below.alloc | apply Below.drew | apply Below.setCell | omega | (simp; done) | (simp; omega))⟩
  have c3 : (k == 2) = false := by simp [h3]
  by_cases h4 : k' = 2
  · have E1 : Hid ((Ex.mk k n ks).dot (.mk k' n' ks') = .mk k n ks) := by show _ = _; rw [edef, dotC, if_neg hor, if_neg h3, if_pos (show (Ex.mk k' n' ks').kind = 2 from h4)]
    subst h4
    clear edef h1 h2 hor c2 h3
    go_enter Tryz.func142, Tryz.ntmps142
    go_wp2_with fail
    refine bodyPost_ret (v := .agg #[.int .i64 k, .int .i64 n, .slice sx ks.length cx]) (by simp [results, Tryz.results142, go_sem]) rfl ?_
    rw [E1.out]
    exact ⟨_, _, rfl, hx.below (by (repeat' first | exact Below.refl _ _ | assumption | apply Below.alloc | apply Below.drew | apply Below.setCell | omega | (simp; done) | (simp; omega))), by (repeat' first | exact Below.refl _ _ | assumption | apply Below.alloc | apply Below.drew | apply Below.setCell | omega | (simp; done) | (simp; omega))⟩
  have c4 : (k' == 2) = false := by simp [h4]
  by_cases h7 : k = 7
  rotate_left
  · have E1 : Hid ((Ex.mk k n ks).dot (.mk k' n' ks') = .two 7 (.mk k n ks) (.mk k' n' ks')) := by show _ = _; rw [edef, dotC, if_neg hor, if_neg h3, if_neg (show ¬ (Ex.mk k' n' ks').kind = 2 from h4), if_neg h7]
    have c5 : (k == 7) = false := by simp [h7]
    clear edef h1 h2 h3 h4 h7 hor
    go_enter Tryz.func142, Tryz.ntmps142
    go_wp2_with fail
    have L := ((Blk.new3 w 30 (.int .i64 k) (.int .i64 n) (.slice sx ks.length cx)).alloc (.cells #[.int .i64 k', .int .i64 n', .slice sy ks'.length cy] 30)).alloc (.cells #[.int .i64 0, .int .i64 0, .slice none 0 0] 30)
    have M := (Blk.new3 (w.alloc (.cells #[.int .i64 k, .int .i64 n, .slice sx ks.length cx] 30)) 30 (.int .i64 k') (.int .i64 n') (.slice sy ks'.length cy)).alloc (.cells #[.int .i64 0, .int .i64 0, .slice none 0 0] 30)
    have R := Blk.new3 ((w.alloc (.cells #[.int .i64 k, .int .i64 n, .slice sx ks.length cx] 30)).alloc (.cells #[.int .i64 k', .int .i64 n', .slice sy ks'.length cy] 30)) 30 (.int .i64 0) (.int .i64 0) (.slice none 0 0)
    have hB : Below w.heap.size w (((w.alloc (.cells #[.int .i64 k, .int .i64 n, .slice sx ks.length cx] 30)).alloc (.cells #[.int .i64 k', .int .i64 n', .slice sy ks'.length cy] 30)).alloc (.cells #[.int .i64 0, .int .i64 0, .slice none 0 0] 30)) := by (repeat' first | exact Below.refl _ _ | assumption | apply Below.alloc | apply Below.drew | apply Below.setCell | omega | (simp; done) | (simp; omega))
    have hz0 : (((w.alloc (.cells #[.int .i64 k, .int .i64 n, .slice sx ks.length cx] 30)).alloc (.cells #[.int .i64 k', .int .i64 n', .slice sy ks'.length cy] 30)).alloc (.cells #[.int .i64 0, .int .i64 0, .slice none 0 0] 30)).heap.size = w.heap.size + 3 := by simp
    simp at M R
    generalize ((w.alloc (.cells #[.int .i64 k, .int .i64 n, .slice sx ks.length cx] 30)).alloc (.cells #[.int .i64 k', .int .i64 n', .slice sy ks'.length cy] 30)).alloc (.cells #[.int .i64 0, .int .i64 0, .slice none 0 0] 30) = wb at L M R hB hz0 ⊢
    have hx1 : ExX (XB X w.heap.size 3) wb (.mk k n ks) sx cx := hx.boxes hB
    have hy1 : ExX (XB X w.heap.size 3) wb (.mk k' n' ks') sy cy := hy.boxes hB
    have hB' := hB
    have hGl : ∀ b, XB X w.heap.size 3 b → b < wb.heap.size := fun b q => q.elim (fun q => by have := hX _ q; omega) (fun q => by omega)
    clear hx hy
    have N1 : Blk _ wb.heap.size 30 [.int .i64 k, .int .i64 n, .slice sx ks.length cx, .int .i64 k', .int .i64 n', .slice sy ks'.length cy] := Blk.made wb 30 #[.int .i64 k, .int .i64 n, .slice sx ks.length cx, .int .i64 k', .int .i64 n', .slice sy ks'.length cy]
    have hb1 : Below wb.heap.size wb (wb.alloc (.cells #[.int .i64 k, .int .i64 n, .slice sx ks.length cx, .int .i64 k', .int .i64 n', .slice sy ks'.length cy] 30)) := by (repeat' first | exact Below.refl _ _ | assumption | apply Below.alloc | apply Below.drew | apply Below.setCell | omega | (simp; done) | (simp; omega))
    generalize wb.alloc (.cells #[.int .i64 k, .int .i64 n, .slice sx ks.length cx, .int .i64 k', .int .i64 n', .slice sy ks'.length cy] 30) = w3 at N1 hb1 ⊢
    refine (tree_i).mono ?_
    rintro f w4 ⟨rfl, hb⟩
    replace N1 := N1.below hb
    have hb4 := hb1.trans (hb.mono hb1.size)
    replace hB := Below.on hB hb4 hB.size
    replace R := R.below hb4
    replace hx1 := hx1.below hb4
    replace hy1 := hy1.below hb4
    rw [show wb.heap.size = w.heap.size + 1 + 1 + 1 from hz0] at N1
    have hk := kidsD_two (x := .mk k n ks) (y := .mk k' n' ks') N1 (X := XB X w.heap.size 3) (fun q => by have := hGl _ q; omega) hx1 hy1
    clear hb hb1 hb4
    -- the result box w.heap.size + 1 + 1 of world w4 is set to an expression; goal: bodyPost. R : the box; Rests: hs5 : Spares, T2
    have r0 := R.c0
    have r1 := R.c1
    have r2 := R.c2
    have z0 := R.frozen 0
    have z1 := R.frozen 1
    have z2 := R.frozen 2
    have ltR := R.lt
    go_wp2_with fail
    have T2 := ((R.set 0 (.int .i64 7)).set 1 (.int .i64 0)).set 2 (.slice (some ⟨w.heap.size + 1 + 1 + 1, 0, none⟩) 2 2)
    have hs5 : Spares (fun y => y = w.heap.size + 1 + 1) w4 (((w4.setCell ⟨w.heap.size + 1 + 1, 0, none⟩ (.int .i64 7)).setCell ⟨w.heap.size + 1 + 1, 1, none⟩ (.int .i64 0)).setCell ⟨w.heap.size + 1 + 1, 2, none⟩ (.slice (some ⟨w.heap.size + 1 + 1 + 1, 0, none⟩) 2 2)) := Spares.set (Spares.set (Spares.set (Spares.refl w4)))
    generalize (((w4.setCell ⟨w.heap.size + 1 + 1, 0, none⟩ (.int .i64 7)).setCell ⟨w.heap.size + 1 + 1, 1, none⟩ (.int .i64 0)).setCell ⟨w.heap.size + 1 + 1, 2, none⟩ (.slice (some ⟨w.heap.size + 1 + 1 + 1, 0, none⟩) 2 2)) = w5 at T2 hs5 ⊢
    have t0 := T2.c0
    have t1 := T2.c1
    have t2 := T2.c2
    have hzB5 := hB.size
    have hB5 := hB.trans (hs5.below (B := w.heap.size) (by omega) (fun y hy => by omega))
    refine bodyPost_ret (v := .agg #[.int .i64 7, .int .i64 0, .slice (some ⟨w.heap.size + 1 + 1 + 1, 0, none⟩) 2 2]) (by simp [results, Tryz.results142, go_sem, t0, t1, t2]) rfl ?_
    rw [E1.out]
    exact ⟨_, _, rfl, ExX.unbox (e := .two 7 (.mk k n ks) (.mk k' n' ks')) (hk.keep (KeptX.of_spares hs5 (fun q _ hq => Or.inr (by omega)))), hB5⟩
  subst h7
  obtain ⟨hk, -, -, htl⟩ := tree_parts ht
  obtain ⟨u, v, rfl⟩ := two_kids hk (by omega)
  have hsz := Ex.size_eq (.mk 7 n [u, v])
  simp only [Ex.sizeL, Ex.kids] at hsz
  have E1 : Hid ((Ex.mk 7 n [u, v]).dot (.mk k' n' ks') = u.dot (v.dot (.mk k' n' ks'))) := by
    show _ = _
    exact Ex.dot_seven h2 h4
  have hut : u.tree tm am = true := Ex.treeL_mem htl (by simp)
  have hvt : v.tree tm am = true := Ex.treeL_mem htl (by simp)
  obtain ⟨kb, ko, su, cu, rfl, -, -, -, -, -, -, -⟩ := kidX0 hx
  simp only [List.length_cons, List.length_nil, Nat.zero_add] at hlen ⊢
  clear edef h1 h2 h3 h4 c1 c3 htl hk hor
  go_enter Tryz.func142, Tryz.ntmps142
  go_wp2_with fail
  have L := ((Blk.new3 w 30 (.int .i64 7) (.int .i64 n) (.slice (some ⟨kb, ko, none⟩) 2 cx)).alloc (.cells #[.int .i64 k', .int .i64 n', .slice sy ks'.length cy] 30)).alloc (.cells #[.int .i64 0, .int .i64 0, .slice none 0 0] 30)
  have M := (Blk.new3 (w.alloc (.cells #[.int .i64 7, .int .i64 n, .slice (some ⟨kb, ko, none⟩) 2 cx] 30)) 30 (.int .i64 k') (.int .i64 n') (.slice sy ks'.length cy)).alloc (.cells #[.int .i64 0, .int .i64 0, .slice none 0 0] 30)
  have R := Blk.new3 ((w.alloc (.cells #[.int .i64 7, .int .i64 n, .slice (some ⟨kb, ko, none⟩) 2 cx] 30)).alloc (.cells #[.int .i64 k', .int .i64 n', .slice sy ks'.length cy] 30)) 30 (.int .i64 0) (.int .i64 0) (.slice none 0 0)
  have hB : Below w.heap.size w (((w.alloc (.cells #[.int .i64 7, .int .i64 n, .slice (some ⟨kb, ko, none⟩) 2 cx] 30)).alloc (.cells #[.int .i64 k', .int .i64 n', .slice sy ks'.length cy] 30)).alloc (.cells #[.int .i64 0, .int .i64 0, .slice none 0 0] 30)) := by (repeat' first | exact Below.refl _ _ | assumption | apply Below.alloc | apply Below.drew | apply Below.setCell | omega | (simp; done) | (simp; omega))
  have hz0 : (((w.alloc (.cells #[.int .i64 7, .int .i64 n, .slice (some ⟨kb, ko, none⟩) 2 cx] 30)).alloc (.cells #[.int .i64 k', .int .i64 n', .slice sy ks'.length cy] 30)).alloc (.cells #[.int .i64 0, .int .i64 0, .slice none 0 0] 30)).heap.size = w.heap.size + 3 := by simp
  simp at M R
  generalize ((w.alloc (.cells #[.int .i64 7, .int .i64 n, .slice (some ⟨kb, ko, none⟩) 2 cx] 30)).alloc (.cells #[.int .i64 k', .int .i64 n', .slice sy ks'.length cy] 30)).alloc (.cells #[.int .i64 0, .int .i64 0, .slice none 0 0] 30) = wb at L M R hB hz0 ⊢
  have hx1 : ExX (XB X w.heap.size 3) wb (.mk 7 n [u, v]) (some ⟨kb, ko, none⟩) cx := hx.boxes hB
  have hy1 : ExX (XB X w.heap.size 3) wb (.mk k' n' ks') sy cy := hy.boxes hB
  have hB' := hB
  have hGl : ∀ b, XB X w.heap.size 3 b → b < wb.heap.size := fun b q => q.elim (fun q => by have := hX _ q; omega) (fun q => by omega)
  clear hx hy
  obtain ⟨kb', ko', su, cu, e1, -, -, -, hkb, hkX, ku, hu⟩ := kidX0 (r := [v]) hx1
  simp only [Option.some.injEq, Addr.mk.injEq, and_true] at e1
  obtain ⟨rfl, rfl⟩ := e1
  obtain ⟨sv, cv, kv, hv⟩ := kidX1 (r := []) hx1
  clear hx1
  have hXW := hGl
  have Hku := Lib.hid ku
  have Hkv := Lib.hid kv
  clear ku kv
  obtain ⟨x0, hx0⟩ := mkval ?a1_0
  obtain ⟨x1, hx1⟩ := mkval ?a1_1
  obtain ⟨x2, hx2⟩ := mkval ?a1_2
  obtain ⟨x3, hx3⟩ := mkval ?a1_3
  obtain ⟨x4, hx4⟩ := mkval ?a1_4
  obtain ⟨x5, hx5⟩ := mkval ?a1_5
  obtain ⟨x6, hx6⟩ := mkval ?a1_6
  obtain ⟨x7, hx7⟩ := mkval ?a1_7
  obtain ⟨x8, hx8⟩ := mkval ?a1_8
  have hGb : ∀ m b, (fun m b => (m = 0 ∧ b = (w.heap.size + 1 + 1))) m b → (w.heap.size) ≤ b ∧ b < (wb).heap.size := by
    intro m b hg
    rcases hg with ⟨rfl, hg⟩
    · subst hg
      have q := R.lt
      omega
  have hGd : ∀ m m' b, (fun m b => (m = 0 ∧ b = (w.heap.size + 1 + 1))) m b → (fun m b => (m = 0 ∧ b = (w.heap.size + 1 + 1))) m' b → m = m' := by
    intro m m' b h h'
    rcases h with ⟨rfl, h⟩ <;> rcases h' with ⟨rfl, h'⟩ <;> first
      | rfl
  have hGX : ∀ m b, (fun m b => (m = 0 ∧ b = (w.heap.size + 1 + 1))) m b → (XB X w.heap.size 3) b := by
    intro m b hg
    exact Or.inr (by omega)
  refine region_rs [(10, 9)] [(11, 0)] (fun m b => (m = 0 ∧ b = (w.heap.size + 1 + 1))) (w.heap.size) (fun i iv vs wx => match i with
    | 0 => vs 0 = x0
    | 1 => vs 1 = x1
    | 2 => vs 2 = x2
    | 3 => vs 3 = x3
    | 4 => vs 4 = x4
    | 5 => vs 5 = x5
    | 6 => vs 6 = x6
    | 7 => vs 7 = x7
    | 8 => vs 8 = x8
    | 9 => ∃ s1 c1', vs 9 = .agg #[.int .i64 (v.dot (.mk k' n' ks')).kind, .int .i64 (v.dot (.mk k' n' ks')).num, .slice s1 (v.dot (.mk k' n' ks')).kids.length c1'] ∧ RdO wb (XB X w.heap.size 3) (foot [(10, 9)] [(11, 0)] (fun m b => (m = 0 ∧ b = (w.heap.size + 1 + 1))) 12 9 iv) wx (kidsD (v.dot (.mk k' n' ks')).kids) (.slice s1 (v.dot (.mk k' n' ks')).kids.length c1')
    | 10 => ∃ s2 c2', vs 10 = .agg #[.int .i64 (u.dot (v.dot (.mk k' n' ks'))).kind, .int .i64 (u.dot (v.dot (.mk k' n' ks'))).num, .slice s2 (u.dot (v.dot (.mk k' n' ks'))).kids.length c2'] ∧ RdO wb (XB X w.heap.size 3) (foot [(10, 9)] [(11, 0)] (fun m b => (m = 0 ∧ b = (w.heap.size + 1 + 1))) 12 10 iv) wx (kidsD (u.dot (v.dot (.mk k' n' ks'))).kids) (.slice s2 (u.dot (v.dot (.mk k' n' ks'))).kids.length c2')
    | 11 => Blk wx (w.heap.size + 1 + 1) 30 [aggAt (vs 10) 0, aggAt (vs 10) 1, aggAt (vs 10) 2]
    | _ => True) (fun i iv vs => match i with
    | 0 => vs 0 = x0
    | 1 => vs 1 = x1
    | 2 => vs 2 = x2
    | 3 => vs 3 = x3
    | 4 => vs 4 = x4
    | 5 => vs 5 = x5
    | 6 => vs 6 = x6
    | 7 => vs 7 = x7
    | 8 => vs 8 = x8
    | 9 => ∃ s1 c1', vs 9 = .agg #[.int .i64 (v.dot (.mk k' n' ks')).kind, .int .i64 (v.dot (.mk k' n' ks')).num, .slice s1 (v.dot (.mk k' n' ks')).kids.length c1']
    | 10 => ∃ s2 c2', vs 10 = .agg #[.int .i64 (u.dot (v.dot (.mk k' n' ks'))).kind, .int .i64 (u.dot (v.dot (.mk k' n' ks'))).num, .slice s2 (u.dot (v.dot (.mk k' n' ks'))).kids.length c2']
    | 11 => True
    | _ => True) (by kernel_rfl) (by kernel_rfl) [0, 1, 2, 3, 4, 5, 6, 7, 8, 9, 10, 11] (by kernel_rfl) ?hbase ?hGb ?hG ?hJ ?hE ?hEE ?hstep ?hQ
  case hbase => first | exact Nat.le_refl _ | omega | (simp; omega)
  case hGb =>
    exact hGb
  case hG =>
    exact hGd
  case hJ =>
    intro i hi iv iv' vs vs' wx wx' ha hv hz hk hj
    simp only [List.mem_cons, List.not_mem_nil, or_false] at hi
    rcases hi with rfl | rfl | rfl | rfl | rfl | rfl | rfl | rfl | rfl | rfl | rfl | rfl
    · exact (hv.out 0 (mem_of (by kernel_rfl))).symm.trans hj
    · exact (hv.out 1 (mem_of (by kernel_rfl))).symm.trans hj
    · exact (hv.out 2 (mem_of (by kernel_rfl))).symm.trans hj
    · exact (hv.out 3 (mem_of (by kernel_rfl))).symm.trans hj
    · exact (hv.out 4 (mem_of (by kernel_rfl))).symm.trans hj
    · exact (hv.out 5 (mem_of (by kernel_rfl))).symm.trans hj
    · exact (hv.out 6 (mem_of (by kernel_rfl))).symm.trans hj
    · exact (hv.out 7 (mem_of (by kernel_rfl))).symm.trans hj
    · exact (hv.out 8 (mem_of (by kernel_rfl))).symm.trans hj
    · have e9 := hv.out 9 (mem_of (by kernel_rfl))
      obtain ⟨s1, c1', q1, q2⟩ := hj
      exact ⟨s1, c1', e9 ▸ q1, q2.keep hz (fun b hb h1 => hk.out b hb h1) (fun b h1 => foot_agree (l := ancs _ 12 9) (by exact of_decide_eq_true (by kernel_rfl)) ha.out h1)⟩
    · have e10 := hv.out 10 (mem_of (by kernel_rfl))
      obtain ⟨s2, c2', q1, q2⟩ := hj
      exact ⟨s2, c2', e10 ▸ q1, q2.keep hz (fun b hb h1 => hk.out b hb h1) (fun b h1 => foot_agree (l := ancs _ 12 10) (by exact of_decide_eq_true (by kernel_rfl)) ha.out h1)⟩
    · have e10 := hv.out 10 (mem_of (by kernel_rfl))
      have hj' : Blk wx (w.heap.size + 1 + 1) 30 [aggAt (vs 10) 0, aggAt (vs 10) 1, aggAt (vs 10) 2] := hj
      show Blk wx' (w.heap.size + 1 + 1) 30 [aggAt (vs' 10) 0, aggAt (vs' 10) 1, aggAt (vs' 10) 2]
      rw [← e10]
      exact hj'.keep (hk.out _ hj'.lt (foot_given 0 (by decide) ⟨rfl, rfl⟩))
  case hE =>
    intro i hi iv vs wx hj
    simp only [List.mem_cons, List.not_mem_nil, or_false] at hi
    rcases hi with rfl | rfl | rfl | rfl | rfl | rfl | rfl | rfl | rfl | rfl | rfl | rfl
    · exact hj
    · exact hj
    · exact hj
    · exact hj
    · exact hj
    · exact hj
    · exact hj
    · exact hj
    · exact hj
    · obtain ⟨s1, c1', q1, -⟩ := hj
      exact ⟨s1, c1', q1⟩
    · obtain ⟨s2, c2', q1, -⟩ := hj
      exact ⟨s2, c2', q1⟩
    · trivial
  case hEE =>
    intro i hi iv iv' vs vs' ha hv hj
    simp only [List.mem_cons, List.not_mem_nil, or_false] at hi
    rcases hi with rfl | rfl | rfl | rfl | rfl | rfl | rfl | rfl | rfl | rfl | rfl | rfl
    · exact (hv.out 0 (mem_of (by kernel_rfl))).symm.trans hj
    · exact (hv.out 1 (mem_of (by kernel_rfl))).symm.trans hj
    · exact (hv.out 2 (mem_of (by kernel_rfl))).symm.trans hj
    · exact (hv.out 3 (mem_of (by kernel_rfl))).symm.trans hj
    · exact (hv.out 4 (mem_of (by kernel_rfl))).symm.trans hj
    · exact (hv.out 5 (mem_of (by kernel_rfl))).symm.trans hj
    · exact (hv.out 6 (mem_of (by kernel_rfl))).symm.trans hj
    · exact (hv.out 7 (mem_of (by kernel_rfl))).symm.trans hj
    · exact (hv.out 8 (mem_of (by kernel_rfl))).symm.trans hj
    · have e9 := hv.out 9 (mem_of (by kernel_rfl))
      have hj' : ∃ s1 c1', vs 9 = .agg #[.int .i64 (v.dot (.mk k' n' ks')).kind, .int .i64 (v.dot (.mk k' n' ks')).num, .slice s1 (v.dot (.mk k' n' ks')).kids.length c1'] := hj
      show ∃ s1 c1', vs' 9 = .agg #[.int .i64 (v.dot (.mk k' n' ks')).kind, .int .i64 (v.dot (.mk k' n' ks')).num, .slice s1 (v.dot (.mk k' n' ks')).kids.length c1']
      rw [← e9]
      exact hj'
    · have e10 := hv.out 10 (mem_of (by kernel_rfl))
      have hj' : ∃ s2 c2', vs 10 = .agg #[.int .i64 (u.dot (v.dot (.mk k' n' ks'))).kind, .int .i64 (u.dot (v.dot (.mk k' n' ks'))).num, .slice s2 (u.dot (v.dot (.mk k' n' ks'))).kids.length c2'] := hj
      show ∃ s2 c2', vs' 10 = .agg #[.int .i64 (u.dot (v.dot (.mk k' n' ks'))).kind, .int .i64 (u.dot (v.dot (.mk k' n' ks'))).num, .slice s2 (u.dot (v.dot (.mk k' n' ks'))).kids.length c2']
      rw [← e10]
      exact hj'
    · trivial
  case hstep =>
    intro i hi opr ho iv vs w1 hB hS hSo hd he hbd hsep hun K hK
    simp only [List.mem_cons, List.not_mem_nil, or_false] at hi
    have hzB := hB.size
    have kw := hSo.out.block _ hkb (fun ⟨_, _, h⟩ => hkX (Or.inr (by omega)))
    obtain ⟨u0, u1, u2⟩ := Hku.out.keep kw
    obtain ⟨v0, v1, v2⟩ := Hkv.out.keep kw
    have L1 := L.keep (hSo.out.block _ L.lt (fun ⟨_, _, h⟩ => by omega))
    have l0 := L1.c0
    have l1 := L1.c1
    have l2 := L1.c2
    have M1 := M.keep (hSo.out.block _ M.lt (fun ⟨_, _, h⟩ => by omega))
    have m0 := M1.c0
    have m1 := M1.c1
    have m2 := M1.c2
    generalize hA : putFrom _ 0 vs _ = A at hK ⊢
    simp only [putFrom, puts] at hA
    rcases hi with rfl | rfl | rfl | rfl | rfl | rfl | rfl | rfl | rfl | rfl | rfl | rfl
    all_goals
      simp at ho
      subst ho
      subst hA
    · go_wp2_with fail
      refine Onward.mk (hK ?val1_0 _ _ (fun h => by cases h) ?eqA (Spares.refl _) (fun iv' _ _ => ?ja))
      case eqA => first | rfl | (simp only [puts]; rfl)
      case ja => exact hx0.out.symm
    · have h0 := (hd.out 0 (mem_of (by kernel_rfl)) (by decide) (by kernel_rfl)).trans hx0.out
      go_wp2_with fail
      refine Onward.mk (hK ?val1_1 _ _ (fun h => by cases h) ?eqA (Spares.refl _) (fun iv' _ _ => ?ja))
      case eqA => first | rfl | (simp only [puts, h0]; rfl)
      case ja => exact hx1.out.symm
    · have h1 := (hd.out 1 (mem_of (by kernel_rfl)) (by decide) (by kernel_rfl)).trans hx1.out
      go_wp2_with fail
      refine Onward.mk (hK ?val1_2 _ _ (fun h => by cases h) ?eqA (Spares.refl _) (fun iv' _ _ => ?ja))
      case eqA => first | rfl | (simp only [puts, h1]; rfl)
      case ja => exact hx2.out.symm
    · have h2 := (hd.out 2 (mem_of (by kernel_rfl)) (by decide) (by kernel_rfl)).trans hx2.out
      go_wp2_with fail
      refine Onward.mk (hK ?val1_3 _ _ (fun h => by cases h) ?eqA (Spares.refl _) (fun iv' _ _ => ?ja))
      case eqA => first | rfl | (simp only [puts, h2]; rfl)
      case ja => exact hx3.out.symm
    · go_wp2_with fail
      refine Onward.mk (hK ?val1_4 _ _ (fun h => by cases h) ?eqA (Spares.refl _) (fun iv' _ _ => ?ja))
      case eqA => first | rfl | (simp only [puts]; rfl)
      case ja => exact hx4.out.symm
    · have h4 := (hd.out 4 (mem_of (by kernel_rfl)) (by decide) (by kernel_rfl)).trans hx4.out
      go_wp2_with fail
      refine Onward.mk (hK ?val1_5 _ _ (fun h => by cases h) ?eqA (Spares.refl _) (fun iv' _ _ => ?ja))
      case eqA => first | rfl | (simp only [puts, h4]; rfl)
      case ja => exact hx5.out.symm
    · have h5 := (hd.out 5 (mem_of (by kernel_rfl)) (by decide) (by kernel_rfl)).trans hx5.out
      go_wp2_with fail
      refine Onward.mk (hK ?val1_6 _ _ (fun h => by cases h) ?eqA (Spares.refl _) (fun iv' _ _ => ?ja))
      case eqA => first | rfl | (simp only [puts, h5]; rfl)
      case ja => exact hx6.out.symm
    · have h6 := (hd.out 6 (mem_of (by kernel_rfl)) (by decide) (by kernel_rfl)).trans hx6.out
      go_wp2_with fail
      refine Onward.mk (hK ?val1_7 _ _ (fun h => by cases h) ?eqA (Spares.refl _) (fun iv' _ _ => ?ja))
      case eqA => first | rfl | (simp only [puts, h6]; rfl)
      case ja => exact hx7.out.symm
    · go_wp2_with fail
      refine Onward.mk (hK ?val1_8 _ _ (fun h => by cases h) ?eqA (Spares.refl _) (fun iv' _ _ => ?ja))
      case eqA => first | rfl | (simp only [puts]; rfl)
      case ja => exact hx8.out.symm
    · have h7 := (hd.out 7 (mem_of (by kernel_rfl)) (by decide) (by kernel_rfl)).trans hx7.out
      have h8 := (hd.out 8 (mem_of (by kernel_rfl)) (by decide) (by kernel_rfl)).trans hx8.out
      go_wp2_with fail
      have hO : KeptX (XB X w.heap.size 3) wb w1 := KeptX.of_spares hSo.out (fun b _ ⟨m, hg⟩ => hGX m b hg)
      obtain ⟨XQ, hXQ⟩ : ∃ XQ, XQ = OutX wb (XB X w.heap.size 3) (fun b => False) w1 := ⟨_, rfl⟩
      have hXl : ∀ b, XQ b → b < w1.heap.size := by rw [hXQ]; exact OutX.lt
      have hOld : ∀ (d : D) (v : Value), RdX (XB X w.heap.size 3) wb d v → RdX XQ w1 d v := by rw [hXQ]; exact fun d v h => h.toOut hO
      refine (HIH.out v.size (by omega) v (.mk k' n' ks') XQ _ _ _ _ _ (Nat.le_refl _) hXl (hOld _ _ hv) (hOld _ _ hy1) hvt).mono ?_
      rintro e w2 ⟨s1, c1', rfl, hr, hb⟩
      go_wp2_with fail
      rw [hXQ] at hr
      exact Onward.mk (hK (.agg #[.int .i64 (v.dot (.mk k' n' ks')).kind, .int .i64 (v.dot (.mk k' n' ks')).num, .slice s1 (v.dot (.mk k' n' ks')).kids.length c1']) _ _ (fun h => by cases h) (by first | rfl | (simp only [puts, h7, h8])) (Spares.of_below hb) (fun iv' ag hi => ⟨s1, c1', rfl, RdO.ofX hr hb hO (fun b h => by exact h.elim) (fun b h1 h2 => foot_new hi h1 h2)⟩))
    · have h3 := (hd.out 3 (mem_of (by kernel_rfl)) (by decide) (by kernel_rfl)).trans hx3.out
      obtain ⟨s1, c1', h9, f9⟩ := hd.out 9 (mem_of (by kernel_rfl)) (by decide) (by kernel_rfl)
      go_wp2_with fail
      have hO : KeptX (XB X w.heap.size 3) wb w1 := KeptX.of_spares hSo.out (fun b _ ⟨m, hg⟩ => hGX m b hg)
      obtain ⟨XQ, hXQ⟩ : ∃ XQ, XQ = OutX wb (XB X w.heap.size 3) (fun b => (foot [(10, 9)] [(11, 0)] (fun m b => (m = 0 ∧ b = (w.heap.size + 1 + 1))) 12 9 iv) b) w1 := ⟨_, rfl⟩
      have hXl : ∀ b, XQ b → b < w1.heap.size := by rw [hXQ]; exact OutX.lt
      have x9 : RdX XQ w1 (kidsD (v.dot (.mk k' n' ks')).kids) (.slice s1 (v.dot (.mk k' n' ks')).kids.length c1') := by rw [hXQ]; exact f9.toX hO (fun b h => h)
      have hOld : ∀ (d : D) (v : Value), RdX (XB X w.heap.size 3) wb d v → RdX XQ w1 d v := by rw [hXQ]; exact fun d v h => h.toOut hO
      refine (HIH.out u.size (by omega) u (v.dot (.mk k' n' ks')) XQ _ _ _ _ _ (Nat.le_refl _) hXl (hOld _ _ hu) x9 hut).mono ?_
      rintro e w2 ⟨s2, c2', rfl, hr, hb⟩
      go_wp2_with fail
      rw [hXQ] at hr
      exact Onward.mk (hK (.agg #[.int .i64 (u.dot (v.dot (.mk k' n' ks'))).kind, .int .i64 (u.dot (v.dot (.mk k' n' ks'))).num, .slice s2 (u.dot (v.dot (.mk k' n' ks'))).kids.length c2']) _ _ (fun h => by cases h) (by first | rfl | (simp only [puts, h3, h9])) (Spares.of_below hb) (fun iv' ag hi => ⟨s2, c2', rfl, RdO.ofX hr hb hO (fun b h => by exact foot_step (by kernel_rfl) ag h) (fun b h1 h2 => foot_new hi h1 h2)⟩))
    · obtain ⟨s2, c2', h10, f10⟩ := hd.out 10 (mem_of (by kernel_rfl)) (by decide) (by kernel_rfl)
      have R1 := R.keep (hS.out 0 _ (by kernel_rfl) ⟨rfl, rfl⟩)
      have rc0 := R1.c0
      have rz0 := R1.frozen 0
      have rc1 := R1.c1
      have rz1 := R1.frozen 1
      have rc2 := R1.c2
      have rz2 := R1.frozen 2
      have rlt := R1.lt
      go_wp2_with fail
      exact Onward.mk (hK undef _ _ (fun _ => rfl) (by simp only [puts, h10]) ((spares_sets (b0 := (w.heap.size + 1 + 1)) (by repeat (first | exact Spares.refl _ | apply Spares.set))).more (fun b h => Or.inl ⟨0, by decide, ⟨rfl, h⟩⟩)) (fun iv' ag hi => by
        show Blk _ (w.heap.size + 1 + 1) 30 [aggAt (vs 10) 0, aggAt (vs 10) 1, aggAt (vs 10) 2]
        rw [h10]
        exact (((R1.set 0 _).set 1 _).set 2 _)))
  case hQ =>
    intro iv vs wx hB hSp hd he hbd hsep
    have hzB := hB.size
    have h0 := (hd.out 0 (mem_of (by kernel_rfl)) (not_eaten (by kernel_rfl))).trans hx0.out
    have h1 := (hd.out 1 (mem_of (by kernel_rfl)) (not_eaten (by kernel_rfl))).trans hx1.out
    have h2 := (hd.out 2 (mem_of (by kernel_rfl)) (not_eaten (by kernel_rfl))).trans hx2.out
    have h3 := (hd.out 3 (mem_of (by kernel_rfl)) (not_eaten (by kernel_rfl))).trans hx3.out
    have h4 := (hd.out 4 (mem_of (by kernel_rfl)) (not_eaten (by kernel_rfl))).trans hx4.out
    have h5 := (hd.out 5 (mem_of (by kernel_rfl)) (not_eaten (by kernel_rfl))).trans hx5.out
    have h6 := (hd.out 6 (mem_of (by kernel_rfl)) (not_eaten (by kernel_rfl))).trans hx6.out
    have h7 := (hd.out 7 (mem_of (by kernel_rfl)) (not_eaten (by kernel_rfl))).trans hx7.out
    have h8 := (hd.out 8 (mem_of (by kernel_rfl)) (not_eaten (by kernel_rfl))).trans hx8.out
    obtain ⟨s1, c1', h9⟩ := he.out 9 (mem_of (by kernel_rfl))
    obtain ⟨s2, c2', h10, f10⟩ := hd.out 10 (mem_of (by kernel_rfl)) (not_eaten (by kernel_rfl))
    have f11 : Blk _ (w.heap.size + 1 + 1) 30 [aggAt (vs 10) 0, aggAt (vs 10) 1, aggAt (vs 10) 2] := hd.out 11 (mem_of (by kernel_rfl)) (not_eaten (by kernel_rfl))
    simp only [putFrom, puts]
    have hOq : KeptX (XB X w.heap.size 3) wb wx := KeptX.of_spares hSp.out (fun b _ ⟨m, hg⟩ => hGX m b hg)
    have r10 : RdX (XB X w.heap.size 3) wx (kidsD (u.dot (v.dot (.mk k' n' ks'))).kids) (.slice s2 (u.dot (v.dot (.mk k' n' ks'))).kids.length c2') := f10.done hOq (fun b hf hx => by have q := foot_no (l := [0, 1, 2, 3, 4, 5, 6, 7, 8, 9, 10, 11]) (by kernel_rfl) (by kernel_rfl) hbd.out hf; have q' := hXW b hx; omega)
    clear f10
    rw [h10] at f11
    simp only [aggAt] at f11
    have T2 := f11
    have t0 := T2.c0
    have t1 := T2.c1
    have t2 := T2.c2
    go_wp2_with fail
    refine bodyPost_ret (v := .agg #[.int .i64 (u.dot (v.dot (.mk k' n' ks'))).kind, .int .i64 (u.dot (v.dot (.mk k' n' ks'))).num, .slice s2 (u.dot (v.dot (.mk k' n' ks'))).kids.length c2']) (by simp [results, Tryz.results142, go_sem, t0, t1, t2]) rfl ?_
    rw [E1.out]
    exact ⟨_, _, rfl, ExX.unbox (p := w.heap.size) (n := 3) r10, hB'.trans (hB.mono (by omega))⟩
end Go.Proofs.YtjlmdhoajfdkbaaGreatDoor

namespace Go.Proofs.YtjlmdhoajfdkbaaGreatDoor
set_option linter.unusedVariables false
set_option linter.unusedSimpArgs false
open Go.ChangeShapes Go.WideShapes Go.ChangeAt Go.RowKit Go.Deep Go.Sort
structure Sh where
  e : Ex
  s : Option Addr
  c : Nat
def Sh.cells (x : Sh) : List Value := [.int .i64 x.e.kind, .int .i64 x.e.num, .slice x.s x.e.kids.length x.c]
def shs (L : List Sh) : List Value := L.flatMap Sh.cells
def shD (L : List Sh) : List D := (shs L).map D.raw
def ShX (X : Nat → Prop) (w : World) (L : List Sh) : Prop := ∀ x ∈ L, ExX X w x.e x.s x.c
theorem shs_one (x : Sh) : ∀ u ∈ shs [x], u.oneCell' = true := by
  intro u hu
  simp [shs, Sh.cells] at hu
  rcases hu with rfl | rfl | rfl <;> rfl
theorem shD_append (L M : List Sh) : shD (L ++ M) = shD L ++ shD M := by simp [shD, shs]
theorem shs_length : ∀ L : List Sh, (shs L).length = L.length * 3
  | [] => rfl
  | x :: r => by
    have := shs_length r
    simp only [shs, List.flatMap_cons, List.length_append, List.length_cons, Sh.cells] at this ⊢
    simp only [List.length_nil]
    omega
theorem shs_at : ∀ (L : List Sh) (i : Nat) (x : Sh), L[i]? = some x → ∀ j, j < 3 → (shs L)[i * 3 + j]? = x.cells[j]?
  | [], i, x, h => by simp at h
  | y :: r, 0, x, h => by
    simp at h
    subst h
    intro j hj
    simp only [shs, List.flatMap_cons, Nat.zero_mul, Nat.zero_add]
    rw [List.getElem?_append_left (by simp [Sh.cells]; exact hj)]
  | y :: r, i + 1, x, h => by
    intro j hj
    have := shs_at r i x (by simpa using h) j hj
    simp only [shs, List.flatMap_cons] at this ⊢
    rw [List.getElem?_append_right (by simp [Sh.cells]; omega)]
    rw [← this]
    congr 1
    simp [Sh.cells]
    omega
theorem ShX.nil {X : Nat → Prop} {w : World} : ShX X w [] := fun x h => by simp at h
theorem ShX.append {X : Nat → Prop} {w : World} {L M : List Sh} (h : ShX X w L) (k : ShX X w M) : ShX X w (L ++ M) := fun x hx => (List.mem_append.1 hx).elim (h x) (k x)
theorem ShX.keep {X : Nat → Prop} {w w' : World} {L : List Sh} (h : ShX X w L) (k : KeptX X w w') : ShX X w' L := fun x hx => (h x hx).keep k
theorem summ_len {tm am : Int} {e : Ex} (h : e.tree tm am = true) : e.summ.length ≤ e.size := by
  have h2 := (summ_spec tm am _ e (Nat.le_refl _) h).2
  have h3 : ∀ L : List Ex, L.length ≤ sizes L := by
    intro L
    induction L with
    | nil => simp [sizes]
    | cons x r ih =>
      have : 0 < x.size := by rw [Ex.size_eq]; omega
      simp only [sizes, List.map_cons, List.sum_cons, List.length_cons] at ih ⊢
      omega
  have := h3 e.summ
  omega
set_option maxRecDepth 100000 in
set_option maxHeartbeats 8000000 in
theorem summands_all (tm am : Int) (N : Nat) : ∀ (e : Ex) (X S : Nat → Prop) (v : Value) (L : List Sh) (s : Option Addr) (c : Nat) (w0 w : World), e.size ≤ N → KeptX X w0 w → (∀ b, X b → b < w.heap.size) → (∀ b, S b → X b) → ExX X w0 e s c → e.tree tm am = true → L.length + e.size ≤ 1000000 →
    AppS S w 30 3 L.length (shD L) v →
    Calls Tryz.prog 172 #[v, .agg #[.int .i64 e.kind, .int .i64 e.num, .slice s e.kids.length c]] w fun f w' => ∃ v' L', f = .returned v' ∧ (L'.map Sh.e = e.summ ∧ ShX X w0 L') ∧
      AppS (fun b => S b ∨ (w.heap.size ≤ b ∧ b < w'.heap.size)) w' 30 3 (L.length + L'.length) (shD (L ++ L')) v' ∧ Spares S w w' := by
  induction N using Nat.strongRecOn with
  | _ N ih =>
  intro e X S v L s c w0 w hN h0 hX hSX hx ht hlen hV
  have HIH := Lib.hid ih
  clear ih
  obtain ⟨k, n, ks⟩ := e
  have hx1 := hx.keep h0
  obtain ⟨-, hl, hcap, -, -⟩ := kid_at hx1.rd
  unfold maxLen at hcap
  simp only [Ex.kind_mk, Ex.num_mk, Ex.kids_mk] at hl ⊢
  by_cases h1 : k = 1
  · subst h1
    go_enter Tryz.func172, Tryz.ntmps172
    go_wp2_with fail
    go_ret
    exact ⟨v, [], rfl, ⟨by rw [Ex.summ_zero]; rfl, ShX.nil⟩, by simpa using ((hV.keep fun b hb _ => (Below.alloc (Below.refl w.heap.size w) (Nat.le_refl _) _).block b hb).more fun b _ h => Or.inl h), Spares.of_below (by (repeat' first | exact Below.refl _ _ | assumption | apply Below.alloc | apply Below.drew | apply Below.setCell | omega | (simp; done) | (simp; omega)))⟩
  have c1 : (k == 1) = false := by simp [h1]
  by_cases h6 : k = 6
  rotate_left
  · have c6 : (k == 6) = false := by simp [h6]
    have hsum : Hid ((Ex.mk k n ks).summ = [.mk k n ks]) := by show _ = _; exact Ex.summ_else h1 h6
    have hsz : 0 < (Ex.mk k n ks).size := by rw [Ex.size_eq]; omega
    clear h1 h6
    have hV1 : AppS S ((w.alloc (.cells #[.int .i64 k, .int .i64 n, .slice s ks.length c] 30)).alloc (.cells #[.int .i64 k, .int .i64 n, .slice s ks.length c] 30)) 30 3 L.length (shD L) v := hV.keep fun b hb _ => (Below.alloc (Below.alloc (Below.refl w.heap.size w) (Nat.le_refl _) _) (by simp) _).block b hb
    have hB : Below w.heap.size w ((w.alloc (.cells #[.int .i64 k, .int .i64 n, .slice s ks.length c] 30)).alloc (.cells #[.int .i64 k, .int .i64 n, .slice s ks.length c] 30)) := by (repeat' first | exact Below.refl _ _ | assumption | apply Below.alloc | apply Below.drew | apply Below.setCell | omega | (simp; done) | (simp; omega))
    have hz0 : ((w.alloc (.cells #[.int .i64 k, .int .i64 n, .slice s ks.length c] 30)).alloc (.cells #[.int .i64 k, .int .i64 n, .slice s ks.length c] 30)).heap.size = w.heap.size + 2 := by simp
    have hnew : ∀ j u, (shs [⟨.mk k n ks, s, c⟩])[j]? = some u → ((w.alloc (.cells #[.int .i64 k, .int .i64 n, .slice s ks.length c] 30)).alloc (.cells #[.int .i64 k, .int .i64 n, .slice s ks.length c] 30)).cell? ((⟨w.heap.size + 1, 0, none⟩ : Addr).add j) = some u := by
      have := news_blk (Blk.made (w.alloc (.cells #[.int .i64 k, .int .i64 n, .slice s ks.length c] 30)) 30 #[.int .i64 k, .int .i64 n, .slice s ks.length c])
      simpa [shs, Sh.cells, Ex.kind_mk, Ex.num_mk, Ex.kids_mk] using this
    have Hn := Lib.hid hnew
    have Hz := Lib.hid hz0
    clear hnew hz0
    go_enter Tryz.func172, Tryz.ntmps172
    go_wp2_with (at_builtin; refine wpList_append_s _ rfl _ _ 28 rfl 30 (.agg #[.int .i64 0, .int .i64 0, .slice none 0 0]) 3 40 Tryz.underlying28 zero_implExpr rfl (by decide) (S := S) (T := fun _ => False) v rfl hV1 ⟨w.heap.size + 1, 0, none⟩ 1 1 (shs [⟨.mk k n ks, s, c⟩]) rfl Hn.out ⟨[], Ows.raws (shs_one _), by simp, by simp⟩ (fun _ _ _ h => h) rfl (shs_one _) (by omega) (by omega) (by unfold maxLen; omega) ?_; intro g cap w2 hap ht)
    go_ret
    refine ⟨_, [⟨.mk k n ks, s, c⟩], rfl, ⟨by rw [hsum.out]; rfl, fun x hx' => ?_⟩, ?_, ?_⟩
    · rw [List.mem_singleton] at hx'
      subst hx'
      exact hx
    · rw [shD_append]
      refine hap.more fun b _ h => ?_
      have := Hz.out
      rcases h with h | h | h
      · exact Or.inl h
      · exact h.elim
      · exact Or.inr (by omega)
    · exact (Spares.of_below hB).trans ht
  subst h6
  obtain ⟨hk, -, -, htl⟩ := tree_parts ht
  obtain ⟨a, b, rfl⟩ := two_kids hk (by omega)
  have hsum : Hid ((Ex.mk 6 n [a, b]).summ = a.summ ++ b.summ) := by show _ = _; exact Ex.summ_sum
  have hsz := Ex.size_eq (.mk 6 n [a, b])
  simp only [Ex.sizeL, Ex.kids_mk] at hsz
  have hat : a.tree tm am = true := Ex.treeL_mem htl (by simp)
  have hbt : b.tree tm am = true := Ex.treeL_mem htl (by simp)
  obtain ⟨kb, ko, su, cu, rfl, -, -, -, hkb0, hkX, ku0, hu⟩ := kidX0 hx
  obtain ⟨sv, cv, kv0, hv⟩ := kidX1 hx
  have kh := h0.2 kb hkb0 hkX
  have ku := ku0.keep kh
  have kv := kv0.keep kh
  have hkb : kb < w.heap.size := Nat.lt_of_lt_of_le hkb0 h0.1
  simp only [List.length_cons, List.length_nil, Nat.zero_add] at hl ⊢
  clear ku0 kv0 kh
  have Hku := Lib.hid ku
  have Hkv := Lib.hid kv
  have hsa := Ex.size_eq a
  clear ku kv c1 htl hk hx hx1
  go_enter Tryz.func172, Tryz.ntmps172
  go_wp2_with fail
  have L1 := Blk.new3 w 30 (.int .i64 6) (.int .i64 n) (.slice (some ⟨kb, ko, none⟩) 2 c)
  have hB : Below w.heap.size w (w.alloc (.cells #[.int .i64 6, .int .i64 n, .slice (some ⟨kb, ko, none⟩) 2 c] 30)) := by (repeat' first | exact Below.refl _ _ | assumption | apply Below.alloc | apply Below.drew | apply Below.setCell | omega | (simp; done) | (simp; omega))
  have hz0 : (w.alloc (.cells #[.int .i64 6, .int .i64 n, .slice (some ⟨kb, ko, none⟩) 2 c] 30)).heap.size = w.heap.size + 1 := by simp
  generalize w.alloc (.cells #[.int .i64 6, .int .i64 n, .slice (some ⟨kb, ko, none⟩) 2 c] 30) = wb at L1 hB hz0 ⊢
  have hB' := hB
  have V : AppS (fun b => S b) wb 30 3 L.length (shD L) v := hV.keep fun b hb _ => hB.block b hb
  have hSl : ∀ b, S b → b < w.heap.size := fun b hb => hX b (hSX b hb)
  have Vf : ∀ b, S b → 0 ≤ b ∧ b < wb.heap.size := fun b hb => by have := hSl b hb; omega
  have hkS : ¬ S kb := fun h => hkX (hSX _ h)
  have h0b : KeptX X w0 wb := h0.trans (KeptX.of_below hB)
  obtain ⟨x0, hx0⟩ := mkval ?a1_0
  obtain ⟨x1, hx1⟩ := mkval ?a1_1
  obtain ⟨x2, hx2⟩ := mkval ?a1_2
  obtain ⟨x3, hx3⟩ := mkval ?a1_3
  obtain ⟨x4, hx4⟩ := mkval ?a1_4
  obtain ⟨x6, hx6⟩ := mkval ?a1_6
  obtain ⟨x7, hx7⟩ := mkval ?a1_7
  obtain ⟨x8, hx8⟩ := mkval ?a1_8
  obtain ⟨x9, hx9⟩ := mkval ?a1_9
  have hGb : ∀ m b, (fun m b => (m = 0 ∧ S b)) m b → (0) ≤ b ∧ b < (wb).heap.size := by
    intro m b hg
    rcases hg with ⟨rfl, hg⟩
    · have q := Vf b hg
      omega
  have hGd : ∀ m m' b, (fun m b => (m = 0 ∧ S b)) m b → (fun m b => (m = 0 ∧ S b)) m' b → m = m' := by
    intro m m' b h h'
    rcases h with ⟨rfl, h⟩ <;> rcases h' with ⟨rfl, h'⟩ <;> first
      | rfl
  refine region_rs [(10, 5)] [(5, 0)] (fun m b => (m = 0 ∧ S b)) (0) (fun i iv vs wx => match i with
    | 0 => vs 0 = x0
    | 1 => vs 1 = x1
    | 2 => vs 2 = x2
    | 3 => vs 3 = x3
    | 4 => vs 4 = x4
    | 5 => ∃ v1 M1, vs 5 = v1 ∧ (M1.map Sh.e = a.summ ∧ ShX X w0 M1) ∧ AppS (foot [(10, 5)] [(5, 0)] (fun m b => (m = 0 ∧ S b)) 12 5 iv) wx 30 3 (L.length + M1.length) (shD (L ++ M1)) (v1)
    | 6 => vs 6 = x6
    | 7 => vs 7 = x7
    | 8 => vs 8 = x8
    | 9 => vs 9 = x9
    | 10 => ∃ v2 M1 M2, vs 10 = v2 ∧ ((M1.map Sh.e = a.summ ∧ ShX X w0 M1) ∧ (M2.map Sh.e = b.summ ∧ ShX X w0 M2)) ∧ AppS (foot [(10, 5)] [(5, 0)] (fun m b => (m = 0 ∧ S b)) 12 10 iv) wx 30 3 ((L ++ M1).length + M2.length) (shD (L ++ M1 ++ M2)) (v2)
    | 11 => vs 11 = vs 10
    | _ => True) (fun i iv vs => match i with
    | 0 => vs 0 = x0
    | 1 => vs 1 = x1
    | 2 => vs 2 = x2
    | 3 => vs 3 = x3
    | 4 => vs 4 = x4
    | 5 => ∃ v1 M1, vs 5 = v1 ∧ (M1.map Sh.e = a.summ ∧ ShX X w0 M1)
    | 6 => vs 6 = x6
    | 7 => vs 7 = x7
    | 8 => vs 8 = x8
    | 9 => vs 9 = x9
    | 10 => ∃ v2 M1 M2, vs 10 = v2 ∧ ((M1.map Sh.e = a.summ ∧ ShX X w0 M1) ∧ (M2.map Sh.e = b.summ ∧ ShX X w0 M2))
    | 11 => vs 11 = vs 10
    | _ => True) (by kernel_rfl) (by kernel_rfl) [0, 1, 2, 3, 4, 5, 6, 7, 8, 9, 10, 11] (by kernel_rfl) ?hbase ?hGb ?hG ?hJ ?hE ?hEE ?hstep ?hQ
  case hbase => first | exact Nat.le_refl _ | omega | (simp; omega)
  case hGb =>
    exact hGb
  case hG =>
    exact hGd
  case hJ =>
    intro i hi iv iv' vs vs' wx wx' ha hv hz hk hj
    simp only [List.mem_cons, List.not_mem_nil, or_false] at hi
    rcases hi with rfl | rfl | rfl | rfl | rfl | rfl | rfl | rfl | rfl | rfl | rfl | rfl
    · exact (hv.out 0 (mem_of (by kernel_rfl))).symm.trans hj
    · exact (hv.out 1 (mem_of (by kernel_rfl))).symm.trans hj
    · exact (hv.out 2 (mem_of (by kernel_rfl))).symm.trans hj
    · exact (hv.out 3 (mem_of (by kernel_rfl))).symm.trans hj
    · exact (hv.out 4 (mem_of (by kernel_rfl))).symm.trans hj
    · have e5 := hv.out 5 (mem_of (by kernel_rfl))
      obtain ⟨v1, M1, q1, q3, q2⟩ := hj
      exact ⟨v1, M1, e5 ▸ q1, q3, (q2.keep (fun b hb h1 => hk.out b hb h1)).more (fun b hb h1 => foot_agree (l := ancs _ 12 5) (by exact of_decide_eq_true (by kernel_rfl)) ha.out h1)⟩
    · exact (hv.out 6 (mem_of (by kernel_rfl))).symm.trans hj
    · exact (hv.out 7 (mem_of (by kernel_rfl))).symm.trans hj
    · exact (hv.out 8 (mem_of (by kernel_rfl))).symm.trans hj
    · exact (hv.out 9 (mem_of (by kernel_rfl))).symm.trans hj
    · have e10 := hv.out 10 (mem_of (by kernel_rfl))
      obtain ⟨v2, M1, M2, q1, q3, q2⟩ := hj
      exact ⟨v2, M1, M2, e10 ▸ q1, q3, (q2.keep (fun b hb h1 => hk.out b hb h1)).more (fun b hb h1 => foot_agree (l := ancs _ 12 10) (by exact of_decide_eq_true (by kernel_rfl)) ha.out h1)⟩
    · have e10 := hv.out 10 (mem_of (by kernel_rfl))
      have e11 := hv.out 11 (mem_of (by kernel_rfl))
      have hj' : vs 11 = vs 10 := hj
      show vs' 11 = vs' 10
      rw [← e10, ← e11]
      exact hj'
  case hE =>
    intro i hi iv vs wx hj
    simp only [List.mem_cons, List.not_mem_nil, or_false] at hi
    rcases hi with rfl | rfl | rfl | rfl | rfl | rfl | rfl | rfl | rfl | rfl | rfl | rfl
    · exact hj
    · exact hj
    · exact hj
    · exact hj
    · exact hj
    · obtain ⟨v1, M1, q1, q3, -⟩ := hj
      exact ⟨v1, M1, q1, q3⟩
    · exact hj
    · exact hj
    · exact hj
    · exact hj
    · obtain ⟨v2, M1, M2, q1, q3, -⟩ := hj
      exact ⟨v2, M1, M2, q1, q3⟩
    · exact hj
  case hEE =>
    intro i hi iv iv' vs vs' ha hv hj
    simp only [List.mem_cons, List.not_mem_nil, or_false] at hi
    rcases hi with rfl | rfl | rfl | rfl | rfl | rfl | rfl | rfl | rfl | rfl | rfl | rfl
    · exact (hv.out 0 (mem_of (by kernel_rfl))).symm.trans hj
    · exact (hv.out 1 (mem_of (by kernel_rfl))).symm.trans hj
    · exact (hv.out 2 (mem_of (by kernel_rfl))).symm.trans hj
    · exact (hv.out 3 (mem_of (by kernel_rfl))).symm.trans hj
    · exact (hv.out 4 (mem_of (by kernel_rfl))).symm.trans hj
    · have e5 := hv.out 5 (mem_of (by kernel_rfl))
      have hj' : ∃ v1 M1, vs 5 = v1 ∧ (M1.map Sh.e = a.summ ∧ ShX X w0 M1) := hj
      show ∃ v1 M1, vs' 5 = v1 ∧ (M1.map Sh.e = a.summ ∧ ShX X w0 M1)
      rw [← e5]
      exact hj'
    · exact (hv.out 6 (mem_of (by kernel_rfl))).symm.trans hj
    · exact (hv.out 7 (mem_of (by kernel_rfl))).symm.trans hj
    · exact (hv.out 8 (mem_of (by kernel_rfl))).symm.trans hj
    · exact (hv.out 9 (mem_of (by kernel_rfl))).symm.trans hj
    · have e10 := hv.out 10 (mem_of (by kernel_rfl))
      have hj' : ∃ v2 M1 M2, vs 10 = v2 ∧ ((M1.map Sh.e = a.summ ∧ ShX X w0 M1) ∧ (M2.map Sh.e = b.summ ∧ ShX X w0 M2)) := hj
      show ∃ v2 M1 M2, vs' 10 = v2 ∧ ((M1.map Sh.e = a.summ ∧ ShX X w0 M1) ∧ (M2.map Sh.e = b.summ ∧ ShX X w0 M2))
      rw [← e10]
      exact hj'
    · have e10 := hv.out 10 (mem_of (by kernel_rfl))
      have e11 := hv.out 11 (mem_of (by kernel_rfl))
      have hj' : vs 11 = vs 10 := hj
      show vs' 11 = vs' 10
      rw [← e10, ← e11]
      exact hj'
  case hstep =>
    intro i hi opr ho iv vs w1 hB hS hSo hd he hbd hsep hun K hK
    simp only [List.mem_cons, List.not_mem_nil, or_false] at hi
    have hzB := hB.size
    have kw := hSo.out.block kb (by omega) (fun ⟨_, _, h⟩ => hkS h)
    have kwb : wb.heap[kb]? = w.heap[kb]? := hB'.block kb hkb
    obtain ⟨u0, u1, u2⟩ := Hku.out.keep (kw.trans kwb)
    obtain ⟨v0, v1, v2⟩ := Hkv.out.keep (kw.trans kwb)
    have L2 := L1.keep (hSo.out.block _ L1.lt (fun ⟨_, _, h⟩ => by have := hSl _ h; omega))
    have l0 := L2.c0
    have l1 := L2.c1
    have l2 := L2.c2
    generalize hA : putFrom _ 0 vs _ = A at hK ⊢
    simp only [putFrom, puts] at hA
    rcases hi with rfl | rfl | rfl | rfl | rfl | rfl | rfl | rfl | rfl | rfl | rfl | rfl
    all_goals
      simp at ho
      subst ho
      subst hA
    · go_wp2_with fail
      refine Onward.mk (hK ?val1_0 _ _ (fun h => by cases h) ?eqA (Spares.refl _) (fun iv' _ _ => ?ja))
      case eqA => first | rfl | (simp only [puts]; rfl)
      case ja => exact hx0.out.symm
    · go_wp2_with fail
      refine Onward.mk (hK ?val1_1 _ _ (fun h => by cases h) ?eqA (Spares.refl _) (fun iv' _ _ => ?ja))
      case eqA => first | rfl | (simp only [puts]; rfl)
      case ja => exact hx1.out.symm
    · have h1 := (hd.out 1 (mem_of (by kernel_rfl)) (by decide) (by kernel_rfl)).trans hx1.out
      go_wp2_with fail
      refine Onward.mk (hK ?val1_2 _ _ (fun h => by cases h) ?eqA (Spares.refl _) (fun iv' _ _ => ?ja))
      case eqA => first | rfl | (simp only [puts, h1]; rfl)
      case ja => exact hx2.out.symm
    · have h2 := (hd.out 2 (mem_of (by kernel_rfl)) (by decide) (by kernel_rfl)).trans hx2.out
      go_wp2_with fail
      refine Onward.mk (hK ?val1_3 _ _ (fun h => by cases h) ?eqA (Spares.refl _) (fun iv' _ _ => ?ja))
      case eqA => first | rfl | (simp only [puts, h2]; rfl)
      case ja => exact hx3.out.symm
    · have h3 := (hd.out 3 (mem_of (by kernel_rfl)) (by decide) (by kernel_rfl)).trans hx3.out
      go_wp2_with fail
      refine Onward.mk (hK ?val1_4 _ _ (fun h => by cases h) ?eqA (Spares.refl _) (fun iv' _ _ => ?ja))
      case eqA => first | rfl | (simp only [puts, h3]; rfl)
      case ja => exact hx4.out.symm
    · have h0 := (hd.out 0 (mem_of (by kernel_rfl)) (by decide) (by kernel_rfl)).trans hx0.out
      have h4 := (hd.out 4 (mem_of (by kernel_rfl)) (by decide) (by kernel_rfl)).trans hx4.out
      have V1 := V.keep (fun b _ hb => hS.out 0 b (by kernel_rfl) ⟨rfl, hb⟩)
      go_wp2_with fail
      refine (HIH.out a.size (by omega) a X S v L _ _ w0 w1 (Nat.le_refl _) (h0b.trans (KeptX.of_spares hSo.out (fun b _ ⟨_, _, h⟩ => hSX b h))) (fun b hb => by have := hX b hb; have := hSo.out.size; omega) hSX hu hat (by omega) V1).mono ?_
      rintro e w2 ⟨v1, M1, rfl, hp, hap, ht⟩
      go_wp2_with fail
      exact Onward.mk (hK (v1) _ _ (fun h => by cases h) (by first | rfl | (simp only [puts, h0, h4])) (ht.more (fun b h => Or.inl ⟨0, by decide, ⟨rfl, h⟩⟩)) (fun iv' ag hi => ⟨v1, M1, rfl, hp, hap.more (fun b _ h => by rcases h with h | h; exact foot_given 0 (by decide) ⟨rfl, h⟩; exact foot_new hi h.1 h.2)⟩))
    · go_wp2_with fail
      refine Onward.mk (hK ?val1_6 _ _ (fun h => by cases h) ?eqA (Spares.refl _) (fun iv' _ _ => ?ja))
      case eqA => first | rfl | (simp only [puts]; rfl)
      case ja => exact hx6.out.symm
    · have h6 := (hd.out 6 (mem_of (by kernel_rfl)) (by decide) (by kernel_rfl)).trans hx6.out
      go_wp2_with fail
      refine Onward.mk (hK ?val1_7 _ _ (fun h => by cases h) ?eqA (Spares.refl _) (fun iv' _ _ => ?ja))
      case eqA => first | rfl | (simp only [puts, h6]; rfl)
      case ja => exact hx7.out.symm
    · have h7 := (hd.out 7 (mem_of (by kernel_rfl)) (by decide) (by kernel_rfl)).trans hx7.out
      go_wp2_with fail
      refine Onward.mk (hK ?val1_8 _ _ (fun h => by cases h) ?eqA (Spares.refl _) (fun iv' _ _ => ?ja))
      case eqA => first | rfl | (simp only [puts, h7]; rfl)
      case ja => exact hx8.out.symm
    · have h8 := (hd.out 8 (mem_of (by kernel_rfl)) (by decide) (by kernel_rfl)).trans hx8.out
      go_wp2_with fail
      refine Onward.mk (hK ?val1_9 _ _ (fun h => by cases h) ?eqA (Spares.refl _) (fun iv' _ _ => ?ja))
      case eqA => first | rfl | (simp only [puts, h8]; rfl)
      case ja => exact hx9.out.symm
    · obtain ⟨v1, M1, h5, p5, f5⟩ := hd.out 5 (mem_of (by kernel_rfl)) (by decide) (by kernel_rfl)
      have h9 := (hd.out 9 (mem_of (by kernel_rfl)) (by decide) (by kernel_rfl)).trans hx9.out
      have hF5 : ∀ b, (foot [(10, 5)] [(5, 0)] (fun m b => (m = 0 ∧ S b)) 12 5 iv) b → (S b) ∨ ((wb).heap.size ≤ b ∧ b < w1.heap.size) := by
        rintro b ⟨j, hj, hh⟩
        have hj' := of_decide_eq_true (List.all_eq_true.1 (show ((chainOf [(10, 5)] 12 5).all fun j => decide (j ∈ [5])) = true from by kernel_rfl) j hj)
        simp only [List.mem_cons, List.not_mem_nil, or_false] at hj'
        rcases hj' with rfl
        · have q := (hbd.out 5 (mem_of (by kernel_rfl)) (by decide))
          rcases hh with hh | ⟨m, hm, hg⟩
          · exact Or.inr (by omega)
          · simp at hm; subst hm; simp at hg; exact Or.inl hg
      have h01 : KeptX X w0 w1 := h0b.trans (KeptX.of_spares hSo.out (fun b _ ⟨_, _, h⟩ => hSX b h))
      have hQ1 : KeptX (fun b => (X b ∨ w0.heap.size ≤ b) ∧ b < w1.heap.size) w0 w1 := h01.more (fun b hb h => ⟨Or.inl h, Nat.lt_of_lt_of_le hb h01.1⟩)
      have hQ3 : ∀ b, foot [(10, 5)] [(5, 0)] (fun m b => (m = 0 ∧ S b)) 12 5 iv b → (X b ∨ w0.heap.size ≤ b) ∧ b < w1.heap.size := fun b h => by
        have q1 := h0b.1
        have q2 := hSo.out.size
        rcases hF5 b h with h | h
        · exact ⟨Or.inl (hSX b h), by have := Vf b h; omega⟩
        · exact ⟨Or.inr (by omega), h.2⟩
      have hQ4 : ExX (fun b => (X b ∨ w0.heap.size ≤ b) ∧ b < w1.heap.size) w0 b sv cv := hv.less (fun b hb h => h.1.elim id (fun q => by omega))
      have hQ5 : (L ++ M1).length + b.size ≤ 1000000 := by
        have q1 := congrArg List.length p5.1
        rw [List.length_map] at q1
        have q2 := summ_len hat
        rw [List.length_append]
        omega
      go_wp2_with fail
      refine (HIH.out b.size (by omega) b (fun b => (X b ∨ w0.heap.size ≤ b) ∧ b < w1.heap.size) _ v1 (L ++ M1) _ _ w0 w1 (Nat.le_refl _) hQ1 (fun b h => h.2) hQ3 hQ4 hbt hQ5 (by rw [List.length_append]; exact f5)).mono ?_
      rintro e w2 ⟨v2, M2, rfl, hp, hap, ht⟩
      go_wp2_with fail
      exact Onward.mk (hK (v2) _ _ (fun h => by cases h) (by first | rfl | (simp only [puts, h5, h9])) (ht.more (fun b h => Or.inr ⟨5, by decide, h⟩)) (fun iv' ag hi => ⟨v2, M1, M2, rfl, ⟨p5, hp.1, fun x hx => (hp.2 x hx).less (fun b hb h => ⟨Or.inl h, Nat.lt_of_lt_of_le hb (h0b.trans (KeptX.of_spares hSo.out (fun b _ ⟨_, _, h⟩ => hSX b h))).1⟩)⟩, hap.more (fun b _ h => by rcases h with h | h; exact foot_step (by kernel_rfl) ag h; exact foot_new hi h.1 h.2)⟩))
    · obtain ⟨v2, M1, M2, h10, p10, f10⟩ := hd.out 10 (mem_of (by kernel_rfl)) (by decide) (by kernel_rfl)
      go_wp2_with fail
      refine Onward.mk (hK ?val1_11 _ _ (fun h => by cases h) ?eqA (Spares.refl _) (fun iv' _ _ => ?ja))
      case eqA => first | rfl | (simp only [puts, h10]; rfl)
      case ja => show _ = vs 10; simp only [h10]; rfl
  case hQ =>
    intro iv vs wx hB hSp hd he hbd hsep
    have hzB := hB.size
    have h0 := (hd.out 0 (mem_of (by kernel_rfl)) (not_eaten (by kernel_rfl))).trans hx0.out
    have h1 := (hd.out 1 (mem_of (by kernel_rfl)) (not_eaten (by kernel_rfl))).trans hx1.out
    have h2 := (hd.out 2 (mem_of (by kernel_rfl)) (not_eaten (by kernel_rfl))).trans hx2.out
    have h3 := (hd.out 3 (mem_of (by kernel_rfl)) (not_eaten (by kernel_rfl))).trans hx3.out
    have h4 := (hd.out 4 (mem_of (by kernel_rfl)) (not_eaten (by kernel_rfl))).trans hx4.out
    obtain ⟨v1, M1, h5, p5⟩ := he.out 5 (mem_of (by kernel_rfl))
    have h6 := (hd.out 6 (mem_of (by kernel_rfl)) (not_eaten (by kernel_rfl))).trans hx6.out
    have h7 := (hd.out 7 (mem_of (by kernel_rfl)) (not_eaten (by kernel_rfl))).trans hx7.out
    have h8 := (hd.out 8 (mem_of (by kernel_rfl)) (not_eaten (by kernel_rfl))).trans hx8.out
    have h9 := (hd.out 9 (mem_of (by kernel_rfl)) (not_eaten (by kernel_rfl))).trans hx9.out
    obtain ⟨v2, M1, M2, h10, p10, f10⟩ := hd.out 10 (mem_of (by kernel_rfl)) (not_eaten (by kernel_rfl))
    have h11 : vs 11 = vs 10 := hd.out 11 (mem_of (by kernel_rfl)) (not_eaten (by kernel_rfl))
    simp only [putFrom, puts]
    have so10 : ∀ b, (foot [(10, 5)] [(5, 0)] (fun m b => (m = 0 ∧ S b)) 12 10 iv) b → S b ∨ (wb).heap.size ≤ b := by
      rintro b ⟨j, hj, hh⟩
      have hj' := of_decide_eq_true (List.all_eq_true.1 (show ((chainOf [(10, 5)] 12 10).all fun j => decide (j ∈ [10, 5])) = true from by kernel_rfl) j hj)
      simp only [List.mem_cons, List.not_mem_nil, or_false] at hj'
      rcases hj' with rfl | rfl
      · have q := (hbd.out 10 (mem_of (by kernel_rfl))).1
        rcases hh with hh | ⟨m, hm, hg⟩
        · exact Or.inr (by omega)
        · simp at hm
      · have q := (hbd.out 5 (mem_of (by kernel_rfl))).1
        rcases hh with hh | ⟨m, hm, hg⟩
        · exact Or.inr (by omega)
        · simp at hm; subst hm; simp at hg; exact Or.inl hg
    have hS2 := hSp.out
    clear hd he hbd hsep
    go_wp2_with fail
    go_ret
    refine ⟨v2, rfl, M1 ++ M2, ⟨by rw [hsum.out, List.map_append, p10.1.1, p10.2.1], p10.1.2.append p10.2.2⟩, ?_, ?_⟩
    · have q := f10.more (T := fun b => S b ∨ (w.heap.size ≤ b ∧ b < wx.heap.size)) (fun b hb h => (so10 b h).imp id (fun h => ⟨by omega, hb⟩))
      rw [List.append_assoc, List.length_append, Nat.add_assoc, ← List.length_append] at q
      exact q
    · exact (Spares.of_below hB').trans (hS2.more fun b ⟨_, _, h⟩ => h)
end Go.Proofs.YtjlmdhoajfdkbaaGreatDoor

namespace Go.Proofs
open Go.Shelf
def Tryz.sortNamed_ren : Go.Shelf.Ren := ⟨fun | 6 => 173 | 15 => 184 | 14 => 183 | 28 => 197 | 29 => 198 | 20 => 189 | 21 => 190 | 22 => 191 | 23 => 192 | 24 => 193 | 25 => 194 | 26 => 195 | 27 => 196 | 46 => 202 | 47 => 203 | 48 => 204 | 49 => 205 | 50 => 206 | 57 => 211 | n => n, fun | 22 => 195 | 24 => 198 | 25 => 201 | 3 => 3 | 39 => 184 | 0 => 0 | 53 => 226 | 55 => 228 | 4 => 4 | 46 => 219 | 45 => 218 | 50 => 223 | 5 => 5 | 9 => 9 | 66 => 231 | 70 => 235 | 76 => 242 | 77 => 243 | n => n, fun | n => n⟩
theorem Tryz.sortNamed : Go.Proofs.SlLaysF0.n6 Tryz.prog Tryz.sortNamed_ren := {
  mixed := by kernel_rfl
  f6 := ⟨Tryz.f173.name, by decide, Tryz.func173.trans (congrArg some (by kernel_rfl))⟩
  f14 := ⟨Tryz.f183.name, by decide, Tryz.func183.trans (congrArg some (by kernel_rfl))⟩
  f15 := Tryz.func184.trans (congrArg some (by kernel_rfl))
  f20 := ⟨Tryz.f189.name, by decide, Tryz.func189.trans (congrArg some (by kernel_rfl))⟩
  f21 := ⟨Tryz.f190.name, by decide, Tryz.func190.trans (congrArg some (by kernel_rfl))⟩
  f22 := ⟨Tryz.f191.name, by decide, Tryz.func191.trans (congrArg some (by kernel_rfl))⟩
  f23 := ⟨Tryz.f192.name, by decide, Tryz.func192.trans (congrArg some (by kernel_rfl))⟩
  f24 := ⟨Tryz.f193.name, by decide, Tryz.func193.trans (congrArg some (by kernel_rfl))⟩
  f25 := ⟨Tryz.f194.name, by decide, Tryz.func194.trans (congrArg some (by kernel_rfl))⟩
  f26 := ⟨Tryz.f195.name, by decide, Tryz.func195.trans (congrArg some (by kernel_rfl))⟩
  f27 := ⟨Tryz.f196.name, by decide, Tryz.func196.trans (congrArg some (by kernel_rfl))⟩
  f28 := Tryz.func197.trans (congrArg some (by kernel_rfl))
  f29 := Tryz.func198.trans (congrArg some (by kernel_rfl))
  f46 := ⟨Tryz.f202.name, by decide, Tryz.func202.trans (congrArg some (by kernel_rfl))⟩
  f47 := Tryz.func203.trans (congrArg some (by kernel_rfl))
  f48 := Tryz.func204.trans (congrArg some (by kernel_rfl))
  f49 := ⟨Tryz.f205.name, by decide, Tryz.func205.trans (congrArg some (by kernel_rfl))⟩
  f50 := ⟨Tryz.f206.name, by decide, Tryz.func206.trans (congrArg some (by kernel_rfl))⟩
  f57 := ⟨Tryz.f211.name, by decide, Tryz.func211.trans (congrArg some (by kernel_rfl))⟩
  t0 := Tryz.underlying0
  a0 := Tryz.isAgg0
  z0 := Tryz.sizeOf0
  v0 := Tryz.zeroValue0
  t3 := Tryz.underlying3
  a3 := Tryz.isAgg3
  z3 := Tryz.sizeOf3
  v3 := Tryz.zeroValue3
  t4 := Tryz.underlying4
  a4 := Tryz.isAgg4
  z4 := Tryz.sizeOf4
  v4 := Tryz.zeroValue4
  t5 := Tryz.underlying5
  a5 := Tryz.isAgg5
  z5 := Tryz.sizeOf5
  v5 := Tryz.zeroValue5
  t9 := Tryz.underlying9
  a9 := Tryz.isAgg9
  z9 := Tryz.sizeOf9
  v9 := Tryz.zeroValue9
  t22 := Tryz.underlying195
  a22 := Tryz.isAgg195
  z22 := Tryz.sizeOf195
  v22 := Tryz.zeroValue195
  t25 := Tryz.underlying201
  a25 := Tryz.isAgg201
  z25 := Tryz.sizeOf201
  v25 := Tryz.zeroValue201
  t39 := Tryz.underlying184
  a39 := Tryz.isAgg184
  z39 := Tryz.sizeOf184
  v39 := Tryz.zeroValue184
  t45 := Tryz.underlying218
  a45 := Tryz.isAgg218
  z45 := Tryz.sizeOf218
  v45 := Tryz.zeroValue218
  t46 := Tryz.underlying219
  a46 := Tryz.isAgg219
  z46 := Tryz.sizeOf219
  v46 := Tryz.zeroValue219
  t50 := Tryz.underlying223
  a50 := Tryz.isAgg223
  z50 := Tryz.sizeOf223
  v50 := Tryz.zeroValue223
  t53 := Tryz.underlying226
  a53 := Tryz.isAgg226
  z53 := Tryz.sizeOf226
  v53 := Tryz.zeroValue226
  t55 := Tryz.underlying228
  a55 := Tryz.isAgg228
  z55 := Tryz.sizeOf228
  v55 := Tryz.zeroValue228
  t66 := Tryz.underlying231
  a66 := Tryz.isAgg231
  z66 := Tryz.sizeOf231
  v66 := Tryz.zeroValue231
  t70 := Tryz.underlying235
  a70 := Tryz.isAgg235
  z70 := Tryz.sizeOf235
  v70 := Tryz.zeroValue235
  t76 := Tryz.underlying242
  a76 := Tryz.isAgg242
  z76 := Tryz.sizeOf242
  v76 := Tryz.zeroValue242
  t77 := Tryz.underlying243
  a77 := Tryz.isAgg243
  z77 := Tryz.sizeOf243
  v77 := Tryz.zeroValue243 }
end Go.Proofs

namespace Go.Proofs.YtjlmdhoajfdkbaaGreatDoor
set_option linter.unusedVariables false
set_option linter.unusedSimpArgs false
open Go.ChangeShapes Go.WideShapes Go.ChangeAt Go.RowKit Go.Deep Go.Sort
theorem compare_lt : ∀ a b : List UInt8, Lib.compareBytes a b < 0 ↔ a < b
  | [], [] => by simp [Lib.compareBytes]
  | [], y :: b => by simp [Lib.compareBytes]
  | x :: a, [] => by simp [Lib.compareBytes]
  | x :: a, y :: b => by
    rw [Lib.compareBytes, List.cons_lt_cons_iff]
    by_cases h1 : x < y
    · simp [h1]
    · by_cases h2 : y < x
      · rw [if_neg h1, if_pos h2]
        have h3 : x ≠ y := fun e => by subst e; exact h1 h2
        simp [h1, h3]
      · rw [if_neg h1, if_neg h2, compare_lt a b]
        have h3 : x = y := UInt8.le_antisymm (UInt8.not_lt.1 h2) (UInt8.not_lt.1 h1)
        simp [h1, h3]
instance shInh : Inhabited Sh := ⟨⟨.mk 0 0 [], none, 0⟩⟩
def Sh.named (x : Sh) : List Value := [.string (bs x.e.text), .int .i64 x.e.kind, .int .i64 x.e.num, .slice x.s x.e.kids.length x.c]
def cmpS (x y : Sh) : Int := Lib.compareBytes x.e.text y.e.text
theorem ltS (x y : Sh) : ltOf cmpS x y = decide (x.e.text < y.e.text) := by
  unfold ltOf cmpS
  by_cases h : x.e.text < y.e.text
  · simp [h, compare_lt]
  · simp only [h, decide_false, decide_eq_false_iff_not]
    rw [compare_lt]
    exact h
theorem swoS : SWO (ltOf cmpS) where
  irrefl x := by rw [ltS]; simp [List.lt_irrefl]
  trans x y z h1 h2 := by
    rw [ltS] at *
    simp only [decide_eq_true_eq] at *
    exact List.lt_trans h1 h2
  ntrans x y z h1 h2 := by
    rw [ltS] at *
    simp only [decide_eq_false_iff_not, List.not_lt] at *
    exact List.le_trans h2 h1
set_option maxHeartbeats 1000000 in
theorem closure_i (x y : Sh) (W : World) : Calls Tryz.prog 174 #[.agg x.named.toArray, .agg y.named.toArray] W fun e w' => e = .returned (.int .i64 (cmpS x y)) ∧ ∃ q os', w' = grow (W.drewN q) os' := by
  have hcon := fun W' => Tryz.strings_Compare (bs x.e.text) (bs y.e.text) W'
  have e1 : Lib.compareBytes (bs x.e.text).data.toList (bs y.e.text).data.toList = cmpS x y := by simp [bs, cmpS]
  simp only [e1] at hcon
  generalize cmpS x y = r at hcon ⊢
  simp only [Sh.named]
  generalize bs x.e.text = tx at hcon ⊢
  generalize bs y.e.text = ty at hcon ⊢
  go_enter Tryz.func174, Tryz.ntmps174
  go_wp2_with fail
  refine (hcon _).mono ?_
  rintro e w' ⟨rfl, rfl⟩
  go_wp2_with fail
  go_ret
  exact ⟨rfl, 0, _, by rw [alloc_eq_grow, alloc_eq_grow, grow_grow]; rfl⟩
def namedsV (N : List Sh) : List Value := N.flatMap Sh.named
theorem namedsV_length : ∀ N : List Sh, (namedsV N).length = N.length * 4
  | [] => rfl
  | x :: r => by
    have := namedsV_length r
    simp only [namedsV, List.flatMap_cons, List.length_append, List.length_cons, Sh.named] at this ⊢
    simp only [List.length_nil]
    omega
theorem namedsV_at : ∀ (N : List Sh) (i : Nat) (x : Sh), N[i]? = some x → ∀ j, j < 4 → (namedsV N)[i * 4 + j]? = x.named[j]?
  | [], i, x, h => by simp at h
  | y :: r, 0, x, h => by
    simp at h
    subst h
    intro j hj
    simp only [namedsV, List.flatMap_cons, Nat.zero_mul, Nat.zero_add]
    rw [List.getElem?_append_left (by simp [Sh.named]; exact hj)]
  | y :: r, i + 1, x, h => by
    intro j hj
    have := namedsV_at r i x (by simpa using h) j hj
    simp only [namedsV, List.flatMap_cons] at this ⊢
    rw [List.getElem?_append_right (by simp [Sh.named]; omega)]
    rw [← this]
    congr 1
    simp [Sh.named]
    omega
theorem sortWorld_spares (w : World) (g n : Nat) (d : Array Sh) (os : Array Obj) : Spares (fun b => b = g) w (sortWorldK Sh.named 4 w g 0 n d os) := by
  refine ⟨rfl, rfl, rfl, by simp [sortWorldK, putRowK, putRow, mapBlock, Sort.ahead, grow], fun b hb hne => ?_⟩
  unfold sortWorldK
  rw [heap_grow_old _ _ (by simpa [putRowK, putRow, mapBlock, Sort.ahead] using hb)]
  have hne' : g ≠ b := fun e => hne e.symm
  simp [putRowK, putRow, mapBlock, Sort.ahead, Array.getElem?_modify, hne']
set_option maxHeartbeats 1000000 in
theorem sort_named {N : List Sh} {g cap t : Nat} {rest : List Value} {w : World} (hb : Blk w g t (namedsV N ++ rest)) (hsz : N.length < 1000000000) :
    Calls Tryz.prog 173 #[.slice (some ⟨g, 0, none⟩) N.length cap, .func (.func 174) #[] #[]] w fun e w' => e = .returned (.tuple #[]) ∧
      ∃ N' : List Sh, N'.Perm N ∧ N'.Pairwise (fun a b => leT a.e b.e) ∧ (∀ i x, N'[i]? = some x → ∀ j v, x.named[j]? = some v → w'.cell? ⟨g, i * 4 + j, none⟩ = some v) ∧ Spares (fun b => b = g) w w' := by
  have eg : ∀ args w, (callFunc 174 args).run Tryz.prog w = .ok (.enter 174 args) w := enters_of Tryz.func174 (by kernel_rfl) rfl
  have hcell : ∀ i x, N[i]? = some x → ∀ j v, x.named[j]? = some v → w.cell? ⟨g, i * 4 + j, none⟩ = some v := by
    intro i x hx j v hv
    have hj : j < 4 := by have := (List.getElem?_eq_some_iff.1 hv).1; simpa [Sh.named] using this
    have hi := (List.getElem?_eq_some_iff.1 hx).1
    rw [hb.cell, List.getElem?_append_left (by rw [namedsV_length]; omega), namedsV_at N i x hx j hj, hv]
  have hH : HoldsK Sh.named 4 w g 0 N.toArray := by
    intro t ht
    rw [size_flatK] at ht
    simp only [List.size_toArray] at ht
    rw [get_flatK _ _ _ _ (by simpa using ht)]
    refine ⟨?_, hb.frozen _⟩
    have hi : t / 4 < N.length := by omega
    obtain ⟨x, hx⟩ : ∃ x, N[t / 4]? = some x := ⟨_, List.getElem?_eq_getElem hi⟩
    have hd : N.toArray[t / 4]! = x := by simp [hx]
    have := hcell _ x hx (t % 4) (x.named[t % 4]!) (by
      have h4 : t % 4 < x.named.length := by simp [Sh.named]; omega
      rw [List.getElem!_eq_getElem?_getD, List.getElem?_eq_getElem h4]; rfl)
    rw [show t / 4 * 4 + t % 4 = t by omega] at this
    rw [hd, Nat.zero_add]
    exact this
  have hcon := AnyQ.slices_SortFunc Tryz.sortNamed 4 Tryz.isAgg198 Tryz.sizeOf198 Sh.named (fun _ => rfl) (fun x v hv => by simp [Sh.named] at hv; rcases hv with rfl | rfl | rfl | rfl <;> rfl) cmpS swoS 174 #[] g 0 cap N.toArray w eg (fun _ _ _ _ x y => closure_i x y _) hH hb.lt (by simp; omega)
  refine hcon.mono ?_
  rintro e w' ⟨rfl, d', n, os, ⟨p1, -, p2⟩, hs, rfl⟩
  simp only [List.size_toArray] at p1 p2 hs
  have pe : d'.toList.Perm N := by
    have q1 : d'.extract 0 N.length = d' := by rw [← p1]; exact Array.extract_size
    have q2 : (N.toArray).extract 0 N.length = N.toArray := by
      simp
    rw [q1, q2] at p2
    simpa using p2
  refine ⟨rfl, d'.toList, pe, ?_, ?_, sortWorld_spares _ _ _ _ _⟩
  · rw [List.pairwise_iff_getElem]
    intro i j hi hj hij
    have h1 := hs i j (Nat.zero_le _) hij (by simp at hj; omega)
    rw [ltS] at h1
    simp only [decide_eq_false_iff_not] at h1
    unfold leT
    have ei : d'[i]! = d'.toList[i] := by simp at hi; simp [hi]
    have ej : d'[j]! = d'.toList[j] := by simp at hj; simp [hj]
    rw [ei, ej] at h1
    exact h1
  · intro i x hx j v hv
    have hH' := holdsK_sortWorldK_c (enc := Sh.named) (k := 4) (w := w) (blk := g) (off := 0) N.toArray d' n os hH hb.lt (by simpa using p1)
    have hi : i < d'.size := by have := (List.getElem?_eq_some_iff.1 hx).1; simpa using this
    have hj : j < 4 := by have := (List.getElem?_eq_some_iff.1 hv).1; simpa [Sh.named] using this
    have := (hH'.cell hi hj).1
    have ed : d'[i]! = x := by
      obtain ⟨h1, h2⟩ := List.getElem?_eq_some_iff.1 hx
      rw [← h2]
      simp [hi]
    rw [ed, Nat.zero_add] at this
    rw [this, List.getElem!_eq_getElem?_getD, hv]
    rfl
end Go.Proofs.YtjlmdhoajfdkbaaGreatDoor
