/-
  Parts of a proof, joined: DerP, Copy, TidyI. No condition.
-/
import Derived.Test.YtfhlddbngjlhbaaPk5
namespace Go.Proofs.Ytfhlddbngjlhbaa
set_option linter.unusedVariables false
set_option linter.unusedSimpArgs false
noncomputable def limE (e : Ex) : Option Ex := if e.size ≤ 800 then some e.tidy else none
noncomputable def stepC (emp : Ex → Bool) (x k n : Int) (ks : List Ex) (ds : List (Option Ex)) : Option Ex :=
 if k = 4 then some (.leaf (if n = x then 2 else 1))
 else if k = 6 then (ds.getD 0 none).bind fun a => (ds.getD 1 none).bind fun b => limE (.two 6 a b)
 else if k = 7 then (ds.getD 0 none).bind fun a => if emp (ks.getD 0 (.leaf 1)) = true then (ds.getD 1 none).bind fun b => limE (.two 6 (.two 7 a (ks.getD 1 (.leaf 1))) b) else limE (.two 7 a (ks.getD 1 (.leaf 1)))
 else if k = 8 then (ds.getD 0 none).bind fun a => limE (.two 7 a (.mk k n ks))
 else some (.leaf 1)
mutual
noncomputable def Ex.step (m x : Int) : Ex → Option Ex
 | .mk k n ks => stepC (Ex.emp m) x k n ks (Ex.stepL m x ks)
noncomputable def Ex.stepL (m x : Int) : List Ex → List (Option Ex)
 | [] => []
 | e :: r => e.step m x :: Ex.stepL m x r
end
theorem Ex.step_eq (m x k n : Int) (ks : List Ex) : (Ex.mk k n ks).step m x = stepC (Ex.emp m) x k n ks (Ex.stepL m x ks) := by simp only [Ex.step]
theorem Ex.step_act {m x n : Int} {ks : List Ex} : (Ex.mk 4 n ks).step m x = some (.leaf (if n = x then 2 else 1)) := by rw [Ex.step_eq]; simp [stepC]
theorem Ex.step_sum {m x n : Int} {a b : Ex} : (Ex.mk 6 n [a, b]).step m x = (a.step m x).bind fun p => (b.step m x).bind fun q => limE (.two 6 p q) := by rw [Ex.step_eq]; simp [stepC, Ex.stepL]
theorem Ex.step_dot {m x n : Int} {a b : Ex} : (Ex.mk 7 n [a, b]).step m x = (a.step m x).bind fun p => if a.emp m = true then (b.step m x).bind fun q => limE (.two 6 (.two 7 p b) q) else limE (.two 7 p b) := by rw [Ex.step_eq]; simp [stepC, Ex.stepL]
theorem Ex.step_star {m x n : Int} {a : Ex} : (Ex.mk 8 n [a]).step m x = (a.step m x).bind fun p => limE (.two 7 p (.mk 8 n [a])) := by rw [Ex.step_eq]; simp [stepC, Ex.stepL]
theorem Ex.step_else {m x k n : Int} {ks : List Ex} (h4 : k ≠ 4) (h6 : k ≠ 6) (h7 : k ≠ 7) (h8 : k ≠ 8) : (Ex.mk k n ks).step m x = some (.leaf 1) := by rw [Ex.step_eq, stepC, if_neg h4, if_neg h6, if_neg h7, if_neg h8]
theorem size_two (k : Int) (a b : Ex) : (Ex.two k a b).size = 1 + a.size + b.size := by rw [Ex.size_eq]; simp [Ex.two, Ex.kids, Ex.sizeL]; omega
theorem limE_spec {tm am : Int} {e d : Ex} (h : limE e = some d) (ht : e.tree tm am = true) : d.tree tm am = true ∧ d.size ≤ 800 := by
 unfold limE at h
 split at h
 ·
  obtain rfl := Option.some.inj h
  obtain ⟨h1, h2⟩ := tidy_spec tm am _ e (Nat.le_refl _) ht
  exact ⟨h1, by omega⟩
 ·
  cases h
theorem step_spec (tm am m x : Int) (N : Nat) : ∀ e d : Ex, e.size ≤ N → e.tree tm am = true → e.step m x = some d → d.tree tm am = true ∧ d.size ≤ 800 := by
 induction N using Nat.strongRecOn with
 | _ N ih =>
 intro e d hN ht h
 obtain ⟨k, n, ks⟩ := e
 obtain ⟨hk, -, -, htl⟩ := tree_parts ht
 have hs := Ex.size_eq (.mk k n ks)
 simp only [Ex.kids] at hs
 by_cases h4 : k = 4
 ·
  subst h4
  rw [Ex.step_act] at h
  obtain rfl := Option.some.inj h
  refine ⟨?_, by simp [Ex.leaf, Ex.size, Ex.sizeL]⟩
  split
  ·
   exact tree_leaf (Or.inr rfl)
  ·
   exact tree_leaf (Or.inl rfl)
 by_cases h6 : k = 6
 ·
  obtain ⟨a, b, rfl⟩ := two_kids hk (Or.inl h6)
  subst h6
  simp only [Ex.sizeL] at hs
  rw [Ex.step_sum] at h
  obtain ⟨p, hp, h⟩ := Option.bind_eq_some_iff.1 h
  obtain ⟨q, hq, h⟩ := Option.bind_eq_some_iff.1 h
  exact limE_spec h (tree_two (Or.inl rfl) (ih a.size (by omega) a p (Nat.le_refl _) (Ex.treeL_mem htl (by simp)) hp).1 (ih b.size (by omega) b q (Nat.le_refl _) (Ex.treeL_mem htl (by simp)) hq).1)
 by_cases h7 : k = 7
 ·
  obtain ⟨a, b, rfl⟩ := two_kids hk (Or.inr h7)
  subst h7
  simp only [Ex.sizeL] at hs
  rw [Ex.step_dot] at h
  obtain ⟨p, hp, h⟩ := Option.bind_eq_some_iff.1 h
  have hbt : b.tree tm am = true := Ex.treeL_mem htl (by simp)
  have hpt := (ih a.size (by omega) a p (Nat.le_refl _) (Ex.treeL_mem htl (by simp)) hp).1
  split at h
  ·
   obtain ⟨q, hq, h⟩ := Option.bind_eq_some_iff.1 h
   exact limE_spec h (tree_two (Or.inl rfl) (tree_two (Or.inr rfl) hpt hbt) (ih b.size (by omega) b q (Nat.le_refl _) hbt hq).1)
  ·
   exact limE_spec h (tree_two (Or.inr rfl) hpt hbt)
 by_cases h8 : k = 8
 ·
  subst h8
  obtain ⟨a, rfl⟩ := one_kid hk (by omega)
  simp only [Ex.sizeL] at hs
  rw [Ex.step_star] at h
  obtain ⟨p, hp, h⟩ := Option.bind_eq_some_iff.1 h
  exact limE_spec h (tree_two (Or.inr rfl) (ih a.size (by omega) a p (Nat.le_refl _) (Ex.treeL_mem htl (by simp)) hp).1 ht)
 ·
  rw [Ex.step_else h4 h6 h7 h8] at h
  obtain rfl := Option.some.inj h
  exact ⟨tree_leaf (Or.inl rfl), by simp [Ex.leaf, Ex.size, Ex.sizeL]⟩
end Go.Proofs.Ytfhlddbngjlhbaa

namespace Go.Proofs.Ytfhlddbngjlhbaa
set_option linter.unusedVariables false
set_option linter.unusedSimpArgs false
open Go.ChangeShapes Go.WideShapes Go.ChangeAt Go.RowKit Go.Deep
theorem zero_implExpr : (Try.prog.info? 48).map (fun i => (i.zero, i.size, i.bytes)) = some (some (.agg #[.int .i64 0, .int .i64 0, .slice none 0 0]), 3, 40) := by kernel_rfl
def Ex.same (e : Ex) : Ex := e
set_option maxHeartbeats 16000000 in
theorem l01Own_same (N : Nat) : ∀ (e : Ex) (b o : Nat) (w : World), e.size ≤ N → ExAt w b o e → e.size ≤ 1073741824 → 
  Calls Try.prog 70 #[.pointer (some ⟨b, o, none⟩)] w fun f w' => ∃ s' c', f = .returned (.agg #[.int .i64 (Ex.same e).kind, .int .i64 (Ex.same e).num, .slice s' (Ex.same e).kids.length c']) ∧
   Freshs w w' [kidsD (Ex.same e).kids] [.slice s' (Ex.same e).kids.length c'] ∧ Below w.heap.size w w' := by
 induction N using Nat.strongRecOn with
 | _ N ih =>
 intro e b o w hN hat h1 
 obtain ⟨g0, g1, s, c, g2, g3⟩ := hat
 have hat : ExAt w b o e := ⟨g0, g1, s, c, g2, g3⟩
 obtain ⟨-, hlen, hcap, -, -⟩ := kid_at g3
 unfold maxLen at hcap
 have hse := Ex.size_eq e
 have hks : Ex.sizeL e.kids < N := by omega
 have hkl := Ex.length_le_sizeL e.kids
 have hkm : e.kids.length ≤ 1073741824 := by omega
 have hsl : Ex.sizeL e.kids ≤ 1073741824 := by omega
 clear hse hkl
 have hbl := hat.lt
 have Hl : Hid (e.kids.length = (Ex.same e).kids.length) := rfl
 have Hk : Hid ((Ex.same e).kind = e.kind) := rfl
 have Hn : Hid ((Ex.same e).num = e.num) := rfl
 have Hf : Hid (D.sl 3 e.kids.length (Ex.cellsL (Ex.same e).kids) = kidsD (Ex.same e).kids) := by show _ = _; unfold kidsD; rw [Hl.out]
 go_enter Try.func70, Try.ntmps70
 go_wp2_with fail
 have R0 := Blk.new3 w 48 (.int .i64 0) (.int .i64 0) (.slice none 0 0)
 have hB0 : Below w.heap.size w (w.alloc (.cells #[.int .i64 0, .int .i64 0, .slice none 0 0] 48)) := by (repeat' first | exact Below.refl _ _ | assumption | apply Below.alloc | apply Below.drew | apply Below.setCell | omega | (simp; done) | (simp; omega))
 have hz0 : (w.alloc (.cells #[.int .i64 0, .int .i64 0, .slice none 0 0] 48)).heap.size = w.heap.size + 1 := by simp
 generalize (w.alloc (.cells #[.int .i64 0, .int .i64 0, .slice none 0 0] 48)) = w0 at R0 hB0 hz0 ⊢
 have G2 := Lib.hid g2
 have G0 := Lib.hid g0
 clear g0 g1 g2
 have Hz0 := Lib.hid hz0
 have hz0' : w.heap.size < w0.heap.size := by omega
 clear hz0
 refine region_rs [(10, 9)] [] (fun _ _ => False) (w0.heap.size) (fun i iv vs wx => match i with
  | 0 => vs 0 = .pointer (some ⟨b, o, none⟩)
  | 1 => vs 1 = .pointer (some ⟨b, o, none⟩)
  | 2 => vs 2 = .pointer (some ⟨b, o, none⟩)
  | 3 => vs 3 = .int .i64 e.kind
  | 4 => vs 4 = .pointer (some ⟨b, o, none⟩)
  | 5 => vs 5 = .pointer (some ⟨b, o, none⟩)
  | 6 => vs 6 = .pointer (some ⟨b, o + 1, none⟩)
  | 7 => vs 7 = .int .i64 e.num
  | 8 => vs 8 = .agg #[.int .i64 e.kind, .int .i64 e.num, .slice none 0 0]
  | 9 => vs 9 = .pointer (some ⟨(iv 9).1, 0, none⟩) ∧ (iv 9).2 = (iv 9).1 + 1 ∧ Blk wx (iv 9).1 48 [.int .i64 0, .int .i64 0, .slice none 0 0]
  | 10 => (iv 9).2 = (iv 9).1 + 1 ∧ Blk wx ((iv 9).1) 48 [.int .i64 e.kind, .int .i64 e.num, .slice none 0 0]
  | _ => True) (fun i iv vs => match i with
  | 0 => vs 0 = .pointer (some ⟨b, o, none⟩)
  | 1 => vs 1 = .pointer (some ⟨b, o, none⟩)
  | 2 => vs 2 = .pointer (some ⟨b, o, none⟩)
  | 3 => vs 3 = .int .i64 e.kind
  | 4 => vs 4 = .pointer (some ⟨b, o, none⟩)
  | 5 => vs 5 = .pointer (some ⟨b, o, none⟩)
  | 6 => vs 6 = .pointer (some ⟨b, o + 1, none⟩)
  | 7 => vs 7 = .int .i64 e.num
  | 8 => vs 8 = .agg #[.int .i64 e.kind, .int .i64 e.num, .slice none 0 0]
  | 9 => vs 9 = .pointer (some ⟨(iv 9).1, 0, none⟩) ∧ (iv 9).2 = (iv 9).1 + 1
  | 10 => True
  | _ => True) (by kernel_rfl) (by kernel_rfl) [0, 1, 2, 3, 4, 5, 6, 7, 8, 9, 10] (by kernel_rfl) ?hbase ?hGb ?hG ?hJ ?hE ?hEE ?hstep ?hQ
 case hbase => first | exact Nat.le_refl _ | omega | (simp; omega)
 case hGb =>
  exact fun _ _ h => h.elim
 case hG =>
  exact fun _ _ _ h => h.elim
 case hJ =>
  intro i hi iv iv' vs vs' wx wx' ha hv hz hk hj
  simp only [List.mem_cons, List.not_mem_nil, or_false] at hi
  rcases hi with rfl | rfl | rfl | rfl | rfl | rfl | rfl | rfl | rfl | rfl | rfl
  ·
   exact (hv.out 0 (mem_of (by kernel_rfl))).symm.trans hj
  ·
   exact (hv.out 1 (mem_of (by kernel_rfl))).symm.trans hj
  ·
   exact (hv.out 2 (mem_of (by kernel_rfl))).symm.trans hj
  ·
   exact (hv.out 3 (mem_of (by kernel_rfl))).symm.trans hj
  ·
   exact (hv.out 4 (mem_of (by kernel_rfl))).symm.trans hj
  ·
   exact (hv.out 5 (mem_of (by kernel_rfl))).symm.trans hj
  ·
   exact (hv.out 6 (mem_of (by kernel_rfl))).symm.trans hj
  ·
   exact (hv.out 7 (mem_of (by kernel_rfl))).symm.trans hj
  ·
   exact (hv.out 8 (mem_of (by kernel_rfl))).symm.trans hj
  ·
   have e9 := hv.out 9 (mem_of (by kernel_rfl))
   have g9 := ha.out 9 (mem_of (by kernel_rfl))
   obtain ⟨q1, q3, q2⟩ := hj
   show vs' 9 = .pointer (some ⟨(iv' 9).1, 0, none⟩) ∧ (iv' 9).2 = (iv' 9).1 + 1 ∧ Blk wx' (iv' 9).1 48 [.int .i64 0, .int .i64 0, .slice none 0 0]
   rw [← e9, ← g9]
   exact ⟨q1, q3, q2.keep (hk.out _ q2.lt (foot_own (Nat.le_refl _) (by omega)))⟩
  ·
   have g9 := ha.out 9 (mem_of (by kernel_rfl))
   have hj' : (iv 9).2 = (iv 9).1 + 1 ∧ Blk wx ((iv 9).1) 48 [.int .i64 e.kind, .int .i64 e.num, .slice none 0 0] := hj
   show (iv' 9).2 = (iv' 9).1 + 1 ∧ Blk wx' ((iv' 9).1) 48 [.int .i64 e.kind, .int .i64 e.num, .slice none 0 0]
   rw [← g9]
   exact ⟨hj'.1, hj'.2.keep (hk.out _ hj'.2.lt ⟨9, mem_of (by kernel_rfl), Or.inl ⟨Nat.le_refl _, by omega⟩⟩)⟩
 case hE =>
  intro i hi iv vs wx hj
  simp only [List.mem_cons, List.not_mem_nil, or_false] at hi
  rcases hi with rfl | rfl | rfl | rfl | rfl | rfl | rfl | rfl | rfl | rfl | rfl
  ·
   exact hj
  ·
   exact hj
  ·
   exact hj
  ·
   exact hj
  ·
   exact hj
  ·
   exact hj
  ·
   exact hj
  ·
   exact hj
  ·
   exact hj
  ·
   exact ⟨hj.1, hj.2.1⟩
  ·
   trivial
 case hEE =>
  intro i hi iv iv' vs vs' ha hv hj
  simp only [List.mem_cons, List.not_mem_nil, or_false] at hi
  rcases hi with rfl | rfl | rfl | rfl | rfl | rfl | rfl | rfl | rfl | rfl | rfl
  ·
   exact (hv.out 0 (mem_of (by kernel_rfl))).symm.trans hj
  ·
   exact (hv.out 1 (mem_of (by kernel_rfl))).symm.trans hj
  ·
   exact (hv.out 2 (mem_of (by kernel_rfl))).symm.trans hj
  ·
   exact (hv.out 3 (mem_of (by kernel_rfl))).symm.trans hj
  ·
   exact (hv.out 4 (mem_of (by kernel_rfl))).symm.trans hj
  ·
   exact (hv.out 5 (mem_of (by kernel_rfl))).symm.trans hj
  ·
   exact (hv.out 6 (mem_of (by kernel_rfl))).symm.trans hj
  ·
   exact (hv.out 7 (mem_of (by kernel_rfl))).symm.trans hj
  ·
   exact (hv.out 8 (mem_of (by kernel_rfl))).symm.trans hj
  ·
   have e9 := hv.out 9 (mem_of (by kernel_rfl))
   have g9 := ha.out 9 (mem_of (by kernel_rfl))
   have hj' : vs 9 = .pointer (some ⟨(iv 9).1, 0, none⟩) ∧ (iv 9).2 = (iv 9).1 + 1 := hj
   show vs' 9 = .pointer (some ⟨(iv' 9).1, 0, none⟩) ∧ (iv' 9).2 = (iv' 9).1 + 1
   rw [← e9, ← g9]
   exact hj'
  ·
   trivial
 case hstep =>
  intro i hi opr ho iv vs w1 hB hS hSo hd he hbd hsep hun K hK
  simp only [List.mem_cons, List.not_mem_nil, or_false] at hi
  have hzB := hB.size
  obtain ⟨g0, g1, s', c', g2, g3'⟩ := (hat.below hB0).below hB
  generalize hA : putFrom _ 0 vs _ = A at hK ⊢
  simp only [putFrom, puts] at hA
  rcases hi with rfl | rfl | rfl | rfl | rfl | rfl | rfl | rfl | rfl | rfl | rfl
  all_goals
   simp at ho
   subst ho
   subst hA
  ·
   go_wp2_with fail
   exact Onward.mk (hK (.pointer (some ⟨b, o, none⟩)) _ _ (fun h => by cases h) (by first | rfl | (simp only [puts])) (Spares.refl _) (fun iv' _ _ => rfl))
  ·
   have h0 : vs 0 = .pointer (some ⟨b, o, none⟩) := hd.out 0 (mem_of (by kernel_rfl)) (by decide) (by kernel_rfl)
   go_wp2_with fail
   exact Onward.mk (hK (.pointer (some ⟨b, o, none⟩)) _ _ (fun h => by cases h) (by first | rfl | (simp only [puts, h0])) (Spares.refl _) (fun iv' _ _ => rfl))
  ·
   have h1 : vs 1 = .pointer (some ⟨b, o, none⟩) := hd.out 1 (mem_of (by kernel_rfl)) (by decide) (by kernel_rfl)
   go_wp2_with fail
   exact Onward.mk (hK (.pointer (some ⟨b, o, none⟩)) _ _ (fun h => by cases h) (by first | rfl | (simp only [puts, h1])) (Spares.refl _) (fun iv' _ _ => rfl))
  ·
   have h2 : vs 2 = .pointer (some ⟨b, o, none⟩) := hd.out 2 (mem_of (by kernel_rfl)) (by decide) (by kernel_rfl)
   go_wp2_with fail
   exact Onward.mk (hK (.int .i64 e.kind) _ _ (fun h => by cases h) (by first | rfl | (simp only [puts, h2])) (Spares.refl _) (fun iv' _ _ => rfl))
  ·
   go_wp2_with fail
   exact Onward.mk (hK (.pointer (some ⟨b, o, none⟩)) _ _ (fun h => by cases h) (by first | rfl | (simp only [puts])) (Spares.refl _) (fun iv' _ _ => rfl))
  ·
   have h4 : vs 4 = .pointer (some ⟨b, o, none⟩) := hd.out 4 (mem_of (by kernel_rfl)) (by decide) (by kernel_rfl)
   go_wp2_with fail
   exact Onward.mk (hK (.pointer (some ⟨b, o, none⟩)) _ _ (fun h => by cases h) (by first | rfl | (simp only [puts, h4])) (Spares.refl _) (fun iv' _ _ => rfl))
  ·
   have h5 : vs 5 = .pointer (some ⟨b, o, none⟩) := hd.out 5 (mem_of (by kernel_rfl)) (by decide) (by kernel_rfl)
   go_wp2_with fail
   exact Onward.mk (hK (.pointer (some ⟨b, o + 1, none⟩)) _ _ (fun h => by cases h) (by first | rfl | (simp only [puts, h5])) (Spares.refl _) (fun iv' _ _ => rfl))
  ·
   have h6 : vs 6 = .pointer (some ⟨b, o + 1, none⟩) := hd.out 6 (mem_of (by kernel_rfl)) (by decide) (by kernel_rfl)
   go_wp2_with fail
   exact Onward.mk (hK (.int .i64 e.num) _ _ (fun h => by cases h) (by first | rfl | (simp only [puts, h6])) (Spares.refl _) (fun iv' _ _ => rfl))
  ·
   have h3 : vs 3 = .int .i64 e.kind := hd.out 3 (mem_of (by kernel_rfl)) (by decide) (by kernel_rfl)
   have h7 : vs 7 = .int .i64 e.num := hd.out 7 (mem_of (by kernel_rfl)) (by decide) (by kernel_rfl)
   go_wp2_with fail
   exact Onward.mk (hK (.agg #[.int .i64 e.kind, .int .i64 e.num, .slice none 0 0]) _ _ (fun h => by cases h) (by first | rfl | (simp only [puts, h3, h7])) (Spares.refl _) (fun iv' _ _ => rfl))
  ·
   go_wp2_with fail
   exact Onward.mk (hK (.pointer (some ⟨w1.heap.size, 0, none⟩)) _ _ (fun h => by cases h) (by first | rfl | (simp only [puts])) (Spares.of_below (Below.alloc (Below.refl _ _) (Nat.le_refl _) _)) (fun iv' _ hi => by
    show Value.pointer (some ⟨w1.heap.size, 0, none⟩) = .pointer (some ⟨(iv' 9).1, 0, none⟩) ∧ (iv' 9).2 = (iv' 9).1 + 1 ∧ Blk _ (iv' 9).1 48 [.int .i64 0, .int .i64 0, .slice none 0 0]
    rw [hi]
    exact ⟨rfl, by simp, Blk.new3 _ _ _ _ _⟩))
  ·
   have h8 : vs 8 = .agg #[.int .i64 e.kind, .int .i64 e.num, .slice none 0 0] := hd.out 8 (mem_of (by kernel_rfl)) (by decide) (by kernel_rfl)
   obtain ⟨h9, q9, f9⟩ := hd.out 9 (mem_of (by kernel_rfl)) (by decide) (by kernel_rfl)
   have bc0 := f9.c0
   have bz0 := f9.frozen 0
   have bc1 := f9.c1
   have bz1 := f9.frozen 1
   have bc2 := f9.c2
   have bz2 := f9.frozen 2
   have blt := f9.lt
   go_wp2_with fail
   exact Onward.mk (hK undef _ _ (fun _ => rfl) (by simp only [puts, h8, h9]) ((spares_sets (b0 := (iv 9).1) (by repeat (first | exact Spares.refl _ | apply Spares.set))).more (fun b h => Or.inr ⟨9, by decide, foot_own (by omega) (by omega)⟩)) (fun iv' ag hi => by
    show (iv' 9).2 = (iv' 9).1 + 1 ∧ Blk _ ((iv' 9).1) 48 [.int .i64 e.kind, .int .i64 e.num, .slice none 0 0]
    rw [← ag.out 9 (mem_of (by kernel_rfl))]
    exact ⟨q9, (((f9.set 0 _).set 1 _).set 2 _)⟩))
 case hQ =>
  intro iv vs wx hB hSp hd he hbd hsep
  have hzB := hB.size
  have h0 : vs 0 = .pointer (some ⟨b, o, none⟩) := hd.out 0 (mem_of (by kernel_rfl)) (not_eaten (by kernel_rfl))
  have h1 : vs 1 = .pointer (some ⟨b, o, none⟩) := hd.out 1 (mem_of (by kernel_rfl)) (not_eaten (by kernel_rfl))
  have h2 : vs 2 = .pointer (some ⟨b, o, none⟩) := hd.out 2 (mem_of (by kernel_rfl)) (not_eaten (by kernel_rfl))
  have h3 : vs 3 = .int .i64 e.kind := hd.out 3 (mem_of (by kernel_rfl)) (not_eaten (by kernel_rfl))
  have h4 : vs 4 = .pointer (some ⟨b, o, none⟩) := hd.out 4 (mem_of (by kernel_rfl)) (not_eaten (by kernel_rfl))
  have h5 : vs 5 = .pointer (some ⟨b, o, none⟩) := hd.out 5 (mem_of (by kernel_rfl)) (not_eaten (by kernel_rfl))
  have h6 : vs 6 = .pointer (some ⟨b, o + 1, none⟩) := hd.out 6 (mem_of (by kernel_rfl)) (not_eaten (by kernel_rfl))
  have h7 : vs 7 = .int .i64 e.num := hd.out 7 (mem_of (by kernel_rfl)) (not_eaten (by kernel_rfl))
  have h8 : vs 8 = .agg #[.int .i64 e.kind, .int .i64 e.num, .slice none 0 0] := hd.out 8 (mem_of (by kernel_rfl)) (not_eaten (by kernel_rfl))
  obtain ⟨h9, q9⟩ := he.out 9 (mem_of (by kernel_rfl))
  obtain ⟨q10, f10⟩ := hd.out 10 (mem_of (by kernel_rfl)) (not_eaten (by kernel_rfl))
  simp only [putFrom, puts]
  obtain ⟨rb, hrb⟩ : ∃ rb, (iv 9).1 = rb := ⟨_, rfl⟩
  have b9 := (hbd.out 9 (mem_of (by kernel_rfl))).1
  rw [hrb] at h9 f10 b9
  simp only [h9]
  clear hd he hbd hsep h0 h1 h2 h3 h4 h5 h6 h7 h8 h9 q9 q10 hrb
  have hBx : Below w.heap.size w wx := Below.on hB0 hB hB0.size
  have R2 := R0.below hB
  have ltR := f10.lt
  have lt2 := R2.lt
  have szx := hBx.size
  obtain ⟨wz, rfl⟩ : ∃ wz : World, wz = wx := ⟨_, rfl⟩
  go_wp2_with fail
  go_loopw [4] (fun i wr => ∃ (k : Nat) (v : Value), k ≤ e.kids.length ∧ i = .int .i64 k ∧ Blk wr rb 48 [.int .i64 e.kind, .int .i64 e.num, v] ∧ App wz wr 48 3 k (Ex.cellsL ((Ex.same e).kids.take k)) v ∧ Below (w.heap.size + 1) wz wr) (fun i _ => e.kids.length - (intOf i).toNat)
  case atStart => exact ⟨0, .slice none 0 0, by omega, rfl, f10, by simpa [Ex.cellsL] using App.nil, Below.refl _ _⟩
  case round =>
   obtain ⟨k, v, hk, rfl, R, happ, hBr⟩ := hrel
   have hBw : Below w.heap.size w wr := hBx.trans (hBr.mono (by omega))
   have szr := hBr.size
   by_cases hlt : k < e.kids.length
   ·
    skip
    skip
    obtain ⟨x, hx⟩ : ∃ x, e.kids[k]? = some x := ⟨_, List.getElem?_eq_getElem (by omega)⟩
    have hy : (Ex.same e).kids[k]? = some (Ex.same x) := hx
    obtain ⟨kb, ko, rfl⟩ := kid_some g3 (by intro h; simp [h] at hlt)
    have hxat := kid_exAt g3 hx
    have hxm := Ex.sizeL_mem (List.mem_of_getElem? hx)
    have hxs : x.size < N := by omega
    have hx1 : x.size ≤ 1073741824 := by omega
    clear hxm
    have Hds := Lib.hid (Ex.cellsL_take_succ hy)
    clear hy
    obtain ⟨Fs, V, Vf⟩ := happ.foot
    have g2r := (hBw.cell (p := ⟨b, o + 2, none⟩) hbl).trans G2.out
    go_wp2_with fail
    skip
    clear g2r
    have hGb : ∀ m b, (fun m b => (m = 0 ∧ b ∈ Fs) ∨ (m = 1 ∧ b = rb)) m b → (w.heap.size + 1) ≤ b ∧ b < (wr).heap.size := by
     intro m b hg
     rcases hg with ⟨rfl, hg⟩ | ⟨rfl, hg⟩
     ·
      have q := Vf b hg
      omega
     ·
      subst hg
      have q := R.lt
      omega
    have hGd : ∀ m m' b, (fun m b => (m = 0 ∧ b ∈ Fs) ∨ (m = 1 ∧ b = rb)) m b → (fun m b => (m = 0 ∧ b ∈ Fs) ∨ (m = 1 ∧ b = rb)) m' b → m = m' := by
     intro m m' b h h'
     rcases h with ⟨rfl, h⟩ | ⟨rfl, h⟩ <;> rcases h' with ⟨rfl, h'⟩ | ⟨rfl, h'⟩ <;> first
      | rfl
      | (exfalso; have q := Vf b h; omega) | (exfalso; have q := Vf b h'; omega)
    refine region_rs [(10, 8)] [(10, 0), (12, 1)] (fun m b => (m = 0 ∧ b ∈ Fs) ∨ (m = 1 ∧ b = rb)) (w.heap.size + 1) (fun i iv vs wx => match i with
     | 0 => vs 0 = .pointer (some ⟨rb, 2, none⟩)
     | 1 => vs 1 = v
     | 2 => vs 2 = .pointer (some ⟨b, o, none⟩)
     | 3 => vs 3 = .pointer (some ⟨b, o, none⟩)
     | 4 => vs 4 = .pointer (some ⟨b, o + 2, none⟩)
     | 5 => vs 5 = .slice (some ⟨kb, ko, none⟩) e.kids.length c
     | 6 => vs 6 = .int .i64 k
     | 7 => vs 7 = .pointer (some ⟨kb, ko + k * 3, none⟩)
     | 8 => ∃ s2 c2, vs 8 = .agg #[.int .i64 (Ex.same x).kind, .int .i64 (Ex.same x).num, .slice s2 (Ex.same x).kids.length c2] ∧ FreshIn (iv 8) wx [kidsD (Ex.same x).kids] [.slice s2 (Ex.same x).kids.length c2]
     | 9 => vs 9 = .slice (some ⟨(iv 9).1, 0, none⟩) 1 1 ∧ (iv 9).2 = (iv 9).1 + 1 ∧ Blk wx (iv 9).1 48 [aggAt (vs 8) 0, aggAt (vs 8) 1, aggAt (vs 8) 2]
     | 10 => ∃ g cap, vs 10 = .slice (some ⟨g, 0, none⟩) (k + 1) cap ∧ AppS (foot [(10, 8)] [(10, 0), (12, 1)] (fun m b => (m = 0 ∧ b ∈ Fs) ∨ (m = 1 ∧ b = rb)) 13 10 iv) wx 48 3 (k + 1) (Ex.cellsL ((Ex.same e).kids.take k) ++ [.int (Ex.same x).kind, .int (Ex.same x).num, kidsD (Ex.same x).kids]) (.slice (some ⟨g, 0, none⟩) (k + 1) cap)
     | 11 => vs 11 = .pointer (some ⟨rb, 2, none⟩)
     | 12 => Blk wx (rb) 48 [.int .i64 e.kind, .int .i64 e.num, vs 10]
     | _ => True) (fun i iv vs => match i with
     | 0 => vs 0 = .pointer (some ⟨rb, 2, none⟩)
     | 1 => vs 1 = v
     | 2 => vs 2 = .pointer (some ⟨b, o, none⟩)
     | 3 => vs 3 = .pointer (some ⟨b, o, none⟩)
     | 4 => vs 4 = .pointer (some ⟨b, o + 2, none⟩)
     | 5 => vs 5 = .slice (some ⟨kb, ko, none⟩) e.kids.length c
     | 6 => vs 6 = .int .i64 k
     | 7 => vs 7 = .pointer (some ⟨kb, ko + k * 3, none⟩)
     | 8 => ∃ s2 c2, vs 8 = .agg #[.int .i64 (Ex.same x).kind, .int .i64 (Ex.same x).num, .slice s2 (Ex.same x).kids.length c2]
     | 9 => vs 9 = .slice (some ⟨(iv 9).1, 0, none⟩) 1 1 ∧ (iv 9).2 = (iv 9).1 + 1
     | 10 => ∃ g cap, vs 10 = .slice (some ⟨g, 0, none⟩) (k + 1) cap
     | 11 => vs 11 = .pointer (some ⟨rb, 2, none⟩)
     | 12 => True
     | _ => True) (by kernel_rfl) (by kernel_rfl) [0, 1, 2, 3, 4, 5, 6, 7, 8, 9, 10, 11, 12] (by kernel_rfl) ?hbase ?hGb ?hG ?hJ ?hE ?hEE ?hstep ?hQ
    case hbase => first | exact Nat.le_refl _ | omega | (simp; omega)
    case hGb =>
     exact hGb
    case hG =>
     exact hGd
    case hJ =>
     intro i hi iv iv' vs vs' wx wx' ha hv hz hk hj
     simp only [List.mem_cons, List.not_mem_nil, or_false] at hi
     rcases hi with rfl | rfl | rfl | rfl | rfl | rfl | rfl | rfl | rfl | rfl | rfl | rfl | rfl
     ·
      exact (hv.out 0 (mem_of (by kernel_rfl))).symm.trans hj
     ·
      exact (hv.out 1 (mem_of (by kernel_rfl))).symm.trans hj
     ·
      exact (hv.out 2 (mem_of (by kernel_rfl))).symm.trans hj
     ·
      exact (hv.out 3 (mem_of (by kernel_rfl))).symm.trans hj
     ·
      exact (hv.out 4 (mem_of (by kernel_rfl))).symm.trans hj
     ·
      exact (hv.out 5 (mem_of (by kernel_rfl))).symm.trans hj
     ·
      exact (hv.out 6 (mem_of (by kernel_rfl))).symm.trans hj
     ·
      exact (hv.out 7 (mem_of (by kernel_rfl))).symm.trans hj
     ·
      have e8 := hv.out 8 (mem_of (by kernel_rfl))
      have g8 := ha.out 8 (mem_of (by kernel_rfl))
      obtain ⟨s2, c2, q1, q2⟩ := hj
      exact ⟨s2, c2, e8 ▸ q1, g8 ▸ q2.keep (fun b hb h1 h2 => hk.out b hb (foot_own h1 h2))⟩
     ·
      have e8 := hv.out 8 (mem_of (by kernel_rfl))
      have e9 := hv.out 9 (mem_of (by kernel_rfl))
      have g9 := ha.out 9 (mem_of (by kernel_rfl))
      obtain ⟨q1, q3, q2⟩ := hj
      show vs' 9 = .slice (some ⟨(iv' 9).1, 0, none⟩) 1 1 ∧ (iv' 9).2 = (iv' 9).1 + 1 ∧ Blk wx' (iv' 9).1 48 [aggAt (vs' 8) 0, aggAt (vs' 8) 1, aggAt (vs' 8) 2]
      rw [← e8, ← e9, ← g9]
      exact ⟨q1, q3, q2.keep (hk.out _ q2.lt (foot_own (Nat.le_refl _) (by omega)))⟩
     ·
      have e10 := hv.out 10 (mem_of (by kernel_rfl))
      obtain ⟨g, cap, q1, q2⟩ := hj
      exact ⟨g, cap, e10 ▸ q1, (q2.keep (fun b hb h1 => hk.out b hb h1)).more (fun b hb h1 => foot_agree (l := ancs _ 13 10) (by exact of_decide_eq_true (by kernel_rfl)) ha.out h1)⟩
     ·
      exact (hv.out 11 (mem_of (by kernel_rfl))).symm.trans hj
     ·
      have e10 := hv.out 10 (mem_of (by kernel_rfl))
      have hj' : Blk wx (rb) 48 [.int .i64 e.kind, .int .i64 e.num, vs 10] := hj
      show Blk wx' (rb) 48 [.int .i64 e.kind, .int .i64 e.num, vs' 10]
      rw [← e10]
      exact hj'.keep (hk.out _ hj'.lt (foot_given 1 (by decide) (Or.inr ⟨rfl, rfl⟩)))
    case hE =>
     intro i hi iv vs wx hj
     simp only [List.mem_cons, List.not_mem_nil, or_false] at hi
     rcases hi with rfl | rfl | rfl | rfl | rfl | rfl | rfl | rfl | rfl | rfl | rfl | rfl | rfl
     ·
      exact hj
     ·
      exact hj
     ·
      exact hj
     ·
      exact hj
     ·
      exact hj
     ·
      exact hj
     ·
      exact hj
     ·
      exact hj
     ·
      obtain ⟨s2, c2, q1, -⟩ := hj
      exact ⟨s2, c2, q1⟩
     ·
      exact ⟨hj.1, hj.2.1⟩
     ·
      obtain ⟨g, cap, q1, -⟩ := hj
      exact ⟨g, cap, q1⟩
     ·
      exact hj
     ·
      trivial
    case hEE =>
     intro i hi iv iv' vs vs' ha hv hj
     simp only [List.mem_cons, List.not_mem_nil, or_false] at hi
     rcases hi with rfl | rfl | rfl | rfl | rfl | rfl | rfl | rfl | rfl | rfl | rfl | rfl | rfl
     ·
      exact (hv.out 0 (mem_of (by kernel_rfl))).symm.trans hj
     ·
      exact (hv.out 1 (mem_of (by kernel_rfl))).symm.trans hj
     ·
      exact (hv.out 2 (mem_of (by kernel_rfl))).symm.trans hj
     ·
      exact (hv.out 3 (mem_of (by kernel_rfl))).symm.trans hj
     ·
      exact (hv.out 4 (mem_of (by kernel_rfl))).symm.trans hj
     ·
      exact (hv.out 5 (mem_of (by kernel_rfl))).symm.trans hj
     ·
      exact (hv.out 6 (mem_of (by kernel_rfl))).symm.trans hj
     ·
      exact (hv.out 7 (mem_of (by kernel_rfl))).symm.trans hj
     ·
      have e8 := hv.out 8 (mem_of (by kernel_rfl))
      have hj' : ∃ s2 c2, vs 8 = .agg #[.int .i64 (Ex.same x).kind, .int .i64 (Ex.same x).num, .slice s2 (Ex.same x).kids.length c2] := hj
      show ∃ s2 c2, vs' 8 = .agg #[.int .i64 (Ex.same x).kind, .int .i64 (Ex.same x).num, .slice s2 (Ex.same x).kids.length c2]
      rw [← e8]
      exact hj'
     ·
      have e9 := hv.out 9 (mem_of (by kernel_rfl))
      have g9 := ha.out 9 (mem_of (by kernel_rfl))
      have hj' : vs 9 = .slice (some ⟨(iv 9).1, 0, none⟩) 1 1 ∧ (iv 9).2 = (iv 9).1 + 1 := hj
      show vs' 9 = .slice (some ⟨(iv' 9).1, 0, none⟩) 1 1 ∧ (iv' 9).2 = (iv' 9).1 + 1
      rw [← e9, ← g9]
      exact hj'
     ·
      have e10 := hv.out 10 (mem_of (by kernel_rfl))
      have hj' : ∃ g cap, vs 10 = .slice (some ⟨g, 0, none⟩) (k + 1) cap := hj
      show ∃ g cap, vs' 10 = .slice (some ⟨g, 0, none⟩) (k + 1) cap
      rw [← e10]
      exact hj'
     ·
      exact (hv.out 11 (mem_of (by kernel_rfl))).symm.trans hj
     ·
      trivial
    case hstep =>
     intro i hi opr ho iv vs w1 hB hS hSo hd he hbd hsep hun K hK
     simp only [List.mem_cons, List.not_mem_nil, or_false] at hi
     have hzB := hB.size
     have HGb := Lib.hid hGb
     clear hGb hGd
     have hBw1 : Below w.heap.size w w1 := hBw.trans (hB.mono (by omega))
     have g2' := (hBw1.cell (p := ⟨b, o + 2, none⟩) hbl).trans G2.out
     have hx1' := hxat.below hBw1
     generalize hA : putFrom _ 0 vs _ = A at hK ⊢
     simp only [putFrom, puts] at hA
     rcases hi with rfl | rfl | rfl | rfl | rfl | rfl | rfl | rfl | rfl | rfl | rfl | rfl | rfl
     all_goals
      simp at ho
      subst ho
      subst hA
     ·
      go_wp2_with fail
      exact Onward.mk (hK (.pointer (some ⟨rb, 2, none⟩)) _ _ (fun h => by cases h) (by first | rfl | (simp only [puts])) (Spares.refl _) (fun iv' _ _ => rfl))
     ·
      have h0 : vs 0 = .pointer (some ⟨rb, 2, none⟩) := hd.out 0 (mem_of (by kernel_rfl)) (by decide) (by kernel_rfl)
      have R1 := R.keep (hS.out 1 _ (by kernel_rfl) (Or.inr ⟨rfl, rfl⟩))
      have rc0 := R1.c0
      have rz0 := R1.frozen 0
      have rc1 := R1.c1
      have rz1 := R1.frozen 1
      have rc2 := R1.c2
      have rz2 := R1.frozen 2
      have rlt := R1.lt
      go_wp2_with fail
      exact Onward.mk (hK (v) _ _ (fun h => by cases h) (by first | rfl | (simp only [puts, h0])) (Spares.refl _) (fun iv' _ _ => rfl))
     ·
      go_wp2_with fail
      exact Onward.mk (hK (.pointer (some ⟨b, o, none⟩)) _ _ (fun h => by cases h) (by first | rfl | (simp only [puts])) (Spares.refl _) (fun iv' _ _ => rfl))
     ·
      have h2 : vs 2 = .pointer (some ⟨b, o, none⟩) := hd.out 2 (mem_of (by kernel_rfl)) (by decide) (by kernel_rfl)
      go_wp2_with fail
      exact Onward.mk (hK (.pointer (some ⟨b, o, none⟩)) _ _ (fun h => by cases h) (by first | rfl | (simp only [puts, h2])) (Spares.refl _) (fun iv' _ _ => rfl))
     ·
      have h3 : vs 3 = .pointer (some ⟨b, o, none⟩) := hd.out 3 (mem_of (by kernel_rfl)) (by decide) (by kernel_rfl)
      go_wp2_with fail
      exact Onward.mk (hK (.pointer (some ⟨b, o + 2, none⟩)) _ _ (fun h => by cases h) (by first | rfl | (simp only [puts, h3])) (Spares.refl _) (fun iv' _ _ => rfl))
     ·
      have h4 : vs 4 = .pointer (some ⟨b, o + 2, none⟩) := hd.out 4 (mem_of (by kernel_rfl)) (by decide) (by kernel_rfl)
      go_wp2_with fail
      exact Onward.mk (hK (.slice (some ⟨kb, ko, none⟩) e.kids.length c) _ _ (fun h => by cases h) (by first | rfl | (simp only [puts, h4])) (Spares.refl _) (fun iv' _ _ => rfl))
     ·
      go_wp2_with fail
      exact Onward.mk (hK (.int .i64 k) _ _ (fun h => by cases h) (by first | rfl | (simp only [puts])) (Spares.refl _) (fun iv' _ _ => rfl))
     ·
      have h5 : vs 5 = .slice (some ⟨kb, ko, none⟩) e.kids.length c := hd.out 5 (mem_of (by kernel_rfl)) (by decide) (by kernel_rfl)
      have h6 : vs 6 = .int .i64 k := hd.out 6 (mem_of (by kernel_rfl)) (by decide) (by kernel_rfl)
      go_wp2_with fail
      exact Onward.mk (hK (.pointer (some ⟨kb, ko + k * 3, none⟩)) _ _ (fun h => by cases h) (by first | rfl | (simp only [puts, h5, h6])) (Spares.refl _) (fun iv' _ _ => rfl))
     ·
      have h7 : vs 7 = .pointer (some ⟨kb, ko + k * 3, none⟩) := hd.out 7 (mem_of (by kernel_rfl)) (by decide) (by kernel_rfl)
      go_wp2_with fail
      refine (ih _ hxs x _ _ _ (Nat.le_refl _) hx1' hx1).mono ?_
      rintro e w2 ⟨s2, c2, rfl, hf, hb⟩
      go_wp2_with fail
      exact Onward.mk (hK (.agg #[.int .i64 (Ex.same x).kind, .int .i64 (Ex.same x).num, .slice s2 (Ex.same x).kids.length c2]) _ _ (fun h => by cases h) (by first | rfl | (simp only [puts, h7])) (Spares.of_below hb) (fun iv' _ hi => ⟨s2, c2, rfl, by rw [hi]; exact Freshs.stretch (hf)⟩))
     ·
      obtain ⟨s2, c2, h8, f8⟩ := hd.out 8 (mem_of (by kernel_rfl)) (by decide) (by kernel_rfl)
      go_wp2_with fail
      exact Onward.mk (hK (.slice (some ⟨w1.heap.size, 0, none⟩) 1 1) _ _ (fun h => by cases h) (by first | rfl | (simp only [puts, h8])) (Spares.of_below (Below.alloc (Below.refl _ _) (Nat.le_refl _) _)) (fun iv' _ hi => by
       show Value.slice (some ⟨w1.heap.size, 0, none⟩) 1 1 = .slice (some ⟨(iv' 9).1, 0, none⟩) 1 1 ∧ (iv' 9).2 = (iv' 9).1 + 1 ∧ Blk _ (iv' 9).1 48 [aggAt (vs 8) 0, aggAt (vs 8) 1, aggAt (vs 8) 2]
       rw [hi, h8]
       exact ⟨rfl, by simp, Blk.new3 _ _ _ _ _⟩))
     ·
      have h1 : vs 1 = v := hd.out 1 (mem_of (by kernel_rfl)) (by decide) (by kernel_rfl)
      obtain ⟨s2, c2, h8, f8⟩ := hd.out 8 (mem_of (by kernel_rfl)) (by decide) (by kernel_rfl)
      obtain ⟨h9, q9, f9⟩ := hd.out 9 (mem_of (by kernel_rfl)) (by decide) (by kernel_rfl)
      have V1 := V.keep (fun b _ hb => hS.out 0 b (by kernel_rfl) (Or.inl ⟨rfl, hb⟩))
      simp only [h1, h8, h9]
      have f9' : Blk w1 (iv 9).1 48 [.int .i64 (Ex.same x).kind, .int .i64 (Ex.same x).num, .slice s2 (Ex.same x).kids.length c2] := by first | exact f9 | (rw [h8] at f9; exact f9)
      refine wpList_append_s w1 (by rfl) _ _ 46 (by rfl) 48 (.agg #[.int .i64 0, .int .i64 0, .slice none 0 0]) 3 40 Try.underlying46 zero_implExpr rfl (by decide) (S := (fun b => b ∈ Fs)) (T := (fun b => (iv 8).1 ≤ b ∧ b < (iv 8).2)) _ (by rfl) V1 ⟨(iv 9).1, 0, none⟩ 1 1 [.int .i64 (Ex.same x).kind, .int .i64 (Ex.same x).num, .slice s2 (Ex.same x).kids.length c2] (by rfl) (news_blk f9') f8.three (fun b _ h1 h2 => by have q := (hbd.out 8 (mem_of (by kernel_rfl)) (by decide)).1; have q' := (HGb.out 0 b (Or.inl ⟨rfl, h1⟩)).2; omega) (by simp) (by simp [Value.oneCell']) (by omega) (by omega) (by unfold maxLen; omega) ?_
      intro g cap w2 hap ht
      go_wp2_with fail
      exact Onward.mk (hK (.slice (some ⟨g, 0, none⟩) (k + 1) cap) _ _ (fun h => by cases h) (by first | rfl | (simp only [puts, h1, h8, h9])) (ht.more (fun b h => Or.inl ⟨0, by decide, (Or.inl ⟨rfl, h⟩)⟩)) (fun iv' ag hi => ⟨g, cap, rfl, hap.more (fun b _ h => by rcases h with h | h | h; exact foot_given 0 (by decide) (Or.inl ⟨rfl, h⟩); exact foot_iv (by kernel_rfl) ag h.1 h.2; exact foot_new hi h.1 h.2)⟩))
     ·
      go_wp2_with fail
      exact Onward.mk (hK (.pointer (some ⟨rb, 2, none⟩)) _ _ (fun h => by cases h) (by first | rfl | (simp only [puts])) (Spares.refl _) (fun iv' _ _ => rfl))
     ·
      obtain ⟨g10, cap10, h10, f10⟩ := hd.out 10 (mem_of (by kernel_rfl)) (by decide) (by kernel_rfl)
      have h11 : vs 11 = .pointer (some ⟨rb, 2, none⟩) := hd.out 11 (mem_of (by kernel_rfl)) (by decide) (by kernel_rfl)
      have R1 := R.keep (hS.out 1 _ (by kernel_rfl) (Or.inr ⟨rfl, rfl⟩))
      have rc0 := R1.c0
      have rz0 := R1.frozen 0
      have rc1 := R1.c1
      have rz1 := R1.frozen 1
      have rc2 := R1.c2
      have rz2 := R1.frozen 2
      have rlt := R1.lt
      go_wp2_with fail
      exact Onward.mk (hK undef _ _ (fun _ => rfl) (by simp only [puts, h10, h11]) ((spares_sets (b0 := rb) (by repeat (first | exact Spares.refl _ | apply Spares.set))).more (fun b h => Or.inl ⟨1, by decide, (Or.inr ⟨rfl, h⟩)⟩)) (fun iv' ag hi => by
       show Blk _ (rb) 48 [.int .i64 e.kind, .int .i64 e.num, vs 10]
       rw [h10]
       exact (R1.set 2 _)))
    case hQ =>
     intro iv vs wx hB hSp hd he hbd hsep
     have hzB := hB.size
     have h0 : vs 0 = .pointer (some ⟨rb, 2, none⟩) := hd.out 0 (mem_of (by kernel_rfl)) (not_eaten (by kernel_rfl))
     have h1 : vs 1 = v := hd.out 1 (mem_of (by kernel_rfl)) (not_eaten (by kernel_rfl))
     have h2 : vs 2 = .pointer (some ⟨b, o, none⟩) := hd.out 2 (mem_of (by kernel_rfl)) (not_eaten (by kernel_rfl))
     have h3 : vs 3 = .pointer (some ⟨b, o, none⟩) := hd.out 3 (mem_of (by kernel_rfl)) (not_eaten (by kernel_rfl))
     have h4 : vs 4 = .pointer (some ⟨b, o + 2, none⟩) := hd.out 4 (mem_of (by kernel_rfl)) (not_eaten (by kernel_rfl))
     have h5 : vs 5 = .slice (some ⟨kb, ko, none⟩) e.kids.length c := hd.out 5 (mem_of (by kernel_rfl)) (not_eaten (by kernel_rfl))
     have h6 : vs 6 = .int .i64 k := hd.out 6 (mem_of (by kernel_rfl)) (not_eaten (by kernel_rfl))
     have h7 : vs 7 = .pointer (some ⟨kb, ko + k * 3, none⟩) := hd.out 7 (mem_of (by kernel_rfl)) (not_eaten (by kernel_rfl))
     obtain ⟨s2, c2, h8⟩ := he.out 8 (mem_of (by kernel_rfl))
     obtain ⟨h9, q9, f9⟩ := hd.out 9 (mem_of (by kernel_rfl)) (not_eaten (by kernel_rfl))
     obtain ⟨g10, cap10, h10, f10⟩ := hd.out 10 (mem_of (by kernel_rfl)) (not_eaten (by kernel_rfl))
     have h11 : vs 11 = .pointer (some ⟨rb, 2, none⟩) := hd.out 11 (mem_of (by kernel_rfl)) (not_eaten (by kernel_rfl))
     have f12 : Blk _ (rb) 48 [.int .i64 e.kind, .int .i64 e.num, vs 10] := hd.out 12 (mem_of (by kernel_rfl)) (not_eaten (by kernel_rfl))
     have lo10 : ∀ b, foot [(10, 8)] [(10, 0), (12, 1)] (fun m b => (m = 0 ∧ b ∈ Fs) ∨ (m = 1 ∧ b = rb)) 13 10 iv b → (wz.heap.size) ≤ b := by
      rintro b ⟨j, hj, hh⟩
      have hj' := of_decide_eq_true (List.all_eq_true.1 (show ((chainOf [(10, 8)] 13 10).all fun j => decide (j ∈ [10, 8])) = true from by kernel_rfl) j hj)
      simp only [List.mem_cons, List.not_mem_nil, or_false] at hj'
      rcases hj' with rfl | rfl
      ·
       have q := (hbd.out 10 (mem_of (by kernel_rfl))).1
       rcases hh with hh | ⟨m, hm, hg⟩
       ·
        omega
       ·
        simp at hm
        subst hm
        simp at hg
        have q' := Vf b hg
        omega
      ·
       have q := (hbd.out 8 (mem_of (by kernel_rfl))).1
       rcases hh with hh | ⟨m, hm, hg⟩
       ·
        omega
       ·
        simp at hm
     simp only [putFrom, puts]
     rw [h10] at f12
     have hap := f10.app (W := wz) lo10
     rw [← Hds.out] at hap
     clear hd he hbd hsep h0 h1 h2 h3 h4 h5 h6 h7 h8 h9 h10 h11 lo10 f10
     go_wp2_with fail
     go_roundw
     case rel => exact ⟨k + 1, _, by omega, by go_num, f12, hap, hBr.trans hB⟩
     case measure => simp [intOf]; omega
   ·
    obtain rfl : k = e.kids.length := by omega
    rw [List.take_of_length_le (by have := Hl.out; omega)] at happ
    obtain ⟨a', cap', rfl, -⟩ := happ.shape
    have g2r := (hBw.cell (p := ⟨b, o + 2, none⟩) hbl).trans G2.out
    have r0 := R.c0
    have r1 := R.c1
    have r2 := R.c2
    have Q2 := R2.keep (hBr.block _ (by omega))
    have q0 := Q2.c0
    have q1 := Q2.c1
    have q2 := Q2.c2
    have z0 := Q2.frozen 0
    have z1 := Q2.frozen 1
    have z2 := Q2.frozen 2
    go_wp2_with fail
    have T2 := ((Q2.set 0 (.int .i64 e.kind)).set 1 (.int .i64 e.num)).set 2 (.slice a' e.kids.length cap')
    have t0 := T2.c0
    have t1 := T2.c1
    have t2 := T2.c2
    refine bodyPost_ret (v := .agg #[.int .i64 e.kind, .int .i64 e.num, .slice a' e.kids.length cap']) (by simp [results, Try.results70, go_sem, t0, t1, t2]) rfl ⟨a', cap', by rw [Hk.out, Hn.out, ← Hl.out], ?_, by (repeat' first | exact Below.refl _ _ | assumption | apply Below.alloc | apply Below.drew | apply Below.setCell | omega | (simp; done) | (simp; omega))⟩
    rw [← Hf.out, ← Hl.out]
    refine Freshs.one ((happ.fresh.keep fun bb hb1 hb2 => ?_).from szx)
    rw [Below.heap_setCell _ _ _ _ (by show bb ≠ w.heap.size; omega), Below.heap_setCell _ _ _ _ (by show bb ≠ w.heap.size; omega), Below.heap_setCell _ _ _ _ (by show bb ≠ w.heap.size; omega)]
end Go.Proofs.Ytfhlddbngjlhbaa

namespace Go.Proofs.Ytfhlddbngjlhbaa
set_option linter.unusedVariables false
set_option linter.unusedSimpArgs false
open Go.ChangeShapes Go.WideShapes Go.ChangeAt Go.RowKit Go.Deep Go.Sort
theorem Ex.kind_mk {k n : Int} {ks : List Ex} : (Ex.mk k n ks).kind = k := rfl
theorem Ex.num_mk {k n : Int} {ks : List Ex} : (Ex.mk k n ks).num = n := rfl
theorem Ex.kids_mk {k n : Int} {ks : List Ex} : (Ex.mk k n ks).kids = ks := rfl
def K1 (w : World) (b o : Nat) (e : Ex) (s : Option Addr) (c : Nat) : Prop := w.cell? ⟨b, o, none⟩ = some (.int .i64 e.kind) ∧ w.cell? ⟨b, o + 1, none⟩ = some (.int .i64 e.num) ∧ w.cell? ⟨b, o + 2, none⟩ = some (.slice s e.kids.length c)
theorem K1.keep {w w' : World} {b o : Nat} {e : Ex} {s : Option Addr} {c : Nat} (h : K1 w b o e s c) (hk : w'.heap[b]? = w.heap[b]?) : K1 w' b o e s c :=
 ⟨(World.cell?_of_block (w := w) (w' := w') (a := ⟨b, o, none⟩) hk).trans h.1, (World.cell?_of_block (w := w) (w' := w') (a := ⟨b, o + 1, none⟩) hk).trans h.2.1, (World.cell?_of_block (w := w) (w' := w') (a := ⟨b, o + 2, none⟩) hk).trans h.2.2⟩
theorem kidX0 {X : Nat → Prop} {w : World} {x : Ex} {r : List Ex} {s : Option Addr} {len cap : Nat} (h : RdX X w (kidsD (x :: r)) (.slice s len cap)) :
  ∃ b o sx cx, s = some ⟨b, o, none⟩ ∧ len = r.length + 1 ∧ len ≤ cap ∧ cap ≤ maxLen ∧ b < w.heap.size ∧ ¬ X b ∧ K1 w b o x sx cx ∧ ExX X w x sx cx := by
 obtain ⟨hl, h1, h2, -, -⟩ := kid_at h.rd
 simp only [List.length_cons] at hl
 subst hl
 obtain ⟨b, o, rfl⟩ := kid_some (a := s) (cap := cap) h.rd (by simp)
 obtain ⟨hb, hn, sx, cx, k0, k1, k2, hx⟩ := kidX h (i := 0) (x := x) rfl
 simp only [Nat.zero_mul, Nat.add_zero] at k0 k1 k2
 exact ⟨b, o, sx, cx, rfl, rfl, h1, h2, hb, hn, ⟨k0, k1, k2⟩, hx⟩
theorem kidX1 {X : Nat → Prop} {w : World} {x y : Ex} {r : List Ex} {b o len cap : Nat} (h : RdX X w (kidsD (x :: y :: r)) (.slice (some ⟨b, o, none⟩) len cap)) : ∃ sy cy, K1 w b (o + 3) y sy cy ∧ ExX X w y sy cy := by
 obtain ⟨hb, hn, sx, cx, k0, k1, k2, hx⟩ := kidX h (i := 1) (x := y) rfl
 simp only [Nat.one_mul] at k0 k1 k2
 exact ⟨sx, cx, ⟨k0, k1, k2⟩, hx⟩
theorem ExX.rd {X : Nat → Prop} {w : World} {e : Ex} {s : Option Addr} {c : Nat} (h : ExX X w e s c) : Rd w (kidsD e.kids) (.slice s e.kids.length c) := RdX.rd h
theorem ExX.keep {X : Nat → Prop} {w w' : World} {e : Ex} {s : Option Addr} {c : Nat} (h : ExX X w e s c) (hk : KeptX X w w') : ExX X w' e s c := RdX.keep h hk
theorem ExX.below {X : Nat → Prop} {w w' : World} {e : Ex} {s : Option Addr} {c : Nat} (h : ExX X w e s c) (hk : Below w.heap.size w w') : ExX X w' e s c := RdX.below h hk
theorem ExX.less {X Y : Nat → Prop} {w : World} {e : Ex} {s : Option Addr} {c : Nat} (h : ExX X w e s c) (hs : ∀ b, b < w.heap.size → Y b → X b) : ExX Y w e s c := RdX.less h hs
end Go.Proofs.Ytfhlddbngjlhbaa
