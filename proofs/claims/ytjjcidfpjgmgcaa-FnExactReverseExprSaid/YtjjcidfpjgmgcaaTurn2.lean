/-
  l01Turn, ReverseExpr of both.
-/
import Derived.Test.YtjjcidfpjgmgcaaTurn
namespace Go.Proofs.Ytjjcidfpjgmgcaa
open Go.ChangeShapes Go.WideShapes Go.ChangeAt Go.RowKit Go.Deep Go.Sort

theorem rev_at7 {e x : Ex} {k j : Nat} (h7 : e.kind = 7) (h2 : e.kids.length = 2) (hk : k < e.kids.length) (hj : 1 - k = j) (hx : e.kids[j]? = some x) : e.rev.kids[k]? = some x.rev := by
  rw [Ex.rev_kids, if_pos h7, List.getElem?_reverse (by rw [Ex.revL_length]; exact hk), Ex.revL_length, show e.kids.length - 1 - k = j by omega]
  exact Ex.revL_at hx
theorem rev_at {e x : Ex} {k : Nat} (h7 : ¬ e.kind = 7) (hx : e.kids[k]? = some x) : e.rev.kids[k]? = some x.rev := by
  rw [Ex.rev_kids, if_neg h7]
  exact Ex.revL_at hx
set_option maxHeartbeats 16000000 in
theorem l01Turn_all (N : Nat) : ∀ (e : Ex) (b o : Nat) (w : World), e.size ≤ N → ExAt w b o e → e.size ≤ 1073741824 → ∀ (tm am : Int), e.tree tm am = true →
    Calls Try.prog 78 #[.pointer (some ⟨b, o, none⟩)] w fun f w' => ∃ s' c', f = .returned (.agg #[.int .i64 (Ex.rev e).kind, .int .i64 (Ex.rev e).num, .slice s' (Ex.rev e).kids.length c']) ∧
      Freshs w w' [kidsD (Ex.rev e).kids] [.slice s' (Ex.rev e).kids.length c'] ∧ Below w.heap.size w w' := by
  induction N using Nat.strongRecOn with
  | _ N ih =>
  intro e b o w hN hat h1 tm am htr
  obtain ⟨g0, g1, s, c, g2, g3⟩ := hat
  have hat : ExAt w b o e := ⟨g0, g1, s, c, g2, g3⟩
  obtain ⟨-, hlen, hcap, -, -⟩ := kid_at g3
  unfold maxLen at hcap
  have hse := Ex.size_eq e
  have hks : Ex.sizeL e.kids < N := by omega
  have hkl := Ex.length_le_sizeL e.kids
  have hkm : e.kids.length ≤ 1073741824 := by omega
  have hsl : Ex.sizeL e.kids ≤ 1073741824 := by omega
  clear hse hkl
  have hbl := hat.lt
  by_cases h7 : e.kind = 7
  · have H7 := Lib.hid h7
    have k2 : (e.kids.length : Int) = 2 := by rw [← (tree_parts' htr).1, h7, kidsN_seven]
    have hk2 : 2 ≤ e.kids.length := by omega
    have hk3 : e.kids.length ≤ 2 := by omega
    have c7 : (e.kind == 7) = true := by simp [h7]
    clear k2 h7
    have Hl : Hid (e.kids.length = (Ex.rev e).kids.length) := Ex.rev_length e
    have Hk : Hid ((Ex.rev e).kind = e.kind) := Ex.rev_kind e
    have Hn : Hid ((Ex.rev e).num = e.num) := Ex.rev_num e
    have Hf : Hid (D.sl 3 e.kids.length (Ex.cellsL (Ex.rev e).kids) = kidsD (Ex.rev e).kids) := by show _ = _; unfold kidsD; rw [Hl.out]
    go_enter Try.func78, Try.ntmps78
    go_wp2_with fail
    have R0 := Blk.new3 w 45 (.int .i64 0) (.int .i64 0) (.slice none 0 0)
    have hB0 : Below w.heap.size w (w.alloc (.cells #[.int .i64 0, .int .i64 0, .slice none 0 0] 45)) := by (repeat' (first | exact Below.refl _ _ | assumption | (refine Below.alloc ?_ (by first | omega | (simp; done) | (simp; omega)) _) | (refine Below.drew ?_) | (refine Below.setCell ?_ (by first | omega | (simp; done) | (simp; omega)) _)))
    have hz0 : (w.alloc (.cells #[.int .i64 0, .int .i64 0, .slice none 0 0] 45)).heap.size = w.heap.size + 1 := by simp
    generalize (w.alloc (.cells #[.int .i64 0, .int .i64 0, .slice none 0 0] 45)) = w0 at R0 hB0 hz0 ⊢
    have G2 := Lib.hid g2
    have G0 := Lib.hid g0
    clear g0 g1 g2
    have Hz0 := Lib.hid hz0
    have hz0' : w.heap.size < w0.heap.size := by omega
    clear hz0
    refine region_rs [(10, 9)] [] (fun _ _ => False) (w0.heap.size) (fun i iv vs wx => match i with
      | 0 => vs 0 = .pointer (some ⟨b, o, none⟩)
      | 1 => vs 1 = .pointer (some ⟨b, o, none⟩)
      | 2 => vs 2 = .pointer (some ⟨b, o, none⟩)
      | 3 => vs 3 = .int .i64 e.kind
      | 4 => vs 4 = .pointer (some ⟨b, o, none⟩)
      | 5 => vs 5 = .pointer (some ⟨b, o, none⟩)
      | 6 => vs 6 = .pointer (some ⟨b, o + 1, none⟩)
      | 7 => vs 7 = .int .i64 e.num
      | 8 => vs 8 = .agg #[.int .i64 e.kind, .int .i64 e.num, .slice none 0 0]
      | 9 => vs 9 = .pointer (some ⟨(iv 9).1, 0, none⟩) ∧ (iv 9).2 = (iv 9).1 + 1 ∧ Blk wx (iv 9).1 45 [.int .i64 0, .int .i64 0, .slice none 0 0]
      | 10 => (iv 9).2 = (iv 9).1 + 1 ∧ Blk wx ((iv 9).1) 45 [.int .i64 e.kind, .int .i64 e.num, .slice none 0 0]
      | _ => True) (fun i iv vs => match i with
      | 0 => vs 0 = .pointer (some ⟨b, o, none⟩)
      | 1 => vs 1 = .pointer (some ⟨b, o, none⟩)
      | 2 => vs 2 = .pointer (some ⟨b, o, none⟩)
      | 3 => vs 3 = .int .i64 e.kind
      | 4 => vs 4 = .pointer (some ⟨b, o, none⟩)
      | 5 => vs 5 = .pointer (some ⟨b, o, none⟩)
      | 6 => vs 6 = .pointer (some ⟨b, o + 1, none⟩)
      | 7 => vs 7 = .int .i64 e.num
      | 8 => vs 8 = .agg #[.int .i64 e.kind, .int .i64 e.num, .slice none 0 0]
      | 9 => vs 9 = .pointer (some ⟨(iv 9).1, 0, none⟩) ∧ (iv 9).2 = (iv 9).1 + 1
      | 10 => True
      | _ => True) (by kernel_rfl) (by kernel_rfl) [0, 1, 2, 3, 4, 5, 6, 7, 8, 9, 10] (by kernel_rfl) ?hbase ?hGb ?hG ?hJ ?hE ?hEE ?hstep ?hQ
    case hbase => first | exact Nat.le_refl _ | omega | (simp; omega)
    case hGb =>
      exact fun _ _ h => h.elim
    case hG =>
      exact fun _ _ _ h => h.elim
    case hJ =>
      intro i hi iv iv' vs vs' wx wx' ha hv hz hk hj
      simp only [List.mem_cons, List.not_mem_nil, or_false] at hi
      rcases hi with rfl | rfl | rfl | rfl | rfl | rfl | rfl | rfl | rfl | rfl | rfl
      · have e0 := hv.out 0 (mem_of (by kernel_rfl))
        have hj' : vs 0 = .pointer (some ⟨b, o, none⟩) := hj
        show vs' 0 = .pointer (some ⟨b, o, none⟩)
        rw [← e0]
        exact hj'
      · have e1 := hv.out 1 (mem_of (by kernel_rfl))
        have hj' : vs 1 = .pointer (some ⟨b, o, none⟩) := hj
        show vs' 1 = .pointer (some ⟨b, o, none⟩)
        rw [← e1]
        exact hj'
      · have e2 := hv.out 2 (mem_of (by kernel_rfl))
        have hj' : vs 2 = .pointer (some ⟨b, o, none⟩) := hj
        show vs' 2 = .pointer (some ⟨b, o, none⟩)
        rw [← e2]
        exact hj'
      · have e3 := hv.out 3 (mem_of (by kernel_rfl))
        have hj' : vs 3 = .int .i64 e.kind := hj
        show vs' 3 = .int .i64 e.kind
        rw [← e3]
        exact hj'
      · have e4 := hv.out 4 (mem_of (by kernel_rfl))
        have hj' : vs 4 = .pointer (some ⟨b, o, none⟩) := hj
        show vs' 4 = .pointer (some ⟨b, o, none⟩)
        rw [← e4]
        exact hj'
      · have e5 := hv.out 5 (mem_of (by kernel_rfl))
        have hj' : vs 5 = .pointer (some ⟨b, o, none⟩) := hj
        show vs' 5 = .pointer (some ⟨b, o, none⟩)
        rw [← e5]
        exact hj'
      · have e6 := hv.out 6 (mem_of (by kernel_rfl))
        have hj' : vs 6 = .pointer (some ⟨b, o + 1, none⟩) := hj
        show vs' 6 = .pointer (some ⟨b, o + 1, none⟩)
        rw [← e6]
        exact hj'
      · have e7 := hv.out 7 (mem_of (by kernel_rfl))
        have hj' : vs 7 = .int .i64 e.num := hj
        show vs' 7 = .int .i64 e.num
        rw [← e7]
        exact hj'
      · have e8 := hv.out 8 (mem_of (by kernel_rfl))
        have hj' : vs 8 = .agg #[.int .i64 e.kind, .int .i64 e.num, .slice none 0 0] := hj
        show vs' 8 = .agg #[.int .i64 e.kind, .int .i64 e.num, .slice none 0 0]
        rw [← e8]
        exact hj'
      · have e9 := hv.out 9 (mem_of (by kernel_rfl))
        have g9 := ha.out 9 (mem_of (by kernel_rfl))
        obtain ⟨q1, q3, q2⟩ := hj
        show vs' 9 = .pointer (some ⟨(iv' 9).1, 0, none⟩) ∧ (iv' 9).2 = (iv' 9).1 + 1 ∧ Blk wx' (iv' 9).1 45 [.int .i64 0, .int .i64 0, .slice none 0 0]
        rw [← e9, ← g9]
        exact ⟨q1, q3, q2.keep (hk.out _ q2.lt (foot_own (Nat.le_refl _) (by omega)))⟩
      · have g9 := ha.out 9 (mem_of (by kernel_rfl))
        have hj' : (iv 9).2 = (iv 9).1 + 1 ∧ Blk wx ((iv 9).1) 45 [.int .i64 e.kind, .int .i64 e.num, .slice none 0 0] := hj
        show (iv' 9).2 = (iv' 9).1 + 1 ∧ Blk wx' ((iv' 9).1) 45 [.int .i64 e.kind, .int .i64 e.num, .slice none 0 0]
        rw [← g9]
        exact ⟨hj'.1, hj'.2.keep (hk.out _ hj'.2.lt ⟨9, mem_of (by kernel_rfl), Or.inl ⟨Nat.le_refl _, by omega⟩⟩)⟩
    case hE =>
      intro i hi iv vs wx hj
      simp only [List.mem_cons, List.not_mem_nil, or_false] at hi
      rcases hi with rfl | rfl | rfl | rfl | rfl | rfl | rfl | rfl | rfl | rfl | rfl
      · exact hj
      · exact hj
      · exact hj
      · exact hj
      · exact hj
      · exact hj
      · exact hj
      · exact hj
      · exact hj
      · exact ⟨hj.1, hj.2.1⟩
      · trivial
    case hEE =>
      intro i hi iv iv' vs vs' ha hv hj
      simp only [List.mem_cons, List.not_mem_nil, or_false] at hi
      rcases hi with rfl | rfl | rfl | rfl | rfl | rfl | rfl | rfl | rfl | rfl | rfl
      · have e0 := hv.out 0 (mem_of (by kernel_rfl))
        have hj' : vs 0 = .pointer (some ⟨b, o, none⟩) := hj
        show vs' 0 = .pointer (some ⟨b, o, none⟩)
        rw [← e0]
        exact hj'
      · have e1 := hv.out 1 (mem_of (by kernel_rfl))
        have hj' : vs 1 = .pointer (some ⟨b, o, none⟩) := hj
        show vs' 1 = .pointer (some ⟨b, o, none⟩)
        rw [← e1]
        exact hj'
      · have e2 := hv.out 2 (mem_of (by kernel_rfl))
        have hj' : vs 2 = .pointer (some ⟨b, o, none⟩) := hj
        show vs' 2 = .pointer (some ⟨b, o, none⟩)
        rw [← e2]
        exact hj'
      · have e3 := hv.out 3 (mem_of (by kernel_rfl))
        have hj' : vs 3 = .int .i64 e.kind := hj
        show vs' 3 = .int .i64 e.kind
        rw [← e3]
        exact hj'
      · have e4 := hv.out 4 (mem_of (by kernel_rfl))
        have hj' : vs 4 = .pointer (some ⟨b, o, none⟩) := hj
        show vs' 4 = .pointer (some ⟨b, o, none⟩)
        rw [← e4]
        exact hj'
      · have e5 := hv.out 5 (mem_of (by kernel_rfl))
        have hj' : vs 5 = .pointer (some ⟨b, o, none⟩) := hj
        show vs' 5 = .pointer (some ⟨b, o, none⟩)
        rw [← e5]
        exact hj'
      · have e6 := hv.out 6 (mem_of (by kernel_rfl))
        have hj' : vs 6 = .pointer (some ⟨b, o + 1, none⟩) := hj
        show vs' 6 = .pointer (some ⟨b, o + 1, none⟩)
        rw [← e6]
        exact hj'
      · have e7 := hv.out 7 (mem_of (by kernel_rfl))
        have hj' : vs 7 = .int .i64 e.num := hj
        show vs' 7 = .int .i64 e.num
        rw [← e7]
        exact hj'
      · have e8 := hv.out 8 (mem_of (by kernel_rfl))
        have hj' : vs 8 = .agg #[.int .i64 e.kind, .int .i64 e.num, .slice none 0 0] := hj
        show vs' 8 = .agg #[.int .i64 e.kind, .int .i64 e.num, .slice none 0 0]
        rw [← e8]
        exact hj'
      · have e9 := hv.out 9 (mem_of (by kernel_rfl))
        have g9 := ha.out 9 (mem_of (by kernel_rfl))
        have hj' : vs 9 = .pointer (some ⟨(iv 9).1, 0, none⟩) ∧ (iv 9).2 = (iv 9).1 + 1 := hj
        show vs' 9 = .pointer (some ⟨(iv' 9).1, 0, none⟩) ∧ (iv' 9).2 = (iv' 9).1 + 1
        rw [← e9, ← g9]
        exact hj'
      · trivial
    case hstep =>
      intro i hi opr ho iv vs w1 hB hS hd he hbd hsep K hK
      simp only [List.mem_cons, List.not_mem_nil, or_false] at hi
      have hzB := hB.size
      obtain ⟨g0, g1, s', c', g2, g3'⟩ := (hat.below hB0).below hB
      rcases hi with rfl | rfl | rfl | rfl | rfl | rfl | rfl | rfl | rfl | rfl | rfl
      all_goals
        simp at ho
        subst ho
        simp only [putFrom, Act.put, List.setIfInBounds_toArray, List.set_cons_succ, List.set_cons_zero]
      · go_wp2_with fail
        exact Onward.mk (hK (.pointer (some ⟨b, o, none⟩)) _ _ (by simp) (by simp only [putFrom, Act.put, List.setIfInBounds_toArray, List.set_cons_succ, List.set_cons_zero]) (Spares.of_below (Below.refl _ _)) (fun iv' _ _ => rfl))
      · have h0 : vs 0 = .pointer (some ⟨b, o, none⟩) := hd.out 0 (mem_of (by kernel_rfl)) (by decide) (by kernel_rfl)
        go_wp2_with fail
        exact Onward.mk (hK (.pointer (some ⟨b, o, none⟩)) _ _ (by simp) (by simp only [putFrom, Act.put, List.setIfInBounds_toArray, List.set_cons_succ, List.set_cons_zero, h0]) (Spares.of_below (Below.refl _ _)) (fun iv' _ _ => rfl))
      · have h1 : vs 1 = .pointer (some ⟨b, o, none⟩) := hd.out 1 (mem_of (by kernel_rfl)) (by decide) (by kernel_rfl)
        go_wp2_with fail
        exact Onward.mk (hK (.pointer (some ⟨b, o, none⟩)) _ _ (by simp) (by simp only [putFrom, Act.put, List.setIfInBounds_toArray, List.set_cons_succ, List.set_cons_zero, h1]) (Spares.of_below (Below.refl _ _)) (fun iv' _ _ => rfl))
      · have h2 : vs 2 = .pointer (some ⟨b, o, none⟩) := hd.out 2 (mem_of (by kernel_rfl)) (by decide) (by kernel_rfl)
        go_wp2_with fail
        exact Onward.mk (hK (.int .i64 e.kind) _ _ (by simp) (by simp only [putFrom, Act.put, List.setIfInBounds_toArray, List.set_cons_succ, List.set_cons_zero, h2]) (Spares.of_below (Below.refl _ _)) (fun iv' _ _ => rfl))
      · go_wp2_with fail
        exact Onward.mk (hK (.pointer (some ⟨b, o, none⟩)) _ _ (by simp) (by simp only [putFrom, Act.put, List.setIfInBounds_toArray, List.set_cons_succ, List.set_cons_zero]) (Spares.of_below (Below.refl _ _)) (fun iv' _ _ => rfl))
      · have h4 : vs 4 = .pointer (some ⟨b, o, none⟩) := hd.out 4 (mem_of (by kernel_rfl)) (by decide) (by kernel_rfl)
        go_wp2_with fail
        exact Onward.mk (hK (.pointer (some ⟨b, o, none⟩)) _ _ (by simp) (by simp only [putFrom, Act.put, List.setIfInBounds_toArray, List.set_cons_succ, List.set_cons_zero, h4]) (Spares.of_below (Below.refl _ _)) (fun iv' _ _ => rfl))
      · have h5 : vs 5 = .pointer (some ⟨b, o, none⟩) := hd.out 5 (mem_of (by kernel_rfl)) (by decide) (by kernel_rfl)
        go_wp2_with fail
        exact Onward.mk (hK (.pointer (some ⟨b, o + 1, none⟩)) _ _ (by simp) (by simp only [putFrom, Act.put, List.setIfInBounds_toArray, List.set_cons_succ, List.set_cons_zero, h5]) (Spares.of_below (Below.refl _ _)) (fun iv' _ _ => rfl))
      · have h6 : vs 6 = .pointer (some ⟨b, o + 1, none⟩) := hd.out 6 (mem_of (by kernel_rfl)) (by decide) (by kernel_rfl)
        go_wp2_with fail
        exact Onward.mk (hK (.int .i64 e.num) _ _ (by simp) (by simp only [putFrom, Act.put, List.setIfInBounds_toArray, List.set_cons_succ, List.set_cons_zero, h6]) (Spares.of_below (Below.refl _ _)) (fun iv' _ _ => rfl))
      · have h3 : vs 3 = .int .i64 e.kind := hd.out 3 (mem_of (by kernel_rfl)) (by decide) (by kernel_rfl)
        have h7 : vs 7 = .int .i64 e.num := hd.out 7 (mem_of (by kernel_rfl)) (by decide) (by kernel_rfl)
        go_wp2_with fail
        exact Onward.mk (hK (.agg #[.int .i64 e.kind, .int .i64 e.num, .slice none 0 0]) _ _ (by simp) (by simp only [putFrom, Act.put, List.setIfInBounds_toArray, List.set_cons_succ, List.set_cons_zero, h3, h7]) (Spares.of_below (Below.refl _ _)) (fun iv' _ _ => rfl))
      · go_wp2_with fail
        exact Onward.mk (hK (.pointer (some ⟨w1.heap.size, 0, none⟩)) _ _ (by simp) (by simp only [putFrom, Act.put, List.setIfInBounds_toArray, List.set_cons_succ, List.set_cons_zero]) (Spares.of_below (Below.alloc (Below.refl _ _) (Nat.le_refl _) _)) (fun iv' _ hi => by
          show Value.pointer (some ⟨w1.heap.size, 0, none⟩) = .pointer (some ⟨(iv' 9).1, 0, none⟩) ∧ (iv' 9).2 = (iv' 9).1 + 1 ∧ Blk _ (iv' 9).1 45 [.int .i64 0, .int .i64 0, .slice none 0 0]
          rw [hi]
          exact ⟨rfl, by simp, Blk.new3 _ _ _ _ _⟩))
      · have h8 : vs 8 = .agg #[.int .i64 e.kind, .int .i64 e.num, .slice none 0 0] := hd.out 8 (mem_of (by kernel_rfl)) (by decide) (by kernel_rfl)
        obtain ⟨h9, q9, f9⟩ := hd.out 9 (mem_of (by kernel_rfl)) (by decide) (by kernel_rfl)
        have bc0 := f9.c0
        have bz0 := f9.frozen 0
        have bc1 := f9.c1
        have bz1 := f9.frozen 1
        have bc2 := f9.c2
        have bz2 := f9.frozen 2
        have blt := f9.lt
        go_wp2_with fail
        exact Onward.mk (hK undef _ _ (fun _ => rfl) (by simp only [putFrom, Act.put, List.setIfInBounds_toArray, List.set_cons_succ, List.set_cons_zero, h8, h9]) ((spares_sets (b0 := (iv 9).1) (by repeat (first | exact Spares.refl _ | apply Spares.set))).more (fun b h => Or.inr ⟨9, by decide, foot_own (by omega) (by omega)⟩)) (fun iv' ag hi => by
          show (iv' 9).2 = (iv' 9).1 + 1 ∧ Blk _ ((iv' 9).1) 45 [.int .i64 e.kind, .int .i64 e.num, .slice none 0 0]
          rw [← ag.out 9 (mem_of (by kernel_rfl))]
          exact ⟨q9, (((f9.set 0 _).set 1 _).set 2 _)⟩))
    case hQ =>
      intro iv vs wx hB hSp hd he hbd hsep
      have hzB := hB.size
      have h0 : vs 0 = .pointer (some ⟨b, o, none⟩) := hd.out 0 (mem_of (by kernel_rfl)) (not_eaten (by kernel_rfl))
      have h1 : vs 1 = .pointer (some ⟨b, o, none⟩) := hd.out 1 (mem_of (by kernel_rfl)) (not_eaten (by kernel_rfl))
      have h2 : vs 2 = .pointer (some ⟨b, o, none⟩) := hd.out 2 (mem_of (by kernel_rfl)) (not_eaten (by kernel_rfl))
      have h3 : vs 3 = .int .i64 e.kind := hd.out 3 (mem_of (by kernel_rfl)) (not_eaten (by kernel_rfl))
      have h4 : vs 4 = .pointer (some ⟨b, o, none⟩) := hd.out 4 (mem_of (by kernel_rfl)) (not_eaten (by kernel_rfl))
      have h5 : vs 5 = .pointer (some ⟨b, o, none⟩) := hd.out 5 (mem_of (by kernel_rfl)) (not_eaten (by kernel_rfl))
      have h6 : vs 6 = .pointer (some ⟨b, o + 1, none⟩) := hd.out 6 (mem_of (by kernel_rfl)) (not_eaten (by kernel_rfl))
      have h7 : vs 7 = .int .i64 e.num := hd.out 7 (mem_of (by kernel_rfl)) (not_eaten (by kernel_rfl))
      have h8 : vs 8 = .agg #[.int .i64 e.kind, .int .i64 e.num, .slice none 0 0] := hd.out 8 (mem_of (by kernel_rfl)) (not_eaten (by kernel_rfl))
      obtain ⟨h9, q9⟩ := he.out 9 (mem_of (by kernel_rfl))
      obtain ⟨q10, f10⟩ := hd.out 10 (mem_of (by kernel_rfl)) (not_eaten (by kernel_rfl))
      simp only [putFrom, Act.put, List.setIfInBounds_toArray, List.set_cons_succ, List.set_cons_zero]
      obtain ⟨rb, hrb⟩ : ∃ rb, (iv 9).1 = rb := ⟨_, rfl⟩
      have b9 := (hbd.out 9 (mem_of (by kernel_rfl))).1
      rw [hrb] at h9 f10 b9
      simp only [h9]
      clear hd he hbd hsep h0 h1 h2 h3 h4 h5 h6 h7 h8 h9 q9 q10 hrb
      have hBx : Below w.heap.size w wx := Below.on hB0 hB hB0.size
      have R2 := R0.below hB
      have ltR := f10.lt
      have lt2 := R2.lt
      have szx := hBx.size
      obtain ⟨wz, rfl⟩ : ∃ wz : World, wz = wx := ⟨_, rfl⟩
      go_wp2_with fail
      go_loopw [4] (fun i wr => ∃ (k : Nat) (v : Value), k ≤ e.kids.length ∧ i = .int .i64 k ∧ Blk wr rb 45 [.int .i64 e.kind, .int .i64 e.num, v] ∧ App wz wr 45 3 k (Ex.cellsL ((Ex.rev e).kids.take k)) v ∧ Below (w.heap.size + 1) wz wr) (fun i _ => e.kids.length - (intOf i).toNat)
      case atStart => exact ⟨0, .slice none 0 0, by omega, rfl, f10, by simpa [Ex.cellsL] using App.nil, Below.refl _ _⟩
      case round =>
        obtain ⟨k, v, hk, rfl, R, happ, hBr⟩ := hrel
        have hBw : Below w.heap.size w wr := hBx.trans (hBr.mono (by omega))
        have szr := hBr.size
        by_cases hlt : k < e.kids.length
        · skip
          have g0r := (hBw.cell (p := ⟨b, o, none⟩) hbl).trans G0.out
          obtain ⟨j, hj⟩ : ∃ j, 1 - k = j := ⟨_, rfl⟩
          have hjb : j ≤ 1 := by omega
          have ej : (1 : Int) - (k : Int) = (j : Int) := by omega
          have Hj := Lib.hid hj
          have Hej := Lib.hid ej
          clear hj ej
          have hjl : j < e.kids.length := by omega
          obtain ⟨x, hx⟩ : ∃ x, e.kids[j]? = some x := ⟨_, List.getElem?_eq_getElem (by omega)⟩
          have hy : (Ex.rev e).kids[k]? = some (Ex.rev x) := rev_at7 H7.out (by omega) hlt Hj.out hx
          obtain ⟨kb, ko, rfl⟩ := kid_some g3 (by intro h; simp [h] at hlt)
          have hxat := kid_exAt g3 hx
          have hxm := Ex.sizeL_mem (List.mem_of_getElem? hx)
          have hxs : x.size < N := by omega
          have hx1 : x.size ≤ 1073741824 := by omega
          clear hxm
          have Hds := Lib.hid (Ex.cellsL_take_succ hy)
          clear hy
          obtain ⟨Fs, V, Vf⟩ := happ.foot
          have g2r := (hBw.cell (p := ⟨b, o + 2, none⟩) hbl).trans G2.out
          go_wp2_with fail
          clear g0r
          simp only [Hej.out]
          have hxt : x.tree tm am = true := Ex.treeL_mem (tree_parts' htr).2 (List.mem_of_getElem? hx)
          clear g2r
          have hGb : ∀ m b, (fun m b => (m = 0 ∧ b ∈ Fs) ∨ (m = 1 ∧ b = rb)) m b → (w.heap.size + 1) ≤ b ∧ b < (wr).heap.size := by
            intro m b hg
            rcases hg with ⟨rfl, hg⟩ | ⟨rfl, hg⟩
            · have q := Vf b hg
              omega
            · subst hg
              have q := R.lt
              omega
          have hGd : ∀ m m' b, (fun m b => (m = 0 ∧ b ∈ Fs) ∨ (m = 1 ∧ b = rb)) m b → (fun m b => (m = 0 ∧ b ∈ Fs) ∨ (m = 1 ∧ b = rb)) m' b → m = m' := by
            intro m m' b h h'
            rcases h with ⟨rfl, h⟩ | ⟨rfl, h⟩ <;> rcases h' with ⟨rfl, h'⟩ | ⟨rfl, h'⟩ <;> first
              | rfl
              | (exfalso; have q := Vf b h; omega) | (exfalso; have q := Vf b h'; omega)
          refine region_rs [(10, 8)] [(10, 0), (12, 1)] (fun m b => (m = 0 ∧ b ∈ Fs) ∨ (m = 1 ∧ b = rb)) (w.heap.size + 1) (fun i iv vs wx => match i with
            | 0 => vs 0 = .pointer (some ⟨rb, 2, none⟩)
            | 1 => vs 1 = v
            | 2 => vs 2 = .pointer (some ⟨b, o, none⟩)
            | 3 => vs 3 = .pointer (some ⟨b, o, none⟩)
            | 4 => vs 4 = .pointer (some ⟨b, o + 2, none⟩)
            | 5 => vs 5 = .slice (some ⟨kb, ko, none⟩) e.kids.length c
            | 6 => vs 6 = .int .i64 j
            | 7 => vs 7 = .pointer (some ⟨kb, ko + j * 3, none⟩)
            | 8 => ∃ s2 c2, vs 8 = .agg #[.int .i64 (Ex.rev x).kind, .int .i64 (Ex.rev x).num, .slice s2 (Ex.rev x).kids.length c2] ∧ FreshIn (iv 8) wx [kidsD (Ex.rev x).kids] [.slice s2 (Ex.rev x).kids.length c2]
            | 9 => vs 9 = .slice (some ⟨(iv 9).1, 0, none⟩) 1 1 ∧ (iv 9).2 = (iv 9).1 + 1 ∧ Blk wx (iv 9).1 45 [aggAt (vs 8) 0, aggAt (vs 8) 1, aggAt (vs 8) 2]
            | 10 => ∃ g cap, vs 10 = .slice (some ⟨g, 0, none⟩) (k + 1) cap ∧ AppS (foot [(10, 8)] [(10, 0), (12, 1)] (fun m b => (m = 0 ∧ b ∈ Fs) ∨ (m = 1 ∧ b = rb)) 13 10 iv) wx 45 3 (k + 1) (Ex.cellsL ((Ex.rev e).kids.take k) ++ [.int (Ex.rev x).kind, .int (Ex.rev x).num, kidsD (Ex.rev x).kids]) (.slice (some ⟨g, 0, none⟩) (k + 1) cap)
            | 11 => vs 11 = .pointer (some ⟨rb, 2, none⟩)
            | 12 => Blk wx (rb) 45 [.int .i64 e.kind, .int .i64 e.num, vs 10]
            | _ => True) (fun i iv vs => match i with
            | 0 => vs 0 = .pointer (some ⟨rb, 2, none⟩)
            | 1 => vs 1 = v
            | 2 => vs 2 = .pointer (some ⟨b, o, none⟩)
            | 3 => vs 3 = .pointer (some ⟨b, o, none⟩)
            | 4 => vs 4 = .pointer (some ⟨b, o + 2, none⟩)
            | 5 => vs 5 = .slice (some ⟨kb, ko, none⟩) e.kids.length c
            | 6 => vs 6 = .int .i64 j
            | 7 => vs 7 = .pointer (some ⟨kb, ko + j * 3, none⟩)
            | 8 => ∃ s2 c2, vs 8 = .agg #[.int .i64 (Ex.rev x).kind, .int .i64 (Ex.rev x).num, .slice s2 (Ex.rev x).kids.length c2]
            | 9 => vs 9 = .slice (some ⟨(iv 9).1, 0, none⟩) 1 1 ∧ (iv 9).2 = (iv 9).1 + 1
            | 10 => ∃ g cap, vs 10 = .slice (some ⟨g, 0, none⟩) (k + 1) cap
            | 11 => vs 11 = .pointer (some ⟨rb, 2, none⟩)
            | 12 => True
            | _ => True) (by kernel_rfl) (by kernel_rfl) [0, 1, 2, 3, 4, 5, 6, 7, 8, 9, 10, 11, 12] (by kernel_rfl) ?hbase ?hGb ?hG ?hJ ?hE ?hEE ?hstep ?hQ
          case hbase => first | exact Nat.le_refl _ | omega | (simp; omega)
          case hGb =>
            exact hGb
          case hG =>
            exact hGd
          case hJ =>
            intro i hi iv iv' vs vs' wx wx' ha hv hz hk hj
            simp only [List.mem_cons, List.not_mem_nil, or_false] at hi
            rcases hi with rfl | rfl | rfl | rfl | rfl | rfl | rfl | rfl | rfl | rfl | rfl | rfl | rfl
            · have e0 := hv.out 0 (mem_of (by kernel_rfl))
              have hj' : vs 0 = .pointer (some ⟨rb, 2, none⟩) := hj
              show vs' 0 = .pointer (some ⟨rb, 2, none⟩)
              rw [← e0]
              exact hj'
            · have e1 := hv.out 1 (mem_of (by kernel_rfl))
              have hj' : vs 1 = v := hj
              show vs' 1 = v
              rw [← e1]
              exact hj'
            · have e2 := hv.out 2 (mem_of (by kernel_rfl))
              have hj' : vs 2 = .pointer (some ⟨b, o, none⟩) := hj
              show vs' 2 = .pointer (some ⟨b, o, none⟩)
              rw [← e2]
              exact hj'
            · have e3 := hv.out 3 (mem_of (by kernel_rfl))
              have hj' : vs 3 = .pointer (some ⟨b, o, none⟩) := hj
              show vs' 3 = .pointer (some ⟨b, o, none⟩)
              rw [← e3]
              exact hj'
            · have e4 := hv.out 4 (mem_of (by kernel_rfl))
              have hj' : vs 4 = .pointer (some ⟨b, o + 2, none⟩) := hj
              show vs' 4 = .pointer (some ⟨b, o + 2, none⟩)
              rw [← e4]
              exact hj'
            · have e5 := hv.out 5 (mem_of (by kernel_rfl))
              have hj' : vs 5 = .slice (some ⟨kb, ko, none⟩) e.kids.length c := hj
              show vs' 5 = .slice (some ⟨kb, ko, none⟩) e.kids.length c
              rw [← e5]
              exact hj'
            · have e6 := hv.out 6 (mem_of (by kernel_rfl))
              have hj' : vs 6 = .int .i64 j := hj
              show vs' 6 = .int .i64 j
              rw [← e6]
              exact hj'
            · have e7 := hv.out 7 (mem_of (by kernel_rfl))
              have hj' : vs 7 = .pointer (some ⟨kb, ko + j * 3, none⟩) := hj
              show vs' 7 = .pointer (some ⟨kb, ko + j * 3, none⟩)
              rw [← e7]
              exact hj'
            · have e8 := hv.out 8 (mem_of (by kernel_rfl))
              have g8 := ha.out 8 (mem_of (by kernel_rfl))
              obtain ⟨s2, c2, q1, q2⟩ := hj
              exact ⟨s2, c2, e8 ▸ q1, g8 ▸ q2.keep (fun b hb h1 h2 => hk.out b hb (foot_own h1 h2))⟩
            · have e8 := hv.out 8 (mem_of (by kernel_rfl))
              have e9 := hv.out 9 (mem_of (by kernel_rfl))
              have g9 := ha.out 9 (mem_of (by kernel_rfl))
              obtain ⟨q1, q3, q2⟩ := hj
              show vs' 9 = .slice (some ⟨(iv' 9).1, 0, none⟩) 1 1 ∧ (iv' 9).2 = (iv' 9).1 + 1 ∧ Blk wx' (iv' 9).1 45 [aggAt (vs' 8) 0, aggAt (vs' 8) 1, aggAt (vs' 8) 2]
              rw [← e8, ← e9, ← g9]
              exact ⟨q1, q3, q2.keep (hk.out _ q2.lt (foot_own (Nat.le_refl _) (by omega)))⟩
            · have e10 := hv.out 10 (mem_of (by kernel_rfl))
              obtain ⟨g, cap, q1, q2⟩ := hj
              exact ⟨g, cap, e10 ▸ q1, (q2.keep (fun b hb h1 => hk.out b hb h1)).more (fun b hb h1 => foot_agree (l := ancs _ 13 10) (by exact of_decide_eq_true (by kernel_rfl)) ha.out h1)⟩
            · have e11 := hv.out 11 (mem_of (by kernel_rfl))
              have hj' : vs 11 = .pointer (some ⟨rb, 2, none⟩) := hj
              show vs' 11 = .pointer (some ⟨rb, 2, none⟩)
              rw [← e11]
              exact hj'
            · have e10 := hv.out 10 (mem_of (by kernel_rfl))
              have hj' : Blk wx (rb) 45 [.int .i64 e.kind, .int .i64 e.num, vs 10] := hj
              show Blk wx' (rb) 45 [.int .i64 e.kind, .int .i64 e.num, vs' 10]
              rw [← e10]
              exact hj'.keep (hk.out _ hj'.lt (foot_given 1 (by decide) (Or.inr ⟨rfl, rfl⟩)))
          case hE =>
            intro i hi iv vs wx hj
            simp only [List.mem_cons, List.not_mem_nil, or_false] at hi
            rcases hi with rfl | rfl | rfl | rfl | rfl | rfl | rfl | rfl | rfl | rfl | rfl | rfl | rfl
            · exact hj
            · exact hj
            · exact hj
            · exact hj
            · exact hj
            · exact hj
            · exact hj
            · exact hj
            · obtain ⟨s2, c2, q1, -⟩ := hj
              exact ⟨s2, c2, q1⟩
            · exact ⟨hj.1, hj.2.1⟩
            · obtain ⟨g, cap, q1, -⟩ := hj
              exact ⟨g, cap, q1⟩
            · exact hj
            · trivial
          case hEE =>
            intro i hi iv iv' vs vs' ha hv hj
            simp only [List.mem_cons, List.not_mem_nil, or_false] at hi
            rcases hi with rfl | rfl | rfl | rfl | rfl | rfl | rfl | rfl | rfl | rfl | rfl | rfl | rfl
            · have e0 := hv.out 0 (mem_of (by kernel_rfl))
              have hj' : vs 0 = .pointer (some ⟨rb, 2, none⟩) := hj
              show vs' 0 = .pointer (some ⟨rb, 2, none⟩)
              rw [← e0]
              exact hj'
            · have e1 := hv.out 1 (mem_of (by kernel_rfl))
              have hj' : vs 1 = v := hj
              show vs' 1 = v
              rw [← e1]
              exact hj'
            · have e2 := hv.out 2 (mem_of (by kernel_rfl))
              have hj' : vs 2 = .pointer (some ⟨b, o, none⟩) := hj
              show vs' 2 = .pointer (some ⟨b, o, none⟩)
              rw [← e2]
              exact hj'
            · have e3 := hv.out 3 (mem_of (by kernel_rfl))
              have hj' : vs 3 = .pointer (some ⟨b, o, none⟩) := hj
              show vs' 3 = .pointer (some ⟨b, o, none⟩)
              rw [← e3]
              exact hj'
            · have e4 := hv.out 4 (mem_of (by kernel_rfl))
              have hj' : vs 4 = .pointer (some ⟨b, o + 2, none⟩) := hj
              show vs' 4 = .pointer (some ⟨b, o + 2, none⟩)
              rw [← e4]
              exact hj'
            · have e5 := hv.out 5 (mem_of (by kernel_rfl))
              have hj' : vs 5 = .slice (some ⟨kb, ko, none⟩) e.kids.length c := hj
              show vs' 5 = .slice (some ⟨kb, ko, none⟩) e.kids.length c
              rw [← e5]
              exact hj'
            · have e6 := hv.out 6 (mem_of (by kernel_rfl))
              have hj' : vs 6 = .int .i64 j := hj
              show vs' 6 = .int .i64 j
              rw [← e6]
              exact hj'
            · have e7 := hv.out 7 (mem_of (by kernel_rfl))
              have hj' : vs 7 = .pointer (some ⟨kb, ko + j * 3, none⟩) := hj
              show vs' 7 = .pointer (some ⟨kb, ko + j * 3, none⟩)
              rw [← e7]
              exact hj'
            · have e8 := hv.out 8 (mem_of (by kernel_rfl))
              have hj' : ∃ s2 c2, vs 8 = .agg #[.int .i64 (Ex.rev x).kind, .int .i64 (Ex.rev x).num, .slice s2 (Ex.rev x).kids.length c2] := hj
              show ∃ s2 c2, vs' 8 = .agg #[.int .i64 (Ex.rev x).kind, .int .i64 (Ex.rev x).num, .slice s2 (Ex.rev x).kids.length c2]
              rw [← e8]
              exact hj'
            · have e9 := hv.out 9 (mem_of (by kernel_rfl))
              have g9 := ha.out 9 (mem_of (by kernel_rfl))
              have hj' : vs 9 = .slice (some ⟨(iv 9).1, 0, none⟩) 1 1 ∧ (iv 9).2 = (iv 9).1 + 1 := hj
              show vs' 9 = .slice (some ⟨(iv' 9).1, 0, none⟩) 1 1 ∧ (iv' 9).2 = (iv' 9).1 + 1
              rw [← e9, ← g9]
              exact hj'
            · have e10 := hv.out 10 (mem_of (by kernel_rfl))
              have hj' : ∃ g cap, vs 10 = .slice (some ⟨g, 0, none⟩) (k + 1) cap := hj
              show ∃ g cap, vs' 10 = .slice (some ⟨g, 0, none⟩) (k + 1) cap
              rw [← e10]
              exact hj'
            · have e11 := hv.out 11 (mem_of (by kernel_rfl))
              have hj' : vs 11 = .pointer (some ⟨rb, 2, none⟩) := hj
              show vs' 11 = .pointer (some ⟨rb, 2, none⟩)
              rw [← e11]
              exact hj'
            · trivial
          case hstep =>
            intro i hi opr ho iv vs w1 hB hS hd he hbd hsep K hK
            simp only [List.mem_cons, List.not_mem_nil, or_false] at hi
            have hzB := hB.size
            have hBw1 : Below w.heap.size w w1 := hBw.trans (hB.mono (by omega))
            have g2' := (hBw1.cell (p := ⟨b, o + 2, none⟩) hbl).trans G2.out
            have hx1' := hxat.below hBw1
            rcases hi with rfl | rfl | rfl | rfl | rfl | rfl | rfl | rfl | rfl | rfl | rfl | rfl | rfl
            all_goals
              simp at ho
              subst ho
              simp only [putFrom, Act.put, List.setIfInBounds_toArray, List.set_cons_succ, List.set_cons_zero]
            · go_wp2_with fail
              exact Onward.mk (hK (.pointer (some ⟨rb, 2, none⟩)) _ _ (by simp) (by simp only [putFrom, Act.put, List.setIfInBounds_toArray, List.set_cons_succ, List.set_cons_zero]) (Spares.of_below (Below.refl _ _)) (fun iv' _ _ => rfl))
            · have h0 : vs 0 = .pointer (some ⟨rb, 2, none⟩) := hd.out 0 (mem_of (by kernel_rfl)) (by decide) (by kernel_rfl)
              have R1 := R.keep (hS.out 1 _ (by kernel_rfl) (Or.inr ⟨rfl, rfl⟩))
              have rc0 := R1.c0
              have rz0 := R1.frozen 0
              have rc1 := R1.c1
              have rz1 := R1.frozen 1
              have rc2 := R1.c2
              have rz2 := R1.frozen 2
              have rlt := R1.lt
              go_wp2_with fail
              exact Onward.mk (hK (v) _ _ (by simp) (by simp only [putFrom, Act.put, List.setIfInBounds_toArray, List.set_cons_succ, List.set_cons_zero, h0]) (Spares.of_below (Below.refl _ _)) (fun iv' _ _ => rfl))
            · go_wp2_with fail
              exact Onward.mk (hK (.pointer (some ⟨b, o, none⟩)) _ _ (by simp) (by simp only [putFrom, Act.put, List.setIfInBounds_toArray, List.set_cons_succ, List.set_cons_zero]) (Spares.of_below (Below.refl _ _)) (fun iv' _ _ => rfl))
            · have h2 : vs 2 = .pointer (some ⟨b, o, none⟩) := hd.out 2 (mem_of (by kernel_rfl)) (by decide) (by kernel_rfl)
              go_wp2_with fail
              exact Onward.mk (hK (.pointer (some ⟨b, o, none⟩)) _ _ (by simp) (by simp only [putFrom, Act.put, List.setIfInBounds_toArray, List.set_cons_succ, List.set_cons_zero, h2]) (Spares.of_below (Below.refl _ _)) (fun iv' _ _ => rfl))
            · have h3 : vs 3 = .pointer (some ⟨b, o, none⟩) := hd.out 3 (mem_of (by kernel_rfl)) (by decide) (by kernel_rfl)
              go_wp2_with fail
              exact Onward.mk (hK (.pointer (some ⟨b, o + 2, none⟩)) _ _ (by simp) (by simp only [putFrom, Act.put, List.setIfInBounds_toArray, List.set_cons_succ, List.set_cons_zero, h3]) (Spares.of_below (Below.refl _ _)) (fun iv' _ _ => rfl))
            · have h4 : vs 4 = .pointer (some ⟨b, o + 2, none⟩) := hd.out 4 (mem_of (by kernel_rfl)) (by decide) (by kernel_rfl)
              go_wp2_with fail
              exact Onward.mk (hK (.slice (some ⟨kb, ko, none⟩) e.kids.length c) _ _ (by simp) (by simp only [putFrom, Act.put, List.setIfInBounds_toArray, List.set_cons_succ, List.set_cons_zero, h4]) (Spares.of_below (Below.refl _ _)) (fun iv' _ _ => rfl))
            · go_wp2_with fail
              exact Onward.mk (hK (.int .i64 j) _ _ (by simp) (by simp only [putFrom, Act.put, List.setIfInBounds_toArray, List.set_cons_succ, List.set_cons_zero]) (Spares.of_below (Below.refl _ _)) (fun iv' _ _ => rfl))
            · have h5 : vs 5 = .slice (some ⟨kb, ko, none⟩) e.kids.length c := hd.out 5 (mem_of (by kernel_rfl)) (by decide) (by kernel_rfl)
              have h6 : vs 6 = .int .i64 j := hd.out 6 (mem_of (by kernel_rfl)) (by decide) (by kernel_rfl)
              go_wp2_with fail
              exact Onward.mk (hK (.pointer (some ⟨kb, ko + j * 3, none⟩)) _ _ (by simp) (by simp only [putFrom, Act.put, List.setIfInBounds_toArray, List.set_cons_succ, List.set_cons_zero, h5, h6]) (Spares.of_below (Below.refl _ _)) (fun iv' _ _ => rfl))
            · have h7 : vs 7 = .pointer (some ⟨kb, ko + j * 3, none⟩) := hd.out 7 (mem_of (by kernel_rfl)) (by decide) (by kernel_rfl)
              go_wp2_with fail
              refine (ih _ hxs x _ _ _ (Nat.le_refl _) hx1' hx1 tm am hxt).mono ?_
              rintro e w2 ⟨s2, c2, rfl, hf, hb⟩
              go_wp2_with fail
              exact Onward.mk (hK (.agg #[.int .i64 (Ex.rev x).kind, .int .i64 (Ex.rev x).num, .slice s2 (Ex.rev x).kids.length c2]) _ _ (by simp) (by simp only [putFrom, Act.put, List.setIfInBounds_toArray, List.set_cons_succ, List.set_cons_zero, h7]) (Spares.of_below hb) (fun iv' _ hi => ⟨s2, c2, rfl, by rw [hi]; exact Freshs.stretch (hf)⟩))
            · obtain ⟨s2, c2, h8, f8⟩ := hd.out 8 (mem_of (by kernel_rfl)) (by decide) (by kernel_rfl)
              go_wp2_with fail
              exact Onward.mk (hK (.slice (some ⟨w1.heap.size, 0, none⟩) 1 1) _ _ (by simp) (by simp only [putFrom, Act.put, List.setIfInBounds_toArray, List.set_cons_succ, List.set_cons_zero, h8]) (Spares.of_below (Below.alloc (Below.refl _ _) (Nat.le_refl _) _)) (fun iv' _ hi => by
                show Value.slice (some ⟨w1.heap.size, 0, none⟩) 1 1 = .slice (some ⟨(iv' 9).1, 0, none⟩) 1 1 ∧ (iv' 9).2 = (iv' 9).1 + 1 ∧ Blk _ (iv' 9).1 45 [aggAt (vs 8) 0, aggAt (vs 8) 1, aggAt (vs 8) 2]
                rw [hi, h8]
                exact ⟨rfl, by simp, Blk.new3 _ _ _ _ _⟩))
            · have h1 : vs 1 = v := hd.out 1 (mem_of (by kernel_rfl)) (by decide) (by kernel_rfl)
              obtain ⟨s2, c2, h8, f8⟩ := hd.out 8 (mem_of (by kernel_rfl)) (by decide) (by kernel_rfl)
              obtain ⟨h9, q9, f9⟩ := hd.out 9 (mem_of (by kernel_rfl)) (by decide) (by kernel_rfl)
              have V1 := V.keep (fun b _ hb => hS.out 0 b (by kernel_rfl) (Or.inl ⟨rfl, hb⟩))
              simp only [h1, h8, h9]
              have f9' : Blk w1 (iv 9).1 45 [.int .i64 (Ex.rev x).kind, .int .i64 (Ex.rev x).num, .slice s2 (Ex.rev x).kids.length c2] := by first | exact f9 | (rw [h8] at f9; exact f9)
              refine wpList_append_s w1 (by rfl) _ _ 43 (by rfl) 45 (.agg #[.int .i64 0, .int .i64 0, .slice none 0 0]) 3 40 Try.underlying43 zero_implExpr rfl (by decide) (S := (fun b => b ∈ Fs)) (T := (fun b => (iv 8).1 ≤ b ∧ b < (iv 8).2)) _ (by rfl) V1 ⟨(iv 9).1, 0, none⟩ 1 1 [.int .i64 (Ex.rev x).kind, .int .i64 (Ex.rev x).num, .slice s2 (Ex.rev x).kids.length c2] (by rfl) (news_blk f9') f8.three (fun b _ h1 h2 => by have q := (hbd.out 8 (mem_of (by kernel_rfl)) (by decide)).1; have q' := (hGb 0 b (Or.inl ⟨rfl, h1⟩)).2; omega) (by simp) (by simp [Value.oneCell']) (by omega) (by omega) (by unfold maxLen; omega) ?_
              intro g cap w2 hap ht
              go_wp2_with fail
              exact Onward.mk (hK (.slice (some ⟨g, 0, none⟩) (k + 1) cap) _ _ (by simp) (by simp only [putFrom, Act.put, List.setIfInBounds_toArray, List.set_cons_succ, List.set_cons_zero, h1, h8, h9]) (ht.more (fun b h => Or.inl ⟨0, by decide, (Or.inl ⟨rfl, h⟩)⟩)) (fun iv' ag hi => ⟨g, cap, rfl, hap.more (fun b _ h => by rcases h with h | h | h; exact foot_given 0 (by decide) (Or.inl ⟨rfl, h⟩); exact foot_iv (by kernel_rfl) ag h.1 h.2; exact foot_new hi h.1 h.2)⟩))
            · go_wp2_with fail
              exact Onward.mk (hK (.pointer (some ⟨rb, 2, none⟩)) _ _ (by simp) (by simp only [putFrom, Act.put, List.setIfInBounds_toArray, List.set_cons_succ, List.set_cons_zero]) (Spares.of_below (Below.refl _ _)) (fun iv' _ _ => rfl))
            · obtain ⟨g10, cap10, h10, f10⟩ := hd.out 10 (mem_of (by kernel_rfl)) (by decide) (by kernel_rfl)
              have h11 : vs 11 = .pointer (some ⟨rb, 2, none⟩) := hd.out 11 (mem_of (by kernel_rfl)) (by decide) (by kernel_rfl)
              have R1 := R.keep (hS.out 1 _ (by kernel_rfl) (Or.inr ⟨rfl, rfl⟩))
              have rc0 := R1.c0
              have rz0 := R1.frozen 0
              have rc1 := R1.c1
              have rz1 := R1.frozen 1
              have rc2 := R1.c2
              have rz2 := R1.frozen 2
              have rlt := R1.lt
              go_wp2_with fail
              exact Onward.mk (hK undef _ _ (fun _ => rfl) (by simp only [putFrom, Act.put, List.setIfInBounds_toArray, List.set_cons_succ, List.set_cons_zero, h10, h11]) ((spares_sets (b0 := rb) (by repeat (first | exact Spares.refl _ | apply Spares.set))).more (fun b h => Or.inl ⟨1, by decide, (Or.inr ⟨rfl, h⟩)⟩)) (fun iv' ag hi => by
                show Blk _ (rb) 45 [.int .i64 e.kind, .int .i64 e.num, vs 10]
                rw [h10]
                exact (R1.set 2 _)))
          case hQ =>
            intro iv vs wx hB hSp hd he hbd hsep
            have hzB := hB.size
            have h0 : vs 0 = .pointer (some ⟨rb, 2, none⟩) := hd.out 0 (mem_of (by kernel_rfl)) (not_eaten (by kernel_rfl))
            have h1 : vs 1 = v := hd.out 1 (mem_of (by kernel_rfl)) (not_eaten (by kernel_rfl))
            have h2 : vs 2 = .pointer (some ⟨b, o, none⟩) := hd.out 2 (mem_of (by kernel_rfl)) (not_eaten (by kernel_rfl))
            have h3 : vs 3 = .pointer (some ⟨b, o, none⟩) := hd.out 3 (mem_of (by kernel_rfl)) (not_eaten (by kernel_rfl))
            have h4 : vs 4 = .pointer (some ⟨b, o + 2, none⟩) := hd.out 4 (mem_of (by kernel_rfl)) (not_eaten (by kernel_rfl))
            have h5 : vs 5 = .slice (some ⟨kb, ko, none⟩) e.kids.length c := hd.out 5 (mem_of (by kernel_rfl)) (not_eaten (by kernel_rfl))
            have h6 : vs 6 = .int .i64 j := hd.out 6 (mem_of (by kernel_rfl)) (not_eaten (by kernel_rfl))
            have h7 : vs 7 = .pointer (some ⟨kb, ko + j * 3, none⟩) := hd.out 7 (mem_of (by kernel_rfl)) (not_eaten (by kernel_rfl))
            obtain ⟨s2, c2, h8⟩ := he.out 8 (mem_of (by kernel_rfl))
            obtain ⟨h9, q9, f9⟩ := hd.out 9 (mem_of (by kernel_rfl)) (not_eaten (by kernel_rfl))
            obtain ⟨g10, cap10, h10, f10⟩ := hd.out 10 (mem_of (by kernel_rfl)) (not_eaten (by kernel_rfl))
            have h11 : vs 11 = .pointer (some ⟨rb, 2, none⟩) := hd.out 11 (mem_of (by kernel_rfl)) (not_eaten (by kernel_rfl))
            have f12 : Blk _ (rb) 45 [.int .i64 e.kind, .int .i64 e.num, vs 10] := hd.out 12 (mem_of (by kernel_rfl)) (not_eaten (by kernel_rfl))
            have lo10 : ∀ b, foot [(10, 8)] [(10, 0), (12, 1)] (fun m b => (m = 0 ∧ b ∈ Fs) ∨ (m = 1 ∧ b = rb)) 13 10 iv b → (wz.heap.size) ≤ b := by
              rintro b ⟨j, hj, hh⟩
              have hj' := of_decide_eq_true (List.all_eq_true.1 (show ((chainOf [(10, 8)] 13 10).all fun j => decide (j ∈ [10, 8])) = true from by kernel_rfl) j hj)
              simp only [List.mem_cons, List.not_mem_nil, or_false] at hj'
              rcases hj' with rfl | rfl
              · have q := (hbd.out 10 (mem_of (by kernel_rfl))).1
                rcases hh with hh | ⟨m, hm, hg⟩
                · omega
                · simp at hm
                  subst hm
                  simp at hg
                  have q' := Vf b hg
                  omega
              · have q := (hbd.out 8 (mem_of (by kernel_rfl))).1
                rcases hh with hh | ⟨m, hm, hg⟩
                · omega
                · simp at hm
            simp only [putFrom, Act.put, List.setIfInBounds_toArray, List.set_cons_succ, List.set_cons_zero]
            rw [h10] at f12
            have hap := f10.app (W := wz) lo10
            rw [← Hds.out] at hap
            clear hd he hbd hsep h0 h1 h2 h3 h4 h5 h6 h7 h8 h9 h10 h11 lo10 f10
            go_wp2_with fail
            go_roundw
            case rel => exact ⟨k + 1, _, by omega, by go_num, f12, hap, hBr.trans hB⟩
            case measure => simp [intOf]; omega
        · obtain rfl : k = e.kids.length := by omega
          rw [List.take_of_length_le (by have := Hl.out; omega)] at happ
          obtain ⟨a', cap', rfl, -⟩ := happ.shape
          have g2r := (hBw.cell (p := ⟨b, o + 2, none⟩) hbl).trans G2.out
          have r0 := R.c0
          have r1 := R.c1
          have r2 := R.c2
          have Q2 := R2.keep (hBr.block _ (by omega))
          have q0 := Q2.c0
          have q1 := Q2.c1
          have q2 := Q2.c2
          have z0 := Q2.frozen 0
          have z1 := Q2.frozen 1
          have z2 := Q2.frozen 2
          go_wp2_with fail
          have T2 := ((Q2.set 0 (.int .i64 e.kind)).set 1 (.int .i64 e.num)).set 2 (.slice a' e.kids.length cap')
          have t0 := T2.c0
          have t1 := T2.c1
          have t2 := T2.c2
          refine bodyPost_ret (v := .agg #[.int .i64 e.kind, .int .i64 e.num, .slice a' e.kids.length cap']) (by simp [results, Try.results78, go_sem, t0, t1, t2]) rfl ⟨a', cap', by rw [Hk.out, Hn.out, ← Hl.out], ?_, by (repeat' (first | exact Below.refl _ _ | assumption | (refine Below.alloc ?_ (by first | omega | (simp; done) | (simp; omega)) _) | (refine Below.drew ?_) | (refine Below.setCell ?_ (by first | omega | (simp; done) | (simp; omega)) _)))⟩
          rw [← Hf.out, ← Hl.out]
          refine Freshs.one ((happ.fresh.keep fun bb hb1 hb2 => ?_).from szx)
          rw [Below.heap_setCell _ _ _ _ (by show bb ≠ w.heap.size; omega), Below.heap_setCell _ _ _ _ (by show bb ≠ w.heap.size; omega), Below.heap_setCell _ _ _ _ (by show bb ≠ w.heap.size; omega)]
  · have H7 := Lib.hid h7
    have c7 : (e.kind == 7) = false := by simp [h7]
    clear h7
    have Hl : Hid (e.kids.length = (Ex.rev e).kids.length) := Ex.rev_length e
    have Hk : Hid ((Ex.rev e).kind = e.kind) := Ex.rev_kind e
    have Hn : Hid ((Ex.rev e).num = e.num) := Ex.rev_num e
    have Hf : Hid (D.sl 3 e.kids.length (Ex.cellsL (Ex.rev e).kids) = kidsD (Ex.rev e).kids) := by show _ = _; unfold kidsD; rw [Hl.out]
    go_enter Try.func78, Try.ntmps78
    go_wp2_with fail
    have R0 := Blk.new3 w 45 (.int .i64 0) (.int .i64 0) (.slice none 0 0)
    have hB0 : Below w.heap.size w (w.alloc (.cells #[.int .i64 0, .int .i64 0, .slice none 0 0] 45)) := by (repeat' (first | exact Below.refl _ _ | assumption | (refine Below.alloc ?_ (by first | omega | (simp; done) | (simp; omega)) _) | (refine Below.drew ?_) | (refine Below.setCell ?_ (by first | omega | (simp; done) | (simp; omega)) _)))
    have hz0 : (w.alloc (.cells #[.int .i64 0, .int .i64 0, .slice none 0 0] 45)).heap.size = w.heap.size + 1 := by simp
    generalize (w.alloc (.cells #[.int .i64 0, .int .i64 0, .slice none 0 0] 45)) = w0 at R0 hB0 hz0 ⊢
    have G2 := Lib.hid g2
    have G0 := Lib.hid g0
    clear g0 g1 g2
    have Hz0 := Lib.hid hz0
    have hz0' : w.heap.size < w0.heap.size := by omega
    clear hz0
    refine region_rs [(10, 9)] [] (fun _ _ => False) (w0.heap.size) (fun i iv vs wx => match i with
      | 0 => vs 0 = .pointer (some ⟨b, o, none⟩)
      | 1 => vs 1 = .pointer (some ⟨b, o, none⟩)
      | 2 => vs 2 = .pointer (some ⟨b, o, none⟩)
      | 3 => vs 3 = .int .i64 e.kind
      | 4 => vs 4 = .pointer (some ⟨b, o, none⟩)
      | 5 => vs 5 = .pointer (some ⟨b, o, none⟩)
      | 6 => vs 6 = .pointer (some ⟨b, o + 1, none⟩)
      | 7 => vs 7 = .int .i64 e.num
      | 8 => vs 8 = .agg #[.int .i64 e.kind, .int .i64 e.num, .slice none 0 0]
      | 9 => vs 9 = .pointer (some ⟨(iv 9).1, 0, none⟩) ∧ (iv 9).2 = (iv 9).1 + 1 ∧ Blk wx (iv 9).1 45 [.int .i64 0, .int .i64 0, .slice none 0 0]
      | 10 => (iv 9).2 = (iv 9).1 + 1 ∧ Blk wx ((iv 9).1) 45 [.int .i64 e.kind, .int .i64 e.num, .slice none 0 0]
      | _ => True) (fun i iv vs => match i with
      | 0 => vs 0 = .pointer (some ⟨b, o, none⟩)
      | 1 => vs 1 = .pointer (some ⟨b, o, none⟩)
      | 2 => vs 2 = .pointer (some ⟨b, o, none⟩)
      | 3 => vs 3 = .int .i64 e.kind
      | 4 => vs 4 = .pointer (some ⟨b, o, none⟩)
      | 5 => vs 5 = .pointer (some ⟨b, o, none⟩)
      | 6 => vs 6 = .pointer (some ⟨b, o + 1, none⟩)
      | 7 => vs 7 = .int .i64 e.num
      | 8 => vs 8 = .agg #[.int .i64 e.kind, .int .i64 e.num, .slice none 0 0]
      | 9 => vs 9 = .pointer (some ⟨(iv 9).1, 0, none⟩) ∧ (iv 9).2 = (iv 9).1 + 1
      | 10 => True
      | _ => True) (by kernel_rfl) (by kernel_rfl) [0, 1, 2, 3, 4, 5, 6, 7, 8, 9, 10] (by kernel_rfl) ?hbase ?hGb ?hG ?hJ ?hE ?hEE ?hstep ?hQ
    case hbase => first | exact Nat.le_refl _ | omega | (simp; omega)
    case hGb =>
      exact fun _ _ h => h.elim
    case hG =>
      exact fun _ _ _ h => h.elim
    case hJ =>
      intro i hi iv iv' vs vs' wx wx' ha hv hz hk hj
      simp only [List.mem_cons, List.not_mem_nil, or_false] at hi
      rcases hi with rfl | rfl | rfl | rfl | rfl | rfl | rfl | rfl | rfl | rfl | rfl
      · have e0 := hv.out 0 (mem_of (by kernel_rfl))
        have hj' : vs 0 = .pointer (some ⟨b, o, none⟩) := hj
        show vs' 0 = .pointer (some ⟨b, o, none⟩)
        rw [← e0]
        exact hj'
      · have e1 := hv.out 1 (mem_of (by kernel_rfl))
        have hj' : vs 1 = .pointer (some ⟨b, o, none⟩) := hj
        show vs' 1 = .pointer (some ⟨b, o, none⟩)
        rw [← e1]
        exact hj'
      · have e2 := hv.out 2 (mem_of (by kernel_rfl))
        have hj' : vs 2 = .pointer (some ⟨b, o, none⟩) := hj
        show vs' 2 = .pointer (some ⟨b, o, none⟩)
        rw [← e2]
        exact hj'
      · have e3 := hv.out 3 (mem_of (by kernel_rfl))
        have hj' : vs 3 = .int .i64 e.kind := hj
        show vs' 3 = .int .i64 e.kind
        rw [← e3]
        exact hj'
      · have e4 := hv.out 4 (mem_of (by kernel_rfl))
        have hj' : vs 4 = .pointer (some ⟨b, o, none⟩) := hj
        show vs' 4 = .pointer (some ⟨b, o, none⟩)
        rw [← e4]
        exact hj'
      · have e5 := hv.out 5 (mem_of (by kernel_rfl))
        have hj' : vs 5 = .pointer (some ⟨b, o, none⟩) := hj
        show vs' 5 = .pointer (some ⟨b, o, none⟩)
        rw [← e5]
        exact hj'
      · have e6 := hv.out 6 (mem_of (by kernel_rfl))
        have hj' : vs 6 = .pointer (some ⟨b, o + 1, none⟩) := hj
        show vs' 6 = .pointer (some ⟨b, o + 1, none⟩)
        rw [← e6]
        exact hj'
      · have e7 := hv.out 7 (mem_of (by kernel_rfl))
        have hj' : vs 7 = .int .i64 e.num := hj
        show vs' 7 = .int .i64 e.num
        rw [← e7]
        exact hj'
      · have e8 := hv.out 8 (mem_of (by kernel_rfl))
        have hj' : vs 8 = .agg #[.int .i64 e.kind, .int .i64 e.num, .slice none 0 0] := hj
        show vs' 8 = .agg #[.int .i64 e.kind, .int .i64 e.num, .slice none 0 0]
        rw [← e8]
        exact hj'
      · have e9 := hv.out 9 (mem_of (by kernel_rfl))
        have g9 := ha.out 9 (mem_of (by kernel_rfl))
        obtain ⟨q1, q3, q2⟩ := hj
        show vs' 9 = .pointer (some ⟨(iv' 9).1, 0, none⟩) ∧ (iv' 9).2 = (iv' 9).1 + 1 ∧ Blk wx' (iv' 9).1 45 [.int .i64 0, .int .i64 0, .slice none 0 0]
        rw [← e9, ← g9]
        exact ⟨q1, q3, q2.keep (hk.out _ q2.lt (foot_own (Nat.le_refl _) (by omega)))⟩
      · have g9 := ha.out 9 (mem_of (by kernel_rfl))
        have hj' : (iv 9).2 = (iv 9).1 + 1 ∧ Blk wx ((iv 9).1) 45 [.int .i64 e.kind, .int .i64 e.num, .slice none 0 0] := hj
        show (iv' 9).2 = (iv' 9).1 + 1 ∧ Blk wx' ((iv' 9).1) 45 [.int .i64 e.kind, .int .i64 e.num, .slice none 0 0]
        rw [← g9]
        exact ⟨hj'.1, hj'.2.keep (hk.out _ hj'.2.lt ⟨9, mem_of (by kernel_rfl), Or.inl ⟨Nat.le_refl _, by omega⟩⟩)⟩
    case hE =>
      intro i hi iv vs wx hj
      simp only [List.mem_cons, List.not_mem_nil, or_false] at hi
      rcases hi with rfl | rfl | rfl | rfl | rfl | rfl | rfl | rfl | rfl | rfl | rfl
      · exact hj
      · exact hj
      · exact hj
      · exact hj
      · exact hj
      · exact hj
      · exact hj
      · exact hj
      · exact hj
      · exact ⟨hj.1, hj.2.1⟩
      · trivial
    case hEE =>
      intro i hi iv iv' vs vs' ha hv hj
      simp only [List.mem_cons, List.not_mem_nil, or_false] at hi
      rcases hi with rfl | rfl | rfl | rfl | rfl | rfl | rfl | rfl | rfl | rfl | rfl
      · have e0 := hv.out 0 (mem_of (by kernel_rfl))
        have hj' : vs 0 = .pointer (some ⟨b, o, none⟩) := hj
        show vs' 0 = .pointer (some ⟨b, o, none⟩)
        rw [← e0]
        exact hj'
      · have e1 := hv.out 1 (mem_of (by kernel_rfl))
        have hj' : vs 1 = .pointer (some ⟨b, o, none⟩) := hj
        show vs' 1 = .pointer (some ⟨b, o, none⟩)
        rw [← e1]
        exact hj'
      · have e2 := hv.out 2 (mem_of (by kernel_rfl))
        have hj' : vs 2 = .pointer (some ⟨b, o, none⟩) := hj
        show vs' 2 = .pointer (some ⟨b, o, none⟩)
        rw [← e2]
        exact hj'
      · have e3 := hv.out 3 (mem_of (by kernel_rfl))
        have hj' : vs 3 = .int .i64 e.kind := hj
        show vs' 3 = .int .i64 e.kind
        rw [← e3]
        exact hj'
      · have e4 := hv.out 4 (mem_of (by kernel_rfl))
        have hj' : vs 4 = .pointer (some ⟨b, o, none⟩) := hj
        show vs' 4 = .pointer (some ⟨b, o, none⟩)
        rw [← e4]
        exact hj'
      · have e5 := hv.out 5 (mem_of (by kernel_rfl))
        have hj' : vs 5 = .pointer (some ⟨b, o, none⟩) := hj
        show vs' 5 = .pointer (some ⟨b, o, none⟩)
        rw [← e5]
        exact hj'
      · have e6 := hv.out 6 (mem_of (by kernel_rfl))
        have hj' : vs 6 = .pointer (some ⟨b, o + 1, none⟩) := hj
        show vs' 6 = .pointer (some ⟨b, o + 1, none⟩)
        rw [← e6]
        exact hj'
      · have e7 := hv.out 7 (mem_of (by kernel_rfl))
        have hj' : vs 7 = .int .i64 e.num := hj
        show vs' 7 = .int .i64 e.num
        rw [← e7]
        exact hj'
      · have e8 := hv.out 8 (mem_of (by kernel_rfl))
        have hj' : vs 8 = .agg #[.int .i64 e.kind, .int .i64 e.num, .slice none 0 0] := hj
        show vs' 8 = .agg #[.int .i64 e.kind, .int .i64 e.num, .slice none 0 0]
        rw [← e8]
        exact hj'
      · have e9 := hv.out 9 (mem_of (by kernel_rfl))
        have g9 := ha.out 9 (mem_of (by kernel_rfl))
        have hj' : vs 9 = .pointer (some ⟨(iv 9).1, 0, none⟩) ∧ (iv 9).2 = (iv 9).1 + 1 := hj
        show vs' 9 = .pointer (some ⟨(iv' 9).1, 0, none⟩) ∧ (iv' 9).2 = (iv' 9).1 + 1
        rw [← e9, ← g9]
        exact hj'
      · trivial
    case hstep =>
      intro i hi opr ho iv vs w1 hB hS hd he hbd hsep K hK
      simp only [List.mem_cons, List.not_mem_nil, or_false] at hi
      have hzB := hB.size
      obtain ⟨g0, g1, s', c', g2, g3'⟩ := (hat.below hB0).below hB
      rcases hi with rfl | rfl | rfl | rfl | rfl | rfl | rfl | rfl | rfl | rfl | rfl
      all_goals
        simp at ho
        subst ho
        simp only [putFrom, Act.put, List.setIfInBounds_toArray, List.set_cons_succ, List.set_cons_zero]
      · go_wp2_with fail
        exact Onward.mk (hK (.pointer (some ⟨b, o, none⟩)) _ _ (by simp) (by simp only [putFrom, Act.put, List.setIfInBounds_toArray, List.set_cons_succ, List.set_cons_zero]) (Spares.of_below (Below.refl _ _)) (fun iv' _ _ => rfl))
      · have h0 : vs 0 = .pointer (some ⟨b, o, none⟩) := hd.out 0 (mem_of (by kernel_rfl)) (by decide) (by kernel_rfl)
        go_wp2_with fail
        exact Onward.mk (hK (.pointer (some ⟨b, o, none⟩)) _ _ (by simp) (by simp only [putFrom, Act.put, List.setIfInBounds_toArray, List.set_cons_succ, List.set_cons_zero, h0]) (Spares.of_below (Below.refl _ _)) (fun iv' _ _ => rfl))
      · have h1 : vs 1 = .pointer (some ⟨b, o, none⟩) := hd.out 1 (mem_of (by kernel_rfl)) (by decide) (by kernel_rfl)
        go_wp2_with fail
        exact Onward.mk (hK (.pointer (some ⟨b, o, none⟩)) _ _ (by simp) (by simp only [putFrom, Act.put, List.setIfInBounds_toArray, List.set_cons_succ, List.set_cons_zero, h1]) (Spares.of_below (Below.refl _ _)) (fun iv' _ _ => rfl))
      · have h2 : vs 2 = .pointer (some ⟨b, o, none⟩) := hd.out 2 (mem_of (by kernel_rfl)) (by decide) (by kernel_rfl)
        go_wp2_with fail
        exact Onward.mk (hK (.int .i64 e.kind) _ _ (by simp) (by simp only [putFrom, Act.put, List.setIfInBounds_toArray, List.set_cons_succ, List.set_cons_zero, h2]) (Spares.of_below (Below.refl _ _)) (fun iv' _ _ => rfl))
      · go_wp2_with fail
        exact Onward.mk (hK (.pointer (some ⟨b, o, none⟩)) _ _ (by simp) (by simp only [putFrom, Act.put, List.setIfInBounds_toArray, List.set_cons_succ, List.set_cons_zero]) (Spares.of_below (Below.refl _ _)) (fun iv' _ _ => rfl))
      · have h4 : vs 4 = .pointer (some ⟨b, o, none⟩) := hd.out 4 (mem_of (by kernel_rfl)) (by decide) (by kernel_rfl)
        go_wp2_with fail
        exact Onward.mk (hK (.pointer (some ⟨b, o, none⟩)) _ _ (by simp) (by simp only [putFrom, Act.put, List.setIfInBounds_toArray, List.set_cons_succ, List.set_cons_zero, h4]) (Spares.of_below (Below.refl _ _)) (fun iv' _ _ => rfl))
      · have h5 : vs 5 = .pointer (some ⟨b, o, none⟩) := hd.out 5 (mem_of (by kernel_rfl)) (by decide) (by kernel_rfl)
        go_wp2_with fail
        exact Onward.mk (hK (.pointer (some ⟨b, o + 1, none⟩)) _ _ (by simp) (by simp only [putFrom, Act.put, List.setIfInBounds_toArray, List.set_cons_succ, List.set_cons_zero, h5]) (Spares.of_below (Below.refl _ _)) (fun iv' _ _ => rfl))
      · have h6 : vs 6 = .pointer (some ⟨b, o + 1, none⟩) := hd.out 6 (mem_of (by kernel_rfl)) (by decide) (by kernel_rfl)
        go_wp2_with fail
        exact Onward.mk (hK (.int .i64 e.num) _ _ (by simp) (by simp only [putFrom, Act.put, List.setIfInBounds_toArray, List.set_cons_succ, List.set_cons_zero, h6]) (Spares.of_below (Below.refl _ _)) (fun iv' _ _ => rfl))
      · have h3 : vs 3 = .int .i64 e.kind := hd.out 3 (mem_of (by kernel_rfl)) (by decide) (by kernel_rfl)
        have h7 : vs 7 = .int .i64 e.num := hd.out 7 (mem_of (by kernel_rfl)) (by decide) (by kernel_rfl)
        go_wp2_with fail
        exact Onward.mk (hK (.agg #[.int .i64 e.kind, .int .i64 e.num, .slice none 0 0]) _ _ (by simp) (by simp only [putFrom, Act.put, List.setIfInBounds_toArray, List.set_cons_succ, List.set_cons_zero, h3, h7]) (Spares.of_below (Below.refl _ _)) (fun iv' _ _ => rfl))
      · go_wp2_with fail
        exact Onward.mk (hK (.pointer (some ⟨w1.heap.size, 0, none⟩)) _ _ (by simp) (by simp only [putFrom, Act.put, List.setIfInBounds_toArray, List.set_cons_succ, List.set_cons_zero]) (Spares.of_below (Below.alloc (Below.refl _ _) (Nat.le_refl _) _)) (fun iv' _ hi => by
          show Value.pointer (some ⟨w1.heap.size, 0, none⟩) = .pointer (some ⟨(iv' 9).1, 0, none⟩) ∧ (iv' 9).2 = (iv' 9).1 + 1 ∧ Blk _ (iv' 9).1 45 [.int .i64 0, .int .i64 0, .slice none 0 0]
          rw [hi]
          exact ⟨rfl, by simp, Blk.new3 _ _ _ _ _⟩))
      · have h8 : vs 8 = .agg #[.int .i64 e.kind, .int .i64 e.num, .slice none 0 0] := hd.out 8 (mem_of (by kernel_rfl)) (by decide) (by kernel_rfl)
        obtain ⟨h9, q9, f9⟩ := hd.out 9 (mem_of (by kernel_rfl)) (by decide) (by kernel_rfl)
        have bc0 := f9.c0
        have bz0 := f9.frozen 0
        have bc1 := f9.c1
        have bz1 := f9.frozen 1
        have bc2 := f9.c2
        have bz2 := f9.frozen 2
        have blt := f9.lt
        go_wp2_with fail
        exact Onward.mk (hK undef _ _ (fun _ => rfl) (by simp only [putFrom, Act.put, List.setIfInBounds_toArray, List.set_cons_succ, List.set_cons_zero, h8, h9]) ((spares_sets (b0 := (iv 9).1) (by repeat (first | exact Spares.refl _ | apply Spares.set))).more (fun b h => Or.inr ⟨9, by decide, foot_own (by omega) (by omega)⟩)) (fun iv' ag hi => by
          show (iv' 9).2 = (iv' 9).1 + 1 ∧ Blk _ ((iv' 9).1) 45 [.int .i64 e.kind, .int .i64 e.num, .slice none 0 0]
          rw [← ag.out 9 (mem_of (by kernel_rfl))]
          exact ⟨q9, (((f9.set 0 _).set 1 _).set 2 _)⟩))
    case hQ =>
      intro iv vs wx hB hSp hd he hbd hsep
      have hzB := hB.size
      have h0 : vs 0 = .pointer (some ⟨b, o, none⟩) := hd.out 0 (mem_of (by kernel_rfl)) (not_eaten (by kernel_rfl))
      have h1 : vs 1 = .pointer (some ⟨b, o, none⟩) := hd.out 1 (mem_of (by kernel_rfl)) (not_eaten (by kernel_rfl))
      have h2 : vs 2 = .pointer (some ⟨b, o, none⟩) := hd.out 2 (mem_of (by kernel_rfl)) (not_eaten (by kernel_rfl))
      have h3 : vs 3 = .int .i64 e.kind := hd.out 3 (mem_of (by kernel_rfl)) (not_eaten (by kernel_rfl))
      have h4 : vs 4 = .pointer (some ⟨b, o, none⟩) := hd.out 4 (mem_of (by kernel_rfl)) (not_eaten (by kernel_rfl))
      have h5 : vs 5 = .pointer (some ⟨b, o, none⟩) := hd.out 5 (mem_of (by kernel_rfl)) (not_eaten (by kernel_rfl))
      have h6 : vs 6 = .pointer (some ⟨b, o + 1, none⟩) := hd.out 6 (mem_of (by kernel_rfl)) (not_eaten (by kernel_rfl))
      have h7 : vs 7 = .int .i64 e.num := hd.out 7 (mem_of (by kernel_rfl)) (not_eaten (by kernel_rfl))
      have h8 : vs 8 = .agg #[.int .i64 e.kind, .int .i64 e.num, .slice none 0 0] := hd.out 8 (mem_of (by kernel_rfl)) (not_eaten (by kernel_rfl))
      obtain ⟨h9, q9⟩ := he.out 9 (mem_of (by kernel_rfl))
      obtain ⟨q10, f10⟩ := hd.out 10 (mem_of (by kernel_rfl)) (not_eaten (by kernel_rfl))
      simp only [putFrom, Act.put, List.setIfInBounds_toArray, List.set_cons_succ, List.set_cons_zero]
      obtain ⟨rb, hrb⟩ : ∃ rb, (iv 9).1 = rb := ⟨_, rfl⟩
      have b9 := (hbd.out 9 (mem_of (by kernel_rfl))).1
      rw [hrb] at h9 f10 b9
      simp only [h9]
      clear hd he hbd hsep h0 h1 h2 h3 h4 h5 h6 h7 h8 h9 q9 q10 hrb
      have hBx : Below w.heap.size w wx := Below.on hB0 hB hB0.size
      have R2 := R0.below hB
      have ltR := f10.lt
      have lt2 := R2.lt
      have szx := hBx.size
      obtain ⟨wz, rfl⟩ : ∃ wz : World, wz = wx := ⟨_, rfl⟩
      go_wp2_with fail
      go_loopw [4] (fun i wr => ∃ (k : Nat) (v : Value), k ≤ e.kids.length ∧ i = .int .i64 k ∧ Blk wr rb 45 [.int .i64 e.kind, .int .i64 e.num, v] ∧ App wz wr 45 3 k (Ex.cellsL ((Ex.rev e).kids.take k)) v ∧ Below (w.heap.size + 1) wz wr) (fun i _ => e.kids.length - (intOf i).toNat)
      case atStart => exact ⟨0, .slice none 0 0, by omega, rfl, f10, by simpa [Ex.cellsL] using App.nil, Below.refl _ _⟩
      case round =>
        obtain ⟨k, v, hk, rfl, R, happ, hBr⟩ := hrel
        have hBw : Below w.heap.size w wr := hBx.trans (hBr.mono (by omega))
        have szr := hBr.size
        by_cases hlt : k < e.kids.length
        · skip
          have g0r := (hBw.cell (p := ⟨b, o, none⟩) hbl).trans G0.out
          obtain ⟨x, hx⟩ : ∃ x, e.kids[k]? = some x := ⟨_, List.getElem?_eq_getElem (by omega)⟩
          have hy : (Ex.rev e).kids[k]? = some (Ex.rev x) := rev_at H7.out hx
          obtain ⟨kb, ko, rfl⟩ := kid_some g3 (by intro h; simp [h] at hlt)
          have hxat := kid_exAt g3 hx
          have hxm := Ex.sizeL_mem (List.mem_of_getElem? hx)
          have hxs : x.size < N := by omega
          have hx1 : x.size ≤ 1073741824 := by omega
          clear hxm
          have Hds := Lib.hid (Ex.cellsL_take_succ hy)
          clear hy
          obtain ⟨Fs, V, Vf⟩ := happ.foot
          have g2r := (hBw.cell (p := ⟨b, o + 2, none⟩) hbl).trans G2.out
          go_wp2_with fail
          clear g0r
          have hxt : x.tree tm am = true := Ex.treeL_mem (tree_parts' htr).2 (List.mem_of_getElem? hx)
          clear g2r
          have hGb : ∀ m b, (fun m b => (m = 0 ∧ b ∈ Fs) ∨ (m = 1 ∧ b = rb)) m b → (w.heap.size + 1) ≤ b ∧ b < (wr).heap.size := by
            intro m b hg
            rcases hg with ⟨rfl, hg⟩ | ⟨rfl, hg⟩
            · have q := Vf b hg
              omega
            · subst hg
              have q := R.lt
              omega
          have hGd : ∀ m m' b, (fun m b => (m = 0 ∧ b ∈ Fs) ∨ (m = 1 ∧ b = rb)) m b → (fun m b => (m = 0 ∧ b ∈ Fs) ∨ (m = 1 ∧ b = rb)) m' b → m = m' := by
            intro m m' b h h'
            rcases h with ⟨rfl, h⟩ | ⟨rfl, h⟩ <;> rcases h' with ⟨rfl, h'⟩ | ⟨rfl, h'⟩ <;> first
              | rfl
              | (exfalso; have q := Vf b h; omega) | (exfalso; have q := Vf b h'; omega)
          refine region_rs [(10, 8)] [(10, 0), (12, 1)] (fun m b => (m = 0 ∧ b ∈ Fs) ∨ (m = 1 ∧ b = rb)) (w.heap.size + 1) (fun i iv vs wx => match i with
            | 0 => vs 0 = .pointer (some ⟨rb, 2, none⟩)
            | 1 => vs 1 = v
            | 2 => vs 2 = .pointer (some ⟨b, o, none⟩)
            | 3 => vs 3 = .pointer (some ⟨b, o, none⟩)
            | 4 => vs 4 = .pointer (some ⟨b, o + 2, none⟩)
            | 5 => vs 5 = .slice (some ⟨kb, ko, none⟩) e.kids.length c
            | 6 => vs 6 = .int .i64 k
            | 7 => vs 7 = .pointer (some ⟨kb, ko + k * 3, none⟩)
            | 8 => ∃ s2 c2, vs 8 = .agg #[.int .i64 (Ex.rev x).kind, .int .i64 (Ex.rev x).num, .slice s2 (Ex.rev x).kids.length c2] ∧ FreshIn (iv 8) wx [kidsD (Ex.rev x).kids] [.slice s2 (Ex.rev x).kids.length c2]
            | 9 => vs 9 = .slice (some ⟨(iv 9).1, 0, none⟩) 1 1 ∧ (iv 9).2 = (iv 9).1 + 1 ∧ Blk wx (iv 9).1 45 [aggAt (vs 8) 0, aggAt (vs 8) 1, aggAt (vs 8) 2]
            | 10 => ∃ g cap, vs 10 = .slice (some ⟨g, 0, none⟩) (k + 1) cap ∧ AppS (foot [(10, 8)] [(10, 0), (12, 1)] (fun m b => (m = 0 ∧ b ∈ Fs) ∨ (m = 1 ∧ b = rb)) 13 10 iv) wx 45 3 (k + 1) (Ex.cellsL ((Ex.rev e).kids.take k) ++ [.int (Ex.rev x).kind, .int (Ex.rev x).num, kidsD (Ex.rev x).kids]) (.slice (some ⟨g, 0, none⟩) (k + 1) cap)
            | 11 => vs 11 = .pointer (some ⟨rb, 2, none⟩)
            | 12 => Blk wx (rb) 45 [.int .i64 e.kind, .int .i64 e.num, vs 10]
            | _ => True) (fun i iv vs => match i with
            | 0 => vs 0 = .pointer (some ⟨rb, 2, none⟩)
            | 1 => vs 1 = v
            | 2 => vs 2 = .pointer (some ⟨b, o, none⟩)
            | 3 => vs 3 = .pointer (some ⟨b, o, none⟩)
            | 4 => vs 4 = .pointer (some ⟨b, o + 2, none⟩)
            | 5 => vs 5 = .slice (some ⟨kb, ko, none⟩) e.kids.length c
            | 6 => vs 6 = .int .i64 k
            | 7 => vs 7 = .pointer (some ⟨kb, ko + k * 3, none⟩)
            | 8 => ∃ s2 c2, vs 8 = .agg #[.int .i64 (Ex.rev x).kind, .int .i64 (Ex.rev x).num, .slice s2 (Ex.rev x).kids.length c2]
            | 9 => vs 9 = .slice (some ⟨(iv 9).1, 0, none⟩) 1 1 ∧ (iv 9).2 = (iv 9).1 + 1
            | 10 => ∃ g cap, vs 10 = .slice (some ⟨g, 0, none⟩) (k + 1) cap
            | 11 => vs 11 = .pointer (some ⟨rb, 2, none⟩)
            | 12 => True
            | _ => True) (by kernel_rfl) (by kernel_rfl) [0, 1, 2, 3, 4, 5, 6, 7, 8, 9, 10, 11, 12] (by kernel_rfl) ?hbase ?hGb ?hG ?hJ ?hE ?hEE ?hstep ?hQ
          case hbase => first | exact Nat.le_refl _ | omega | (simp; omega)
          case hGb =>
            exact hGb
          case hG =>
            exact hGd
          case hJ =>
            intro i hi iv iv' vs vs' wx wx' ha hv hz hk hj
            simp only [List.mem_cons, List.not_mem_nil, or_false] at hi
            rcases hi with rfl | rfl | rfl | rfl | rfl | rfl | rfl | rfl | rfl | rfl | rfl | rfl | rfl
            · have e0 := hv.out 0 (mem_of (by kernel_rfl))
              have hj' : vs 0 = .pointer (some ⟨rb, 2, none⟩) := hj
              show vs' 0 = .pointer (some ⟨rb, 2, none⟩)
              rw [← e0]
              exact hj'
            · have e1 := hv.out 1 (mem_of (by kernel_rfl))
              have hj' : vs 1 = v := hj
              show vs' 1 = v
              rw [← e1]
              exact hj'
            · have e2 := hv.out 2 (mem_of (by kernel_rfl))
              have hj' : vs 2 = .pointer (some ⟨b, o, none⟩) := hj
              show vs' 2 = .pointer (some ⟨b, o, none⟩)
              rw [← e2]
              exact hj'
            · have e3 := hv.out 3 (mem_of (by kernel_rfl))
              have hj' : vs 3 = .pointer (some ⟨b, o, none⟩) := hj
              show vs' 3 = .pointer (some ⟨b, o, none⟩)
              rw [← e3]
              exact hj'
            · have e4 := hv.out 4 (mem_of (by kernel_rfl))
              have hj' : vs 4 = .pointer (some ⟨b, o + 2, none⟩) := hj
              show vs' 4 = .pointer (some ⟨b, o + 2, none⟩)
              rw [← e4]
              exact hj'
            · have e5 := hv.out 5 (mem_of (by kernel_rfl))
              have hj' : vs 5 = .slice (some ⟨kb, ko, none⟩) e.kids.length c := hj
              show vs' 5 = .slice (some ⟨kb, ko, none⟩) e.kids.length c
              rw [← e5]
              exact hj'
            · have e6 := hv.out 6 (mem_of (by kernel_rfl))
              have hj' : vs 6 = .int .i64 k := hj
              show vs' 6 = .int .i64 k
              rw [← e6]
              exact hj'
            · have e7 := hv.out 7 (mem_of (by kernel_rfl))
              have hj' : vs 7 = .pointer (some ⟨kb, ko + k * 3, none⟩) := hj
              show vs' 7 = .pointer (some ⟨kb, ko + k * 3, none⟩)
              rw [← e7]
              exact hj'
            · have e8 := hv.out 8 (mem_of (by kernel_rfl))
              have g8 := ha.out 8 (mem_of (by kernel_rfl))
              obtain ⟨s2, c2, q1, q2⟩ := hj
              exact ⟨s2, c2, e8 ▸ q1, g8 ▸ q2.keep (fun b hb h1 h2 => hk.out b hb (foot_own h1 h2))⟩
            · have e8 := hv.out 8 (mem_of (by kernel_rfl))
              have e9 := hv.out 9 (mem_of (by kernel_rfl))
              have g9 := ha.out 9 (mem_of (by kernel_rfl))
              obtain ⟨q1, q3, q2⟩ := hj
              show vs' 9 = .slice (some ⟨(iv' 9).1, 0, none⟩) 1 1 ∧ (iv' 9).2 = (iv' 9).1 + 1 ∧ Blk wx' (iv' 9).1 45 [aggAt (vs' 8) 0, aggAt (vs' 8) 1, aggAt (vs' 8) 2]
              rw [← e8, ← e9, ← g9]
              exact ⟨q1, q3, q2.keep (hk.out _ q2.lt (foot_own (Nat.le_refl _) (by omega)))⟩
            · have e10 := hv.out 10 (mem_of (by kernel_rfl))
              obtain ⟨g, cap, q1, q2⟩ := hj
              exact ⟨g, cap, e10 ▸ q1, (q2.keep (fun b hb h1 => hk.out b hb h1)).more (fun b hb h1 => foot_agree (l := ancs _ 13 10) (by exact of_decide_eq_true (by kernel_rfl)) ha.out h1)⟩
            · have e11 := hv.out 11 (mem_of (by kernel_rfl))
              have hj' : vs 11 = .pointer (some ⟨rb, 2, none⟩) := hj
              show vs' 11 = .pointer (some ⟨rb, 2, none⟩)
              rw [← e11]
              exact hj'
            · have e10 := hv.out 10 (mem_of (by kernel_rfl))
              have hj' : Blk wx (rb) 45 [.int .i64 e.kind, .int .i64 e.num, vs 10] := hj
              show Blk wx' (rb) 45 [.int .i64 e.kind, .int .i64 e.num, vs' 10]
              rw [← e10]
              exact hj'.keep (hk.out _ hj'.lt (foot_given 1 (by decide) (Or.inr ⟨rfl, rfl⟩)))
          case hE =>
            intro i hi iv vs wx hj
            simp only [List.mem_cons, List.not_mem_nil, or_false] at hi
            rcases hi with rfl | rfl | rfl | rfl | rfl | rfl | rfl | rfl | rfl | rfl | rfl | rfl | rfl
            · exact hj
            · exact hj
            · exact hj
            · exact hj
            · exact hj
            · exact hj
            · exact hj
            · exact hj
            · obtain ⟨s2, c2, q1, -⟩ := hj
              exact ⟨s2, c2, q1⟩
            · exact ⟨hj.1, hj.2.1⟩
            · obtain ⟨g, cap, q1, -⟩ := hj
              exact ⟨g, cap, q1⟩
            · exact hj
            · trivial
          case hEE =>
            intro i hi iv iv' vs vs' ha hv hj
            simp only [List.mem_cons, List.not_mem_nil, or_false] at hi
            rcases hi with rfl | rfl | rfl | rfl | rfl | rfl | rfl | rfl | rfl | rfl | rfl | rfl | rfl
            · have e0 := hv.out 0 (mem_of (by kernel_rfl))
              have hj' : vs 0 = .pointer (some ⟨rb, 2, none⟩) := hj
              show vs' 0 = .pointer (some ⟨rb, 2, none⟩)
              rw [← e0]
              exact hj'
            · have e1 := hv.out 1 (mem_of (by kernel_rfl))
              have hj' : vs 1 = v := hj
              show vs' 1 = v
              rw [← e1]
              exact hj'
            · have e2 := hv.out 2 (mem_of (by kernel_rfl))
              have hj' : vs 2 = .pointer (some ⟨b, o, none⟩) := hj
              show vs' 2 = .pointer (some ⟨b, o, none⟩)
              rw [← e2]
              exact hj'
            · have e3 := hv.out 3 (mem_of (by kernel_rfl))
              have hj' : vs 3 = .pointer (some ⟨b, o, none⟩) := hj
              show vs' 3 = .pointer (some ⟨b, o, none⟩)
              rw [← e3]
              exact hj'
            · have e4 := hv.out 4 (mem_of (by kernel_rfl))
              have hj' : vs 4 = .pointer (some ⟨b, o + 2, none⟩) := hj
              show vs' 4 = .pointer (some ⟨b, o + 2, none⟩)
              rw [← e4]
              exact hj'
            · have e5 := hv.out 5 (mem_of (by kernel_rfl))
              have hj' : vs 5 = .slice (some ⟨kb, ko, none⟩) e.kids.length c := hj
              show vs' 5 = .slice (some ⟨kb, ko, none⟩) e.kids.length c
              rw [← e5]
              exact hj'
            · have e6 := hv.out 6 (mem_of (by kernel_rfl))
              have hj' : vs 6 = .int .i64 k := hj
              show vs' 6 = .int .i64 k
              rw [← e6]
              exact hj'
            · have e7 := hv.out 7 (mem_of (by kernel_rfl))
              have hj' : vs 7 = .pointer (some ⟨kb, ko + k * 3, none⟩) := hj
              show vs' 7 = .pointer (some ⟨kb, ko + k * 3, none⟩)
              rw [← e7]
              exact hj'
            · have e8 := hv.out 8 (mem_of (by kernel_rfl))
              have hj' : ∃ s2 c2, vs 8 = .agg #[.int .i64 (Ex.rev x).kind, .int .i64 (Ex.rev x).num, .slice s2 (Ex.rev x).kids.length c2] := hj
              show ∃ s2 c2, vs' 8 = .agg #[.int .i64 (Ex.rev x).kind, .int .i64 (Ex.rev x).num, .slice s2 (Ex.rev x).kids.length c2]
              rw [← e8]
              exact hj'
            · have e9 := hv.out 9 (mem_of (by kernel_rfl))
              have g9 := ha.out 9 (mem_of (by kernel_rfl))
              have hj' : vs 9 = .slice (some ⟨(iv 9).1, 0, none⟩) 1 1 ∧ (iv 9).2 = (iv 9).1 + 1 := hj
              show vs' 9 = .slice (some ⟨(iv' 9).1, 0, none⟩) 1 1 ∧ (iv' 9).2 = (iv' 9).1 + 1
              rw [← e9, ← g9]
              exact hj'
            · have e10 := hv.out 10 (mem_of (by kernel_rfl))
              have hj' : ∃ g cap, vs 10 = .slice (some ⟨g, 0, none⟩) (k + 1) cap := hj
              show ∃ g cap, vs' 10 = .slice (some ⟨g, 0, none⟩) (k + 1) cap
              rw [← e10]
              exact hj'
            · have e11 := hv.out 11 (mem_of (by kernel_rfl))
              have hj' : vs 11 = .pointer (some ⟨rb, 2, none⟩) := hj
              show vs' 11 = .pointer (some ⟨rb, 2, none⟩)
              rw [← e11]
              exact hj'
            · trivial
          case hstep =>
            intro i hi opr ho iv vs w1 hB hS hd he hbd hsep K hK
            simp only [List.mem_cons, List.not_mem_nil, or_false] at hi
            have hzB := hB.size
            have hBw1 : Below w.heap.size w w1 := hBw.trans (hB.mono (by omega))
            have g2' := (hBw1.cell (p := ⟨b, o + 2, none⟩) hbl).trans G2.out
            have hx1' := hxat.below hBw1
            rcases hi with rfl | rfl | rfl | rfl | rfl | rfl | rfl | rfl | rfl | rfl | rfl | rfl | rfl
            all_goals
              simp at ho
              subst ho
              simp only [putFrom, Act.put, List.setIfInBounds_toArray, List.set_cons_succ, List.set_cons_zero]
            · go_wp2_with fail
              exact Onward.mk (hK (.pointer (some ⟨rb, 2, none⟩)) _ _ (by simp) (by simp only [putFrom, Act.put, List.setIfInBounds_toArray, List.set_cons_succ, List.set_cons_zero]) (Spares.of_below (Below.refl _ _)) (fun iv' _ _ => rfl))
            · have h0 : vs 0 = .pointer (some ⟨rb, 2, none⟩) := hd.out 0 (mem_of (by kernel_rfl)) (by decide) (by kernel_rfl)
              have R1 := R.keep (hS.out 1 _ (by kernel_rfl) (Or.inr ⟨rfl, rfl⟩))
              have rc0 := R1.c0
              have rz0 := R1.frozen 0
              have rc1 := R1.c1
              have rz1 := R1.frozen 1
              have rc2 := R1.c2
              have rz2 := R1.frozen 2
              have rlt := R1.lt
              go_wp2_with fail
              exact Onward.mk (hK (v) _ _ (by simp) (by simp only [putFrom, Act.put, List.setIfInBounds_toArray, List.set_cons_succ, List.set_cons_zero, h0]) (Spares.of_below (Below.refl _ _)) (fun iv' _ _ => rfl))
            · go_wp2_with fail
              exact Onward.mk (hK (.pointer (some ⟨b, o, none⟩)) _ _ (by simp) (by simp only [putFrom, Act.put, List.setIfInBounds_toArray, List.set_cons_succ, List.set_cons_zero]) (Spares.of_below (Below.refl _ _)) (fun iv' _ _ => rfl))
            · have h2 : vs 2 = .pointer (some ⟨b, o, none⟩) := hd.out 2 (mem_of (by kernel_rfl)) (by decide) (by kernel_rfl)
              go_wp2_with fail
              exact Onward.mk (hK (.pointer (some ⟨b, o, none⟩)) _ _ (by simp) (by simp only [putFrom, Act.put, List.setIfInBounds_toArray, List.set_cons_succ, List.set_cons_zero, h2]) (Spares.of_below (Below.refl _ _)) (fun iv' _ _ => rfl))
            · have h3 : vs 3 = .pointer (some ⟨b, o, none⟩) := hd.out 3 (mem_of (by kernel_rfl)) (by decide) (by kernel_rfl)
              go_wp2_with fail
              exact Onward.mk (hK (.pointer (some ⟨b, o + 2, none⟩)) _ _ (by simp) (by simp only [putFrom, Act.put, List.setIfInBounds_toArray, List.set_cons_succ, List.set_cons_zero, h3]) (Spares.of_below (Below.refl _ _)) (fun iv' _ _ => rfl))
            · have h4 : vs 4 = .pointer (some ⟨b, o + 2, none⟩) := hd.out 4 (mem_of (by kernel_rfl)) (by decide) (by kernel_rfl)
              go_wp2_with fail
              exact Onward.mk (hK (.slice (some ⟨kb, ko, none⟩) e.kids.length c) _ _ (by simp) (by simp only [putFrom, Act.put, List.setIfInBounds_toArray, List.set_cons_succ, List.set_cons_zero, h4]) (Spares.of_below (Below.refl _ _)) (fun iv' _ _ => rfl))
            · go_wp2_with fail
              exact Onward.mk (hK (.int .i64 k) _ _ (by simp) (by simp only [putFrom, Act.put, List.setIfInBounds_toArray, List.set_cons_succ, List.set_cons_zero]) (Spares.of_below (Below.refl _ _)) (fun iv' _ _ => rfl))
            · have h5 : vs 5 = .slice (some ⟨kb, ko, none⟩) e.kids.length c := hd.out 5 (mem_of (by kernel_rfl)) (by decide) (by kernel_rfl)
              have h6 : vs 6 = .int .i64 k := hd.out 6 (mem_of (by kernel_rfl)) (by decide) (by kernel_rfl)
              go_wp2_with fail
              exact Onward.mk (hK (.pointer (some ⟨kb, ko + k * 3, none⟩)) _ _ (by simp) (by simp only [putFrom, Act.put, List.setIfInBounds_toArray, List.set_cons_succ, List.set_cons_zero, h5, h6]) (Spares.of_below (Below.refl _ _)) (fun iv' _ _ => rfl))
            · have h7 : vs 7 = .pointer (some ⟨kb, ko + k * 3, none⟩) := hd.out 7 (mem_of (by kernel_rfl)) (by decide) (by kernel_rfl)
              go_wp2_with fail
              refine (ih _ hxs x _ _ _ (Nat.le_refl _) hx1' hx1 tm am hxt).mono ?_
              rintro e w2 ⟨s2, c2, rfl, hf, hb⟩
              go_wp2_with fail
              exact Onward.mk (hK (.agg #[.int .i64 (Ex.rev x).kind, .int .i64 (Ex.rev x).num, .slice s2 (Ex.rev x).kids.length c2]) _ _ (by simp) (by simp only [putFrom, Act.put, List.setIfInBounds_toArray, List.set_cons_succ, List.set_cons_zero, h7]) (Spares.of_below hb) (fun iv' _ hi => ⟨s2, c2, rfl, by rw [hi]; exact Freshs.stretch (hf)⟩))
            · obtain ⟨s2, c2, h8, f8⟩ := hd.out 8 (mem_of (by kernel_rfl)) (by decide) (by kernel_rfl)
              go_wp2_with fail
              exact Onward.mk (hK (.slice (some ⟨w1.heap.size, 0, none⟩) 1 1) _ _ (by simp) (by simp only [putFrom, Act.put, List.setIfInBounds_toArray, List.set_cons_succ, List.set_cons_zero, h8]) (Spares.of_below (Below.alloc (Below.refl _ _) (Nat.le_refl _) _)) (fun iv' _ hi => by
                show Value.slice (some ⟨w1.heap.size, 0, none⟩) 1 1 = .slice (some ⟨(iv' 9).1, 0, none⟩) 1 1 ∧ (iv' 9).2 = (iv' 9).1 + 1 ∧ Blk _ (iv' 9).1 45 [aggAt (vs 8) 0, aggAt (vs 8) 1, aggAt (vs 8) 2]
                rw [hi, h8]
                exact ⟨rfl, by simp, Blk.new3 _ _ _ _ _⟩))
            · have h1 : vs 1 = v := hd.out 1 (mem_of (by kernel_rfl)) (by decide) (by kernel_rfl)
              obtain ⟨s2, c2, h8, f8⟩ := hd.out 8 (mem_of (by kernel_rfl)) (by decide) (by kernel_rfl)
              obtain ⟨h9, q9, f9⟩ := hd.out 9 (mem_of (by kernel_rfl)) (by decide) (by kernel_rfl)
              have V1 := V.keep (fun b _ hb => hS.out 0 b (by kernel_rfl) (Or.inl ⟨rfl, hb⟩))
              simp only [h1, h8, h9]
              have f9' : Blk w1 (iv 9).1 45 [.int .i64 (Ex.rev x).kind, .int .i64 (Ex.rev x).num, .slice s2 (Ex.rev x).kids.length c2] := by first | exact f9 | (rw [h8] at f9; exact f9)
              refine wpList_append_s w1 (by rfl) _ _ 43 (by rfl) 45 (.agg #[.int .i64 0, .int .i64 0, .slice none 0 0]) 3 40 Try.underlying43 zero_implExpr rfl (by decide) (S := (fun b => b ∈ Fs)) (T := (fun b => (iv 8).1 ≤ b ∧ b < (iv 8).2)) _ (by rfl) V1 ⟨(iv 9).1, 0, none⟩ 1 1 [.int .i64 (Ex.rev x).kind, .int .i64 (Ex.rev x).num, .slice s2 (Ex.rev x).kids.length c2] (by rfl) (news_blk f9') f8.three (fun b _ h1 h2 => by have q := (hbd.out 8 (mem_of (by kernel_rfl)) (by decide)).1; have q' := (hGb 0 b (Or.inl ⟨rfl, h1⟩)).2; omega) (by simp) (by simp [Value.oneCell']) (by omega) (by omega) (by unfold maxLen; omega) ?_
              intro g cap w2 hap ht
              go_wp2_with fail
              exact Onward.mk (hK (.slice (some ⟨g, 0, none⟩) (k + 1) cap) _ _ (by simp) (by simp only [putFrom, Act.put, List.setIfInBounds_toArray, List.set_cons_succ, List.set_cons_zero, h1, h8, h9]) (ht.more (fun b h => Or.inl ⟨0, by decide, (Or.inl ⟨rfl, h⟩)⟩)) (fun iv' ag hi => ⟨g, cap, rfl, hap.more (fun b _ h => by rcases h with h | h | h; exact foot_given 0 (by decide) (Or.inl ⟨rfl, h⟩); exact foot_iv (by kernel_rfl) ag h.1 h.2; exact foot_new hi h.1 h.2)⟩))
            · go_wp2_with fail
              exact Onward.mk (hK (.pointer (some ⟨rb, 2, none⟩)) _ _ (by simp) (by simp only [putFrom, Act.put, List.setIfInBounds_toArray, List.set_cons_succ, List.set_cons_zero]) (Spares.of_below (Below.refl _ _)) (fun iv' _ _ => rfl))
            · obtain ⟨g10, cap10, h10, f10⟩ := hd.out 10 (mem_of (by kernel_rfl)) (by decide) (by kernel_rfl)
              have h11 : vs 11 = .pointer (some ⟨rb, 2, none⟩) := hd.out 11 (mem_of (by kernel_rfl)) (by decide) (by kernel_rfl)
              have R1 := R.keep (hS.out 1 _ (by kernel_rfl) (Or.inr ⟨rfl, rfl⟩))
              have rc0 := R1.c0
              have rz0 := R1.frozen 0
              have rc1 := R1.c1
              have rz1 := R1.frozen 1
              have rc2 := R1.c2
              have rz2 := R1.frozen 2
              have rlt := R1.lt
              go_wp2_with fail
              exact Onward.mk (hK undef _ _ (fun _ => rfl) (by simp only [putFrom, Act.put, List.setIfInBounds_toArray, List.set_cons_succ, List.set_cons_zero, h10, h11]) ((spares_sets (b0 := rb) (by repeat (first | exact Spares.refl _ | apply Spares.set))).more (fun b h => Or.inl ⟨1, by decide, (Or.inr ⟨rfl, h⟩)⟩)) (fun iv' ag hi => by
                show Blk _ (rb) 45 [.int .i64 e.kind, .int .i64 e.num, vs 10]
                rw [h10]
                exact (R1.set 2 _)))
          case hQ =>
            intro iv vs wx hB hSp hd he hbd hsep
            have hzB := hB.size
            have h0 : vs 0 = .pointer (some ⟨rb, 2, none⟩) := hd.out 0 (mem_of (by kernel_rfl)) (not_eaten (by kernel_rfl))
            have h1 : vs 1 = v := hd.out 1 (mem_of (by kernel_rfl)) (not_eaten (by kernel_rfl))
            have h2 : vs 2 = .pointer (some ⟨b, o, none⟩) := hd.out 2 (mem_of (by kernel_rfl)) (not_eaten (by kernel_rfl))
            have h3 : vs 3 = .pointer (some ⟨b, o, none⟩) := hd.out 3 (mem_of (by kernel_rfl)) (not_eaten (by kernel_rfl))
            have h4 : vs 4 = .pointer (some ⟨b, o + 2, none⟩) := hd.out 4 (mem_of (by kernel_rfl)) (not_eaten (by kernel_rfl))
            have h5 : vs 5 = .slice (some ⟨kb, ko, none⟩) e.kids.length c := hd.out 5 (mem_of (by kernel_rfl)) (not_eaten (by kernel_rfl))
            have h6 : vs 6 = .int .i64 k := hd.out 6 (mem_of (by kernel_rfl)) (not_eaten (by kernel_rfl))
            have h7 : vs 7 = .pointer (some ⟨kb, ko + k * 3, none⟩) := hd.out 7 (mem_of (by kernel_rfl)) (not_eaten (by kernel_rfl))
            obtain ⟨s2, c2, h8⟩ := he.out 8 (mem_of (by kernel_rfl))
            obtain ⟨h9, q9, f9⟩ := hd.out 9 (mem_of (by kernel_rfl)) (not_eaten (by kernel_rfl))
            obtain ⟨g10, cap10, h10, f10⟩ := hd.out 10 (mem_of (by kernel_rfl)) (not_eaten (by kernel_rfl))
            have h11 : vs 11 = .pointer (some ⟨rb, 2, none⟩) := hd.out 11 (mem_of (by kernel_rfl)) (not_eaten (by kernel_rfl))
            have f12 : Blk _ (rb) 45 [.int .i64 e.kind, .int .i64 e.num, vs 10] := hd.out 12 (mem_of (by kernel_rfl)) (not_eaten (by kernel_rfl))
            have lo10 : ∀ b, foot [(10, 8)] [(10, 0), (12, 1)] (fun m b => (m = 0 ∧ b ∈ Fs) ∨ (m = 1 ∧ b = rb)) 13 10 iv b → (wz.heap.size) ≤ b := by
              rintro b ⟨j, hj, hh⟩
              have hj' := of_decide_eq_true (List.all_eq_true.1 (show ((chainOf [(10, 8)] 13 10).all fun j => decide (j ∈ [10, 8])) = true from by kernel_rfl) j hj)
              simp only [List.mem_cons, List.not_mem_nil, or_false] at hj'
              rcases hj' with rfl | rfl
              · have q := (hbd.out 10 (mem_of (by kernel_rfl))).1
                rcases hh with hh | ⟨m, hm, hg⟩
                · omega
                · simp at hm
                  subst hm
                  simp at hg
                  have q' := Vf b hg
                  omega
              · have q := (hbd.out 8 (mem_of (by kernel_rfl))).1
                rcases hh with hh | ⟨m, hm, hg⟩
                · omega
                · simp at hm
            simp only [putFrom, Act.put, List.setIfInBounds_toArray, List.set_cons_succ, List.set_cons_zero]
            rw [h10] at f12
            have hap := f10.app (W := wz) lo10
            rw [← Hds.out] at hap
            clear hd he hbd hsep h0 h1 h2 h3 h4 h5 h6 h7 h8 h9 h10 h11 lo10 f10
            go_wp2_with fail
            go_roundw
            case rel => exact ⟨k + 1, _, by omega, by go_num, f12, hap, hBr.trans hB⟩
            case measure => simp [intOf]; omega
        · obtain rfl : k = e.kids.length := by omega
          rw [List.take_of_length_le (by have := Hl.out; omega)] at happ
          obtain ⟨a', cap', rfl, -⟩ := happ.shape
          have g2r := (hBw.cell (p := ⟨b, o + 2, none⟩) hbl).trans G2.out
          have r0 := R.c0
          have r1 := R.c1
          have r2 := R.c2
          have Q2 := R2.keep (hBr.block _ (by omega))
          have q0 := Q2.c0
          have q1 := Q2.c1
          have q2 := Q2.c2
          have z0 := Q2.frozen 0
          have z1 := Q2.frozen 1
          have z2 := Q2.frozen 2
          go_wp2_with fail
          have T2 := ((Q2.set 0 (.int .i64 e.kind)).set 1 (.int .i64 e.num)).set 2 (.slice a' e.kids.length cap')
          have t0 := T2.c0
          have t1 := T2.c1
          have t2 := T2.c2
          refine bodyPost_ret (v := .agg #[.int .i64 e.kind, .int .i64 e.num, .slice a' e.kids.length cap']) (by simp [results, Try.results78, go_sem, t0, t1, t2]) rfl ⟨a', cap', by rw [Hk.out, Hn.out, ← Hl.out], ?_, by (repeat' (first | exact Below.refl _ _ | assumption | (refine Below.alloc ?_ (by first | omega | (simp; done) | (simp; omega)) _) | (refine Below.drew ?_) | (refine Below.setCell ?_ (by first | omega | (simp; done) | (simp; omega)) _)))⟩
          rw [← Hf.out, ← Hl.out]
          refine Freshs.one ((happ.fresh.keep fun bb hb1 hb2 => ?_).from szx)
          rw [Below.heap_setCell _ _ _ _ (by show bb ≠ w.heap.size; omega), Below.heap_setCell _ _ _ _ (by show bb ≠ w.heap.size; omega), Below.heap_setCell _ _ _ _ (by show bb ≠ w.heap.size; omega)]

end Go.Proofs.Ytjjcidfpjgmgcaa
