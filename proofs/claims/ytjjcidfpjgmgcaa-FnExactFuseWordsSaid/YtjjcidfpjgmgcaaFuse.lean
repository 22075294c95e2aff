/-
  Words fused: impl.fused.
-/
import Derived.Test.YtjjcidfpjgmgcaaConcat
import Derived.Test.YtjjcidfpjgmgcaaRev
namespace Go.Proofs.Ytjjcidfpjgmgcaa
open Go.ChangeShapes Go.WideShapes Go.ChangeAt Go.RowKit Go.Sort

/-- A list of numbers without its first. -/
theorem rd_drop1 {w : World} {zs : List Int} {b o cap : Nat} (h : Rd w (intsD zs) (.slice (some ⟨b, o, none⟩) zs.length cap)) (h1 : 1 ≤ zs.length) : Rd w (intsD (zs.drop 1)) (.slice (some ⟨b, o + 1, none⟩) (zs.drop 1).length (cap - 1)) := by
  obtain ⟨_, h2, h3, _, _, _⟩ := h.sl_at
  simp only [intsD, Rd] at h ⊢
  obtain ⟨a', cap', e1, _, _, _, _, h5⟩ := h
  simp only [Value.slice.injEq] at e1
  obtain ⟨rfl, _, rfl⟩ := e1
  rcases h5 with h5 | ⟨b', o', xs, e2, hrow, hrds⟩
  · omega
  simp only [Option.some.injEq, Addr.mk.injEq, and_true] at e2
  obtain ⟨rfl, rfl⟩ := e2
  refine ⟨_, _, rfl, by simp; omega, by omega, by simp, by simp, Or.inr ⟨b, o + 1, xs.drop 1, rfl, ?_, ?_⟩⟩
  · intro i hi
    have := hrow (i + 1) (by simp at hi; omega)
    rw [List.getElem?_drop, Nat.add_comm 1 i, ← this]
    congr 2
    omega
  · match zs, xs, hrds with
    | [], _, _ => simp at h1
    | z :: r, _, hrds =>
      simp only [List.map_cons, Rds] at hrds
      obtain ⟨x, q, rfl, _, hq⟩ := hrds
      simpa using hq

/-- Two lists in a new row. -/
theorem rd_pair {w : World} {g T : Nat} {d e : D} {u v : Value} (h : Blk w g T [u, v]) (h1 : Rd w d u) (h2 : Rd w e v) : Rd w (.sl 1 2 [d, e]) (.slice (some ⟨g, 0, none⟩) 2 2) := by
  simp only [Rd]
  refine ⟨_, _, rfl, Nat.le_refl _, by simp [maxLen], by simp, by simp, Or.inr ⟨g, 0, [u, v], rfl, h.row (by simp), ?_⟩⟩
  simp only [Rds]
  exact ⟨u, [v], rfl, h1, v, [], rfl, h2, rfl⟩
theorem concat_two {xs us X : List Int} {g T : Nat} {u v : Value} {w : World} (hX : xs ++ us = X) (h : Blk w g T [u, v]) (h1 : Rd w (intsD xs) u) (h2 : Rd w (intsD us) v) (hx : xs.length ≤ 1000) (hu : us.length ≤ 1000) :
    Calls Try.prog 115 #[.slice (some ⟨g, 0, none⟩) 2 2] w fun e w' => ∃ s' c', e = .returned (.slice s' X.length c') ∧ Fresh w w' (intsD X) (.slice s' X.length c') ∧ Below w.heap.size w w' := by
  subst hX
  have := concat_ints (zss := [xs, us]) (s := some ⟨g, 0, none⟩) (c := 2) (rd_pair h h1 h2) (by simp; omega)
  simpa using this

set_option maxHeartbeats 8000000 in
theorem fused_i {xs ys us vs0 : List Int} {s t p q : Option Addr} {c d c2 d2 : Nat} {w : World} (hr : Rd w (intsD xs) (.slice s xs.length c)) (hq : Rd w (intsD ys) (.slice t ys.length d))
    (hr2 : Rd w (intsD us) (.slice p us.length c2)) (hq2 : Rd w (intsD vs0) (.slice q vs0.length d2)) (hx : xs.length ≤ 1000) (hy : ys.length ≤ 1000) (hu : us.length ≤ 1000) (hv : vs0.length ≤ 1000) (hu1 : 1 ≤ us.length) :
    Calls Try.prog 62 #[.agg #[.slice s xs.length c, .slice t ys.length d], .agg #[.slice p us.length c2, .slice q vs0.length d2]] w fun e w' => ∃ s' c' t' d', e = .returned (.agg #[.slice s' (xs ++ us.drop 1).length c', .slice t' (ys ++ vs0).length d']) ∧
      Freshs w w' (wordD (xs ++ us.drop 1) (ys ++ vs0)) [.slice s' (xs ++ us.drop 1).length c', .slice t' (ys ++ vs0).length d'] ∧ Below w.heap.size w w' := by
  obtain ⟨b, o, rfl⟩ := int_some hr2 hu1
  obtain ⟨-, hlen, hcap, -⟩ := hr2.sl_at
  unfold maxLen at hcap
  have hD := rd_drop1 hr2 hu1
  obtain ⟨u1, hu1'⟩ : ∃ u1, us.drop 1 = u1 := ⟨_, rfl⟩
  have hul : us.length = u1.length + 1 := by rw [← hu1']; simp; omega
  obtain ⟨c3, rfl⟩ : ∃ c3, c2 = c3 + 1 := ⟨c2 - 1, by omega⟩
  rw [hu1'] at hD ⊢
  rw [hul] at hlen hu ⊢
  simp only [Nat.add_sub_cancel] at hD
  obtain ⟨X, hX⟩ : ∃ X, xs ++ u1 = X := ⟨_, rfl⟩
  obtain ⟨Y, hY⟩ : ∃ Y, ys ++ vs0 = Y := ⟨_, rfl⟩
  rw [hX, hY]
  obtain ⟨ad, had⟩ : ∃ ad, (c3 = 0 → ad = o) ∧ (¬ c3 = 0 → ad = o + 1) := ⟨if c3 = 0 then o else o + 1, by intro h; simp [h], by intro h; simp [h]⟩
  have Had := Lib.hid had
  replace hD : Rd w (intsD u1) (.slice (some ⟨b, ad, none⟩) u1.length c3) := by
    by_cases hz : c3 = 0
    · have hn : u1 = [] := List.eq_nil_of_length_eq_zero (by omega)
      rw [had.1 hz, hz, hn]
      simp only [intsD, Rd]
      exact ⟨_, _, rfl, by simp, by simp [maxLen], by simp, by simp, Or.inl (by simp)⟩
    · rw [had.2 hz]; exact hD
  clear had
  have HX := Lib.hid hX
  have HY := Lib.hid hY
  have hu2 : u1.length ≤ 1000 := by omega
  clear hX hY hul hu1' hr2 hu1
  go_enter Try.func62, Try.ntmps62
  go_wp2_with fail
  have L := ((Blk.new2 w 28 (.slice s xs.length c) (.slice t ys.length d)).alloc (.cells #[.slice (some ⟨b, o, none⟩) (u1.length + 1) (c3 + 1), .slice q vs0.length d2] 28)).alloc (.cells #[.slice none 0 0, .slice none 0 0] 28)
  have M := (Blk.new2 (w.alloc (.cells #[.slice s xs.length c, .slice t ys.length d] 28)) 28 (.slice (some ⟨b, o, none⟩) (u1.length + 1) (c3 + 1)) (.slice q vs0.length d2)).alloc (.cells #[.slice none 0 0, .slice none 0 0] 28)
  have R := Blk.new2 ((w.alloc (.cells #[.slice s xs.length c, .slice t ys.length d] 28)).alloc (.cells #[.slice (some ⟨b, o, none⟩) (u1.length + 1) (c3 + 1), .slice q vs0.length d2] 28)) 28 (.slice none 0 0) (.slice none 0 0)
  simp at M R
  have hB0 : Below w.heap.size w (((w.alloc (.cells #[.slice s xs.length c, .slice t ys.length d] 28)).alloc (.cells #[.slice (some ⟨b, o, none⟩) (u1.length + 1) (c3 + 1), .slice q vs0.length d2] 28)).alloc (.cells #[.slice none 0 0, .slice none 0 0] 28)) := by (repeat' (first | exact Below.refl _ _ | assumption | (refine Below.alloc ?_ (by first | omega | (simp; done) | (simp; omega)) _) | (refine Below.drew ?_) | (refine Below.setCell ?_ (by first | omega | (simp; done) | (simp; omega)) _)))
  generalize (((w.alloc (.cells #[.slice s xs.length c, .slice t ys.length d] 28)).alloc (.cells #[.slice (some ⟨b, o, none⟩) (u1.length + 1) (c3 + 1), .slice q vs0.length d2] 28)).alloc (.cells #[.slice none 0 0, .slice none 0 0] 28)) = w0 at L M R hB0 ⊢
  refine region_rg 14 [] [0, 1, 2, 3, 4, 5, 6, 7, 8, 9, 10, 11, 12, 13] (fun i iv vs wx => match i with
    | 0 => vs 0 = .pointer (some ⟨w.heap.size, 0, none⟩)
    | 1 => vs 1 = .slice s xs.length c
    | 2 => vs 2 = .pointer (some ⟨w.heap.size + 1, 0, none⟩)
    | 3 => vs 3 = .slice (some ⟨b, o, none⟩) (u1.length + 1) (c3 + 1)
    | 4 => vs 4 = .slice (some ⟨b, ad, none⟩) u1.length c3
    | 5 => vs 5 = .slice (some ⟨(iv 5).1, 0, none⟩) 2 2 ∧ (iv 5).2 = (iv 5).1 + 1 ∧ Blk wx (iv 5).1 24 [.slice s xs.length c, .slice (some ⟨b, ad, none⟩) u1.length c3]
    | 6 => ∃ sa ca, vs 6 = .slice sa X.length ca ∧ FreshIn (iv 6) wx [intsD X] [.slice sa X.length ca]
    | 7 => vs 7 = .pointer (some ⟨w.heap.size, 1, none⟩)
    | 8 => vs 8 = .slice t ys.length d
    | 9 => vs 9 = .pointer (some ⟨w.heap.size + 1, 1, none⟩)
    | 10 => vs 10 = .slice q vs0.length d2
    | 11 => vs 11 = .slice (some ⟨(iv 11).1, 0, none⟩) 2 2 ∧ (iv 11).2 = (iv 11).1 + 1 ∧ Blk wx (iv 11).1 24 [.slice t ys.length d, .slice q vs0.length d2]
    | 12 => ∃ sb cb, vs 12 = .slice sb Y.length cb ∧ FreshIn (iv 12) wx [intsD Y] [.slice sb Y.length cb]
    | 13 => vs 13 = .agg #[vs 6, vs 12]
    | _ => True) (fun vs wx => ∃ s' c' t' d', Blk wx (w.heap.size + 2) 28 [.slice s' X.length c', .slice t' Y.length d'] ∧ Freshs w wx (wordD X Y) [.slice s' X.length c', .slice t' Y.length d'] ∧ Below w.heap.size w wx)
    (by kernel_rfl) (by kernel_rfl) (by kernel_rfl) (by kernel_rfl) ?hJ ?hX ?hF ?hstep ?hstore ?hQ (by kernel_rfl)
  case hX =>
    intro i o t k hi ho hop iv vs w hj
    simp at hi
  case hF =>
    intro vs vs' wx h hf
    exact hf
  case hJ =>
    intro i hi iv iv' vs vs' wx wx' ha hv hb hj
    simp only [List.mem_cons, List.not_mem_nil, or_false] at hi
    rcases hi with rfl | rfl | rfl | rfl | rfl | rfl | rfl | rfl | rfl | rfl | rfl | rfl | rfl | rfl
    · have e0 := hv.out 0 (mem_of (by kernel_rfl))
      have hj' : vs 0 = .pointer (some ⟨w.heap.size, 0, none⟩) := hj
      show vs' 0 = .pointer (some ⟨w.heap.size, 0, none⟩)
      rw [← e0]
      exact hj'
    · have e1 := hv.out 1 (mem_of (by kernel_rfl))
      have hj' : vs 1 = .slice s xs.length c := hj
      show vs' 1 = .slice s xs.length c
      rw [← e1]
      exact hj'
    · have e2 := hv.out 2 (mem_of (by kernel_rfl))
      have hj' : vs 2 = .pointer (some ⟨w.heap.size + 1, 0, none⟩) := hj
      show vs' 2 = .pointer (some ⟨w.heap.size + 1, 0, none⟩)
      rw [← e2]
      exact hj'
    · have e3 := hv.out 3 (mem_of (by kernel_rfl))
      have hj' : vs 3 = .slice (some ⟨b, o, none⟩) (u1.length + 1) (c3 + 1) := hj
      show vs' 3 = .slice (some ⟨b, o, none⟩) (u1.length + 1) (c3 + 1)
      rw [← e3]
      exact hj'
    · have e4 := hv.out 4 (mem_of (by kernel_rfl))
      have hj' : vs 4 = .slice (some ⟨b, ad, none⟩) u1.length c3 := hj
      show vs' 4 = .slice (some ⟨b, ad, none⟩) u1.length c3
      rw [← e4]
      exact hj'
    · have e5 := hv.out 5 (mem_of (by kernel_rfl))
      have g5 := ha.out 5 (mem_of (by kernel_rfl))
      obtain ⟨q1, q3, q2⟩ := hj
      show vs' 5 = .slice (some ⟨(iv' 5).1, 0, none⟩) 2 2 ∧ (iv' 5).2 = (iv' 5).1 + 1 ∧ Blk wx' (iv' 5).1 24 [.slice s xs.length c, .slice (some ⟨b, ad, none⟩) u1.length c3]
      rw [← e5, ← g5]
      exact ⟨q1, q3, q2.below hb⟩
    · have e6 := hv.out 6 (mem_of (by kernel_rfl))
      have g6 := ha.out 6 (mem_of (by kernel_rfl))
      obtain ⟨sa, ca, q1, q2⟩ := hj
      exact ⟨sa, ca, e6 ▸ q1, g6 ▸ q2.below hb⟩
    · have e7 := hv.out 7 (mem_of (by kernel_rfl))
      have hj' : vs 7 = .pointer (some ⟨w.heap.size, 1, none⟩) := hj
      show vs' 7 = .pointer (some ⟨w.heap.size, 1, none⟩)
      rw [← e7]
      exact hj'
    · have e8 := hv.out 8 (mem_of (by kernel_rfl))
      have hj' : vs 8 = .slice t ys.length d := hj
      show vs' 8 = .slice t ys.length d
      rw [← e8]
      exact hj'
    · have e9 := hv.out 9 (mem_of (by kernel_rfl))
      have hj' : vs 9 = .pointer (some ⟨w.heap.size + 1, 1, none⟩) := hj
      show vs' 9 = .pointer (some ⟨w.heap.size + 1, 1, none⟩)
      rw [← e9]
      exact hj'
    · have e10 := hv.out 10 (mem_of (by kernel_rfl))
      have hj' : vs 10 = .slice q vs0.length d2 := hj
      show vs' 10 = .slice q vs0.length d2
      rw [← e10]
      exact hj'
    · have e11 := hv.out 11 (mem_of (by kernel_rfl))
      have g11 := ha.out 11 (mem_of (by kernel_rfl))
      obtain ⟨q1, q3, q2⟩ := hj
      show vs' 11 = .slice (some ⟨(iv' 11).1, 0, none⟩) 2 2 ∧ (iv' 11).2 = (iv' 11).1 + 1 ∧ Blk wx' (iv' 11).1 24 [.slice t ys.length d, .slice q vs0.length d2]
      rw [← e11, ← g11]
      exact ⟨q1, q3, q2.below hb⟩
    · have e12 := hv.out 12 (mem_of (by kernel_rfl))
      have g12 := ha.out 12 (mem_of (by kernel_rfl))
      obtain ⟨sb, cb, q1, q2⟩ := hj
      exact ⟨sb, cb, e12 ▸ q1, g12 ▸ q2.below hb⟩
    · have e13 := hv.out 13 (mem_of (by kernel_rfl))
      have e6 := hv.out 6 (mem_of (by kernel_rfl))
      have e12 := hv.out 12 (mem_of (by kernel_rfl))
      have hj' : vs 13 = .agg #[vs 6, vs 12] := hj
      show vs' 13 = .agg #[vs' 6, vs' 12]
      rw [← e6, ← e12, ← e13]
      exact hj'
  case hstep =>
    intro i hi o ho iv vs w1 hB hd hbd hsep K hK
    simp only [List.mem_cons, List.not_mem_nil, or_false] at hi
    have hr1 := (hr.below hB0).below hB
    have hq1 := (hq.below hB0).below hB
    have hD1 := (hD.below hB0).below hB
    have hq3 := (hq2.below hB0).below hB
    have L1 := L.below hB
    have M1 := M.below hB
    have l0 := L1.c0
    have l1 := L1.c1
    have m0 := M1.c0
    have m1 := M1.c1
    rcases hi with rfl | rfl | rfl | rfl | rfl | rfl | rfl | rfl | rfl | rfl | rfl | rfl | rfl | rfl
    all_goals
      simp at ho
      subst ho
      simp only [putFrom, Act.put, List.setIfInBounds_toArray, List.set_cons_succ, List.set_cons_zero]
    · go_wp2_with fail
      exact Onward.mk (hK (.pointer (some ⟨w.heap.size, 0, none⟩)) _ _ (by simp only [putFrom, Act.put, List.setIfInBounds_toArray, List.set_cons_succ, List.set_cons_zero]) (Below.refl _ _) (fun iv' _ _ => rfl))
    · have h0 : vs 0 = .pointer (some ⟨w.heap.size, 0, none⟩) := hd.out 0 (mem_of (by kernel_rfl)) (by decide)
      go_wp2_with fail
      exact Onward.mk (hK (.slice s xs.length c) _ _ (by simp only [putFrom, Act.put, List.setIfInBounds_toArray, List.set_cons_succ, List.set_cons_zero, h0]) (Below.refl _ _) (fun iv' _ _ => rfl))
    · go_wp2_with fail
      exact Onward.mk (hK (.pointer (some ⟨w.heap.size + 1, 0, none⟩)) _ _ (by simp only [putFrom, Act.put, List.setIfInBounds_toArray, List.set_cons_succ, List.set_cons_zero]) (Below.refl _ _) (fun iv' _ _ => rfl))
    · have h2 : vs 2 = .pointer (some ⟨w.heap.size + 1, 0, none⟩) := hd.out 2 (mem_of (by kernel_rfl)) (by decide)
      go_wp2_with fail
      exact Onward.mk (hK (.slice (some ⟨b, o, none⟩) (u1.length + 1) (c3 + 1)) _ _ (by simp only [putFrom, Act.put, List.setIfInBounds_toArray, List.set_cons_succ, List.set_cons_zero, h2]) (Below.refl _ _) (fun iv' _ _ => rfl))
    · have h3 : vs 3 = .slice (some ⟨b, o, none⟩) (u1.length + 1) (c3 + 1) := hd.out 3 (mem_of (by kernel_rfl)) (by decide)
      go_wp2_with fail
      all_goals refine Onward.mk (hK (.slice (some ⟨b, ad, none⟩) u1.length c3) _ _ ?_ (Below.refl _ _) (fun iv' _ _ => rfl))
      all_goals simp only [putFrom, Act.put, List.setIfInBounds_toArray, List.set_cons_succ, List.set_cons_zero, h3]
      all_goals first
        | (have hz : c3 = 0 := by assumption
           rw [Had.out.1 hz, hz])
        | (have hz : ¬ c3 = 0 := by assumption
           rw [Had.out.2 hz])
    · have h1 : vs 1 = .slice s xs.length c := hd.out 1 (mem_of (by kernel_rfl)) (by decide)
      have h4 : vs 4 = .slice (some ⟨b, ad, none⟩) u1.length c3 := hd.out 4 (mem_of (by kernel_rfl)) (by decide)
      go_wp2_with fail
      exact Onward.mk (hK (.slice (some ⟨w1.heap.size, 0, none⟩) 2 2) _ _ (by simp only [putFrom, Act.put, List.setIfInBounds_toArray, List.set_cons_succ, List.set_cons_zero, h1, h4]) (Below.alloc (Below.refl _ _) (Nat.le_refl _) _) (fun iv' _ hi => by
        show Value.slice (some ⟨w1.heap.size, 0, none⟩) 2 2 = .slice (some ⟨(iv' 5).1, 0, none⟩) 2 2 ∧ (iv' 5).2 = (iv' 5).1 + 1 ∧ Blk _ (iv' 5).1 24 [.slice s xs.length c, .slice (some ⟨b, ad, none⟩) u1.length c3]
        rw [hi]
        exact ⟨rfl, by simp, Blk.new2 _ _ _ _⟩))
    · obtain ⟨h5, q5, f5⟩ := hd.out 5 (mem_of (by kernel_rfl)) (by decide)
      go_wp2_with fail
      refine (concat_two HX.out f5 hr1 hD1 hx hu2).mono ?_
      rintro e w2 ⟨sa, ca, rfl, hf, hb⟩
      go_wp2_with fail
      exact Onward.mk (hK (.slice sa X.length ca) _ _ (by simp only [putFrom, Act.put, List.setIfInBounds_toArray, List.set_cons_succ, List.set_cons_zero, h5]) hb (fun iv' _ hi => ⟨sa, ca, rfl, by rw [hi]; exact Freshs.stretch (Freshs.one hf)⟩))
    · go_wp2_with fail
      exact Onward.mk (hK (.pointer (some ⟨w.heap.size, 1, none⟩)) _ _ (by simp only [putFrom, Act.put, List.setIfInBounds_toArray, List.set_cons_succ, List.set_cons_zero]) (Below.refl _ _) (fun iv' _ _ => rfl))
    · have h7 : vs 7 = .pointer (some ⟨w.heap.size, 1, none⟩) := hd.out 7 (mem_of (by kernel_rfl)) (by decide)
      go_wp2_with fail
      exact Onward.mk (hK (.slice t ys.length d) _ _ (by simp only [putFrom, Act.put, List.setIfInBounds_toArray, List.set_cons_succ, List.set_cons_zero, h7]) (Below.refl _ _) (fun iv' _ _ => rfl))
    · go_wp2_with fail
      exact Onward.mk (hK (.pointer (some ⟨w.heap.size + 1, 1, none⟩)) _ _ (by simp only [putFrom, Act.put, List.setIfInBounds_toArray, List.set_cons_succ, List.set_cons_zero]) (Below.refl _ _) (fun iv' _ _ => rfl))
    · have h9 : vs 9 = .pointer (some ⟨w.heap.size + 1, 1, none⟩) := hd.out 9 (mem_of (by kernel_rfl)) (by decide)
      go_wp2_with fail
      exact Onward.mk (hK (.slice q vs0.length d2) _ _ (by simp only [putFrom, Act.put, List.setIfInBounds_toArray, List.set_cons_succ, List.set_cons_zero, h9]) (Below.refl _ _) (fun iv' _ _ => rfl))
    · have h8 : vs 8 = .slice t ys.length d := hd.out 8 (mem_of (by kernel_rfl)) (by decide)
      have h10 : vs 10 = .slice q vs0.length d2 := hd.out 10 (mem_of (by kernel_rfl)) (by decide)
      go_wp2_with fail
      exact Onward.mk (hK (.slice (some ⟨w1.heap.size, 0, none⟩) 2 2) _ _ (by simp only [putFrom, Act.put, List.setIfInBounds_toArray, List.set_cons_succ, List.set_cons_zero, h8, h10]) (Below.alloc (Below.refl _ _) (Nat.le_refl _) _) (fun iv' _ hi => by
        show Value.slice (some ⟨w1.heap.size, 0, none⟩) 2 2 = .slice (some ⟨(iv' 11).1, 0, none⟩) 2 2 ∧ (iv' 11).2 = (iv' 11).1 + 1 ∧ Blk _ (iv' 11).1 24 [.slice t ys.length d, .slice q vs0.length d2]
        rw [hi]
        exact ⟨rfl, by simp, Blk.new2 _ _ _ _⟩))
    · obtain ⟨h11, q11, f11⟩ := hd.out 11 (mem_of (by kernel_rfl)) (by decide)
      go_wp2_with fail
      refine (concat_two HY.out f11 hq1 hq3 hy hv).mono ?_
      rintro e w2 ⟨sb, cb, rfl, hf, hb⟩
      go_wp2_with fail
      exact Onward.mk (hK (.slice sb Y.length cb) _ _ (by simp only [putFrom, Act.put, List.setIfInBounds_toArray, List.set_cons_succ, List.set_cons_zero, h11]) hb (fun iv' _ hi => ⟨sb, cb, rfl, by rw [hi]; exact Freshs.stretch (Freshs.one hf)⟩))
    · obtain ⟨sa, ca, h6, f6⟩ := hd.out 6 (mem_of (by kernel_rfl)) (by decide)
      obtain ⟨sb, cb, h12, f12⟩ := hd.out 12 (mem_of (by kernel_rfl)) (by decide)
      go_wp2_with fail
      exact Onward.mk (hK (.agg #[.slice sa X.length ca, .slice sb Y.length cb]) _ _ (by simp only [putFrom, Act.put, List.setIfInBounds_toArray, List.set_cons_succ, List.set_cons_zero, h6, h12]) (Below.refl _ _) (fun iv' _ _ => by
        show (.agg #[.slice sa X.length ca, .slice sb Y.length cb] : Value) = .agg #[vs 6, vs 12]
        simp only [h6, h12]))
  case hstore =>
    intro o ho iv vs w1 hB hd hsep K hK
    simp at ho
    subst ho
    simp only [putFrom, Act.put, List.setIfInBounds_toArray, List.set_cons_succ, List.set_cons_zero]
    have h0 : vs 0 = .pointer (some ⟨w.heap.size, 0, none⟩) := (hd.out 0 (mem_of (by kernel_rfl))).1
    have h1 : vs 1 = .slice s xs.length c := (hd.out 1 (mem_of (by kernel_rfl))).1
    have h2 : vs 2 = .pointer (some ⟨w.heap.size + 1, 0, none⟩) := (hd.out 2 (mem_of (by kernel_rfl))).1
    have h3 : vs 3 = .slice (some ⟨b, o, none⟩) (u1.length + 1) (c3 + 1) := (hd.out 3 (mem_of (by kernel_rfl))).1
    have h4 : vs 4 = .slice (some ⟨b, ad, none⟩) u1.length c3 := (hd.out 4 (mem_of (by kernel_rfl))).1
    obtain ⟨⟨h5, q5, f5⟩, b5, -, u5⟩ := hd.out 5 (mem_of (by kernel_rfl))
    obtain ⟨⟨sa, ca, h6, f6⟩, b6, -, u6⟩ := hd.out 6 (mem_of (by kernel_rfl))
    have h7 : vs 7 = .pointer (some ⟨w.heap.size, 1, none⟩) := (hd.out 7 (mem_of (by kernel_rfl))).1
    have h8 : vs 8 = .slice t ys.length d := (hd.out 8 (mem_of (by kernel_rfl))).1
    have h9 : vs 9 = .pointer (some ⟨w.heap.size + 1, 1, none⟩) := (hd.out 9 (mem_of (by kernel_rfl))).1
    have h10 : vs 10 = .slice q vs0.length d2 := (hd.out 10 (mem_of (by kernel_rfl))).1
    obtain ⟨⟨h11, q11, f11⟩, b11, -, u11⟩ := hd.out 11 (mem_of (by kernel_rfl))
    obtain ⟨⟨sb, cb, h12, f12⟩, b12, -, u12⟩ := hd.out 12 (mem_of (by kernel_rfl))
    have h13 : vs 13 = .agg #[vs 6, vs 12] := (hd.out 13 (mem_of (by kernel_rfl))).1
    rw [h6, h12] at h13
    have hpair := f6.pair f12 (hsep.out 6 (mem_of (by kernel_rfl)) 12 (mem_of (by kernel_rfl)) (by decide)) b6 b12
    have R1 := R.below hB
    have r0 := R1.c0
    have r1 := R1.c1
    have z0 := R1.frozen 0
    have z1 := R1.frozen 1
    have hRl := R.lt
    have hz1 := hB.size
    have hz0 := hB0.size
    clear h0 h1 h2 h3 h4 h5 h6 h7 h8 h9 h10 h11 h12 f6 f12 f5 f11 q5 q11 b6 b12 u6 u12
    go_wp2_with fail
    refine Onward.mk (hK _ _ (by simp only [putFrom, Act.put, List.setIfInBounds_toArray, List.set_cons_succ, List.set_cons_zero, h13]) ⟨sa, ca, sb, cb, (R1.set 0 _).set 1 _, ?_, ?_⟩)
    · refine (hpair.keep fun b h1 h2 => ?_).from hz0
      rw [Below.heap_setCell _ _ _ _ (by show b ≠ w.heap.size + 2; omega), Below.heap_setCell _ _ _ _ (by show b ≠ w.heap.size + 2; omega)]
    · exact Below.setCell (Below.setCell (Below.on hB0 hB hz0) (by simp; omega) _) (by simp; omega) _
  case hQ =>
    rintro vs wx - ⟨s', c', t', d', hblk, hf, hBx⟩
    simp only [putFrom, Act.put, List.setIfInBounds_toArray, List.set_cons_succ, List.set_cons_zero]
    have c0 := hblk.c0
    have c1 := hblk.c1
    go_wp2_with fail
    exact bodyPost_ret (v := .agg #[.slice s' X.length c', .slice t' Y.length d']) (by simp [results, Try.results62, go_sem, c0, c1]) rfl ⟨s', c', t', d', rfl, hf, hBx⟩
end Go.Proofs.Ytjjcidfpjgmgcaa
