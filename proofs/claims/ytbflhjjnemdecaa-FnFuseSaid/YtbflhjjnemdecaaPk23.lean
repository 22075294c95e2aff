/-
  Parts of a proof, joined: Fuse, Fuse3, MatT, LwW. No condition.
-/
import Derived.Maps.AppendAt
import Derived.Test.YtbflhjjnemdecaaPk22
namespace Go.Proofs.Ytbflhjjnemdecaa
set_option linter.unusedVariables false
set_option linter.unusedSimpArgs false
open Go.ChangeShapes Go.WideShapes Go.ChangeAt Go.RowKit Go.Sort
theorem rd_drop1 {w : World} {zs : List Int} {b o cap : Nat} (h : Rd w (intsD zs) (.slice (some ⟨b, o, none⟩) zs.length cap)) (h1 : 1 ≤ zs.length) : Rd w (intsD (zs.drop 1)) (.slice (some ⟨b, o + 1, none⟩) (zs.drop 1).length (cap - 1)) := by
 obtain ⟨_, h2, h3, _, _, _⟩ := h.sl_at
 simp only [intsD, Rd] at h ⊢
 obtain ⟨a', cap', e1, _, _, _, _, h5⟩ := h
 simp only [Value.slice.injEq] at e1
 obtain ⟨rfl, _, rfl⟩ := e1
 rcases h5 with h5 | ⟨b', o', xs, e2, hrow, hrds⟩
 ·
  omega
 simp only [Option.some.injEq, Addr.mk.injEq, and_true] at e2
 obtain ⟨rfl, rfl⟩ := e2
 refine ⟨_, _, rfl, by simp; omega, by omega, by simp, by simp, Or.inr ⟨b, o + 1, xs.drop 1, rfl, ?_, ?_⟩⟩
 ·
  intro i hi
  have := hrow (i + 1) (by simp at hi; omega)
  rw [List.getElem?_drop, Nat.add_comm 1 i, ← this]
  congr 2
  omega
 ·
  match zs, xs, hrds with
  | [], _, _ => simp at h1
  | z :: r, _, hrds =>
   simp only [List.map_cons, Rds] at hrds
   obtain ⟨x, q, rfl, _, hq⟩ := hrds
   simpa using hq
theorem rd_pair {w : World} {g T : Nat} {d e : D} {u v : Value} (h : Blk w g T [u, v]) (h1 : Rd w d u) (h2 : Rd w e v) : Rd w (.sl 1 2 [d, e]) (.slice (some ⟨g, 0, none⟩) 2 2) := by
 simp only [Rd]
 refine ⟨_, _, rfl, Nat.le_refl _, by simp [maxLen], by simp, by simp, Or.inr ⟨g, 0, [u, v], rfl, h.row (by simp), ?_⟩⟩
 simp only [Rds]
 exact ⟨u, [v], rfl, h1, v, [], rfl, h2, rfl⟩
theorem concat_two {xs us X : List Int} {g T : Nat} {u v : Value} {w : World} (hX : xs ++ us = X) (h : Blk w g T [u, v]) (h1 : Rd w (intsD xs) u) (h2 : Rd w (intsD us) v) (hx : xs.length ≤ 1000) (hu : us.length ≤ 1000) :
  Calls Try.prog 138 #[.slice (some ⟨g, 0, none⟩) 2 2] w fun e w' => ∃ s' c', e = .returned (.slice s' X.length c') ∧ Fresh w w' (intsD X) (.slice s' X.length c') ∧ Below w.heap.size w w' := by
 subst hX
 have := concat_ints (zss := [xs, us]) (s := some ⟨g, 0, none⟩) (c := 2) (rd_pair h h1 h2) (by simp; omega)
 simpa using this
set_option maxHeartbeats 8000000 in
theorem fused_i {xs ys us vs0 : List Int} {s t p q : Option Addr} {c d c2 d2 : Nat} {w : World} (hr : Rd w (intsD xs) (.slice s xs.length c)) (hq : Rd w (intsD ys) (.slice t ys.length d))
    (hr2 : Rd w (intsD us) (.slice p us.length c2)) (hq2 : Rd w (intsD vs0) (.slice q vs0.length d2)) (hx : xs.length ≤ 1000) (hy : ys.length ≤ 1000) (hu : us.length ≤ 1000) (hv : vs0.length ≤ 1000) (hu1 : 1 ≤ us.length) :
    Calls Try.prog 91 #[.agg #[.slice s xs.length c, .slice t ys.length d], .agg #[.slice p us.length c2, .slice q vs0.length d2]] w fun e w' => ∃ s' c' t' d', e = .returned (.agg #[.slice s' (xs ++ us.drop 1).length c', .slice t' (ys ++ vs0).length d']) ∧
      Freshs w w' (wordD (xs ++ us.drop 1) (ys ++ vs0)) [.slice s' (xs ++ us.drop 1).length c', .slice t' (ys ++ vs0).length d'] ∧ Below w.heap.size w w' := by
  obtain ⟨b, o, rfl⟩ := int_some hr2 hu1
  obtain ⟨-, hlen, hcap, -⟩ := hr2.sl_at
  unfold maxLen at hcap
  have hD := rd_drop1 hr2 hu1
  obtain ⟨u1, hu1'⟩ : ∃ u1, us.drop 1 = u1 := ⟨_, rfl⟩
  have hul : us.length = u1.length + 1 := by rw [← hu1']; simp; omega
  obtain ⟨c3, rfl⟩ : ∃ c3, c2 = c3 + 1 := ⟨c2 - 1, by omega⟩
  rw [hu1'] at hD ⊢
  rw [hul] at hlen hu ⊢
  simp only [Nat.add_sub_cancel] at hD
  obtain ⟨X, hX⟩ : ∃ X, xs ++ u1 = X := ⟨_, rfl⟩
  obtain ⟨Y, hY⟩ : ∃ Y, ys ++ vs0 = Y := ⟨_, rfl⟩
  rw [hX, hY]
  obtain ⟨ad, had⟩ : ∃ ad, (c3 = 0 → ad = o) ∧ (¬ c3 = 0 → ad = o + 1) := ⟨if c3 = 0 then o else o + 1, by intro h; simp [h], by intro h; simp [h]⟩
  have Had := Lib.hid had
  replace hD : Rd w (intsD u1) (.slice (some ⟨b, ad, none⟩) u1.length c3) := by
    by_cases hz : c3 = 0
    · have hn : u1 = [] := List.eq_nil_of_length_eq_zero (by omega)
      rw [had.1 hz, hz, hn]
      simp only [intsD, Rd]
      exact ⟨_, _, rfl, by simp, by simp [maxLen], by simp, by simp, Or.inl (by simp)⟩
    · rw [had.2 hz]; exact hD
  clear had
  have HX := Lib.hid hX
  have HY := Lib.hid hY
  have hu2 : u1.length ≤ 1000 := by omega
  clear hX hY hul hu1' hr2 hu1
  go_enter Try.func91, Try.ntmps91
  go_wp2_with fail
  have L := ((Blk.new2 w 40 (.slice s xs.length c) (.slice t ys.length d)).alloc (.cells #[.slice (some ⟨b, o, none⟩) (u1.length + 1) (c3 + 1), .slice q vs0.length d2] 40)).alloc (.cells #[.slice none 0 0, .slice none 0 0] 40)
  have M := (Blk.new2 (w.alloc (.cells #[.slice s xs.length c, .slice t ys.length d] 40)) 40 (.slice (some ⟨b, o, none⟩) (u1.length + 1) (c3 + 1)) (.slice q vs0.length d2)).alloc (.cells #[.slice none 0 0, .slice none 0 0] 40)
  have R := Blk.new2 ((w.alloc (.cells #[.slice s xs.length c, .slice t ys.length d] 40)).alloc (.cells #[.slice (some ⟨b, o, none⟩) (u1.length + 1) (c3 + 1), .slice q vs0.length d2] 40)) 40 (.slice none 0 0) (.slice none 0 0)
  simp at M R
  have hB0 : Below w.heap.size w (((w.alloc (.cells #[.slice s xs.length c, .slice t ys.length d] 40)).alloc (.cells #[.slice (some ⟨b, o, none⟩) (u1.length + 1) (c3 + 1), .slice q vs0.length d2] 40)).alloc (.cells #[.slice none 0 0, .slice none 0 0] 40)) := by (repeat' first | exact Below.refl _ _ | assumption | apply Below.alloc | apply Below.drew | apply Below.setCell | omega | (simp; done) | (simp; omega))
  generalize (((w.alloc (.cells #[.slice s xs.length c, .slice t ys.length d] 40)).alloc (.cells #[.slice (some ⟨b, o, none⟩) (u1.length + 1) (c3 + 1), .slice q vs0.length d2] 40)).alloc (.cells #[.slice none 0 0, .slice none 0 0] 40)) = w0 at L M R hB0 ⊢
  refine region_rg 14 [] [0, 1, 2, 3, 4, 5, 6, 7, 8, 9, 10, 11, 12, 13] (fun i iv vs wx => match i with
    | 0 => vs 0 = .pointer (some ⟨w.heap.size, 0, none⟩)
    | 1 => vs 1 = .slice s xs.length c
    | 2 => vs 2 = .pointer (some ⟨w.heap.size + 1, 0, none⟩)
    | 3 => vs 3 = .slice (some ⟨b, o, none⟩) (u1.length + 1) (c3 + 1)
    | 4 => vs 4 = .slice (some ⟨b, ad, none⟩) u1.length c3
    | 5 => vs 5 = .slice (some ⟨(iv 5).1, 0, none⟩) 2 2 ∧ (iv 5).2 = (iv 5).1 + 1 ∧ Blk wx (iv 5).1 27 [.slice s xs.length c, .slice (some ⟨b, ad, none⟩) u1.length c3]
    | 6 => ∃ sa ca, vs 6 = .slice sa X.length ca ∧ FreshIn (iv 6) wx [intsD X] [.slice sa X.length ca]
    | 7 => vs 7 = .pointer (some ⟨w.heap.size, 1, none⟩)
    | 8 => vs 8 = .slice t ys.length d
    | 9 => vs 9 = .pointer (some ⟨w.heap.size + 1, 1, none⟩)
    | 10 => vs 10 = .slice q vs0.length d2
    | 11 => vs 11 = .slice (some ⟨(iv 11).1, 0, none⟩) 2 2 ∧ (iv 11).2 = (iv 11).1 + 1 ∧ Blk wx (iv 11).1 27 [.slice t ys.length d, .slice q vs0.length d2]
    | 12 => ∃ sb cb, vs 12 = .slice sb Y.length cb ∧ FreshIn (iv 12) wx [intsD Y] [.slice sb Y.length cb]
    | 13 => vs 13 = .agg #[vs 6, vs 12]
    | _ => True) (fun vs wx => ∃ s' c' t' d', Blk wx (w.heap.size + 2) 40 [.slice s' X.length c', .slice t' Y.length d'] ∧ Freshs w wx (wordD X Y) [.slice s' X.length c', .slice t' Y.length d'] ∧ Below w.heap.size w wx)
    (by kernel_rfl) (by kernel_rfl) (by kernel_rfl) (by kernel_rfl) ?hJ ?hX ?hF ?hstep ?hstore ?hQ (by kernel_rfl)
  case hX =>
    intro i o t k hi ho hop iv vs w hj
    simp at hi
  case hF =>
    intro vs vs' wx h hf
    exact hf
  case hJ =>
    intro i hi iv iv' vs vs' wx wx' ha hv hb hj
    simp only [List.mem_cons, List.not_mem_nil, or_false] at hi
    rcases hi with rfl | rfl | rfl | rfl | rfl | rfl | rfl | rfl | rfl | rfl | rfl | rfl | rfl | rfl
    · have e0 := hv.out 0 (mem_of (by kernel_rfl))
      have hj' : vs 0 = .pointer (some ⟨w.heap.size, 0, none⟩) := hj
      show vs' 0 = .pointer (some ⟨w.heap.size, 0, none⟩)
      rw [← e0]
      exact hj'
    · have e1 := hv.out 1 (mem_of (by kernel_rfl))
      have hj' : vs 1 = .slice s xs.length c := hj
      show vs' 1 = .slice s xs.length c
      rw [← e1]
      exact hj'
    · have e2 := hv.out 2 (mem_of (by kernel_rfl))
      have hj' : vs 2 = .pointer (some ⟨w.heap.size + 1, 0, none⟩) := hj
      show vs' 2 = .pointer (some ⟨w.heap.size + 1, 0, none⟩)
      rw [← e2]
      exact hj'
    · have e3 := hv.out 3 (mem_of (by kernel_rfl))
      have hj' : vs 3 = .slice (some ⟨b, o, none⟩) (u1.length + 1) (c3 + 1) := hj
      show vs' 3 = .slice (some ⟨b, o, none⟩) (u1.length + 1) (c3 + 1)
      rw [← e3]
      exact hj'
    · have e4 := hv.out 4 (mem_of (by kernel_rfl))
      have hj' : vs 4 = .slice (some ⟨b, ad, none⟩) u1.length c3 := hj
      show vs' 4 = .slice (some ⟨b, ad, none⟩) u1.length c3
      rw [← e4]
      exact hj'
    · have e5 := hv.out 5 (mem_of (by kernel_rfl))
      have g5 := ha.out 5 (mem_of (by kernel_rfl))
      obtain ⟨q1, q3, q2⟩ := hj
      show vs' 5 = .slice (some ⟨(iv' 5).1, 0, none⟩) 2 2 ∧ (iv' 5).2 = (iv' 5).1 + 1 ∧ Blk wx' (iv' 5).1 27 [.slice s xs.length c, .slice (some ⟨b, ad, none⟩) u1.length c3]
      rw [← e5, ← g5]
      exact ⟨q1, q3, q2.below hb⟩
    · have e6 := hv.out 6 (mem_of (by kernel_rfl))
      have g6 := ha.out 6 (mem_of (by kernel_rfl))
      obtain ⟨sa, ca, q1, q2⟩ := hj
      exact ⟨sa, ca, e6 ▸ q1, g6 ▸ q2.below hb⟩
    · have e7 := hv.out 7 (mem_of (by kernel_rfl))
      have hj' : vs 7 = .pointer (some ⟨w.heap.size, 1, none⟩) := hj
      show vs' 7 = .pointer (some ⟨w.heap.size, 1, none⟩)
      rw [← e7]
      exact hj'
    · have e8 := hv.out 8 (mem_of (by kernel_rfl))
      have hj' : vs 8 = .slice t ys.length d := hj
      show vs' 8 = .slice t ys.length d
      rw [← e8]
      exact hj'
    · have e9 := hv.out 9 (mem_of (by kernel_rfl))
      have hj' : vs 9 = .pointer (some ⟨w.heap.size + 1, 1, none⟩) := hj
      show vs' 9 = .pointer (some ⟨w.heap.size + 1, 1, none⟩)
      rw [← e9]
      exact hj'
    · have e10 := hv.out 10 (mem_of (by kernel_rfl))
      have hj' : vs 10 = .slice q vs0.length d2 := hj
      show vs' 10 = .slice q vs0.length d2
      rw [← e10]
      exact hj'
    · have e11 := hv.out 11 (mem_of (by kernel_rfl))
      have g11 := ha.out 11 (mem_of (by kernel_rfl))
      obtain ⟨q1, q3, q2⟩ := hj
      show vs' 11 = .slice (some ⟨(iv' 11).1, 0, none⟩) 2 2 ∧ (iv' 11).2 = (iv' 11).1 + 1 ∧ Blk wx' (iv' 11).1 27 [.slice t ys.length d, .slice q vs0.length d2]
      rw [← e11, ← g11]
      exact ⟨q1, q3, q2.below hb⟩
    · have e12 := hv.out 12 (mem_of (by kernel_rfl))
      have g12 := ha.out 12 (mem_of (by kernel_rfl))
      obtain ⟨sb, cb, q1, q2⟩ := hj
      exact ⟨sb, cb, e12 ▸ q1, g12 ▸ q2.below hb⟩
    · have e13 := hv.out 13 (mem_of (by kernel_rfl))
      have e6 := hv.out 6 (mem_of (by kernel_rfl))
      have e12 := hv.out 12 (mem_of (by kernel_rfl))
      have hj' : vs 13 = .agg #[vs 6, vs 12] := hj
      show vs' 13 = .agg #[vs' 6, vs' 12]
      rw [← e6, ← e12, ← e13]
      exact hj'
  case hstep =>
    intro i hi o ho iv vs w1 hB hd hbd hsep K hK
    simp only [List.mem_cons, List.not_mem_nil, or_false] at hi
    have hr1 := (hr.below hB0).below hB
    have hq1 := (hq.below hB0).below hB
    have hD1 := (hD.below hB0).below hB
    have hq3 := (hq2.below hB0).below hB
    have L1 := L.below hB
    have M1 := M.below hB
    have l0 := L1.c0
    have l1 := L1.c1
    have m0 := M1.c0
    have m1 := M1.c1
    rcases hi with rfl | rfl | rfl | rfl | rfl | rfl | rfl | rfl | rfl | rfl | rfl | rfl | rfl | rfl
    all_goals
      simp at ho
      subst ho
      simp only [putFrom, puts]
    · go_wp2_with fail
      exact Onward.mk (hK (.pointer (some ⟨w.heap.size, 0, none⟩)) _ _ (by simp only [putFrom, puts]) (Below.refl _ _) (fun iv' _ _ => rfl))
    · have h0 : vs 0 = .pointer (some ⟨w.heap.size, 0, none⟩) := hd.out 0 (mem_of (by kernel_rfl)) (by decide)
      go_wp2_with fail
      exact Onward.mk (hK (.slice s xs.length c) _ _ (by simp only [putFrom, puts, h0]) (Below.refl _ _) (fun iv' _ _ => rfl))
    · go_wp2_with fail
      exact Onward.mk (hK (.pointer (some ⟨w.heap.size + 1, 0, none⟩)) _ _ (by simp only [putFrom, puts]) (Below.refl _ _) (fun iv' _ _ => rfl))
    · have h2 : vs 2 = .pointer (some ⟨w.heap.size + 1, 0, none⟩) := hd.out 2 (mem_of (by kernel_rfl)) (by decide)
      go_wp2_with fail
      exact Onward.mk (hK (.slice (some ⟨b, o, none⟩) (u1.length + 1) (c3 + 1)) _ _ (by simp only [putFrom, puts, h2]) (Below.refl _ _) (fun iv' _ _ => rfl))
    · have h3 : vs 3 = .slice (some ⟨b, o, none⟩) (u1.length + 1) (c3 + 1) := hd.out 3 (mem_of (by kernel_rfl)) (by decide)
      go_wp2_with fail
      all_goals refine Onward.mk (hK (.slice (some ⟨b, ad, none⟩) u1.length c3) _ _ ?_ (Below.refl _ _) (fun iv' _ _ => rfl))
      all_goals simp only [putFrom, puts, h3]
      all_goals first
        | (have hz : c3 = 0 := by assumption
           rw [Had.out.1 hz, hz])
        | (have hz : ¬ c3 = 0 := by assumption
           rw [Had.out.2 hz])
    · have h1 : vs 1 = .slice s xs.length c := hd.out 1 (mem_of (by kernel_rfl)) (by decide)
      have h4 : vs 4 = .slice (some ⟨b, ad, none⟩) u1.length c3 := hd.out 4 (mem_of (by kernel_rfl)) (by decide)
      go_wp2_with fail
      exact Onward.mk (hK (.slice (some ⟨w1.heap.size, 0, none⟩) 2 2) _ _ (by simp only [putFrom, puts, h1, h4]) (Below.alloc (Below.refl _ _) (Nat.le_refl _) _) (fun iv' _ hi => by
        show Value.slice (some ⟨w1.heap.size, 0, none⟩) 2 2 = .slice (some ⟨(iv' 5).1, 0, none⟩) 2 2 ∧ (iv' 5).2 = (iv' 5).1 + 1 ∧ Blk _ (iv' 5).1 27 [.slice s xs.length c, .slice (some ⟨b, ad, none⟩) u1.length c3]
        rw [hi]
        exact ⟨rfl, by simp, Blk.new2 _ _ _ _⟩))
    · obtain ⟨h5, q5, f5⟩ := hd.out 5 (mem_of (by kernel_rfl)) (by decide)
      go_wp2_with fail
      refine (concat_two HX.out f5 hr1 hD1 hx hu2).mono ?_
      rintro e w2 ⟨sa, ca, rfl, hf, hb⟩
      go_wp2_with fail
      exact Onward.mk (hK (.slice sa X.length ca) _ _ (by simp only [putFrom, puts, h5]) hb (fun iv' _ hi => ⟨sa, ca, rfl, by rw [hi]; exact Freshs.stretch (Freshs.one hf)⟩))
    · go_wp2_with fail
      exact Onward.mk (hK (.pointer (some ⟨w.heap.size, 1, none⟩)) _ _ (by simp only [putFrom, puts]) (Below.refl _ _) (fun iv' _ _ => rfl))
    · have h7 : vs 7 = .pointer (some ⟨w.heap.size, 1, none⟩) := hd.out 7 (mem_of (by kernel_rfl)) (by decide)
      go_wp2_with fail
      exact Onward.mk (hK (.slice t ys.length d) _ _ (by simp only [putFrom, puts, h7]) (Below.refl _ _) (fun iv' _ _ => rfl))
    · go_wp2_with fail
      exact Onward.mk (hK (.pointer (some ⟨w.heap.size + 1, 1, none⟩)) _ _ (by simp only [putFrom, puts]) (Below.refl _ _) (fun iv' _ _ => rfl))
    · have h9 : vs 9 = .pointer (some ⟨w.heap.size + 1, 1, none⟩) := hd.out 9 (mem_of (by kernel_rfl)) (by decide)
      go_wp2_with fail
      exact Onward.mk (hK (.slice q vs0.length d2) _ _ (by simp only [putFrom, puts, h9]) (Below.refl _ _) (fun iv' _ _ => rfl))
    · have h8 : vs 8 = .slice t ys.length d := hd.out 8 (mem_of (by kernel_rfl)) (by decide)
      have h10 : vs 10 = .slice q vs0.length d2 := hd.out 10 (mem_of (by kernel_rfl)) (by decide)
      go_wp2_with fail
      exact Onward.mk (hK (.slice (some ⟨w1.heap.size, 0, none⟩) 2 2) _ _ (by simp only [putFrom, puts, h8, h10]) (Below.alloc (Below.refl _ _) (Nat.le_refl _) _) (fun iv' _ hi => by
        show Value.slice (some ⟨w1.heap.size, 0, none⟩) 2 2 = .slice (some ⟨(iv' 11).1, 0, none⟩) 2 2 ∧ (iv' 11).2 = (iv' 11).1 + 1 ∧ Blk _ (iv' 11).1 27 [.slice t ys.length d, .slice q vs0.length d2]
        rw [hi]
        exact ⟨rfl, by simp, Blk.new2 _ _ _ _⟩))
    · obtain ⟨h11, q11, f11⟩ := hd.out 11 (mem_of (by kernel_rfl)) (by decide)
      go_wp2_with fail
      refine (concat_two HY.out f11 hq1 hq3 hy hv).mono ?_
      rintro e w2 ⟨sb, cb, rfl, hf, hb⟩
      go_wp2_with fail
      exact Onward.mk (hK (.slice sb Y.length cb) _ _ (by simp only [putFrom, puts, h11]) hb (fun iv' _ hi => ⟨sb, cb, rfl, by rw [hi]; exact Freshs.stretch (Freshs.one hf)⟩))
    · obtain ⟨sa, ca, h6, f6⟩ := hd.out 6 (mem_of (by kernel_rfl)) (by decide)
      obtain ⟨sb, cb, h12, f12⟩ := hd.out 12 (mem_of (by kernel_rfl)) (by decide)
      go_wp2_with fail
      exact Onward.mk (hK (.agg #[.slice sa X.length ca, .slice sb Y.length cb]) _ _ (by simp only [putFrom, puts, h6, h12]) (Below.refl _ _) (fun iv' _ _ => by
        show (.agg #[.slice sa X.length ca, .slice sb Y.length cb] : Value) = .agg #[vs 6, vs 12]
        simp only [h6, h12]))
  case hstore =>
    intro o ho iv vs w1 hB hd hsep K hK
    simp at ho
    subst ho
    simp only [putFrom, puts]
    have h0 : vs 0 = .pointer (some ⟨w.heap.size, 0, none⟩) := (hd.out 0 (mem_of (by kernel_rfl))).1
    have h1 : vs 1 = .slice s xs.length c := (hd.out 1 (mem_of (by kernel_rfl))).1
    have h2 : vs 2 = .pointer (some ⟨w.heap.size + 1, 0, none⟩) := (hd.out 2 (mem_of (by kernel_rfl))).1
    have h3 : vs 3 = .slice (some ⟨b, o, none⟩) (u1.length + 1) (c3 + 1) := (hd.out 3 (mem_of (by kernel_rfl))).1
    have h4 : vs 4 = .slice (some ⟨b, ad, none⟩) u1.length c3 := (hd.out 4 (mem_of (by kernel_rfl))).1
    obtain ⟨⟨h5, q5, f5⟩, b5, -, u5⟩ := hd.out 5 (mem_of (by kernel_rfl))
    obtain ⟨⟨sa, ca, h6, f6⟩, b6, -, u6⟩ := hd.out 6 (mem_of (by kernel_rfl))
    have h7 : vs 7 = .pointer (some ⟨w.heap.size, 1, none⟩) := (hd.out 7 (mem_of (by kernel_rfl))).1
    have h8 : vs 8 = .slice t ys.length d := (hd.out 8 (mem_of (by kernel_rfl))).1
    have h9 : vs 9 = .pointer (some ⟨w.heap.size + 1, 1, none⟩) := (hd.out 9 (mem_of (by kernel_rfl))).1
    have h10 : vs 10 = .slice q vs0.length d2 := (hd.out 10 (mem_of (by kernel_rfl))).1
    obtain ⟨⟨h11, q11, f11⟩, b11, -, u11⟩ := hd.out 11 (mem_of (by kernel_rfl))
    obtain ⟨⟨sb, cb, h12, f12⟩, b12, -, u12⟩ := hd.out 12 (mem_of (by kernel_rfl))
    have h13 : vs 13 = .agg #[vs 6, vs 12] := (hd.out 13 (mem_of (by kernel_rfl))).1
    rw [h6, h12] at h13
    have hpair := f6.pair f12 (hsep.out 6 (mem_of (by kernel_rfl)) 12 (mem_of (by kernel_rfl)) (by decide)) b6 b12
    have R1 := R.below hB
    have r0 := R1.c0
    have r1 := R1.c1
    have z0 := R1.frozen 0
    have z1 := R1.frozen 1
    have hRl := R.lt
    have hz1 := hB.size
    have hz0 := hB0.size
    clear h0 h1 h2 h3 h4 h5 h6 h7 h8 h9 h10 h11 h12 f6 f12 f5 f11 q5 q11 b6 b12 u6 u12
    go_wp2_with fail
    refine Onward.mk (hK _ _ (by simp only [putFrom, puts, h13]) ⟨sa, ca, sb, cb, (R1.set 0 _).set 1 _, ?_, ?_⟩)
    · refine (hpair.keep fun b h1 h2 => ?_).from hz0
      rw [Below.heap_setCell _ _ _ _ (by show b ≠ w.heap.size + 2; omega), Below.heap_setCell _ _ _ _ (by show b ≠ w.heap.size + 2; omega)]
    · exact Below.setCell (Below.setCell (Below.on hB0 hB hz0) (by simp; omega) _) (by simp; omega) _
  case hQ =>
    rintro vs wx - ⟨s', c', t', d', hblk, hf, hBx⟩
    simp only [putFrom, puts]
    have c0 := hblk.c0
    have c1 := hblk.c1
    go_wp2_with fail
    exact bodyPost_ret (v := .agg #[.slice s' X.length c', .slice t' Y.length d']) (by simp [results, Try.results91, go_sem, c0, c1]) rfl ⟨s', c', t', d', rfl, hf, hBx⟩
end Go.Proofs.Ytbflhjjnemdecaa

namespace Go.Proofs.Ytbflhjjnemdecaa
set_option linter.unusedVariables false
set_option linter.unusedSimpArgs false
open Go.ChangeShapes Go.WideShapes Go.ChangeAt Go.RowKit Go.Deep Go.Sort
theorem fresh_nils (w w' : World) : Freshs w w' (wordD [] []) [.slice none 0 0, .slice none 0 0] := by
 have h : Ow w' (intsD []) (.slice none 0 0) [] := by simp only [intsD, Ow]; exact ⟨none, 0, rfl, by simp, by simp [maxLen], by simp, by simp, Or.inl (by simp)⟩
 exact ⟨[], by simpa [wordD] using Ows.mk2 h h, by simp, by simp⟩
def fuG (t a : Int) (xs ys us vv : List Int) : Prop := wordB t a xs ys = true ∧ wordB t a us vv = true ∧ xs[ys.length]? = us[0]? ∧ ys.length + vv.length ≤ 10
open Classical in
noncomputable def fuX (t a : Int) (xs ys us vv : List Int) : List Int := if fuG t a xs ys us vv then xs ++ us.drop 1 else []
open Classical in
noncomputable def fuY (t a : Int) (xs ys us vv : List Int) : List Int := if fuG t a xs ys us vv then ys ++ vv else []
open Classical in
noncomputable def fuC (t a : Int) (xs ys us vv : List Int) : Int := if wordB t a xs ys = true ∧ wordB t a us vv = true then (if xs[ys.length]? = us[0]? then (if ys.length + vv.length ≤ 10 then 0 else 3) else 4) else 1
theorem fu_bad {t a : Int} {xs ys us vv : List Int} (h : ¬ fuG t a xs ys us vv) : fuX t a xs ys us vv = [] ∧ fuY t a xs ys us vv = [] := by
 unfold fuX fuY
 rw [if_neg h, if_neg h]
 exact ⟨rfl, rfl⟩
theorem fu_good {t a : Int} {xs ys us vv : List Int} (h : fuG t a xs ys us vv) : fuX t a xs ys us vv = xs ++ us.drop 1 ∧ fuY t a xs ys us vv = ys ++ vv ∧ fuC t a xs ys us vv = 0 := by
 unfold fuX fuY fuC
 rw [if_pos h, if_pos h, if_pos ⟨h.1, h.2.1⟩, if_pos h.2.2.1, if_pos h.2.2.2]
 exact ⟨rfl, rfl, rfl⟩
theorem wordB_bd {t a : Int} {xs ys : List Int} (h : wordB t a xs ys = true) : sigB t a = true ∧ ys.length ≤ 10 ∧ xs.length = ys.length + 1 := by
 simp only [wordB, Bool.and_eq_true, decide_eq_true_eq] at h
 exact ⟨h.1.1.1.1, h.1.1.1.2, h.1.1.2⟩
set_option maxHeartbeats 16000000 in
theorem implFuseWords_i {t a : Int} {xs ys us vv : List Int} {s u p q : Option Addr} {c d c2 d2 : Nat} {w : World} (hr : Rd w (intsD xs) (.slice s xs.length c)) (hq : Rd w (intsD ys) (.slice u ys.length d))
  (hr2 : Rd w (intsD us) (.slice p us.length c2)) (hq2 : Rd w (intsD vv) (.slice q vv.length d2)) :
  Calls Try.prog 40 #[.agg #[.int .i64 t, .int .i64 a], .agg #[.slice s xs.length c, .slice u ys.length d], .agg #[.slice p us.length c2, .slice q vv.length d2]] w fun e w' => ∃ s' c' u' d', e = .returned (.tuple #[.agg #[.slice s' (fuX t a xs ys us vv).length c', .slice u' (fuY t a xs ys us vv).length d'], .int .i64 (fuC t a xs ys us vv)]) ∧
   Freshs w w' (wordD (fuX t a xs ys us vv) (fuY t a xs ys us vv)) [.slice s' (fuX t a xs ys us vv).length c', .slice u' (fuY t a xs ys us vv).length d'] ∧ Below w.heap.size w w' := by
 go_enter Try.func40, Try.ntmps40
 go_wp2_with fail
 have L := (((Blk.new2 w 34 (.int .i64 t) (.int .i64 a)).alloc (.cells #[.slice s xs.length c, .slice u ys.length d] 40)).alloc (.cells #[.slice p us.length c2, .slice q vv.length d2] 40)).alloc (.cells #[.slice none 0 0, .slice none 0 0] 40)
 have M := ((Blk.new2 (w.alloc (.cells #[.int .i64 t, .int .i64 a] 34)) 40 (.slice s xs.length c) (.slice u ys.length d)).alloc (.cells #[.slice p us.length c2, .slice q vv.length d2] 40)).alloc (.cells #[.slice none 0 0, .slice none 0 0] 40)
 simp at M
 have N := (Blk.new2 ((w.alloc (.cells #[.int .i64 t, .int .i64 a] 34)).alloc (.cells #[.slice s xs.length c, .slice u ys.length d] 40)) 40 (.slice p us.length c2) (.slice q vv.length d2)).alloc (.cells #[.slice none 0 0, .slice none 0 0] 40)
 simp at N
 have R := Blk.new2 (((w.alloc (.cells #[.int .i64 t, .int .i64 a] 34)).alloc (.cells #[.slice s xs.length c, .slice u ys.length d] 40)).alloc (.cells #[.slice p us.length c2, .slice q vv.length d2] 40)) 40 (.slice none 0 0) (.slice none 0 0)
 simp at R
 have hB : Below w.heap.size w ((((w.alloc (.cells #[.int .i64 t, .int .i64 a] 34)).alloc (.cells #[.slice s xs.length c, .slice u ys.length d] 40)).alloc (.cells #[.slice p us.length c2, .slice q vv.length d2] 40)).alloc (.cells #[.slice none 0 0, .slice none 0 0] 40)) := by (repeat' first | exact Below.refl _ _ | assumption | apply Below.alloc | apply Below.drew | apply Below.setCell | omega | (simp; done) | (simp; omega))
 have hB0 := hB
 generalize ((((w.alloc (.cells #[.int .i64 t, .int .i64 a] 34)).alloc (.cells #[.slice s xs.length c, .slice u ys.length d] 40)).alloc (.cells #[.slice p us.length c2, .slice q vv.length d2] 40)).alloc (.cells #[.slice none 0 0, .slice none 0 0] 40)) = v0 at L M N R hB hB0 ⊢
 have l0 := L.c0
 have l1 := L.c1
 have m0 := M.c0
 have m1 := M.c1
 have n0 := N.c0
 have n1 := N.c1
 have r0 := R.c0
 have r1 := R.c1
 have ltL := L.lt
 have ltM := M.lt
 have ltN := N.lt
 have ltR := R.lt
 have zz0 := R.frozen 0
 have zz1 := R.frozen 1
 go_wp2_with fail
 refine (implValidWord_i (hr.below hB) (hq.below hB)).mono ?_
 rintro x w1 ⟨rfl, hb⟩
 clear l0 l1 m0 m1 n0 n1 r0 r1 ltL ltM ltN ltR zz0 zz1
 replace hB := Below.on hB hb hB.size
 replace L := L.below hb
 replace M := M.below hb
 replace N := N.below hb
 replace R := R.below hb
 clear hb
 have szW1 := hB.size
 have rlt1 := R.lt
 cases hs1 : wordB t a xs ys
 ·
  have l0 := L.c0
  have l1 := L.c1
  have ltL := L.lt
  have m0 := M.c0
  have m1 := M.c1
  have ltM := M.lt
  have n0 := N.c0
  have n1 := N.c1
  have ltN := N.lt
  have r0 := R.c0
  have zz0 := R.frozen 0
  have r1 := R.c1
  have zz1 := R.frozen 1
  have ltR := R.lt
  clear r0 r1
  have e1 := fu_bad (t := t) (a := a) (xs := xs) (ys := ys) (us := us) (vv := vv) (fun h => by rw [h.1] at hs1; cases hs1)
  have e2 : fuC t a xs ys us vv = 1 := by unfold fuC; rw [if_neg (fun h => by rw [h.1] at hs1; cases hs1)]
  have E1 := Lib.hid e1
  have E2 := Lib.hid e2
  clear e1 e2
  have r0' := R.c0
  have r1' := R.c1
  have y0 := R.frozen 0
  have y1 := R.frozen 1
  have rl' := R.lt
  skip
  go_wp2_with fail
  have R' := (R.set 0 (.slice none 0 0)).set 1 (.slice none 0 0)
  have d0 := R'.c0
  have d1 := R'.c1
  refine bodyPost_ret (v := .tuple #[.agg #[.slice none 0 0, .slice none 0 0], .int .i64 1]) (by simp [results, Try.results40, go_sem, d0, d1]) rfl ?_
  rw [E1.out.1, E1.out.2, E2.out]
  exact ⟨none, 0, none, 0, rfl, fresh_nils _ _, by (repeat' first | exact Below.refl _ _ | assumption | apply Below.alloc | apply Below.drew | apply Below.setCell | omega | (simp; done) | (simp; omega))⟩
 have Hs1 := Lib.hid hs1
 clear hs1
 have l0 := L.c0
 have l1 := L.c1
 have m0 := M.c0
 have m1 := M.c1
 have n0 := N.c0
 have n1 := N.c1
 have r0 := R.c0
 have r1 := R.c1
 have ltL := L.lt
 have ltM := M.lt
 have ltN := N.lt
 have ltR := R.lt
 have zz0 := R.frozen 0
 have zz1 := R.frozen 1
 go_wp2_with fail
 refine (isWord_i (hr2.below hB) (hq2.below hB) (wordB_bd Hs1.out).1).mono ?_
 rintro x w2 ⟨rfl, hb⟩
 clear l0 l1 m0 m1 n0 n1 r0 r1 ltL ltM ltN ltR zz0 zz1
 replace hB := Below.on hB hb hB.size
 replace L := L.below hb
 replace M := M.below hb
 replace N := N.below hb
 replace R := R.below hb
 clear hb
 have szW2 := hB.size
 have rlt2 := R.lt
 cases hs2 : wordB t a us vv
 ·
  have l0 := L.c0
  have l1 := L.c1
  have ltL := L.lt
  have m0 := M.c0
  have m1 := M.c1
  have ltM := M.lt
  have n0 := N.c0
  have n1 := N.c1
  have ltN := N.lt
  have r0 := R.c0
  have zz0 := R.frozen 0
  have r1 := R.c1
  have zz1 := R.frozen 1
  have ltR := R.lt
  clear r0 r1
  have e1 := fu_bad (t := t) (a := a) (xs := xs) (ys := ys) (us := us) (vv := vv) (fun h => by rw [h.2.1] at hs2; cases hs2)
  have e2 : fuC t a xs ys us vv = 1 := by unfold fuC; rw [if_neg (fun h => by rw [h.2] at hs2; cases hs2)]
  have E1 := Lib.hid e1
  have E2 := Lib.hid e2
  clear e1 e2
  have r0' := R.c0
  have r1' := R.c1
  have y0 := R.frozen 0
  have y1 := R.frozen 1
  have rl' := R.lt
  skip
  go_wp2_with fail
  have R' := (R.set 0 (.slice none 0 0)).set 1 (.slice none 0 0)
  have d0 := R'.c0
  have d1 := R'.c1
  refine bodyPost_ret (v := .tuple #[.agg #[.slice none 0 0, .slice none 0 0], .int .i64 1]) (by simp [results, Try.results40, go_sem, d0, d1]) rfl ?_
  rw [E1.out.1, E1.out.2, E2.out]
  exact ⟨none, 0, none, 0, rfl, fresh_nils _ _, by (repeat' first | exact Below.refl _ _ | assumption | apply Below.alloc | apply Below.drew | apply Below.setCell | omega | (simp; done) | (simp; omega))⟩
 have Hs2 := Lib.hid hs2
 clear hs2
 have l0 := L.c0
 have l1 := L.c1
 have m0 := M.c0
 have m1 := M.c1
 have n0 := N.c0
 have n1 := N.c1
 have r0 := R.c0
 have r1 := R.c1
 have ltL := L.lt
 have ltM := M.lt
 have ltN := N.lt
 have ltR := R.lt
 have zz0 := R.frozen 0
 have zz1 := R.frozen 1
 go_wp2_with fail
 obtain ⟨-, by1, bx1⟩ := wordB_bd Hs1.out
 obtain ⟨-, by2, bx2⟩ := wordB_bd Hs2.out
 have Hbx1 := Lib.hid bx1
 have Hbx2 := Lib.hid bx2
 have hx1 : ys.length < xs.length := by omega
 have hx1' : (ys.length : Int) < (xs.length : Int) := by omega
 have hu1 : 1 ≤ us.length := by omega
 have hx2 : xs.length ≤ 11 := by omega
 have hu2 : us.length ≤ 11 := by omega
 clear bx1 bx2
 obtain ⟨x, hxx⟩ : ∃ x, xs[ys.length]? = some x := ⟨_, List.getElem?_eq_getElem (by omega)⟩
 obtain ⟨y, hyy⟩ : ∃ y, us[0]? = some y := ⟨_, List.getElem?_eq_getElem (by omega)⟩
 obtain ⟨xb, xo, rfl⟩ := int_some hr (by omega)
 obtain ⟨ub, uo, rfl⟩ := int_some hr2 (by omega)
 obtain ⟨-, x1, x2, -⟩ := hr.sl_at
 obtain ⟨-, u3, u2, -⟩ := hr2.sl_at
 unfold maxLen at x2 u2
 have hU := (int_in hr2 hyy).2
 simp only [Nat.add_zero] at hU
 have hG := (int_in hr hxx).2
 have hxl := World.block_lt_of_cell? w _ hG
 have hul := World.block_lt_of_cell? w _ hU
 have HG := Lib.hid hG
 have HU := Lib.hid hU
 have HX := Lib.hid hxx
 have HY := Lib.hid hyy
 have hy0 : (0 : Int) ≤ (ys.length : Int) := by omega
 clear hG hU hxx hyy l0 l1 m0 m1 n0 n1 ltL ltM ltN
 have Hb2 := Lib.hid hB
 refine region_rs [] [] (fun _ _ => False) (w2.heap.size) (fun i iv vs wx => match i with
  | 0 => vs 0 = .pointer (some ⟨w.heap.size + 1, 0, none⟩)
  | 1 => vs 1 = .slice (some ⟨xb, xo, none⟩) xs.length c
  | 2 => vs 2 = .pointer (some ⟨w.heap.size + 1, 1, none⟩)
  | 3 => vs 3 = .slice u ys.length d
  | 4 => vs 4 = .int .i64 ys.length
  | 5 => vs 5 = .pointer (some ⟨xb, xo + ys.length, none⟩)
  | 6 => vs 6 = .int .i64 x
  | 7 => vs 7 = .pointer (some ⟨w.heap.size + 1 + 1, 0, none⟩)
  | 8 => vs 8 = .slice (some ⟨ub, uo, none⟩) us.length c2
  | 9 => vs 9 = .pointer (some ⟨ub, uo, none⟩)
  | 10 => vs 10 = .int .i64 y
  | 11 => vs 11 = .bool (x != y)
  | 12 => vs 12 = .bool (x != y)
  | _ => True) (fun i iv vs => match i with
  | 0 => vs 0 = .pointer (some ⟨w.heap.size + 1, 0, none⟩)
  | 1 => vs 1 = .slice (some ⟨xb, xo, none⟩) xs.length c
  | 2 => vs 2 = .pointer (some ⟨w.heap.size + 1, 1, none⟩)
  | 3 => vs 3 = .slice u ys.length d
  | 4 => vs 4 = .int .i64 ys.length
  | 5 => vs 5 = .pointer (some ⟨xb, xo + ys.length, none⟩)
  | 6 => vs 6 = .int .i64 x
  | 7 => vs 7 = .pointer (some ⟨w.heap.size + 1 + 1, 0, none⟩)
  | 8 => vs 8 = .slice (some ⟨ub, uo, none⟩) us.length c2
  | 9 => vs 9 = .pointer (some ⟨ub, uo, none⟩)
  | 10 => vs 10 = .int .i64 y
  | 11 => vs 11 = .bool (x != y)
  | 12 => vs 12 = .bool (x != y)
  | _ => True) (by kernel_rfl) (by kernel_rfl) [0, 1, 2, 3, 4, 5, 6, 7, 8, 9, 10, 11, 12] (by kernel_rfl) ?hbase ?hGb ?hG ?hJ ?hE ?hEE ?hstep ?hQ
 case hbase => first | exact Nat.le_refl _ | omega | (simp; omega)
 case hGb =>
  exact fun _ _ h => h.elim
 case hG =>
  exact fun _ _ _ h => h.elim
 case hJ =>
  intro i hi iv iv' vs vs' wx wx' ha hv hz hk hj
  simp only [List.mem_cons, List.not_mem_nil, or_false] at hi
  rcases hi with rfl | rfl | rfl | rfl | rfl | rfl | rfl | rfl | rfl | rfl | rfl | rfl | rfl
  ·
   exact (hv.out 0 (mem_of (by kernel_rfl))).symm.trans hj
  ·
   exact (hv.out 1 (mem_of (by kernel_rfl))).symm.trans hj
  ·
   exact (hv.out 2 (mem_of (by kernel_rfl))).symm.trans hj
  ·
   exact (hv.out 3 (mem_of (by kernel_rfl))).symm.trans hj
  ·
   exact (hv.out 4 (mem_of (by kernel_rfl))).symm.trans hj
  ·
   exact (hv.out 5 (mem_of (by kernel_rfl))).symm.trans hj
  ·
   exact (hv.out 6 (mem_of (by kernel_rfl))).symm.trans hj
  ·
   exact (hv.out 7 (mem_of (by kernel_rfl))).symm.trans hj
  ·
   exact (hv.out 8 (mem_of (by kernel_rfl))).symm.trans hj
  ·
   exact (hv.out 9 (mem_of (by kernel_rfl))).symm.trans hj
  ·
   exact (hv.out 10 (mem_of (by kernel_rfl))).symm.trans hj
  ·
   exact (hv.out 11 (mem_of (by kernel_rfl))).symm.trans hj
  ·
   exact (hv.out 12 (mem_of (by kernel_rfl))).symm.trans hj
 case hE =>
  intro i hi iv vs wx hj
  simp only [List.mem_cons, List.not_mem_nil, or_false] at hi
  rcases hi with rfl | rfl | rfl | rfl | rfl | rfl | rfl | rfl | rfl | rfl | rfl | rfl | rfl
  ·
   exact hj
  ·
   exact hj
  ·
   exact hj
  ·
   exact hj
  ·
   exact hj
  ·
   exact hj
  ·
   exact hj
  ·
   exact hj
  ·
   exact hj
  ·
   exact hj
  ·
   exact hj
  ·
   exact hj
  ·
   exact hj
 case hEE =>
  intro i hi iv iv' vs vs' ha hv hj
  simp only [List.mem_cons, List.not_mem_nil, or_false] at hi
  rcases hi with rfl | rfl | rfl | rfl | rfl | rfl | rfl | rfl | rfl | rfl | rfl | rfl | rfl
  ·
   exact (hv.out 0 (mem_of (by kernel_rfl))).symm.trans hj
  ·
   exact (hv.out 1 (mem_of (by kernel_rfl))).symm.trans hj
  ·
   exact (hv.out 2 (mem_of (by kernel_rfl))).symm.trans hj
  ·
   exact (hv.out 3 (mem_of (by kernel_rfl))).symm.trans hj
  ·
   exact (hv.out 4 (mem_of (by kernel_rfl))).symm.trans hj
  ·
   exact (hv.out 5 (mem_of (by kernel_rfl))).symm.trans hj
  ·
   exact (hv.out 6 (mem_of (by kernel_rfl))).symm.trans hj
  ·
   exact (hv.out 7 (mem_of (by kernel_rfl))).symm.trans hj
  ·
   exact (hv.out 8 (mem_of (by kernel_rfl))).symm.trans hj
  ·
   exact (hv.out 9 (mem_of (by kernel_rfl))).symm.trans hj
  ·
   exact (hv.out 10 (mem_of (by kernel_rfl))).symm.trans hj
  ·
   exact (hv.out 11 (mem_of (by kernel_rfl))).symm.trans hj
  ·
   exact (hv.out 12 (mem_of (by kernel_rfl))).symm.trans hj
 case hstep =>
  intro i hi opr ho iv vs w1 hB hS hSo hd he hbd hsep hun K hK
  simp only [List.mem_cons, List.not_mem_nil, or_false] at hi
  have hzB := hB.size
  have hBw1 : Below w.heap.size w w1 := Hb2.out.trans (hB.mono Hb2.out.size)
  have gx := (hBw1.cell (p := ⟨xb, xo + ys.length, none⟩) hxl).trans HG.out
  have gu := (hBw1.cell (p := ⟨ub, uo, none⟩) hul).trans HU.out
  have M1 := M.below hB
  have N1 := N.below hB
  have m0 := M1.c0
  have m1 := M1.c1
  have n0 := N1.c0
  have n1 := N1.c1
  generalize hA : putFrom _ 0 vs _ = A at hK ⊢
  simp only [putFrom, puts] at hA
  rcases hi with rfl | rfl | rfl | rfl | rfl | rfl | rfl | rfl | rfl | rfl | rfl | rfl | rfl
  all_goals
   simp at ho
   subst ho
   subst hA
  ·
   go_wp2_with fail
   exact Onward.mk (hK (.pointer (some ⟨w.heap.size + 1, 0, none⟩)) _ _ (fun h => by cases h) (by first | rfl | (simp only [puts])) (Spares.refl _) (fun iv' _ _ => rfl))
  ·
   have h0 : vs 0 = .pointer (some ⟨w.heap.size + 1, 0, none⟩) := hd.out 0 (mem_of (by kernel_rfl)) (by decide) (by kernel_rfl)
   go_wp2_with fail
   exact Onward.mk (hK (.slice (some ⟨xb, xo, none⟩) xs.length c) _ _ (fun h => by cases h) (by first | rfl | (simp only [puts, h0])) (Spares.refl _) (fun iv' _ _ => rfl))
  ·
   go_wp2_with fail
   exact Onward.mk (hK (.pointer (some ⟨w.heap.size + 1, 1, none⟩)) _ _ (fun h => by cases h) (by first | rfl | (simp only [puts])) (Spares.refl _) (fun iv' _ _ => rfl))
  ·
   have h2 : vs 2 = .pointer (some ⟨w.heap.size + 1, 1, none⟩) := hd.out 2 (mem_of (by kernel_rfl)) (by decide) (by kernel_rfl)
   go_wp2_with fail
   exact Onward.mk (hK (.slice u ys.length d) _ _ (fun h => by cases h) (by first | rfl | (simp only [puts, h2])) (Spares.refl _) (fun iv' _ _ => rfl))
  ·
   have h3 : vs 3 = .slice u ys.length d := hd.out 3 (mem_of (by kernel_rfl)) (by decide) (by kernel_rfl)
   go_wp2_with fail
   exact Onward.mk (hK (.int .i64 ys.length) _ _ (fun h => by cases h) (by first | rfl | (simp only [puts, h3])) (Spares.refl _) (fun iv' _ _ => rfl))
  ·
   have h1 : vs 1 = .slice (some ⟨xb, xo, none⟩) xs.length c := hd.out 1 (mem_of (by kernel_rfl)) (by decide) (by kernel_rfl)
   have h4 : vs 4 = .int .i64 ys.length := hd.out 4 (mem_of (by kernel_rfl)) (by decide) (by kernel_rfl)
   go_wp2_with fail
   exact Onward.mk (hK (.pointer (some ⟨xb, xo + ys.length, none⟩)) _ _ (fun h => by cases h) (by first | rfl | (simp only [puts, h1, h4])) (Spares.refl _) (fun iv' _ _ => rfl))
  ·
   have h5 : vs 5 = .pointer (some ⟨xb, xo + ys.length, none⟩) := hd.out 5 (mem_of (by kernel_rfl)) (by decide) (by kernel_rfl)
   go_wp2_with fail
   exact Onward.mk (hK (.int .i64 x) _ _ (fun h => by cases h) (by first | rfl | (simp only [puts, h5])) (Spares.refl _) (fun iv' _ _ => rfl))
  ·
   go_wp2_with fail
   exact Onward.mk (hK (.pointer (some ⟨w.heap.size + 1 + 1, 0, none⟩)) _ _ (fun h => by cases h) (by first | rfl | (simp only [puts])) (Spares.refl _) (fun iv' _ _ => rfl))
  ·
   have h7 : vs 7 = .pointer (some ⟨w.heap.size + 1 + 1, 0, none⟩) := hd.out 7 (mem_of (by kernel_rfl)) (by decide) (by kernel_rfl)
   go_wp2_with fail
   exact Onward.mk (hK (.slice (some ⟨ub, uo, none⟩) us.length c2) _ _ (fun h => by cases h) (by first | rfl | (simp only [puts, h7])) (Spares.refl _) (fun iv' _ _ => rfl))
  ·
   have h8 : vs 8 = .slice (some ⟨ub, uo, none⟩) us.length c2 := hd.out 8 (mem_of (by kernel_rfl)) (by decide) (by kernel_rfl)
   go_wp2_with fail
   exact Onward.mk (hK (.pointer (some ⟨ub, uo, none⟩)) _ _ (fun h => by cases h) (by first | rfl | (simp only [puts, h8])) (Spares.refl _) (fun iv' _ _ => rfl))
  ·
   have h9 : vs 9 = .pointer (some ⟨ub, uo, none⟩) := hd.out 9 (mem_of (by kernel_rfl)) (by decide) (by kernel_rfl)
   go_wp2_with fail
   exact Onward.mk (hK (.int .i64 y) _ _ (fun h => by cases h) (by first | rfl | (simp only [puts, h9])) (Spares.refl _) (fun iv' _ _ => rfl))
  ·
   have h6 : vs 6 = .int .i64 x := hd.out 6 (mem_of (by kernel_rfl)) (by decide) (by kernel_rfl)
   have h10 : vs 10 = .int .i64 y := hd.out 10 (mem_of (by kernel_rfl)) (by decide) (by kernel_rfl)
   go_wp2_with fail
   exact Onward.mk (hK (.bool (x != y)) _ _ (fun h => by cases h) (by first | rfl | (simp only [puts, h6, h10])) (Spares.refl _) (fun iv' _ _ => rfl))
  ·
   have h11 : vs 11 = .bool (x != y) := hd.out 11 (mem_of (by kernel_rfl)) (by decide) (by kernel_rfl)
   go_wp2_with fail
   exact Onward.mk (hK (.bool (x != y)) _ _ (fun h => by cases h) (by first | rfl | (simp only [puts, h11])) (Spares.refl _) (fun iv' _ _ => rfl))
 case hQ =>
  intro iv vs wx hB hSp hd he hbd hsep
  have hzB := hB.size
  have h0 : vs 0 = .pointer (some ⟨w.heap.size + 1, 0, none⟩) := hd.out 0 (mem_of (by kernel_rfl)) (not_eaten (by kernel_rfl))
  have h1 : vs 1 = .slice (some ⟨xb, xo, none⟩) xs.length c := hd.out 1 (mem_of (by kernel_rfl)) (not_eaten (by kernel_rfl))
  have h2 : vs 2 = .pointer (some ⟨w.heap.size + 1, 1, none⟩) := hd.out 2 (mem_of (by kernel_rfl)) (not_eaten (by kernel_rfl))
  have h3 : vs 3 = .slice u ys.length d := hd.out 3 (mem_of (by kernel_rfl)) (not_eaten (by kernel_rfl))
  have h4 : vs 4 = .int .i64 ys.length := hd.out 4 (mem_of (by kernel_rfl)) (not_eaten (by kernel_rfl))
  have h5 : vs 5 = .pointer (some ⟨xb, xo + ys.length, none⟩) := hd.out 5 (mem_of (by kernel_rfl)) (not_eaten (by kernel_rfl))
  have h6 : vs 6 = .int .i64 x := hd.out 6 (mem_of (by kernel_rfl)) (not_eaten (by kernel_rfl))
  have h7 : vs 7 = .pointer (some ⟨w.heap.size + 1 + 1, 0, none⟩) := hd.out 7 (mem_of (by kernel_rfl)) (not_eaten (by kernel_rfl))
  have h8 : vs 8 = .slice (some ⟨ub, uo, none⟩) us.length c2 := hd.out 8 (mem_of (by kernel_rfl)) (not_eaten (by kernel_rfl))
  have h9 : vs 9 = .pointer (some ⟨ub, uo, none⟩) := hd.out 9 (mem_of (by kernel_rfl)) (not_eaten (by kernel_rfl))
  have h10 : vs 10 = .int .i64 y := hd.out 10 (mem_of (by kernel_rfl)) (not_eaten (by kernel_rfl))
  have h11 : vs 11 = .bool (x != y) := hd.out 11 (mem_of (by kernel_rfl)) (not_eaten (by kernel_rfl))
  have h12 : vs 12 = .bool (x != y) := hd.out 12 (mem_of (by kernel_rfl)) (not_eaten (by kernel_rfl))
  simp only [putFrom, puts]
  simp only [h12]
  replace L := L.below hB
  replace M := M.below hB
  replace N := N.below hB
  replace R := R.below hB
  have hBx : Below w.heap.size w wx := Hb2.out.trans (hB.mono Hb2.out.size)
  clear hd he hbd hsep h0 h1 h2 h3 h4 h5 h6 h7 h8 h9 h10 h11 h12 Hb2 hB r0 r1 zz0 zz1 ltR
  by_cases hxy : x = y
  rotate_left
  ·
   have hne : (x != y) = true := by simp [hxy]
   rw [hne]
   have hq : ¬ xs[ys.length]? = us[0]? := by rw [HX.out, HY.out]; simpa using hxy
   clear by1 by2
   have e1 := fu_bad (t := t) (a := a) (xs := xs) (ys := ys) (us := us) (vv := vv) (fun h => hq h.2.2.1)
   have e2 : fuC t a xs ys us vv = 4 := by unfold fuC; rw [if_pos ⟨Hs1.out, Hs2.out⟩, if_neg hq]
   have E1 := Lib.hid e1
   have E2 := Lib.hid e2
   clear e1 e2
   have r0' := R.c0
   have r1' := R.c1
   have y0 := R.frozen 0
   have y1 := R.frozen 1
   have rl' := R.lt
   clear hq hxy hne
   go_wp2_with fail
   have R' := (R.set 0 (.slice none 0 0)).set 1 (.slice none 0 0)
   have d0 := R'.c0
   have d1 := R'.c1
   refine bodyPost_ret (v := .tuple #[.agg #[.slice none 0 0, .slice none 0 0], .int .i64 4]) (by simp [results, Try.results40, go_sem, d0, d1]) rfl ?_
   rw [E1.out.1, E1.out.2, E2.out]
   exact ⟨none, 0, none, 0, rfl, fresh_nils _ _, by (repeat' first | exact Below.refl _ _ | assumption | apply Below.alloc | apply Below.drew | apply Below.setCell | omega | (simp; done) | (simp; omega))⟩
  have hne : (x != y) = false := by simp [hxy]
  rw [hne]
  have Hq : Hid (xs[ys.length]? = us[0]?) := by show _ = _; rw [HX.out, HY.out, hxy]
  clear hne hxy
  by_cases h10 : ys.length + vv.length ≤ 10
  rotate_left
  ·
   have m1 := M.c1
   have n1 := N.c1
   clear by1
   have e1 := fu_bad (t := t) (a := a) (xs := xs) (ys := ys) (us := us) (vv := vv) (fun h => h10 h.2.2.2)
   have e2 : fuC t a xs ys us vv = 3 := by unfold fuC; rw [if_pos ⟨Hs1.out, Hs2.out⟩, if_pos Hq.out, if_neg h10]
   have E1 := Lib.hid e1
   have E2 := Lib.hid e2
   clear e1 e2
   have r0' := R.c0
   have r1' := R.c1
   have y0 := R.frozen 0
   have y1 := R.frozen 1
   have rl' := R.lt
   skip
   go_wp2_with fail
   have R' := (R.set 0 (.slice none 0 0)).set 1 (.slice none 0 0)
   have d0 := R'.c0
   have d1 := R'.c1
   refine bodyPost_ret (v := .tuple #[.agg #[.slice none 0 0, .slice none 0 0], .int .i64 3]) (by simp [results, Try.results40, go_sem, d0, d1]) rfl ?_
   rw [E1.out.1, E1.out.2, E2.out]
   exact ⟨none, 0, none, 0, rfl, fresh_nils _ _, by (repeat' first | exact Below.refl _ _ | assumption | apply Below.alloc | apply Below.drew | apply Below.setCell | omega | (simp; done) | (simp; omega))⟩
  have eg := fu_good (t := t) (a := a) (xs := xs) (ys := ys) (us := us) (vv := vv) ⟨Hs1.out, Hs2.out, Hq.out, h10⟩
  have Eg := Lib.hid eg
  clear eg
  have m0 := M.c0
  have m1 := M.c1
  have n0 := N.c0
  have n1 := N.c1
  go_wp2_with fail
  refine (fused_i (hr.below hBx) (hq.below hBx) (hr2.below hBx) (hq2.below hBx) (by omega) (by omega) (by omega) (by omega) hu1).mono ?_
  rintro e w4 ⟨sa, ca, sb, cb, rfl, hf, hb⟩
  have rlx := R.lt
  have szx := hBx.size
  replace R := R.below hb
  have hB4 : Below w.heap.size w w4 := hBx.trans (hb.mono szx)
  clear m0 m1 n0 n1
  have r0 := R.c0
  have r1 := R.c1
  have y0 := R.frozen 0
  have y1 := R.frozen 1
  have rl := R.lt
  go_wp2_with fail
  have R' := (R.set 0 (.slice sa (xs.length + (us.length - 1)) ca)).set 1 (.slice sb (ys.length + vv.length) cb)
  have d0 := R'.c0
  have d1 := R'.c1
  refine bodyPost_ret (v := .tuple #[.agg #[.slice sa (xs.length + (us.length - 1)) ca, .slice sb (ys.length + vv.length) cb], .int .i64 0]) (by simp [results, Try.results40, go_sem, d0, d1]) rfl ?_
  rw [Eg.out.1, Eg.out.2.1, Eg.out.2.2]
  refine ⟨sa, ca, sb, cb, by simp, ?_, by (repeat' first | exact Below.refl _ _ | assumption | apply Below.alloc | apply Below.drew | apply Below.setCell | omega | (simp; done) | (simp; omega))⟩
  refine (hf.keep fun b hb1 hb2 => ?_).from szx
  repeat rw [Below.heap_setCell _ _ _ _ (by show b ≠ w.heap.size + 1 + 1 + 1; omega)]
end Go.Proofs.Ytbflhjjnemdecaa

namespace Go.Proofs.Ytbflhjjnemdecaa
set_option linter.unusedVariables false
set_option linter.unusedSimpArgs false
open Go.ChangeShapes Go.WideShapes Go.ChangeAt Go.RowKit Go.Deep Go.Sort
theorem spans_whole {tm am : Int} (htm : tm ≤ 2) {e : Ex} {xs ys : List Int} {s p q : Option Addr} {c pc qc : Nat} {w : World} (hr : Rd w (kidsD e.kids) (.slice s e.kids.length c)) (htr : e.tree tm am = true) (rx : Rd w (intsD xs) (.slice p xs.length pc)) (ry : Rd w (intsD ys) (.slice q ys.length qc)) (hok : WOk xs ys) :
  Calls Try.prog 110 #[.agg #[.int .i64 e.kind, .int .i64 e.num, .slice s e.kids.length c], .agg #[.slice p xs.length pc, .slice q ys.length qc]] w fun f w' => ∃ g b2 o2 c2, f = .returned (.slice (some ⟨g, 0, none⟩) xs.length xs.length) ∧ w'.cell? ⟨g, 0, none⟩ = some (.slice (some ⟨b2, o2, none⟩) xs.length c2) ∧ w'.cell? ⟨b2, o2 + ys.length, none⟩ = some (.bool (mtB e xs ys)) ∧ xs.length ≤ c2 ∧ c2 ≤ 9223372036854775807 ∧ Below w.heap.size w w' := by
 refine (spansOf_all am htm _ e xs ys s p q c pc qc w (Nat.le_refl _) hr htr rx ry hok).mono ?_
 rintro f w' ⟨g, rfl, hf, hb⟩
 have hl := hok.len
 obtain ⟨-, s1, c1, h1, r1⟩ := nest_sl (g := D.bool) hf.rd (sqL_at (n := xs.length) (M := spB e xs ys) (i := 0) (by omega))
 rw [rowOf_len] at h1 r1
 obtain ⟨b1, o1, rfl⟩ := nest_some (f := D.bool) r1 (by rw [rowOf_len]; omega)
 obtain ⟨k1, k2⟩ := nest_bd r1
 rw [rowOf_len] at k1
 obtain ⟨-, h3⟩ := bool_in r1 (rowOf_at (n := xs.length) (f := spB e xs ys 0) (k := ys.length) (by omega))
 rw [Nat.zero_add] at h1
 exact ⟨g, b1, o1, c1, rfl, h1, h3, k1, by unfold maxLen at k2; omega, hb⟩
set_option maxHeartbeats 8000000 in
theorem matches_i {tm am k num : Int} (htm : tm ≤ 2) {ks : List Ex} {xs ys : List Int} {s p q : Option Addr} {c pc qc : Nat} {w : World} (hr : Rd w (kidsD ks) (.slice s ks.length c)) (htr : Ex.tree tm am (.mk k num ks) = true) (rx : Rd w (intsD xs) (.slice p xs.length pc)) (ry : Rd w (intsD ys) (.slice q ys.length qc)) (hok : WOk xs ys) :
  Calls Try.prog 57 #[.agg #[.int .i64 k, .int .i64 num, .slice s ks.length c], .agg #[.slice p xs.length pc, .slice q ys.length qc]] w fun f w' => f = .returned (.bool (mtB (.mk k num ks) xs ys)) ∧ Below w.heap.size w w' := by
 have hl := hok.len
 have hsh := hok.short
 obtain ⟨-, hly, hcy, -⟩ := ry.sl_at
 unfold maxLen at hcy
 have hcall := fun W (hW : Below w.heap.size w W) => spans_whole (am := am) htm (e := .mk k num ks) (hr.below hW) htr (rx.below hW) (ry.below hW) hok
 simp only [Ex.kind, Ex.num, Ex.kids] at hcall
 obtain ⟨n, hn⟩ : ∃ n, xs.length = n := ⟨_, rfl⟩
 rw [hn] at hcall rx hl ⊢
 have Hcall := Lib.hid hcall
 have hny : ys.length < n := by omega
 have hnz : (0 : Int) < (n : Int) := by omega
 have hnyz : (ys.length : Int) < (n : Int) := by omega
 have hy0 := Int.natCast_nonneg ys.length
 clear hcall hr htr rx ry hok hl hn
 go_enter Try.func57, Try.ntmps57
 go_wp2_with fail
 obtain ⟨w0, e0, E, hb0, hz0⟩ := box3 w 38 (.int .i64 k) (.int .i64 num) (.slice s ks.length c)
 rw [e0]
 obtain ⟨w1, e1, Q, hb1, hz1⟩ := box2 w0 40 (.slice p n pc) (.slice q ys.length qc)
 rw [e1]
 rw [hz0] at Q
 have hB1 := hb0.trans (hb1.mono (by omega))
 replace E := E.below hb1
 have HE := Lib.hid E
 have HQ := Lib.hid Q
 have HB := Lib.hid hB1
 obtain ⟨x0, x1, x2, -, -, -, ltx⟩ := E.all3
 obtain ⟨y0, y1, lty⟩ := Q.all2
 clear e0 e1 hb0 hb1 hB1 E Q
 go_region_with (go_at_call 110; refine (Hcall.out _ HB.out.drew).mono ?_; rintro f w3 ⟨g, b2, o2, c2, rfl, m1, m2, m3, m4, hb3⟩; have z1 := (hb3.cell (p := ⟨w.heap.size + 1, 1, none⟩) lty).trans y1; have hB3 := HB.out.drew.trans (hb3.mono HB.out.drew.size))
 all_goals
  go_wp2_with fail
  go_ret
  exact ⟨rfl, hB3⟩
theorem wordB_ok {t a : Int} {xs ys : List Int} (h : wordB t a xs ys = true) : WOk xs ys := by
 obtain ⟨h1, h2, h3, h4⟩ := wordB_parts h
 have hs : sigB t a = true := (wordB_bd h).1
 obtain ⟨ht0, ht1, ha0, ha1⟩ := sigB_bd hs
 have hat := atomsN_bd t
 refine ⟨h2, h1, fun x hx => ?_, fun y hy => ?_⟩
 ·
  unfold allIn at h3
  rw [List.all_eq_true] at h3
  have := h3 x hx
  simp only [inB, Bool.and_eq_true, decide_eq_true_eq] at this
  omega
 ·
  unfold allIn at h4
  rw [List.all_eq_true] at h4
  have := h4 y hy
  simp only [inB, Bool.and_eq_true, decide_eq_true_eq] at this
  omega
noncomputable def maR (t a k n : Int) (ks : List Ex) (xs ys : List Int) : Bool := okB t a (.mk k n ks) && (wordB t a xs ys && mtB (.mk k n ks) xs ys)
def maK (t a k n : Int) (ks : List Ex) (xs ys : List Int) : Int := if okB t a (.mk k n ks) = true then (if wordB t a xs ys = true then 0 else 1) else 1
theorem okB_tm {t a : Int} {e : Ex} (h : okB t a e = true) : t - 1 ≤ 2 := by
 obtain ⟨ht0, ht1, ha0, ha1⟩ := sigB_bd (okB_sig h)
 omega
set_option maxHeartbeats 4000000 in
theorem implMatches_i {t a k n : Int} {ks : List Ex} {xs ys : List Int} {s p q : Option Addr} {c pc qc : Nat} {w : World} (hr : Rd w (kidsD ks) (.slice s ks.length c)) (rx : Rd w (intsD xs) (.slice p xs.length pc)) (ry : Rd w (intsD ys) (.slice q ys.length qc)) :
  Calls Try.prog 16 #[.agg #[.int .i64 t, .int .i64 a], .agg #[.int .i64 k, .int .i64 n, .slice s ks.length c], .agg #[.slice p xs.length pc, .slice q ys.length qc]] w fun e w' => e = .returned (.tuple #[.bool (maR t a k n ks xs ys), .int .i64 (maK t a k n ks xs ys)]) ∧ Below w.heap.size w w' := by
 go_enter Try.func16, Try.ntmps16
 go_wp2_with fail
 have L := ((Blk.new2 w 34 (.int .i64 t) (.int .i64 a)).alloc (.cells #[.int .i64 k, .int .i64 n, .slice s ks.length c] 38)).alloc (.cells #[.slice p xs.length pc, .slice q ys.length qc] 40)
 have M := (Blk.new3 (w.alloc (.cells #[.int .i64 t, .int .i64 a] 34)) 38 (.int .i64 k) (.int .i64 n) (.slice s ks.length c)).alloc (.cells #[.slice p xs.length pc, .slice q ys.length qc] 40)
 simp at M
 have V := Blk.new2 ((w.alloc (.cells #[.int .i64 t, .int .i64 a] 34)).alloc (.cells #[.int .i64 k, .int .i64 n, .slice s ks.length c] 38)) 40 (.slice p xs.length pc) (.slice q ys.length qc)
 simp at V
 have hB : Below w.heap.size w (((w.alloc (.cells #[.int .i64 t, .int .i64 a] 34)).alloc (.cells #[.int .i64 k, .int .i64 n, .slice s ks.length c] 38)).alloc (.cells #[.slice p xs.length pc, .slice q ys.length qc] 40)) := by (repeat' first | exact Below.refl _ _ | assumption | apply Below.alloc | apply Below.drew | apply Below.setCell | omega | (simp; done) | (simp; omega))
 have hB0 := hB
 generalize (((w.alloc (.cells #[.int .i64 t, .int .i64 a] 34)).alloc (.cells #[.int .i64 k, .int .i64 n, .slice s ks.length c] 38)).alloc (.cells #[.slice p xs.length pc, .slice q ys.length qc] 40)) = v0 at L M V hB hB0 ⊢
 have l0 := L.c0
 have l1 := L.c1
 have m0 := M.c0
 have m1 := M.c1
 have m2 := M.c2
 have v0 := V.c0
 have v1 := V.c1
 have ltL := L.lt
 have ltM := M.lt
 have ltV := V.lt
 go_wp2_with fail
 refine (implValidExpr_i (hr.below hB)).mono ?_
 rintro x w1 ⟨rfl, hb⟩
 clear l0 l1 m0 m1 m2 v0 v1 ltL ltM ltV
 replace hB := Below.on hB hb hB.size
 replace L := L.below hb
 replace M := M.below hb
 replace V := V.below hb
 clear hb
 have szW1 := hB.size
 cases hs1 : okB t a (.mk k n ks)
 ·
  have l0 := L.c0
  have l1 := L.c1
  have ltL := L.lt
  have m0 := M.c0
  have m1 := M.c1
  have m2 := M.c2
  have ltM := M.lt
  have v0 := V.c0
  have v1 := V.c1
  have ltV := V.lt
  go_wp2_with fail
  go_ret2
  exact ⟨ret_bi (by simp [maR, hs1]) (by simp [maK, hs1]), hB⟩
 have Hs1 := Lib.hid hs1
 clear hs1
 have l0 := L.c0
 have l1 := L.c1
 have m0 := M.c0
 have m1 := M.c1
 have m2 := M.c2
 have v0 := V.c0
 have v1 := V.c1
 have ltL := L.lt
 have ltM := M.lt
 have ltV := V.lt
 go_wp2_with fail
 refine (isWord_i (rx.below hB) (ry.below hB) (okB_sig Hs1.out)).mono ?_
 rintro x w2 ⟨rfl, hb⟩
 clear l0 l1 m0 m1 m2 v0 v1 ltL ltM ltV
 replace hB := Below.on hB hb hB.size
 replace L := L.below hb
 replace M := M.below hb
 replace V := V.below hb
 clear hb
 have szW2 := hB.size
 cases hs2 : wordB t a xs ys
 ·
  have l0 := L.c0
  have l1 := L.c1
  have ltL := L.lt
  have m0 := M.c0
  have m1 := M.c1
  have m2 := M.c2
  have ltM := M.lt
  have v0 := V.c0
  have v1 := V.c1
  have ltV := V.lt
  go_wp2_with fail
  go_ret2
  exact ⟨ret_bi (by simp [maR, Hs1.out, hs2]) (by simp [maK, Hs1.out, hs2]), hB⟩
 have Hs2 := Lib.hid hs2
 clear hs2
 have l0 := L.c0
 have l1 := L.c1
 have m0 := M.c0
 have m1 := M.c1
 have m2 := M.c2
 have v0 := V.c0
 have v1 := V.c1
 have ltL := L.lt
 have ltM := M.lt
 have ltV := V.lt
 go_wp2_with fail
 refine (matches_i (okB_tm Hs1.out) (hr.below hB) (okB_tree Hs1.out) (rx.below hB) (ry.below hB) (wordB_ok Hs2.out)).mono ?_
 rintro x w3 ⟨rfl, hb⟩
 clear l0 l1 m0 m1 m2 v0 v1 ltL ltM ltV
 replace hB := Below.on hB hb hB.size
 replace L := L.below hb
 replace M := M.below hb
 replace V := V.below hb
 clear hb
 have szW3 := hB.size
 have l0 := L.c0
 have l1 := L.c1
 have m0 := M.c0
 have m1 := M.c1
 have m2 := M.c2
 have v0 := V.c0
 have v1 := V.c1
 have ltL := L.lt
 have ltM := M.lt
 have ltV := V.lt
 go_wp2_with fail
 go_ret2
 exact ⟨ret_bi (by simp [maR, Hs1.out, Hs2.out]) (by simp [maK, Hs1.out, Hs2.out]), hB⟩
end Go.Proofs.Ytbflhjjnemdecaa

namespace Go.Proofs.Ytbflhjjnemdecaa
set_option linter.unusedVariables false
set_option linter.unusedSimpArgs false
open Go.ChangeShapes Go.WideShapes Go.ChangeAt Go.RowKit Go.Deep Go.Sort
theorem word_rds {w : World} {ps qs : List Int} {v1 v2 : Value} (h : Rds w (wordD ps qs) [v1, v2]) : Rd w (intsD ps) v1 ∧ Rd w (intsD qs) v2 := by
 simp only [wordD, Rds] at h
 obtain ⟨x1, q1, e1, r1, x2, q2, e2, r2, e3⟩ := h
 simp only [List.cons.injEq] at e1 e2
 obtain ⟨rfl, rfl⟩ := e1
 simp only [List.cons.injEq] at e2
 obtain ⟨rfl, -⟩ := e2
 exact ⟨r1, r2⟩
theorem a2Word_l {xs : List Int} {s : Option Addr} {c : Nat} {t a : Int} {e : Ex} {se : Option Addr} {ce : Nat} {w : World} (hr : Rd w (bytesD xs) (.slice s xs.length c)) (hx : ∀ x ∈ xs, 0 ≤ x ∧ x ≤ 255) (he : Rd w (kidsD e.kids) (.slice se e.kids.length ce)) (hok : okB t a e = true) :
  Calls Try.prog 32 #[.slice s xs.length c, .agg #[.int .i64 t, .int .i64 a], .agg #[.int .i64 e.kind, .int .i64 e.num, .slice se e.kids.length ce]] w fun z w' => ∃ (ps qs : List Int) (s' : Option Addr) (c' : Nat) (u' : Option Addr) (d' : Nat), z = .returned (.agg #[.slice s' ps.length c', .slice u' qs.length d']) ∧ wordB t a ps qs = true ∧
   Rd w' (intsD ps) (.slice s' ps.length c') ∧ Rd w' (intsD qs) (.slice u' qs.length d') ∧ Below w.heap.size w w' :=
 (a2Word_i hr hx he hok).mono fun _ _ ⟨ps, qs, s', c', u', d', h1, h2, h3, h4⟩ => ⟨ps, qs, s', c', u', d', h1, h3, (word_rds h2).1, (word_rds h2).2, h4⟩
theorem matches_l {t a : Int} {e : Ex} {xs ys : List Int} {s p q : Option Addr} {c pc qc : Nat} {w : World} (hr : Rd w (kidsD e.kids) (.slice s e.kids.length c)) (rx : Rd w (intsD xs) (.slice p xs.length pc)) (ry : Rd w (intsD ys) (.slice q ys.length qc)) (hok : okB t a e = true) (hw : wordB t a xs ys = true) :
  Calls Try.prog 16 #[.agg #[.int .i64 t, .int .i64 a], .agg #[.int .i64 e.kind, .int .i64 e.num, .slice s e.kids.length c], .agg #[.slice p xs.length pc, .slice q ys.length qc]] w fun z w' => ∃ v : Bool, z = .returned (.tuple #[.bool v, .int .i64 0]) ∧ v = mtB e xs ys ∧ Below w.heap.size w w' := by
 cases e with
 | mk k n ks =>
  refine (implMatches_i (t := t) (a := a) (k := k) (n := n) (ks := ks) hr rx ry).mono ?_
  rintro f w' ⟨h1, h2⟩
  have e1 : maR t a k n ks xs ys = mtB (.mk k n ks) xs ys := by unfold maR; rw [hok, hw]; rfl
  have e2 : maK t a k n ks xs ys = 0 := by unfold maK; rw [if_pos hok, if_pos hw]
  rw [e1, e2] at h1
  exact ⟨_, h1, rfl, h2⟩
theorem fuse_l {t a : Int} {xs ys us vv : List Int} {s u p q : Option Addr} {c d c2 d2 : Nat} {w : World} (hr : Rd w (intsD xs) (.slice s xs.length c)) (hq : Rd w (intsD ys) (.slice u ys.length d)) (hr2 : Rd w (intsD us) (.slice p us.length c2)) (hq2 : Rd w (intsD vv) (.slice q vv.length d2)) :
  Calls Try.prog 40 #[.agg #[.int .i64 t, .int .i64 a], .agg #[.slice s xs.length c, .slice u ys.length d], .agg #[.slice p us.length c2, .slice q vv.length d2]] w fun z w' => ∃ (ps qs : List Int) (k : Int) (s' : Option Addr) (c' : Nat) (u' : Option Addr) (d' : Nat), z = .returned (.tuple #[.agg #[.slice s' ps.length c', .slice u' qs.length d'], .int .i64 k]) ∧
   (ps = fuX t a xs ys us vv ∧ qs = fuY t a xs ys us vv ∧ k = fuC t a xs ys us vv) ∧ Rd w' (intsD ps) (.slice s' ps.length c') ∧ Rd w' (intsD qs) (.slice u' qs.length d') ∧ Below w.heap.size w w' := by
 refine (implFuseWords_i hr hq hr2 hq2).mono ?_
 rintro z w' ⟨s', c', u', d', h1, h2, h3⟩
 obtain ⟨r1, r2⟩ := word_rds h2.rds
 exact ⟨_, _, _, s', c', u', d', h1, ⟨rfl, rfl, rfl⟩, r1, r2, h3⟩
end Go.Proofs.Ytbflhjjnemdecaa
