/-
  Words anew and backwards: impl.copyWord, slices.Reverse, ReverseWord of both.
-/
import Derived.Test.YtdkoeakpgfiadaaClone
import Derived.Test.YtdkoeakpgfiadaaSwap
namespace Go.Proofs.Ytdkoeakpgfiadaa
open Go.ChangeShapes Go.WideShapes Go.ChangeAt Go.RowKit Go.Sort

theorem mem_of {l : List Nat} {j : Nat} (h : l.contains j = true) : j ∈ l := by simpa using h
/-- Data in blocks of a stretch. -/
def FreshIn (p : Nat × Nat) (w : World) (ds : List D) (vs : List Value) : Prop := ∃ F : List Nat, Ows w ds vs F ∧ F.Nodup ∧ ∀ b ∈ F, p.1 ≤ b ∧ b < p.2
theorem FreshIn.below {p : Nat × Nat} {w w' : World} {ds : List D} {vs : List Value} (h : FreshIn p w ds vs) (hb : Below w.heap.size w w') : FreshIn p w' ds vs := by
  obtain ⟨F, h1, h2, h3⟩ := h
  exact ⟨F, h1.keep fun b hm => hb.block b (h1.lt b hm), h2, h3⟩
theorem Freshs.stretch {w w' : World} {ds : List D} {vs : List Value} (h : Freshs w w' ds vs) : FreshIn (w.heap.size, w'.heap.size) w' ds vs := by
  obtain ⟨F, h1, h2, h3⟩ := h
  exact ⟨F, h1, h2, fun b hm => ⟨h3 b hm, h1.lt b hm⟩⟩
theorem FreshIn.rds {p : Nat × Nat} {w : World} {ds : List D} {vs : List Value} (h : FreshIn p w ds vs) : Rds w ds vs := by
  obtain ⟨F, h1, _⟩ := h
  exact h1.rds
theorem FreshIn.freshs {p : Nat × Nat} {W w : World} {ds : List D} {vs : List Value} (h : FreshIn p w ds vs) (hp : W.heap.size ≤ p.1) : Freshs W w ds vs := by
  obtain ⟨F, h1, h2, h3⟩ := h
  exact ⟨F, h1, h2, fun b hm => by have := (h3 b hm).1; omega⟩
theorem FreshIn.pair {p q : Nat × Nat} {W w : World} {ds es : List D} {vs us : List Value} (h : FreshIn p w ds vs) (k : FreshIn q w es us) (hs : Sep p q) (hp : W.heap.size ≤ p.1) (hq : W.heap.size ≤ q.1) : Freshs W w (ds ++ es) (vs ++ us) := by
  obtain ⟨F, h1, h2, h3⟩ := h
  obtain ⟨G, k1, k2, k3⟩ := k
  refine ⟨F ++ G, Ows.append h1 k1, ?_, ?_⟩
  · rw [List.nodup_append]
    refine ⟨h2, k2, fun a ha b hb e => ?_⟩
    have := h3 a ha
    have := k3 b hb
    unfold Sep at hs
    omega
  · intro b hm
    rcases List.mem_append.1 hm with hm | hm
    · have := h3 b hm; omega
    · have := k3 b hm; omega

set_option maxHeartbeats 4000000 in
theorem copyWord_i {xs ys : List Int} {s t : Option Addr} {c d : Nat} {w : World} (hr : Rd w (intsD xs) (.slice s xs.length c)) (hq : Rd w (intsD ys) (.slice t ys.length d)) (hx : xs.length ≤ 1000000000) (hy : ys.length ≤ 1000000000) :
    Calls Try.prog 61 #[.agg #[.slice s xs.length c, .slice t ys.length d]] w fun e w' => ∃ s' c' t' d', e = .returned (.agg #[.slice s' xs.length c', .slice t' ys.length d']) ∧
      Freshs w w' (wordD xs ys) [.slice s' xs.length c', .slice t' ys.length d'] ∧ Below w.heap.size w w' := by
  go_enter Try.func61, Try.ntmps61
  go_wp2_with fail
  have L := (Blk.new2 w 47 (.slice s xs.length c) (.slice t ys.length d)).alloc (.cells #[.slice none 0 0, .slice none 0 0] 47)
  have R := Blk.new2 (w.alloc (.cells #[.slice s xs.length c, .slice t ys.length d] 47)) 47 (.slice none 0 0) (.slice none 0 0)
  simp at R
  have hB0 : Below w.heap.size w ((w.alloc (.cells #[.slice s xs.length c, .slice t ys.length d] 47)).alloc (.cells #[.slice none 0 0, .slice none 0 0] 47)) := by (repeat' (first | exact Below.refl _ _ | assumption | (refine Below.alloc ?_ (by first | omega | (simp; done) | (simp; omega)) _) | (refine Below.drew ?_) | (refine Below.setCell ?_ (by first | omega | (simp; done) | (simp; omega)) _)))
  generalize ((w.alloc (.cells #[.slice s xs.length c, .slice t ys.length d] 47)).alloc (.cells #[.slice none 0 0, .slice none 0 0] 47)) = w0 at L R hB0 ⊢
  refine region_rg 7 [] [0, 1, 2, 3, 4, 5, 6] (fun i iv vs wx => match i with
    | 0 => vs 0 = .pointer (some ⟨w.heap.size, 0, none⟩)
    | 1 => vs 1 = .slice s xs.length c
    | 2 => ∃ sa ca, vs 2 = .slice sa xs.length ca ∧ FreshIn (iv 2) wx [intsD xs] [.slice sa xs.length ca]
    | 3 => vs 3 = .pointer (some ⟨w.heap.size, 1, none⟩)
    | 4 => vs 4 = .slice t ys.length d
    | 5 => ∃ sb cb, vs 5 = .slice sb ys.length cb ∧ FreshIn (iv 5) wx [intsD ys] [.slice sb ys.length cb]
    | 6 => vs 6 = .agg #[vs 2, vs 5]
    | _ => True) (fun vs wx => ∃ s' c' t' d', Blk wx (w.heap.size + 1) 47 [.slice s' xs.length c', .slice t' ys.length d'] ∧ Freshs w wx (wordD xs ys) [.slice s' xs.length c', .slice t' ys.length d'] ∧ Below w.heap.size w wx)
    (by kernel_rfl) (by kernel_rfl) (by kernel_rfl) (by kernel_rfl) ?hJ ?hX ?hF ?hstep ?hstore ?hQ (by kernel_rfl)
  case hX =>
    intro i o t k hi ho hop iv vs w hj
    simp at hi
  case hF =>
    intro vs vs' wx h hf
    exact hf
  case hJ =>
    intro i hi iv iv' vs vs' wx wx' ha hv hb hj
    simp only [List.mem_cons, List.not_mem_nil, or_false] at hi
    rcases hi with rfl | rfl | rfl | rfl | rfl | rfl | rfl
    · have e0 := hv.out 0 (mem_of (by kernel_rfl))
      have hj' : vs 0 = .pointer (some ⟨w.heap.size, 0, none⟩) := hj
      show vs' 0 = .pointer (some ⟨w.heap.size, 0, none⟩)
      rw [← e0]
      exact hj'
    · have e1 := hv.out 1 (mem_of (by kernel_rfl))
      have hj' : vs 1 = .slice s xs.length c := hj
      show vs' 1 = .slice s xs.length c
      rw [← e1]
      exact hj'
    · have e2 := hv.out 2 (mem_of (by kernel_rfl))
      have g2 := ha.out 2 (mem_of (by kernel_rfl))
      obtain ⟨sa, ca, q1, q2⟩ := hj
      exact ⟨sa, ca, e2 ▸ q1, g2 ▸ q2.below hb⟩
    · have e3 := hv.out 3 (mem_of (by kernel_rfl))
      have hj' : vs 3 = .pointer (some ⟨w.heap.size, 1, none⟩) := hj
      show vs' 3 = .pointer (some ⟨w.heap.size, 1, none⟩)
      rw [← e3]
      exact hj'
    · have e4 := hv.out 4 (mem_of (by kernel_rfl))
      have hj' : vs 4 = .slice t ys.length d := hj
      show vs' 4 = .slice t ys.length d
      rw [← e4]
      exact hj'
    · have e5 := hv.out 5 (mem_of (by kernel_rfl))
      have g5 := ha.out 5 (mem_of (by kernel_rfl))
      obtain ⟨sb, cb, q1, q2⟩ := hj
      exact ⟨sb, cb, e5 ▸ q1, g5 ▸ q2.below hb⟩
    · have e6 := hv.out 6 (mem_of (by kernel_rfl))
      have e2 := hv.out 2 (mem_of (by kernel_rfl))
      have e5 := hv.out 5 (mem_of (by kernel_rfl))
      have hj' : vs 6 = .agg #[vs 2, vs 5] := hj
      show vs' 6 = .agg #[vs' 2, vs' 5]
      rw [← e2, ← e5, ← e6]
      exact hj'
  case hstep =>
    intro i hi o ho iv vs w1 hB hd hbd hsep K hK
    simp only [List.mem_cons, List.not_mem_nil, or_false] at hi
    have hr1 := (hr.below hB0).below hB
    have hq1 := (hq.below hB0).below hB
    have L1 := L.below hB
    have l0 := L1.c0
    have l1 := L1.c1
    rcases hi with rfl | rfl | rfl | rfl | rfl | rfl | rfl
    all_goals
      simp at ho
      subst ho
      simp only [putFrom, Act.put, List.setIfInBounds_toArray, List.set_cons_succ, List.set_cons_zero]
    · go_wp2_with fail
      exact Onward.mk (hK (.pointer (some ⟨w.heap.size, 0, none⟩)) _ _ (by simp only [putFrom, Act.put, List.setIfInBounds_toArray, List.set_cons_succ, List.set_cons_zero]) (Below.refl _ _) (fun iv' _ _ => rfl))
    · have h0 : vs 0 = .pointer (some ⟨w.heap.size, 0, none⟩) := hd.out 0 (mem_of (by kernel_rfl)) (by decide)
      go_wp2_with fail
      exact Onward.mk (hK (.slice s xs.length c) _ _ (by simp only [putFrom, Act.put, List.setIfInBounds_toArray, List.set_cons_succ, List.set_cons_zero, h0]) (Below.refl _ _) (fun iv' _ _ => rfl))
    · have h1 : vs 1 = .slice s xs.length c := hd.out 1 (mem_of (by kernel_rfl)) (by decide)
      go_wp2_with fail
      refine (clone_ints hr1 hx).mono ?_
      rintro e w2 ⟨sa, ca, rfl, hf, hb⟩
      go_wp2_with fail
      exact Onward.mk (hK (.slice sa xs.length ca) _ _ (by simp only [putFrom, Act.put, List.setIfInBounds_toArray, List.set_cons_succ, List.set_cons_zero, h1]) hb (fun iv' _ hi => ⟨sa, ca, rfl, by rw [hi]; exact Freshs.stretch (Freshs.one hf)⟩))
    · go_wp2_with fail
      exact Onward.mk (hK (.pointer (some ⟨w.heap.size, 1, none⟩)) _ _ (by simp only [putFrom, Act.put, List.setIfInBounds_toArray, List.set_cons_succ, List.set_cons_zero]) (Below.refl _ _) (fun iv' _ _ => rfl))
    · have h3 : vs 3 = .pointer (some ⟨w.heap.size, 1, none⟩) := hd.out 3 (mem_of (by kernel_rfl)) (by decide)
      go_wp2_with fail
      exact Onward.mk (hK (.slice t ys.length d) _ _ (by simp only [putFrom, Act.put, List.setIfInBounds_toArray, List.set_cons_succ, List.set_cons_zero, h3]) (Below.refl _ _) (fun iv' _ _ => rfl))
    · have h4 : vs 4 = .slice t ys.length d := hd.out 4 (mem_of (by kernel_rfl)) (by decide)
      go_wp2_with fail
      refine (clone_ints hq1 hy).mono ?_
      rintro e w2 ⟨sb, cb, rfl, hf, hb⟩
      go_wp2_with fail
      exact Onward.mk (hK (.slice sb ys.length cb) _ _ (by simp only [putFrom, Act.put, List.setIfInBounds_toArray, List.set_cons_succ, List.set_cons_zero, h4]) hb (fun iv' _ hi => ⟨sb, cb, rfl, by rw [hi]; exact Freshs.stretch (Freshs.one hf)⟩))
    · obtain ⟨sa, ca, h2, f2⟩ := hd.out 2 (mem_of (by kernel_rfl)) (by decide)
      obtain ⟨sb, cb, h5, f5⟩ := hd.out 5 (mem_of (by kernel_rfl)) (by decide)
      go_wp2_with fail
      exact Onward.mk (hK (.agg #[.slice sa xs.length ca, .slice sb ys.length cb]) _ _ (by simp only [putFrom, Act.put, List.setIfInBounds_toArray, List.set_cons_succ, List.set_cons_zero, h2, h5]) (Below.refl _ _) (fun iv' _ _ => by
        show (.agg #[.slice sa xs.length ca, .slice sb ys.length cb] : Value) = .agg #[vs 2, vs 5]
        simp only [h2, h5]))
  case hstore =>
    intro o ho iv vs w1 hB hd hsep K hK
    simp at ho
    subst ho
    simp only [putFrom, Act.put, List.setIfInBounds_toArray, List.set_cons_succ, List.set_cons_zero]
    have h0 : vs 0 = .pointer (some ⟨w.heap.size, 0, none⟩) := (hd.out 0 (mem_of (by kernel_rfl))).1
    have h1 : vs 1 = .slice s xs.length c := (hd.out 1 (mem_of (by kernel_rfl))).1
    obtain ⟨⟨sa, ca, h2, f2⟩, b2, -, u2⟩ := hd.out 2 (mem_of (by kernel_rfl))
    have h3 : vs 3 = .pointer (some ⟨w.heap.size, 1, none⟩) := (hd.out 3 (mem_of (by kernel_rfl))).1
    have h4 : vs 4 = .slice t ys.length d := (hd.out 4 (mem_of (by kernel_rfl))).1
    obtain ⟨⟨sb, cb, h5, f5⟩, b5, -, u5⟩ := hd.out 5 (mem_of (by kernel_rfl))
    have h6 : vs 6 = .agg #[vs 2, vs 5] := (hd.out 6 (mem_of (by kernel_rfl))).1
    rw [h2, h5] at h6
    have hpair := f2.pair f5 (hsep.out 2 (mem_of (by kernel_rfl)) 5 (mem_of (by kernel_rfl)) (by decide)) b2 b5
    have R1 := R.below hB
    have r0 := R1.c0
    have r1 := R1.c1
    have z0 := R1.frozen 0
    have z1 := R1.frozen 1
    have hRl := R.lt
    have hz1 := hB.size
    have hz0 := hB0.size
    clear h0 h1 h2 h3 h4 h5 f2 f5 b2 b5 u2 u5
    go_wp2_with fail
    refine Onward.mk (hK _ _ (by simp only [putFrom, Act.put, List.setIfInBounds_toArray, List.set_cons_succ, List.set_cons_zero, h6]) ⟨sa, ca, sb, cb, (R1.set 0 _).set 1 _, ?_, ?_⟩)
    · refine (hpair.keep fun b h1 h2 => ?_).from hz0
      rw [Below.heap_setCell _ _ _ _ (by show b ≠ w.heap.size + 1; omega), Below.heap_setCell _ _ _ _ (by show b ≠ w.heap.size + 1; omega)]
    · exact Below.setCell (Below.setCell (Below.on hB0 hB hz0) (by simp) _) (by simp) _
  case hQ =>
    rintro vs wx - ⟨s', c', t', d', hblk, hf, hBx⟩
    simp only [putFrom, Act.put, List.setIfInBounds_toArray, List.set_cons_succ, List.set_cons_zero]
    have c0 := hblk.c0
    have c1 := hblk.c1
    go_wp2_with fail
    exact bodyPost_ret (v := .agg #[.slice s' xs.length c', .slice t' ys.length d']) (by simp [results, Try.results61, go_sem, c0, c1]) rfl ⟨s', c', t', d', rfl, hf, hBx⟩

theorem fresh_nil2 (w w' : World) : Freshs w w' (wordD [] []) [.slice none 0 0, .slice none 0 0] := by
  have h : Ow w' (intsD []) (.slice none 0 0) [] := by
    simp only [intsD, Ow]
    exact ⟨none, 0, rfl, by simp, by simp [maxLen], by simp, by simp, Or.inl (by simp)⟩
  exact ⟨_, Ows.mk2 h h, by simp, by simp⟩

/-- A word backwards. -/
def revX (t a : Int) (xs ys : List Int) : List Int := if wordB t a xs ys = true then xs.reverse else []
def revY (t a : Int) (xs ys : List Int) : List Int := if wordB t a xs ys = true then ys.reverse else []
theorem revX_len (t a : Int) (xs ys : List Int) : (revX t a xs ys).length ≤ xs.length := by unfold revX; split <;> simp
theorem revY_len (t a : Int) (xs ys : List Int) : (revY t a xs ys).length ≤ ys.length := by unfold revY; split <;> simp
def revC (t a : Int) (xs ys : List Int) : Int := if wordB t a xs ys = true then 0 else 1

set_option maxHeartbeats 4000000 in
theorem specReverseWord_i {t a : Int} {xs ys : List Int} {s u : Option Addr} {c d : Nat} {w : World} (hr : Rd w (intsD xs) (.slice s xs.length c)) (hq : Rd w (intsD ys) (.slice u ys.length d)) (hx : xs.length ≤ 100000000) (hy : ys.length ≤ 100000000) :
    Calls Try.prog 35 #[.agg #[.int .i64 t, .int .i64 a], .agg #[.slice s xs.length c, .slice u ys.length d]] w fun e w' => ∃ s' c' u' d', e = .returned (.tuple #[.agg #[.slice s' (revX t a xs ys).length c', .slice u' (revY t a xs ys).length d'], .int .i64 (revC t a xs ys)]) ∧
      Freshs w w' (wordD (revX t a xs ys) (revY t a xs ys)) [.slice s' (revX t a xs ys).length c', .slice u' (revY t a xs ys).length d'] ∧ Below w.heap.size w w' := by
  go_enter Try.func35, Try.ntmps35
  go_wp2_with fail
  have L := ((Blk.new2 w 26 (.int .i64 t) (.int .i64 a)).alloc (.cells #[.slice s xs.length c, .slice u ys.length d] 47)).alloc (.cells #[.slice none 0 0, .slice none 0 0] 47)
  have M := (Blk.new2 (w.alloc (.cells #[.int .i64 t, .int .i64 a] 26)) 47 (.slice s xs.length c) (.slice u ys.length d)).alloc (.cells #[.slice none 0 0, .slice none 0 0] 47)
  have R := Blk.new2 ((w.alloc (.cells #[.int .i64 t, .int .i64 a] 26)).alloc (.cells #[.slice s xs.length c, .slice u ys.length d] 47)) 47 (.slice none 0 0) (.slice none 0 0)
  simp at M R
  have hB0 : Below w.heap.size w (((w.alloc (.cells #[.int .i64 t, .int .i64 a] 26)).alloc (.cells #[.slice s xs.length c, .slice u ys.length d] 47)).alloc (.cells #[.slice none 0 0, .slice none 0 0] 47)) := by (repeat' (first | exact Below.refl _ _ | assumption | (refine Below.alloc ?_ (by first | omega | (simp; done) | (simp; omega)) _) | (refine Below.drew ?_) | (refine Below.setCell ?_ (by first | omega | (simp; done) | (simp; omega)) _)))
  generalize (((w.alloc (.cells #[.int .i64 t, .int .i64 a] 26)).alloc (.cells #[.slice s xs.length c, .slice u ys.length d] 47)).alloc (.cells #[.slice none 0 0, .slice none 0 0] 47)) = w0 at L M R hB0 ⊢
  refine (l01Word_i (xs := xs) (ys := ys) ⟨s, c, u, d, M.c0, M.c1, hr.below hB0, hq.below hB0⟩).mono ?_
  rintro e w1 ⟨rfl, hb⟩
  replace hB0 := Below.on hB0 hb hB0.size
  replace L := L.below hb
  replace M := M.below hb
  replace R := R.below hb
  clear hb
  cases hw : wordB t a xs ys
  · have r0 := R.c0
    have r1 := R.c1
    have z0 := R.frozen 0
    have z1 := R.frozen 1
    have hc : revC t a xs ys = 1 := by simp [revC, hw]
    have hX : revX t a xs ys = [] := by simp [revX, hw]
    have hY : revY t a xs ys = [] := by simp [revY, hw]
    clear hw
    go_wp2_with fail
    have R' := (R.set 0 (.slice none 0 0)).set 1 (.slice none 0 0)
    have c0 := R'.c0
    have c1 := R'.c1
    refine bodyPost_ret (v := .tuple #[.agg #[.slice none 0 0, .slice none 0 0], .int .i64 1]) (by simp [results, Try.results35, go_sem, c0, c1]) rfl ?_
    rw [hX, hY, hc]
    exact ⟨none, 0, none, 0, rfl, fresh_nil2 _ _, Below.setCell (Below.setCell hB0 (by simp; omega) _) (by simp; omega) _⟩
  · have r0 := R.c0
    have r1 := R.c1
    have z0 := R.frozen 0
    have z1 := R.frozen 1
    have hc : revC t a xs ys = 0 := by simp [revC, hw]
    have hX : revX t a xs ys = xs.reverse := by simp [revX, hw]
    have hY : revY t a xs ys = ys.reverse := by simp [revY, hw]
    clear hw
    go_wp2_with fail
    refine region_rg 7 [8] [0, 1, 2, 3, 4, 5, 6] (fun i iv vs wx => match i with
      | 0 => vs 0 = .pointer (some ⟨w.heap.size + 1, 0, none⟩)
      | 1 => vs 1 = .slice s xs.length c
      | 2 => ∃ sa ca, vs 2 = .slice sa xs.length ca ∧ FreshIn (iv 2) wx [intsD xs.reverse] [.slice sa xs.length ca]
      | 3 => vs 3 = .pointer (some ⟨w.heap.size + 1, 1, none⟩)
      | 4 => vs 4 = .slice u ys.length d
      | 5 => ∃ sb cb, vs 5 = .slice sb ys.length cb ∧ FreshIn (iv 5) wx [intsD ys.reverse] [.slice sb ys.length cb]
      | 6 => vs 6 = .agg #[vs 2, vs 5]
      | _ => True) (fun vs wx => ∃ s' c' t' d', Blk wx (w.heap.size + 2) 47 [.slice s' xs.length c', .slice t' ys.length d'] ∧ Freshs w wx (wordD xs.reverse ys.reverse) [.slice s' xs.length c', .slice t' ys.length d'] ∧ Below w.heap.size w wx)
      (by kernel_rfl) (by kernel_rfl) (by kernel_rfl) (by kernel_rfl) ?hJ ?hX ?hF ?hstep ?hstore ?hQ (by kernel_rfl)
    case hX =>
      intro i o t k hi ho hop iv vs w hj
      simp only [List.mem_cons, List.not_mem_nil, or_false] at hi
      rcases hi with rfl
      · simp at ho
        subst ho
        simp at hop
    case hF =>
      intro vs vs' wx h hf
      exact hf
    case hJ =>
      intro i hi iv iv' vs vs' wx wx' ha hv hb hj
      simp only [List.mem_cons, List.not_mem_nil, or_false] at hi
      rcases hi with rfl | rfl | rfl | rfl | rfl | rfl | rfl
      · have e0 := hv.out 0 (mem_of (by kernel_rfl))
        have hj' : vs 0 = .pointer (some ⟨w.heap.size + 1, 0, none⟩) := hj
        show vs' 0 = .pointer (some ⟨w.heap.size + 1, 0, none⟩)
        rw [← e0]
        exact hj'
      · have e1 := hv.out 1 (mem_of (by kernel_rfl))
        have hj' : vs 1 = .slice s xs.length c := hj
        show vs' 1 = .slice s xs.length c
        rw [← e1]
        exact hj'
      · have e2 := hv.out 2 (mem_of (by kernel_rfl))
        have g2 := ha.out 2 (mem_of (by kernel_rfl))
        obtain ⟨sa, ca, q1, q2⟩ := hj
        exact ⟨sa, ca, e2 ▸ q1, g2 ▸ q2.below hb⟩
      · have e3 := hv.out 3 (mem_of (by kernel_rfl))
        have hj' : vs 3 = .pointer (some ⟨w.heap.size + 1, 1, none⟩) := hj
        show vs' 3 = .pointer (some ⟨w.heap.size + 1, 1, none⟩)
        rw [← e3]
        exact hj'
      · have e4 := hv.out 4 (mem_of (by kernel_rfl))
        have hj' : vs 4 = .slice u ys.length d := hj
        show vs' 4 = .slice u ys.length d
        rw [← e4]
        exact hj'
      · have e5 := hv.out 5 (mem_of (by kernel_rfl))
        have g5 := ha.out 5 (mem_of (by kernel_rfl))
        obtain ⟨sb, cb, q1, q2⟩ := hj
        exact ⟨sb, cb, e5 ▸ q1, g5 ▸ q2.below hb⟩
      · have e6 := hv.out 6 (mem_of (by kernel_rfl))
        have e2 := hv.out 2 (mem_of (by kernel_rfl))
        have e5 := hv.out 5 (mem_of (by kernel_rfl))
        have hj' : vs 6 = .agg #[vs 2, vs 5] := hj
        show vs' 6 = .agg #[vs' 2, vs' 5]
        rw [← e2, ← e5, ← e6]
        exact hj'
    case hstep =>
      intro i hi o ho iv vs w1 hB hd hbd hsep K hK
      simp only [List.mem_cons, List.not_mem_nil, or_false] at hi
      have hr1 := (hr.below hB0).below hB
      have hq1 := (hq.below hB0).below hB
      have L1 := M.below hB
      have l0 := L1.c0
      have l1 := L1.c1
      rcases hi with rfl | rfl | rfl | rfl | rfl | rfl | rfl
      all_goals
        simp at ho
        subst ho
        simp only [putFrom, Act.put, List.setIfInBounds_toArray, List.set_cons_succ, List.set_cons_zero]
      · go_wp2_with fail
        exact Onward.mk (hK (.pointer (some ⟨w.heap.size + 1, 0, none⟩)) _ _ (by simp only [putFrom, Act.put, List.setIfInBounds_toArray, List.set_cons_succ, List.set_cons_zero]) (Below.refl _ _) (fun iv' _ _ => rfl))
      · have h0 : vs 0 = .pointer (some ⟨w.heap.size + 1, 0, none⟩) := hd.out 0 (mem_of (by kernel_rfl)) (by decide)
        go_wp2_with fail
        exact Onward.mk (hK (.slice s xs.length c) _ _ (by simp only [putFrom, Act.put, List.setIfInBounds_toArray, List.set_cons_succ, List.set_cons_zero, h0]) (Below.refl _ _) (fun iv' _ _ => rfl))
      · have h1 : vs 1 = .slice s xs.length c := hd.out 1 (mem_of (by kernel_rfl)) (by decide)
        go_wp2_with fail
        refine (l01Back_i hr1 (by omega)).mono ?_
        rintro e w2 ⟨sa, ca, rfl, hf, hb⟩
        go_wp2_with fail
        exact Onward.mk (hK (.slice sa xs.length ca) _ _ (by simp only [putFrom, Act.put, List.setIfInBounds_toArray, List.set_cons_succ, List.set_cons_zero, h1]) hb (fun iv' _ hi => ⟨sa, ca, rfl, by rw [hi]; exact Freshs.stretch (Freshs.one hf)⟩))
      · go_wp2_with fail
        exact Onward.mk (hK (.pointer (some ⟨w.heap.size + 1, 1, none⟩)) _ _ (by simp only [putFrom, Act.put, List.setIfInBounds_toArray, List.set_cons_succ, List.set_cons_zero]) (Below.refl _ _) (fun iv' _ _ => rfl))
      · have h3 : vs 3 = .pointer (some ⟨w.heap.size + 1, 1, none⟩) := hd.out 3 (mem_of (by kernel_rfl)) (by decide)
        go_wp2_with fail
        exact Onward.mk (hK (.slice u ys.length d) _ _ (by simp only [putFrom, Act.put, List.setIfInBounds_toArray, List.set_cons_succ, List.set_cons_zero, h3]) (Below.refl _ _) (fun iv' _ _ => rfl))
      · have h4 : vs 4 = .slice u ys.length d := hd.out 4 (mem_of (by kernel_rfl)) (by decide)
        go_wp2_with fail
        refine (l01Back_i hq1 (by omega)).mono ?_
        rintro e w2 ⟨sb, cb, rfl, hf, hb⟩
        go_wp2_with fail
        exact Onward.mk (hK (.slice sb ys.length cb) _ _ (by simp only [putFrom, Act.put, List.setIfInBounds_toArray, List.set_cons_succ, List.set_cons_zero, h4]) hb (fun iv' _ hi => ⟨sb, cb, rfl, by rw [hi]; exact Freshs.stretch (Freshs.one hf)⟩))
      · obtain ⟨sa, ca, h2, f2⟩ := hd.out 2 (mem_of (by kernel_rfl)) (by decide)
        obtain ⟨sb, cb, h5, f5⟩ := hd.out 5 (mem_of (by kernel_rfl)) (by decide)
        go_wp2_with fail
        exact Onward.mk (hK (.agg #[.slice sa xs.length ca, .slice sb ys.length cb]) _ _ (by simp only [putFrom, Act.put, List.setIfInBounds_toArray, List.set_cons_succ, List.set_cons_zero, h2, h5]) (Below.refl _ _) (fun iv' _ _ => by
          show (.agg #[.slice sa xs.length ca, .slice sb ys.length cb] : Value) = .agg #[vs 2, vs 5]
          simp only [h2, h5]))
    case hstore =>
      intro o ho iv vs w1 hB hd hsep K hK
      simp at ho
      subst ho
      simp only [putFrom, Act.put, List.setIfInBounds_toArray, List.set_cons_succ, List.set_cons_zero]
      have h0 : vs 0 = .pointer (some ⟨w.heap.size + 1, 0, none⟩) := (hd.out 0 (mem_of (by kernel_rfl))).1
      have h1 : vs 1 = .slice s xs.length c := (hd.out 1 (mem_of (by kernel_rfl))).1
      obtain ⟨⟨sa, ca, h2, f2⟩, b2, -, u2⟩ := hd.out 2 (mem_of (by kernel_rfl))
      have h3 : vs 3 = .pointer (some ⟨w.heap.size + 1, 1, none⟩) := (hd.out 3 (mem_of (by kernel_rfl))).1
      have h4 : vs 4 = .slice u ys.length d := (hd.out 4 (mem_of (by kernel_rfl))).1
      obtain ⟨⟨sb, cb, h5, f5⟩, b5, -, u5⟩ := hd.out 5 (mem_of (by kernel_rfl))
      have h6 : vs 6 = .agg #[vs 2, vs 5] := (hd.out 6 (mem_of (by kernel_rfl))).1
      rw [h2, h5] at h6
      have hpair := f2.pair f5 (hsep.out 2 (mem_of (by kernel_rfl)) 5 (mem_of (by kernel_rfl)) (by decide)) b2 b5
      have R1 := R.below hB
      have r0 := R1.c0
      have r1 := R1.c1
      have z0 := R1.frozen 0
      have z1 := R1.frozen 1
      have hRl := R.lt
      have hz1 := hB.size
      have hz0 := hB0.size
      clear h0 h1 h2 h3 h4 h5 f2 f5 b2 b5 u2 u5
      go_wp2_with fail
      refine Onward.mk (hK _ _ (by simp only [putFrom, Act.put, List.setIfInBounds_toArray, List.set_cons_succ, List.set_cons_zero, h6]) ⟨sa, ca, sb, cb, (R1.set 0 _).set 1 _, ?_, ?_⟩)
      · refine (hpair.keep fun b h1 h2 => ?_).from hz0
        rw [Below.heap_setCell _ _ _ _ (by show b ≠ w.heap.size + 2; omega), Below.heap_setCell _ _ _ _ (by show b ≠ w.heap.size + 2; omega)]
      · exact Below.setCell (Below.setCell (Below.on hB0 hB hz0) (by simp; omega) _) (by simp; omega) _
    case hQ =>
      rintro vs wx hE ⟨s', c', t', d', hblk, hf, hBx⟩
      have k8 : vs 8 = .int .i64 0 := hE 8 (mem_of (by kernel_rfl))
      simp only [putFrom, Act.put, List.setIfInBounds_toArray, List.set_cons_succ, List.set_cons_zero]
      have c0 := hblk.c0
      have c1 := hblk.c1
      go_wp2_with fail
      refine bodyPost_ret (v := .tuple #[.agg #[.slice s' xs.length c', .slice t' ys.length d'], .int .i64 0]) (by simp [results, Try.results35, go_sem, c0, c1, k8]) rfl ?_
      rw [hX, hY, hc, List.length_reverse, List.length_reverse]
      exact ⟨s', c', t', d', rfl, hf, hBx⟩

set_option maxHeartbeats 4000000 in
theorem implReverseWord_i {t a : Int} {xs ys : List Int} {s u : Option Addr} {c d : Nat} {w : World} (hr : Rd w (intsD xs) (.slice s xs.length c)) (hq : Rd w (intsD ys) (.slice u ys.length d)) (hx : xs.length ≤ 100000000) (hy : ys.length ≤ 100000000) :
    Calls Try.prog 36 #[.agg #[.int .i64 t, .int .i64 a], .agg #[.slice s xs.length c, .slice u ys.length d]] w fun e w' => ∃ s' c' u' d', e = .returned (.tuple #[.agg #[.slice s' (revX t a xs ys).length c', .slice u' (revY t a xs ys).length d'], .int .i64 (revC t a xs ys)]) ∧
      Freshs w w' (wordD (revX t a xs ys) (revY t a xs ys)) [.slice s' (revX t a xs ys).length c', .slice u' (revY t a xs ys).length d'] ∧ Below w.heap.size w w' := by
  go_enter Try.func36, Try.ntmps36
  go_wp2_with fail
  have L := ((Blk.new2 w 26 (.int .i64 t) (.int .i64 a)).alloc (.cells #[.slice s xs.length c, .slice u ys.length d] 47)).alloc (.cells #[.slice none 0 0, .slice none 0 0] 47)
  have M := (Blk.new2 (w.alloc (.cells #[.int .i64 t, .int .i64 a] 26)) 47 (.slice s xs.length c) (.slice u ys.length d)).alloc (.cells #[.slice none 0 0, .slice none 0 0] 47)
  have R := Blk.new2 ((w.alloc (.cells #[.int .i64 t, .int .i64 a] 26)).alloc (.cells #[.slice s xs.length c, .slice u ys.length d] 47)) 47 (.slice none 0 0) (.slice none 0 0)
  simp at M R
  have hB0 : Below w.heap.size w (((w.alloc (.cells #[.int .i64 t, .int .i64 a] 26)).alloc (.cells #[.slice s xs.length c, .slice u ys.length d] 47)).alloc (.cells #[.slice none 0 0, .slice none 0 0] 47)) := by (repeat' (first | exact Below.refl _ _ | assumption | (refine Below.alloc ?_ (by first | omega | (simp; done) | (simp; omega)) _) | (refine Below.drew ?_) | (refine Below.setCell ?_ (by first | omega | (simp; done) | (simp; omega)) _)))
  generalize (((w.alloc (.cells #[.int .i64 t, .int .i64 a] 26)).alloc (.cells #[.slice s xs.length c, .slice u ys.length d] 47)).alloc (.cells #[.slice none 0 0, .slice none 0 0] 47)) = w0 at L M R hB0 ⊢
  refine (implValidWord_i (hr.below hB0) (hq.below hB0)).mono ?_
  rintro e w1 ⟨rfl, hb⟩
  replace hB0 := Below.on hB0 hb hB0.size
  replace L := L.below hb
  replace M := M.below hb
  replace R := R.below hb
  clear hb
  have r0 := R.c0
  have r1 := R.c1
  have z0 := R.frozen 0
  have z1 := R.frozen 1
  cases hw : wordB t a xs ys
  · have hc : revC t a xs ys = 1 := by simp [revC, hw]
    have hX : revX t a xs ys = [] := by simp [revX, hw]
    have hY : revY t a xs ys = [] := by simp [revY, hw]
    clear hw
    go_wp2_with fail
    have R' := (R.set 0 (.slice none 0 0)).set 1 (.slice none 0 0)
    have c0 := R'.c0
    have c1 := R'.c1
    refine bodyPost_ret (v := .tuple #[.agg #[.slice none 0 0, .slice none 0 0], .int .i64 1]) (by simp [results, Try.results36, go_sem, c0, c1]) rfl ?_
    rw [hX, hY, hc]
    exact ⟨none, 0, none, 0, rfl, fresh_nil2 _ _, Below.setCell (Below.setCell hB0 (by simp; omega) _) (by simp; omega) _⟩
  · have hc : revC t a xs ys = 0 := by simp [revC, hw]
    have hX : revX t a xs ys = xs.reverse := by simp [revX, hw]
    have hY : revY t a xs ys = ys.reverse := by simp [revY, hw]
    clear hw r0 r1 z0 z1
    have hRl1 := R.lt
    have m0 := M.c0
    have m1 := M.c1
    go_wp2_with fail
    refine (copyWord_i (hr.below hB0) (hq.below hB0) (by omega) (by omega)).mono ?_
    rintro e w2 ⟨sa, ca, sb, cb, rfl, hf, hb⟩
    obtain ⟨F, hf, hnd, hF⟩ := hf
    obtain ⟨F1, F2, rfl, f1, f2⟩ := hf.two
    rw [List.nodup_append] at hnd
    obtain ⟨n1, n2, dis⟩ := hnd
    have hz01 := hB0.size
    have hz12 := hb.size
    replace hB0 := Below.on hB0 hb hB0.size
    replace R := R.below hb
    have hRl := R.lt
    clear m0 m1 M L
    go_wp2_with fail
    have X := Blk.new2 w2 47 (.slice sa xs.length ca) (.slice sb ys.length cb)
    have u1 : ∀ b ∈ F1, w1.heap.size ≤ b ∧ b < w2.heap.size := fun b hm => ⟨hF b (List.mem_append_left _ hm), f1.lt b hm⟩
    have u2 : ∀ b ∈ F2, w1.heap.size ≤ b ∧ b < w2.heap.size := fun b hm => ⟨hF b (List.mem_append_right _ hm), f2.lt b hm⟩
    replace R := R.alloc (.cells #[.slice sa xs.length ca, .slice sb ys.length cb] 47)
    replace f1 := f1.keep (w' := w2.alloc (.cells #[.slice sa xs.length ca, .slice sb ys.length cb] 47)) fun b hm => Below.heap_alloc w2 _ b (f1.lt b hm)
    replace f2 := f2.keep (w' := w2.alloc (.cells #[.slice sa xs.length ca, .slice sb ys.length cb] 47)) fun b hm => Below.heap_alloc w2 _ b (f2.lt b hm)
    replace hB0 := hB0.alloc hB0.size (.cells #[.slice sa xs.length ca, .slice sb ys.length cb] 47)
    generalize w2.alloc (.cells #[.slice sa xs.length ca, .slice sb ys.length cb] 47) = w3 at X R f1 f2 hB0 ⊢
    refine (reverse_ints f1 n1 (by omega)).mono ?_
    rintro e w4 ⟨rfl, g1, o1⟩
    replace X := X.keep (o1.block _ X.lt (fun hm => by have := (u1 _ hm).2; omega))
    replace R := R.keep (o1.block _ R.lt (fun hm => by have := (u1 _ hm).1; omega))
    replace f2 := f2.keep fun b hb => o1.block b (f2.lt b hb) (fun hm => dis b hm b hb rfl)
    replace hB0 := hB0.trans (o1.below hB0.size fun b hm => by have := (u1 b hm).1; omega)
    clear o1 f1
    have x1 := X.c1
    go_wp2_with fail
    refine (reverse_ints f2 n2 (by omega)).mono ?_
    rintro e w5 ⟨rfl, g2, o2⟩
    replace X := X.keep (o2.block _ X.lt (fun hm => by have := (u2 _ hm).2; omega))
    replace R := R.keep (o2.block _ R.lt (fun hm => by have := (u2 _ hm).1; omega))
    replace g1 := g1.keep fun b hb => o2.block b (g1.lt b hb) (fun hm => dis b hb b hm rfl)
    replace hB0 := hB0.trans (o2.below hB0.size fun b hm => by have := (u2 b hm).1; omega)
    clear o2 f2 x1
    have x0 := X.c0
    have x1 := X.c1
    have r0 := R.c0
    have r1 := R.c1
    have z0 := R.frozen 0
    have z1 := R.frozen 1
    go_wp2_with fail
    have R' := (R.set 0 (.slice sa xs.length ca)).set 1 (.slice sb ys.length cb)
    have c0 := R'.c0
    have c1 := R'.c1
    refine bodyPost_ret (v := .tuple #[.agg #[.slice sa xs.length ca, .slice sb ys.length cb], .int .i64 0]) (by simp [results, Try.results36, go_sem, c0, c1]) rfl ?_
    have hk : ∀ b ∈ F1 ++ F2, w1.heap.size ≤ b := hF
    have fin : Freshs w w5 (wordD xs.reverse ys.reverse) [.slice sa xs.length ca, .slice sb ys.length cb] := ⟨F1 ++ F2, Ows.mk2 g1 g2, List.nodup_append.2 ⟨n1, n2, dis⟩, fun b hm => by have := hF b hm; omega⟩
    rw [hX, hY, hc, List.length_reverse, List.length_reverse]
    refine ⟨sa, ca, sb, cb, rfl, ?_, Below.setCell (Below.setCell hB0 (by simp; omega) _) (by simp; omega) _⟩
    obtain ⟨F, a1, a2, a3⟩ := (show Freshs w1 w5 (wordD xs.reverse ys.reverse) [.slice sa xs.length ca, .slice sb ys.length cb] from ⟨F1 ++ F2, Ows.mk2 g1 g2, List.nodup_append.2 ⟨n1, n2, dis⟩, hF⟩)
    exact ⟨F, a1.keep fun b hb => by
      have := a3 b hb
      rw [Below.heap_setCell _ _ _ _ (by show b ≠ w.heap.size + 1 + 1; omega), Below.heap_setCell _ _ _ _ (by show b ≠ w.heap.size + 1 + 1; omega)], a2, fun b hb => by have := a3 b hb; omega⟩
end Go.Proofs.Ytdkoeakpgfiadaa
