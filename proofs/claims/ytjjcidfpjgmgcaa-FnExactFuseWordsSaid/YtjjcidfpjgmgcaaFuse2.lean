/-
  Words fused: spec.l01Fuse, FuseWords of both.
-/
import Derived.Test.YtjjcidfpjgmgcaaFuse
import Derived.Test.YtjjcidfpjgmgcaaAps
import Derived.Maps.AppendAt
namespace Go.Proofs.Ytjjcidfpjgmgcaa
open Go.ChangeShapes Go.WideShapes Go.ChangeAt Go.RowKit Go.Deep Go.Sort

/-- append of numbers, or of none, to a slice in blocks of S. -/
theorem wpList_append_ints_s {P : Program} (w : World) {ops : Array Oper} {rest : List Oper} {o : Oper} {a : Act} {Q : Exit → Act → World → Prop} (hgd : o.guard = none) (s x : Operand) (t : TypeId)
    (ho : o.op = .call { callee := .builtin .append, args := #[s, x], argTypes := #[t, t] })
    (e : TypeId) (ht : P.underlying t = some (.slice e)) (hinfo : (P.info? e).map (fun i => (i.zero, i.size, i.bytes)) = some (some (.int .i64 0), 1, 8))
    {S : Nat → Prop} (v : Value) {zs ys : List Int} (hs : a.eval s = v) (happ : AppS S w e 1 zs.length (zs.map D.int) v)
    {sa : Option Addr} {c : Nat} (hx : a.eval x = .slice sa ys.length c) (hr : Rd w (intsD ys) (.slice sa ys.length c)) (hlen : zs.length + ys.length ≤ 1000000000000)
    (h : ∀ a' cap w', AppS (fun b => S b ∨ (w.heap.size ≤ b ∧ b < w'.heap.size)) w' e 1 (zs.length + ys.length) ((zs ++ ys).map D.int) (.slice a' (zs.length + ys.length) cap) → Spares S w w' → wpList P ops Q rest (a.put o.dst (.slice a' (zs.length + ys.length) cap)) w') : wpList P ops Q (o :: rest) a w := by
  by_cases h0 : ys = []
  · subst h0
    simp only [List.length_nil, List.append_nil, Nat.add_zero] at *
    obtain ⟨xs, F, a1, a2, a3, a4, a5⟩ := happ
    obtain ⟨rfl, rfl⟩ := a2.ints_eq
    obtain ⟨i, hi, hz, hsize, hby⟩ := info_parts hinfo
    cases sa with
    | some ad =>
      refine wpList_append_own_at w hgd s x t ho 0 e i (.int .i64 0) 1 8 ht hi hz hsize hby rfl (by decide) v zs.length (zs.map (Value.int .i64)) hs a1 ad 0 c [] hx rfl (by simp) (by simp) (by unfold maxLen; omega) (by omega) (Nat.zero_le _) ?_
      intro v' w' k1 k2 _ k3
      simp only [Nat.add_zero, List.append_nil] at k1
      have happ' : AppS (fun b => S b ∨ (w.heap.size ≤ b ∧ b < w'.heap.size)) w' e 1 zs.length (zs.map D.int) v' := ⟨_, [], k1, by
        obtain ⟨G, hG, _⟩ := Freshs.ints (w := w) (w' := w') zs
        obtain ⟨_, rfl⟩ := hG.ints_eq
        exact hG, by simp, by simp, fun b hb => by
          have := (k1.lt b hb).2
          rcases k3 with k3 | k3
          · exact Or.inl (a5 b (by rw [← k3]; exact hb))
          · rw [k3] at hb
            simp only [Option.some.injEq] at hb
            exact Or.inr (by omega)⟩
      obtain ⟨a', cap, rfl, _⟩ := happ'.shape
      exact h a' cap w' happ' ⟨k2.os, k2.tape, k2.output, k2.size, fun b hb hn => k2.block b hb (fun e => hn (a5 b e.symm))⟩
    | none =>
      obtain ⟨_, _, _, _, hc, _⟩ := hr.sl_at
      obtain rfl : c = 0 := hc rfl
      have happ' : AppS (fun b => S b ∨ (w.heap.size ≤ b ∧ b < w.heap.size)) w e 1 zs.length (zs.map D.int) v := ⟨_, [], a1, a2, by simp, by simp, fun b hb => Or.inl (a5 b hb)⟩
      obtain ⟨a', cap, rfl, hcap, _⟩ := happ'.shape
      have hrun : (Builtin.append_ #[t, t] o.type #[.slice a' zs.length cap, .slice none 0 0]).run P w = .ok (.slice a' zs.length cap) w := by
        cases a' with
        | none =>
          rcases a1.2 with ⟨e, _⟩ | ⟨g, cap', cur, e, _⟩
          · simp only [Value.slice.injEq] at e
            obtain ⟨_, hz', rfl⟩ := e
            rw [hz']
            simp [Builtin.append_, run_underlying ht, sizeOf, typeInfo, hi, Builtin.lenOf, Builtin.firstCells]
          · simp at e
        | some p =>
          simp [Builtin.append_, run_underlying ht, sizeOf, typeInfo, hi, Builtin.lenOf, Builtin.firstCells, hcap, storeCells]
      refine wpList_plain hgd fun K hK => ?_
      unfold Oper.wp execOp
      simp only [ho, resolve, invoke, builtin, Sem.run_bind, Sem.run_pure, Result.andThen_ok, List.map_toArray, List.map_cons, List.map_nil, hs, hx, hrun]
      exact hK _ _ (h a' cap w happ' (Spares.refl _))
  · have hpos : 0 < ys.length := List.length_pos_iff.2 h0
    obtain ⟨b, o', rfl⟩ := int_some hr hpos
    refine wpList_append_s w hgd s x t ho e (.int .i64 0) 1 8 ht hinfo rfl (by decide) (T := fun _ => False) v hs happ ⟨b, o', none⟩ ys.length c (ys.map (Value.int .i64)) hx (ints_news hr) (es := ys.map D.int) ?_ (fun _ _ _ h => h) (by simp) (by simp [Value.oneCell']) hpos (by omega) (by unfold maxLen; omega) ?_
    · obtain ⟨G, hG, _⟩ := Freshs.ints (w := w) (w' := w) ys
      obtain ⟨_, rfl⟩ := hG.ints_eq
      exact ⟨[], hG, by simp, by simp⟩
    · intro g cap w' k1 k2
      exact h (some ⟨g, 0, none⟩) cap w' (by
        rw [List.map_append]
        exact k1.more fun b _ hb => by rcases hb with hb | hb | hb; exact Or.inl hb; exact hb.elim; exact Or.inr hb) k2

theorem App.freshs {W w : World} {t : Nat} {zs : List Int} {v : Value} (h : App W w t 1 zs.length (zs.map D.int) v) : Freshs W w [intsD zs] [v] := Freshs.one h.fresh
theorem AppS.own {S : Nat → Prop} {w : World} {t : Nat} {zs : List Int} {v : Value} (h : AppS S w t 1 zs.length (zs.map D.int) v) : OwS S w [intsD zs] [v] := by
  obtain ⟨xs, F, h1, h2, h3, h4, h5⟩ := h
  obtain ⟨rfl, rfl⟩ := h2.ints_eq
  rcases h1.2 with ⟨rfl, h0⟩ | ⟨g, cap, cur, rfl, _, hb, q5, q6, q7, q8⟩
  · refine ⟨[], ?_, by simp, by simp⟩
    have hz : zs = [] := List.eq_nil_of_length_eq_zero h0
    subst hz
    simp only [Ows, intsD]
    exact ⟨_, _, [], [], rfl, rfl, by simp only [Ow]; exact ⟨none, 0, rfl, by simp, by simp [maxLen], by simp, by simp, Or.inl (by simp)⟩, rfl, rfl⟩
  · by_cases h0 : zs = []
    · subst h0
      refine ⟨[], ?_, by simp, by simp⟩
      simp only [Ows, intsD]
      exact ⟨_, _, [], [], rfl, rfl, by simp only [Ow]; exact ⟨_, cap, rfl, by simp, q6, by simp, by simp, Or.inl (by simp)⟩, rfl, rfl⟩
    · have hblk : Blk w g t cur.toList := by simpa [Blk] using hb
      refine ⟨[g], ?_, by simp, fun b hb => by simp at hb; subst hb; exact h5 b rfl⟩
      simp only [Ows, intsD]
      refine ⟨_, _, [g], [], rfl, rfl, ?_, rfl, rfl⟩
      simp only [Ow]
      exact ⟨_, cap, rfl, q5, q6, by simp, by simp, Or.inr ⟨g, 0, zs.map (Value.int .i64), [], rfl, rfl, hblk.free, hblk.row (by rw [List.length_map]; simpa using q8), h2⟩⟩
theorem OwS.pair {S T : Nat → Prop} {W w : World} {ds es : List D} {vs us : List Value} (h : OwS S w ds vs) (k : OwS T w es us) (hST : ∀ b, b < w.heap.size → S b → T b → False) (hS : ∀ b, S b → W.heap.size ≤ b) (hT : ∀ b, T b → W.heap.size ≤ b) : Freshs W w (ds ++ es) (vs ++ us) := by
  obtain ⟨F, h1, h2, h3⟩ := h
  obtain ⟨G, k1, k2, k3⟩ := k
  refine ⟨F ++ G, Ows.append h1 k1, ?_, ?_⟩
  · rw [List.nodup_append]
    exact ⟨h2, k2, fun a ha b hb e => by subst e; exact hST a (h1.lt a ha) (h3 a ha) (k3 a hb)⟩
  · intro b hm
    rcases List.mem_append.1 hm with hm | hm
    · exact hS b (h3 b hm)
    · exact hT b (k3 b hm)

set_option maxHeartbeats 16000000 in
/-- The words fit: they are fused. -/
theorem l01Fuse_yes {xs ys us vv : List Int} {vb vo wb wo : Nat} {w : World} (hv : WdAt w vb vo xs ys) (hw : WdAt w wb wo us vv) (hx : xs.length = ys.length + 1) (hu : us.length = vv.length + 1) (hy : ys.length ≤ 10) (hvv : vv.length ≤ 10)
    (heq : xs[ys.length]? = us[0]?) :
    Calls Try.prog 58 #[.pointer (some ⟨vb, vo, none⟩), .pointer (some ⟨wb, wo, none⟩)] w fun e w' => ∃ s' c' t' d', e = .returned (.tuple #[.agg #[.slice s' (xs ++ us.drop 1).length c', .slice t' (ys ++ vv).length d'], .bool true]) ∧
      Freshs w w' (wordD (xs ++ us.drop 1) (ys ++ vv)) [.slice s' (xs ++ us.drop 1).length c', .slice t' (ys ++ vv).length d'] ∧ Below w.heap.size w w' := by
  obtain ⟨s, c, t, d, v0, v1, hr, hq⟩ := hv
  obtain ⟨p, c2, q, d2, w0, w1, hr2, hq2⟩ := hw
  obtain ⟨x, hxx⟩ : ∃ x, xs[ys.length]? = some x := ⟨_, List.getElem?_eq_getElem (by omega)⟩
  obtain ⟨u1, rfl⟩ : ∃ u1, us = x :: u1 := by
    cases us with
    | nil => simp at hu
    | cons a r =>
      rw [hxx] at heq
      simp at heq
      exact ⟨r, by rw [heq]⟩
  clear heq
  obtain ⟨xb, xo, rfl⟩ := int_some hr (by omega)
  obtain ⟨ub, uo, rfl⟩ := int_some hr2 (by simp)
  obtain ⟨-, x1, x2, -⟩ := hr.sl_at
  obtain ⟨-, u3, u2, -⟩ := hr2.sl_at
  unfold maxLen at x2 u2
  have hD := rd_drop1 hr2 (by simp)
  have hU := (int_in hr2 (i := 0) rfl).2
  simp only [List.length_cons, List.drop_succ_cons, List.drop_zero, Nat.add_zero] at *
  obtain ⟨c3, rfl⟩ : ∃ c3, c2 = c3 + 1 := ⟨c2 - 1, by omega⟩
  simp only [Nat.add_sub_cancel] at hD
  have hvl := World.block_lt_of_cell? w _ v0
  have hwl := World.block_lt_of_cell? w _ w0
  have hul := World.block_lt_of_cell? w _ hU
  rw [show ys.length = xs.length - 1 by omega] at hxx
  have hG := (int_in hr hxx).2
  have hxl := World.block_lt_of_cell? w _ hG
  have V0 := Lib.hid v0
  have V1 := Lib.hid v1
  have W0 := Lib.hid w0
  have W1 := Lib.hid w1
  have HG := Lib.hid hG
  have HU := Lib.hid hU
  have hx1 : 1 ≤ xs.length := by omega
  have hx2 : xs.length ≤ 11 := by omega
  have hu2 : u1.length ≤ 10 := by omega
  have hx3 : (0 : Int) ≤ (xs.length : Int) - 1 := by omega
  obtain ⟨ad, had⟩ : ∃ ad, (c3 = 0 → ad = uo) ∧ (¬ c3 = 0 → ad = uo + 1) := ⟨if c3 = 0 then uo else uo + 1, by intro h; simp [h], by intro h; simp [h]⟩
  have Had := Lib.hid had
  replace hD : Rd w (intsD u1) (.slice (some ⟨ub, ad, none⟩) u1.length c3) := by
    by_cases hz : c3 = 0
    · have hn : u1 = [] := List.eq_nil_of_length_eq_zero (by omega)
      rw [had.1 hz, hz, hn]
      simp only [intsD, Rd]
      exact ⟨_, _, rfl, by simp, by simp [maxLen], by simp, by simp, Or.inl (by simp)⟩
    · rw [had.2 hz]; exact hD
  clear v0 v1 w0 w1 hxx hG hU hx hu had
  go_enter Try.func58, Try.ntmps58
  go_wp2_with fail
  have R0 := Blk.new2 w 28 (.slice none 0 0) (.slice none 0 0)
  have hB0 : Below w.heap.size w (w.alloc (.cells #[.slice none 0 0, .slice none 0 0] 28)) := by (repeat' (first | exact Below.refl _ _ | assumption | (refine Below.alloc ?_ (by first | omega | (simp; done) | (simp; omega)) _) | (refine Below.drew ?_) | (refine Below.setCell ?_ (by first | omega | (simp; done) | (simp; omega)) _)))
  have hz0 : w.heap.size < (w.alloc (.cells #[.slice none 0 0, .slice none 0 0] 28)).heap.size := by simp
  generalize (w.alloc (.cells #[.slice none 0 0, .slice none 0 0] 28)) = wa at R0 hB0 hz0 ⊢
  refine region_rs [] [] (fun _ _ => False) (wa.heap.size) (fun i iv vs wx => match i with
    | 0 => vs 0 = .pointer (some ⟨vb, vo, none⟩)
    | 1 => vs 1 = .pointer (some ⟨vb, vo, none⟩)
    | 2 => vs 2 = .pointer (some ⟨vb, vo, none⟩)
    | 3 => vs 3 = .slice (some ⟨xb, xo, none⟩) xs.length c
    | 4 => vs 4 = .pointer (some ⟨vb, vo, none⟩)
    | 5 => vs 5 = .pointer (some ⟨vb, vo, none⟩)
    | 6 => vs 6 = .pointer (some ⟨vb, vo, none⟩)
    | 7 => vs 7 = .slice (some ⟨xb, xo, none⟩) xs.length c
    | 8 => vs 8 = .int .i64 xs.length
    | 9 => vs 9 = .int .i64 (↑xs.length - 1)
    | 10 => vs 10 = .pointer (some ⟨xb, xo + (xs.length - 1), none⟩)
    | 11 => vs 11 = .int .i64 x
    | 12 => vs 12 = .pointer (some ⟨wb, wo, none⟩)
    | 13 => vs 13 = .pointer (some ⟨wb, wo, none⟩)
    | 14 => vs 14 = .pointer (some ⟨wb, wo, none⟩)
    | 15 => vs 15 = .slice (some ⟨ub, uo, none⟩) (u1.length + 1) (c3 + 1)
    | 16 => vs 16 = .pointer (some ⟨ub, uo, none⟩)
    | 17 => vs 17 = .int .i64 x
    | 18 => vs 18 = .bool false
    | _ => True) (fun i iv vs => match i with
    | 0 => vs 0 = .pointer (some ⟨vb, vo, none⟩)
    | 1 => vs 1 = .pointer (some ⟨vb, vo, none⟩)
    | 2 => vs 2 = .pointer (some ⟨vb, vo, none⟩)
    | 3 => vs 3 = .slice (some ⟨xb, xo, none⟩) xs.length c
    | 4 => vs 4 = .pointer (some ⟨vb, vo, none⟩)
    | 5 => vs 5 = .pointer (some ⟨vb, vo, none⟩)
    | 6 => vs 6 = .pointer (some ⟨vb, vo, none⟩)
    | 7 => vs 7 = .slice (some ⟨xb, xo, none⟩) xs.length c
    | 8 => vs 8 = .int .i64 xs.length
    | 9 => vs 9 = .int .i64 (↑xs.length - 1)
    | 10 => vs 10 = .pointer (some ⟨xb, xo + (xs.length - 1), none⟩)
    | 11 => vs 11 = .int .i64 x
    | 12 => vs 12 = .pointer (some ⟨wb, wo, none⟩)
    | 13 => vs 13 = .pointer (some ⟨wb, wo, none⟩)
    | 14 => vs 14 = .pointer (some ⟨wb, wo, none⟩)
    | 15 => vs 15 = .slice (some ⟨ub, uo, none⟩) (u1.length + 1) (c3 + 1)
    | 16 => vs 16 = .pointer (some ⟨ub, uo, none⟩)
    | 17 => vs 17 = .int .i64 x
    | 18 => vs 18 = .bool false
    | _ => True) (by kernel_rfl) (by kernel_rfl) [0, 1, 2, 3, 4, 5, 6, 7, 8, 9, 10, 11, 12, 13, 14, 15, 16, 17, 18] (by kernel_rfl) ?hbase ?hGb ?hG ?hJ ?hE ?hEE ?hstep ?hQ
  case hbase => first | exact Nat.le_refl _ | omega | (simp; omega)
  case hGb =>
    exact fun _ _ h => h.elim
  case hG =>
    exact fun _ _ _ h => h.elim
  case hJ =>
    intro i hi iv iv' vs vs' wx wx' ha hv hz hk hj
    simp only [List.mem_cons, List.not_mem_nil, or_false] at hi
    rcases hi with rfl | rfl | rfl | rfl | rfl | rfl | rfl | rfl | rfl | rfl | rfl | rfl | rfl | rfl | rfl | rfl | rfl | rfl | rfl
    · have e0 := hv.out 0 (mem_of (by kernel_rfl))
      have hj' : vs 0 = .pointer (some ⟨vb, vo, none⟩) := hj
      show vs' 0 = .pointer (some ⟨vb, vo, none⟩)
      rw [← e0]
      exact hj'
    · have e1 := hv.out 1 (mem_of (by kernel_rfl))
      have hj' : vs 1 = .pointer (some ⟨vb, vo, none⟩) := hj
      show vs' 1 = .pointer (some ⟨vb, vo, none⟩)
      rw [← e1]
      exact hj'
    · have e2 := hv.out 2 (mem_of (by kernel_rfl))
      have hj' : vs 2 = .pointer (some ⟨vb, vo, none⟩) := hj
      show vs' 2 = .pointer (some ⟨vb, vo, none⟩)
      rw [← e2]
      exact hj'
    · have e3 := hv.out 3 (mem_of (by kernel_rfl))
      have hj' : vs 3 = .slice (some ⟨xb, xo, none⟩) xs.length c := hj
      show vs' 3 = .slice (some ⟨xb, xo, none⟩) xs.length c
      rw [← e3]
      exact hj'
    · have e4 := hv.out 4 (mem_of (by kernel_rfl))
      have hj' : vs 4 = .pointer (some ⟨vb, vo, none⟩) := hj
      show vs' 4 = .pointer (some ⟨vb, vo, none⟩)
      rw [← e4]
      exact hj'
    · have e5 := hv.out 5 (mem_of (by kernel_rfl))
      have hj' : vs 5 = .pointer (some ⟨vb, vo, none⟩) := hj
      show vs' 5 = .pointer (some ⟨vb, vo, none⟩)
      rw [← e5]
      exact hj'
    · have e6 := hv.out 6 (mem_of (by kernel_rfl))
      have hj' : vs 6 = .pointer (some ⟨vb, vo, none⟩) := hj
      show vs' 6 = .pointer (some ⟨vb, vo, none⟩)
      rw [← e6]
      exact hj'
    · have e7 := hv.out 7 (mem_of (by kernel_rfl))
      have hj' : vs 7 = .slice (some ⟨xb, xo, none⟩) xs.length c := hj
      show vs' 7 = .slice (some ⟨xb, xo, none⟩) xs.length c
      rw [← e7]
      exact hj'
    · have e8 := hv.out 8 (mem_of (by kernel_rfl))
      have hj' : vs 8 = .int .i64 xs.length := hj
      show vs' 8 = .int .i64 xs.length
      rw [← e8]
      exact hj'
    · have e9 := hv.out 9 (mem_of (by kernel_rfl))
      have hj' : vs 9 = .int .i64 (↑xs.length - 1) := hj
      show vs' 9 = .int .i64 (↑xs.length - 1)
      rw [← e9]
      exact hj'
    · have e10 := hv.out 10 (mem_of (by kernel_rfl))
      have hj' : vs 10 = .pointer (some ⟨xb, xo + (xs.length - 1), none⟩) := hj
      show vs' 10 = .pointer (some ⟨xb, xo + (xs.length - 1), none⟩)
      rw [← e10]
      exact hj'
    · have e11 := hv.out 11 (mem_of (by kernel_rfl))
      have hj' : vs 11 = .int .i64 x := hj
      show vs' 11 = .int .i64 x
      rw [← e11]
      exact hj'
    · have e12 := hv.out 12 (mem_of (by kernel_rfl))
      have hj' : vs 12 = .pointer (some ⟨wb, wo, none⟩) := hj
      show vs' 12 = .pointer (some ⟨wb, wo, none⟩)
      rw [← e12]
      exact hj'
    · have e13 := hv.out 13 (mem_of (by kernel_rfl))
      have hj' : vs 13 = .pointer (some ⟨wb, wo, none⟩) := hj
      show vs' 13 = .pointer (some ⟨wb, wo, none⟩)
      rw [← e13]
      exact hj'
    · have e14 := hv.out 14 (mem_of (by kernel_rfl))
      have hj' : vs 14 = .pointer (some ⟨wb, wo, none⟩) := hj
      show vs' 14 = .pointer (some ⟨wb, wo, none⟩)
      rw [← e14]
      exact hj'
    · have e15 := hv.out 15 (mem_of (by kernel_rfl))
      have hj' : vs 15 = .slice (some ⟨ub, uo, none⟩) (u1.length + 1) (c3 + 1) := hj
      show vs' 15 = .slice (some ⟨ub, uo, none⟩) (u1.length + 1) (c3 + 1)
      rw [← e15]
      exact hj'
    · have e16 := hv.out 16 (mem_of (by kernel_rfl))
      have hj' : vs 16 = .pointer (some ⟨ub, uo, none⟩) := hj
      show vs' 16 = .pointer (some ⟨ub, uo, none⟩)
      rw [← e16]
      exact hj'
    · have e17 := hv.out 17 (mem_of (by kernel_rfl))
      have hj' : vs 17 = .int .i64 x := hj
      show vs' 17 = .int .i64 x
      rw [← e17]
      exact hj'
    · have e18 := hv.out 18 (mem_of (by kernel_rfl))
      have hj' : vs 18 = .bool false := hj
      show vs' 18 = .bool false
      rw [← e18]
      exact hj'
  case hE =>
    intro i hi iv vs wx hj
    simp only [List.mem_cons, List.not_mem_nil, or_false] at hi
    rcases hi with rfl | rfl | rfl | rfl | rfl | rfl | rfl | rfl | rfl | rfl | rfl | rfl | rfl | rfl | rfl | rfl | rfl | rfl | rfl
    · exact hj
    · exact hj
    · exact hj
    · exact hj
    · exact hj
    · exact hj
    · exact hj
    · exact hj
    · exact hj
    · exact hj
    · exact hj
    · exact hj
    · exact hj
    · exact hj
    · exact hj
    · exact hj
    · exact hj
    · exact hj
    · exact hj
  case hEE =>
    intro i hi iv iv' vs vs' ha hv hj
    simp only [List.mem_cons, List.not_mem_nil, or_false] at hi
    rcases hi with rfl | rfl | rfl | rfl | rfl | rfl | rfl | rfl | rfl | rfl | rfl | rfl | rfl | rfl | rfl | rfl | rfl | rfl | rfl
    · have e0 := hv.out 0 (mem_of (by kernel_rfl))
      have hj' : vs 0 = .pointer (some ⟨vb, vo, none⟩) := hj
      show vs' 0 = .pointer (some ⟨vb, vo, none⟩)
      rw [← e0]
      exact hj'
    · have e1 := hv.out 1 (mem_of (by kernel_rfl))
      have hj' : vs 1 = .pointer (some ⟨vb, vo, none⟩) := hj
      show vs' 1 = .pointer (some ⟨vb, vo, none⟩)
      rw [← e1]
      exact hj'
    · have e2 := hv.out 2 (mem_of (by kernel_rfl))
      have hj' : vs 2 = .pointer (some ⟨vb, vo, none⟩) := hj
      show vs' 2 = .pointer (some ⟨vb, vo, none⟩)
      rw [← e2]
      exact hj'
    · have e3 := hv.out 3 (mem_of (by kernel_rfl))
      have hj' : vs 3 = .slice (some ⟨xb, xo, none⟩) xs.length c := hj
      show vs' 3 = .slice (some ⟨xb, xo, none⟩) xs.length c
      rw [← e3]
      exact hj'
    · have e4 := hv.out 4 (mem_of (by kernel_rfl))
      have hj' : vs 4 = .pointer (some ⟨vb, vo, none⟩) := hj
      show vs' 4 = .pointer (some ⟨vb, vo, none⟩)
      rw [← e4]
      exact hj'
    · have e5 := hv.out 5 (mem_of (by kernel_rfl))
      have hj' : vs 5 = .pointer (some ⟨vb, vo, none⟩) := hj
      show vs' 5 = .pointer (some ⟨vb, vo, none⟩)
      rw [← e5]
      exact hj'
    · have e6 := hv.out 6 (mem_of (by kernel_rfl))
      have hj' : vs 6 = .pointer (some ⟨vb, vo, none⟩) := hj
      show vs' 6 = .pointer (some ⟨vb, vo, none⟩)
      rw [← e6]
      exact hj'
    · have e7 := hv.out 7 (mem_of (by kernel_rfl))
      have hj' : vs 7 = .slice (some ⟨xb, xo, none⟩) xs.length c := hj
      show vs' 7 = .slice (some ⟨xb, xo, none⟩) xs.length c
      rw [← e7]
      exact hj'
    · have e8 := hv.out 8 (mem_of (by kernel_rfl))
      have hj' : vs 8 = .int .i64 xs.length := hj
      show vs' 8 = .int .i64 xs.length
      rw [← e8]
      exact hj'
    · have e9 := hv.out 9 (mem_of (by kernel_rfl))
      have hj' : vs 9 = .int .i64 (↑xs.length - 1) := hj
      show vs' 9 = .int .i64 (↑xs.length - 1)
      rw [← e9]
      exact hj'
    · have e10 := hv.out 10 (mem_of (by kernel_rfl))
      have hj' : vs 10 = .pointer (some ⟨xb, xo + (xs.length - 1), none⟩) := hj
      show vs' 10 = .pointer (some ⟨xb, xo + (xs.length - 1), none⟩)
      rw [← e10]
      exact hj'
    · have e11 := hv.out 11 (mem_of (by kernel_rfl))
      have hj' : vs 11 = .int .i64 x := hj
      show vs' 11 = .int .i64 x
      rw [← e11]
      exact hj'
    · have e12 := hv.out 12 (mem_of (by kernel_rfl))
      have hj' : vs 12 = .pointer (some ⟨wb, wo, none⟩) := hj
      show vs' 12 = .pointer (some ⟨wb, wo, none⟩)
      rw [← e12]
      exact hj'
    · have e13 := hv.out 13 (mem_of (by kernel_rfl))
      have hj' : vs 13 = .pointer (some ⟨wb, wo, none⟩) := hj
      show vs' 13 = .pointer (some ⟨wb, wo, none⟩)
      rw [← e13]
      exact hj'
    · have e14 := hv.out 14 (mem_of (by kernel_rfl))
      have hj' : vs 14 = .pointer (some ⟨wb, wo, none⟩) := hj
      show vs' 14 = .pointer (some ⟨wb, wo, none⟩)
      rw [← e14]
      exact hj'
    · have e15 := hv.out 15 (mem_of (by kernel_rfl))
      have hj' : vs 15 = .slice (some ⟨ub, uo, none⟩) (u1.length + 1) (c3 + 1) := hj
      show vs' 15 = .slice (some ⟨ub, uo, none⟩) (u1.length + 1) (c3 + 1)
      rw [← e15]
      exact hj'
    · have e16 := hv.out 16 (mem_of (by kernel_rfl))
      have hj' : vs 16 = .pointer (some ⟨ub, uo, none⟩) := hj
      show vs' 16 = .pointer (some ⟨ub, uo, none⟩)
      rw [← e16]
      exact hj'
    · have e17 := hv.out 17 (mem_of (by kernel_rfl))
      have hj' : vs 17 = .int .i64 x := hj
      show vs' 17 = .int .i64 x
      rw [← e17]
      exact hj'
    · have e18 := hv.out 18 (mem_of (by kernel_rfl))
      have hj' : vs 18 = .bool false := hj
      show vs' 18 = .bool false
      rw [← e18]
      exact hj'
  case hstep =>
    intro i hi opr ho iv vs w1 hB hS hd he hbd hsep K hK
    simp only [List.mem_cons, List.not_mem_nil, or_false] at hi
    have hzB := hB.size
    have hBw1 : Below w.heap.size w w1 := hB0.trans (hB.mono hB0.size)
    have v0 := (hBw1.cell (p := ⟨vb, vo, none⟩) hvl).trans V0.out
    have w0 := (hBw1.cell (p := ⟨wb, wo, none⟩) hwl).trans W0.out
    have gx := (hBw1.cell (p := ⟨xb, xo + (xs.length - 1), none⟩) hxl).trans HG.out
    have gu := (hBw1.cell (p := ⟨ub, uo, none⟩) hul).trans HU.out
    rcases hi with rfl | rfl | rfl | rfl | rfl | rfl | rfl | rfl | rfl | rfl | rfl | rfl | rfl | rfl | rfl | rfl | rfl | rfl | rfl
    all_goals
      simp at ho
      subst ho
      simp only [putFrom, Act.put, List.setIfInBounds_toArray, List.set_cons_succ, List.set_cons_zero]
    · go_wp2_with fail
      exact Onward.mk (hK (.pointer (some ⟨vb, vo, none⟩)) _ _ (by simp) (by simp only [putFrom, Act.put, List.setIfInBounds_toArray, List.set_cons_succ, List.set_cons_zero]) (Spares.of_below (Below.refl _ _)) (fun iv' _ _ => rfl))
    · have h0 : vs 0 = .pointer (some ⟨vb, vo, none⟩) := hd.out 0 (mem_of (by kernel_rfl)) (by decide) (by kernel_rfl)
      go_wp2_with fail
      exact Onward.mk (hK (.pointer (some ⟨vb, vo, none⟩)) _ _ (by simp) (by simp only [putFrom, Act.put, List.setIfInBounds_toArray, List.set_cons_succ, List.set_cons_zero, h0]) (Spares.of_below (Below.refl _ _)) (fun iv' _ _ => rfl))
    · have h1 : vs 1 = .pointer (some ⟨vb, vo, none⟩) := hd.out 1 (mem_of (by kernel_rfl)) (by decide) (by kernel_rfl)
      go_wp2_with fail
      exact Onward.mk (hK (.pointer (some ⟨vb, vo, none⟩)) _ _ (by simp) (by simp only [putFrom, Act.put, List.setIfInBounds_toArray, List.set_cons_succ, List.set_cons_zero, h1]) (Spares.of_below (Below.refl _ _)) (fun iv' _ _ => rfl))
    · have h2 : vs 2 = .pointer (some ⟨vb, vo, none⟩) := hd.out 2 (mem_of (by kernel_rfl)) (by decide) (by kernel_rfl)
      go_wp2_with fail
      exact Onward.mk (hK (.slice (some ⟨xb, xo, none⟩) xs.length c) _ _ (by simp) (by simp only [putFrom, Act.put, List.setIfInBounds_toArray, List.set_cons_succ, List.set_cons_zero, h2]) (Spares.of_below (Below.refl _ _)) (fun iv' _ _ => rfl))
    · go_wp2_with fail
      exact Onward.mk (hK (.pointer (some ⟨vb, vo, none⟩)) _ _ (by simp) (by simp only [putFrom, Act.put, List.setIfInBounds_toArray, List.set_cons_succ, List.set_cons_zero]) (Spares.of_below (Below.refl _ _)) (fun iv' _ _ => rfl))
    · have h4 : vs 4 = .pointer (some ⟨vb, vo, none⟩) := hd.out 4 (mem_of (by kernel_rfl)) (by decide) (by kernel_rfl)
      go_wp2_with fail
      exact Onward.mk (hK (.pointer (some ⟨vb, vo, none⟩)) _ _ (by simp) (by simp only [putFrom, Act.put, List.setIfInBounds_toArray, List.set_cons_succ, List.set_cons_zero, h4]) (Spares.of_below (Below.refl _ _)) (fun iv' _ _ => rfl))
    · have h5 : vs 5 = .pointer (some ⟨vb, vo, none⟩) := hd.out 5 (mem_of (by kernel_rfl)) (by decide) (by kernel_rfl)
      go_wp2_with fail
      exact Onward.mk (hK (.pointer (some ⟨vb, vo, none⟩)) _ _ (by simp) (by simp only [putFrom, Act.put, List.setIfInBounds_toArray, List.set_cons_succ, List.set_cons_zero, h5]) (Spares.of_below (Below.refl _ _)) (fun iv' _ _ => rfl))
    · have h6 : vs 6 = .pointer (some ⟨vb, vo, none⟩) := hd.out 6 (mem_of (by kernel_rfl)) (by decide) (by kernel_rfl)
      go_wp2_with fail
      exact Onward.mk (hK (.slice (some ⟨xb, xo, none⟩) xs.length c) _ _ (by simp) (by simp only [putFrom, Act.put, List.setIfInBounds_toArray, List.set_cons_succ, List.set_cons_zero, h6]) (Spares.of_below (Below.refl _ _)) (fun iv' _ _ => rfl))
    · have h7 : vs 7 = .slice (some ⟨xb, xo, none⟩) xs.length c := hd.out 7 (mem_of (by kernel_rfl)) (by decide) (by kernel_rfl)
      go_wp2_with fail
      exact Onward.mk (hK (.int .i64 xs.length) _ _ (by simp) (by simp only [putFrom, Act.put, List.setIfInBounds_toArray, List.set_cons_succ, List.set_cons_zero, h7]) (Spares.of_below (Below.refl _ _)) (fun iv' _ _ => rfl))
    · have h8 : vs 8 = .int .i64 xs.length := hd.out 8 (mem_of (by kernel_rfl)) (by decide) (by kernel_rfl)
      go_wp2_with fail
      exact Onward.mk (hK (.int .i64 (↑xs.length - 1)) _ _ (by simp) (by simp only [putFrom, Act.put, List.setIfInBounds_toArray, List.set_cons_succ, List.set_cons_zero, h8]) (Spares.of_below (Below.refl _ _)) (fun iv' _ _ => rfl))
    · have h3 : vs 3 = .slice (some ⟨xb, xo, none⟩) xs.length c := hd.out 3 (mem_of (by kernel_rfl)) (by decide) (by kernel_rfl)
      have h9 : vs 9 = .int .i64 (↑xs.length - 1) := hd.out 9 (mem_of (by kernel_rfl)) (by decide) (by kernel_rfl)
      go_wp2_with fail
      exact Onward.mk (hK (.pointer (some ⟨xb, xo + (xs.length - 1), none⟩)) _ _ (by simp) (by simp only [putFrom, Act.put, List.setIfInBounds_toArray, List.set_cons_succ, List.set_cons_zero, h3, h9]) (Spares.of_below (Below.refl _ _)) (fun iv' _ _ => rfl))
    · have h10 : vs 10 = .pointer (some ⟨xb, xo + (xs.length - 1), none⟩) := hd.out 10 (mem_of (by kernel_rfl)) (by decide) (by kernel_rfl)
      go_wp2_with fail
      exact Onward.mk (hK (.int .i64 x) _ _ (by simp) (by simp only [putFrom, Act.put, List.setIfInBounds_toArray, List.set_cons_succ, List.set_cons_zero, h10]) (Spares.of_below (Below.refl _ _)) (fun iv' _ _ => rfl))
    · go_wp2_with fail
      exact Onward.mk (hK (.pointer (some ⟨wb, wo, none⟩)) _ _ (by simp) (by simp only [putFrom, Act.put, List.setIfInBounds_toArray, List.set_cons_succ, List.set_cons_zero]) (Spares.of_below (Below.refl _ _)) (fun iv' _ _ => rfl))
    · have h12 : vs 12 = .pointer (some ⟨wb, wo, none⟩) := hd.out 12 (mem_of (by kernel_rfl)) (by decide) (by kernel_rfl)
      go_wp2_with fail
      exact Onward.mk (hK (.pointer (some ⟨wb, wo, none⟩)) _ _ (by simp) (by simp only [putFrom, Act.put, List.setIfInBounds_toArray, List.set_cons_succ, List.set_cons_zero, h12]) (Spares.of_below (Below.refl _ _)) (fun iv' _ _ => rfl))
    · have h13 : vs 13 = .pointer (some ⟨wb, wo, none⟩) := hd.out 13 (mem_of (by kernel_rfl)) (by decide) (by kernel_rfl)
      go_wp2_with fail
      exact Onward.mk (hK (.pointer (some ⟨wb, wo, none⟩)) _ _ (by simp) (by simp only [putFrom, Act.put, List.setIfInBounds_toArray, List.set_cons_succ, List.set_cons_zero, h13]) (Spares.of_below (Below.refl _ _)) (fun iv' _ _ => rfl))
    · have h14 : vs 14 = .pointer (some ⟨wb, wo, none⟩) := hd.out 14 (mem_of (by kernel_rfl)) (by decide) (by kernel_rfl)
      go_wp2_with fail
      exact Onward.mk (hK (.slice (some ⟨ub, uo, none⟩) (u1.length + 1) (c3 + 1)) _ _ (by simp) (by simp only [putFrom, Act.put, List.setIfInBounds_toArray, List.set_cons_succ, List.set_cons_zero, h14]) (Spares.of_below (Below.refl _ _)) (fun iv' _ _ => rfl))
    · have h15 : vs 15 = .slice (some ⟨ub, uo, none⟩) (u1.length + 1) (c3 + 1) := hd.out 15 (mem_of (by kernel_rfl)) (by decide) (by kernel_rfl)
      go_wp2_with fail
      exact Onward.mk (hK (.pointer (some ⟨ub, uo, none⟩)) _ _ (by simp) (by simp only [putFrom, Act.put, List.setIfInBounds_toArray, List.set_cons_succ, List.set_cons_zero, h15]) (Spares.of_below (Below.refl _ _)) (fun iv' _ _ => rfl))
    · have h16 : vs 16 = .pointer (some ⟨ub, uo, none⟩) := hd.out 16 (mem_of (by kernel_rfl)) (by decide) (by kernel_rfl)
      go_wp2_with fail
      exact Onward.mk (hK (.int .i64 x) _ _ (by simp) (by simp only [putFrom, Act.put, List.setIfInBounds_toArray, List.set_cons_succ, List.set_cons_zero, h16]) (Spares.of_below (Below.refl _ _)) (fun iv' _ _ => rfl))
    · have h11 : vs 11 = .int .i64 x := hd.out 11 (mem_of (by kernel_rfl)) (by decide) (by kernel_rfl)
      have h17 : vs 17 = .int .i64 x := hd.out 17 (mem_of (by kernel_rfl)) (by decide) (by kernel_rfl)
      go_wp2_with fail
      exact Onward.mk (hK (.bool false) _ _ (by simp) (by simp only [putFrom, Act.put, List.setIfInBounds_toArray, List.set_cons_succ, List.set_cons_zero, h11, h17]) (Spares.of_below (Below.refl _ _)) (fun iv' _ _ => rfl))
  case hQ =>
    intro iv vs wx hB hSp hd he hbd hsep
    have hzB := hB.size
    have h0 : vs 0 = .pointer (some ⟨vb, vo, none⟩) := hd.out 0 (mem_of (by kernel_rfl)) (not_eaten (by kernel_rfl))
    have h1 : vs 1 = .pointer (some ⟨vb, vo, none⟩) := hd.out 1 (mem_of (by kernel_rfl)) (not_eaten (by kernel_rfl))
    have h2 : vs 2 = .pointer (some ⟨vb, vo, none⟩) := hd.out 2 (mem_of (by kernel_rfl)) (not_eaten (by kernel_rfl))
    have h3 : vs 3 = .slice (some ⟨xb, xo, none⟩) xs.length c := hd.out 3 (mem_of (by kernel_rfl)) (not_eaten (by kernel_rfl))
    have h4 : vs 4 = .pointer (some ⟨vb, vo, none⟩) := hd.out 4 (mem_of (by kernel_rfl)) (not_eaten (by kernel_rfl))
    have h5 : vs 5 = .pointer (some ⟨vb, vo, none⟩) := hd.out 5 (mem_of (by kernel_rfl)) (not_eaten (by kernel_rfl))
    have h6 : vs 6 = .pointer (some ⟨vb, vo, none⟩) := hd.out 6 (mem_of (by kernel_rfl)) (not_eaten (by kernel_rfl))
    have h7 : vs 7 = .slice (some ⟨xb, xo, none⟩) xs.length c := hd.out 7 (mem_of (by kernel_rfl)) (not_eaten (by kernel_rfl))
    have h8 : vs 8 = .int .i64 xs.length := hd.out 8 (mem_of (by kernel_rfl)) (not_eaten (by kernel_rfl))
    have h9 : vs 9 = .int .i64 (↑xs.length - 1) := hd.out 9 (mem_of (by kernel_rfl)) (not_eaten (by kernel_rfl))
    have h10 : vs 10 = .pointer (some ⟨xb, xo + (xs.length - 1), none⟩) := hd.out 10 (mem_of (by kernel_rfl)) (not_eaten (by kernel_rfl))
    have h11 : vs 11 = .int .i64 x := hd.out 11 (mem_of (by kernel_rfl)) (not_eaten (by kernel_rfl))
    have h12 : vs 12 = .pointer (some ⟨wb, wo, none⟩) := hd.out 12 (mem_of (by kernel_rfl)) (not_eaten (by kernel_rfl))
    have h13 : vs 13 = .pointer (some ⟨wb, wo, none⟩) := hd.out 13 (mem_of (by kernel_rfl)) (not_eaten (by kernel_rfl))
    have h14 : vs 14 = .pointer (some ⟨wb, wo, none⟩) := hd.out 14 (mem_of (by kernel_rfl)) (not_eaten (by kernel_rfl))
    have h15 : vs 15 = .slice (some ⟨ub, uo, none⟩) (u1.length + 1) (c3 + 1) := hd.out 15 (mem_of (by kernel_rfl)) (not_eaten (by kernel_rfl))
    have h16 : vs 16 = .pointer (some ⟨ub, uo, none⟩) := hd.out 16 (mem_of (by kernel_rfl)) (not_eaten (by kernel_rfl))
    have h17 : vs 17 = .int .i64 x := hd.out 17 (mem_of (by kernel_rfl)) (not_eaten (by kernel_rfl))
    have h18 : vs 18 = .bool false := hd.out 18 (mem_of (by kernel_rfl)) (not_eaten (by kernel_rfl))
    simp only [putFrom, Act.put, List.setIfInBounds_toArray, List.set_cons_succ, List.set_cons_zero]
    simp only [h18]
    clear hd he hbd hsep h0 h1 h2 h3 h4 h5 h6 h7 h8 h9 h10 h11 h12 h13 h14 h15 h16 h17 h18
    replace hB0 := hB0.trans (hB.mono hB0.size)
    replace R0 := R0.below hB
    have hz1 : w.heap.size < wx.heap.size := R0.lt
    obtain ⟨wz, rfl⟩ : ∃ wz : World, wz = wx := ⟨_, rfl⟩
    clear hB hz0
    go_wp2_with fail
    refine region_rs [(10, 4), (20, 15), (23, 22)] [] (fun _ _ => False) (wz.heap.size) (fun i iv vs wx => match i with
      | 0 => vs 0 = .pointer (some ⟨vb, vo, none⟩)
      | 1 => vs 1 = .pointer (some ⟨vb, vo, none⟩)
      | 2 => vs 2 = .pointer (some ⟨vb, vo, none⟩)
      | 3 => vs 3 = .slice (some ⟨xb, xo, none⟩) xs.length c
      | 4 => ∃ s4 c4, vs 4 = .slice s4 xs.length c4 ∧ AppS (fun b => (iv 4).1 ≤ b ∧ b < (iv 4).2) wx 2 1 xs.length (xs.map D.int) (.slice s4 xs.length c4)
      | 5 => vs 5 = .pointer (some ⟨wb, wo, none⟩)
      | 6 => vs 6 = .pointer (some ⟨wb, wo, none⟩)
      | 7 => vs 7 = .pointer (some ⟨wb, wo, none⟩)
      | 8 => vs 8 = .slice (some ⟨ub, uo, none⟩) (u1.length + 1) (c3 + 1)
      | 9 => vs 9 = .slice (some ⟨ub, ad, none⟩) u1.length c3
      | 10 => ∃ g cap, vs 10 = .slice g ((xs).length + (u1).length) cap ∧ AppS (foot [(10, 4), (20, 15), (23, 22)] [] (fun _ _ => False) 24 10 iv) wx 2 1 ((xs).length + (u1).length) (((xs) ++ (u1)).map D.int) (.slice g ((xs).length + (u1).length) cap)
      | 11 => vs 11 = .pointer (some ⟨vb, vo, none⟩)
      | 12 => vs 12 = .pointer (some ⟨vb, vo, none⟩)
      | 13 => vs 13 = .pointer (some ⟨vb, vo + 1, none⟩)
      | 14 => vs 14 = .slice t ys.length d
      | 15 => ∃ s15 c15, vs 15 = .slice s15 ys.length c15 ∧ AppS (fun b => (iv 15).1 ≤ b ∧ b < (iv 15).2) wx 2 1 ys.length (ys.map D.int) (.slice s15 ys.length c15)
      | 16 => vs 16 = .pointer (some ⟨wb, wo, none⟩)
      | 17 => vs 17 = .pointer (some ⟨wb, wo, none⟩)
      | 18 => vs 18 = .pointer (some ⟨wb, wo + 1, none⟩)
      | 19 => vs 19 = .slice q vv.length d2
      | 20 => ∃ g cap, vs 20 = .slice g ((ys).length + (vv).length) cap ∧ AppS (foot [(10, 4), (20, 15), (23, 22)] [] (fun _ _ => False) 24 20 iv) wx 2 1 ((ys).length + (vv).length) (((ys) ++ (vv)).map D.int) (.slice g ((ys).length + (vv).length) cap)
      | 21 => vs 21 = .agg #[vs 10, vs 20]
      | 22 => vs 22 = .pointer (some ⟨(iv 22).1, 0, none⟩) ∧ (iv 22).2 = (iv 22).1 + 1 ∧ Blk wx (iv 22).1 28 [.slice none 0 0, .slice none 0 0]
      | 23 => (iv 22).2 = (iv 22).1 + 1 ∧ Blk wx ((iv 22).1) 28 [vs 10, vs 20]
      | _ => True) (fun i iv vs => match i with
      | 0 => vs 0 = .pointer (some ⟨vb, vo, none⟩)
      | 1 => vs 1 = .pointer (some ⟨vb, vo, none⟩)
      | 2 => vs 2 = .pointer (some ⟨vb, vo, none⟩)
      | 3 => vs 3 = .slice (some ⟨xb, xo, none⟩) xs.length c
      | 4 => ∃ s4 c4, vs 4 = .slice s4 xs.length c4
      | 5 => vs 5 = .pointer (some ⟨wb, wo, none⟩)
      | 6 => vs 6 = .pointer (some ⟨wb, wo, none⟩)
      | 7 => vs 7 = .pointer (some ⟨wb, wo, none⟩)
      | 8 => vs 8 = .slice (some ⟨ub, uo, none⟩) (u1.length + 1) (c3 + 1)
      | 9 => vs 9 = .slice (some ⟨ub, ad, none⟩) u1.length c3
      | 10 => ∃ g cap, vs 10 = .slice g ((xs).length + (u1).length) cap
      | 11 => vs 11 = .pointer (some ⟨vb, vo, none⟩)
      | 12 => vs 12 = .pointer (some ⟨vb, vo, none⟩)
      | 13 => vs 13 = .pointer (some ⟨vb, vo + 1, none⟩)
      | 14 => vs 14 = .slice t ys.length d
      | 15 => ∃ s15 c15, vs 15 = .slice s15 ys.length c15
      | 16 => vs 16 = .pointer (some ⟨wb, wo, none⟩)
      | 17 => vs 17 = .pointer (some ⟨wb, wo, none⟩)
      | 18 => vs 18 = .pointer (some ⟨wb, wo + 1, none⟩)
      | 19 => vs 19 = .slice q vv.length d2
      | 20 => ∃ g cap, vs 20 = .slice g ((ys).length + (vv).length) cap
      | 21 => vs 21 = .agg #[vs 10, vs 20]
      | 22 => vs 22 = .pointer (some ⟨(iv 22).1, 0, none⟩) ∧ (iv 22).2 = (iv 22).1 + 1
      | 23 => True
      | _ => True) (by kernel_rfl) (by kernel_rfl) [0, 1, 2, 3, 4, 5, 6, 7, 8, 9, 10, 11, 12, 13, 14, 15, 16, 17, 18, 19, 20, 21, 22, 23] (by kernel_rfl) ?hbase ?hGb ?hG ?hJ ?hE ?hEE ?hstep ?hQ
    case hbase => first | exact Nat.le_refl _ | omega | (simp; omega)
    case hGb =>
      exact fun _ _ h => h.elim
    case hG =>
      exact fun _ _ _ h => h.elim
    case hJ =>
      intro i hi iv iv' vs vs' wx wx' ha hv hz hk hj
      simp only [List.mem_cons, List.not_mem_nil, or_false] at hi
      rcases hi with rfl | rfl | rfl | rfl | rfl | rfl | rfl | rfl | rfl | rfl | rfl | rfl | rfl | rfl | rfl | rfl | rfl | rfl | rfl | rfl | rfl | rfl | rfl | rfl
      · have e0 := hv.out 0 (mem_of (by kernel_rfl))
        have hj' : vs 0 = .pointer (some ⟨vb, vo, none⟩) := hj
        show vs' 0 = .pointer (some ⟨vb, vo, none⟩)
        rw [← e0]
        exact hj'
      · have e1 := hv.out 1 (mem_of (by kernel_rfl))
        have hj' : vs 1 = .pointer (some ⟨vb, vo, none⟩) := hj
        show vs' 1 = .pointer (some ⟨vb, vo, none⟩)
        rw [← e1]
        exact hj'
      · have e2 := hv.out 2 (mem_of (by kernel_rfl))
        have hj' : vs 2 = .pointer (some ⟨vb, vo, none⟩) := hj
        show vs' 2 = .pointer (some ⟨vb, vo, none⟩)
        rw [← e2]
        exact hj'
      · have e3 := hv.out 3 (mem_of (by kernel_rfl))
        have hj' : vs 3 = .slice (some ⟨xb, xo, none⟩) xs.length c := hj
        show vs' 3 = .slice (some ⟨xb, xo, none⟩) xs.length c
        rw [← e3]
        exact hj'
      · have e4 := hv.out 4 (mem_of (by kernel_rfl))
        have g4 := ha.out 4 (mem_of (by kernel_rfl))
        obtain ⟨s4, c4, q1, q2⟩ := hj
        exact ⟨s4, c4, e4 ▸ q1, g4 ▸ q2.keep (fun b hb h1 => hk.out b hb (foot_own h1.1 h1.2))⟩
      · have e5 := hv.out 5 (mem_of (by kernel_rfl))
        have hj' : vs 5 = .pointer (some ⟨wb, wo, none⟩) := hj
        show vs' 5 = .pointer (some ⟨wb, wo, none⟩)
        rw [← e5]
        exact hj'
      · have e6 := hv.out 6 (mem_of (by kernel_rfl))
        have hj' : vs 6 = .pointer (some ⟨wb, wo, none⟩) := hj
        show vs' 6 = .pointer (some ⟨wb, wo, none⟩)
        rw [← e6]
        exact hj'
      · have e7 := hv.out 7 (mem_of (by kernel_rfl))
        have hj' : vs 7 = .pointer (some ⟨wb, wo, none⟩) := hj
        show vs' 7 = .pointer (some ⟨wb, wo, none⟩)
        rw [← e7]
        exact hj'
      · have e8 := hv.out 8 (mem_of (by kernel_rfl))
        have hj' : vs 8 = .slice (some ⟨ub, uo, none⟩) (u1.length + 1) (c3 + 1) := hj
        show vs' 8 = .slice (some ⟨ub, uo, none⟩) (u1.length + 1) (c3 + 1)
        rw [← e8]
        exact hj'
      · have e9 := hv.out 9 (mem_of (by kernel_rfl))
        have hj' : vs 9 = .slice (some ⟨ub, ad, none⟩) u1.length c3 := hj
        show vs' 9 = .slice (some ⟨ub, ad, none⟩) u1.length c3
        rw [← e9]
        exact hj'
      · have e10 := hv.out 10 (mem_of (by kernel_rfl))
        obtain ⟨g, cap, q1, q2⟩ := hj
        exact ⟨g, cap, e10 ▸ q1, (q2.keep (fun b hb h1 => hk.out b hb h1)).more (fun b hb h1 => foot_agree (l := ancs _ 24 10) (by exact of_decide_eq_true (by kernel_rfl)) ha.out h1)⟩
      · have e11 := hv.out 11 (mem_of (by kernel_rfl))
        have hj' : vs 11 = .pointer (some ⟨vb, vo, none⟩) := hj
        show vs' 11 = .pointer (some ⟨vb, vo, none⟩)
        rw [← e11]
        exact hj'
      · have e12 := hv.out 12 (mem_of (by kernel_rfl))
        have hj' : vs 12 = .pointer (some ⟨vb, vo, none⟩) := hj
        show vs' 12 = .pointer (some ⟨vb, vo, none⟩)
        rw [← e12]
        exact hj'
      · have e13 := hv.out 13 (mem_of (by kernel_rfl))
        have hj' : vs 13 = .pointer (some ⟨vb, vo + 1, none⟩) := hj
        show vs' 13 = .pointer (some ⟨vb, vo + 1, none⟩)
        rw [← e13]
        exact hj'
      · have e14 := hv.out 14 (mem_of (by kernel_rfl))
        have hj' : vs 14 = .slice t ys.length d := hj
        show vs' 14 = .slice t ys.length d
        rw [← e14]
        exact hj'
      · have e15 := hv.out 15 (mem_of (by kernel_rfl))
        have g15 := ha.out 15 (mem_of (by kernel_rfl))
        obtain ⟨s15, c15, q1, q2⟩ := hj
        exact ⟨s15, c15, e15 ▸ q1, g15 ▸ q2.keep (fun b hb h1 => hk.out b hb (foot_own h1.1 h1.2))⟩
      · have e16 := hv.out 16 (mem_of (by kernel_rfl))
        have hj' : vs 16 = .pointer (some ⟨wb, wo, none⟩) := hj
        show vs' 16 = .pointer (some ⟨wb, wo, none⟩)
        rw [← e16]
        exact hj'
      · have e17 := hv.out 17 (mem_of (by kernel_rfl))
        have hj' : vs 17 = .pointer (some ⟨wb, wo, none⟩) := hj
        show vs' 17 = .pointer (some ⟨wb, wo, none⟩)
        rw [← e17]
        exact hj'
      · have e18 := hv.out 18 (mem_of (by kernel_rfl))
        have hj' : vs 18 = .pointer (some ⟨wb, wo + 1, none⟩) := hj
        show vs' 18 = .pointer (some ⟨wb, wo + 1, none⟩)
        rw [← e18]
        exact hj'
      · have e19 := hv.out 19 (mem_of (by kernel_rfl))
        have hj' : vs 19 = .slice q vv.length d2 := hj
        show vs' 19 = .slice q vv.length d2
        rw [← e19]
        exact hj'
      · have e20 := hv.out 20 (mem_of (by kernel_rfl))
        obtain ⟨g, cap, q1, q2⟩ := hj
        exact ⟨g, cap, e20 ▸ q1, (q2.keep (fun b hb h1 => hk.out b hb h1)).more (fun b hb h1 => foot_agree (l := ancs _ 24 20) (by exact of_decide_eq_true (by kernel_rfl)) ha.out h1)⟩
      · have e10 := hv.out 10 (mem_of (by kernel_rfl))
        have e20 := hv.out 20 (mem_of (by kernel_rfl))
        have e21 := hv.out 21 (mem_of (by kernel_rfl))
        have hj' : vs 21 = .agg #[vs 10, vs 20] := hj
        show vs' 21 = .agg #[vs' 10, vs' 20]
        rw [← e10, ← e20, ← e21]
        exact hj'
      · have e22 := hv.out 22 (mem_of (by kernel_rfl))
        have g22 := ha.out 22 (mem_of (by kernel_rfl))
        obtain ⟨q1, q3, q2⟩ := hj
        show vs' 22 = .pointer (some ⟨(iv' 22).1, 0, none⟩) ∧ (iv' 22).2 = (iv' 22).1 + 1 ∧ Blk wx' (iv' 22).1 28 [.slice none 0 0, .slice none 0 0]
        rw [← e22, ← g22]
        exact ⟨q1, q3, q2.keep (hk.out _ q2.lt (foot_own (Nat.le_refl _) (by omega)))⟩
      · have e10 := hv.out 10 (mem_of (by kernel_rfl))
        have e20 := hv.out 20 (mem_of (by kernel_rfl))
        have g22 := ha.out 22 (mem_of (by kernel_rfl))
        have hj' : (iv 22).2 = (iv 22).1 + 1 ∧ Blk wx ((iv 22).1) 28 [vs 10, vs 20] := hj
        show (iv' 22).2 = (iv' 22).1 + 1 ∧ Blk wx' ((iv' 22).1) 28 [vs' 10, vs' 20]
        rw [← e10, ← e20, ← g22]
        exact ⟨hj'.1, hj'.2.keep (hk.out _ hj'.2.lt ⟨22, mem_of (by kernel_rfl), Or.inl ⟨Nat.le_refl _, by omega⟩⟩)⟩
    case hE =>
      intro i hi iv vs wx hj
      simp only [List.mem_cons, List.not_mem_nil, or_false] at hi
      rcases hi with rfl | rfl | rfl | rfl | rfl | rfl | rfl | rfl | rfl | rfl | rfl | rfl | rfl | rfl | rfl | rfl | rfl | rfl | rfl | rfl | rfl | rfl | rfl | rfl
      · exact hj
      · exact hj
      · exact hj
      · exact hj
      · obtain ⟨s4, c4, q1, -⟩ := hj
        exact ⟨s4, c4, q1⟩
      · exact hj
      · exact hj
      · exact hj
      · exact hj
      · exact hj
      · obtain ⟨g, cap, q1, -⟩ := hj
        exact ⟨g, cap, q1⟩
      · exact hj
      · exact hj
      · exact hj
      · exact hj
      · obtain ⟨s15, c15, q1, -⟩ := hj
        exact ⟨s15, c15, q1⟩
      · exact hj
      · exact hj
      · exact hj
      · exact hj
      · obtain ⟨g, cap, q1, -⟩ := hj
        exact ⟨g, cap, q1⟩
      · exact hj
      · exact ⟨hj.1, hj.2.1⟩
      · trivial
    case hEE =>
      intro i hi iv iv' vs vs' ha hv hj
      simp only [List.mem_cons, List.not_mem_nil, or_false] at hi
      rcases hi with rfl | rfl | rfl | rfl | rfl | rfl | rfl | rfl | rfl | rfl | rfl | rfl | rfl | rfl | rfl | rfl | rfl | rfl | rfl | rfl | rfl | rfl | rfl | rfl
      · have e0 := hv.out 0 (mem_of (by kernel_rfl))
        have hj' : vs 0 = .pointer (some ⟨vb, vo, none⟩) := hj
        show vs' 0 = .pointer (some ⟨vb, vo, none⟩)
        rw [← e0]
        exact hj'
      · have e1 := hv.out 1 (mem_of (by kernel_rfl))
        have hj' : vs 1 = .pointer (some ⟨vb, vo, none⟩) := hj
        show vs' 1 = .pointer (some ⟨vb, vo, none⟩)
        rw [← e1]
        exact hj'
      · have e2 := hv.out 2 (mem_of (by kernel_rfl))
        have hj' : vs 2 = .pointer (some ⟨vb, vo, none⟩) := hj
        show vs' 2 = .pointer (some ⟨vb, vo, none⟩)
        rw [← e2]
        exact hj'
      · have e3 := hv.out 3 (mem_of (by kernel_rfl))
        have hj' : vs 3 = .slice (some ⟨xb, xo, none⟩) xs.length c := hj
        show vs' 3 = .slice (some ⟨xb, xo, none⟩) xs.length c
        rw [← e3]
        exact hj'
      · have e4 := hv.out 4 (mem_of (by kernel_rfl))
        have hj' : ∃ s4 c4, vs 4 = .slice s4 xs.length c4 := hj
        show ∃ s4 c4, vs' 4 = .slice s4 xs.length c4
        rw [← e4]
        exact hj'
      · have e5 := hv.out 5 (mem_of (by kernel_rfl))
        have hj' : vs 5 = .pointer (some ⟨wb, wo, none⟩) := hj
        show vs' 5 = .pointer (some ⟨wb, wo, none⟩)
        rw [← e5]
        exact hj'
      · have e6 := hv.out 6 (mem_of (by kernel_rfl))
        have hj' : vs 6 = .pointer (some ⟨wb, wo, none⟩) := hj
        show vs' 6 = .pointer (some ⟨wb, wo, none⟩)
        rw [← e6]
        exact hj'
      · have e7 := hv.out 7 (mem_of (by kernel_rfl))
        have hj' : vs 7 = .pointer (some ⟨wb, wo, none⟩) := hj
        show vs' 7 = .pointer (some ⟨wb, wo, none⟩)
        rw [← e7]
        exact hj'
      · have e8 := hv.out 8 (mem_of (by kernel_rfl))
        have hj' : vs 8 = .slice (some ⟨ub, uo, none⟩) (u1.length + 1) (c3 + 1) := hj
        show vs' 8 = .slice (some ⟨ub, uo, none⟩) (u1.length + 1) (c3 + 1)
        rw [← e8]
        exact hj'
      · have e9 := hv.out 9 (mem_of (by kernel_rfl))
        have hj' : vs 9 = .slice (some ⟨ub, ad, none⟩) u1.length c3 := hj
        show vs' 9 = .slice (some ⟨ub, ad, none⟩) u1.length c3
        rw [← e9]
        exact hj'
      · have e10 := hv.out 10 (mem_of (by kernel_rfl))
        have hj' : ∃ g cap, vs 10 = .slice g ((xs).length + (u1).length) cap := hj
        show ∃ g cap, vs' 10 = .slice g ((xs).length + (u1).length) cap
        rw [← e10]
        exact hj'
      · have e11 := hv.out 11 (mem_of (by kernel_rfl))
        have hj' : vs 11 = .pointer (some ⟨vb, vo, none⟩) := hj
        show vs' 11 = .pointer (some ⟨vb, vo, none⟩)
        rw [← e11]
        exact hj'
      · have e12 := hv.out 12 (mem_of (by kernel_rfl))
        have hj' : vs 12 = .pointer (some ⟨vb, vo, none⟩) := hj
        show vs' 12 = .pointer (some ⟨vb, vo, none⟩)
        rw [← e12]
        exact hj'
      · have e13 := hv.out 13 (mem_of (by kernel_rfl))
        have hj' : vs 13 = .pointer (some ⟨vb, vo + 1, none⟩) := hj
        show vs' 13 = .pointer (some ⟨vb, vo + 1, none⟩)
        rw [← e13]
        exact hj'
      · have e14 := hv.out 14 (mem_of (by kernel_rfl))
        have hj' : vs 14 = .slice t ys.length d := hj
        show vs' 14 = .slice t ys.length d
        rw [← e14]
        exact hj'
      · have e15 := hv.out 15 (mem_of (by kernel_rfl))
        have hj' : ∃ s15 c15, vs 15 = .slice s15 ys.length c15 := hj
        show ∃ s15 c15, vs' 15 = .slice s15 ys.length c15
        rw [← e15]
        exact hj'
      · have e16 := hv.out 16 (mem_of (by kernel_rfl))
        have hj' : vs 16 = .pointer (some ⟨wb, wo, none⟩) := hj
        show vs' 16 = .pointer (some ⟨wb, wo, none⟩)
        rw [← e16]
        exact hj'
      · have e17 := hv.out 17 (mem_of (by kernel_rfl))
        have hj' : vs 17 = .pointer (some ⟨wb, wo, none⟩) := hj
        show vs' 17 = .pointer (some ⟨wb, wo, none⟩)
        rw [← e17]
        exact hj'
      · have e18 := hv.out 18 (mem_of (by kernel_rfl))
        have hj' : vs 18 = .pointer (some ⟨wb, wo + 1, none⟩) := hj
        show vs' 18 = .pointer (some ⟨wb, wo + 1, none⟩)
        rw [← e18]
        exact hj'
      · have e19 := hv.out 19 (mem_of (by kernel_rfl))
        have hj' : vs 19 = .slice q vv.length d2 := hj
        show vs' 19 = .slice q vv.length d2
        rw [← e19]
        exact hj'
      · have e20 := hv.out 20 (mem_of (by kernel_rfl))
        have hj' : ∃ g cap, vs 20 = .slice g ((ys).length + (vv).length) cap := hj
        show ∃ g cap, vs' 20 = .slice g ((ys).length + (vv).length) cap
        rw [← e20]
        exact hj'
      · have e10 := hv.out 10 (mem_of (by kernel_rfl))
        have e20 := hv.out 20 (mem_of (by kernel_rfl))
        have e21 := hv.out 21 (mem_of (by kernel_rfl))
        have hj' : vs 21 = .agg #[vs 10, vs 20] := hj
        show vs' 21 = .agg #[vs' 10, vs' 20]
        rw [← e10, ← e20, ← e21]
        exact hj'
      · have e22 := hv.out 22 (mem_of (by kernel_rfl))
        have g22 := ha.out 22 (mem_of (by kernel_rfl))
        have hj' : vs 22 = .pointer (some ⟨(iv 22).1, 0, none⟩) ∧ (iv 22).2 = (iv 22).1 + 1 := hj
        show vs' 22 = .pointer (some ⟨(iv' 22).1, 0, none⟩) ∧ (iv' 22).2 = (iv' 22).1 + 1
        rw [← e22, ← g22]
        exact hj'
      · trivial
    case hstep =>
      intro i hi opr ho iv vs w1 hB hS hd he hbd hsep K hK
      simp only [List.mem_cons, List.not_mem_nil, or_false] at hi
      have hzB := hB.size
      have hBw1 : Below w.heap.size w w1 := hB0.trans (hB.mono hB0.size)
      have v0 := (hBw1.cell (p := ⟨vb, vo, none⟩) hvl).trans V0.out
      have w0 := (hBw1.cell (p := ⟨wb, wo, none⟩) hwl).trans W0.out
      have v1 := (hBw1.cell (p := ⟨vb, vo + 1, none⟩) hvl).trans V1.out
      have w01 := (hBw1.cell (p := ⟨wb, wo + 1, none⟩) hwl).trans W1.out
      have hr1 := hr.below hBw1
      have hq1 := hq.below hBw1
      have hq3 := hq2.below hBw1
      have hD1 := hD.below hBw1
      rcases hi with rfl | rfl | rfl | rfl | rfl | rfl | rfl | rfl | rfl | rfl | rfl | rfl | rfl | rfl | rfl | rfl | rfl | rfl | rfl | rfl | rfl | rfl | rfl | rfl
      all_goals
        simp at ho
        subst ho
        simp only [putFrom, Act.put, List.setIfInBounds_toArray, List.set_cons_succ, List.set_cons_zero]
      · go_wp2_with fail
        exact Onward.mk (hK (.pointer (some ⟨vb, vo, none⟩)) _ _ (by simp) (by simp only [putFrom, Act.put, List.setIfInBounds_toArray, List.set_cons_succ, List.set_cons_zero]) (Spares.of_below (Below.refl _ _)) (fun iv' _ _ => rfl))
      · have h0 : vs 0 = .pointer (some ⟨vb, vo, none⟩) := hd.out 0 (mem_of (by kernel_rfl)) (by decide) (by kernel_rfl)
        go_wp2_with fail
        exact Onward.mk (hK (.pointer (some ⟨vb, vo, none⟩)) _ _ (by simp) (by simp only [putFrom, Act.put, List.setIfInBounds_toArray, List.set_cons_succ, List.set_cons_zero, h0]) (Spares.of_below (Below.refl _ _)) (fun iv' _ _ => rfl))
      · have h1 : vs 1 = .pointer (some ⟨vb, vo, none⟩) := hd.out 1 (mem_of (by kernel_rfl)) (by decide) (by kernel_rfl)
        go_wp2_with fail
        exact Onward.mk (hK (.pointer (some ⟨vb, vo, none⟩)) _ _ (by simp) (by simp only [putFrom, Act.put, List.setIfInBounds_toArray, List.set_cons_succ, List.set_cons_zero, h1]) (Spares.of_below (Below.refl _ _)) (fun iv' _ _ => rfl))
      · have h2 : vs 2 = .pointer (some ⟨vb, vo, none⟩) := hd.out 2 (mem_of (by kernel_rfl)) (by decide) (by kernel_rfl)
        go_wp2_with fail
        exact Onward.mk (hK (.slice (some ⟨xb, xo, none⟩) xs.length c) _ _ (by simp) (by simp only [putFrom, Act.put, List.setIfInBounds_toArray, List.set_cons_succ, List.set_cons_zero, h2]) (Spares.of_below (Below.refl _ _)) (fun iv' _ _ => rfl))
      · have h3 : vs 3 = .slice (some ⟨xb, xo, none⟩) xs.length c := hd.out 3 (mem_of (by kernel_rfl)) (by decide) (by kernel_rfl)
        go_wp2_with fail
        refine (own_ints hr1 (by omega)).mono ?_
        rintro e w2 ⟨s4, c4, rfl, hf, hb⟩
        go_wp2_with fail
        exact Onward.mk (hK (.slice s4 xs.length c4) _ _ (by simp) (by simp only [putFrom, Act.put, List.setIfInBounds_toArray, List.set_cons_succ, List.set_cons_zero, h3]) (Spares.of_below hb) (fun iv' _ hi => ⟨s4, c4, rfl, by rw [hi]; exact hf.ows _ (Nat.le_refl _) (Nat.le_refl _)⟩))
      · go_wp2_with fail
        exact Onward.mk (hK (.pointer (some ⟨wb, wo, none⟩)) _ _ (by simp) (by simp only [putFrom, Act.put, List.setIfInBounds_toArray, List.set_cons_succ, List.set_cons_zero]) (Spares.of_below (Below.refl _ _)) (fun iv' _ _ => rfl))
      · have h5 : vs 5 = .pointer (some ⟨wb, wo, none⟩) := hd.out 5 (mem_of (by kernel_rfl)) (by decide) (by kernel_rfl)
        go_wp2_with fail
        exact Onward.mk (hK (.pointer (some ⟨wb, wo, none⟩)) _ _ (by simp) (by simp only [putFrom, Act.put, List.setIfInBounds_toArray, List.set_cons_succ, List.set_cons_zero, h5]) (Spares.of_below (Below.refl _ _)) (fun iv' _ _ => rfl))
      · have h6 : vs 6 = .pointer (some ⟨wb, wo, none⟩) := hd.out 6 (mem_of (by kernel_rfl)) (by decide) (by kernel_rfl)
        go_wp2_with fail
        exact Onward.mk (hK (.pointer (some ⟨wb, wo, none⟩)) _ _ (by simp) (by simp only [putFrom, Act.put, List.setIfInBounds_toArray, List.set_cons_succ, List.set_cons_zero, h6]) (Spares.of_below (Below.refl _ _)) (fun iv' _ _ => rfl))
      · have h7 : vs 7 = .pointer (some ⟨wb, wo, none⟩) := hd.out 7 (mem_of (by kernel_rfl)) (by decide) (by kernel_rfl)
        go_wp2_with fail
        exact Onward.mk (hK (.slice (some ⟨ub, uo, none⟩) (u1.length + 1) (c3 + 1)) _ _ (by simp) (by simp only [putFrom, Act.put, List.setIfInBounds_toArray, List.set_cons_succ, List.set_cons_zero, h7]) (Spares.of_below (Below.refl _ _)) (fun iv' _ _ => rfl))
      · have h8 : vs 8 = .slice (some ⟨ub, uo, none⟩) (u1.length + 1) (c3 + 1) := hd.out 8 (mem_of (by kernel_rfl)) (by decide) (by kernel_rfl)
        go_wp2_with fail
        all_goals refine Onward.mk (hK (.slice (some ⟨ub, ad, none⟩) u1.length c3) _ _ (by simp) ?_ (Spares.of_below (Below.refl _ _)) (fun iv' _ _ => rfl))
        all_goals simp only [putFrom, Act.put, List.setIfInBounds_toArray, List.set_cons_succ, List.set_cons_zero, h8]
        all_goals first
          | (have hz : c3 = 0 := by assumption
             rw [Had.out.1 hz, hz])
          | (have hz : ¬ c3 = 0 := by assumption
             rw [Had.out.2 hz])
      · obtain ⟨s4, c4, h4, f4⟩ := hd.out 4 (mem_of (by kernel_rfl)) (by decide) (by kernel_rfl)
        have h9 : vs 9 = .slice (some ⟨ub, ad, none⟩) u1.length c3 := hd.out 9 (mem_of (by kernel_rfl)) (by decide) (by kernel_rfl)
        simp only [h4, h9]
        refine wpList_append_ints_s w1 (by rfl) _ _ 24 (by rfl) 2 Try.underlying24 info_int64 (S := (fun b => (iv 4).1 ≤ b ∧ b < (iv 4).2)) (zs := xs) (ys := u1) _ (by rfl) f4 (by rfl) hD1 (by omega) ?_
        intro g cap w2 hap ht
        go_wp2_with fail
        exact Onward.mk (hK (.slice g ((xs).length + (u1).length) cap) _ _ (by simp) (by simp only [putFrom, Act.put, List.setIfInBounds_toArray, List.set_cons_succ, List.set_cons_zero, h4, h9]) (ht.more (fun b h => Or.inr ⟨4, by decide, foot_own h.1 h.2⟩)) (fun iv' ag hi => ⟨g, cap, rfl, hap.more (fun b _ h => by rcases h with h | h; exact foot_iv (by kernel_rfl) ag h.1 h.2; exact foot_new hi h.1 h.2)⟩))
      · go_wp2_with fail
        exact Onward.mk (hK (.pointer (some ⟨vb, vo, none⟩)) _ _ (by simp) (by simp only [putFrom, Act.put, List.setIfInBounds_toArray, List.set_cons_succ, List.set_cons_zero]) (Spares.of_below (Below.refl _ _)) (fun iv' _ _ => rfl))
      · have h11 : vs 11 = .pointer (some ⟨vb, vo, none⟩) := hd.out 11 (mem_of (by kernel_rfl)) (by decide) (by kernel_rfl)
        go_wp2_with fail
        exact Onward.mk (hK (.pointer (some ⟨vb, vo, none⟩)) _ _ (by simp) (by simp only [putFrom, Act.put, List.setIfInBounds_toArray, List.set_cons_succ, List.set_cons_zero, h11]) (Spares.of_below (Below.refl _ _)) (fun iv' _ _ => rfl))
      · have h12 : vs 12 = .pointer (some ⟨vb, vo, none⟩) := hd.out 12 (mem_of (by kernel_rfl)) (by decide) (by kernel_rfl)
        go_wp2_with fail
        exact Onward.mk (hK (.pointer (some ⟨vb, vo + 1, none⟩)) _ _ (by simp) (by simp only [putFrom, Act.put, List.setIfInBounds_toArray, List.set_cons_succ, List.set_cons_zero, h12]) (Spares.of_below (Below.refl _ _)) (fun iv' _ _ => rfl))
      · have h13 : vs 13 = .pointer (some ⟨vb, vo + 1, none⟩) := hd.out 13 (mem_of (by kernel_rfl)) (by decide) (by kernel_rfl)
        go_wp2_with fail
        exact Onward.mk (hK (.slice t ys.length d) _ _ (by simp) (by simp only [putFrom, Act.put, List.setIfInBounds_toArray, List.set_cons_succ, List.set_cons_zero, h13]) (Spares.of_below (Below.refl _ _)) (fun iv' _ _ => rfl))
      · have h14 : vs 14 = .slice t ys.length d := hd.out 14 (mem_of (by kernel_rfl)) (by decide) (by kernel_rfl)
        go_wp2_with fail
        refine (own_ints hq1 (by omega)).mono ?_
        rintro e w2 ⟨s15, c15, rfl, hf, hb⟩
        go_wp2_with fail
        exact Onward.mk (hK (.slice s15 ys.length c15) _ _ (by simp) (by simp only [putFrom, Act.put, List.setIfInBounds_toArray, List.set_cons_succ, List.set_cons_zero, h14]) (Spares.of_below hb) (fun iv' _ hi => ⟨s15, c15, rfl, by rw [hi]; exact hf.ows _ (Nat.le_refl _) (Nat.le_refl _)⟩))
      · go_wp2_with fail
        exact Onward.mk (hK (.pointer (some ⟨wb, wo, none⟩)) _ _ (by simp) (by simp only [putFrom, Act.put, List.setIfInBounds_toArray, List.set_cons_succ, List.set_cons_zero]) (Spares.of_below (Below.refl _ _)) (fun iv' _ _ => rfl))
      · have h16 : vs 16 = .pointer (some ⟨wb, wo, none⟩) := hd.out 16 (mem_of (by kernel_rfl)) (by decide) (by kernel_rfl)
        go_wp2_with fail
        exact Onward.mk (hK (.pointer (some ⟨wb, wo, none⟩)) _ _ (by simp) (by simp only [putFrom, Act.put, List.setIfInBounds_toArray, List.set_cons_succ, List.set_cons_zero, h16]) (Spares.of_below (Below.refl _ _)) (fun iv' _ _ => rfl))
      · have h17 : vs 17 = .pointer (some ⟨wb, wo, none⟩) := hd.out 17 (mem_of (by kernel_rfl)) (by decide) (by kernel_rfl)
        go_wp2_with fail
        exact Onward.mk (hK (.pointer (some ⟨wb, wo + 1, none⟩)) _ _ (by simp) (by simp only [putFrom, Act.put, List.setIfInBounds_toArray, List.set_cons_succ, List.set_cons_zero, h17]) (Spares.of_below (Below.refl _ _)) (fun iv' _ _ => rfl))
      · have h18 : vs 18 = .pointer (some ⟨wb, wo + 1, none⟩) := hd.out 18 (mem_of (by kernel_rfl)) (by decide) (by kernel_rfl)
        go_wp2_with fail
        exact Onward.mk (hK (.slice q vv.length d2) _ _ (by simp) (by simp only [putFrom, Act.put, List.setIfInBounds_toArray, List.set_cons_succ, List.set_cons_zero, h18]) (Spares.of_below (Below.refl _ _)) (fun iv' _ _ => rfl))
      · obtain ⟨s15, c15, h15, f15⟩ := hd.out 15 (mem_of (by kernel_rfl)) (by decide) (by kernel_rfl)
        have h19 : vs 19 = .slice q vv.length d2 := hd.out 19 (mem_of (by kernel_rfl)) (by decide) (by kernel_rfl)
        simp only [h15, h19]
        refine wpList_append_ints_s w1 (by rfl) _ _ 24 (by rfl) 2 Try.underlying24 info_int64 (S := (fun b => (iv 15).1 ≤ b ∧ b < (iv 15).2)) (zs := ys) (ys := vv) _ (by rfl) f15 (by rfl) hq3 (by omega) ?_
        intro g cap w2 hap ht
        go_wp2_with fail
        exact Onward.mk (hK (.slice g ((ys).length + (vv).length) cap) _ _ (by simp) (by simp only [putFrom, Act.put, List.setIfInBounds_toArray, List.set_cons_succ, List.set_cons_zero, h15, h19]) (ht.more (fun b h => Or.inr ⟨15, by decide, foot_own h.1 h.2⟩)) (fun iv' ag hi => ⟨g, cap, rfl, hap.more (fun b _ h => by rcases h with h | h; exact foot_iv (by kernel_rfl) ag h.1 h.2; exact foot_new hi h.1 h.2)⟩))
      · obtain ⟨g10, cap10, h10, f10⟩ := hd.out 10 (mem_of (by kernel_rfl)) (by decide) (by kernel_rfl)
        obtain ⟨g20, cap20, h20, f20⟩ := hd.out 20 (mem_of (by kernel_rfl)) (by decide) (by kernel_rfl)
        go_wp2_with fail
        exact Onward.mk (hK (.agg #[.slice g10 (xs.length + u1.length) cap10, .slice g20 (ys.length + vv.length) cap20]) _ _ (by simp) (by simp only [putFrom, Act.put, List.setIfInBounds_toArray, List.set_cons_succ, List.set_cons_zero, h10, h20]) (Spares.of_below (Below.refl _ _)) (fun iv' _ _ => by
          show (.agg #[.slice g10 (xs.length + u1.length) cap10, .slice g20 (ys.length + vv.length) cap20] : Value) = .agg #[vs 10, vs 20]
          simp only [h10, h20]))
      · go_wp2_with fail
        exact Onward.mk (hK (.pointer (some ⟨w1.heap.size, 0, none⟩)) _ _ (by simp) (by simp only [putFrom, Act.put, List.setIfInBounds_toArray, List.set_cons_succ, List.set_cons_zero]) (Spares.of_below (Below.alloc (Below.refl _ _) (Nat.le_refl _) _)) (fun iv' _ hi => by
          show Value.pointer (some ⟨w1.heap.size, 0, none⟩) = .pointer (some ⟨(iv' 22).1, 0, none⟩) ∧ (iv' 22).2 = (iv' 22).1 + 1 ∧ Blk _ (iv' 22).1 28 [.slice none 0 0, .slice none 0 0]
          rw [hi]
          exact ⟨rfl, by simp, Blk.new2 _ _ _ _⟩))
      · have h21 : vs 21 = .agg #[vs 10, vs 20] := hd.out 21 (mem_of (by kernel_rfl)) (by decide) (by kernel_rfl)
        obtain ⟨g10, cap10, h10, f10⟩ := hd.out 10 (mem_of (by kernel_rfl)) (by decide) (by kernel_rfl)
        obtain ⟨g20, cap20, h20, f20⟩ := hd.out 20 (mem_of (by kernel_rfl)) (by decide) (by kernel_rfl)
        obtain ⟨h22, q22, f22⟩ := hd.out 22 (mem_of (by kernel_rfl)) (by decide) (by kernel_rfl)
        have bc0 := f22.c0
        have bz0 := f22.frozen 0
        have bc1 := f22.c1
        have bz1 := f22.frozen 1
        have blt := f22.lt
        go_wp2_with fail
        exact Onward.mk (hK undef _ _ (fun _ => rfl) (by simp only [putFrom, Act.put, List.setIfInBounds_toArray, List.set_cons_succ, List.set_cons_zero, h21, h10, h20, h22]) ((spares_sets (b0 := (iv 22).1) (by repeat (first | exact Spares.refl _ | apply Spares.set))).more (fun b h => Or.inr ⟨22, by decide, foot_own (by omega) (by omega)⟩)) (fun iv' ag hi => by
          show (iv' 22).2 = (iv' 22).1 + 1 ∧ Blk _ ((iv' 22).1) 28 [vs 10, vs 20]
          rw [← ag.out 22 (mem_of (by kernel_rfl)), h10, h20]
          exact ⟨q22, ((f22.set 0 _).set 1 _)⟩))
    case hQ =>
      intro iv vs wx hB hSp hd he hbd hsep
      have hzB := hB.size
      have h0 : vs 0 = .pointer (some ⟨vb, vo, none⟩) := hd.out 0 (mem_of (by kernel_rfl)) (not_eaten (by kernel_rfl))
      have h1 : vs 1 = .pointer (some ⟨vb, vo, none⟩) := hd.out 1 (mem_of (by kernel_rfl)) (not_eaten (by kernel_rfl))
      have h2 : vs 2 = .pointer (some ⟨vb, vo, none⟩) := hd.out 2 (mem_of (by kernel_rfl)) (not_eaten (by kernel_rfl))
      have h3 : vs 3 = .slice (some ⟨xb, xo, none⟩) xs.length c := hd.out 3 (mem_of (by kernel_rfl)) (not_eaten (by kernel_rfl))
      obtain ⟨s4, c4, h4⟩ := he.out 4 (mem_of (by kernel_rfl))
      have h5 : vs 5 = .pointer (some ⟨wb, wo, none⟩) := hd.out 5 (mem_of (by kernel_rfl)) (not_eaten (by kernel_rfl))
      have h6 : vs 6 = .pointer (some ⟨wb, wo, none⟩) := hd.out 6 (mem_of (by kernel_rfl)) (not_eaten (by kernel_rfl))
      have h7 : vs 7 = .pointer (some ⟨wb, wo, none⟩) := hd.out 7 (mem_of (by kernel_rfl)) (not_eaten (by kernel_rfl))
      have h8 : vs 8 = .slice (some ⟨ub, uo, none⟩) (u1.length + 1) (c3 + 1) := hd.out 8 (mem_of (by kernel_rfl)) (not_eaten (by kernel_rfl))
      have h9 : vs 9 = .slice (some ⟨ub, ad, none⟩) u1.length c3 := hd.out 9 (mem_of (by kernel_rfl)) (not_eaten (by kernel_rfl))
      obtain ⟨g10, cap10, h10, f10⟩ := hd.out 10 (mem_of (by kernel_rfl)) (not_eaten (by kernel_rfl))
      have h11 : vs 11 = .pointer (some ⟨vb, vo, none⟩) := hd.out 11 (mem_of (by kernel_rfl)) (not_eaten (by kernel_rfl))
      have h12 : vs 12 = .pointer (some ⟨vb, vo, none⟩) := hd.out 12 (mem_of (by kernel_rfl)) (not_eaten (by kernel_rfl))
      have h13 : vs 13 = .pointer (some ⟨vb, vo + 1, none⟩) := hd.out 13 (mem_of (by kernel_rfl)) (not_eaten (by kernel_rfl))
      have h14 : vs 14 = .slice t ys.length d := hd.out 14 (mem_of (by kernel_rfl)) (not_eaten (by kernel_rfl))
      obtain ⟨s15, c15, h15⟩ := he.out 15 (mem_of (by kernel_rfl))
      have h16 : vs 16 = .pointer (some ⟨wb, wo, none⟩) := hd.out 16 (mem_of (by kernel_rfl)) (not_eaten (by kernel_rfl))
      have h17 : vs 17 = .pointer (some ⟨wb, wo, none⟩) := hd.out 17 (mem_of (by kernel_rfl)) (not_eaten (by kernel_rfl))
      have h18 : vs 18 = .pointer (some ⟨wb, wo + 1, none⟩) := hd.out 18 (mem_of (by kernel_rfl)) (not_eaten (by kernel_rfl))
      have h19 : vs 19 = .slice q vv.length d2 := hd.out 19 (mem_of (by kernel_rfl)) (not_eaten (by kernel_rfl))
      obtain ⟨g20, cap20, h20, f20⟩ := hd.out 20 (mem_of (by kernel_rfl)) (not_eaten (by kernel_rfl))
      have h21 : vs 21 = .agg #[vs 10, vs 20] := hd.out 21 (mem_of (by kernel_rfl)) (not_eaten (by kernel_rfl))
      obtain ⟨h22, q22⟩ := he.out 22 (mem_of (by kernel_rfl))
      obtain ⟨q23, f23⟩ := hd.out 23 (mem_of (by kernel_rfl)) (not_eaten (by kernel_rfl))
      have lo10 : ∀ b, foot [(10, 4), (20, 15), (23, 22)] [] (fun _ _ => False) 24 10 iv b → (wz.heap.size) ≤ b := by
        rintro b ⟨j, hj, hh⟩
        have hj' := of_decide_eq_true (List.all_eq_true.1 (show ((chainOf [(10, 4), (20, 15), (23, 22)] 24 10).all fun j => decide (j ∈ [10, 4])) = true from by kernel_rfl) j hj)
        simp only [List.mem_cons, List.not_mem_nil, or_false] at hj'
        rcases hj' with rfl | rfl
        · have q := (hbd.out 10 (mem_of (by kernel_rfl))).1
          rcases hh with hh | ⟨m, hm, hg⟩
          · omega
          · simp at hm
        · have q := (hbd.out 4 (mem_of (by kernel_rfl))).1
          rcases hh with hh | ⟨m, hm, hg⟩
          · omega
          · simp at hm
      have lo20 : ∀ b, foot [(10, 4), (20, 15), (23, 22)] [] (fun _ _ => False) 24 20 iv b → (wz.heap.size) ≤ b := by
        rintro b ⟨j, hj, hh⟩
        have hj' := of_decide_eq_true (List.all_eq_true.1 (show ((chainOf [(10, 4), (20, 15), (23, 22)] 24 20).all fun j => decide (j ∈ [20, 15])) = true from by kernel_rfl) j hj)
        simp only [List.mem_cons, List.not_mem_nil, or_false] at hj'
        rcases hj' with rfl | rfl
        · have q := (hbd.out 20 (mem_of (by kernel_rfl))).1
          rcases hh with hh | ⟨m, hm, hg⟩
          · omega
          · simp at hm
        · have q := (hbd.out 15 (mem_of (by kernel_rfl))).1
          rcases hh with hh | ⟨m, hm, hg⟩
          · omega
          · simp at hm
      have hdis10_20 : ∀ b, foot [(10, 4), (20, 15), (23, 22)] [] (fun _ _ => False) 24 10 iv b → foot [(10, 4), (20, 15), (23, 22)] [] (fun _ _ => False) 24 20 iv b → False := by
        rintro b ⟨j, hj, hh⟩ ⟨k, hk, hh'⟩
        have hj' := of_decide_eq_true (List.all_eq_true.1 (show ((chainOf [(10, 4), (20, 15), (23, 22)] 24 10).all fun j => decide (j ∈ [10, 4])) = true from by kernel_rfl) j hj)
        have hk' := of_decide_eq_true (List.all_eq_true.1 (show ((chainOf [(10, 4), (20, 15), (23, 22)] 24 20).all fun j => decide (j ∈ [20, 15])) = true from by kernel_rfl) k hk)
        have hjl : j ∈ [0, 1, 2, 3, 4, 5, 6, 7, 8, 9, 10, 11, 12, 13, 14, 15, 16, 17, 18, 19, 20, 21, 22, 23] := by simp only [List.mem_cons, List.not_mem_nil, or_false] at hj' ⊢; omega
        have hkl : k ∈ [0, 1, 2, 3, 4, 5, 6, 7, 8, 9, 10, 11, 12, 13, 14, 15, 16, 17, 18, 19, 20, 21, 22, 23] := by simp only [List.mem_cons, List.not_mem_nil, or_false] at hk' ⊢; omega
        have hjk : j ≠ k := by simp only [List.mem_cons, List.not_mem_nil, or_false] at hj' hk'; omega
        have hs := hsep.out j hjl k hkl hjk
        unfold Sep at hs
        rcases hh with hh | ⟨m, hm, hg⟩
        · rcases hh' with hh' | ⟨m, hm, hg⟩
          · omega
          · exact hg.elim
        · exact hg.elim
      simp only [putFrom, Act.put, List.setIfInBounds_toArray, List.set_cons_succ, List.set_cons_zero]
      rw [h10, h20] at f23
      have o1 := (AppS.own (zs := xs ++ u1) (by rw [List.length_append]; exact f10)).pair (AppS.own (zs := ys ++ vv) (by rw [List.length_append]; exact f20)) (W := wz) (fun b _ h1 h2 => hdis10_20 b h1 h2) lo10 lo20
      obtain ⟨nb, hnb⟩ : ∃ nb, (iv 22).1 = nb := ⟨_, rfl⟩
      have b22 := hbd.out 22 (mem_of (by kernel_rfl))
      rw [hnb] at f23 h22 b22
      simp only [h22]
      have hBx : Below w.heap.size w wx := hB0.trans (hB.mono hB0.size)
      replace R0 := R0.below hB
      have n0 := f23.c0
      have n1 := f23.c1
      have nl := f23.lt
      have r0 := R0.c0
      have r1 := R0.c1
      have y0 := R0.frozen 0
      have y1 := R0.frozen 1
      have rl := R0.lt
      clear hd he hbd hsep h0 h1 h2 h3 h4 h5 h6 h7 h8 h9 h10 h11 h12 h13 h14 h15 h16 h17 h18 h19 h20 h21 f10 f20 hdis10_20 lo10 lo20
      go_wp2_with fail
      have R' := (R0.set 0 (.slice g10 (xs.length + u1.length) cap10)).set 1 (.slice g20 (ys.length + vv.length) cap20)
      have d0 := R'.c0
      have d1 := R'.c1
      refine bodyPost_ret (v := .tuple #[.agg #[.slice g10 (xs.length + u1.length) cap10, .slice g20 (ys.length + vv.length) cap20], .bool true]) (by simp [results, Try.results58, go_sem, d0, d1]) rfl ⟨g10, cap10, g20, cap20, by rw [List.length_append, List.length_append], ?_, by (repeat' (first | exact Below.refl _ _ | assumption | (refine Below.alloc ?_ (by first | omega | (simp; done) | (simp; omega)) _) | (refine Below.drew ?_) | (refine Below.setCell ?_ (by first | omega | (simp; done) | (simp; omega)) _)))⟩
      rw [List.length_append, List.length_append]
      refine (o1.keep fun b hb1 hb2 => ?_).from hB0.size
      repeat rw [Below.heap_setCell _ _ _ _ (by show b ≠ w.heap.size; omega)]

set_option maxHeartbeats 16000000 in
/-- The words do not fit. -/
theorem l01Fuse_no {xs ys us vv : List Int} {vb vo wb wo : Nat} {w : World} (hv : WdAt w vb vo xs ys) (hw : WdAt w wb wo us vv) (hx : xs.length = ys.length + 1) (hu : us.length = vv.length + 1) (hy : ys.length ≤ 10) (hvv : vv.length ≤ 10)
    (heq : ¬ xs[ys.length]? = us[0]?) :
    Calls Try.prog 58 #[.pointer (some ⟨vb, vo, none⟩), .pointer (some ⟨wb, wo, none⟩)] w fun e w' => e = .returned (.tuple #[.agg #[.slice none 0 0, .slice none 0 0], .bool false]) ∧ Below w.heap.size w w' := by
  obtain ⟨s, c, t, d, v0, v1, hr, hq⟩ := hv
  obtain ⟨p, c2, q, d2, w0, w1, hr2, hq2⟩ := hw
  obtain ⟨x, hxx⟩ : ∃ x, xs[ys.length]? = some x := ⟨_, List.getElem?_eq_getElem (by omega)⟩
  obtain ⟨y, hyy⟩ : ∃ y, us[0]? = some y := ⟨_, List.getElem?_eq_getElem (by omega)⟩
  have hne : ¬ x = y := fun e => heq (by rw [hxx, hyy, e])
  clear heq
  obtain ⟨xb, xo, rfl⟩ := int_some hr (by omega)
  obtain ⟨ub, uo, rfl⟩ := int_some hr2 (by omega)
  obtain ⟨-, x1, x2, -⟩ := hr.sl_at
  obtain ⟨-, u3, u2, -⟩ := hr2.sl_at
  unfold maxLen at x2 u2
  have hU := (int_in hr2 hyy).2
  simp only [Nat.add_zero] at hU
  have hvl := World.block_lt_of_cell? w _ v0
  have hwl := World.block_lt_of_cell? w _ w0
  have hul := World.block_lt_of_cell? w _ hU
  rw [show ys.length = xs.length - 1 by omega] at hxx
  have hG := (int_in hr hxx).2
  have hxl := World.block_lt_of_cell? w _ hG
  have V0 := Lib.hid v0
  have W0 := Lib.hid w0
  have HG := Lib.hid hG
  have HU := Lib.hid hU
  have hx1 : 1 ≤ xs.length := by omega
  have hx2 : xs.length ≤ 11 := by omega
  have hu1 : 1 ≤ us.length := by omega
  have hx3 : (0 : Int) ≤ (xs.length : Int) - 1 := by omega
  have b1 : (x != y) = true := by simp [hne]
  have Hb1 := Lib.hid b1
  clear v0 v1 w0 w1 hxx hyy hG hU hx hu hne b1
  go_enter Try.func58, Try.ntmps58
  go_wp2_with fail
  have R0 := Blk.new2 w 28 (.slice none 0 0) (.slice none 0 0)
  have hB0 : Below w.heap.size w (w.alloc (.cells #[.slice none 0 0, .slice none 0 0] 28)) := by (repeat' (first | exact Below.refl _ _ | assumption | (refine Below.alloc ?_ (by first | omega | (simp; done) | (simp; omega)) _) | (refine Below.drew ?_) | (refine Below.setCell ?_ (by first | omega | (simp; done) | (simp; omega)) _)))
  generalize (w.alloc (.cells #[.slice none 0 0, .slice none 0 0] 28)) = wa at R0 hB0 ⊢
  refine region_rs [] [] (fun _ _ => False) (wa.heap.size) (fun i iv vs wx => match i with
    | 0 => vs 0 = .pointer (some ⟨vb, vo, none⟩)
    | 1 => vs 1 = .pointer (some ⟨vb, vo, none⟩)
    | 2 => vs 2 = .pointer (some ⟨vb, vo, none⟩)
    | 3 => vs 3 = .slice (some ⟨xb, xo, none⟩) xs.length c
    | 4 => vs 4 = .pointer (some ⟨vb, vo, none⟩)
    | 5 => vs 5 = .pointer (some ⟨vb, vo, none⟩)
    | 6 => vs 6 = .pointer (some ⟨vb, vo, none⟩)
    | 7 => vs 7 = .slice (some ⟨xb, xo, none⟩) xs.length c
    | 8 => vs 8 = .int .i64 xs.length
    | 9 => vs 9 = .int .i64 (↑xs.length - 1)
    | 10 => vs 10 = .pointer (some ⟨xb, xo + (xs.length - 1), none⟩)
    | 11 => vs 11 = .int .i64 x
    | 12 => vs 12 = .pointer (some ⟨wb, wo, none⟩)
    | 13 => vs 13 = .pointer (some ⟨wb, wo, none⟩)
    | 14 => vs 14 = .pointer (some ⟨wb, wo, none⟩)
    | 15 => vs 15 = .slice (some ⟨ub, uo, none⟩) us.length c2
    | 16 => vs 16 = .pointer (some ⟨ub, uo, none⟩)
    | 17 => vs 17 = .int .i64 y
    | 18 => vs 18 = .bool (x != y)
    | _ => True) (fun i iv vs => match i with
    | 0 => vs 0 = .pointer (some ⟨vb, vo, none⟩)
    | 1 => vs 1 = .pointer (some ⟨vb, vo, none⟩)
    | 2 => vs 2 = .pointer (some ⟨vb, vo, none⟩)
    | 3 => vs 3 = .slice (some ⟨xb, xo, none⟩) xs.length c
    | 4 => vs 4 = .pointer (some ⟨vb, vo, none⟩)
    | 5 => vs 5 = .pointer (some ⟨vb, vo, none⟩)
    | 6 => vs 6 = .pointer (some ⟨vb, vo, none⟩)
    | 7 => vs 7 = .slice (some ⟨xb, xo, none⟩) xs.length c
    | 8 => vs 8 = .int .i64 xs.length
    | 9 => vs 9 = .int .i64 (↑xs.length - 1)
    | 10 => vs 10 = .pointer (some ⟨xb, xo + (xs.length - 1), none⟩)
    | 11 => vs 11 = .int .i64 x
    | 12 => vs 12 = .pointer (some ⟨wb, wo, none⟩)
    | 13 => vs 13 = .pointer (some ⟨wb, wo, none⟩)
    | 14 => vs 14 = .pointer (some ⟨wb, wo, none⟩)
    | 15 => vs 15 = .slice (some ⟨ub, uo, none⟩) us.length c2
    | 16 => vs 16 = .pointer (some ⟨ub, uo, none⟩)
    | 17 => vs 17 = .int .i64 y
    | 18 => vs 18 = .bool (x != y)
    | _ => True) (by kernel_rfl) (by kernel_rfl) [0, 1, 2, 3, 4, 5, 6, 7, 8, 9, 10, 11, 12, 13, 14, 15, 16, 17, 18] (by kernel_rfl) ?hbase ?hGb ?hG ?hJ ?hE ?hEE ?hstep ?hQ
  case hbase => first | exact Nat.le_refl _ | omega | (simp; omega)
  case hGb =>
    exact fun _ _ h => h.elim
  case hG =>
    exact fun _ _ _ h => h.elim
  case hJ =>
    intro i hi iv iv' vs vs' wx wx' ha hv hz hk hj
    simp only [List.mem_cons, List.not_mem_nil, or_false] at hi
    rcases hi with rfl | rfl | rfl | rfl | rfl | rfl | rfl | rfl | rfl | rfl | rfl | rfl | rfl | rfl | rfl | rfl | rfl | rfl | rfl
    · have e0 := hv.out 0 (mem_of (by kernel_rfl))
      have hj' : vs 0 = .pointer (some ⟨vb, vo, none⟩) := hj
      show vs' 0 = .pointer (some ⟨vb, vo, none⟩)
      rw [← e0]
      exact hj'
    · have e1 := hv.out 1 (mem_of (by kernel_rfl))
      have hj' : vs 1 = .pointer (some ⟨vb, vo, none⟩) := hj
      show vs' 1 = .pointer (some ⟨vb, vo, none⟩)
      rw [← e1]
      exact hj'
    · have e2 := hv.out 2 (mem_of (by kernel_rfl))
      have hj' : vs 2 = .pointer (some ⟨vb, vo, none⟩) := hj
      show vs' 2 = .pointer (some ⟨vb, vo, none⟩)
      rw [← e2]
      exact hj'
    · have e3 := hv.out 3 (mem_of (by kernel_rfl))
      have hj' : vs 3 = .slice (some ⟨xb, xo, none⟩) xs.length c := hj
      show vs' 3 = .slice (some ⟨xb, xo, none⟩) xs.length c
      rw [← e3]
      exact hj'
    · have e4 := hv.out 4 (mem_of (by kernel_rfl))
      have hj' : vs 4 = .pointer (some ⟨vb, vo, none⟩) := hj
      show vs' 4 = .pointer (some ⟨vb, vo, none⟩)
      rw [← e4]
      exact hj'
    · have e5 := hv.out 5 (mem_of (by kernel_rfl))
      have hj' : vs 5 = .pointer (some ⟨vb, vo, none⟩) := hj
      show vs' 5 = .pointer (some ⟨vb, vo, none⟩)
      rw [← e5]
      exact hj'
    · have e6 := hv.out 6 (mem_of (by kernel_rfl))
      have hj' : vs 6 = .pointer (some ⟨vb, vo, none⟩) := hj
      show vs' 6 = .pointer (some ⟨vb, vo, none⟩)
      rw [← e6]
      exact hj'
    · have e7 := hv.out 7 (mem_of (by kernel_rfl))
      have hj' : vs 7 = .slice (some ⟨xb, xo, none⟩) xs.length c := hj
      show vs' 7 = .slice (some ⟨xb, xo, none⟩) xs.length c
      rw [← e7]
      exact hj'
    · have e8 := hv.out 8 (mem_of (by kernel_rfl))
      have hj' : vs 8 = .int .i64 xs.length := hj
      show vs' 8 = .int .i64 xs.length
      rw [← e8]
      exact hj'
    · have e9 := hv.out 9 (mem_of (by kernel_rfl))
      have hj' : vs 9 = .int .i64 (↑xs.length - 1) := hj
      show vs' 9 = .int .i64 (↑xs.length - 1)
      rw [← e9]
      exact hj'
    · have e10 := hv.out 10 (mem_of (by kernel_rfl))
      have hj' : vs 10 = .pointer (some ⟨xb, xo + (xs.length - 1), none⟩) := hj
      show vs' 10 = .pointer (some ⟨xb, xo + (xs.length - 1), none⟩)
      rw [← e10]
      exact hj'
    · have e11 := hv.out 11 (mem_of (by kernel_rfl))
      have hj' : vs 11 = .int .i64 x := hj
      show vs' 11 = .int .i64 x
      rw [← e11]
      exact hj'
    · have e12 := hv.out 12 (mem_of (by kernel_rfl))
      have hj' : vs 12 = .pointer (some ⟨wb, wo, none⟩) := hj
      show vs' 12 = .pointer (some ⟨wb, wo, none⟩)
      rw [← e12]
      exact hj'
    · have e13 := hv.out 13 (mem_of (by kernel_rfl))
      have hj' : vs 13 = .pointer (some ⟨wb, wo, none⟩) := hj
      show vs' 13 = .pointer (some ⟨wb, wo, none⟩)
      rw [← e13]
      exact hj'
    · have e14 := hv.out 14 (mem_of (by kernel_rfl))
      have hj' : vs 14 = .pointer (some ⟨wb, wo, none⟩) := hj
      show vs' 14 = .pointer (some ⟨wb, wo, none⟩)
      rw [← e14]
      exact hj'
    · have e15 := hv.out 15 (mem_of (by kernel_rfl))
      have hj' : vs 15 = .slice (some ⟨ub, uo, none⟩) us.length c2 := hj
      show vs' 15 = .slice (some ⟨ub, uo, none⟩) us.length c2
      rw [← e15]
      exact hj'
    · have e16 := hv.out 16 (mem_of (by kernel_rfl))
      have hj' : vs 16 = .pointer (some ⟨ub, uo, none⟩) := hj
      show vs' 16 = .pointer (some ⟨ub, uo, none⟩)
      rw [← e16]
      exact hj'
    · have e17 := hv.out 17 (mem_of (by kernel_rfl))
      have hj' : vs 17 = .int .i64 y := hj
      show vs' 17 = .int .i64 y
      rw [← e17]
      exact hj'
    · have e18 := hv.out 18 (mem_of (by kernel_rfl))
      have hj' : vs 18 = .bool (x != y) := hj
      show vs' 18 = .bool (x != y)
      rw [← e18]
      exact hj'
  case hE =>
    intro i hi iv vs wx hj
    simp only [List.mem_cons, List.not_mem_nil, or_false] at hi
    rcases hi with rfl | rfl | rfl | rfl | rfl | rfl | rfl | rfl | rfl | rfl | rfl | rfl | rfl | rfl | rfl | rfl | rfl | rfl | rfl
    · exact hj
    · exact hj
    · exact hj
    · exact hj
    · exact hj
    · exact hj
    · exact hj
    · exact hj
    · exact hj
    · exact hj
    · exact hj
    · exact hj
    · exact hj
    · exact hj
    · exact hj
    · exact hj
    · exact hj
    · exact hj
    · exact hj
  case hEE =>
    intro i hi iv iv' vs vs' ha hv hj
    simp only [List.mem_cons, List.not_mem_nil, or_false] at hi
    rcases hi with rfl | rfl | rfl | rfl | rfl | rfl | rfl | rfl | rfl | rfl | rfl | rfl | rfl | rfl | rfl | rfl | rfl | rfl | rfl
    · have e0 := hv.out 0 (mem_of (by kernel_rfl))
      have hj' : vs 0 = .pointer (some ⟨vb, vo, none⟩) := hj
      show vs' 0 = .pointer (some ⟨vb, vo, none⟩)
      rw [← e0]
      exact hj'
    · have e1 := hv.out 1 (mem_of (by kernel_rfl))
      have hj' : vs 1 = .pointer (some ⟨vb, vo, none⟩) := hj
      show vs' 1 = .pointer (some ⟨vb, vo, none⟩)
      rw [← e1]
      exact hj'
    · have e2 := hv.out 2 (mem_of (by kernel_rfl))
      have hj' : vs 2 = .pointer (some ⟨vb, vo, none⟩) := hj
      show vs' 2 = .pointer (some ⟨vb, vo, none⟩)
      rw [← e2]
      exact hj'
    · have e3 := hv.out 3 (mem_of (by kernel_rfl))
      have hj' : vs 3 = .slice (some ⟨xb, xo, none⟩) xs.length c := hj
      show vs' 3 = .slice (some ⟨xb, xo, none⟩) xs.length c
      rw [← e3]
      exact hj'
    · have e4 := hv.out 4 (mem_of (by kernel_rfl))
      have hj' : vs 4 = .pointer (some ⟨vb, vo, none⟩) := hj
      show vs' 4 = .pointer (some ⟨vb, vo, none⟩)
      rw [← e4]
      exact hj'
    · have e5 := hv.out 5 (mem_of (by kernel_rfl))
      have hj' : vs 5 = .pointer (some ⟨vb, vo, none⟩) := hj
      show vs' 5 = .pointer (some ⟨vb, vo, none⟩)
      rw [← e5]
      exact hj'
    · have e6 := hv.out 6 (mem_of (by kernel_rfl))
      have hj' : vs 6 = .pointer (some ⟨vb, vo, none⟩) := hj
      show vs' 6 = .pointer (some ⟨vb, vo, none⟩)
      rw [← e6]
      exact hj'
    · have e7 := hv.out 7 (mem_of (by kernel_rfl))
      have hj' : vs 7 = .slice (some ⟨xb, xo, none⟩) xs.length c := hj
      show vs' 7 = .slice (some ⟨xb, xo, none⟩) xs.length c
      rw [← e7]
      exact hj'
    · have e8 := hv.out 8 (mem_of (by kernel_rfl))
      have hj' : vs 8 = .int .i64 xs.length := hj
      show vs' 8 = .int .i64 xs.length
      rw [← e8]
      exact hj'
    · have e9 := hv.out 9 (mem_of (by kernel_rfl))
      have hj' : vs 9 = .int .i64 (↑xs.length - 1) := hj
      show vs' 9 = .int .i64 (↑xs.length - 1)
      rw [← e9]
      exact hj'
    · have e10 := hv.out 10 (mem_of (by kernel_rfl))
      have hj' : vs 10 = .pointer (some ⟨xb, xo + (xs.length - 1), none⟩) := hj
      show vs' 10 = .pointer (some ⟨xb, xo + (xs.length - 1), none⟩)
      rw [← e10]
      exact hj'
    · have e11 := hv.out 11 (mem_of (by kernel_rfl))
      have hj' : vs 11 = .int .i64 x := hj
      show vs' 11 = .int .i64 x
      rw [← e11]
      exact hj'
    · have e12 := hv.out 12 (mem_of (by kernel_rfl))
      have hj' : vs 12 = .pointer (some ⟨wb, wo, none⟩) := hj
      show vs' 12 = .pointer (some ⟨wb, wo, none⟩)
      rw [← e12]
      exact hj'
    · have e13 := hv.out 13 (mem_of (by kernel_rfl))
      have hj' : vs 13 = .pointer (some ⟨wb, wo, none⟩) := hj
      show vs' 13 = .pointer (some ⟨wb, wo, none⟩)
      rw [← e13]
      exact hj'
    · have e14 := hv.out 14 (mem_of (by kernel_rfl))
      have hj' : vs 14 = .pointer (some ⟨wb, wo, none⟩) := hj
      show vs' 14 = .pointer (some ⟨wb, wo, none⟩)
      rw [← e14]
      exact hj'
    · have e15 := hv.out 15 (mem_of (by kernel_rfl))
      have hj' : vs 15 = .slice (some ⟨ub, uo, none⟩) us.length c2 := hj
      show vs' 15 = .slice (some ⟨ub, uo, none⟩) us.length c2
      rw [← e15]
      exact hj'
    · have e16 := hv.out 16 (mem_of (by kernel_rfl))
      have hj' : vs 16 = .pointer (some ⟨ub, uo, none⟩) := hj
      show vs' 16 = .pointer (some ⟨ub, uo, none⟩)
      rw [← e16]
      exact hj'
    · have e17 := hv.out 17 (mem_of (by kernel_rfl))
      have hj' : vs 17 = .int .i64 y := hj
      show vs' 17 = .int .i64 y
      rw [← e17]
      exact hj'
    · have e18 := hv.out 18 (mem_of (by kernel_rfl))
      have hj' : vs 18 = .bool (x != y) := hj
      show vs' 18 = .bool (x != y)
      rw [← e18]
      exact hj'
  case hstep =>
    intro i hi opr ho iv vs w1 hB hS hd he hbd hsep K hK
    simp only [List.mem_cons, List.not_mem_nil, or_false] at hi
    have hzB := hB.size
    have hBw1 : Below w.heap.size w w1 := hB0.trans (hB.mono hB0.size)
    have v0 := (hBw1.cell (p := ⟨vb, vo, none⟩) hvl).trans V0.out
    have w0 := (hBw1.cell (p := ⟨wb, wo, none⟩) hwl).trans W0.out
    have gx := (hBw1.cell (p := ⟨xb, xo + (xs.length - 1), none⟩) hxl).trans HG.out
    have gu := (hBw1.cell (p := ⟨ub, uo, none⟩) hul).trans HU.out
    rcases hi with rfl | rfl | rfl | rfl | rfl | rfl | rfl | rfl | rfl | rfl | rfl | rfl | rfl | rfl | rfl | rfl | rfl | rfl | rfl
    all_goals
      simp at ho
      subst ho
      simp only [putFrom, Act.put, List.setIfInBounds_toArray, List.set_cons_succ, List.set_cons_zero]
    · go_wp2_with fail
      exact Onward.mk (hK (.pointer (some ⟨vb, vo, none⟩)) _ _ (by simp) (by simp only [putFrom, Act.put, List.setIfInBounds_toArray, List.set_cons_succ, List.set_cons_zero]) (Spares.of_below (Below.refl _ _)) (fun iv' _ _ => rfl))
    · have h0 : vs 0 = .pointer (some ⟨vb, vo, none⟩) := hd.out 0 (mem_of (by kernel_rfl)) (by decide) (by kernel_rfl)
      go_wp2_with fail
      exact Onward.mk (hK (.pointer (some ⟨vb, vo, none⟩)) _ _ (by simp) (by simp only [putFrom, Act.put, List.setIfInBounds_toArray, List.set_cons_succ, List.set_cons_zero, h0]) (Spares.of_below (Below.refl _ _)) (fun iv' _ _ => rfl))
    · have h1 : vs 1 = .pointer (some ⟨vb, vo, none⟩) := hd.out 1 (mem_of (by kernel_rfl)) (by decide) (by kernel_rfl)
      go_wp2_with fail
      exact Onward.mk (hK (.pointer (some ⟨vb, vo, none⟩)) _ _ (by simp) (by simp only [putFrom, Act.put, List.setIfInBounds_toArray, List.set_cons_succ, List.set_cons_zero, h1]) (Spares.of_below (Below.refl _ _)) (fun iv' _ _ => rfl))
    · have h2 : vs 2 = .pointer (some ⟨vb, vo, none⟩) := hd.out 2 (mem_of (by kernel_rfl)) (by decide) (by kernel_rfl)
      go_wp2_with fail
      exact Onward.mk (hK (.slice (some ⟨xb, xo, none⟩) xs.length c) _ _ (by simp) (by simp only [putFrom, Act.put, List.setIfInBounds_toArray, List.set_cons_succ, List.set_cons_zero, h2]) (Spares.of_below (Below.refl _ _)) (fun iv' _ _ => rfl))
    · go_wp2_with fail
      exact Onward.mk (hK (.pointer (some ⟨vb, vo, none⟩)) _ _ (by simp) (by simp only [putFrom, Act.put, List.setIfInBounds_toArray, List.set_cons_succ, List.set_cons_zero]) (Spares.of_below (Below.refl _ _)) (fun iv' _ _ => rfl))
    · have h4 : vs 4 = .pointer (some ⟨vb, vo, none⟩) := hd.out 4 (mem_of (by kernel_rfl)) (by decide) (by kernel_rfl)
      go_wp2_with fail
      exact Onward.mk (hK (.pointer (some ⟨vb, vo, none⟩)) _ _ (by simp) (by simp only [putFrom, Act.put, List.setIfInBounds_toArray, List.set_cons_succ, List.set_cons_zero, h4]) (Spares.of_below (Below.refl _ _)) (fun iv' _ _ => rfl))
    · have h5 : vs 5 = .pointer (some ⟨vb, vo, none⟩) := hd.out 5 (mem_of (by kernel_rfl)) (by decide) (by kernel_rfl)
      go_wp2_with fail
      exact Onward.mk (hK (.pointer (some ⟨vb, vo, none⟩)) _ _ (by simp) (by simp only [putFrom, Act.put, List.setIfInBounds_toArray, List.set_cons_succ, List.set_cons_zero, h5]) (Spares.of_below (Below.refl _ _)) (fun iv' _ _ => rfl))
    · have h6 : vs 6 = .pointer (some ⟨vb, vo, none⟩) := hd.out 6 (mem_of (by kernel_rfl)) (by decide) (by kernel_rfl)
      go_wp2_with fail
      exact Onward.mk (hK (.slice (some ⟨xb, xo, none⟩) xs.length c) _ _ (by simp) (by simp only [putFrom, Act.put, List.setIfInBounds_toArray, List.set_cons_succ, List.set_cons_zero, h6]) (Spares.of_below (Below.refl _ _)) (fun iv' _ _ => rfl))
    · have h7 : vs 7 = .slice (some ⟨xb, xo, none⟩) xs.length c := hd.out 7 (mem_of (by kernel_rfl)) (by decide) (by kernel_rfl)
      go_wp2_with fail
      exact Onward.mk (hK (.int .i64 xs.length) _ _ (by simp) (by simp only [putFrom, Act.put, List.setIfInBounds_toArray, List.set_cons_succ, List.set_cons_zero, h7]) (Spares.of_below (Below.refl _ _)) (fun iv' _ _ => rfl))
    · have h8 : vs 8 = .int .i64 xs.length := hd.out 8 (mem_of (by kernel_rfl)) (by decide) (by kernel_rfl)
      go_wp2_with fail
      exact Onward.mk (hK (.int .i64 (↑xs.length - 1)) _ _ (by simp) (by simp only [putFrom, Act.put, List.setIfInBounds_toArray, List.set_cons_succ, List.set_cons_zero, h8]) (Spares.of_below (Below.refl _ _)) (fun iv' _ _ => rfl))
    · have h3 : vs 3 = .slice (some ⟨xb, xo, none⟩) xs.length c := hd.out 3 (mem_of (by kernel_rfl)) (by decide) (by kernel_rfl)
      have h9 : vs 9 = .int .i64 (↑xs.length - 1) := hd.out 9 (mem_of (by kernel_rfl)) (by decide) (by kernel_rfl)
      go_wp2_with fail
      exact Onward.mk (hK (.pointer (some ⟨xb, xo + (xs.length - 1), none⟩)) _ _ (by simp) (by simp only [putFrom, Act.put, List.setIfInBounds_toArray, List.set_cons_succ, List.set_cons_zero, h3, h9]) (Spares.of_below (Below.refl _ _)) (fun iv' _ _ => rfl))
    · have h10 : vs 10 = .pointer (some ⟨xb, xo + (xs.length - 1), none⟩) := hd.out 10 (mem_of (by kernel_rfl)) (by decide) (by kernel_rfl)
      go_wp2_with fail
      exact Onward.mk (hK (.int .i64 x) _ _ (by simp) (by simp only [putFrom, Act.put, List.setIfInBounds_toArray, List.set_cons_succ, List.set_cons_zero, h10]) (Spares.of_below (Below.refl _ _)) (fun iv' _ _ => rfl))
    · go_wp2_with fail
      exact Onward.mk (hK (.pointer (some ⟨wb, wo, none⟩)) _ _ (by simp) (by simp only [putFrom, Act.put, List.setIfInBounds_toArray, List.set_cons_succ, List.set_cons_zero]) (Spares.of_below (Below.refl _ _)) (fun iv' _ _ => rfl))
    · have h12 : vs 12 = .pointer (some ⟨wb, wo, none⟩) := hd.out 12 (mem_of (by kernel_rfl)) (by decide) (by kernel_rfl)
      go_wp2_with fail
      exact Onward.mk (hK (.pointer (some ⟨wb, wo, none⟩)) _ _ (by simp) (by simp only [putFrom, Act.put, List.setIfInBounds_toArray, List.set_cons_succ, List.set_cons_zero, h12]) (Spares.of_below (Below.refl _ _)) (fun iv' _ _ => rfl))
    · have h13 : vs 13 = .pointer (some ⟨wb, wo, none⟩) := hd.out 13 (mem_of (by kernel_rfl)) (by decide) (by kernel_rfl)
      go_wp2_with fail
      exact Onward.mk (hK (.pointer (some ⟨wb, wo, none⟩)) _ _ (by simp) (by simp only [putFrom, Act.put, List.setIfInBounds_toArray, List.set_cons_succ, List.set_cons_zero, h13]) (Spares.of_below (Below.refl _ _)) (fun iv' _ _ => rfl))
    · have h14 : vs 14 = .pointer (some ⟨wb, wo, none⟩) := hd.out 14 (mem_of (by kernel_rfl)) (by decide) (by kernel_rfl)
      go_wp2_with fail
      exact Onward.mk (hK (.slice (some ⟨ub, uo, none⟩) us.length c2) _ _ (by simp) (by simp only [putFrom, Act.put, List.setIfInBounds_toArray, List.set_cons_succ, List.set_cons_zero, h14]) (Spares.of_below (Below.refl _ _)) (fun iv' _ _ => rfl))
    · have h15 : vs 15 = .slice (some ⟨ub, uo, none⟩) us.length c2 := hd.out 15 (mem_of (by kernel_rfl)) (by decide) (by kernel_rfl)
      go_wp2_with fail
      exact Onward.mk (hK (.pointer (some ⟨ub, uo, none⟩)) _ _ (by simp) (by simp only [putFrom, Act.put, List.setIfInBounds_toArray, List.set_cons_succ, List.set_cons_zero, h15]) (Spares.of_below (Below.refl _ _)) (fun iv' _ _ => rfl))
    · have h16 : vs 16 = .pointer (some ⟨ub, uo, none⟩) := hd.out 16 (mem_of (by kernel_rfl)) (by decide) (by kernel_rfl)
      go_wp2_with fail
      exact Onward.mk (hK (.int .i64 y) _ _ (by simp) (by simp only [putFrom, Act.put, List.setIfInBounds_toArray, List.set_cons_succ, List.set_cons_zero, h16]) (Spares.of_below (Below.refl _ _)) (fun iv' _ _ => rfl))
    · have h11 : vs 11 = .int .i64 x := hd.out 11 (mem_of (by kernel_rfl)) (by decide) (by kernel_rfl)
      have h17 : vs 17 = .int .i64 y := hd.out 17 (mem_of (by kernel_rfl)) (by decide) (by kernel_rfl)
      go_wp2_with fail
      exact Onward.mk (hK (.bool (x != y)) _ _ (by simp) (by simp only [putFrom, Act.put, List.setIfInBounds_toArray, List.set_cons_succ, List.set_cons_zero, h11, h17]) (Spares.of_below (Below.refl _ _)) (fun iv' _ _ => rfl))
  case hQ =>
    intro iv vs wx hB hSp hd he hbd hsep
    have hzB := hB.size
    have h0 : vs 0 = .pointer (some ⟨vb, vo, none⟩) := hd.out 0 (mem_of (by kernel_rfl)) (not_eaten (by kernel_rfl))
    have h1 : vs 1 = .pointer (some ⟨vb, vo, none⟩) := hd.out 1 (mem_of (by kernel_rfl)) (not_eaten (by kernel_rfl))
    have h2 : vs 2 = .pointer (some ⟨vb, vo, none⟩) := hd.out 2 (mem_of (by kernel_rfl)) (not_eaten (by kernel_rfl))
    have h3 : vs 3 = .slice (some ⟨xb, xo, none⟩) xs.length c := hd.out 3 (mem_of (by kernel_rfl)) (not_eaten (by kernel_rfl))
    have h4 : vs 4 = .pointer (some ⟨vb, vo, none⟩) := hd.out 4 (mem_of (by kernel_rfl)) (not_eaten (by kernel_rfl))
    have h5 : vs 5 = .pointer (some ⟨vb, vo, none⟩) := hd.out 5 (mem_of (by kernel_rfl)) (not_eaten (by kernel_rfl))
    have h6 : vs 6 = .pointer (some ⟨vb, vo, none⟩) := hd.out 6 (mem_of (by kernel_rfl)) (not_eaten (by kernel_rfl))
    have h7 : vs 7 = .slice (some ⟨xb, xo, none⟩) xs.length c := hd.out 7 (mem_of (by kernel_rfl)) (not_eaten (by kernel_rfl))
    have h8 : vs 8 = .int .i64 xs.length := hd.out 8 (mem_of (by kernel_rfl)) (not_eaten (by kernel_rfl))
    have h9 : vs 9 = .int .i64 (↑xs.length - 1) := hd.out 9 (mem_of (by kernel_rfl)) (not_eaten (by kernel_rfl))
    have h10 : vs 10 = .pointer (some ⟨xb, xo + (xs.length - 1), none⟩) := hd.out 10 (mem_of (by kernel_rfl)) (not_eaten (by kernel_rfl))
    have h11 : vs 11 = .int .i64 x := hd.out 11 (mem_of (by kernel_rfl)) (not_eaten (by kernel_rfl))
    have h12 : vs 12 = .pointer (some ⟨wb, wo, none⟩) := hd.out 12 (mem_of (by kernel_rfl)) (not_eaten (by kernel_rfl))
    have h13 : vs 13 = .pointer (some ⟨wb, wo, none⟩) := hd.out 13 (mem_of (by kernel_rfl)) (not_eaten (by kernel_rfl))
    have h14 : vs 14 = .pointer (some ⟨wb, wo, none⟩) := hd.out 14 (mem_of (by kernel_rfl)) (not_eaten (by kernel_rfl))
    have h15 : vs 15 = .slice (some ⟨ub, uo, none⟩) us.length c2 := hd.out 15 (mem_of (by kernel_rfl)) (not_eaten (by kernel_rfl))
    have h16 : vs 16 = .pointer (some ⟨ub, uo, none⟩) := hd.out 16 (mem_of (by kernel_rfl)) (not_eaten (by kernel_rfl))
    have h17 : vs 17 = .int .i64 y := hd.out 17 (mem_of (by kernel_rfl)) (not_eaten (by kernel_rfl))
    have h18 : vs 18 = .bool (x != y) := hd.out 18 (mem_of (by kernel_rfl)) (not_eaten (by kernel_rfl))
    simp only [putFrom, Act.put, List.setIfInBounds_toArray, List.set_cons_succ, List.set_cons_zero]
    rw [Hb1.out] at h18
    simp only [h18]
    clear hd he hbd hsep h0 h1 h2 h3 h4 h5 h6 h7 h8 h9 h10 h11 h12 h13 h14 h15 h16 h17 h18
    replace hB0 := hB0.trans (hB.mono hB0.size)
    replace R0 := R0.below hB
    have r0 := R0.c0
    have r1 := R0.c1
    have y0 := R0.frozen 0
    have y1 := R0.frozen 1
    have rl := R0.lt
    clear hB
    go_wp2_with fail
    have R' := (R0.set 0 (.slice none 0 0)).set 1 (.slice none 0 0)
    have d0 := R'.c0
    have d1 := R'.c1
    refine bodyPost_ret (v := .tuple #[.agg #[.slice none 0 0, .slice none 0 0], .bool false]) (by simp [results, Try.results58, go_sem, d0, d1]) rfl ⟨rfl, by (repeat' (first | exact Below.refl _ _ | assumption | (refine Below.alloc ?_ (by first | omega | (simp; done) | (simp; omega)) _) | (refine Below.drew ?_) | (refine Below.setCell ?_ (by first | omega | (simp; done) | (simp; omega)) _)))⟩
end Go.Proofs.Ytjjcidfpjgmgcaa
