/-
  impl.filled: actions replaced; impl.validExprs.
-/
import Derived.Test.YtlnojmmjpgpjdaaPutS
namespace Go.Proofs.Ytlnojmmjpgpjdaa
open Go.ChangeShapes Go.WideShapes Go.ChangeAt Go.RowKit Go.Deep Go.Sort

theorem Ex.put_other {bs : List Ex} {k n : Int} {ks : List Ex} (hk : k ≠ 4) : Ex.put bs (.mk k n ks) = .mk k n (Ex.putL bs ks) := by rw [Ex.put, if_neg hk]
set_option maxHeartbeats 16000000 in
theorem filled_all (bs : List Ex) (pb : Option Addr) (bc : Nat) (tm am : Int) (hlen2 : (bs.length : Int) = am + 1) (hbz : ∀ x ∈ bs, x.size ≤ 1000000) (N : Nat) : ∀ (k0 n0 : Int) (ks : List Ex) (s : Option Addr) (c : Nat) (w : World), Ex.sizeL ks ≤ N → Rd w (kidsD ks) (.slice s ks.length c) → Ex.sizeL ks ≤ 1073741824 → Rd w (kidsD bs) (.slice pb bs.length bc) → Ex.tree tm am (.mk k0 n0 ks) = true →
    Calls Try.prog 70 #[.agg #[.int .i64 k0, .int .i64 n0, .slice s ks.length c], .slice none 0 0, .slice pb bs.length bc] w fun f w' => ∃ s' c', f = .returned (.agg #[.int .i64 (Ex.put bs (.mk k0 n0 ks)).kind, .int .i64 (Ex.put bs (.mk k0 n0 ks)).num, .slice s' (Ex.put bs (.mk k0 n0 ks)).kids.length c']) ∧
      Freshs w w' [kidsD (Ex.put bs (.mk k0 n0 ks)).kids] [.slice s' (Ex.put bs (.mk k0 n0 ks)).kids.length c'] ∧ Below w.heap.size w w' := by
  induction N using Nat.strongRecOn with
  | _ N ih =>
  intro k0 n0 ks s c w hN g3 hsl hby htr
  obtain ⟨-, hlen, hcap, -, -⟩ := kid_at g3
  unfold maxLen at hcap
  have hkl := Ex.length_le_sizeL ks
  have hkm : ks.length ≤ 1073741824 := by omega
  clear hkl
  have Hlen2 := Lib.hid hlen2
  have Hbz := Lib.hid hbz
  clear hlen2 hbz
  by_cases hk4 : k0 = 4
  · subst hk4
    obtain ⟨n1, n2⟩ := Ex.tree_act htr rfl
    simp only [Ex.num] at n1 n2
    obtain ⟨n, rfl⟩ : ∃ n : Nat, n0 = (n : Int) := ⟨n0.toNat, by omega⟩
    obtain ⟨x, hx⟩ : ∃ x, bs[n]? = some x := ⟨_, List.getElem?_eq_getElem (by have := Hlen2.out; omega)⟩
    obtain ⟨pb', po, rfl⟩ := kid_some hby (by intro h; rw [h] at hx; simp at hx)
    obtain ⟨hbl, sx, cx, j0, j1, j2, jr⟩ := kid_in hby hx
    have hx2 := Hbz.out x (List.mem_of_getElem? hx)
    have hx3 : Ex.sizeL x.kids ≤ 1073741824 := by have := Ex.size_eq x; omega
    have HR : Hid (Ex.put bs (.mk 4 (n : Int) ks) = x) := by
      show _ = _
      rw [Ex.put, if_pos rfl, Int.toNat_natCast, List.getD_eq_getElem?_getD, hx]
      rfl
    have hnz := Int.natCast_nonneg n
    have hnb : (n : Int) < (bs.length : Int) := by have := (List.getElem?_eq_some_iff.1 hx).1; omega
    clear hx htr n1 n2 hx2
    obtain ⟨xk, xn, xks⟩ := x
    simp only [Ex.kind, Ex.num, Ex.kids] at j0 j1 j2 jr hx3
    go_enter Try.func70, Try.ntmps70
    go_wp2_with fail
    have R := Blk.new3 (w.alloc (.cells #[.int .i64 4, .int .i64 n, .slice s ks.length c] 47)) 47 (.int .i64 0) (.int .i64 0) (.slice none 0 0)
    have hBx : Below w.heap.size w ((w.alloc (.cells #[.int .i64 4, .int .i64 n, .slice s ks.length c] 47)).alloc (.cells #[.int .i64 0, .int .i64 0, .slice none 0 0] 47)) := by (repeat' (first | exact Below.refl _ _ | assumption | (refine Below.alloc ?_ (by first | omega | (simp; done) | (simp; omega)) _) | (refine Below.drew ?_) | (refine Below.setCell ?_ (by first | omega | (simp; done) | (simp; omega)) _)))
    have hzx : ((w.alloc (.cells #[.int .i64 4, .int .i64 n, .slice s ks.length c] 47)).alloc (.cells #[.int .i64 0, .int .i64 0, .slice none 0 0] 47)).heap.size = w.heap.size + 2 := by simp
    simp at R
    generalize (w.alloc (.cells #[.int .i64 4, .int .i64 n, .slice s ks.length c] 47)).alloc (.cells #[.int .i64 0, .int .i64 0, .slice none 0 0] 47) = w1 at R hBx hzx ⊢
    clear j0 j1 j2
    refine (copyExpr_same _ xk xn xks sx cx _ (Nat.le_refl _) (jr.below hBx) hx3).mono ?_
    rintro f w4 ⟨s', c', rfl, hf, hb⟩
    simp only [Ex.same, Ex.kind, Ex.num, Ex.kids] at hf ⊢
    have RX4 := R.below hb
    have sz4 := hb.size
    have hB4 := hBx.trans (hb.mono (by omega))
    have r0 := RX4.c0
    have r1 := RX4.c1
    have r2 := RX4.c2
    have z0 := RX4.frozen 0
    have z1 := RX4.frozen 1
    have z2 := RX4.frozen 2
    have lt4 := RX4.lt
    go_wp2_with fail
    have T2 := ((RX4.set 0 (.int .i64 xk)).set 1 (.int .i64 xn)).set 2 (.slice s' xks.length c')
    have hs5 : Spares (fun y => y = w.heap.size + 1) w4 (((w4.setCell ⟨w.heap.size + 1, 0, none⟩ (.int .i64 xk)).setCell ⟨w.heap.size + 1, 1, none⟩ (.int .i64 xn)).setCell ⟨w.heap.size + 1, 2, none⟩ (.slice s' xks.length c')) := Spares.set (Spares.set (Spares.set (Spares.refl w4)))
    generalize (((w4.setCell ⟨w.heap.size + 1, 0, none⟩ (.int .i64 xk)).setCell ⟨w.heap.size + 1, 1, none⟩ (.int .i64 xn)).setCell ⟨w.heap.size + 1, 2, none⟩ (.slice s' xks.length c')) = w5 at T2 hs5 ⊢
    have t0 := T2.c0
    have t1 := T2.c1
    have t2 := T2.c2
    have hB5 := hB4.trans (hs5.below (B := w.heap.size) (by omega) (fun y hy => by omega))
    refine bodyPost_ret (v := .agg #[.int .i64 xk, .int .i64 xn, .slice s' xks.length c']) (by simp [results, Try.results70, go_sem, t0, t1, t2]) rfl ?_
    rw [HR.out]
    obtain ⟨F, F1, F2, F3⟩ := hf
    exact ⟨s', c', rfl, ⟨F, F1.keep fun y hy => hs5.block y (F1.lt y hy) (by have := F3 y hy; omega), F2, fun y hy => by have := F3 y hy; omega⟩, hB5⟩
  · have e4 : (k0 == 4) = false := by simp [hk4]
    have Hp : Hid (Ex.put bs (.mk k0 n0 ks) = .mk k0 n0 (Ex.putL bs ks)) := Ex.put_other hk4
    have Hpk : Hid ((Ex.put bs (.mk k0 n0 ks)).kids = Ex.putL bs ks) := by show _ = _; rw [Hp.out]; rfl
    clear hk4
    by_cases hk3 : k0 = 3
    · have e3 : (k0 == 3) = true := by simp [hk3]
      clear hk3
      have Hl : Hid (ks.length = (Ex.put bs (.mk k0 n0 ks)).kids.length) := by show _ = _; rw [Hpk.out, Ex.putL_length]
      have Hk : Hid ((Ex.put bs (.mk k0 n0 ks)).kind = k0) := by show _ = _; rw [Hp.out]; rfl
      have Hn : Hid ((Ex.put bs (.mk k0 n0 ks)).num = n0) := by show _ = _; rw [Hp.out]; rfl
      have Hf : Hid (D.sl 3 ks.length (Ex.cellsL (Ex.put bs (.mk k0 n0 ks)).kids) = kidsD (Ex.put bs (.mk k0 n0 ks)).kids) := by show _ = _; unfold kidsD; rw [Hl.out]
      go_enter Try.func70, Try.ntmps70
      go_wp2_with fail
      have M := ((Blk.new3 w 47 (.int .i64 k0) (.int .i64 n0) (.slice s ks.length c)).alloc (.cells #[.int .i64 0, .int .i64 0, .slice none 0 0] 47)).alloc (.cells #[.int .i64 k0, .int .i64 n0, .slice none 0 0] 47)
      have R2 := (Blk.new3 (w.alloc (.cells #[.int .i64 k0, .int .i64 n0, .slice s ks.length c] 47)) 47 (.int .i64 0) (.int .i64 0) (.slice none 0 0)).alloc (.cells #[.int .i64 k0, .int .i64 n0, .slice none 0 0] 47)
      have R := Blk.new3 ((w.alloc (.cells #[.int .i64 k0, .int .i64 n0, .slice s ks.length c] 47)).alloc (.cells #[.int .i64 0, .int .i64 0, .slice none 0 0] 47)) 47 (.int .i64 k0) (.int .i64 n0) (.slice none 0 0)
      simp at R2 R
      have hBx : Below w.heap.size w (((w.alloc (.cells #[.int .i64 k0, .int .i64 n0, .slice s ks.length c] 47)).alloc (.cells #[.int .i64 0, .int .i64 0, .slice none 0 0] 47)).alloc (.cells #[.int .i64 k0, .int .i64 n0, .slice none 0 0] 47)) := by (repeat' (first | exact Below.refl _ _ | assumption | (refine Below.alloc ?_ (by first | omega | (simp; done) | (simp; omega)) _) | (refine Below.drew ?_) | (refine Below.setCell ?_ (by first | omega | (simp; done) | (simp; omega)) _)))
      generalize (((w.alloc (.cells #[.int .i64 k0, .int .i64 n0, .slice s ks.length c] 47)).alloc (.cells #[.int .i64 0, .int .i64 0, .slice none 0 0] 47)).alloc (.cells #[.int .i64 k0, .int .i64 n0, .slice none 0 0] 47)) = wz at M R2 R hBx ⊢
      have ltR := R.lt
      have szx := hBx.size
      go_loopw [46] (fun i wr => ∃ (k : Nat) (v : Value), k ≤ ks.length ∧ i = .int .i64 k ∧ Blk wr (w.heap.size + 1 + 1) 47 [.int .i64 k0, .int .i64 n0, v] ∧ App wz wr 47 3 k (Ex.cellsL ((Ex.putL bs ks).take k)) v ∧ Below (w.heap.size + 1 + 1) wz wr) (fun i _ => ks.length - (intOf i).toNat)
      case atStart => exact ⟨0, .slice none 0 0, by omega, rfl, R, by simpa [Ex.cellsL] using App.nil, Below.refl _ _⟩
      case round =>
        clear R
        obtain ⟨k, v, hk, rfl, R, happ, hBr⟩ := hrel
        have hBw : Below w.heap.size w wr := hBx.trans (hBr.mono (by omega))
        have szr := hBr.size
        by_cases hlt : k < ks.length
        · obtain ⟨x, hx⟩ : ∃ x, ks[k]? = some x := ⟨_, List.getElem?_eq_getElem (by omega)⟩
          have hy : (Ex.putL bs ks)[k]? = some (Ex.put bs (.mk x.kind x.num x.kids)) := by rw [Ex.putL_at bs hx, ← Ex.eta x]
          obtain ⟨kb, ko, rfl⟩ := kid_some g3 (by intro h; simp [h] at hlt)
          have hxm := Ex.sizeL_mem (List.mem_of_getElem? hx)
          have hse := Ex.size_eq x
          have hxs : Ex.sizeL x.kids < N := by omega
          have hx1 : Ex.sizeL x.kids ≤ 1073741824 := by omega
          clear hxm hse
          have Hds := Lib.hid (Ex.cellsL_take_succ hy)
          clear hy
          obtain ⟨-, sx, cx, g0, g1, g2, gr⟩ := kid_in (g3.below hBw) hx
          obtain ⟨-, sy, cy, i0, i1, i2, hgr0⟩ := kid_in g3 hx
          obtain ⟨rfl, rfl⟩ : sx = sy ∧ cx = cy := by
            have := ((hBw.cell (p := ⟨kb, ko + k * 3 + 2, none⟩) (World.block_lt_of_cell? w _ i2)).trans i2).symm.trans g2
            simp at this
            exact ⟨this.1.symm, this.2.symm⟩
          clear i0 i1 i2
          obtain ⟨Fs, V, Vf⟩ := happ.foot
          have hxt : Ex.tree tm am (.mk x.kind x.num x.kids) = true := by rw [← Ex.eta x]; exact Ex.treeL_mem (tree_parts htr).2.2.2 (List.mem_of_getElem? hx)
          go_wp2_with fail
          clear g0 g1 g2 gr
          have Kb := Blk.new3 wr 47 (.int .i64 x.kind) (.int .i64 x.num) (.slice sx x.kids.length cx)
          replace R := R.alloc (.cells #[.int .i64 x.kind, .int .i64 x.num, .slice sx x.kids.length cx] 47)
          have V := V.keep (w' := wr.alloc (.cells #[.int .i64 x.kind, .int .i64 x.num, .slice sx x.kids.length cx] 47)) (fun b hb _ => Below.heap_alloc _ _ _ hb)
          replace hBr : Below (w.heap.size + 1 + 1) wz (wr.alloc (.cells #[.int .i64 x.kind, .int .i64 x.num, .slice sx x.kids.length cx] 47)) := hBr.alloc (by omega) _
          replace hBw : Below w.heap.size w (wr.alloc (.cells #[.int .i64 x.kind, .int .i64 x.num, .slice sx x.kids.length cx] 47)) := hBw.alloc (by omega) _
          have sza : (wr.alloc (.cells #[.int .i64 x.kind, .int .i64 x.num, .slice sx x.kids.length cx] 47)).heap.size = wr.heap.size + 1 := by simp
          generalize (wr.alloc (.cells #[.int .i64 x.kind, .int .i64 x.num, .slice sx x.kids.length cx] 47)) = wa at Kb R V hBr hBw sza ⊢
          obtain ⟨kq, hkq⟩ : ∃ kq, wr.heap.size = kq := ⟨_, rfl⟩
          have Vf' : ∀ b ∈ Fs, wz.heap.size ≤ b ∧ b < kq := fun b hb => by have := Vf b hb; omega
          clear Vf
          have Vf : ∀ b ∈ Fs, wz.heap.size ≤ b ∧ b < wa.heap.size := fun b hb => by have := Vf' b hb; omega
          rw [hkq] at Kb
          simp only [hkq]
          have szk : wa.heap.size = kq + 1 ∧ wz.heap.size ≤ kq := by omega
          clear sza szr hkq
          obtain ⟨szk1, szk2⟩ := szk
          have Hszk := Lib.hid szk1
          have szk3 : kq < wa.heap.size := by omega
          clear szk1
          have hGb : ∀ m b, (fun m b => (m = 0 ∧ b ∈ Fs) ∨ (m = 1 ∧ b = w.heap.size + 1 + 1) ∨ (m = 2 ∧ b = kq)) m b → (w.heap.size + 1 + 1) ≤ b ∧ b < (wa).heap.size := by
            intro m b hg
            rcases hg with ⟨rfl, hg⟩ | ⟨rfl, hg⟩ | ⟨rfl, hg⟩
            · have q := Vf b hg
              omega
            · subst hg
              have q := R.lt
              omega
            · subst hg
              have q := Kb.lt
              omega
          have hGd : ∀ m m' b, (fun m b => (m = 0 ∧ b ∈ Fs) ∨ (m = 1 ∧ b = w.heap.size + 1 + 1) ∨ (m = 2 ∧ b = kq)) m b → (fun m b => (m = 0 ∧ b ∈ Fs) ∨ (m = 1 ∧ b = w.heap.size + 1 + 1) ∨ (m = 2 ∧ b = kq)) m' b → m = m' := by
            intro m m' b h h'
            rcases h with ⟨rfl, h⟩ | ⟨rfl, h⟩ | ⟨rfl, h⟩ <;> rcases h' with ⟨rfl, h'⟩ | ⟨rfl, h'⟩ | ⟨rfl, h'⟩ <;> first
              | rfl
              | (exfalso; omega)
              | (exfalso; have q := Vf' b h; omega)
              | (exfalso; have q := Vf' b h'; omega)
          refine region_rs [(7, 5)] [(7, 0), (9, 1)] (fun m b => (m = 0 ∧ b ∈ Fs) ∨ (m = 1 ∧ b = w.heap.size + 1 + 1) ∨ (m = 2 ∧ b = kq)) (w.heap.size + 1 + 1) (fun i iv vs wx => match i with
            | 0 => vs 0 = .pointer (some ⟨w.heap.size + 1 + 1, 2, none⟩)
            | 1 => vs 1 = v
            | 2 => vs 2 = .agg #[.int .i64 x.kind, .int .i64 x.num, .slice sx x.kids.length cx]
            | 3 => vs 3 = .slice none 0 0
            | 4 => vs 4 = .slice pb bs.length bc
            | 5 => ∃ s2 c2, vs 5 = .agg #[.int .i64 (Ex.put bs (.mk x.kind x.num x.kids)).kind, .int .i64 (Ex.put bs (.mk x.kind x.num x.kids)).num, .slice s2 (Ex.put bs (.mk x.kind x.num x.kids)).kids.length c2] ∧ FreshIn (iv 5) wx [kidsD (Ex.put bs (.mk x.kind x.num x.kids)).kids] [.slice s2 (Ex.put bs (.mk x.kind x.num x.kids)).kids.length c2]
            | 6 => vs 6 = .slice (some ⟨(iv 6).1, 0, none⟩) 1 1 ∧ (iv 6).2 = (iv 6).1 + 1 ∧ Blk wx (iv 6).1 47 [aggAt (vs 5) 0, aggAt (vs 5) 1, aggAt (vs 5) 2]
            | 7 => ∃ g cap, vs 7 = .slice (some ⟨g, 0, none⟩) (k + 1) cap ∧ AppS (foot [(7, 5)] [(7, 0), (9, 1)] (fun m b => (m = 0 ∧ b ∈ Fs) ∨ (m = 1 ∧ b = w.heap.size + 1 + 1) ∨ (m = 2 ∧ b = kq)) 10 7 iv) wx 47 3 (k + 1) (Ex.cellsL ((Ex.putL bs ks).take k) ++ [.int (Ex.put bs (.mk x.kind x.num x.kids)).kind, .int (Ex.put bs (.mk x.kind x.num x.kids)).num, kidsD (Ex.put bs (.mk x.kind x.num x.kids)).kids]) (.slice (some ⟨g, 0, none⟩) (k + 1) cap)
            | 8 => vs 8 = .pointer (some ⟨w.heap.size + 1 + 1, 2, none⟩)
            | 9 => Blk wx (w.heap.size + 1 + 1) 47 [.int .i64 k0, .int .i64 n0, vs 7]
            | _ => True) (fun i iv vs => match i with
            | 0 => vs 0 = .pointer (some ⟨w.heap.size + 1 + 1, 2, none⟩)
            | 1 => vs 1 = v
            | 2 => vs 2 = .agg #[.int .i64 x.kind, .int .i64 x.num, .slice sx x.kids.length cx]
            | 3 => vs 3 = .slice none 0 0
            | 4 => vs 4 = .slice pb bs.length bc
            | 5 => ∃ s2 c2, vs 5 = .agg #[.int .i64 (Ex.put bs (.mk x.kind x.num x.kids)).kind, .int .i64 (Ex.put bs (.mk x.kind x.num x.kids)).num, .slice s2 (Ex.put bs (.mk x.kind x.num x.kids)).kids.length c2]
            | 6 => vs 6 = .slice (some ⟨(iv 6).1, 0, none⟩) 1 1 ∧ (iv 6).2 = (iv 6).1 + 1
            | 7 => ∃ g cap, vs 7 = .slice (some ⟨g, 0, none⟩) (k + 1) cap
            | 8 => vs 8 = .pointer (some ⟨w.heap.size + 1 + 1, 2, none⟩)
            | 9 => True
            | _ => True) (by kernel_rfl) (by kernel_rfl) [0, 1, 2, 3, 4, 5, 6, 7, 8, 9] (by kernel_rfl) ?hbase ?hGb ?hG ?hJ ?hE ?hEE ?hstep ?hQ
          case hbase => first | exact Nat.le_refl _ | omega | (simp; omega)
          case hGb =>
            exact hGb
          case hG =>
            exact hGd
          case hJ =>
            intro i hi iv iv' vs vs' wx wx' ha hv hz hk hj
            simp only [List.mem_cons, List.not_mem_nil, or_false] at hi
            rcases hi with rfl | rfl | rfl | rfl | rfl | rfl | rfl | rfl | rfl | rfl
            · have e0 := hv.out 0 (mem_of (by kernel_rfl))
              have hj' : vs 0 = .pointer (some ⟨w.heap.size + 1 + 1, 2, none⟩) := hj
              show vs' 0 = .pointer (some ⟨w.heap.size + 1 + 1, 2, none⟩)
              rw [← e0]
              exact hj'
            · have e1 := hv.out 1 (mem_of (by kernel_rfl))
              have hj' : vs 1 = v := hj
              show vs' 1 = v
              rw [← e1]
              exact hj'
            · have e2 := hv.out 2 (mem_of (by kernel_rfl))
              have hj' : vs 2 = .agg #[.int .i64 x.kind, .int .i64 x.num, .slice sx x.kids.length cx] := hj
              show vs' 2 = .agg #[.int .i64 x.kind, .int .i64 x.num, .slice sx x.kids.length cx]
              rw [← e2]
              exact hj'
            · have e3 := hv.out 3 (mem_of (by kernel_rfl))
              have hj' : vs 3 = .slice none 0 0 := hj
              show vs' 3 = .slice none 0 0
              rw [← e3]
              exact hj'
            · have e4 := hv.out 4 (mem_of (by kernel_rfl))
              have hj' : vs 4 = .slice pb bs.length bc := hj
              show vs' 4 = .slice pb bs.length bc
              rw [← e4]
              exact hj'
            · have e5 := hv.out 5 (mem_of (by kernel_rfl))
              have g5 := ha.out 5 (mem_of (by kernel_rfl))
              obtain ⟨s2, c2, q1, q2⟩ := hj
              exact ⟨s2, c2, e5 ▸ q1, g5 ▸ q2.keep (fun b hb h1 h2 => hk.out b hb (foot_own h1 h2))⟩
            · have e5 := hv.out 5 (mem_of (by kernel_rfl))
              have e6 := hv.out 6 (mem_of (by kernel_rfl))
              have g6 := ha.out 6 (mem_of (by kernel_rfl))
              obtain ⟨q1, q3, q2⟩ := hj
              show vs' 6 = .slice (some ⟨(iv' 6).1, 0, none⟩) 1 1 ∧ (iv' 6).2 = (iv' 6).1 + 1 ∧ Blk wx' (iv' 6).1 47 [aggAt (vs' 5) 0, aggAt (vs' 5) 1, aggAt (vs' 5) 2]
              rw [← e5, ← e6, ← g6]
              exact ⟨q1, q3, q2.keep (hk.out _ q2.lt (foot_own (Nat.le_refl _) (by omega)))⟩
            · have e7 := hv.out 7 (mem_of (by kernel_rfl))
              obtain ⟨g, cap, q1, q2⟩ := hj
              exact ⟨g, cap, e7 ▸ q1, (q2.keep (fun b hb h1 => hk.out b hb h1)).more (fun b hb h1 => foot_agree (l := ancs _ 10 7) (by exact of_decide_eq_true (by kernel_rfl)) ha.out h1)⟩
            · have e8 := hv.out 8 (mem_of (by kernel_rfl))
              have hj' : vs 8 = .pointer (some ⟨w.heap.size + 1 + 1, 2, none⟩) := hj
              show vs' 8 = .pointer (some ⟨w.heap.size + 1 + 1, 2, none⟩)
              rw [← e8]
              exact hj'
            · have e7 := hv.out 7 (mem_of (by kernel_rfl))
              have hj' : Blk wx (w.heap.size + 1 + 1) 47 [.int .i64 k0, .int .i64 n0, vs 7] := hj
              show Blk wx' (w.heap.size + 1 + 1) 47 [.int .i64 k0, .int .i64 n0, vs' 7]
              rw [← e7]
              exact hj'.keep (hk.out _ hj'.lt (foot_given 1 (by decide) (Or.inr (Or.inl ⟨rfl, rfl⟩))))
          case hE =>
            intro i hi iv vs wx hj
            simp only [List.mem_cons, List.not_mem_nil, or_false] at hi
            rcases hi with rfl | rfl | rfl | rfl | rfl | rfl | rfl | rfl | rfl | rfl
            · exact hj
            · exact hj
            · exact hj
            · exact hj
            · exact hj
            · obtain ⟨s2, c2, q1, -⟩ := hj
              exact ⟨s2, c2, q1⟩
            · exact ⟨hj.1, hj.2.1⟩
            · obtain ⟨g, cap, q1, -⟩ := hj
              exact ⟨g, cap, q1⟩
            · exact hj
            · trivial
          case hEE =>
            intro i hi iv iv' vs vs' ha hv hj
            simp only [List.mem_cons, List.not_mem_nil, or_false] at hi
            rcases hi with rfl | rfl | rfl | rfl | rfl | rfl | rfl | rfl | rfl | rfl
            · have e0 := hv.out 0 (mem_of (by kernel_rfl))
              have hj' : vs 0 = .pointer (some ⟨w.heap.size + 1 + 1, 2, none⟩) := hj
              show vs' 0 = .pointer (some ⟨w.heap.size + 1 + 1, 2, none⟩)
              rw [← e0]
              exact hj'
            · have e1 := hv.out 1 (mem_of (by kernel_rfl))
              have hj' : vs 1 = v := hj
              show vs' 1 = v
              rw [← e1]
              exact hj'
            · have e2 := hv.out 2 (mem_of (by kernel_rfl))
              have hj' : vs 2 = .agg #[.int .i64 x.kind, .int .i64 x.num, .slice sx x.kids.length cx] := hj
              show vs' 2 = .agg #[.int .i64 x.kind, .int .i64 x.num, .slice sx x.kids.length cx]
              rw [← e2]
              exact hj'
            · have e3 := hv.out 3 (mem_of (by kernel_rfl))
              have hj' : vs 3 = .slice none 0 0 := hj
              show vs' 3 = .slice none 0 0
              rw [← e3]
              exact hj'
            · have e4 := hv.out 4 (mem_of (by kernel_rfl))
              have hj' : vs 4 = .slice pb bs.length bc := hj
              show vs' 4 = .slice pb bs.length bc
              rw [← e4]
              exact hj'
            · have e5 := hv.out 5 (mem_of (by kernel_rfl))
              have hj' : ∃ s2 c2, vs 5 = .agg #[.int .i64 (Ex.put bs (.mk x.kind x.num x.kids)).kind, .int .i64 (Ex.put bs (.mk x.kind x.num x.kids)).num, .slice s2 (Ex.put bs (.mk x.kind x.num x.kids)).kids.length c2] := hj
              show ∃ s2 c2, vs' 5 = .agg #[.int .i64 (Ex.put bs (.mk x.kind x.num x.kids)).kind, .int .i64 (Ex.put bs (.mk x.kind x.num x.kids)).num, .slice s2 (Ex.put bs (.mk x.kind x.num x.kids)).kids.length c2]
              rw [← e5]
              exact hj'
            · have e6 := hv.out 6 (mem_of (by kernel_rfl))
              have g6 := ha.out 6 (mem_of (by kernel_rfl))
              have hj' : vs 6 = .slice (some ⟨(iv 6).1, 0, none⟩) 1 1 ∧ (iv 6).2 = (iv 6).1 + 1 := hj
              show vs' 6 = .slice (some ⟨(iv' 6).1, 0, none⟩) 1 1 ∧ (iv' 6).2 = (iv' 6).1 + 1
              rw [← e6, ← g6]
              exact hj'
            · have e7 := hv.out 7 (mem_of (by kernel_rfl))
              have hj' : ∃ g cap, vs 7 = .slice (some ⟨g, 0, none⟩) (k + 1) cap := hj
              show ∃ g cap, vs' 7 = .slice (some ⟨g, 0, none⟩) (k + 1) cap
              rw [← e7]
              exact hj'
            · have e8 := hv.out 8 (mem_of (by kernel_rfl))
              have hj' : vs 8 = .pointer (some ⟨w.heap.size + 1 + 1, 2, none⟩) := hj
              show vs' 8 = .pointer (some ⟨w.heap.size + 1 + 1, 2, none⟩)
              rw [← e8]
              exact hj'
            · trivial
          case hstep =>
            intro i hi opr ho iv vs w1 hB hS hd he hbd hsep hun K hK
            simp only [List.mem_cons, List.not_mem_nil, or_false] at hi
            have hzB := hB.size
            have gr1 := hgr0.below (hBw.trans (hB.mono (by omega)))
            have by1 := hby.below (hBw.trans (hB.mono (by omega)))
            skip
            generalize hA : putFrom _ 0 vs _ = A at hK ⊢
            simp only [putFrom, Act.put, List.setIfInBounds_toArray, List.set_cons_succ, List.set_cons_zero] at hA
            rcases hi with rfl | rfl | rfl | rfl | rfl | rfl | rfl | rfl | rfl | rfl
            all_goals
              simp at ho
              subst ho
              subst hA
            · go_wp2_with fail
              exact Onward.mk (hK (.pointer (some ⟨w.heap.size + 1 + 1, 2, none⟩)) _ _ (fun h => by cases h) (by first | rfl | (simp only [Act.put, List.setIfInBounds_toArray, List.set_cons_succ, List.set_cons_zero])) (Spares.of_below (Below.refl _ _)) (fun iv' _ _ => rfl))
            · have h0 : vs 0 = .pointer (some ⟨w.heap.size + 1 + 1, 2, none⟩) := hd.out 0 (mem_of (by kernel_rfl)) (by decide) (by kernel_rfl)
              have R1 := R.keep (hS.out 1 _ (by kernel_rfl) (Or.inr (Or.inl ⟨rfl, rfl⟩)))
              have rc0 := R1.c0
              have rz0 := R1.frozen 0
              have rc1 := R1.c1
              have rz1 := R1.frozen 1
              have rc2 := R1.c2
              have rz2 := R1.frozen 2
              have rlt := R1.lt
              go_wp2_with fail
              exact Onward.mk (hK (v) _ _ (fun h => by cases h) (by first | rfl | (simp only [Act.put, List.setIfInBounds_toArray, List.set_cons_succ, List.set_cons_zero, h0])) (Spares.of_below (Below.refl _ _)) (fun iv' _ _ => rfl))
            · have Kb1 := Kb.keep (hS.out 2 _ (by kernel_rfl) (Or.inr (Or.inr ⟨rfl, rfl⟩)))
              have kbc0 := Kb1.c0
              have kbz0 := Kb1.frozen 0
              have kbc1 := Kb1.c1
              have kbz1 := Kb1.frozen 1
              have kbc2 := Kb1.c2
              have kbz2 := Kb1.frozen 2
              have kblt := Kb1.lt
              go_wp2_with fail
              exact Onward.mk (hK (.agg #[.int .i64 x.kind, .int .i64 x.num, .slice sx x.kids.length cx]) _ _ (fun h => by cases h) (by first | rfl | (simp only [Act.put, List.setIfInBounds_toArray, List.set_cons_succ, List.set_cons_zero])) (Spares.of_below (Below.refl _ _)) (fun iv' _ _ => rfl))
            · go_wp2_with fail
              exact Onward.mk (hK (.slice none 0 0) _ _ (fun h => by cases h) (by first | rfl | (simp only [Act.put, List.setIfInBounds_toArray, List.set_cons_succ, List.set_cons_zero])) (Spares.of_below (Below.refl _ _)) (fun iv' _ _ => rfl))
            · go_wp2_with fail
              exact Onward.mk (hK (.slice pb bs.length bc) _ _ (fun h => by cases h) (by first | rfl | (simp only [Act.put, List.setIfInBounds_toArray, List.set_cons_succ, List.set_cons_zero])) (Spares.of_below (Below.refl _ _)) (fun iv' _ _ => rfl))
            · have h2 : vs 2 = .agg #[.int .i64 x.kind, .int .i64 x.num, .slice sx x.kids.length cx] := hd.out 2 (mem_of (by kernel_rfl)) (by decide) (by kernel_rfl)
              have h3 : vs 3 = .slice none 0 0 := hd.out 3 (mem_of (by kernel_rfl)) (by decide) (by kernel_rfl)
              have h4 : vs 4 = .slice pb bs.length bc := hd.out 4 (mem_of (by kernel_rfl)) (by decide) (by kernel_rfl)
              go_wp2_with fail
              refine (ih _ hxs _ _ _ _ _ _ (Nat.le_refl _) gr1 hx1 by1 hxt).mono ?_
              rintro e w2 ⟨s2, c2, rfl, hf, hb⟩
              go_wp2_with fail
              exact Onward.mk (hK (.agg #[.int .i64 (Ex.put bs (.mk x.kind x.num x.kids)).kind, .int .i64 (Ex.put bs (.mk x.kind x.num x.kids)).num, .slice s2 (Ex.put bs (.mk x.kind x.num x.kids)).kids.length c2]) _ _ (fun h => by cases h) (by first | rfl | (simp only [Act.put, List.setIfInBounds_toArray, List.set_cons_succ, List.set_cons_zero, h2, h3, h4])) (Spares.of_below hb) (fun iv' _ hi => ⟨s2, c2, rfl, by rw [hi]; exact Freshs.stretch (hf)⟩))
            · obtain ⟨s2, c2, h5, f5⟩ := hd.out 5 (mem_of (by kernel_rfl)) (by decide) (by kernel_rfl)
              go_wp2_with fail
              exact Onward.mk (hK (.slice (some ⟨w1.heap.size, 0, none⟩) 1 1) _ _ (fun h => by cases h) (by first | rfl | (simp only [Act.put, List.setIfInBounds_toArray, List.set_cons_succ, List.set_cons_zero, h5])) (Spares.of_below (Below.alloc (Below.refl _ _) (Nat.le_refl _) _)) (fun iv' _ hi => by
                show Value.slice (some ⟨w1.heap.size, 0, none⟩) 1 1 = .slice (some ⟨(iv' 6).1, 0, none⟩) 1 1 ∧ (iv' 6).2 = (iv' 6).1 + 1 ∧ Blk _ (iv' 6).1 47 [aggAt (vs 5) 0, aggAt (vs 5) 1, aggAt (vs 5) 2]
                rw [hi, h5]
                exact ⟨rfl, by simp, Blk.new3 _ _ _ _ _⟩))
            · have h1 : vs 1 = v := hd.out 1 (mem_of (by kernel_rfl)) (by decide) (by kernel_rfl)
              obtain ⟨s2, c2, h5, f5⟩ := hd.out 5 (mem_of (by kernel_rfl)) (by decide) (by kernel_rfl)
              obtain ⟨h6, q6, f6⟩ := hd.out 6 (mem_of (by kernel_rfl)) (by decide) (by kernel_rfl)
              have V1 := V.keep (fun b _ hb => hS.out 0 b (by kernel_rfl) (Or.inl ⟨rfl, hb⟩))
              simp only [h1, h5, h6]
              have f6' : Blk w1 (iv 6).1 47 [.int .i64 (Ex.put bs (.mk x.kind x.num x.kids)).kind, .int .i64 (Ex.put bs (.mk x.kind x.num x.kids)).num, .slice s2 (Ex.put bs (.mk x.kind x.num x.kids)).kids.length c2] := by first | exact f6 | (rw [h5] at f6; exact f6)
              refine wpList_append_s w1 (by rfl) _ _ 45 (by rfl) 47 (.agg #[.int .i64 0, .int .i64 0, .slice none 0 0]) 3 40 Try.underlying45 zero_implExpr rfl (by decide) (S := (fun b => b ∈ Fs)) (T := (fun b => (iv 5).1 ≤ b ∧ b < (iv 5).2)) _ (by rfl) V1 ⟨(iv 6).1, 0, none⟩ 1 1 [.int .i64 (Ex.put bs (.mk x.kind x.num x.kids)).kind, .int .i64 (Ex.put bs (.mk x.kind x.num x.kids)).num, .slice s2 (Ex.put bs (.mk x.kind x.num x.kids)).kids.length c2] (by rfl) (news_blk f6') f5.three (fun b _ h1 h2 => by have q := (hbd.out 5 (mem_of (by kernel_rfl)) (by decide)).1; have q' := (hGb 0 b (Or.inl ⟨rfl, h1⟩)).2; omega) (by simp) (by simp [Value.oneCell']) (by omega) (by omega) (by unfold maxLen; omega) ?_
              intro g cap w2 hap ht
              go_wp2_with fail
              exact Onward.mk (hK (.slice (some ⟨g, 0, none⟩) (k + 1) cap) _ _ (fun h => by cases h) (by first | rfl | (simp only [Act.put, List.setIfInBounds_toArray, List.set_cons_succ, List.set_cons_zero, h1, h5, h6])) (ht.more (fun b h => Or.inl ⟨0, by decide, (Or.inl ⟨rfl, h⟩)⟩)) (fun iv' ag hi => ⟨g, cap, rfl, hap.more (fun b _ h => by rcases h with h | h | h; exact foot_given 0 (by decide) (Or.inl ⟨rfl, h⟩); exact foot_iv (by kernel_rfl) ag h.1 h.2; exact foot_new hi h.1 h.2)⟩))
            · go_wp2_with fail
              exact Onward.mk (hK (.pointer (some ⟨w.heap.size + 1 + 1, 2, none⟩)) _ _ (fun h => by cases h) (by first | rfl | (simp only [Act.put, List.setIfInBounds_toArray, List.set_cons_succ, List.set_cons_zero])) (Spares.of_below (Below.refl _ _)) (fun iv' _ _ => rfl))
            · obtain ⟨g7, cap7, h7, f7⟩ := hd.out 7 (mem_of (by kernel_rfl)) (by decide) (by kernel_rfl)
              have h8 : vs 8 = .pointer (some ⟨w.heap.size + 1 + 1, 2, none⟩) := hd.out 8 (mem_of (by kernel_rfl)) (by decide) (by kernel_rfl)
              have R1 := R.keep (hS.out 1 _ (by kernel_rfl) (Or.inr (Or.inl ⟨rfl, rfl⟩)))
              have rc0 := R1.c0
              have rz0 := R1.frozen 0
              have rc1 := R1.c1
              have rz1 := R1.frozen 1
              have rc2 := R1.c2
              have rz2 := R1.frozen 2
              have rlt := R1.lt
              go_wp2_with fail
              exact Onward.mk (hK undef _ _ (fun _ => rfl) (by simp only [Act.put, List.setIfInBounds_toArray, List.set_cons_succ, List.set_cons_zero, h7, h8]) ((spares_sets (b0 := w.heap.size + 1 + 1) (by repeat (first | exact Spares.refl _ | apply Spares.set))).more (fun b h => Or.inl ⟨1, by decide, (Or.inr (Or.inl ⟨rfl, h⟩))⟩)) (fun iv' ag hi => by
                show Blk _ (w.heap.size + 1 + 1) 47 [.int .i64 k0, .int .i64 n0, vs 7]
                rw [h7]
                exact (R1.set 2 _)))
          case hQ =>
            intro iv vs wx hB hSp hd he hbd hsep
            have hzB := hB.size
            have h0 : vs 0 = .pointer (some ⟨w.heap.size + 1 + 1, 2, none⟩) := hd.out 0 (mem_of (by kernel_rfl)) (not_eaten (by kernel_rfl))
            have h1 : vs 1 = v := hd.out 1 (mem_of (by kernel_rfl)) (not_eaten (by kernel_rfl))
            have h2 : vs 2 = .agg #[.int .i64 x.kind, .int .i64 x.num, .slice sx x.kids.length cx] := hd.out 2 (mem_of (by kernel_rfl)) (not_eaten (by kernel_rfl))
            have h3 : vs 3 = .slice none 0 0 := hd.out 3 (mem_of (by kernel_rfl)) (not_eaten (by kernel_rfl))
            have h4 : vs 4 = .slice pb bs.length bc := hd.out 4 (mem_of (by kernel_rfl)) (not_eaten (by kernel_rfl))
            obtain ⟨s2, c2, h5⟩ := he.out 5 (mem_of (by kernel_rfl))
            obtain ⟨h6, q6, f6⟩ := hd.out 6 (mem_of (by kernel_rfl)) (not_eaten (by kernel_rfl))
            obtain ⟨g7, cap7, h7, f7⟩ := hd.out 7 (mem_of (by kernel_rfl)) (not_eaten (by kernel_rfl))
            have h8 : vs 8 = .pointer (some ⟨w.heap.size + 1 + 1, 2, none⟩) := hd.out 8 (mem_of (by kernel_rfl)) (not_eaten (by kernel_rfl))
            have f9 : Blk _ (w.heap.size + 1 + 1) 47 [.int .i64 k0, .int .i64 n0, vs 7] := hd.out 9 (mem_of (by kernel_rfl)) (not_eaten (by kernel_rfl))
            have lo7 : ∀ b, foot [(7, 5)] [(7, 0), (9, 1)] (fun m b => (m = 0 ∧ b ∈ Fs) ∨ (m = 1 ∧ b = w.heap.size + 1 + 1) ∨ (m = 2 ∧ b = kq)) 10 7 iv b → (wz.heap.size) ≤ b := by
              rintro b ⟨j, hj, hh⟩
              have hj' := of_decide_eq_true (List.all_eq_true.1 (show ((chainOf [(7, 5)] 10 7).all fun j => decide (j ∈ [7, 5])) = true from by kernel_rfl) j hj)
              simp only [List.mem_cons, List.not_mem_nil, or_false] at hj'
              rcases hj' with rfl | rfl
              · have q := (hbd.out 7 (mem_of (by kernel_rfl))).1
                rcases hh with hh | ⟨m, hm, hg⟩
                · omega
                · simp at hm
                  subst hm
                  simp at hg
                  have q' := Vf b hg
                  omega
              · have q := (hbd.out 5 (mem_of (by kernel_rfl))).1
                rcases hh with hh | ⟨m, hm, hg⟩
                · omega
                · simp at hm
            simp only [putFrom, Act.put, List.setIfInBounds_toArray, List.set_cons_succ, List.set_cons_zero]
            rw [h7] at f9
            have hap := f7.app (W := wz) lo7
            rw [← Hds.out] at hap
            clear hd he hbd hsep h0 h1 h2 h3 h4 h5 h6 h7 h8 lo7 f7
            go_wp2_with fail
            go_roundw
            case rel => exact ⟨k + 1, _, by omega, by go_num, f9, hap, hBr.trans hB⟩
            case measure => simp [intOf]; omega
        · obtain rfl : k = ks.length := by omega
          rw [List.take_of_length_le (by rw [Ex.putL_length]; omega)] at happ
          obtain ⟨a', cap', rfl, -⟩ := happ.shape
          have r0 := R.c0
          have r1 := R.c1
          have r2 := R.c2
          have z0 := R.frozen 0
          have z1 := R.frozen 1
          have z2 := R.frozen 2
          have Q2 := R2.keep (hBr.block _ (by omega))
          have q0 := Q2.c0
          have q1 := Q2.c1
          have q2 := Q2.c2
          have y0 := Q2.frozen 0
          have y1 := Q2.frozen 1
          have y2 := Q2.frozen 2
          have M2 := M.keep (hBr.block _ (by omega))
          have m0 := M2.c0
          have m1 := M2.c1
          have m2 := M2.c2
          rw [← Hpk.out] at happ
          go_wp2_with fail
          have T2 := ((Q2.set 0 (.int .i64 k0)).set 1 (.int .i64 n0)).set 2 (.slice a' ks.length cap')
          have t0 := T2.c0
          have t1 := T2.c1
          have t2 := T2.c2
          refine bodyPost_ret (v := .agg #[.int .i64 k0, .int .i64 n0, .slice a' ks.length cap']) (by simp [results, Try.results70, go_sem, t0, t1, t2]) rfl ⟨a', cap', by rw [Hk.out, Hn.out, ← Hl.out], ?_, by (repeat' (first | exact Below.refl _ _ | assumption | (refine Below.alloc ?_ (by first | omega | (simp; done) | (simp; omega)) _) | (refine Below.drew ?_) | (refine Below.setCell ?_ (by first | omega | (simp; done) | (simp; omega)) _)))⟩
          rw [← Hf.out, ← Hl.out]
          refine Freshs.one ((happ.fresh.keep fun bb hb1 hb2 => ?_).from szx)
          rw [Below.heap_setCell _ _ _ _ (by show bb ≠ w.heap.size + 1; omega), Below.heap_setCell _ _ _ _ (by show bb ≠ w.heap.size + 1; omega), Below.heap_setCell _ _ _ _ (by show bb ≠ w.heap.size + 1; omega)]
    · have e3 : (k0 == 3) = false := by simp [hk3]
      clear hk3
      have Hl : Hid (ks.length = (Ex.put bs (.mk k0 n0 ks)).kids.length) := by show _ = _; rw [Hpk.out, Ex.putL_length]
      have Hk : Hid ((Ex.put bs (.mk k0 n0 ks)).kind = k0) := by show _ = _; rw [Hp.out]; rfl
      have Hn : Hid ((Ex.put bs (.mk k0 n0 ks)).num = n0) := by show _ = _; rw [Hp.out]; rfl
      have Hf : Hid (D.sl 3 ks.length (Ex.cellsL (Ex.put bs (.mk k0 n0 ks)).kids) = kidsD (Ex.put bs (.mk k0 n0 ks)).kids) := by show _ = _; unfold kidsD; rw [Hl.out]
      go_enter Try.func70, Try.ntmps70
      go_wp2_with fail
      have M := ((Blk.new3 w 47 (.int .i64 k0) (.int .i64 n0) (.slice s ks.length c)).alloc (.cells #[.int .i64 0, .int .i64 0, .slice none 0 0] 47)).alloc (.cells #[.int .i64 k0, .int .i64 n0, .slice none 0 0] 47)
      have R2 := (Blk.new3 (w.alloc (.cells #[.int .i64 k0, .int .i64 n0, .slice s ks.length c] 47)) 47 (.int .i64 0) (.int .i64 0) (.slice none 0 0)).alloc (.cells #[.int .i64 k0, .int .i64 n0, .slice none 0 0] 47)
      have R := Blk.new3 ((w.alloc (.cells #[.int .i64 k0, .int .i64 n0, .slice s ks.length c] 47)).alloc (.cells #[.int .i64 0, .int .i64 0, .slice none 0 0] 47)) 47 (.int .i64 k0) (.int .i64 n0) (.slice none 0 0)
      simp at R2 R
      have hBx : Below w.heap.size w (((w.alloc (.cells #[.int .i64 k0, .int .i64 n0, .slice s ks.length c] 47)).alloc (.cells #[.int .i64 0, .int .i64 0, .slice none 0 0] 47)).alloc (.cells #[.int .i64 k0, .int .i64 n0, .slice none 0 0] 47)) := by (repeat' (first | exact Below.refl _ _ | assumption | (refine Below.alloc ?_ (by first | omega | (simp; done) | (simp; omega)) _) | (refine Below.drew ?_) | (refine Below.setCell ?_ (by first | omega | (simp; done) | (simp; omega)) _)))
      generalize (((w.alloc (.cells #[.int .i64 k0, .int .i64 n0, .slice s ks.length c] 47)).alloc (.cells #[.int .i64 0, .int .i64 0, .slice none 0 0] 47)).alloc (.cells #[.int .i64 k0, .int .i64 n0, .slice none 0 0] 47)) = wz at M R2 R hBx ⊢
      have ltR := R.lt
      have szx := hBx.size
      go_loopw [46] (fun i wr => ∃ (k : Nat) (v : Value), k ≤ ks.length ∧ i = .int .i64 k ∧ Blk wr (w.heap.size + 1 + 1) 47 [.int .i64 k0, .int .i64 n0, v] ∧ App wz wr 47 3 k (Ex.cellsL ((Ex.putL bs ks).take k)) v ∧ Below (w.heap.size + 1 + 1) wz wr) (fun i _ => ks.length - (intOf i).toNat)
      case atStart => exact ⟨0, .slice none 0 0, by omega, rfl, R, by simpa [Ex.cellsL] using App.nil, Below.refl _ _⟩
      case round =>
        clear R
        obtain ⟨k, v, hk, rfl, R, happ, hBr⟩ := hrel
        have hBw : Below w.heap.size w wr := hBx.trans (hBr.mono (by omega))
        have szr := hBr.size
        by_cases hlt : k < ks.length
        · obtain ⟨x, hx⟩ : ∃ x, ks[k]? = some x := ⟨_, List.getElem?_eq_getElem (by omega)⟩
          have hy : (Ex.putL bs ks)[k]? = some (Ex.put bs (.mk x.kind x.num x.kids)) := by rw [Ex.putL_at bs hx, ← Ex.eta x]
          obtain ⟨kb, ko, rfl⟩ := kid_some g3 (by intro h; simp [h] at hlt)
          have hxm := Ex.sizeL_mem (List.mem_of_getElem? hx)
          have hse := Ex.size_eq x
          have hxs : Ex.sizeL x.kids < N := by omega
          have hx1 : Ex.sizeL x.kids ≤ 1073741824 := by omega
          clear hxm hse
          have Hds := Lib.hid (Ex.cellsL_take_succ hy)
          clear hy
          obtain ⟨-, sx, cx, g0, g1, g2, gr⟩ := kid_in (g3.below hBw) hx
          obtain ⟨-, sy, cy, i0, i1, i2, hgr0⟩ := kid_in g3 hx
          obtain ⟨rfl, rfl⟩ : sx = sy ∧ cx = cy := by
            have := ((hBw.cell (p := ⟨kb, ko + k * 3 + 2, none⟩) (World.block_lt_of_cell? w _ i2)).trans i2).symm.trans g2
            simp at this
            exact ⟨this.1.symm, this.2.symm⟩
          clear i0 i1 i2
          obtain ⟨Fs, V, Vf⟩ := happ.foot
          have hxt : Ex.tree tm am (.mk x.kind x.num x.kids) = true := by rw [← Ex.eta x]; exact Ex.treeL_mem (tree_parts htr).2.2.2 (List.mem_of_getElem? hx)
          go_wp2_with fail
          clear g0 g1 g2 gr
          have Kb := Blk.new3 wr 47 (.int .i64 x.kind) (.int .i64 x.num) (.slice sx x.kids.length cx)
          replace R := R.alloc (.cells #[.int .i64 x.kind, .int .i64 x.num, .slice sx x.kids.length cx] 47)
          have V := V.keep (w' := wr.alloc (.cells #[.int .i64 x.kind, .int .i64 x.num, .slice sx x.kids.length cx] 47)) (fun b hb _ => Below.heap_alloc _ _ _ hb)
          replace hBr : Below (w.heap.size + 1 + 1) wz (wr.alloc (.cells #[.int .i64 x.kind, .int .i64 x.num, .slice sx x.kids.length cx] 47)) := hBr.alloc (by omega) _
          replace hBw : Below w.heap.size w (wr.alloc (.cells #[.int .i64 x.kind, .int .i64 x.num, .slice sx x.kids.length cx] 47)) := hBw.alloc (by omega) _
          have sza : (wr.alloc (.cells #[.int .i64 x.kind, .int .i64 x.num, .slice sx x.kids.length cx] 47)).heap.size = wr.heap.size + 1 := by simp
          generalize (wr.alloc (.cells #[.int .i64 x.kind, .int .i64 x.num, .slice sx x.kids.length cx] 47)) = wa at Kb R V hBr hBw sza ⊢
          obtain ⟨kq, hkq⟩ : ∃ kq, wr.heap.size = kq := ⟨_, rfl⟩
          have Vf' : ∀ b ∈ Fs, wz.heap.size ≤ b ∧ b < kq := fun b hb => by have := Vf b hb; omega
          clear Vf
          have Vf : ∀ b ∈ Fs, wz.heap.size ≤ b ∧ b < wa.heap.size := fun b hb => by have := Vf' b hb; omega
          rw [hkq] at Kb
          simp only [hkq]
          have szk : wa.heap.size = kq + 1 ∧ wz.heap.size ≤ kq := by omega
          clear sza szr hkq
          obtain ⟨szk1, szk2⟩ := szk
          have Hszk := Lib.hid szk1
          have szk3 : kq < wa.heap.size := by omega
          clear szk1
          have hGb : ∀ m b, (fun m b => (m = 0 ∧ b ∈ Fs) ∨ (m = 1 ∧ b = w.heap.size + 1 + 1) ∨ (m = 2 ∧ b = kq)) m b → (w.heap.size + 1 + 1) ≤ b ∧ b < (wa).heap.size := by
            intro m b hg
            rcases hg with ⟨rfl, hg⟩ | ⟨rfl, hg⟩ | ⟨rfl, hg⟩
            · have q := Vf b hg
              omega
            · subst hg
              have q := R.lt
              omega
            · subst hg
              have q := Kb.lt
              omega
          have hGd : ∀ m m' b, (fun m b => (m = 0 ∧ b ∈ Fs) ∨ (m = 1 ∧ b = w.heap.size + 1 + 1) ∨ (m = 2 ∧ b = kq)) m b → (fun m b => (m = 0 ∧ b ∈ Fs) ∨ (m = 1 ∧ b = w.heap.size + 1 + 1) ∨ (m = 2 ∧ b = kq)) m' b → m = m' := by
            intro m m' b h h'
            rcases h with ⟨rfl, h⟩ | ⟨rfl, h⟩ | ⟨rfl, h⟩ <;> rcases h' with ⟨rfl, h'⟩ | ⟨rfl, h'⟩ | ⟨rfl, h'⟩ <;> first
              | rfl
              | (exfalso; omega)
              | (exfalso; have q := Vf' b h; omega)
              | (exfalso; have q := Vf' b h'; omega)
          refine region_rs [(7, 5)] [(7, 0), (9, 1)] (fun m b => (m = 0 ∧ b ∈ Fs) ∨ (m = 1 ∧ b = w.heap.size + 1 + 1) ∨ (m = 2 ∧ b = kq)) (w.heap.size + 1 + 1) (fun i iv vs wx => match i with
            | 0 => vs 0 = .pointer (some ⟨w.heap.size + 1 + 1, 2, none⟩)
            | 1 => vs 1 = v
            | 2 => vs 2 = .agg #[.int .i64 x.kind, .int .i64 x.num, .slice sx x.kids.length cx]
            | 3 => vs 3 = .slice none 0 0
            | 4 => vs 4 = .slice pb bs.length bc
            | 5 => ∃ s2 c2, vs 5 = .agg #[.int .i64 (Ex.put bs (.mk x.kind x.num x.kids)).kind, .int .i64 (Ex.put bs (.mk x.kind x.num x.kids)).num, .slice s2 (Ex.put bs (.mk x.kind x.num x.kids)).kids.length c2] ∧ FreshIn (iv 5) wx [kidsD (Ex.put bs (.mk x.kind x.num x.kids)).kids] [.slice s2 (Ex.put bs (.mk x.kind x.num x.kids)).kids.length c2]
            | 6 => vs 6 = .slice (some ⟨(iv 6).1, 0, none⟩) 1 1 ∧ (iv 6).2 = (iv 6).1 + 1 ∧ Blk wx (iv 6).1 47 [aggAt (vs 5) 0, aggAt (vs 5) 1, aggAt (vs 5) 2]
            | 7 => ∃ g cap, vs 7 = .slice (some ⟨g, 0, none⟩) (k + 1) cap ∧ AppS (foot [(7, 5)] [(7, 0), (9, 1)] (fun m b => (m = 0 ∧ b ∈ Fs) ∨ (m = 1 ∧ b = w.heap.size + 1 + 1) ∨ (m = 2 ∧ b = kq)) 10 7 iv) wx 47 3 (k + 1) (Ex.cellsL ((Ex.putL bs ks).take k) ++ [.int (Ex.put bs (.mk x.kind x.num x.kids)).kind, .int (Ex.put bs (.mk x.kind x.num x.kids)).num, kidsD (Ex.put bs (.mk x.kind x.num x.kids)).kids]) (.slice (some ⟨g, 0, none⟩) (k + 1) cap)
            | 8 => vs 8 = .pointer (some ⟨w.heap.size + 1 + 1, 2, none⟩)
            | 9 => Blk wx (w.heap.size + 1 + 1) 47 [.int .i64 k0, .int .i64 n0, vs 7]
            | _ => True) (fun i iv vs => match i with
            | 0 => vs 0 = .pointer (some ⟨w.heap.size + 1 + 1, 2, none⟩)
            | 1 => vs 1 = v
            | 2 => vs 2 = .agg #[.int .i64 x.kind, .int .i64 x.num, .slice sx x.kids.length cx]
            | 3 => vs 3 = .slice none 0 0
            | 4 => vs 4 = .slice pb bs.length bc
            | 5 => ∃ s2 c2, vs 5 = .agg #[.int .i64 (Ex.put bs (.mk x.kind x.num x.kids)).kind, .int .i64 (Ex.put bs (.mk x.kind x.num x.kids)).num, .slice s2 (Ex.put bs (.mk x.kind x.num x.kids)).kids.length c2]
            | 6 => vs 6 = .slice (some ⟨(iv 6).1, 0, none⟩) 1 1 ∧ (iv 6).2 = (iv 6).1 + 1
            | 7 => ∃ g cap, vs 7 = .slice (some ⟨g, 0, none⟩) (k + 1) cap
            | 8 => vs 8 = .pointer (some ⟨w.heap.size + 1 + 1, 2, none⟩)
            | 9 => True
            | _ => True) (by kernel_rfl) (by kernel_rfl) [0, 1, 2, 3, 4, 5, 6, 7, 8, 9] (by kernel_rfl) ?hbase ?hGb ?hG ?hJ ?hE ?hEE ?hstep ?hQ
          case hbase => first | exact Nat.le_refl _ | omega | (simp; omega)
          case hGb =>
            exact hGb
          case hG =>
            exact hGd
          case hJ =>
            intro i hi iv iv' vs vs' wx wx' ha hv hz hk hj
            simp only [List.mem_cons, List.not_mem_nil, or_false] at hi
            rcases hi with rfl | rfl | rfl | rfl | rfl | rfl | rfl | rfl | rfl | rfl
            · have e0 := hv.out 0 (mem_of (by kernel_rfl))
              have hj' : vs 0 = .pointer (some ⟨w.heap.size + 1 + 1, 2, none⟩) := hj
              show vs' 0 = .pointer (some ⟨w.heap.size + 1 + 1, 2, none⟩)
              rw [← e0]
              exact hj'
            · have e1 := hv.out 1 (mem_of (by kernel_rfl))
              have hj' : vs 1 = v := hj
              show vs' 1 = v
              rw [← e1]
              exact hj'
            · have e2 := hv.out 2 (mem_of (by kernel_rfl))
              have hj' : vs 2 = .agg #[.int .i64 x.kind, .int .i64 x.num, .slice sx x.kids.length cx] := hj
              show vs' 2 = .agg #[.int .i64 x.kind, .int .i64 x.num, .slice sx x.kids.length cx]
              rw [← e2]
              exact hj'
            · have e3 := hv.out 3 (mem_of (by kernel_rfl))
              have hj' : vs 3 = .slice none 0 0 := hj
              show vs' 3 = .slice none 0 0
              rw [← e3]
              exact hj'
            · have e4 := hv.out 4 (mem_of (by kernel_rfl))
              have hj' : vs 4 = .slice pb bs.length bc := hj
              show vs' 4 = .slice pb bs.length bc
              rw [← e4]
              exact hj'
            · have e5 := hv.out 5 (mem_of (by kernel_rfl))
              have g5 := ha.out 5 (mem_of (by kernel_rfl))
              obtain ⟨s2, c2, q1, q2⟩ := hj
              exact ⟨s2, c2, e5 ▸ q1, g5 ▸ q2.keep (fun b hb h1 h2 => hk.out b hb (foot_own h1 h2))⟩
            · have e5 := hv.out 5 (mem_of (by kernel_rfl))
              have e6 := hv.out 6 (mem_of (by kernel_rfl))
              have g6 := ha.out 6 (mem_of (by kernel_rfl))
              obtain ⟨q1, q3, q2⟩ := hj
              show vs' 6 = .slice (some ⟨(iv' 6).1, 0, none⟩) 1 1 ∧ (iv' 6).2 = (iv' 6).1 + 1 ∧ Blk wx' (iv' 6).1 47 [aggAt (vs' 5) 0, aggAt (vs' 5) 1, aggAt (vs' 5) 2]
              rw [← e5, ← e6, ← g6]
              exact ⟨q1, q3, q2.keep (hk.out _ q2.lt (foot_own (Nat.le_refl _) (by omega)))⟩
            · have e7 := hv.out 7 (mem_of (by kernel_rfl))
              obtain ⟨g, cap, q1, q2⟩ := hj
              exact ⟨g, cap, e7 ▸ q1, (q2.keep (fun b hb h1 => hk.out b hb h1)).more (fun b hb h1 => foot_agree (l := ancs _ 10 7) (by exact of_decide_eq_true (by kernel_rfl)) ha.out h1)⟩
            · have e8 := hv.out 8 (mem_of (by kernel_rfl))
              have hj' : vs 8 = .pointer (some ⟨w.heap.size + 1 + 1, 2, none⟩) := hj
              show vs' 8 = .pointer (some ⟨w.heap.size + 1 + 1, 2, none⟩)
              rw [← e8]
              exact hj'
            · have e7 := hv.out 7 (mem_of (by kernel_rfl))
              have hj' : Blk wx (w.heap.size + 1 + 1) 47 [.int .i64 k0, .int .i64 n0, vs 7] := hj
              show Blk wx' (w.heap.size + 1 + 1) 47 [.int .i64 k0, .int .i64 n0, vs' 7]
              rw [← e7]
              exact hj'.keep (hk.out _ hj'.lt (foot_given 1 (by decide) (Or.inr (Or.inl ⟨rfl, rfl⟩))))
          case hE =>
            intro i hi iv vs wx hj
            simp only [List.mem_cons, List.not_mem_nil, or_false] at hi
            rcases hi with rfl | rfl | rfl | rfl | rfl | rfl | rfl | rfl | rfl | rfl
            · exact hj
            · exact hj
            · exact hj
            · exact hj
            · exact hj
            · obtain ⟨s2, c2, q1, -⟩ := hj
              exact ⟨s2, c2, q1⟩
            · exact ⟨hj.1, hj.2.1⟩
            · obtain ⟨g, cap, q1, -⟩ := hj
              exact ⟨g, cap, q1⟩
            · exact hj
            · trivial
          case hEE =>
            intro i hi iv iv' vs vs' ha hv hj
            simp only [List.mem_cons, List.not_mem_nil, or_false] at hi
            rcases hi with rfl | rfl | rfl | rfl | rfl | rfl | rfl | rfl | rfl | rfl
            · have e0 := hv.out 0 (mem_of (by kernel_rfl))
              have hj' : vs 0 = .pointer (some ⟨w.heap.size + 1 + 1, 2, none⟩) := hj
              show vs' 0 = .pointer (some ⟨w.heap.size + 1 + 1, 2, none⟩)
              rw [← e0]
              exact hj'
            · have e1 := hv.out 1 (mem_of (by kernel_rfl))
              have hj' : vs 1 = v := hj
              show vs' 1 = v
              rw [← e1]
              exact hj'
            · have e2 := hv.out 2 (mem_of (by kernel_rfl))
              have hj' : vs 2 = .agg #[.int .i64 x.kind, .int .i64 x.num, .slice sx x.kids.length cx] := hj
              show vs' 2 = .agg #[.int .i64 x.kind, .int .i64 x.num, .slice sx x.kids.length cx]
              rw [← e2]
              exact hj'
            · have e3 := hv.out 3 (mem_of (by kernel_rfl))
              have hj' : vs 3 = .slice none 0 0 := hj
              show vs' 3 = .slice none 0 0
              rw [← e3]
              exact hj'
            · have e4 := hv.out 4 (mem_of (by kernel_rfl))
              have hj' : vs 4 = .slice pb bs.length bc := hj
              show vs' 4 = .slice pb bs.length bc
              rw [← e4]
              exact hj'
            · have e5 := hv.out 5 (mem_of (by kernel_rfl))
              have hj' : ∃ s2 c2, vs 5 = .agg #[.int .i64 (Ex.put bs (.mk x.kind x.num x.kids)).kind, .int .i64 (Ex.put bs (.mk x.kind x.num x.kids)).num, .slice s2 (Ex.put bs (.mk x.kind x.num x.kids)).kids.length c2] := hj
              show ∃ s2 c2, vs' 5 = .agg #[.int .i64 (Ex.put bs (.mk x.kind x.num x.kids)).kind, .int .i64 (Ex.put bs (.mk x.kind x.num x.kids)).num, .slice s2 (Ex.put bs (.mk x.kind x.num x.kids)).kids.length c2]
              rw [← e5]
              exact hj'
            · have e6 := hv.out 6 (mem_of (by kernel_rfl))
              have g6 := ha.out 6 (mem_of (by kernel_rfl))
              have hj' : vs 6 = .slice (some ⟨(iv 6).1, 0, none⟩) 1 1 ∧ (iv 6).2 = (iv 6).1 + 1 := hj
              show vs' 6 = .slice (some ⟨(iv' 6).1, 0, none⟩) 1 1 ∧ (iv' 6).2 = (iv' 6).1 + 1
              rw [← e6, ← g6]
              exact hj'
            · have e7 := hv.out 7 (mem_of (by kernel_rfl))
              have hj' : ∃ g cap, vs 7 = .slice (some ⟨g, 0, none⟩) (k + 1) cap := hj
              show ∃ g cap, vs' 7 = .slice (some ⟨g, 0, none⟩) (k + 1) cap
              rw [← e7]
              exact hj'
            · have e8 := hv.out 8 (mem_of (by kernel_rfl))
              have hj' : vs 8 = .pointer (some ⟨w.heap.size + 1 + 1, 2, none⟩) := hj
              show vs' 8 = .pointer (some ⟨w.heap.size + 1 + 1, 2, none⟩)
              rw [← e8]
              exact hj'
            · trivial
          case hstep =>
            intro i hi opr ho iv vs w1 hB hS hd he hbd hsep hun K hK
            simp only [List.mem_cons, List.not_mem_nil, or_false] at hi
            have hzB := hB.size
            have gr1 := hgr0.below (hBw.trans (hB.mono (by omega)))
            have by1 := hby.below (hBw.trans (hB.mono (by omega)))
            skip
            generalize hA : putFrom _ 0 vs _ = A at hK ⊢
            simp only [putFrom, Act.put, List.setIfInBounds_toArray, List.set_cons_succ, List.set_cons_zero] at hA
            rcases hi with rfl | rfl | rfl | rfl | rfl | rfl | rfl | rfl | rfl | rfl
            all_goals
              simp at ho
              subst ho
              subst hA
            · go_wp2_with fail
              exact Onward.mk (hK (.pointer (some ⟨w.heap.size + 1 + 1, 2, none⟩)) _ _ (fun h => by cases h) (by first | rfl | (simp only [Act.put, List.setIfInBounds_toArray, List.set_cons_succ, List.set_cons_zero])) (Spares.of_below (Below.refl _ _)) (fun iv' _ _ => rfl))
            · have h0 : vs 0 = .pointer (some ⟨w.heap.size + 1 + 1, 2, none⟩) := hd.out 0 (mem_of (by kernel_rfl)) (by decide) (by kernel_rfl)
              have R1 := R.keep (hS.out 1 _ (by kernel_rfl) (Or.inr (Or.inl ⟨rfl, rfl⟩)))
              have rc0 := R1.c0
              have rz0 := R1.frozen 0
              have rc1 := R1.c1
              have rz1 := R1.frozen 1
              have rc2 := R1.c2
              have rz2 := R1.frozen 2
              have rlt := R1.lt
              go_wp2_with fail
              exact Onward.mk (hK (v) _ _ (fun h => by cases h) (by first | rfl | (simp only [Act.put, List.setIfInBounds_toArray, List.set_cons_succ, List.set_cons_zero, h0])) (Spares.of_below (Below.refl _ _)) (fun iv' _ _ => rfl))
            · have Kb1 := Kb.keep (hS.out 2 _ (by kernel_rfl) (Or.inr (Or.inr ⟨rfl, rfl⟩)))
              have kbc0 := Kb1.c0
              have kbz0 := Kb1.frozen 0
              have kbc1 := Kb1.c1
              have kbz1 := Kb1.frozen 1
              have kbc2 := Kb1.c2
              have kbz2 := Kb1.frozen 2
              have kblt := Kb1.lt
              go_wp2_with fail
              exact Onward.mk (hK (.agg #[.int .i64 x.kind, .int .i64 x.num, .slice sx x.kids.length cx]) _ _ (fun h => by cases h) (by first | rfl | (simp only [Act.put, List.setIfInBounds_toArray, List.set_cons_succ, List.set_cons_zero])) (Spares.of_below (Below.refl _ _)) (fun iv' _ _ => rfl))
            · go_wp2_with fail
              exact Onward.mk (hK (.slice none 0 0) _ _ (fun h => by cases h) (by first | rfl | (simp only [Act.put, List.setIfInBounds_toArray, List.set_cons_succ, List.set_cons_zero])) (Spares.of_below (Below.refl _ _)) (fun iv' _ _ => rfl))
            · go_wp2_with fail
              exact Onward.mk (hK (.slice pb bs.length bc) _ _ (fun h => by cases h) (by first | rfl | (simp only [Act.put, List.setIfInBounds_toArray, List.set_cons_succ, List.set_cons_zero])) (Spares.of_below (Below.refl _ _)) (fun iv' _ _ => rfl))
            · have h2 : vs 2 = .agg #[.int .i64 x.kind, .int .i64 x.num, .slice sx x.kids.length cx] := hd.out 2 (mem_of (by kernel_rfl)) (by decide) (by kernel_rfl)
              have h3 : vs 3 = .slice none 0 0 := hd.out 3 (mem_of (by kernel_rfl)) (by decide) (by kernel_rfl)
              have h4 : vs 4 = .slice pb bs.length bc := hd.out 4 (mem_of (by kernel_rfl)) (by decide) (by kernel_rfl)
              go_wp2_with fail
              refine (ih _ hxs _ _ _ _ _ _ (Nat.le_refl _) gr1 hx1 by1 hxt).mono ?_
              rintro e w2 ⟨s2, c2, rfl, hf, hb⟩
              go_wp2_with fail
              exact Onward.mk (hK (.agg #[.int .i64 (Ex.put bs (.mk x.kind x.num x.kids)).kind, .int .i64 (Ex.put bs (.mk x.kind x.num x.kids)).num, .slice s2 (Ex.put bs (.mk x.kind x.num x.kids)).kids.length c2]) _ _ (fun h => by cases h) (by first | rfl | (simp only [Act.put, List.setIfInBounds_toArray, List.set_cons_succ, List.set_cons_zero, h2, h3, h4])) (Spares.of_below hb) (fun iv' _ hi => ⟨s2, c2, rfl, by rw [hi]; exact Freshs.stretch (hf)⟩))
            · obtain ⟨s2, c2, h5, f5⟩ := hd.out 5 (mem_of (by kernel_rfl)) (by decide) (by kernel_rfl)
              go_wp2_with fail
              exact Onward.mk (hK (.slice (some ⟨w1.heap.size, 0, none⟩) 1 1) _ _ (fun h => by cases h) (by first | rfl | (simp only [Act.put, List.setIfInBounds_toArray, List.set_cons_succ, List.set_cons_zero, h5])) (Spares.of_below (Below.alloc (Below.refl _ _) (Nat.le_refl _) _)) (fun iv' _ hi => by
                show Value.slice (some ⟨w1.heap.size, 0, none⟩) 1 1 = .slice (some ⟨(iv' 6).1, 0, none⟩) 1 1 ∧ (iv' 6).2 = (iv' 6).1 + 1 ∧ Blk _ (iv' 6).1 47 [aggAt (vs 5) 0, aggAt (vs 5) 1, aggAt (vs 5) 2]
                rw [hi, h5]
                exact ⟨rfl, by simp, Blk.new3 _ _ _ _ _⟩))
            · have h1 : vs 1 = v := hd.out 1 (mem_of (by kernel_rfl)) (by decide) (by kernel_rfl)
              obtain ⟨s2, c2, h5, f5⟩ := hd.out 5 (mem_of (by kernel_rfl)) (by decide) (by kernel_rfl)
              obtain ⟨h6, q6, f6⟩ := hd.out 6 (mem_of (by kernel_rfl)) (by decide) (by kernel_rfl)
              have V1 := V.keep (fun b _ hb => hS.out 0 b (by kernel_rfl) (Or.inl ⟨rfl, hb⟩))
              simp only [h1, h5, h6]
              have f6' : Blk w1 (iv 6).1 47 [.int .i64 (Ex.put bs (.mk x.kind x.num x.kids)).kind, .int .i64 (Ex.put bs (.mk x.kind x.num x.kids)).num, .slice s2 (Ex.put bs (.mk x.kind x.num x.kids)).kids.length c2] := by first | exact f6 | (rw [h5] at f6; exact f6)
              refine wpList_append_s w1 (by rfl) _ _ 45 (by rfl) 47 (.agg #[.int .i64 0, .int .i64 0, .slice none 0 0]) 3 40 Try.underlying45 zero_implExpr rfl (by decide) (S := (fun b => b ∈ Fs)) (T := (fun b => (iv 5).1 ≤ b ∧ b < (iv 5).2)) _ (by rfl) V1 ⟨(iv 6).1, 0, none⟩ 1 1 [.int .i64 (Ex.put bs (.mk x.kind x.num x.kids)).kind, .int .i64 (Ex.put bs (.mk x.kind x.num x.kids)).num, .slice s2 (Ex.put bs (.mk x.kind x.num x.kids)).kids.length c2] (by rfl) (news_blk f6') f5.three (fun b _ h1 h2 => by have q := (hbd.out 5 (mem_of (by kernel_rfl)) (by decide)).1; have q' := (hGb 0 b (Or.inl ⟨rfl, h1⟩)).2; omega) (by simp) (by simp [Value.oneCell']) (by omega) (by omega) (by unfold maxLen; omega) ?_
              intro g cap w2 hap ht
              go_wp2_with fail
              exact Onward.mk (hK (.slice (some ⟨g, 0, none⟩) (k + 1) cap) _ _ (fun h => by cases h) (by first | rfl | (simp only [Act.put, List.setIfInBounds_toArray, List.set_cons_succ, List.set_cons_zero, h1, h5, h6])) (ht.more (fun b h => Or.inl ⟨0, by decide, (Or.inl ⟨rfl, h⟩)⟩)) (fun iv' ag hi => ⟨g, cap, rfl, hap.more (fun b _ h => by rcases h with h | h | h; exact foot_given 0 (by decide) (Or.inl ⟨rfl, h⟩); exact foot_iv (by kernel_rfl) ag h.1 h.2; exact foot_new hi h.1 h.2)⟩))
            · go_wp2_with fail
              exact Onward.mk (hK (.pointer (some ⟨w.heap.size + 1 + 1, 2, none⟩)) _ _ (fun h => by cases h) (by first | rfl | (simp only [Act.put, List.setIfInBounds_toArray, List.set_cons_succ, List.set_cons_zero])) (Spares.of_below (Below.refl _ _)) (fun iv' _ _ => rfl))
            · obtain ⟨g7, cap7, h7, f7⟩ := hd.out 7 (mem_of (by kernel_rfl)) (by decide) (by kernel_rfl)
              have h8 : vs 8 = .pointer (some ⟨w.heap.size + 1 + 1, 2, none⟩) := hd.out 8 (mem_of (by kernel_rfl)) (by decide) (by kernel_rfl)
              have R1 := R.keep (hS.out 1 _ (by kernel_rfl) (Or.inr (Or.inl ⟨rfl, rfl⟩)))
              have rc0 := R1.c0
              have rz0 := R1.frozen 0
              have rc1 := R1.c1
              have rz1 := R1.frozen 1
              have rc2 := R1.c2
              have rz2 := R1.frozen 2
              have rlt := R1.lt
              go_wp2_with fail
              exact Onward.mk (hK undef _ _ (fun _ => rfl) (by simp only [Act.put, List.setIfInBounds_toArray, List.set_cons_succ, List.set_cons_zero, h7, h8]) ((spares_sets (b0 := w.heap.size + 1 + 1) (by repeat (first | exact Spares.refl _ | apply Spares.set))).more (fun b h => Or.inl ⟨1, by decide, (Or.inr (Or.inl ⟨rfl, h⟩))⟩)) (fun iv' ag hi => by
                show Blk _ (w.heap.size + 1 + 1) 47 [.int .i64 k0, .int .i64 n0, vs 7]
                rw [h7]
                exact (R1.set 2 _)))
          case hQ =>
            intro iv vs wx hB hSp hd he hbd hsep
            have hzB := hB.size
            have h0 : vs 0 = .pointer (some ⟨w.heap.size + 1 + 1, 2, none⟩) := hd.out 0 (mem_of (by kernel_rfl)) (not_eaten (by kernel_rfl))
            have h1 : vs 1 = v := hd.out 1 (mem_of (by kernel_rfl)) (not_eaten (by kernel_rfl))
            have h2 : vs 2 = .agg #[.int .i64 x.kind, .int .i64 x.num, .slice sx x.kids.length cx] := hd.out 2 (mem_of (by kernel_rfl)) (not_eaten (by kernel_rfl))
            have h3 : vs 3 = .slice none 0 0 := hd.out 3 (mem_of (by kernel_rfl)) (not_eaten (by kernel_rfl))
            have h4 : vs 4 = .slice pb bs.length bc := hd.out 4 (mem_of (by kernel_rfl)) (not_eaten (by kernel_rfl))
            obtain ⟨s2, c2, h5⟩ := he.out 5 (mem_of (by kernel_rfl))
            obtain ⟨h6, q6, f6⟩ := hd.out 6 (mem_of (by kernel_rfl)) (not_eaten (by kernel_rfl))
            obtain ⟨g7, cap7, h7, f7⟩ := hd.out 7 (mem_of (by kernel_rfl)) (not_eaten (by kernel_rfl))
            have h8 : vs 8 = .pointer (some ⟨w.heap.size + 1 + 1, 2, none⟩) := hd.out 8 (mem_of (by kernel_rfl)) (not_eaten (by kernel_rfl))
            have f9 : Blk _ (w.heap.size + 1 + 1) 47 [.int .i64 k0, .int .i64 n0, vs 7] := hd.out 9 (mem_of (by kernel_rfl)) (not_eaten (by kernel_rfl))
            have lo7 : ∀ b, foot [(7, 5)] [(7, 0), (9, 1)] (fun m b => (m = 0 ∧ b ∈ Fs) ∨ (m = 1 ∧ b = w.heap.size + 1 + 1) ∨ (m = 2 ∧ b = kq)) 10 7 iv b → (wz.heap.size) ≤ b := by
              rintro b ⟨j, hj, hh⟩
              have hj' := of_decide_eq_true (List.all_eq_true.1 (show ((chainOf [(7, 5)] 10 7).all fun j => decide (j ∈ [7, 5])) = true from by kernel_rfl) j hj)
              simp only [List.mem_cons, List.not_mem_nil, or_false] at hj'
              rcases hj' with rfl | rfl
              · have q := (hbd.out 7 (mem_of (by kernel_rfl))).1
                rcases hh with hh | ⟨m, hm, hg⟩
                · omega
                · simp at hm
                  subst hm
                  simp at hg
                  have q' := Vf b hg
                  omega
              · have q := (hbd.out 5 (mem_of (by kernel_rfl))).1
                rcases hh with hh | ⟨m, hm, hg⟩
                · omega
                · simp at hm
            simp only [putFrom, Act.put, List.setIfInBounds_toArray, List.set_cons_succ, List.set_cons_zero]
            rw [h7] at f9
            have hap := f7.app (W := wz) lo7
            rw [← Hds.out] at hap
            clear hd he hbd hsep h0 h1 h2 h3 h4 h5 h6 h7 h8 lo7 f7
            go_wp2_with fail
            go_roundw
            case rel => exact ⟨k + 1, _, by omega, by go_num, f9, hap, hBr.trans hB⟩
            case measure => simp [intOf]; omega
        · obtain rfl : k = ks.length := by omega
          rw [List.take_of_length_le (by rw [Ex.putL_length]; omega)] at happ
          obtain ⟨a', cap', rfl, -⟩ := happ.shape
          have r0 := R.c0
          have r1 := R.c1
          have r2 := R.c2
          have z0 := R.frozen 0
          have z1 := R.frozen 1
          have z2 := R.frozen 2
          have Q2 := R2.keep (hBr.block _ (by omega))
          have q0 := Q2.c0
          have q1 := Q2.c1
          have q2 := Q2.c2
          have y0 := Q2.frozen 0
          have y1 := Q2.frozen 1
          have y2 := Q2.frozen 2
          have M2 := M.keep (hBr.block _ (by omega))
          have m0 := M2.c0
          have m1 := M2.c1
          have m2 := M2.c2
          rw [← Hpk.out] at happ
          go_wp2_with fail
          have T2 := ((Q2.set 0 (.int .i64 k0)).set 1 (.int .i64 n0)).set 2 (.slice a' ks.length cap')
          have t0 := T2.c0
          have t1 := T2.c1
          have t2 := T2.c2
          refine bodyPost_ret (v := .agg #[.int .i64 k0, .int .i64 n0, .slice a' ks.length cap']) (by simp [results, Try.results70, go_sem, t0, t1, t2]) rfl ⟨a', cap', by rw [Hk.out, Hn.out, ← Hl.out], ?_, by (repeat' (first | exact Below.refl _ _ | assumption | (refine Below.alloc ?_ (by first | omega | (simp; done) | (simp; omega)) _) | (refine Below.drew ?_) | (refine Below.setCell ?_ (by first | omega | (simp; done) | (simp; omega)) _)))⟩
          rw [← Hf.out, ← Hl.out]
          refine Freshs.one ((happ.fresh.keep fun bb hb1 hb2 => ?_).from szx)
          rw [Below.heap_setCell _ _ _ _ (by show bb ≠ w.heap.size + 1; omega), Below.heap_setCell _ _ _ _ (by show bb ≠ w.heap.size + 1; omega), Below.heap_setCell _ _ _ _ (by show bb ≠ w.heap.size + 1; omega)]

set_option maxHeartbeats 4000000 in
/-- Are all expressions of a list valid, and the signature, too? -/
theorem validExprs_i {t a tm am : Int} {bs : List Ex} {s : Option Addr} {c : Nat} {w : World} (q1 : IntKind.i64.wrap (t - 1) = tm) (q2 : IntKind.i64.wrap (a - 1) = am) (hr : Rd w (kidsD bs) (.slice s bs.length c)) :
    Calls Try.prog 69 #[.agg #[.int .i64 t, .int .i64 a], .slice s bs.length c] w fun f w' => f = .returned (.bool (bs.all (fun e => shF tm am e 200 40) && sigB t a)) ∧ Below w.heap.size w w' := by
  have Hq1 := Lib.hid q1
  have Hq2 := Lib.hid q2
  clear q1 q2
  obtain ⟨-, hlen, hcap, -, -⟩ := kid_at hr
  unfold maxLen at hcap
  go_enter Try.func69, Try.ntmps69
  go_wp2_with fail
  have L := Blk.new2 w 30 (.int .i64 t) (.int .i64 a)
  have hB0 : Below w.heap.size w (w.alloc (.cells #[.int .i64 t, .int .i64 a] 30)) := by (repeat' (first | exact Below.refl _ _ | assumption | (refine Below.alloc ?_ (by first | omega | (simp; done) | (simp; omega)) _) | (refine Below.drew ?_) | (refine Below.setCell ?_ (by first | omega | (simp; done) | (simp; omega)) _)))
  generalize w.alloc (.cells #[.int .i64 t, .int .i64 a] 30) = w1 at L hB0 ⊢
  go_loopw [9] (fun i wr => ∃ k : Nat, k ≤ bs.length ∧ i = .int .i64 k ∧ Hid (∀ (j : Nat) (x : Ex), j < k → bs[j]? = some x → shF tm am x 200 40 = true) ∧ Blk wr w.heap.size 30 [.int .i64 t, .int .i64 a] ∧ Below w.heap.size w wr) (fun i _ => bs.length - (intOf i).toNat)
  case atStart => exact ⟨0, by omega, rfl, fun j x hj => by omega, L, hB0⟩
  case round =>
    clear L hB0
    obtain ⟨k, hk, rfl, Hpre, L, hB⟩ := hrel
    have l0 := L.c0
    have l1 := L.c1
    have ltL := L.lt
    by_cases hlt : k < bs.length
    rotate_left
    · obtain rfl : k = bs.length := by omega
      have C2 : Hid (bs.all (fun e => shF tm am e 200 40) = true) := by
        show _ = _
        rw [List.all_eq_true]
        intro x hx
        obtain ⟨j, hj⟩ := List.mem_iff_getElem?.1 hx
        exact Hpre.out j x (List.getElem?_eq_some_iff.1 hj).1 hj
      go_wp2_with fail
      refine (implValidSig_any _ _ _).mono ?_
      rintro x w2 ⟨rfl, hb⟩
      have hB2 := Below.on hB hb hB.size
      go_wp2_with fail
      go_ret
      exact ⟨by rw [C2.out]; rfl, hB2⟩
    obtain ⟨x, hx⟩ : ∃ e, bs[k]? = some e := ⟨_, List.getElem?_eq_getElem hlt⟩
    obtain ⟨b, o, rfl⟩ := kid_some hr (by intro h; simp [h] at hlt)
    obtain ⟨hbl, sx, cx, i0, i1, i2, gr⟩ := kid_in hr hx
    have g0 := (hB.cell (p := ⟨b, o + k * 3, none⟩) hbl).trans i0
    have g1 := (hB.cell (p := ⟨b, o + k * 3 + 1, none⟩) hbl).trans i1
    have g2 := (hB.cell (p := ⟨b, o + k * 3 + 2, none⟩) hbl).trans i2
    have hblr : b < wr.heap.size := by have := hB.size; omega
    have ha := Int.natCast_nonneg k
    have hb0 : (k : Int) < (bs.length : Int) := by omega
    have Hx := Lib.hid hx
    have hszr := hB.size
    clear hx i0 i1 i2
    go_wp2_with fail
    have L1 := L.alloc (.cells #[.int .i64 x.kind, .int .i64 x.num, .slice sx x.kids.length cx] 47)
    have hB1 := hB.alloc hszr (.cells #[.int .i64 x.kind, .int .i64 x.num, .slice sx x.kids.length cx] 47)
    generalize wr.alloc (.cells #[.int .i64 x.kind, .int .i64 x.num, .slice sx x.kids.length cx] 47) = w2 at L1 hB1 ⊢
    refine (isExpr_w tm am Hq1.out Hq2.out (gr.below hB1)).mono ?_
    rintro f w3 ⟨rfl, hb⟩
    have e1 : shF tm am (Ex.mk x.kind x.num x.kids) 200 40 = shF tm am x 200 40 := by rw [← Ex.eta]
    rw [e1]
    have hB3 := Below.on hB1 hb hB1.size
    have L3 := L1.below hb
    clear hb e1 l0 l1 g0 g1 g2
    cases h1 : shF tm am x 200 40
    · have C1 : Hid (bs.all (fun e => shF tm am e 200 40) = false) := by
        show _ = _
        rw [List.all_eq_false]
        exact ⟨x, List.mem_of_getElem? Hx.out, by simp [h1]⟩
      go_wp2_with fail
      go_ret
      exact ⟨by rw [C1.out]; rfl, hB3⟩
    have Hpre2 : Hid (∀ (j : Nat) (x : Ex), j < k + 1 → bs[j]? = some x → shF tm am x 200 40 = true) := by
      show ∀ (j : Nat) (x : Ex), _
      intro j y hj hy
      by_cases hjk : j = k
      · subst hjk
        have := Hx.out
        rw [hy] at this
        cases this
        exact h1
      · exact Hpre.out j y (by omega) hy
    clear Hpre
    go_wp2_with fail
    go_roundw
    case rel => exact ⟨k + 1, by omega, by go_num, Hpre2, L3, hB3⟩
    case measure => simp [intOf]; omega
end Go.Proofs.Ytlnojmmjpgpjdaa
