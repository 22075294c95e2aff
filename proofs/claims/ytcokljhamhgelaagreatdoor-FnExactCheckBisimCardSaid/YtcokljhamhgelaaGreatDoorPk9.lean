/-
  Parts of a proof, joined: Copy. No condition.
-/
import Derived.Test.YtcokljhamhgelaaGreatDoorPk8
namespace Go.Proofs.YtcokljhamhgelaaGreatDoor
set_option linter.unusedVariables false
set_option linter.unusedSimpArgs false
open Go.ChangeShapes Go.WideShapes Go.ChangeAt Go.RowKit Go.Deep
theorem zero_implExpr : (Tryz.prog.info? 34).map (fun i => (i.zero, i.size, i.bytes)) = some (some (.agg #[.int .i64 0, .int .i64 0, .slice none 0 0]), 3, 40) := by kernel_rfl
def Ex.same (e : Ex) : Ex := e
set_option maxHeartbeats 16000000 in
theorem l01Own_same (N : Nat) : ∀ (e : Ex) (b o : Nat) (w : World), e.size ≤ N → ExAt w b o e → e.size ≤ 1073741824 → 
  Calls Tryz.prog 54 #[.pointer (some ⟨b, o, none⟩)] w fun f w' => ∃ s' c', f = .returned (.agg #[.int .i64 (Ex.same e).kind, .int .i64 (Ex.same e).num, .slice s' (Ex.same e).kids.length c']) ∧
   Freshs w w' [kidsD (Ex.same e).kids] [.slice s' (Ex.same e).kids.length c'] ∧ Below w.heap.size w w' := by
 induction N using Nat.strongRecOn with
 | _ N ih =>
 intro e b o w hN hat h1 
 obtain ⟨g0, g1, s, c, g2, g3⟩ := hat
 have hat : ExAt w b o e := ⟨g0, g1, s, c, g2, g3⟩
 obtain ⟨-, hlen, hcap, -, -⟩ := kid_at g3
 unfold maxLen at hcap
 have hse := Ex.size_eq e
 have hks : Ex.sizeL e.kids < N := by omega
 have hkl := Ex.length_le_sizeL e.kids
 have hkm : e.kids.length ≤ 1073741824 := by omega
 have hsl : Ex.sizeL e.kids ≤ 1073741824 := by omega
 clear hse hkl
 have hbl := hat.lt
 have Hl : Hid (e.kids.length = (Ex.same e).kids.length) := rfl
 have Hk : Hid ((Ex.same e).kind = e.kind) := rfl
 have Hn : Hid ((Ex.same e).num = e.num) := rfl
 have Hf : Hid (D.sl 3 e.kids.length (Ex.cellsL (Ex.same e).kids) = kidsD (Ex.same e).kids) := by show _ = _; unfold kidsD; rw [Hl.out]
 go_enter Tryz.func54, Tryz.ntmps54
 go_wp2_with fail
 have R0 := Blk.new3 w 34 (.int .i64 0) (.int .i64 0) (.slice none 0 0)
 have hB0 : Below w.heap.size w (w.alloc (.cells #[.int .i64 0, .int .i64 0, .slice none 0 0] 34)) := by (repeat' first | exact Below.refl _ _ | assumption | apply Below.alloc | apply Below.drew | apply Below.setCell | omega | (simp; done) | (simp; omega))
 have hz0 : (w.alloc (.cells #[.int .i64 0, .int .i64 0, .slice none 0 0] 34)).heap.size = w.heap.size + 1 := by simp
 generalize (w.alloc (.cells #[.int .i64 0, .int .i64 0, .slice none 0 0] 34)) = w0 at R0 hB0 hz0 ⊢
 have G2 := Lib.hid g2
 have G0 := Lib.hid g0
 clear g0 g1 g2
 have Hz0 := Lib.hid hz0
 have hz0' : w.heap.size < w0.heap.size := by omega
 clear hz0
 refine region_rs [(10, 9)] [] (fun (_ _ : Nat) => False) (w0.heap.size) (fun i iv vs wx => match i with
  | 0 => vs 0 = .pointer (some ⟨b, o, none⟩)
  | 1 => vs 1 = .pointer (some ⟨b, o, none⟩)
  | 2 => vs 2 = .pointer (some ⟨b, o, none⟩)
  | 3 => vs 3 = .int .i64 e.kind
  | 4 => vs 4 = .pointer (some ⟨b, o, none⟩)
  | 5 => vs 5 = .pointer (some ⟨b, o, none⟩)
  | 6 => vs 6 = .pointer (some ⟨b, o + 1, none⟩)
  | 7 => vs 7 = .int .i64 e.num
  | 8 => vs 8 = .agg #[.int .i64 e.kind, .int .i64 e.num, .slice none 0 0]
  | 9 => vs 9 = .pointer (some ⟨(iv 9).1, 0, none⟩) ∧ (iv 9).2 = (iv 9).1 + 1 ∧ Blk wx (iv 9).1 34 [.int .i64 0, .int .i64 0, .slice none 0 0]
  | 10 => (iv 9).2 = (iv 9).1 + 1 ∧ Blk wx ((iv 9).1) 34 [.int .i64 e.kind, .int .i64 e.num, .slice none 0 0]
  | _ => True) (fun i iv vs => match i with
  | 0 => vs 0 = .pointer (some ⟨b, o, none⟩)
  | 1 => vs 1 = .pointer (some ⟨b, o, none⟩)
  | 2 => vs 2 = .pointer (some ⟨b, o, none⟩)
  | 3 => vs 3 = .int .i64 e.kind
  | 4 => vs 4 = .pointer (some ⟨b, o, none⟩)
  | 5 => vs 5 = .pointer (some ⟨b, o, none⟩)
  | 6 => vs 6 = .pointer (some ⟨b, o + 1, none⟩)
  | 7 => vs 7 = .int .i64 e.num
  | 8 => vs 8 = .agg #[.int .i64 e.kind, .int .i64 e.num, .slice none 0 0]
  | 9 => vs 9 = .pointer (some ⟨(iv 9).1, 0, none⟩) ∧ (iv 9).2 = (iv 9).1 + 1
  | 10 => True
  | _ => True) (by kernel_rfl) (by kernel_rfl) [0, 1, 2, 3, 4, 5, 6, 7, 8, 9, 10] (by kernel_rfl) ?hbase ?hGb ?hG ?hJ ?hE ?hEE ?hstep ?hQ
 case hbase => first | exact Nat.le_refl _ | omega | (simp; omega)
 case hGb =>
  exact fun _ _ h => h.elim
 case hG =>
  exact fun _ _ _ h => h.elim
 case hJ =>
  intro i hi iv iv' vs vs' wx wx' ha hv hz hk hj
  simp only [List.mem_cons, List.not_mem_nil, or_false] at hi
  rcases hi with rfl | rfl | rfl | rfl | rfl | rfl | rfl | rfl | rfl | rfl | rfl
  ·
   exact (hv.out 0 (mem_of (by kernel_rfl))).symm.trans hj
  ·
   exact (hv.out 1 (mem_of (by kernel_rfl))).symm.trans hj
  ·
   exact (hv.out 2 (mem_of (by kernel_rfl))).symm.trans hj
  ·
   exact (hv.out 3 (mem_of (by kernel_rfl))).symm.trans hj
  ·
   exact (hv.out 4 (mem_of (by kernel_rfl))).symm.trans hj
  ·
   exact (hv.out 5 (mem_of (by kernel_rfl))).symm.trans hj
  ·
   exact (hv.out 6 (mem_of (by kernel_rfl))).symm.trans hj
  ·
   exact (hv.out 7 (mem_of (by kernel_rfl))).symm.trans hj
  ·
   exact (hv.out 8 (mem_of (by kernel_rfl))).symm.trans hj
  ·
   have e9 := hv.out 9 (mem_of (by kernel_rfl))
   have g9 := ha.out 9 (mem_of (by kernel_rfl))
   obtain ⟨q1, q3, q2⟩ := hj
   show vs' 9 = .pointer (some ⟨(iv' 9).1, 0, none⟩) ∧ (iv' 9).2 = (iv' 9).1 + 1 ∧ Blk wx' (iv' 9).1 34 [.int .i64 0, .int .i64 0, .slice none 0 0]
   rw [← e9, ← g9]
   exact ⟨q1, q3, q2.keep (hk.out _ q2.lt (foot_own (Nat.le_refl _) (by omega)))⟩
  ·
   have g9 := ha.out 9 (mem_of (by kernel_rfl))
   have hj' : (iv 9).2 = (iv 9).1 + 1 ∧ Blk wx ((iv 9).1) 34 [.int .i64 e.kind, .int .i64 e.num, .slice none 0 0] := hj
   show (iv' 9).2 = (iv' 9).1 + 1 ∧ Blk wx' ((iv' 9).1) 34 [.int .i64 e.kind, .int .i64 e.num, .slice none 0 0]
   rw [← g9]
   exact ⟨hj'.1, hj'.2.keep (hk.out _ hj'.2.lt ⟨9, mem_of (by kernel_rfl), Or.inl ⟨Nat.le_refl _, by omega⟩⟩)⟩
 case hE =>
  intro i hi iv vs wx hj
  simp only [List.mem_cons, List.not_mem_nil, or_false] at hi
  rcases hi with rfl | rfl | rfl | rfl | rfl | rfl | rfl | rfl | rfl | rfl | rfl
  ·
   exact hj
  ·
   exact hj
  ·
   exact hj
  ·
   exact hj
  ·
   exact hj
  ·
   exact hj
  ·
   exact hj
  ·
   exact hj
  ·
   exact hj
  ·
   exact ⟨hj.1, hj.2.1⟩
  ·
   trivial
 case hEE =>
  intro i hi iv iv' vs vs' ha hv hj
  simp only [List.mem_cons, List.not_mem_nil, or_false] at hi
  rcases hi with rfl | rfl | rfl | rfl | rfl | rfl | rfl | rfl | rfl | rfl | rfl
  ·
   exact (hv.out 0 (mem_of (by kernel_rfl))).symm.trans hj
  ·
   exact (hv.out 1 (mem_of (by kernel_rfl))).symm.trans hj
  ·
   exact (hv.out 2 (mem_of (by kernel_rfl))).symm.trans hj
  ·
   exact (hv.out 3 (mem_of (by kernel_rfl))).symm.trans hj
  ·
   exact (hv.out 4 (mem_of (by kernel_rfl))).symm.trans hj
  ·
   exact (hv.out 5 (mem_of (by kernel_rfl))).symm.trans hj
  ·
   exact (hv.out 6 (mem_of (by kernel_rfl))).symm.trans hj
  ·
   exact (hv.out 7 (mem_of (by kernel_rfl))).symm.trans hj
  ·
   exact (hv.out 8 (mem_of (by kernel_rfl))).symm.trans hj
  ·
   have e9 := hv.out 9 (mem_of (by kernel_rfl))
   have g9 := ha.out 9 (mem_of (by kernel_rfl))
   have hj' : vs 9 = .pointer (some ⟨(iv 9).1, 0, none⟩) ∧ (iv 9).2 = (iv 9).1 + 1 := hj
   show vs' 9 = .pointer (some ⟨(iv' 9).1, 0, none⟩) ∧ (iv' 9).2 = (iv' 9).1 + 1
   rw [← e9, ← g9]
   exact hj'
  ·
   trivial
 case hstep =>
  intro i hi opr ho iv vs w1 hB hS hSo hd he hbd hsep hun K hK
  simp only [List.mem_cons, List.not_mem_nil, or_false] at hi
  have hzB := hB.size
  obtain ⟨g0, g1, s', c', g2, g3'⟩ := (hat.below hB0).below hB
  generalize hA : putFrom _ 0 vs _ = A at hK ⊢
  simp only [putFrom, puts] at hA
  rcases hi with rfl | rfl | rfl | rfl | rfl | rfl | rfl | rfl | rfl | rfl | rfl
  all_goals
   simp at ho
   subst ho
   subst hA
  ·
   go_wp2_with fail
   exact Onward.mk (hK (.pointer (some ⟨b, o, none⟩)) _ _ (fun h => by cases h) (by first | rfl | (simp only [puts])) (Spares.refl _) (fun iv' _ _ => rfl))
  ·
   have h0 : vs 0 = .pointer (some ⟨b, o, none⟩) := hd.out 0 (mem_of (by kernel_rfl)) (by decide) (by kernel_rfl)
   go_wp2_with fail
   exact Onward.mk (hK (.pointer (some ⟨b, o, none⟩)) _ _ (fun h => by cases h) (by first | rfl | (simp only [puts, h0])) (Spares.refl _) (fun iv' _ _ => rfl))
  ·
   have h1 : vs 1 = .pointer (some ⟨b, o, none⟩) := hd.out 1 (mem_of (by kernel_rfl)) (by decide) (by kernel_rfl)
   go_wp2_with fail
   exact Onward.mk (hK (.pointer (some ⟨b, o, none⟩)) _ _ (fun h => by cases h) (by first | rfl | (simp only [puts, h1])) (Spares.refl _) (fun iv' _ _ => rfl))
  ·
   have h2 : vs 2 = .pointer (some ⟨b, o, none⟩) := hd.out 2 (mem_of (by kernel_rfl)) (by decide) (by kernel_rfl)
   go_wp2_with fail
   exact Onward.mk (hK (.int .i64 e.kind) _ _ (fun h => by cases h) (by first | rfl | (simp only [puts, h2])) (Spares.refl _) (fun iv' _ _ => rfl))
  ·
   go_wp2_with fail
   exact Onward.mk (hK (.pointer (some ⟨b, o, none⟩)) _ _ (fun h => by cases h) (by first | rfl | (simp only [puts])) (Spares.refl _) (fun iv' _ _ => rfl))
  ·
   have h4 : vs 4 = .pointer (some ⟨b, o, none⟩) := hd.out 4 (mem_of (by kernel_rfl)) (by decide) (by kernel_rfl)
   go_wp2_with fail
   exact Onward.mk (hK (.pointer (some ⟨b, o, none⟩)) _ _ (fun h => by cases h) (by first | rfl | (simp only [puts, h4])) (Spares.refl _) (fun iv' _ _ => rfl))
  ·
   have h5 : vs 5 = .pointer (some ⟨b, o, none⟩) := hd.out 5 (mem_of (by kernel_rfl)) (by decide) (by kernel_rfl)
   go_wp2_with fail
   exact Onward.mk (hK (.pointer (some ⟨b, o + 1, none⟩)) _ _ (fun h => by cases h) (by first | rfl | (simp only [puts, h5])) (Spares.refl _) (fun iv' _ _ => rfl))
  ·
   have h6 : vs 6 = .pointer (some ⟨b, o + 1, none⟩) := hd.out 6 (mem_of (by kernel_rfl)) (by decide) (by kernel_rfl)
   go_wp2_with fail
   exact Onward.mk (hK (.int .i64 e.num) _ _ (fun h => by cases h) (by first | rfl | (simp only [puts, h6])) (Spares.refl _) (fun iv' _ _ => rfl))
  ·
   have h3 : vs 3 = .int .i64 e.kind := hd.out 3 (mem_of (by kernel_rfl)) (by decide) (by kernel_rfl)
   have h7 : vs 7 = .int .i64 e.num := hd.out 7 (mem_of (by kernel_rfl)) (by decide) (by kernel_rfl)
   go_wp2_with fail
   exact Onward.mk (hK (.agg #[.int .i64 e.kind, .int .i64 e.num, .slice none 0 0]) _ _ (fun h => by cases h) (by first | rfl | (simp only [puts, h3, h7])) (Spares.refl _) (fun iv' _ _ => rfl))
  ·
   go_wp2_with fail
   exact Onward.mk (hK (.pointer (some ⟨w1.heap.size, 0, none⟩)) _ _ (fun h => by cases h) (by first | rfl | (simp only [puts])) (Spares.of_below (Below.alloc (Below.refl _ _) (Nat.le_refl _) _)) (fun iv' _ hi => by
    show Value.pointer (some ⟨w1.heap.size, 0, none⟩) = .pointer (some ⟨(iv' 9).1, 0, none⟩) ∧ (iv' 9).2 = (iv' 9).1 + 1 ∧ Blk _ (iv' 9).1 34 [.int .i64 0, .int .i64 0, .slice none 0 0]
    rw [hi]
    exact ⟨rfl, by simp, Blk.new3 _ _ _ _ _⟩))
  ·
   have h8 : vs 8 = .agg #[.int .i64 e.kind, .int .i64 e.num, .slice none 0 0] := hd.out 8 (mem_of (by kernel_rfl)) (by decide) (by kernel_rfl)
   obtain ⟨h9, q9, f9⟩ := hd.out 9 (mem_of (by kernel_rfl)) (by decide) (by kernel_rfl)
   have bc0 := f9.c0
   have bz0 := f9.frozen 0
   have bc1 := f9.c1
   have bz1 := f9.frozen 1
   have bc2 := f9.c2
   have bz2 := f9.frozen 2
   have blt := f9.lt
   go_wp2_with fail
   exact Onward.mk (hK undef _ _ (fun _ => rfl) (by simp only [puts, h8, h9]) ((spares_sets (b0 := (iv 9).1) (by repeat (first | exact Spares.refl _ | apply Spares.set))).more (fun b h => Or.inr ⟨9, by decide, foot_own (by omega) (by omega)⟩)) (fun iv' ag hi => by
    show (iv' 9).2 = (iv' 9).1 + 1 ∧ Blk _ ((iv' 9).1) 34 [.int .i64 e.kind, .int .i64 e.num, .slice none 0 0]
    rw [← ag.out 9 (mem_of (by kernel_rfl))]
    exact ⟨q9, (((f9.set 0 _).set 1 _).set 2 _)⟩))
 case hQ =>
  intro iv vs wx hB hSp hd he hbd hsep
  have hzB := hB.size
  have h0 : vs 0 = .pointer (some ⟨b, o, none⟩) := hd.out 0 (mem_of (by kernel_rfl)) (not_eaten (by kernel_rfl))
  have h1 : vs 1 = .pointer (some ⟨b, o, none⟩) := hd.out 1 (mem_of (by kernel_rfl)) (not_eaten (by kernel_rfl))
  have h2 : vs 2 = .pointer (some ⟨b, o, none⟩) := hd.out 2 (mem_of (by kernel_rfl)) (not_eaten (by kernel_rfl))
  have h3 : vs 3 = .int .i64 e.kind := hd.out 3 (mem_of (by kernel_rfl)) (not_eaten (by kernel_rfl))
  have h4 : vs 4 = .pointer (some ⟨b, o, none⟩) := hd.out 4 (mem_of (by kernel_rfl)) (not_eaten (by kernel_rfl))
  have h5 : vs 5 = .pointer (some ⟨b, o, none⟩) := hd.out 5 (mem_of (by kernel_rfl)) (not_eaten (by kernel_rfl))
  have h6 : vs 6 = .pointer (some ⟨b, o + 1, none⟩) := hd.out 6 (mem_of (by kernel_rfl)) (not_eaten (by kernel_rfl))
  have h7 : vs 7 = .int .i64 e.num := hd.out 7 (mem_of (by kernel_rfl)) (not_eaten (by kernel_rfl))
  have h8 : vs 8 = .agg #[.int .i64 e.kind, .int .i64 e.num, .slice none 0 0] := hd.out 8 (mem_of (by kernel_rfl)) (not_eaten (by kernel_rfl))
  obtain ⟨h9, q9⟩ := he.out 9 (mem_of (by kernel_rfl))
  obtain ⟨q10, f10⟩ := hd.out 10 (mem_of (by kernel_rfl)) (not_eaten (by kernel_rfl))
  simp only [putFrom, puts]
  obtain ⟨rb, hrb⟩ : ∃ rb, (iv 9).1 = rb := ⟨_, rfl⟩
  have b9 := (hbd.out 9 (mem_of (by kernel_rfl))).1
  rw [hrb] at h9 f10 b9
  simp only [h9]
  clear hd he hbd hsep h0 h1 h2 h3 h4 h5 h6 h7 h8 h9 q9 q10 hrb
  have hBx : Below w.heap.size w wx := Below.on hB0 hB hB0.size
  have R2 := R0.below hB
  have ltR := f10.lt
  have lt2 := R2.lt
  have szx := hBx.size
  obtain ⟨wz, rfl⟩ : ∃ wz : World, wz = wx := ⟨_, rfl⟩
  go_wp2_with fail
  go_loopw [4] (fun i wr => ∃ (k : Nat) (v : Value), k ≤ e.kids.length ∧ i = .int .i64 k ∧ Blk wr rb 34 [.int .i64 e.kind, .int .i64 e.num, v] ∧ App wz wr 34 3 k (Ex.cellsL ((Ex.same e).kids.take k)) v ∧ Below (w.heap.size + 1) wz wr) (fun i _ => e.kids.length - (intOf i).toNat)
  case atStart => exact ⟨0, .slice none 0 0, by omega, rfl, f10, by simpa [Ex.cellsL] using App.nil, Below.refl _ _⟩
  case round =>
   obtain ⟨k, v, hk, rfl, R, happ, hBr⟩ := hrel
   have hBw : Below w.heap.size w wr := hBx.trans (hBr.mono (by omega))
   have szr := hBr.size
   by_cases hlt : k < e.kids.length
   ·
    skip
    skip
    obtain ⟨x, hx⟩ : ∃ x, e.kids[k]? = some x := ⟨_, List.getElem?_eq_getElem (by omega)⟩
    have hy : (Ex.same e).kids[k]? = some (Ex.same x) := hx
    obtain ⟨kb, ko, rfl⟩ := kid_some g3 (by intro h; simp [h] at hlt)
    have hxat := kid_exAt g3 hx
    have hxm := Ex.sizeL_mem (List.mem_of_getElem? hx)
    have hxs : x.size < N := by omega
    have hx1 : x.size ≤ 1073741824 := by omega
    clear hxm
    have Hds := Lib.hid (Ex.cellsL_take_succ hy)
    clear hy
    obtain ⟨Fs, V, Vf⟩ := happ.foot
    have g2r := (hBw.cell (p := ⟨b, o + 2, none⟩) hbl).trans G2.out
    go_wp2_with fail
    skip
    clear g2r
    have hGb : ∀ m b, (fun m b => (m = 0 ∧ b ∈ Fs) ∨ (m = 1 ∧ b = rb)) m b → (w.heap.size + 1) ≤ b ∧ b < (wr).heap.size := by
     intro m b hg
     rcases hg with ⟨rfl, hg⟩ | ⟨rfl, hg⟩
     ·
      have q := Vf b hg
      omega
     ·
      subst hg
      have q := R.lt
      omega
    have hGd : ∀ m m' b, (fun m b => (m = 0 ∧ b ∈ Fs) ∨ (m = 1 ∧ b = rb)) m b → (fun m b => (m = 0 ∧ b ∈ Fs) ∨ (m = 1 ∧ b = rb)) m' b → m = m' := by
     intro m m' b h h'
     rcases h with ⟨rfl, h⟩ | ⟨rfl, h⟩ <;> rcases h' with ⟨rfl, h'⟩ | ⟨rfl, h'⟩ <;> first
      | rfl
      | (exfalso; have q := Vf b h; omega) | (exfalso; have q := Vf b h'; omega)
    refine region_rs [(10, 8)] [(10, 0), (12, 1)] (fun m b => (m = 0 ∧ b ∈ Fs) ∨ (m = 1 ∧ b = rb)) (w.heap.size + 1) (fun i iv vs wx => match i with
     | 0 => vs 0 = .pointer (some ⟨rb, 2, none⟩)
     | 1 => vs 1 = v
     | 2 => vs 2 = .pointer (some ⟨b, o, none⟩)
     | 3 => vs 3 = .pointer (some ⟨b, o, none⟩)
     | 4 => vs 4 = .pointer (some ⟨b, o + 2, none⟩)
     | 5 => vs 5 = .slice (some ⟨kb, ko, none⟩) e.kids.length c
     | 6 => vs 6 = .int .i64 k
     | 7 => vs 7 = .pointer (some ⟨kb, ko + k * 3, none⟩)
     | 8 => ∃ s2 c2, vs 8 = .agg #[.int .i64 (Ex.same x).kind, .int .i64 (Ex.same x).num, .slice s2 (Ex.same x).kids.length c2] ∧ FreshIn (iv 8) wx [kidsD (Ex.same x).kids] [.slice s2 (Ex.same x).kids.length c2]
     | 9 => vs 9 = .slice (some ⟨(iv 9).1, 0, none⟩) 1 1 ∧ (iv 9).2 = (iv 9).1 + 1 ∧ Blk wx (iv 9).1 34 [aggAt (vs 8) 0, aggAt (vs 8) 1, aggAt (vs 8) 2]
     | 10 => ∃ g cap, vs 10 = .slice (some ⟨g, 0, none⟩) (k + 1) cap ∧ AppS (foot [(10, 8)] [(10, 0), (12, 1)] (fun m b => (m = 0 ∧ b ∈ Fs) ∨ (m = 1 ∧ b = rb)) 13 10 iv) wx 34 3 (k + 1) (Ex.cellsL ((Ex.same e).kids.take k) ++ [.int (Ex.same x).kind, .int (Ex.same x).num, kidsD (Ex.same x).kids]) (.slice (some ⟨g, 0, none⟩) (k + 1) cap)
     | 11 => vs 11 = .pointer (some ⟨rb, 2, none⟩)
     | 12 => Blk wx (rb) 34 [.int .i64 e.kind, .int .i64 e.num, vs 10]
     | _ => True) (fun i iv vs => match i with
     | 0 => vs 0 = .pointer (some ⟨rb, 2, none⟩)
     | 1 => vs 1 = v
     | 2 => vs 2 = .pointer (some ⟨b, o, none⟩)
     | 3 => vs 3 = .pointer (some ⟨b, o, none⟩)
     | 4 => vs 4 = .pointer (some ⟨b, o + 2, none⟩)
     | 5 => vs 5 = .slice (some ⟨kb, ko, none⟩) e.kids.length c
     | 6 => vs 6 = .int .i64 k
     | 7 => vs 7 = .pointer (some ⟨kb, ko + k * 3, none⟩)
     | 8 => ∃ s2 c2, vs 8 = .agg #[.int .i64 (Ex.same x).kind, .int .i64 (Ex.same x).num, .slice s2 (Ex.same x).kids.length c2]
     | 9 => vs 9 = .slice (some ⟨(iv 9).1, 0, none⟩) 1 1 ∧ (iv 9).2 = (iv 9).1 + 1
     | 10 => ∃ g cap, vs 10 = .slice (some ⟨g, 0, none⟩) (k + 1) cap
     | 11 => vs 11 = .pointer (some ⟨rb, 2, none⟩)
     | 12 => True
     | _ => True) (by kernel_rfl) (by kernel_rfl) [0, 1, 2, 3, 4, 5, 6, 7, 8, 9, 10, 11, 12] (by kernel_rfl) ?hbase ?hGb ?hG ?hJ ?hE ?hEE ?hstep ?hQ
    case hbase => first | exact Nat.le_refl _ | omega | (simp; omega)
    case hGb =>
     exact hGb
    case hG =>
     exact hGd
    case hJ =>
     intro i hi iv iv' vs vs' wx wx' ha hv hz hk hj
     simp only [List.mem_cons, List.not_mem_nil, or_false] at hi
     rcases hi with rfl | rfl | rfl | rfl | rfl | rfl | rfl | rfl | rfl | rfl | rfl | rfl | rfl
     ·
      exact (hv.out 0 (mem_of (by kernel_rfl))).symm.trans hj
     ·
      exact (hv.out 1 (mem_of (by kernel_rfl))).symm.trans hj
     ·
      exact (hv.out 2 (mem_of (by kernel_rfl))).symm.trans hj
     ·
      exact (hv.out 3 (mem_of (by kernel_rfl))).symm.trans hj
     ·
      exact (hv.out 4 (mem_of (by kernel_rfl))).symm.trans hj
     ·
      exact (hv.out 5 (mem_of (by kernel_rfl))).symm.trans hj
     ·
      exact (hv.out 6 (mem_of (by kernel_rfl))).symm.trans hj
     ·
      exact (hv.out 7 (mem_of (by kernel_rfl))).symm.trans hj
     ·
      have e8 := hv.out 8 (mem_of (by kernel_rfl))
      have g8 := ha.out 8 (mem_of (by kernel_rfl))
      obtain ⟨s2, c2, q1, q2⟩ := hj
      exact ⟨s2, c2, e8 ▸ q1, g8 ▸ q2.keep (fun b hb h1 h2 => hk.out b hb (foot_own h1 h2))⟩
     ·
      have e8 := hv.out 8 (mem_of (by kernel_rfl))
      have e9 := hv.out 9 (mem_of (by kernel_rfl))
      have g9 := ha.out 9 (mem_of (by kernel_rfl))
      obtain ⟨q1, q3, q2⟩ := hj
      show vs' 9 = .slice (some ⟨(iv' 9).1, 0, none⟩) 1 1 ∧ (iv' 9).2 = (iv' 9).1 + 1 ∧ Blk wx' (iv' 9).1 34 [aggAt (vs' 8) 0, aggAt (vs' 8) 1, aggAt (vs' 8) 2]
      rw [← e8, ← e9, ← g9]
      exact ⟨q1, q3, q2.keep (hk.out _ q2.lt (foot_own (Nat.le_refl _) (by omega)))⟩
     ·
      have e10 := hv.out 10 (mem_of (by kernel_rfl))
      obtain ⟨g, cap, q1, q2⟩ := hj
      exact ⟨g, cap, e10 ▸ q1, (q2.keep (fun b hb h1 => hk.out b hb h1)).more (fun b hb h1 => foot_agree (l := ancs _ 13 10) (by exact of_decide_eq_true (by kernel_rfl)) ha.out h1)⟩
     ·
      exact (hv.out 11 (mem_of (by kernel_rfl))).symm.trans hj
     ·
      have e10 := hv.out 10 (mem_of (by kernel_rfl))
      have hj' : Blk wx (rb) 34 [.int .i64 e.kind, .int .i64 e.num, vs 10] := hj
      show Blk wx' (rb) 34 [.int .i64 e.kind, .int .i64 e.num, vs' 10]
      rw [← e10]
      exact hj'.keep (hk.out _ hj'.lt (foot_given 1 (by decide) (Or.inr ⟨rfl, rfl⟩)))
    case hE =>
     intro i hi iv vs wx hj
     simp only [List.mem_cons, List.not_mem_nil, or_false] at hi
     rcases hi with rfl | rfl | rfl | rfl | rfl | rfl | rfl | rfl | rfl | rfl | rfl | rfl | rfl
     ·
      exact hj
     ·
      exact hj
     ·
      exact hj
     ·
      exact hj
     ·
      exact hj
     ·
      exact hj
     ·
      exact hj
     ·
      exact hj
     ·
      obtain ⟨s2, c2, q1, -⟩ := hj
      exact ⟨s2, c2, q1⟩
     ·
      exact ⟨hj.1, hj.2.1⟩
     ·
      obtain ⟨g, cap, q1, -⟩ := hj
      exact ⟨g, cap, q1⟩
     ·
      exact hj
     ·
      trivial
    case hEE =>
     intro i hi iv iv' vs vs' ha hv hj
     simp only [List.mem_cons, List.not_mem_nil, or_false] at hi
     rcases hi with rfl | rfl | rfl | rfl | rfl | rfl | rfl | rfl | rfl | rfl | rfl | rfl | rfl
     ·
      exact (hv.out 0 (mem_of (by kernel_rfl))).symm.trans hj
     ·
      exact (hv.out 1 (mem_of (by kernel_rfl))).symm.trans hj
     ·
      exact (hv.out 2 (mem_of (by kernel_rfl))).symm.trans hj
     ·
      exact (hv.out 3 (mem_of (by kernel_rfl))).symm.trans hj
     ·
      exact (hv.out 4 (mem_of (by kernel_rfl))).symm.trans hj
     ·
      exact (hv.out 5 (mem_of (by kernel_rfl))).symm.trans hj
     ·
      exact (hv.out 6 (mem_of (by kernel_rfl))).symm.trans hj
     ·
      exact (hv.out 7 (mem_of (by kernel_rfl))).symm.trans hj
     ·
      have e8 := hv.out 8 (mem_of (by kernel_rfl))
      have hj' : ∃ s2 c2, vs 8 = .agg #[.int .i64 (Ex.same x).kind, .int .i64 (Ex.same x).num, .slice s2 (Ex.same x).kids.length c2] := hj
      show ∃ s2 c2, vs' 8 = .agg #[.int .i64 (Ex.same x).kind, .int .i64 (Ex.same x).num, .slice s2 (Ex.same x).kids.length c2]
      rw [← e8]
      exact hj'
     ·
      have e9 := hv.out 9 (mem_of (by kernel_rfl))
      have g9 := ha.out 9 (mem_of (by kernel_rfl))
      have hj' : vs 9 = .slice (some ⟨(iv 9).1, 0, none⟩) 1 1 ∧ (iv 9).2 = (iv 9).1 + 1 := hj
      show vs' 9 = .slice (some ⟨(iv' 9).1, 0, none⟩) 1 1 ∧ (iv' 9).2 = (iv' 9).1 + 1
      rw [← e9, ← g9]
      exact hj'
     ·
      have e10 := hv.out 10 (mem_of (by kernel_rfl))
      have hj' : ∃ g cap, vs 10 = .slice (some ⟨g, 0, none⟩) (k + 1) cap := hj
      show ∃ g cap, vs' 10 = .slice (some ⟨g, 0, none⟩) (k + 1) cap
      rw [← e10]
      exact hj'
     ·
      exact (hv.out 11 (mem_of (by kernel_rfl))).symm.trans hj
     ·
      trivial
    case hstep =>
     intro i hi opr ho iv vs w1 hB hS hSo hd he hbd hsep hun K hK
     simp only [List.mem_cons, List.not_mem_nil, or_false] at hi
     have hzB := hB.size
     have HGb := Lib.hid hGb
     clear hGb hGd
     have hBw1 : Below w.heap.size w w1 := hBw.trans (hB.mono (by omega))
     have g2' := (hBw1.cell (p := ⟨b, o + 2, none⟩) hbl).trans G2.out
     have hx1' := hxat.below hBw1
     generalize hA : putFrom _ 0 vs _ = A at hK ⊢
     simp only [putFrom, puts] at hA
     rcases hi with rfl | rfl | rfl | rfl | rfl | rfl | rfl | rfl | rfl | rfl | rfl | rfl | rfl
     all_goals
      simp at ho
      subst ho
      subst hA
     ·
      go_wp2_with fail
      exact Onward.mk (hK (.pointer (some ⟨rb, 2, none⟩)) _ _ (fun h => by cases h) (by first | rfl | (simp only [puts])) (Spares.refl _) (fun iv' _ _ => rfl))
     ·
      have h0 : vs 0 = .pointer (some ⟨rb, 2, none⟩) := hd.out 0 (mem_of (by kernel_rfl)) (by decide) (by kernel_rfl)
      have R1 := R.keep (hS.out 1 _ (by kernel_rfl) (Or.inr ⟨rfl, rfl⟩))
      have rc0 := R1.c0
      have rz0 := R1.frozen 0
      have rc1 := R1.c1
      have rz1 := R1.frozen 1
      have rc2 := R1.c2
      have rz2 := R1.frozen 2
      have rlt := R1.lt
      go_wp2_with fail
      exact Onward.mk (hK (v) _ _ (fun h => by cases h) (by first | rfl | (simp only [puts, h0])) (Spares.refl _) (fun iv' _ _ => rfl))
     ·
      go_wp2_with fail
      exact Onward.mk (hK (.pointer (some ⟨b, o, none⟩)) _ _ (fun h => by cases h) (by first | rfl | (simp only [puts])) (Spares.refl _) (fun iv' _ _ => rfl))
     ·
      have h2 : vs 2 = .pointer (some ⟨b, o, none⟩) := hd.out 2 (mem_of (by kernel_rfl)) (by decide) (by kernel_rfl)
      go_wp2_with fail
      exact Onward.mk (hK (.pointer (some ⟨b, o, none⟩)) _ _ (fun h => by cases h) (by first | rfl | (simp only [puts, h2])) (Spares.refl _) (fun iv' _ _ => rfl))
     ·
      have h3 : vs 3 = .pointer (some ⟨b, o, none⟩) := hd.out 3 (mem_of (by kernel_rfl)) (by decide) (by kernel_rfl)
      go_wp2_with fail
      exact Onward.mk (hK (.pointer (some ⟨b, o + 2, none⟩)) _ _ (fun h => by cases h) (by first | rfl | (simp only [puts, h3])) (Spares.refl _) (fun iv' _ _ => rfl))
     ·
      have h4 : vs 4 = .pointer (some ⟨b, o + 2, none⟩) := hd.out 4 (mem_of (by kernel_rfl)) (by decide) (by kernel_rfl)
      go_wp2_with fail
      exact Onward.mk (hK (.slice (some ⟨kb, ko, none⟩) e.kids.length c) _ _ (fun h => by cases h) (by first | rfl | (simp only [puts, h4])) (Spares.refl _) (fun iv' _ _ => rfl))
     ·
      go_wp2_with fail
      exact Onward.mk (hK (.int .i64 k) _ _ (fun h => by cases h) (by first | rfl | (simp only [puts])) (Spares.refl _) (fun iv' _ _ => rfl))
     ·
      have h5 : vs 5 = .slice (some ⟨kb, ko, none⟩) e.kids.length c := hd.out 5 (mem_of (by kernel_rfl)) (by decide) (by kernel_rfl)
      have h6 : vs 6 = .int .i64 k := hd.out 6 (mem_of (by kernel_rfl)) (by decide) (by kernel_rfl)
      go_wp2_with fail
      exact Onward.mk (hK (.pointer (some ⟨kb, ko + k * 3, none⟩)) _ _ (fun h => by cases h) (by first | rfl | (simp only [puts, h5, h6])) (Spares.refl _) (fun iv' _ _ => rfl))
     ·
      have h7 : vs 7 = .pointer (some ⟨kb, ko + k * 3, none⟩) := hd.out 7 (mem_of (by kernel_rfl)) (by decide) (by kernel_rfl)
      go_wp2_with fail
      refine (ih _ hxs x _ _ _ (Nat.le_refl _) hx1' hx1).mono ?_
      rintro e w2 ⟨s2, c2, rfl, hf, hb⟩
      go_wp2_with fail
      exact Onward.mk (hK (.agg #[.int .i64 (Ex.same x).kind, .int .i64 (Ex.same x).num, .slice s2 (Ex.same x).kids.length c2]) _ _ (fun h => by cases h) (by first | rfl | (simp only [puts, h7])) (Spares.of_below hb) (fun iv' _ hi => ⟨s2, c2, rfl, by rw [hi]; exact Freshs.stretch (hf)⟩))
     ·
      obtain ⟨s2, c2, h8, f8⟩ := hd.out 8 (mem_of (by kernel_rfl)) (by decide) (by kernel_rfl)
      go_wp2_with fail
      exact Onward.mk (hK (.slice (some ⟨w1.heap.size, 0, none⟩) 1 1) _ _ (fun h => by cases h) (by first | rfl | (simp only [puts, h8])) (Spares.of_below (Below.alloc (Below.refl _ _) (Nat.le_refl _) _)) (fun iv' _ hi => by
       show Value.slice (some ⟨w1.heap.size, 0, none⟩) 1 1 = .slice (some ⟨(iv' 9).1, 0, none⟩) 1 1 ∧ (iv' 9).2 = (iv' 9).1 + 1 ∧ Blk _ (iv' 9).1 34 [aggAt (vs 8) 0, aggAt (vs 8) 1, aggAt (vs 8) 2]
       rw [hi, h8]
       exact ⟨rfl, by simp, Blk.new3 _ _ _ _ _⟩))
     ·
      have h1 : vs 1 = v := hd.out 1 (mem_of (by kernel_rfl)) (by decide) (by kernel_rfl)
      obtain ⟨s2, c2, h8, f8⟩ := hd.out 8 (mem_of (by kernel_rfl)) (by decide) (by kernel_rfl)
      obtain ⟨h9, q9, f9⟩ := hd.out 9 (mem_of (by kernel_rfl)) (by decide) (by kernel_rfl)
      have V1 := V.keep (fun b _ hb => hS.out 0 b (by kernel_rfl) (Or.inl ⟨rfl, hb⟩))
      simp only [h1, h8, h9]
      have f9' : Blk w1 (iv 9).1 34 [.int .i64 (Ex.same x).kind, .int .i64 (Ex.same x).num, .slice s2 (Ex.same x).kids.length c2] := by first | exact f9 | (rw [h8] at f9; exact f9)
      refine wpList_append_s w1 (by rfl) _ _ 32 (by rfl) 34 (.agg #[.int .i64 0, .int .i64 0, .slice none 0 0]) 3 40 Tryz.underlying32 zero_implExpr rfl (by decide) (S := (fun b => b ∈ Fs)) (T := (fun b => (iv 8).1 ≤ b ∧ b < (iv 8).2)) _ (by rfl) V1 ⟨(iv 9).1, 0, none⟩ 1 1 [.int .i64 (Ex.same x).kind, .int .i64 (Ex.same x).num, .slice s2 (Ex.same x).kids.length c2] (by rfl) (news_blk f9') f8.three (fun b _ h1 h2 => by have q := (hbd.out 8 (mem_of (by kernel_rfl)) (by decide)).1; have q' := (HGb.out 0 b (Or.inl ⟨rfl, h1⟩)).2; omega) (by simp) (by simp [Value.oneCell']) (by omega) (by omega) (by unfold maxLen; omega) ?_
      intro g cap w2 hap ht
      go_wp2_with fail
      exact Onward.mk (hK (.slice (some ⟨g, 0, none⟩) (k + 1) cap) _ _ (fun h => by cases h) (by first | rfl | (simp only [puts, h1, h8, h9])) (ht.more (fun b h => Or.inl ⟨0, by decide, (Or.inl ⟨rfl, h⟩)⟩)) (fun iv' ag hi => ⟨g, cap, rfl, hap.more (fun b _ h => by rcases h with h | h | h; exact foot_given 0 (by decide) (Or.inl ⟨rfl, h⟩); exact foot_iv (by kernel_rfl) ag h.1 h.2; exact foot_new hi h.1 h.2)⟩))
     ·
      go_wp2_with fail
      exact Onward.mk (hK (.pointer (some ⟨rb, 2, none⟩)) _ _ (fun h => by cases h) (by first | rfl | (simp only [puts])) (Spares.refl _) (fun iv' _ _ => rfl))
     ·
      obtain ⟨g10, cap10, h10, f10⟩ := hd.out 10 (mem_of (by kernel_rfl)) (by decide) (by kernel_rfl)
      have h11 : vs 11 = .pointer (some ⟨rb, 2, none⟩) := hd.out 11 (mem_of (by kernel_rfl)) (by decide) (by kernel_rfl)
      have R1 := R.keep (hS.out 1 _ (by kernel_rfl) (Or.inr ⟨rfl, rfl⟩))
      have rc0 := R1.c0
      have rz0 := R1.frozen 0
      have rc1 := R1.c1
      have rz1 := R1.frozen 1
      have rc2 := R1.c2
      have rz2 := R1.frozen 2
      have rlt := R1.lt
      go_wp2_with fail
      exact Onward.mk (hK undef _ _ (fun _ => rfl) (by simp only [puts, h10, h11]) ((spares_sets (b0 := rb) (by repeat (first | exact Spares.refl _ | apply Spares.set))).more (fun b h => Or.inl ⟨1, by decide, (Or.inr ⟨rfl, h⟩)⟩)) (fun iv' ag hi => by
       show Blk _ (rb) 34 [.int .i64 e.kind, .int .i64 e.num, vs 10]
       rw [h10]
       exact (R1.set 2 _)))
    case hQ =>
     intro iv vs wx hB hSp hd he hbd hsep
     have hzB := hB.size
     have h0 : vs 0 = .pointer (some ⟨rb, 2, none⟩) := hd.out 0 (mem_of (by kernel_rfl)) (not_eaten (by kernel_rfl))
     have h1 : vs 1 = v := hd.out 1 (mem_of (by kernel_rfl)) (not_eaten (by kernel_rfl))
     have h2 : vs 2 = .pointer (some ⟨b, o, none⟩) := hd.out 2 (mem_of (by kernel_rfl)) (not_eaten (by kernel_rfl))
     have h3 : vs 3 = .pointer (some ⟨b, o, none⟩) := hd.out 3 (mem_of (by kernel_rfl)) (not_eaten (by kernel_rfl))
     have h4 : vs 4 = .pointer (some ⟨b, o + 2, none⟩) := hd.out 4 (mem_of (by kernel_rfl)) (not_eaten (by kernel_rfl))
     have h5 : vs 5 = .slice (some ⟨kb, ko, none⟩) e.kids.length c := hd.out 5 (mem_of (by kernel_rfl)) (not_eaten (by kernel_rfl))
     have h6 : vs 6 = .int .i64 k := hd.out 6 (mem_of (by kernel_rfl)) (not_eaten (by kernel_rfl))
     have h7 : vs 7 = .pointer (some ⟨kb, ko + k * 3, none⟩) := hd.out 7 (mem_of (by kernel_rfl)) (not_eaten (by kernel_rfl))
     obtain ⟨s2, c2, h8⟩ := he.out 8 (mem_of (by kernel_rfl))
     obtain ⟨h9, q9, f9⟩ := hd.out 9 (mem_of (by kernel_rfl)) (not_eaten (by kernel_rfl))
     obtain ⟨g10, cap10, h10, f10⟩ := hd.out 10 (mem_of (by kernel_rfl)) (not_eaten (by kernel_rfl))
     have h11 : vs 11 = .pointer (some ⟨rb, 2, none⟩) := hd.out 11 (mem_of (by kernel_rfl)) (not_eaten (by kernel_rfl))
     have f12 : Blk _ (rb) 34 [.int .i64 e.kind, .int .i64 e.num, vs 10] := hd.out 12 (mem_of (by kernel_rfl)) (not_eaten (by kernel_rfl))
     have lo10 : ∀ b, foot [(10, 8)] [(10, 0), (12, 1)] (fun m b => (m = 0 ∧ b ∈ Fs) ∨ (m = 1 ∧ b = rb)) 13 10 iv b → (wz.heap.size) ≤ b := by
      rintro b ⟨j, hj, hh⟩
      have hj' := of_decide_eq_true (List.all_eq_true.1 (show ((chainOf [(10, 8)] 13 10).all fun j => decide (j ∈ [10, 8])) = true from by kernel_rfl) j hj)
      simp only [List.mem_cons, List.not_mem_nil, or_false] at hj'
      rcases hj' with rfl | rfl
      ·
       have q := (hbd.out 10 (mem_of (by kernel_rfl))).1
       rcases hh with hh | ⟨m, hm, hg⟩
       ·
        omega
       ·
        simp at hm
        subst hm
        simp at hg
        have q' := Vf b hg
        omega
      ·
       have q := (hbd.out 8 (mem_of (by kernel_rfl))).1
       rcases hh with hh | ⟨m, hm, hg⟩
       ·
        omega
       ·
        simp at hm
     simp only [putFrom, puts]
     rw [h10] at f12
     have hap := f10.app (W := wz) lo10
     rw [← Hds.out] at hap
     clear hd he hbd hsep h0 h1 h2 h3 h4 h5 h6 h7 h8 h9 h10 h11 lo10 f10
     go_wp2_with fail
     go_roundw
     case rel => exact ⟨k + 1, _, by omega, by go_num, f12, hap, hBr.trans hB⟩
     case measure => simp [intOf]; omega
   ·
    obtain rfl : k = e.kids.length := by omega
    rw [List.take_of_length_le (by have := Hl.out; omega)] at happ
    obtain ⟨a', cap', rfl, -⟩ := happ.shape
    have g2r := (hBw.cell (p := ⟨b, o + 2, none⟩) hbl).trans G2.out
    have r0 := R.c0
    have r1 := R.c1
    have r2 := R.c2
    have Q2 := R2.keep (hBr.block _ (by omega))
    have q0 := Q2.c0
    have q1 := Q2.c1
    have q2 := Q2.c2
    have z0 := Q2.frozen 0
    have z1 := Q2.frozen 1
    have z2 := Q2.frozen 2
    go_wp2_with fail
    have T2 := ((Q2.set 0 (.int .i64 e.kind)).set 1 (.int .i64 e.num)).set 2 (.slice a' e.kids.length cap')
    have t0 := T2.c0
    have t1 := T2.c1
    have t2 := T2.c2
    refine bodyPost_ret (v := .agg #[.int .i64 e.kind, .int .i64 e.num, .slice a' e.kids.length cap']) (by simp [results, Tryz.results54, go_sem, t0, t1, t2]) rfl ⟨a', cap', by rw [Hk.out, Hn.out, ← Hl.out], ?_, by (repeat' first | exact Below.refl _ _ | assumption | apply Below.alloc | apply Below.drew | apply Below.setCell | omega | (simp; done) | (simp; omega))⟩
    rw [← Hf.out, ← Hl.out]
    refine Freshs.one ((happ.fresh.keep fun bb hb1 hb2 => ?_).from szx)
    rw [Below.heap_setCell _ _ _ _ (by show bb ≠ w.heap.size; omega), Below.heap_setCell _ _ _ _ (by show bb ≠ w.heap.size; omega), Below.heap_setCell _ _ _ _ (by show bb ≠ w.heap.size; omega)]
set_option maxHeartbeats 16000000 in
theorem copyExpr_same (N : Nat) : ∀ (k0 n0 : Int) (ks : List Ex) (s : Option Addr) (c : Nat) (w : World), Ex.sizeL ks ≤ N → Rd w (kidsD ks) (.slice s ks.length c) → Ex.sizeL ks ≤ 1073741824 → 
  Calls Tryz.prog 66 #[.agg #[.int .i64 k0, .int .i64 n0, .slice s ks.length c]] w fun f w' => ∃ s' c', f = .returned (.agg #[.int .i64 (Ex.same (.mk k0 n0 ks)).kind, .int .i64 (Ex.same (.mk k0 n0 ks)).num, .slice s' (Ex.same (.mk k0 n0 ks)).kids.length c']) ∧
   Freshs w w' [kidsD (Ex.same (.mk k0 n0 ks)).kids] [.slice s' (Ex.same (.mk k0 n0 ks)).kids.length c'] ∧ Below w.heap.size w w' := by
 induction N using Nat.strongRecOn with
 | _ N ih =>
 intro k0 n0 ks s c w hN g3 hsl 
 obtain ⟨-, hlen, hcap, -, -⟩ := kid_at g3
 unfold maxLen at hcap
 have hkl := Ex.length_le_sizeL ks
 have hkm : ks.length ≤ 1073741824 := by omega
 clear hkl
 have Hl : Hid (ks.length = (Ex.same (.mk k0 n0 ks)).kids.length) := rfl
 have Hk : Hid ((Ex.same (.mk k0 n0 ks)).kind = k0) := rfl
 have Hn : Hid ((Ex.same (.mk k0 n0 ks)).num = n0) := rfl
 have Hf : Hid (D.sl 3 ks.length (Ex.cellsL (Ex.same (.mk k0 n0 ks)).kids) = kidsD (Ex.same (.mk k0 n0 ks)).kids) := by show _ = _; unfold kidsD; rw [Hl.out]
 go_enter Tryz.func66, Tryz.ntmps66
 go_wp2_with fail
 have M := ((Blk.new3 w 34 (.int .i64 k0) (.int .i64 n0) (.slice s ks.length c)).alloc (.cells #[.int .i64 0, .int .i64 0, .slice none 0 0] 34)).alloc (.cells #[.int .i64 k0, .int .i64 n0, .slice none 0 0] 34)
 have R2 := (Blk.new3 (w.alloc (.cells #[.int .i64 k0, .int .i64 n0, .slice s ks.length c] 34)) 34 (.int .i64 0) (.int .i64 0) (.slice none 0 0)).alloc (.cells #[.int .i64 k0, .int .i64 n0, .slice none 0 0] 34)
 have R := Blk.new3 ((w.alloc (.cells #[.int .i64 k0, .int .i64 n0, .slice s ks.length c] 34)).alloc (.cells #[.int .i64 0, .int .i64 0, .slice none 0 0] 34)) 34 (.int .i64 k0) (.int .i64 n0) (.slice none 0 0)
 simp at R2 R
 have hBx : Below w.heap.size w (((w.alloc (.cells #[.int .i64 k0, .int .i64 n0, .slice s ks.length c] 34)).alloc (.cells #[.int .i64 0, .int .i64 0, .slice none 0 0] 34)).alloc (.cells #[.int .i64 k0, .int .i64 n0, .slice none 0 0] 34)) := by (repeat' first | exact Below.refl _ _ | assumption | apply Below.alloc | apply Below.drew | apply Below.setCell | omega | (simp; done) | (simp; omega))
 generalize (((w.alloc (.cells #[.int .i64 k0, .int .i64 n0, .slice s ks.length c] 34)).alloc (.cells #[.int .i64 0, .int .i64 0, .slice none 0 0] 34)).alloc (.cells #[.int .i64 k0, .int .i64 n0, .slice none 0 0] 34)) = wz at M R2 R hBx ⊢
 have ltR := R.lt
 have szx := hBx.size
 go_loopw [14] (fun i wr => ∃ (k : Nat) (v : Value), k ≤ ks.length ∧ i = .int .i64 k ∧ Blk wr (w.heap.size + 1 + 1) 34 [.int .i64 k0, .int .i64 n0, v] ∧ App wz wr 34 3 k (Ex.cellsL (ks.take k)) v ∧ Below (w.heap.size + 1 + 1) wz wr) (fun i _ => ks.length - (intOf i).toNat)
 case atStart => exact ⟨0, .slice none 0 0, by omega, rfl, R, by simpa [Ex.cellsL] using App.nil, Below.refl _ _⟩
 case round =>
  clear R
  obtain ⟨k, v, hk, rfl, R, happ, hBr⟩ := hrel
  have hBw : Below w.heap.size w wr := hBx.trans (hBr.mono (by omega))
  have szr := hBr.size
  by_cases hlt : k < ks.length
  ·
   obtain ⟨x, hx⟩ : ∃ x, ks[k]? = some x := ⟨_, List.getElem?_eq_getElem (by omega)⟩
   have hy : ks[k]? = some (Ex.same (.mk x.kind x.num x.kids)) := by rw [hx]; exact congrArg some (Ex.eta x)
   obtain ⟨kb, ko, rfl⟩ := kid_some g3 (by intro h; simp [h] at hlt)
   have hxm := Ex.sizeL_mem (List.mem_of_getElem? hx)
   have hse := Ex.size_eq x
   have hxs : Ex.sizeL x.kids < N := by omega
   have hx1 : Ex.sizeL x.kids ≤ 1073741824 := by omega
   clear hxm hse
   have Hds := Lib.hid (Ex.cellsL_take_succ hy)
   clear hy
   obtain ⟨-, sx, cx, g0, g1, g2, gr⟩ := kid_in (g3.below hBw) hx
   obtain ⟨-, sy, cy, i0, i1, i2, hgr0⟩ := kid_in g3 hx
   obtain ⟨rfl, rfl⟩ : sx = sy ∧ cx = cy := by
    have := ((hBw.cell (p := ⟨kb, ko + k * 3 + 2, none⟩) (World.block_lt_of_cell? w _ i2)).trans i2).symm.trans g2
    simp at this
    exact ⟨this.1.symm, this.2.symm⟩
   clear i0 i1 i2
   obtain ⟨Fs, V, Vf⟩ := happ.foot
   skip
   go_wp2_with fail
   clear g0 g1 g2 gr
   have Kb := Blk.new3 wr 34 (.int .i64 x.kind) (.int .i64 x.num) (.slice sx x.kids.length cx)
   replace R := R.alloc (.cells #[.int .i64 x.kind, .int .i64 x.num, .slice sx x.kids.length cx] 34)
   have V := V.keep (w' := wr.alloc (.cells #[.int .i64 x.kind, .int .i64 x.num, .slice sx x.kids.length cx] 34)) (fun b hb _ => Below.heap_alloc _ _ _ hb)
   replace hBr : Below (w.heap.size + 1 + 1) wz (wr.alloc (.cells #[.int .i64 x.kind, .int .i64 x.num, .slice sx x.kids.length cx] 34)) := hBr.alloc (by omega) _
   replace hBw : Below w.heap.size w (wr.alloc (.cells #[.int .i64 x.kind, .int .i64 x.num, .slice sx x.kids.length cx] 34)) := hBw.alloc (by omega) _
   have sza : (wr.alloc (.cells #[.int .i64 x.kind, .int .i64 x.num, .slice sx x.kids.length cx] 34)).heap.size = wr.heap.size + 1 := by simp
   generalize (wr.alloc (.cells #[.int .i64 x.kind, .int .i64 x.num, .slice sx x.kids.length cx] 34)) = wa at Kb R V hBr hBw sza ⊢
   obtain ⟨kq, hkq⟩ : ∃ kq, wr.heap.size = kq := ⟨_, rfl⟩
   have Vf' : ∀ b ∈ Fs, wz.heap.size ≤ b ∧ b < kq := fun b hb => by have := Vf b hb; omega
   clear Vf
   have Vf : ∀ b ∈ Fs, wz.heap.size ≤ b ∧ b < wa.heap.size := fun b hb => by have := Vf' b hb; omega
   rw [hkq] at Kb
   simp only [hkq]
   have szk : wa.heap.size = kq + 1 ∧ wz.heap.size ≤ kq := by omega
   clear sza szr hkq
   obtain ⟨szk1, szk2⟩ := szk
   have Hszk := Lib.hid szk1
   have szk3 : kq < wa.heap.size := by omega
   clear szk1
   have hGb : ∀ m b, (fun m b => (m = 0 ∧ b ∈ Fs) ∨ (m = 1 ∧ b = w.heap.size + 1 + 1) ∨ (m = 2 ∧ b = kq)) m b → (w.heap.size + 1 + 1) ≤ b ∧ b < (wa).heap.size := by
    intro m b hg
    rcases hg with ⟨rfl, hg⟩ | ⟨rfl, hg⟩ | ⟨rfl, hg⟩
    ·
     have q := Vf b hg
     omega
    ·
     subst hg
     have q := R.lt
     omega
    ·
     subst hg
     have q := Kb.lt
     omega
   have hGd : ∀ m m' b, (fun m b => (m = 0 ∧ b ∈ Fs) ∨ (m = 1 ∧ b = w.heap.size + 1 + 1) ∨ (m = 2 ∧ b = kq)) m b → (fun m b => (m = 0 ∧ b ∈ Fs) ∨ (m = 1 ∧ b = w.heap.size + 1 + 1) ∨ (m = 2 ∧ b = kq)) m' b → m = m' := by
    intro m m' b h h'
    rcases h with ⟨rfl, h⟩ | ⟨rfl, h⟩ | ⟨rfl, h⟩ <;> rcases h' with ⟨rfl, h'⟩ | ⟨rfl, h'⟩ | ⟨rfl, h'⟩ <;> first
     | rfl
     | (exfalso; omega)
     | (exfalso; have q := Vf' b h; omega)
     | (exfalso; have q := Vf' b h'; omega)
   refine region_rs [(5, 3)] [(5, 0), (7, 1)] (fun m b => (m = 0 ∧ b ∈ Fs) ∨ (m = 1 ∧ b = w.heap.size + 1 + 1) ∨ (m = 2 ∧ b = kq)) (w.heap.size + 1 + 1) (fun i iv vs wx => match i with
    | 0 => vs 0 = .pointer (some ⟨w.heap.size + 1 + 1, 2, none⟩)
    | 1 => vs 1 = v
    | 2 => vs 2 = .agg #[.int .i64 x.kind, .int .i64 x.num, .slice sx x.kids.length cx]
    | 3 => ∃ s2 c2, vs 3 = .agg #[.int .i64 (Ex.same (.mk x.kind x.num x.kids)).kind, .int .i64 (Ex.same (.mk x.kind x.num x.kids)).num, .slice s2 (Ex.same (.mk x.kind x.num x.kids)).kids.length c2] ∧ FreshIn (iv 3) wx [kidsD (Ex.same (.mk x.kind x.num x.kids)).kids] [.slice s2 (Ex.same (.mk x.kind x.num x.kids)).kids.length c2]
    | 4 => vs 4 = .slice (some ⟨(iv 4).1, 0, none⟩) 1 1 ∧ (iv 4).2 = (iv 4).1 + 1 ∧ Blk wx (iv 4).1 34 [aggAt (vs 3) 0, aggAt (vs 3) 1, aggAt (vs 3) 2]
    | 5 => ∃ g cap, vs 5 = .slice (some ⟨g, 0, none⟩) (k + 1) cap ∧ AppS (foot [(5, 3)] [(5, 0), (7, 1)] (fun m b => (m = 0 ∧ b ∈ Fs) ∨ (m = 1 ∧ b = w.heap.size + 1 + 1) ∨ (m = 2 ∧ b = kq)) 8 5 iv) wx 34 3 (k + 1) (Ex.cellsL (ks.take k) ++ [.int (Ex.same (.mk x.kind x.num x.kids)).kind, .int (Ex.same (.mk x.kind x.num x.kids)).num, kidsD (Ex.same (.mk x.kind x.num x.kids)).kids]) (.slice (some ⟨g, 0, none⟩) (k + 1) cap)
    | 6 => vs 6 = .pointer (some ⟨w.heap.size + 1 + 1, 2, none⟩)
    | 7 => Blk wx (w.heap.size + 1 + 1) 34 [.int .i64 k0, .int .i64 n0, vs 5]
    | _ => True) (fun i iv vs => match i with
    | 0 => vs 0 = .pointer (some ⟨w.heap.size + 1 + 1, 2, none⟩)
    | 1 => vs 1 = v
    | 2 => vs 2 = .agg #[.int .i64 x.kind, .int .i64 x.num, .slice sx x.kids.length cx]
    | 3 => ∃ s2 c2, vs 3 = .agg #[.int .i64 (Ex.same (.mk x.kind x.num x.kids)).kind, .int .i64 (Ex.same (.mk x.kind x.num x.kids)).num, .slice s2 (Ex.same (.mk x.kind x.num x.kids)).kids.length c2]
    | 4 => vs 4 = .slice (some ⟨(iv 4).1, 0, none⟩) 1 1 ∧ (iv 4).2 = (iv 4).1 + 1
    | 5 => ∃ g cap, vs 5 = .slice (some ⟨g, 0, none⟩) (k + 1) cap
    | 6 => vs 6 = .pointer (some ⟨w.heap.size + 1 + 1, 2, none⟩)
    | 7 => True
    | _ => True) (by kernel_rfl) (by kernel_rfl) [0, 1, 2, 3, 4, 5, 6, 7] (by kernel_rfl) ?hbase ?hGb ?hG ?hJ ?hE ?hEE ?hstep ?hQ
   case hbase => first | exact Nat.le_refl _ | omega | (simp; omega)
   case hGb =>
    exact hGb
   case hG =>
    exact hGd
   case hJ =>
    intro i hi iv iv' vs vs' wx wx' ha hv hz hk hj
    simp only [List.mem_cons, List.not_mem_nil, or_false] at hi
    rcases hi with rfl | rfl | rfl | rfl | rfl | rfl | rfl | rfl
    ·
     exact (hv.out 0 (mem_of (by kernel_rfl))).symm.trans hj
    ·
     exact (hv.out 1 (mem_of (by kernel_rfl))).symm.trans hj
    ·
     exact (hv.out 2 (mem_of (by kernel_rfl))).symm.trans hj
    ·
     have e3 := hv.out 3 (mem_of (by kernel_rfl))
     have g3 := ha.out 3 (mem_of (by kernel_rfl))
     obtain ⟨s2, c2, q1, q2⟩ := hj
     exact ⟨s2, c2, e3 ▸ q1, g3 ▸ q2.keep (fun b hb h1 h2 => hk.out b hb (foot_own h1 h2))⟩
    ·
     have e3 := hv.out 3 (mem_of (by kernel_rfl))
     have e4 := hv.out 4 (mem_of (by kernel_rfl))
     have g4 := ha.out 4 (mem_of (by kernel_rfl))
     obtain ⟨q1, q3, q2⟩ := hj
     show vs' 4 = .slice (some ⟨(iv' 4).1, 0, none⟩) 1 1 ∧ (iv' 4).2 = (iv' 4).1 + 1 ∧ Blk wx' (iv' 4).1 34 [aggAt (vs' 3) 0, aggAt (vs' 3) 1, aggAt (vs' 3) 2]
     rw [← e3, ← e4, ← g4]
     exact ⟨q1, q3, q2.keep (hk.out _ q2.lt (foot_own (Nat.le_refl _) (by omega)))⟩
    ·
     have e5 := hv.out 5 (mem_of (by kernel_rfl))
     obtain ⟨g, cap, q1, q2⟩ := hj
     exact ⟨g, cap, e5 ▸ q1, (q2.keep (fun b hb h1 => hk.out b hb h1)).more (fun b hb h1 => foot_agree (l := ancs _ 8 5) (by exact of_decide_eq_true (by kernel_rfl)) ha.out h1)⟩
    ·
     exact (hv.out 6 (mem_of (by kernel_rfl))).symm.trans hj
    ·
     have e5 := hv.out 5 (mem_of (by kernel_rfl))
     have hj' : Blk wx (w.heap.size + 1 + 1) 34 [.int .i64 k0, .int .i64 n0, vs 5] := hj
     show Blk wx' (w.heap.size + 1 + 1) 34 [.int .i64 k0, .int .i64 n0, vs' 5]
     rw [← e5]
     exact hj'.keep (hk.out _ hj'.lt (foot_given 1 (by decide) (Or.inr (Or.inl ⟨rfl, rfl⟩))))
   case hE =>
    intro i hi iv vs wx hj
    simp only [List.mem_cons, List.not_mem_nil, or_false] at hi
    rcases hi with rfl | rfl | rfl | rfl | rfl | rfl | rfl | rfl
    ·
     exact hj
    ·
     exact hj
    ·
     exact hj
    ·
     obtain ⟨s2, c2, q1, -⟩ := hj
     exact ⟨s2, c2, q1⟩
    ·
     exact ⟨hj.1, hj.2.1⟩
    ·
     obtain ⟨g, cap, q1, -⟩ := hj
     exact ⟨g, cap, q1⟩
    ·
     exact hj
    ·
     trivial
   case hEE =>
    intro i hi iv iv' vs vs' ha hv hj
    simp only [List.mem_cons, List.not_mem_nil, or_false] at hi
    rcases hi with rfl | rfl | rfl | rfl | rfl | rfl | rfl | rfl
    ·
     exact (hv.out 0 (mem_of (by kernel_rfl))).symm.trans hj
    ·
     exact (hv.out 1 (mem_of (by kernel_rfl))).symm.trans hj
    ·
     exact (hv.out 2 (mem_of (by kernel_rfl))).symm.trans hj
    ·
     have e3 := hv.out 3 (mem_of (by kernel_rfl))
     have hj' : ∃ s2 c2, vs 3 = .agg #[.int .i64 (Ex.same (.mk x.kind x.num x.kids)).kind, .int .i64 (Ex.same (.mk x.kind x.num x.kids)).num, .slice s2 (Ex.same (.mk x.kind x.num x.kids)).kids.length c2] := hj
     show ∃ s2 c2, vs' 3 = .agg #[.int .i64 (Ex.same (.mk x.kind x.num x.kids)).kind, .int .i64 (Ex.same (.mk x.kind x.num x.kids)).num, .slice s2 (Ex.same (.mk x.kind x.num x.kids)).kids.length c2]
     rw [← e3]
     exact hj'
    ·
     have e4 := hv.out 4 (mem_of (by kernel_rfl))
     have g4 := ha.out 4 (mem_of (by kernel_rfl))
     have hj' : vs 4 = .slice (some ⟨(iv 4).1, 0, none⟩) 1 1 ∧ (iv 4).2 = (iv 4).1 + 1 := hj
     show vs' 4 = .slice (some ⟨(iv' 4).1, 0, none⟩) 1 1 ∧ (iv' 4).2 = (iv' 4).1 + 1
     rw [← e4, ← g4]
     exact hj'
    ·
     have e5 := hv.out 5 (mem_of (by kernel_rfl))
     have hj' : ∃ g cap, vs 5 = .slice (some ⟨g, 0, none⟩) (k + 1) cap := hj
     show ∃ g cap, vs' 5 = .slice (some ⟨g, 0, none⟩) (k + 1) cap
     rw [← e5]
     exact hj'
    ·
     exact (hv.out 6 (mem_of (by kernel_rfl))).symm.trans hj
    ·
     trivial
   case hstep =>
    intro i hi opr ho iv vs w1 hB hS hSo hd he hbd hsep hun K hK
    simp only [List.mem_cons, List.not_mem_nil, or_false] at hi
    have hzB := hB.size
    have HGb := Lib.hid hGb
    clear hGb hGd
    have gr1 := hgr0.below (hBw.trans (hB.mono (by omega)))
    skip
    generalize hA : putFrom _ 0 vs _ = A at hK ⊢
    simp only [putFrom, puts] at hA
    rcases hi with rfl | rfl | rfl | rfl | rfl | rfl | rfl | rfl
    all_goals
     simp at ho
     subst ho
     subst hA
    ·
     go_wp2_with fail
     exact Onward.mk (hK (.pointer (some ⟨w.heap.size + 1 + 1, 2, none⟩)) _ _ (fun h => by cases h) (by first | rfl | (simp only [puts])) (Spares.refl _) (fun iv' _ _ => rfl))
    ·
     have h0 : vs 0 = .pointer (some ⟨w.heap.size + 1 + 1, 2, none⟩) := hd.out 0 (mem_of (by kernel_rfl)) (by decide) (by kernel_rfl)
     have R1 := R.keep (hS.out 1 _ (by kernel_rfl) (Or.inr (Or.inl ⟨rfl, rfl⟩)))
     have rc0 := R1.c0
     have rz0 := R1.frozen 0
     have rc1 := R1.c1
     have rz1 := R1.frozen 1
     have rc2 := R1.c2
     have rz2 := R1.frozen 2
     have rlt := R1.lt
     go_wp2_with fail
     exact Onward.mk (hK (v) _ _ (fun h => by cases h) (by first | rfl | (simp only [puts, h0])) (Spares.refl _) (fun iv' _ _ => rfl))
    ·
     have Kb1 := Kb.keep (hS.out 2 _ (by kernel_rfl) (Or.inr (Or.inr ⟨rfl, rfl⟩)))
     have kbc0 := Kb1.c0
     have kbz0 := Kb1.frozen 0
     have kbc1 := Kb1.c1
     have kbz1 := Kb1.frozen 1
     have kbc2 := Kb1.c2
     have kbz2 := Kb1.frozen 2
     have kblt := Kb1.lt
     go_wp2_with fail
     exact Onward.mk (hK (.agg #[.int .i64 x.kind, .int .i64 x.num, .slice sx x.kids.length cx]) _ _ (fun h => by cases h) (by first | rfl | (simp only [puts])) (Spares.refl _) (fun iv' _ _ => rfl))
    ·
     have h2 : vs 2 = .agg #[.int .i64 x.kind, .int .i64 x.num, .slice sx x.kids.length cx] := hd.out 2 (mem_of (by kernel_rfl)) (by decide) (by kernel_rfl)
     go_wp2_with fail
     refine (ih _ hxs _ _ _ _ _ _ (Nat.le_refl _) gr1 hx1).mono ?_
     rintro e w2 ⟨s2, c2, rfl, hf, hb⟩
     go_wp2_with fail
     exact Onward.mk (hK (.agg #[.int .i64 (Ex.same (.mk x.kind x.num x.kids)).kind, .int .i64 (Ex.same (.mk x.kind x.num x.kids)).num, .slice s2 (Ex.same (.mk x.kind x.num x.kids)).kids.length c2]) _ _ (fun h => by cases h) (by first | rfl | (simp only [puts, h2])) (Spares.of_below hb) (fun iv' _ hi => ⟨s2, c2, rfl, by rw [hi]; exact Freshs.stretch (hf)⟩))
    ·
     obtain ⟨s2, c2, h3, f3⟩ := hd.out 3 (mem_of (by kernel_rfl)) (by decide) (by kernel_rfl)
     go_wp2_with fail
     exact Onward.mk (hK (.slice (some ⟨w1.heap.size, 0, none⟩) 1 1) _ _ (fun h => by cases h) (by first | rfl | (simp only [puts, h3])) (Spares.of_below (Below.alloc (Below.refl _ _) (Nat.le_refl _) _)) (fun iv' _ hi => by
      show Value.slice (some ⟨w1.heap.size, 0, none⟩) 1 1 = .slice (some ⟨(iv' 4).1, 0, none⟩) 1 1 ∧ (iv' 4).2 = (iv' 4).1 + 1 ∧ Blk _ (iv' 4).1 34 [aggAt (vs 3) 0, aggAt (vs 3) 1, aggAt (vs 3) 2]
      rw [hi, h3]
      exact ⟨rfl, by simp, Blk.new3 _ _ _ _ _⟩))
    ·
     have h1 : vs 1 = v := hd.out 1 (mem_of (by kernel_rfl)) (by decide) (by kernel_rfl)
     obtain ⟨s2, c2, h3, f3⟩ := hd.out 3 (mem_of (by kernel_rfl)) (by decide) (by kernel_rfl)
     obtain ⟨h4, q4, f4⟩ := hd.out 4 (mem_of (by kernel_rfl)) (by decide) (by kernel_rfl)
     have V1 := V.keep (fun b _ hb => hS.out 0 b (by kernel_rfl) (Or.inl ⟨rfl, hb⟩))
     simp only [h1, h3, h4]
     have f4' : Blk w1 (iv 4).1 34 [.int .i64 (Ex.same (.mk x.kind x.num x.kids)).kind, .int .i64 (Ex.same (.mk x.kind x.num x.kids)).num, .slice s2 (Ex.same (.mk x.kind x.num x.kids)).kids.length c2] := by first | exact f4 | (rw [h3] at f4; exact f4)
     refine wpList_append_s w1 (by rfl) _ _ 32 (by rfl) 34 (.agg #[.int .i64 0, .int .i64 0, .slice none 0 0]) 3 40 Tryz.underlying32 zero_implExpr rfl (by decide) (S := (fun b => b ∈ Fs)) (T := (fun b => (iv 3).1 ≤ b ∧ b < (iv 3).2)) _ (by rfl) V1 ⟨(iv 4).1, 0, none⟩ 1 1 [.int .i64 (Ex.same (.mk x.kind x.num x.kids)).kind, .int .i64 (Ex.same (.mk x.kind x.num x.kids)).num, .slice s2 (Ex.same (.mk x.kind x.num x.kids)).kids.length c2] (by rfl) (news_blk f4') f3.three (fun b _ h1 h2 => by have q := (hbd.out 3 (mem_of (by kernel_rfl)) (by decide)).1; have q' := (HGb.out 0 b (Or.inl ⟨rfl, h1⟩)).2; omega) (by simp) (by simp [Value.oneCell']) (by omega) (by omega) (by unfold maxLen; omega) ?_
     intro g cap w2 hap ht
     go_wp2_with fail
     exact Onward.mk (hK (.slice (some ⟨g, 0, none⟩) (k + 1) cap) _ _ (fun h => by cases h) (by first | rfl | (simp only [puts, h1, h3, h4])) (ht.more (fun b h => Or.inl ⟨0, by decide, (Or.inl ⟨rfl, h⟩)⟩)) (fun iv' ag hi => ⟨g, cap, rfl, hap.more (fun b _ h => by rcases h with h | h | h; exact foot_given 0 (by decide) (Or.inl ⟨rfl, h⟩); exact foot_iv (by kernel_rfl) ag h.1 h.2; exact foot_new hi h.1 h.2)⟩))
    ·
     go_wp2_with fail
     exact Onward.mk (hK (.pointer (some ⟨w.heap.size + 1 + 1, 2, none⟩)) _ _ (fun h => by cases h) (by first | rfl | (simp only [puts])) (Spares.refl _) (fun iv' _ _ => rfl))
    ·
     obtain ⟨g5, cap5, h5, f5⟩ := hd.out 5 (mem_of (by kernel_rfl)) (by decide) (by kernel_rfl)
     have h6 : vs 6 = .pointer (some ⟨w.heap.size + 1 + 1, 2, none⟩) := hd.out 6 (mem_of (by kernel_rfl)) (by decide) (by kernel_rfl)
     have R1 := R.keep (hS.out 1 _ (by kernel_rfl) (Or.inr (Or.inl ⟨rfl, rfl⟩)))
     have rc0 := R1.c0
     have rz0 := R1.frozen 0
     have rc1 := R1.c1
     have rz1 := R1.frozen 1
     have rc2 := R1.c2
     have rz2 := R1.frozen 2
     have rlt := R1.lt
     go_wp2_with fail
     exact Onward.mk (hK undef _ _ (fun _ => rfl) (by simp only [puts, h5, h6]) ((spares_sets (b0 := w.heap.size + 1 + 1) (by repeat (first | exact Spares.refl _ | apply Spares.set))).more (fun b h => Or.inl ⟨1, by decide, (Or.inr (Or.inl ⟨rfl, h⟩))⟩)) (fun iv' ag hi => by
      show Blk _ (w.heap.size + 1 + 1) 34 [.int .i64 k0, .int .i64 n0, vs 5]
      rw [h5]
      exact (R1.set 2 _)))
   case hQ =>
    intro iv vs wx hB hSp hd he hbd hsep
    have hzB := hB.size
    have h0 : vs 0 = .pointer (some ⟨w.heap.size + 1 + 1, 2, none⟩) := hd.out 0 (mem_of (by kernel_rfl)) (not_eaten (by kernel_rfl))
    have h1 : vs 1 = v := hd.out 1 (mem_of (by kernel_rfl)) (not_eaten (by kernel_rfl))
    have h2 : vs 2 = .agg #[.int .i64 x.kind, .int .i64 x.num, .slice sx x.kids.length cx] := hd.out 2 (mem_of (by kernel_rfl)) (not_eaten (by kernel_rfl))
    obtain ⟨s2, c2, h3⟩ := he.out 3 (mem_of (by kernel_rfl))
    obtain ⟨h4, q4, f4⟩ := hd.out 4 (mem_of (by kernel_rfl)) (not_eaten (by kernel_rfl))
    obtain ⟨g5, cap5, h5, f5⟩ := hd.out 5 (mem_of (by kernel_rfl)) (not_eaten (by kernel_rfl))
    have h6 : vs 6 = .pointer (some ⟨w.heap.size + 1 + 1, 2, none⟩) := hd.out 6 (mem_of (by kernel_rfl)) (not_eaten (by kernel_rfl))
    have f7 : Blk _ (w.heap.size + 1 + 1) 34 [.int .i64 k0, .int .i64 n0, vs 5] := hd.out 7 (mem_of (by kernel_rfl)) (not_eaten (by kernel_rfl))
    have lo5 : ∀ b, foot [(5, 3)] [(5, 0), (7, 1)] (fun m b => (m = 0 ∧ b ∈ Fs) ∨ (m = 1 ∧ b = w.heap.size + 1 + 1) ∨ (m = 2 ∧ b = kq)) 8 5 iv b → (wz.heap.size) ≤ b := by
     rintro b ⟨j, hj, hh⟩
     have hj' := of_decide_eq_true (List.all_eq_true.1 (show ((chainOf [(5, 3)] 8 5).all fun j => decide (j ∈ [5, 3])) = true from by kernel_rfl) j hj)
     simp only [List.mem_cons, List.not_mem_nil, or_false] at hj'
     rcases hj' with rfl | rfl
     ·
      have q := (hbd.out 5 (mem_of (by kernel_rfl))).1
      rcases hh with hh | ⟨m, hm, hg⟩
      ·
       omega
      ·
       simp at hm
       subst hm
       simp at hg
       have q' := Vf b hg
       omega
     ·
      have q := (hbd.out 3 (mem_of (by kernel_rfl))).1
      rcases hh with hh | ⟨m, hm, hg⟩
      ·
       omega
      ·
       simp at hm
    simp only [putFrom, puts]
    rw [h5] at f7
    have hap := f5.app (W := wz) lo5
    rw [← Hds.out] at hap
    clear hd he hbd hsep h0 h1 h2 h3 h4 h5 h6 lo5 f5
    go_wp2_with fail
    go_roundw
    case rel => exact ⟨k + 1, _, by omega, by go_num, f7, hap, hBr.trans hB⟩
    case measure => simp [intOf]; omega
  ·
   obtain rfl : k = ks.length := by omega
   rw [List.take_of_length_le (by omega)] at happ
   obtain ⟨a', cap', rfl, -⟩ := happ.shape
   have r0 := R.c0
   have r1 := R.c1
   have r2 := R.c2
   have z0 := R.frozen 0
   have z1 := R.frozen 1
   have z2 := R.frozen 2
   have Q2 := R2.keep (hBr.block _ (by omega))
   have q0 := Q2.c0
   have q1 := Q2.c1
   have q2 := Q2.c2
   have y0 := Q2.frozen 0
   have y1 := Q2.frozen 1
   have y2 := Q2.frozen 2
   have M2 := M.keep (hBr.block _ (by omega))
   have m0 := M2.c0
   have m1 := M2.c1
   have m2 := M2.c2
   go_wp2_with fail
   have T2 := ((Q2.set 0 (.int .i64 k0)).set 1 (.int .i64 n0)).set 2 (.slice a' ks.length cap')
   have t0 := T2.c0
   have t1 := T2.c1
   have t2 := T2.c2
   refine bodyPost_ret (v := .agg #[.int .i64 k0, .int .i64 n0, .slice a' ks.length cap']) (by simp [results, Tryz.results66, go_sem, t0, t1, t2]) rfl ⟨a', cap', by rw [Hk.out, Hn.out, ← Hl.out], ?_, by (repeat' first | exact Below.refl _ _ | assumption | apply Below.alloc | apply Below.drew | apply Below.setCell | omega | (simp; done) | (simp; omega))⟩
   rw [← Hf.out, ← Hl.out]
   refine Freshs.one ((happ.fresh.keep fun bb hb1 hb2 => ?_).from szx)
   rw [Below.heap_setCell _ _ _ _ (by show bb ≠ w.heap.size + 1; omega), Below.heap_setCell _ _ _ _ (by show bb ≠ w.heap.size + 1; omega), Below.heap_setCell _ _ _ _ (by show bb ≠ w.heap.size + 1; omega)]
end Go.Proofs.YtcokljhamhgelaaGreatDoor
