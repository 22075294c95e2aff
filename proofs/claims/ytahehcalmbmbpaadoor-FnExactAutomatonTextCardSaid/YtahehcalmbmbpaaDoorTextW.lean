/-
  Texts of words: impl.wordText; WordText of both.
-/
import Derived.Test.YtahehcalmbmbpaaDoorTextI
import Derived.Test.YtahehcalmbmbpaaDoorTrace
namespace Go.Proofs.YtahehcalmbmbpaaDoor
open Go.ChangeShapes Go.WideShapes Go.ChangeAt Go.RowKit Go.Sort

def dig (z : Int) : List UInt8 := Lib.decDigits z.toNat
theorem dig_len {z : Int} (h : z < 10) : (dig z).length = 1 := digits_one (by omega)
theorem decimal_z {z : Int} {w : World} (h0 : 0 ≤ z) (h : z < 100) : Calls Tryd.prog 64 #[.int .i64 z] w fun e w' => e = .returned (.string (bs (dig z))) ∧ Below w.heap.size w w' := by
  obtain ⟨m, rfl⟩ : ∃ m : Nat, z = (m : Int) := ⟨z.toNat, by omega⟩
  exact (decimal_i (n := m) (by omega)).mono fun _ _ ⟨h1, h2⟩ => ⟨h1, below_self h2⟩
theorem Decimal_z {z : Int} {w : World} (h0 : 0 ≤ z) (h : z < 100) : Calls Tryd.prog 30 #[.int .i64 z] w fun e w' => e = .returned (.string (bs (dig z))) ∧ Below w.heap.size w w' := by
  obtain ⟨m, rfl⟩ : ∃ m : Nat, z = (m : Int) := ⟨z.toNat, by omega⟩
  exact Decimal_i (n := m) (by omega)
/-- The text of the first k steps of a word. -/
def wtxt (xs ys : List Int) : Nat → List UInt8
  | 0 => dig (xs.getD 0 0)
  | k + 1 => wtxt xs ys k ++ ([32, 97] ++ dig (ys.getD k 0) ++ [32] ++ dig (xs.getD (k + 1) 0))
theorem getD_lt {zs : List Int} {n : Int} (h : allIn zs n = true) (hn : 1 ≤ n) (k : Nat) : 0 ≤ zs.getD k 0 ∧ zs.getD k 0 < n := by
  rw [List.getD_eq_getElem?_getD]
  cases hk : zs[k]? with
  | none => simp; omega
  | some z =>
    have := List.all_eq_true.1 h z (List.mem_of_getElem? hk)
    simp [inB] at this
    simp
    omega
theorem wtxt_len {xs ys : List Int} {n m : Int} (hx : allIn xs n = true) (hy : allIn ys m = true) (hn : 1 ≤ n) (hn' : n ≤ 10) (hm : 1 ≤ m ∨ ys = []) (hm' : m ≤ 10) (k : Nat) : (wtxt xs ys k).length ≤ 1 + 5 * k := by
  induction k with
  | zero => unfold wtxt; rw [dig_len (by have := getD_lt hx hn 0; omega)]; omega
  | succ k ih =>
    have a1 := dig_len (z := xs.getD (k + 1) 0) (by have := getD_lt hx hn (k + 1); omega)
    have a2 := dig_len (z := ys.getD k 0) (by
      rcases hm with hm | rfl
      · have := getD_lt hy hm k; omega
      · simp)
    unfold wtxt
    simp only [List.length_append, a1, a2, List.length_cons, List.length_nil]
    omega
theorem wcat {xs ys : List Int} {k : Nat} {x y : Int} (hx : xs[k + 1]? = some x) (hy : ys[k]? = some y) (x9 : x < 10) (y9 : y < 10) (hl : (wtxt xs ys k).length ≤ 100000) :
    ∃ z1 z2 z3, (∀ w, (Op.stringOp .add { data := #[32, 97] } (bs (dig y))).run Tryd.prog w = .ok (.string (bs z1)) w) ∧ (∀ w, (Op.stringOp .add (bs z1) { data := #[32] }).run Tryd.prog w = .ok (.string (bs z2)) w) ∧
      (∀ w, (Op.stringOp .add (bs z2) (bs (dig x))).run Tryd.prog w = .ok (.string (bs z3)) w) ∧ (∀ w, (Op.stringOp .add (bs (wtxt xs ys k)) (bs z3)).run Tryd.prog w = .ok (.string (bs (wtxt xs ys (k + 1)))) w) := by
  have lx := dig_len x9
  have ly := dig_len y9
  obtain ⟨z1, Hz1, h1⟩ := cat_l (P := Tryd.prog) (s := { data := #[32, 97] }) [32, 97] (dig y) rfl (by simp [ly])
  have l1 : z1.length = 3 := by rw [Hz1.out]; simp [ly]
  obtain ⟨z2, Hz2, h2⟩ := cat_r (P := Tryd.prog) (s := { data := #[32] }) z1 [32] rfl (by simp [l1])
  have l2 : z2.length = 4 := by rw [Hz2.out]; simp [l1]
  obtain ⟨z3, Hz3, h3⟩ := cat_2 (P := Tryd.prog) z2 (dig x) (by omega)
  have l3 : z3.length = 5 := by rw [Hz3.out]; simp [l2, lx]
  refine ⟨z1, z2, z3, h1, h2, h3, fun w => ?_⟩
  have h4 := run_cat (P := Tryd.prog) (wtxt xs ys k) z3 (by omega) w
  rw [h4]
  have gx : xs.getD (k + 1) 0 = x := by rw [List.getD_eq_getElem?_getD, hx]; rfl
  have gy : ys.getD k 0 = y := by rw [List.getD_eq_getElem?_getD, hy]; rfl
  have : wtxt xs ys (k + 1) = wtxt xs ys k ++ z3 := by
    rw [Hz3.out, Hz2.out, Hz1.out, ← gx, ← gy]
    rfl
  rw [this]
theorem allIn_at {zs : List Int} {n z : Int} {k : Nat} (h : allIn zs n = true) (hz : zs[k]? = some z) : 0 ≤ z ∧ z < n := by
  have := List.all_eq_true.1 h z (List.mem_of_getElem? hz)
  simp [inB] at this
  omega
theorem wordB_parts {t a : Int} {xs ys : List Int} (h : wordB t a xs ys = true) : sigB t a = true ∧ ys.length ≤ 10 ∧ xs.length = ys.length + 1 ∧ allIn xs (atomsN t) = true ∧ allIn ys a = true := by
  simpa [wordB, Bool.and_assoc, and_assoc] using h

set_option maxHeartbeats 8000000 in
theorem wordText_i {t a : Int} {xs ys : List Int} {s u : Option Addr} {c d : Nat} {w : World} (hr : Rd w (intsD xs) (.slice s xs.length c)) (hr' : Rd w (intsD ys) (.slice u ys.length d)) (hw : wordB t a xs ys = true) :
    Calls Tryd.prog 33 #[.agg #[.slice s xs.length c, .slice u ys.length d]] w fun e w' => e = .returned (.string (bs (wtxt xs ys ys.length))) ∧ Below w.heap.size w w' := by
  obtain ⟨hs, h10, hl, hxs, hys⟩ := wordB_parts hw
  obtain ⟨-, -, a0, a4⟩ := sigB_bd hs
  obtain ⟨n1, n8⟩ := atomsN_bd t
  have hlen := wtxt_len hxs hys n1 (by omega) (by
    by_cases h : ys = []
    · exact Or.inr h
    · left
      obtain ⟨y, hy⟩ : ∃ y, ys[0]? = some y := ⟨_, List.getElem?_eq_getElem (List.length_pos_iff.2 h)⟩
      have := allIn_at hys hy
      omega) (by omega)
  obtain ⟨x0, hx0⟩ : ∃ e, xs[0]? = some e := ⟨_, List.getElem?_eq_getElem (by omega)⟩
  obtain ⟨xb, xo, rfl⟩ := int_some hr (by omega)
  have HX : ∀ (i : Nat) x, xs[i]? = some x → 0 ≤ x ∧ x < 10 := fun i x hx => by have := allIn_at hxs hx; omega
  have HY : ∀ (i : Nat) y, ys[i]? = some y → 0 ≤ y ∧ y < 10 := fun i y hy => by have := allIn_at hys hy; omega
  have HL : ∀ k : Nat, k ≤ ys.length → (wtxt xs ys k).length ≤ 100000 := fun k hk => by have := hlen k; omega
  have e0 : dig x0 = wtxt xs ys 0 := by unfold wtxt; rw [List.getD_eq_getElem?_getD, hx0]; rfl
  have b0 := HX 0 x0 hx0
  have hxl : (0 : Int) < (xs.length : Int) := by omega
  have Hl := Lib.hid hl
  have H10 := Lib.hid h10
  clear hw hs hxs hys hlen n1 n8 a0 a4 hl h10
  obtain ⟨hxb0, g0⟩ := int_in hr hx0
  simp only [Nat.add_zero] at g0
  go_enter Tryd.func33, Tryd.ntmps33
  go_wp2_with fail
  have L := Blk.new2 w 31 (.slice (some ⟨xb, xo, none⟩) xs.length c) (.slice u ys.length d)
  have hBw : Below w.heap.size w (w.alloc (.cells #[.slice (some ⟨xb, xo, none⟩) xs.length c, .slice u ys.length d] 31)) := Below.alloc (Below.refl _ _) (Nat.le_refl _) _
  generalize w.alloc (.cells #[.slice (some ⟨xb, xo, none⟩) xs.length c, .slice u ys.length d] 31) = w1 at L hBw ⊢
  refine (decimal_z (z := x0) b0.1 (by omega)).mono ?_
  rintro e w2 ⟨rfl, hb⟩
  rw [e0]
  replace L := L.below hb
  have hB0 := hBw.trans (hb.mono hBw.size)
  clear hb hBw hxb0 g0 e0 b0 hx0
  have l0 := L.c0
  have l1 := L.c1
  go_wp2_with fail
  clear l0 l1
  go_loopw [3, 14] (fun q i wr => ∃ k : Nat, k ≤ ys.length ∧ i = .int .i64 k ∧ q = .string (bs (wtxt xs ys k)) ∧ Blk wr w.heap.size 31 [.slice (some ⟨xb, xo, none⟩) xs.length c, .slice u ys.length d] ∧ Below w.heap.size w wr) (fun _ i _ => ys.length - (intOf i).toNat)
  case atStart => exact ⟨0, by omega, rfl, rfl, L, hB0⟩
  case round =>
    clear L hB0
    obtain ⟨k, hk, rfl, rfl, L, hB'⟩ := hrel
    by_cases hlt : k < ys.length
    · obtain ⟨y, hy⟩ : ∃ e, ys[k]? = some e := ⟨_, List.getElem?_eq_getElem hlt⟩
      obtain ⟨x, hx⟩ : ∃ e, xs[k + 1]? = some e := ⟨_, List.getElem?_eq_getElem (by have := Hl.out; omega)⟩
      obtain ⟨yb, yo, rfl⟩ := int_some hr' (by omega)
      have by0 := HY k y hy
      have bx0 := HX (k + 1) x hx
      obtain ⟨z1, z2, z3, A1, A2, A3, A4⟩ := wcat hx hy bx0.2 by0.2 (HL k hk)
      obtain ⟨-, y0⟩ := int_in (hr'.below hB') hy
      have Hx0 := Lib.hid (int_in (hr.below hB') hx).2
      have hxb : xb < wr.heap.size := (int_in (hr.below hB') hx).1
      have ha := Int.natCast_nonneg k
      have hka : (k : Int) < (ys.length : Int) := by omega
      have q1 : IntKind.i64.wrap ((k : Int) + 1) = ((k + 1 : Nat) : Int) := by rw [wrap_of (by omega) (by have := H10.out; omega)]; rfl
      have hb' : ((k + 1 : Nat) : Int) < (xs.length : Int) := by have := Hl.out; omega
      have hc' : (0 : Int) ≤ ((k + 1 : Nat) : Int) := by omega
      go_wp2_with fail
      clear y0
      obtain ⟨x1, hx1⟩ := mkval ?a19_1
      obtain ⟨x5, hx5⟩ := mkval ?a19_5
      obtain ⟨x6, hx6⟩ := mkval ?a19_6
      obtain ⟨x7, hx7⟩ := mkval ?a19_7
      obtain ⟨x8, hx8⟩ := mkval ?a19_8
      obtain ⟨x9, hx9⟩ := mkval ?a19_9
      obtain ⟨x10, hx10⟩ := mkval ?a19_10
      refine region_rs [] [] (fun _ _ => False) (wr.heap.size) (fun i iv vs wx => match i with
        | 0 => vs 0 = .string (bs (wtxt xs ys k))
        | 1 => vs 1 = x1
        | 2 => vs 2 = .string (bs (dig y))
        | 3 => vs 3 = .string (bs z1)
        | 4 => vs 4 = .string (bs z2)
        | 5 => vs 5 = x5
        | 6 => vs 6 = x6
        | 7 => vs 7 = x7
        | 8 => vs 8 = x8
        | 9 => vs 9 = x9
        | 10 => vs 10 = x10
        | 11 => vs 11 = .string (bs (dig x))
        | 12 => vs 12 = .string (bs z3)
        | 13 => vs 13 = .string (bs (wtxt xs ys (k + 1)))
        | 14 => vs 14 = .string (bs (wtxt xs ys (k + 1)))
        | _ => True) (fun i iv vs => match i with
        | 0 => vs 0 = .string (bs (wtxt xs ys k))
        | 1 => vs 1 = x1
        | 2 => vs 2 = .string (bs (dig y))
        | 3 => vs 3 = .string (bs z1)
        | 4 => vs 4 = .string (bs z2)
        | 5 => vs 5 = x5
        | 6 => vs 6 = x6
        | 7 => vs 7 = x7
        | 8 => vs 8 = x8
        | 9 => vs 9 = x9
        | 10 => vs 10 = x10
        | 11 => vs 11 = .string (bs (dig x))
        | 12 => vs 12 = .string (bs z3)
        | 13 => vs 13 = .string (bs (wtxt xs ys (k + 1)))
        | 14 => vs 14 = .string (bs (wtxt xs ys (k + 1)))
        | _ => True) (by kernel_rfl) (by kernel_rfl) [0, 1, 2, 3, 4, 5, 6, 7, 8, 9, 10, 11, 12, 13, 14] (by kernel_rfl) ?hbase ?hGb ?hG ?hJ ?hE ?hEE ?hstep ?hQ
      case hbase => first | exact Nat.le_refl _ | omega | (simp; omega)
      case hGb =>
        exact fun _ _ h => h.elim
      case hG =>
        exact fun _ _ _ h => h.elim
      case hJ =>
        intro i hi iv iv' vs vs' wx wx' ha hv hz hk hj
        simp only [List.mem_cons, List.not_mem_nil, or_false] at hi
        rcases hi with rfl | rfl | rfl | rfl | rfl | rfl | rfl | rfl | rfl | rfl | rfl | rfl | rfl | rfl | rfl
        · have e0 := hv.out 0 (mem_of (by kernel_rfl))
          have hj' : vs 0 = .string (bs (wtxt xs ys k)) := hj
          show vs' 0 = .string (bs (wtxt xs ys k))
          rw [← e0]
          exact hj'
        · have e1 := hv.out 1 (mem_of (by kernel_rfl))
          have hj' : vs 1 = x1 := hj
          show vs' 1 = x1
          rw [← e1]
          exact hj'
        · have e2 := hv.out 2 (mem_of (by kernel_rfl))
          have hj' : vs 2 = .string (bs (dig y)) := hj
          show vs' 2 = .string (bs (dig y))
          rw [← e2]
          exact hj'
        · have e3 := hv.out 3 (mem_of (by kernel_rfl))
          have hj' : vs 3 = .string (bs z1) := hj
          show vs' 3 = .string (bs z1)
          rw [← e3]
          exact hj'
        · have e4 := hv.out 4 (mem_of (by kernel_rfl))
          have hj' : vs 4 = .string (bs z2) := hj
          show vs' 4 = .string (bs z2)
          rw [← e4]
          exact hj'
        · have e5 := hv.out 5 (mem_of (by kernel_rfl))
          have hj' : vs 5 = x5 := hj
          show vs' 5 = x5
          rw [← e5]
          exact hj'
        · have e6 := hv.out 6 (mem_of (by kernel_rfl))
          have hj' : vs 6 = x6 := hj
          show vs' 6 = x6
          rw [← e6]
          exact hj'
        · have e7 := hv.out 7 (mem_of (by kernel_rfl))
          have hj' : vs 7 = x7 := hj
          show vs' 7 = x7
          rw [← e7]
          exact hj'
        · have e8 := hv.out 8 (mem_of (by kernel_rfl))
          have hj' : vs 8 = x8 := hj
          show vs' 8 = x8
          rw [← e8]
          exact hj'
        · have e9 := hv.out 9 (mem_of (by kernel_rfl))
          have hj' : vs 9 = x9 := hj
          show vs' 9 = x9
          rw [← e9]
          exact hj'
        · have e10 := hv.out 10 (mem_of (by kernel_rfl))
          have hj' : vs 10 = x10 := hj
          show vs' 10 = x10
          rw [← e10]
          exact hj'
        · have e11 := hv.out 11 (mem_of (by kernel_rfl))
          have hj' : vs 11 = .string (bs (dig x)) := hj
          show vs' 11 = .string (bs (dig x))
          rw [← e11]
          exact hj'
        · have e12 := hv.out 12 (mem_of (by kernel_rfl))
          have hj' : vs 12 = .string (bs z3) := hj
          show vs' 12 = .string (bs z3)
          rw [← e12]
          exact hj'
        · have e13 := hv.out 13 (mem_of (by kernel_rfl))
          have hj' : vs 13 = .string (bs (wtxt xs ys (k + 1))) := hj
          show vs' 13 = .string (bs (wtxt xs ys (k + 1)))
          rw [← e13]
          exact hj'
        · have e14 := hv.out 14 (mem_of (by kernel_rfl))
          have hj' : vs 14 = .string (bs (wtxt xs ys (k + 1))) := hj
          show vs' 14 = .string (bs (wtxt xs ys (k + 1)))
          rw [← e14]
          exact hj'
      case hE =>
        intro i hi iv vs wx hj
        simp only [List.mem_cons, List.not_mem_nil, or_false] at hi
        rcases hi with rfl | rfl | rfl | rfl | rfl | rfl | rfl | rfl | rfl | rfl | rfl | rfl | rfl | rfl | rfl
        · exact hj
        · exact hj
        · exact hj
        · exact hj
        · exact hj
        · exact hj
        · exact hj
        · exact hj
        · exact hj
        · exact hj
        · exact hj
        · exact hj
        · exact hj
        · exact hj
        · exact hj
      case hEE =>
        intro i hi iv iv' vs vs' ha hv hj
        simp only [List.mem_cons, List.not_mem_nil, or_false] at hi
        rcases hi with rfl | rfl | rfl | rfl | rfl | rfl | rfl | rfl | rfl | rfl | rfl | rfl | rfl | rfl | rfl
        · have e0 := hv.out 0 (mem_of (by kernel_rfl))
          have hj' : vs 0 = .string (bs (wtxt xs ys k)) := hj
          show vs' 0 = .string (bs (wtxt xs ys k))
          rw [← e0]
          exact hj'
        · have e1 := hv.out 1 (mem_of (by kernel_rfl))
          have hj' : vs 1 = x1 := hj
          show vs' 1 = x1
          rw [← e1]
          exact hj'
        · have e2 := hv.out 2 (mem_of (by kernel_rfl))
          have hj' : vs 2 = .string (bs (dig y)) := hj
          show vs' 2 = .string (bs (dig y))
          rw [← e2]
          exact hj'
        · have e3 := hv.out 3 (mem_of (by kernel_rfl))
          have hj' : vs 3 = .string (bs z1) := hj
          show vs' 3 = .string (bs z1)
          rw [← e3]
          exact hj'
        · have e4 := hv.out 4 (mem_of (by kernel_rfl))
          have hj' : vs 4 = .string (bs z2) := hj
          show vs' 4 = .string (bs z2)
          rw [← e4]
          exact hj'
        · have e5 := hv.out 5 (mem_of (by kernel_rfl))
          have hj' : vs 5 = x5 := hj
          show vs' 5 = x5
          rw [← e5]
          exact hj'
        · have e6 := hv.out 6 (mem_of (by kernel_rfl))
          have hj' : vs 6 = x6 := hj
          show vs' 6 = x6
          rw [← e6]
          exact hj'
        · have e7 := hv.out 7 (mem_of (by kernel_rfl))
          have hj' : vs 7 = x7 := hj
          show vs' 7 = x7
          rw [← e7]
          exact hj'
        · have e8 := hv.out 8 (mem_of (by kernel_rfl))
          have hj' : vs 8 = x8 := hj
          show vs' 8 = x8
          rw [← e8]
          exact hj'
        · have e9 := hv.out 9 (mem_of (by kernel_rfl))
          have hj' : vs 9 = x9 := hj
          show vs' 9 = x9
          rw [← e9]
          exact hj'
        · have e10 := hv.out 10 (mem_of (by kernel_rfl))
          have hj' : vs 10 = x10 := hj
          show vs' 10 = x10
          rw [← e10]
          exact hj'
        · have e11 := hv.out 11 (mem_of (by kernel_rfl))
          have hj' : vs 11 = .string (bs (dig x)) := hj
          show vs' 11 = .string (bs (dig x))
          rw [← e11]
          exact hj'
        · have e12 := hv.out 12 (mem_of (by kernel_rfl))
          have hj' : vs 12 = .string (bs z3) := hj
          show vs' 12 = .string (bs z3)
          rw [← e12]
          exact hj'
        · have e13 := hv.out 13 (mem_of (by kernel_rfl))
          have hj' : vs 13 = .string (bs (wtxt xs ys (k + 1))) := hj
          show vs' 13 = .string (bs (wtxt xs ys (k + 1)))
          rw [← e13]
          exact hj'
        · have e14 := hv.out 14 (mem_of (by kernel_rfl))
          have hj' : vs 14 = .string (bs (wtxt xs ys (k + 1))) := hj
          show vs' 14 = .string (bs (wtxt xs ys (k + 1)))
          rw [← e14]
          exact hj'
      case hstep =>
        intro i hi opr ho iv vs w1 hB hS hd he hbd hsep hun K hK
        simp only [List.mem_cons, List.not_mem_nil, or_false] at hi
        have hzB := hB.size
        have L1 := L.below hB
        have l0 := L1.c0
        have cx0 := (hB.cell (p := ⟨xb, xo + (k + 1), none⟩) hxb).trans Hx0.out
        generalize hA : putFrom _ 0 vs _ = A at hK ⊢
        simp only [putFrom, Act.put, List.setIfInBounds_toArray, List.set_cons_succ, List.set_cons_zero] at hA
        rcases hi with rfl | rfl | rfl | rfl | rfl | rfl | rfl | rfl | rfl | rfl | rfl | rfl | rfl | rfl | rfl
        all_goals
          simp at ho
          subst ho
          subst hA
        · have un14 : vs 14 = .string (bs (wtxt xs ys k)) := hun.out 14 (mem_of (by kernel_rfl))
          go_wp2_with fail
          exact Onward.mk (hK (.string (bs (wtxt xs ys k))) _ _ (fun h => by cases h) (by first | rfl | (simp only [Act.put, List.setIfInBounds_toArray, List.set_cons_succ, List.set_cons_zero, un14])) (Spares.of_below (Below.refl _ _)) (fun iv' _ _ => rfl))
        · go_wp2_with fail
          refine Onward.mk (hK ?val19_1 _ _ (fun h => by cases h) ?eqA (Spares.of_below (Below.refl _ _)) (fun iv' _ _ => ?ja))
          case eqA => first | rfl | (simp only [Act.put, List.setIfInBounds_toArray, List.set_cons_succ, List.set_cons_zero]; rfl)
          case ja => exact hx1.out.symm
        · have h1 := Eq.trans (show vs 1 = x1 from hd.out 1 (mem_of (by kernel_rfl)) (by decide) (by kernel_rfl)) hx1.out
          go_wp2_with fail
          refine (decimal_z by0.1 (by omega)).mono ?_
          rintro e w2 ⟨rfl, hb⟩
          go_wp2_with fail
          exact Onward.mk (hK (.string (bs (dig y))) _ _ (fun h => by cases h) (by first | rfl | (simp only [Act.put, List.setIfInBounds_toArray, List.set_cons_succ, List.set_cons_zero, h1])) (Spares.of_below hb) (fun iv' _ _ => rfl))
        · have h2 : vs 2 = .string (bs (dig y)) := hd.out 2 (mem_of (by kernel_rfl)) (by decide) (by kernel_rfl)
          go_wp2_with fail
          exact Onward.mk (hK (.string (bs z1)) _ _ (fun h => by cases h) (by first | rfl | (simp only [Act.put, List.setIfInBounds_toArray, List.set_cons_succ, List.set_cons_zero, h2])) (Spares.of_below (Below.refl _ _)) (fun iv' _ _ => rfl))
        · have h3 : vs 3 = .string (bs z1) := hd.out 3 (mem_of (by kernel_rfl)) (by decide) (by kernel_rfl)
          go_wp2_with fail
          exact Onward.mk (hK (.string (bs z2)) _ _ (fun h => by cases h) (by first | rfl | (simp only [Act.put, List.setIfInBounds_toArray, List.set_cons_succ, List.set_cons_zero, h3])) (Spares.of_below (Below.refl _ _)) (fun iv' _ _ => rfl))
        · go_wp2_with fail
          refine Onward.mk (hK ?val19_5 _ _ (fun h => by cases h) ?eqA (Spares.of_below (Below.refl _ _)) (fun iv' _ _ => ?ja))
          case eqA => first | rfl | (simp only [Act.put, List.setIfInBounds_toArray, List.set_cons_succ, List.set_cons_zero]; rfl)
          case ja => exact hx5.out.symm
        · have h5 := Eq.trans (show vs 5 = x5 from hd.out 5 (mem_of (by kernel_rfl)) (by decide) (by kernel_rfl)) hx5.out
          go_wp2_with fail
          refine Onward.mk (hK ?val19_6 _ _ (fun h => by cases h) ?eqA (Spares.of_below (Below.refl _ _)) (fun iv' _ _ => ?ja))
          case eqA => first | rfl | (simp only [Act.put, List.setIfInBounds_toArray, List.set_cons_succ, List.set_cons_zero, h5]; rfl)
          case ja => exact hx6.out.symm
        · go_wp2_with fail
          refine Onward.mk (hK ?val19_7 _ _ (fun h => by cases h) ?eqA (Spares.of_below (Below.refl _ _)) (fun iv' _ _ => ?ja))
          case eqA => first | rfl | (simp only [Act.put, List.setIfInBounds_toArray, List.set_cons_succ, List.set_cons_zero]; rfl)
          case ja => exact hx7.out.symm
        · have h7 := Eq.trans (show vs 7 = x7 from hd.out 7 (mem_of (by kernel_rfl)) (by decide) (by kernel_rfl)) hx7.out
          go_wp2_with fail
          refine Onward.mk (hK ?val19_8 _ _ (fun h => by cases h) ?eqA (Spares.of_below (Below.refl _ _)) (fun iv' _ _ => ?ja))
          case eqA => first | rfl | (simp only [Act.put, List.setIfInBounds_toArray, List.set_cons_succ, List.set_cons_zero, h7]; rfl)
          case ja => exact hx8.out.symm
        · have h6 := Eq.trans (show vs 6 = x6 from hd.out 6 (mem_of (by kernel_rfl)) (by decide) (by kernel_rfl)) hx6.out
          have h8 := Eq.trans (show vs 8 = x8 from hd.out 8 (mem_of (by kernel_rfl)) (by decide) (by kernel_rfl)) hx8.out
          go_wp2_with fail
          refine Onward.mk (hK ?val19_9 _ _ (fun h => by cases h) ?eqA (Spares.of_below (Below.refl _ _)) (fun iv' _ _ => ?ja))
          case eqA => first | rfl | (simp only [Act.put, List.setIfInBounds_toArray, List.set_cons_succ, List.set_cons_zero, h6, h8]; rfl)
          case ja => exact hx9.out.symm
        · have h9 := Eq.trans (show vs 9 = x9 from hd.out 9 (mem_of (by kernel_rfl)) (by decide) (by kernel_rfl)) hx9.out
          go_wp2_with fail
          refine Onward.mk (hK ?val19_10 _ _ (fun h => by cases h) ?eqA (Spares.of_below (Below.refl _ _)) (fun iv' _ _ => ?ja))
          case eqA => first | rfl | (simp only [Act.put, List.setIfInBounds_toArray, List.set_cons_succ, List.set_cons_zero, h9]; rfl)
          case ja => exact hx10.out.symm
        · have h10 := Eq.trans (show vs 10 = x10 from hd.out 10 (mem_of (by kernel_rfl)) (by decide) (by kernel_rfl)) hx10.out
          go_wp2_with fail
          refine (decimal_z bx0.1 (by omega)).mono ?_
          rintro e w2 ⟨rfl, hb⟩
          go_wp2_with fail
          exact Onward.mk (hK (.string (bs (dig x))) _ _ (fun h => by cases h) (by first | rfl | (simp only [Act.put, List.setIfInBounds_toArray, List.set_cons_succ, List.set_cons_zero, h10])) (Spares.of_below hb) (fun iv' _ _ => rfl))
        · have h4 : vs 4 = .string (bs z2) := hd.out 4 (mem_of (by kernel_rfl)) (by decide) (by kernel_rfl)
          have h11 : vs 11 = .string (bs (dig x)) := hd.out 11 (mem_of (by kernel_rfl)) (by decide) (by kernel_rfl)
          go_wp2_with fail
          exact Onward.mk (hK (.string (bs z3)) _ _ (fun h => by cases h) (by first | rfl | (simp only [Act.put, List.setIfInBounds_toArray, List.set_cons_succ, List.set_cons_zero, h4, h11])) (Spares.of_below (Below.refl _ _)) (fun iv' _ _ => rfl))
        · have h0 : vs 0 = .string (bs (wtxt xs ys k)) := hd.out 0 (mem_of (by kernel_rfl)) (by decide) (by kernel_rfl)
          have h12 : vs 12 = .string (bs z3) := hd.out 12 (mem_of (by kernel_rfl)) (by decide) (by kernel_rfl)
          go_wp2_with fail
          exact Onward.mk (hK (.string (bs (wtxt xs ys (k + 1)))) _ _ (fun h => by cases h) (by first | rfl | (simp only [Act.put, List.setIfInBounds_toArray, List.set_cons_succ, List.set_cons_zero, h0, h12])) (Spares.of_below (Below.refl _ _)) (fun iv' _ _ => rfl))
        · have h13 : vs 13 = .string (bs (wtxt xs ys (k + 1))) := hd.out 13 (mem_of (by kernel_rfl)) (by decide) (by kernel_rfl)
          go_wp2_with fail
          exact Onward.mk (hK (.string (bs (wtxt xs ys (k + 1)))) _ _ (fun h => by cases h) (by first | rfl | (simp only [Act.put, List.setIfInBounds_toArray, List.set_cons_succ, List.set_cons_zero, h13])) (Spares.of_below (Below.refl _ _)) (fun iv' _ _ => rfl))
      case hQ =>
        intro iv vs wx hB hSp hd he hbd hsep
        have hzB := hB.size
        have h0 : vs 0 = .string (bs (wtxt xs ys k)) := hd.out 0 (mem_of (by kernel_rfl)) (not_eaten (by kernel_rfl))
        have h1 := Eq.trans (show vs 1 = x1 from hd.out 1 (mem_of (by kernel_rfl)) (not_eaten (by kernel_rfl))) hx1.out
        have h2 : vs 2 = .string (bs (dig y)) := hd.out 2 (mem_of (by kernel_rfl)) (not_eaten (by kernel_rfl))
        have h3 : vs 3 = .string (bs z1) := hd.out 3 (mem_of (by kernel_rfl)) (not_eaten (by kernel_rfl))
        have h4 : vs 4 = .string (bs z2) := hd.out 4 (mem_of (by kernel_rfl)) (not_eaten (by kernel_rfl))
        have h5 := Eq.trans (show vs 5 = x5 from hd.out 5 (mem_of (by kernel_rfl)) (not_eaten (by kernel_rfl))) hx5.out
        have h6 := Eq.trans (show vs 6 = x6 from hd.out 6 (mem_of (by kernel_rfl)) (not_eaten (by kernel_rfl))) hx6.out
        have h7 := Eq.trans (show vs 7 = x7 from hd.out 7 (mem_of (by kernel_rfl)) (not_eaten (by kernel_rfl))) hx7.out
        have h8 := Eq.trans (show vs 8 = x8 from hd.out 8 (mem_of (by kernel_rfl)) (not_eaten (by kernel_rfl))) hx8.out
        have h9 := Eq.trans (show vs 9 = x9 from hd.out 9 (mem_of (by kernel_rfl)) (not_eaten (by kernel_rfl))) hx9.out
        have h10 := Eq.trans (show vs 10 = x10 from hd.out 10 (mem_of (by kernel_rfl)) (not_eaten (by kernel_rfl))) hx10.out
        have h11 : vs 11 = .string (bs (dig x)) := hd.out 11 (mem_of (by kernel_rfl)) (not_eaten (by kernel_rfl))
        have h12 : vs 12 = .string (bs z3) := hd.out 12 (mem_of (by kernel_rfl)) (not_eaten (by kernel_rfl))
        have h13 : vs 13 = .string (bs (wtxt xs ys (k + 1))) := hd.out 13 (mem_of (by kernel_rfl)) (not_eaten (by kernel_rfl))
        have h14 : vs 14 = .string (bs (wtxt xs ys (k + 1))) := hd.out 14 (mem_of (by kernel_rfl)) (not_eaten (by kernel_rfl))
        simp only [putFrom, Act.put, List.setIfInBounds_toArray, List.set_cons_succ, List.set_cons_zero]
        have hBn := Lib.hid (Below.trans hB' (hB.mono hB'.size))
        clear hd he hbd hsep
        go_wp2_with fail
        go_roundw
        case rel => exact ⟨k + 1, by omega, by go_num, h14, L.below hB, hBn.out⟩
        case measure => simp [intOf]; omega
    · obtain rfl : k = ys.length := by omega
      go_wp2_with fail
      go_ret
      exact ⟨rfl, hB'⟩

/-- WordText's answer. -/
def wtx (t a : Int) (xs ys : List Int) : List UInt8 := if wordB t a xs ys = true then wtxt xs ys ys.length else []
set_option maxHeartbeats 2000000 in
theorem implWordText_i {t a : Int} {xs ys : List Int} {s u : Option Addr} {c d : Nat} {w : World} (hr : Rd w (intsD xs) (.slice s xs.length c)) (hr' : Rd w (intsD ys) (.slice u ys.length d)) :
    Calls Tryd.prog 11 #[.agg #[.int .i64 t, .int .i64 a], .agg #[.slice s xs.length c, .slice u ys.length d]] w fun e w' => e = .returned (.string (bs (wtx t a xs ys))) ∧ Below w.heap.size w w' := by
  go_enter Tryd.func11, Tryd.ntmps11
  go_wp2_with fail
  have L := (Blk.new2 w 29 (.int .i64 t) (.int .i64 a)).alloc (.cells #[.slice s xs.length c, .slice u ys.length d] 31)
  have M := Blk.new2 (w.alloc (.cells #[.int .i64 t, .int .i64 a] 29)) 31 (.slice s xs.length c) (.slice u ys.length d)
  simp at M
  have hB : Below w.heap.size w ((w.alloc (.cells #[.int .i64 t, .int .i64 a] 29)).alloc (.cells #[.slice s xs.length c, .slice u ys.length d] 31)) := by (repeat' (first | exact Below.refl _ _ | assumption | (refine Below.alloc ?_ (by first | omega | (simp; done) | (simp; omega)) _) | (refine Below.drew ?_) | (refine Below.setCell ?_ (by first | omega | (simp; done) | (simp; omega)) _)))
  have hB0 := hB
  generalize ((w.alloc (.cells #[.int .i64 t, .int .i64 a] 29)).alloc (.cells #[.slice s xs.length c, .slice u ys.length d] 31)) = v0 at L M hB hB0 ⊢
  have l0 := L.c0
  have l1 := L.c1
  have m0 := M.c0
  have m1 := M.c1
  have ltL := L.lt
  have ltM := M.lt
  go_wp2_with fail
  refine (implValidWord_i (hr.below hB) (hr'.below hB)).mono ?_
  rintro x w1 ⟨rfl, hb⟩
  clear l0 l1 m0 m1 ltL ltM
  replace hB := Below.on hB hb hB.size
  replace L := L.below hb
  replace M := M.below hb
  clear hb
  have szW1 := hB.size
  cases hs1 : wordB t a xs ys
  · have l0 := L.c0
    have l1 := L.c1
    have ltL := L.lt
    have m0 := M.c0
    have m1 := M.c1
    have ltM := M.lt
    go_wp2_with fail
    go_ret
    exact ⟨by simp only [wtx, hs1]; rfl, hB⟩
  have Hs1 := Lib.hid hs1
  clear hs1
  have l0 := L.c0
  have l1 := L.c1
  have m0 := M.c0
  have m1 := M.c1
  have ltL := L.lt
  have ltM := M.lt
  go_wp2_with fail
  refine (wordText_i (hr.below hB) (hr'.below hB) Hs1.out).mono ?_
  rintro x w2 ⟨rfl, hb⟩
  clear l0 l1 m0 m1 ltL ltM
  replace hB := Below.on hB hb hB.size
  replace L := L.below hb
  replace M := M.below hb
  clear hb
  have szW2 := hB.size
  have l0 := L.c0
  have l1 := L.c1
  have m0 := M.c0
  have m1 := M.c1
  have ltL := L.lt
  have ltM := M.lt
  go_wp2_with fail
  go_ret
  exact ⟨by simp only [wtx, Hs1.out]; rfl, hB⟩

set_option maxHeartbeats 8000000 in
theorem specWordText_i {t a : Int} {xs ys : List Int} {s u : Option Addr} {c d : Nat} {w : World} (hr : Rd w (intsD xs) (.slice s xs.length c)) (hr' : Rd w (intsD ys) (.slice u ys.length d)) :
    Calls Tryd.prog 8 #[.agg #[.int .i64 t, .int .i64 a], .agg #[.slice s xs.length c, .slice u ys.length d]] w fun e w' => e = .returned (.string (bs (wtx t a xs ys))) ∧ Below w.heap.size w w' := by
  go_enter Tryd.func8, Tryd.ntmps8
  go_wp2_with fail
  have L := Blk.new2 (w.alloc (.cells #[.int .i64 t, .int .i64 a] 29)) 31 (.slice s xs.length c) (.slice u ys.length d)
  simp at L
  refine (l01Word_i (xs := xs) (ys := ys) ⟨s, c, u, d, by simp, by simp, (hr.alloc _).alloc _, (hr'.alloc _).alloc _⟩).mono ?_
  rintro x w1 ⟨rfl, hb⟩
  have hB0 : Below w.heap.size w w1 := Below.on (by (repeat' (first | exact Below.refl _ _ | assumption | (refine Below.alloc ?_ (by first | omega | (simp; done) | (simp; omega)) _) | (refine Below.drew ?_) | (refine Below.setCell ?_ (by first | omega | (simp; done) | (simp; omega)) _)))) hb (by simp; omega)
  replace L := L.below hb
  clear hb
  by_cases hw : wordB t a xs ys = true
  case neg =>
    have hw' : wordB t a xs ys = false := by simpa using hw
    have Hw := Lib.hid hw'
    clear hw
    go_wp2_with fail
    go_ret
    exact ⟨by simp only [wtx, Hw.out]; rfl, hB0⟩
  have ew : wtx t a xs ys = wtxt xs ys ys.length := by simp only [wtx, hw]; rfl
  have Hew := Lib.hid ew
  obtain ⟨hs, h10, hl, hxs, hys⟩ := wordB_parts hw
  obtain ⟨-, -, a0, a4⟩ := sigB_bd hs
  obtain ⟨n1, n8⟩ := atomsN_bd t
  have hlen := wtxt_len hxs hys n1 (by omega) (by
    by_cases h : ys = []
    · exact Or.inr h
    · left
      obtain ⟨y, hy⟩ : ∃ y, ys[0]? = some y := ⟨_, List.getElem?_eq_getElem (List.length_pos_iff.2 h)⟩
      have := allIn_at hys hy
      omega) (by omega)
  obtain ⟨x0, hx0⟩ : ∃ e, xs[0]? = some e := ⟨_, List.getElem?_eq_getElem (by omega)⟩
  obtain ⟨xb, xo, rfl⟩ := int_some hr (by omega)
  have HX : ∀ (i : Nat) x, xs[i]? = some x → 0 ≤ x ∧ x < 10 := fun i x hx => by have := allIn_at hxs hx; omega
  have HY : ∀ (i : Nat) y, ys[i]? = some y → 0 ≤ y ∧ y < 10 := fun i y hy => by have := allIn_at hys hy; omega
  have HL : ∀ k : Nat, k ≤ ys.length → (wtxt xs ys k).length ≤ 100000 := fun k hk => by have := hlen k; omega
  have e0 : dig x0 = wtxt xs ys 0 := by unfold wtxt; rw [List.getD_eq_getElem?_getD, hx0]; rfl
  have b0 := HX 0 x0 hx0
  have hxl : (0 : Int) < (xs.length : Int) := by omega
  have Hl := Lib.hid hl
  have H10 := Lib.hid h10
  clear hs hxs hys hlen n1 n8 a0 a4 hl h10 ew
  have l0 := L.c0
  have l1 := L.c1
  obtain ⟨-, g0⟩ := int_in (hr.below hB0) hx0
  simp only [Nat.add_zero] at g0
  go_wp2_with fail
  refine (Decimal_z (z := x0) b0.1 (by omega)).mono ?_
  rintro e w2 ⟨rfl, hb⟩
  rw [e0]
  replace L := L.below hb
  replace hB0 := hB0.trans (hb.mono hB0.size)
  clear hb l0 l1 g0 e0 b0 hx0 hw
  go_wp2_with fail
  go_loopw [5, 6] (fun q i wr => ∃ k : Nat, k ≤ ys.length ∧ i = .int .i64 k ∧ q = .string (bs (wtxt xs ys k)) ∧ Blk wr (w.heap.size + 1) 31 [.slice (some ⟨xb, xo, none⟩) xs.length c, .slice u ys.length d] ∧ Below w.heap.size w wr) (fun _ i _ => ys.length - (intOf i).toNat)
  case atStart => exact ⟨0, by omega, rfl, rfl, L, hB0⟩
  case round =>
    clear L hB0
    obtain ⟨k, hk, rfl, rfl, L, hB'⟩ := hrel
    have l0 := L.c0
    have l1 := L.c1
    by_cases hlt : k < ys.length
    · obtain ⟨y, hy⟩ : ∃ e, ys[k]? = some e := ⟨_, List.getElem?_eq_getElem hlt⟩
      obtain ⟨x, hx⟩ : ∃ e, xs[k + 1]? = some e := ⟨_, List.getElem?_eq_getElem (by have := Hl.out; omega)⟩
      obtain ⟨yb, yo, rfl⟩ := int_some hr' (by omega)
      have by0 := HY k y hy
      have bx0 := HX (k + 1) x hx
      obtain ⟨z1, z2, z3, A1, A2, A3, A4⟩ := wcat hx hy bx0.2 by0.2 (HL k hk)
      have Hy0 := Lib.hid (int_in (hr'.below hB') hy).2
      have Hx0 := Lib.hid (int_in (hr.below hB') hx).2
      have hxb : xb < wr.heap.size := (int_in (hr.below hB') hx).1
      have hyb : yb < wr.heap.size := (int_in (hr'.below hB') hy).1
      have ha := Int.natCast_nonneg k
      have hka : (k : Int) < (ys.length : Int) := by omega
      have q1 : IntKind.i64.wrap ((k : Int) + 1) = ((k + 1 : Nat) : Int) := by rw [wrap_of (by omega) (by have := H10.out; omega)]; rfl
      have hb' : ((k + 1 : Nat) : Int) < (xs.length : Int) := by have := Hl.out; omega
      have hc' : (0 : Int) ≤ ((k + 1 : Nat) : Int) := by omega
      go_wp2_with fail
      clear l0 l1
      obtain ⟨x1, hx1⟩ := mkval ?a20_1
      obtain ⟨x2, hx2⟩ := mkval ?a20_2
      obtain ⟨x3, hx3⟩ := mkval ?a20_3
      obtain ⟨x4, hx4⟩ := mkval ?a20_4
      obtain ⟨x5, hx5⟩ := mkval ?a20_5
      obtain ⟨x9, hx9⟩ := mkval ?a20_9
      obtain ⟨x10, hx10⟩ := mkval ?a20_10
      obtain ⟨x11, hx11⟩ := mkval ?a20_11
      obtain ⟨x12, hx12⟩ := mkval ?a20_12
      obtain ⟨x13, hx13⟩ := mkval ?a20_13
      obtain ⟨x14, hx14⟩ := mkval ?a20_14
      refine region_rs [] [] (fun _ _ => False) (wr.heap.size) (fun i iv vs wx => match i with
        | 0 => vs 0 = .string (bs (wtxt xs ys k))
        | 1 => vs 1 = x1
        | 2 => vs 2 = x2
        | 3 => vs 3 = x3
        | 4 => vs 4 = x4
        | 5 => vs 5 = x5
        | 6 => vs 6 = .string (bs (dig y))
        | 7 => vs 7 = .string (bs z1)
        | 8 => vs 8 = .string (bs z2)
        | 9 => vs 9 = x9
        | 10 => vs 10 = x10
        | 11 => vs 11 = x11
        | 12 => vs 12 = x12
        | 13 => vs 13 = x13
        | 14 => vs 14 = x14
        | 15 => vs 15 = .string (bs (dig x))
        | 16 => vs 16 = .string (bs z3)
        | 17 => vs 17 = .string (bs (wtxt xs ys (k + 1)))
        | 18 => vs 18 = .string (bs (wtxt xs ys (k + 1)))
        | _ => True) (fun i iv vs => match i with
        | 0 => vs 0 = .string (bs (wtxt xs ys k))
        | 1 => vs 1 = x1
        | 2 => vs 2 = x2
        | 3 => vs 3 = x3
        | 4 => vs 4 = x4
        | 5 => vs 5 = x5
        | 6 => vs 6 = .string (bs (dig y))
        | 7 => vs 7 = .string (bs z1)
        | 8 => vs 8 = .string (bs z2)
        | 9 => vs 9 = x9
        | 10 => vs 10 = x10
        | 11 => vs 11 = x11
        | 12 => vs 12 = x12
        | 13 => vs 13 = x13
        | 14 => vs 14 = x14
        | 15 => vs 15 = .string (bs (dig x))
        | 16 => vs 16 = .string (bs z3)
        | 17 => vs 17 = .string (bs (wtxt xs ys (k + 1)))
        | 18 => vs 18 = .string (bs (wtxt xs ys (k + 1)))
        | _ => True) (by kernel_rfl) (by kernel_rfl) [0, 1, 2, 3, 4, 5, 6, 7, 8, 9, 10, 11, 12, 13, 14, 15, 16, 17, 18] (by kernel_rfl) ?hbase ?hGb ?hG ?hJ ?hE ?hEE ?hstep ?hQ
      case hbase => first | exact Nat.le_refl _ | omega | (simp; omega)
      case hGb =>
        exact fun _ _ h => h.elim
      case hG =>
        exact fun _ _ _ h => h.elim
      case hJ =>
        intro i hi iv iv' vs vs' wx wx' ha hv hz hk hj
        simp only [List.mem_cons, List.not_mem_nil, or_false] at hi
        rcases hi with rfl | rfl | rfl | rfl | rfl | rfl | rfl | rfl | rfl | rfl | rfl | rfl | rfl | rfl | rfl | rfl | rfl | rfl | rfl
        · have e0 := hv.out 0 (mem_of (by kernel_rfl))
          have hj' : vs 0 = .string (bs (wtxt xs ys k)) := hj
          show vs' 0 = .string (bs (wtxt xs ys k))
          rw [← e0]
          exact hj'
        · have e1 := hv.out 1 (mem_of (by kernel_rfl))
          have hj' : vs 1 = x1 := hj
          show vs' 1 = x1
          rw [← e1]
          exact hj'
        · have e2 := hv.out 2 (mem_of (by kernel_rfl))
          have hj' : vs 2 = x2 := hj
          show vs' 2 = x2
          rw [← e2]
          exact hj'
        · have e3 := hv.out 3 (mem_of (by kernel_rfl))
          have hj' : vs 3 = x3 := hj
          show vs' 3 = x3
          rw [← e3]
          exact hj'
        · have e4 := hv.out 4 (mem_of (by kernel_rfl))
          have hj' : vs 4 = x4 := hj
          show vs' 4 = x4
          rw [← e4]
          exact hj'
        · have e5 := hv.out 5 (mem_of (by kernel_rfl))
          have hj' : vs 5 = x5 := hj
          show vs' 5 = x5
          rw [← e5]
          exact hj'
        · have e6 := hv.out 6 (mem_of (by kernel_rfl))
          have hj' : vs 6 = .string (bs (dig y)) := hj
          show vs' 6 = .string (bs (dig y))
          rw [← e6]
          exact hj'
        · have e7 := hv.out 7 (mem_of (by kernel_rfl))
          have hj' : vs 7 = .string (bs z1) := hj
          show vs' 7 = .string (bs z1)
          rw [← e7]
          exact hj'
        · have e8 := hv.out 8 (mem_of (by kernel_rfl))
          have hj' : vs 8 = .string (bs z2) := hj
          show vs' 8 = .string (bs z2)
          rw [← e8]
          exact hj'
        · have e9 := hv.out 9 (mem_of (by kernel_rfl))
          have hj' : vs 9 = x9 := hj
          show vs' 9 = x9
          rw [← e9]
          exact hj'
        · have e10 := hv.out 10 (mem_of (by kernel_rfl))
          have hj' : vs 10 = x10 := hj
          show vs' 10 = x10
          rw [← e10]
          exact hj'
        · have e11 := hv.out 11 (mem_of (by kernel_rfl))
          have hj' : vs 11 = x11 := hj
          show vs' 11 = x11
          rw [← e11]
          exact hj'
        · have e12 := hv.out 12 (mem_of (by kernel_rfl))
          have hj' : vs 12 = x12 := hj
          show vs' 12 = x12
          rw [← e12]
          exact hj'
        · have e13 := hv.out 13 (mem_of (by kernel_rfl))
          have hj' : vs 13 = x13 := hj
          show vs' 13 = x13
          rw [← e13]
          exact hj'
        · have e14 := hv.out 14 (mem_of (by kernel_rfl))
          have hj' : vs 14 = x14 := hj
          show vs' 14 = x14
          rw [← e14]
          exact hj'
        · have e15 := hv.out 15 (mem_of (by kernel_rfl))
          have hj' : vs 15 = .string (bs (dig x)) := hj
          show vs' 15 = .string (bs (dig x))
          rw [← e15]
          exact hj'
        · have e16 := hv.out 16 (mem_of (by kernel_rfl))
          have hj' : vs 16 = .string (bs z3) := hj
          show vs' 16 = .string (bs z3)
          rw [← e16]
          exact hj'
        · have e17 := hv.out 17 (mem_of (by kernel_rfl))
          have hj' : vs 17 = .string (bs (wtxt xs ys (k + 1))) := hj
          show vs' 17 = .string (bs (wtxt xs ys (k + 1)))
          rw [← e17]
          exact hj'
        · have e18 := hv.out 18 (mem_of (by kernel_rfl))
          have hj' : vs 18 = .string (bs (wtxt xs ys (k + 1))) := hj
          show vs' 18 = .string (bs (wtxt xs ys (k + 1)))
          rw [← e18]
          exact hj'
      case hE =>
        intro i hi iv vs wx hj
        simp only [List.mem_cons, List.not_mem_nil, or_false] at hi
        rcases hi with rfl | rfl | rfl | rfl | rfl | rfl | rfl | rfl | rfl | rfl | rfl | rfl | rfl | rfl | rfl | rfl | rfl | rfl | rfl
        · exact hj
        · exact hj
        · exact hj
        · exact hj
        · exact hj
        · exact hj
        · exact hj
        · exact hj
        · exact hj
        · exact hj
        · exact hj
        · exact hj
        · exact hj
        · exact hj
        · exact hj
        · exact hj
        · exact hj
        · exact hj
        · exact hj
      case hEE =>
        intro i hi iv iv' vs vs' ha hv hj
        simp only [List.mem_cons, List.not_mem_nil, or_false] at hi
        rcases hi with rfl | rfl | rfl | rfl | rfl | rfl | rfl | rfl | rfl | rfl | rfl | rfl | rfl | rfl | rfl | rfl | rfl | rfl | rfl
        · have e0 := hv.out 0 (mem_of (by kernel_rfl))
          have hj' : vs 0 = .string (bs (wtxt xs ys k)) := hj
          show vs' 0 = .string (bs (wtxt xs ys k))
          rw [← e0]
          exact hj'
        · have e1 := hv.out 1 (mem_of (by kernel_rfl))
          have hj' : vs 1 = x1 := hj
          show vs' 1 = x1
          rw [← e1]
          exact hj'
        · have e2 := hv.out 2 (mem_of (by kernel_rfl))
          have hj' : vs 2 = x2 := hj
          show vs' 2 = x2
          rw [← e2]
          exact hj'
        · have e3 := hv.out 3 (mem_of (by kernel_rfl))
          have hj' : vs 3 = x3 := hj
          show vs' 3 = x3
          rw [← e3]
          exact hj'
        · have e4 := hv.out 4 (mem_of (by kernel_rfl))
          have hj' : vs 4 = x4 := hj
          show vs' 4 = x4
          rw [← e4]
          exact hj'
        · have e5 := hv.out 5 (mem_of (by kernel_rfl))
          have hj' : vs 5 = x5 := hj
          show vs' 5 = x5
          rw [← e5]
          exact hj'
        · have e6 := hv.out 6 (mem_of (by kernel_rfl))
          have hj' : vs 6 = .string (bs (dig y)) := hj
          show vs' 6 = .string (bs (dig y))
          rw [← e6]
          exact hj'
        · have e7 := hv.out 7 (mem_of (by kernel_rfl))
          have hj' : vs 7 = .string (bs z1) := hj
          show vs' 7 = .string (bs z1)
          rw [← e7]
          exact hj'
        · have e8 := hv.out 8 (mem_of (by kernel_rfl))
          have hj' : vs 8 = .string (bs z2) := hj
          show vs' 8 = .string (bs z2)
          rw [← e8]
          exact hj'
        · have e9 := hv.out 9 (mem_of (by kernel_rfl))
          have hj' : vs 9 = x9 := hj
          show vs' 9 = x9
          rw [← e9]
          exact hj'
        · have e10 := hv.out 10 (mem_of (by kernel_rfl))
          have hj' : vs 10 = x10 := hj
          show vs' 10 = x10
          rw [← e10]
          exact hj'
        · have e11 := hv.out 11 (mem_of (by kernel_rfl))
          have hj' : vs 11 = x11 := hj
          show vs' 11 = x11
          rw [← e11]
          exact hj'
        · have e12 := hv.out 12 (mem_of (by kernel_rfl))
          have hj' : vs 12 = x12 := hj
          show vs' 12 = x12
          rw [← e12]
          exact hj'
        · have e13 := hv.out 13 (mem_of (by kernel_rfl))
          have hj' : vs 13 = x13 := hj
          show vs' 13 = x13
          rw [← e13]
          exact hj'
        · have e14 := hv.out 14 (mem_of (by kernel_rfl))
          have hj' : vs 14 = x14 := hj
          show vs' 14 = x14
          rw [← e14]
          exact hj'
        · have e15 := hv.out 15 (mem_of (by kernel_rfl))
          have hj' : vs 15 = .string (bs (dig x)) := hj
          show vs' 15 = .string (bs (dig x))
          rw [← e15]
          exact hj'
        · have e16 := hv.out 16 (mem_of (by kernel_rfl))
          have hj' : vs 16 = .string (bs z3) := hj
          show vs' 16 = .string (bs z3)
          rw [← e16]
          exact hj'
        · have e17 := hv.out 17 (mem_of (by kernel_rfl))
          have hj' : vs 17 = .string (bs (wtxt xs ys (k + 1))) := hj
          show vs' 17 = .string (bs (wtxt xs ys (k + 1)))
          rw [← e17]
          exact hj'
        · have e18 := hv.out 18 (mem_of (by kernel_rfl))
          have hj' : vs 18 = .string (bs (wtxt xs ys (k + 1))) := hj
          show vs' 18 = .string (bs (wtxt xs ys (k + 1)))
          rw [← e18]
          exact hj'
      case hstep =>
        intro i hi opr ho iv vs w1 hB hS hd he hbd hsep hun K hK
        simp only [List.mem_cons, List.not_mem_nil, or_false] at hi
        have hzB := hB.size
        have L1 := L.below hB
        have l0 := L1.c0
        have l1 := L1.c1
        have cx0 := (hB.cell (p := ⟨xb, xo + (k + 1), none⟩) hxb).trans Hx0.out
        have cy0 := (hB.cell (p := ⟨yb, yo + k, none⟩) hyb).trans Hy0.out
        generalize hA : putFrom _ 0 vs _ = A at hK ⊢
        simp only [putFrom, Act.put, List.setIfInBounds_toArray, List.set_cons_succ, List.set_cons_zero] at hA
        rcases hi with rfl | rfl | rfl | rfl | rfl | rfl | rfl | rfl | rfl | rfl | rfl | rfl | rfl | rfl | rfl | rfl | rfl | rfl | rfl
        all_goals
          simp at ho
          subst ho
          subst hA
        · have un18 : vs 18 = .string (bs (wtxt xs ys k)) := hun.out 18 (mem_of (by kernel_rfl))
          go_wp2_with fail
          exact Onward.mk (hK (.string (bs (wtxt xs ys k))) _ _ (fun h => by cases h) (by first | rfl | (simp only [Act.put, List.setIfInBounds_toArray, List.set_cons_succ, List.set_cons_zero, un18])) (Spares.of_below (Below.refl _ _)) (fun iv' _ _ => rfl))
        · go_wp2_with fail
          refine Onward.mk (hK ?val20_1 _ _ (fun h => by cases h) ?eqA (Spares.of_below (Below.refl _ _)) (fun iv' _ _ => ?ja))
          case eqA => first | rfl | (simp only [Act.put, List.setIfInBounds_toArray, List.set_cons_succ, List.set_cons_zero]; rfl)
          case ja => exact hx1.out.symm
        · have h1 := Eq.trans (show vs 1 = x1 from hd.out 1 (mem_of (by kernel_rfl)) (by decide) (by kernel_rfl)) hx1.out
          go_wp2_with fail
          refine Onward.mk (hK ?val20_2 _ _ (fun h => by cases h) ?eqA (Spares.of_below (Below.refl _ _)) (fun iv' _ _ => ?ja))
          case eqA => first | rfl | (simp only [Act.put, List.setIfInBounds_toArray, List.set_cons_succ, List.set_cons_zero, h1]; rfl)
          case ja => exact hx2.out.symm
        · go_wp2_with fail
          refine Onward.mk (hK ?val20_3 _ _ (fun h => by cases h) ?eqA (Spares.of_below (Below.refl _ _)) (fun iv' _ _ => ?ja))
          case eqA => first | rfl | (simp only [Act.put, List.setIfInBounds_toArray, List.set_cons_succ, List.set_cons_zero]; rfl)
          case ja => exact hx3.out.symm
        · have h2 := Eq.trans (show vs 2 = x2 from hd.out 2 (mem_of (by kernel_rfl)) (by decide) (by kernel_rfl)) hx2.out
          have h3 := Eq.trans (show vs 3 = x3 from hd.out 3 (mem_of (by kernel_rfl)) (by decide) (by kernel_rfl)) hx3.out
          go_wp2_with fail
          refine Onward.mk (hK ?val20_4 _ _ (fun h => by cases h) ?eqA (Spares.of_below (Below.refl _ _)) (fun iv' _ _ => ?ja))
          case eqA => first | rfl | (simp only [Act.put, List.setIfInBounds_toArray, List.set_cons_succ, List.set_cons_zero, h2, h3]; rfl)
          case ja => exact hx4.out.symm
        · have h4 := Eq.trans (show vs 4 = x4 from hd.out 4 (mem_of (by kernel_rfl)) (by decide) (by kernel_rfl)) hx4.out
          go_wp2_with fail
          refine Onward.mk (hK ?val20_5 _ _ (fun h => by cases h) ?eqA (Spares.of_below (Below.refl _ _)) (fun iv' _ _ => ?ja))
          case eqA => first | rfl | (simp only [Act.put, List.setIfInBounds_toArray, List.set_cons_succ, List.set_cons_zero, h4]; rfl)
          case ja => exact hx5.out.symm
        · have h5 := Eq.trans (show vs 5 = x5 from hd.out 5 (mem_of (by kernel_rfl)) (by decide) (by kernel_rfl)) hx5.out
          go_wp2_with fail
          refine (Decimal_z by0.1 (by omega)).mono ?_
          rintro e w2 ⟨rfl, hb⟩
          go_wp2_with fail
          exact Onward.mk (hK (.string (bs (dig y))) _ _ (fun h => by cases h) (by first | rfl | (simp only [Act.put, List.setIfInBounds_toArray, List.set_cons_succ, List.set_cons_zero, h5])) (Spares.of_below hb) (fun iv' _ _ => rfl))
        · have h6 : vs 6 = .string (bs (dig y)) := hd.out 6 (mem_of (by kernel_rfl)) (by decide) (by kernel_rfl)
          go_wp2_with fail
          exact Onward.mk (hK (.string (bs z1)) _ _ (fun h => by cases h) (by first | rfl | (simp only [Act.put, List.setIfInBounds_toArray, List.set_cons_succ, List.set_cons_zero, h6])) (Spares.of_below (Below.refl _ _)) (fun iv' _ _ => rfl))
        · have h7 : vs 7 = .string (bs z1) := hd.out 7 (mem_of (by kernel_rfl)) (by decide) (by kernel_rfl)
          go_wp2_with fail
          exact Onward.mk (hK (.string (bs z2)) _ _ (fun h => by cases h) (by first | rfl | (simp only [Act.put, List.setIfInBounds_toArray, List.set_cons_succ, List.set_cons_zero, h7])) (Spares.of_below (Below.refl _ _)) (fun iv' _ _ => rfl))
        · go_wp2_with fail
          refine Onward.mk (hK ?val20_9 _ _ (fun h => by cases h) ?eqA (Spares.of_below (Below.refl _ _)) (fun iv' _ _ => ?ja))
          case eqA => first | rfl | (simp only [Act.put, List.setIfInBounds_toArray, List.set_cons_succ, List.set_cons_zero]; rfl)
          case ja => exact hx9.out.symm
        · have h9 := Eq.trans (show vs 9 = x9 from hd.out 9 (mem_of (by kernel_rfl)) (by decide) (by kernel_rfl)) hx9.out
          go_wp2_with fail
          refine Onward.mk (hK ?val20_10 _ _ (fun h => by cases h) ?eqA (Spares.of_below (Below.refl _ _)) (fun iv' _ _ => ?ja))
          case eqA => first | rfl | (simp only [Act.put, List.setIfInBounds_toArray, List.set_cons_succ, List.set_cons_zero, h9]; rfl)
          case ja => exact hx10.out.symm
        · go_wp2_with fail
          refine Onward.mk (hK ?val20_11 _ _ (fun h => by cases h) ?eqA (Spares.of_below (Below.refl _ _)) (fun iv' _ _ => ?ja))
          case eqA => first | rfl | (simp only [Act.put, List.setIfInBounds_toArray, List.set_cons_succ, List.set_cons_zero]; rfl)
          case ja => exact hx11.out.symm
        · have h11 := Eq.trans (show vs 11 = x11 from hd.out 11 (mem_of (by kernel_rfl)) (by decide) (by kernel_rfl)) hx11.out
          go_wp2_with fail
          refine Onward.mk (hK ?val20_12 _ _ (fun h => by cases h) ?eqA (Spares.of_below (Below.refl _ _)) (fun iv' _ _ => ?ja))
          case eqA => first | rfl | (simp only [Act.put, List.setIfInBounds_toArray, List.set_cons_succ, List.set_cons_zero, h11]; rfl)
          case ja => exact hx12.out.symm
        · have h10 := Eq.trans (show vs 10 = x10 from hd.out 10 (mem_of (by kernel_rfl)) (by decide) (by kernel_rfl)) hx10.out
          have h12 := Eq.trans (show vs 12 = x12 from hd.out 12 (mem_of (by kernel_rfl)) (by decide) (by kernel_rfl)) hx12.out
          go_wp2_with fail
          refine Onward.mk (hK ?val20_13 _ _ (fun h => by cases h) ?eqA (Spares.of_below (Below.refl _ _)) (fun iv' _ _ => ?ja))
          case eqA => first | rfl | (simp only [Act.put, List.setIfInBounds_toArray, List.set_cons_succ, List.set_cons_zero, h10, h12]; rfl)
          case ja => exact hx13.out.symm
        · have h13 := Eq.trans (show vs 13 = x13 from hd.out 13 (mem_of (by kernel_rfl)) (by decide) (by kernel_rfl)) hx13.out
          go_wp2_with fail
          refine Onward.mk (hK ?val20_14 _ _ (fun h => by cases h) ?eqA (Spares.of_below (Below.refl _ _)) (fun iv' _ _ => ?ja))
          case eqA => first | rfl | (simp only [Act.put, List.setIfInBounds_toArray, List.set_cons_succ, List.set_cons_zero, h13]; rfl)
          case ja => exact hx14.out.symm
        · have h14 := Eq.trans (show vs 14 = x14 from hd.out 14 (mem_of (by kernel_rfl)) (by decide) (by kernel_rfl)) hx14.out
          go_wp2_with fail
          refine (Decimal_z bx0.1 (by omega)).mono ?_
          rintro e w2 ⟨rfl, hb⟩
          go_wp2_with fail
          exact Onward.mk (hK (.string (bs (dig x))) _ _ (fun h => by cases h) (by first | rfl | (simp only [Act.put, List.setIfInBounds_toArray, List.set_cons_succ, List.set_cons_zero, h14])) (Spares.of_below hb) (fun iv' _ _ => rfl))
        · have h8 : vs 8 = .string (bs z2) := hd.out 8 (mem_of (by kernel_rfl)) (by decide) (by kernel_rfl)
          have h15 : vs 15 = .string (bs (dig x)) := hd.out 15 (mem_of (by kernel_rfl)) (by decide) (by kernel_rfl)
          go_wp2_with fail
          exact Onward.mk (hK (.string (bs z3)) _ _ (fun h => by cases h) (by first | rfl | (simp only [Act.put, List.setIfInBounds_toArray, List.set_cons_succ, List.set_cons_zero, h8, h15])) (Spares.of_below (Below.refl _ _)) (fun iv' _ _ => rfl))
        · have h0 : vs 0 = .string (bs (wtxt xs ys k)) := hd.out 0 (mem_of (by kernel_rfl)) (by decide) (by kernel_rfl)
          have h16 : vs 16 = .string (bs z3) := hd.out 16 (mem_of (by kernel_rfl)) (by decide) (by kernel_rfl)
          go_wp2_with fail
          exact Onward.mk (hK (.string (bs (wtxt xs ys (k + 1)))) _ _ (fun h => by cases h) (by first | rfl | (simp only [Act.put, List.setIfInBounds_toArray, List.set_cons_succ, List.set_cons_zero, h0, h16])) (Spares.of_below (Below.refl _ _)) (fun iv' _ _ => rfl))
        · have h17 : vs 17 = .string (bs (wtxt xs ys (k + 1))) := hd.out 17 (mem_of (by kernel_rfl)) (by decide) (by kernel_rfl)
          go_wp2_with fail
          exact Onward.mk (hK (.string (bs (wtxt xs ys (k + 1)))) _ _ (fun h => by cases h) (by first | rfl | (simp only [Act.put, List.setIfInBounds_toArray, List.set_cons_succ, List.set_cons_zero, h17])) (Spares.of_below (Below.refl _ _)) (fun iv' _ _ => rfl))
      case hQ =>
        intro iv vs wx hB hSp hd he hbd hsep
        have hzB := hB.size
        have h0 : vs 0 = .string (bs (wtxt xs ys k)) := hd.out 0 (mem_of (by kernel_rfl)) (not_eaten (by kernel_rfl))
        have h1 := Eq.trans (show vs 1 = x1 from hd.out 1 (mem_of (by kernel_rfl)) (not_eaten (by kernel_rfl))) hx1.out
        have h2 := Eq.trans (show vs 2 = x2 from hd.out 2 (mem_of (by kernel_rfl)) (not_eaten (by kernel_rfl))) hx2.out
        have h3 := Eq.trans (show vs 3 = x3 from hd.out 3 (mem_of (by kernel_rfl)) (not_eaten (by kernel_rfl))) hx3.out
        have h4 := Eq.trans (show vs 4 = x4 from hd.out 4 (mem_of (by kernel_rfl)) (not_eaten (by kernel_rfl))) hx4.out
        have h5 := Eq.trans (show vs 5 = x5 from hd.out 5 (mem_of (by kernel_rfl)) (not_eaten (by kernel_rfl))) hx5.out
        have h6 : vs 6 = .string (bs (dig y)) := hd.out 6 (mem_of (by kernel_rfl)) (not_eaten (by kernel_rfl))
        have h7 : vs 7 = .string (bs z1) := hd.out 7 (mem_of (by kernel_rfl)) (not_eaten (by kernel_rfl))
        have h8 : vs 8 = .string (bs z2) := hd.out 8 (mem_of (by kernel_rfl)) (not_eaten (by kernel_rfl))
        have h9 := Eq.trans (show vs 9 = x9 from hd.out 9 (mem_of (by kernel_rfl)) (not_eaten (by kernel_rfl))) hx9.out
        have h10 := Eq.trans (show vs 10 = x10 from hd.out 10 (mem_of (by kernel_rfl)) (not_eaten (by kernel_rfl))) hx10.out
        have h11 := Eq.trans (show vs 11 = x11 from hd.out 11 (mem_of (by kernel_rfl)) (not_eaten (by kernel_rfl))) hx11.out
        have h12 := Eq.trans (show vs 12 = x12 from hd.out 12 (mem_of (by kernel_rfl)) (not_eaten (by kernel_rfl))) hx12.out
        have h13 := Eq.trans (show vs 13 = x13 from hd.out 13 (mem_of (by kernel_rfl)) (not_eaten (by kernel_rfl))) hx13.out
        have h14 := Eq.trans (show vs 14 = x14 from hd.out 14 (mem_of (by kernel_rfl)) (not_eaten (by kernel_rfl))) hx14.out
        have h15 : vs 15 = .string (bs (dig x)) := hd.out 15 (mem_of (by kernel_rfl)) (not_eaten (by kernel_rfl))
        have h16 : vs 16 = .string (bs z3) := hd.out 16 (mem_of (by kernel_rfl)) (not_eaten (by kernel_rfl))
        have h17 : vs 17 = .string (bs (wtxt xs ys (k + 1))) := hd.out 17 (mem_of (by kernel_rfl)) (not_eaten (by kernel_rfl))
        have h18 : vs 18 = .string (bs (wtxt xs ys (k + 1))) := hd.out 18 (mem_of (by kernel_rfl)) (not_eaten (by kernel_rfl))
        simp only [putFrom, Act.put, List.setIfInBounds_toArray, List.set_cons_succ, List.set_cons_zero]
        have hBn := Lib.hid (Below.trans hB' (hB.mono hB'.size))
        clear hd he hbd hsep
        go_wp2_with fail
        go_roundw
        case rel => exact ⟨k + 1, by omega, by go_num, h18, L.below hB, hBn.out⟩
        case measure => simp [intOf]; omega
    · obtain rfl : k = ys.length := by omega
      go_wp2_with fail
      go_ret
      exact ⟨by rw [Hew.out]; rfl, hB'⟩
end Go.Proofs.YtahehcalmbmbpaaDoor
