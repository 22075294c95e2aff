/-
  Texts of numbers: spec.Decimal, impl.decimal.
-/
import Derived.Test.YtlnojmmjpgpjdaaDoorRs
import Derived.Test.YtlnojmmjpgpjdaaDoorShelf
namespace Go.Proofs.YtlnojmmjpgpjdaaDoor
open Go.ChangeShapes Go.WideShapes Go.ChangeAt Go.RowKit

/-- A text. -/
def bs (l : List UInt8) : ByteArray := ⟨l.toArray⟩
/-- A digit's byte. -/
def dg8 (n : Nat) : UInt8 := UInt8.ofNat (48 + n)
theorem bs_add (a b : List UInt8) : bs a ++ bs b = bs (a ++ b) := by
  apply ByteArray.ext
  simp [bs, ByteArray.data_append]
theorem bs_size (a : List UInt8) : (bs a).size = a.length := by simp [bs, ByteArray.size]
theorem bs_inj {a b : List UInt8} (h : bs a = bs b) : a = b := by
  unfold bs at h
  have := congrArg ByteArray.data h
  simpa using this
/-- Two texts one behind the other. -/
theorem run_cat {P : Program} (a b : List UInt8) (h : a.length + b.length ≤ 1000000000) (w : World) : (Op.stringOp .add (bs a) (bs b)).run P w = .ok (.string (bs (a ++ b))) w := by
  rw [Go.run_string_add_sum w _ _ (by rw [bs_size, bs_size]; omega), bs_add]
theorem digit_byte {n : Nat} (h : n < 10) : (((dg8 n).toNat : Nat) : Int) = 48 + (n : Int) := by
  have : (dg8 n).toNat = 48 + n := by unfold dg8; simp [UInt8.toNat_ofNat']; omega
  rw [this]
  omega
theorem digit_back {n g : Nat} {w : World} (hn : n < 10) (h : Blk w g 5 [.int .u8 (48 + (n : Int))]) : (convert 102 9 (.slice (some ⟨g, 0, none⟩) 1 1)).run Tryd.prog w = .ok (.string (bs [dg8 n])) w := by
  refine run_convert_bytes_back _ 102 9 5 ⟨g, 0, none⟩ 1 [dg8 n] Tryd.underlying102 Tryd.underlying5 Tryd.underlying9 ?_
  intro j hj
  obtain rfl : j = 0 := by simp at hj; omega
  rw [add_plain]
  simp only [Nat.zero_add, List.getElem_cons_zero, digit_byte hn]
  exact h.c0

set_option maxRecDepth 100000 in
set_option maxHeartbeats 1000000 in
theorem Decimal_one {n : Nat} {w : World} (hn : n < 10) : Calls Tryd.prog 118 #[.int .i64 n] w fun e w' => e = .returned (.string (bs [dg8 n])) ∧ Below w.heap.size w w' := by
  have hb := digit_back hn (Blk.new1 w 5 (.int .u8 (48 + (n : Int))))
  have hn' : (n : Int) < 10 := by omega
  go_enter Tryd.func118, Tryd.ntmps118
  go_wp2_with fail
  go_ret
  exact ⟨rfl, by (repeat' (first | exact Below.refl _ _ | assumption | (refine Below.alloc ?_ (by first | omega | (simp; done) | (simp; omega)) _) | (refine Below.drew ?_) | (refine Below.setCell ?_ (by first | omega | (simp; done) | (simp; omega)) _)))⟩
set_option maxRecDepth 100000 in
set_option maxHeartbeats 4000000 in
theorem Decimal_i {n : Nat} {w : World} (hn : n < 100) : Calls Tryd.prog 118 #[.int .i64 n] w fun e w' => e = .returned (.string (bs (Lib.decDigits n))) ∧ Below w.heap.size w w' := by
  by_cases h1 : n < 10
  · rw [Lib.decDigits_one h1]
    exact Decimal_one h1
  · rw [Lib.decDigits_two h1 hn]
    have h4 : (10 : Int) ≤ (n : Int) := by omega
    have h5 : (n : Int) < 100 := by omega
    obtain ⟨a, ha⟩ : ∃ a, n / 10 = a := ⟨_, rfl⟩
    obtain ⟨c, hc⟩ : ∃ c, n % 10 = c := ⟨_, rfl⟩
    have q1 : (n : Int) / 10 = (a : Int) := by omega
    have q2 : (n : Int) % 10 = (c : Int) := by omega
    have h2 : a < 10 := by omega
    have h3 : c < 10 := by omega
    have h6 : (c : Int) < 10 := by omega
    have hcz := Int.natCast_nonneg c
    have Hr : Hid (bs [dg8 a] ++ bs [dg8 c] = bs [UInt8.ofNat (48 + a), UInt8.ofNat (48 + c)]) := bs_add _ _
    rw [ha, hc]
    clear ha hc
    go_enter Tryd.func118, Tryd.ntmps118
    go_wp2_with fail
    refine region_rs [] [] (fun _ _ => False) (w.heap.size) (fun i iv vs wx => match i with
      | 0 => vs 0 = .int .i64 n
      | 1 => vs 1 = .int .i64 a
      | 2 => vs 2 = .string (bs [dg8 a])
      | 3 => vs 3 = .int .i64 n
      | 4 => vs 4 = .int .i64 c
      | 5 => vs 5 = .int .i64 (48 + ↑c)
      | 6 => vs 6 = .int .u8 (48 + ↑c)
      | 7 => vs 7 = .slice (some ⟨(iv 7).1, 0, none⟩) 1 1 ∧ (iv 7).2 = (iv 7).1 + 1 ∧ Blk wx (iv 7).1 5 [.int .u8 (48 + ↑c)]
      | 8 => vs 8 = .string (bs [dg8 c])
      | 9 => vs 9 = .string (bs [dg8 a] ++ bs [dg8 c])
      | 10 => vs 10 = .string (bs [dg8 a] ++ bs [dg8 c])
      | _ => True) (fun i iv vs => match i with
      | 0 => vs 0 = .int .i64 n
      | 1 => vs 1 = .int .i64 a
      | 2 => vs 2 = .string (bs [dg8 a])
      | 3 => vs 3 = .int .i64 n
      | 4 => vs 4 = .int .i64 c
      | 5 => vs 5 = .int .i64 (48 + ↑c)
      | 6 => vs 6 = .int .u8 (48 + ↑c)
      | 7 => vs 7 = .slice (some ⟨(iv 7).1, 0, none⟩) 1 1 ∧ (iv 7).2 = (iv 7).1 + 1
      | 8 => vs 8 = .string (bs [dg8 c])
      | 9 => vs 9 = .string (bs [dg8 a] ++ bs [dg8 c])
      | 10 => vs 10 = .string (bs [dg8 a] ++ bs [dg8 c])
      | _ => True) (by kernel_rfl) (by kernel_rfl) [0, 1, 2, 3, 4, 5, 6, 7, 8, 9, 10] (by kernel_rfl) ?hbase ?hGb ?hG ?hJ ?hE ?hEE ?hstep ?hQ
    case hbase => first | exact Nat.le_refl _ | omega | (simp; omega)
    case hGb =>
      exact fun _ _ h => h.elim
    case hG =>
      exact fun _ _ _ h => h.elim
    case hJ =>
      intro i hi iv iv' vs vs' wx wx' ha hv hz hk hj
      simp only [List.mem_cons, List.not_mem_nil, or_false] at hi
      rcases hi with rfl | rfl | rfl | rfl | rfl | rfl | rfl | rfl | rfl | rfl | rfl
      · have e0 := hv.out 0 (mem_of (by kernel_rfl))
        have hj' : vs 0 = .int .i64 n := hj
        show vs' 0 = .int .i64 n
        rw [← e0]
        exact hj'
      · have e1 := hv.out 1 (mem_of (by kernel_rfl))
        have hj' : vs 1 = .int .i64 a := hj
        show vs' 1 = .int .i64 a
        rw [← e1]
        exact hj'
      · have e2 := hv.out 2 (mem_of (by kernel_rfl))
        have hj' : vs 2 = .string (bs [dg8 a]) := hj
        show vs' 2 = .string (bs [dg8 a])
        rw [← e2]
        exact hj'
      · have e3 := hv.out 3 (mem_of (by kernel_rfl))
        have hj' : vs 3 = .int .i64 n := hj
        show vs' 3 = .int .i64 n
        rw [← e3]
        exact hj'
      · have e4 := hv.out 4 (mem_of (by kernel_rfl))
        have hj' : vs 4 = .int .i64 c := hj
        show vs' 4 = .int .i64 c
        rw [← e4]
        exact hj'
      · have e5 := hv.out 5 (mem_of (by kernel_rfl))
        have hj' : vs 5 = .int .i64 (48 + ↑c) := hj
        show vs' 5 = .int .i64 (48 + ↑c)
        rw [← e5]
        exact hj'
      · have e6 := hv.out 6 (mem_of (by kernel_rfl))
        have hj' : vs 6 = .int .u8 (48 + ↑c) := hj
        show vs' 6 = .int .u8 (48 + ↑c)
        rw [← e6]
        exact hj'
      · have e7 := hv.out 7 (mem_of (by kernel_rfl))
        have g7 := ha.out 7 (mem_of (by kernel_rfl))
        obtain ⟨q1, q3, q2⟩ := hj
        show vs' 7 = .slice (some ⟨(iv' 7).1, 0, none⟩) 1 1 ∧ (iv' 7).2 = (iv' 7).1 + 1 ∧ Blk wx' (iv' 7).1 5 [.int .u8 (48 + ↑c)]
        rw [← e7, ← g7]
        exact ⟨q1, q3, q2.keep (hk.out _ q2.lt (foot_own (Nat.le_refl _) (by omega)))⟩
      · have e8 := hv.out 8 (mem_of (by kernel_rfl))
        have hj' : vs 8 = .string (bs [dg8 c]) := hj
        show vs' 8 = .string (bs [dg8 c])
        rw [← e8]
        exact hj'
      · have e9 := hv.out 9 (mem_of (by kernel_rfl))
        have hj' : vs 9 = .string (bs [dg8 a] ++ bs [dg8 c]) := hj
        show vs' 9 = .string (bs [dg8 a] ++ bs [dg8 c])
        rw [← e9]
        exact hj'
      · have e10 := hv.out 10 (mem_of (by kernel_rfl))
        have hj' : vs 10 = .string (bs [dg8 a] ++ bs [dg8 c]) := hj
        show vs' 10 = .string (bs [dg8 a] ++ bs [dg8 c])
        rw [← e10]
        exact hj'
    case hE =>
      intro i hi iv vs wx hj
      simp only [List.mem_cons, List.not_mem_nil, or_false] at hi
      rcases hi with rfl | rfl | rfl | rfl | rfl | rfl | rfl | rfl | rfl | rfl | rfl
      · exact hj
      · exact hj
      · exact hj
      · exact hj
      · exact hj
      · exact hj
      · exact hj
      · exact ⟨hj.1, hj.2.1⟩
      · exact hj
      · exact hj
      · exact hj
    case hEE =>
      intro i hi iv iv' vs vs' ha hv hj
      simp only [List.mem_cons, List.not_mem_nil, or_false] at hi
      rcases hi with rfl | rfl | rfl | rfl | rfl | rfl | rfl | rfl | rfl | rfl | rfl
      · have e0 := hv.out 0 (mem_of (by kernel_rfl))
        have hj' : vs 0 = .int .i64 n := hj
        show vs' 0 = .int .i64 n
        rw [← e0]
        exact hj'
      · have e1 := hv.out 1 (mem_of (by kernel_rfl))
        have hj' : vs 1 = .int .i64 a := hj
        show vs' 1 = .int .i64 a
        rw [← e1]
        exact hj'
      · have e2 := hv.out 2 (mem_of (by kernel_rfl))
        have hj' : vs 2 = .string (bs [dg8 a]) := hj
        show vs' 2 = .string (bs [dg8 a])
        rw [← e2]
        exact hj'
      · have e3 := hv.out 3 (mem_of (by kernel_rfl))
        have hj' : vs 3 = .int .i64 n := hj
        show vs' 3 = .int .i64 n
        rw [← e3]
        exact hj'
      · have e4 := hv.out 4 (mem_of (by kernel_rfl))
        have hj' : vs 4 = .int .i64 c := hj
        show vs' 4 = .int .i64 c
        rw [← e4]
        exact hj'
      · have e5 := hv.out 5 (mem_of (by kernel_rfl))
        have hj' : vs 5 = .int .i64 (48 + ↑c) := hj
        show vs' 5 = .int .i64 (48 + ↑c)
        rw [← e5]
        exact hj'
      · have e6 := hv.out 6 (mem_of (by kernel_rfl))
        have hj' : vs 6 = .int .u8 (48 + ↑c) := hj
        show vs' 6 = .int .u8 (48 + ↑c)
        rw [← e6]
        exact hj'
      · have e7 := hv.out 7 (mem_of (by kernel_rfl))
        have g7 := ha.out 7 (mem_of (by kernel_rfl))
        have hj' : vs 7 = .slice (some ⟨(iv 7).1, 0, none⟩) 1 1 ∧ (iv 7).2 = (iv 7).1 + 1 := hj
        show vs' 7 = .slice (some ⟨(iv' 7).1, 0, none⟩) 1 1 ∧ (iv' 7).2 = (iv' 7).1 + 1
        rw [← e7, ← g7]
        exact hj'
      · have e8 := hv.out 8 (mem_of (by kernel_rfl))
        have hj' : vs 8 = .string (bs [dg8 c]) := hj
        show vs' 8 = .string (bs [dg8 c])
        rw [← e8]
        exact hj'
      · have e9 := hv.out 9 (mem_of (by kernel_rfl))
        have hj' : vs 9 = .string (bs [dg8 a] ++ bs [dg8 c]) := hj
        show vs' 9 = .string (bs [dg8 a] ++ bs [dg8 c])
        rw [← e9]
        exact hj'
      · have e10 := hv.out 10 (mem_of (by kernel_rfl))
        have hj' : vs 10 = .string (bs [dg8 a] ++ bs [dg8 c]) := hj
        show vs' 10 = .string (bs [dg8 a] ++ bs [dg8 c])
        rw [← e10]
        exact hj'
    case hstep =>
      intro i hi opr ho iv vs w1 hB hS hSo hd he hbd hsep hun K hK
      simp only [List.mem_cons, List.not_mem_nil, or_false] at hi
      have hzB := hB.size
      skip
      generalize hA : putFrom _ 0 vs _ = A at hK ⊢
      simp only [putFrom, Act.put, List.setIfInBounds_toArray, List.set_cons_succ, List.set_cons_zero] at hA
      rcases hi with rfl | rfl | rfl | rfl | rfl | rfl | rfl | rfl | rfl | rfl | rfl
      all_goals
        simp at ho
        subst ho
        subst hA
      · go_wp2_with fail
        exact Onward.mk (hK (.int .i64 n) _ _ (fun h => by cases h) (by first | rfl | (simp only [Act.put, List.setIfInBounds_toArray, List.set_cons_succ, List.set_cons_zero])) (Spares.of_below (Below.refl _ _)) (fun iv' _ _ => rfl))
      · have h0 : vs 0 = .int .i64 n := hd.out 0 (mem_of (by kernel_rfl)) (by decide) (by kernel_rfl)
        go_wp2_with fail
        exact Onward.mk (hK (.int .i64 a) _ _ (fun h => by cases h) (by first | rfl | (simp only [Act.put, List.setIfInBounds_toArray, List.set_cons_succ, List.set_cons_zero, h0])) (Spares.of_below (Below.refl _ _)) (fun iv' _ _ => rfl))
      · have h1 : vs 1 = .int .i64 a := hd.out 1 (mem_of (by kernel_rfl)) (by decide) (by kernel_rfl)
        go_wp2_with fail
        refine (Decimal_one h2).mono ?_
        rintro e w2 ⟨rfl, hb⟩
        go_wp2_with fail
        exact Onward.mk (hK (.string (bs [dg8 a])) _ _ (fun h => by cases h) (by first | rfl | (simp only [Act.put, List.setIfInBounds_toArray, List.set_cons_succ, List.set_cons_zero, h1])) (Spares.of_below hb) (fun iv' _ _ => rfl))
      · go_wp2_with fail
        exact Onward.mk (hK (.int .i64 n) _ _ (fun h => by cases h) (by first | rfl | (simp only [Act.put, List.setIfInBounds_toArray, List.set_cons_succ, List.set_cons_zero])) (Spares.of_below (Below.refl _ _)) (fun iv' _ _ => rfl))
      · have h3 : vs 3 = .int .i64 n := hd.out 3 (mem_of (by kernel_rfl)) (by decide) (by kernel_rfl)
        go_wp2_with fail
        exact Onward.mk (hK (.int .i64 c) _ _ (fun h => by cases h) (by first | rfl | (simp only [Act.put, List.setIfInBounds_toArray, List.set_cons_succ, List.set_cons_zero, h3])) (Spares.of_below (Below.refl _ _)) (fun iv' _ _ => rfl))
      · have h4 : vs 4 = .int .i64 c := hd.out 4 (mem_of (by kernel_rfl)) (by decide) (by kernel_rfl)
        go_wp2_with fail
        exact Onward.mk (hK (.int .i64 (48 + ↑c)) _ _ (fun h => by cases h) (by first | rfl | (simp only [Act.put, List.setIfInBounds_toArray, List.set_cons_succ, List.set_cons_zero, h4])) (Spares.of_below (Below.refl _ _)) (fun iv' _ _ => rfl))
      · have h5 : vs 5 = .int .i64 (48 + ↑c) := hd.out 5 (mem_of (by kernel_rfl)) (by decide) (by kernel_rfl)
        go_wp2_with fail
        exact Onward.mk (hK (.int .u8 (48 + ↑c)) _ _ (fun h => by cases h) (by first | rfl | (simp only [Act.put, List.setIfInBounds_toArray, List.set_cons_succ, List.set_cons_zero, h5])) (Spares.of_below (Below.refl _ _)) (fun iv' _ _ => rfl))
      · have h6 : vs 6 = .int .u8 (48 + ↑c) := hd.out 6 (mem_of (by kernel_rfl)) (by decide) (by kernel_rfl)
        go_wp2_with fail
        exact Onward.mk (hK (.slice (some ⟨w1.heap.size, 0, none⟩) 1 1) _ _ (fun h => by cases h) (by first | rfl | (simp only [Act.put, List.setIfInBounds_toArray, List.set_cons_succ, List.set_cons_zero, h6])) (Spares.of_below (Below.alloc (Below.refl _ _) (Nat.le_refl _) _)) (fun iv' _ hi => by
          show Value.slice (some ⟨w1.heap.size, 0, none⟩) 1 1 = .slice (some ⟨(iv' 7).1, 0, none⟩) 1 1 ∧ (iv' 7).2 = (iv' 7).1 + 1 ∧ Blk _ (iv' 7).1 5 [.int .u8 (48 + ↑c)]
          rw [hi]
          exact ⟨rfl, by simp, Blk.new1 _ _ _⟩))
      · obtain ⟨h7, q7, f7⟩ := hd.out 7 (mem_of (by kernel_rfl)) (by decide) (by kernel_rfl)
        obtain ⟨h7, q7, f7⟩ := hd.out 7 (mem_of (by kernel_rfl)) (by decide) (by kernel_rfl)
        have hrun := digit_back h3 f7
        go_wp2_with fail
        exact Onward.mk (hK (.string (bs [dg8 c])) _ _ (fun h => by cases h) (by simp only [Act.put, List.setIfInBounds_toArray, List.set_cons_succ, List.set_cons_zero, h7]) (Spares.of_below (Below.refl _ _)) (fun iv' _ _ => rfl))
      · have h2 : vs 2 = .string (bs [dg8 a]) := hd.out 2 (mem_of (by kernel_rfl)) (by decide) (by kernel_rfl)
        have h8 : vs 8 = .string (bs [dg8 c]) := hd.out 8 (mem_of (by kernel_rfl)) (by decide) (by kernel_rfl)
        go_wp2_with fail
        exact Onward.mk (hK (.string (bs [dg8 a] ++ bs [dg8 c])) _ _ (fun h => by cases h) (by first | rfl | (simp only [Act.put, List.setIfInBounds_toArray, List.set_cons_succ, List.set_cons_zero, h2, h8])) (Spares.of_below (Below.refl _ _)) (fun iv' _ _ => rfl))
      · have h9 : vs 9 = .string (bs [dg8 a] ++ bs [dg8 c]) := hd.out 9 (mem_of (by kernel_rfl)) (by decide) (by kernel_rfl)
        go_wp2_with fail
        exact Onward.mk (hK (.string (bs [dg8 a] ++ bs [dg8 c])) _ _ (fun h => by cases h) (by first | rfl | (simp only [Act.put, List.setIfInBounds_toArray, List.set_cons_succ, List.set_cons_zero, h9])) (Spares.of_below (Below.refl _ _)) (fun iv' _ _ => rfl))
    case hQ =>
      intro iv vs wx hB hSp hd he hbd hsep
      have hzB := hB.size
      have h0 : vs 0 = .int .i64 n := hd.out 0 (mem_of (by kernel_rfl)) (not_eaten (by kernel_rfl))
      have h1 : vs 1 = .int .i64 a := hd.out 1 (mem_of (by kernel_rfl)) (not_eaten (by kernel_rfl))
      have h2 : vs 2 = .string (bs [dg8 a]) := hd.out 2 (mem_of (by kernel_rfl)) (not_eaten (by kernel_rfl))
      have h3 : vs 3 = .int .i64 n := hd.out 3 (mem_of (by kernel_rfl)) (not_eaten (by kernel_rfl))
      have h4 : vs 4 = .int .i64 c := hd.out 4 (mem_of (by kernel_rfl)) (not_eaten (by kernel_rfl))
      have h5 : vs 5 = .int .i64 (48 + ↑c) := hd.out 5 (mem_of (by kernel_rfl)) (not_eaten (by kernel_rfl))
      have h6 : vs 6 = .int .u8 (48 + ↑c) := hd.out 6 (mem_of (by kernel_rfl)) (not_eaten (by kernel_rfl))
      obtain ⟨h7, q7, f7⟩ := hd.out 7 (mem_of (by kernel_rfl)) (not_eaten (by kernel_rfl))
      have h8 : vs 8 = .string (bs [dg8 c]) := hd.out 8 (mem_of (by kernel_rfl)) (not_eaten (by kernel_rfl))
      have h9 : vs 9 = .string (bs [dg8 a] ++ bs [dg8 c]) := hd.out 9 (mem_of (by kernel_rfl)) (not_eaten (by kernel_rfl))
      have h10 : vs 10 = .string (bs [dg8 a] ++ bs [dg8 c]) := hd.out 10 (mem_of (by kernel_rfl)) (not_eaten (by kernel_rfl))
      simp only [putFrom, Act.put, List.setIfInBounds_toArray, List.set_cons_succ, List.set_cons_zero]
      simp only [h10, Hr.out]
      clear hd he hbd hsep h0 h1 h2 h3 h4 h5 h6 h7 h8 h9 h10 Hr
      go_wp2_with fail
      go_ret
      exact ⟨rfl, hB⟩
theorem decimal_i {n : Nat} {w : World} (hn : n < 100) : Calls Tryd.prog 83 #[.int .i64 n] w fun e w' => e = .returned (.string (bs (Lib.decDigits n))) ∧ w = w' := by
  go_enter Tryd.func83, Tryd.ntmps83
  go_wp2_with fail
  refine (Tryd.strconv_FormatInt_10_small n hn _).mono ?_
  rintro e w1 ⟨rfl, rfl⟩
  go_wp2_with fail
  go_ret
  exact ⟨rfl, rfl⟩
end Go.Proofs.YtlnojmmjpgpjdaaDoor
