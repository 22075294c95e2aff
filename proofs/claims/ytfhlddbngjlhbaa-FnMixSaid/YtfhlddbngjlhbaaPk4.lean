/-
  Parts of a proof, joined: Text, Own, Sig, Cond, Ints, Trace, Shape. No condition.
-/
import Derived.Test.YtfhlddbngjlhbaaProg
import Derived.Lib.ItoaNum
import Derived.Lib.Bytealg
import Derived.Shelf.SlSortCmp.WholeK
import Derived.Test.YtfhlddbngjlhbaaPk3
namespace Go.Proofs.Ytfhlddbngjlhbaa
set_option linter.unusedVariables false
set_option linter.unusedSimpArgs false
open Go.ChangeShapes Go.WideShapes Go.ChangeAt Go.RowKit
def bs (l : List UInt8) : ByteArray := ⟨l.toArray⟩
def dg8 (n : Nat) : UInt8 := UInt8.ofNat (48 + n)
theorem bs_add (a b : List UInt8) : bs a ++ bs b = bs (a ++ b) := by
 apply ByteArray.ext
 simp [bs, ByteArray.data_append]
theorem bs_size (a : List UInt8) : (bs a).size = a.length := by simp [bs, ByteArray.size]
theorem run_cat {P : Program} (a b : List UInt8) (h : a.length + b.length ≤ 1000000000) (w : World) : (Op.stringOp .add (bs a) (bs b)).run P w = .ok (.string (bs (a ++ b))) w := by
 rw [Go.run_string_add_sum w _ _ (by rw [bs_size, bs_size]; omega), bs_add]
theorem digit_byte {n : Nat} (h : n < 10) : (((dg8 n).toNat : Nat) : Int) = 48 + (n : Int) := by
 have : (dg8 n).toNat = 48 + n := by unfold dg8; simp [UInt8.toNat_ofNat']; omega
 rw [this]
 omega
theorem digit_back {n g : Nat} {w : World} (hn : n < 10) (h : Blk w g 5 [.int .u8 (48 + (n : Int))]) : (convert 38 9 (.slice (some ⟨g, 0, none⟩) 1 1)).run Try.prog w = .ok (.string (bs [dg8 n])) w := by
 refine run_convert_bytes_back _ 38 9 5 ⟨g, 0, none⟩ 1 [dg8 n] Try.underlying38 Try.underlying5 Try.underlying9 ?_
 intro j hj
 obtain rfl : j = 0 := by simp at hj; omega
 rw [add_plain]
 simp only [Nat.zero_add, List.getElem_cons_zero, digit_byte hn]
 exact h.c0
set_option maxRecDepth 100000 in
set_option maxHeartbeats 1000000 in
theorem Decimal_one {n : Nat} {w : World} (hn : n < 10) : Calls Try.prog 101 #[.int .i64 n] w fun e w' => e = .returned (.string (bs [dg8 n])) ∧ Below w.heap.size w w' := by
 have hb := digit_back hn (Blk.new1 w 5 (.int .u8 (48 + (n : Int))))
 have hn' : (n : Int) < 10 := by omega
 go_enter Try.func101, Try.ntmps101
 go_wp2_with fail
 go_ret
 exact ⟨rfl, by (repeat' first | exact Below.refl _ _ | assumption | apply Below.alloc | apply Below.drew | apply Below.setCell | omega | (simp; done) | (simp; omega))⟩
set_option maxRecDepth 100000 in
set_option maxHeartbeats 4000000 in
theorem Decimal_i {n : Nat} {w : World} (hn : n < 100) : Calls Try.prog 101 #[.int .i64 n] w fun e w' => e = .returned (.string (bs (Lib.decDigits n))) ∧ Below w.heap.size w w' := by
 by_cases h1 : n < 10
 ·
  rw [Lib.decDigits_one h1]
  exact Decimal_one h1
 ·
  rw [Lib.decDigits_two h1 hn]
  have h4 : (10 : Int) ≤ (n : Int) := by omega
  have h5 : (n : Int) < 100 := by omega
  obtain ⟨a, ha⟩ : ∃ a, n / 10 = a := ⟨_, rfl⟩
  obtain ⟨c, hc⟩ : ∃ c, n % 10 = c := ⟨_, rfl⟩
  have q1 : (n : Int) / 10 = (a : Int) := by omega
  have q2 : (n : Int) % 10 = (c : Int) := by omega
  have h2 : a < 10 := by omega
  have h3 : c < 10 := by omega
  have h6 : (c : Int) < 10 := by omega
  have hcz := Int.natCast_nonneg c
  have Hr : Hid (bs [dg8 a] ++ bs [dg8 c] = bs [UInt8.ofNat (48 + a), UInt8.ofNat (48 + c)]) := bs_add _ _
  rw [ha, hc]
  clear ha hc
  go_enter Try.func101, Try.ntmps101
  go_wp2_with fail
  refine region_rs [] [] (fun _ _ => False) (w.heap.size) (fun i iv vs wx => match i with
   | 0 => vs 0 = .int .i64 n
   | 1 => vs 1 = .int .i64 a
   | 2 => vs 2 = .string (bs [dg8 a])
   | 3 => vs 3 = .int .i64 n
   | 4 => vs 4 = .int .i64 c
   | 5 => vs 5 = .int .i64 (48 + ↑c)
   | 6 => vs 6 = .int .u8 (48 + ↑c)
   | 7 => vs 7 = .slice (some ⟨(iv 7).1, 0, none⟩) 1 1 ∧ (iv 7).2 = (iv 7).1 + 1 ∧ Blk wx (iv 7).1 5 [.int .u8 (48 + ↑c)]
   | 8 => vs 8 = .string (bs [dg8 c])
   | 9 => vs 9 = .string (bs [dg8 a] ++ bs [dg8 c])
   | 10 => vs 10 = .string (bs [dg8 a] ++ bs [dg8 c])
   | _ => True) (fun i iv vs => match i with
   | 0 => vs 0 = .int .i64 n
   | 1 => vs 1 = .int .i64 a
   | 2 => vs 2 = .string (bs [dg8 a])
   | 3 => vs 3 = .int .i64 n
   | 4 => vs 4 = .int .i64 c
   | 5 => vs 5 = .int .i64 (48 + ↑c)
   | 6 => vs 6 = .int .u8 (48 + ↑c)
   | 7 => vs 7 = .slice (some ⟨(iv 7).1, 0, none⟩) 1 1 ∧ (iv 7).2 = (iv 7).1 + 1
   | 8 => vs 8 = .string (bs [dg8 c])
   | 9 => vs 9 = .string (bs [dg8 a] ++ bs [dg8 c])
   | 10 => vs 10 = .string (bs [dg8 a] ++ bs [dg8 c])
   | _ => True) (by kernel_rfl) (by kernel_rfl) [0, 1, 2, 3, 4, 5, 6, 7, 8, 9, 10] (by kernel_rfl) ?hbase ?hGb ?hG ?hJ ?hE ?hEE ?hstep ?hQ
  case hbase => first | exact Nat.le_refl _ | omega | (simp; omega)
  case hGb =>
   exact fun _ _ h => h.elim
  case hG =>
   exact fun _ _ _ h => h.elim
  case hJ =>
   intro i hi iv iv' vs vs' wx wx' ha hv hz hk hj
   simp only [List.mem_cons, List.not_mem_nil, or_false] at hi
   rcases hi with rfl | rfl | rfl | rfl | rfl | rfl | rfl | rfl | rfl | rfl | rfl
   ·
    exact (hv.out 0 (mem_of (by kernel_rfl))).symm.trans hj
   ·
    exact (hv.out 1 (mem_of (by kernel_rfl))).symm.trans hj
   ·
    exact (hv.out 2 (mem_of (by kernel_rfl))).symm.trans hj
   ·
    exact (hv.out 3 (mem_of (by kernel_rfl))).symm.trans hj
   ·
    exact (hv.out 4 (mem_of (by kernel_rfl))).symm.trans hj
   ·
    exact (hv.out 5 (mem_of (by kernel_rfl))).symm.trans hj
   ·
    exact (hv.out 6 (mem_of (by kernel_rfl))).symm.trans hj
   ·
    have e7 := hv.out 7 (mem_of (by kernel_rfl))
    have g7 := ha.out 7 (mem_of (by kernel_rfl))
    obtain ⟨q1, q3, q2⟩ := hj
    show vs' 7 = .slice (some ⟨(iv' 7).1, 0, none⟩) 1 1 ∧ (iv' 7).2 = (iv' 7).1 + 1 ∧ Blk wx' (iv' 7).1 5 [.int .u8 (48 + ↑c)]
    rw [← e7, ← g7]
    exact ⟨q1, q3, q2.keep (hk.out _ q2.lt (foot_own (Nat.le_refl _) (by omega)))⟩
   ·
    exact (hv.out 8 (mem_of (by kernel_rfl))).symm.trans hj
   ·
    exact (hv.out 9 (mem_of (by kernel_rfl))).symm.trans hj
   ·
    exact (hv.out 10 (mem_of (by kernel_rfl))).symm.trans hj
  case hE =>
   intro i hi iv vs wx hj
   simp only [List.mem_cons, List.not_mem_nil, or_false] at hi
   rcases hi with rfl | rfl | rfl | rfl | rfl | rfl | rfl | rfl | rfl | rfl | rfl
   ·
    exact hj
   ·
    exact hj
   ·
    exact hj
   ·
    exact hj
   ·
    exact hj
   ·
    exact hj
   ·
    exact hj
   ·
    exact ⟨hj.1, hj.2.1⟩
   ·
    exact hj
   ·
    exact hj
   ·
    exact hj
  case hEE =>
   intro i hi iv iv' vs vs' ha hv hj
   simp only [List.mem_cons, List.not_mem_nil, or_false] at hi
   rcases hi with rfl | rfl | rfl | rfl | rfl | rfl | rfl | rfl | rfl | rfl | rfl
   ·
    exact (hv.out 0 (mem_of (by kernel_rfl))).symm.trans hj
   ·
    exact (hv.out 1 (mem_of (by kernel_rfl))).symm.trans hj
   ·
    exact (hv.out 2 (mem_of (by kernel_rfl))).symm.trans hj
   ·
    exact (hv.out 3 (mem_of (by kernel_rfl))).symm.trans hj
   ·
    exact (hv.out 4 (mem_of (by kernel_rfl))).symm.trans hj
   ·
    exact (hv.out 5 (mem_of (by kernel_rfl))).symm.trans hj
   ·
    exact (hv.out 6 (mem_of (by kernel_rfl))).symm.trans hj
   ·
    have e7 := hv.out 7 (mem_of (by kernel_rfl))
    have g7 := ha.out 7 (mem_of (by kernel_rfl))
    have hj' : vs 7 = .slice (some ⟨(iv 7).1, 0, none⟩) 1 1 ∧ (iv 7).2 = (iv 7).1 + 1 := hj
    show vs' 7 = .slice (some ⟨(iv' 7).1, 0, none⟩) 1 1 ∧ (iv' 7).2 = (iv' 7).1 + 1
    rw [← e7, ← g7]
    exact hj'
   ·
    exact (hv.out 8 (mem_of (by kernel_rfl))).symm.trans hj
   ·
    exact (hv.out 9 (mem_of (by kernel_rfl))).symm.trans hj
   ·
    exact (hv.out 10 (mem_of (by kernel_rfl))).symm.trans hj
  case hstep =>
   intro i hi opr ho iv vs w1 hB hS hSo hd he hbd hsep hun K hK
   simp only [List.mem_cons, List.not_mem_nil, or_false] at hi
   have hzB := hB.size
   skip
   generalize hA : putFrom _ 0 vs _ = A at hK ⊢
   simp only [putFrom, puts] at hA
   rcases hi with rfl | rfl | rfl | rfl | rfl | rfl | rfl | rfl | rfl | rfl | rfl
   all_goals
    simp at ho
    subst ho
    subst hA
   ·
    go_wp2_with fail
    exact Onward.mk (hK (.int .i64 n) _ _ (fun h => by cases h) (by first | rfl | (simp only [puts])) (Spares.refl _) (fun iv' _ _ => rfl))
   ·
    have h0 : vs 0 = .int .i64 n := hd.out 0 (mem_of (by kernel_rfl)) (by decide) (by kernel_rfl)
    go_wp2_with fail
    exact Onward.mk (hK (.int .i64 a) _ _ (fun h => by cases h) (by first | rfl | (simp only [puts, h0])) (Spares.refl _) (fun iv' _ _ => rfl))
   ·
    have h1 : vs 1 = .int .i64 a := hd.out 1 (mem_of (by kernel_rfl)) (by decide) (by kernel_rfl)
    go_wp2_with fail
    refine (Decimal_one h2).mono ?_
    rintro e w2 ⟨rfl, hb⟩
    go_wp2_with fail
    exact Onward.mk (hK (.string (bs [dg8 a])) _ _ (fun h => by cases h) (by first | rfl | (simp only [puts, h1])) (Spares.of_below hb) (fun iv' _ _ => rfl))
   ·
    go_wp2_with fail
    exact Onward.mk (hK (.int .i64 n) _ _ (fun h => by cases h) (by first | rfl | (simp only [puts])) (Spares.refl _) (fun iv' _ _ => rfl))
   ·
    have h3 : vs 3 = .int .i64 n := hd.out 3 (mem_of (by kernel_rfl)) (by decide) (by kernel_rfl)
    go_wp2_with fail
    exact Onward.mk (hK (.int .i64 c) _ _ (fun h => by cases h) (by first | rfl | (simp only [puts, h3])) (Spares.refl _) (fun iv' _ _ => rfl))
   ·
    have h4 : vs 4 = .int .i64 c := hd.out 4 (mem_of (by kernel_rfl)) (by decide) (by kernel_rfl)
    go_wp2_with fail
    exact Onward.mk (hK (.int .i64 (48 + ↑c)) _ _ (fun h => by cases h) (by first | rfl | (simp only [puts, h4])) (Spares.refl _) (fun iv' _ _ => rfl))
   ·
    have h5 : vs 5 = .int .i64 (48 + ↑c) := hd.out 5 (mem_of (by kernel_rfl)) (by decide) (by kernel_rfl)
    go_wp2_with fail
    exact Onward.mk (hK (.int .u8 (48 + ↑c)) _ _ (fun h => by cases h) (by first | rfl | (simp only [puts, h5])) (Spares.refl _) (fun iv' _ _ => rfl))
   ·
    have h6 : vs 6 = .int .u8 (48 + ↑c) := hd.out 6 (mem_of (by kernel_rfl)) (by decide) (by kernel_rfl)
    go_wp2_with fail
    exact Onward.mk (hK (.slice (some ⟨w1.heap.size, 0, none⟩) 1 1) _ _ (fun h => by cases h) (by first | rfl | (simp only [puts, h6])) (Spares.of_below (Below.alloc (Below.refl _ _) (Nat.le_refl _) _)) (fun iv' _ hi => by
     show Value.slice (some ⟨w1.heap.size, 0, none⟩) 1 1 = .slice (some ⟨(iv' 7).1, 0, none⟩) 1 1 ∧ (iv' 7).2 = (iv' 7).1 + 1 ∧ Blk _ (iv' 7).1 5 [.int .u8 (48 + ↑c)]
     rw [hi]
     exact ⟨rfl, by simp, Blk.new1 _ _ _⟩))
   ·
    obtain ⟨h7, q7, f7⟩ := hd.out 7 (mem_of (by kernel_rfl)) (by decide) (by kernel_rfl)
    obtain ⟨h7, q7, f7⟩ := hd.out 7 (mem_of (by kernel_rfl)) (by decide) (by kernel_rfl)
    have hrun := digit_back h3 f7
    go_wp2_with fail
    exact Onward.mk (hK (.string (bs [dg8 c])) _ _ (fun h => by cases h) (by simp only [Act.put, List.setIfInBounds_toArray, List.set_cons_succ, List.set_cons_zero, h7]) (Spares.of_below (Below.refl _ _)) (fun iv' _ _ => rfl))
   ·
    have h2 : vs 2 = .string (bs [dg8 a]) := hd.out 2 (mem_of (by kernel_rfl)) (by decide) (by kernel_rfl)
    have h8 : vs 8 = .string (bs [dg8 c]) := hd.out 8 (mem_of (by kernel_rfl)) (by decide) (by kernel_rfl)
    go_wp2_with fail
    exact Onward.mk (hK (.string (bs [dg8 a] ++ bs [dg8 c])) _ _ (fun h => by cases h) (by first | rfl | (simp only [puts, h2, h8])) (Spares.refl _) (fun iv' _ _ => rfl))
   ·
    have h9 : vs 9 = .string (bs [dg8 a] ++ bs [dg8 c]) := hd.out 9 (mem_of (by kernel_rfl)) (by decide) (by kernel_rfl)
    go_wp2_with fail
    exact Onward.mk (hK (.string (bs [dg8 a] ++ bs [dg8 c])) _ _ (fun h => by cases h) (by first | rfl | (simp only [puts, h9])) (Spares.refl _) (fun iv' _ _ => rfl))
  case hQ =>
   intro iv vs wx hB hSp hd he hbd hsep
   have hzB := hB.size
   have h0 : vs 0 = .int .i64 n := hd.out 0 (mem_of (by kernel_rfl)) (not_eaten (by kernel_rfl))
   have h1 : vs 1 = .int .i64 a := hd.out 1 (mem_of (by kernel_rfl)) (not_eaten (by kernel_rfl))
   have h2 : vs 2 = .string (bs [dg8 a]) := hd.out 2 (mem_of (by kernel_rfl)) (not_eaten (by kernel_rfl))
   have h3 : vs 3 = .int .i64 n := hd.out 3 (mem_of (by kernel_rfl)) (not_eaten (by kernel_rfl))
   have h4 : vs 4 = .int .i64 c := hd.out 4 (mem_of (by kernel_rfl)) (not_eaten (by kernel_rfl))
   have h5 : vs 5 = .int .i64 (48 + ↑c) := hd.out 5 (mem_of (by kernel_rfl)) (not_eaten (by kernel_rfl))
   have h6 : vs 6 = .int .u8 (48 + ↑c) := hd.out 6 (mem_of (by kernel_rfl)) (not_eaten (by kernel_rfl))
   obtain ⟨h7, q7, f7⟩ := hd.out 7 (mem_of (by kernel_rfl)) (not_eaten (by kernel_rfl))
   have h8 : vs 8 = .string (bs [dg8 c]) := hd.out 8 (mem_of (by kernel_rfl)) (not_eaten (by kernel_rfl))
   have h9 : vs 9 = .string (bs [dg8 a] ++ bs [dg8 c]) := hd.out 9 (mem_of (by kernel_rfl)) (not_eaten (by kernel_rfl))
   have h10 : vs 10 = .string (bs [dg8 a] ++ bs [dg8 c]) := hd.out 10 (mem_of (by kernel_rfl)) (not_eaten (by kernel_rfl))
   simp only [putFrom, puts]
   simp only [h10, Hr.out]
   clear hd he hbd hsep h0 h1 h2 h3 h4 h5 h6 h7 h8 h9 h10 Hr
   go_wp2_with fail
   go_ret
   exact ⟨rfl, hB⟩
end Go.Proofs.Ytfhlddbngjlhbaa

namespace Go.Proofs.Ytfhlddbngjlhbaa
set_option linter.unusedVariables false
set_option linter.unusedSimpArgs false
open Go.ChangeShapes Go.WideShapes Go.ChangeAt Go.RowKit
theorem own : ownKnob Try.prog.godebug = none := by kernel_rfl
theorem laid : laidOutB Try.prog = true := by kernel_rfl
section
variable {H : Type} {enc : TypeId × Value → H} {W : World} {base : Nat} {sp : Nat → Bool} {hd : Bool} {v : Value} {d : DataW H} {ps : List MemPlace}
end
end Go.Proofs.Ytfhlddbngjlhbaa

namespace Go.Proofs.Ytfhlddbngjlhbaa
set_option linter.unusedVariables false
set_option linter.unusedSimpArgs false
open Go.ChangeShapes Go.WideShapes Go.ChangeAt Go.RowKit
def inB (n lo hi : Int) : Bool := decide (lo ≤ n) && decide (n ≤ hi)
def sigB (t a : Int) : Bool := inB t 0 3 && inB a 0 4
theorem within_any (n lo hi : Int) (w : World) : Calls Try.prog 29 #[.int .i64 n, .int .i64 lo, .int .i64 hi] w fun e w' => e = .returned (.bool (inB n lo hi)) ∧ w = w' := by
 by_cases h1 : lo ≤ n
 ·
  by_cases h2 : n ≤ hi
  ·
   have e1 : inB n lo hi = true := by simp [inB, h1, h2]
   rw [e1]
   go_enter Try.func29, Try.ntmps29
   go_wp2
   go_ret
   exact ⟨rfl, rfl⟩
  ·
   have e1 : inB n lo hi = false := by simp [inB, h2]
   rw [e1]
   go_enter Try.func29, Try.ntmps29
   go_wp2
   go_ret
   exact ⟨rfl, rfl⟩
 ·
  have e1 : inB n lo hi = false := by simp [inB, h1]
  rw [e1]
  go_enter Try.func29, Try.ntmps29
  go_wp2
  go_ret
  exact ⟨rfl, rfl⟩
theorem in_any (n lo hi : Int) (w : World) : Calls Try.prog 23 #[.int .i64 n, .int .i64 lo, .int .i64 hi] w fun e w' => e = .returned (.bool (inB n lo hi)) ∧ w = w' := by
 by_cases h1 : lo ≤ n
 ·
  by_cases h2 : n ≤ hi
  ·
   have e1 : inB n lo hi = true := by simp [inB, h1, h2]
   rw [e1]
   go_enter Try.func23, Try.ntmps23
   go_wp2
   go_ret
   exact ⟨rfl, rfl⟩
  ·
   have e1 : inB n lo hi = false := by simp [inB, h2]
   rw [e1]
   go_enter Try.func23, Try.ntmps23
   go_wp2
   go_ret
   exact ⟨rfl, rfl⟩
 ·
  have e1 : inB n lo hi = false := by simp [inB, h1]
  rw [e1]
  go_enter Try.func23, Try.ntmps23
  go_wp2
  go_ret
  exact ⟨rfl, rfl⟩
theorem toSig_any (t a : Int) (w : World) : Calls Try.prog 25 #[.agg #[.int .i64 t, .int .i64 a]] w fun e w' => e = .returned (.agg #[.int .i64 t, .int .i64 a]) ∧ Below w.heap.size w w' := by
 go_enter Try.func25, Try.ntmps25
 go_wp2
 exact bodyPost_ret (v := .agg #[.int .i64 t, .int .i64 a]) (by simp [results, Try.results25, go_sem]) rfl ⟨rfl, by (repeat' first | exact Below.refl _ _ | assumption | apply Below.alloc | apply Below.drew | apply Below.setCell | omega | (simp; done) | (simp; omega))⟩
theorem l01Sig_any (t a : Int) (w : World) : Calls Try.prog 49 #[.agg #[.int .i64 t, .int .i64 a]] w fun e w' => e = .returned (.bool (sigB t a)) ∧ Below w.heap.size w w' := by
 go_enter Try.func49, Try.ntmps49
 go_wp2_with ((go_at_call 23; ((with_reducible refine (in_any _ _ _ _).mono ?_); rintro e w' ⟨rfl, rfl⟩)))
 all_goals go_ret
 all_goals exact ⟨by simp [sigB, *], by (repeat' first | exact Below.refl _ _ | assumption | apply Below.alloc | apply Below.drew | apply Below.setCell | omega | (simp; done) | (simp; omega))⟩
theorem implValidSig_any (t a : Int) (w : World) : Calls Try.prog 56 #[.agg #[.int .i64 t, .int .i64 a]] w fun e w' => e = .returned (.bool (sigB t a)) ∧ Below w.heap.size w w' := by
 go_enter Try.func56, Try.ntmps56
 go_wp2_with ((go_at_call 29; ((with_reducible refine (within_any _ _ _ _).mono ?_); rintro e w' ⟨rfl, rfl⟩)))
 all_goals go_ret
 all_goals exact ⟨by simp [sigB, *], by (repeat' first | exact Below.refl _ _ | assumption | apply Below.alloc | apply Below.drew | apply Below.setCell | omega | (simp; done) | (simp; omega))⟩
end Go.Proofs.Ytfhlddbngjlhbaa

namespace Go.Proofs.Ytfhlddbngjlhbaa
set_option linter.unusedVariables false
set_option linter.unusedSimpArgs false
open Go.ChangeShapes Go.WideShapes Go.ChangeAt Go.RowKit
def condKind (k : Int) : Bool := decide (k = 1 ∨ k = 2 ∨ k = 3 ∨ k = 5 ∨ k = 6 ∨ k = 7)
mutual
def Ex.cond : Ex → Bool
 | .mk k _ ks => condKind k && Ex.condL ks
def Ex.condL : List Ex → Bool
 | [] => true
 | e :: r => e.cond && Ex.condL r
end
theorem Ex.cond_eq (e : Ex) : e.cond = (condKind e.kind && Ex.condL e.kids) := by cases e; simp only [Ex.cond, Ex.kind, Ex.kids]
theorem Ex.condL_append : ∀ a b : List Ex, Ex.condL (a ++ b) = (Ex.condL a && Ex.condL b)
 | [], b => by simp [Ex.condL]
 | e :: r, b => by simp only [List.cons_append, Ex.condL, Ex.condL_append r b, Bool.and_assoc]
theorem Ex.condL_take_succ {ks : List Ex} {i : Nat} {e : Ex} (h : ks[i]? = some e) : Ex.condL (ks.take (i + 1)) = (Ex.condL (ks.take i) && e.cond) := by
 obtain ⟨hi, rfl⟩ := List.getElem?_eq_some_iff.1 h
 rw [List.take_succ_eq_append_getElem hi, Ex.condL_append]
 simp [Ex.condL]
theorem Ex.condL_false {ks : List Ex} {i : Nat} {e : Ex} (h : ks[i]? = some e) (hc : e.cond = false) : Ex.condL ks = false := by
 have := Ex.condL_append (ks.take (i + 1)) (ks.drop (i + 1))
 rw [List.take_append_drop, Ex.condL_take_succ h, hc] at this
 simpa using this
theorem l01Condition_all (N : Nat) : ∀ (e : Ex) (b o : Nat) (w : World), e.size ≤ N → ExAt w b o e →
  Calls Try.prog 93 #[.pointer (some ⟨b, o, none⟩)] w fun f w' => f = .returned (.bool e.cond) ∧ w = w' := by
 induction N using Nat.strongRecOn with
 | _ N ih =>
 intro e b o w hN hr
 obtain ⟨g0, g1, s, c, g2, g3⟩ := hr
 obtain ⟨-, hlen, hcap, -, -⟩ := kid_at g3
 unfold maxLen at hcap
 have hse := Ex.size_eq e
 have hks : Ex.sizeL e.kids < N := by omega
 clear hse
 by_cases hk : condKind e.kind = true
 ·
  have hc : e.cond = Ex.condL e.kids := by rw [Ex.cond_eq, hk, Bool.true_and]
  have Hc := Lib.hid hc
  have b1 : inB e.kind 1 7 = true := by simp [condKind] at hk; simp [inB]; omega
  have b2 : (e.kind == 4) = false := by simp [condKind] at hk; simp; omega
  clear hc hk
  go_enter Try.func93, Try.ntmps93
  go_wp2_with ((go_at_call 23; ((with_reducible refine (in_any _ _ _ _).mono ?_); rintro e w' ⟨rfl, rfl⟩)))
  go_loop [3] (fun i => ∃ k : Nat, k ≤ e.kids.length ∧ i = .int .i64 k ∧ Ex.condL (e.kids.take k) = true) (fun i => e.kids.length - (intOf i).toNat)
  case atStart => exact ⟨0, by omega, rfl, by simp [Ex.condL]⟩
  case round =>
   obtain ⟨k, hk, rfl, hpre⟩ := hrel
   have Hpre := Lib.hid hpre
   clear hpre
   by_cases hlt : k < e.kids.length
   ·
    obtain ⟨f, hf⟩ : ∃ f, e.kids[k]? = some f := ⟨_, List.getElem?_eq_getElem hlt⟩
    obtain ⟨b', o', rfl⟩ := kid_some g3 (by intro h; simp [h] at hlt)
    have hat := kid_exAt g3 hf
    have hmem := Ex.sizeL_mem (List.mem_of_getElem? hf)
    have Htk := Lib.hid (Ex.condL_take_succ hf)
    have Hfl := Lib.hid (@Ex.condL_false _ _ _ hf)
    go_wp2_with fail
    refine (ih _ (by omega) f _ _ _ (Nat.le_refl _) hat).mono ?_
    rintro x w' ⟨rfl, rfl⟩
    cases hfc : f.cond
    ·
     go_wp2_with fail
     go_ret
     exact ⟨ret_bool (by rw [Hc.out, Hfl.out hfc]), rfl⟩
    ·
     go_wp2_with fail
     go_round
     case rel => exact ⟨k + 1, by omega, by go_num, by rw [Htk.out, Hpre.out, hfc]; rfl⟩
     case measure => simp [intOf]; omega
   ·
    obtain rfl : k = e.kids.length := by omega
    go_wp2_with fail
    go_ret
    exact ⟨ret_bool (by have := Hpre.out; rw [List.take_length] at this; rw [Hc.out, this]), rfl⟩
 ·
  have hc : e.cond = false := by rw [Ex.cond_eq]; simp [hk]
  rw [hc]
  by_cases hin : inB e.kind 1 7 = true
  ·
   have b2 : (e.kind == 4) = true := by simp [condKind] at hk; simp [inB] at hin; simp; omega
   clear hk hc
   go_enter Try.func93, Try.ntmps93
   go_wp2_with ((go_at_call 23; ((with_reducible refine (in_any _ _ _ _).mono ?_); rintro e w' ⟨rfl, rfl⟩)))
   go_ret
   exact ⟨rfl, rfl⟩
  ·
   have hin' : inB e.kind 1 7 = false := by simpa using hin
   clear hk hc hin
   go_enter Try.func93, Try.ntmps93
   go_wp2_with ((go_at_call 23; ((with_reducible refine (in_any _ _ _ _).mono ?_); rintro e w' ⟨rfl, rfl⟩)))
   go_ret
   exact ⟨rfl, rfl⟩
end Go.Proofs.Ytfhlddbngjlhbaa

namespace Go.Proofs.Ytfhlddbngjlhbaa
set_option linter.unusedVariables false
set_option linter.unusedSimpArgs false
open Go.ChangeShapes Go.WideShapes Go.ChangeAt Go.RowKit
theorem info_int64 : (Try.prog.info? 2).map (fun i => (i.zero, i.size, i.bytes)) = some (some (.int .i64 0), 1, 8) := by kernel_rfl
end Go.Proofs.Ytfhlddbngjlhbaa

namespace Go.Proofs.Ytfhlddbngjlhbaa
set_option linter.unusedVariables false
set_option linter.unusedSimpArgs false
open Go.ChangeShapes Go.WideShapes Go.ChangeAt Go.RowKit Go.Sort
def atomsN (t : Int) : Int := if t = 0 then 1 else if t = 1 then 2 else if t = 2 then 4 else 8
theorem atomsN_bd (t : Int) : 1 ≤ atomsN t ∧ atomsN t ≤ 8 := by unfold atomsN; split <;> (try split) <;> (try split) <;> omega
def allIn (zs : List Int) (n : Int) : Bool := zs.all fun z => inB z 0 (n - 1)
theorem allIn_take_succ {zs : List Int} {n : Int} {i : Nat} {z : Int} (h : zs[i]? = some z) : allIn (zs.take (i + 1)) n = (allIn (zs.take i) n && inB z 0 (n - 1)) := by
 obtain ⟨hi, rfl⟩ := List.getElem?_eq_some_iff.1 h
 unfold allIn
 rw [List.take_succ_eq_append_getElem hi, List.all_append]
 congr 1
 simp
theorem allIn_false {zs : List Int} {n : Int} {i : Nat} {z : Int} (h : zs[i]? = some z) (hc : inB z 0 (n - 1) = false) : allIn zs n = false := by
 unfold allIn
 rw [List.all_eq_false]
 exact ⟨z, List.mem_of_getElem? h, by simp [hc]⟩
def wordB (t a : Int) (xs ys : List Int) : Bool := sigB t a && decide (ys.length ≤ 10) && decide (xs.length = ys.length + 1) && allIn xs (atomsN t) && allIn ys a
theorem sigB_bd {t a : Int} (h : sigB t a = true) : 0 ≤ t ∧ t ≤ 3 ∧ 0 ≤ a ∧ a ≤ 4 := by
 simp [sigB, inB] at h
 omega
theorem within_B (n lo hi : Int) (w : World) : Calls Try.prog 29 #[.int .i64 n, .int .i64 lo, .int .i64 hi] w fun e w' => e = .returned (.bool (inB n lo hi)) ∧ Below w.heap.size w w' :=
 (within_any n lo hi w).mono fun _ _ ⟨h1, h2⟩ => ⟨h1, below_self h2⟩
theorem in_B (n lo hi : Int) (w : World) : Calls Try.prog 23 #[.int .i64 n, .int .i64 lo, .int .i64 hi] w fun e w' => e = .returned (.bool (inB n lo hi)) ∧ Below w.heap.size w w' :=
 (in_any n lo hi w).mono fun _ _ ⟨h1, h2⟩ => ⟨h1, below_self h2⟩
theorem atomsIn_i {t a : Int} {w : World} (h0 : 0 ≤ t) (h1 : t ≤ 3) : Calls Try.prog 57 #[.agg #[.int .i64 t, .int .i64 a]] w fun e w' => e = .returned (.int .i64 (atomsN t)) ∧ Below w.heap.size w w' := by
 have h : t = 0 ∨ t = 1 ∨ t = 2 ∨ t = 3 := by omega
 rcases h with h | h | h | h
 all_goals
  subst h
  go_enter Try.func57, Try.ntmps57
  go_wp2
  go_ret
  exact ⟨rfl, by (repeat' first | exact Below.refl _ _ | assumption | apply Below.alloc | apply Below.drew | apply Below.setCell | omega | (simp; done) | (simp; omega))⟩
theorem l01Atoms_i {t a : Int} {w : World} (h0 : 0 ≤ t) (h1 : t ≤ 3) : Calls Try.prog 50 #[.agg #[.int .i64 t, .int .i64 a]] w fun e w' => e = .returned (.int .i64 (atomsN t)) ∧ Below w.heap.size w w' := by
 have h : t = 0 ∨ t = 1 ∨ t = 2 ∨ t = 3 := by omega
 rcases h with h | h | h | h
 all_goals
  subst h
  go_enter Try.func50, Try.ntmps50
  go_wp2
  go_ret
  exact ⟨rfl, by (repeat' first | exact Below.refl _ _ | assumption | apply Below.alloc | apply Below.drew | apply Below.setCell | omega | (simp; done) | (simp; omega))⟩
theorem inRange_i {zs : List Int} {s : Option Addr} {c : Nat} {n : Int} {w : World} (hr : Rd w (intsD zs) (.slice s zs.length c)) (h0 : 0 ≤ n) (h1 : n ≤ 100) :
  Calls Try.prog 91 #[.slice s zs.length c, .int .i64 n] w fun e w' => e = .returned (.bool (allIn zs n)) ∧ w = w' := by
 obtain ⟨-, hlen, hcap, -⟩ := hr.sl_at
 unfold maxLen at hcap
 go_enter Try.func91, Try.ntmps91
 go_wp2_with fail
 go_loop [9] (fun i => ∃ k : Nat, k ≤ zs.length ∧ i = .int .i64 k ∧ allIn (zs.take k) n = true) (fun i => zs.length - (intOf i).toNat)
 case atStart => exact ⟨0, by omega, rfl, by simp [allIn]⟩
 case round =>
  obtain ⟨k, hk, rfl, hpre⟩ := hrel
  have Hpre := Lib.hid hpre
  clear hpre
  by_cases hlt : k < zs.length
  ·
   obtain ⟨z, hz⟩ : ∃ e, zs[k]? = some e := ⟨_, List.getElem?_eq_getElem hlt⟩
   obtain ⟨b, o, rfl⟩ := int_some hr (by omega)
   obtain ⟨-, g0⟩ := int_in hr hz
   have Htk := Lib.hid (@allIn_take_succ zs n k z hz)
   have Hfl := Lib.hid (@allIn_false zs n k z hz)
   go_wp2_with ((go_at_call 29; ((with_reducible refine (within_any _ _ _ _).mono ?_); rintro e w' ⟨rfl, rfl⟩)))
   ·
    go_ret
    exact ⟨ret_bool (by rw [Hfl.out (by simp_all)]), rfl⟩
   ·
    go_round
    case rel => exact ⟨k + 1, by omega, by go_num, by rw [Htk.out, Hpre.out]; simp_all⟩
    case measure => simp [intOf]; omega
  ·
   obtain rfl : k = zs.length := by omega
   have c2 : allIn zs n = true := by have := Hpre.out; rwa [List.take_length] at this
   go_wp2_with fail
   go_ret
   exact ⟨by first | rfl | (rw [c2]; rfl), rfl⟩
theorem inRange_B {zs : List Int} {s : Option Addr} {c : Nat} {n : Int} {w : World} (hr : Rd w (intsD zs) (.slice s zs.length c)) (h0 : 0 ≤ n) (h1 : n ≤ 100) :
  Calls Try.prog 91 #[.slice s zs.length c, .int .i64 n] w fun e w' => e = .returned (.bool (allIn zs n)) ∧ Below w.heap.size w w' :=
 (inRange_i hr h0 h1).mono fun _ _ ⟨h1, h2⟩ => ⟨h1, below_self h2⟩
def WdAt (w : World) (b o : Nat) (xs ys : List Int) : Prop := ∃ s c t d, w.cell? ⟨b, o, none⟩ = some (.slice s xs.length c) ∧ w.cell? ⟨b, o + 1, none⟩ = some (.slice t ys.length d) ∧
 Rd w (intsD xs) (.slice s xs.length c) ∧ Rd w (intsD ys) (.slice t ys.length d)
theorem WdAt.below {w w' : World} {b o : Nat} {xs ys : List Int} (h : WdAt w b o xs ys) (hb : Below w.heap.size w w') : WdAt w' b o xs ys := by
 obtain ⟨s, c, t, d, h0, h1, h2, h3⟩ := h
 have hl : b < w.heap.size := World.block_lt_of_cell? w _ h0
 exact ⟨s, c, t, d, (hb.cell (p := ⟨b, o, none⟩) hl).trans h0, (hb.cell (p := ⟨b, o + 1, none⟩) hl).trans h1, h2.below hb, h3.below hb⟩
theorem wrap_of {n : Int} (h0 : -1000000 ≤ n) (h1 : n ≤ 1000000000000000000) : IntKind.i64.wrap n = n := IntWalk.i64_in n (by omega)
set_option maxHeartbeats 1000000 in
theorem l01Word_i {t a : Int} {xs ys : List Int} {b o : Nat} {w : World} (hw : WdAt w b o xs ys) :
  Calls Try.prog 42 #[.agg #[.int .i64 t, .int .i64 a], .pointer (some ⟨b, o, none⟩)] w fun e w' => e = .returned (.bool (wordB t a xs ys)) ∧ Below w.heap.size w w' := by
 have hW := hw
 obtain ⟨s, c, u, d, g0, g1, hr, hr'⟩ := hw
 obtain ⟨-, hlen, hcap, -⟩ := hr.sl_at
 obtain ⟨-, hlen', hcap', -⟩ := hr'.sl_at
 unfold maxLen at hcap hcap'
 have hbl : b < w.heap.size := World.block_lt_of_cell? w _ g0
 go_enter Try.func42, Try.ntmps42
 go_wp2_with fail
 have hW0 := hW.below (Below.alloc (Below.refl _ _) (Nat.le_refl _) (.cells #[.int .i64 t, .int .i64 a] 29))
 have L := Blk.new2 w 29 (.int .i64 t) (.int .i64 a)
 have hB : Below w.heap.size w (w.alloc (.cells #[.int .i64 t, .int .i64 a] 29)) := by (repeat' first | exact Below.refl _ _ | assumption | apply Below.alloc | apply Below.drew | apply Below.setCell | omega | (simp; done) | (simp; omega))
 generalize w.alloc (.cells #[.int .i64 t, .int .i64 a] 29) = w0 at hW0 L hB ⊢
 clear hW g0 g1 hr hr'
 obtain ⟨s, c, u, d, g0, g1, hr, hr'⟩ := hW0
 have gg0 := fun d os => cell_regrown g0 d os
 have gg1 := fun d os => cell_regrown g1 d os
 have gl0 := fun d os => cell_regrown L.c0 d os
 have gl1 := fun d os => cell_regrown L.c1 d os
 cases hs : sigB t a
 ·
  have c2 : wordB t a xs ys = false := by simp [wordB, hs]
  refine Go.wp_region_quiet_below (by kernel_rfl) (by kernel_rfl) ?_
  repeat (first | go_big_quiet_step ((exact Calls.regrown_of (l01Sig_any _ _ _))) | quiet_step ((exact Calls.regrown_of (l01Sig_any _ _ _))))
  refine wpQuiet_nil ?_; intro _ hw'; obtain ⟨⟨dq, osq⟩, hw''⟩ := hw'; subst hw''; have hq := below_regrown w0 dq osq; revert hq; generalize grow (redrawn w0 dq) osq = w1; intro hq
  replace hB := Below.on hB hq hB.size
  clear hq gg0 gg1 gl0 gl1
  go_wp2_with fail
  go_ret
  exact ⟨by first | rfl | (rw [c2]; rfl), hB⟩
 obtain ⟨ht0, ht1, ha0, ha1⟩ := sigB_bd hs
 by_cases h10 : ys.length ≤ 10
 rotate_left
 ·
  have c2 : wordB t a xs ys = false := by simp [wordB, h10]
  have d1 : decide (10 < (ys.length : Int)) = true := by simp; omega
  refine Go.wp_region_quiet_below (by kernel_rfl) (by kernel_rfl) ?_
  repeat (first | go_big_quiet_step ((exact Calls.regrown_of (l01Sig_any _ _ _))) | quiet_step ((exact Calls.regrown_of (l01Sig_any _ _ _))))
  refine wpQuiet_nil ?_; intro _ hw'; obtain ⟨⟨dq, osq⟩, hw''⟩ := hw'; subst hw''; have hq := below_regrown w0 dq osq; revert hq; generalize grow (redrawn w0 dq) osq = w1; intro hq
  replace hB := Below.on hB hq hB.size
  clear hq gg0 gg1 gl0 gl1
  go_wp2_with fail
  go_ret
  exact ⟨by first | rfl | (rw [c2]; rfl), hB⟩
 have d1 : decide (10 < (ys.length : Int)) = false := by simp; omega
 have q1 : IntKind.i64.wrap ((ys.length : Int) + 1) = (ys.length : Int) + 1 := wrap_of (by omega) (by omega)
 by_cases h11 : xs.length = ys.length + 1
 rotate_left
 ·
  have c2 : wordB t a xs ys = false := by simp [wordB, h11]
  have d2 : ((xs.length : Int) != (ys.length : Int) + 1) = true := by simp; omega
  clear h11
  refine Go.wp_region_quiet_below (by kernel_rfl) (by kernel_rfl) ?_
  repeat (first | go_big_quiet_step ((exact Calls.regrown_of (l01Sig_any _ _ _))) | quiet_step ((exact Calls.regrown_of (l01Sig_any _ _ _))))
  refine wpQuiet_nil ?_; intro _ hw'; obtain ⟨⟨dq, osq⟩, hw''⟩ := hw'; subst hw''; have hq := below_regrown w0 dq osq; revert hq; generalize grow (redrawn w0 dq) osq = w1; intro hq
  replace hB := Below.on hB hq hB.size
  clear hq gg0 gg1 gl0 gl1
  go_wp2_with fail
  go_ret
  exact ⟨by first | rfl | (rw [c2]; rfl), hB⟩
 have d2 : ((xs.length : Int) != (ys.length : Int) + 1) = false := by simp [h11]
 have Hc : Hid (wordB t a xs ys = (allIn xs (atomsN t) && allIn ys a)) := by show _ = _; simp [wordB, hs, h10, h11]
 have hxl : xs.length ≤ 11 := by omega
 have hat := atomsN_bd t
 have q2 : IntKind.i64.wrap (atomsN t - 1) = atomsN t - 1 := wrap_of (by omega) (by omega)
 have q3 : IntKind.i64.wrap (a - 1) = a - 1 := wrap_of (by omega) (by omega)
 clear h11
 refine Go.wp_region_quiet_below (by kernel_rfl) (by kernel_rfl) ?_
 repeat (first | go_big_quiet_step ((exact Calls.regrown_of (l01Sig_any _ _ _))) | quiet_step ((exact Calls.regrown_of (l01Sig_any _ _ _))))
 refine wpQuiet_nil ?_; intro _ hw'; obtain ⟨⟨dq, osq⟩, hw''⟩ := hw'; subst hw''; have hq := below_regrown w0 dq osq; revert hq; generalize grow (redrawn w0 dq) osq = w1; intro hq
 have hWE : WdAt w0 b o xs ys := ⟨s, c, u, d, g0, g1, hr, hr'⟩
 replace hWE := hWE.below hq
 replace L := L.below hq
 replace hB := Below.on hB hq hB.size
 clear hq gg0 gg1 gl0 gl1 d1 d2 q1 hs g0 g1 hr hr'
 go_wp2_with fail
 go_loopw [5] (fun i wr => ∃ k : Nat, k ≤ xs.length ∧ i = .int .i64 k ∧ allIn (xs.take k) (atomsN t) = true ∧ WdAt wr b o xs ys ∧ Blk wr w.heap.size 29 [.int .i64 t, .int .i64 a] ∧ Below w.heap.size w wr) (fun i _ => xs.length - (intOf i).toNat)
 case atStart => exact ⟨0, by omega, rfl, by simp [allIn], hWE, L, hB⟩
 case round =>
  clear hWE L hB
  obtain ⟨k, hk, rfl, hpre, hWE, L, hB⟩ := hrel
  have Hpre := Lib.hid hpre
  clear hpre
  have hWE' := hWE
  obtain ⟨s1, c1, u1, d1, g0, g1, hr, hr'⟩ := hWE'
  have hzB := hB.size
  by_cases hlt : k < xs.length
  ·
   obtain ⟨z, hz⟩ : ∃ e, xs[k]? = some e := ⟨_, List.getElem?_eq_getElem hlt⟩
   obtain ⟨p, q, rfl⟩ := int_some hr (by omega)
   obtain ⟨-, gz⟩ := int_in hr hz
   have ha := Int.natCast_nonneg k
   have hb : (k : Int) < (xs.length : Int) := by omega
   have gg0 := fun d os => cell_regrown g0 d os
   have ggz := fun d os => cell_regrown gz d os
   have gl0 := fun d os => cell_regrown L.c0 d os
   have gl1 := fun d os => cell_regrown L.c1 d os
   have Htk := Lib.hid (@allIn_take_succ xs (atomsN t) k z hz)
   have Hfl := Lib.hid (@allIn_false xs (atomsN t) k z hz)
   go_wp2_with fail
   refine Go.wp_region_quiet_below (by kernel_rfl) (by kernel_rfl) ?_
   repeat (first | go_big_quiet_step ((first | exact Calls.regrown_of (l01Atoms_i ht0 ht1) | exact Calls.regrown_of (in_B _ _ _ _))) | quiet_step ((first | exact Calls.regrown_of (l01Atoms_i ht0 ht1) | exact Calls.regrown_of (in_B _ _ _ _))))
   refine wpQuiet_nil ?_; intro _ hw'; obtain ⟨⟨dq, osq⟩, hw''⟩ := hw'; subst hw''; have hq := below_regrown wr dq osq; revert hq; generalize grow (redrawn wr dq) osq = w1; intro hq
   replace hWE := hWE.below hq
   replace L := L.below hq
   replace hB := Below.on hB hq hB.size
   clear hq gg0 ggz gl0 gl1 g0 g1 gz
   cases hz1 : inB z 0 (atomsN t - 1)
   ·
    have c2 : wordB t a xs ys = false := by rw [Hc.out, Hfl.out hz1]; rfl
    simp only [Bool.not_false]
    go_wp2_with fail
    go_ret
    exact ⟨by first | rfl | (rw [c2]; rfl), hB⟩
   ·
    have Hst : Hid (allIn (xs.take (k + 1)) (atomsN t) = true) := by show _ = _; rw [Htk.out, Hpre.out, hz1]; rfl
    simp only [Bool.not_true]
    go_wp2_with fail
    go_roundw
    case rel => exact ⟨k + 1, by omega, by go_num, Hst.out, hWE, L, hB⟩
    case measure => simp [intOf]; omega
  ·
   obtain rfl : k = xs.length := by omega
   have Hx : Hid (allIn xs (atomsN t) = true) := by have := Hpre.out; rw [List.take_length] at this; exact this
   clear Hpre
   go_wp2_with fail
   go_loopw [6] (fun i wr => ∃ k : Nat, k ≤ ys.length ∧ i = .int .i64 k ∧ allIn (ys.take k) a = true ∧ WdAt wr b o xs ys ∧ Blk wr w.heap.size 29 [.int .i64 t, .int .i64 a] ∧ Below w.heap.size w wr) (fun i _ => ys.length - (intOf i).toNat)
   case atStart => exact ⟨0, by omega, rfl, by simp [allIn], hWE, L, hB⟩
   case round =>
    clear hWE L hB g0 g1 hr hr'
    obtain ⟨k, hk, rfl, hpre, hWE, L, hB⟩ := hrel
    have Hpre := Lib.hid hpre
    clear hpre
    have hWE' := hWE
    obtain ⟨s1, c1, u1, d1, g0, g1, hr, hr'⟩ := hWE'
    by_cases hlt : k < ys.length
    ·
     obtain ⟨z, hz⟩ : ∃ e, ys[k]? = some e := ⟨_, List.getElem?_eq_getElem hlt⟩
     obtain ⟨p, q, rfl⟩ := int_some hr' (by omega)
     obtain ⟨-, gz⟩ := int_in hr' hz
     have ha := Int.natCast_nonneg k
     have hb : (k : Int) < (ys.length : Int) := by omega
     have gg1 := fun d os => cell_regrown g1 d os
     have ggz := fun d os => cell_regrown gz d os
     have gl1 := fun d os => cell_regrown L.c1 d os
     have Htk := Lib.hid (@allIn_take_succ ys a k z hz)
     have Hfl := Lib.hid (@allIn_false ys a k z hz)
     go_wp2_with fail
     refine Go.wp_region_quiet_below (by kernel_rfl) (by kernel_rfl) ?_
     repeat (first | go_big_quiet_step ((exact Calls.regrown_of (in_B _ _ _ _))) | quiet_step ((exact Calls.regrown_of (in_B _ _ _ _))))
     refine wpQuiet_nil ?_; intro _ hw'; obtain ⟨⟨dq, osq⟩, hw''⟩ := hw'; subst hw''; have hq := below_regrown wr dq osq; revert hq; generalize grow (redrawn wr dq) osq = w1; intro hq
     replace hWE := hWE.below hq
     replace L := L.below hq
     replace hB := Below.on hB hq hB.size
     clear hq gg1 ggz gl1 g0 g1 gz
     cases hz1 : inB z 0 (a - 1)
     ·
      have c2 : wordB t a xs ys = false := by rw [Hc.out, Hfl.out hz1]; simp
      simp only [Bool.not_false]
      go_wp2_with fail
      go_ret
      exact ⟨by first | rfl | (rw [c2]; rfl), hB⟩
     ·
      have Hst : Hid (allIn (ys.take (k + 1)) a = true) := by show _ = _; rw [Htk.out, Hpre.out, hz1]; rfl
      simp only [Bool.not_true]
      go_wp2_with fail
      go_roundw
      case rel => exact ⟨k + 1, by omega, by go_num, Hst.out, hWE, L, hB⟩
      case measure => simp [intOf]; omega
    ·
     obtain rfl : k = ys.length := by omega
     have c2 : wordB t a xs ys = true := by
      have := Hpre.out
      rw [List.take_length] at this
      rw [Hc.out, Hx.out, this]
      rfl
     go_wp2_with fail
     go_ret
     exact ⟨by first | rfl | (rw [c2]; rfl), hB⟩
def traceB (t a : Int) (xs ys : List Int) : Bool := decide (xs.length = ys.length + 1) && (allIn xs (atomsN t) && allIn ys a)
set_option maxHeartbeats 1000000 in
theorem isTrace_i {t a : Int} {xs ys : List Int} {s u : Option Addr} {c d : Nat} {w : World} (hr : Rd w (intsD xs) (.slice s xs.length c)) (hr' : Rd w (intsD ys) (.slice u ys.length d)) (h10 : ys.length ≤ 100000) (hs : sigB t a = true) :
  Calls Try.prog 74 #[.agg #[.int .i64 t, .int .i64 a], .agg #[.slice s xs.length c, .slice u ys.length d]] w fun e w' => e = .returned (.bool (traceB t a xs ys)) ∧ Below w.heap.size w w' := by
 obtain ⟨ht0, ht1, ha0, ha1⟩ := sigB_bd hs
 obtain ⟨-, hlen, hcap, -⟩ := hr.sl_at
 obtain ⟨-, hlen', hcap', -⟩ := hr'.sl_at
 unfold maxLen at hcap hcap'
 have hat := atomsN_bd t
 have q1 : IntKind.i64.wrap ((ys.length : Int) + 1) = (ys.length : Int) + 1 := wrap_of (by omega) (by omega)
 go_enter Try.func74, Try.ntmps74
 go_wp2_with fail
 have L := (Blk.new2 w 29 (.int .i64 t) (.int .i64 a)).alloc (.cells #[.slice s xs.length c, .slice u ys.length d] 44)
 have M := Blk.new2 (w.alloc (.cells #[.int .i64 t, .int .i64 a] 29)) 44 (.slice s xs.length c) (.slice u ys.length d)
 simp at M
 have hB : Below w.heap.size w ((w.alloc (.cells #[.int .i64 t, .int .i64 a] 29)).alloc (.cells #[.slice s xs.length c, .slice u ys.length d] 44)) := by (repeat' first | exact Below.refl _ _ | assumption | apply Below.alloc | apply Below.drew | apply Below.setCell | omega | (simp; done) | (simp; omega))
 replace hr := (hr.alloc (.cells #[.int .i64 t, .int .i64 a] 29)).alloc (.cells #[.slice s xs.length c, .slice u ys.length d] 44)
 replace hr' := (hr'.alloc (.cells #[.int .i64 t, .int .i64 a] 29)).alloc (.cells #[.slice s xs.length c, .slice u ys.length d] 44)
 generalize (w.alloc (.cells #[.int .i64 t, .int .i64 a] 29)).alloc (.cells #[.slice s xs.length c, .slice u ys.length d] 44) = w0 at L M hB hr hr' ⊢
 have gl0 := fun d os => cell_regrown L.c0 d os
 have gl1 := fun d os => cell_regrown L.c1 d os
 have gm0 := fun d os => cell_regrown M.c0 d os
 have gm1 := fun d os => cell_regrown M.c1 d os
 by_cases h11 : xs.length = ys.length + 1
 ·
  have d2 : ((xs.length : Int) == (ys.length : Int) + 1) = true := by simp [h11]
  have Hc : Hid (traceB t a xs ys = (allIn xs (atomsN t) && allIn ys a)) := by show _ = _; simp [traceB, h11]
  have hb0 : 0 ≤ atomsN t := by omega
  have hb1 : atomsN t ≤ 100 := by omega
  have hb2 : 0 ≤ a := ha0
  have hb3 : a ≤ 100 := by omega
  clear h11
  cases h1 : allIn xs (atomsN t)
  all_goals
   refine Go.wp_region_quiet_below (by kernel_rfl) (by kernel_rfl) ?_
   repeat (first | go_big_quiet_step ((first | (go_at_call 57; exact Calls.regrown_of (atomsIn_i ht0 ht1)) | (go_at_call 91; exact Calls.regrown_of (inRange_B (hr.below (below_regrown _ _ _)) hb0 hb1)) | (go_at_call 91; exact Calls.regrown_of (inRange_B (hr'.below (below_regrown _ _ _)) hb2 hb3)))) | quiet_step (fail))
   refine wpQuiet_nil ?_; intro _ hw'; obtain ⟨⟨dq, osq⟩, hw''⟩ := hw'; subst hw''; have hq := below_regrown w0 dq osq; revert hq; generalize grow (redrawn w0 dq) osq = w1; intro hq
   replace hB := Below.on hB hq hB.size
   clear hq gl0 gl1 gm0 gm1
   go_wp2_with fail
   go_ret
   exact ⟨ret_bool (by rw [Hc.out, h1]; rfl), hB⟩
 ·
  have d2 : ((xs.length : Int) == (ys.length : Int) + 1) = false := by simp; omega
  have c2 : traceB t a xs ys = false := by simp [traceB, h11]
  clear h11
  refine Go.wp_region_quiet_below (by kernel_rfl) (by kernel_rfl) ?_
  repeat (first | go_big_quiet_step (fail) | quiet_step (fail))
  refine wpQuiet_nil ?_; intro _ hw'; obtain ⟨⟨dq, osq⟩, hw''⟩ := hw'; subst hw''; have hq := below_regrown w0 dq osq; revert hq; generalize grow (redrawn w0 dq) osq = w1; intro hq
  replace hB := Below.on hB hq hB.size
  clear hq gl0 gl1 gm0 gm1
  go_wp2_with fail
  go_ret
  exact ⟨by first | rfl | (rw [c2]; rfl), hB⟩
theorem isWord_i {t a : Int} {xs ys : List Int} {s u : Option Addr} {c d : Nat} {w : World} (hr : Rd w (intsD xs) (.slice s xs.length c)) (hr' : Rd w (intsD ys) (.slice u ys.length d)) (hs : sigB t a = true) :
  Calls Try.prog 43 #[.agg #[.int .i64 t, .int .i64 a], .agg #[.slice s xs.length c, .slice u ys.length d]] w fun e w' => e = .returned (.bool (wordB t a xs ys)) ∧ Below w.heap.size w w' := by
 obtain ⟨-, hlen, hcap, -⟩ := hr.sl_at
 obtain ⟨-, hlen', hcap', -⟩ := hr'.sl_at
 unfold maxLen at hcap hcap'
 by_cases h10 : ys.length ≤ 10
 ·
  have Hc : Hid (wordB t a xs ys = traceB t a xs ys) := by show _ = _; simp [wordB, traceB, hs, h10, Bool.and_assoc]
  have d1 : decide ((ys.length : Int) ≤ 10) = true := by simp; omega
  go_enter Try.func43, Try.ntmps43
  go_wp2_with fail
  refine (isTrace_i ((hr.alloc _).alloc _) ((hr'.alloc _).alloc _) (by omega) hs).mono ?_
  rintro x w1 ⟨rfl, hb⟩
  have hB : Below w.heap.size w w1 := Below.on (by (repeat' first | exact Below.refl _ _ | assumption | apply Below.alloc | apply Below.drew | apply Below.setCell | omega | (simp; done) | (simp; omega))) hb (by simp; omega)
  go_wp2_with fail
  go_ret
  exact ⟨ret_bool (by rw [Hc.out]), hB⟩
 ·
  have c2 : wordB t a xs ys = false := by simp [wordB, h10]
  have d1 : decide ((ys.length : Int) ≤ 10) = false := by simp; omega
  rw [c2]
  go_enter Try.func43, Try.ntmps43
  go_wp2_with fail
  go_ret
  exact ⟨rfl, by (repeat' first | exact Below.refl _ _ | assumption | apply Below.alloc | apply Below.drew | apply Below.setCell | omega | (simp; done) | (simp; omega))⟩
end Go.Proofs.Ytfhlddbngjlhbaa

namespace Go.Proofs.Ytfhlddbngjlhbaa
set_option linter.unusedVariables false
set_option linter.unusedSimpArgs false
open Go.ChangeShapes Go.WideShapes Go.ChangeAt Go.RowKit Go.Sort
mutual
def Ex.depth : Ex → Nat
 | .mk _ _ ks => 1 + Ex.depthL ks
def Ex.depthL : List Ex → Nat
 | [] => 0
 | e :: r => max e.depth (Ex.depthL r)
end
theorem Ex.depth_eq (e : Ex) : e.depth = 1 + Ex.depthL e.kids := by cases e; simp only [Ex.depth, Ex.kids]
theorem Ex.depthL_append : ∀ a b : List Ex, Ex.depthL (a ++ b) = max (Ex.depthL a) (Ex.depthL b)
 | [], b => by simp [Ex.depthL]
 | e :: r, b => by simp only [List.cons_append, Ex.depthL, Ex.depthL_append r b]; omega
theorem Ex.depthL_take_succ {ks : List Ex} {i : Nat} {e : Ex} (h : ks[i]? = some e) : Ex.depthL (ks.take (i + 1)) = max (Ex.depthL (ks.take i)) e.depth := by
 obtain ⟨hi, rfl⟩ := List.getElem?_eq_some_iff.1 h
 rw [List.take_succ_eq_append_getElem hi, Ex.depthL_append]
 simp [Ex.depthL]
mutual
theorem Ex.depth_le : ∀ e : Ex, e.depth ≤ e.size
 | .mk _ _ ks => by simp only [Ex.depth, Ex.size]; have := Ex.depthL_le ks; omega
theorem Ex.depthL_le : ∀ ks : List Ex, Ex.depthL ks ≤ Ex.sizeL ks
 | [] => by simp [Ex.depthL, Ex.sizeL]
 | e :: r => by simp only [Ex.depthL, Ex.sizeL]; have := Ex.depth_le e; have := Ex.depthL_le r; omega
end
def kidsN (k : Int) : Int := if k = 1 ∨ k = 2 ∨ k = 3 ∨ k = 4 then 0 else if k = 5 ∨ k = 8 then 1 else if k = 6 ∨ k = 7 then 2 else -1
def numB (tm am k n : Int) : Bool := if k = 3 then inB n 0 tm else if k = 4 then inB n 0 am else n == 0
def nodeB (tm am k n : Int) (ks : List Ex) : Bool := (kidsN k == (ks.length : Int)) && numB tm am k n && (k != 5 || Ex.condL ks)
mutual
def Ex.tree (tm am : Int) : Ex → Bool
 | .mk k n ks => nodeB tm am k n ks && Ex.treeL tm am ks
def Ex.treeL (tm am : Int) : List Ex → Bool
 | [] => true
 | e :: r => Ex.tree tm am e && Ex.treeL tm am r
end
theorem Ex.tree_eq (tm am : Int) (e : Ex) : e.tree tm am = (nodeB tm am e.kind e.num e.kids && Ex.treeL tm am e.kids) := by cases e; simp only [Ex.tree, Ex.kind, Ex.num, Ex.kids]
theorem Ex.treeL_append (tm am : Int) : ∀ a b : List Ex, Ex.treeL tm am (a ++ b) = (Ex.treeL tm am a && Ex.treeL tm am b)
 | [], b => by simp [Ex.treeL]
 | e :: r, b => by simp only [List.cons_append, Ex.treeL, Ex.treeL_append tm am r b, Bool.and_assoc]
theorem Ex.treeL_take_succ {tm am : Int} {ks : List Ex} {i : Nat} {e : Ex} (h : ks[i]? = some e) : Ex.treeL tm am (ks.take (i + 1)) = (Ex.treeL tm am (ks.take i) && e.tree tm am) := by
 obtain ⟨hi, rfl⟩ := List.getElem?_eq_some_iff.1 h
 rw [List.take_succ_eq_append_getElem hi, Ex.treeL_append]
 simp [Ex.treeL]
theorem Ex.treeL_false {tm am : Int} {ks : List Ex} {i : Nat} {e : Ex} (h : ks[i]? = some e) (hc : e.tree tm am = false) : Ex.treeL tm am ks = false := by
 have := Ex.treeL_append tm am (ks.take (i + 1)) (ks.drop (i + 1))
 rw [List.take_append_drop, Ex.treeL_take_succ h, hc] at this
 simpa using this
def leftF (n : Nat) (left : Int) : Int := if (n : Int) ≤ left then left - n else -1
theorem leftF_pos {n : Nat} {left : Int} (h : 0 ≤ leftF n left) : (n : Int) ≤ left ∧ leftF n left = left - n := by
 unfold leftF at h ⊢
 split at h
 ·
  rename_i hh; exact ⟨hh, by rw [if_pos hh]⟩
 ·
  omega
theorem leftF_neg {n : Nat} {left : Int} (h : ¬ 0 ≤ leftF n left) : left < (n : Int) ∧ leftF n left = -1 := by
 unfold leftF at h ⊢
 split at h
 ·
  omega
 ·
  rename_i hh; exact ⟨by omega, by rw [if_neg hh]⟩
theorem l01Left_all (N : Nat) : ∀ (e : Ex) (b o : Nat) (left : Int) (w : World), e.size ≤ N → ExAt w b o e → 0 ≤ left → left ≤ 1000000 →
  Calls Try.prog 80 #[.pointer (some ⟨b, o, none⟩), .int .i64 left] w fun f w' => f = .returned (.int .i64 (leftF e.size left)) ∧ w = w' := by
 induction N using Nat.strongRecOn with
 | _ N ih =>
 intro e b o left w hN hr h0 h1
 obtain ⟨_, _, s, c, g2, g3⟩ := hr
 obtain ⟨-, hlen, hcap, -, -⟩ := kid_at g3
 unfold maxLen at hcap
 have hse := Ex.size_eq e
 have hks : Ex.sizeL e.kids < N := by omega
 have Hse := Lib.hid hse
 clear hse
 go_enter Try.func80, Try.ntmps80
 go_wp2_with fail
 go_loop [1, 5] (fun l i => ∃ k : Nat, k ≤ e.kids.length ∧ i = .int .i64 k ∧ l = .int .i64 (leftF (1 + Ex.sizeL (e.kids.take k)) left)) (fun _ i => e.kids.length - (intOf i).toNat)
 case atStart => exact ⟨0, by omega, rfl, by congr 1; simp [Ex.sizeL, leftF]; omega⟩
 case round =>
  obtain ⟨k, hk, rfl, rfl⟩ := hrel
  by_cases hlt : k < e.kids.length
  ·
   by_cases hpos : 0 ≤ leftF (1 + Ex.sizeL (e.kids.take k)) left
   ·
    obtain ⟨p1, p2⟩ := leftF_pos hpos
    have hd : decide (0 ≤ leftF (1 + Ex.sizeL (e.kids.take k)) left) = true := by simpa using hpos
    obtain ⟨f, hf⟩ : ∃ f, e.kids[k]? = some f := ⟨_, List.getElem?_eq_getElem hlt⟩
    obtain ⟨b', o', rfl⟩ := kid_some g3 (by intro h; simp [h] at hlt)
    have hat := kid_exAt g3 hf
    have hltN : f.size < N := by
     have := Ex.sizeL_mem (List.mem_of_getElem? hf)
     omega
    have Hst : Hid (leftF f.size (leftF (1 + Ex.sizeL (e.kids.take k)) left) = leftF (1 + Ex.sizeL (e.kids.take (k + 1))) left) := by
     show _ = _
     rw [p2, Ex.sizeL_take_succ hf]
     unfold leftF
     by_cases hh : (f.size : Int) ≤ left - ((1 + Ex.sizeL (e.kids.take k) : Nat) : Int)
     ·
      rw [if_pos hh, if_pos (by omega)]; omega
     ·
      rw [if_neg hh, if_neg (by omega)]
    have hle : leftF (1 + Ex.sizeL (e.kids.take k)) left ≤ 1000000 := by omega
    clear p2 p1
    go_wp2_with fail
    refine (ih _ hltN f _ _ _ _ (Nat.le_refl _) hat hpos hle).mono ?_
    rintro x w' ⟨rfl, rfl⟩
    rw [Hst.out]
    go_wp2_with fail
    go_round
    case rel => exact ⟨k + 1, by omega, by go_num, rfl⟩
    case measure => simp [intOf]; omega
   ·
    obtain ⟨p1, p2⟩ := leftF_neg hpos
    have hd : decide (0 ≤ leftF (1 + Ex.sizeL (e.kids.take k)) left) = false := by simpa using hpos
    have Hst : Hid (leftF (1 + Ex.sizeL (e.kids.take k)) left = leftF e.size left) := by
     show _ = _
     rw [p2]
     have := Ex.sizeL_take_le e.kids k
     have := Hse.out
     unfold leftF
     rw [if_neg (by omega)]
    clear p2 hpos
    go_wp2_with fail
    go_ret
    exact ⟨ret_int Hst.out, rfl⟩
  ·
   obtain rfl : k = e.kids.length := by omega
   go_wp2_with fail
   go_ret
   exact ⟨ret_int (by rw [Hse.out]), rfl⟩
theorem l00Max_i {a b : Int} {w : World} : Calls Try.prog 71 #[.int .i64 a, .int .i64 b] w fun e w' => e = .returned (.int .i64 (max a b)) ∧ w = w' := by
 by_cases h : b < a
 ·
  go_enter Try.func71, Try.ntmps71
  go_wp2_with fail
  go_ret
  exact ⟨ret_int (by omega), rfl⟩
 ·
  go_enter Try.func71, Try.ntmps71
  go_wp2_with fail
  go_ret
  exact ⟨ret_int (by omega), rfl⟩
theorem l01Depth_all (N : Nat) : ∀ (e : Ex) (b o : Nat) (w : World), e.size ≤ N → ExAt w b o e → e.size ≤ 1073741824 →
  Calls Try.prog 81 #[.pointer (some ⟨b, o, none⟩)] w fun f w' => f = .returned (.int .i64 e.depth) ∧ w = w' := by
 induction N using Nat.strongRecOn with
 | _ N ih =>
 intro e b o w hN hr h1
 obtain ⟨_, _, s, c, g2, g3⟩ := hr
 obtain ⟨-, hlen, hcap, -, -⟩ := kid_at g3
 unfold maxLen at hcap
 have hse := Ex.size_eq e
 have hks : Ex.sizeL e.kids < N := by omega
 have hks' : Ex.sizeL e.kids ≤ 1073741824 := by omega
 have Hde := Lib.hid (Ex.depth_eq e)
 clear hse
 go_enter Try.func81, Try.ntmps81
 go_wp2_with fail
 go_loop [3, 4] (fun n i => ∃ k : Nat, k ≤ e.kids.length ∧ i = .int .i64 k ∧ n = .int .i64 (Ex.depthL (e.kids.take k) : Nat)) (fun _ i => e.kids.length - (intOf i).toNat)
 case atStart => exact ⟨0, by omega, rfl, by simp [Ex.depthL]⟩
 case round =>
  obtain ⟨k, hk, rfl, rfl⟩ := hrel
  have hdl := Ex.depthL_le (e.kids.take k)
  have hsl := Ex.sizeL_take_le e.kids k
  by_cases hlt : k < e.kids.length
  ·
   obtain ⟨f, hf⟩ : ∃ f, e.kids[k]? = some f := ⟨_, List.getElem?_eq_getElem hlt⟩
   obtain ⟨b', o', rfl⟩ := kid_some g3 (by intro h; simp [h] at hlt)
   have hat := kid_exAt g3 hf
   have hmem := Ex.sizeL_mem (List.mem_of_getElem? hf)
   have Htk := Lib.hid (Ex.depthL_take_succ hf)
   go_wp2_with fail
   refine (ih _ (by omega) f _ _ _ (Nat.le_refl _) hat (by omega)).mono ?_
   rintro x w' ⟨rfl, rfl⟩
   go_wp2_with fail
   refine (l00Max_i).mono ?_
   rintro x w' ⟨rfl, rfl⟩
   go_wp2_with fail
   go_round
   case rel => exact ⟨k + 1, by omega, by go_num, by rw [Htk.out]; congr 1; omega⟩
   case measure => simp [intOf]; omega
  ·
   obtain rfl : k = e.kids.length := by omega
   rw [List.take_length] at hdl hsl
   go_wp2_with fail
   go_ret
   exact ⟨ret_int (by rw [Hde.out]; simp; omega), rfl⟩
theorem l01Kids_i {k : Int} {w : World} : Calls Try.prog 92 #[.int .i64 k] w fun e w' => e = .returned (.int .i64 (kidsN k)) ∧ w = w' := by
 have h : k = 1 ∨ k = 2 ∨ k = 3 ∨ k = 4 ∨ k = 5 ∨ k = 6 ∨ k = 7 ∨ k = 8 ∨ (k < 1 ∨ 8 < k) := by omega
 rcases h with h | h | h | h | h | h | h | h | h
 case inr.inr.inr.inr.inr.inr.inr.inr =>
  have t1 : (k == 1) = false := by simp; omega
  have t2 : (k == 2) = false := by simp; omega
  have t3 : (k == 3) = false := by simp; omega
  have t4 : (k == 4) = false := by simp; omega
  have t5 : (k == 5) = false := by simp; omega
  have t6 : (k == 6) = false := by simp; omega
  have t7 : (k == 7) = false := by simp; omega
  have t8 : (k == 8) = false := by simp; omega
  have e1 : kidsN k = -1 := by unfold kidsN; rw [if_neg (by omega), if_neg (by omega), if_neg (by omega)]
  rw [e1]
  clear h
  go_enter Try.func92, Try.ntmps92
  go_wp2_with fail
  go_ret
  exact ⟨rfl, rfl⟩
 all_goals
  subst h
  go_enter Try.func92, Try.ntmps92
  go_wp2_with fail
  go_ret
  exact ⟨rfl, rfl⟩
end Go.Proofs.Ytfhlddbngjlhbaa
