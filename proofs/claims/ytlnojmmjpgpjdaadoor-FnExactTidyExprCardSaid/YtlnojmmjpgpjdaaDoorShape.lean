/-
  The form of an expression: nodes left, depth, the table's form. Plain functions; spec.l01Left, l01Depth, l01Kids, impl.kidsOf.
-/
import Derived.Test.YtlnojmmjpgpjdaaDoorCond
import Derived.Test.YtlnojmmjpgpjdaaDoorTrace
namespace Go.Proofs.YtlnojmmjpgpjdaaDoor
open Go.ChangeShapes Go.WideShapes Go.ChangeAt Go.RowKit Go.Sort

mutual
def Ex.depth : Ex → Nat
  | .mk _ _ ks => 1 + Ex.depthL ks
def Ex.depthL : List Ex → Nat
  | [] => 0
  | e :: r => max e.depth (Ex.depthL r)
end
theorem Ex.depth_eq (e : Ex) : e.depth = 1 + Ex.depthL e.kids := by cases e; simp only [Ex.depth, Ex.kids]
theorem Ex.depthL_append : ∀ a b : List Ex, Ex.depthL (a ++ b) = max (Ex.depthL a) (Ex.depthL b)
  | [], b => by simp [Ex.depthL]
  | e :: r, b => by simp only [List.cons_append, Ex.depthL, Ex.depthL_append r b]; omega
theorem Ex.depthL_take_succ {ks : List Ex} {i : Nat} {e : Ex} (h : ks[i]? = some e) : Ex.depthL (ks.take (i + 1)) = max (Ex.depthL (ks.take i)) e.depth := by
  obtain ⟨hi, rfl⟩ := List.getElem?_eq_some_iff.1 h
  rw [List.take_succ_eq_append_getElem hi, Ex.depthL_append]
  simp [Ex.depthL]
theorem Ex.depthL_mem : ∀ {ks : List Ex} {e : Ex}, e ∈ ks → e.depth ≤ Ex.depthL ks
  | [], _, h => by simp at h
  | e0 :: r, e, h => by
    simp only [Ex.depthL]
    rcases List.mem_cons.1 h with rfl | h
    · omega
    · have := Ex.depthL_mem h
      omega
mutual
theorem Ex.depth_le : ∀ e : Ex, e.depth ≤ e.size
  | .mk _ _ ks => by simp only [Ex.depth, Ex.size]; have := Ex.depthL_le ks; omega
theorem Ex.depthL_le : ∀ ks : List Ex, Ex.depthL ks ≤ Ex.sizeL ks
  | [] => by simp [Ex.depthL, Ex.sizeL]
  | e :: r => by simp only [Ex.depthL, Ex.sizeL]; have := Ex.depth_le e; have := Ex.depthL_le r; omega
end

/-- The number of kids of a kind, -1 for no kind. -/
def kidsN (k : Int) : Int := if k = 1 ∨ k = 2 ∨ k = 3 ∨ k = 4 then 0 else if k = 5 ∨ k = 8 then 1 else if k = 6 ∨ k = 7 then 2 else -1
/-- One node has the form of the table; the bounds are those of Num. -/
def numB (tm am k n : Int) : Bool := if k = 3 then inB n 0 tm else if k = 4 then inB n 0 am else n == 0
def nodeB (tm am k n : Int) (ks : List Ex) : Bool := (kidsN k == (ks.length : Int)) && numB tm am k n && (k != 5 || Ex.condL ks)
mutual
def Ex.tree (tm am : Int) : Ex → Bool
  | .mk k n ks => nodeB tm am k n ks && Ex.treeL tm am ks
def Ex.treeL (tm am : Int) : List Ex → Bool
  | [] => true
  | e :: r => Ex.tree tm am e && Ex.treeL tm am r
end
theorem Ex.tree_eq (tm am : Int) (e : Ex) : e.tree tm am = (nodeB tm am e.kind e.num e.kids && Ex.treeL tm am e.kids) := by cases e; simp only [Ex.tree, Ex.kind, Ex.num, Ex.kids]
theorem Ex.treeL_append (tm am : Int) : ∀ a b : List Ex, Ex.treeL tm am (a ++ b) = (Ex.treeL tm am a && Ex.treeL tm am b)
  | [], b => by simp [Ex.treeL]
  | e :: r, b => by simp only [List.cons_append, Ex.treeL, Ex.treeL_append tm am r b, Bool.and_assoc]
theorem Ex.treeL_take_succ {tm am : Int} {ks : List Ex} {i : Nat} {e : Ex} (h : ks[i]? = some e) : Ex.treeL tm am (ks.take (i + 1)) = (Ex.treeL tm am (ks.take i) && e.tree tm am) := by
  obtain ⟨hi, rfl⟩ := List.getElem?_eq_some_iff.1 h
  rw [List.take_succ_eq_append_getElem hi, Ex.treeL_append]
  simp [Ex.treeL]
theorem Ex.treeL_false {tm am : Int} {ks : List Ex} {i : Nat} {e : Ex} (h : ks[i]? = some e) (hc : e.tree tm am = false) : Ex.treeL tm am ks = false := by
  have := Ex.treeL_append tm am (ks.take (i + 1)) (ks.drop (i + 1))
  rw [List.take_append_drop, Ex.treeL_take_succ h, hc] at this
  simpa using this

/-- What is left of a number behind n nodes, -1 if they are more. -/
def leftF (n : Nat) (left : Int) : Int := if (n : Int) ≤ left then left - n else -1
theorem leftF_pos {n : Nat} {left : Int} (h : 0 ≤ leftF n left) : (n : Int) ≤ left ∧ leftF n left = left - n := by
  unfold leftF at h ⊢
  split at h
  · rename_i hh; exact ⟨hh, by rw [if_pos hh]⟩
  · omega
theorem leftF_neg {n : Nat} {left : Int} (h : ¬ 0 ≤ leftF n left) : left < (n : Int) ∧ leftF n left = -1 := by
  unfold leftF at h ⊢
  split at h
  · omega
  · rename_i hh; exact ⟨by omega, by rw [if_neg hh]⟩

theorem l01Left_all (N : Nat) : ∀ (e : Ex) (b o : Nat) (left : Int) (w : World), e.size ≤ N → ExAt w b o e → 0 ≤ left → left ≤ 1000000 →
    Calls Tryd.prog 66 #[.pointer (some ⟨b, o, none⟩), .int .i64 left] w fun f w' => f = .returned (.int .i64 (leftF e.size left)) ∧ w = w' := by
  induction N using Nat.strongRecOn with
  | _ N ih =>
  intro e b o left w hN hr h0 h1
  obtain ⟨_, _, s, c, g2, g3⟩ := hr
  obtain ⟨-, hlen, hcap, -, -⟩ := kid_at g3
  unfold maxLen at hcap
  have hse := Ex.size_eq e
  have hks : Ex.sizeL e.kids < N := by omega
  have Hse := Lib.hid hse
  clear hse
  go_enter Tryd.func66, Tryd.ntmps66
  go_wp2_with fail
  go_loop [1, 5] (fun l i => ∃ k : Nat, k ≤ e.kids.length ∧ i = .int .i64 k ∧ l = .int .i64 (leftF (1 + Ex.sizeL (e.kids.take k)) left)) (fun _ i => e.kids.length - (intOf i).toNat)
  case atStart => exact ⟨0, by omega, rfl, by congr 1; simp [Ex.sizeL, leftF]; omega⟩
  case round =>
    obtain ⟨k, hk, rfl, rfl⟩ := hrel
    by_cases hlt : k < e.kids.length
    · by_cases hpos : 0 ≤ leftF (1 + Ex.sizeL (e.kids.take k)) left
      · obtain ⟨p1, p2⟩ := leftF_pos hpos
        have hd : decide (0 ≤ leftF (1 + Ex.sizeL (e.kids.take k)) left) = true := by simpa using hpos
        obtain ⟨f, hf⟩ : ∃ f, e.kids[k]? = some f := ⟨_, List.getElem?_eq_getElem hlt⟩
        obtain ⟨b', o', rfl⟩ := kid_some g3 (by intro h; simp [h] at hlt)
        have hat := kid_exAt g3 hf
        have hltN : f.size < N := by
          have := Ex.sizeL_mem (List.mem_of_getElem? hf)
          omega
        have Hst : Hid (leftF f.size (leftF (1 + Ex.sizeL (e.kids.take k)) left) = leftF (1 + Ex.sizeL (e.kids.take (k + 1))) left) := by
          show _ = _
          rw [p2, Ex.sizeL_take_succ hf]
          unfold leftF
          by_cases hh : (f.size : Int) ≤ left - ((1 + Ex.sizeL (e.kids.take k) : Nat) : Int)
          · rw [if_pos hh, if_pos (by omega)]; omega
          · rw [if_neg hh, if_neg (by omega)]
        have hle : leftF (1 + Ex.sizeL (e.kids.take k)) left ≤ 1000000 := by omega
        clear p2 p1
        go_wp2_with fail
        refine (ih _ hltN f _ _ _ _ (Nat.le_refl _) hat hpos hle).mono ?_
        rintro x w' ⟨rfl, rfl⟩
        rw [Hst.out]
        go_wp2_with fail
        go_round
        case rel => exact ⟨k + 1, by omega, by go_num, rfl⟩
        case measure => simp [intOf]; omega
      · obtain ⟨p1, p2⟩ := leftF_neg hpos
        have hd : decide (0 ≤ leftF (1 + Ex.sizeL (e.kids.take k)) left) = false := by simpa using hpos
        have Hst : Hid (leftF (1 + Ex.sizeL (e.kids.take k)) left = leftF e.size left) := by
          show _ = _
          rw [p2]
          have := Ex.sizeL_take_le e.kids k
          have := Hse.out
          unfold leftF
          rw [if_neg (by omega)]
        clear p2 hpos
        go_wp2_with fail
        go_ret
        exact ⟨ret_int Hst.out, rfl⟩
    · obtain rfl : k = e.kids.length := by omega
      go_wp2_with fail
      go_ret
      exact ⟨ret_int (by rw [Hse.out]), rfl⟩

theorem l00Max_i {a b : Int} {w : World} : Calls Tryd.prog 88 #[.int .i64 a, .int .i64 b] w fun e w' => e = .returned (.int .i64 (max a b)) ∧ w = w' := by
  by_cases h : b < a
  · go_enter Tryd.func88, Tryd.ntmps88
    go_wp2_with fail
    go_ret
    exact ⟨ret_int (by omega), rfl⟩
  · go_enter Tryd.func88, Tryd.ntmps88
    go_wp2_with fail
    go_ret
    exact ⟨ret_int (by omega), rfl⟩

theorem l01Depth_all (N : Nat) : ∀ (e : Ex) (b o : Nat) (w : World), e.size ≤ N → ExAt w b o e → e.size ≤ 1073741824 →
    Calls Tryd.prog 67 #[.pointer (some ⟨b, o, none⟩)] w fun f w' => f = .returned (.int .i64 e.depth) ∧ w = w' := by
  induction N using Nat.strongRecOn with
  | _ N ih =>
  intro e b o w hN hr h1
  obtain ⟨_, _, s, c, g2, g3⟩ := hr
  obtain ⟨-, hlen, hcap, -, -⟩ := kid_at g3
  unfold maxLen at hcap
  have hse := Ex.size_eq e
  have hks : Ex.sizeL e.kids < N := by omega
  have hks' : Ex.sizeL e.kids ≤ 1073741824 := by omega
  have Hde := Lib.hid (Ex.depth_eq e)
  clear hse
  go_enter Tryd.func67, Tryd.ntmps67
  go_wp2_with fail
  go_loop [3, 4] (fun n i => ∃ k : Nat, k ≤ e.kids.length ∧ i = .int .i64 k ∧ n = .int .i64 (Ex.depthL (e.kids.take k) : Nat)) (fun _ i => e.kids.length - (intOf i).toNat)
  case atStart => exact ⟨0, by omega, rfl, by simp [Ex.depthL]⟩
  case round =>
    obtain ⟨k, hk, rfl, rfl⟩ := hrel
    have hdl := Ex.depthL_le (e.kids.take k)
    have hsl := Ex.sizeL_take_le e.kids k
    by_cases hlt : k < e.kids.length
    · obtain ⟨f, hf⟩ : ∃ f, e.kids[k]? = some f := ⟨_, List.getElem?_eq_getElem hlt⟩
      obtain ⟨b', o', rfl⟩ := kid_some g3 (by intro h; simp [h] at hlt)
      have hat := kid_exAt g3 hf
      have hmem := Ex.sizeL_mem (List.mem_of_getElem? hf)
      have Htk := Lib.hid (Ex.depthL_take_succ hf)
      go_wp2_with fail
      refine (ih _ (by omega) f _ _ _ (Nat.le_refl _) hat (by omega)).mono ?_
      rintro x w' ⟨rfl, rfl⟩
      go_wp2_with fail
      refine (l00Max_i).mono ?_
      rintro x w' ⟨rfl, rfl⟩
      go_wp2_with fail
      go_round
      case rel => exact ⟨k + 1, by omega, by go_num, by rw [Htk.out]; congr 1; omega⟩
      case measure => simp [intOf]; omega
    · obtain rfl : k = e.kids.length := by omega
      rw [List.take_length] at hdl hsl
      go_wp2_with fail
      go_ret
      exact ⟨ret_int (by rw [Hde.out]; simp; omega), rfl⟩

theorem l01Kids_i {k : Int} {w : World} : Calls Tryd.prog 89 #[.int .i64 k] w fun e w' => e = .returned (.int .i64 (kidsN k)) ∧ w = w' := by
  have h : k = 1 ∨ k = 2 ∨ k = 3 ∨ k = 4 ∨ k = 5 ∨ k = 6 ∨ k = 7 ∨ k = 8 ∨ (k < 1 ∨ 8 < k) := by omega
  rcases h with h | h | h | h | h | h | h | h | h
  case inr.inr.inr.inr.inr.inr.inr.inr =>
    have t1 : (k == 1) = false := by simp; omega
    have t2 : (k == 2) = false := by simp; omega
    have t3 : (k == 3) = false := by simp; omega
    have t4 : (k == 4) = false := by simp; omega
    have t5 : (k == 5) = false := by simp; omega
    have t6 : (k == 6) = false := by simp; omega
    have t7 : (k == 7) = false := by simp; omega
    have t8 : (k == 8) = false := by simp; omega
    have e1 : kidsN k = -1 := by unfold kidsN; rw [if_neg (by omega), if_neg (by omega), if_neg (by omega)]
    rw [e1]
    clear h
    go_enter Tryd.func89, Tryd.ntmps89
    go_wp2_with fail
    go_ret
    exact ⟨rfl, rfl⟩
  all_goals
    subst h
    go_enter Tryd.func89, Tryd.ntmps89
    go_wp2_with fail
    go_ret
    exact ⟨rfl, rfl⟩

theorem kidsOf_i {k : Int} {w : World} : Calls Tryd.prog 110 #[.int .i64 k] w fun e w' => e = .returned (.int .i64 (kidsN k)) ∧ w = w' := by
  have h : k = 1 ∨ k = 2 ∨ k = 3 ∨ k = 4 ∨ k = 5 ∨ k = 6 ∨ k = 7 ∨ k = 8 ∨ (k < 1 ∨ 8 < k) := by omega
  rcases h with h | h | h | h | h | h | h | h | h
  case inr.inr.inr.inr.inr.inr.inr.inr =>
    have t1 : (k == 1) = false := by simp; omega
    have t2 : (k == 2) = false := by simp; omega
    have t3 : (k == 3) = false := by simp; omega
    have t4 : (k == 4) = false := by simp; omega
    have t5 : (k == 5) = false := by simp; omega
    have t6 : (k == 6) = false := by simp; omega
    have t7 : (k == 7) = false := by simp; omega
    have t8 : (k == 8) = false := by simp; omega
    have e1 : kidsN k = -1 := by unfold kidsN; rw [if_neg (by omega), if_neg (by omega), if_neg (by omega)]
    rw [e1]
    clear h
    go_enter Tryd.func110, Tryd.ntmps110
    go_wp2_with fail
    go_ret
    exact ⟨rfl, rfl⟩
  all_goals
    subst h
    go_enter Tryd.func110, Tryd.ntmps110
    go_wp2_with fail
    go_ret
    exact ⟨rfl, rfl⟩
end Go.Proofs.YtlnojmmjpgpjdaaDoor
