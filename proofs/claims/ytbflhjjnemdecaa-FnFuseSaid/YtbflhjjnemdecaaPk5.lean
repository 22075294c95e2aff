/-
  Parts of a proof, joined: Shaped, Truth, Empty. No condition.
-/
import Derived.Test.YtbflhjjnemdecaaPk4
namespace Go.Proofs.Ytbflhjjnemdecaa
set_option linter.unusedVariables false
set_option linter.unusedSimpArgs false
open Go.ChangeShapes Go.WideShapes Go.ChangeAt Go.RowKit Go.Sort
def shF (tm am : Int) (e : Ex) (n d : Int) : Bool := e.tree tm am && (decide ((e.size : Int) ≤ n) && decide ((e.depth : Int) ≤ d))
theorem shF_true {tm am : Int} {e : Ex} {n d : Int} : shF tm am e n d = true ↔ e.tree tm am = true ∧ (e.size : Int) ≤ n ∧ (e.depth : Int) ≤ d := by simp [shF]
theorem shF_eq {tm am k m : Int} {ks : List Ex} {n d : Int} : shF tm am (.mk k m ks) n d = (nodeB tm am k m ks && (Ex.treeL tm am ks && (decide (((Ex.mk k m ks).size : Int) ≤ n) && decide (((Ex.mk k m ks).depth : Int) ≤ d)))) := by
 simp only [shF, Ex.tree, Bool.and_assoc]
theorem shF_kid {tm am k m : Int} {ks : List Ex} {n d : Int} {i : Nat} {x : Ex} (hx : ks[i]? = some x) (h : shF tm am x (n - 1 - Ex.sizeL (ks.take i)) (d - 1) = false) : shF tm am (.mk k m ks) n d = false := by
 rw [Bool.eq_false_iff] at h ⊢
 intro hc
 apply h
 obtain ⟨h1, h2, h3⟩ := shF_true.1 hc
 simp only [Ex.tree, Ex.size, Ex.depth, Bool.and_eq_true] at h1 h2 h3
 have hm := List.mem_of_getElem? hx
 have g1 := Ex.sizeL_take_succ hx
 have g2 := Ex.sizeL_take_le ks (i + 1)
 have g3 := Ex.depthL_mem hm
 have g4 : x.tree tm am = true := by
  cases hz : x.tree tm am
  ·
   have := @Ex.treeL_false tm am _ _ _ hx hz
   rw [this] at h1
   exact absurd h1.2 (by simp)
  ·
   rfl
 exact shF_true.2 ⟨g4, by omega, by omega⟩
def shV (tm am : Int) (e : Ex) (n d : Int) : Value := if shF tm am e n d = true then .tuple #[.int .i64 (n - e.size), .bool true] else .tuple #[.int .i64 0, .bool false]
theorem shV_true {tm am : Int} {e : Ex} {n d : Int} (h : shF tm am e n d = true) : shV tm am e n d = .tuple #[.int .i64 (n - e.size), .bool true] := by unfold shV; rw [if_pos h]
theorem shV_false {tm am : Int} {e : Ex} {n d : Int} (h : shF tm am e n d = false) : shV tm am e n d = .tuple #[.int .i64 0, .bool false] := by unfold shV; rw [if_neg (by rw [h]; decide)]
set_option maxHeartbeats 4000000 in
theorem shaped_all (t a tm am : Int) (q1 : IntKind.i64.wrap (t - 1) = tm) (q2 : IntKind.i64.wrap (a - 1) = am) (N : Nat) :
  ∀ (k m : Int) (ks : List Ex) (s : Option Addr) (c : Nat) (n d : Int) (w : World), Ex.sizeL ks ≤ N → Rd w (kidsD ks) (.slice s ks.length c) → 0 ≤ n → n ≤ 1000000 → 0 ≤ d → d ≤ 1000000 →
  Calls Try.prog 143 #[.agg #[.int .i64 t, .int .i64 a], .agg #[.int .i64 k, .int .i64 m, .slice s ks.length c], .int .i64 n, .int .i64 d] w fun f w' =>
   f = .returned (shV tm am (.mk k m ks) n d) ∧ Below w.heap.size w w' := by
 induction N using Nat.strongRecOn with
 | _ N ih =>
 intro k m ks s c n d w hN hr hn0 hn1 hd0 hd1
 obtain ⟨-, hlen, hcap, -, -⟩ := kid_at hr
 unfold maxLen at hcap
 go_enter Try.func143, Try.ntmps143
 go_wp2_with fail
 have L := (Blk.new2 w 34 (.int .i64 t) (.int .i64 a)).alloc (.cells #[.int .i64 k, .int .i64 m, .slice s ks.length c] 38)
 have M := Blk.new3 (w.alloc (.cells #[.int .i64 t, .int .i64 a] 34)) 38 (.int .i64 k) (.int .i64 m) (.slice s ks.length c)
 simp at M
 have hB : Below w.heap.size w ((w.alloc (.cells #[.int .i64 t, .int .i64 a] 34)).alloc (.cells #[.int .i64 k, .int .i64 m, .slice s ks.length c] 38)) := by (repeat' first | exact Below.refl _ _ | assumption | apply Below.alloc | apply Below.drew | apply Below.setCell | omega | (simp; done) | (simp; omega))
 generalize (w.alloc (.cells #[.int .i64 t, .int .i64 a] 34)).alloc (.cells #[.int .i64 k, .int .i64 m, .slice s ks.length c] 38) = w0 at L M hB ⊢
 have gg0 := fun d os => cell_regrown M.c0 d os
 have gg1 := fun d os => cell_regrown M.c1 d os
 have gg2 := fun d os => cell_regrown M.c2 d os
 by_cases hz : n = 0
 ·
  have d1 : (n == 0) = true := by simp [hz]
  have C2 : Hid (shV tm am (.mk k m ks) n d = .tuple #[.int .i64 0, .bool false]) := shV_false (by rw [Bool.eq_false_iff]; intro h; have := (shF_true.1 h).2.1; simp only [Ex.size] at this; omega)
  clear hz
  refine Go.wp_region_quiet_below (by kernel_rfl) (by kernel_rfl) ?_
  repeat (first | go_big_quiet_step ((exact Calls.regrown_of ((kidsOf_i).mono fun _ _ ⟨h1, h2⟩ => ⟨h1, below_self h2⟩))) | quiet_step ((exact Calls.regrown_of ((kidsOf_i).mono fun _ _ ⟨h1, h2⟩ => ⟨h1, below_self h2⟩))))
  refine wpQuiet_nil ?_; intro _ hw'; obtain ⟨⟨dq, osq⟩, hw''⟩ := hw'; subst hw''; have hq := below_regrown w0 dq osq; revert hq; generalize grow (redrawn w0 dq) osq = w1; intro hq
  replace hB := Below.on hB hq hB.size
  clear hq gg0 gg1 gg2
  go_wp2_with fail
  exact bodyPost_ret (v := .tuple #[.int .i64 0, .bool false]) (by simp [results, Try.results143, go_sem]) rfl ⟨by rw [C2.out], hB⟩
 have d1 : (n == 0) = false := by simp [hz]
 by_cases hz' : d = 0
 ·
  have d2 : (d == 0) = true := by simp [hz']
  have C2 : Hid (shV tm am (.mk k m ks) n d = .tuple #[.int .i64 0, .bool false]) := shV_false (by rw [Bool.eq_false_iff]; intro h; have := (shF_true.1 h).2.2; simp only [Ex.depth] at this; omega)
  clear hz hz'
  refine Go.wp_region_quiet_below (by kernel_rfl) (by kernel_rfl) ?_
  repeat (first | go_big_quiet_step ((exact Calls.regrown_of ((kidsOf_i).mono fun _ _ ⟨h1, h2⟩ => ⟨h1, below_self h2⟩))) | quiet_step ((exact Calls.regrown_of ((kidsOf_i).mono fun _ _ ⟨h1, h2⟩ => ⟨h1, below_self h2⟩))))
  refine wpQuiet_nil ?_; intro _ hw'; obtain ⟨⟨dq, osq⟩, hw''⟩ := hw'; subst hw''; have hq := below_regrown w0 dq osq; revert hq; generalize grow (redrawn w0 dq) osq = w1; intro hq
  replace hB := Below.on hB hq hB.size
  clear hq gg0 gg1 gg2
  go_wp2_with fail
  exact bodyPost_ret (v := .tuple #[.int .i64 0, .bool false]) (by simp [results, Try.results143, go_sem]) rfl ⟨by rw [C2.out], hB⟩
 have d2 : (d == 0) = false := by simp [hz']
 by_cases hk : kidsN k = (ks.length : Int)
 rotate_left
 ·
  have d3 : (kidsN k != (ks.length : Int)) = true := by simp; omega
  have C2 : Hid (shV tm am (.mk k m ks) n d = .tuple #[.int .i64 0, .bool false]) := shV_false (by rw [shF_eq]; simp [nodeB, hk])
  clear hz hz' hk
  refine Go.wp_region_quiet_below (by kernel_rfl) (by kernel_rfl) ?_
  repeat (first | go_big_quiet_step ((exact Calls.regrown_of ((kidsOf_i).mono fun _ _ ⟨h1, h2⟩ => ⟨h1, below_self h2⟩))) | quiet_step ((exact Calls.regrown_of ((kidsOf_i).mono fun _ _ ⟨h1, h2⟩ => ⟨h1, below_self h2⟩))))
  refine wpQuiet_nil ?_; intro _ hw'; obtain ⟨⟨dq, osq⟩, hw''⟩ := hw'; subst hw''; have hq := below_regrown w0 dq osq; revert hq; generalize grow (redrawn w0 dq) osq = w1; intro hq
  replace hB := Below.on hB hq hB.size
  clear hq gg0 gg1 gg2
  go_wp2_with fail
  exact bodyPost_ret (v := .tuple #[.int .i64 0, .bool false]) (by simp [results, Try.results143, go_sem]) rfl ⟨by rw [C2.out], hB⟩
 have d3 : (kidsN k != (ks.length : Int)) = false := by simp [hk]
 have Hk := Lib.hid hk
 clear hk
 refine Go.wp_region_quiet_below (by kernel_rfl) (by kernel_rfl) ?_
 repeat (first | go_big_quiet_step ((exact Calls.regrown_of ((kidsOf_i).mono fun _ _ ⟨h1, h2⟩ => ⟨h1, below_self h2⟩))) | quiet_step ((exact Calls.regrown_of ((kidsOf_i).mono fun _ _ ⟨h1, h2⟩ => ⟨h1, below_self h2⟩))))
 refine wpQuiet_nil ?_; intro _ hw'; obtain ⟨⟨dq, osq⟩, hw''⟩ := hw'; subst hw''; have hq := below_regrown w0 dq osq; revert hq; generalize grow (redrawn w0 dq) osq = w1; intro hq
 replace hB := Below.on hB hq hB.size
 replace L := L.below hq
 replace M := M.below hq
 clear hq gg0 gg1 gg2 d1 d2 d3
 have l0 := L.c0
 have l1 := L.c1
 have m0 := M.c0
 have m1 := M.c1
 have m2 := M.c2
 have lM := M.lt
 by_cases h3 : k = 3
 ·
  have t3 : (k == 3) = true := by simp [h3]
  have t5 : (k == 5) = false := by simp [h3]
  have Hin : Hid (numB tm am k m = inB m 0 tm) := by show _ = _; unfold numB; rw [if_pos h3]
  have Hn0 : Hid (inB m 0 tm = true → nodeB tm am k m ks = true) := by
   intro h
   have := Hk.out
   unfold nodeB
   rw [Hin.out, h, this]
   simp [h3]
  clear h3
  go_wp2_with fail
  refine (within_any _ _ _ _).mono ?_
  rintro y w1 ⟨rfl, rfl⟩
  cases hin : inB m 0 tm
  ·
   have C2 : Hid (shV tm am (.mk k m ks) n d = .tuple #[.int .i64 0, .bool false]) := shV_false (by rw [shF_eq]; simp [nodeB, Hin.out, hin])
   go_wp2_with fail
   exact bodyPost_ret (v := .tuple #[.int .i64 0, .bool false]) (by simp [results, Try.results143, go_sem]) rfl ⟨by rw [C2.out], hB⟩
  ·
   have Hn := Lib.hid (Hn0.out hin)
   clear hin Hn0 Hin
   go_wp2_with fail
   go_loopw [2, 68] (fun l i wr => ∃ j : Nat, j ≤ ks.length ∧ i = .int .i64 j ∧ l = .int .i64 (n - 1 - Ex.sizeL (ks.take j)) ∧ Ex.treeL tm am (ks.take j) = true ∧ (Ex.depthL (ks.take j) : Int) ≤ d - 1 ∧ (Ex.sizeL (ks.take j) : Int) ≤ n - 1 ∧ Blk wr w.heap.size 34 [.int .i64 t, .int .i64 a] ∧ Below w.heap.size w wr) (fun _ i _ => ks.length - (intOf i).toNat)
   case atStart => exact ⟨0, by omega, rfl, by congr 1; simp [Ex.sizeL], by simp [Ex.treeL], by simp [Ex.depthL]; omega, by simp [Ex.sizeL]; omega, L, hB⟩
   case round =>
    clear hB L l0 l1 m0 m1 m2 M
    obtain ⟨j, hj, rfl, rfl, hpre, hdp, hszp, L, hB⟩ := hrel
    have l0 := L.c0
    have l1 := L.c1
    have lL := L.lt
    have hzB := hB.size
    have Hpre := Lib.hid hpre
    clear hpre
    by_cases hlt : j < ks.length
    ·
     obtain ⟨x, hx⟩ : ∃ z, ks[j]? = some z := ⟨_, List.getElem?_eq_getElem hlt⟩
     obtain ⟨b', o', rfl⟩ := kid_some hr (by intro h; simp [h] at hlt)
     obtain ⟨-, s', c', g0, g1, g2, gr⟩ := kid_in (hr.below hB) hx
     have hN' : Ex.sizeL x.kids < N := by
      have := Ex.sizeL_mem (List.mem_of_getElem? hx)
      have := Ex.size_eq x
      omega
     have Het : Hid (Ex.mk x.kind x.num x.kids = x) := (Ex.eta x).symm
     have Htk := Lib.hid (@Ex.treeL_take_succ tm am _ _ _ hx)
     have Hsk := Lib.hid (Ex.sizeL_take_succ hx)
     have Hdk := Lib.hid (Ex.depthL_take_succ hx)
     have Hbad : Hid (shF tm am x (n - 1 - Ex.sizeL (ks.take j)) (d - 1) = false → shV tm am (.mk k m ks) n d = .tuple #[.int .i64 0, .bool false]) := fun h => shV_false (shF_kid hx h)
     have hn0 : 0 ≤ n - 1 - Ex.sizeL (ks.take j) := by omega
     have hd0 : 0 ≤ d - 1 := by omega
     go_wp2_with fail
     refine (ih _ hN' x.kind x.num x.kids _ _ (n - 1 - Ex.sizeL (ks.take j)) (d - 1) _ (Nat.le_refl _) (gr.alloc _) hn0 (by omega) hd0 (by omega)).mono ?_
     rintro y w1 ⟨rfl, hb⟩
     have hB1 : Below w.heap.size w w1 := Below.on (by (repeat' first | exact Below.refl _ _ | assumption | apply Below.alloc | apply Below.drew | apply Below.setCell | omega | (simp; done) | (simp; omega))) hb (by simp; omega)
     have L1 := (L.alloc (.cells #[.int .i64 x.kind, .int .i64 x.num, .slice s' x.kids.length c'] 38)).below hb
     clear hb
     rw [Het.out]
     cases hfc : shF tm am x (n - 1 - Ex.sizeL (ks.take j)) (d - 1)
     ·
      have C2 := Lib.hid (Hbad.out hfc)
      rw [shV_false hfc]
      clear Hbad Htk Hsk Hdk hfc
      replace hB := hB1
      go_wp2_with fail
      exact bodyPost_ret (v := .tuple #[.int .i64 0, .bool false]) (by simp [results, Try.results143, go_sem]) rfl ⟨by rw [C2.out], hB⟩
     ·
      have hfc' := shF_true.1 hfc
      rw [shV_true hfc]
      have Hrel : Hid (Ex.treeL tm am (ks.take (j + 1)) = true ∧ (Ex.depthL (ks.take (j + 1)) : Int) ≤ d - 1 ∧ (Ex.sizeL (ks.take (j + 1)) : Int) ≤ n - 1 ∧ n - 1 - (Ex.sizeL (ks.take j) : Int) - x.size = n - 1 - (Ex.sizeL (ks.take (j + 1)) : Nat)) := by
       obtain ⟨i1, i2, i3⟩ := hfc'
       have i4 := Hsk.out
       have i5 := Hdk.out
       exact ⟨by rw [Htk.out, Hpre.out, i1]; rfl, by omega, by omega, by omega⟩
      have Heq : Hid (n - 1 - (Ex.sizeL (ks.take j) : Int) - x.size = n - 1 - (Ex.sizeL (ks.take (j + 1)) : Nat)) := Hrel.out.2.2.2
      clear Hbad Htk Hsk Hdk hfc hfc'
      rw [Heq.out]
      go_wp2_with fail
      go_roundw
      case rel => exact ⟨j + 1, by omega, by go_num, rfl, Hrel.out.1, Hrel.out.2.1, Hrel.out.2.2.1, L1, hB1⟩
      case measure => simp [intOf]; omega
    ·
     obtain rfl : j = ks.length := by omega
     have C2 : Hid (shV tm am (.mk k m ks) n d = .tuple #[.int .i64 (n - 1 - (Ex.sizeL (ks.take ks.length) : Nat)), .bool true]) := by
      show _ = _
      have h1 := Hpre.out
      rw [List.take_length] at h1 hdp hszp ⊢
      rw [shV_true (by rw [shF_eq, Hn.out, h1, decide_eq_true (by simp only [Ex.size]; omega), decide_eq_true (by simp only [Ex.depth]; omega)]; rfl)]
      have : n - ((Ex.mk k m ks).size : Int) = n - 1 - (Ex.sizeL ks : Nat) := by simp only [Ex.size]; omega
      rw [this]
     go_wp2_with fail
     exact bodyPost_ret (v := .tuple #[.int .i64 (n - 1 - (Ex.sizeL (ks.take ks.length) : Nat)), .bool true]) (by simp [results, Try.results143, go_sem]) rfl ⟨by rw [C2.out], hB⟩
 have t3 : (k == 3) = false := by simp [h3]
 by_cases h4 : k = 4
 ·
  have t4 : (k == 4) = true := by simp [h4]
  have t5 : (k == 5) = false := by simp [h4]
  have Hin : Hid (numB tm am k m = inB m 0 am) := by show _ = _; unfold numB; rw [if_neg h3, if_pos h4]
  have Hn0 : Hid (inB m 0 am = true → nodeB tm am k m ks = true) := by
   intro h
   have := Hk.out
   unfold nodeB
   rw [Hin.out, h, this]
   simp [h4]
  clear h3 h4
  go_wp2_with fail
  refine (within_any _ _ _ _).mono ?_
  rintro y w1 ⟨rfl, rfl⟩
  cases hin : inB m 0 am
  ·
   have C2 : Hid (shV tm am (.mk k m ks) n d = .tuple #[.int .i64 0, .bool false]) := shV_false (by rw [shF_eq]; simp [nodeB, Hin.out, hin])
   go_wp2_with fail
   exact bodyPost_ret (v := .tuple #[.int .i64 0, .bool false]) (by simp [results, Try.results143, go_sem]) rfl ⟨by rw [C2.out], hB⟩
  ·
   have Hn := Lib.hid (Hn0.out hin)
   clear hin Hn0 Hin
   go_wp2_with fail
   go_loopw [2, 68] (fun l i wr => ∃ j : Nat, j ≤ ks.length ∧ i = .int .i64 j ∧ l = .int .i64 (n - 1 - Ex.sizeL (ks.take j)) ∧ Ex.treeL tm am (ks.take j) = true ∧ (Ex.depthL (ks.take j) : Int) ≤ d - 1 ∧ (Ex.sizeL (ks.take j) : Int) ≤ n - 1 ∧ Blk wr w.heap.size 34 [.int .i64 t, .int .i64 a] ∧ Below w.heap.size w wr) (fun _ i _ => ks.length - (intOf i).toNat)
   case atStart => exact ⟨0, by omega, rfl, by congr 1; simp [Ex.sizeL], by simp [Ex.treeL], by simp [Ex.depthL]; omega, by simp [Ex.sizeL]; omega, L, hB⟩
   case round =>
    clear hB L l0 l1 m0 m1 m2 M
    obtain ⟨j, hj, rfl, rfl, hpre, hdp, hszp, L, hB⟩ := hrel
    have l0 := L.c0
    have l1 := L.c1
    have lL := L.lt
    have hzB := hB.size
    have Hpre := Lib.hid hpre
    clear hpre
    by_cases hlt : j < ks.length
    ·
     obtain ⟨x, hx⟩ : ∃ z, ks[j]? = some z := ⟨_, List.getElem?_eq_getElem hlt⟩
     obtain ⟨b', o', rfl⟩ := kid_some hr (by intro h; simp [h] at hlt)
     obtain ⟨-, s', c', g0, g1, g2, gr⟩ := kid_in (hr.below hB) hx
     have hN' : Ex.sizeL x.kids < N := by
      have := Ex.sizeL_mem (List.mem_of_getElem? hx)
      have := Ex.size_eq x
      omega
     have Het : Hid (Ex.mk x.kind x.num x.kids = x) := (Ex.eta x).symm
     have Htk := Lib.hid (@Ex.treeL_take_succ tm am _ _ _ hx)
     have Hsk := Lib.hid (Ex.sizeL_take_succ hx)
     have Hdk := Lib.hid (Ex.depthL_take_succ hx)
     have Hbad : Hid (shF tm am x (n - 1 - Ex.sizeL (ks.take j)) (d - 1) = false → shV tm am (.mk k m ks) n d = .tuple #[.int .i64 0, .bool false]) := fun h => shV_false (shF_kid hx h)
     have hn0 : 0 ≤ n - 1 - Ex.sizeL (ks.take j) := by omega
     have hd0 : 0 ≤ d - 1 := by omega
     go_wp2_with fail
     refine (ih _ hN' x.kind x.num x.kids _ _ (n - 1 - Ex.sizeL (ks.take j)) (d - 1) _ (Nat.le_refl _) (gr.alloc _) hn0 (by omega) hd0 (by omega)).mono ?_
     rintro y w1 ⟨rfl, hb⟩
     have hB1 : Below w.heap.size w w1 := Below.on (by (repeat' first | exact Below.refl _ _ | assumption | apply Below.alloc | apply Below.drew | apply Below.setCell | omega | (simp; done) | (simp; omega))) hb (by simp; omega)
     have L1 := (L.alloc (.cells #[.int .i64 x.kind, .int .i64 x.num, .slice s' x.kids.length c'] 38)).below hb
     clear hb
     rw [Het.out]
     cases hfc : shF tm am x (n - 1 - Ex.sizeL (ks.take j)) (d - 1)
     ·
      have C2 := Lib.hid (Hbad.out hfc)
      rw [shV_false hfc]
      clear Hbad Htk Hsk Hdk hfc
      replace hB := hB1
      go_wp2_with fail
      exact bodyPost_ret (v := .tuple #[.int .i64 0, .bool false]) (by simp [results, Try.results143, go_sem]) rfl ⟨by rw [C2.out], hB⟩
     ·
      have hfc' := shF_true.1 hfc
      rw [shV_true hfc]
      have Hrel : Hid (Ex.treeL tm am (ks.take (j + 1)) = true ∧ (Ex.depthL (ks.take (j + 1)) : Int) ≤ d - 1 ∧ (Ex.sizeL (ks.take (j + 1)) : Int) ≤ n - 1 ∧ n - 1 - (Ex.sizeL (ks.take j) : Int) - x.size = n - 1 - (Ex.sizeL (ks.take (j + 1)) : Nat)) := by
       obtain ⟨i1, i2, i3⟩ := hfc'
       have i4 := Hsk.out
       have i5 := Hdk.out
       exact ⟨by rw [Htk.out, Hpre.out, i1]; rfl, by omega, by omega, by omega⟩
      have Heq : Hid (n - 1 - (Ex.sizeL (ks.take j) : Int) - x.size = n - 1 - (Ex.sizeL (ks.take (j + 1)) : Nat)) := Hrel.out.2.2.2
      clear Hbad Htk Hsk Hdk hfc hfc'
      rw [Heq.out]
      go_wp2_with fail
      go_roundw
      case rel => exact ⟨j + 1, by omega, by go_num, rfl, Hrel.out.1, Hrel.out.2.1, Hrel.out.2.2.1, L1, hB1⟩
      case measure => simp [intOf]; omega
    ·
     obtain rfl : j = ks.length := by omega
     have C2 : Hid (shV tm am (.mk k m ks) n d = .tuple #[.int .i64 (n - 1 - (Ex.sizeL (ks.take ks.length) : Nat)), .bool true]) := by
      show _ = _
      have h1 := Hpre.out
      rw [List.take_length] at h1 hdp hszp ⊢
      rw [shV_true (by rw [shF_eq, Hn.out, h1, decide_eq_true (by simp only [Ex.size]; omega), decide_eq_true (by simp only [Ex.depth]; omega)]; rfl)]
      have : n - ((Ex.mk k m ks).size : Int) = n - 1 - (Ex.sizeL ks : Nat) := by simp only [Ex.size]; omega
      rw [this]
     go_wp2_with fail
     exact bodyPost_ret (v := .tuple #[.int .i64 (n - 1 - (Ex.sizeL (ks.take ks.length) : Nat)), .bool true]) (by simp [results, Try.results143, go_sem]) rfl ⟨by rw [C2.out], hB⟩
 have t4 : (k == 4) = false := by simp [h4]
 have Hin : Hid (numB tm am k m = (m == 0)) := by show _ = _; unfold numB; rw [if_neg h3, if_neg h4]
 by_cases h0 : m = 0
 rotate_left
 ·
  have t0 : (m != 0) = true := by simp [h0]
  have C2 : Hid (shV tm am (.mk k m ks) n d = .tuple #[.int .i64 0, .bool false]) := shV_false (by rw [shF_eq]; simp [nodeB, Hin.out, h0])
  clear h3 h4 h0
  go_wp2_with fail
  exact bodyPost_ret (v := .tuple #[.int .i64 0, .bool false]) (by simp [results, Try.results143, go_sem]) rfl ⟨by rw [C2.out], hB⟩
 have t0 : (m != 0) = false := by simp [h0]
 have Hn0 : Hid ((k != 5 || Ex.condL ks) = true → nodeB tm am k m ks = true) := by
  intro h
  have := Hk.out
  unfold nodeB
  rw [Hin.out, h, this, h0]
  simp
 by_cases h5 : k = 5
 ·
  have t5 : (k == 5) = true := by simp [h5]
  have hone : ks.length = 1 := by have := Hk.out; rw [h5, kidsN_five] at this; omega
  obtain ⟨f, hf, hcl⟩ := condL_one hone
  obtain ⟨b', o', rfl⟩ := kid_some hr (by intro h; simp [h] at hone)
  obtain ⟨-, s', c', g0, g1, g2, gr⟩ := kid_in (hr.below hB) hf
  simp only [Nat.zero_mul, Nat.add_zero] at g0 g1 g2
  have hpos : 0 < ks.length := by omega
  have Het : Hid (Ex.mk f.kind f.num f.kids = f) := (Ex.eta f).symm
  have Hbad : Hid (f.cond = false → shV tm am (.mk k m ks) n d = .tuple #[.int .i64 0, .bool false]) := fun h => shV_false (by rw [shF_eq]; simp [nodeB, h5, hcl, h])
  have Hgood : Hid (f.cond = true → nodeB tm am k m ks = true) := fun h => Hn0.out (by rw [hcl, h]; simp)
  clear h3 h4 h0 h5 hone hcl
  go_wp2_with fail
  refine (implIsCondition_i gr).mono ?_
  rintro y w1 ⟨rfl, hb⟩
  rw [Het.out]
  replace hB := Below.on hB hb hB.size
  replace L := L.below hb
  replace M := M.below hb
  clear hb l0 l1 m0 m1 m2 lM g0 g1 g2 gr
  have l0 := L.c0
  have l1 := L.c1
  have m0 := M.c0
  have m1 := M.c1
  have m2 := M.c2
  cases hfc : f.cond
  ·
   have C2 := Lib.hid (Hbad.out hfc)
   clear Hbad Hgood
   go_wp2_with fail
   exact bodyPost_ret (v := .tuple #[.int .i64 0, .bool false]) (by simp [results, Try.results143, go_sem]) rfl ⟨by rw [C2.out], hB⟩
  ·
   have Hn := Lib.hid (Hgood.out hfc)
   clear Hbad Hgood
   go_wp2_with fail
   go_loopw [2, 68] (fun l i wr => ∃ j : Nat, j ≤ ks.length ∧ i = .int .i64 j ∧ l = .int .i64 (n - 1 - Ex.sizeL (ks.take j)) ∧ Ex.treeL tm am (ks.take j) = true ∧ (Ex.depthL (ks.take j) : Int) ≤ d - 1 ∧ (Ex.sizeL (ks.take j) : Int) ≤ n - 1 ∧ Blk wr w.heap.size 34 [.int .i64 t, .int .i64 a] ∧ Below w.heap.size w wr) (fun _ i _ => ks.length - (intOf i).toNat)
   case atStart => exact ⟨0, by omega, rfl, by congr 1; simp [Ex.sizeL], by simp [Ex.treeL], by simp [Ex.depthL]; omega, by simp [Ex.sizeL]; omega, L, hB⟩
   case round =>
    clear hB L l0 l1 m0 m1 m2 M
    obtain ⟨j, hj, rfl, rfl, hpre, hdp, hszp, L, hB⟩ := hrel
    have l0 := L.c0
    have l1 := L.c1
    have lL := L.lt
    have hzB := hB.size
    have Hpre := Lib.hid hpre
    clear hpre
    by_cases hlt : j < ks.length
    ·
     obtain ⟨x, hx⟩ : ∃ z, ks[j]? = some z := ⟨_, List.getElem?_eq_getElem hlt⟩
     skip
     obtain ⟨-, s', c', g0, g1, g2, gr⟩ := kid_in (hr.below hB) hx
     have hN' : Ex.sizeL x.kids < N := by
      have := Ex.sizeL_mem (List.mem_of_getElem? hx)
      have := Ex.size_eq x
      omega
     have Het : Hid (Ex.mk x.kind x.num x.kids = x) := (Ex.eta x).symm
     have Htk := Lib.hid (@Ex.treeL_take_succ tm am _ _ _ hx)
     have Hsk := Lib.hid (Ex.sizeL_take_succ hx)
     have Hdk := Lib.hid (Ex.depthL_take_succ hx)
     have Hbad : Hid (shF tm am x (n - 1 - Ex.sizeL (ks.take j)) (d - 1) = false → shV tm am (.mk k m ks) n d = .tuple #[.int .i64 0, .bool false]) := fun h => shV_false (shF_kid hx h)
     have hn0 : 0 ≤ n - 1 - Ex.sizeL (ks.take j) := by omega
     have hd0 : 0 ≤ d - 1 := by omega
     go_wp2_with fail
     refine (ih _ hN' x.kind x.num x.kids _ _ (n - 1 - Ex.sizeL (ks.take j)) (d - 1) _ (Nat.le_refl _) (gr.alloc _) hn0 (by omega) hd0 (by omega)).mono ?_
     rintro y w1 ⟨rfl, hb⟩
     have hB1 : Below w.heap.size w w1 := Below.on (by (repeat' first | exact Below.refl _ _ | assumption | apply Below.alloc | apply Below.drew | apply Below.setCell | omega | (simp; done) | (simp; omega))) hb (by simp; omega)
     have L1 := (L.alloc (.cells #[.int .i64 x.kind, .int .i64 x.num, .slice s' x.kids.length c'] 38)).below hb
     clear hb
     rw [Het.out]
     cases hfc : shF tm am x (n - 1 - Ex.sizeL (ks.take j)) (d - 1)
     ·
      have C2 := Lib.hid (Hbad.out hfc)
      rw [shV_false hfc]
      clear Hbad Htk Hsk Hdk hfc
      replace hB := hB1
      go_wp2_with fail
      exact bodyPost_ret (v := .tuple #[.int .i64 0, .bool false]) (by simp [results, Try.results143, go_sem]) rfl ⟨by rw [C2.out], hB⟩
     ·
      have hfc' := shF_true.1 hfc
      rw [shV_true hfc]
      have Hrel : Hid (Ex.treeL tm am (ks.take (j + 1)) = true ∧ (Ex.depthL (ks.take (j + 1)) : Int) ≤ d - 1 ∧ (Ex.sizeL (ks.take (j + 1)) : Int) ≤ n - 1 ∧ n - 1 - (Ex.sizeL (ks.take j) : Int) - x.size = n - 1 - (Ex.sizeL (ks.take (j + 1)) : Nat)) := by
       obtain ⟨i1, i2, i3⟩ := hfc'
       have i4 := Hsk.out
       have i5 := Hdk.out
       exact ⟨by rw [Htk.out, Hpre.out, i1]; rfl, by omega, by omega, by omega⟩
      have Heq : Hid (n - 1 - (Ex.sizeL (ks.take j) : Int) - x.size = n - 1 - (Ex.sizeL (ks.take (j + 1)) : Nat)) := Hrel.out.2.2.2
      clear Hbad Htk Hsk Hdk hfc hfc'
      rw [Heq.out]
      go_wp2_with fail
      go_roundw
      case rel => exact ⟨j + 1, by omega, by go_num, rfl, Hrel.out.1, Hrel.out.2.1, Hrel.out.2.2.1, L1, hB1⟩
      case measure => simp [intOf]; omega
    ·
     obtain rfl : j = ks.length := by omega
     have C2 : Hid (shV tm am (.mk k m ks) n d = .tuple #[.int .i64 (n - 1 - (Ex.sizeL (ks.take ks.length) : Nat)), .bool true]) := by
      show _ = _
      have h1 := Hpre.out
      rw [List.take_length] at h1 hdp hszp ⊢
      rw [shV_true (by rw [shF_eq, Hn.out, h1, decide_eq_true (by simp only [Ex.size]; omega), decide_eq_true (by simp only [Ex.depth]; omega)]; rfl)]
      have : n - ((Ex.mk k m ks).size : Int) = n - 1 - (Ex.sizeL ks : Nat) := by simp only [Ex.size]; omega
      rw [this]
     go_wp2_with fail
     exact bodyPost_ret (v := .tuple #[.int .i64 (n - 1 - (Ex.sizeL (ks.take ks.length) : Nat)), .bool true]) (by simp [results, Try.results143, go_sem]) rfl ⟨by rw [C2.out], hB⟩
 ·
  have t5 : (k == 5) = false := by simp [h5]
  have Hn := Lib.hid (Hn0.out (by simp [h5]))
  clear h3 h4 h0 h5
  go_wp2_with fail
  go_loopw [2, 68] (fun l i wr => ∃ j : Nat, j ≤ ks.length ∧ i = .int .i64 j ∧ l = .int .i64 (n - 1 - Ex.sizeL (ks.take j)) ∧ Ex.treeL tm am (ks.take j) = true ∧ (Ex.depthL (ks.take j) : Int) ≤ d - 1 ∧ (Ex.sizeL (ks.take j) : Int) ≤ n - 1 ∧ Blk wr w.heap.size 34 [.int .i64 t, .int .i64 a] ∧ Below w.heap.size w wr) (fun _ i _ => ks.length - (intOf i).toNat)
  case atStart => exact ⟨0, by omega, rfl, by congr 1; simp [Ex.sizeL], by simp [Ex.treeL], by simp [Ex.depthL]; omega, by simp [Ex.sizeL]; omega, L, hB⟩
  case round =>
   clear hB L l0 l1 m0 m1 m2 M
   obtain ⟨j, hj, rfl, rfl, hpre, hdp, hszp, L, hB⟩ := hrel
   have l0 := L.c0
   have l1 := L.c1
   have lL := L.lt
   have hzB := hB.size
   have Hpre := Lib.hid hpre
   clear hpre
   by_cases hlt : j < ks.length
   ·
    obtain ⟨x, hx⟩ : ∃ z, ks[j]? = some z := ⟨_, List.getElem?_eq_getElem hlt⟩
    obtain ⟨b', o', rfl⟩ := kid_some hr (by intro h; simp [h] at hlt)
    obtain ⟨-, s', c', g0, g1, g2, gr⟩ := kid_in (hr.below hB) hx
    have hN' : Ex.sizeL x.kids < N := by
     have := Ex.sizeL_mem (List.mem_of_getElem? hx)
     have := Ex.size_eq x
     omega
    have Het : Hid (Ex.mk x.kind x.num x.kids = x) := (Ex.eta x).symm
    have Htk := Lib.hid (@Ex.treeL_take_succ tm am _ _ _ hx)
    have Hsk := Lib.hid (Ex.sizeL_take_succ hx)
    have Hdk := Lib.hid (Ex.depthL_take_succ hx)
    have Hbad : Hid (shF tm am x (n - 1 - Ex.sizeL (ks.take j)) (d - 1) = false → shV tm am (.mk k m ks) n d = .tuple #[.int .i64 0, .bool false]) := fun h => shV_false (shF_kid hx h)
    have hn0 : 0 ≤ n - 1 - Ex.sizeL (ks.take j) := by omega
    have hd0 : 0 ≤ d - 1 := by omega
    go_wp2_with fail
    refine (ih _ hN' x.kind x.num x.kids _ _ (n - 1 - Ex.sizeL (ks.take j)) (d - 1) _ (Nat.le_refl _) (gr.alloc _) hn0 (by omega) hd0 (by omega)).mono ?_
    rintro y w1 ⟨rfl, hb⟩
    have hB1 : Below w.heap.size w w1 := Below.on (by (repeat' first | exact Below.refl _ _ | assumption | apply Below.alloc | apply Below.drew | apply Below.setCell | omega | (simp; done) | (simp; omega))) hb (by simp; omega)
    have L1 := (L.alloc (.cells #[.int .i64 x.kind, .int .i64 x.num, .slice s' x.kids.length c'] 38)).below hb
    clear hb
    rw [Het.out]
    cases hfc : shF tm am x (n - 1 - Ex.sizeL (ks.take j)) (d - 1)
    ·
     have C2 := Lib.hid (Hbad.out hfc)
     rw [shV_false hfc]
     clear Hbad Htk Hsk Hdk hfc
     replace hB := hB1
     go_wp2_with fail
     exact bodyPost_ret (v := .tuple #[.int .i64 0, .bool false]) (by simp [results, Try.results143, go_sem]) rfl ⟨by rw [C2.out], hB⟩
    ·
     have hfc' := shF_true.1 hfc
     rw [shV_true hfc]
     have Hrel : Hid (Ex.treeL tm am (ks.take (j + 1)) = true ∧ (Ex.depthL (ks.take (j + 1)) : Int) ≤ d - 1 ∧ (Ex.sizeL (ks.take (j + 1)) : Int) ≤ n - 1 ∧ n - 1 - (Ex.sizeL (ks.take j) : Int) - x.size = n - 1 - (Ex.sizeL (ks.take (j + 1)) : Nat)) := by
      obtain ⟨i1, i2, i3⟩ := hfc'
      have i4 := Hsk.out
      have i5 := Hdk.out
      exact ⟨by rw [Htk.out, Hpre.out, i1]; rfl, by omega, by omega, by omega⟩
     have Heq : Hid (n - 1 - (Ex.sizeL (ks.take j) : Int) - x.size = n - 1 - (Ex.sizeL (ks.take (j + 1)) : Nat)) := Hrel.out.2.2.2
     clear Hbad Htk Hsk Hdk hfc hfc'
     rw [Heq.out]
     go_wp2_with fail
     go_roundw
     case rel => exact ⟨j + 1, by omega, by go_num, rfl, Hrel.out.1, Hrel.out.2.1, Hrel.out.2.2.1, L1, hB1⟩
     case measure => simp [intOf]; omega
   ·
    obtain rfl : j = ks.length := by omega
    have C2 : Hid (shV tm am (.mk k m ks) n d = .tuple #[.int .i64 (n - 1 - (Ex.sizeL (ks.take ks.length) : Nat)), .bool true]) := by
     show _ = _
     have h1 := Hpre.out
     rw [List.take_length] at h1 hdp hszp ⊢
     rw [shV_true (by rw [shF_eq, Hn.out, h1, decide_eq_true (by simp only [Ex.size]; omega), decide_eq_true (by simp only [Ex.depth]; omega)]; rfl)]
     have : n - ((Ex.mk k m ks).size : Int) = n - 1 - (Ex.sizeL ks : Nat) := by simp only [Ex.size]; omega
     rw [this]
    go_wp2_with fail
    exact bodyPost_ret (v := .tuple #[.int .i64 (n - 1 - (Ex.sizeL (ks.take ks.length) : Nat)), .bool true]) (by simp [results, Try.results143, go_sem]) rfl ⟨by rw [C2.out], hB⟩
theorem isExpr_w {t a k m : Int} {ks : List Ex} {s : Option Addr} {c : Nat} {w : World} (tm am : Int) (q1 : IntKind.i64.wrap (t - 1) = tm) (q2 : IntKind.i64.wrap (a - 1) = am) (hr : Rd w (kidsD ks) (.slice s ks.length c)) :
  Calls Try.prog 108 #[.agg #[.int .i64 t, .int .i64 a], .agg #[.int .i64 k, .int .i64 m, .slice s ks.length c]] w fun f w' =>
   f = .returned (.bool (shF tm am (.mk k m ks) 200 40)) ∧ Below w.heap.size w w' := by
 go_enter Try.func108, Try.ntmps108
 go_wp2_with fail
 refine (shaped_all t a tm am q1 q2 _ k m ks s c 200 40 _ (Nat.le_refl _) ((hr.alloc _).alloc _) (by omega) (by omega) (by omega) (by omega)).mono ?_
 rintro x w1 ⟨rfl, hb⟩
 have hB : Below w.heap.size w w1 := Below.on (by (repeat' first | exact Below.refl _ _ | assumption | apply Below.alloc | apply Below.drew | apply Below.setCell | omega | (simp; done) | (simp; omega))) hb (by simp; omega)
 clear hb
 cases h : shF tm am (.mk k m ks) 200 40
 ·
  rw [shV_false h]
  go_wp2_with fail
  go_ret
  exact ⟨ret_bool (by rw [h]), hB⟩
 ·
  rw [shV_true h]
  go_wp2_with fail
  go_ret
  exact ⟨ret_bool (by rw [h]), hB⟩
theorem okB_sh {t a : Int} {e : Ex} (h : sigB t a = true) : shF (t - 1) (a - 1) e 200 40 = okB t a e := by
 unfold shF okB
 rw [h, Bool.true_and, Bool.and_comm, Bool.eq_iff_iff]
 simp
 intros
 omega
theorem isExpr_i {t a k m : Int} {ks : List Ex} {s : Option Addr} {c : Nat} {w : World} (hs : sigB t a = true) (hr : Rd w (kidsD ks) (.slice s ks.length c)) :
  Calls Try.prog 108 #[.agg #[.int .i64 t, .int .i64 a], .agg #[.int .i64 k, .int .i64 m, .slice s ks.length c]] w fun f w' =>
   f = .returned (.bool (okB t a (.mk k m ks))) ∧ Below w.heap.size w w' := by
 obtain ⟨ht0, ht1, ha0, ha1⟩ := sigB_bd hs
 have := isExpr_w (t - 1) (a - 1) (wrap_of (by omega) (by omega)) (wrap_of (by omega) (by omega)) hr (t := t) (a := a) (k := k) (m := m)
 rw [okB_sh hs] at this
 exact this
theorem implValidExpr_i {t a k n : Int} {ks : List Ex} {s : Option Addr} {c : Nat} {w : World} (hr : Rd w (kidsD ks) (.slice s ks.length c)) :
  Calls Try.prog 55 #[.agg #[.int .i64 t, .int .i64 a], .agg #[.int .i64 k, .int .i64 n, .slice s ks.length c]] w fun e w' => e = .returned (.bool (okB t a (.mk k n ks))) ∧ Below w.heap.size w w' := by
 go_enter Try.func55, Try.ntmps55
 go_wp2_with fail
 have L := (Blk.new2 w 34 (.int .i64 t) (.int .i64 a)).alloc (.cells #[.int .i64 k, .int .i64 n, .slice s ks.length c] 38)
 have M := Blk.new3 (w.alloc (.cells #[.int .i64 t, .int .i64 a] 34)) 38 (.int .i64 k) (.int .i64 n) (.slice s ks.length c)
 simp at M
 refine (implValidSig_any _ _ _).mono ?_
 rintro x w1 ⟨rfl, hb⟩
 have hB : Below w.heap.size w w1 := Below.on (by (repeat' first | exact Below.refl _ _ | assumption | apply Below.alloc | apply Below.drew | apply Below.setCell | omega | (simp; done) | (simp; omega))) hb (by simp; omega)
 replace L := L.below hb
 replace M := M.below hb
 clear hb
 cases hs : sigB t a
 ·
  go_wp2_with fail
  go_ret
  exact ⟨ret_bool (by simp [okB, hs]), hB⟩
 ·
  have l0 := L.c0
  have l1 := L.c1
  have m0 := M.c0
  have m1 := M.c1
  have m2 := M.c2
  have Hs := Lib.hid hs
  clear hs
  go_wp2_with fail
  refine (isExpr_i Hs.out (hr.below hB)).mono ?_
  rintro x w2 ⟨rfl, hb⟩
  replace hB := Below.on hB hb hB.size
  clear hb
  go_wp2_with fail
  go_ret
  exact ⟨rfl, hB⟩
end Go.Proofs.Ytbflhjjnemdecaa

namespace Go.Proofs.Ytbflhjjnemdecaa
set_option linter.unusedVariables false
set_option linter.unusedSimpArgs false
open Go.ChangeShapes Go.WideShapes Go.ChangeAt Go.RowKit Go.Sort
def bitB (atom n : Int) : Bool := (atom / 2 ^ n.toNat) % 2 == 1
def truC (atom k n : Int) (bs : List Bool) : Bool :=
 if k = 2 then true else if k = 3 then bitB atom n else if k = 5 then !(bs.getD 0 false) else if k = 6 then (bs.getD 0 false || bs.getD 1 false) else if k = 7 then (bs.getD 0 false && bs.getD 1 false) else false
mutual
def Ex.tru (atom : Int) : Ex → Bool
 | .mk k n ks => truC atom k n (Ex.truL atom ks)
def Ex.truL (atom : Int) : List Ex → List Bool
 | [] => []
 | e :: r => Ex.tru atom e :: Ex.truL atom r
end
def empC (atom k n : Int) (ks : List Ex) (bs : List Bool) : Bool :=
 if k = 2 ∨ k = 8 then true else if k = 3 ∨ k = 5 then truC atom k n (Ex.truL atom ks) else if k = 6 then (bs.getD 0 false || bs.getD 1 false) else if k = 7 then (bs.getD 0 false && bs.getD 1 false) else false
mutual
def Ex.emp (atom : Int) : Ex → Bool
 | .mk k n ks => empC atom k n ks (Ex.empL atom ks)
def Ex.empL (atom : Int) : List Ex → List Bool
 | [] => []
 | e :: r => Ex.emp atom e :: Ex.empL atom r
end
theorem Ex.treeL_mem {tm am : Int} : ∀ {ks : List Ex} {x : Ex}, Ex.treeL tm am ks = true → x ∈ ks → x.tree tm am = true
 | [], _, _, h => by simp at h
 | e :: r, x, ht, h => by
  simp only [Ex.treeL, Bool.and_eq_true] at ht
  rcases List.mem_cons.1 h with rfl | h
  ·
   exact ht.1
  ·
   exact Ex.treeL_mem ht.2 h
theorem Ex.condL_mem : ∀ {ks : List Ex} {x : Ex}, Ex.condL ks = true → x ∈ ks → x.cond = true
 | [], _, _, h => by simp at h
 | e :: r, x, ht, h => by
  simp only [Ex.condL, Bool.and_eq_true] at ht
  rcases List.mem_cons.1 h with rfl | h
  ·
   exact ht.1
  ·
   exact Ex.condL_mem ht.2 h
theorem tree_parts {tm am k n : Int} {ks : List Ex} (h : Ex.tree tm am (.mk k n ks) = true) : kidsN k = (ks.length : Int) ∧ numB tm am k n = true ∧ (k = 5 → Ex.condL ks = true) ∧ Ex.treeL tm am ks = true := by
 simp only [Ex.tree, nodeB, Bool.and_eq_true, beq_iff_eq, Bool.or_eq_true, bne_iff_ne] at h
 refine ⟨h.1.1.1, h.1.1.2, fun hk => ?_, h.2⟩
 rcases h.1.2 with h | h
 ·
  exact absurd hk h
 ·
  exact h
theorem two_kids {k : Int} {ks : List Ex} (h : kidsN k = (ks.length : Int)) (hk : k = 6 ∨ k = 7) : ∃ x y, ks = [x, y] := by
 have : kidsN k = 2 := by unfold kidsN; rw [if_neg (by omega), if_neg (by omega), if_pos (by omega)]
 match ks, h with
 | [x, y], _ => exact ⟨x, y, rfl⟩
 | [], h => simp at h; omega
 | [x], h => simp at h; omega
 | x :: y :: z :: r, h => simp at h; omega
theorem one_kid {k : Int} {ks : List Ex} (h : kidsN k = (ks.length : Int)) (hk : k = 5 ∨ k = 8) : ∃ x, ks = [x] := by
 have : kidsN k = 1 := by unfold kidsN; rw [if_neg (by omega), if_pos (by omega)]
 match ks, h with
 | [x], _ => exact ⟨x, rfl⟩
 | [], h => simp at h; omega
 | x :: y :: r, h => simp at h; omega
theorem numB_test {tm am n : Int} (h : numB tm am 3 n = true) : 0 ≤ n ∧ n ≤ tm := by
 simp [numB, inB] at h
 omega
set_option maxHeartbeats 4000000 in
theorem truth_all (tm am atom : Int) (ht : tm ≤ 2) (h0 : 0 ≤ atom) (h7 : atom ≤ 7) (N : Nat) : ∀ (k n : Int) (ks : List Ex) (s : Option Addr) (c : Nat) (w : World), Ex.sizeL ks ≤ N → Rd w (kidsD ks) (.slice s ks.length c) →
    Ex.tree tm am (.mk k n ks) = true → Ex.cond (.mk k n ks) = true →
    Calls Try.prog 146 #[.agg #[.int .i64 k, .int .i64 n, .slice s ks.length c], .int .i64 atom] w fun f w' => f = .returned (.bool (Ex.tru atom (.mk k n ks))) ∧ Below w.heap.size w w' := by
  induction N using Nat.strongRecOn with
  | _ N ih =>
  intro k n ks s c w hN hr htr hc
  obtain ⟨hk, hnum, -, htl⟩ := tree_parts htr
  rw [Ex.cond_eq] at hc
  simp only [Ex.kind, Ex.kids, Bool.and_eq_true] at hc
  obtain ⟨hck, hcl⟩ := hc
  have hk' : k = 1 ∨ k = 2 ∨ k = 3 ∨ k = 5 ∨ k = 6 ∨ k = 7 := by simpa [condKind] using hck
  clear hck htr
  rcases hk' with rfl | rfl | rfl | rfl | rfl | rfl
  · have e : Ex.tru atom (.mk 1 n ks) = false := by simp [Ex.tru, truC]
    rw [e]
    clear hk hnum htl hcl e
    go_enter Try.func146, Try.ntmps146
    go_wp2_with fail
    go_ret
    exact ⟨rfl, by (repeat' first | exact Below.refl _ _ | assumption | apply Below.alloc | apply Below.drew | apply Below.setCell | omega | (simp; done) | (simp; omega))⟩
  · have e : Ex.tru atom (.mk 2 n ks) = true := by simp [Ex.tru, truC]
    rw [e]
    clear hk hnum htl hcl e
    go_enter Try.func146, Try.ntmps146
    go_wp2_with fail
    go_ret
    exact ⟨rfl, by (repeat' first | exact Below.refl _ _ | assumption | apply Below.alloc | apply Below.drew | apply Below.setCell | omega | (simp; done) | (simp; omega))⟩
  · have e : Ex.tru atom (.mk 3 n ks) = bitB atom n := by simp [Ex.tru, truC]
    obtain ⟨n0, n1⟩ := numB_test hnum
    rw [e]
    clear hk hnum htl hcl e
    have hn : n = 0 ∨ n = 1 ∨ n = 2 := by omega
    have ha : atom = 0 ∨ atom = 1 ∨ atom = 2 ∨ atom = 3 ∨ atom = 4 ∨ atom = 5 ∨ atom = 6 ∨ atom = 7 := by omega
    clear ih
    rcases hn with rfl | rfl | rfl <;> rcases ha with rfl | rfl | rfl | rfl | rfl | rfl | rfl | rfl
    all_goals
      go_enter Try.func146, Try.ntmps146
      go_wp2
      go_ret
      exact ⟨rfl, by (repeat' first | exact Below.refl _ _ | assumption | apply Below.alloc | apply Below.drew | apply Below.setCell | omega | (simp; done) | (simp; omega))⟩
  · obtain ⟨x, rfl⟩ := one_kid hk (by omega)
    have hx : [x][0]? = some x := rfl
    obtain ⟨b', o', rfl⟩ := kid_some hr (by simp)
    have e : Ex.tru atom (.mk 5 n [x]) = !(Ex.tru atom (.mk x.kind x.num x.kids)) := by rw [← Ex.eta x]; simp [Ex.tru, Ex.truL, truC]
    have hxt : Ex.tree tm am (.mk x.kind x.num x.kids) = true := by rw [← Ex.eta x]; exact Ex.treeL_mem htl (by simp)
    have hxc : Ex.cond (.mk x.kind x.num x.kids) = true := by rw [← Ex.eta x]; exact Ex.condL_mem hcl (by simp)
    have hxs : Ex.sizeL x.kids < N := by have := Ex.size_eq x; simp only [Ex.sizeL] at hN; omega
    rw [e]
    clear hk hnum htl hcl e
    obtain ⟨hbl, s', c', g0, g1, g2, gr⟩ := kid_in hr hx
    simp only [Nat.zero_mul, Nat.add_zero] at g0 g1 g2
    go_enter Try.func146, Try.ntmps146
    go_wp2_with fail
    refine (ih _ hxs _ _ _ _ _ _ (Nat.le_refl _) (gr.alloc _) hxt hxc).mono ?_
    rintro y w1 ⟨rfl, hb⟩
    have hB : Below w.heap.size w w1 := Below.on (by (repeat' first | exact Below.refl _ _ | assumption | apply Below.alloc | apply Below.drew | apply Below.setCell | omega | (simp; done) | (simp; omega))) hb (by simp)
    go_wp2_with fail
    go_ret
    exact ⟨rfl, hB⟩
  · obtain ⟨x, y, rfl⟩ := two_kids hk (by omega)
    have hx : [x, y][0]? = some x := rfl
    have hy : [x, y][1]? = some y := rfl
    obtain ⟨b', o', rfl⟩ := kid_some hr (by simp)
    have e : Ex.tru atom (.mk 6 n [x, y]) = or (Ex.tru atom (.mk x.kind x.num x.kids)) (Ex.tru atom (.mk y.kind y.num y.kids)) := by rw [← Ex.eta x, ← Ex.eta y]; simp [Ex.tru, Ex.truL, truC]
    have hxt : Ex.tree tm am (.mk x.kind x.num x.kids) = true := by rw [← Ex.eta x]; exact Ex.treeL_mem htl (by simp)
    have hyt : Ex.tree tm am (.mk y.kind y.num y.kids) = true := by rw [← Ex.eta y]; exact Ex.treeL_mem htl (by simp)
    have hxc : Ex.cond (.mk x.kind x.num x.kids) = true ∧ Ex.cond (.mk y.kind y.num y.kids) = true := ⟨by rw [← Ex.eta x]; exact Ex.condL_mem hcl (by simp), by rw [← Ex.eta y]; exact Ex.condL_mem hcl (by simp)⟩
    have hxs : Ex.sizeL x.kids < N := by have := Ex.size_eq x; simp only [Ex.sizeL] at hN; omega
    have hys : Ex.sizeL y.kids < N := by have := Ex.size_eq y; simp only [Ex.sizeL] at hN; omega
    rw [e]
    clear hk hnum htl hcl e
    obtain ⟨hbl, s', c', g0, g1, g2, gr⟩ := kid_in hr hx
    obtain ⟨-, s2, c2, k0, k1, k2, kr⟩ := kid_in hr hy
    simp only [Nat.zero_mul, Nat.add_zero] at g0 g1 g2
    simp only [Nat.one_mul] at k0 k1 k2
    have L := Blk.new3 w 38 (.int .i64 6) (.int .i64 n) (.slice (some ⟨b', o', none⟩) 2 c)
    go_enter Try.func146, Try.ntmps146
    go_wp2_with fail
    refine (ih _ hxs _ _ _ _ _ _ (Nat.le_refl _) (gr.alloc _) hxt hxc.1).mono ?_
    rintro z w1 ⟨rfl, hb⟩
    have hB : Below w.heap.size w w1 := Below.on (by (repeat' first | exact Below.refl _ _ | assumption | apply Below.alloc | apply Below.drew | apply Below.setCell | omega | (simp; done) | (simp; omega))) hb (by simp)
    replace L := L.below hb
    have l2 := L.c2
    have k0' := (hB.cell (p := ⟨b', o' + 3, none⟩) hbl).trans k0
    have k1' := (hB.cell (p := ⟨b', o' + 3 + 1, none⟩) hbl).trans k1
    have k2' := (hB.cell (p := ⟨b', o' + 3 + 2, none⟩) hbl).trans k2
    clear k0 k1 k2 g0 g1 g2 hb
    cases h1 : Ex.tru atom (.mk x.kind x.num x.kids)
    all_goals
      go_wp2_with fail
      first
        | (refine (ih _ hys _ _ _ _ _ _ (Nat.le_refl _) (kr.below hB) hyt hxc.2).mono ?_
           rintro z w2 ⟨rfl, hb⟩
           replace hB := Below.on hB hb hB.size
           go_wp2_with fail
           go_ret
           exact ⟨ret_bool (by simp [h1]), hB⟩)
        | (go_ret
           exact ⟨ret_bool (by simp [h1]), hB⟩)
  · obtain ⟨x, y, rfl⟩ := two_kids hk (by omega)
    have hx : [x, y][0]? = some x := rfl
    have hy : [x, y][1]? = some y := rfl
    obtain ⟨b', o', rfl⟩ := kid_some hr (by simp)
    have e : Ex.tru atom (.mk 7 n [x, y]) = and (Ex.tru atom (.mk x.kind x.num x.kids)) (Ex.tru atom (.mk y.kind y.num y.kids)) := by rw [← Ex.eta x, ← Ex.eta y]; simp [Ex.tru, Ex.truL, truC]
    have hxt : Ex.tree tm am (.mk x.kind x.num x.kids) = true := by rw [← Ex.eta x]; exact Ex.treeL_mem htl (by simp)
    have hyt : Ex.tree tm am (.mk y.kind y.num y.kids) = true := by rw [← Ex.eta y]; exact Ex.treeL_mem htl (by simp)
    have hxc : Ex.cond (.mk x.kind x.num x.kids) = true ∧ Ex.cond (.mk y.kind y.num y.kids) = true := ⟨by rw [← Ex.eta x]; exact Ex.condL_mem hcl (by simp), by rw [← Ex.eta y]; exact Ex.condL_mem hcl (by simp)⟩
    have hxs : Ex.sizeL x.kids < N := by have := Ex.size_eq x; simp only [Ex.sizeL] at hN; omega
    have hys : Ex.sizeL y.kids < N := by have := Ex.size_eq y; simp only [Ex.sizeL] at hN; omega
    rw [e]
    clear hk hnum htl hcl e
    obtain ⟨hbl, s', c', g0, g1, g2, gr⟩ := kid_in hr hx
    obtain ⟨-, s2, c2, k0, k1, k2, kr⟩ := kid_in hr hy
    simp only [Nat.zero_mul, Nat.add_zero] at g0 g1 g2
    simp only [Nat.one_mul] at k0 k1 k2
    have L := Blk.new3 w 38 (.int .i64 7) (.int .i64 n) (.slice (some ⟨b', o', none⟩) 2 c)
    go_enter Try.func146, Try.ntmps146
    go_wp2_with fail
    refine (ih _ hxs _ _ _ _ _ _ (Nat.le_refl _) (gr.alloc _) hxt hxc.1).mono ?_
    rintro z w1 ⟨rfl, hb⟩
    have hB : Below w.heap.size w w1 := Below.on (by (repeat' first | exact Below.refl _ _ | assumption | apply Below.alloc | apply Below.drew | apply Below.setCell | omega | (simp; done) | (simp; omega))) hb (by simp)
    replace L := L.below hb
    have l2 := L.c2
    have k0' := (hB.cell (p := ⟨b', o' + 3, none⟩) hbl).trans k0
    have k1' := (hB.cell (p := ⟨b', o' + 3 + 1, none⟩) hbl).trans k1
    have k2' := (hB.cell (p := ⟨b', o' + 3 + 2, none⟩) hbl).trans k2
    clear k0 k1 k2 g0 g1 g2 hb
    cases h1 : Ex.tru atom (.mk x.kind x.num x.kids)
    all_goals
      go_wp2_with fail
      first
        | (refine (ih _ hys _ _ _ _ _ _ (Nat.le_refl _) (kr.below hB) hyt hxc.2).mono ?_
           rintro z w2 ⟨rfl, hb⟩
           replace hB := Below.on hB hb hB.size
           go_wp2_with fail
           go_ret
           exact ⟨ret_bool (by simp [h1]), hB⟩)
        | (go_ret
           exact ⟨ret_bool (by simp [h1]), hB⟩)
set_option maxHeartbeats 4000000 in
theorem l01True_all (tm am atom : Int) (ht : tm ≤ 2) (h0 : 0 ≤ atom) (h7 : atom ≤ 7) (N : Nat) : ∀ (e : Ex) (b o : Nat) (w : World), e.size ≤ N → ExAt w b o e → e.tree tm am = true → e.cond = true →
    Calls Try.prog 106 #[.pointer (some ⟨b, o, none⟩), .int .i64 atom] w fun f w' => f = .returned (.bool (e.tru atom)) ∧ w = w' := by
  induction N using Nat.strongRecOn with
  | _ N ih =>
  intro e b o w hN hr htr hc
  obtain ⟨k, n, ks⟩ := e
  obtain ⟨g0, g1, s, c, g2, hr⟩ := hr
  simp only [Ex.kind, Ex.num, Ex.kids] at g0 g1 g2 hr
  obtain ⟨hk, hnum, -, htl⟩ := tree_parts htr
  rw [Ex.cond_eq] at hc
  simp only [Ex.kind, Ex.kids, Bool.and_eq_true] at hc
  obtain ⟨hck, hcl⟩ := hc
  have hk' : k = 1 ∨ k = 2 ∨ k = 3 ∨ k = 5 ∨ k = 6 ∨ k = 7 := by simpa [condKind] using hck
  clear hck htr
  rcases hk' with rfl | rfl | rfl | rfl | rfl | rfl
  · have e : Ex.tru atom (.mk 1 n ks) = false := by simp [Ex.tru, truC]
    rw [e]
    clear hk hnum htl hcl e
    go_enter Try.func106, Try.ntmps106
    go_wp2_with fail
    go_ret
    exact ⟨rfl, rfl⟩
  · have e : Ex.tru atom (.mk 2 n ks) = true := by simp [Ex.tru, truC]
    rw [e]
    clear hk hnum htl hcl e
    go_enter Try.func106, Try.ntmps106
    go_wp2_with fail
    go_ret
    exact ⟨rfl, rfl⟩
  · have e : Ex.tru atom (.mk 3 n ks) = bitB atom n := by simp [Ex.tru, truC]
    obtain ⟨n0, n1⟩ := numB_test hnum
    rw [e]
    clear hk hnum htl hcl e
    have hn : n = 0 ∨ n = 1 ∨ n = 2 := by omega
    have ha : atom = 0 ∨ atom = 1 ∨ atom = 2 ∨ atom = 3 ∨ atom = 4 ∨ atom = 5 ∨ atom = 6 ∨ atom = 7 := by omega
    clear ih
    rcases hn with rfl | rfl | rfl <;> rcases ha with rfl | rfl | rfl | rfl | rfl | rfl | rfl | rfl
    all_goals
      go_enter Try.func106, Try.ntmps106
      go_wp2
      go_ret
      exact ⟨rfl, rfl⟩
  · obtain ⟨x, rfl⟩ := one_kid hk (by omega)
    have hx : [x][0]? = some x := rfl
    obtain ⟨b', o', rfl⟩ := kid_some hr (by simp)
    have e : Ex.tru atom (.mk 5 n [x]) = !(Ex.tru atom x) := by simp [Ex.tru, Ex.truL, truC]
    have hxt : Ex.tree tm am x = true := Ex.treeL_mem htl (by simp)
    have hxc : Ex.cond x = true := Ex.condL_mem hcl (by simp)
    have hxs : x.size < N := by simp only [Ex.size, Ex.sizeL] at hN; omega
    have hax := kid_exAt hr hx
    simp only [Nat.zero_mul, Nat.add_zero] at hax
    obtain ⟨-, hlen, hcap, -, -⟩ := kid_at hr
    unfold maxLen at hcap
    simp only [List.length_cons, List.length_nil] at hlen
    rw [e]
    clear hk hnum htl hcl e
    go_enter Try.func106, Try.ntmps106
    go_wp2_with fail
    refine (ih _ hxs x _ _ _ (Nat.le_refl _) hax hxt hxc).mono ?_
    rintro y w' ⟨rfl, rfl⟩
    go_wp2_with fail
    go_ret
    exact ⟨rfl, rfl⟩
  · obtain ⟨x, y, rfl⟩ := two_kids hk (by omega)
    have hx : [x, y][0]? = some x := rfl
    have hy : [x, y][1]? = some y := rfl
    obtain ⟨b', o', rfl⟩ := kid_some hr (by simp)
    have e : Ex.tru atom (.mk 6 n [x, y]) = or (Ex.tru atom x) (Ex.tru atom y) := by simp [Ex.tru, Ex.truL, truC]
    have hxt : Ex.tree tm am x = true := Ex.treeL_mem htl (by simp)
    have hyt : Ex.tree tm am y = true := Ex.treeL_mem htl (by simp)
    have hxc : Ex.cond x = true ∧ Ex.cond y = true := ⟨Ex.condL_mem hcl (by simp), Ex.condL_mem hcl (by simp)⟩
    have hxs : x.size < N := by simp only [Ex.size, Ex.sizeL] at hN; omega
    have hys : y.size < N := by simp only [Ex.size, Ex.sizeL] at hN; omega
    have hax := kid_exAt hr hx
    have hay := kid_exAt hr hy
    simp only [Nat.zero_mul, Nat.one_mul, Nat.add_zero] at hax hay
    obtain ⟨-, hlen, hcap, -, -⟩ := kid_at hr
    unfold maxLen at hcap
    simp only [List.length_cons, List.length_nil] at hlen
    rw [e]
    clear hk hnum htl hcl e
    go_enter Try.func106, Try.ntmps106
    go_wp2_with fail
    refine (ih _ hxs x _ _ _ (Nat.le_refl _) hax hxt hxc.1).mono ?_
    rintro z w' ⟨rfl, rfl⟩
    cases h1 : Ex.tru atom x
    all_goals
      go_wp2_with fail
      first
        | (refine (ih _ hys y _ _ _ (Nat.le_refl _) hay hyt hxc.2).mono ?_
           rintro z w' ⟨rfl, rfl⟩
           go_wp2_with fail
           go_ret
           exact ⟨ret_bool (by simp [h1]), rfl⟩)
        | (go_ret
           exact ⟨ret_bool (by simp [h1]), rfl⟩)
  · obtain ⟨x, y, rfl⟩ := two_kids hk (by omega)
    have hx : [x, y][0]? = some x := rfl
    have hy : [x, y][1]? = some y := rfl
    obtain ⟨b', o', rfl⟩ := kid_some hr (by simp)
    have e : Ex.tru atom (.mk 7 n [x, y]) = and (Ex.tru atom x) (Ex.tru atom y) := by simp [Ex.tru, Ex.truL, truC]
    have hxt : Ex.tree tm am x = true := Ex.treeL_mem htl (by simp)
    have hyt : Ex.tree tm am y = true := Ex.treeL_mem htl (by simp)
    have hxc : Ex.cond x = true ∧ Ex.cond y = true := ⟨Ex.condL_mem hcl (by simp), Ex.condL_mem hcl (by simp)⟩
    have hxs : x.size < N := by simp only [Ex.size, Ex.sizeL] at hN; omega
    have hys : y.size < N := by simp only [Ex.size, Ex.sizeL] at hN; omega
    have hax := kid_exAt hr hx
    have hay := kid_exAt hr hy
    simp only [Nat.zero_mul, Nat.one_mul, Nat.add_zero] at hax hay
    obtain ⟨-, hlen, hcap, -, -⟩ := kid_at hr
    unfold maxLen at hcap
    simp only [List.length_cons, List.length_nil] at hlen
    rw [e]
    clear hk hnum htl hcl e
    go_enter Try.func106, Try.ntmps106
    go_wp2_with fail
    refine (ih _ hxs x _ _ _ (Nat.le_refl _) hax hxt hxc.1).mono ?_
    rintro z w' ⟨rfl, rfl⟩
    cases h1 : Ex.tru atom x
    all_goals
      go_wp2_with fail
      first
        | (refine (ih _ hys y _ _ _ (Nat.le_refl _) hay hyt hxc.2).mono ?_
           rintro z w' ⟨rfl, rfl⟩
           go_wp2_with fail
           go_ret
           exact ⟨ret_bool (by simp [h1]), rfl⟩)
        | (go_ret
           exact ⟨ret_bool (by simp [h1]), rfl⟩)
theorem okB_sig {t a : Int} {e : Ex} (h : okB t a e = true) : sigB t a = true := by simp only [okB, Bool.and_eq_true] at h; exact h.1
theorem okB_tree {t a : Int} {e : Ex} (h : okB t a e = true) : e.tree (t - 1) (a - 1) = true := by simp only [okB, Bool.and_eq_true] at h; exact h.2.2
end Go.Proofs.Ytbflhjjnemdecaa

namespace Go.Proofs.Ytbflhjjnemdecaa
set_option linter.unusedVariables false
set_option linter.unusedSimpArgs false
open Go.ChangeShapes Go.WideShapes Go.ChangeAt Go.RowKit Go.Sort
theorem kind_cases {k : Int} {n : Nat} (h : kidsN k = (n : Int)) : k = 1 ∨ k = 2 ∨ k = 3 ∨ k = 4 ∨ k = 5 ∨ k = 6 ∨ k = 7 ∨ k = 8 := by
 by_cases hk : k = 1 ∨ k = 2 ∨ k = 3 ∨ k = 4 ∨ k = 5 ∨ k = 6 ∨ k = 7 ∨ k = 8
 ·
  exact hk
 ·
  exfalso
  unfold kidsN at h
  rw [if_neg (by omega), if_neg (by omega), if_neg (by omega)] at h
  omega
theorem kidsN_none {k : Int} {ks : List Ex} (h : kidsN k = (ks.length : Int)) (hk : k = 1 ∨ k = 2 ∨ k = 3 ∨ k = 4) : ks = [] := by
 unfold kidsN at h; rw [if_pos hk] at h; exact List.eq_nil_of_length_eq_zero (by omega)
set_option maxHeartbeats 4000000 in
theorem l02Empty_all (tm am atom : Int) (ht : tm ≤ 2) (h0 : 0 ≤ atom) (h7 : atom ≤ 7) (N : Nat) : ∀ (e : Ex) (b o : Nat) (w : World), e.size ≤ N → ExAt w b o e → e.tree tm am = true →
    Calls Try.prog 135 #[.pointer (some ⟨b, o, none⟩), .int .i64 atom] w fun f w' => f = .returned (.bool (e.emp atom)) ∧ w = w' := by
  induction N using Nat.strongRecOn with
  | _ N ih =>
  intro e b o w hN hr htr
  obtain ⟨k, n, ks⟩ := e
  obtain ⟨g0, g1, s, c, g2, hr⟩ := hr
  simp only [Ex.kind, Ex.num, Ex.kids] at g0 g1 g2 hr
  obtain ⟨hk, hnum, hc, htl⟩ := tree_parts htr
  rcases kind_cases hk with rfl | rfl | rfl | rfl | rfl | rfl | rfl | rfl
  · have e : Ex.emp atom (.mk 1 n ks) = Ex.tru atom (.mk 1 n ks) := by simp [Ex.emp, empC, Ex.tru, truC]
    have hcc : Ex.cond (.mk 1 n ks) = true := by rw [Ex.cond_eq]; simp [Ex.kind, Ex.kids, condKind, kidsN_none hk (by omega), Ex.condL]
    rw [e]
    clear hk hnum htl e hc
    have hat : ExAt w b o (.mk 1 n ks) := ⟨g0, g1, s, c, g2, hr⟩
    go_enter Try.func135, Try.ntmps135
    go_wp2_with fail
    refine (l01True_all tm am atom ht h0 h7 _ _ _ _ _ (Nat.le_refl _) hat htr hcc).mono ?_
    rintro y w' ⟨rfl, rfl⟩
    go_wp2_with fail
    go_ret
    exact ⟨rfl, rfl⟩
  · have e : Ex.emp atom (.mk 2 n ks) = Ex.tru atom (.mk 2 n ks) := by simp [Ex.emp, empC, Ex.tru, truC]
    have hcc : Ex.cond (.mk 2 n ks) = true := by rw [Ex.cond_eq]; simp [Ex.kind, Ex.kids, condKind, kidsN_none hk (by omega), Ex.condL]
    rw [e]
    clear hk hnum htl e hc
    have hat : ExAt w b o (.mk 2 n ks) := ⟨g0, g1, s, c, g2, hr⟩
    go_enter Try.func135, Try.ntmps135
    go_wp2_with fail
    refine (l01True_all tm am atom ht h0 h7 _ _ _ _ _ (Nat.le_refl _) hat htr hcc).mono ?_
    rintro y w' ⟨rfl, rfl⟩
    go_wp2_with fail
    go_ret
    exact ⟨rfl, rfl⟩
  · have e : Ex.emp atom (.mk 3 n ks) = Ex.tru atom (.mk 3 n ks) := by simp [Ex.emp, empC, Ex.tru, truC]
    have hcc : Ex.cond (.mk 3 n ks) = true := by rw [Ex.cond_eq]; simp [Ex.kind, Ex.kids, condKind, kidsN_none hk (by omega), Ex.condL]
    rw [e]
    clear hk hnum htl e hc
    have hat : ExAt w b o (.mk 3 n ks) := ⟨g0, g1, s, c, g2, hr⟩
    go_enter Try.func135, Try.ntmps135
    go_wp2_with fail
    refine (l01True_all tm am atom ht h0 h7 _ _ _ _ _ (Nat.le_refl _) hat htr hcc).mono ?_
    rintro y w' ⟨rfl, rfl⟩
    go_wp2_with fail
    go_ret
    exact ⟨rfl, rfl⟩
  · have e : Ex.emp atom (.mk 4 n ks) = false := by simp [Ex.emp, empC]
    rw [e]
    clear hk hnum htl e hc
    go_enter Try.func135, Try.ntmps135
    go_wp2_with fail
    go_ret
    exact ⟨rfl, rfl⟩
  · have e : Ex.emp atom (.mk 5 n ks) = Ex.tru atom (.mk 5 n ks) := by simp [Ex.emp, empC, Ex.tru, truC]
    have hcc : Ex.cond (.mk 5 n ks) = true := by rw [Ex.cond_eq]; simp [Ex.kind, Ex.kids, condKind, hc rfl]
    rw [e]
    clear hk hnum htl e hc
    have hat : ExAt w b o (.mk 5 n ks) := ⟨g0, g1, s, c, g2, hr⟩
    go_enter Try.func135, Try.ntmps135
    go_wp2_with fail
    refine (l01True_all tm am atom ht h0 h7 _ _ _ _ _ (Nat.le_refl _) hat htr hcc).mono ?_
    rintro y w' ⟨rfl, rfl⟩
    go_wp2_with fail
    go_ret
    exact ⟨rfl, rfl⟩
  · obtain ⟨x, y, rfl⟩ := two_kids hk (by omega)
    have hx : [x, y][0]? = some x := rfl
    have hy : [x, y][1]? = some y := rfl
    obtain ⟨b', o', rfl⟩ := kid_some hr (by simp)
    have e : Ex.emp atom (.mk 6 n [x, y]) = or (Ex.emp atom x) (Ex.emp atom y) := by simp [Ex.emp, Ex.empL, empC]
    have hxt : Ex.tree tm am x = true := Ex.treeL_mem htl (by simp)
    have hyt : Ex.tree tm am y = true := Ex.treeL_mem htl (by simp)
    skip
    have hxs : x.size < N := by simp only [Ex.size, Ex.sizeL] at hN; omega
    have hys : y.size < N := by simp only [Ex.size, Ex.sizeL] at hN; omega
    have hax := kid_exAt hr hx
    have hay := kid_exAt hr hy
    simp only [Nat.zero_mul, Nat.one_mul, Nat.add_zero] at hax hay
    obtain ⟨-, hlen, hcap, -, -⟩ := kid_at hr
    unfold maxLen at hcap
    simp only [List.length_cons, List.length_nil] at hlen
    rw [e]
    clear hk hnum htl hc htr e
    go_enter Try.func135, Try.ntmps135
    go_wp2_with fail
    refine (ih _ hxs x _ _ _ (Nat.le_refl _) hax hxt ).mono ?_
    rintro z w' ⟨rfl, rfl⟩
    cases h1 : Ex.emp atom x
    all_goals
      go_wp2_with fail
      first
        | (refine (ih _ hys y _ _ _ (Nat.le_refl _) hay hyt ).mono ?_
           rintro z w' ⟨rfl, rfl⟩
           go_wp2_with fail
           go_ret
           exact ⟨ret_bool (by simp [h1]), rfl⟩)
        | (go_ret
           exact ⟨ret_bool (by simp [h1]), rfl⟩)
  · obtain ⟨x, y, rfl⟩ := two_kids hk (by omega)
    have hx : [x, y][0]? = some x := rfl
    have hy : [x, y][1]? = some y := rfl
    obtain ⟨b', o', rfl⟩ := kid_some hr (by simp)
    have e : Ex.emp atom (.mk 7 n [x, y]) = and (Ex.emp atom x) (Ex.emp atom y) := by simp [Ex.emp, Ex.empL, empC]
    have hxt : Ex.tree tm am x = true := Ex.treeL_mem htl (by simp)
    have hyt : Ex.tree tm am y = true := Ex.treeL_mem htl (by simp)
    skip
    have hxs : x.size < N := by simp only [Ex.size, Ex.sizeL] at hN; omega
    have hys : y.size < N := by simp only [Ex.size, Ex.sizeL] at hN; omega
    have hax := kid_exAt hr hx
    have hay := kid_exAt hr hy
    simp only [Nat.zero_mul, Nat.one_mul, Nat.add_zero] at hax hay
    obtain ⟨-, hlen, hcap, -, -⟩ := kid_at hr
    unfold maxLen at hcap
    simp only [List.length_cons, List.length_nil] at hlen
    rw [e]
    clear hk hnum htl hc htr e
    go_enter Try.func135, Try.ntmps135
    go_wp2_with fail
    refine (ih _ hxs x _ _ _ (Nat.le_refl _) hax hxt ).mono ?_
    rintro z w' ⟨rfl, rfl⟩
    cases h1 : Ex.emp atom x
    all_goals
      go_wp2_with fail
      first
        | (refine (ih _ hys y _ _ _ (Nat.le_refl _) hay hyt ).mono ?_
           rintro z w' ⟨rfl, rfl⟩
           go_wp2_with fail
           go_ret
           exact ⟨ret_bool (by simp [h1]), rfl⟩)
        | (go_ret
           exact ⟨ret_bool (by simp [h1]), rfl⟩)
  · have e : Ex.emp atom (.mk 8 n ks) = true := by simp [Ex.emp, empC]
    rw [e]
    clear hk hnum htl e hc
    go_enter Try.func135, Try.ntmps135
    go_wp2_with fail
    go_ret
    exact ⟨rfl, rfl⟩
end Go.Proofs.Ytbflhjjnemdecaa
